/- Radio: the minutes at which a ship can be in a cell. No condition. -/
import Derived.Test.YtbgfjemppjhmjaaGreatGO24gxO27g
import Derived.Test.YtbgfjemppjhmjaaGreatGO1gxW3
import Derived.Test.YtbgfjemppjhmjaaGreatGO7gxP23
import Derived.Test.YtbgfjemppjhmjaaGreatGK27xR0b
open Go Go.K
set_option maxRecDepth 1000000
set_option maxHeartbeats 4000000
set_option linter.unusedVariables false
set_option linter.unusedSimpArgs false
namespace Go.Proofs.YtbgfjemppjhmjaaGreat
open Go Go.K Go.Sort
noncomputable section
attribute [local irreducible] vF
abbrev spA(n:Int×Int):Value:=.agg ⟨spC n⟩
def w5(n:Int×Int):Prop:=-2000000000000<=n.1/\n.1<=2000000000000
theorem K8{a b:Int×Int}(ha:w5 a)(hb:w5 b)(H:Heap):ad prog 82 [spA a,spA b] H [] (Is (.int .i64 (a.1-b.1)) H):=by
 refine sT (v:=.int .i64 (a.1-b.1)) (css:=[]) (ids:=[]) (Eq.mpr (L2 _ a b) ?_) (hv:=rfl) (hi:=trivial) (ha:=rfl)
 unfold w5 at ha hb
 exact ⟨aG (by omega),rfl⟩
theorem DO:Enters prog 81:=oh Tryz.func81 (by kernel_rfl) (by kernel_rfl)
theorem DP:Enters prog 82:=oh Tryz.func82 (by kernel_rfl) (by kernel_rfl)
abbrev Bs:={n:Int×Int // w5 n}
theorem Mh:SWO (ltOf fun x y:Bs=>x.1.1-y.1.1):=by
 have h:∀x y:Bs,ltOf (fun x y:Bs=>x.1.1-y.1.1) x y=decide (x.1.1<y.1.1):=fun x y=>decide_eq_decide.2 (by dsimp only;omega)
 refine ⟨fun x =>?_,fun x y z h1 h2 =>?_,fun x y z h1 h2 =>?_⟩
 ·rw[h];exact decide_eq_false (by omega)
 ·rw[h]at h1 h2 ⊢;have:=av h1;have:=av h2;exact decide_eq_true (by omega)
 ·rw[h]at h1 h2 ⊢;have:=aA h1;have:=aA h2;exact decide_eq_false (by omega)
theorem Ci:∀(L:List (Int×Int)),(∀m∈L,w5 m)->∃L':List Bs,L'.map (·.1)=L
 | [],_=>⟨[],rfl⟩
 |m :: L,h=>by
  obtain ⟨L',e⟩:=Ci L fun x hx=>h x (List.mem_cons_of_mem _ hx)
  exact ⟨⟨m,h m (List.mem_cons_self ..)⟩ :: L',by rw[List.map_cons,e]⟩
theorem qm:∀(L':List Bs),L'.flatMap (fun x=>spC x.1)=(L'.map (·.1)).flatMap spC
 | [] =>rfl
 |x :: L'=>by rw[List.flatMap_cons,qm L'];rfl
theorem Iy{L0:List (Int×Int)}(hk:∀m∈L0,w5 m)(h0:0<L0.length)(hl:L0.length<4000000){H:Heap}{id:Nat}(ho:H[id]?=some (.cells true 2 (L0.flatMap spC))) :
  ad prog 81 [.slice (some ⟨id,0,some 1⟩) L0.length L0.length,.func (.func 82) #[] #[]] H [id] (fun v' H' => ∃z,qJ L0 z/\v' = .tuple #[]/\H'=H.set id (.cells true 2 (z.flatMap spC))):=by
 obtain ⟨L',e⟩:=Ci L0 hk
 have hl':L'.length=L0.length:=by rw[<- e,List.length_map]
 rw[<- e,<- qm]at ho
 have key:=pR (P:=prog) KJ 2 (by omega) Tryz.isAgg47 Tryz.sizeOf47 (fun x:Bs=>spC x.1) (fun x=>rfl) (fun x y=>x.1.1-y.1.1) Mh 82
  (fun Y x v v' hv hr=>by
   simp only[List.mem_cons,List.not_mem_nil,or_false]at hv
   rcases hv with rfl|rfl <;> cases hr <;> rfl)
  DP DO (fun x y n=>K8 x.2 y.2 _) (.inr rfl) (L0:=L') (by omega) (by omega) ho (Q:=fun v' H' => ∃z,qJ L0 z/\v' = .tuple #[]/\H'=H.set id (.cells true 2 (z.flatMap spC)))
  (fun L1 hp hs=>⟨L1.map (·.1),⟨by rw[<- e];exact (hp.map _).symm,by
   rw[List.pairwise_map]
   refine hs.imp fun {x y} h =>?_
   have h2:¬ y.1.1-x.1.1<0:=aA h
   omega⟩,rfl,by rw[qm]⟩)
 rw[hl']at key
 exact key
theorem vv{ss:List (Int×Int)}{x:Nat}(hx:x<ss.length):lsT ss (x+1)=mnI (lsT ss x) (ss.getD x ae).1:=by
 unfold lsT
 rw[List.take_succ_eq_append_getElem hx,List.foldl_append,List.getD_eq_getElem?_getD,List.getElem?_eq_getElem hx];rfl
theorem vq{ss:List (Int×Int)}{x:Nat}(hx:x<ss.length):msT ss (x+1)=mxI (msT ss x) (ss.getD x ae).1:=by
 unfold msT
 rw[List.take_succ_eq_append_getElem hx,List.foldl_append,List.getD_eq_getElem?_getD,List.getElem?_eq_getElem hx];rfl
theorem He{ss:List (Int×Int)}(h:∀s∈ss,0<=s.1/\s.1<=100000):∀x,x<=ss.length->(0<=lsT ss x/\lsT ss x<=100000)/\(0<=msT ss x/\msT ss x<=100000)/\∀k,k<x->lsT ss x<=(ss.getD k ae).1/\(ss.getD k ae).1<=msT ss x
 |0,_=>⟨⟨(by decide:(0:Int)<=100000),Int.le_refl _⟩,⟨Int.le_refl 0,(by decide:(0:Int)<=100000)⟩,fun k hk=>by omega⟩
 |x+1,hx=>by
  obtain ⟨h1,h2,h3⟩:=He h x (by omega)
  have h4:=h _ (b8 (d:=ae) (show x<ss.length by omega))
  rw[vv (by omega),vq (by omega)]
  have e1:mnI (lsT ss x) (ss.getD x ae).1<=lsT ss x/\mnI (lsT ss x) (ss.getD x ae).1<=(ss.getD x ae).1/\0<=mnI (lsT ss x) (ss.getD x ae).1:=by unfold mnI;split <;> omega
  have e2:msT ss x<=mxI (msT ss x) (ss.getD x ae).1/\(ss.getD x ae).1<=mxI (msT ss x) (ss.getD x ae).1/\mxI (msT ss x) (ss.getD x ae).1<=100000:=by unfold mxI;split <;> omega
  refine ⟨by omega,by omega,fun k hk =>?_⟩
  by_cases hkx:k=x
  ·rw[hkx];omega
  ·have:=h3 k (by omega);omega
theorem AQ(p:Int)(ss:List (Int×Int))(rr:List (List Int))(c:Int)(x:Nat):jT p ss rr c (x+1)=jT p ss rr c x ++ [((ss.getD x ae).1-stC rr x c*p+1,(ss.getD x ae).1+stC rr x c*p-1)]:=gQ ..
theorem vi(p:Int)(ss:List (Int×Int))(rr:List (List Int))(c:Int)(x:Nat):(jT p ss rr c x).length=x:=dC ..
theorem Gm{rr:List (List Int)}{c:Int}{x:Nat}(h:mj rr c x=false)(h1:stC rr x c≠bb):mj rr c (x+1)=false:=by
 unfold mj at h ⊢
 rw[List.range_succ,List.any_append,h,List.any_cons,decide_eq_false h1];rfl
theorem DM{rr:List (List Int)}{c:Int}{x n:Nat}(hx:x<n)(h1:stC rr x c=bb):mj rr c n=true:=by
 unfold mj
 rw[List.any_eq_true]
 exact ⟨x,List.mem_range.2 hx,decide_eq_true h1⟩
theorem rH(least most:Int)(S:List (Int×Int)):∀k,k<=S.length->(jw least most S k).2.length<=k
 |0,_=>Nat.le_refl _
 |k+1,hk=>by
  have ih:=rH least most S k (by omega)
  rw[lu _ _ _ (by omega)]
  unfold scan
  split
  ·omega
  ·dsimp only
   split
   ·rw[ao,aV];omega
   ·omega
theorem Ho{e p:Int}(he:0<=e/\e<=bb)(hp:1<=p/\p<=1000):0<=e*p/\e*p<=1073741824000:=by
 have h1:e*p<=1073741824*1000:=Int.mul_le_mul he.2 hp.2 (by omega) (by omega)
 exact ⟨Int.mul_nonneg he.1 (by omega),h1⟩
theorem Fc{w h:Int}{a:List Bool}{p:Int}{ss:List (Int×Int)}{rr:List (List Int)}{c:Int}(t:ej w h a p ss)(rk:dZ a ss rr)(hc:0<=c/\c<(a.length:Int)):∀y∈jT p ss rr c ss.length,(-1100000000000<=y.1/\y.1<=1100000000000)/\(-1100000000000<=y.2/\y.2<=1100000000000):=by
 intro y hy
 obtain ⟨k,hk,rfl⟩:=List.mem_map.1 hy
 have hk:=List.mem_range.1 hk
 have h1:=((rk.row k hk).2 (Int.toNat c) (by omega))
 have h2:=Ho (show 0<=stC rr k c/\stC rr k c<=bb from h1) t.tn
 have h3:=(t.bd hk).1
 dsimp only
 omega
theorem FZ{o1 o2:Bool}{z1 z2:Nat}{w h:Int}{a:List Bool}{p:Int}{ss:List (Int×Int)}{c:Int}(t:ej w h a p ss)(e0:aB w h a p ss=0)(pX:bJ a c=true)(hne:0<ss.length)(hcf:a8 p ss (aH w h a ss) ss.length=[]):yf o1 o2 z1 z2 w h a p ss c:=by
 have hs:=t.few
 have hn:=t.bas.n1
 have hp1:=t.bas.p1
 have ha:a.length<=1024:=by omega
 have rk:=jR t
 have hc:=(ko pX).1
 obtain ⟨rr,hrr⟩:∃rr,aC w h a ss ss.length=rr:=⟨_,rfl⟩
 have MH:=hcf
 have rk':=rk
 rw[show aH w h a ss=rr from hrr]at MH rk'
 have hlr:=rk'.len
 have hrow:=fun k hk=>rk'.row k hk
 have hlm:=He (ss:=ss) (fun s hm=>(t.seen s hm).1)
 have hNb:=Fc t rk' hc
 delta yf kef ke3 ke8 ked keh kei ke9 kee kea ke7 kej ke4 ke5 kek ke1 keg keb ke6 kec ke2
 refine ⟨⟨rfl,rfl,trivial⟩,fun H' hH h=>(by have:=j7 (by omega) (by omega) e0 (by decide) h.1 h.2.1;rw[hH]at this;exact this),⟨rfl,trivial⟩,fun H' _ h=>A9 _ _ _ _ (by omega) h.1,fun k=>absurd pX (by rw[ff k];exact Bool.noConfusion),fun _=>⟨⟨rfl,rfl,rfl,rfl,trivial⟩,fun H' hH h=>hH ▸ v8 t rk ⟨by decide,h.2.1,h.2.2.1,h.1,h.2.2.2.1⟩,fun k3 =>?_,fun k3=>⟨fun k4=>absurd (eq_of_beq k4) (by omega),fun _ =>?_⟩⟩⟩
 ·have:=av k3
  rw[show (aC w h a ss ss.length)=aH w h a ss from rfl,hcf]at this
  exact absurd this (by simp)
 rw[hrr]
 refine ⟨rfl,⟨Nat.zero_le _,rfl⟩,?_,fun _=>rfl,fun x hx=>⟨fun k =>?_,fun k =>?_⟩⟩
 ·repeat' first|exact ah _ _ _ (.inl rfl)|exact rfl|exact aa _|exact ac|exact ah _ _ _ (.inl rfl)|apply And.intro
 ·have h1:x<ss.length:=by have:=av k;omega
  obtain ⟨r1,r2⟩:=hrow x h1
  have hb:=r2 (Int.toNat c) (by omega)
  have ht:=(t.bd h1).1
  obtain ⟨b1,b2,_⟩:=hlm x (by omega)
  have hNl:=vi p ss rr c x
  refine ⟨⟨by omega,by omega⟩,fN h1 (by omega),⟨by omega,by omega⟩,pU (by omega) (by omega),⟨hc.1,by rw[r1];exact hc.2⟩,cL (by omega) (by omega),fun q=>⟨rfl,?_⟩,fun q =>?_⟩
  ·have Jt:mj rr c ss.length=true:=DM h1 (eq_of_beq q)
   have e:tmL p ss rr c=[]:=by unfold tmL;rw[if_pos Jt]
   rw[e]
   exact ⟨ap (ak (ah _ _ _ (.inl rfl)) (ak (aa _) ac)),trivial,trivial⟩
  ·have hq:stC rr x c≠bb:=fun e=>by
    have e2:(rr.getD x []).getD (Int.toNat c) 0=1073741824:=e
    rw[e2]at q;cases q
   have hsucc:=AQ p ss rr c x
   unfold stC at hsucc
   obtain ⟨e,he⟩:∃e,(rr.getD x []).getD (Int.toNat c) 0=e:=⟨_,rfl⟩
   rw[he]at hb hsucc ⊢
   have hep:=Ho hb t.tn
   obtain ⟨ep,MC⟩:∃ep,e*p=ep:=⟨_,rfl⟩
   rw[MC]at hep hsucc ⊢
   refine ⟨aG (by omega),aG (by omega),aG (by omega),aG (by omega),aG (by omega),aG (by omega),⟨by omega,by decide,⟨Nat.le_refl _,by rw[aP cd];omega⟩,⟨Nat.le_refl _,by simp⟩,rfl⟩,rfl,aG (by omega),x+1,⟨by omega,Gm hx.2 hq⟩,by omega,rfl,?_⟩
   repeat' first|exact dd hsucc|exact de cd hsucc rfl|exact spB _ _|exact congrArg (Value.int .i64) (vv h1).symm|exact congrArg (Value.int .i64) (vq h1).symm|exact rfl|exact aa _|exact ac|exact ah _ _ _ (.inl rfl)|apply And.intro
 ·have h1:x=ss.length:=by have:=aA k;omega
  have Jt:=hx.2
  subst h1
  have hNl:=vi p ss rr c ss.length
  obtain ⟨b1,b2,b3⟩:=hlm ss.length (Nat.le_refl _)
  have My:lsT ss ss.length<=msT ss ss.length:=by have:=b3 0 hne;omega
  refine ⟨⟨rfl,trivial⟩,fun H' _ h=>Iy (fun m hm =>?_) (by omega) (by omega) h.1,fun M hM =>?_⟩
  ·have:=hNb m hm
   unfold w5;omega
  have hfin:=BZ My hM
  have htm:tmL p ss rr c=runs (fun m => !kM (jT p ss rr c ss.length) m) (lsT ss ss.length) (Int.toNat (msT ss ss.length-lsT ss ss.length+1)):=by
   unfold tmL;rw[if_neg (by rw[Jt];exact Bool.noConfusion)]
  rw[<- htm]at hfin
  have hMl:=hM.1.length_eq
  have hMb:∀y∈M,(-1100000000000<=y.1/\y.1<=1100000000000)/\(-1100000000000<=y.2/\y.2<=1100000000000):=fun y hy=>hNb y (hM.1.mem_iff.2 hy)
  clear hNb htm hM b3 hlm hx k
  generalize MZ:msT ss ss.length=most at *
  generalize MA:lsT ss ss.length=least at *
  generalize hN:jT p ss rr c ss.length=N at *
  refine ⟨aG (by omega),aG (by omega),⟨by omega,by decide,⟨Nat.le_refl _,by rw[aP cd];omega⟩,⟨Nat.le_refl _,by simp⟩,rfl⟩,rfl,rfl,Nat.zero_le _,?_,fun _=>rfl,fun y hy=>⟨fun ky =>?_,fun ky =>?_⟩⟩
  ·rw[hMl]
   repeat' first|exact ah _ _ _ (.inl rfl)|exact iEq rfl|exact de cd rfl rfl|exact spB _ _|exact rfl|exact aa _|exact ac|exact ah _ _ _ (.inl rfl)|apply And.intro
  ·have hSl:(M ++ [(most+1,most+1)]).length=N.length+1:=by rw[ao,aV,hMl]
   have hSb:∀z∈M ++ [(most+1,most+1)],(-1100000000000<=z.1/\z.1<=1100000000000)/\(-1100000000000<=z.2/\z.2<=1100000000000):=fun z hz=>by
    rcases List.mem_append.1 hz with hz|hz
    ·exact hMb z hz
    ·rw[List.mem_singleton.1 hz];dsimp only;omega
   have hyl:y<(M ++ [(most+1,most+1)]).length:=by have:=av ky;omega
   clear hMb hfin
   generalize hS:M ++ [(most+1,most+1)]=S at *
   have hst:=lu least most S hyl
   have hsl:=rH least most S y (by omega)
   have hxb:=hSb _ (b8 (d:=ae) hyl)
   refine ⟨⟨by omega,by omega⟩,fN hyl (by omega),?_⟩
   unfold scan at hst
   generalize hx:S.getD y ae=x at *
   generalize hsc:jw least most S y=st at *
   refine ⟨fun c0=>⟨aG (by omega),y+1,by omega,by omega,rfl,?_⟩,fun c0=>⟨fun c1=>⟨fun c2 =>?_,fun c2 =>?_⟩,fun c1 =>?_⟩⟩
   ·have h0:x.1 > x.2:=av c0
    rw[if_pos h0]at hst
    rw[hst]
    repeat' first|exact spB _ _|exact rfl|exact aa _|exact ac|exact ah _ _ _ (.inl rfl)|apply And.intro
   ·have h0:¬ x.1 > x.2:=aA c0
    have h1:x.1 > st.1/\st.1<=most:=⟨av c1,av c2⟩
    rw[if_neg h0,if_pos h1]at hst
    refine ⟨aG (by omega),⟨by omega,by decide,⟨Nat.le_refl _,by rw[aP cd];omega⟩,⟨Nat.le_refl _,by simp⟩,rfl⟩,rfl,aG (by omega),mxI st.1 (x.2+1),rfl,aG (by omega),y+1,by omega,by omega,rfl,?_⟩
    rw[hst]
    repeat' first|exact dd rfl|exact de cd rfl rfl|exact spB _ _|exact rfl|exact aa _|exact ac|exact ah _ _ _ (.inl rfl)|apply And.intro
   ·have h0:¬ x.1 > x.2:=aA c0
    have h1:¬ (x.1 > st.1/\st.1<=most):=fun q=>absurd (aA c2) (by omega)
    rw[if_neg h0,if_neg h1]at hst
    refine ⟨aG (by omega),mxI st.1 (x.2+1),rfl,aG (by omega),y+1,by omega,by omega,rfl,?_⟩
    rw[hst]
    repeat' first|exact spB _ _|exact rfl|exact aa _|exact ac|exact ah _ _ _ (.inl rfl)|apply And.intro
   ·have h0:¬ x.1 > x.2:=aA c0
    have h1:¬ (x.1 > st.1/\st.1<=most):=fun q=>absurd (aA c1) (by omega)
    rw[if_neg h0,if_neg h1]at hst
    refine ⟨aG (by omega),mxI st.1 (x.2+1),rfl,aG (by omega),y+1,by omega,by omega,rfl,?_⟩
    rw[hst]
    repeat' first|exact spB _ _|exact rfl|exact aa _|exact ac|exact ah _ _ _ (.inl rfl)|apply And.intro
  ·have h2:y=(M ++ [(most+1,most+1)]).length:=by
    have:=aA ky
    rw[ao,aV]at *
    omega
   subst h2
   rw[hfin]
   repeat' first|exact spB _ _|exact rfl|exact aa _|exact ac|exact ah _ _ _ (.inl rfl)|apply And.intro
theorem Iw{w h:Int}{a:List Bool}{p:Int}{ss:List (Int×Int)}{c:Int}(e0:aB w h a p ss=0)(pX:bJ a c=true)(hne0:0<ss.length)(hcf:a8 p ss (aH w h a ss) ss.length=[]){H:Heap}{i j:Nat}(hne:i≠j){o1 o2:Bool}{z1 z2:Nat}(hi:H[i]?=some (.cells o1 z1 (a.flatMap af)))(hj:H[j]?=some (.cells o2 z2 (ss.flatMap spC))) :
  ad prog 19 [db w h a p ss i j,.int .i64 c] H [] (Is (.tuple #[.slice (some ⟨H.length,0,some 1⟩) (tmL p ss (aH w h a ss) c).length (tmL p ss (aH w h a ss) c).length,.int .i64 0]) (H ++ [.cells true 2 ((tmL p ss (aH w h a ss) c).flatMap spC)])) :=
 bR (fun j => .tuple #[.slice (some ⟨j,0,some 1⟩) (tmL p ss (aH w h a ss) c).length (tmL p ss (aH w h a ss) c).length,.int .i64 0]) (new:=[.cells true 2 ((tmL p ss (aH w h a ss) c).flatMap spC)]) (Eq.mpr (J0 o1 o2 z1 z2 w h a p ss c) (FZ (gW e0) e0 pX hne0 hcf)) (cz ..) rfl ⟨⟨_,_,rfl,ct _ _⟩,trivial⟩ (ids:=[i,j]) (by simp[hne]) (bC hi hj) (fun j=>rfl) rfl
end
end Go.Proofs.YtbgfjemppjhmjaaGreat
namespace Go.Proofs.YtbgfjemppjhmjaaGreat
noncomputable section
attribute [local irreducible] vF
variable {w h:Int} {a:List Bool} {p:Int} {ss:List (Int×Int)} {o1 o2:Bool} {z1 z2:Nat} {H:Heap}
def sdx(d:Int):Int:=List.getD [1,0,-1,0] (Int.toNat d) 0
def sdy(d:Int):Int:=List.getD [0,1,0,-1] (Int.toNat d) 0
structure Sl where
 now:Int
 q:Int
 at_:List Int
def slU(L:List Int)(w:Int)(s:Sl):Int:=Int.tmod s.now w+sdx (dN L (s.q+1) 4)
def slV(L:List Int)(w:Int)(s:Sl):Int:=Int.tdiv s.now w+sdy (dN L (s.q+1) 4)
def Mj(L:List Int)(w h:Int)(a:List Bool)(s:Sl):Bool:=decide (0<=slU L w s)&&(decide (slU L w s<w)&&(decide (0<=slV L w s)&&(decide (slV L w s<h) && !(List.getD a (Int.toNat (slV L w s*w+slU L w s)) false))))
def KL(s:Sl)(x:Nat):List Int:=s.at_++List.replicate x (-1)
def HS(L:List Int)(w h:Int)(a:List Bool)(p:Int)(s:Sl):Sl :=
 if dN L s.q 3 > 0 then (if Mj L w h a s=true then ⟨slV L w s*w+slU L w s,s.q+1+1,KL s (Int.toNat (p-1)) ++ [slV L w s*w+slU L w s]⟩ else ⟨s.now,s.q+1+1,s.at_ ++ [s.now]⟩)
 else ⟨s.now,s.q+1,s.at_ ++ [s.now]⟩
def BW(L:List Int)(w h:Int)(a:List Bool)(p:Int):Nat->Sl->Sl
 |0,s=>s
 |m+1,s=>if s.at_.length<=120 then BW L w h a p m (HS L w h a p s) else s
def slF(L:List Int)(w h:Int)(a:List Bool)(p q:Int):Sl:=BW L w h a p 120 ⟨0,q,[0]⟩
structure SlI(L:List Int)(w h:Int)(a:List Bool)(p q:Int)(s:Sl):Prop where
 now:0<=s.now/\s.now<(a.length:Int)
 cnt:0<=s.q/\s.q<=q+2*(s.at_.length:Int)
 len:1<=s.at_.length/\s.at_.length<=160
 run:∃m,121<=m+s.at_.length/\BW L w h a p m s=slF L w h a p q
abbrev khm(L:List Int):Prop:=wkR (slQ 0 2 L.length)/\True
abbrev khh:Prop:=(True)/\(True)/\(True)
abbrev khk:Prop:=∀J:Nat,true=true
abbrev khg(J:Nat)(L:List Int):=decide (((J:Int):Int)<((L.length:Nat):Int))
abbrev kh3(qn0:Nat)(qd0:List Int):Prop:=(0:Int)<=(qn0:Int)/\((qn0:Int):Int)<((qd0.length:Nat):Int)
abbrev kh2(qd0:List Int)(qn0:Nat):Prop:=(qd0.flatMap ai)[(0+Int.toNat (qn0:Int)*1)]?=some (nI (qd0.getD qn0 0))
abbrev khf(J:Nat):Value:=nI (IntKind.wrap .i64 ((J:Int)+1))
abbrev kho:Value:=.bool false
abbrev kh4(qn0 qn1:Nat):Hint:=.fork (.auto) (.go 1 (.slot qn0 (nI ((qn1:Int)+1)) (.go 0 (.again []))))
def Hy(sp:Value)(L M:List Int):Prop :=
 ((((((L.length:Nat):Int):Int) != ((M.length:Nat):Int))=true->kho=sp)/\(((((L.length:Nat):Int):Int) != ((M.length:Nat):Int))=false->(true=true/\(0<=List.length L/\List.take 0 L=List.take 0 M)/\(true=true/\((nI 0:Value)=nI ((0:Nat):Int)/\wkR (slQ 1 2 M.length)/\khm L)/\khh)/\khk/\∀J:Nat,(J<=List.length L/\List.take J L=List.take J M)->(((khg J L)=true->((kh3 J L)/\(kh2 L J)/\(kh3 J M)/\(kh2 M J)/\((((L.getD J 0):Int) != (M.getD J 0))=true->kho=sp)/\((((L.getD J 0):Int) != (M.getD J 0))=false->((khf J)=nI ((J:Int)+1)/\∃aD:Nat,(aD<=List.length L/\List.take aD L=List.take aD M)/\(List.length L-aD)<(List.length L-J)/\true=true/\((nI ((J:Int)+1):Value)=nI (aD:Int)/\wkR (slQ 1 2 M.length)/\khm L)/\khh))))/\((khg J L)=false->(.bool true:Value)=sp)))))
theorem LE(sp:Value)(L M:List Int):vF prog msk (dm 0) 100000 true 40 true 22 [slQ 0 2 L.length,slQ 1 2 M.length] (bA 0 [L.flatMap ai,M.flatMap ai]) (some [])
 (.go 5 (.fork (.auto) (.go 0 (.inv 3 (Nat) (0) [] [] (fun J=>[(5,nI (J:Int)),(1,slQ 1 2 M.length),(0,slQ 0 2 L.length)]) (fun J=>[]) (fun J=>[]) (fun J=>[]) (fun J=>(J<=List.length L/\List.take J L=List.take J M)) (fun J=>(List.length L-J)) (fun J => .go 3 (.fork (.go 1 (.need (.val (nI (L.getD J 0)) (.go 1 (.need (.val (nI (M.getD J 0)) (.go 0 (kh4 16 J)))))))) (.auto)))))))
 (fun v _ _=>v=sp)=Hy sp L M:=by kernel_rfl
theorem sW{L M:List Int}{x:Nat}(h1:x<L.length)(h2:x<M.length)(h:L.take x=M.take x)(e:L.getD x 0=M.getD x 0):L.take (x+1)=M.take (x+1):=by
 rw[List.take_succ_eq_append_getElem h1,List.take_succ_eq_append_getElem h2,h]
 simp only[List.getD_eq_getElem?_getD,List.getElem?_eq_getElem h1,List.getElem?_eq_getElem h2,Option.getD_some]at e
 rw[e]
theorem Dg(L M:List Int)(hl:L.length<=1000000)(hm:M.length<=1000000){i j:Nat}(hi:H[i]?=some (.cells o1 z1 (L.flatMap ai)))(hj:H[j]?=some (.cells o2 z2 (M.flatMap ai))) :
  ad prog 22 [.slice (some ⟨i,0,some 2⟩) L.length L.length,.slice (some ⟨j,0,some 2⟩) M.length M.length] H [] (Is (.bool (decide (L=M))) H):=by
 refine m6 (css:=[L.flatMap ai,M.flatMap ai]) (v:=.bool (decide (L=M))) (ids:=[i,j]) (Eq.mpr (LE _ L M) ?_) ⟨am _ _,am _ _,trivial⟩ rfl ⟨⟨_,_,hi⟩,⟨_,_,hj⟩,trivial⟩ rfl
 delta Hy kho khm khh khk khg kh3 kh2 khf
 refine ⟨fun k =>?_,fun k =>?_⟩
 ·rw[decide_eq_false (fun e=>by rw[e]at k;simp at k)]
 have hlm:L.length=M.length:=by have:=JE k;omega
 refine ⟨rfl,⟨Nat.zero_le _,rfl⟩,?_,fun _=>rfl,fun x hx=>⟨fun k =>?_,fun k =>?_⟩⟩
 ·repeat' first|exact rfl|exact aa _|refine aK ?_|exact ac|exact ah _ _ _ (.inl rfl)|apply And.intro
 ·have h1:x<L.length:=by have:=av k;omega
  refine ⟨⟨by omega,by omega⟩,cL h1 (by omega),⟨by omega,by omega⟩,cL (by omega) (by omega),fun b =>?_,fun b =>?_⟩
  ·rw[decide_eq_false (fun e=>by rw[e]at b;simp at b)]
  ·refine ⟨aG (by omega),x+1,⟨by omega,sW h1 (by omega) hx.2 (JE b)⟩,by omega,rfl,?_⟩
   repeat' first|exact rfl|exact aa _|refine aK ?_|exact ac|exact ah _ _ _ (.inl rfl)|apply And.intro
 ·have h1:x=L.length:=by have:=aA k;omega
  have:=hx.2
  rw[h1,List.take_length,hlm,List.take_length]at this
  rw[decide_eq_true this]
theorem vm{w u v:Int}(hw:1<=w)(hu:0<=u/\u<=w-1)(hv:0<=v):Int.tmod (v*w+u) w=u/\Int.tdiv (v*w+u) w=v:=by
 have h0:0<=v*w:=Int.mul_nonneg hv (by omega)
 rw[Int.tmod_eq_emod_of_nonneg (by omega),Int.tdiv_eq_ediv_of_nonneg (by omega)]
 have e:v*w+u=u+w*v:=by rw[Int.mul_comm,Int.add_comm]
 rw[e,Int.add_mul_emod_self_left,Int.add_mul_ediv_left _ _ (by omega),Int.emod_eq_of_lt (by omega) (by omega),Int.ediv_eq_zero_of_lt (by omega) (by omega)]
 omega
theorem Gy{j:Nat}(hj:j<4):bdx (3-j) = - bdx j/\bdy (3-j) = - bdy j:=by
 match j,hj with
 |0,_=>decide
 |1,_=>decide
 |2,_=>decide
 |3,_=>decide
theorem Fg{i:Int}{j:Nat}(b:cM w h a.length)(hi:0<=i/\i<(a.length:Int))(hs:a.getD (Int.toNat i) false=false)(hj:j<4)(k:iS w h a i j):iS w h a (nbT w i j) (3-j)/\nbT w (nbT w i j) (3-j)=i:=by
 obtain ⟨d1,d2,d3⟩:=Bk b hi
 have hw:=b.w1
 obtain ⟨⟨hu,hv⟩,hl⟩:=k
 obtain ⟨p1,p2⟩:=vm (w:=w) hw.1 hu hv.1
 obtain ⟨q1,q2⟩:=Gy hj
 have eT:nbV w i j*w+nbU w i j=nbT w i j:=rfl
 rw[eT]at p1 p2
 have eU:nbU w (nbT w i j) (3-j)=Int.tmod i w:=by
  show Int.tmod (nbT w i j) w+bdx (3-j)=_
  rw[p1,q1];show Int.tmod i w+bdx j + -bdx j=_;omega
 have eV:nbV w (nbT w i j) (3-j)=Int.tdiv i w:=by
  show Int.tdiv (nbT w i j) w+bdy (3-j)=_
  rw[p2,q2];show Int.tdiv i w+bdy j + -bdy j=_;omega
 have e:nbT w (nbT w i j) (3-j)=i:=by
  show nbV w (nbT w i j) (3-j)*w+nbU w (nbT w i j) (3-j)=i
  rw[eU,eV];exact d3
 exact ⟨⟨⟨by rw[eU];omega,by rw[eV];omega⟩,by rw[e];exact hs⟩,e⟩
theorem Bu{i:Int}{j:Nat}(hj:j<4)(k:iS w h a i j){n:Nat}{c:Int}(q:Wy w h a (nbT w i j) n c):Wy w h a i (n+1) c:=by
 induction q with
 |base=>exact .step j hj .base k
 |step l hl _ hb ih=>exact .step l hl ih hb
theorem Bt{f c:Int}{n:Nat}(hs:a.getD (Int.toNat f) false=false)(q:Wy w h a f n c):a.getD (Int.toNat c) false=false:=by
 cases q with
 |base=>exact hs
 |step l hl _ hb=>exact hb.2
theorem HC{f c:Int}{n:Nat}(b:cM w h a.length)(hf:0<=f/\f<(a.length:Int))(hs:a.getD (Int.toNat f) false=false)(q:Wy w h a f n c):Wy w h a c n f:=by
 induction q with
 |base=>exact .base
 | @step n i j hj hw hb ih =>
  obtain ⟨h1,h2⟩:=Fg b (yD b hf hw) (Bt hs hw) hj hb
  refine Bu (j:=3-j) (by omega) h1 ?_
  rw[h2];exact ih
theorem qq{f c:Int}{n:Nat}(q:Wy w h a f n c):bk w h a f c<=n:=by
 obtain ⟨m,h1,h2⟩:=wK q
 rw[jp h2];omega
theorem HD{f g c:Int}{m n:Nat}(p:Wy w h a f m g)(q:Wy w h a g n c):Wy w h a f (m+n) c:=by
 induction q with
 |base=>exact p
 |step l hl _ hb ih=>exact .step l hl ih hb
structure M1(w h:Int)(a:List Bool)(p:Int)(s:Sl):Prop where
 len:1<=s.at_.length
 last:s.at_.getD (s.at_.length-1) 0=s.now
 cell:0<=s.now/\s.now<(a.length:Int)
 cells:∀m,m<s.at_.length->s.at_.getD m 0 = -1∨((0<=s.at_.getD m 0/\s.at_.getD m 0<(a.length:Int))/\a.getD (Int.toNat (s.at_.getD m 0)) false=false)
 way:∀m k,m<=k->k<s.at_.length->0<=s.at_.getD m 0->0<=s.at_.getD k 0->∃n:Nat,Wy w h a (s.at_.getD m 0) n (s.at_.getD k 0)/\(n:Int)*p<=(k:Int)-(m:Int)
def iK(w h:Int)(a:List Bool)(p:Int)(s:Int×Int)(c m:Int):Bool:=decide (bk w h a s.2 c<bb)&&decide (bk w h a s.2 c*p<=mxI (m-s.1) (s.1-m))
theorem oq{x:Nat}{c m:Int}(hx:x<ss.length)(hc:0<=c/\c<(a.length:Int)):fG p ss (aH w h a ss) x c m=iK w h a p (ss.getD x ae) c m:=by
 unfold fG iK
 have e:((aH w h a ss).getD x []).getD (Int.toNat c) 0=bk w h a (ss.getD x ae).2 c:=by
  rw[show (aH w h a ss).getD x []=cw w h a (ss.getD x ae).2 from dD hx]
  rw[show (cw w h a (ss.getD x ae).2).getD (Int.toNat c) 0=bk w h a (ss.getD x ae).2 ((Int.toNat c:Nat):Int) from dD (by omega)]
  rw[show ((Int.toNat c:Nat):Int)=c from by omega]
 rw[e]
theorem JJ{c m:Int}(hc:0<=c/\c<(a.length:Int)):cH p ss (aH w h a ss) c m ss.length=ss.all fun s=>iK w h a p s c m:=by
 unfold cH
 rw[Bool.eq_iff_iff,List.all_eq_true,List.all_eq_true]
 constructor
 ·intro h s hs
  obtain ⟨x,hx,rfl⟩:=List.mem_iff_getElem.1 hs
  have:=h x (List.mem_range.2 hx)
  rw[oq hx hc]at this
  rw[<- this];congr 1
  rw[List.getD_eq_getElem?_getD,List.getElem?_eq_getElem hx];rfl
 ·intro h x hx
  have hx:=List.mem_range.1 hx
  rw[oq hx hc]
  exact h _ (b8 hx)
def stI(l:List Int)(x:Int)(j:Nat):List Int:=l.take j++x :: l.drop j
def gn(k:Int->Int)(l:List Int)(x:Int):Nat->Nat
 |0=>0
 |j+1=>if k x<k (l.getD j 0) then gn k l x j else j+1
def isr(k:Int->Int)(l:List Int):Nat->List Int
 |0=>[]
 |i+1=>stI (isr k l i) (l.getD i 0) (gn k (isr k l i) (l.getD i 0) i)
theorem tU(k:Int->Int)(l:List Int)(x:Int):∀j,gn k l x j<=j
 |0=>Nat.le_refl _
 |j+1=>by
  unfold gn
  split
  ·have:=tU k l x j;omega
  ·omega
theorem yL{l:List Int}{x:Int}{j:Nat}(h:j<=l.length):(stI l x j).length=l.length+1:=by
 unfold stI
 rw[ao,List.length_cons,List.length_take,List.length_drop];omega
theorem BN(l:List Int)(x:Int)(j:Nat):(stI l x j).Perm (x :: l):=by
 unfold stI
 have:=List.perm_middle (a:=x) (l₁:=l.take j) (l₂:=l.drop j)
 rwa [List.take_append_drop]at this
theorem fV(k:Int->Int)(l:List Int):∀i,(isr k l i).length=i
 |0=>rfl
 |i+1=>by
  have ih:=fV k l i
  unfold isr
  rw[yL (by have:=tU k (isr k l i) (l.getD i 0) i;omega),ih]
theorem pT(k:Int->Int)(l:List Int):∀i,i<=l.length->(isr k l i).Perm (l.take i)
 |0,_ => .refl _
 |i+1,h=>by
  have ih:=pT k l i (by omega)
  unfold isr
  rw[List.take_succ_eq_append_getElem (by omega)]
  have e:l.getD i 0=l[i]:=by rw[List.getD_eq_getElem?_getD,List.getElem?_eq_getElem (by omega)];rfl
  rw[e]
  exact (BN _ _ _).trans ((List.Perm.cons _ ih).trans (List.perm_append_singleton _ _).symm)
theorem zM(k:Int->Int)(l:List Int)(x:Int):∀j,j<=l.length->∀i,gn k l x j<=i->i<j->k x<k (l.getD i 0)
 |0,_,i,h1,h2=>by omega
 |j+1,hj,i,h1,h2=>by
  unfold gn at h1
  split at h1
  ·by_cases e:i=j
   ·rw[e];assumption
   ·exact zM k l x j (by omega) i h1 (by omega)
  ·omega
theorem zN(k:Int->Int)(l:List Int)(x:Int):∀j,j<=l.length->0<gn k l x j->¬ k x<k (l.getD (gn k l x j-1) 0)
 |0,_,h=>by unfold gn at h;omega
 |j+1,hj,h=>by
  by_cases q:k x<k (l.getD j 0)
  ·have e:gn k l x (j+1)=gn k l x j:=by show (if _ then _ else _)=_;rw[if_pos q]
   rw[e]at h ⊢
   exact zN k l x j (by omega) h
  ·have e:gn k l x (j+1)=j+1:=by show (if _ then _ else _)=_;rw[if_neg q]
   rw[e];exact q
theorem pS(k:Int->Int)(l:List Int):∀i,(isr k l i).Pairwise fun x y=>k x<=k y
 |0=>List.Pairwise.nil
 |i+1=>by
  have ih:=pS k l i
  have hl:=fV k l i
  unfold isr
  generalize hm:isr k l i=m at *
  generalize l.getD i 0=x
  have h1:=zM k m x i (by omega)
  have h2:=zN k m x i (by omega)
  have h3:=tU k m x i
  generalize gn k m x i=j at *
  unfold stI
  have hg:∀n,(h:n<m.length)->m[n]=m.getD n 0:=fun n h=>by rw[List.getD_eq_getElem?_getD,List.getElem?_eq_getElem h];rfl
  have hs:=List.pairwise_append.1 (by rw[List.take_append_drop];exact ih:(m.take j++m.drop j).Pairwise fun x y=>k x<=k y)
  have hdr:∀y∈m.drop j,k x<=k y:=fun y hy=>by
   obtain ⟨n,hn,rfl⟩:=List.mem_iff_getElem.1 hy
   rw[List.length_drop]at hn
   rw[List.getElem_drop,hg _ (by omega)]
   exact Int.le_of_lt (h1 (j+n) (by omega) (by omega))
  have htk:∀y∈m.take j,k y<=k x:=fun y hy=>by
   obtain ⟨n,hn,rfl⟩:=List.mem_iff_getElem.1 hy
   rw[List.length_take]at hn
   rw[List.getElem_take]
   have hj:=h2 (by omega)
   rw[<- hg (j-1) (by omega)]at hj
   have hle:k m[n]<=k m[j-1]:=by
    by_cases e:n=j-1
    ·subst e;exact Int.le_refl _
    ·exact List.pairwise_iff_getElem.1 ih n (j-1) (by omega) (by omega) (by omega)
   omega
  refine List.pairwise_append.2 ⟨hs.1,List.pairwise_cons.2 ⟨hdr,hs.2.1⟩,fun y hy z hz =>?_⟩
  rcases List.mem_cons.1 hz with rfl|hz
  ·exact htk y hy
  ·exact Int.le_trans (htk y hy) (hdr z hz)
def hgV(agr:Int->Int->Bool)(s H:List Int)(n:Nat):Nat->Int
 |0=>1
 |j+1=>if agr (s.getD j 0) (s.getD n 0)=true then mxI (hgV agr s H n j) (H.getD j 0+1) else hgV agr s H n j
def hgs(agr:Int->Int->Bool)(s:List Int):Nat->List Int
 |0=>[]
 |n+1=>hgs agr s n ++ [hgV agr s (hgs agr s n) n n]
theorem tZ(agr:Int->Int->Bool)(s:List Int):∀n,(hgs agr s n).length=n
 |0=>rfl
 |n+1=>by unfold hgs;rw[ao,tZ agr s n];rfl
theorem t6(agr:Int->Int->Bool)(s:List Int){n j:Nat}(h:j<n):(hgs agr s n).getD j 0=hgV agr s (hgs agr s j) j j:=by
 induction n with
 |zero=>omega
 |succ n ih =>
  have hl:=tZ agr s n
  show (hgs agr s n ++ [hgV agr s (hgs agr s n) n n]).getD j 0=_
  by_cases e:j=n
  ·subst e
   rw[List.getD_eq_getElem?_getD,List.getElem?_append_right (by omega),hl,Nat.sub_self];rfl
  ·rw[List.getD_eq_getElem?_getD,List.getElem?_append_left (by omega),<- List.getD_eq_getElem?_getD]
   exact ih (by omega)
def mxF(H:List Int):Int:=H.foldl (fun n h=>if h > n then h else n) 0
theorem xP(H:List Int):∀(b:Int),b<=H.foldl (fun n h=>if h > n then h else n) b/\(∀h∈H,h<=H.foldl (fun n h=>if h > n then h else n) b)/\(H.foldl (fun n h=>if h > n then h else n) b=b∨H.foldl (fun n h=>if h > n then h else n) b∈H):=by
 induction H with
 |nil=>intro b;exact ⟨Int.le_refl _,fun h q=>(by cases q),Or.inl rfl⟩
 |cons x H ih =>
  intro b
  rw[List.foldl_cons]
  have i:=ih (if x > b then x else b)
  have hb:b<=(if x > b then x else b)/\x<=(if x > b then x else b):=by split <;> omega
  refine ⟨Int.le_trans hb.1 i.1,fun h q =>?_,?_⟩
  ·rcases List.mem_cons.1 q with rfl|q
   ·exact Int.le_trans hb.2 i.1
   ·exact i.2.1 h q
  ·rcases i.2.2 with e|e
   ·rw[e]
    split
    ·exact Or.inr (List.mem_cons_self ..)
    ·exact Or.inl rfl
   ·exact Or.inr (List.mem_cons_of_mem _ e)
theorem Hc(H:List Int):0<=mxF H:=(xP H 0).1
theorem tt{H:List Int}{h:Int}(q:h∈H):h<=mxF H:=(xP H 0).2.1 h q
theorem w7(H:List Int):mxF H=0∨mxF H∈H:=(xP H 0).2.2
theorem gI{l:List Int}{n:Nat}(h:n<l.length):l.getD n 0=l[n]:=by rw[List.getD_eq_getElem?_getD,List.getElem?_eq_getElem h];rfl
def hgt(agr:Int->Int->Bool)(s:List Int)(n:Nat):Int:=hgV agr s (hgs agr s n) n n
theorem zT{agr:Int->Int->Bool}{s:List Int}{m:Nat}{h:Int}(q:h∈hgs agr s m):∃n,n<m/\h=hgt agr s n:=by
 induction m with
 |zero=>cases q
 |succ m ih =>
  unfold hgs at q
  rcases List.mem_append.1 q with q|q
  ·obtain ⟨n,hn,e⟩:=ih q;exact ⟨n,by omega,e⟩
  ·exact ⟨m,by omega,List.mem_singleton.1 q⟩
theorem tv{agr:Int->Int->Bool}{s:List Int}{m n:Nat}(h:n<m):hgt agr s n∈hgs agr s m:=by
 have e:=t6 agr s h
 rw[gI (by rw[tZ];exact h)]at e
 unfold hgt
 rw[<- e];exact List.getElem_mem _
theorem ka(agr:Int->Int->Bool)(s:List Int)(n:Nat):∀j,j<=n->1<=hgV agr s (hgs agr s n) n j/\(∀i,i<j->agr (s.getD i 0) (s.getD n 0)=true->hgt agr s i+1<=hgV agr s (hgs agr s n) n j)/\(hgV agr s (hgs agr s n) n j=1∨∃i,i<j/\agr (s.getD i 0) (s.getD n 0)=true/\hgV agr s (hgs agr s n) n j=hgt agr s i+1)
 |0,_=>⟨Int.le_refl 1,fun i hi=>by omega,Or.inl rfl⟩
 |j+1,hj=>by
  obtain ⟨h1,h2,h3⟩:=ka agr s n j (by omega)
  have hg:(hgs agr s n).getD j 0=hgt agr s j:=t6 agr s (by omega)
  show 1<=(if agr (s.getD j 0) (s.getD n 0)=true then mxI (hgV agr s (hgs agr s n) n j) ((hgs agr s n).getD j 0+1) else hgV agr s (hgs agr s n) n j)/\(∀i,i<j+1->_->hgt agr s i+1<=(if agr (s.getD j 0) (s.getD n 0)=true then mxI (hgV agr s (hgs agr s n) n j) ((hgs agr s n).getD j 0+1) else hgV agr s (hgs agr s n) n j))/\((if agr (s.getD j 0) (s.getD n 0)=true then mxI (hgV agr s (hgs agr s n) n j) ((hgs agr s n).getD j 0+1) else hgV agr s (hgs agr s n) n j)=1∨∃i,i<j+1/\agr (s.getD i 0) (s.getD n 0)=true/\(if agr (s.getD j 0) (s.getD n 0)=true then mxI (hgV agr s (hgs agr s n) n j) ((hgs agr s n).getD j 0+1) else hgV agr s (hgs agr s n) n j)=hgt agr s i+1)
  rw[hg]
  generalize hgV agr s (hgs agr s n) n j=V at *
  unfold mxI
  by_cases q:agr (s.getD j 0) (s.getD n 0)=true
  ·rw[if_pos q]
   refine ⟨by split <;> omega,fun i hi a =>?_,?_⟩
   ·by_cases e:i=j
    ·subst e;split <;> omega
    ·have:=h2 i (by omega) a;split <;> omega
   ·split
    ·exact Or.inr ⟨j,by omega,q,rfl⟩
    ·rcases h3 with e|⟨i,hi,a,e⟩
     ·exact Or.inl e
     ·exact Or.inr ⟨i,by omega,a,e⟩
  ·rw[if_neg q]
   refine ⟨h1,fun i hi a =>?_,?_⟩
   ·by_cases e:i=j
    ·subst e;exact absurd a q
    ·exact h2 i (by omega) a
   ·rcases h3 with e|⟨i,hi,a,e⟩
    ·exact Or.inl e
    ·exact Or.inr ⟨i,by omega,a,e⟩
theorem Dy(agr:Int->Int->Bool)(s:List Int)(n:Nat):1<=hgt agr s n:=(ka agr s n n (Nat.le_refl _)).1
theorem xL{agr:Int->Int->Bool}{s:List Int}{i n:Nat}(h:i<n)(a:agr (s.getD i 0) (s.getD n 0)=true):hgt agr s i+1<=hgt agr s n:=(ka agr s n n (Nat.le_refl _)).2.1 i h a
theorem Jn(agr:Int->Int->Bool)(s:List Int)(n:Nat):hgt agr s n=1∨∃i,i<n/\agr (s.getD i 0) (s.getD n 0)=true/\hgt agr s n=hgt agr s i+1:=(ka agr s n n (Nat.le_refl _)).2.2
def vo(agr:Int->Int->Bool)(s:List Int):Int:=mxF (hgs agr s s.length)
def mst(agr:Int->Int->Bool)(k:Int->Int)(l:List Int):Int:=vo agr (isr k l l.length)
theorem BK{s:List Int}{P:Int->Bool}{n:Nat}(h:n<s.length):((s.take (n+1)).filter P).length=((s.take n).filter P).length+(if P (s.getD n 0)=true then 1 else 0):=by
 rw[List.take_succ_eq_append_getElem h,List.filter_append,ao,gI h]
 congr 1
 by_cases q:P s[n]=true
 ·rw[if_pos q,List.filter_cons_of_pos q];rfl
 ·rw[if_neg q,List.filter_cons_of_neg q];rfl
theorem Fj{agr:Int->Int->Bool}{s:List Int}{P:Int->Bool}(h:∀x∈s,∀y∈s,P x=true->P y=true->agr x y=true):(((s.filter P).length:Nat):Int)<=vo agr s:=by
 have key:∀n,n<=s.length->((((s.take n).filter P).length:Nat):Int)<=0∨∃j,j<n/\P (s.getD j 0)=true/\((((s.take n).filter P).length:Nat):Int)<=hgt agr s j:=by
  intro n
  induction n with
  |zero=>intro _;exact Or.inl (by simp)
  |succ n ih =>
   intro hn
   rw[BK (by omega)]
   by_cases q:P (s.getD n 0)=true
   ·rw[if_pos q]
    refine Or.inr ⟨n,by omega,q,?_⟩
    rcases ih (by omega) with e|⟨j,hj,pj,e⟩
    ·have:=Dy agr s n;omega
    ·have a:agr (s.getD j 0) (s.getD n 0)=true:=h _ (by rw[gI (by omega)];exact List.getElem_mem _) _ (by rw[gI (by omega)];exact List.getElem_mem _) pj q
     have:=xL hj a;omega
   ·rw[if_neg q]
    rcases ih (by omega) with e|⟨j,hj,pj,e⟩
    ·exact Or.inl (by omega)
    ·exact Or.inr ⟨j,by omega,pj,by omega⟩
 have:=key s.length (Nat.le_refl _)
 rw[List.take_length]at this
 rcases this with e|⟨j,hj,_,e⟩
 ·have:=Hc (hgs agr s s.length);unfold vo;omega
 ·exact Int.le_trans e (tt (tv hj))
theorem Ga{agr:Int->Int->Bool}{k:Int->Int}{s:List Int}(hs:s.Pairwise fun x y=>k x<=k y)(ht:∀x∈s,∀y∈s,∀z∈s,k x<=k y->k y<=k z->agr x y=true->agr y z=true->agr x z=true):∀n,n<s.length->∃C:List Int,(C ++ [s.getD n 0]).Sublist (s.take (n+1))/\(C ++ [s.getD n 0]).Pairwise (fun x y=>agr x y=true)/\(((C ++ [s.getD n 0]).length:Nat):Int)=hgt agr s n:=by
 intro n
 induction n using Nat.strongRecOn with
 |ind n ih =>
  intro hn
  rcases Jn agr s n with e|⟨i,hi,a,e⟩
  ·refine ⟨[],?_,by simp,by rw[e];rfl⟩
   rw[List.take_succ_eq_append_getElem hn,gI hn]
   exact List.sublist_append_right ..
  ·obtain ⟨C,h1,h2,h3⟩:=ih i hi (by omega)
   refine ⟨C ++ [s.getD i 0],?_,?_,by rw[ao,Int.natCast_add,h3,e];rfl⟩
   ·rw[List.take_succ_eq_append_getElem hn,gI hn]
    refine List.Sublist.append (h1.trans ?_) (List.Sublist.refl _)
    exact (List.take_prefix_take_left (by omega:i+1<=n)).sublist
   ·refine List.pairwise_append.2 ⟨h2,by simp,fun x hx y hy =>?_⟩
    rw[List.mem_singleton.1 hy]
    have hxs:x∈s.take (i+1):=h1.subset hx
    obtain ⟨m,hm,rfl⟩:=List.mem_iff_getElem.1 hxs
    rw[List.length_take]at hm
    rw[List.getElem_take]
    have him:s[i]'(by omega)∈s:=List.getElem_mem _
    have hnm:s[n]∈s:=List.getElem_mem _
    have hin:k (s[i]'(by omega))<=k s[n]:=List.pairwise_iff_getElem.1 hs i n (by omega) hn hi
    rw[gI hn]at a ⊢
    rw[gI (by omega)]at a
    rcases List.mem_append.1 hx with hc|hc
    ·have hag:=(List.pairwise_append.1 h2).2.2 _ hc _ (List.mem_singleton.2 rfl)
     rw[List.getElem_take,gI (by omega)]at hag
     by_cases eq:m=i
     ·subst eq;exact a
     ·have hmi:k (s[m]'(by omega))<=k (s[i]'(by omega)):=List.pairwise_iff_getElem.1 hs m i (by omega) (by omega) (by omega)
      exact ht _ (List.getElem_mem _) _ him _ hnm hmi hin hag a
    ·rw[List.mem_singleton,List.getElem_take,gI (by omega)]at hc
     rw[hc];exact a
theorem Cs{agr:Int->Int->Bool}{k:Int->Int}{s:List Int}(hs:s.Pairwise fun x y=>k x<=k y)(ht:∀x∈s,∀y∈s,∀z∈s,k x<=k y->k y<=k z->agr x y=true->agr y z=true->agr x z=true):∃C:List Int,C.Sublist s/\C.Pairwise (fun x y=>agr x y=true)/\((C.length:Nat):Int)=vo agr s:=by
 rcases w7 (hgs agr s s.length) with e|e
 ·exact ⟨[],List.nil_sublist _,List.Pairwise.nil,by unfold vo;rw[e];rfl⟩
 ·obtain ⟨n,hn,e⟩:=zT e
  obtain ⟨C,h1,h2,h3⟩:=Ga hs ht n hn
  exact ⟨_,h1.trans (List.take_sublist _ _),h2,by rw[h3];exact e.symm⟩
structure fD(agr:Int->Int->Bool)(k:Int->Int)(D:List Int):Prop where
 rfl:∀x∈D,agr x x=true
 sym:∀x∈D,∀y∈D,agr x y=true->agr y x=true
 tr:∀x∈D,∀y∈D,∀z∈D,k x<=k y->k y<=k z->agr x y=true->agr y z=true->agr x z=true
theorem fD.sub{agr:Int->Int->Bool}{k:Int->Int}{D L:List Int}(a:fD agr k D)(h:∀x∈L,x∈D):fD agr k L :=
 ⟨fun x hx=>a.rfl x (h x hx),fun x hx y hy=>a.sym x (h x hx) y (h y hy),fun x hx y hy z hz=>a.tr x (h x hx) y (h y hy) z (h z hz)⟩
theorem kB(k:Int->Int)(l:List Int):(isr k l l.length).Perm l:=by
 have:=pT k l l.length (Nat.le_refl _)
 rwa [List.take_length]at this
theorem mF{agr:Int->Int->Bool}{k:Int->Int}{l:List Int}{P:Int->Bool}(h:∀x∈l,∀y∈l,P x=true->P y=true->agr x y=true):(((l.filter P).length:Nat):Int)<=mst agr k l:=by
 have p:=kB k l
 have:=Fj (agr:=agr) (s:=isr k l l.length) (P:=P) fun x hx y hy=>h x (p.mem_iff.1 hx) y (p.mem_iff.1 hy)
 rwa [(p.filter P).length_eq]at this
theorem nX{agr:Int->Int->Bool}{k:Int->Int}{l:List Int}(a:fD agr k l):∃P:Int->Bool,(∀x∈l,∀y∈l,P x=true->P y=true->agr x y=true)/\(((l.filter P).length:Nat):Int)=mst agr k l:=by
 have p:=kB k l
 have a':fD agr k (isr k l l.length):=a.sub fun x hx=>p.mem_iff.1 hx
 obtain ⟨C,h1,h2,h3⟩:=Cs (pS k l l.length) a'.tr
 have hag:∀x∈l,∀y∈l,decide (x∈C)=true->decide (y∈C)=true->agr x y=true:=by
  intro x hx y hy qx qy
  have qx:=av qx
  have qy:=av qy
  obtain ⟨i,hi,rfl⟩:=List.mem_iff_getElem.1 qx
  obtain ⟨j,hj,rfl⟩:=List.mem_iff_getElem.1 qy
  rcases Nat.lt_trichotomy i j with q|q|q
  ·exact List.pairwise_iff_getElem.1 h2 i j hi hj q
  ·subst q;exact a.rfl _ hx
  ·exact a.sym _ hy _ hx (List.pairwise_iff_getElem.1 h2 j i hj hi q)
 refine ⟨fun x=>decide (x∈C),hag,Int.le_antisymm (mF hag) ?_⟩
 show vo agr (isr k l l.length)<=_
 rw[<- h3,<- (p.filter _).length_eq]
 have h4:=(h1.filter fun x=>decide (x∈C)).length_le
 have h5:C.filter (fun x=>decide (x∈C))=C:=List.filter_eq_self.2 fun x hx=>decide_eq_true hx
 rw[h5]at h4
 exact Int.ofNat_le.2 h4
theorem w8{agr:Int->Int->Bool}{k:Int->Int}{l:List Int}(a:fD agr k l):mst agr k l<=(l.length:Int):=by
 obtain ⟨P,_,e⟩:=nX a
 rw[<- e];exact Int.ofNat_le.2 (List.length_filter_le ..)
theorem Fi{agr:Int->Int->Bool}{k:Int->Int}{l:List Int}(a:fD agr k l)(h:∀x∈l,∀y∈l,agr x y=true):mst agr k l=(l.length:Int):=by
 refine Int.le_antisymm (w8 a) ?_
 have:=mF (k:=k) (P:=fun _=>true) fun x hx y hy _ _=>h x hx y hy
 rwa [List.filter_eq_self.2 fun _ _=>rfl]at this
theorem tu{agr:Int->Int->Bool}{k:Int->Int}{l:List Int}(a:fD agr k l)(Q:Int->Bool):mst agr k (l.filter Q)<=mst agr k l:=by
 obtain ⟨P,h1,e⟩:=nX (a.sub (L:=l.filter Q) fun x hx=>(List.mem_filter.1 hx).1)
 rw[<- e,List.filter_filter]
 refine mF fun x hx y hy px py =>?_
 rw[Bool.and_eq_true]at px py
 exact h1 x (List.mem_filter.2 ⟨hx,px.2⟩) y (List.mem_filter.2 ⟨hy,py.2⟩) px.1 py.1
def trS(agr:Int->Int->Bool)(k:Int->Int)(n:Nat):Nat->List Int×List Bool
 |0=>(aQ n,[])
 |i+1=>if (trS agr k n i).1.any (fun v=>v == (i:Int))=true/\mst agr k ((trS agr k n i).1.filter fun v=>agr i v)=mst agr k (aQ n)
   then ((trS agr k n i).1.filter (fun v=>agr i v),(trS agr k n i).2 ++ [true])
   else ((trS agr k n i).1.filter (fun v => !(v == (i:Int))),(trS agr k n i).2 ++ [false])
theorem bI{n:Nat}{x:Int}:x∈aQ n ↔ 0<=x/\x<(n:Int):=by
 unfold aQ dE
 rw[List.mem_map]
 constructor
 ·rintro ⟨i,hi,rfl⟩;have:=List.mem_range.1 hi;omega
 ·rintro ⟨h1,h2⟩;exact ⟨Int.toNat x,List.mem_range.2 (by omega),by omega⟩
theorem fS(n:Nat):(aQ n).Nodup:=by
 unfold aQ dE
 exact List.nodup_iff_pairwise_ne.2 ((List.pairwise_map.2 (List.Pairwise.imp (fun {a b} (h:a<b)=>by show ((a:Nat):Int)≠((b:Nat):Int);omega) (List.pairwise_lt_range))))
theorem qH(n:Nat):(aQ n).length=n:=by unfold aQ dE;rw[List.length_map,List.length_range]
structure TrI(agr:Int->Int->Bool)(k:Int->Int)(n i:Nat):Prop where
 len:(trS agr k n i).2.length=i
 sub:(trS agr k n i).1.Sublist (aQ n)
 tru:∀j,j<i->((trS agr k n i).2.getD j false=true ↔ (j:Int)∈(trS agr k n i).1)
 ag:∀j,j<i->(j:Int)∈(trS agr k n i).1->∀x∈(trS agr k n i).1,agr j x=true
 mo:mst agr k (trS agr k n i).1=mst agr k (aQ n)
theorem qG{l:List Int}{x:Int}:l.any (fun v=>v == x)=true ↔ x∈l:=by
 rw[List.any_eq_true]
 constructor
 ·rintro ⟨y,hy,e⟩;rw[<- eq_of_beq e];exact hy
 ·intro h;exact ⟨x,h,beq_self_eq_true _⟩
theorem kE{l:List Bool}{x:Bool}{j:Nat}(h:j<l.length):(l ++ [x]).getD j false=l.getD j false:=by
 rw[List.getD_eq_getElem?_getD,List.getElem?_append_left h,<- List.getD_eq_getElem?_getD]
theorem mS{l:List Bool}{x:Bool}:(l ++ [x]).getD l.length false=x:=by
 rw[List.getD_eq_getElem?_getD,List.getElem?_append_right (Nat.le_refl _),Nat.sub_self];rfl
theorem trI{agr:Int->Int->Bool}{k:Int->Int}{n:Nat}(a:fD agr k (aQ n)):∀i,i<=n->TrI agr k n i
 |0,_=>⟨rfl,List.Sublist.refl _,fun j hj=>by omega,fun j hj=>by omega,rfl⟩
 |i+1,hi=>by
  have I:=trI a i (by omega)
  have hin:(i:Int)∈aQ n:=bI.2 (by omega)
  have aR:fD agr k (trS agr k n i).1:=a.sub fun x hx=>I.sub.subset hx
  obtain ⟨l,sub,tru,ag,mo⟩:=I
  by_cases c:(trS agr k n i).1.any (fun v=>v == (i:Int))=true/\mst agr k ((trS agr k n i).1.filter fun v=>agr i v)=mst agr k (aQ n)
  ·have e:trS agr k n (i+1)=((trS agr k n i).1.filter (fun v=>agr i v),(trS agr k n i).2 ++ [true]):=by show (if _ then _ else _)=_;rw[if_pos c]
   have ci:=qG.1 c.1
   have sR:∀x∈(trS agr k n i).1,x∈aQ n:=fun x hx=>sub.subset hx
   constructor
   all_goals rw[e]
   ·rw[ao,l];rfl
   ·exact List.Sublist.trans List.filter_sublist sub
   ·intro j hj
    show ((trS agr k n i).2 ++ [true]).getD j false=true ↔ _∈(trS agr k n i).1.filter _
    rw[List.mem_filter]
    by_cases q:j=i
    ·subst q
     have:=mS (l:=(trS agr k n j).2) (x:=true)
     rw[l]at this
     rw[this]
     exact ⟨fun _=>⟨ci,a.rfl _ hin⟩,fun _=>rfl⟩
    ·rw[kE (by rw[l];omega),tru j (by omega)]
     refine ⟨fun h=>⟨h,?_⟩,fun h=>h.1⟩
     exact a.sym _ (sR _ h) _ hin (ag j (by omega) h _ ci)
   ·intro j hj hm x hx
    have hm:=List.mem_filter.1 hm
    have hx:=List.mem_filter.1 hx
    by_cases q:j=i
    ·subst q;exact hx.2
    ·exact ag j (by omega) hm.1 x hx.1
   ·exact c.2
  ·have e:trS agr k n (i+1)=((trS agr k n i).1.filter (fun v => !(v == (i:Int))),(trS agr k n i).2 ++ [false]):=by show (if _ then _ else _)=_;rw[if_neg c]
   constructor
   all_goals rw[e]
   ·rw[ao,l];rfl
   ·exact List.Sublist.trans List.filter_sublist sub
   ·intro j hj
    show ((trS agr k n i).2 ++ [false]).getD j false=true ↔ _∈(trS agr k n i).1.filter _
    rw[List.mem_filter]
    by_cases q:j=i
    ·subst q
     have:=mS (l:=(trS agr k n j).2) (x:=false)
     rw[l]at this
     rw[this]
     simp
    ·rw[kE (by rw[l];omega),tru j (by omega)]
     refine ⟨fun h=>⟨h,?_⟩,fun h=>h.1⟩
     have:((j:Int) == (i:Int))=false:=beq_eq_false_iff_ne.2 (by omega)
     rw[this];rfl
   ·intro j hj hm x hx
    have hm:=List.mem_filter.1 hm
    have hx:=List.mem_filter.1 hx
    have q:j≠i:=fun q=>by subst q;simp at hm
    exact ag j (by omega) hm.1 x hx.1
   ·refine Int.le_antisymm (by rw[<- mo];exact tu aR _) ?_
    show mst agr k (aQ n)<=mst agr k ((trS agr k n i).1.filter fun v => !(v == (i:Int)))
    obtain ⟨P,h1,h2⟩:=nX aR
    rw[<- mo,<- h2]
    by_cases hP:(i:Int)∈(trS agr k n i).1/\P i=true
    ·exfalso
     apply c
     refine ⟨qG.2 hP.1,Int.le_antisymm (by rw[<- mo];exact tu aR _) ?_⟩
     rw[<- mo,<- h2]
     have hf:(trS agr k n i).1.filter P=((trS agr k n i).1.filter fun v=>agr i v).filter P:=by
      rw[List.filter_filter]
      refine List.filter_congr fun x hx =>?_
      cases hp:P x with
      |false=>rfl
      |true=>rw[h1 _ hP.1 _ hx hP.2 hp];rfl
     rw[hf]
     refine mF fun x hx y hy px py=>h1 x (List.mem_filter.1 hx).1 y (List.mem_filter.1 hy).1 px py
    ·have hf:(trS agr k n i).1.filter P=((trS agr k n i).1.filter fun v => !(v == (i:Int))).filter P:=by
      rw[List.filter_filter]
      refine List.filter_congr fun x hx =>?_
      cases hp:P x with
      |false=>rfl
      |true =>
       have:(x == (i:Int))=false:=beq_eq_false_iff_ne.2 fun q=>hP ⟨q ▸ hx,q ▸ hp⟩
       rw[this];rfl
     rw[hf]
     refine mF fun x hx y hy px py=>h1 x (List.mem_filter.1 hx).1 y (List.mem_filter.1 hy).1 px py
def gV(agr:Int->Int->Bool)(k:Int->Int)(n:Nat):List Bool:=(trS agr k n n).2
theorem uS{agr:Int->Int->Bool}{k:Int->Int}{n:Nat}(a:fD agr k (aQ n)):(gV agr k n).length=n:=(trI a n (Nat.le_refl _)).len
theorem Ax{agr:Int->Int->Bool}{k:Int->Int}{n:Nat}(a:fD agr k (aQ n)):(trS agr k n n).1=(aQ n).filter fun v=>(gV agr k n).getD (Int.toNat v) false:=by
 have I:=trI a n (Nat.le_refl _)
 have key:∀(l r:List Int),l.Nodup->r.Sublist l->r=l.filter fun v=>decide (v∈r):=by
  intro l
  induction l with
  |nil=>intro r _ h;rw[List.sublist_nil.1 h];rfl
  |cons x l ih =>
   intro r hl h
   have hl:=List.nodup_cons.1 hl
   cases h with
   |cons _ h =>
    have hx:x ∉ r:=fun q=>hl.1 (h.subset q)
    rw[List.filter_cons_of_neg (by simpa using hx)]
    exact ih r hl.2 h
   | @cons_cons r' _ _ h =>
    rw[List.filter_cons_of_pos (by simp)]
    congr 1
    have:=ih r' hl.2 h
    rw[this]
    refine List.filter_congr fun y hy =>?_
    have hne:y≠x:=fun q=>hl.1 (q ▸ hy)
    rw[<- this]
    simp[hne]
 rw[key _ _ (fS n) I.sub]
 refine List.filter_congr fun v hv =>?_
 have hv:=bI.1 hv
 have t:=I.tru (Int.toNat v) (by omega)
 rw[show ((Int.toNat v:Nat):Int)=v by omega]at t
 rw[Bool.eq_iff_iff,decide_eq_true_eq]
 exact t.symm
theorem EN{agr:Int->Int->Bool}{k:Int->Int}{n:Nat}(a:fD agr k (aQ n)){i j:Nat}(hi:i<n)(hj:j<n)(ti:(gV agr k n).getD i false=true)(tj:(gV agr k n).getD j false=true):agr i j=true:=by
 have I:=trI a n (Nat.le_refl _)
 exact I.ag i hi ((I.tru i hi).1 ti) _ ((I.tru j hj).1 tj)
theorem BH{agr:Int->Int->Bool}{k:Int->Int}{n:Nat}(a:fD agr k (aQ n)):((((aQ n).filter fun v=>(gV agr k n).getD (Int.toNat v) false).length:Nat):Int)=mst agr k (aQ n):=by
 have I:=trI a n (Nat.le_refl _)
 have e:=Ax a
 rw[<- I.mo,e]
 symm
 refine Fi (a.sub fun x hx=>(List.mem_filter.1 hx).1) fun x hx y hy =>?_
 have hx:=List.mem_filter.1 hx
 have hy:=List.mem_filter.1 hy
 have bx:=bI.1 hx.1
 have by_:=bI.1 hy.1
 have:=EN a (i:=Int.toNat x) (j:=Int.toNat y) (by omega) (by omega) hx.2 hy.2
 rwa [show ((Int.toNat x:Nat):Int)=x by omega,show ((Int.toNat y:Nat):Int)=y by omega]at this
def hgo(agr:Int->Int->Bool)(k:Int->Int)(l:List Int)(x:Int):Int:=hgt agr (isr k l l.length) ((isr k l l.length).idxOf x)
theorem t7{agr:Int->Int->Bool}{k:Int->Int}{l:List Int}{x:Int}(h:x∈l):∃n,n<(isr k l l.length).length/\(isr k l l.length).getD n 0=x/\hgo agr k l x=hgt agr (isr k l l.length) n:=by
 have hm:=(kB k l).mem_iff.2 h
 refine ⟨_,List.idxOf_lt_length_of_mem hm,?_,rfl⟩
 rw[gI (List.idxOf_lt_length_of_mem hm)]
 exact List.getElem_idxOf _
theorem p7{agr:Int->Int->Bool}{k:Int->Int}{l:List Int}{x:Int}(h:x∈l):1<=hgo agr k l x/\hgo agr k l x<=mst agr k l:=by
 obtain ⟨n,hn,_,e⟩:=t7 (agr:=agr) (k:=k) h
 rw[e]
 exact ⟨Dy ..,tt (tv hn)⟩
theorem Jp{agr:Int->Int->Bool}{k:Int->Int}{l:List Int}(a:fD agr k l){x y:Int}(hx:x∈l)(hy:y∈l)(hxy:x≠y)(h:agr x y=true):hgo agr k l x≠hgo agr k l y:=by
 obtain ⟨n,hn,en,e⟩:=t7 (agr:=agr) (k:=k) hx
 obtain ⟨m,hm,em,f⟩:=t7 (agr:=agr) (k:=k) hy
 rw[e,f]
 rcases Nat.lt_trichotomy n m with q|q|q
 ·have:=xL (agr:=agr) q (by rw[en,em];exact h)
  omega
 ·subst q;exact absurd (en.symm.trans em) hxy
 ·have:=xL (agr:=agr) q (by rw[en,em];exact a.sym _ hx _ hy h)
  omega
theorem Jq{agr:Int->Int->Bool}{k:Int->Int}{l:List Int}(hd:l.Nodup)(h:l≠[]):∃x∈l,hgo agr k l x=mst agr k l:=by
 have p:=kB k l
 have hl:0<(isr k l l.length).length:=by rw[p.length_eq];exact List.length_pos_iff.2 h
 have nd:(isr k l l.length).Nodup:=p.nodup_iff.2 hd
 have:∃n,n<(isr k l l.length).length/\mst agr k l=hgt agr (isr k l l.length) n:=by
  rcases w7 (hgs agr (isr k l l.length) (isr k l l.length).length) with e|e
  ·have h1:=Dy agr (isr k l l.length) 0
   have h2:=tt (tv (agr:=agr) (s:=isr k l l.length) hl)
   omega
  ·exact zT e
 obtain ⟨n,hn,e⟩:=this
 refine ⟨(isr k l l.length)[n],p.mem_iff.1 (List.getElem_mem _),?_⟩
 rw[e]
 unfold hgo
 rw[nd.idxOf_getElem n hn]
def aN(q:Int->Bool)(M:List Int)(k:Nat):List Int:=(M.take k).filter q
def cb(q:Int->Bool)(M:List Int)(k:Nat):List Int:=aN q M k++M.drop (aN q M k).length
def fA(q:Int->Bool)(M:List Int)(k:Nat):List Int:=aN q M k++List.replicate (k-(aN q M k).length) 0++M.drop k
theorem km{M:List Int}{x:Nat}{d:Int}(h:x<M.length):M.take (x+1)=M.take x ++ [M.getD x d]:=by
 rw[List.take_succ_eq_append_getElem h,List.getD_eq_getElem?_getD,List.getElem?_eq_getElem h];rfl
theorem take_len{M:List Int}{k:Nat}(h:k<=M.length):(M.take k).length=k:=by rw[List.length_take];omega
theorem tM{q:Int->Bool}{M:List Int}{x:Nat}(hx:x<M.length)(h:q (M.getD x 0)=true):aN q M (x+1)=aN q M x ++ [M.getD x 0]:=by
 unfold aN
 rw[km (d:=0) hx,List.filter_append,List.filter_cons_of_pos h];rfl
theorem oc{q:Int->Bool}{M:List Int}{x:Nat}(hx:x<M.length)(h:q (M.getD x 0)=false):aN q M (x+1)=aN q M x:=by
 unfold aN
 rw[km (d:=0) hx,List.filter_append,List.filter_cons_of_neg (by rw[h];decide)];simp
theorem iX(q:Int->Bool)(M:List Int)(x:Nat):(aN q M x).length<=x:=Nat.le_trans (List.length_filter_le ..) (by rw[List.length_take];omega)
theorem mN{q:Int->Bool}{M:List Int}{x:Nat}(h:(M.take x).all q=true):aN q M x=M.take x:=List.filter_eq_self.2 (List.all_eq_true.1 h)
theorem za{q:Int->Bool}{M:List Int}{x:Nat}(hx:x<M.length):(cb q M x).getD x 0=M.getD x 0:=by
 have:=iX q M x
 unfold cb
 rw[List.getD_eq_getElem?_getD,List.getElem?_append_right this,List.getElem?_drop,<- List.getD_eq_getElem?_getD,show (aN q M x).length+(x-(aN q M x).length)=x by omega]
theorem vu{q:Int->Bool}{M:List Int}{x:Nat}(hx:x<=M.length):(cb q M x).length=M.length:=by
 have:=iX q M x
 unfold cb
 rw[ao,List.length_drop];omega
theorem Cx{q:Int->Bool}{M:List Int}{x:Nat}(hx:x<M.length)(h:q (M.getD x 0)=true):(cb q M x).set (aN q M x).length (M.getD x 0)=cb q M (x+1):=by
 have hc:=iX q M x
 unfold cb
 rw[tM hx h,qr (show (aN q M x).length<M.length by omega),ao]
 simp
theorem Cy{q:Int->Bool}{M:List Int}{x:Nat}(hx:x<M.length)(h:q (M.getD x 0)=false):cb q M (x+1)=cb q M x:=by
 unfold cb;rw[oc hx h]
theorem oX{q:Int->Bool}{M:List Int}{x:Nat}(hx:x<M.length)(ha:(M.take x).all q=true)(h:q (M.getD x 0)=false):cb q M (x+1)=M/\(aN q M (x+1)).length=x:=by
 have e:aN q M (x+1)=M.take x:=(oc hx h).trans (mN ha)
 have hl:(M.take x).length=x:=take_len (by omega)
 refine ⟨?_,by rw[e,hl]⟩
 unfold cb
 rw[e,hl,List.take_append_drop]
theorem wx{q:Int->Bool}{M:List Int}{k:Nat}(hk:k<=M.length)(ha:(M.take k).all q=true):fA q M k=M/\(aN q M k).length=k:=by
 have hl:(aN q M k).length=k:=by rw[mN ha];exact take_len hk
 refine ⟨?_,hl⟩
 unfold fA
 rw[hl,mN ha,Nat.sub_self,List.replicate_zero,List.append_nil,List.take_append_drop]
theorem qt{q:Int->Bool}{M:List Int}{k:Nat}(hk:k<=M.length):(fA q M k).length=M.length:=by
 have:=iX q M k
 unfold fA
 rw[ao,ao,List.length_replicate,List.length_drop];omega
theorem Ak{q:Int->Bool}{M:List Int}{k:Nat}(hk:k<=M.length):bE ((cb q M k).flatMap ai) (0+(aN q M k).length*1) (dX [.int .i64 0] (k-(aN q M k).length))=(fA q M k).flatMap ai:=by
 have hc:=iX q M k
 have e:M.drop (aN q M k).length=(M.take k).drop (aN q M k).length++M.drop k:=by
  have h2:(aN q M k).length<=(M.take k).length:=by rw[take_len hk];omega
  rw[<- List.drop_append_of_le_length h2,List.take_append_drop]
 unfold cb fA
 rw[e,pf,List.flatMap_append,List.flatMap_append,List.append_assoc,List.flatMap_append,List.flatMap_append]
 have:=oD ((List.replicate (k-(aN q M k).length) (0:Int)).flatMap ai) (((M.take k).drop (aN q M k).length).flatMap ai) ((aN q M k).flatMap ai) ((M.drop k).flatMap ai) (by
  rw[aP bg,aP bg,List.length_drop,take_len hk,List.length_replicate])
 rw[aP bg]at this
 rw[show 0+(aN q M k).length*1=(aN q M k).length*1 by omega]
 exact this
theorem gT{q:Int->Bool}{M:List Int}{k:Nat}:(fA q M k).take (aN q M k).length=aN q M k:=by
 unfold fA
 rw[List.append_assoc,List.take_left]
def gX(k:Int->Int)(l:List Int)(x:Nat):List Int:=isr k l (min x l.length)++l.drop x
def cg(k:Int->Int)(l:List Int)(i j:Nat):List Int:=stI (isr k l i) (l.getD i 0) j++l.drop (i+1)
theorem EX(k:Int->Int)(l:List Int):gX k l 1=l:=by
 unfold gX
 cases l with
 |nil=>rfl
 |cons x l=>rw[show min 1 (x :: l).length=1 by rw[List.length_cons];omega];rfl
theorem AB{k:Int->Int}{l:List Int}{x:Nat}(h:l.length<=x):gX k l x=isr k l l.length:=by
 unfold gX
 rw[show min x l.length=l.length by omega,List.drop_eq_nil_of_le h,List.append_nil]
theorem AF{k:Int->Int}{l:List Int}{i j:Nat}(hi:i<l.length)(hj:j<=i):(cg k l i j).length=l.length:=by
 unfold cg
 rw[ao,yL (by rw[fV];exact hj),fV,List.length_drop];omega
theorem EY{k:Int->Int}{l:List Int}{i:Nat}(hi:i<l.length):cg k l i i=gX k l i:=by
 unfold cg gX stI
 have hl:=fV k l i
 rw[show min i l.length=i by omega,List.take_of_length_le (by omega),List.drop_eq_nil_of_le (by omega:(isr k l i).length<=i),List.append_assoc]
 congr 1
 rw[List.drop_eq_getElem_cons hi,gI hi];rfl
theorem BV{k:Int->Int}{l:List Int}{i j:Nat}(hi:i<l.length)(hj:j<=i):(cg k l i j).getD j 0=l.getD i 0:=by
 have hl:=fV k l i
 have ht:((isr k l i).take j).length=j:=by rw[List.length_take];omega
 unfold cg stI
 rw[List.append_assoc,List.getD_eq_getElem?_getD,List.getElem?_append_right (by omega),ht,Nat.sub_self];rfl
theorem AE{k:Int->Int}{l:List Int}{i j m:Nat}(hi:i<l.length)(hj:j<=i)(hm:m<j):(cg k l i j).getD m 0=(isr k l i).getD m 0:=by
 have hl:=fV k l i
 unfold cg stI
 rw[List.append_assoc,List.getD_eq_getElem?_getD,List.getElem?_append_left (by rw[List.length_take];omega),List.getElem?_take_of_lt hm,<- List.getD_eq_getElem?_getD]
theorem wT{k:Int->Int}{l:List Int}{i j:Nat}(hi:i<l.length)(hj:j+1<=i):((cg k l i (j+1)).set (j+1) ((isr k l i).getD j 0)).set j (l.getD i 0)=cg k l i j:=by
 have hl:=fV k l i
 unfold cg stI
 generalize hm:isr k l i=m at *
 have e1:m.take (j+1)=m.take j ++ [m.getD j 0]:=by rw[List.take_succ_eq_append_getElem (by omega),gI (by omega)]
 have e2:m.drop j=m.getD j 0 :: m.drop (j+1):=by rw[List.drop_eq_getElem_cons (by omega),gI (by omega)]
 rw[e1,e2]
 have ht:(m.take j).length=j:=by rw[List.length_take];omega
 generalize m.getD j 0=y
 generalize m.drop (j+1)=D
 generalize l.getD i 0=x
 generalize l.drop (i+1)=R
 generalize m.take j=T at ht
 subst ht
 simp
theorem rE{k:Int->Int}{l:List Int}{i j:Nat}(hi:i<l.length)(h:gn k (isr k l i) (l.getD i 0) i=j):cg k l i j=gX k l (i+1):=by
 unfold cg gX
 rw[show min (i+1) l.length=i+1 by omega]
 subst h;rfl
theorem FT{k:Int->Int}{m:List Int}{x:Int}{j:Nat}(h:k x<k (m.getD j 0)):gn k m x (j+1)=gn k m x j:=by
 show (if _ then _ else _)=_;rw[if_pos h]
theorem FS{k:Int->Int}{m:List Int}{x:Int}{j:Nat}(h:¬ k x<k (m.getD j 0)):gn k m x (j+1)=j+1:=by
 show (if _ then _ else _)=_;rw[if_neg h]
def hE(agr:Int->Int->Bool)(s:List Int)(x:Nat):List (Int×Int):=dE (fun n:Nat=>(s.getD n 0,hgt agr s n)) x
def hEJ(agr:Int->Int->Bool)(s:List Int)(x y:Nat):List (Int×Int):=hE agr s x ++ [(s.getD x 0,hgV agr s (hgs agr s x) x y)]
theorem Gd(agr:Int->Int->Bool)(s:List Int)(x:Nat):hE agr s (x+1)=hE agr s x ++ [(s.getD x 0,hgt agr s x)]:=by
 unfold hE dE;rw[List.range_succ,List.map_append];rfl
theorem Gf(agr:Int->Int->Bool)(s:List Int)(x:Nat):hEJ agr s x x=hE agr s (x+1):=by
 rw[Gd];rfl
theorem KQ{s:List Int}(h:s.Nodup){i j:Nat}(hi:i<s.length)(hj:j<s.length)(q:i≠j):s.getD i 0≠s.getD j 0:=by
 rw[gI hi,gI hj]
 intro e
 exact q ((List.getElem_inj h).1 e)
theorem mU{κ β:Type}[DecidableEq κ]{k:κ}{d:β}:∀{F G:List (κ×β)},dM k F=true->cS k d (F++G)=cS k d F
 | [],_,h=>by cases h
 |e :: F,G,h=>by
  show (if e.1=k then _ else _)=(if e.1=k then _ else _)
  by_cases q:e.1=k
  ·rw[if_pos q,if_pos q]
  ·rw[if_neg q,if_neg q]
   exact mU (by unfold dM at h;rwa [if_neg q]at h)
theorem mT{κ β:Type}[DecidableEq κ]{k:κ}{d:β}:∀{F G:List (κ×β)},dM k F=false->cS k d (F++G)=cS k d G
 | [],_,h=>rfl
 |e :: F,G,h=>by
  have q:¬ e.1=k:=fun q=>by unfold dM at h;rw[if_pos q]at h;cases h
  show (if e.1=k then _ else _)=_
  rw[if_neg q]
  exact mT (by unfold dM at h;rwa [if_neg q]at h)
theorem wj{κ β:Type}[DecidableEq κ]{k:κ}:∀{F G:List (κ×β)},dM k (F++G)=(dM k F ||dM k G)
 | [],_=>rfl
 |e :: F,G=>by
  show (if e.1=k then true else _)=((if e.1=k then true else _) ||_)
  by_cases q:e.1=k
  ·rw[if_pos q,if_pos q];rfl
  ·rw[if_neg q,if_neg q];exact wj
theorem vd{κ β:Type}[DecidableEq κ]{k:κ}{v:β}:∀{F G:List (κ×β)},dM k F=false->eJ k v (F++G)=F++eJ k v G
 | [],_,h=>rfl
 |e :: F,G,h=>by
  have q:¬ e.1=k:=fun q=>by unfold dM at h;rw[if_pos q]at h;cases h
  show (if e.1=k then _ else _)=_
  rw[if_neg q]
  exact congrArg (e :: ·) (vd (by unfold dM at h;rwa [if_neg q]at h))
theorem t8{agr:Int->Int->Bool}{s:List Int}{v:Int}:∀{x:Nat},dM v (hE agr s x)=true ↔ ∃n,n<x/\s.getD n 0=v
 |0=>⟨(fun h=>by cases h),(fun ⟨n,h,_⟩=>by omega)⟩
 |x+1=>by
  rw[Gd,wj,Bool.or_eq_true,t8]
  show _∨(if s.getD x 0=v then true else false)=true ↔ _
  constructor
  ·rintro (⟨n,h,e⟩|h)
   ·exact ⟨n,by omega,e⟩
   ·split at h
    ·exact ⟨x,by omega,by assumption⟩
    ·cases h
  ·rintro ⟨n,h,e⟩
   by_cases q:n=x
   ·subst q;exact Or.inr (by rw[if_pos e])
   ·exact Or.inl ⟨n,by omega,e⟩
theorem zW{agr:Int->Int->Bool}{s:List Int}(nd:s.Nodup){x:Nat}(hx:x<s.length):dM (s.getD x 0) (hE agr s x)=false:=by
 rw[Bool.eq_false_iff]
 intro h
 obtain ⟨n,hn,e⟩:=t8.1 h
 exact KQ nd (by omega) hx (by omega) e
theorem DF{agr:Int->Int->Bool}{s:List Int}(nd:s.Nodup){x y:Nat}(hx:x<=s.length)(hy:y<x):cS (s.getD y 0) 0 (hE agr s x)=hgt agr s y:=by
 induction x with
 |zero=>omega
 |succ x ih =>
  rw[Gd]
  by_cases q:y=x
  ·subst q
   rw[mT (zW nd (by omega))]
   show (if s.getD y 0=s.getD y 0 then _ else _)=_
   rw[if_pos rfl]
  ·rw[mU (t8.2 ⟨y,by omega,rfl⟩)]
   exact ih (by omega) (by omega)
theorem Ju{agr:Int->Int->Bool}{s:List Int}(nd:s.Nodup){x:Nat}(hx:x<s.length):eJ (s.getD x 0) 1 (hE agr s x)=hEJ agr s x 0:=by
 rw[tg _ _ _ (zW nd hx)];rfl
theorem zX{agr:Int->Int->Bool}{s:List Int}(nd:s.Nodup){x y:Nat}(hx:x<s.length):cS (s.getD x 0) 0 (hEJ agr s x y)=hgV agr s (hgs agr s x) x y:=by
 unfold hEJ
 rw[mT (zW nd hx)]
 show (if s.getD x 0=s.getD x 0 then _ else _)=_
 rw[if_pos rfl]
theorem zY{agr:Int->Int->Bool}{s:List Int}(nd:s.Nodup){x y z:Nat}(hx:x<s.length)(hy:y<x):cS (s.getD y 0) 0 (hEJ agr s x z)=hgt agr s y:=by
 unfold hEJ
 rw[mU (t8.2 ⟨y,by omega,rfl⟩)]
 exact DF nd (by omega) hy
theorem Ge{agr:Int->Int->Bool}{s:List Int}(nd:s.Nodup){x y:Nat}{v:Int}(hx:x<s.length)(e:hgV agr s (hgs agr s x) x (y+1)=v):eJ (s.getD x 0) v (hEJ agr s x y)=hEJ agr s x (y+1):=by
 unfold hEJ
 rw[vd (zW nd hx),e]
 show _++(if s.getD x 0=s.getD x 0 then _ else _)=_
 rw[if_pos rfl]
theorem Lk{agr:Int->Int->Bool}{s:List Int}{x y:Nat}(hy:y<x)(a:agr (s.getD y 0) (s.getD x 0)=true):hgV agr s (hgs agr s x) x (y+1)=mxI (hgV agr s (hgs agr s x) x y) (hgt agr s y+1):=by
 show (if _ then _ else _)=_
 rw[if_pos a,t6 agr s hy];rfl
theorem Ll{agr:Int->Int->Bool}{s:List Int}{x y:Nat}(a:¬ agr (s.getD y 0) (s.getD x 0)=true):hgV agr s (hgs agr s x) x (y+1)=hgV agr s (hgs agr s x) x y:=by
 show (if _ then _ else _)=_
 rw[if_neg a]
theorem Jr(agr:Int->Int->Bool)(s:List Int)(n:Nat):∀j,j<=n->1<=hgV agr s (hgs agr s n) n j/\hgV agr s (hgs agr s n) n j<=(n:Int)+1:=by
 induction n using Nat.strongRecOn with
 |ind n ih =>
  intro j hj
  have h:=ka agr s n j hj
  refine ⟨h.1,?_⟩
  rcases h.2.2 with e|⟨i,hi,_,e⟩
  ·omega
  ·have h2:hgt agr s i<=(i:Int)+1:=(ih i (by omega) i (Nat.le_refl _)).2
   omega
theorem Jo(agr:Int->Int->Bool)(s:List Int)(n:Nat):1<=hgt agr s n/\hgt agr s n<=(n:Int)+1:=Jr agr s n n (Nat.le_refl _)
theorem Lu(agr:Int->Int->Bool)(s:List Int):((hE agr s s.length).foldl (fun n e=>if e.2 > n then e.2 else n) 0)=vo agr s:=by
 have e:hgs agr s s.length=(hE agr s s.length).map (·.2):=by
  generalize s.length=n
  induction n with
  |zero=>rfl
  |succ n ih=>rw[Gd,List.map_append,<- ih];rfl
 unfold vo mxF
 rw[e,List.foldl_map]
theorem Jv{agr:Int->Int->Bool}{k:Int->Int}{l:List Int}(nd:l.Nodup){x:Int}(h:x∈l):cS x 0 (hE agr (isr k l l.length) (isr k l l.length).length)=hgo agr k l x:=by
 have hn:(isr k l l.length).Nodup:=(kB k l).nodup_iff.2 nd
 obtain ⟨n,h1,h2,h3⟩:=t7 (agr:=agr) (k:=k) h
 rw[h3,<- h2]
 exact DF hn (Nat.le_refl _) h1
def agI(p:Int)(ss:List (Int×Int))(rr:List (List Int))(i k:Int):Bool:=jH p ss rr (Int.toNat i) (Int.toNat k)
def kyI(ss:List (Int×Int))(i:Int):Int:=(ss.getD (Int.toNat i) ae).1
theorem ke{f c:Int}(q:bk w h a f c<bb):∃n:Nat,Wy w h a f n c/\bk w h a f c=n:=by
 by_cases e:∃n,Lst w h a f c n
 ·obtain ⟨n,hn⟩:=e
  exact ⟨n,hn.1,jp hn⟩
 ·unfold bk at q
  rw[dif_neg e]at q
  omega
theorem Hp(w h:Int)(a:List Bool)(f:Int):bk w h a f f=0:=jp (n:=0) ⟨.base,fun m _=>Nat.zero_le _⟩
theorem xR{f c:Int}{n:Nat}(b:cM w h a.length)(hf:0<=f/\f<(a.length:Int))(q:Wy w h a f n c):bk w h a f c<bb:=by
 obtain ⟨m,h1,h2⟩:=wK q
 rw[jp h2]
 have:=xa b hf h2
 have:=b.n1
 have:=b.p1
 unfold bb;omega
theorem D2(w h:Int)(a:List Bool)(hp:1<=p)(s:Int×Int):iK w h a p s s.2 s.1=true:=by
 unfold iK
 rw[Hp]
 unfold mxI bb
 simp
theorem wD{s:Int×Int}{c m:Int}:iK w h a p s c m=true ↔ bk w h a s.2 c<bb/\bk w h a s.2 c*p<=mxI (m-s.1) (s.1-m):=by
 unfold iK
 rw[Bool.and_eq_true,decide_eq_true_eq,decide_eq_true_eq]
theorem D1(b:cM w h a.length)(hp:1<=p){s t:Int×Int}(hs:(0<=s.2/\s.2<(a.length:Int))/\a.getD (Int.toNat s.2) false=false)(ht:(0<=t.2/\t.2<(a.length:Int))/\a.getD (Int.toNat t.2) false=false)(q:iK w h a p s t.2 t.1=true):iK w h a p t s.2 s.1=true:=by
 rw[wD]at q ⊢
 obtain ⟨n,n1,n2⟩:=ke q.1
 have r:=HC b hs.1 hs.2 n1
 refine ⟨xR b ht.1 r,?_⟩
 have d1:=qq r
 have:bk w h a t.2 s.2*p<=(n:Int)*p:=Int.mul_le_mul_of_nonneg_right d1 (by omega)
 have q2:=q.2
 rw[n2]at q2
 unfold mxI at q2 ⊢
 split at q2 <;> split <;> omega
theorem Gt(b:cM w h a.length)(hp:1<=p){s t u:Int×Int}(hs:(0<=s.2/\s.2<(a.length:Int))/\a.getD (Int.toNat s.2) false=false)(h1:s.1<=t.1)(h2:t.1<=u.1)(q:iK w h a p s t.2 t.1=true)(r:iK w h a p t u.2 u.1=true):iK w h a p s u.2 u.1=true:=by
 rw[wD]at q r ⊢
 obtain ⟨n,n1,n2⟩:=ke q.1
 obtain ⟨m,m1,m2⟩:=ke r.1
 have w1:=HD n1 m1
 refine ⟨xR b hs.1 w1,?_⟩
 have d1:=qq w1
 have:bk w h a s.2 u.2*p<=((n+m:Nat):Int)*p:=Int.mul_le_mul_of_nonneg_right d1 (by omega)
 rw[Int.natCast_add,Int.add_mul]at this
 have q2:=q.2
 have r2:=r.2
 rw[n2]at q2
 rw[m2]at r2
 unfold mxI at q2 r2 ⊢
 split at q2 <;> split at r2 <;> split <;> omega
theorem m4(hc:∀s∈ss,0<=s.2/\s.2<(a.length:Int)){i k:Int}(hi:0<=i/\i<(ss.length:Int))(hk:0<=k/\k<(ss.length:Int)):agI p ss (aH w h a ss) i k=iK w h a p (ss.getD (Int.toNat i) ae) (ss.getD (Int.toNat k) ae).2 (ss.getD (Int.toNat k) ae).1:=by
 unfold agI jH
 rw[oq (by omega) (hc _ (b8 (by omega)))]
theorem Br(t:ej w h a p ss):fD (agI p ss (aH w h a ss)) (kyI ss) (aQ ss.length):=by
 have hc:∀s∈ss,0<=s.2/\s.2<(a.length:Int):=fun s hs=>(t.seen s hs).2.1
 have hm:∀x∈aQ ss.length,(0<=x/\x<(ss.length:Int))/\ss.getD (Int.toNat x) ae∈ss:=fun x hx=>by
  have:=bI.1 hx
  exact ⟨this,b8 (by omega)⟩
 refine ⟨fun x hx =>?_,fun x hx y hy =>?_,fun x hx y hy z hz =>?_⟩
 ·rw[m4 hc (hm x hx).1 (hm x hx).1]
  exact D2 _ _ _ t.tn.1 _
 ·rw[m4 hc (hm x hx).1 (hm y hy).1,m4 hc (hm y hy).1 (hm x hx).1]
  exact D1 t.bas t.tn.1 (t.seen _ (hm x hx).2).2 (t.seen _ (hm y hy).2).2
 ·rw[m4 hc (hm x hx).1 (hm y hy).1,m4 hc (hm y hy).1 (hm z hz).1,m4 hc (hm x hx).1 (hm z hz).1]
  exact Gt t.bas t.tn.1 (t.seen _ (hm x hx).2).2
def jq(agr:Int->Int->Bool)(k:Int->Int)(n x:Nat):List Int:=dE (fun i:Nat=>hgo agr k (aQ n) (i:Int)-1) x
def nV(agr:Int->Int->Bool)(k:Int->Int)(n x:Nat):Int:=(dE (fun i:Nat=>hgo agr k (aQ n) (i:Int)) x).foldl (fun b v=>mxI b v) 0
def iG(agr:Int->Int->Bool)(c:List Int)(x y:Nat):Bool:=(List.range y).all fun m => !(decide (c.getD x 0=c.getD m 0)&&agr (m:Int) (x:Int))
def nT(agr:Int->Int->Bool)(c:List Int)(k:Int)(x:Nat):Bool:=(decide (0<=c.getD x 0)&&decide (c.getD x 0<=k-1))&&iG agr c x x
def fP(agr:Int->Int->Bool)(c:List Int)(k:Int)(x:Nat):Bool:=(List.range x).all fun i=>nT agr c k i
theorem qv(agr:Int->Int->Bool)(k:Int->Int)(n x:Nat):(jq agr k n x).length=x:=dC ..
theorem wz{agr:Int->Int->Bool}{k:Int->Int}{n x i:Nat}(h:i<x):(jq agr k n x).getD i 0=hgo agr k (aQ n) (i:Int)-1:=dD h
theorem DT{agr:Int->Int->Bool}{k:Int->Int}{n:Nat}(a:fD agr k (aQ n)):nV agr k n n=mst agr k (aQ n):=by
 have e:nV agr k n n=mxF (dE (fun i:Nat=>hgo agr k (aQ n) (i:Int)) n):=rfl
 rw[e]
 have hm:∀v,v∈dE (fun i:Nat=>hgo agr k (aQ n) (i:Int)) n ↔ ∃i,i<n/\hgo agr k (aQ n) (i:Int)=v:=fun v=>by
  unfold dE;rw[List.mem_map]
  exact ⟨fun ⟨i,hi,e⟩=>⟨i,List.mem_range.1 hi,e⟩,fun ⟨i,hi,e⟩=>⟨i,List.mem_range.2 hi,e⟩⟩
 by_cases z:n=0
 ·subst z;rfl
 ·obtain ⟨x,hx,ex⟩:=Jq (agr:=agr) (k:=k) (fS n) (by intro q;have:=qH n;rw[q]at this;exact z this.symm)
  have hx':=bI.1 hx
  refine Int.le_antisymm ?_ ?_
  ·rcases w7 (dE (fun i:Nat=>hgo agr k (aQ n) (i:Int)) n) with q|q
   ·rw[q];have:=(p7 (agr:=agr) (k:=k) hx);omega
   ·obtain ⟨i,hi,e⟩:=(hm _).1 q
    rw[<- e];exact (p7 (bI.2 (by omega))).2
  ·rw[<- ex]
   refine tt ((hm _).2 ⟨Int.toNat x,by omega,?_⟩)
   rw[show ((Int.toNat x:Nat):Int)=x by omega]
theorem E6{agr:Int->Int->Bool}{k:Int->Int}{n:Nat}(a:fD agr k (aQ n)):fP agr (jq agr k n n) (mst agr k (aQ n)) n=true:=by
 unfold fP
 rw[List.all_eq_true]
 intro i hi
 have hi:=List.mem_range.1 hi
 have him:(i:Int)∈aQ n:=bI.2 (by omega)
 have b:=p7 (agr:=agr) (k:=k) him
 unfold nT iG
 rw[wz hi,decide_eq_true (by omega),decide_eq_true (by omega)]
 rw[Bool.true_and,Bool.true_and,List.all_eq_true]
 intro m hm
 have hm:=List.mem_range.1 hm
 rw[wz (by omega)]
 cases q:agr (m:Int) (i:Int) with
 |false=>simp
 |true =>
  have:=Jp a (bI.2 (by omega)) him (by omega) q
  rw[decide_eq_false (by omega)];rfl
theorem Fh{agr:Int->Int->Bool}{k:Int->Int}{n:Nat}:0<=mst agr k (aQ n)/\(0<n->1<=mst agr k (aQ n)):=by
 refine ⟨Hc _,fun h =>?_⟩
 have:=p7 (agr:=agr) (k:=k) (bI.2 (show 0<=(0:Int)/\(0:Int)<(n:Int) by omega))
 omega
def KP(L:List Msg)(a n:Int):Bool:=L.any fun m=>decide (m.au=a)&&decide (m.nu=n)
def MJ(M:List Msg)(a:Int)(x:Nat):Int:=(M.take x).foldl (fun g m=>if m.au=a then (if m.nu > g then m.nu else g) else g) 0
structure M3(M:List Msg)(a:Int)(x:Nat):Prop where
 nx:(cI M a x).2.1=(cI M a x).1+1
 bd:0<=(cI M a x).1/\(cI M a x).1<=200
 gr:MJ M a x=(cI M a x).1
 le:∀m∈M.take x,m.au=a->m.nu<=(cI M a x).1
 at_:(cI M a x).1=0∨∃m∈M.take x,m.au=a/\m.nu=(cI M a x).1
 gb:∀g∈(cI M a x).2.2,1<=g.1/\g.1<=g.2/\g.2<(cI M a x).1
 cov:∀n,1<=n->n<=(cI M a x).1->KP (M.take x) a n=true∨∃g∈(cI M a x).2.2,g.1<=n/\n<=g.2
 no:∀g∈(cI M a x).2.2,∀n,g.1<=n->n<=g.2->KP (M.take x) a n=false
 pw:(cI M a x).2.2.Pairwise fun g h=>g.2<h.1
theorem H5{α:Type}(d:α)(F:List α):(List.range F.length).map (fun i=>F.getD i d)=F:=by
 refine List.ext_getElem? fun i =>?_
 rw[List.getElem?_map]
 by_cases h:i<F.length
 ·rw[List.getElem?_range h,List.getElem?_eq_getElem h]
  simp[List.getD_eq_getElem?_getD,h]
 ·rw[List.getElem?_eq_none (by simpa using Nat.le_of_not_lt h),List.getElem?_eq_none (Nat.le_of_not_lt h)];rfl
abbrev bD(F:List (Int×Int)):List (Value×Value):=fy (fun k:Int => .int .i64 k) (fun v:Int => .int .i64 v) F
def iE(n:Nat)(s:List Nat):Prop:=s.Nodup/\∀i∈s,i<n
def maxS(E:List (Int×Int))(s:List Nat):Int:=s.foldl (fun n i=>if (List.getD E i (0,0)).2 > n then (List.getD E i (0,0)).2 else n) 0
def CA(E:List (Int×Int)):Int:=E.foldl (fun n e=>if e.2 > n then e.2 else n) 0
theorem yQ(n:Nat):iE n []:=⟨List.nodup_nil,fun i h=>by cases h⟩
theorem oG{n:Nat}{s:List Nat}{i:Nat}(h:iE n s)(hi:i<n)(hn:i ∉ s):iE n (s ++ [i]) :=
 ⟨List.nodup_append.2 ⟨h.1,(by simp),fun a ha b hb e=>hn (by rw[List.mem_singleton.1 hb]at e;exact e ▸ ha)⟩,fun j hj=>by
  rcases List.mem_append.1 hj with h1|h1
  ·exact h.2 j h1
  ·rw[List.mem_singleton.1 h1];exact hi⟩
theorem AL{n:Nat}{s:List Nat}(h:iE n s):s.length<=n:=by
 have h2:=oE (L:=List.replicate n ay) (s:=s) ⟨h.1,fun i hi=>by rw[List.length_replicate];exact h.2 i hi⟩
 rwa [List.length_replicate]at h2
theorem wV{n:Nat}{s:List Nat}{i:Nat}(h:iE n s)(hi:i<n)(hn:i ∉ s):n-(s ++ [i]).length<n-s.length:=by
 have:=AL (oG h hi hn)
 rw[ao]at this ⊢
 simp only[List.length_cons,List.length_nil]at this ⊢
 omega
theorem AS(E:List (Int×Int))(s:List Nat)(i:Nat):maxS E (s ++ [i])=if (List.getD E i (0,0)).2 > maxS E s then (List.getD E i (0,0)).2 else maxS E s:=by
 unfold maxS;rw[List.foldl_append];rfl
theorem Cz{E:List (Int×Int)}{s:List Nat}(h:iE E.length s)(h3:∀i,i<E.length->i∈s){k:Int}(hk:CA E=k):maxS E s=k:=by
 have hp:s.Perm (List.range E.length):=rG h.1 h.2 h3
 rw[<- hk]
 have e1:maxS E s=maxS E (List.range E.length):=by
  unfold maxS
  refine hp.foldl_eq' (fun x _ y _ z =>?_) 0
  repeat' split
  all_goals omega
 rw[e1]
 have e2:CA E=CA ((List.range E.length).map fun i=>E.getD i (0,0)):=by rw[H5]
 rw[e2]
 unfold maxS CA
 rw[List.foldl_map]
theorem MM(E:List (Int×Int)){i:Nat}(hi:i<E.length)(s:List Nat):gx (bD E) (s ++ [i])=some (.tuple #[.int .i64 (List.getD E i (0,0)).1,.int .i64 (List.getD E i (0,0)).2]):=by
 unfold bD
 rw[Ae (0,0) hi]
abbrev xS(w h:Int)(a:List Bool)(p:Int)(ss:List (Int×Int))(rr:List (List Int)):List (List Value):=[[.pointer (some ⟨2,0,none⟩)],iF w h a p ss rr 3 4 5,a.flatMap af,ss.flatMap spC,inL rr]
abbrev JH(w h:Int)(a:List Bool)(p:Int)(ss:List (Int×Int))(rr:List (List Int))(i:Int):List (List Value):=[[.pointer (some ⟨3,0,none⟩)],[.int .i64 i],iF w h a p ss rr 4 5 6,a.flatMap af,ss.flatMap spC,inL rr]
abbrev ctxA(w h:Int)(a:List Bool)(p:Int)(ss:List (Int×Int))(rr:List (List Int)):List (List Value):=[iF w h a p ss rr 1 2 3,a.flatMap af,ss.flatMap spC,inL rr]
def qNe(i v:Int):Bool:=!(decide (v=i))
end
end Go.Proofs.YtbgfjemppjhmjaaGreat
