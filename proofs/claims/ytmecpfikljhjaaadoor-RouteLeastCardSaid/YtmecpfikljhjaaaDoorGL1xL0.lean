/- Route: RouteLeast's walk. No condition. -/
import Derived.Test.YtmecpfikljhjaaaDoorGM6gxL1g
import Derived.Test.YtmecpfikljhjaaaDoorGK27xA0
import Derived.Test.YtmecpfikljhjaaaDoorCards
import Derived.Test.YtmecpfikljhjaaaDoorTie
import Derived.JoinedCond
import Derived.JoinedOf
import Derived.Lib.LaidTab
import Derived.ChangeVars
import Derived.SevenTiedAt
open Go Go.K
set_option maxRecDepth 1000000
set_option maxHeartbeats 4000000
set_option linter.unusedVariables false
set_option linter.unusedSimpArgs false
namespace Go.Proofs.YtmecpfikljhjaaaDoor
noncomputable section
attribute [local irreducible] vF
theorem Walk.arrs{p:Pl}(o:PlOk p){l:List Leg}{c t:Int}(w:Walk p l c t):∀j,j<l.length->(l.getD j zL).arr<=9223372036854775807:=fun j hj=>by
 have:=endP_le o
 have:=(w.legs j hj).2
 omega
theorem leastR(N M:List Int)(hq:Int):Rleast (.bool true) N M hq:=by
 delta Rleast jq9 jqf jqh jqd jqc jqa jqi jqb jq0 jq7 jq3 jql jq2 jqk jq6 nI slQ pt slN someR fk ck nw eR kbq ixq apq c0q c1q
 refine ⟨trivial,fun H' hn _=>kPick hq 4 (by decide) (by decide) (by omega),vI64 (by omega),⟨rfl,rfl,trivial⟩,fun H' hn h=>cMade (by omega) hn h.1 h.2.1,fun r1 hr =>?_⟩
 obtain ⟨e0,hl,_,_⟩:=hr
 generalize r1.1=p at *
 have o:=plOk e0
 have he:=endP_le o
 have hE6:endP p=6*((p.cts.length:Nat):Int):=rfl
 have hB:bestE p=51∨bestE p=0:=by unfold bestE;split <;> simp
 refine ⟨⟨rfl,rfl,rfl,rfl,rfl,rfl,rfl,trivial⟩,fun H' hn h=>cBst e0 hn (plAtL (by decide) h),forkNe (fun hb=>forkNe (fun q=>by omega) (fun hE =>?_)) (fun hE =>?_)⟩
 ·refine ⟨rfl,⟨Nat.zero_le 40,Nat.le_refl _,Walk.start o,Int.le_refl _,Int.le_refl _⟩,?_,fun _=>rfl,fun x3 hx =>?_⟩
  ·repeat' first|exact plainDig _ _ _|exact trivial|exact wk_nil _ _ _ (.inl rfl)|refine ⟨rfl,?_⟩|refine ⟨trivial,?_⟩|apply And.intro
  obtain ⟨l,c,t,m,k⟩:=x3
  obtain ⟨hk,hlk,w,hm0,hm⟩:=hx
  dsimp only at hk hlk w hm0 hm ⊢
  have wo:=w.opt o
  have wc:=w.cell o
  have we:=w.e
  rw[wo.1,wo.2]
  refine forkD (fun hk1 =>?_) (fun hk1 =>?_)
  ·refine forkNe (fun hc =>?_) (fun hc =>?_)
   ·refine ⟨⟨rfl,rfl,rfl,rfl,rfl,rfl,rfl,trivial⟩,fun H' hn h=>by have:=cOpt e0 hn (x:=c) (y:=t) (plAtL (by decide) h);rw[wo.1,wo.2]at this;exact this,fun q=>absurd q (by decide),fun _=>forkEq (fun hz=>⟨vI64 (by omega),forkD (fun _=>⟨⟨rfl,rfl,rfl,rfl,rfl,rfl,rfl,rfl,trivial⟩,fun H' hn h=>cAcc e0 (w.arrs o) (by omega) (plAtL (by decide) h) (by decide) h.2.2.2.2.2.2.2.1,bEq (by simpa using hc),forkEq (fun _=>⟨⟨rfl,trivial⟩,fun H' hn h=>kAwake h.1,rfl⟩) (fun q=>absurd (w.away (by omega) hc) q)⟩) (fun ht=>⟨vI64 (by have:=tdiv6 (e:=((p.cts.length:Nat):Int)) wc.1 (by omega);omega),⟨rfl,rfl,rfl,rfl,rfl,rfl,rfl,trivial⟩,fun H' hn h=>cSaf e0 (plAtL (by decide) h),forkNe (fun _=>⟨⟨rfl,rfl,rfl,rfl,rfl,rfl,rfl,rfl,trivial⟩,fun H' hn h=>cAcc e0 (w.arrs o) (by omega) (plAtL (by decide) h) (by decide) h.2.2.2.2.2.2.2.1,bEq (by simpa using hc),forkEq (fun _=>⟨⟨rfl,trivial⟩,fun H' hn h=>kAwake h.1,rfl⟩) (fun q=>absurd (w.away (by omega) hc) q)⟩) (fun _=>forkD (fun _=>⟨⟨rfl,rfl,rfl,rfl,rfl,rfl,rfl,rfl,trivial⟩,fun H' hn h=>cAcc e0 (w.arrs o) (by omega) (plAtL (by decide) h) (by decide) h.2.2.2.2.2.2.2.1,bEq (by simpa using hc),forkEq (fun _=>⟨⟨rfl,trivial⟩,fun H' hn h=>kAwake h.1,rfl⟩) (fun q=>absurd (w.away (by omega) hc) q)⟩) (fun hv =>?_))⟩)⟩) (fun hz=>⟨⟨rfl,trivial⟩,fun H' hn h=>kNextD (by omega) (by decide) (by omega) h.1,forkEq (fun _=>⟨vI64 (by omega),forkD (fun _=>⟨⟨rfl,rfl,rfl,rfl,rfl,rfl,rfl,rfl,trivial⟩,fun H' hn h=>cAcc e0 (w.arrs o) (by omega) (plAtL (by decide) h) (by decide) h.2.2.2.2.2.2.2.1,bEq (by simpa using hc),forkEq (fun _=>⟨⟨rfl,trivial⟩,fun H' hn h=>kAwake h.1,rfl⟩) (fun q=>absurd (w.away (by omega) hc) q)⟩) (fun ht=>⟨vI64 (by have:=tdiv6 (e:=((p.cts.length:Nat):Int)) wc.1 (by omega);omega),⟨rfl,rfl,rfl,rfl,rfl,rfl,rfl,trivial⟩,fun H' hn h=>cSaf e0 (plAtL (by decide) h),forkNe (fun _=>⟨⟨rfl,rfl,rfl,rfl,rfl,rfl,rfl,rfl,trivial⟩,fun H' hn h=>cAcc e0 (w.arrs o) (by omega) (plAtL (by decide) h) (by decide) h.2.2.2.2.2.2.2.1,bEq (by simpa using hc),forkEq (fun _=>⟨⟨rfl,trivial⟩,fun H' hn h=>kAwake h.1,rfl⟩) (fun q=>absurd (w.away (by omega) hc) q)⟩) (fun _=>forkD (fun _=>⟨⟨rfl,rfl,rfl,rfl,rfl,rfl,rfl,rfl,trivial⟩,fun H' hn h=>cAcc e0 (w.arrs o) (by omega) (plAtL (by decide) h) (by decide) h.2.2.2.2.2.2.2.1,bEq (by simpa using hc),forkEq (fun _=>⟨⟨rfl,trivial⟩,fun H' hn h=>kAwake h.1,rfl⟩) (fun q=>absurd (w.away (by omega) hc) q)⟩) (fun hv =>?_))⟩)⟩) (fun _ =>?_)⟩)⟩
    ·rw[w.saf o (by omega)]at hv
     refine ⟨vI64 (by omega),vI64 (by omega),(l,c,t+1,m,k+1),⟨by show k+1<=40;omega,by show l.length<=k+1;omega,w.wait (by omega) (by omega),by show 0<=m;omega,by show m<=2*(((k+1:Nat):Nat):Int);omega⟩,by show 40-(k+1)<40-k;omega,?_⟩
     repeat' first|exact plainDig _ _ _|exact plainGL _ _|exact trivial|exact wk_refl _|refine ⟨rfl,?_⟩|apply And.intro
    ·rw[w.saf o (by omega)]at hv
     refine ⟨vI64 (by omega),vI64 (by omega),(l,c,t+1,(m+1),k+1),⟨by show k+1<=40;omega,by show l.length<=k+1;omega,w.wait (by omega) (by omega),by show 0<=(m+1);omega,by show (m+1)<=2*(((k+1:Nat):Nat):Int);omega⟩,by show 40-(k+1)<40-k;omega,?_⟩
     repeat' first|exact plainDig _ _ _|exact plainGL _ _|exact trivial|exact wk_refl _|refine ⟨rfl,?_⟩|apply And.intro
    have hb:=dN_bd M (m+1) (m:=((lgP p c t).length:Int)) (by omega)
    have hx:=getD_mem (l:=lgP p c t) (d:=zL) (x:=Int.toNat (dN M (m+1) ((lgP p c t).length:Int))) (by omega)
    have hm1:=lgP_mem hx
    have hs:=bs_mem o wc.2 hm1.1
    have hch:=o.chan
    refine ⟨⟨rfl,trivial⟩,fun H' hn h=>kNextD (by omega) ⟨by omega,by have:=lgP_lt o (c:=c) wc.1;omega⟩ (by omega) h.1,⟨hb.1,hb.2⟩,partLg (by omega) (by omega),?_⟩
    generalize (lgP p c t).getD (Int.toNat (dN M (m+1) ((lgP p c t).length:Int))) zL=x at *
    have wl:=w.leg hx
    refine forkD (fun q=>by omega) (fun _=>forkD (fun q=>by omega) (fun _=>forkNe (fun q=>absurd hm1.2.1 q) (fun _=>forkD (fun q=>by omega) (fun _=>⟨vI64 (by omega),forkD (fun q=>by omega) (fun _ =>?_)⟩))))
    refine ⟨⟨by omega,by decide,⟨Nat.le_refl _,by rw[flat_len lgC_len];omega⟩,⟨Nat.le_refl _,by simp⟩,rfl⟩,rfl,vI64 (by omega),(l ++ [x],x.to,x.arr,m+1+1,k+1),⟨by show k+1<=40;omega,by show (l ++ [x]).length<=k+1;rw[List.length_append];show l.length+1<=_;omega,wl,by show 0<=m+1+1;omega,by show m+1+1<=2*(((k+1:Nat):Nat):Int);omega⟩,by show 40-(k+1)<40-k;omega,?_⟩
    repeat' first|exact plainDig _ _ _|exact plainGL _ _|exact ob_snoc lgC_len rfl rfl|(exact wk_QF (by rw[List.length_append];rfl) (by omega))|exact trivial|refine ⟨rfl,?_⟩|apply And.intro
   ·subst hc
    have wh:=w.home o (by omega)
    exact absurd wh.2.2.1 (by rw[hE];decide)
  ·refine ⟨⟨rfl,rfl,rfl,rfl,rfl,rfl,rfl,rfl,trivial⟩,fun H' hn h=>cAcc e0 (w.arrs o) (by omega) (plAtL (by decide) h) (by decide) h.2.2.2.2.2.2.2.1,forkNe (fun hc=>forkEq (fun _=>⟨⟨rfl,trivial⟩,fun H' hn h=>kAwake h.1,rfl⟩) (fun q=>absurd (w.away (by omega) hc) q)) (fun hc =>?_)⟩
   subst hc
   exact absurd (w.home o (by omega)).2.2.1 (by rw[hE];decide)
 ·refine ⟨rfl,⟨Nat.zero_le 40,Nat.le_refl _,Walk.start o,Int.le_refl _,Int.le_refl _⟩,?_,fun _=>rfl,fun x3 hx =>?_⟩
  ·repeat' first|exact plainDig _ _ _|exact trivial|exact wk_nil _ _ _ (.inl rfl)|refine ⟨rfl,?_⟩|refine ⟨trivial,?_⟩|apply And.intro
  obtain ⟨l,c,t,m,k⟩:=x3
  obtain ⟨hk,hlk,w,hm0,hm⟩:=hx
  dsimp only at hk hlk w hm0 hm ⊢
  have wo:=w.opt o
  have wc:=w.cell o
  have we:=w.e
  rw[wo.1,wo.2]
  refine forkD (fun hk1 =>?_) (fun hk1 =>?_)
  ·refine forkNe (fun hc =>?_) (fun hc =>?_)
   ·refine ⟨⟨rfl,rfl,rfl,rfl,rfl,rfl,rfl,trivial⟩,fun H' hn h=>by have:=cOpt e0 hn (x:=c) (y:=t) (plAtL (by decide) h);rw[wo.1,wo.2]at this;exact this,fun q=>absurd q (by decide),fun _=>forkEq (fun hz=>⟨vI64 (by omega),forkD (fun _=>⟨⟨rfl,rfl,rfl,rfl,rfl,rfl,rfl,rfl,trivial⟩,fun H' hn h=>cAcc e0 (w.arrs o) (by omega) (plAtL (by decide) h) (by decide) h.2.2.2.2.2.2.2.1,bEq (by simpa using hc),forkEq (fun _=>⟨⟨rfl,trivial⟩,fun H' hn h=>kAwake h.1,rfl⟩) (fun q=>absurd (w.away (by omega) hc) q)⟩) (fun ht=>⟨vI64 (by have:=tdiv6 (e:=((p.cts.length:Nat):Int)) wc.1 (by omega);omega),⟨rfl,rfl,rfl,rfl,rfl,rfl,rfl,trivial⟩,fun H' hn h=>cSaf e0 (plAtL (by decide) h),forkNe (fun _=>⟨⟨rfl,rfl,rfl,rfl,rfl,rfl,rfl,rfl,trivial⟩,fun H' hn h=>cAcc e0 (w.arrs o) (by omega) (plAtL (by decide) h) (by decide) h.2.2.2.2.2.2.2.1,bEq (by simpa using hc),forkEq (fun _=>⟨⟨rfl,trivial⟩,fun H' hn h=>kAwake h.1,rfl⟩) (fun q=>absurd (w.away (by omega) hc) q)⟩) (fun _=>forkD (fun _=>⟨⟨rfl,rfl,rfl,rfl,rfl,rfl,rfl,rfl,trivial⟩,fun H' hn h=>cAcc e0 (w.arrs o) (by omega) (plAtL (by decide) h) (by decide) h.2.2.2.2.2.2.2.1,bEq (by simpa using hc),forkEq (fun _=>⟨⟨rfl,trivial⟩,fun H' hn h=>kAwake h.1,rfl⟩) (fun q=>absurd (w.away (by omega) hc) q)⟩) (fun hv =>?_))⟩)⟩) (fun hz=>⟨⟨rfl,trivial⟩,fun H' hn h=>kNextD (by omega) (by decide) (by omega) h.1,forkEq (fun _=>⟨vI64 (by omega),forkD (fun _=>⟨⟨rfl,rfl,rfl,rfl,rfl,rfl,rfl,rfl,trivial⟩,fun H' hn h=>cAcc e0 (w.arrs o) (by omega) (plAtL (by decide) h) (by decide) h.2.2.2.2.2.2.2.1,bEq (by simpa using hc),forkEq (fun _=>⟨⟨rfl,trivial⟩,fun H' hn h=>kAwake h.1,rfl⟩) (fun q=>absurd (w.away (by omega) hc) q)⟩) (fun ht=>⟨vI64 (by have:=tdiv6 (e:=((p.cts.length:Nat):Int)) wc.1 (by omega);omega),⟨rfl,rfl,rfl,rfl,rfl,rfl,rfl,trivial⟩,fun H' hn h=>cSaf e0 (plAtL (by decide) h),forkNe (fun _=>⟨⟨rfl,rfl,rfl,rfl,rfl,rfl,rfl,rfl,trivial⟩,fun H' hn h=>cAcc e0 (w.arrs o) (by omega) (plAtL (by decide) h) (by decide) h.2.2.2.2.2.2.2.1,bEq (by simpa using hc),forkEq (fun _=>⟨⟨rfl,trivial⟩,fun H' hn h=>kAwake h.1,rfl⟩) (fun q=>absurd (w.away (by omega) hc) q)⟩) (fun _=>forkD (fun _=>⟨⟨rfl,rfl,rfl,rfl,rfl,rfl,rfl,rfl,trivial⟩,fun H' hn h=>cAcc e0 (w.arrs o) (by omega) (plAtL (by decide) h) (by decide) h.2.2.2.2.2.2.2.1,bEq (by simpa using hc),forkEq (fun _=>⟨⟨rfl,trivial⟩,fun H' hn h=>kAwake h.1,rfl⟩) (fun q=>absurd (w.away (by omega) hc) q)⟩) (fun hv =>?_))⟩)⟩) (fun _ =>?_)⟩)⟩
    ·rw[w.saf o (by omega)]at hv
     refine ⟨vI64 (by omega),vI64 (by omega),(l,c,t+1,m,k+1),⟨by show k+1<=40;omega,by show l.length<=k+1;omega,w.wait (by omega) (by omega),by show 0<=m;omega,by show m<=2*(((k+1:Nat):Nat):Int);omega⟩,by show 40-(k+1)<40-k;omega,?_⟩
     repeat' first|exact plainDig _ _ _|exact plainGL _ _|exact trivial|exact wk_refl _|refine ⟨rfl,?_⟩|apply And.intro
    ·rw[w.saf o (by omega)]at hv
     refine ⟨vI64 (by omega),vI64 (by omega),(l,c,t+1,(m+1),k+1),⟨by show k+1<=40;omega,by show l.length<=k+1;omega,w.wait (by omega) (by omega),by show 0<=(m+1);omega,by show (m+1)<=2*(((k+1:Nat):Nat):Int);omega⟩,by show 40-(k+1)<40-k;omega,?_⟩
     repeat' first|exact plainDig _ _ _|exact plainGL _ _|exact trivial|exact wk_refl _|refine ⟨rfl,?_⟩|apply And.intro
    have hb:=dN_bd M (m+1) (m:=((lgP p c t).length:Int)) (by omega)
    have hx:=getD_mem (l:=lgP p c t) (d:=zL) (x:=Int.toNat (dN M (m+1) ((lgP p c t).length:Int))) (by omega)
    have hm1:=lgP_mem hx
    have hs:=bs_mem o wc.2 hm1.1
    have hch:=o.chan
    refine ⟨⟨rfl,trivial⟩,fun H' hn h=>kNextD (by omega) ⟨by omega,by have:=lgP_lt o (c:=c) wc.1;omega⟩ (by omega) h.1,⟨hb.1,hb.2⟩,partLg (by omega) (by omega),?_⟩
    generalize (lgP p c t).getD (Int.toNat (dN M (m+1) ((lgP p c t).length:Int))) zL=x at *
    have wl:=w.leg hx
    refine forkD (fun q=>by omega) (fun _=>forkD (fun q=>by omega) (fun _=>forkNe (fun q=>absurd hm1.2.1 q) (fun _=>forkD (fun q=>by omega) (fun _=>⟨vI64 (by omega),forkD (fun q=>by omega) (fun _ =>?_)⟩))))
    refine ⟨⟨by omega,by decide,⟨Nat.le_refl _,by rw[flat_len lgC_len];omega⟩,⟨Nat.le_refl _,by simp⟩,rfl⟩,rfl,vI64 (by omega),(l ++ [x],x.to,x.arr,m+1+1,k+1),⟨by show k+1<=40;omega,by show (l ++ [x]).length<=k+1;rw[List.length_append];show l.length+1<=_;omega,wl,by show 0<=m+1+1;omega,by show m+1+1<=2*(((k+1:Nat):Nat):Int);omega⟩,by show 40-(k+1)<40-k;omega,?_⟩
    repeat' first|exact plainDig _ _ _|exact plainGL _ _|exact ob_snoc lgC_len rfl rfl|(exact wk_QF (by rw[List.length_append];rfl) (by omega))|exact trivial|refine ⟨rfl,?_⟩|apply And.intro
   ·subst hc
    have wh:=w.home o (by omega)
    have hT:=wh.2.2.2
    refine ⟨⟨rfl,rfl,rfl,rfl,rfl,rfl,rfl,rfl,trivial⟩,fun H' hn h=>cAcc e0 (w.arrs o) (by omega) (plAtL (by decide) h) (by decide) h.2.2.2.2.2.2.2.1,bEq (by simp),forkNe (fun q=>absurd wh.1 q) (fun _=>⟨bEq (by rw[hE];rfl),forkD (fun q=>by omega) (fun _=>forkD (fun hl0 =>?_) (fun hl0=>⟨bEq (decide_eq_false hl0),⟨rfl,trivial⟩,fun H' hn h=>kAwake h.1,rfl⟩))⟩)⟩
    have et:Int.toNat ((l.length:Int)-1)=l.length-1:=by omega
    have ha:=w.legs (l.length-1) (by omega)
    have hT2:accT p l=(l.getD (l.length-1) zL).arr:=by
     rw[wh.2.1]
     obtain ⟨j,hj⟩:∃j,l.length=j+1:=⟨l.length-1,by omega⟩
     rw[hj];rfl
    rw[et]
    refine ⟨vI64 (by omega),⟨by omega,by omega⟩,lgArr (by omega) (by omega),forkNe (fun q=>absurd hT2 q) (fun _=>⟨bEq (decide_eq_true hl0),fun q=>absurd q (by omega),fun _=>⟨⟨by omega,by omega,⟨Nat.le_refl _,by simp⟩,⟨Nat.le_refl _,flat_le lgC_len l⟩,one_lgs l _⟩,rfl,by rw[lgs_copy],vI64 (by omega),⟨by omega,by omega⟩,lgArr (by omega) (by omega),vI64 (by omega),⟨by omega,by omega⟩,by rw[flat_len lgC_len];omega,rfl,by rw[setl_er (by omega) (by omega) rfl],⟨rfl,rfl,rfl,rfl,rfl,rfl,rfl,rfl,trivial⟩,fun H' hn h=>cAcc0 e0 (by rw[erL_len];omega) (erL_arr w o) (by rw[erL_len];omega) (plAtL (by decide) h) (by decide) h.2.2.2.2.2.2.2.1,forkEq (fun q=>by have:=w.sooner (by omega) (by omega);omega) (fun _=>⟨⟨rfl,trivial⟩,fun H' hn h=>kAwake h.1,rfl⟩)⟩⟩)⟩
  ·refine ⟨⟨rfl,rfl,rfl,rfl,rfl,rfl,rfl,rfl,trivial⟩,fun H' hn h=>cAcc e0 (w.arrs o) (by omega) (plAtL (by decide) h) (by decide) h.2.2.2.2.2.2.2.1,forkNe (fun hc=>forkEq (fun _=>⟨⟨rfl,trivial⟩,fun H' hn h=>kAwake h.1,rfl⟩) (fun q=>absurd (w.away (by omega) hc) q)) (fun hc =>?_)⟩
   subst hc
   have wh:=w.home o (by omega)
   have hT:=wh.2.2.2
   refine forkNe (fun q=>absurd wh.1 q) (fun _=>⟨bEq (by rw[hE];rfl),forkD (fun q=>by omega) (fun _=>forkD (fun hl0 =>?_) (fun hl0=>⟨bEq (decide_eq_false hl0),⟨rfl,trivial⟩,fun H' hn h=>kAwake h.1,rfl⟩))⟩)
   have et:Int.toNat ((l.length:Int)-1)=l.length-1:=by omega
   have ha:=w.legs (l.length-1) (by omega)
   have hT2:accT p l=(l.getD (l.length-1) zL).arr:=by
    rw[wh.2.1]
    obtain ⟨j,hj⟩:∃j,l.length=j+1:=⟨l.length-1,by omega⟩
    rw[hj];rfl
   rw[et]
   refine ⟨vI64 (by omega),⟨by omega,by omega⟩,lgArr (by omega) (by omega),forkNe (fun q=>absurd hT2 q) (fun _=>⟨bEq (decide_eq_true hl0),fun q=>absurd q (by omega),fun _=>⟨⟨by omega,by omega,⟨Nat.le_refl _,by simp⟩,⟨Nat.le_refl _,flat_le lgC_len l⟩,one_lgs l _⟩,rfl,by rw[lgs_copy],vI64 (by omega),⟨by omega,by omega⟩,lgArr (by omega) (by omega),vI64 (by omega),⟨by omega,by omega⟩,by rw[flat_len lgC_len];omega,rfl,by rw[setl_er (by omega) (by omega) rfl],⟨rfl,rfl,rfl,rfl,rfl,rfl,rfl,rfl,trivial⟩,fun H' hn h=>cAcc0 e0 (by rw[erL_len];omega) (erL_arr w o) (by rw[erL_len];omega) (plAtL (by decide) h) (by decide) h.2.2.2.2.2.2.2.1,forkEq (fun q=>by have:=w.sooner (by omega) (by omega);omega) (fun _=>⟨⟨rfl,trivial⟩,fun H' hn h=>kAwake h.1,rfl⟩)⟩⟩)⟩
end
end Go.Proofs.YtmecpfikljhjaaaDoor
namespace Go.K
open Go Go.ChangeShapes Go.WideShapes Go.ChangeAt Go.RowKit
variable {P:Program} {HH:Type} {enc:TypeId×Value->HH}
theorem law_calls4{N n b0:Nat}{ts:List TypeId}{args:Array Value}{W:World}{ds:List (DataW HH)}{ps:List MemPlace}{held:Bool}(hG:P.globals.size=1)(zs:List Int){ty:TypeId}{fz:Nat×Nat}
  (h0:W.heap[0]?=some (.cells (zs.map fun z=>Value.int .i64 z).toArray ty fz)) (hplain:ts.all (topT P n)=true)
  (hok:∀(j:Nat) (t:TypeId) (v:Value),ts[j]?=some t->args.toList[j]?=some v->Value.okWide P W .any b0 t v) (h:DataW.TrodAll enc P W 0 (fun _=>true) held ts args.toList ds ps)
  (hlaw:∀(H:Heap) (vs:List Value),GoodAD P n ts vs->H[0]?=some (.cells false 0 (zs.map fun z=>Value.int .i64 z))->KCall P N vs H [] (fun v _=>v = .bool true)) :
  Calls P N args W fun e W'=>e = .returned (.bool true)/\RowKit.Below W.heap.size W W':=by
 have hlt:0<W.heap.size:=by
  rcases Nat.lt_or_ge 0 W.heap.size with h|h
  ·exact h
  ·rw[Array.getElem?_eq_none h]at h0;cases h0
 have ho:∀(id:Nat) (o:KObj),([KObj.cells false 0 (zs.map fun z=>Value.int .i64 z)])[id]?=some o->id=0/\o = .cells false 0 (zs.map fun z=>Value.int .i64 z):=fun id o e=>by
  cases id with
  |zero=>exact ⟨rfl,(Option.some.inj e).symm⟩
  |succ id=>simp at e
 have hρ:∀(id:Nat) (r:RI),(if id=0 then some (⟨0,0,zs.length,0,false⟩:RI) else none)=some r->id=0/\r=⟨0,0,zs.length,0,false⟩:=fun id r e=>by
  split at e
  ·exact ⟨‹_›,(Option.some.inj e).symm⟩
  ·cases e
 have hr:Rel P W.heap.size ⟨fun id=>if id=0 then some ⟨0,0,zs.length,0,false⟩ else none,fun b=>match W.heap[b]? with|some (.cells m _ _)=>some m|_=>none,fun _ _=>none⟩ [KObj.cells false 0 (zs.map fun z=>Value.int .i64 z)] W:=by
  refine ⟨Nat.le_refl _,fun g hg =>?_,fun id r h1 =>?_,fun id r h1 =>?_,fun id r o h1 h2 =>?_,fun id r o h1 h2 h3 =>?_,fun id id' r r' o o' h1 h1' h2 h2' h3 _ hne =>?_,fun b m hm=>⟨?_,fun id r o h1 h2 h3 =>?_⟩,FRel.nofam (fun _ _ _ h=>by cases h) (fun _ _ _ h=>by cases h) (fun F z cs h=>by have:=(ho F _ h).2;cases this)⟩
  ·obtain rfl:g=0:=by omega
   exact ⟨_,rfl,rfl,rfl⟩
  ·obtain ⟨rfl,_⟩:=hρ id r h1;exact Nat.zero_lt_one
  ·obtain ⟨rfl,rfl⟩:=hρ id r h1;exact hlt
  ·obtain ⟨rfl,rfl⟩:=hρ id r h1
   obtain ⟨_,rfl⟩:=ho 0 o h2
   refine ⟨rfl,rfl,_,ty,fz,h0,by simp,fun e=>(by cases e),fun i v e=>⟨v,?_,?_⟩⟩
   ·show (zs.map fun z=>Value.int .i64 z).toArray[i+0]?=some v
    simpa using e
   ·rw[List.getElem?_map,Option.map_eq_some_iff]at e
    obtain ⟨z,_,rfl⟩:=e
    exact .int _ _
  ·obtain ⟨_,rfl⟩:=ho id o h2;cases h3
  ·obtain ⟨rfl,_⟩:=hρ id r h1;obtain ⟨rfl,_⟩:=hρ id' r' h1';exact absurd rfl hne
  ·dsimp only at hm
   split at hm
   ·rename_i m' ty fz e;cases hm;exact ⟨ty,fz,e⟩
   ·cases hm
  ·obtain ⟨_,rfl⟩:=ho id o h2;cases h3
 have hlow0:Low W.heap.size ⟨fun id=>if id=0 then some ⟨0,0,zs.length,0,false⟩ else none,fun b=>match W.heap[b]? with|some (.cells m _ _)=>some m|_=>none,fun _ _=>none⟩ W :=
  ⟨fun b m ty fz _ hb=>by show (match W.heap[b]? with|some (.cells m _ _)=>some m|_=>none)=_;rw[hb],fun id r h1=>by obtain ⟨rfl,rfl⟩:=hρ id r h1;exact hlt⟩
 obtain ⟨ρ',H',vs',e,hv,g⟩:=bring_args rfl ts args.toList ds ps _ _ hplain hok h hr
 have hlow1:Low W.heap.size ρ' W:=⟨fun b m ty fz h1 h2=>e.le.mem b m (hlow0.1 b m ty fz h1 h2),fun id r h1=>e.rel.lt id r h1⟩
 obtain ⟨ws,hv2,g2⟩:=bringAD e.rel hlow1 ts vs' args.toList g hv
 obtain ⟨K,hK⟩:=e.pre
 have hh:H'[0]?=some (.cells false 0 (zs.map fun z=>Value.int .i64 z)):=by rw[hK];rfl
 refine callsIn_wide.1 (((hlaw H' ws g2 hh).2 _ ρ' W args e.rel hv2).mono ?_)
 rintro en w' ⟨v,v',ρ3,H3,rfl,h1,h2,rfl⟩
 cases h1
 exact ⟨rfl,h2.below e.rel⟩
end Go.K
namespace Go.Proofs.YtmecpfikljhjaaaDoor
open Go Go.K Go.ChangeShapes Go.WideShapes Go.ChangeAt Go.RowKit
noncomputable section
theorem own:ownKnob Tryd.prog.godebug=none:=by kernel_rfl
theorem sized:slicesSized Tryd.prog=true:=by kernel_rfl
abbrev known(t:TypeId):Prop:=t<Tryd.prog.types.size
theorem kids:Kids Tryd.prog known:=kids_rows (by kernel_rfl) (by kernel_rfl)
theorem goodAD_cons{n:Nat}{t:TypeId}{ts:List TypeId}{vs:List Value}(h:GoodAD Tryd.prog n (t :: ts) vs):∃v vs',vs=v :: vs'/\GoodVD Tryd.prog n t v/\GoodAD Tryd.prog n ts vs':=by
 cases vs with
 |nil=>exact h.elim
 |cons v vs=>exact ⟨v,vs,rfl,h.1,h.2⟩
theorem goodAD_nil{n:Nat}{vs:List Value}(h:GoodAD Tryd.prog n [] vs):vs=[]:=by
 cases vs with
 |nil=>rfl
 |cons v vs=>exact h.elim
theorem goodD_i64{n:Nat}{c:List Value}(h:GoodD Tryd.prog (n+1) 3 c):∃x:Int,c=[.int .i64 x]/\inI x:=by
 unfold GoodD at h
 rw[show Tryd.prog.underlying 3=some (.int .i64) by kernel_rfl]at h
 obtain ⟨x,rfl,h1,h2⟩:=h
 refine ⟨x,rfl,?_⟩
 simp only[IntKind.min,IntKind.max,IntKind.signed,IntKind.bits]at h1 h2
 unfold inI
 simp at h1 h2
 omega
theorem goodVD_int{v:Value}(h:GoodVD Tryd.prog 6 3 v):∃x:Int,v = .int .i64 x/\inI x:=by
 unfold GoodVD at h
 rw[show Tryd.prog.underlying 3=some (.int .i64) by kernel_rfl]at h
 obtain ⟨x,h1,h2⟩:=goodD_i64 h
 exact ⟨x,by simpa using h1,h2⟩
theorem goodVD_ints{v:Value}(h:GoodVD Tryd.prog 6 22 v):∃L:List Int,v = .iface (L.length+1) (.agg ⟨L.flatMap intC⟩)/\L.length<=maxLen/\∀x∈L,inI x:=by
 unfold GoodVD at h
 rw[show Tryd.prog.underlying 22=some (.slice 3) by kernel_rfl]at h
 unfold GoodD at h
 rw[show Tryd.prog.underlying 22=some (.slice 3) by kernel_rfl]at h
 obtain ⟨len,ds,h1,h2,h3,h4⟩:=h
 obtain ⟨xs,e1,e2,e3⟩:=goodL_list (f:=intC) (q:=inI) (fun c hc=>goodD_i64 (n:=4) hc) len ds h4
 subst e1 e2
 exact ⟨xs,by simpa using h1,h3,e3⟩
theorem strAt {W : World} (hL : laidMet Tryd.prog [("polynya/hull.strengths", Rows.laid_polynya_hull_strengths)] W) : ∃ ty fz, W.heap[0]? = some (.cells (strL.map fun z => Value.int .i64 z).toArray ty fz) := by
 have hT:=Lib.tabIs_of_head (k:=.i64) (zs:=strL) (g:=0) (t:=168) (e:=3) (n:=6) (by kernel_rfl) (by kernel_rfl) (by kernel_rfl) (by kernel_rfl) (by kernel_rfl) (by kernel_rfl) hL
 unfold Lib.TabIs World.var? at hT
 rw [show Tryd.prog.globalNamed "polynya/hull.strengths" = some 0 by kernel_rfl] at hT
 simp only[Option.bind_some]at hT
 split at hT
 ·rename_i cs ty fz e
  obtain rfl:=Option.some.inj hT
  exact ⟨ty,fz,e⟩
 ·cases hT
noncomputable def laidWorld(os:Os):World :=
 let w0:=World.holding Tryd.prog os ⟨#[],#[],[]⟩
 { w0 with heap:=w0.heap.modify 0 fun
   | .cells _ t frozen => .cells (strL.map fun z=>Value.int .i64 z).toArray t frozen
   |o=>o }
theorem laidWorld_met (os : Os) (args : Array Value) : laidMet Tryd.prog [("polynya/hull.strengths", Rows.laid_polynya_hull_strengths)] ((laidWorld os).forCall (fun _ _ => 0) ⟨#[], args, []⟩).memory :=
 laidMet_of_run' 8 (by kernel_rfl) (by kernel_rfl)
theorem rn_dI(σ:Nat->Option Nat)(n:Nat)(l:List Int):rn σ 3 (.iface n (.agg ⟨l.flatMap intC⟩)) = .iface n (.agg ⟨l.flatMap intC⟩):=by
 show Value.iface _ (.agg ⟨(l.flatMap intC).map (rn σ 2)⟩)=_
 rw[List.map_congr_left (g:=fun v=>v) fun v hv =>?_,List.map_id']
 obtain ⟨c,_,h⟩:=List.mem_flatMap.1 hv
 obtain rfl:=List.mem_singleton.1 h
 rfl
end
end Go.Proofs.YtmecpfikljhjaaaDoor
