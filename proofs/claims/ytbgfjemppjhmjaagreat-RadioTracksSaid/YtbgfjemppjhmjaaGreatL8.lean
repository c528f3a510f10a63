/- RadioTracks returns true for every input, and its arguments read behind the call as before. No condition. -/
import Derived.Test.YtbgfjemppjhmjaaGreatGP46xL0
import Derived.Test.YtbgfjemppjhmjaaGreatGR0dxL0r
open Go Go.K
set_option maxRecDepth 1000000
set_option linter.unusedVariables false
set_option linter.unusedSimpArgs false
namespace Go.Proofs.YtbgfjemppjhmjaaGreat
open Go Go.K Go.ChangeShapes Go.WideShapes Go.ChangeAt Go.RowKit
noncomputable section
attribute [local irreducible] vF
theorem nS(H:Heap)(lo:Nat)(vs:List Value)(h:lJ Tryz.prog H 6 lo [90,3,3,3,3,22,3] vs):ad Tryz.prog 9 vs H [] (fun v _=>v = .bool true):=by
 obtain ⟨b1,v1,vs1,rfl,h1,g1⟩:=eD h
 obtain ⟨b2,v2,vs2,rfl,h2,g2⟩:=eD g1
 obtain ⟨b3,v3,vs3,rfl,h3,g3⟩:=eD g2
 obtain ⟨b4,v4,vs4,rfl,h4,g4⟩:=eD g3
 obtain ⟨b5,v5,vs5,rfl,h5,g5⟩:=eD g4
 obtain ⟨b6,v6,vs6,rfl,h6,g6⟩:=eD g5
 obtain ⟨b7,v7,vs7,rfl,h7,g7⟩:=eD g6
 obtain rfl:=xN g7
 have l2:=kC h2
 have l3:=kC h3
 have l4:=kC h4
 have l5:=kC h5
 obtain ⟨w,x,va,p,vs,a,ss,m1,m2,m3,rfl,qa,qs,o1,o2⟩:=Ay h1
 obtain ⟨f,rfl,_⟩:=ig h2
 obtain ⟨t,rfl,_⟩:=ig h3
 obtain ⟨m,rfl,_⟩:=ig h4
 obtain ⟨e,rfl,_⟩:=ig h5
 obtain ⟨c,qc⟩:=xH h6
 obtain ⟨k,rfl,hk⟩:=ig h7
 have la:=qa.1
 have ls:=qs.1
 obtain ⟨i,wa,ea,na⟩:=qa.pick 0 3 (by decide)
 obtain ⟨j,ws,es,ns⟩:=qs.pick 1 3 (by decide)
 obtain ⟨l,wc,ec,nc⟩:=qc.pick 2 3 (by decide)
 have hij:i≠j:=by omega
 have hil:i≠l:=by omega
 have hjl:j≠l:=by omega
 have hnd:[i,j,l].Nodup:=by simp[hij,hil,hjl]
 exact ad.uJ (List.replicate 3 (.cells false 0 [])) ((xD w x a p ss f t m e c k (by unfold inI at hk;omega) hnd ea es ec).post fun v H' h=>h.1) rfl
  (fX (xs:=[.agg #[.int .i64 w,.int .i64 x,va,.int .i64 p,vs],.int .i64 f,.int .i64 t,.int .i64 m,.int .i64 e,v6,.int .i64 k]) (ys:=[db w x a p ss i j,.int .i64 f,.int .i64 t,.int .i64 m,.int .i64 e,slQ l 2 c.length,.int .i64 k])
   (ak (b9 (ak (aa _) (ak (aa _) (ak wa (ak (aa _) (ak ws ac)))))) (ak (aa _) (ak (aa _) (ak (aa _) (ak (aa _) (ak wc (ak (aa _) ac)))))))).2
theorem kK(H:Type)(enc:TypeId×Value->H)(W:World)(base:Nat)(args:Array Value)(ds gs:List (DataW H))(before:List MemPlace)
    (hval:∀(j:Nat) t v,Tryz.f9.params[j]?=some t->args[j]?=some v->Value.okWide Tryz.prog W .any base t v)
    (hW:DataW.Whole enc Tryz.prog Tryz.f9.params.toList Rows.radioTracksSpec.vars false W args.toList ds gs before) :
    Calls Tryz.prog 9 args W fun e W' => ∃v,e = .returned v/\Rows.radioTracksSpec.post enc Tryz.prog Tryz.f9 false true false false W args v W':=by
  have hps:Tryz.f9.params.toList=[90,3,3,3,3,22,3]:=by kernel_rfl
  have hW':=hW
  obtain ⟨p,q,hA,hV,rfl,hfz,hnd⟩:=hW'
  rw[hps]at hA
  have hc:=xe (P:=Tryz.prog) (enc:=enc) (N:=9) (n:=6) (b0:=base) (ts:=[90,3,3,3,3,22,3]) (by rw[show (Tryz.prog).globals.size=0 from dx];exact Nat.zero_le _) (by kernel_rfl)
    (fun j t v hj hv => hval j t v (by have : Tryz.f9.params.toList[j]? = some t := by rw [hps]; exact hj
                                       simpa using this) (by simpa using hv)) hA nS
  refine hc.mono fun e W' ⟨he,hb⟩=>⟨_,he,?_⟩
  obtain ⟨d1,d2,d3,d4,d5,d6,d7,rfl⟩:∃d1 d2 d3 d4 d5 d6 d7,ds=[d1,d2,d3,d4,d5,d6,d7]:=by
    obtain ⟨v0,vs0,d0,ds0,p0,q0,e1,rfl,rfl,h0,r0⟩:=trodAll_cons hA
    obtain ⟨v1,vs1,d1,ds1,p1,q1,e1,rfl,rfl,h1,r1⟩:=trodAll_cons r0
    obtain ⟨v2,vs2,d2,ds2,p2,q2,e1,rfl,rfl,h2,r2⟩:=trodAll_cons r1
    obtain ⟨v3,vs3,d3,ds3,p3,q3,e1,rfl,rfl,h3,r3⟩:=trodAll_cons r2
    obtain ⟨v4,vs4,d4,ds4,p4,q4,e1,rfl,rfl,h4,r4⟩:=trodAll_cons r3
    obtain ⟨v5,vs5,d5,ds5,p5,q5,e1,rfl,rfl,h5,r5⟩:=trodAll_cons r4
    obtain ⟨v6,vs6,d6,ds6,p6,q6,e1,rfl,rfl,h6,r6⟩:=trodAll_cons r5
    obtain ⟨_,rfl,_⟩:=trodAll_nil r6
    exact ⟨_,_,_,_,_,_,_,rfl⟩
  exact q8 (f:=Tryz.f9) (T:=known) (tb:=4) kids (fun ht hu=>my sized ht hu) (by rw[hps];intro t ht;exact av (List.all_eq_true.1 (show (([90,3,3,3,3,22,3]:List Nat).all fun t=>decide (t<(Tryz.prog).types.size))=true by kernel_rfl) t ht)) hW rfl hb (by kernel_rfl) (by kernel_rfl) rfl
theorem lS(os:Os)(started:os.Started)(H:Type)(enc:TypeId×Value->H) :
  ReturnsInHanded {} Tryz.checked os 9 .any (Rows.radioTracksSpec.pre6 enc Tryz.prog Tryz.f9 Rows.radioTracksRow.domain false) (Rows.radioTracksSpec.post enc Tryz.prog Tryz.f9 false true false false):=by
 refine returnsInHanded_of_change (C:=Tryz.checked) own started (by kernel_rfl) Tryz.func9
  (ChangeSpec.witness6 (enc:=enc) (C:=Tryz.checked) false ⟨#[],#[.agg #[.int .i64 0,.int .i64 0,.slice none 0 0,.int .i64 0,.slice none 0 0],.int .i64 0,.int .i64 0,.int .i64 0,.int .i64 0,.slice none 0 0,.int .i64 0],[]⟩ 8 (by kernel_rfl) (by kernel_rfl) (by kernel_rfl) (by kernel_rfl)) ?_
 intro W base args ds gs before hval hW _ _
 exact kK H enc W base args ds gs before hval hW
theorem qY:laidOutB Tryz.prog=true:=by kernel_rfl
theorem qX:mapsRowed Tryz.prog=true:=by kernel_rfl
theorem qW:Tryz.prog.inPlace 9=[]:=by kernel_rfl
theorem qV:Tryz.prog.unfollowed 9=true:=by kernel_rfl
theorem qU:Tryz.prog.recurses 9=true:=by kernel_rfl
theorem qT:Tryz.prog.varsNamed 9=[]:=by kernel_rfl
theorem qS:Tryz.prog.funcNamed Rows.radioTracksRow.func=some 9:=by kernel_rfl
theorem lT:joinedFacts Tryz.prog 9 Tryz.f9 Rows.radioTracksSpec Rows.radioTracksRow=true:=by
 unfold joinedFacts
 rw[qY,qX,qW,qV,qU,qT]
 kernel_rfl
theorem radioTracks_holds:Rows.RadioTracksSaid :=
 OpenClaim.holds_of_wide 9 Tryz.f9 rfl rfl rfl rfl rfl rfl rfl ⟨rfl,rfl,rfl,rfl,rfl⟩ rfl rfl rfl rfl rfl qS Tryz.func9 lT
  (av (by kernel_rfl)) (by unfold Func.isWrapper;first|(rw[if_pos (by decide +kernel)];kernel_rfl)|(rw[if_neg (by decide +kernel)];exact ⟨rfl,rfl⟩))
  (fun os started H enc _=>lS os started H enc)
end
#print axioms radioTracks_holds
end Go.Proofs.YtbgfjemppjhmjaaGreat
