/- RouteRefused returns true for every input, and its arguments read behind the call as before: the tied card. The row lists the table of strengths. -/
import Derived.Test.YtmecpfikljhjaaaDoorGT10gxT10
import Derived.Test.YtmecpfikljhjaaaDoorGM4gxL0
open Go Go.K
set_option maxRecDepth 1000000
set_option linter.unusedVariables false
set_option linter.unusedSimpArgs false
namespace Go.Proofs.YtmecpfikljhjaaaDoor
open Go Go.K Go.ChangeShapes Go.WideShapes Go.ChangeAt Go.RowKit
noncomputable section
attribute [local irreducible] vF
theorem AU(N M:List Int)(hq:Int){H:Heap}(h0:H[0]?=some bF):ae prog 5 [.iface (N.length+1) (.agg ⟨N.flatMap aq⟩),.iface (M.length+1) (.agg ⟨M.flatMap aq⟩),.int .i64 hq] H [] (fun v _=>v = .bool true) :=
 (jU (os:=[bF]) (ids:=[0]) (Eq.mpr (Cu _ N M hq) (zY N M hq)) rfl rfl rfl (fun _=>rfl) (by decide) ⟨h0,trivial⟩ rfl (by show [rn _ 3 _,rn _ 3 _,_]=_;rw[dP,dP];rfl)).post fun v H' h=>h.1
theorem kT(H:Heap)(vs:List Value)(h:jP Tryd.prog 6 [22,22,3] vs)(h0:H[0]?=some bF):ae Tryd.prog 5 vs H [] (fun v _=>v = .bool true):=by
 obtain ⟨v,vs1,rfl,h1,g1⟩:=iB h
 obtain ⟨w,vs2,rfl,h2,g2⟩:=iB g1
 obtain ⟨x,vs3,rfl,h3,g3⟩:=iB g2
 obtain rfl:=vW g3
 obtain ⟨N,rfl,_,_⟩:=lP h1
 obtain ⟨M,rfl,_,_⟩:=lP h2
 obtain ⟨q,rfl,hq⟩:=vV h3
 exact AU N M q h0
theorem ij(H:Type)(enc:TypeId×Value->H)(W:World)(base:Nat)(args:Array Value)(ds gs:List (DataW H))(before:List MemPlace)
    (hval:∀(j:Nat) t v,Tryd.f5.params[j]?=some t->args[j]?=some v->Value.okWide Tryd.prog W .any base t v)
    (hW : DataW.Whole enc Tryd.prog Tryd.f5.params.toList Rows.routeRefusedSpec.vars false W args.toList ds gs before) (hL : laidMet Tryd.prog [("polynya/hull.strengths", Rows.laid_polynya_hull_strengths)] W) :
    Calls Tryd.prog 5 args W fun e W' => ∃v,e = .returned v/\Rows.routeRefusedSpec.post enc Tryd.prog Tryd.f5 false true false false W args v W':=by
  have hps:Tryd.f5.params.toList=[22,22,3]:=by kernel_rfl
  have hW':=hW
  obtain ⟨p,q,hA,hV,rfl,hfz,hnd⟩:=hW'
  rw[hps]at hA
  obtain ⟨ty,fz,hs⟩:=Hf hL
  have hc:=u7 (P:=Tryd.prog) (enc:=enc) (N:=5) (n:=6) (b0:=base) (ts:=[22,22,3]) kA zJ hs (by kernel_rfl)
    (fun j t v hj hv => hval j t v (by have : Tryd.f5.params.toList[j]? = some t := by rw [hps]; exact hj
                                       simpa using this) (by simpa using hv)) hA kT
  refine hc.mono fun e W' ⟨he,hb⟩=>⟨_,he,?_⟩
  obtain ⟨d1,d2,d3,rfl⟩:∃d1 d2 d3,ds=[d1,d2,d3]:=by
    obtain ⟨v0,vs0,d0,ds0,p0,q0,e1,rfl,rfl,h0,r0⟩:=trodAll_cons hA
    obtain ⟨v1,vs1,d1,ds1,p1,q1,e1,rfl,rfl,h1,r1⟩:=trodAll_cons r0
    obtain ⟨v2,vs2,d2,ds2,p2,q2,e1,rfl,rfl,h2,r2⟩:=trodAll_cons r1
    obtain ⟨_,rfl,_⟩:=trodAll_nil r2
    exact ⟨_,_,_,rfl⟩
  exact oF (f:=Tryd.f5) (T:=known) (tb:=4) kids (fun ht hu=>kP sized ht hu) (by rw[hps];intro t ht;exact aR (List.all_eq_true.1 (show (([22,22,3]:List Nat).all fun t=>decide (t<(Tryd.prog).types.size))=true by kernel_rfl) t ht)) hW rfl hb (by kernel_rfl) (by kernel_rfl) rfl
theorem jv(os:Os)(started:os.Started)(H:Type)(enc:TypeId×Value->H) :
  ReturnsInHanded {} Tryd.checked os 5 .any (fun w args => (Rows.routeRefusedSpec.pre enc Tryd.prog Tryd.f5 [] false w args /\ laidMet Tryd.prog [("polynya/hull.strengths", Rows.laid_polynya_hull_strengths)] w) /\ sizedMet enc Tryd.prog Tryd.f5 (OpenSpec.ofChange Rows.routeRefusedSpec) false w args)
   (Rows.routeRefusedSpec.post enc Tryd.prog Tryd.f5 false true false false):=by
 refine returnsInHanded_of_change_and (C := Tryd.checked) (X := fun w _ => laidMet Tryd.prog [("polynya/hull.strengths", Rows.laid_polynya_hull_strengths)] w) (fun _ _ _ hh h => h.of_heap hh) own started (by kernel_rfl) Tryd.func5
  (ChangeSpec.witness_at (enc := enc) (C := Tryd.checked) (os := os) (X := fun w _ => laidMet Tryd.prog [("polynya/hull.strengths", Rows.laid_polynya_hull_strengths)] w) false (pz os) #[.slice none 0 0, .slice none 0 0, .int .i64 0] 8 rfl (by kernel_rfl) (by kernel_rfl) (by kernel_rfl) (by kernel_rfl) (by kernel_rfl) (oI os _)) ?_
 intro W base args ds gs before hval hW _ _ hL _
 exact ij H enc W base args ds gs before hval hW hL
theorem mO:laidOutB Tryd.prog=true:=by kernel_rfl
theorem mN:mapsRowed Tryd.prog=true:=by kernel_rfl
theorem mM:Tryd.prog.inPlace 5=[]:=by kernel_rfl
theorem mL:Tryd.prog.unfollowed 5=true:=by kernel_rfl
theorem mK:Tryd.prog.recurses 5=true:=by kernel_rfl
theorem mJ : Tryd.prog.varsNamed 5 = ["polynya/hull.strengths"] := by kernel_rfl
theorem ii:Tryd.prog.funcNamed Rows.routeRefusedRow.func=some 5:=by kernel_rfl
theorem jw:joinedFacts Tryd.prog 5 Tryd.f5 Rows.routeRefusedSpec Rows.routeRefusedRow=true:=by
 unfold joinedFacts
 rw[mO,mN,mM,mL,mK,mJ]
 kernel_rfl
theorem kS:Rows.RouteRefusedSaid :=
 OpenClaim.holds_of_wide 5 Tryd.f5 rfl rfl rfl rfl rfl rfl rfl ⟨rfl,rfl,rfl,rfl,rfl⟩ rfl rfl rfl rfl rfl ii Tryd.func5 jw
  (aR (by kernel_rfl)) (by unfold Func.isWrapper;first|(rw[if_pos (by decide +kernel)];kernel_rfl)|(rw[if_neg (by decide +kernel)];exact ⟨rfl,rfl⟩))
  (fun os started H enc _=>jv os started H enc)
theorem routeRefused_holds:Rows.RouteRefusedCardSaid :=
 Claim7.holds_tied_plain_at .later [] [.data] true (true, "9f2038168a6ea5cbb8132f05dd5e9e728dbbf8d9a0b8a53257e9158a6c5ed0eb") false
  kS (fun _ h=>by cases h) (by kernel_rfl) (fun _ h=>by cases h) routeRefused_row_tie rfl ⟨rfl,rfl⟩ (by kernel_rfl) rfl
  (fun f fn hf hfn=>by
   obtain rfl:f=5:=Option.some.inj (ii.symm.trans hf) |>.symm
   obtain rfl:fn=Tryd.f5:=(Option.some.inj (Tryd.func5.symm.trans hfn)).symm
   exact ⟨by kernel_rfl,fun j t ht=>by
    have h3:t∈([22,22,3]:List TypeId):=by
     rw[<- show Tryd.f5.params.toList=[22,22,3] by kernel_rfl]
     exact List.mem_of_getElem? (i:=j) (by simpa using ht)
    have h4:([22,22,3]:List TypeId).all (fun t=>Tryd.prog.wantsStandIn t == false)=true:=by kernel_rfl
    exact beq_iff_eq.1 (List.all_eq_true.1 h4 t h3)⟩)
  (by kernel_rfl)
end
#print axioms routeRefused_holds
end Go.Proofs.YtmecpfikljhjaaaDoor
