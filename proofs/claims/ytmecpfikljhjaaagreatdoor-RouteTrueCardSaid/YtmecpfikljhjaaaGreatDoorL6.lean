/- RouteTrue returns true for every input, and its arguments read behind the call as before: the tied card. The row lists the table of strengths. -/
import Derived.Test.YtmecpfikljhjaaaGreatDoorGU4gxL0
open Go Go.K
set_option maxRecDepth 1000000
set_option linter.unusedVariables false
set_option linter.unusedSimpArgs false
namespace Go.Proofs.YtmecpfikljhjaaaGreatDoor
open Go Go.K Go.ChangeShapes Go.WideShapes Go.ChangeAt Go.RowKit
noncomputable section
attribute [local irreducible] vF
theorem HQ(N M:List Int)(hq:Int){H:Heap}(h0:H[0]?=some bC):ad prog 6 [.iface (N.length+1) (.agg ⟨N.flatMap bc⟩),.iface (M.length+1) (.agg ⟨M.flatMap bc⟩),.int .i64 hq] H [] (fun v _=>v = .bool true) :=
 (gi (os:=[bC]) (ids:=[0]) (Eq.mpr (GX _ N M hq) (Hv N M hq)) rfl rfl rfl (fun _=>rfl) (by decide) ⟨h0,trivial⟩ rfl (by show [rn _ 3 _,rn _ 3 _,_]=_;rw[EC,EC];rfl)).post fun v H' h=>h.1
theorem oG(H:Heap)(vs:List Value)(h:j7 Tryz.prog 6 [57,57,3] vs)(h0:H[0]?=some bC):ad Tryz.prog 6 vs H [] (fun v _=>v = .bool true):=by
 obtain ⟨v,vs1,rfl,h1,g1⟩:=iQ h
 obtain ⟨w,vs2,rfl,h2,g2⟩:=iQ g1
 obtain ⟨x,vs3,rfl,h3,g3⟩:=iQ g2
 obtain rfl:=vX g3
 obtain ⟨N,rfl,_,_⟩:=lU h1
 obtain ⟨M,rfl,_,_⟩:=lU h2
 obtain ⟨q,rfl,hq⟩:=vW h3
 exact HQ N M q h0
theorem kh(H:Type)(enc:TypeId×Value->H)(W:World)(base:Nat)(args:Array Value)(ds gs:List (DataW H))(before:List MemPlace)
    (hval:∀(j:Nat) t v,Tryz.f6.params[j]?=some t->args[j]?=some v->Value.okWide Tryz.prog W .any base t v)
    (hW : DataW.Whole enc Tryz.prog Tryz.f6.params.toList Rows.routeTrueSpec.vars false W args.toList ds gs before) (hL : laidMet Tryz.prog [("polynya/hull.strengths", Rows.laid_polynya_hull_strengths)] W) :
    Calls Tryz.prog 6 args W fun e W' => ∃v,e = .returned v/\Rows.routeTrueSpec.post enc Tryz.prog Tryz.f6 false true false false W args v W':=by
  have hps:Tryz.f6.params.toList=[57,57,3]:=by kernel_rfl
  have hW':=hW
  obtain ⟨p,q,hA,hV,rfl,hfz,hnd⟩:=hW'
  rw[hps]at hA
  obtain ⟨ty,fz,hs⟩:=HB hL
  have hc:=u9 (P:=Tryz.prog) (enc:=enc) (N:=6) (n:=6) (b0:=base) (ts:=[57,57,3]) kD zI hs (by kernel_rfl)
    (fun j t v hj hv => hval j t v (by have : Tryz.f6.params.toList[j]? = some t := by rw [hps]; exact hj
                                       simpa using this) (by simpa using hv)) hA oG
  refine hc.mono fun e W' ⟨he,hb⟩=>⟨_,he,?_⟩
  obtain ⟨d1,d2,d3,rfl⟩:∃d1 d2 d3,ds=[d1,d2,d3]:=by
    obtain ⟨v0,vs0,d0,ds0,p0,q0,e1,rfl,rfl,h0,r0⟩:=trodAll_cons hA
    obtain ⟨v1,vs1,d1,ds1,p1,q1,e1,rfl,rfl,h1,r1⟩:=trodAll_cons r0
    obtain ⟨v2,vs2,d2,ds2,p2,q2,e1,rfl,rfl,h2,r2⟩:=trodAll_cons r1
    obtain ⟨_,rfl,_⟩:=trodAll_nil r2
    exact ⟨_,_,_,rfl⟩
  exact oI (f:=Tryz.f6) (T:=known) (tb:=4) kids (fun ht hu=>kR sized ht hu) (by rw[hps];intro t ht;exact of_decide_eq_true (List.all_eq_true.1 (show (([57,57,3]:List Nat).all fun t=>decide (t<(Tryz.prog).types.size))=true by kernel_rfl) t ht)) hW rfl hb (by kernel_rfl) (by kernel_rfl) rfl
theorem ma(os:Os)(started:os.Started)(H:Type)(enc:TypeId×Value->H) :
  ReturnsInHanded {} Tryz.checked os 6 .any (fun w args => (Rows.routeTrueSpec.pre enc Tryz.prog Tryz.f6 [] false w args /\ laidMet Tryz.prog [("polynya/hull.strengths", Rows.laid_polynya_hull_strengths)] w) /\ sizedMet enc Tryz.prog Tryz.f6 (OpenSpec.ofChange Rows.routeTrueSpec) false w args)
   (Rows.routeTrueSpec.post enc Tryz.prog Tryz.f6 false true false false):=by
 refine returnsInHanded_of_change_and (C := Tryz.checked) (X := fun w _ => laidMet Tryz.prog [("polynya/hull.strengths", Rows.laid_polynya_hull_strengths)] w) (fun _ _ _ hh h => h.of_heap hh) own started (by kernel_rfl) Tryz.func6
  (ChangeSpec.witness_at (enc := enc) (C := Tryz.checked) (os := os) (X := fun w _ => laidMet Tryz.prog [("polynya/hull.strengths", Rows.laid_polynya_hull_strengths)] w) false (pE os) #[.slice none 0 0, .slice none 0 0, .int .i64 0] 8 rfl (by kernel_rfl) (by kernel_rfl) (by kernel_rfl) (by kernel_rfl) (by kernel_rfl) (oK os _)) ?_
 intro W base args ds gs before hval hW _ _ hL _
 exact kh H enc W base args ds gs before hval hW hL
theorem sF:laidOutB Tryz.prog=true:=by kernel_rfl
theorem sE:mapsRowed Tryz.prog=true:=by kernel_rfl
theorem sD:Tryz.prog.inPlace 6=[]:=by kernel_rfl
theorem sC:Tryz.prog.unfollowed 6=true:=by kernel_rfl
theorem sB:Tryz.prog.recurses 6=true:=by kernel_rfl
theorem sA : Tryz.prog.varsNamed 6 = ["polynya/hull.strengths"] := by kernel_rfl
theorem lK:Tryz.prog.funcNamed Rows.routeTrueRow.func=some 6:=by kernel_rfl
theorem mc:joinedFacts Tryz.prog 6 Tryz.f6 Rows.routeTrueSpec Rows.routeTrueRow=true:=by
 unfold joinedFacts
 rw[sF,sE,sD,sC,sB,sA]
 kernel_rfl
theorem oD:Rows.RouteTrueSaid :=
 OpenClaim.holds_of_wide 6 Tryz.f6 rfl rfl rfl rfl rfl rfl rfl ⟨rfl,rfl,rfl,rfl,rfl⟩ rfl rfl rfl rfl rfl lK Tryz.func6 mc
  (of_decide_eq_true (by kernel_rfl)) (by unfold Func.isWrapper;first|(rw[if_pos (by decide +kernel)];kernel_rfl)|(rw[if_neg (by decide +kernel)];exact ⟨rfl,rfl⟩))
  (fun os started H enc _=>ma os started H enc)
theorem routeTrue_holds:Rows.RouteTrueCardSaid :=
 Claim7.holds_tied_plain_at .later [] [.data] true (true, "ea398fe0e9baf5bd6fadf6732648e1384b3c80dbb1f0b0744738c49895baddb4") false
  oD (fun _ h=>by cases h) (by kernel_rfl) (fun _ h=>by cases h) routeTrue_row_tie rfl ⟨rfl,rfl⟩ (by kernel_rfl) rfl
  (fun f fn hf hfn=>by
   obtain rfl:f=6:=Option.some.inj (lK.symm.trans hf) |>.symm
   obtain rfl:fn=Tryz.f6:=(Option.some.inj (Tryz.func6.symm.trans hfn)).symm
   exact ⟨by kernel_rfl,fun j t ht=>by
    have h3:t∈([57,57,3]:List TypeId):=by
     rw[<- show Tryz.f6.params.toList=[57,57,3] by kernel_rfl]
     exact List.mem_of_getElem? (i:=j) (by simpa using ht)
    have h4:([57,57,3]:List TypeId).all (fun t=>Tryz.prog.wantsStandIn t == false)=true:=by kernel_rfl
    exact beq_iff_eq.1 (List.all_eq_true.1 h4 t h3)⟩)
  (by kernel_rfl)
end
#print axioms routeTrue_holds
end Go.Proofs.YtmecpfikljhjaaaGreatDoor
