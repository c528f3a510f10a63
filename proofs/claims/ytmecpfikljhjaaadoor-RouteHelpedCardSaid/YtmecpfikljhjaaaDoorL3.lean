/- RouteHelped returns true for every input, and its arguments read behind the call as before: the tied card. The row lists the table of strengths. -/
import Derived.Test.YtmecpfikljhjaaaDoorGA15xL0
open Go Go.K
set_option maxRecDepth 1000000
set_option linter.unusedVariables false
set_option linter.unusedSimpArgs false
namespace Go.Proofs.YtmecpfikljhjaaaDoor
open Go Go.K Go.ChangeShapes Go.WideShapes Go.ChangeAt Go.RowKit
noncomputable section
attribute [local irreducible] vF
theorem kHelped(N:List Int){H:Heap}(h0:H[0]?=some strO):KCall prog 3 [.iface (N.length+1) (.agg ⟨N.flatMap intC⟩)] H [] (fun v _=>v = .bool true) :=
 (valV (os:=[strO]) (ids:=[0]) (Eq.mpr (Ehelped _ N) (helpedR N)) rfl rfl rfl (fun _=>rfl) (by decide) ⟨h0,trivial⟩ rfl (by show [rn _ 3 _]=_;rw[rn_dI])).post fun v H' h=>h.1
theorem routeHelpedCall(H:Heap)(vs:List Value)(h:GoodAD Tryd.prog 6 [22] vs)(h0:H[0]?=some strO):KCall Tryd.prog 3 vs H [] (fun v _=>v = .bool true):=by
 obtain ⟨v,vs1,rfl,h1,g1⟩:=goodAD_cons h
 obtain rfl:=goodAD_nil g1
 obtain ⟨N,rfl,_,_⟩:=goodVD_ints h1
 exact kHelped N h0
theorem routeHelpedContract(H:Type)(enc:TypeId×Value->H)(W:World)(base:Nat)(args:Array Value)(ds gs:List (DataW H))(before:List MemPlace)
    (hval:∀(j:Nat) t v,Tryd.f3.params[j]?=some t->args[j]?=some v->Value.okWide Tryd.prog W .any base t v)
    (hW : DataW.Whole enc Tryd.prog Tryd.f3.params.toList Rows.routeHelpedSpec.vars false W args.toList ds gs before) (hL : laidMet Tryd.prog [("polynya/hull.strengths", Rows.laid_polynya_hull_strengths)] W) :
    Calls Tryd.prog 3 args W fun e W' => ∃v,e = .returned v/\Rows.routeHelpedSpec.post enc Tryd.prog Tryd.f3 false true false false W args v W':=by
  have hps:Tryd.f3.params.toList=[22]:=by kernel_rfl
  have hW':=hW
  obtain ⟨p,q,hA,hV,rfl,hfz,hnd⟩:=hW'
  rw[hps]at hA
  obtain ⟨ty,fz,hs⟩:=strAt hL
  have hc:=law_calls4 (P:=Tryd.prog) (enc:=enc) (N:=3) (n:=6) (b0:=base) (ts:=[22]) glob1 strL hs (by kernel_rfl)
    (fun j t v hj hv => hval j t v (by have : Tryd.f3.params.toList[j]? = some t := by rw [hps]; exact hj
                                       simpa using this) (by simpa using hv)) hA routeHelpedCall
  refine hc.mono fun e W' ⟨he,hb⟩=>⟨_,he,?_⟩
  obtain ⟨d1,rfl⟩:∃d1,ds=[d1]:=by
    obtain ⟨v0,vs0,d0,ds0,p0,q0,e1,rfl,rfl,h0,r0⟩:=trodAll_cons hA
    obtain ⟨_,rfl,_⟩:=trodAll_nil r0
    exact ⟨_,rfl⟩
  exact post_of_below (f:=Tryd.f3) (T:=known) (tb:=4) kids (fun ht hu=>slicesSized_spec sized ht hu) (by rw[hps];intro t ht;exact of_decide_eq_true (List.all_eq_true.1 (show (([22]:List Nat).all fun t=>decide (t<(Tryd.prog).types.size))=true by kernel_rfl) t ht)) hW rfl hb (by kernel_rfl) (by kernel_rfl) rfl
theorem routeHelpedLifted(os:Os)(started:os.Started)(H:Type)(enc:TypeId×Value->H) :
  ReturnsInHanded {} Tryd.checked os 3 .any (fun w args => (Rows.routeHelpedSpec.pre enc Tryd.prog Tryd.f3 [] false w args /\ laidMet Tryd.prog [("polynya/hull.strengths", Rows.laid_polynya_hull_strengths)] w) /\ sizedMet enc Tryd.prog Tryd.f3 (OpenSpec.ofChange Rows.routeHelpedSpec) false w args)
   (Rows.routeHelpedSpec.post enc Tryd.prog Tryd.f3 false true false false):=by
 refine returnsInHanded_of_change_and (C := Tryd.checked) (X := fun w _ => laidMet Tryd.prog [("polynya/hull.strengths", Rows.laid_polynya_hull_strengths)] w) (fun _ _ _ hh h => h.of_heap hh) own started (by kernel_rfl) Tryd.func3
  (ChangeSpec.witness_at (enc := enc) (C := Tryd.checked) (os := os) (X := fun w _ => laidMet Tryd.prog [("polynya/hull.strengths", Rows.laid_polynya_hull_strengths)] w) false (laidWorld os) #[.slice none 0 0] 8 rfl (by kernel_rfl) (by kernel_rfl) (by kernel_rfl) (by kernel_rfl) (by kernel_rfl) (laidWorld_met os _)) ?_
 intro W base args ds gs before hval hW _ _ hL _
 exact routeHelpedContract H enc W base args ds gs before hval hW hL
theorem routeHelpedJ1:laidOutB Tryd.prog=true:=by kernel_rfl
theorem routeHelpedJ2:mapsRowed Tryd.prog=true:=by kernel_rfl
theorem routeHelpedJ3:Tryd.prog.inPlace 3=[]:=by kernel_rfl
theorem routeHelpedJ4:Tryd.prog.unfollowed 3=true:=by kernel_rfl
theorem routeHelpedJ5:Tryd.prog.recurses 3=true:=by kernel_rfl
theorem routeHelpedJ6 : Tryd.prog.varsNamed 3 = ["polynya/hull.strengths"] := by kernel_rfl
theorem routeHelpedJ7:Tryd.prog.funcNamed Rows.routeHelpedRow.func=some 3:=by kernel_rfl
theorem routeHelpedJoined:joinedFacts Tryd.prog 3 Tryd.f3 Rows.routeHelpedSpec Rows.routeHelpedRow=true:=by
 unfold joinedFacts
 rw[routeHelpedJ1,routeHelpedJ2,routeHelpedJ3,routeHelpedJ4,routeHelpedJ5,routeHelpedJ6]
 kernel_rfl
theorem routeHelped_row:Rows.RouteHelpedSaid :=
 OpenClaim.holds_of_wide 3 Tryd.f3 rfl rfl rfl rfl rfl rfl rfl ⟨rfl,rfl,rfl,rfl,rfl⟩ rfl rfl rfl rfl rfl routeHelpedJ7 Tryd.func3 routeHelpedJoined
  (of_decide_eq_true (by kernel_rfl)) (by unfold Func.isWrapper;first|(rw[if_pos (by decide +kernel)];kernel_rfl)|(rw[if_neg (by decide +kernel)];exact ⟨rfl,rfl⟩))
  (fun os started H enc _=>routeHelpedLifted os started H enc)
theorem routeHelped_holds:Rows.RouteHelpedCardSaid :=
 Claim7.holds_tied_plain_at .later [] [.data] true (true, "9f2038168a6ea5cbb8132f05dd5e9e728dbbf8d9a0b8a53257e9158a6c5ed0eb") false
  routeHelped_row (fun _ h=>by cases h) (by kernel_rfl) (fun _ h=>by cases h) routeHelped_row_tie rfl ⟨rfl,rfl⟩ (by kernel_rfl) rfl
  (fun f fn hf hfn=>by
   obtain rfl:f=3:=Option.some.inj (routeHelpedJ7.symm.trans hf) |>.symm
   obtain rfl:fn=Tryd.f3:=(Option.some.inj (Tryd.func3.symm.trans hfn)).symm
   exact ⟨by kernel_rfl,fun j t ht=>by
    have h3:t∈([22]:List TypeId):=by
     rw[<- show Tryd.f3.params.toList=[22] by kernel_rfl]
     exact List.mem_of_getElem? (i:=j) (by simpa using ht)
    have h4:([22]:List TypeId).all (fun t=>Tryd.prog.wantsStandIn t == false)=true:=by kernel_rfl
    exact beq_iff_eq.1 (List.all_eq_true.1 h4 t h3)⟩)
  (by kernel_rfl)
end
#print axioms routeHelped_holds
end Go.Proofs.YtmecpfikljhjaaaDoor
