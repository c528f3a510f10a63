/- RouteLeast returns true for every input, and its arguments read behind the call as before: the tied card. The row lists the table of strengths. -/
import Derived.Test.YtmecpfikljhjaaaDoorGL1xL0
open Go Go.K
set_option maxRecDepth 1000000
set_option linter.unusedVariables false
set_option linter.unusedSimpArgs false
namespace Go.Proofs.YtmecpfikljhjaaaDoor
open Go Go.K Go.ChangeShapes Go.WideShapes Go.ChangeAt Go.RowKit
noncomputable section
attribute [local irreducible] vF
theorem kLeast(N M:List Int)(hq:Int){H:Heap}(h0:H[0]?=some strO):KCall prog 4 [.iface (N.length+1) (.agg ⟨N.flatMap intC⟩),.iface (M.length+1) (.agg ⟨M.flatMap intC⟩),.int .i64 hq] H [] (fun v _=>v = .bool true) :=
 (valV (os:=[strO]) (ids:=[0]) (Eq.mpr (Eleast _ N M hq) (leastR N M hq)) rfl rfl rfl (fun _=>rfl) (by decide) ⟨h0,trivial⟩ rfl (by show [rn _ 3 _,rn _ 3 _,_]=_;rw[rn_dI,rn_dI];rfl)).post fun v H' h=>h.1
theorem routeLeastCall(H:Heap)(vs:List Value)(h:GoodAD Tryd.prog 6 [22,22,3] vs)(h0:H[0]?=some strO):KCall Tryd.prog 4 vs H [] (fun v _=>v = .bool true):=by
 obtain ⟨v,vs1,rfl,h1,g1⟩:=goodAD_cons h
 obtain ⟨w,vs2,rfl,h2,g2⟩:=goodAD_cons g1
 obtain ⟨x,vs3,rfl,h3,g3⟩:=goodAD_cons g2
 obtain rfl:=goodAD_nil g3
 obtain ⟨N,rfl,_,_⟩:=goodVD_ints h1
 obtain ⟨M,rfl,_,_⟩:=goodVD_ints h2
 obtain ⟨q,rfl,hq⟩:=goodVD_int h3
 exact kLeast N M q h0
theorem routeLeastContract(H:Type)(enc:TypeId×Value->H)(W:World)(base:Nat)(args:Array Value)(ds gs:List (DataW H))(before:List MemPlace)
    (hval:∀(j:Nat) t v,Tryd.f4.params[j]?=some t->args[j]?=some v->Value.okWide Tryd.prog W .any base t v)
    (hW : DataW.Whole enc Tryd.prog Tryd.f4.params.toList Rows.routeLeastSpec.vars false W args.toList ds gs before) (hL : laidMet Tryd.prog [("polynya/hull.strengths", Rows.laid_polynya_hull_strengths)] W) :
    Calls Tryd.prog 4 args W fun e W' => ∃v,e = .returned v/\Rows.routeLeastSpec.post enc Tryd.prog Tryd.f4 false true false false W args v W':=by
  have hps:Tryd.f4.params.toList=[22,22,3]:=by kernel_rfl
  have hW':=hW
  obtain ⟨p,q,hA,hV,rfl,hfz,hnd⟩:=hW'
  rw[hps]at hA
  obtain ⟨ty,fz,hs⟩:=strAt hL
  have hc:=law_calls4 (P:=Tryd.prog) (enc:=enc) (N:=4) (n:=6) (b0:=base) (ts:=[22,22,3]) glob1 strL hs (by kernel_rfl)
    (fun j t v hj hv => hval j t v (by have : Tryd.f4.params.toList[j]? = some t := by rw [hps]; exact hj
                                       simpa using this) (by simpa using hv)) hA routeLeastCall
  refine hc.mono fun e W' ⟨he,hb⟩=>⟨_,he,?_⟩
  obtain ⟨d1,d2,d3,rfl⟩:∃d1 d2 d3,ds=[d1,d2,d3]:=by
    obtain ⟨v0,vs0,d0,ds0,p0,q0,e1,rfl,rfl,h0,r0⟩:=trodAll_cons hA
    obtain ⟨v1,vs1,d1,ds1,p1,q1,e1,rfl,rfl,h1,r1⟩:=trodAll_cons r0
    obtain ⟨v2,vs2,d2,ds2,p2,q2,e1,rfl,rfl,h2,r2⟩:=trodAll_cons r1
    obtain ⟨_,rfl,_⟩:=trodAll_nil r2
    exact ⟨_,_,_,rfl⟩
  exact post_of_below (f:=Tryd.f4) (T:=known) (tb:=4) kids (fun ht hu=>slicesSized_spec sized ht hu) (by rw[hps];intro t ht;exact of_decide_eq_true (List.all_eq_true.1 (show (([22,22,3]:List Nat).all fun t=>decide (t<(Tryd.prog).types.size))=true by kernel_rfl) t ht)) hW rfl hb (by kernel_rfl) (by kernel_rfl) rfl
theorem routeLeastLifted(os:Os)(started:os.Started)(H:Type)(enc:TypeId×Value->H) :
  ReturnsInHanded {} Tryd.checked os 4 .any (fun w args => (Rows.routeLeastSpec.pre enc Tryd.prog Tryd.f4 [] false w args /\ laidMet Tryd.prog [("polynya/hull.strengths", Rows.laid_polynya_hull_strengths)] w) /\ sizedMet enc Tryd.prog Tryd.f4 (OpenSpec.ofChange Rows.routeLeastSpec) false w args)
   (Rows.routeLeastSpec.post enc Tryd.prog Tryd.f4 false true false false):=by
 refine returnsInHanded_of_change_and (C := Tryd.checked) (X := fun w _ => laidMet Tryd.prog [("polynya/hull.strengths", Rows.laid_polynya_hull_strengths)] w) (fun _ _ _ hh h => h.of_heap hh) own started (by kernel_rfl) Tryd.func4
  (ChangeSpec.witness_at (enc := enc) (C := Tryd.checked) (os := os) (X := fun w _ => laidMet Tryd.prog [("polynya/hull.strengths", Rows.laid_polynya_hull_strengths)] w) false (laidWorld os) #[.slice none 0 0, .slice none 0 0, .int .i64 0] 8 rfl (by kernel_rfl) (by kernel_rfl) (by kernel_rfl) (by kernel_rfl) (by kernel_rfl) (laidWorld_met os _)) ?_
 intro W base args ds gs before hval hW _ _ hL _
 exact routeLeastContract H enc W base args ds gs before hval hW hL
theorem routeLeastJ1:laidOutB Tryd.prog=true:=by kernel_rfl
theorem routeLeastJ2:mapsRowed Tryd.prog=true:=by kernel_rfl
theorem routeLeastJ3:Tryd.prog.inPlace 4=[]:=by kernel_rfl
theorem routeLeastJ4:Tryd.prog.unfollowed 4=true:=by kernel_rfl
theorem routeLeastJ5:Tryd.prog.recurses 4=true:=by kernel_rfl
theorem routeLeastJ6 : Tryd.prog.varsNamed 4 = ["polynya/hull.strengths"] := by kernel_rfl
theorem routeLeastJ7:Tryd.prog.funcNamed Rows.routeLeastRow.func=some 4:=by kernel_rfl
theorem routeLeastJoined:joinedFacts Tryd.prog 4 Tryd.f4 Rows.routeLeastSpec Rows.routeLeastRow=true:=by
 unfold joinedFacts
 rw[routeLeastJ1,routeLeastJ2,routeLeastJ3,routeLeastJ4,routeLeastJ5,routeLeastJ6]
 kernel_rfl
theorem routeLeast_row:Rows.RouteLeastSaid :=
 OpenClaim.holds_of_wide 4 Tryd.f4 rfl rfl rfl rfl rfl rfl rfl ⟨rfl,rfl,rfl,rfl,rfl⟩ rfl rfl rfl rfl rfl routeLeastJ7 Tryd.func4 routeLeastJoined
  (of_decide_eq_true (by kernel_rfl)) (by unfold Func.isWrapper;first|(rw[if_pos (by decide +kernel)];kernel_rfl)|(rw[if_neg (by decide +kernel)];exact ⟨rfl,rfl⟩))
  (fun os started H enc _=>routeLeastLifted os started H enc)
theorem routeLeast_holds:Rows.RouteLeastCardSaid :=
 Claim7.holds_tied_plain_at .later [] [.data] true (true, "9f2038168a6ea5cbb8132f05dd5e9e728dbbf8d9a0b8a53257e9158a6c5ed0eb") false
  routeLeast_row (fun _ h=>by cases h) (by kernel_rfl) (fun _ h=>by cases h) routeLeast_row_tie rfl ⟨rfl,rfl⟩ (by kernel_rfl) rfl
  (fun f fn hf hfn=>by
   obtain rfl:f=4:=Option.some.inj (routeLeastJ7.symm.trans hf) |>.symm
   obtain rfl:fn=Tryd.f4:=(Option.some.inj (Tryd.func4.symm.trans hfn)).symm
   exact ⟨by kernel_rfl,fun j t ht=>by
    have h3:t∈([22,22,3]:List TypeId):=by
     rw[<- show Tryd.f4.params.toList=[22,22,3] by kernel_rfl]
     exact List.mem_of_getElem? (i:=j) (by simpa using ht)
    have h4:([22,22,3]:List TypeId).all (fun t=>Tryd.prog.wantsStandIn t == false)=true:=by kernel_rfl
    exact beq_iff_eq.1 (List.all_eq_true.1 h4 t h3)⟩)
  (by kernel_rfl)
end
#print axioms routeLeast_holds
end Go.Proofs.YtmecpfikljhjaaaDoor
