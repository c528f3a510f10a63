/- RouteInside returns true for every input, and its arguments read behind the call as before: the tied card. The row lists the table of strengths. -/
import Derived.Test.YtmecpfikljhjaaaDoorGS1xL0
open Go Go.K
set_option maxRecDepth 1000000
set_option linter.unusedVariables false
set_option linter.unusedSimpArgs false
namespace Go.Proofs.YtmecpfikljhjaaaDoor
open Go Go.K Go.ChangeShapes Go.WideShapes Go.ChangeAt Go.RowKit
noncomputable section
attribute [local irreducible] vF
theorem Ev(N M:List Int)(hq:Int):sJ (.bool true) N M hq:=by
 delta sJ ye6 vp yev Dz sX nI slQ pt ab ck nw c0q
 refine ⟨trivial,fun H' hn _=>BJ hq 3 (by decide) (by decide) (by omega),ag (by omega),⟨rfl,rfl,trivial⟩,fun H' hn h=>Jc (by omega) hn h.1 h.2.1,fun r1 hr =>?_⟩
 obtain ⟨e0,hl,_,_⟩:=hr
 exact ⟨fun h=>IL e0 h,fun h1=>⟨fun h=>IK e0 h,fun h2=>IJ e0 (by omega)⟩⟩
theorem D6(N M:List Int)(hq:Int){H:Heap}(h0:H[0]?=some bN):ad prog 6 [.iface (N.length+1) (.agg ⟨N.flatMap br⟩),.iface (M.length+1) (.agg ⟨M.flatMap br⟩),.int .i64 hq] H [] (fun v _=>v = .bool true) :=
 (kr (os:=[bN]) (ids:=[0]) (Eq.mpr (Fg _ N M hq) (Ev N M hq)) rfl rfl rfl (fun _=>rfl) (by decide) ⟨h0,trivial⟩ rfl (by show [rn _ 3 _,rn _ 3 _,_]=_;rw[FA,FA];rfl)).post fun v H' h=>h.1
theorem mB(H:Heap)(vs:List Value)(h:km Tryd.prog 6 [22,22,3] vs)(h0:H[0]?=some bN):ad Tryd.prog 6 vs H [] (fun v _=>v = .bool true):=by
 obtain ⟨v,vs1,rfl,h1,g1⟩:=i5 h
 obtain ⟨w,vs2,rfl,h2,g2⟩:=i5 g1
 obtain ⟨x,vs3,rfl,h3,g3⟩:=i5 g2
 obtain rfl:=wQ g3
 obtain ⟨N,rfl,_,_⟩:=mn h1
 obtain ⟨M,rfl,_,_⟩:=mn h2
 obtain ⟨q,rfl,hq⟩:=wP h3
 exact D6 N M q h0
theorem jB(H:Type)(enc:TypeId×Value->H)(W:World)(base:Nat)(args:Array Value)(ds gs:List (DataW H))(before:List MemPlace)
    (hval:∀(j:Nat) t v,Tryd.f6.params[j]?=some t->args[j]?=some v->Value.okWide Tryd.prog W .any base t v)
    (hW : DataW.Whole enc Tryd.prog Tryd.f6.params.toList Rows.routeInsideSpec.vars false W args.toList ds gs before) (hL : laidMet Tryd.prog [("polynya/hull.strengths", Rows.laid_polynya_hull_strengths)] W) :
    Calls Tryd.prog 6 args W fun e W' => ∃v,e = .returned v/\Rows.routeInsideSpec.post enc Tryd.prog Tryd.f6 false true false false W args v W':=by
  have hps:Tryd.f6.params.toList=[22,22,3]:=by kernel_rfl
  have hW':=hW
  obtain ⟨p,q,hA,hV,rfl,hfz,hnd⟩:=hW'
  rw[hps]at hA
  obtain ⟨ty,fz,hs⟩:=Ij hL
  have hc:=vT (P:=Tryd.prog) (enc:=enc) (N:=6) (n:=6) (b0:=base) (ts:=[22,22,3]) kS AZ hs (by kernel_rfl)
    (fun j t v hj hv => hval j t v (by have : Tryd.f6.params.toList[j]? = some t := by rw [hps]; exact hj
                                       simpa using this) (by simpa using hv)) hA mB
  refine hc.mono fun e W' ⟨he,hb⟩=>⟨_,he,?_⟩
  obtain ⟨d1,d2,d3,rfl⟩:∃d1 d2 d3,ds=[d1,d2,d3]:=by
    obtain ⟨v0,vs0,d0,ds0,p0,q0,e1,rfl,rfl,h0,r0⟩:=trodAll_cons hA
    obtain ⟨v1,vs1,d1,ds1,p1,q1,e1,rfl,rfl,h1,r1⟩:=trodAll_cons r0
    obtain ⟨v2,vs2,d2,ds2,p2,q2,e1,rfl,rfl,h2,r2⟩:=trodAll_cons r1
    obtain ⟨_,rfl,_⟩:=trodAll_nil r2
    exact ⟨_,_,_,rfl⟩
  exact pj (f:=Tryd.f6) (T:=known) (tb:=4) kids (fun ht hu=>lu sized ht hu) (by rw[hps];intro t ht;exact of_decide_eq_true (List.all_eq_true.1 (show (([22,22,3]:List Nat).all fun t=>decide (t<(Tryd.prog).types.size))=true by kernel_rfl) t ht)) hW rfl hb (by kernel_rfl) (by kernel_rfl) rfl
theorem kz(os:Os)(started:os.Started)(H:Type)(enc:TypeId×Value->H) :
  ReturnsInHanded {} Tryd.checked os 6 .any (fun w args => (Rows.routeInsideSpec.pre enc Tryd.prog Tryd.f6 [] false w args /\ laidMet Tryd.prog [("polynya/hull.strengths", Rows.laid_polynya_hull_strengths)] w) /\ sizedMet enc Tryd.prog Tryd.f6 (OpenSpec.ofChange Rows.routeInsideSpec) false w args)
   (Rows.routeInsideSpec.post enc Tryd.prog Tryd.f6 false true false false):=by
 refine returnsInHanded_of_change_and (C := Tryd.checked) (X := fun w _ => laidMet Tryd.prog [("polynya/hull.strengths", Rows.laid_polynya_hull_strengths)] w) (fun _ _ _ hh h => h.of_heap hh) own started (by kernel_rfl) Tryd.func6
  (ChangeSpec.witness_at (enc := enc) (C := Tryd.checked) (os := os) (X := fun w _ => laidMet Tryd.prog [("polynya/hull.strengths", Rows.laid_polynya_hull_strengths)] w) false (pZ os) #[.slice none 0 0, .slice none 0 0, .int .i64 0] 8 rfl (by kernel_rfl) (by kernel_rfl) (by kernel_rfl) (by kernel_rfl) (by kernel_rfl) (pn os _)) ?_
 intro W base args ds gs before hval hW _ _ hL _
 exact jB H enc W base args ds gs before hval hW hL
theorem ph:laidOutB Tryd.prog=true:=by kernel_rfl
theorem pg:mapsRowed Tryd.prog=true:=by kernel_rfl
theorem pf:Tryd.prog.inPlace 6=[]:=by kernel_rfl
theorem pc:Tryd.prog.unfollowed 6=true:=by kernel_rfl
theorem pb:Tryd.prog.recurses 6=true:=by kernel_rfl
theorem pa : Tryd.prog.varsNamed 6 = ["polynya/hull.strengths"] := by kernel_rfl
theorem jH:Tryd.prog.funcNamed Rows.routeInsideRow.func=some 6:=by kernel_rfl
theorem kA:joinedFacts Tryd.prog 6 Tryd.f6 Rows.routeInsideSpec Rows.routeInsideRow=true:=by
 unfold joinedFacts
 rw[ph,pg,pf,pc,pb,pa]
 kernel_rfl
theorem mA:Rows.RouteInsideSaid :=
 OpenClaim.holds_of_wide 6 Tryd.f6 rfl rfl rfl rfl rfl rfl rfl ⟨rfl,rfl,rfl,rfl,rfl⟩ rfl rfl rfl rfl rfl jH Tryd.func6 kA
  (of_decide_eq_true (by kernel_rfl)) (by unfold Func.isWrapper;first|(rw[if_pos (by decide +kernel)];kernel_rfl)|(rw[if_neg (by decide +kernel)];exact ⟨rfl,rfl⟩))
  (fun os started H enc _=>kz os started H enc)
theorem routeInside_holds:Rows.RouteInsideCardSaid :=
 Claim7.holds_tied_plain_at .later [] [.data] true (true, "9f2038168a6ea5cbb8132f05dd5e9e728dbbf8d9a0b8a53257e9158a6c5ed0eb") false
  mA (fun _ h=>by cases h) (by kernel_rfl) (fun _ h=>by cases h) routeInside_row_tie rfl ⟨rfl,rfl⟩ (by kernel_rfl) rfl
  (fun f fn hf hfn=>by
   obtain rfl:f=6:=Option.some.inj (jH.symm.trans hf) |>.symm
   obtain rfl:fn=Tryd.f6:=(Option.some.inj (Tryd.func6.symm.trans hfn)).symm
   exact ⟨by kernel_rfl,fun j t ht=>by
    have h3:t∈([22,22,3]:List TypeId):=by
     rw[<- show Tryd.f6.params.toList=[22,22,3] by kernel_rfl]
     exact List.mem_of_getElem? (i:=j) (by simpa using ht)
    have h4:([22,22,3]:List TypeId).all (fun t=>Tryd.prog.wantsStandIn t == false)=true:=by kernel_rfl
    exact beq_iff_eq.1 (List.all_eq_true.1 h4 t h3)⟩)
  (by kernel_rfl)
end
#print axioms routeInside_holds
end Go.Proofs.YtmecpfikljhjaaaDoor
