/- DriftSteps returns true for every input, and its arguments read behind the call as before. No condition. -/
import Derived.Test.YtkkgnalgmebfjaaGreatGA4xL0
open Go Go.K
set_option maxRecDepth 1000000
set_option linter.unusedVariables false
set_option linter.unusedSimpArgs false
namespace Go.Proofs.YtkkgnalgmebfjaaGreat
open Go Go.K Go.ChangeShapes Go.WideShapes Go.ChangeAt Go.RowKit
noncomputable section
attribute [local irreducible] vF
theorem na(H:Heap)(vs:List Value)(h:nk Tryz.prog H 6 [24,25,26,27,30] vs):aF Tryz.prog 3 vs H [] (fun v _=>v = .bool true):=by
 obtain ⟨b,vs1,rfl,h1,g1⟩:=fA h
 obtain ⟨l,vs2,rfl,h2,g2⟩:=fA g1
 obtain ⟨f,vs3,rfl,h3,g3⟩:=fA g2
 obtain ⟨m,vs4,rfl,h4,g4⟩:=fA g3
 obtain ⟨c,vs5,rfl,h5,g5⟩:=fA g4
 obtain rfl:=vl g5
 obtain ⟨w,hh,a,r1⟩:=sV h1
 obtain ⟨ls,_,r2⟩:=sI h2
 obtain ⟨xs,_,r3⟩:=vf h3
 obtain ⟨ms,_,r4⟩:=sa h4
 obtain ⟨w1,h1',t1,cs,r5⟩:=sQ h5
 obtain ⟨gs1,id1,Bu,z1,k1,e1⟩:=r1 []
 obtain ⟨gs2,id2,hY,z2,k2,e2⟩:=r2 gs1
 obtain ⟨gs3,id3,Bt,z3,k3,e3⟩:=r3 (gs1++gs2)
 obtain ⟨gs4,id4,Bs,z4,k4,e4⟩:=r4 (gs1++gs2++gs3)
 obtain ⟨gs5,id5,Br,z5,k5,e5⟩:=r5 (gs1++gs2++gs3++gs4)
 rw[List.append_nil]at e1
 have up:∀{A B:Heap} {id:Nat} {o:aa},A[id]?=some o->(A++B)[id]?=some o:=fun {A B id o} h=>by
  rw[List.getElem?_append_left (List.getElem?_eq_some_iff.1 h).1];exact h
 have f1:(H++(gs1++gs2++gs3++gs4++gs5))[id1]?=some (.cells Bu z1 (a.flatMap am)):=by
  simp only[<- List.append_assoc];exact up (up (up (up e1)))
 have f2:(H++(gs1++gs2++gs3++gs4++gs5))[id2]?=some (.cells hY z2 (ls.flatMap aV)):=by
  simp only[<- List.append_assoc];exact up (up (up e2))
 have f3:(H++(gs1++gs2++gs3++gs4++gs5))[id3]?=some (.cells Bt z3 (xs.flatMap aS)):=by
  simp only[<- List.append_assoc]at e3 ⊢;exact up (up e3)
 have f4:(H++(gs1++gs2++gs3++gs4++gs5))[id4]?=some (.cells Bs z4 (ms.flatMap moveC)):=by
  simp only[<- List.append_assoc]at e4 ⊢;exact up e4
 have f5:(H++(gs1++gs2++gs3++gs4++gs5))[id5]?=some (.cells Br z5 (cs.flatMap cellC)):=by
  simp only[<- List.append_assoc]at e5 ⊢;exact e5
 exact aF.pN (gs1++gs2++gs3++gs4++gs5) ((va w hh a ls xs ms w1 h1' t1 cs f1 f2 f3 f4 f5).post fun v H' h=>h.1) rfl (eL (xs:=[b,l,f,m,c]) (ys:=[eH w hh id1 a.length,.slice (some ⟨id2,0,some 2⟩) ls.length ls.length,.slice (some ⟨id3,0,some 2⟩) xs.length xs.length,.slice (some ⟨id4,0,some 2⟩) ms.length ms.length,rq w1 h1' t1 id5 cs.length]) ⟨k1,k2,k3,k4,k5,trivial⟩).2
theorem jw(H:Type)(enc:TypeId×Value->H)(W:World)(base:Nat)(args:Array Value)(ds gs:List (DataW H))(before:List MemPlace)
    (hval:∀(j:Nat) t v,Tryz.f3.params[j]?=some t->args[j]?=some v->Value.okWide Tryz.prog W .any base t v)
    (hW:DataW.Whole enc Tryz.prog Tryz.f3.params.toList Rows.driftStepsSpec.vars false W args.toList ds gs before) :
    Calls Tryz.prog 3 args W fun e W' => ∃v,e = .returned v/\Rows.driftStepsSpec.post enc Tryz.prog Tryz.f3 false true false false W args v W':=by
  have hps:Tryz.f3.params.toList=[24,25,26,27,30]:=by kernel_rfl
  have hW':=hW
  obtain ⟨p,q,hA,hV,rfl,hfz,hnd⟩:=hW'
  rw[hps]at hA
  have hc:=u3 (P:=Tryz.prog) (enc:=enc) (N:=3) (n:=6) (b0:=base) (ts:=[24,25,26,27,30]) (by rw[show (Tryz.prog).globals.size=0 from iU];exact Nat.zero_le _) (by kernel_rfl)
    (fun j t v hj hv => hval j t v (by have : Tryz.f3.params.toList[j]? = some t := by rw [hps]; exact hj
                                       simpa using this) (by simpa using hv)) hA na
  refine hc.mono fun e W' ⟨he,hb⟩=>⟨_,he,?_⟩
  obtain ⟨d1,d2,d3,d4,d5,rfl⟩:∃d1 d2 d3 d4 d5,ds=[d1,d2,d3,d4,d5]:=by
    obtain ⟨v0,vs0,d0,ds0,p0,q0,e1,rfl,rfl,h0,r0⟩:=trodAll_cons hA
    obtain ⟨v1,vs1,d1,ds1,p1,q1,e1,rfl,rfl,h1,r1⟩:=trodAll_cons r0
    obtain ⟨v2,vs2,d2,ds2,p2,q2,e1,rfl,rfl,h2,r2⟩:=trodAll_cons r1
    obtain ⟨v3,vs3,d3,ds3,p3,q3,e1,rfl,rfl,h3,r3⟩:=trodAll_cons r2
    obtain ⟨v4,vs4,d4,ds4,p4,q4,e1,rfl,rfl,h4,r4⟩:=trodAll_cons r3
    obtain ⟨_,rfl,_⟩:=trodAll_nil r4
    exact ⟨_,_,_,_,_,rfl⟩
  exact nr (f:=Tryz.f3) (T:=known) (tb:=4) kids (fun ht hu=>kj sized ht hu) (by rw[hps];intro t ht;exact hZ (List.all_eq_true.1 (show (([24,25,26,27,30]:List Nat).all fun t=>decide (t<(Tryz.prog).types.size))=true by kernel_rfl) t ht)) hW rfl hb (by kernel_rfl) (by kernel_rfl) rfl
theorem kJ(os:Os)(started:os.Started)(H:Type)(enc:TypeId×Value->H) :
  ReturnsInHanded {} Tryz.checked os 3 .any (Rows.driftStepsSpec.pre6 enc Tryz.prog Tryz.f3 Rows.driftStepsRow.domain false) (Rows.driftStepsSpec.post enc Tryz.prog Tryz.f3 false true false false):=by
 refine returnsInHanded_of_change (C:=Tryz.checked) own started (by kernel_rfl) Tryz.func3
  (ChangeSpec.witness6 (enc:=enc) (C:=Tryz.checked) false ⟨#[],#[.agg #[.int .i64 0,.int .i64 0,.slice none 0 0],.slice none 0 0,.slice none 0 0,.slice none 0 0,.agg #[.int .i64 0,.int .i64 0,.int .i64 0,.slice none 0 0]],[]⟩ 8 (by kernel_rfl) (by kernel_rfl) (by kernel_rfl) (by kernel_rfl)) ?_
 intro W base args ds gs before hval hW _ _
 exact jw H enc W base args ds gs before hval hW
theorem driftSteps_holds:Rows.DriftStepsSaid :=
 OpenClaim.holds_of_wide 3 Tryz.f3 rfl rfl rfl rfl rfl rfl rfl ⟨rfl,rfl,rfl,rfl,rfl⟩ rfl rfl rfl rfl rfl (by kernel_rfl) Tryz.func3 (by kernel_rfl)
  (hZ (by kernel_rfl)) (by unfold Func.isWrapper;first|(rw[if_pos (by decide +kernel)];kernel_rfl)|(rw[if_neg (by decide +kernel)];exact ⟨rfl,rfl⟩))
  (fun os started H enc _=>kJ os started H enc)
end
#print axioms driftSteps_holds
end Go.Proofs.YtkkgnalgmebfjaaGreat
