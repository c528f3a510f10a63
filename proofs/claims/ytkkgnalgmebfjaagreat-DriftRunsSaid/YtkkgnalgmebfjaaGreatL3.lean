/- DriftRuns returns true for every input, and its arguments read behind the call as before. No condition. -/
import Derived.Test.YtkkgnalgmebfjaaGreatGA4xL2
open Go Go.K
set_option maxRecDepth 1000000
set_option linter.unusedVariables false
set_option linter.unusedSimpArgs false
namespace Go.Proofs.YtkkgnalgmebfjaaGreat
open Go Go.K Go.ChangeShapes Go.WideShapes Go.ChangeAt Go.RowKit
noncomputable section
attribute [local irreducible] vF
theorem oz(H:Heap)(vs:List Value)(h:jX Tryz.prog 6 [24,69,30,72] vs):am Tryz.prog 4 vs H [] (fun v _=>v = .bool true):=by
 obtain ⟨b,vs1,rfl,h1,g1⟩:=f5 h
 obtain ⟨l,vs2,rfl,h2,g2⟩:=f5 g1
 obtain ⟨c,vs3,rfl,h3,g3⟩:=f5 g2
 obtain ⟨m,vs4,rfl,h4,g4⟩:=f5 g3
 obtain rfl:=tI g4
 obtain ⟨w,hh,a,rfl⟩:=sD h1
 obtain ⟨ll,rfl⟩:=qs h2
 obtain ⟨w1,h1',t1,cs,rfl⟩:=sx h3
 obtain ⟨m,rfl⟩:=rb h4
 exact (xC w hh a ll w1 h1' t1 cs m H).post fun v H' h=>h.1
theorem kB(H:Type)(enc:TypeId×Value->H)(W:World)(base:Nat)(args:Array Value)(ds gs:List (DataW H))(before:List MemPlace)
    (hval:∀(j:Nat) t v,Tryz.f4.params[j]?=some t->args[j]?=some v->Value.okWide Tryz.prog W .any base t v)
    (hW:DataW.Whole enc Tryz.prog Tryz.f4.params.toList Rows.driftRunsSpec.vars false W args.toList ds gs before) :
    Calls Tryz.prog 4 args W fun e W' => ∃v,e = .returned v/\Rows.driftRunsSpec.post enc Tryz.prog Tryz.f4 false true false false W args v W':=by
  have hps:Tryz.f4.params.toList=[24,69,30,72]:=by kernel_rfl
  have hW':=hW
  obtain ⟨p,q,hA,hV,rfl,hfz,hnd⟩:=hW'
  rw[hps]at hA
  have hc:=te (P:=Tryz.prog) (enc:=enc) (N:=4) (n:=6) (b0:=base) (ts:=[24,69,30,72]) (by rw[show (Tryz.prog).globals.size=0 from jz];exact Nat.zero_le _) (by kernel_rfl)
    (fun j t v hj hv => hval j t v (by have : Tryz.f4.params.toList[j]? = some t := by rw [hps]; exact hj
                                       simpa using this) (by simpa using hv)) hA oz
  refine hc.mono fun e W' ⟨he,hb⟩=>⟨_,he,?_⟩
  obtain ⟨d1,d2,d3,d4,rfl⟩:∃d1 d2 d3 d4,ds=[d1,d2,d3,d4]:=by
    obtain ⟨v0,vs0,d0,ds0,p0,q0,e1,rfl,rfl,h0,r0⟩:=trodAll_cons hA
    obtain ⟨v1,vs1,d1,ds1,p1,q1,e1,rfl,rfl,h1,r1⟩:=trodAll_cons r0
    obtain ⟨v2,vs2,d2,ds2,p2,q2,e1,rfl,rfl,h2,r2⟩:=trodAll_cons r1
    obtain ⟨v3,vs3,d3,ds3,p3,q3,e1,rfl,rfl,h3,r3⟩:=trodAll_cons r2
    obtain ⟨_,rfl,_⟩:=trodAll_nil r3
    exact ⟨_,_,_,_,rfl⟩
  exact ol (f:=Tryz.f4) (T:=known) (tb:=4) kids (fun ht hu=>kO sized ht hu) (by rw[hps];intro t ht;exact ip (List.all_eq_true.1 (show (([24,69,30,72]:List Nat).all fun t=>decide (t<(Tryz.prog).types.size))=true by kernel_rfl) t ht)) hW rfl hb (by kernel_rfl) (by kernel_rfl) rfl
theorem ma(os:Os)(started:os.Started)(H:Type)(enc:TypeId×Value->H) :
  ReturnsInHanded {} Tryz.checked os 4 .any (Rows.driftRunsSpec.pre6 enc Tryz.prog Tryz.f4 Rows.driftRunsRow.domain false) (Rows.driftRunsSpec.post enc Tryz.prog Tryz.f4 false true false false):=by
 refine returnsInHanded_of_change (C:=Tryz.checked) own started (by kernel_rfl) Tryz.func4
  (ChangeSpec.witness6 (enc:=enc) (C:=Tryz.checked) false ⟨#[],#[.agg #[.int .i64 0,.int .i64 0,.slice none 0 0],.slice none 0 0,.agg #[.int .i64 0,.int .i64 0,.int .i64 0,.slice none 0 0],.agg #[.int .i64 0,.int .i64 0,.int .i64 0,.int .i64 0,.int .i64 0,.int .i64 0,.int .i64 0,.int .i64 0]],[]⟩ 8 (by kernel_rfl) (by kernel_rfl) (by kernel_rfl) (by kernel_rfl)) ?_
 intro W base args ds gs before hval hW _ _
 exact kB H enc W base args ds gs before hval hW
theorem driftRuns_holds:Rows.DriftRunsSaid :=
 OpenClaim.holds_of_wide 4 Tryz.f4 rfl rfl rfl rfl rfl rfl rfl ⟨rfl,rfl,rfl,rfl,rfl⟩ rfl rfl rfl rfl rfl (by kernel_rfl) Tryz.func4 (by kernel_rfl)
  (ip (by kernel_rfl)) (by unfold Func.isWrapper;first|(rw[if_pos (by decide +kernel)];kernel_rfl)|(rw[if_neg (by decide +kernel)];exact ⟨rfl,rfl⟩))
  (fun os started H enc _=>ma os started H enc)
end
#print axioms driftRuns_holds
end Go.Proofs.YtkkgnalgmebfjaaGreat
