/- IceDraws returns true for every input, and its arguments read behind the call as before. No condition. -/
import Derived.Test.YthcjliffpebjaaaGreatGD3gxD5
import Derived.Test.YthcjliffpebjaaaGreatGL0xL1
open Go Go.K
set_option maxRecDepth 1000000
set_option linter.unusedVariables false
set_option linter.unusedSimpArgs false
namespace Go.Proofs.YthcjliffpebjaaaGreat
open Go Go.K Go.ChangeShapes Go.WideShapes Go.ChangeAt Go.RowKit
noncomputable section
attribute [local irreducible] vF
theorem oI{H:Heap}{v:Value}(h:dU Tryz.prog H 6 22 v):∃xs:List Report,xs.length<=maxLen/\∀K:Heap,∃(gs:List ae) (id:Nat) (own:Bool) (z:Nat),wk v (.slice (some ⟨id,0,some 2⟩) xs.length xs.length)/\(H++K++gs)[id]?=some (.cells own z (xs.flatMap aq)) :=
 qL (e:=47) (by kernel_rfl) (sI (n:=14) H (by kernel_rfl) (fun ns h=>by
  match ns,h with
  | [a1,a2,a3,a4,a5,a6,a7,a8,a9,a10,a11,a12,a13,a14],_=>exact ⟨⟨a1,a2,a3,a4,a5,a6,⟨⟨a7,a8⟩,⟨a9,a10⟩,⟨a11,a12⟩,⟨a13,a14⟩⟩⟩,rfl⟩)) h
theorem pj(H:Heap)(vs:List Value)(h:mR Tryz.prog H 6 [3,3,22,26,3] vs):ap Tryz.prog 6 vs H [] (fun v _=>v = .bool true):=by
 obtain ⟨a,vs1,rfl,h1,g1⟩:=eW h
 obtain ⟨b,vs2,rfl,h2,g2⟩:=eW g1
 obtain ⟨l,vs3,rfl,h3,g3⟩:=eW g2
 obtain ⟨m,vs4,rfl,h4,g4⟩:=eW g3
 obtain ⟨t,vs5,rfl,h5,g5⟩:=eW g4
 obtain rfl:=uP g5
 obtain ⟨a,rfl,_⟩:=my h1
 obtain ⟨b,rfl,_⟩:=my h2
 obtain ⟨xs,V,r1⟩:=oI h3
 obtain ⟨m,rfl⟩:=sH h4
 obtain ⟨t,rfl,_⟩:=my h5
 obtain ⟨gs1,id1,Bi,z1,k1,e1⟩:=r1 []
 rw[List.append_nil]at e1
 exact ap.pD gs1 ((uG a b xs m t e1).post fun v H' h=>h.1) rfl (ed (xs:=[.int .i64 a,.int .i64 b,l,bj m,.int .i64 t]) (ys:=[.int .i64 a,.int .i64 b,.slice (some ⟨id1,0,some 2⟩) xs.length xs.length,bj m,.int .i64 t]) ⟨aw _,aw _,k1,aw _,aw _,trivial⟩).2
theorem kn(H:Type)(enc:TypeId×Value->H)(W:World)(base:Nat)(args:Array Value)(ds gs:List (DataW H))(before:List MemPlace)
    (hval:∀(j:Nat) t v,Tryz.f6.params[j]?=some t->args[j]?=some v->Value.okWide Tryz.prog W .any base t v)
    (hW:DataW.Whole enc Tryz.prog Tryz.f6.params.toList Rows.iceDrawsSpec.vars false W args.toList ds gs before) :
    Calls Tryz.prog 6 args W fun e W' => ∃v,e = .returned v/\Rows.iceDrawsSpec.post enc Tryz.prog Tryz.f6 false true false false W args v W':=by
  have hps:Tryz.f6.params.toList=[3,3,22,26,3]:=by kernel_rfl
  have hW':=hW
  obtain ⟨p,q,hA,hV,rfl,hfz,hnd⟩:=hW'
  rw[hps]at hA
  have hc:=ux (P:=Tryz.prog) (enc:=enc) (N:=6) (n:=6) (b0:=base) (ts:=[3,3,22,26,3]) (by rw[show (Tryz.prog).globals.size=0 from dS];exact Nat.zero_le _) (by kernel_rfl)
    (fun j t v hj hv => hval j t v (by have : Tryz.f6.params.toList[j]? = some t := by rw [hps]; exact hj
                                       simpa using this) (by simpa using hv)) hA pj
  refine hc.mono fun e W' ⟨he,hb⟩=>⟨_,he,?_⟩
  obtain ⟨d1,d2,d3,d4,d5,rfl⟩:∃d1 d2 d3 d4 d5,ds=[d1,d2,d3,d4,d5]:=by
    obtain ⟨v0,vs0,d0,ds0,p0,q0,e1,rfl,rfl,h0,r0⟩:=trodAll_cons hA
    obtain ⟨v1,vs1,d1,ds1,p1,q1,e1,rfl,rfl,h1,r1⟩:=trodAll_cons r0
    obtain ⟨v2,vs2,d2,ds2,p2,q2,e1,rfl,rfl,h2,r2⟩:=trodAll_cons r1
    obtain ⟨v3,vs3,d3,ds3,p3,q3,e1,rfl,rfl,h3,r3⟩:=trodAll_cons r2
    obtain ⟨v4,vs4,d4,ds4,p4,q4,e1,rfl,rfl,h4,r4⟩:=trodAll_cons r3
    obtain ⟨_,rfl,_⟩:=trodAll_nil r4
    exact ⟨_,_,_,_,_,rfl⟩
  exact mX (f:=Tryz.f6) (T:=known) (tb:=4) kids (fun ht hu=>jZ sized ht hu) (by rw[hps];intro t ht;exact gJ (List.all_eq_true.1 (show (([3,3,22,26,3]:List Nat).all fun t=>decide (t<(Tryz.prog).types.size))=true by kernel_rfl) t ht)) hW rfl hb (by kernel_rfl) (by kernel_rfl) rfl
theorem mt(os:Os)(started:os.Started)(H:Type)(enc:TypeId×Value->H) :
  ReturnsInHanded {} Tryz.checked os 6 .any (Rows.iceDrawsSpec.pre6 enc Tryz.prog Tryz.f6 Rows.iceDrawsRow.domain false) (Rows.iceDrawsSpec.post enc Tryz.prog Tryz.f6 false true false false):=by
 refine returnsInHanded_of_change (C:=Tryz.checked) own started (by kernel_rfl) Tryz.func6
  (ChangeSpec.witness6 (enc:=enc) (C:=Tryz.checked) false ⟨#[],#[.int .i64 0,.int .i64 0,.slice none 0 0,.agg #[.int .i64 0,.int .i64 0,.int .i64 0,.int .i64 0,.int .i64 0,.int .i64 0,.int .i64 0,.int .i64 0],.int .i64 0],[]⟩ 8 (by kernel_rfl) (by kernel_rfl) (by kernel_rfl) (by kernel_rfl)) ?_
 intro W base args ds gs before hval hW _ _
 exact kn H enc W base args ds gs before hval hW
theorem iceDraws_holds:Rows.IceDrawsSaid :=
 OpenClaim.holds_of_wide 6 Tryz.f6 rfl rfl rfl rfl rfl rfl rfl ⟨rfl,rfl,rfl,rfl,rfl⟩ rfl rfl rfl rfl rfl (by kernel_rfl) Tryz.func6 (by kernel_rfl)
  (gJ (by kernel_rfl)) (by unfold Func.isWrapper;first|(rw[if_pos (by decide +kernel)];kernel_rfl)|(rw[if_neg (by decide +kernel)];exact ⟨rfl,rfl⟩))
  (fun os started H enc _=>mt os started H enc)
end
#print axioms iceDraws_holds
end Go.Proofs.YthcjliffpebjaaaGreat
