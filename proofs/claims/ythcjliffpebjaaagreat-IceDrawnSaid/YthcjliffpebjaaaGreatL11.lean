/- IceDrawn returns true for every input, and its arguments read behind the call as before. No condition. -/
import Derived.Test.YthcjliffpebjaaaGreatGE7gxL0
import Derived.Test.YthcjliffpebjaaaGreatGP5xT0
open Go Go.K
set_option maxRecDepth 1000000
set_option linter.unusedVariables false
set_option linter.unusedSimpArgs false
namespace Go.Proofs.YthcjliffpebjaaaGreat
open Go Go.K Go.ChangeShapes Go.WideShapes Go.ChangeAt Go.RowKit
noncomputable section
attribute [local irreducible] vF
theorem nN{H:Heap}{v:Value}(h:ff Tryz.prog H 6 66 v):∃xs:List Int,(xs.length<=maxLen/\∀x∈xs,inI x)/\∀K:Heap,∃(gs:List ae) (id:Nat) (own:Bool) (z:Nat),wk v (.slice (some ⟨id,0,some 2⟩) xs.length xs.length)/\(H++K++gs)[id]?=some (.cells own z (xs.flatMap fun x=>[.int .i64 x])):=by
 have hu:Tryz.prog.underlying 66=some (.slice 3):=by kernel_rfl
 unfold ff at h
 rw[hu]at h
 unfold K.Good at h
 rw[hu]at h
 rcases h with h|h|⟨id,len,cs',h1,h2,h3,h4,h5⟩
 ·cases h;exact ⟨[],⟨by simp[maxLen],fun x hx=>by cases hx⟩,fun K=>⟨[.cells false 0 []],(H++K).length,false,0,ba _ _ _ (.inr rfl),by rw[List.getElem?_append_right (Nat.le_refl _)];simp⟩⟩
 ·cases h;exact ⟨[],⟨by simp[maxLen],fun x hx=>by cases hx⟩,fun K=>⟨[.cells false 0 []],(H++K).length,false,0,Az _ _ _ (.inr rfl),by rw[List.getElem?_append_right (Nat.le_refl _)];simp⟩⟩
 ·cases h1
  obtain ⟨xs,rfl,rfl,hq⟩:=md (f:=fun x:Int=>[Value.int .i64 x]) (q:=inI) (fun c hc=>by
   obtain ⟨ns,rfl,k2,k3⟩:=mj 5 3 1 c (by kernel_rfl) hc
   match ns,k2 with
   | [a],_=>exact ⟨a,rfl,k3 a (by simp)⟩) len cs' h5
  refine ⟨xs,⟨h4,hq⟩,fun K=>⟨[],id,false,0,zw,?_⟩⟩
  rw[List.append_nil,List.getElem?_append_left (List.getElem?_eq_some_iff.1 h2).1];exact h2
theorem tr{xs:List Int}(h:∀x∈xs,inI x)(k:Nat):inI (xs.getD k 0):=by
 rcases Nat.lt_or_ge k xs.length with hk|hk
 ·rw[List.getD_eq_getElem?_getD,List.getElem?_eq_getElem hk];exact h _ (List.getElem_mem hk)
 ·rw[List.getD_eq_getElem?_getD,List.getElem?_eq_none_iff.2 hk];exact ⟨by decide,by decide⟩
theorem pj(H:Heap)(vs:List Value)(h:mL Tryz.prog H 6 [66,66,3] vs):ai Tryz.prog 7 vs H [] (fun v _=>v = .bool true):=by
 obtain ⟨a,vs1,rfl,h1,g1⟩:=iR h
 obtain ⟨b,vs2,rfl,h2,g2⟩:=iR g1
 obtain ⟨c,vs3,rfl,h3,g3⟩:=iR g2
 obtain rfl:=uI g3
 obtain ⟨c,rfl,_⟩:=wb h3
 obtain ⟨ns,⟨V,n2⟩,r1⟩:=nN h1
 obtain ⟨rs,⟨m1,m2⟩,r2⟩:=nN h2
 obtain ⟨gs1,id1,AF,z1,k1,e1⟩:=r1 []
 obtain ⟨gs2,id2,eN,z2,k2,e2⟩:=r2 gs1
 rw[List.append_nil]at e1
 have f1:(H++(gs1++gs2))[id1]?=some (.cells AF z1 (ns.flatMap bf)):=by
  rw[<- List.append_assoc H,List.getElem?_append_left (List.getElem?_eq_some_iff.1 e1).1];exact e1
 have f2:(H++(gs1++gs2))[id2]?=some (.cells eN z2 (rs.flatMap bf)):=by
  rw[<- List.append_assoc H];exact e2
 exact ai.pE (gs1++gs2) ((pc ns rs c (tr n2) (tr m2) f1 f2).post fun v H' h=>h.1) rfl (dX (xs:=[a,b,.int .i64 c]) (ys:=[.slice (some ⟨id1,0,some 2⟩) ns.length ns.length,.slice (some ⟨id2,0,some 2⟩) rs.length rs.length,.int .i64 c]) ⟨k1,k2,ar _,trivial⟩).2
theorem jZ(H:Type)(enc:TypeId×Value->H)(W:World)(base:Nat)(args:Array Value)(ds gs:List (DataW H))(before:List MemPlace)
    (hval:∀(j:Nat) t v,Tryz.f7.params[j]?=some t->args[j]?=some v->Value.okWide Tryz.prog W .any base t v)
    (hW:DataW.Whole enc Tryz.prog Tryz.f7.params.toList Rows.iceDrawnSpec.vars false W args.toList ds gs before) :
    Calls Tryz.prog 7 args W fun e W' => ∃v,e = .returned v/\Rows.iceDrawnSpec.post enc Tryz.prog Tryz.f7 false true false false W args v W':=by
  have hps:Tryz.f7.params.toList=[66,66,3]:=by kernel_rfl
  have hW':=hW
  obtain ⟨p,q,hA,hV,rfl,hfz,hnd⟩:=hW'
  rw[hps]at hA
  have hc:=us (P:=Tryz.prog) (enc:=enc) (N:=7) (n:=6) (b0:=base) (ts:=[66,66,3]) (by rw[show (Tryz.prog).globals.size=0 from dQ];exact Nat.zero_le _) (by kernel_rfl)
    (fun j t v hj hv => hval j t v (by have : Tryz.f7.params.toList[j]? = some t := by rw [hps]; exact hj
                                       simpa using this) (by simpa using hv)) hA pj
  refine hc.mono fun e W' ⟨he,hb⟩=>⟨_,he,?_⟩
  obtain ⟨d1,d2,d3,rfl⟩:∃d1 d2 d3,ds=[d1,d2,d3]:=by
    obtain ⟨v0,vs0,d0,ds0,p0,q0,e1,rfl,rfl,h0,r0⟩:=trodAll_cons hA
    obtain ⟨v1,vs1,d1,ds1,p1,q1,e1,rfl,rfl,h1,r1⟩:=trodAll_cons r0
    obtain ⟨v2,vs2,d2,ds2,p2,q2,e1,rfl,rfl,h2,r2⟩:=trodAll_cons r1
    obtain ⟨_,rfl,_⟩:=trodAll_nil r2
    exact ⟨_,_,_,rfl⟩
  exact mR (f:=Tryz.f7) (T:=known) (tb:=4) kids (fun ht hu=>jJ sized ht hu) (by rw[hps];intro t ht;exact e7 (List.all_eq_true.1 (show (([66,66,3]:List Nat).all fun t=>decide (t<(Tryz.prog).types.size))=true by kernel_rfl) t ht)) hW rfl hb (by kernel_rfl) (by kernel_rfl) rfl
theorem l9(os:Os)(started:os.Started)(H:Type)(enc:TypeId×Value->H) :
  ReturnsInHanded {} Tryz.checked os 7 .any (Rows.iceDrawnSpec.pre6 enc Tryz.prog Tryz.f7 Rows.iceDrawnRow.domain false) (Rows.iceDrawnSpec.post enc Tryz.prog Tryz.f7 false true false false):=by
 refine returnsInHanded_of_change (C:=Tryz.checked) own started (by kernel_rfl) Tryz.func7
  (ChangeSpec.witness6 (enc:=enc) (C:=Tryz.checked) false ⟨#[],#[.slice none 0 0,.slice none 0 0,.int .i64 0],[]⟩ 8 (by kernel_rfl) (by kernel_rfl) (by kernel_rfl) (by kernel_rfl)) ?_
 intro W base args ds gs before hval hW _ _
 exact jZ H enc W base args ds gs before hval hW
theorem iceDrawn_holds:Rows.IceDrawnSaid :=
 OpenClaim.holds_of_wide 7 Tryz.f7 rfl rfl rfl rfl rfl rfl rfl ⟨rfl,rfl,rfl,rfl,rfl⟩ rfl rfl rfl rfl rfl (by kernel_rfl) Tryz.func7 (by kernel_rfl)
  (e7 (by kernel_rfl)) (by unfold Func.isWrapper;first|(rw[if_pos (by decide +kernel)];kernel_rfl)|(rw[if_neg (by decide +kernel)];exact ⟨rfl,rfl⟩))
  (fun os started H enc _=>l9 os started H enc)
end
#print axioms iceDrawn_holds
end Go.Proofs.YthcjliffpebjaaaGreat
