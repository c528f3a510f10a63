/- How laws' arguments are read. No condition. -/
import Derived.Test.YthcjliffpebjaaaGreatRows
import Derived.JoinedCond
import Derived.Test.YthcjliffpebjaaaGreatGS0xP1a
import Derived.Test.YthcjliffpebjaaaGreatGP5xK39
open Go Go.K
set_option maxRecDepth 1000000
set_option linter.unusedVariables false
set_option linter.unusedSimpArgs false
namespace Go.Proofs.YthcjliffpebjaaaGreat
open Go Go.K Go.ChangeShapes Go.WideShapes Go.ChangeAt Go.RowKit
noncomputable section
theorem own:ownKnob Tryz.prog.godebug=none:=by kernel_rfl
theorem sized:gD Tryz.prog=true:=by kernel_rfl
abbrev known(t:TypeId):Prop:=t<Tryz.prog.types.size
theorem kids:Kids Tryz.prog known:=kids_rows (by kernel_rfl) (by kernel_rfl)
theorem uO{H:Heap}{t:TypeId}{v:Value}(n:Nat)(hu:(match Tryz.prog.underlying t with|some (.struct _)=>true|_=>false)=true)(hf:jL Tryz.prog 6 t=some n)(h:dU Tryz.prog H 6 t v) :
  ∃ns:List Int,v = .agg ⟨ns.map (.int .i64)⟩/\ns.length=n/\∀x∈ns,inI x:=by
 unfold dU at h
 split at hu
 ·rename_i fs e
  rw[e]at h
  obtain ⟨cs,rfl,h⟩:=h
  obtain ⟨ns,rfl,h2,h3⟩:=iZ 6 t n cs hf h
  exact ⟨ns,rfl,h2,h3⟩
 ·cases hu
theorem my{H:Heap}{v:Value}(h:dU Tryz.prog H 6 3 v):∃x:Int,v = .int .i64 x/\inI x:=by
 have hu:Tryz.prog.underlying 3=some (.int .i64):=by kernel_rfl
 unfold dU at h
 rw[hu]at h
 obtain ⟨ns,h1,h2,h3⟩:=iZ 6 3 1 [v] (by unfold jL;rw[hu]) h
 match ns,h2 with
 | [x],_=>exact ⟨x,by simpa using h1,h3 x (by simp)⟩
theorem sH{H:Heap}{v:Value}(h:dU Tryz.prog H 6 26 v):∃m:aO,v=bj m:=by
 obtain ⟨ns,rfl,h2,_⟩:=uO 8 (by kernel_rfl) (by kernel_rfl) h
 match ns,h2 with
 | [a1,a2,a3,a4,a5,a6,a7,a8],_=>exact ⟨⟨⟨a1,a2,a3,a4⟩,⟨a5,a6,a7,a8⟩⟩,rfl⟩
theorem sI{Y:Type}{f:Y->List Value}{n t:Nat}(H:Heap)(hf:jL Tryz.prog 5 t=some n)(hα:∀ns:List Int,ns.length=n->∃x:Y,ns.map (Value.int .i64)=f x) :
  ∀c,K.Good Tryz.prog H 5 t c->∃x:Y,c=f x/\True:=by
 intro c h
 obtain ⟨ns,rfl,h2,_⟩:=iZ 5 t n c hf h
 obtain ⟨x,hx⟩:=hα ns h2
 exact ⟨x,hx,trivial⟩
theorem rG{Y:Type}{f:Y->List Value}{H:Heap}{n t e:Nat}{cs:List Value}(hu:Tryz.prog.underlying t=some (.slice e))(hg:∀c,K.Good Tryz.prog H n e c->∃x:Y,c=f x/\True)(h:K.Good Tryz.prog H (n+1) t cs) :
  ∃(v:Value) (xs:List Y),cs=[v]/\xs.length<=maxLen/\∀K:Heap,∃(gs:List ae) (id:Nat) (own:Bool) (z:Nat),wk v (.slice (some ⟨id,0,some 2⟩) xs.length xs.length)/\(H++K++gs)[id]?=some (.cells own z (xs.flatMap f)):=by
 unfold K.Good at h
 rw[hu]at h
 rcases h with h|h|⟨id,len,cs',h1,h2,h3,h4,h5⟩
 ·exact ⟨_,[],h,by simp[maxLen],fun K=>⟨[.cells false 0 []],(H++K).length,false,0,aL _ _ _ (.inr rfl),by rw[List.getElem?_append_right (Nat.le_refl _)];simp⟩⟩
 ·exact ⟨_,[],h,by simp[maxLen],fun K=>⟨[.cells false 0 []],(H++K).length,false,0,AV _ _ _ (.inr rfl),by rw[List.getElem?_append_right (Nat.le_refl _)];simp⟩⟩
 ·obtain ⟨xs,rfl,rfl,_⟩:=mz (f:=f) (q:=fun _=>True) hg len cs' h5
  refine ⟨_,xs,h1,h4,fun K=>⟨[],id,false,0,zW,?_⟩⟩
  rw[List.append_nil,List.getElem?_append_left (List.getElem?_eq_some_iff.1 h2).1];exact h2
theorem qL{Y:Type}{f:Y->List Value}{H:Heap}{t e:Nat}{v:Value}(hu:Tryz.prog.underlying t=some (.slice e))(hg:∀c,K.Good Tryz.prog H 5 e c->∃x:Y,c=f x/\True)(h:dU Tryz.prog H 6 t v) :
  ∃xs:List Y,xs.length<=maxLen/\∀K:Heap,∃(gs:List ae) (id:Nat) (own:Bool) (z:Nat),wk v (.slice (some ⟨id,0,some 2⟩) xs.length xs.length)/\(H++K++gs)[id]?=some (.cells own z (xs.flatMap f)):=by
 unfold dU at h
 rw[hu]at h
 obtain ⟨v',xs,h1,h2,h3⟩:=rG hu hg h
 cases h1
 exact ⟨xs,h2,h3⟩
end
end Go.Proofs.YthcjliffpebjaaaGreat
