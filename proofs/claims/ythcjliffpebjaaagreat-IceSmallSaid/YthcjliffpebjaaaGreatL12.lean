/- IceSmall returns true. No condition. -/
import Derived.Test.YthcjliffpebjaaaGreatGD4xL0
open Go Go.K
set_option maxRecDepth 1000000
set_option linter.unusedVariables false
set_option linter.unusedSimpArgs false
namespace Go.Proofs.YthcjliffpebjaaaGreat
open Go Go.K Go.ChangeShapes Go.WideShapes Go.ChangeAt Go.RowKit
noncomputable section
attribute [local irreducible] vF
theorem xZ(H:Heap)(vs:List Value)(h:Bf Tryz.prog H 6 [] vs):ak Tryz.prog 8 vs H [] (fun v _=>v = .bool true):=by
 obtain rfl:=FO h
 exact (Fg H).post fun v H' h=>h.1
theorem qW(H:Type)(enc:TypeId×Value->H)(W:World)(base:Nat)(args:Array Value)(ds gs:List (DataW H))(before:List MemPlace)
  (hval:∀(j:Nat) t v,Tryz.f8.params[j]?=some t->args[j]?=some v->Value.okWide Tryz.prog W .any base t v)
  (hW:DataW.Whole enc Tryz.prog Tryz.f8.params.toList Rows.iceSmallSpec.vars false W args.toList ds gs before) :
  Calls Tryz.prog 8 args W fun e W' => ∃v,e = .returned v/\Rows.iceSmallSpec.post enc Tryz.prog Tryz.f8 false true false false W args v W':=by
 have hps:Tryz.f8.params.toList=[]:=by kernel_rfl
 have hW':=hW
 obtain ⟨p,q,hA,hV,rfl,hfz,hnd⟩:=hW'
 rw[hps]at hA
 have hc:=E7 (P:=Tryz.prog) (enc:=enc) (N:=8) (n:=6) (b0:=base) (ts:=[]) (by rw[show (Tryz.prog).globals.size=0 from gO];exact Nat.zero_le _) (by kernel_rfl)
  (fun j t v hj hv=>by simp at hj) hA xZ
 refine hc.mono fun e W' ⟨he,hb⟩=>⟨_,he,?_⟩
 obtain rfl:ds=[]:=by
  obtain ⟨_,rfl,_⟩:=trodAll_nil hA
  rfl
 exact u9 (f:=Tryz.f8) (T:=known) (tb:=4) kids (fun ht hu=>qx sized ht hu) (by rw[hps];intro t ht;exact cc (List.all_eq_true.1 (show (([]:List Nat).all fun t=>decide (t<(Tryz.prog).types.size))=true by kernel_rfl) t ht)) hW rfl hb (by kernel_rfl) (by kernel_rfl) rfl
theorem uh(os:Os)(started:os.Started)(H:Type)(enc:TypeId×Value->H) :
  ReturnsInHanded {} Tryz.checked os 8 .any (Rows.iceSmallSpec.pre6 enc Tryz.prog Tryz.f8 Rows.iceSmallRow.domain false) (Rows.iceSmallSpec.post enc Tryz.prog Tryz.f8 false true false false):=by
 refine returnsInHanded_of_change (C:=Tryz.checked) own started (by kernel_rfl) Tryz.func8
  (ChangeSpec.witness6 (enc:=enc) (C:=Tryz.checked) false ⟨#[],#[],[]⟩ 8 (by kernel_rfl) (by kernel_rfl) (by kernel_rfl) (by kernel_rfl)) ?_
 intro W base args ds gs before hval hW _ _
 exact qW H enc W base args ds gs before hval hW
theorem iceSmall_holds:Rows.IceSmallSaid :=
 OpenClaim.holds_of_wide 8 Tryz.f8 rfl rfl rfl rfl rfl rfl rfl ⟨rfl,rfl,rfl,rfl,rfl⟩ rfl rfl rfl rfl rfl (by kernel_rfl) Tryz.func8 (by kernel_rfl)
  (cc (by kernel_rfl)) (by unfold Func.isWrapper;first|(rw[if_pos (by decide +kernel)];kernel_rfl)|(rw[if_neg (by decide +kernel)];exact ⟨rfl,rfl⟩))
  (fun os started H enc _=>uh os started H enc)
end
#print axioms iceSmall_holds
end Go.Proofs.YthcjliffpebjaaaGreat
