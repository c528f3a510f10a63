/- DriftHolds returns true for every input, and its arguments read behind the call as before. No condition. -/
import Derived.Test.YtkkgnalgmebfjaaGO2gxL2
namespace Go.Proofs.Ytkkgnalgmebfjaa
set_option linter.unusedSimpArgs false
open Go Go.K Go.ChangeShapes Go.WideShapes Go.ChangeAt Go.RowKit
set_option maxRecDepth 100000
set_option linter.unusedVariables false
noncomputable section
attribute [local irreducible] vF
theorem driftHoldsCall (H : Heap) (vs : List Value) (h : GoodAD Try.prog 6 [22, 3] vs) : KCall Try.prog 10 vs H [] (fun v _ => v = .bool true) := by
  obtain ⟨v, vs1, rfl, h1, g1⟩ := goodAD_cons h
  obtain ⟨x, vs2, rfl, h2, g2⟩ := goodAD_cons g1
  obtain rfl := goodAD_nil g2
  obtain ⟨L, rfl, _, _⟩ := goodD_ints h1
  obtain ⟨x, rfl, _⟩ := goodD_int h2
  exact (kHoldsLaw L x H).post fun v H' h => h.1

theorem driftHoldsContract (H : Type) (enc : TypeId × Value → H) (W : World) (base : Nat) (args : Array Value) (ds gs : List (DataW H)) (before : List MemPlace)
    (hval : ∀ (j : Nat) t v, Try.f10.params[j]? = some t → args[j]? = some v → Value.okWide Try.prog W .any base t v)
    (hW : DataW.Whole enc Try.prog Try.f10.params.toList Rows.driftHoldsSpec.vars false W args.toList ds gs before) :
    Calls Try.prog 10 args W fun e W' => ∃ v, e = .returned v ∧ Rows.driftHoldsSpec.post enc Try.prog Try.f10 false true false false W args v W' := by
  have hps : Try.f10.params.toList = [22, 3] := by kernel_rfl
  have hW' := hW
  obtain ⟨p, q, hA, hV, rfl, hfz, hnd⟩ := hW'
  rw [hps] at hA
  have hc := law_calls3 (P := Try.prog) (enc := enc) (N := 10) (n := 6) (b0 := base) (ts := [22, 3]) (by rw [show (Try.prog).globals.size = 0 from glob0]; exact Nat.zero_le _) (by kernel_rfl)
    (fun j t v hj hv => hval j t v (by have : Try.f10.params.toList[j]? = some t := by rw [hps]; exact hj
                                       simpa using this) (by simpa using hv)) hA driftHoldsCall
  refine hc.mono fun e W' ⟨he, hb⟩ => ⟨_, he, ?_⟩
  obtain ⟨d1, d2, rfl⟩ : ∃ d1 d2, ds = [d1, d2] := by
    obtain ⟨v0, vs0, d0, ds0, p0, q0, e1, rfl, rfl, h0, r0⟩ := trodAll_cons hA
    obtain ⟨v1, vs1, d1, ds1, p1, q1, e1, rfl, rfl, h1, r1⟩ := trodAll_cons r0
    obtain ⟨_, rfl, _⟩ := trodAll_nil r1
    exact ⟨_, _, rfl⟩
  exact post_of_below (f := Try.f10) (T := known) (tb := 4) kids (fun ht hu => slicesSized_spec sized ht hu) (by rw [hps]; intro t ht; exact of_decide_eq_true (List.all_eq_true.1 (show (([22, 3] : List Nat).all fun t => decide (t < (Try.prog).types.size)) = true by kernel_rfl) t ht)) hW rfl hb (by kernel_rfl) (by kernel_rfl) rfl

theorem driftHoldsLifted (os : Os) (started : os.Started) (H : Type) (enc : TypeId × Value → H) :
    ReturnsInHanded {} Try.checked os 10 .any (Rows.driftHoldsSpec.pre6 enc Try.prog Try.f10 Rows.driftHoldsRow.domain false) (Rows.driftHoldsSpec.post enc Try.prog Try.f10 false true false false) := by
  refine returnsInHanded_of_change (C := Try.checked) own started (by kernel_rfl) Try.func10
    (ChangeSpec.witness6 (enc := enc) (C := Try.checked) false ⟨#[], #[.slice none 0 0, .int .i64 0], []⟩ 8 (by kernel_rfl) (by kernel_rfl) (by kernel_rfl) (by kernel_rfl)) ?_
  intro W base args ds gs before hval hW _ _
  exact driftHoldsContract H enc W base args ds gs before hval hW

theorem driftHolds_holds : Rows.DriftHoldsSaid :=
  OpenClaim.holds_of_wide 10 Try.f10 rfl rfl rfl rfl rfl rfl rfl ⟨rfl, rfl, rfl, rfl, rfl⟩ rfl rfl rfl rfl rfl (by kernel_rfl) Try.func10 (by kernel_rfl)
    (of_decide_eq_true (by kernel_rfl)) (by unfold Func.isWrapper; first | (rw [if_pos (by decide +kernel)]; kernel_rfl) | (rw [if_neg (by decide +kernel)]; exact ⟨rfl, rfl⟩))
    (fun os started H enc _ => driftHoldsLifted os started H enc)
end
#print axioms driftHolds_holds
end Go.Proofs.Ytkkgnalgmebfjaa
