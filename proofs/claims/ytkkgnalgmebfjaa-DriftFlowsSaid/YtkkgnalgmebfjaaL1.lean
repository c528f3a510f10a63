/- DriftFlows returns true for every input, and its arguments read behind the call as before. No condition. -/
import Derived.Test.YtkkgnalgmebfjaaGA4xL0
namespace Go.Proofs.Ytkkgnalgmebfjaa
set_option linter.unusedSimpArgs false
open Go Go.K Go.ChangeShapes Go.WideShapes Go.ChangeAt Go.RowKit
set_option maxRecDepth 100000
set_option linter.unusedVariables false
noncomputable section
attribute [local irreducible] vF
theorem driftFlowsCall (H : Heap) (vs : List Value) (h : GoodA Try.prog H 6 [44, 45, 49, 49, 3, 3] vs) : KCall Try.prog 4 vs H [] (fun v _ => v = .bool true) := by
  obtain ⟨b, vs1, rfl, h1, g1⟩ := goodA_cons h
  obtain ⟨l, vs2, rfl, h2, g2⟩ := goodA_cons g1
  obtain ⟨p, vs3, rfl, h3, g3⟩ := goodA_cons g2
  obtain ⟨q, vs4, rfl, h4, g4⟩ := goodA_cons g3
  obtain ⟨s, vs5, rfl, h5, g5⟩ := goodA_cons g4
  obtain ⟨c, vs6, rfl, h6, g6⟩ := goodA_cons g5
  obtain rfl := goodA_nil g6
  obtain ⟨w, hh, a, r1⟩ := basin_read h1
  obtain ⟨xs, _, r2⟩ := flows_read h2
  obtain ⟨p, rfl⟩ := good_flow h3
  obtain ⟨q, rfl⟩ := good_flow h4
  obtain ⟨s, rfl, _⟩ := good_int h5
  obtain ⟨c, rfl, _⟩ := good_int h6
  obtain ⟨gs1, id1, own1, z1, k1, e1⟩ := r1 []
  obtain ⟨gs2, id2, own2, z2, k2, e2⟩ := r2 gs1
  rw [List.append_nil] at e1
  have f1 : (H ++ (gs1 ++ gs2))[id1]? = some (.cells own1 z1 (a.flatMap boolC)) := by
    rw [← List.append_assoc H, List.getElem?_append_left (List.getElem?_eq_some_iff.1 e1).1]; exact e1
  have f2 : (H ++ (gs1 ++ gs2))[id2]? = some (.cells own2 z2 (xs.flatMap flowC)) := by
    rw [← List.append_assoc H]; exact e2
  exact KCall.weakArgs (gs1 ++ gs2) ((kFlowsLaw w hh a xs p q s c f1 f2).post fun v H' h => h.1) rfl (wks_spec (xs := [b, l, flowV p, flowV q, .int .i64 s, .int .i64 c]) (ys := [basV w hh id1 a.length, .slice (some ⟨id2, 0, some 2⟩) xs.length xs.length, flowV p, flowV q, .int .i64 s, .int .i64 c]) ⟨k1, k2, wk_refl _, wk_refl _, wk_refl _, wk_refl _, trivial⟩).2

theorem driftFlowsContract (H : Type) (enc : TypeId × Value → H) (W : World) (base : Nat) (args : Array Value) (ds gs : List (DataW H)) (before : List MemPlace)
    (hval : ∀ (j : Nat) t v, Try.f4.params[j]? = some t → args[j]? = some v → Value.okWide Try.prog W .any base t v)
    (hW : DataW.Whole enc Try.prog Try.f4.params.toList Rows.driftFlowsSpec.vars false W args.toList ds gs before) :
    Calls Try.prog 4 args W fun e W' => ∃ v, e = .returned v ∧ Rows.driftFlowsSpec.post enc Try.prog Try.f4 false true false false W args v W' := by
  have hps : Try.f4.params.toList = [44, 45, 49, 49, 3, 3] := by kernel_rfl
  have hW' := hW
  obtain ⟨p, q, hA, hV, rfl, hfz, hnd⟩ := hW'
  rw [hps] at hA
  have hc := law_calls (P := Try.prog) (enc := enc) (N := 4) (n := 6) (b0 := base) (ts := [44, 45, 49, 49, 3, 3]) (by rw [show (Try.prog).globals.size = 0 from glob0]; exact Nat.zero_le _) (by kernel_rfl)
    (fun j t v hj hv => hval j t v (by have : Try.f4.params.toList[j]? = some t := by rw [hps]; exact hj
                                       simpa using this) (by simpa using hv)) hA driftFlowsCall
  refine hc.mono fun e W' ⟨he, hb⟩ => ⟨_, he, ?_⟩
  obtain ⟨d1, d2, d3, d4, d5, d6, rfl⟩ : ∃ d1 d2 d3 d4 d5 d6, ds = [d1, d2, d3, d4, d5, d6] := by
    obtain ⟨v0, vs0, d0, ds0, p0, q0, e1, rfl, rfl, h0, r0⟩ := trodAll_cons hA
    obtain ⟨v1, vs1, d1, ds1, p1, q1, e1, rfl, rfl, h1, r1⟩ := trodAll_cons r0
    obtain ⟨v2, vs2, d2, ds2, p2, q2, e1, rfl, rfl, h2, r2⟩ := trodAll_cons r1
    obtain ⟨v3, vs3, d3, ds3, p3, q3, e1, rfl, rfl, h3, r3⟩ := trodAll_cons r2
    obtain ⟨v4, vs4, d4, ds4, p4, q4, e1, rfl, rfl, h4, r4⟩ := trodAll_cons r3
    obtain ⟨v5, vs5, d5, ds5, p5, q5, e1, rfl, rfl, h5, r5⟩ := trodAll_cons r4
    obtain ⟨_, rfl, _⟩ := trodAll_nil r5
    exact ⟨_, _, _, _, _, _, rfl⟩
  exact post_of_below (f := Try.f4) (T := known) (tb := 4) kids (fun ht hu => slicesSized_spec sized ht hu) (by rw [hps]; intro t ht; exact of_decide_eq_true (List.all_eq_true.1 (show (([44, 45, 49, 49, 3, 3] : List Nat).all fun t => decide (t < (Try.prog).types.size)) = true by kernel_rfl) t ht)) hW rfl hb (by kernel_rfl) (by kernel_rfl) rfl

theorem driftFlowsLifted (os : Os) (started : os.Started) (H : Type) (enc : TypeId × Value → H) :
    ReturnsInHanded {} Try.checked os 4 .any (Rows.driftFlowsSpec.pre6 enc Try.prog Try.f4 Rows.driftFlowsRow.domain false) (Rows.driftFlowsSpec.post enc Try.prog Try.f4 false true false false) := by
  refine returnsInHanded_of_change (C := Try.checked) own started (by kernel_rfl) Try.func4
    (ChangeSpec.witness6 (enc := enc) (C := Try.checked) false ⟨#[], #[.agg #[.int .i64 0, .int .i64 0, .slice none 0 0], .slice none 0 0, .agg #[.int .i64 0, .int .i64 0, .int .i64 0, .int .i64 0], .agg #[.int .i64 0, .int .i64 0, .int .i64 0, .int .i64 0], .int .i64 0, .int .i64 0], []⟩ 8 (by kernel_rfl) (by kernel_rfl) (by kernel_rfl) (by kernel_rfl)) ?_
  intro W base args ds gs before hval hW _ _
  exact driftFlowsContract H enc W base args ds gs before hval hW

theorem driftFlows_holds : Rows.DriftFlowsSaid :=
  OpenClaim.holds_of_wide 4 Try.f4 rfl rfl rfl rfl rfl rfl rfl ⟨rfl, rfl, rfl, rfl, rfl⟩ rfl rfl rfl rfl rfl (by kernel_rfl) Try.func4 (by kernel_rfl)
    (of_decide_eq_true (by kernel_rfl)) (by unfold Func.isWrapper; first | (rw [if_pos (by decide +kernel)]; kernel_rfl) | (rw [if_neg (by decide +kernel)]; exact ⟨rfl, rfl⟩))
    (fun os started H enc _ => driftFlowsLifted os started H enc)
end
#print axioms driftFlows_holds
end Go.Proofs.Ytkkgnalgmebfjaa
