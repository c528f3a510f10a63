/- DriftFloes returns true for every input, and its arguments read behind the call as before. No condition. -/
import Derived.Test.YtkkgnalgmebfjaaGA4xK37
import Derived.Test.YtkkgnalgmebfjaaM0
namespace Go.Proofs.Ytkkgnalgmebfjaa
set_option linter.unusedSimpArgs false
open Go Go.K Go.ChangeShapes Go.WideShapes Go.ChangeAt Go.RowKit
set_option maxRecDepth 100000
set_option linter.unusedVariables false
noncomputable section
attribute [local irreducible] vF
theorem driftFloesCall (H : Heap) (vs : List Value) (h : GoodA2 Try.prog H 6 [44, 76, 3] vs) : KCall Try.prog 5 vs H [] (fun v _ => v = .bool true) := by
  obtain ⟨b, vs1, rfl, h1, g1⟩ := goodA2_cons h
  obtain ⟨l, vs2, rfl, h2, g2⟩ := goodA2_cons g1
  obtain ⟨c, vs3, rfl, h3, g3⟩ := goodA2_cons g2
  obtain rfl := goodA2_nil g3
  obtain ⟨w, hh, a, r1⟩ := basin_read2 h1
  obtain ⟨xs, _, r2⟩ := flowss_read2 h2
  obtain ⟨c, rfl, _⟩ := good2_int h3
  obtain ⟨gs1, id1, own1, z1, k1, e1⟩ := r1 []
  obtain ⟨gs2, id2, own2, z2, k2, e2⟩ := r2 gs1
  rw [List.append_nil] at e1
  have f1 : (H ++ (gs1 ++ gs2))[id1]? = some (.cells own1 z1 (a.flatMap boolC)) := by
    rw [← List.append_assoc H, List.getElem?_append_left (List.getElem?_eq_some_iff.1 e1).1]; exact e1
  have f2 : (H ++ (gs1 ++ gs2))[id2]? = some (.cells own2 z2 (flL xs)) := by
    rw [← List.append_assoc H]; exact e2
  exact KCall.weakArgs (gs1 ++ gs2) ((kFloesLaw w hh a xs c f1 f2).post fun v H' h => h.1) rfl (wks_spec (xs := [b, l, .int .i64 c]) (ys := [basV w hh id1 a.length, .slice (some ⟨id2, 0, some 2⟩) xs.length xs.length, .int .i64 c]) ⟨k1, k2, wk_refl _, trivial⟩).2

theorem driftFloesContract (H : Type) (enc : TypeId × Value → H) (W : World) (base : Nat) (args : Array Value) (ds gs : List (DataW H)) (before : List MemPlace)
    (hval : ∀ (j : Nat) t v, Try.f5.params[j]? = some t → args[j]? = some v → Value.okWide Try.prog W .any base t v)
    (hW : DataW.Whole enc Try.prog Try.f5.params.toList Rows.driftFloesSpec.vars false W args.toList ds gs before) :
    Calls Try.prog 5 args W fun e W' => ∃ v, e = .returned v ∧ Rows.driftFloesSpec.post enc Try.prog Try.f5 false true false false W args v W' := by
  have hps : Try.f5.params.toList = [44, 76, 3] := by kernel_rfl
  have hW' := hW
  obtain ⟨p, q, hA, hV, rfl, hfz, hnd⟩ := hW'
  rw [hps] at hA
  have hc := law_calls2 (P := Try.prog) (enc := enc) (N := 5) (n := 6) (b0 := base) (ts := [44, 76, 3]) (by rw [show (Try.prog).globals.size = 0 from glob0]; exact Nat.zero_le _) (by kernel_rfl)
    (fun j t v hj hv => hval j t v (by have : Try.f5.params.toList[j]? = some t := by rw [hps]; exact hj
                                       simpa using this) (by simpa using hv)) hA driftFloesCall
  refine hc.mono fun e W' ⟨he, hb⟩ => ⟨_, he, ?_⟩
  obtain ⟨d1, d2, d3, rfl⟩ : ∃ d1 d2 d3, ds = [d1, d2, d3] := by
    obtain ⟨v0, vs0, d0, ds0, p0, q0, e1, rfl, rfl, h0, r0⟩ := trodAll_cons hA
    obtain ⟨v1, vs1, d1, ds1, p1, q1, e1, rfl, rfl, h1, r1⟩ := trodAll_cons r0
    obtain ⟨v2, vs2, d2, ds2, p2, q2, e1, rfl, rfl, h2, r2⟩ := trodAll_cons r1
    obtain ⟨_, rfl, _⟩ := trodAll_nil r2
    exact ⟨_, _, _, rfl⟩
  exact post_of_below (f := Try.f5) (T := known) (tb := 4) kids (fun ht hu => slicesSized_spec sized ht hu) (by rw [hps]; intro t ht; exact of_decide_eq_true (List.all_eq_true.1 (show (([44, 76, 3] : List Nat).all fun t => decide (t < (Try.prog).types.size)) = true by kernel_rfl) t ht)) hW rfl hb (by kernel_rfl) (by kernel_rfl) rfl

theorem driftFloesLifted (os : Os) (started : os.Started) (H : Type) (enc : TypeId × Value → H) :
    ReturnsInHanded {} Try.checked os 5 .any (Rows.driftFloesSpec.pre6 enc Try.prog Try.f5 Rows.driftFloesRow.domain false) (Rows.driftFloesSpec.post enc Try.prog Try.f5 false true false false) := by
  refine returnsInHanded_of_change (C := Try.checked) own started (by kernel_rfl) Try.func5
    (ChangeSpec.witness6 (enc := enc) (C := Try.checked) false ⟨#[], #[.agg #[.int .i64 0, .int .i64 0, .slice none 0 0], .slice none 0 0, .int .i64 0], []⟩ 8 (by kernel_rfl) (by kernel_rfl) (by kernel_rfl) (by kernel_rfl)) ?_
  intro W base args ds gs before hval hW _ _
  exact driftFloesContract H enc W base args ds gs before hval hW

theorem driftFloes_holds : Rows.DriftFloesSaid :=
  OpenClaim.holds_of_wide 5 Try.f5 rfl rfl rfl rfl rfl rfl rfl ⟨rfl, rfl, rfl, rfl, rfl⟩ rfl rfl rfl rfl rfl (by kernel_rfl) Try.func5 (by kernel_rfl)
    (of_decide_eq_true (by kernel_rfl)) (by unfold Func.isWrapper; first | (rw [if_pos (by decide +kernel)]; kernel_rfl) | (rw [if_neg (by decide +kernel)]; exact ⟨rfl, rfl⟩))
    (fun os started H enc _ => driftFloesLifted os started H enc)
end
#print axioms driftFloes_holds
end Go.Proofs.Ytkkgnalgmebfjaa
