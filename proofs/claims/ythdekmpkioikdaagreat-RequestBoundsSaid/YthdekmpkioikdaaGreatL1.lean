/- RequestBounds returns true for every input, and its arguments read behind the call as before. No condition. -/
import Derived.Test.YthdekmpkioikdaaGreatGZ8xL0
namespace Go.Proofs.YthdekmpkioikdaaGreat
set_option linter.unusedSimpArgs false
open Go Go.K Go.ChangeShapes Go.WideShapes Go.ChangeAt Go.RowKit
set_option maxRecDepth 100000
set_option linter.unusedVariables false
noncomputable section
attribute [local irreducible] vF
theorem requestBoundsCall (H : Heap) (vs : List Value) (h : GoodA2 Tryz.prog H 6 [25, 29, 80] vs) : KCall Tryz.prog 6 vs H [] (fun v _ => v = .bool true) := by
  obtain ⟨b, vs1, rfl, h1, g1⟩ := goodA2_cons h
  obtain ⟨l, vs2, rfl, h2, g2⟩ := goodA2_cons g1
  obtain ⟨c, vs3, rfl, h3, g3⟩ := goodA2_cons g2
  obtain rfl := goodA2_nil g3
  obtain ⟨f, r1⟩ := fleet_read2 h1
  obtain ⟨xs, _, r2⟩ := rqs_read2 h2
  obtain ⟨q, rfl⟩ := pre_read2 h3
  obtain ⟨gs1, i, j, o, o', z, z', k1, e1, e2⟩ := r1 []
  obtain ⟨gs2, id2, own2, z2, k2, e3⟩ := r2 gs1
  rw [List.append_nil] at e1 e2
  have f1 : (H ++ (gs1 ++ gs2))[i]? = some (.cells o z (inL f.t)) := by
    rw [← List.append_assoc H, List.getElem?_append_left (List.getElem?_eq_some_iff.1 e1).1]; exact e1
  have f2 : (H ++ (gs1 ++ gs2))[j]? = some (.cells o' z' (f.b.flatMap intC)) := by
    rw [← List.append_assoc H, List.getElem?_append_left (List.getElem?_eq_some_iff.1 e2).1]; exact e2
  have f3 : (H ++ (gs1 ++ gs2))[id2]? = some (.cells own2 z2 (xs.flatMap rqC)) := by
    rw [← List.append_assoc H]; exact e3
  exact KCall.weakArgs (gs1 ++ gs2) ((kBoundsLaw f xs q f1 f2 f3).post fun v H' h => h.1) rfl (wks_spec (xs := [b, l, .agg ⟨preC q⟩]) (ys := [fleetV f i j, .slice (some ⟨id2, 0, some 2⟩) xs.length xs.length, .agg ⟨preC q⟩]) ⟨k1, k2, wk_refl _, trivial⟩).2

theorem requestBoundsContract (H : Type) (enc : TypeId × Value → H) (W : World) (base : Nat) (args : Array Value) (ds gs : List (DataW H)) (before : List MemPlace)
    (hval : ∀ (j : Nat) t v, Tryz.f6.params[j]? = some t → args[j]? = some v → Value.okWide Tryz.prog W .any base t v)
    (hW : DataW.Whole enc Tryz.prog Tryz.f6.params.toList Rows.requestBoundsSpec.vars false W args.toList ds gs before) :
    Calls Tryz.prog 6 args W fun e W' => ∃ v, e = .returned v ∧ Rows.requestBoundsSpec.post enc Tryz.prog Tryz.f6 false true false false W args v W' := by
  have hps : Tryz.f6.params.toList = [25, 29, 80] := by kernel_rfl
  have hW' := hW
  obtain ⟨p, q, hA, hV, rfl, hfz, hnd⟩ := hW'
  rw [hps] at hA
  have hc := law_calls2 (P := Tryz.prog) (enc := enc) (N := 6) (n := 6) (b0 := base) (ts := [25, 29, 80]) (by rw [show (Tryz.prog).globals.size = 0 from glob0]; exact Nat.zero_le _) (by kernel_rfl)
    (fun j t v hj hv => hval j t v (by have : Tryz.f6.params.toList[j]? = some t := by rw [hps]; exact hj
                                       simpa using this) (by simpa using hv)) hA requestBoundsCall
  refine hc.mono fun e W' ⟨he, hb⟩ => ⟨_, he, ?_⟩
  obtain ⟨d1, d2, d3, rfl⟩ : ∃ d1 d2 d3, ds = [d1, d2, d3] := by
    obtain ⟨v0, vs0, d0, ds0, p0, q0, e1, rfl, rfl, h0, r0⟩ := trodAll_cons hA
    obtain ⟨v1, vs1, d1, ds1, p1, q1, e1, rfl, rfl, h1, r1⟩ := trodAll_cons r0
    obtain ⟨v2, vs2, d2, ds2, p2, q2, e1, rfl, rfl, h2, r2⟩ := trodAll_cons r1
    obtain ⟨_, rfl, _⟩ := trodAll_nil r2
    exact ⟨_, _, _, rfl⟩
  exact post_of_below (f := Tryz.f6) (T := known) (tb := 4) kids (fun ht hu => slicesSized_spec sized ht hu) (by rw [hps]; intro t ht; exact of_decide_eq_true (List.all_eq_true.1 (show (([25, 29, 80] : List Nat).all fun t => decide (t < (Tryz.prog).types.size)) = true by kernel_rfl) t ht)) hW rfl hb (by kernel_rfl) (by kernel_rfl) rfl

theorem requestBoundsLifted (os : Os) (started : os.Started) (H : Type) (enc : TypeId × Value → H) :
    ReturnsInHanded {} Tryz.checked os 6 .any (Rows.requestBoundsSpec.pre6 enc Tryz.prog Tryz.f6 Rows.requestBoundsRow.domain false) (Rows.requestBoundsSpec.post enc Tryz.prog Tryz.f6 false true false false) := by
  refine returnsInHanded_of_change (C := Tryz.checked) own started (by kernel_rfl) Tryz.func6
    (ChangeSpec.witness6 (enc := enc) (C := Tryz.checked) false ⟨#[], #[.agg #[.slice none 0 0, .slice none 0 0], .slice none 0 0, .agg #[.int .i64 0, .int .i64 0, .int .i64 0]], []⟩ 8 (by kernel_rfl) (by kernel_rfl) (by kernel_rfl) (by kernel_rfl)) ?_
  intro W base args ds gs before hval hW _ _
  exact requestBoundsContract H enc W base args ds gs before hval hW

theorem requestBounds_holds : Rows.RequestBoundsSaid :=
  OpenClaim.holds_of_wide 6 Tryz.f6 rfl rfl rfl rfl rfl rfl rfl ⟨rfl, rfl, rfl, rfl, rfl⟩ rfl rfl rfl rfl rfl (by kernel_rfl) Tryz.func6 (by kernel_rfl)
    (of_decide_eq_true (by kernel_rfl)) (by unfold Func.isWrapper; first | (rw [if_pos (by decide +kernel)]; kernel_rfl) | (rw [if_neg (by decide +kernel)]; exact ⟨rfl, rfl⟩))
    (fun os started H enc _ => requestBoundsLifted os started H enc)
end
#print axioms requestBounds_holds
end Go.Proofs.YthdekmpkioikdaaGreat
