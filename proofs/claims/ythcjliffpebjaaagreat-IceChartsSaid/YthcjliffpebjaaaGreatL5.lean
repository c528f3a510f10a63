/- IceCharts returns true for every input, and its arguments read behind the call as before. No condition. -/
import Derived.Test.YthcjliffpebjaaaGreatGA4xL1
namespace Go.Proofs.YthcjliffpebjaaaGreat
set_option linter.unusedSimpArgs false
open Go Go.K Go.ChangeShapes Go.WideShapes Go.ChangeAt Go.RowKit
set_option maxRecDepth 100000
set_option linter.unusedVariables false
noncomputable section
attribute [local irreducible] vF
theorem iceChartsCall (H : Heap) (vs : List Value) (h : GoodA Tryz.prog H 6 [97, 97, 72, 26, 3] vs) : KCall Tryz.prog 5 vs H [] (fun v _ => v = .bool true) := by
  obtain ⟨a, vs1, rfl, h1, g1⟩ := goodA_cons h
  obtain ⟨b, vs2, rfl, h2, g2⟩ := goodA_cons g1
  obtain ⟨l, vs3, rfl, h3, g3⟩ := goodA_cons g2
  obtain ⟨m, vs4, rfl, h4, g4⟩ := goodA_cons g3
  obtain ⟨t, vs5, rfl, h5, g5⟩ := goodA_cons g4
  obtain rfl := goodA_nil g5
  obtain ⟨w, v, u, cs, r1⟩ := chart_read h1
  obtain ⟨w', v', u', ds, r2⟩ := chart_read h2
  obtain ⟨xs, _, r3⟩ := ices_read h3
  obtain ⟨m, rfl⟩ := good_rates h4
  obtain ⟨t, rfl, _⟩ := good_int h5
  obtain ⟨gs1, id1, own1, z1, k1, e1⟩ := r1 []
  obtain ⟨gs2, id2, own2, z2, k2, e2⟩ := r2 gs1
  obtain ⟨gs3, id3, own3, z3, k3, e3⟩ := r3 (gs1 ++ gs2)
  rw [List.append_nil] at e1
  have f1 : (H ++ (gs1 ++ gs2 ++ gs3))[id1]? = some (.cells own1 z1 (cs.flatMap cellC)) := by
    rw [List.append_assoc gs1, ← List.append_assoc H, List.getElem?_append_left (List.getElem?_eq_some_iff.1 e1).1]; exact e1
  have f2 : (H ++ (gs1 ++ gs2 ++ gs3))[id2]? = some (.cells own2 z2 (ds.flatMap cellC)) := by
    rw [← List.append_assoc H, ← List.append_assoc H, List.getElem?_append_left (List.getElem?_eq_some_iff.1 e2).1]; exact e2
  have f3 : (H ++ (gs1 ++ gs2 ++ gs3))[id3]? = some (.cells own3 z3 (xs.flatMap iceC)) := by
    rw [← List.append_assoc H]; exact e3
  exact KCall.weakArgs (gs1 ++ gs2 ++ gs3) ((kCharts w v u cs w' v' u' ds xs m t f1 f2 f3).post fun v H' h => h.1) rfl (wks_spec (xs := [a, b, l, ratesV m, .int .i64 t]) (ys := [.agg #[.int .i64 w, .int .i64 v, .int .i64 u, .slice (some ⟨id1, 0, some 2⟩) cs.length cs.length], .agg #[.int .i64 w', .int .i64 v', .int .i64 u', .slice (some ⟨id2, 0, some 2⟩) ds.length ds.length], .slice (some ⟨id3, 0, some 2⟩) xs.length xs.length, ratesV m, .int .i64 t]) ⟨k1, k2, k3, wk_refl _, wk_refl _, trivial⟩).2

theorem iceChartsContract (H : Type) (enc : TypeId × Value → H) (W : World) (base : Nat) (args : Array Value) (ds gs : List (DataW H)) (before : List MemPlace)
    (hval : ∀ (j : Nat) t v, Tryz.f5.params[j]? = some t → args[j]? = some v → Value.okWide Tryz.prog W .any base t v)
    (hW : DataW.Whole enc Tryz.prog Tryz.f5.params.toList Rows.iceChartsSpec.vars false W args.toList ds gs before) :
    Calls Tryz.prog 5 args W fun e W' => ∃ v, e = .returned v ∧ Rows.iceChartsSpec.post enc Tryz.prog Tryz.f5 false true false false W args v W' := by
  have hps : Tryz.f5.params.toList = [97, 97, 72, 26, 3] := by kernel_rfl
  have hW' := hW
  obtain ⟨p, q, hA, hV, rfl, hfz, hnd⟩ := hW'
  rw [hps] at hA
  have hc := law_calls (P := Tryz.prog) (enc := enc) (N := 5) (n := 6) (b0 := base) (ts := [97, 97, 72, 26, 3]) (by rw [show (Tryz.prog).globals.size = 0 from glob0]; exact Nat.zero_le _) (by kernel_rfl)
    (fun j t v hj hv => hval j t v (by have : Tryz.f5.params.toList[j]? = some t := by rw [hps]; exact hj
                                       simpa using this) (by simpa using hv)) hA iceChartsCall
  refine hc.mono fun e W' ⟨he, hb⟩ => ⟨_, he, ?_⟩
  obtain ⟨d1, d2, d3, d4, d5, rfl⟩ : ∃ d1 d2 d3 d4 d5, ds = [d1, d2, d3, d4, d5] := by
    obtain ⟨v0, vs0, d0, ds0, p0, q0, e1, rfl, rfl, h0, r0⟩ := trodAll_cons hA
    obtain ⟨v1, vs1, d1, ds1, p1, q1, e1, rfl, rfl, h1, r1⟩ := trodAll_cons r0
    obtain ⟨v2, vs2, d2, ds2, p2, q2, e1, rfl, rfl, h2, r2⟩ := trodAll_cons r1
    obtain ⟨v3, vs3, d3, ds3, p3, q3, e1, rfl, rfl, h3, r3⟩ := trodAll_cons r2
    obtain ⟨v4, vs4, d4, ds4, p4, q4, e1, rfl, rfl, h4, r4⟩ := trodAll_cons r3
    obtain ⟨_, rfl, _⟩ := trodAll_nil r4
    exact ⟨_, _, _, _, _, rfl⟩
  exact post_of_below (f := Tryz.f5) (T := known) (tb := 4) kids (fun ht hu => slicesSized_spec sized ht hu) (by rw [hps]; intro t ht; exact of_decide_eq_true (List.all_eq_true.1 (show (([97, 97, 72, 26, 3] : List Nat).all fun t => decide (t < (Tryz.prog).types.size)) = true by kernel_rfl) t ht)) hW rfl hb (by kernel_rfl) (by kernel_rfl) rfl

theorem iceChartsLifted (os : Os) (started : os.Started) (H : Type) (enc : TypeId × Value → H) :
    ReturnsInHanded {} Tryz.checked os 5 .any (Rows.iceChartsSpec.pre6 enc Tryz.prog Tryz.f5 Rows.iceChartsRow.domain false) (Rows.iceChartsSpec.post enc Tryz.prog Tryz.f5 false true false false) := by
  refine returnsInHanded_of_change (C := Tryz.checked) own started (by kernel_rfl) Tryz.func5
    (ChangeSpec.witness6 (enc := enc) (C := Tryz.checked) false ⟨#[], #[.agg #[.int .i64 0, .int .i64 0, .int .i64 0, .slice none 0 0], .agg #[.int .i64 0, .int .i64 0, .int .i64 0, .slice none 0 0], .slice none 0 0, .agg #[.int .i64 0, .int .i64 0, .int .i64 0, .int .i64 0, .int .i64 0, .int .i64 0, .int .i64 0, .int .i64 0], .int .i64 0], []⟩ 8 (by kernel_rfl) (by kernel_rfl) (by kernel_rfl) (by kernel_rfl)) ?_
  intro W base args ds gs before hval hW _ _
  exact iceChartsContract H enc W base args ds gs before hval hW

theorem iceCharts_holds : Rows.IceChartsSaid :=
  OpenClaim.holds_of_wide 5 Tryz.f5 rfl rfl rfl rfl rfl rfl rfl ⟨rfl, rfl, rfl, rfl, rfl⟩ rfl rfl rfl rfl rfl (by kernel_rfl) Tryz.func5 (by kernel_rfl)
    (of_decide_eq_true (by kernel_rfl)) (by unfold Func.isWrapper; first | (rw [if_pos (by decide +kernel)]; kernel_rfl) | (rw [if_neg (by decide +kernel)]; exact ⟨rfl, rfl⟩))
    (fun os started H enc _ => iceChartsLifted os started H enc)
end
#print axioms iceCharts_holds
end Go.Proofs.YthcjliffpebjaaaGreat
