/- IceCells returns true for every input, and its arguments read behind the call as before. No condition. -/
import Derived.Test.YthcjliffpebjaaaGreatGA4xL0
namespace Go.Proofs.YthcjliffpebjaaaGreat
open Go Go.K Go.ChangeShapes Go.WideShapes Go.ChangeAt Go.RowKit
set_option maxRecDepth 100000
set_option linter.unusedVariables false
noncomputable section
attribute [local irreducible] vF
theorem iceCellsCall (H : Heap) (vs : List Value) (h : GoodA Tryz.prog H 6 [43, 43, 24, 26, 3, 72] vs) : KCall Tryz.prog 4 vs H [] (fun v _ => v = .bool true) := by
  obtain ⟨a, vs1, rfl, h1, g1⟩ := goodA_cons h
  obtain ⟨b, vs2, rfl, h2, g2⟩ := goodA_cons g1
  obtain ⟨x, vs3, rfl, h3, g3⟩ := goodA_cons g2
  obtain ⟨m, vs4, rfl, h4, g4⟩ := goodA_cons g3
  obtain ⟨t, vs5, rfl, h5, g5⟩ := goodA_cons g4
  obtain ⟨l, vs6, rfl, h6, g6⟩ := goodA_cons g5
  obtain rfl := goodA_nil g6
  obtain ⟨a, rfl⟩ := good_cell h1
  obtain ⟨b, rfl⟩ := good_cell h2
  obtain ⟨x, rfl⟩ := good_ice h3
  obtain ⟨m, rfl⟩ := good_rates h4
  obtain ⟨t, rfl, _⟩ := good_int h5
  obtain ⟨xs, gs, id, own, z, hw, hid, hn⟩ := good_ices h6
  exact (KCall.weakArgs gs ((kCells a b x m t xs hid).post fun v H' h => h.1) rfl (wks_spec (xs := [cellV a, cellV b, iceV x, ratesV m, .int .i64 t, l]) (ys := [cellV a, cellV b, iceV x, ratesV m, .int .i64 t, .slice (some ⟨id, 0, some 2⟩) xs.length xs.length]) ⟨wk_refl _, wk_refl _, wk_refl _, wk_refl _, wk_refl _, hw, trivial⟩).2)

theorem iceCellsContract (H : Type) (enc : TypeId × Value → H) (W : World) (base : Nat) (args : Array Value) (ds gs : List (DataW H)) (before : List MemPlace)
    (hval : ∀ (j : Nat) t v, Tryz.f4.params[j]? = some t → args[j]? = some v → Value.okWide Tryz.prog W .any base t v)
    (hW : DataW.Whole enc Tryz.prog Tryz.f4.params.toList Rows.iceCellsSpec.vars false W args.toList ds gs before) :
    Calls Tryz.prog 4 args W fun e W' => ∃ v, e = .returned v ∧ Rows.iceCellsSpec.post enc Tryz.prog Tryz.f4 false true false false W args v W' := by
  have hps : Tryz.f4.params.toList = [43, 43, 24, 26, 3, 72] := by kernel_rfl
  have hW' := hW
  obtain ⟨p, q, hA, hV, rfl, hfz, hnd⟩ := hW'
  rw [hps] at hA
  have hc := law_calls (P := Tryz.prog) (enc := enc) (N := 4) (n := 6) (b0 := base) (ts := [43, 43, 24, 26, 3, 72]) (by rw [show (Tryz.prog).globals.size = 0 from glob0]; exact Nat.zero_le _) (by kernel_rfl)
    (fun j t v hj hv => hval j t v (by have : Tryz.f4.params.toList[j]? = some t := by rw [hps]; exact hj
                                       simpa using this) (by simpa using hv)) hA iceCellsCall
  refine hc.mono fun e W' ⟨he, hb⟩ => ⟨_, he, ?_⟩
  obtain ⟨d1, d2, d3, d4, d5, d6, rfl⟩ : ∃ d1 d2 d3 d4 d5 d6, ds = [d1, d2, d3, d4, d5, d6] := by
    obtain ⟨v0, vs0, d0, ds0, p0, q0, e1, rfl, rfl, h0, r0⟩ := trodAll_cons hA
    obtain ⟨v1, vs1, d1, ds1, p1, q1, e1, rfl, rfl, h1, r1⟩ := trodAll_cons r0
    obtain ⟨v2, vs2, d2, ds2, p2, q2, e1, rfl, rfl, h2, r2⟩ := trodAll_cons r1
    obtain ⟨v3, vs3, d3, ds3, p3, q3, e1, rfl, rfl, h3, r3⟩ := trodAll_cons r2
    obtain ⟨v4, vs4, d4, ds4, p4, q4, e1, rfl, rfl, h4, r4⟩ := trodAll_cons r3
    obtain ⟨v5, vs5, d5, ds5, p5, q5, e1, rfl, rfl, h5, r5⟩ := trodAll_cons r4
    obtain ⟨_, rfl, _⟩ := trodAll_nil r5
    exact ⟨_, _, _, _, _, _, rfl⟩
  exact post_of_below (f := Tryz.f4) (T := known) (tb := 4) kids (fun ht hu => slicesSized_spec sized ht hu) (by rw [hps]; intro t ht; exact of_decide_eq_true (List.all_eq_true.1 (show (([43, 43, 24, 26, 3, 72] : List Nat).all fun t => decide (t < (Tryz.prog).types.size)) = true by kernel_rfl) t ht)) hW rfl hb (by kernel_rfl) (by kernel_rfl) rfl

theorem iceCellsLifted (os : Os) (started : os.Started) (H : Type) (enc : TypeId × Value → H) :
    ReturnsInHanded {} Tryz.checked os 4 .any (Rows.iceCellsSpec.pre6 enc Tryz.prog Tryz.f4 Rows.iceCellsRow.domain false) (Rows.iceCellsSpec.post enc Tryz.prog Tryz.f4 false true false false) := by
  refine returnsInHanded_of_change (C := Tryz.checked) own started (by kernel_rfl) Tryz.func4
    (ChangeSpec.witness6 (enc := enc) (C := Tryz.checked) false ⟨#[], #[.agg #[.int .i64 0, .int .i64 0, .int .i64 0, .int .i64 0, .int .i64 0, .int .i64 0, .int .i64 0, .int .i64 0], .agg #[.int .i64 0, .int .i64 0, .int .i64 0, .int .i64 0, .int .i64 0, .int .i64 0, .int .i64 0, .int .i64 0], .agg #[.int .i64 0, .int .i64 0, .int .i64 0, .int .i64 0], .agg #[.int .i64 0, .int .i64 0, .int .i64 0, .int .i64 0, .int .i64 0, .int .i64 0, .int .i64 0, .int .i64 0], .int .i64 0, .slice none 0 0], []⟩ 8 (by kernel_rfl) (by kernel_rfl) (by kernel_rfl) (by kernel_rfl)) ?_
  intro W base args ds gs before hval hW _ _
  exact iceCellsContract H enc W base args ds gs before hval hW

theorem iceCells_holds : Rows.IceCellsSaid :=
  OpenClaim.holds_of_wide 4 Tryz.f4 rfl rfl rfl rfl rfl rfl rfl ⟨rfl, rfl, rfl, rfl, rfl⟩ rfl rfl rfl rfl rfl (by kernel_rfl) Tryz.func4 (by kernel_rfl)
    (of_decide_eq_true (by kernel_rfl)) (by unfold Func.isWrapper; first | (rw [if_pos (by decide +kernel)]; kernel_rfl) | (rw [if_neg (by decide +kernel)]; exact ⟨rfl, rfl⟩))
    (fun os started H enc _ => iceCellsLifted os started H enc)
end
#print axioms iceCells_holds
end Go.Proofs.YthcjliffpebjaaaGreat
