/- RequestRuns returns true for every input, and its arguments read behind the call as before. No condition. -/
import Derived.Test.YthdekmpkioikdaaGreatGR22gxL0
namespace Go.Proofs.YthdekmpkioikdaaGreat
set_option linter.unusedSimpArgs false
open Go Go.K Go.ChangeShapes Go.WideShapes Go.ChangeAt Go.RowKit
set_option maxRecDepth 100000
set_option linter.unusedVariables false
noncomputable section
attribute [local irreducible] vF
theorem requestRunsCall (H : Heap) (vs : List Value) (h : GoodA2 Tryz.prog H 6 [25, 28, 29, 67] vs) : KCall Tryz.prog 5 vs H [] (fun v _ => v = .bool true) := by
 obtain ⟨v1, vs1, rfl, h1, g1⟩ := goodA2_cons h
 obtain ⟨v2, vs2, rfl, h2, g2⟩ := goodA2_cons g1
 obtain ⟨v3, vs3, rfl, h3, g3⟩ := goodA2_cons g2
 obtain ⟨v4, vs4, rfl, h4, g4⟩ := goodA2_cons g3
 obtain rfl := goodA2_nil g4
 obtain ⟨f, r1⟩ := fleet_read2 h1
 obtain ⟨q, rfl⟩ := pol_read2 h2
 obtain ⟨xs, _, r2⟩ := rqs_read2 h3
 obtain ⟨ys, _, r3⟩ := svs_read2 h4
 obtain ⟨gs1, i, j, o, o', z, z', k1, e1, e2⟩ := r1 []
 obtain ⟨gs2, id2, own2, z2, k2, e3⟩ := r2 gs1
 obtain ⟨gs3, id3, own3, z3, k3, e4⟩ := r3 (gs1 ++ gs2)
 rw [List.append_nil] at e1 e2
 have up : ∀ {A B : Heap} {n : Nat} {o : KObj}, A[n]? = some o -> (A ++ B)[n]? = some o := fun e => by
  rw [List.getElem?_append_left (List.getElem?_eq_some_iff.1 e).1]; exact e
 have hh : H ++ (gs1 ++ gs2) ++ gs3 = H ++ gs1 ++ gs2 ++ gs3 := by simp only [List.append_assoc]
 rw [hh] at e4
 have f1 := up (B := gs3) (up (B := gs2) e1)
 have f2 := up (B := gs3) (up (B := gs2) e2)
 have f3 := up (B := gs3) e3
 have ha : H ++ gs1 ++ gs2 ++ gs3 = H ++ (gs1 ++ gs2 ++ gs3) := by simp only [List.append_assoc]
 rw [ha] at f1 f2 f3 e4
 exact KCall.weakArgs (gs1 ++ gs2 ++ gs3) ((kRunsLaw f q xs ys f1 f2 f3 e4).post fun v H' h => h.1) rfl (wks_spec (xs := [v1, .agg ⟨polC q⟩, v3, v4]) (ys := [fleetV f i j, .agg ⟨polC q⟩, .slice (some ⟨id2, 0, some 2⟩) xs.length xs.length, .slice (some ⟨id3, 0, some 2⟩) ys.length ys.length]) ⟨k1, wk_refl _, k2, k3, trivial⟩).2
theorem requestRunsContract (H : Type) (enc : TypeId × Value -> H) (W : World) (base : Nat) (args : Array Value) (ds gs : List (DataW H)) (before : List MemPlace)
    (hval : ∀ (j : Nat) t v, Tryz.f5.params[j]? = some t -> args[j]? = some v -> Value.okWide Tryz.prog W .any base t v)
    (hW : DataW.Whole enc Tryz.prog Tryz.f5.params.toList Rows.requestRunsSpec.vars false W args.toList ds gs before) :
    Calls Tryz.prog 5 args W fun e W' => ∃ v, e = .returned v /\ Rows.requestRunsSpec.post enc Tryz.prog Tryz.f5 false true false false W args v W' := by
  have hps : Tryz.f5.params.toList = [25, 28, 29, 67] := by kernel_rfl
  have hW' := hW
  obtain ⟨p, q, hA, hV, rfl, hfz, hnd⟩ := hW'
  rw [hps] at hA
  have hc := law_calls2 (P := Tryz.prog) (enc := enc) (N := 5) (n := 6) (b0 := base) (ts := [25, 28, 29, 67]) (by rw [show (Tryz.prog).globals.size = 0 from glob0]; exact Nat.zero_le _) (by kernel_rfl)
    (fun j t v hj hv => hval j t v (by have : Tryz.f5.params.toList[j]? = some t := by rw [hps]; exact hj
                                       simpa using this) (by simpa using hv)) hA requestRunsCall
  refine hc.mono fun e W' ⟨he, hb⟩ => ⟨_, he, ?_⟩
  obtain ⟨d1, d2, d3, d4, rfl⟩ : ∃ d1 d2 d3 d4, ds = [d1, d2, d3, d4] := by
    obtain ⟨v0, vs0, d0, ds0, p0, q0, e1, rfl, rfl, h0, r0⟩ := trodAll_cons hA
    obtain ⟨v1, vs1, d1, ds1, p1, q1, e1, rfl, rfl, h1, r1⟩ := trodAll_cons r0
    obtain ⟨v2, vs2, d2, ds2, p2, q2, e1, rfl, rfl, h2, r2⟩ := trodAll_cons r1
    obtain ⟨v3, vs3, d3, ds3, p3, q3, e1, rfl, rfl, h3, r3⟩ := trodAll_cons r2
    obtain ⟨_, rfl, _⟩ := trodAll_nil r3
    exact ⟨_, _, _, _, rfl⟩
  exact post_of_below (f := Tryz.f5) (T := known) (tb := 4) kids (fun ht hu => slicesSized_spec sized ht hu) (by rw [hps]; intro t ht; exact of_decide_eq_true (List.all_eq_true.1 (show (([25, 28, 29, 67] : List Nat).all fun t => decide (t < (Tryz.prog).types.size)) = true by kernel_rfl) t ht)) hW rfl hb (by kernel_rfl) (by kernel_rfl) rfl
theorem requestRunsLifted (os : Os) (started : os.Started) (H : Type) (enc : TypeId × Value -> H) :
  ReturnsInHanded {} Tryz.checked os 5 .any (Rows.requestRunsSpec.pre6 enc Tryz.prog Tryz.f5 Rows.requestRunsRow.domain false) (Rows.requestRunsSpec.post enc Tryz.prog Tryz.f5 false true false false) := by
 refine returnsInHanded_of_change (C := Tryz.checked) own started (by kernel_rfl) Tryz.func5
  (ChangeSpec.witness6 (enc := enc) (C := Tryz.checked) false ⟨#[], #[.agg #[.slice none 0 0, .slice none 0 0], .agg #[.int .i64 0, .int .i64 0, .int .i64 0, .int .i64 0, .int .i64 0], .slice none 0 0, .slice none 0 0], []⟩ 8 (by kernel_rfl) (by kernel_rfl) (by kernel_rfl) (by kernel_rfl)) ?_
 intro W base args ds gs before hval hW _ _
 exact requestRunsContract H enc W base args ds gs before hval hW
theorem requestRuns_holds : Rows.RequestRunsSaid :=
 OpenClaim.holds_of_wide 5 Tryz.f5 rfl rfl rfl rfl rfl rfl rfl ⟨rfl, rfl, rfl, rfl, rfl⟩ rfl rfl rfl rfl rfl (by kernel_rfl) Tryz.func5 (by kernel_rfl)
  (of_decide_eq_true (by kernel_rfl)) (by unfold Func.isWrapper; first | (rw [if_pos (by decide +kernel)]; kernel_rfl) | (rw [if_neg (by decide +kernel)]; exact ⟨rfl, rfl⟩))
  (fun os started H enc _ => requestRunsLifted os started H enc)
end
#print axioms requestRuns_holds
end Go.Proofs.YthdekmpkioikdaaGreat
