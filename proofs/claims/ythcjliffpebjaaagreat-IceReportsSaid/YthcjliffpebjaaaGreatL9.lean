/- IceReports returns true for every input, and its arguments read behind the call as before. No condition. -/
import Derived.Test.YthcjliffpebjaaaGreatGA4xL1
namespace Go.Proofs.YthcjliffpebjaaaGreat
set_option linter.unusedSimpArgs false
open Go Go.K Go.ChangeShapes Go.WideShapes Go.ChangeAt Go.RowKit
set_option maxRecDepth 100000
set_option linter.unusedVariables false
noncomputable section
attribute [local irreducible] vF
theorem reports_read {H : Heap} {v : Value} (h : GoodV Tryz.prog H 6 22 v) : ∃ xs : List Report, xs.length ≤ maxLen ∧ ∀ K : Heap, ∃ (gs : List KObj) (id : Nat) (own : Bool) (z : Nat), wk v (.slice (some ⟨id, 0, some 2⟩) xs.length xs.length) ∧ (H ++ K ++ gs)[id]? = some (.cells own z (xs.flatMap reportC)) :=
  goodV_slice (e := 47) (by kernel_rfl) (goodL_flat (n := 14) H (by kernel_rfl) (fun ns h => by
    match ns, h with
    | [a1, a2, a3, a4, a5, a6, a7, a8, a9, a10, a11, a12, a13, a14], _ => exact ⟨⟨a1, a2, a3, a4, a5, a6, ⟨⟨a7, a8⟩, ⟨a9, a10⟩, ⟨a11, a12⟩, ⟨a13, a14⟩⟩⟩, rfl⟩)) h
theorem iceReportsCall (H : Heap) (vs : List Value) (h : GoodA Tryz.prog H 6 [22, 26, 3] vs) : KCall Tryz.prog 3 vs H [] (fun v _ => v = .bool true) := by
  obtain ⟨l, vs1, rfl, h1, g1⟩ := goodA_cons h
  obtain ⟨m, vs2, rfl, h2, g2⟩ := goodA_cons g1
  obtain ⟨t, vs3, rfl, h3, g3⟩ := goodA_cons g2
  obtain rfl := goodA_nil g3
  obtain ⟨xs, n1, r1⟩ := reports_read h1
  obtain ⟨m, rfl⟩ := good_rates h2
  obtain ⟨t, rfl, _⟩ := good_int h3
  obtain ⟨gs1, id1, own1, z1, k1, e1⟩ := r1 []
  rw [List.append_nil] at e1
  exact KCall.weakArgs gs1 ((kReportsLaw xs m t e1).post fun v H' h => h.1) rfl (wks_spec (xs := [l, ratesV m, .int .i64 t]) (ys := [.slice (some ⟨id1, 0, some 2⟩) xs.length xs.length, ratesV m, .int .i64 t]) ⟨k1, wk_refl _, wk_refl _, trivial⟩).2

theorem iceReportsContract (H : Type) (enc : TypeId × Value → H) (W : World) (base : Nat) (args : Array Value) (ds gs : List (DataW H)) (before : List MemPlace)
    (hval : ∀ (j : Nat) t v, Tryz.f3.params[j]? = some t → args[j]? = some v → Value.okWide Tryz.prog W .any base t v)
    (hW : DataW.Whole enc Tryz.prog Tryz.f3.params.toList Rows.iceReportsSpec.vars false W args.toList ds gs before) :
    Calls Tryz.prog 3 args W fun e W' => ∃ v, e = .returned v ∧ Rows.iceReportsSpec.post enc Tryz.prog Tryz.f3 false true false false W args v W' := by
  have hps : Tryz.f3.params.toList = [22, 26, 3] := by kernel_rfl
  have hW' := hW
  obtain ⟨p, q, hA, hV, rfl, hfz, hnd⟩ := hW'
  rw [hps] at hA
  have hc := law_calls (P := Tryz.prog) (enc := enc) (N := 3) (n := 6) (b0 := base) (ts := [22, 26, 3]) (by rw [show (Tryz.prog).globals.size = 0 from glob0]; exact Nat.zero_le _) (by kernel_rfl)
    (fun j t v hj hv => hval j t v (by have : Tryz.f3.params.toList[j]? = some t := by rw [hps]; exact hj
                                       simpa using this) (by simpa using hv)) hA iceReportsCall
  refine hc.mono fun e W' ⟨he, hb⟩ => ⟨_, he, ?_⟩
  obtain ⟨d1, d2, d3, rfl⟩ : ∃ d1 d2 d3, ds = [d1, d2, d3] := by
    obtain ⟨v0, vs0, d0, ds0, p0, q0, e1, rfl, rfl, h0, r0⟩ := trodAll_cons hA
    obtain ⟨v1, vs1, d1, ds1, p1, q1, e1, rfl, rfl, h1, r1⟩ := trodAll_cons r0
    obtain ⟨v2, vs2, d2, ds2, p2, q2, e1, rfl, rfl, h2, r2⟩ := trodAll_cons r1
    obtain ⟨_, rfl, _⟩ := trodAll_nil r2
    exact ⟨_, _, _, rfl⟩
  exact post_of_below (f := Tryz.f3) (T := known) (tb := 4) kids (fun ht hu => slicesSized_spec sized ht hu) (by rw [hps]; intro t ht; exact of_decide_eq_true (List.all_eq_true.1 (show (([22, 26, 3] : List Nat).all fun t => decide (t < (Tryz.prog).types.size)) = true by kernel_rfl) t ht)) hW rfl hb (by kernel_rfl) (by kernel_rfl) rfl

theorem iceReportsLifted (os : Os) (started : os.Started) (H : Type) (enc : TypeId × Value → H) :
    ReturnsInHanded {} Tryz.checked os 3 .any (Rows.iceReportsSpec.pre6 enc Tryz.prog Tryz.f3 Rows.iceReportsRow.domain false) (Rows.iceReportsSpec.post enc Tryz.prog Tryz.f3 false true false false) := by
  refine returnsInHanded_of_change (C := Tryz.checked) own started (by kernel_rfl) Tryz.func3
    (ChangeSpec.witness6 (enc := enc) (C := Tryz.checked) false ⟨#[], #[.slice none 0 0, .agg #[.int .i64 0, .int .i64 0, .int .i64 0, .int .i64 0, .int .i64 0, .int .i64 0, .int .i64 0, .int .i64 0], .int .i64 0], []⟩ 8 (by kernel_rfl) (by kernel_rfl) (by kernel_rfl) (by kernel_rfl)) ?_
  intro W base args ds gs before hval hW _ _
  exact iceReportsContract H enc W base args ds gs before hval hW

theorem iceReports_holds : Rows.IceReportsSaid :=
  OpenClaim.holds_of_wide 3 Tryz.f3 rfl rfl rfl rfl rfl rfl rfl ⟨rfl, rfl, rfl, rfl, rfl⟩ rfl rfl rfl rfl rfl (by kernel_rfl) Tryz.func3 (by kernel_rfl)
    (of_decide_eq_true (by kernel_rfl)) (by unfold Func.isWrapper; first | (rw [if_pos (by decide +kernel)]; kernel_rfl) | (rw [if_neg (by decide +kernel)]; exact ⟨rfl, rfl⟩))
    (fun os started H enc _ => iceReportsLifted os started H enc)
end
#print axioms iceReports_holds
end Go.Proofs.YthcjliffpebjaaaGreat
