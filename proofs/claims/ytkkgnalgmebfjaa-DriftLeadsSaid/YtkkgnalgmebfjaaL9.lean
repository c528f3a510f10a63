/- DriftLeads returns true for every input, and its arguments read behind the call as before. No condition. -/
import Derived.Test.YtkkgnalgmebfjaaGU4xL0
namespace Go.Proofs.Ytkkgnalgmebfjaa
set_option linter.unusedSimpArgs false
open Go Go.K Go.ChangeShapes Go.WideShapes Go.ChangeAt Go.RowKit
set_option maxRecDepth 100000
set_option linter.unusedVariables false
noncomputable section
attribute [local irreducible] vF
theorem chart_read {H : Heap} {v : Value} (h : GoodV Try.prog H 6 101 v) : ∃ (w hh t : Int) (cs : List Cell), ∀ K : Heap, ∃ (gs : List KObj) (id : Nat) (own : Bool) (z : Nat), wk v (.agg #[.int .i64 w, .int .i64 hh, .int .i64 t, .slice (some ⟨id, 0, some 2⟩) cs.length cs.length]) ∧ (H ++ K ++ gs)[id]? = some (.cells own z (cs.flatMap cellC)) := by
  have hu : ∃ fs, Try.prog.underlying 101 = some (.struct fs) ∧ fs.toList.map (·.type) = [3, 3, 3, 99] := by
    have : (match Try.prog.underlying 101 with | some (.struct fs) => decide (fs.toList.map (·.type) = [3, 3, 3, 99]) | _ => false) = true := by kernel_rfl
    split at this
    · rename_i fs e; exact ⟨fs, e, of_decide_eq_true this⟩
    · cases this
  obtain ⟨fs, hu, ht⟩ := hu
  unfold GoodV at h
  rw [hu] at h
  obtain ⟨cs, rfl, h⟩ := h
  unfold K.Good at h
  rw [hu] at h
  simp only [ht] at h
  obtain ⟨c1, r1, rfl, h1, c2, r2, rfl, h2, c3, r3, rfl, h3, c4, r4, rfl, h4, h5⟩ := h
  obtain rfl : r4 = [] := h5
  obtain ⟨w, rfl⟩ := good_i64 h1
  obtain ⟨hh, rfl⟩ := good_i64 h2
  obtain ⟨t, rfl⟩ := good_i64 h3
  obtain ⟨v, xs, rfl, _, hr⟩ := slice_read (f := cellC) (n := 4) (e := 164) (by kernel_rfl) (fun c hc => by
    obtain ⟨ns, rfl, k2, _⟩ := flatI_good 4 164 8 c (by kernel_rfl) hc
    match ns, k2 with
    | [a1, a2, a3, a4, a5, a6, a7, a8], _ => exact ⟨⟨⟨a1, a2⟩, ⟨a3, a4⟩, ⟨a5, a6⟩, ⟨a7, a8⟩⟩, rfl, trivial⟩) h4
  refine ⟨w, hh, t, xs, fun K => ?_⟩
  obtain ⟨gs, id, own, z, g1, g2⟩ := hr K
  exact ⟨gs, id, own, z, wk_aggL ⟨wk_refl _, wk_refl _, wk_refl _, g1, trivial⟩, g2⟩
theorem driftLeadsCall (H : Heap) (vs : List Value) (h : GoodA Try.prog H 6 [44, 101, 101, 3, 3] vs) : KCall Try.prog 8 vs H [] (fun v _ => v = .bool true) := by
  obtain ⟨b, vs1, rfl, h1, g1⟩ := goodA_cons h
  obtain ⟨c, vs2, rfl, h2, g2⟩ := goodA_cons g1
  obtain ⟨d, vs3, rfl, h3, g3⟩ := goodA_cons g2
  obtain ⟨f, vs4, rfl, h4, g4⟩ := goodA_cons g3
  obtain ⟨g, vs5, rfl, h5, g5⟩ := goodA_cons g4
  obtain rfl := goodA_nil g5
  obtain ⟨w, hh, a, r1⟩ := basin_read h1
  obtain ⟨w1, h1', t1, cs, r2⟩ := chart_read h2
  obtain ⟨w2, h2', t2, ds, r3⟩ := chart_read h3
  obtain ⟨f, rfl, _⟩ := good_int h4
  obtain ⟨g, rfl, _⟩ := good_int h5
  obtain ⟨gs1, id1, own1, z1, k1, e1⟩ := r1 []
  obtain ⟨gs2, id2, own2, z2, k2, e2⟩ := r2 gs1
  obtain ⟨gs3, id3, own3, z3, k3, e3⟩ := r3 (gs1 ++ gs2)
  rw [List.append_nil] at e1
  have f1 : (H ++ (gs1 ++ gs2 ++ gs3))[id1]? = some (.cells own1 z1 (a.flatMap boolC)) := by
    rw [List.append_assoc gs1, ← List.append_assoc H, List.getElem?_append_left (List.getElem?_eq_some_iff.1 e1).1]; exact e1
  have f2 : (H ++ (gs1 ++ gs2 ++ gs3))[id2]? = some (.cells own2 z2 (cs.flatMap cellC)) := by
    rw [← List.append_assoc H, ← List.append_assoc H, List.getElem?_append_left (List.getElem?_eq_some_iff.1 e2).1]; exact e2
  have f3 : (H ++ (gs1 ++ gs2 ++ gs3))[id3]? = some (.cells own3 z3 (ds.flatMap cellC)) := by
    rw [← List.append_assoc H]; exact e3
  exact KCall.weakArgs (gs1 ++ gs2 ++ gs3) ((kLeadsLaw w hh a w1 h1' t1 cs w2 h2' t2 ds f g f1 f2 f3).post fun v H' h => h.1) rfl (wks_spec (xs := [b, c, d, .int .i64 f, .int .i64 g]) (ys := [basV w hh id1 a.length, chaV w1 h1' t1 id2 cs.length, chaV w2 h2' t2 id3 ds.length, .int .i64 f, .int .i64 g]) ⟨k1, k2, k3, wk_refl _, wk_refl _, trivial⟩).2

theorem driftLeadsContract (H : Type) (enc : TypeId × Value → H) (W : World) (base : Nat) (args : Array Value) (ds gs : List (DataW H)) (before : List MemPlace)
    (hval : ∀ (j : Nat) t v, Try.f8.params[j]? = some t → args[j]? = some v → Value.okWide Try.prog W .any base t v)
    (hW : DataW.Whole enc Try.prog Try.f8.params.toList Rows.driftLeadsSpec.vars false W args.toList ds gs before) :
    Calls Try.prog 8 args W fun e W' => ∃ v, e = .returned v ∧ Rows.driftLeadsSpec.post enc Try.prog Try.f8 false true false false W args v W' := by
  have hps : Try.f8.params.toList = [44, 101, 101, 3, 3] := by kernel_rfl
  have hW' := hW
  obtain ⟨p, q, hA, hV, rfl, hfz, hnd⟩ := hW'
  rw [hps] at hA
  have hc := law_calls (P := Try.prog) (enc := enc) (N := 8) (n := 6) (b0 := base) (ts := [44, 101, 101, 3, 3]) (by rw [show (Try.prog).globals.size = 0 from glob0]; exact Nat.zero_le _) (by kernel_rfl)
    (fun j t v hj hv => hval j t v (by have : Try.f8.params.toList[j]? = some t := by rw [hps]; exact hj
                                       simpa using this) (by simpa using hv)) hA driftLeadsCall
  refine hc.mono fun e W' ⟨he, hb⟩ => ⟨_, he, ?_⟩
  obtain ⟨d1, d2, d3, d4, d5, rfl⟩ : ∃ d1 d2 d3 d4 d5, ds = [d1, d2, d3, d4, d5] := by
    obtain ⟨v0, vs0, d0, ds0, p0, q0, e1, rfl, rfl, h0, r0⟩ := trodAll_cons hA
    obtain ⟨v1, vs1, d1, ds1, p1, q1, e1, rfl, rfl, h1, r1⟩ := trodAll_cons r0
    obtain ⟨v2, vs2, d2, ds2, p2, q2, e1, rfl, rfl, h2, r2⟩ := trodAll_cons r1
    obtain ⟨v3, vs3, d3, ds3, p3, q3, e1, rfl, rfl, h3, r3⟩ := trodAll_cons r2
    obtain ⟨v4, vs4, d4, ds4, p4, q4, e1, rfl, rfl, h4, r4⟩ := trodAll_cons r3
    obtain ⟨_, rfl, _⟩ := trodAll_nil r4
    exact ⟨_, _, _, _, _, rfl⟩
  exact post_of_below (f := Try.f8) (T := known) (tb := 4) kids (fun ht hu => slicesSized_spec sized ht hu) (by rw [hps]; intro t ht; exact of_decide_eq_true (List.all_eq_true.1 (show (([44, 101, 101, 3, 3] : List Nat).all fun t => decide (t < (Try.prog).types.size)) = true by kernel_rfl) t ht)) hW rfl hb (by kernel_rfl) (by kernel_rfl) rfl

theorem driftLeadsLifted (os : Os) (started : os.Started) (H : Type) (enc : TypeId × Value → H) :
    ReturnsInHanded {} Try.checked os 8 .any (Rows.driftLeadsSpec.pre6 enc Try.prog Try.f8 Rows.driftLeadsRow.domain false) (Rows.driftLeadsSpec.post enc Try.prog Try.f8 false true false false) := by
  refine returnsInHanded_of_change (C := Try.checked) own started (by kernel_rfl) Try.func8
    (ChangeSpec.witness6 (enc := enc) (C := Try.checked) false ⟨#[], #[.agg #[.int .i64 0, .int .i64 0, .slice none 0 0], .agg #[.int .i64 0, .int .i64 0, .int .i64 0, .slice none 0 0], .agg #[.int .i64 0, .int .i64 0, .int .i64 0, .slice none 0 0], .int .i64 0, .int .i64 0], []⟩ 8 (by kernel_rfl) (by kernel_rfl) (by kernel_rfl) (by kernel_rfl)) ?_
  intro W base args ds gs before hval hW _ _
  exact driftLeadsContract H enc W base args ds gs before hval hW

theorem driftLeads_holds : Rows.DriftLeadsSaid :=
  OpenClaim.holds_of_wide 8 Try.f8 rfl rfl rfl rfl rfl rfl rfl ⟨rfl, rfl, rfl, rfl, rfl⟩ rfl rfl rfl rfl rfl (by kernel_rfl) Try.func8 (by kernel_rfl)
    (of_decide_eq_true (by kernel_rfl)) (by unfold Func.isWrapper; first | (rw [if_pos (by decide +kernel)]; kernel_rfl) | (rw [if_neg (by decide +kernel)]; exact ⟨rfl, rfl⟩))
    (fun os started H enc _ => driftLeadsLifted os started H enc)
end
#print axioms driftLeads_holds
end Go.Proofs.Ytkkgnalgmebfjaa
