/- RadioNone returns true for every input, and its arguments read behind the call as before. No condition. -/
import Derived.Test.YtbgfjemppjhmjaaGreatGZ4xL0
namespace Go.Proofs.YtbgfjemppjhmjaaGreat
set_option linter.unusedSimpArgs false
open Go Go.K Go.ChangeShapes Go.WideShapes Go.ChangeAt Go.RowKit
set_option maxRecDepth 100000
set_option linter.unusedVariables false
noncomputable section
attribute [local irreducible] vF
theorem radioNoneCall (H : Heap) (vs : List Value) (h : GoodA2 Tryz.prog H 6 [117, 3, 3, 3, 3] vs) : KCall Tryz.prog 11 vs H [] (fun v _ => v = .bool true) := by
 obtain ⟨b, vs1, rfl, h1, g1⟩ := goodA2_cons h
 obtain ⟨l, vs2, rfl, h2, g2⟩ := goodA2_cons g1
 obtain ⟨c, vs3, rfl, h3, g3⟩ := goodA2_cons g2
 obtain ⟨d, vs4, rfl, h4, g4⟩ := goodA2_cons g3
 obtain ⟨e, vs5, rfl, h5, g5⟩ := goodA2_cons g4
 obtain rfl := goodA2_nil g5
 obtain ⟨m, rfl⟩ := msg_read2 h1
 obtain ⟨x1, rfl, _⟩ := good2_int h2
 obtain ⟨x2, rfl, _⟩ := good2_int h3
 obtain ⟨x3, rfl, _⟩ := good2_int h4
 obtain ⟨x4, rfl, _⟩ := good2_int h5
 exact (kNoneLaw m x1 x2 x3 x4 H).post fun v H' h => h.1
theorem radioNoneContract (H : Type) (enc : TypeId × Value -> H) (W : World) (base : Nat) (args : Array Value) (ds gs : List (DataW H)) (before : List MemPlace)
    (hval : ∀ (j : Nat) t v, Tryz.f11.params[j]? = some t -> args[j]? = some v -> Value.okWide Tryz.prog W .any base t v)
    (hW : DataW.Whole enc Tryz.prog Tryz.f11.params.toList Rows.radioNoneSpec.vars false W args.toList ds gs before) :
    Calls Tryz.prog 11 args W fun e W' => ∃ v, e = .returned v /\ Rows.radioNoneSpec.post enc Tryz.prog Tryz.f11 false true false false W args v W' := by
  have hps : Tryz.f11.params.toList = [117, 3, 3, 3, 3] := by kernel_rfl
  have hW' := hW
  obtain ⟨p, q, hA, hV, rfl, hfz, hnd⟩ := hW'
  rw [hps] at hA
  have hc := law_calls2 (P := Tryz.prog) (enc := enc) (N := 11) (n := 6) (b0 := base) (ts := [117, 3, 3, 3, 3]) (by rw [show (Tryz.prog).globals.size = 0 from glob0]; exact Nat.zero_le _) (by kernel_rfl)
    (fun j t v hj hv => hval j t v (by have : Tryz.f11.params.toList[j]? = some t := by rw [hps]; exact hj
                                       simpa using this) (by simpa using hv)) hA radioNoneCall
  refine hc.mono fun e W' ⟨he, hb⟩ => ⟨_, he, ?_⟩
  obtain ⟨d1, d2, d3, d4, d5, rfl⟩ : ∃ d1 d2 d3 d4 d5, ds = [d1, d2, d3, d4, d5] := by
    obtain ⟨v0, vs0, d0, ds0, p0, q0, e1, rfl, rfl, h0, r0⟩ := trodAll_cons hA
    obtain ⟨v1, vs1, d1, ds1, p1, q1, e1, rfl, rfl, h1, r1⟩ := trodAll_cons r0
    obtain ⟨v2, vs2, d2, ds2, p2, q2, e1, rfl, rfl, h2, r2⟩ := trodAll_cons r1
    obtain ⟨v3, vs3, d3, ds3, p3, q3, e1, rfl, rfl, h3, r3⟩ := trodAll_cons r2
    obtain ⟨v4, vs4, d4, ds4, p4, q4, e1, rfl, rfl, h4, r4⟩ := trodAll_cons r3
    obtain ⟨_, rfl, _⟩ := trodAll_nil r4
    exact ⟨_, _, _, _, _, rfl⟩
  exact post_of_below (f := Tryz.f11) (T := known) (tb := 4) kids (fun ht hu => slicesSized_spec sized ht hu) (by rw [hps]; intro t ht; exact of_decide_eq_true (List.all_eq_true.1 (show (([117, 3, 3, 3, 3] : List Nat).all fun t => decide (t < (Tryz.prog).types.size)) = true by kernel_rfl) t ht)) hW rfl hb (by kernel_rfl) (by kernel_rfl) rfl
theorem radioNoneLifted (os : Os) (started : os.Started) (H : Type) (enc : TypeId × Value -> H) :
  ReturnsInHanded {} Tryz.checked os 11 .any (Rows.radioNoneSpec.pre6 enc Tryz.prog Tryz.f11 Rows.radioNoneRow.domain false) (Rows.radioNoneSpec.post enc Tryz.prog Tryz.f11 false true false false) := by
 refine returnsInHanded_of_change (C := Tryz.checked) own started (by kernel_rfl) Tryz.func11
  (ChangeSpec.witness6 (enc := enc) (C := Tryz.checked) false ⟨#[], #[.agg #[.int .i64 0, .int .i64 0, .int .i64 0, .int .i64 0, .int .i64 0, .int .i64 0, .int .i64 0], .int .i64 0, .int .i64 0, .int .i64 0, .int .i64 0], []⟩ 8 (by kernel_rfl) (by kernel_rfl) (by kernel_rfl) (by kernel_rfl)) ?_
 intro W base args ds gs before hval hW _ _
 exact radioNoneContract H enc W base args ds gs before hval hW
theorem radioNoneJ1 : laidOutB Tryz.prog = true := by kernel_rfl
theorem radioNoneJ2 : mapsRowed Tryz.prog = true := by kernel_rfl
theorem radioNoneJ3 : Tryz.prog.inPlace 11 = ["maps.clone"] := by kernel_rfl
theorem radioNoneJ4 : Tryz.prog.unfollowed 11 = true := by kernel_rfl
theorem radioNoneJ5 : Tryz.prog.recurses 11 = true := by kernel_rfl
theorem radioNoneJ6 : Tryz.prog.varsNamed 11 = [] := by kernel_rfl
theorem radioNoneJ7 : Tryz.prog.funcNamed Rows.radioNoneRow.func = some 11 := by kernel_rfl
theorem radioNoneJoined : joinedFacts Tryz.prog 11 Tryz.f11 Rows.radioNoneSpec Rows.radioNoneRow = true := by
 unfold joinedFacts
 rw [radioNoneJ1, radioNoneJ2, radioNoneJ3, radioNoneJ4, radioNoneJ5, radioNoneJ6]
 kernel_rfl
theorem radioNone_holds : Rows.RadioNoneSaid :=
 OpenClaim.holds_of_wide 11 Tryz.f11 rfl rfl rfl rfl rfl rfl rfl ⟨rfl, rfl, rfl, rfl, rfl⟩ rfl rfl rfl rfl rfl radioNoneJ7 Tryz.func11 radioNoneJoined
  (of_decide_eq_true (by kernel_rfl)) (by unfold Func.isWrapper; first | (rw [if_pos (by decide +kernel)]; kernel_rfl) | (rw [if_neg (by decide +kernel)]; exact ⟨rfl, rfl⟩))
  (fun os started H enc _ => radioNoneLifted os started H enc)
end
#print axioms radioNone_holds
end Go.Proofs.YtbgfjemppjhmjaaGreat
