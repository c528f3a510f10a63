/- RadioBlames returns true for every input, and its arguments read behind the call as before. No condition. -/
import Derived.Test.YtbgfjemppjhmjaaGreatGO39gxL0
namespace Go.Proofs.YtbgfjemppjhmjaaGreat
set_option linter.unusedSimpArgs false
open Go Go.K Go.ChangeShapes Go.WideShapes Go.ChangeAt Go.RowKit
set_option maxRecDepth 100000
set_option linter.unusedVariables false
noncomputable section
attribute [local irreducible] vF
theorem radioBlamesCall (H : Heap) (vs : List Value) (h : GoodAD Tryz.prog 6 [22, 22, 3, 3] vs) : KCall Tryz.prog 8 vs H [] (fun v _ => v = .bool true) := by
 obtain ⟨v, vs1, rfl, h1, g1⟩ := goodAD_cons h
 obtain ⟨w, vs2, rfl, h2, g2⟩ := goodAD_cons g1
 obtain ⟨x, vs3, rfl, h3, g3⟩ := goodAD_cons g2
 obtain ⟨y, vs4, rfl, h4, g4⟩ := goodAD_cons g3
 obtain rfl := goodAD_nil g4
 obtain ⟨A, rfl, _, _⟩ := goodVD_ints h1
 obtain ⟨B, rfl, _, hB⟩ := goodVD_ints h2
 obtain ⟨z, rfl, _⟩ := goodVD_int h3
 obtain ⟨q, rfl, _⟩ := goodVD_int h4
 exact (kBlamesLaw A B z q (fun v hv => by have := hB v hv; unfold inI at this; omega) H).post fun v H' h => h.1
theorem radioBlamesContract (H : Type) (enc : TypeId × Value -> H) (W : World) (base : Nat) (args : Array Value) (ds gs : List (DataW H)) (before : List MemPlace)
    (hval : ∀ (j : Nat) t v, Tryz.f8.params[j]? = some t -> args[j]? = some v -> Value.okWide Tryz.prog W .any base t v)
    (hW : DataW.Whole enc Tryz.prog Tryz.f8.params.toList Rows.radioBlamesSpec.vars false W args.toList ds gs before) :
    Calls Tryz.prog 8 args W fun e W' => ∃ v, e = .returned v /\ Rows.radioBlamesSpec.post enc Tryz.prog Tryz.f8 false true false false W args v W' := by
  have hps : Tryz.f8.params.toList = [22, 22, 3, 3] := by kernel_rfl
  have hW' := hW
  obtain ⟨p, q, hA, hV, rfl, hfz, hnd⟩ := hW'
  rw [hps] at hA
  have hc := law_calls3 (P := Tryz.prog) (enc := enc) (N := 8) (n := 6) (b0 := base) (ts := [22, 22, 3, 3]) (by rw [show (Tryz.prog).globals.size = 0 from glob0]; exact Nat.zero_le _) (by kernel_rfl)
    (fun j t v hj hv => hval j t v (by have : Tryz.f8.params.toList[j]? = some t := by rw [hps]; exact hj
                                       simpa using this) (by simpa using hv)) hA radioBlamesCall
  refine hc.mono fun e W' ⟨he, hb⟩ => ⟨_, he, ?_⟩
  obtain ⟨d1, d2, d3, d4, rfl⟩ : ∃ d1 d2 d3 d4, ds = [d1, d2, d3, d4] := by
    obtain ⟨v0, vs0, d0, ds0, p0, q0, e1, rfl, rfl, h0, r0⟩ := trodAll_cons hA
    obtain ⟨v1, vs1, d1, ds1, p1, q1, e1, rfl, rfl, h1, r1⟩ := trodAll_cons r0
    obtain ⟨v2, vs2, d2, ds2, p2, q2, e1, rfl, rfl, h2, r2⟩ := trodAll_cons r1
    obtain ⟨v3, vs3, d3, ds3, p3, q3, e1, rfl, rfl, h3, r3⟩ := trodAll_cons r2
    obtain ⟨_, rfl, _⟩ := trodAll_nil r3
    exact ⟨_, _, _, _, rfl⟩
  exact post_of_below (f := Tryz.f8) (T := known) (tb := 4) kids (fun ht hu => slicesSized_spec sized ht hu) (by rw [hps]; intro t ht; exact of_decide_eq_true (List.all_eq_true.1 (show (([22, 22, 3, 3] : List Nat).all fun t => decide (t < (Tryz.prog).types.size)) = true by kernel_rfl) t ht)) hW rfl hb (by kernel_rfl) (by kernel_rfl) rfl
theorem radioBlamesLifted (os : Os) (started : os.Started) (H : Type) (enc : TypeId × Value -> H) :
  ReturnsInHanded {} Tryz.checked os 8 .any (Rows.radioBlamesSpec.pre6 enc Tryz.prog Tryz.f8 Rows.radioBlamesRow.domain false) (Rows.radioBlamesSpec.post enc Tryz.prog Tryz.f8 false true false false) := by
 refine returnsInHanded_of_change (C := Tryz.checked) own started (by kernel_rfl) Tryz.func8
  (ChangeSpec.witness6 (enc := enc) (C := Tryz.checked) false ⟨#[], #[.slice none 0 0, .slice none 0 0, .int .i64 0, .int .i64 0], []⟩ 8 (by kernel_rfl) (by kernel_rfl) (by kernel_rfl) (by kernel_rfl)) ?_
 intro W base args ds gs before hval hW _ _
 exact radioBlamesContract H enc W base args ds gs before hval hW
theorem radioBlamesJ1 : laidOutB Tryz.prog = true := by kernel_rfl
theorem radioBlamesJ2 : mapsRowed Tryz.prog = true := by kernel_rfl
theorem radioBlamesJ3 : Tryz.prog.inPlace 8 = [] := by kernel_rfl
theorem radioBlamesJ4 : Tryz.prog.unfollowed 8 = true := by kernel_rfl
theorem radioBlamesJ5 : Tryz.prog.recurses 8 = true := by kernel_rfl
theorem radioBlamesJ6 : Tryz.prog.varsNamed 8 = [] := by kernel_rfl
theorem radioBlamesJ7 : Tryz.prog.funcNamed Rows.radioBlamesRow.func = some 8 := by kernel_rfl
theorem radioBlamesJoined : joinedFacts Tryz.prog 8 Tryz.f8 Rows.radioBlamesSpec Rows.radioBlamesRow = true := by
 unfold joinedFacts
 rw [radioBlamesJ1, radioBlamesJ2, radioBlamesJ3, radioBlamesJ4, radioBlamesJ5, radioBlamesJ6]
 kernel_rfl
theorem radioBlames_holds : Rows.RadioBlamesSaid :=
 OpenClaim.holds_of_wide 8 Tryz.f8 rfl rfl rfl rfl rfl rfl rfl ⟨rfl, rfl, rfl, rfl, rfl⟩ rfl rfl rfl rfl rfl radioBlamesJ7 Tryz.func8 radioBlamesJoined
  (of_decide_eq_true (by kernel_rfl)) (by unfold Func.isWrapper; first | (rw [if_pos (by decide +kernel)]; kernel_rfl) | (rw [if_neg (by decide +kernel)]; exact ⟨rfl, rfl⟩))
  (fun os started H enc _ => radioBlamesLifted os started H enc)
end
#print axioms radioBlames_holds
end Go.Proofs.YtbgfjemppjhmjaaGreat
