/- IceAges returns true for every input, and its arguments read behind the call as before. No condition. -/
import Derived.Test.YthcjliffpebjaaaI3
import Derived.Test.YthcjliffpebjaaaI6
namespace Go.Proofs.Ythcjliffpebjaaa
open Go Go.K Go.ChangeShapes Go.WideShapes Go.ChangeAt Go.RowKit
set_option maxRecDepth 100000
set_option linter.unusedVariables false
noncomputable section
attribute [local irreducible] vF
def zeroR : Report := ⟨0, 0, 0, 0, 0, 0, zeroC⟩
theorem agesCall (H : Heap) (vs : List Value) (h : GoodA Try.prog H 6 [22, 26, 3, 3] vs) : KCall Try.prog 5 vs H [] (fun v _ => v = .bool true) := by
  obtain ⟨l, vs1, rfl, h1, g1⟩ := goodA_cons h
  obtain ⟨m, vs2, rfl, h2, g2⟩ := goodA_cons g1
  obtain ⟨a, vs3, rfl, h3, g3⟩ := goodA_cons g2
  obtain ⟨b, vs4, rfl, h4, g4⟩ := goodA_cons g3
  obtain rfl := goodA_nil g4
  obtain ⟨m, rfl, _⟩ := good_rates h2
  obtain ⟨a, rfl, _⟩ := good_int u3 h3
  obtain ⟨b, rfl, _⟩ := good_int u3 h4
  rcases good_reports h1 with rfl | rfl | ⟨id, xs, rfl, hid, _⟩
  · exact law0 (fun _ => rfl) (Eq.mpr (EAges0 m a b) (ansA kAwake rfl)) H
  · exact law0 (fun _ => rfl) (Eq.mpr (EAgesE m a b) (ansA kAwake rfl)) H
  · have hp : ∃ q0 q1 : Report, 2 ≤ xs.length → ∃ tl, xs.flatMap reportC = reportC q0 ++ (reportC q1 ++ tl) := by
      match xs with
      | [] => exact ⟨zeroR, zeroR, fun h => by simp at h⟩
      | [x] => exact ⟨zeroR, zeroR, fun h => by simp at h⟩
      | x :: y :: r => exact ⟨x, y, fun _ => ⟨r.flatMap reportC, by rw [List.flatMap_cons, List.flatMap_cons]⟩⟩
    obtain ⟨q0, q1, hq⟩ := hp
    exact lawB (plain_reports xs) (Eq.mpr (EAges (xs.flatMap reportC) xs.length q0 q1 m a b) (pAges _ _ q0 q1 m a b hq)) hid

theorem agesContract (H : Type) (enc : TypeId × Value → H) (W : World) (base : Nat) (args : Array Value) (ds gs : List (DataW H)) (before : List MemPlace)
    (hval : ∀ (j : Nat) t v, Try.f5.params[j]? = some t → args[j]? = some v → Value.okWide Try.prog W .any base t v)
    (hW : DataW.Whole enc Try.prog Try.f5.params.toList Rows.iceAgesSpec.vars false W args.toList ds gs before) :
    Calls Try.prog 5 args W fun e W' => ∃ v, e = .returned v ∧ Rows.iceAgesSpec.post enc Try.prog Try.f5 false true false false W args v W' := by
  have hps : Try.f5.params.toList = [22, 26, 3, 3] := by kernel_rfl
  have hW' := hW
  obtain ⟨p, q, hA, hV, rfl, hfz, hnd⟩ := hW'
  rw [hps] at hA
  have hc := law_calls (P := Try.prog) (enc := enc) (N := 5) (n := 6) (b0 := base) (ts := [22, 26, 3, 3]) (by rw [glob0]; exact Nat.zero_le _) (by kernel_rfl)
    (fun j t v hj hv => hval j t v (by have : Try.f5.params.toList[j]? = some t := by rw [hps]; exact hj
                                       simpa using this) (by simpa using hv)) hA agesCall
  refine hc.mono fun e W' ⟨he, hb⟩ => ⟨_, he, ?_⟩
  obtain ⟨d1, d2, d3, d4, rfl⟩ : ∃ d1 d2 d3 d4, ds = [d1, d2, d3, d4] := by
    obtain ⟨v0, vs0, d0, ds0, p0, q0, e1, rfl, rfl, h0, r0⟩ := trodAll_cons hA
    obtain ⟨v1, vs1, d1, ds1, p1, q1, e1, rfl, rfl, h1, r1⟩ := trodAll_cons r0
    obtain ⟨v2, vs2, d2, ds2, p2, q2, e1, rfl, rfl, h2, r2⟩ := trodAll_cons r1
    obtain ⟨v3, vs3, d3, ds3, p3, q3, e1, rfl, rfl, h3, r3⟩ := trodAll_cons r2
    obtain ⟨_, rfl, _⟩ := trodAll_nil r3
    exact ⟨_, _, _, _, rfl⟩
  exact post_of_below (f := Try.f5) (T := known) (tb := 4) kids (fun ht hu => slicesSized_spec sized ht hu) (by rw [hps]; intro t ht; simp at ht; rcases ht with rfl | rfl | rfl <;> exact of_decide_eq_true (by kernel_rfl)) hW rfl hb (by kernel_rfl) (by kernel_rfl) rfl

theorem agesLifted (os : Os) (started : os.Started) (H : Type) (enc : TypeId × Value → H) :
    ReturnsInHanded {} Try.checked os 5 .any (Rows.iceAgesSpec.pre6 enc Try.prog Try.f5 Rows.iceAgesRow.domain false) (Rows.iceAgesSpec.post enc Try.prog Try.f5 false true false false) := by
  refine returnsInHanded_of_change (C := Try.checked) own started (by kernel_rfl) Try.func5
    (ChangeSpec.witness6 (enc := enc) (C := Try.checked) false ⟨#[], #[.slice none 0 0, .agg #[.int .i64 0, .int .i64 0, .int .i64 0, .int .i64 0, .int .i64 0, .int .i64 0, .int .i64 0, .int .i64 0], .int .i64 0, .int .i64 0], []⟩ 8 (by kernel_rfl) (by kernel_rfl) (by kernel_rfl) (by kernel_rfl)) ?_
  intro W base args ds gs before hval hW _ _
  exact agesContract H enc W base args ds gs before hval hW

theorem iceAges_holds : Rows.IceAgesSaid :=
  OpenClaim.holds_of_wide 5 Try.f5 rfl rfl rfl rfl rfl rfl rfl ⟨rfl, rfl, rfl, rfl, rfl⟩ rfl rfl rfl rfl rfl (by kernel_rfl) Try.func5 (by kernel_rfl)
    (of_decide_eq_true (by kernel_rfl)) (by unfold Func.isWrapper; first | (rw [if_pos (by decide +kernel)]; kernel_rfl) | (rw [if_neg (by decide +kernel)]; exact ⟨rfl, rfl⟩))
    (fun os started H enc _ => agesLifted os started H enc)
end
#print axioms iceAges_holds
end Go.Proofs.Ythcjliffpebjaaa
