/- IceLattice returns true for every input, and its arguments read behind the call as before. No condition. -/
import Derived.Test.YthcjliffpebjaaaI2
import Derived.Test.YthcjliffpebjaaaI6
namespace Go.Proofs.Ythcjliffpebjaaa
open Go Go.K Go.ChangeShapes Go.WideShapes Go.ChangeAt Go.RowKit
set_option maxRecDepth 100000
set_option linter.unusedVariables false
noncomputable section
attribute [local irreducible] vF
def zeroR : Report := ⟨0, 0, 0, 0, 0, 0, zeroC⟩
theorem latticeCall (H : Heap) (vs : List Value) (h : GoodA Try.prog H 6 [22, 3, 3, 3, 3] vs) : KCall Try.prog 7 vs H [] (fun v _ => v = .bool true) := by
  obtain ⟨l, vs1, rfl, h1, g1⟩ := goodA_cons h
  obtain ⟨a, vs2, rfl, h2, g2⟩ := goodA_cons g1
  obtain ⟨b, vs3, rfl, h3, g3⟩ := goodA_cons g2
  obtain ⟨c, vs4, rfl, h4, g4⟩ := goodA_cons g3
  obtain ⟨d, vs5, rfl, h5, g5⟩ := goodA_cons g4
  obtain rfl := goodA_nil g5
  obtain ⟨a, rfl, _⟩ := good_int u3 h2
  obtain ⟨b, rfl, _⟩ := good_int u3 h3
  obtain ⟨c, rfl, _⟩ := good_int u3 h4
  obtain ⟨d, rfl, _⟩ := good_int u3 h5
  rcases good_reports h1 with rfl | rfl | ⟨id, xs, rfl, hid, _⟩
  · exact law0 (fun _ => rfl) (Eq.mpr (ELattice0 a b c d) (ansA kAwake rfl)) H
  · exact law0 (fun _ => rfl) (Eq.mpr (ELatticeE a b c d) (ansA kAwake rfl)) H
  · have hp : ∃ q0 q1 q2 : Report, 3 ≤ xs.length → ∃ tl, xs.flatMap reportC = reportC q0 ++ (reportC q1 ++ (reportC q2 ++ tl)) := by
      match xs with
      | [] => exact ⟨zeroR, zeroR, zeroR, fun h => by simp at h⟩
      | [x] => exact ⟨zeroR, zeroR, zeroR, fun h => by simp at h⟩
      | [x, y] => exact ⟨zeroR, zeroR, zeroR, fun h => by simp at h⟩
      | x :: y :: z :: r => exact ⟨x, y, z, fun _ => ⟨r.flatMap reportC, by rw [List.flatMap_cons, List.flatMap_cons, List.flatMap_cons]⟩⟩
    obtain ⟨q0, q1, q2, hq⟩ := hp
    exact lawB (plain_reports xs) (Eq.mpr (ELattice (xs.flatMap reportC) xs.length q0 q1 q2 a b c d) (pLattice _ _ q0 q1 q2 a b c d hq)) hid

theorem latticeContract (H : Type) (enc : TypeId × Value → H) (W : World) (base : Nat) (args : Array Value) (ds gs : List (DataW H)) (before : List MemPlace)
    (hval : ∀ (j : Nat) t v, Try.f7.params[j]? = some t → args[j]? = some v → Value.okWide Try.prog W .any base t v)
    (hW : DataW.Whole enc Try.prog Try.f7.params.toList Rows.iceLatticeSpec.vars false W args.toList ds gs before) :
    Calls Try.prog 7 args W fun e W' => ∃ v, e = .returned v ∧ Rows.iceLatticeSpec.post enc Try.prog Try.f7 false true false false W args v W' := by
  have hps : Try.f7.params.toList = [22, 3, 3, 3, 3] := by kernel_rfl
  have hW' := hW
  obtain ⟨p, q, hA, hV, rfl, hfz, hnd⟩ := hW'
  rw [hps] at hA
  have hc := law_calls (P := Try.prog) (enc := enc) (N := 7) (n := 6) (b0 := base) (ts := [22, 3, 3, 3, 3]) (by rw [glob0]; exact Nat.zero_le _) (by kernel_rfl)
    (fun j t v hj hv => hval j t v (by have : Try.f7.params.toList[j]? = some t := by rw [hps]; exact hj
                                       simpa using this) (by simpa using hv)) hA latticeCall
  refine hc.mono fun e W' ⟨he, hb⟩ => ⟨_, he, ?_⟩
  obtain ⟨d1, d2, d3, d4, d5, rfl⟩ : ∃ d1 d2 d3 d4 d5, ds = [d1, d2, d3, d4, d5] := by
    obtain ⟨v0, vs0, d0, ds0, p0, q0, e1, rfl, rfl, h0, r0⟩ := trodAll_cons hA
    obtain ⟨v1, vs1, d1, ds1, p1, q1, e1, rfl, rfl, h1, r1⟩ := trodAll_cons r0
    obtain ⟨v2, vs2, d2, ds2, p2, q2, e1, rfl, rfl, h2, r2⟩ := trodAll_cons r1
    obtain ⟨v3, vs3, d3, ds3, p3, q3, e1, rfl, rfl, h3, r3⟩ := trodAll_cons r2
    obtain ⟨v4, vs4, d4, ds4, p4, q4, e1, rfl, rfl, h4, r4⟩ := trodAll_cons r3
    obtain ⟨_, rfl, _⟩ := trodAll_nil r4
    exact ⟨_, _, _, _, _, rfl⟩
  exact post_of_below (f := Try.f7) (T := known) (tb := 4) kids (fun ht hu => slicesSized_spec sized ht hu) (by rw [hps]; intro t ht; simp at ht; rcases ht with rfl | rfl <;> exact of_decide_eq_true (by kernel_rfl)) hW rfl hb (by kernel_rfl) (by kernel_rfl) rfl

theorem latticeLifted (os : Os) (started : os.Started) (H : Type) (enc : TypeId × Value → H) :
    ReturnsInHanded {} Try.checked os 7 .any (Rows.iceLatticeSpec.pre6 enc Try.prog Try.f7 Rows.iceLatticeRow.domain false) (Rows.iceLatticeSpec.post enc Try.prog Try.f7 false true false false) := by
  refine returnsInHanded_of_change (C := Try.checked) own started (by kernel_rfl) Try.func7
    (ChangeSpec.witness6 (enc := enc) (C := Try.checked) false ⟨#[], #[.slice none 0 0, .int .i64 0, .int .i64 0, .int .i64 0, .int .i64 0], []⟩ 8 (by kernel_rfl) (by kernel_rfl) (by kernel_rfl) (by kernel_rfl)) ?_
  intro W base args ds gs before hval hW _ _
  exact latticeContract H enc W base args ds gs before hval hW

theorem iceLattice_holds : Rows.IceLatticeSaid :=
  OpenClaim.holds_of_wide 7 Try.f7 rfl rfl rfl rfl rfl rfl rfl ⟨rfl, rfl, rfl, rfl, rfl⟩ rfl rfl rfl rfl rfl (by kernel_rfl) Try.func7 (by kernel_rfl)
    (of_decide_eq_true (by kernel_rfl)) (by unfold Func.isWrapper; first | (rw [if_pos (by decide +kernel)]; kernel_rfl) | (rw [if_neg (by decide +kernel)]; exact ⟨rfl, rfl⟩))
    (fun os started H enc _ => latticeLifted os started H enc)
end
#print axioms iceLattice_holds
end Go.Proofs.Ythcjliffpebjaaa
