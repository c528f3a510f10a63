/- IceLattice: what is to be shown of the law holds. No condition. -/
import Derived.Test.YthcjliffpebjaaaI2g
import Derived.Test.YthcjliffpebjaaaI4
import Derived.Test.YthcjliffpebjaaaI8
namespace Go.Proofs.Ythcjliffpebjaaa
open Go Go.K
set_option maxRecDepth 100000
set_option maxHeartbeats 4000000
set_option linter.unusedVariables false
noncomputable section
attribute [local irreducible] vF
theorem pLattice (cs : List Value) (n : Nat) (q0 q1 q2 : Report) (a b c d : Int) (hcs : 3 ≤ n → ∃ tl, cs = reportC q0 ++ (reportC q1 ++ (reportC q2 ++ tl))) : RLattice cs n q0 q1 q2 a b c d := by
  unfold RLattice
  refine ⟨fun _ => ansA kAwake rfl, fun hn => ?_⟩
  have hn2 : 3 ≤ n := by have := of_decide_eq_false hn; omega
  obtain ⟨tl, rfl⟩ := hcs hn2
  have pick : ∀ (x k : Int), 1 ≤ k → k ≤ 2000 → ∀ H : Heap, KCall Try.prog 17 [.int .i64 x, .int .i64 k] H [] (Is (.int .i64 (x % k)) H) := fun x k h1 h2 H => kPick x k h1 (by omega) H
  refine ⟨⟨.inl rfl, ⟨by omega, by omega⟩, by omega⟩, rfl, ?_, rfl, rfl, rfl, ?_⟩
  · exact partA_lit (pre := [.int .i64 q0.id, .int .i64 q0.source, .int .i64 q0.at_, .int .i64 q0.x, .int .i64 q0.y, .int .i64 q0.has]) (mid := cellC q0.cell) rfl rfl
  refine ansI _ (pick _ 3 (by decide) (by decide)) fun s10 e1 => ⟨v64 (by omega), ?_⟩
  refine ansI _ (pick _ 100 (by decide) (by decide)) fun s20 e2 => ?_
  refine ansI _ (pick _ 15 (by decide) (by decide)) fun s30 e3 => ⟨v64 (by omega), ?_⟩
  refine ansI _ (pick _ 101 (by decide) (by decide)) fun u1 f1 => ansI _ (pick _ 101 (by decide) (by decide)) fun u2 f2 => nameI fun z01 f3 => nameI fun z02 f4 => ?_
  have g1 : rightS ⟨z01, z02⟩ 100 := span_right (by decide) f1 f2 f3 f4
  clear f1 f2 f3 f4
  refine ansI _ (pick _ 401 (by decide) (by decide)) fun u1 f1 => ansI _ (pick _ 401 (by decide) (by decide)) fun u2 f2 => nameI fun z03 f3 => nameI fun z04 f4 => ?_
  have g2 : rightS ⟨z03, z04⟩ 400 := span_right (by decide) f1 f2 f3 f4
  clear f1 f2 f3 f4
  refine ansI _ (pick _ 101 (by decide) (by decide)) fun u1 f1 => ansI _ (pick _ 101 (by decide) (by decide)) fun u2 f2 => nameI fun z05 f3 => nameI fun z06 f4 => ?_
  have g3 : rightS ⟨z05, z06⟩ 100 := span_right (by decide) f1 f2 f3 f4
  clear f1 f2 f3 f4
  refine ansI _ (pick _ 4 (by decide) (by decide)) fun u1 f1 => ansI _ (pick _ 4 (by decide) (by decide)) fun u2 f2 => nameI fun z07 f3 => nameI fun z08 f4 => ?_
  have g4 : rightS ⟨z07, z08⟩ 3 := span_right (by decide) f1 f2 f3 f4
  clear f1 f2 f3 f4
  obtain ⟨p0, hp0, rp0⟩ : ∃ p : Cell, p = ⟨⟨z01, z02⟩, ⟨z03, z04⟩, ⟨z05, z06⟩, ⟨z07, z08⟩⟩ ∧ rightC p := ⟨⟨⟨z01, z02⟩, ⟨z03, z04⟩, ⟨z05, z06⟩, ⟨z07, z08⟩⟩, rfl, g1, g2, g3, g4⟩
  obtain rfl : p0.conc.lo = z01 := by rw [hp0]
  obtain rfl : p0.conc.hi = z02 := by rw [hp0]
  obtain rfl : p0.thick.lo = z03 := by rw [hp0]
  obtain rfl : p0.thick.hi = z04 := by rw [hp0]
  obtain rfl : p0.ridge.lo = z05 := by rw [hp0]
  obtain rfl : p0.ridge.hi = z06 := by rw [hp0]
  obtain rfl : p0.press.lo = z07 := by rw [hp0]
  obtain rfl : p0.press.hi = z08 := by rw [hp0]
  clear g1 g2 g3 g4 hp0 e1 e2 e3
  refine ⟨?_, rfl, rfl, rfl, ?_⟩
  · exact partA_lit (pre := reportC q0 ++ [.int .i64 q1.id, .int .i64 q1.source, .int .i64 q1.at_, .int .i64 q1.x, .int .i64 q1.y, .int .i64 q1.has]) (mid := cellC q1.cell) rfl rfl
  refine ansI _ (pick _ 3 (by decide) (by decide)) fun s11 e1 => ⟨v64 (by omega), ?_⟩
  refine ansI _ (pick _ 100 (by decide) (by decide)) fun s21 e2 => ?_
  refine ansI _ (pick _ 15 (by decide) (by decide)) fun s31 e3 => ⟨v64 (by omega), ?_⟩
  refine ansI _ (pick _ 101 (by decide) (by decide)) fun u1 f1 => ansI _ (pick _ 101 (by decide) (by decide)) fun u2 f2 => nameI fun z11 f3 => nameI fun z12 f4 => ?_
  have g1 : rightS ⟨z11, z12⟩ 100 := span_right (by decide) f1 f2 f3 f4
  clear f1 f2 f3 f4
  refine ansI _ (pick _ 401 (by decide) (by decide)) fun u1 f1 => ansI _ (pick _ 401 (by decide) (by decide)) fun u2 f2 => nameI fun z13 f3 => nameI fun z14 f4 => ?_
  have g2 : rightS ⟨z13, z14⟩ 400 := span_right (by decide) f1 f2 f3 f4
  clear f1 f2 f3 f4
  refine ansI _ (pick _ 101 (by decide) (by decide)) fun u1 f1 => ansI _ (pick _ 101 (by decide) (by decide)) fun u2 f2 => nameI fun z15 f3 => nameI fun z16 f4 => ?_
  have g3 : rightS ⟨z15, z16⟩ 100 := span_right (by decide) f1 f2 f3 f4
  clear f1 f2 f3 f4
  refine ansI _ (pick _ 4 (by decide) (by decide)) fun u1 f1 => ansI _ (pick _ 4 (by decide) (by decide)) fun u2 f2 => nameI fun z17 f3 => nameI fun z18 f4 => ?_
  have g4 : rightS ⟨z17, z18⟩ 3 := span_right (by decide) f1 f2 f3 f4
  clear f1 f2 f3 f4
  obtain ⟨p1, hp1, rp1⟩ : ∃ p : Cell, p = ⟨⟨z11, z12⟩, ⟨z13, z14⟩, ⟨z15, z16⟩, ⟨z17, z18⟩⟩ ∧ rightC p := ⟨⟨⟨z11, z12⟩, ⟨z13, z14⟩, ⟨z15, z16⟩, ⟨z17, z18⟩⟩, rfl, g1, g2, g3, g4⟩
  obtain rfl : p1.conc.lo = z11 := by rw [hp1]
  obtain rfl : p1.conc.hi = z12 := by rw [hp1]
  obtain rfl : p1.thick.lo = z13 := by rw [hp1]
  obtain rfl : p1.thick.hi = z14 := by rw [hp1]
  obtain rfl : p1.ridge.lo = z15 := by rw [hp1]
  obtain rfl : p1.ridge.hi = z16 := by rw [hp1]
  obtain rfl : p1.press.lo = z17 := by rw [hp1]
  obtain rfl : p1.press.hi = z18 := by rw [hp1]
  clear g1 g2 g3 g4 hp1 e1 e2 e3
  refine ⟨?_, rfl, rfl, rfl, ?_⟩
  · exact partA_lit (pre := reportC q0 ++ (reportC q1 ++ [.int .i64 q2.id, .int .i64 q2.source, .int .i64 q2.at_, .int .i64 q2.x, .int .i64 q2.y, .int .i64 q2.has])) (mid := cellC q2.cell) rfl rfl
  refine ansI _ (pick _ 3 (by decide) (by decide)) fun s12 e1 => ⟨v64 (by omega), ?_⟩
  refine ansI _ (pick _ 100 (by decide) (by decide)) fun s22 e2 => ?_
  refine ansI _ (pick _ 15 (by decide) (by decide)) fun s32 e3 => ⟨v64 (by omega), ?_⟩
  refine ansI _ (pick _ 101 (by decide) (by decide)) fun u1 f1 => ansI _ (pick _ 101 (by decide) (by decide)) fun u2 f2 => nameI fun z21 f3 => nameI fun z22 f4 => ?_
  have g1 : rightS ⟨z21, z22⟩ 100 := span_right (by decide) f1 f2 f3 f4
  clear f1 f2 f3 f4
  refine ansI _ (pick _ 401 (by decide) (by decide)) fun u1 f1 => ansI _ (pick _ 401 (by decide) (by decide)) fun u2 f2 => nameI fun z23 f3 => nameI fun z24 f4 => ?_
  have g2 : rightS ⟨z23, z24⟩ 400 := span_right (by decide) f1 f2 f3 f4
  clear f1 f2 f3 f4
  refine ansI _ (pick _ 101 (by decide) (by decide)) fun u1 f1 => ansI _ (pick _ 101 (by decide) (by decide)) fun u2 f2 => nameI fun z25 f3 => nameI fun z26 f4 => ?_
  have g3 : rightS ⟨z25, z26⟩ 100 := span_right (by decide) f1 f2 f3 f4
  clear f1 f2 f3 f4
  refine ansI _ (pick _ 4 (by decide) (by decide)) fun u1 f1 => ansI _ (pick _ 4 (by decide) (by decide)) fun u2 f2 => nameI fun z27 f3 => nameI fun z28 f4 => ?_
  have g4 : rightS ⟨z27, z28⟩ 3 := span_right (by decide) f1 f2 f3 f4
  clear f1 f2 f3 f4
  obtain ⟨p2, hp2, rp2⟩ : ∃ p : Cell, p = ⟨⟨z21, z22⟩, ⟨z23, z24⟩, ⟨z25, z26⟩, ⟨z27, z28⟩⟩ ∧ rightC p := ⟨⟨⟨z21, z22⟩, ⟨z23, z24⟩, ⟨z25, z26⟩, ⟨z27, z28⟩⟩, rfl, g1, g2, g3, g4⟩
  obtain rfl : p2.conc.lo = z21 := by rw [hp2]
  obtain rfl : p2.conc.hi = z22 := by rw [hp2]
  obtain rfl : p2.thick.lo = z23 := by rw [hp2]
  obtain rfl : p2.thick.hi = z24 := by rw [hp2]
  obtain rfl : p2.ridge.lo = z25 := by rw [hp2]
  obtain rfl : p2.ridge.hi = z26 := by rw [hp2]
  obtain rfl : p2.press.lo = z27 := by rw [hp2]
  obtain rfl : p2.press.hi = z28 := by rw [hp2]
  clear g1 g2 g3 g4 hp2 e1 e2 e3
  simp only [eqc]
  refine ansI (fMeet p0 p1) (fun H => kMeet p0 p1 H) fun x ex => ansI (fMeet p1 p0) (fun H => kMeet p1 p0 H) fun x2 ex2 => ansI (fMeet p0 p0) (fun H => kMeet p0 p0 H) fun o eo => ansI (fInside p0 p1) (fun H => kInside p0 p1 H) fun i ei => ?_
  rw [fMeet_ok rp1 rp0, meetC_comm, ← fMeet_ok rp0 rp1, ← ex] at ex2
  rw [fMeet_ok rp0 rp0, meetC_self, if_pos (rightC_ok rp0)] at eo
  rw [fInside_ok rp0 rp1] at ei
  rw [fMeet_ok rp0 rp1] at ex
  subst ex2 eo ei
  by_cases ho : okC (meetC p0 p1)
  · rw [if_pos ho] at ex
    subst ex
    refine stepF (by simp) (stepF (by simp) (stepR (by simp) (stepF (by simp) (stepF (by simp) (stepF (by simp) (stepL (by simp) (stepF (by simp [meetC_ins']) ?_)))))))
    refine ansI (fHull p0 p1) (fun H => kHull p0 p1 H) fun h1 k1 => ansI (fHull p1 p0) (fun H => kHull p1 p0 H) fun h2 k2 => ?_
    rw [fHull_ok rp0 rp1] at k1
    rw [fHull_ok rp1 rp0, hullC_comm] at k2
    subst k1 k2
    refine stepF (by simp) (stepF (by simp) (stepF (by simp) (stepF (by simp [hullC_ins]) ?_)))
    refine ansI (fHull (hullC p0 p1) p2) (fun H => kHull (hullC p0 p1) p2 H) fun h1 k1 => ansI (fHull p1 p2) (fun H => kHull p1 p2 H) fun h2 k2 => ?_
    rw [fHull_ok (hullC_right rp0 rp1).1 rp2] at k1
    rw [fHull_ok rp1 rp2] at k2
    subst k1 k2
    refine ansI (fHull p0 (hullC p1 p2)) (fun H => kHull p0 (hullC p1 p2) H) fun h1 k1 => ?_
    rw [fHull_ok rp0 (hullC_right rp1 rp2).1] at k1
    subst k1
    refine stepF (by simp) (stepF (by simp) (stepF (by simp) (stepF (by simp [hullC_assoc]) ⟨rfl, ?_⟩)))
    refine ansI (fMeet (meetC p0 p1) p2) (fun H => kMeet (meetC p0 p1) p2 H) fun u eu => ansI (fMeet p1 p2) (fun H => kMeet p1 p2 H) fun v ev => ?_
    rw [fMeet_ok (meetC_right rp0 rp1 ho) rp2] at eu
    rw [fMeet_ok rp1 rp2] at ev
    by_cases h2 : okC (meetC p1 p2)
    · rw [if_pos h2] at ev
      subst ev
      refine stepL (by simp) ?_
      refine ansI (fMeet p0 (meetC p1 p2)) (fun H => kMeet p0 (meetC p1 p2) H) fun v ev => ?_
      rw [fMeet_ok rp0 (meetC_right rp1 rp2 h2), ← meetC_assoc, ← eu] at ev
      subst ev
      refine stepF (by simp) (stepF (by simp) ?_)
      refine ansI _ (pick _ 101 (by decide) (by decide)) fun w1 f1 => ansI _ (pick _ 401 (by decide) (by decide)) fun w2 f2 => ansI _ (pick _ 101 (by decide) (by decide)) fun w3 f3 => ansI _ (pick _ 4 (by decide) (by decide)) fun w4 f4 => ?_
      have ry : rightI ⟨w1, w2, w3, w4⟩ := by unfold rightI; simp only; omega
      clear f1 f2 f3 f4
      refine ansI (fHas p0 ⟨w1, w2, w3, w4⟩) (fun H => kHas p0 ⟨w1, w2, w3, w4⟩ H) fun j1 k1 => ansI (fHas p1 ⟨w1, w2, w3, w4⟩) (fun H => kHas p1 ⟨w1, w2, w3, w4⟩ H) fun j2 k2 => ?_
      rw [fHas_ok rp0 ry] at k1
      rw [fHas_ok rp1 ry] at k2
      subst k1 k2
      refine stepF (by simp) (stepF (by simp) ⟨rfl, ?_⟩)
      refine ansI (fHas (meetC p0 p1) ⟨w1, w2, w3, w4⟩) (fun H => kHas (meetC p0 p1) ⟨w1, w2, w3, w4⟩ H) fun j3 k3 => ?_
      rw [fHas_ok (meetC_right rp0 rp1 ho) ry] at k3
      subst k3
      have hm := hasC_meet (a := p0) (b := p1) (x := ⟨w1, w2, w3, w4⟩)
      refine stepL (by simp) ⟨fun e => ⟨fun _ => ansA kAwake (by trivial), fun e2 => ?_⟩, fun e => ⟨fun _ => ansA kAwake (by trivial), fun e2 => ?_⟩⟩
      · have e' := of_decide_eq_true e
        exfalso
        simp [hm, e'] at e2
      · have e' := of_decide_eq_false e
        exfalso
        simp [hm, e'] at e2
    · rw [if_neg h2] at ev
      rw [if_neg (fun h => h2 (okC_more h).2)] at eu
      subst ev eu
      refine stepR (by simp) (stepF (by simp) (stepF (by simp) ?_))
      refine ansI _ (pick _ 101 (by decide) (by decide)) fun w1 f1 => ansI _ (pick _ 401 (by decide) (by decide)) fun w2 f2 => ansI _ (pick _ 101 (by decide) (by decide)) fun w3 f3 => ansI _ (pick _ 4 (by decide) (by decide)) fun w4 f4 => ?_
      have ry : rightI ⟨w1, w2, w3, w4⟩ := by unfold rightI; simp only; omega
      clear f1 f2 f3 f4
      refine ansI (fHas p0 ⟨w1, w2, w3, w4⟩) (fun H => kHas p0 ⟨w1, w2, w3, w4⟩ H) fun j1 k1 => ansI (fHas p1 ⟨w1, w2, w3, w4⟩) (fun H => kHas p1 ⟨w1, w2, w3, w4⟩ H) fun j2 k2 => ?_
      rw [fHas_ok rp0 ry] at k1
      rw [fHas_ok rp1 ry] at k2
      subst k1 k2
      refine stepF (by simp) (stepF (by simp) ⟨rfl, ?_⟩)
      refine ansI (fHas (meetC p0 p1) ⟨w1, w2, w3, w4⟩) (fun H => kHas (meetC p0 p1) ⟨w1, w2, w3, w4⟩ H) fun j3 k3 => ?_
      rw [fHas_ok (meetC_right rp0 rp1 ho) ry] at k3
      subst k3
      have hm := hasC_meet (a := p0) (b := p1) (x := ⟨w1, w2, w3, w4⟩)
      refine stepL (by simp) ⟨fun e => ⟨fun _ => ansA kAwake (by trivial), fun e2 => ?_⟩, fun e => ⟨fun _ => ansA kAwake (by trivial), fun e2 => ?_⟩⟩
      · have e' := of_decide_eq_true e
        exfalso
        simp [hm, e'] at e2
      · have e' := of_decide_eq_false e
        exfalso
        simp [hm, e'] at e2
  · rw [if_neg ho] at ex
    subst ex
    have hni : ¬ insC p0 p1 := fun h => ho ((meetC_ins rp0).1 h).1
    refine stepF (by simp) (stepF (by simp) (stepL (by simp) (stepF (by simp) (stepF (by simp) (stepF (by simp) (stepF (by simp) (stepR (by simp) (stepF (by simp [hni]) ?_))))))))
    refine ansI (fHull p0 p1) (fun H => kHull p0 p1 H) fun h1 k1 => ansI (fHull p1 p0) (fun H => kHull p1 p0 H) fun h2 k2 => ?_
    rw [fHull_ok rp0 rp1] at k1
    rw [fHull_ok rp1 rp0, hullC_comm] at k2
    subst k1 k2
    refine stepF (by simp) (stepF (by simp) (stepF (by simp) (stepF (by simp [hullC_ins]) ?_)))
    refine ansI (fHull (hullC p0 p1) p2) (fun H => kHull (hullC p0 p1) p2 H) fun h1 k1 => ansI (fHull p1 p2) (fun H => kHull p1 p2 H) fun h2 k2 => ?_
    rw [fHull_ok (hullC_right rp0 rp1).1 rp2] at k1
    rw [fHull_ok rp1 rp2] at k2
    subst k1 k2
    refine ansI (fHull p0 (hullC p1 p2)) (fun H => kHull p0 (hullC p1 p2) H) fun h1 k1 => ?_
    rw [fHull_ok rp0 (hullC_right rp1 rp2).1] at k1
    subst k1
    refine stepF (by simp) (stepF (by simp) (stepF (by simp) (stepF (by simp [hullC_assoc]) ⟨rfl, ?_⟩)))
    refine ansI (fMeet p1 p2) (fun H => kMeet p1 p2 H) fun v ev => ?_
    rw [fMeet_ok rp1 rp2] at ev
    by_cases h2 : okC (meetC p1 p2)
    · rw [if_pos h2] at ev
      subst ev
      refine stepL (by simp) ?_
      refine ansI (fMeet p0 (meetC p1 p2)) (fun H => kMeet p0 (meetC p1 p2) H) fun v ev => ?_
      rw [fMeet_ok rp0 (meetC_right rp1 rp2 h2), ← meetC_assoc, if_neg (fun h => ho (okC_more h).1)] at ev
      subst ev
      refine stepF (by simp) (stepF (by simp) ?_)
      refine ansI _ (pick _ 101 (by decide) (by decide)) fun w1 f1 => ansI _ (pick _ 401 (by decide) (by decide)) fun w2 f2 => ansI _ (pick _ 101 (by decide) (by decide)) fun w3 f3 => ansI _ (pick _ 4 (by decide) (by decide)) fun w4 f4 => ?_
      have ry : rightI ⟨w1, w2, w3, w4⟩ := by unfold rightI; simp only; omega
      clear f1 f2 f3 f4
      refine ansI (fHas p0 ⟨w1, w2, w3, w4⟩) (fun H => kHas p0 ⟨w1, w2, w3, w4⟩ H) fun j1 k1 => ansI (fHas p1 ⟨w1, w2, w3, w4⟩) (fun H => kHas p1 ⟨w1, w2, w3, w4⟩ H) fun j2 k2 => ?_
      rw [fHas_ok rp0 ry] at k1
      rw [fHas_ok rp1 ry] at k2
      subst k1 k2
      refine stepF (by simp) (stepF (by simp) ⟨rfl, ?_⟩)
      have hm := hasC_meet (a := p0) (b := p1) (x := ⟨w1, w2, w3, w4⟩)
      refine ⟨fun e => ⟨fun _ => ansA kAwake (by trivial), fun e2 => ?_⟩, fun e => ansA kAwake (by trivial)⟩
      have e' := of_decide_eq_true e
      exfalso
      exact ho (hasC_ok (hm.2 ⟨e', by simpa using e2⟩))
    · rw [if_neg h2] at ev
      subst ev
      refine stepR (by simp) (stepF (by simp) (stepF (by simp) ?_))
      refine ansI _ (pick _ 101 (by decide) (by decide)) fun w1 f1 => ansI _ (pick _ 401 (by decide) (by decide)) fun w2 f2 => ansI _ (pick _ 101 (by decide) (by decide)) fun w3 f3 => ansI _ (pick _ 4 (by decide) (by decide)) fun w4 f4 => ?_
      have ry : rightI ⟨w1, w2, w3, w4⟩ := by unfold rightI; simp only; omega
      clear f1 f2 f3 f4
      refine ansI (fHas p0 ⟨w1, w2, w3, w4⟩) (fun H => kHas p0 ⟨w1, w2, w3, w4⟩ H) fun j1 k1 => ansI (fHas p1 ⟨w1, w2, w3, w4⟩) (fun H => kHas p1 ⟨w1, w2, w3, w4⟩ H) fun j2 k2 => ?_
      rw [fHas_ok rp0 ry] at k1
      rw [fHas_ok rp1 ry] at k2
      subst k1 k2
      refine stepF (by simp) (stepF (by simp) ⟨rfl, ?_⟩)
      have hm := hasC_meet (a := p0) (b := p1) (x := ⟨w1, w2, w3, w4⟩)
      refine ⟨fun e => ⟨fun _ => ansA kAwake (by trivial), fun e2 => ?_⟩, fun e => ansA kAwake (by trivial)⟩
      have e' := of_decide_eq_true e
      exfalso
      exact ho (hasC_ok (hm.2 ⟨e', by simpa using e2⟩))
end
end Go.Proofs.Ythcjliffpebjaaa
