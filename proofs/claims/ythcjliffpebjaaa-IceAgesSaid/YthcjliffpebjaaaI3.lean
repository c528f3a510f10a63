/- IceAges: what is to be shown of the law holds. No condition. -/
import Derived.Test.YthcjliffpebjaaaI3g
import Derived.Test.YthcjliffpebjaaaI4
import Derived.Test.YthcjliffpebjaaaI5
namespace Go.Proofs.Ythcjliffpebjaaa
open Go Go.K
set_option maxRecDepth 100000
noncomputable section
attribute [local irreducible] vF
theorem pAges (cs : List Value) (n : Nat) (q0 q1 : Report) (m : Rates) (a b : Int) (hcs : 2 ≤ n → ∃ tl, cs = reportC q0 ++ (reportC q1 ++ tl)) : RAges cs n q0 q1 m a b := by
  unfold RAges
  refine ⟨fun _ => ansA kAwake rfl, fun hn => ?_⟩
  have hn2 : 2 ≤ n := by have := of_decide_eq_false hn; omega
  obtain ⟨tl, rfl⟩ := hcs hn2
  refine ansI (errRates m) (fun H => kCheckRates m H) fun r0 hr0 => ?_
  refine ⟨fun _ => ansA kAwake rfl, fun h0 => ?_⟩
  have hm : rightR m := errRates_iff.1 (by rw [← hr0]; simpa using h0)
  refine ⟨⟨.inl rfl, ⟨by omega, by omega⟩, by omega⟩, rfl, ?_, rfl, rfl, rfl, ?_⟩
  · exact partA_lit (pre := [.int .i64 q0.id, .int .i64 q0.source, .int .i64 q0.at_, .int .i64 q0.x, .int .i64 q0.y, .int .i64 q0.has]) (mid := cellC q0.cell) rfl rfl
  have pick : ∀ (x k : Int), 1 ≤ k → k ≤ 2000 → ∀ H : Heap, KCall Try.prog 17 [.int .i64 x, .int .i64 k] H [] (Is (.int .i64 (x % k)) H) := fun x k h1 h2 H => kPick x k h1 (by omega) H
  refine ansI _ (pick _ 3 (by decide) (by decide)) fun s1 e1 => ⟨v64 (by omega), ?_⟩
  refine ansI _ (pick _ 100 (by decide) (by decide)) fun s2 _ => ?_
  refine ansI _ (pick _ 15 (by decide) (by decide)) fun s3 e3 => ⟨v64 (by omega), ?_⟩
  refine ansI _ (pick _ 101 (by decide) (by decide)) fun a1 f1 => ansI _ (pick _ 101 (by decide) (by decide)) fun a2 f2 => nameI fun a3 f3 => nameI fun a4 f4 => ?_
  have g1 : rightS ⟨a3, a4⟩ 100 := span_right (by decide) f1 f2 f3 f4
  refine ansI _ (pick _ 401 (by decide) (by decide)) fun b1 f1 => ansI _ (pick _ 401 (by decide) (by decide)) fun b2 f2 => nameI fun b3 f3 => nameI fun b4 f4 => ?_
  have g2 : rightS ⟨b3, b4⟩ 400 := span_right (by decide) f1 f2 f3 f4
  refine ansI _ (pick _ 101 (by decide) (by decide)) fun c1 f1 => ansI _ (pick _ 101 (by decide) (by decide)) fun c2 f2 => nameI fun c3 f3 => nameI fun c4 f4 => ?_
  have g3 : rightS ⟨c3, c4⟩ 100 := span_right (by decide) f1 f2 f3 f4
  refine ansI _ (pick _ 4 (by decide) (by decide)) fun d1 f1 => ansI _ (pick _ 4 (by decide) (by decide)) fun d2 f2 => nameI fun d3 f3 => nameI fun d4 f4 => ?_
  have g4 : rightS ⟨d3, d4⟩ 3 := span_right (by decide) f1 f2 f3 f4
  obtain ⟨p, hp⟩ : ∃ p : Cell, p = ⟨⟨a3, a4⟩, ⟨b3, b4⟩, ⟨c3, c4⟩, ⟨d3, d4⟩⟩ := ⟨_, rfl⟩
  have rp : rightC p := by rw [hp]; exact ⟨g1, g2, g3, g4⟩
  refine ⟨?_, rfl, rfl, rfl, ?_⟩
  · exact partA_lit (pre := reportC q0 ++ [.int .i64 q1.id, .int .i64 q1.source, .int .i64 q1.at_, .int .i64 q1.x, .int .i64 q1.y, .int .i64 q1.has]) (mid := cellC q1.cell) rfl rfl
  clear g1 g2 g3 g4
  refine ansI _ (pick _ 3 (by decide) (by decide)) fun t1 e1 => ⟨v64 (by omega), ?_⟩
  refine ansI _ (pick _ 100 (by decide) (by decide)) fun t2 _ => ?_
  refine ansI _ (pick _ 15 (by decide) (by decide)) fun t3 e3 => ⟨v64 (by omega), ?_⟩
  refine ansI _ (pick _ 101 (by decide) (by decide)) fun i1 f1 => ansI _ (pick _ 101 (by decide) (by decide)) fun i2 f2 => nameI fun i3 f3 => nameI fun i4 f4 => ?_
  have g1 : rightS ⟨i3, i4⟩ 100 := span_right (by decide) f1 f2 f3 f4
  refine ansI _ (pick _ 401 (by decide) (by decide)) fun j1 f1 => ansI _ (pick _ 401 (by decide) (by decide)) fun j2 f2 => nameI fun j3 f3 => nameI fun j4 f4 => ?_
  have g2 : rightS ⟨j3, j4⟩ 400 := span_right (by decide) f1 f2 f3 f4
  refine ansI _ (pick _ 101 (by decide) (by decide)) fun k1 f1 => ansI _ (pick _ 101 (by decide) (by decide)) fun k2 f2 => nameI fun k3 f3 => nameI fun k4 f4 => ?_
  have g3 : rightS ⟨k3, k4⟩ 100 := span_right (by decide) f1 f2 f3 f4
  refine ansI _ (pick _ 4 (by decide) (by decide)) fun l1 f1 => ansI _ (pick _ 4 (by decide) (by decide)) fun l2 f2 => nameI fun l3 f3 => nameI fun l4 f4 => ?_
  have g4 : rightS ⟨l3, l4⟩ 3 := span_right (by decide) f1 f2 f3 f4
  obtain ⟨p2, hp2⟩ : ∃ p : Cell, p = ⟨⟨i3, i4⟩, ⟨j3, j4⟩, ⟨k3, k4⟩, ⟨l3, l4⟩⟩ := ⟨_, rfl⟩
  have rp2 : rightC p2 := by rw [hp2]; exact ⟨g1, g2, g3, g4⟩
  refine ansI _ (pick _ 1001 (by decide) (by decide)) fun h eh => ansI _ (pick _ 1001 (by decide) (by decide)) fun k ek => ?_
  have hh : 0 ≤ h ∧ h ≤ 1000 := by omega
  have hk : 0 ≤ k ∧ k ≤ 1000 := by omega
  clear g1 g2 g3 g4 eh ek f1 f2 f3 f4 e1 e3
  -- what the calls give
  obtain ⟨rq, iq⟩ := hullC_right rp rp2
  obtain ⟨ra, ia⟩ := ageC_right rp hm hh.1
  obtain ⟨rb, _⟩ := ageC_right rq hm hh.1
  obtain ⟨rc, _⟩ := ageC_right (h := h + k) rp hm (by omega)
  obtain ⟨rd, _⟩ := ageC_right ra hm hk.1
  refine ansI (fHull p p2) (fun H => by have := kHull p p2 H; rw [hp, hp2] at this ⊢; exact this) fun q eq => ?_
  refine ansI (fAge p m h) (fun H => by have := kAge p m h H; rw [hp] at this ⊢; exact this) fun x ex => ?_
  rw [fHull_ok rp rp2] at eq
  rw [fAge_ok rp hm hh.1 (by omega)] at ex
  refine ansI (fAge q.1 m h) (fun H => kAge q.1 m h H) fun y ey => ⟨v64 (by omega), ?_⟩
  refine ansI (fAge p m (h + k)) (fun H => by have := kAge p m (h + k) H; rw [hp] at this ⊢; exact this) fun z ez => ?_
  refine ansI (fAge x.1 m k) (fun H => kAge x.1 m k H) fun u eu => ?_
  subst eq ex
  rw [fAge_ok rq hm hh.1 (by omega)] at ey
  rw [fAge_ok rp hm (by omega) (by omega)] at ez
  rw [fAge_ok ra hm hk.1 (by omega)] at eu
  subst ey ez eu
  refine ⟨fun h => absurd h (by simp), fun _ => ⟨fun h => absurd h (by simp), fun _ => ⟨fun h => absurd h (by simp), fun _ => ⟨fun h => absurd h (by simp), fun _ => ⟨fun h => absurd h (by simp), fun _ => ?_⟩⟩⟩⟩⟩
  have ins : ∀ {a b : Cell}, rightC a → rightC b → insC a b → ∀ H : Heap, KCall Try.prog 20 [cellV a, cellV b] H [] (Is (.tuple #[.bool (true, (0 : Int)).1, .int .i64 (true, (0 : Int)).2]) H) := fun {a b} ha hb hi H => by
    have := kInside a b H
    rw [fInside_ok ha hb, decide_eq_true hi] at this
    exact this
  obtain ⟨⟨c1, c2, c3, c4⟩, ⟨⟨u1, u2, u3, u4⟩, d1, d2, d3, d4⟩⟩ := And.intro rp hm
  have m1 := ageS_more (m := 100) c1 u1.1 d1.1 hh.1 hk.1
  have m2 := ageS_more (m := 400) c2 u2.1 d2.1 hh.1 hk.1
  have m3 := ageS_more (m := 100) c3 u3.1 d3.1 hh.1 hk.1
  have m4 := ageS_more (m := 3) c4 u4.1 d4.1 hh.1 hk.1
  refine ansI (true, (0 : Int)) (fun H => by have := ins rp ra ia H; rw [hp] at this ⊢; exact this) fun v1 w1 => ?_
  subst w1
  refine ⟨fun h => absurd h (by decide), fun _ => ⟨fun h => absurd h (by decide), fun _ => ?_⟩⟩
  refine ansI (true, (0 : Int)) (fun H => ins ra rb (ageC_mono iq) H) fun v1 w1 => ?_
  subst w1
  refine ⟨fun h => absurd h (by decide), fun _ => ⟨fun h => absurd h (by decide), fun _ => ?_⟩⟩
  refine ansI (true, (0 : Int)) (fun H => ins ra rc ⟨m1.1, m2.1, m3.1, m4.1⟩ H) fun v1 w1 => ?_
  subst w1
  refine ⟨fun h => absurd h (by decide), fun _ => ⟨fun h => absurd h (by decide), fun _ => ?_⟩⟩
  refine ansI (true, (0 : Int)) (fun H => ins rc rd ⟨m1.2.1, m2.2.1, m3.2.1, m4.2.1⟩ H) fun v1 w1 => ?_
  subst w1
  refine ⟨fun h => absurd h (by decide), fun _ => ⟨fun h => absurd h (by decide), fun _ => ?_⟩⟩
  have bd : ∀ {x : Int} {Q : Prop}, x ≤ 1 → -1000 ≤ x → Q → (Value.int .i64 (IntKind.wrap .i64 x)) = .int .i64 x ∧ ((decide ((1 : Int) < x) = true → (Value.bool false) = .bool true) ∧ (decide ((1 : Int) < x) = false → Q)) :=
    fun h1 h2 hQ => ⟨v64 (by omega), fun h => absurd (of_decide_eq_true h) (by omega), fun _ => hQ⟩
  obtain ⟨rc1, rc2, rc3, rc4⟩ := rc
  obtain ⟨rd1, rd2, rd3, rd4⟩ := rd
  have lo : ∀ {s t : Span} {m : Int}, rightS s m → rightS t m → m ≤ 400 → -1000 ≤ s.lo - t.lo ∧ -1000 ≤ t.hi - s.hi := by
    intro s t m h1 h2 h3; unfold rightS at h1 h2; omega
  refine bd m1.2.2.1 (lo rc1 rd1 (by decide)).1 (bd m1.2.2.2 (lo rc1 rd1 (by decide)).2 (bd m2.2.2.1 (lo rc2 rd2 (by decide)).1 (bd m2.2.2.2 (lo rc2 rd2 (by decide)).2
    (bd m3.2.2.1 (lo rc3 rd3 (by decide)).1 (bd m3.2.2.2 (lo rc3 rd3 (by decide)).2 (bd m4.2.2.1 (lo rc4 rd4 (by decide)).1 (bd m4.2.2.2 (lo rc4 rd4 (by decide)).2 (ansA kAwake rfl))))))))
end
end Go.Proofs.Ythcjliffpebjaaa
