/- Pure operations together. No condition. -/
import Derived.Test.YthcjliffpebjaaaK5
namespace Go.K
open Go
set_option linter.unusedVariables false
variable {P : Program} {w : World} {ρ : Ren} {H : Heap}

theorem kint_sim {op : BinOp} {t : TypeId} {x y : Operand} {k k' : IntKind} {a b : Int} {v : Value} (h : kint op k a k' b = some v) (w : World) :
    ((do eqGuard op t x y (.int k a) (.int k' b); binOp op t (.int k a) (.int k' b) : Sem Value)).run P w = .ok v w ∧ VR ρ v v := by
  unfold kint at h
  have hg : ∀ op, eqGuard op t x y (.int k a) (.int k' b) = pure () := fun op => by cases op <;> rfl
  rw [hg]
  cases op <;> simp only at h <;> (repeat' split at h) <;> first
    | (simp at h; done)
    | (cases h; refine ⟨?_, by first | exact .int _ _ | exact .bool _⟩; simp_all [binOp, Op.shift, Op.intArith, Op.intDiv, Op.intBits, Op.intCmp] <;> (intro hlt; omega))

theorem kcmp_sim {op : BinOp} {t : TypeId} {x y x' y' v : Value} (h : kcmp P op t x y = some v) (hx : VR ρ x x') (hy : VR ρ y y')
    (he : ∀ w, (binOp .eql t x' y').run P w = ((Op.equal t x' y').run P w).andThen fun b w => .ok (.bool b) w)
    (hn : ∀ w, (binOp .neq t x' y').run P w = ((Op.equal t x' y').run P w).andThen fun b w => .ok (.bool (!b)) w)
    {ox oy : Operand} (hg : (∃ xs ys, x' = .agg xs ∧ y' = .agg ys) ∨ ∀ op, eqGuard op t ox oy x' y' = pure ()) (w : World) :
    ((do eqGuard op t ox oy x' y'; binOp op t x' y' : Sem Value)).run P w = .ok v w ∧ VR ρ v v := by
  have key : ∀ b, keq P t x y = some b → (Op.equal t x' y').run P w = .ok b w ∧ ∀ op, (op = .eql ∨ op = .neq) → (eqGuard op t ox oy x' y').run P w = .ok () w := by
    intro b hb
    unfold keq at hb
    split at hb
    · rename_i xs ys
      split at hb
      · simp at hb
      · rename_i hgt
        refine ⟨keqIn_sim _ hb hx hy w, fun op hop => ?_⟩
        cases hx; cases hy
        rcases hop with rfl | rfl <;> simp [eqGuard, hgt]
    · rename_i hno
      refine ⟨keqIn_sim _ hb hx hy w, fun op hop => ?_⟩
      rcases hg with ⟨xs, ys, rfl, rfl⟩ | hg
      · cases hx with
        | junk => exfalso; unfold keqIn at hb; split at hb <;> simp_all
        | agg a b => cases hy with
          | junk => exfalso; unfold keqIn at hb; split at hb <;> simp_all
          | agg c d => exact absurd rfl (hno _ _ rfl)
      · rw [hg]; rfl
  unfold kcmp at h
  split at h
  · obtain ⟨b, hb, rfl⟩ := Option.map_eq_some_iff.1 h
    obtain ⟨h1, h2⟩ := key b hb
    refine ⟨?_, .bool _⟩
    simp [Sem.run_bind, h2 .eql (.inl rfl), he, h1]
  · obtain ⟨b, hb, rfl⟩ := Option.map_eq_some_iff.1 h
    obtain ⟨h1, h2⟩ := key b hb
    refine ⟨?_, .bool _⟩
    simp [Sem.run_bind, h2 .neq (.inr rfl), hn, h1]
  · simp at h

set_option maxHeartbeats 1000000 in
theorem kbin_sim {op : BinOp} {t : TypeId} {x y x' y' v : Value} {ox oy : Operand} (h : kbin P op t x y = some v) (hx : VR ρ x x') (hy : VR ρ y y') (w : World) :
    ((do eqGuard op t ox oy x' y'; binOp op t x' y' : Sem Value)).run P w = .ok v w ∧ VR ρ v v := by
  unfold kbin at h
  split at h
  · cases hx; cases hy; exact kint_sim h w
  · refine kcmp_sim h hx hy ?_ ?_ ?_ w
    all_goals cases hx; cases hy
    · intro w; simp [binOp]
    · intro w; simp [binOp]
    · right; intro op; cases op <;> rfl
  · refine kcmp_sim h hx hy ?_ ?_ ?_ w
    all_goals cases hx; cases hy
    · intro w; simp [binOp]
    · intro w; simp [binOp]
    · left; exact ⟨_, _, rfl, rfl⟩
  · refine kcmp_sim h hx hy ?_ ?_ ?_ w
    all_goals cases hx <;> cases hy
    all_goals first | (intro w; simp [binOp]) | (right; intro op; cases op <;> rfl)
  · refine kcmp_sim h hx hy ?_ ?_ ?_ w
    all_goals cases hx <;> cases hy
    all_goals first | (intro w; simp [binOp]) | (right; intro op; cases op <;> rfl)
  · refine kcmp_sim h hx hy ?_ ?_ ?_ w
    all_goals cases hx <;> cases hy
    all_goals first | (intro w; simp [binOp]) | (right; intro op; cases op <;> rfl)
  · refine kcmp_sim h hx hy ?_ ?_ ?_ w
    all_goals cases hx <;> cases hy
    all_goals first | (intro w; simp [binOp]) | (right; intro op; cases op <;> rfl)
  · refine kcmp_sim h hx hy ?_ ?_ ?_ w
    all_goals cases hx <;> cases hy
    all_goals first | (intro w; simp [binOp]) | (right; intro op; cases op <;> rfl)
  · refine kcmp_sim h hx hy ?_ ?_ ?_ w
    all_goals cases hx <;> cases hy
    all_goals first | (intro w; simp [binOp]) | (right; intro op; cases op <;> rfl)
  · refine kcmp_sim h hx hy ?_ ?_ ?_ w
    all_goals cases hx <;> cases hy
    all_goals first | (intro w; simp [binOp]) | (right; intro op; cases op <;> rfl)
  · simp at h
end Go.K
