/- Numbers, comparisons, addresses: what they are on canonical values they are on real ones. No condition. -/
import Derived.Test.YthcjliffpebjaaaK4
import Derived.ChangeKeysEq
namespace Go.K
open Go
set_option linter.unusedVariables false
variable {P : Program} {w : World} {ρ : Ren} {H : Heap}

set_option maxHeartbeats 1000000 in
theorem keqIn_sim : ∀ (d : Nat) {t : TypeId} {x y x' y' : Value} {b : Bool}, keqIn P d t x y = some b → VR ρ x x' → VR ρ y y' → ∀ w : World, (Op.equalIn d t x' y').run P w = .ok b w := by
  intro d
  induction d with
  | zero => intro t x y x' y' b h; simp [keqIn] at h
  | succ d ih =>
    intro t x y x' y' b h hx hy w
    have hf : ∀ (fs : List Field) (xs ys : Array Value) (xs' ys' : Array Value) (b : Bool), keqFields P (keqIn P d) xs.toList ys.toList fs = some b → VRl ρ xs.toList xs'.toList → VRl ρ ys.toList ys'.toList →
        (Op.eqFields d xs' ys' fs).run P w = .ok b w := by
      intro fs
      induction fs with
      | nil => intro xs ys xs' ys' b h _ _; simp [keqFields] at h; subst h; simp [Op.eqFields]
      | cons f fs ihf =>
        intro xs ys xs' ys' b h hx hy
        simp only [keqFields] at h
        cases hr : keqFields P (keqIn P d) xs.toList ys.toList fs with
        | none => simp [hr] at h
        | some r =>
          simp only [hr] at h
          have hrest := ihf xs ys xs' ys' r hr hx hy
          simp only [Op.eqFields]
          split at h
          · rename_i hn
            rw [if_neg (by simpa using hn)]
            cases h; exact hrest
          · rename_i hn
            rw [if_pos (by simpa using hn)]
            cases ha : kpart P f.type xs.toList f.offset with
            | none => simp [ha] at h
            | some a =>
              cases hb : kpart P f.type ys.toList f.offset with
              | none => simp [ha, hb] at h
              | some c =>
                simp only [ha, hb] at h
                obtain ⟨q, hq, rfl⟩ := Option.map_eq_some_iff.1 h
                obtain ⟨a', ha', hva⟩ := run_part (P := P) ha hx w
                obtain ⟨c', hc', hvc⟩ := run_part (P := P) hb hy w
                simp only [Sem.run_bind, ha', hc', Result.andThen_ok, ih hq hva hvc w]
                cases q <;> simp [hrest]
    have hi : ∀ (e : TypeId) (n : Nat), ksize P e = some n → ∀ (m i : Nat) (xs ys : Array Value) (xs' ys' : Array Value) (b : Bool), keqElems P (keqIn P d) e n xs.toList ys.toList i m = some b → VRl ρ xs.toList xs'.toList → VRl ρ ys.toList ys'.toList →
        (Op.eqItems d e n xs' ys' (List.range' i m)).run P w = .ok b w := by
      intro e n hn m
      induction m with
      | zero => intro i xs ys xs' ys' b h _ _; simp [keqElems] at h; subst h; simp [Op.eqItems]
      | succ m ihm =>
        intro i xs ys xs' ys' b h hx hy
        simp only [keqElems] at h
        cases hr : keqElems P (keqIn P d) e n xs.toList ys.toList (i + 1) m with
        | none => simp [hr] at h
        | some r =>
          simp only [hr] at h
          have hrest := ihm (i + 1) xs ys xs' ys' r hr hx hy
          cases ha : kpart P e xs.toList (i * n) with
          | none => simp [ha] at h
          | some a =>
            cases hb : kpart P e ys.toList (i * n) with
            | none => simp [ha, hb] at h
            | some c =>
              simp only [ha, hb] at h
              obtain ⟨q, hq, rfl⟩ := Option.map_eq_some_iff.1 h
              obtain ⟨a', ha', hva⟩ := run_part (P := P) ha hx w
              obtain ⟨c', hc', hvc⟩ := run_part (P := P) hb hy w
              simp only [List.range'_succ, Op.eqItems, Sem.run_bind, ha', hc', Result.andThen_ok, ih hq hva hvc w]
              cases q <;> simp [hrest]
    unfold keqIn at h
    split at h
    · rename_i a c hu; cases hx; cases hy; cases h; simp [Op.equalIn, run_und hu]
    · rename_i k a k' c hu
      cases hx; cases hy
      split at h
      · rename_i hk; cases h; subst hk; simp [Op.equalIn, run_und hu]
      · simp at h
    · rename_i a c hu; cases hx; cases hy; cases h; simp [Op.equalIn, run_und hu]
    · rename_i fs xs ys hu
      split at h
      · simp at h
      · rename_i hs
        cases hx with
        | @agg _ xs' g1 g2 =>
          cases hy with
          | @agg _ ys' k1 k2 =>
            have hfo : P.fieldsOf t = fs := by simp [Program.fieldsOf, hu]
            rw [run_equalIn_struct w d t xs' ys' (by rw [hfo]; exact hu) (by simpa using hs), hfo]
            exact hf _ _ _ _ _ _ h (VR.agg_inv (.agg g1 g2)) (VR.agg_inv (.agg k1 k2))
    · rename_i len e xs ys hu
      cases hn : ksize P e with
      | none => simp [hn] at h
      | some n =>
        simp only [hn] at h
        cases hx with
        | @agg _ xs' g1 g2 =>
          cases hy with
          | @agg _ ys' k1 k2 =>
            obtain ⟨i, hi1, hi2, _⟩ := run_info hn w
            rw [run_equalIn_array w d xs' ys' hu hi1, List.range_eq_range']
            have : P.cellsOf e = n := by simp [Program.cellsOf, hi1, hi2]
            rw [this]
            exact hi e n hn _ _ _ _ _ _ _ h (VR.agg_inv (.agg g1 g2)) (VR.agg_inv (.agg k1 k2))
    · rename_i hu; cases h; cases hx; cases hy <;> simp [Op.equalIn, run_und hu]
    · rename_i hno hu; cases h; cases hy; cases hx <;> first | exact (hno rfl).elim | simp [Op.equalIn, run_und hu]
    · rename_i hu; cases h; cases hx; cases hy <;> simp [Op.equalIn, run_und hu]
    · rename_i hno hu; cases h; cases hy; cases hx <;> first | exact (hno rfl).elim | simp [Op.equalIn, run_und hu]
    · rename_i hu; cases h; cases hx; cases hy <;> simp [Op.equalIn, run_und hu]
    · rename_i hno hu; cases h; cases hy; cases hx <;> first | exact (hno rfl).elim | simp [Op.equalIn, run_und hu]
    · rename_i hu; cases h; cases hx; cases hy; simp only [Op.equalIn, Sem.run_bind, run_und hu, Result.andThen_ok, Sem.run_pure]
    · rename_i hu; cases h; cases hx; cases hy <;> simp only [Op.equalIn, Sem.run_bind, run_und hu, Result.andThen_ok, Sem.run_pure]
    · rename_i hu; cases h; cases hy; cases hx <;> simp only [Op.equalIn, Sem.run_bind, run_und hu, Result.andThen_ok, Sem.run_pure]
    · simp at h
end Go.K
