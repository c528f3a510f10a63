/- Ice: the examples of the chapter (awake), as a contract. No condition. -/
import Derived.Test.YthcjliffpebjaaaI4a
namespace Go.Proofs.Ythcjliffpebjaaa
open Go Go.K
set_option maxRecDepth 100000
noncomputable section
attribute [local irreducible] vF
theorem kAwake (H : Heap) : KCall Try.prog 8 [] H [] (Is (.bool true) H) := by
  have hv : vF Try.prog msk (dm impI) 100000 true 40 true 8 [] ⟨0, .leaf⟩ none .auto (fun v _ _ => isTrueV v) := of_eq_true awakeRun
  have h0 := vc (P := Try.prog) (mask := msk) (dm := dm impI) (rounds := 100000) (mixed := true) mskOk mixed 40 (f := 8) (args := []) (H := ⟨0, .leaf⟩) (M := none) (h := .auto) (Q := fun v _ => isTrueV v) hv
  have h1 : KCall Try.prog 8 [] [] [] (fun v _ => v = .bool true) := h0.post (fun v H' h => by
      cases v <;> first | exact h.elim | (rename_i b; cases b <;> first | rfl | exact h.elim))
  have h2 : KCall Try.prog 8 [] [] [] (Is (.bool true) []) := KCall.clean h1 rfl
  have h3 := KCall.frame (H := H) (new := []) (d := 3) (σ := fun _ => none) ⟨fun g hg => absurd hg (by rw [glob0]; exact Nat.not_lt_zero _), fun _ _ h => (by cases h), fun id h => absurd h (Nat.not_lt_zero _), fun _ _ _ h => (by cases h), fun _ _ _ h => (by cases h)⟩ h2 rfl rfl
  simpa [rn] using h3
end
end Go.Proofs.Ythcjliffpebjaaa
