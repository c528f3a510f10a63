/- Closed calls of the chapter's examples. Printed by a program. No condition. -/
import Derived.Test.YthdekmpkioikdaaGreatGR4xZ5
import Derived.Test.YthdekmpkioikdaaGreatGZ6xZ7
import Derived.Test.YthdekmpkioikdaaGreatGK27xR1g
import Derived.Test.YthdekmpkioikdaaGreatRows
import Derived.JoinedCond
import Derived.Test.YthdekmpkioikdaaGreatGR1xR2g
namespace Go.Proofs.YthdekmpkioikdaaGreat
set_option linter.unusedSimpArgs false
open Go Go.K
set_option maxRecDepth 1000000
set_option maxHeartbeats 4000000
set_option linter.unusedVariables false
noncomputable section
attribute [local irreducible] vF
def R23_360876166 (sp : Value) : Prop :=
  (((someR (.cells false 0 [sL 4 2 2, sL 5 2 2] : KObj)) ∧ (someR (.cells false 0 [nI 0] : KObj)) ∧ (someR (.cells false 0 [nI 1, nI 0, nI 1, nI 1, nI 10, nI 1, nI 0, nI 2, nI 1, nI 0, nI 0, nI 5, nI 1, nI 0, nI 3, nI 2, nI 0, nI 0, nI 5, nI 3, nI 0] : KObj)) ∧ (someR (.cells false 0 [nI 0, nI 4] : KObj)) ∧ (someR (.cells false 0 [nI 4, nI 0] : KObj)) ∧ True) ∧ (∀ H' : Heap, H'.length = 15 → (H'[0]? = some (.cells false 0 [sL 4 2 2, sL 5 2 2] : KObj) ∧ H'[1]? = some (.cells false 0 [nI 0] : KObj) ∧ H'[2]? = some (.cells false 0 [nI 1, nI 0, nI 1, nI 1, nI 10, nI 1, nI 0, nI 2, nI 1, nI 0, nI 0, nI 5, nI 1, nI 0, nI 3, nI 2, nI 0, nI 0, nI 5, nI 3, nI 0] : KObj) ∧ H'[4]? = some (.cells false 0 [nI 0, nI 4] : KObj) ∧ H'[5]? = some (.cells false 0 [nI 4, nI 0] : KObj) ∧ True) → /-N ⟨⟨rfl, rfl, rfl, rfl, rfl, trivial⟩, fun H' _ h => C30_444784595 [0, 1, 2, 4, 5] ⟨⟨_, _, h.1⟩, ⟨_, _, h.2.1⟩, ⟨_, _, h.2.2.1⟩, ⟨_, _, h.2.2.2.1⟩, ⟨_, _, h.2.2.2.2.1⟩, trivial⟩, REST⟩-/KCall prog 30 [.agg #[sL 0 2 2, sL 1 1 1], .agg #[nI 1, nI 0, nI 1, nI 1, nI 1], sL 2 3 3] H' [] (Is (nI 0) H')) ∧ (((someR (.cells false 0 [sL 4 2 2, sL 5 2 2] : KObj)) ∧ (someR (.cells false 0 [nI 0] : KObj)) ∧ (someR (.cells false 0 [nI 1, nI 0, nI 1, nI 1, nI 10, nI 1, nI 0, nI 2, nI 1, nI 0, nI 0, nI 5, nI 1, nI 0, nI 3, nI 2, nI 0, nI 0, nI 5, nI 3, nI 0] : KObj)) ∧ (someR (.cells true 1 [sL 27 2 2] : KObj)) ∧ (someR (.cells false 0 [nI 0, nI 4] : KObj)) ∧ (someR (.cells false 0 [nI 4, nI 0] : KObj)) ∧ (someR (.cells true 1 [nI 0, nI 1] : KObj)) ∧ True) ∧ (∀ H' : Heap, H'.length = 28 → (H'[0]? = some (.cells false 0 [sL 4 2 2, sL 5 2 2] : KObj) ∧ H'[1]? = some (.cells false 0 [nI 0] : KObj) ∧ H'[2]? = some (.cells false 0 [nI 1, nI 0, nI 1, nI 1, nI 10, nI 1, nI 0, nI 2, nI 1, nI 0, nI 0, nI 5, nI 1, nI 0, nI 3, nI 2, nI 0, nI 0, nI 5, nI 3, nI 0] : KObj) ∧ H'[23]? = some (.cells true 1 [sL 27 2 2] : KObj) ∧ H'[4]? = some (.cells false 0 [nI 0, nI 4] : KObj) ∧ H'[5]? = some (.cells false 0 [nI 4, nI 0] : KObj) ∧ H'[27]? = some (.cells true 1 [nI 0, nI 1] : KObj) ∧ True) → /-N ⟨⟨rfl, rfl, rfl, rfl, rfl, rfl, rfl, trivial⟩, fun H' _ h => C64_627421240 [0, 1, 2, 23, 4, 5, 27] ⟨⟨_, _, h.1⟩, ⟨_, _, h.2.1⟩, ⟨_, _, h.2.2.1⟩, ⟨_, _, h.2.2.2.1⟩, ⟨_, _, h.2.2.2.2.1⟩, ⟨_, _, h.2.2.2.2.2.1⟩, ⟨_, _, h.2.2.2.2.2.2.1⟩, trivial⟩, REST⟩-/KCall prog 64 [.agg #[nI 1, nI 0, nI 1, nI 1, nI 1], .agg #[sL 0 2 2, sL 1 1 1], sL 2 3 3, sL 23 1 1, nI 32] H' [] (Is (.bool true) H')) ∧ (((someR (.cells false 0 [sL 4 2 2, sL 5 2 2] : KObj)) ∧ (someR (.cells false 0 [nI 0] : KObj)) ∧ (someR (.cells false 0 [nI 1, nI 0, nI 1, nI 1, nI 10, nI 1, nI 0, nI 2, nI 1, nI 0, nI 0, nI 5, nI 1, nI 0, nI 3, nI 2, nI 0, nI 0, nI 5, nI 3, nI 0] : KObj)) ∧ (someR (.cells true 1 [sL 34 2 2] : KObj)) ∧ (someR (.cells false 0 [nI 0, nI 4] : KObj)) ∧ (someR (.cells false 0 [nI 4, nI 0] : KObj)) ∧ (someR (.cells true 1 [nI 0, nI 2] : KObj)) ∧ True) ∧ (∀ H' : Heap, H'.length = 35 → (H'[0]? = some (.cells false 0 [sL 4 2 2, sL 5 2 2] : KObj) ∧ H'[1]? = some (.cells false 0 [nI 0] : KObj) ∧ H'[2]? = some (.cells false 0 [nI 1, nI 0, nI 1, nI 1, nI 10, nI 1, nI 0, nI 2, nI 1, nI 0, nI 0, nI 5, nI 1, nI 0, nI 3, nI 2, nI 0, nI 0, nI 5, nI 3, nI 0] : KObj) ∧ H'[30]? = some (.cells true 1 [sL 34 2 2] : KObj) ∧ H'[4]? = some (.cells false 0 [nI 0, nI 4] : KObj) ∧ H'[5]? = some (.cells false 0 [nI 4, nI 0] : KObj) ∧ H'[34]? = some (.cells true 1 [nI 0, nI 2] : KObj) ∧ True) → /-N ⟨⟨rfl, rfl, rfl, rfl, rfl, rfl, rfl, trivial⟩, fun H' _ h => C64_928147460 [0, 1, 2, 30, 4, 5, 34] ⟨⟨_, _, h.1⟩, ⟨_, _, h.2.1⟩, ⟨_, _, h.2.2.1⟩, ⟨_, _, h.2.2.2.1⟩, ⟨_, _, h.2.2.2.2.1⟩, ⟨_, _, h.2.2.2.2.2.1⟩, ⟨_, _, h.2.2.2.2.2.2.1⟩, trivial⟩, REST⟩-/KCall prog 64 [.agg #[nI 1, nI 0, nI 1, nI 1, nI 1], .agg #[sL 0 2 2, sL 1 1 1], sL 2 3 3, sL 30 1 1, nI 32] H' [] (Is (.bool true) H')) ∧ (((someR (.cells false 0 [sL 4 2 2, sL 5 2 2] : KObj)) ∧ (someR (.cells false 0 [nI 0] : KObj)) ∧ (someR (.cells false 0 [nI 1, nI 0, nI 1, nI 1, nI 10, nI 1, nI 0, nI 2, nI 1, nI 0, nI 0, nI 5, nI 1, nI 0, nI 3, nI 2, nI 0, nI 0, nI 5, nI 3, nI 0] : KObj)) ∧ (someR (.cells true 1 [sL 55 3 3] : KObj)) ∧ (someR (.cells false 0 [nI 0, nI 4] : KObj)) ∧ (someR (.cells false 0 [nI 4, nI 0] : KObj)) ∧ (someR (.cells true 1 [nI 1, nI 0, nI 2] : KObj)) ∧ True) ∧ (∀ H' : Heap, H'.length = 56 → (H'[0]? = some (.cells false 0 [sL 4 2 2, sL 5 2 2] : KObj) ∧ H'[1]? = some (.cells false 0 [nI 0] : KObj) ∧ H'[2]? = some (.cells false 0 [nI 1, nI 0, nI 1, nI 1, nI 10, nI 1, nI 0, nI 2, nI 1, nI 0, nI 0, nI 5, nI 1, nI 0, nI 3, nI 2, nI 0, nI 0, nI 5, nI 3, nI 0] : KObj) ∧ H'[51]? = some (.cells true 1 [sL 55 3 3] : KObj) ∧ H'[4]? = some (.cells false 0 [nI 0, nI 4] : KObj) ∧ H'[5]? = some (.cells false 0 [nI 4, nI 0] : KObj) ∧ H'[55]? = some (.cells true 1 [nI 1, nI 0, nI 2] : KObj) ∧ True) → /-N ⟨⟨rfl, rfl, rfl, rfl, rfl, rfl, rfl, trivial⟩, fun H' _ h => C64_13195889 [0, 1, 2, 51, 4, 5, 55] ⟨⟨_, _, h.1⟩, ⟨_, _, h.2.1⟩, ⟨_, _, h.2.2.1⟩, ⟨_, _, h.2.2.2.1⟩, ⟨_, _, h.2.2.2.2.1⟩, ⟨_, _, h.2.2.2.2.2.1⟩, ⟨_, _, h.2.2.2.2.2.2.1⟩, trivial⟩, REST⟩-/KCall prog 64 [.agg #[nI 1, nI 0, nI 1, nI 1, nI 1], .agg #[sL 0 2 2, sL 1 1 1], sL 2 3 3, sL 51 1 1, nI 32] H' [] (Is (.bool true) H')) ∧ (((someR (.cells false 0 [sL 4 2 2, sL 5 2 2] : KObj)) ∧ (someR (.cells false 0 [nI 0] : KObj)) ∧ (someR (.cells false 0 [nI 1, nI 0, nI 1, nI 1, nI 10, nI 1, nI 0, nI 2, nI 1, nI 0, nI 0, nI 5, nI 1, nI 0, nI 3, nI 2, nI 0, nI 0, nI 5, nI 3, nI 0] : KObj)) ∧ (someR (.cells true 1 [sL 70 3 3] : KObj)) ∧ (someR (.cells false 0 [nI 0, nI 4] : KObj)) ∧ (someR (.cells false 0 [nI 4, nI 0] : KObj)) ∧ (someR (.cells true 1 [nI 1, nI 2, nI 0] : KObj)) ∧ True) ∧ (∀ H' : Heap, H'.length = 71 → (H'[0]? = some (.cells false 0 [sL 4 2 2, sL 5 2 2] : KObj) ∧ H'[1]? = some (.cells false 0 [nI 0] : KObj) ∧ H'[2]? = some (.cells false 0 [nI 1, nI 0, nI 1, nI 1, nI 10, nI 1, nI 0, nI 2, nI 1, nI 0, nI 0, nI 5, nI 1, nI 0, nI 3, nI 2, nI 0, nI 0, nI 5, nI 3, nI 0] : KObj) ∧ H'[66]? = some (.cells true 1 [sL 70 3 3] : KObj) ∧ H'[4]? = some (.cells false 0 [nI 0, nI 4] : KObj) ∧ H'[5]? = some (.cells false 0 [nI 4, nI 0] : KObj) ∧ H'[70]? = some (.cells true 1 [nI 1, nI 2, nI 0] : KObj) ∧ True) → /-N ⟨⟨rfl, rfl, rfl, rfl, rfl, rfl, rfl, trivial⟩, fun H' _ h => C64_471208254 [0, 1, 2, 66, 4, 5, 70] ⟨⟨_, _, h.1⟩, ⟨_, _, h.2.1⟩, ⟨_, _, h.2.2.1⟩, ⟨_, _, h.2.2.2.1⟩, ⟨_, _, h.2.2.2.2.1⟩, ⟨_, _, h.2.2.2.2.2.1⟩, ⟨_, _, h.2.2.2.2.2.2.1⟩, trivial⟩, REST⟩-/KCall prog 64 [.agg #[nI 1, nI 0, nI 1, nI 1, nI 1], .agg #[sL 0 2 2, sL 1 1 1], sL 2 3 3, sL 66 1 1, nI 32] H' [] (Is (.bool true) H')) ∧ (((someR (.cells false 0 [sL 4 2 2, sL 5 2 2] : KObj)) ∧ (someR (.cells false 0 [nI 0] : KObj)) ∧ (someR (.cells false 0 [nI 1, nI 0, nI 1, nI 1, nI 10, nI 1, nI 0, nI 2, nI 1, nI 0, nI 0, nI 5, nI 1, nI 0, nI 3, nI 2, nI 0, nI 0, nI 5, nI 3, nI 0] : KObj)) ∧ (someR (.cells true 1 [sL 92 3 3] : KObj)) ∧ (someR (.cells false 0 [nI 0, nI 4] : KObj)) ∧ (someR (.cells false 0 [nI 4, nI 0] : KObj)) ∧ (someR (.cells true 1 [nI 2, nI 0, nI 1] : KObj)) ∧ True) ∧ (∀ H' : Heap, H'.length = 93 → (H'[0]? = some (.cells false 0 [sL 4 2 2, sL 5 2 2] : KObj) ∧ H'[1]? = some (.cells false 0 [nI 0] : KObj) ∧ H'[2]? = some (.cells false 0 [nI 1, nI 0, nI 1, nI 1, nI 10, nI 1, nI 0, nI 2, nI 1, nI 0, nI 0, nI 5, nI 1, nI 0, nI 3, nI 2, nI 0, nI 0, nI 5, nI 3, nI 0] : KObj) ∧ H'[88]? = some (.cells true 1 [sL 92 3 3] : KObj) ∧ H'[4]? = some (.cells false 0 [nI 0, nI 4] : KObj) ∧ H'[5]? = some (.cells false 0 [nI 4, nI 0] : KObj) ∧ H'[92]? = some (.cells true 1 [nI 2, nI 0, nI 1] : KObj) ∧ True) → /-N ⟨⟨rfl, rfl, rfl, rfl, rfl, rfl, rfl, trivial⟩, fun H' _ h => C64_393988247 [0, 1, 2, 88, 4, 5, 92] ⟨⟨_, _, h.1⟩, ⟨_, _, h.2.1⟩, ⟨_, _, h.2.2.1⟩, ⟨_, _, h.2.2.2.1⟩, ⟨_, _, h.2.2.2.2.1⟩, ⟨_, _, h.2.2.2.2.2.1⟩, ⟨_, _, h.2.2.2.2.2.2.1⟩, trivial⟩, REST⟩-/KCall prog 64 [.agg #[nI 1, nI 0, nI 1, nI 1, nI 1], .agg #[sL 0 2 2, sL 1 1 1], sL 2 3 3, sL 88 1 1, nI 32] H' [] (Is (.bool true) H')) ∧ (((someR (.cells false 0 [sL 4 2 2, sL 5 2 2] : KObj)) ∧ (someR (.cells false 0 [nI 0] : KObj)) ∧ (someR (.cells false 0 [nI 1, nI 0, nI 1, nI 1, nI 10, nI 1, nI 0, nI 2, nI 1, nI 0, nI 0, nI 5, nI 1, nI 0, nI 3, nI 2, nI 0, nI 0, nI 5, nI 3, nI 0] : KObj)) ∧ (someR (.cells true 1 [sL 107 3 3] : KObj)) ∧ (someR (.cells false 0 [nI 0, nI 4] : KObj)) ∧ (someR (.cells false 0 [nI 4, nI 0] : KObj)) ∧ (someR (.cells true 1 [nI 2, nI 1, nI 0] : KObj)) ∧ True) ∧ (∀ H' : Heap, H'.length = 108 → (H'[0]? = some (.cells false 0 [sL 4 2 2, sL 5 2 2] : KObj) ∧ H'[1]? = some (.cells false 0 [nI 0] : KObj) ∧ H'[2]? = some (.cells false 0 [nI 1, nI 0, nI 1, nI 1, nI 10, nI 1, nI 0, nI 2, nI 1, nI 0, nI 0, nI 5, nI 1, nI 0, nI 3, nI 2, nI 0, nI 0, nI 5, nI 3, nI 0] : KObj) ∧ H'[103]? = some (.cells true 1 [sL 107 3 3] : KObj) ∧ H'[4]? = some (.cells false 0 [nI 0, nI 4] : KObj) ∧ H'[5]? = some (.cells false 0 [nI 4, nI 0] : KObj) ∧ H'[107]? = some (.cells true 1 [nI 2, nI 1, nI 0] : KObj) ∧ True) → /-N ⟨⟨rfl, rfl, rfl, rfl, rfl, rfl, rfl, trivial⟩, fun H' _ h => C64_130900879 [0, 1, 2, 103, 4, 5, 107] ⟨⟨_, _, h.1⟩, ⟨_, _, h.2.1⟩, ⟨_, _, h.2.2.1⟩, ⟨_, _, h.2.2.2.1⟩, ⟨_, _, h.2.2.2.2.1⟩, ⟨_, _, h.2.2.2.2.2.1⟩, ⟨_, _, h.2.2.2.2.2.2.1⟩, trivial⟩, REST⟩-/KCall prog 64 [.agg #[nI 1, nI 0, nI 1, nI 1, nI 1], .agg #[sL 0 2 2, sL 1 1 1], sL 2 3 3, sL 103 1 1, nI 32] H' [] (Is (.bool true) H')) ∧ (.tuple #[.bool true, nI 0] : Value) = sp)))))))
theorem E23_360876166 (sp : Value) : vF prog msk (dm 0) 100000 true 40 true 23 [.agg #[sL 0 2 2, sL 1 1 1], .agg #[nI 1, nI 0, nI 1, nI 1, nI 1], sL 2 3 3, nI 32, sL 3 14 14] (readsT 0 [[sL 4 2 2, sL 5 2 2], [nI 0], [nI 1, nI 0, nI 1, nI 1, nI 10, nI 1, nI 0, nI 2, nI 1, nI 0, nI 0, nI 5, nI 1, nI 0, nI 3, nI 2, nI 0, nI 0, nI 5, nI 3, nI 0], [.bool false, .bool false, .bool true, .bool true, .bool false, .bool false, .bool true, .bool false, .bool true, .bool false, .bool false, .bool true, .bool false, .bool true], [nI 0, nI 4], [nI 4, nI 0]]) (some [])
  (.go 24 (.ans [(0, .cells false 0 [sL 4 2 2, sL 5 2 2]), (1, .cells false 0 [nI 0]), (2, .cells false 0 [nI 1, nI 0, nI 1, nI 1, nI 10, nI 1, nI 0, nI 2, nI 1, nI 0, nI 0, nI 5, nI 1, nI 0, nI 3, nI 2, nI 0, nI 0, nI 5, nI 3, nI 0]), (4, .cells false 0 [nI 0, nI 4]), (5, .cells false 0 [nI 4, nI 0])] (nI 0) [] (.go 49 (.into (some (List.range' 6 9)) (.go 44 (.into (some (List.range' 6 9)) (.go 93 (.into (some (List.range' 6 14)) (.go 44 (.into (some (List.range' 6 14)) (.go 171 (.into (some (List.range' 6 22)) (.go 19 (.ans [(0, .cells false 0 [sL 4 2 2, sL 5 2 2]), (1, .cells false 0 [nI 0]), (2, .cells false 0 [nI 1, nI 0, nI 1, nI 1, nI 10, nI 1, nI 0, nI 2, nI 1, nI 0, nI 0, nI 5, nI 1, nI 0, nI 3, nI 2, nI 0, nI 0, nI 5, nI 3, nI 0]), (23, .cells true 1 [sL 27 2 2]), (4, .cells false 0 [nI 0, nI 4]), (5, .cells false 0 [nI 4, nI 0]), (27, .cells true 1 [nI 0, nI 1])] (.bool true) [] (.go 114 (.into (some (List.range' 6 29)) (.go 19 (.ans [(0, .cells false 0 [sL 4 2 2, sL 5 2 2]), (1, .cells false 0 [nI 0]), (2, .cells false 0 [nI 1, nI 0, nI 1, nI 1, nI 10, nI 1, nI 0, nI 2, nI 1, nI 0, nI 0, nI 5, nI 1, nI 0, nI 3, nI 2, nI 0, nI 0, nI 5, nI 3, nI 0]), (30, .cells true 1 [sL 34 2 2]), (4, .cells false 0 [nI 0, nI 4]), (5, .cells false 0 [nI 4, nI 0]), (34, .cells true 1 [nI 0, nI 2])] (.bool true) [] (.go 111 (.into (some (List.range' 6 34)) (.go 44 (.into (some (List.range' 6 34)) (.go 109 (.into (some (List.range' 6 41)) (.go 44 (.into (some (List.range' 6 41)) (.go 259 (.into (some (List.range' 6 50)) (.go 19 (.ans [(0, .cells false 0 [sL 4 2 2, sL 5 2 2]), (1, .cells false 0 [nI 0]), (2, .cells false 0 [nI 1, nI 0, nI 1, nI 1, nI 10, nI 1, nI 0, nI 2, nI 1, nI 0, nI 0, nI 5, nI 1, nI 0, nI 3, nI 2, nI 0, nI 0, nI 5, nI 3, nI 0]), (51, .cells true 1 [sL 55 3 3]), (4, .cells false 0 [nI 0, nI 4]), (5, .cells false 0 [nI 4, nI 0]), (55, .cells true 1 [nI 1, nI 0, nI 2])] (.bool true) [] (.go 189 (.into (some (List.range' 6 58)) (.go 44 (.into (some (List.range' 6 58)) (.go 122 (.into (some (List.range' 6 65)) (.go 19 (.ans [(0, .cells false 0 [sL 4 2 2, sL 5 2 2]), (1, .cells false 0 [nI 0]), (2, .cells false 0 [nI 1, nI 0, nI 1, nI 1, nI 10, nI 1, nI 0, nI 2, nI 1, nI 0, nI 0, nI 5, nI 1, nI 0, nI 3, nI 2, nI 0, nI 0, nI 5, nI 3, nI 0]), (66, .cells true 1 [sL 70 3 3]), (4, .cells false 0 [nI 0, nI 4]), (5, .cells false 0 [nI 4, nI 0]), (70, .cells true 1 [nI 1, nI 2, nI 0])] (.bool true) [] (.go 261 (.into (some (List.range' 6 72)) (.go 44 (.into (some (List.range' 6 72)) (.go 109 (.into (some (List.range' 6 79)) (.go 44 (.into (some (List.range' 6 79)) (.go 197 (.into (some (List.range' 6 87)) (.go 19 (.ans [(0, .cells false 0 [sL 4 2 2, sL 5 2 2]), (1, .cells false 0 [nI 0]), (2, .cells false 0 [nI 1, nI 0, nI 1, nI 1, nI 10, nI 1, nI 0, nI 2, nI 1, nI 0, nI 0, nI 5, nI 1, nI 0, nI 3, nI 2, nI 0, nI 0, nI 5, nI 3, nI 0]), (88, .cells true 1 [sL 92 3 3]), (4, .cells false 0 [nI 0, nI 4]), (5, .cells false 0 [nI 4, nI 0]), (92, .cells true 1 [nI 2, nI 0, nI 1])] (.bool true) [] (.go 189 (.into (some (List.range' 6 95)) (.go 44 (.into (some (List.range' 6 95)) (.go 122 (.into (some (List.range' 6 102)) (.go 19 (.ans [(0, .cells false 0 [sL 4 2 2, sL 5 2 2]), (1, .cells false 0 [nI 0]), (2, .cells false 0 [nI 1, nI 0, nI 1, nI 1, nI 10, nI 1, nI 0, nI 2, nI 1, nI 0, nI 0, nI 5, nI 1, nI 0, nI 3, nI 2, nI 0, nI 0, nI 5, nI 3, nI 0]), (103, .cells true 1 [sL 107 3 3]), (4, .cells false 0 [nI 0, nI 4]), (5, .cells false 0 [nI 4, nI 0]), (107, .cells true 1 [nI 2, nI 1, nI 0])] (.bool true) [] (.auto)))))))))))))))))))))))))))))))))))))))))))))))))))))))))))
  (fun v _ _ => v = sp) = R23_360876166 sp := by kernel_rfl
theorem P23_360876166 : R23_360876166 (.tuple #[.bool true, nI 0]) := ⟨⟨rfl, rfl, rfl, rfl, rfl, trivial⟩, fun H' _ h => C30_444784595 [0, 1, 2, 4, 5] ⟨⟨_, _, h.1⟩, ⟨_, _, h.2.1⟩, ⟨_, _, h.2.2.1⟩, ⟨_, _, h.2.2.2.1⟩, ⟨_, _, h.2.2.2.2.1⟩, trivial⟩, ⟨⟨rfl, rfl, rfl, rfl, rfl, rfl, rfl, trivial⟩, fun H' _ h => C64_627421240 [0, 1, 2, 23, 4, 5, 27] ⟨⟨_, _, h.1⟩, ⟨_, _, h.2.1⟩, ⟨_, _, h.2.2.1⟩, ⟨_, _, h.2.2.2.1⟩, ⟨_, _, h.2.2.2.2.1⟩, ⟨_, _, h.2.2.2.2.2.1⟩, ⟨_, _, h.2.2.2.2.2.2.1⟩, trivial⟩, ⟨⟨rfl, rfl, rfl, rfl, rfl, rfl, rfl, trivial⟩, fun H' _ h => C64_928147460 [0, 1, 2, 30, 4, 5, 34] ⟨⟨_, _, h.1⟩, ⟨_, _, h.2.1⟩, ⟨_, _, h.2.2.1⟩, ⟨_, _, h.2.2.2.1⟩, ⟨_, _, h.2.2.2.2.1⟩, ⟨_, _, h.2.2.2.2.2.1⟩, ⟨_, _, h.2.2.2.2.2.2.1⟩, trivial⟩, ⟨⟨rfl, rfl, rfl, rfl, rfl, rfl, rfl, trivial⟩, fun H' _ h => C64_13195889 [0, 1, 2, 51, 4, 5, 55] ⟨⟨_, _, h.1⟩, ⟨_, _, h.2.1⟩, ⟨_, _, h.2.2.1⟩, ⟨_, _, h.2.2.2.1⟩, ⟨_, _, h.2.2.2.2.1⟩, ⟨_, _, h.2.2.2.2.2.1⟩, ⟨_, _, h.2.2.2.2.2.2.1⟩, trivial⟩, ⟨⟨rfl, rfl, rfl, rfl, rfl, rfl, rfl, trivial⟩, fun H' _ h => C64_471208254 [0, 1, 2, 66, 4, 5, 70] ⟨⟨_, _, h.1⟩, ⟨_, _, h.2.1⟩, ⟨_, _, h.2.2.1⟩, ⟨_, _, h.2.2.2.1⟩, ⟨_, _, h.2.2.2.2.1⟩, ⟨_, _, h.2.2.2.2.2.1⟩, ⟨_, _, h.2.2.2.2.2.2.1⟩, trivial⟩, ⟨⟨rfl, rfl, rfl, rfl, rfl, rfl, rfl, trivial⟩, fun H' _ h => C64_393988247 [0, 1, 2, 88, 4, 5, 92] ⟨⟨_, _, h.1⟩, ⟨_, _, h.2.1⟩, ⟨_, _, h.2.2.1⟩, ⟨_, _, h.2.2.2.1⟩, ⟨_, _, h.2.2.2.2.1⟩, ⟨_, _, h.2.2.2.2.2.1⟩, ⟨_, _, h.2.2.2.2.2.2.1⟩, trivial⟩, ⟨⟨rfl, rfl, rfl, rfl, rfl, rfl, rfl, trivial⟩, fun H' _ h => C64_130900879 [0, 1, 2, 103, 4, 5, 107] ⟨⟨_, _, h.1⟩, ⟨_, _, h.2.1⟩, ⟨_, _, h.2.2.1⟩, ⟨_, _, h.2.2.2.1⟩, ⟨_, _, h.2.2.2.2.1⟩, ⟨_, _, h.2.2.2.2.2.1⟩, ⟨_, _, h.2.2.2.2.2.2.1⟩, trivial⟩, rfl⟩⟩⟩⟩⟩⟩⟩
theorem C23_360876166 {H : Heap} (ids : List Nat) (h : InsA H (sgR 0 ids) ids [[sL 4 2 2, sL 5 2 2], [nI 0], [nI 1, nI 0, nI 1, nI 1, nI 10, nI 1, nI 0, nI 2, nI 1, nI 0, nI 0, nI 5, nI 1, nI 0, nI 3, nI 2, nI 0, nI 0, nI 5, nI 3, nI 0], [.bool false, .bool false, .bool true, .bool true, .bool false, .bool false, .bool true, .bool false, .bool true, .bool false, .bool false, .bool true, .bool false, .bool true], [nI 0, nI 4], [nI 4, nI 0]]) : KCall prog 23 (([.agg #[sL 0 2 2, sL 1 1 1], .agg #[nI 1, nI 0, nI 1, nI 1, nI 1], sL 2 3 3, nI 32, sL 3 14 14] : List Value).map (rn (sgR 0 ids) 3)) H [] (Is (.tuple #[.bool true, nI 0]) H) :=
  valRA (css := [[sL 4 2 2, sL 5 2 2], [nI 0], [nI 1, nI 0, nI 1, nI 1, nI 10, nI 1, nI 0, nI 2, nI 1, nI 0, nI 0, nI 5, nI 1, nI 0, nI 3, nI 2, nI 0, nI 0, nI 5, nI 3, nI 0], [.bool false, .bool false, .bool true, .bool true, .bool false, .bool false, .bool true, .bool false, .bool true, .bool false, .bool false, .bool true, .bool false, .bool true], [nI 0, nI 4], [nI 4, nI 0]]) (Eq.mpr (E23_360876166 _) P23_360876166) rfl ids h.len h.get
end
end Go.Proofs.YthdekmpkioikdaaGreat
/- Closed calls of the chapter's examples. Printed by a program. No condition. -/
namespace Go.Proofs.YthdekmpkioikdaaGreat
set_option linter.unusedSimpArgs false
open Go Go.K
set_option maxRecDepth 1000000
set_option maxHeartbeats 4000000
set_option linter.unusedVariables false
noncomputable section
attribute [local irreducible] vF
def R14_189317377 (sp : Value) : Prop :=
  (((someR (.cells true 1 [sL 2 2 2, sL 3 2 2] : KObj)) ∧ (someR (.cells true 1 [nI 0] : KObj)) ∧ (someR (.cells true 7 [nI 1, nI 0, nI 1, nI 1, nI 10, nI 1, nI 0, nI 2, nI 1, nI 0, nI 0, nI 5, nI 1, nI 0, nI 3, nI 2, nI 0, nI 0, nI 5, nI 3, nI 0] : KObj)) ∧ (someR (.cells true 1 [nI 0, nI 4] : KObj)) ∧ (someR (.cells true 1 [nI 4, nI 0] : KObj)) ∧ True) ∧ (∀ H' : Heap, H'.length = 7 → (H'[4]? = some (.cells true 1 [sL 2 2 2, sL 3 2 2] : KObj) ∧ H'[5]? = some (.cells true 1 [nI 0] : KObj) ∧ H'[6]? = some (.cells true 7 [nI 1, nI 0, nI 1, nI 1, nI 10, nI 1, nI 0, nI 2, nI 1, nI 0, nI 0, nI 5, nI 1, nI 0, nI 3, nI 2, nI 0, nI 0, nI 5, nI 3, nI 0] : KObj) ∧ H'[2]? = some (.cells true 1 [nI 0, nI 4] : KObj) ∧ H'[3]? = some (.cells true 1 [nI 4, nI 0] : KObj) ∧ True) → /-N ⟨⟨rfl, rfl, rfl, rfl, rfl, trivial⟩, fun H' hl h => (by have k := C29_444784595 (H := H') [4, 5, 6, 2, 3] ⟨⟨_, _, h.1⟩, ⟨_, _, h.2.1⟩, ⟨_, _, h.2.2.1⟩, ⟨_, _, h.2.2.2.1⟩, ⟨_, _, h.2.2.2.2.1⟩, trivial⟩; rw [hl] at k; exact k), REST⟩-/KCall prog 29 [.agg #[sL 4 2 2, sL 5 1 1], .agg #[nI 1, nI 0, nI 1, nI 1, nI 1], sL 6 3 3] H' [] (Is (.tuple #[sL 7 3 3, nI 0]) (H' ++ [(.cells true 5 [nI 0, nI 0, nI 0, nI 4, nI 14, nI 2, nI 0, nI 14, nI 18, nI 23, nI 1, nI 0, nI 23, nI 23, nI 28] : KObj)]))) ∧ (((someR (.cells true 1 [sL 9 2 2, sL 10 2 2] : KObj)) ∧ (someR (.cells true 1 [nI 0] : KObj)) ∧ (someR (.cells true 7 [nI 1, nI 0, nI 1, nI 1, nI 10, nI 1, nI 0, nI 2, nI 1, nI 0, nI 0, nI 5, nI 1, nI 0, nI 3, nI 2, nI 0, nI 0, nI 5, nI 3, nI 0] : KObj)) ∧ (someR (.cells true 1 [nI 0, nI 4] : KObj)) ∧ (someR (.cells true 1 [nI 4, nI 0] : KObj)) ∧ True) ∧ (∀ H' : Heap, H'.length = 14 → (H'[11]? = some (.cells true 1 [sL 9 2 2, sL 10 2 2] : KObj) ∧ H'[12]? = some (.cells true 1 [nI 0] : KObj) ∧ H'[13]? = some (.cells true 7 [nI 1, nI 0, nI 1, nI 1, nI 10, nI 1, nI 0, nI 2, nI 1, nI 0, nI 0, nI 5, nI 1, nI 0, nI 3, nI 2, nI 0, nI 0, nI 5, nI 3, nI 0] : KObj) ∧ H'[9]? = some (.cells true 1 [nI 0, nI 4] : KObj) ∧ H'[10]? = some (.cells true 1 [nI 4, nI 0] : KObj) ∧ True) → /-N ⟨⟨rfl, rfl, rfl, rfl, rfl, trivial⟩, fun H' hl h => (by have k := C48_444784595 (H := H') [11, 12, 13, 9, 10] ⟨⟨_, _, h.1⟩, ⟨_, _, h.2.1⟩, ⟨_, _, h.2.2.1⟩, ⟨_, _, h.2.2.2.1⟩, ⟨_, _, h.2.2.2.2.1⟩, trivial⟩; rw [hl] at k; exact k), REST⟩-/KCall prog 48 [.agg #[sL 11 2 2, sL 12 1 1], .agg #[nI 1, nI 0, nI 1, nI 1, nI 1], sL 13 3 3] H' [] (Is (.tuple #[sL 14 1 1, nI 32, nI 0]) (H' ++ [(.cells true 1 [sL 15 3 3] : KObj), (.cells true 1 [nI 1, nI 0, nI 2] : KObj)]))) ∧ (((someR (.cells true 1 [sL 17 2 2, sL 18 2 2] : KObj)) ∧ (someR (.cells true 1 [nI 0] : KObj)) ∧ (someR (.cells true 1 [nI 0, nI 4] : KObj)) ∧ (someR (.cells true 1 [nI 4, nI 0] : KObj)) ∧ True) ∧ (∀ H' : Heap, H'.length = 21 → (H'[19]? = some (.cells true 1 [sL 17 2 2, sL 18 2 2] : KObj) ∧ H'[20]? = some (.cells true 1 [nI 0] : KObj) ∧ H'[17]? = some (.cells true 1 [nI 0, nI 4] : KObj) ∧ H'[18]? = some (.cells true 1 [nI 4, nI 0] : KObj) ∧ True) → /-N ⟨⟨rfl, rfl, rfl, rfl, trivial⟩, fun H' _ h => C39_900480289 [19, 20, 17, 18] ⟨⟨_, _, h.1⟩, ⟨_, _, h.2.1⟩, ⟨_, _, h.2.2.1⟩, ⟨_, _, h.2.2.2.1⟩, trivial⟩, REST⟩-/KCall prog 39 [.agg #[sL 19 2 2, sL 20 1 1], .agg #[nI 2, nI 12, nI 10]] H' [] (Is (.tuple #[nI 60, nI 0]) H')) ∧ (((someR (.cells true 1 [sL 22 2 2, sL 23 2 2] : KObj)) ∧ (someR (.cells true 1 [nI 0] : KObj)) ∧ (someR (.cells true 7 [nI 1, nI 0, nI 1, nI 1, nI 10, nI 1, nI 0, nI 2, nI 1, nI 0, nI 0, nI 5, nI 1, nI 0, nI 3, nI 2, nI 0, nI 0, nI 5, nI 3, nI 0] : KObj)) ∧ (someR (.cells true 1 [nI 0, nI 4] : KObj)) ∧ (someR (.cells true 1 [nI 4, nI 0] : KObj)) ∧ True) ∧ (∀ H' : Heap, H'.length = 27 → (H'[24]? = some (.cells true 1 [sL 22 2 2, sL 23 2 2] : KObj) ∧ H'[25]? = some (.cells true 1 [nI 0] : KObj) ∧ H'[26]? = some (.cells true 7 [nI 1, nI 0, nI 1, nI 1, nI 10, nI 1, nI 0, nI 2, nI 1, nI 0, nI 0, nI 5, nI 1, nI 0, nI 3, nI 2, nI 0, nI 0, nI 5, nI 3, nI 0] : KObj) ∧ H'[22]? = some (.cells true 1 [nI 0, nI 4] : KObj) ∧ H'[23]? = some (.cells true 1 [nI 4, nI 0] : KObj) ∧ True) → /-N ⟨⟨rfl, rfl, rfl, rfl, rfl, trivial⟩, fun H' hl h => (by have k := C18_721760684 (H := H') [24, 25, 26, 22, 23] ⟨⟨_, _, h.1⟩, ⟨_, _, h.2.1⟩, ⟨_, _, h.2.2.1⟩, ⟨_, _, h.2.2.2.1⟩, ⟨_, _, h.2.2.2.2.1⟩, trivial⟩; rw [hl] at k; exact k), REST⟩-/KCall prog 18 [.agg #[sL 24 2 2, sL 25 1 1], .agg #[nI 1, nI 0, nI 1, nI 1, nI 1], sL 26 3 3, nI 32] H' [] (Is (.tuple #[sL 27 14 14, nI 0]) (H' ++ [(.cells true 1 [.bool false, .bool false, .bool true, .bool true, .bool false, .bool false, .bool true, .bool false, .bool true, .bool false, .bool false, .bool true, .bool false, .bool true] : KObj)]))) ∧ (((someR (.cells true 1 [sL 30 2 2, sL 31 2 2] : KObj)) ∧ (someR (.cells true 1 [nI 0] : KObj)) ∧ (someR (.cells true 7 [nI 1, nI 0, nI 1, nI 1, nI 10, nI 1, nI 0, nI 2, nI 1, nI 0, nI 0, nI 5, nI 1, nI 0, nI 3, nI 2, nI 0, nI 0, nI 5, nI 3, nI 0] : KObj)) ∧ (someR (.cells true 1 [.bool false, .bool false, .bool true, .bool true, .bool false, .bool false, .bool true, .bool false, .bool true, .bool false, .bool false, .bool true, .bool false, .bool true] : KObj)) ∧ (someR (.cells true 1 [nI 0, nI 4] : KObj)) ∧ (someR (.cells true 1 [nI 4, nI 0] : KObj)) ∧ True) ∧ (∀ H' : Heap, H'.length = 35 → (H'[32]? = some (.cells true 1 [sL 30 2 2, sL 31 2 2] : KObj) ∧ H'[33]? = some (.cells true 1 [nI 0] : KObj) ∧ H'[34]? = some (.cells true 7 [nI 1, nI 0, nI 1, nI 1, nI 10, nI 1, nI 0, nI 2, nI 1, nI 0, nI 0, nI 5, nI 1, nI 0, nI 3, nI 2, nI 0, nI 0, nI 5, nI 3, nI 0] : KObj) ∧ H'[27]? = some (.cells true 1 [.bool false, .bool false, .bool true, .bool true, .bool false, .bool false, .bool true, .bool false, .bool true, .bool false, .bool false, .bool true, .bool false, .bool true] : KObj) ∧ H'[30]? = some (.cells true 1 [nI 0, nI 4] : KObj) ∧ H'[31]? = some (.cells true 1 [nI 4, nI 0] : KObj) ∧ True) → /-N ⟨⟨rfl, rfl, rfl, rfl, rfl, rfl, trivial⟩, fun H' _ h => C23_360876166 [32, 33, 34, 27, 30, 31] ⟨⟨_, _, h.1⟩, ⟨_, _, h.2.1⟩, ⟨_, _, h.2.2.1⟩, ⟨_, _, h.2.2.2.1⟩, ⟨_, _, h.2.2.2.2.1⟩, ⟨_, _, h.2.2.2.2.2.1⟩, trivial⟩, REST⟩-/KCall prog 23 [.agg #[sL 32 2 2, sL 33 1 1], .agg #[nI 1, nI 0, nI 1, nI 1, nI 1], sL 34 3 3, nI 32, sL 27 14 14] H' [] (Is (.tuple #[.bool true, nI 0]) H')) ∧ (.bool true : Value) = sp)))))
theorem E14_189317377 (sp : Value) : vF prog msk (dm 0) 100000 true 40 true 14 [] (readsT 0 []) (some [])
  (.go 20 (.ans [(4, .cells true 1 [sL 2 2 2, sL 3 2 2]), (5, .cells true 1 [nI 0]), (6, .cells true 7 [nI 1, nI 0, nI 1, nI 1, nI 10, nI 1, nI 0, nI 2, nI 1, nI 0, nI 0, nI 5, nI 1, nI 0, nI 3, nI 2, nI 0, nI 0, nI 5, nI 3, nI 0]), (2, .cells true 1 [nI 0, nI 4]), (3, .cells true 1 [nI 4, nI 0])] (.tuple #[sL 7 3 3, nI 0]) [.cells true 5 [nI 0, nI 0, nI 0, nI 4, nI 14, nI 2, nI 0, nI 14, nI 18, nI 23, nI 1, nI 0, nI 23, nI 23, nI 28]] (.go 49 (.ans [(11, .cells true 1 [sL 9 2 2, sL 10 2 2]), (12, .cells true 1 [nI 0]), (13, .cells true 7 [nI 1, nI 0, nI 1, nI 1, nI 10, nI 1, nI 0, nI 2, nI 1, nI 0, nI 0, nI 5, nI 1, nI 0, nI 3, nI 2, nI 0, nI 0, nI 5, nI 3, nI 0]), (9, .cells true 1 [nI 0, nI 4]), (10, .cells true 1 [nI 4, nI 0])] (.tuple #[sL 14 1 1, nI 32, nI 0]) [.cells true 1 [sL 15 3 3], .cells true 1 [nI 1, nI 0, nI 2]] (.go 15 (.ans [(19, .cells true 1 [sL 17 2 2, sL 18 2 2]), (20, .cells true 1 [nI 0]), (17, .cells true 1 [nI 0, nI 4]), (18, .cells true 1 [nI 4, nI 0])] (.tuple #[nI 60, nI 0]) [] (.go 20 (.ans [(24, .cells true 1 [sL 22 2 2, sL 23 2 2]), (25, .cells true 1 [nI 0]), (26, .cells true 7 [nI 1, nI 0, nI 1, nI 1, nI 10, nI 1, nI 0, nI 2, nI 1, nI 0, nI 0, nI 5, nI 1, nI 0, nI 3, nI 2, nI 0, nI 0, nI 5, nI 3, nI 0]), (22, .cells true 1 [nI 0, nI 4]), (23, .cells true 1 [nI 4, nI 0])] (.tuple #[sL 27 14 14, nI 0]) [.cells true 1 [.bool false, .bool false, .bool true, .bool true, .bool false, .bool false, .bool true, .bool false, .bool true, .bool false, .bool false, .bool true, .bool false, .bool true]] (.go 121 (.ans [(32, .cells true 1 [sL 30 2 2, sL 31 2 2]), (33, .cells true 1 [nI 0]), (34, .cells true 7 [nI 1, nI 0, nI 1, nI 1, nI 10, nI 1, nI 0, nI 2, nI 1, nI 0, nI 0, nI 5, nI 1, nI 0, nI 3, nI 2, nI 0, nI 0, nI 5, nI 3, nI 0]), (27, .cells true 1 [.bool false, .bool false, .bool true, .bool true, .bool false, .bool false, .bool true, .bool false, .bool true, .bool false, .bool false, .bool true, .bool false, .bool true]), (30, .cells true 1 [nI 0, nI 4]), (31, .cells true 1 [nI 4, nI 0])] (.tuple #[.bool true, nI 0]) [] (.auto)))))))))))
  (fun v _ _ => v = sp) = R14_189317377 sp := by kernel_rfl
theorem P14_189317377 : R14_189317377 (.bool true) := ⟨⟨rfl, rfl, rfl, rfl, rfl, trivial⟩, fun H' hl h => (by have k := C29_444784595 (H := H') [4, 5, 6, 2, 3] ⟨⟨_, _, h.1⟩, ⟨_, _, h.2.1⟩, ⟨_, _, h.2.2.1⟩, ⟨_, _, h.2.2.2.1⟩, ⟨_, _, h.2.2.2.2.1⟩, trivial⟩; rw [hl] at k; exact k), ⟨⟨rfl, rfl, rfl, rfl, rfl, trivial⟩, fun H' hl h => (by have k := C48_444784595 (H := H') [11, 12, 13, 9, 10] ⟨⟨_, _, h.1⟩, ⟨_, _, h.2.1⟩, ⟨_, _, h.2.2.1⟩, ⟨_, _, h.2.2.2.1⟩, ⟨_, _, h.2.2.2.2.1⟩, trivial⟩; rw [hl] at k; exact k), ⟨⟨rfl, rfl, rfl, rfl, trivial⟩, fun H' _ h => C39_900480289 [19, 20, 17, 18] ⟨⟨_, _, h.1⟩, ⟨_, _, h.2.1⟩, ⟨_, _, h.2.2.1⟩, ⟨_, _, h.2.2.2.1⟩, trivial⟩, ⟨⟨rfl, rfl, rfl, rfl, rfl, trivial⟩, fun H' hl h => (by have k := C18_721760684 (H := H') [24, 25, 26, 22, 23] ⟨⟨_, _, h.1⟩, ⟨_, _, h.2.1⟩, ⟨_, _, h.2.2.1⟩, ⟨_, _, h.2.2.2.1⟩, ⟨_, _, h.2.2.2.2.1⟩, trivial⟩; rw [hl] at k; exact k), ⟨⟨rfl, rfl, rfl, rfl, rfl, rfl, trivial⟩, fun H' _ h => C23_360876166 [32, 33, 34, 27, 30, 31] ⟨⟨_, _, h.1⟩, ⟨_, _, h.2.1⟩, ⟨_, _, h.2.2.1⟩, ⟨_, _, h.2.2.2.1⟩, ⟨_, _, h.2.2.2.2.1⟩, ⟨_, _, h.2.2.2.2.2.1⟩, trivial⟩, rfl⟩⟩⟩⟩⟩
theorem C14_189317377 {H : Heap} (ids : List Nat) (h : InsA H (sgR 0 ids) ids []) : KCall prog 14 (([] : List Value).map (rn (sgR 0 ids) 3)) H [] (Is (.bool true) H) :=
  valRA (css := []) (Eq.mpr (E14_189317377 _) P14_189317377) rfl ids h.len h.get
end
end Go.Proofs.YthdekmpkioikdaaGreat
/- Request: the examples of the chapter (awake). No condition. -/
namespace Go.Proofs.YthdekmpkioikdaaGreat
set_option linter.unusedSimpArgs false
set_option linter.unusedVariables false
open Go Go.K
noncomputable section
theorem kAwake (H : Heap) : KCall prog 14 [] H [] (Is (.bool true) H) := C14_189317377 [] trivial
end
end Go.Proofs.YthdekmpkioikdaaGreat
/- Request: RequestBounds. No condition. -/
namespace Go.Proofs.YthdekmpkioikdaaGreat
open Go Go.K
set_option maxRecDepth 100000
set_option linter.unusedVariables false
set_option linter.unusedSimpArgs false
noncomputable section
attribute [local irreducible] vF
theorem great_bd {f : Fleet} {l : List Rq} (h : great f l = false) : f.t.length ≤ 20 ∧ f.b.length ≤ 6 ∧ l.length ≤ 40 ∧ ∀ k, k < f.t.length → (f.t.getD k []).length ≤ 20 := by
  unfold great at h
  simp only [Bool.or_eq_false_iff, decide_eq_false_iff_not] at h
  obtain ⟨⟨⟨h1, h2⟩, h3⟩, h4⟩ := h
  refine ⟨by omega, by omega, by omega, fun k hk => ?_⟩
  have := any_no (d := []) h4 hk
  have := of_decide_eq_false this
  omega
theorem wk_fleet {f : Fleet} {i j : Nat} : wk (fleetV f i j 1) (fleetV f i j) := wk_aggL (wks_cons wk_QR (wks_cons wk_QR wks_nil))
theorem kBoundsLaw (f : Fleet) (l : List Rq) (q : Prem) {H : Heap} {i0 i1 i2 : Nat} {o0 o1 o2 : Bool} {z0 z1 z2 : Nat} (e0 : H[i0]? = some (.cells o0 z0 (inL f.t))) (e1 : H[i1]? = some (.cells o1 z1 (f.b.flatMap intC))) (e2 : H[i2]? = some (.cells o2 z2 (l.flatMap rqC))) :
    KCall prog 6 [fleetV f i0 i1, .slice (some ⟨i2, 0, some 2⟩) l.length l.length, .agg ⟨preC q⟩] H [] (Is (.bool true) H) := by
  refine valRx (Eq.mpr (EBoundsLaw _ f l q) ?_) ⟨inL_b 0 _, plainIL 0 _, plainRQ 0 _, trivial⟩ rfl (ids := [i0, i1, i2]) ⟨⟨_, _, e0⟩, ⟨_, _, e1⟩, ⟨_, _, e2⟩, trivial⟩ rfl
  unfold RBoundsLaw
  refine ⟨⟨rfl, rfl, rfl, trivial⟩, fun H' _ hd => kGreat f l hd.1 hd.2.1 hd.2.2.1, forkB (fun _ => ⟨trivial, fun H' _ _ => kAwake H', rfl⟩) (fun hg => ?_)⟩
  obtain ⟨g1, g2, g3, g4⟩ := great_bd hg
  have ht : f.t.length ≤ 4294967296 := by omega
  have hb : f.b.length ≤ 4294967296 := by omega
  have hl : l.length ≤ 4294967296 := by omega
  have hs : shortI f.t := fun k hk => by have := g4 k hk; omega
  refine ⟨⟨rfl, rfl, trivial⟩, fun H' hL hd => kFleet f ht hb hs hL hd.1 hd.2.1, ⟨rfl, trivial⟩, fun H' hL hd => kRequests l hl hL hd.1, ⟨rfl, rfl, rfl, trivial⟩, fun H' _ hd => KCall.wkA (kHold f l q ht hb hs hd.1 hd.2.1 hd.2.2.1) (wks_cons wk_fleet (wks_cons wk_QR (wks_cons (wk_refl _) wks_nil))),
    ⟨rfl, rfl, rfl, trivial⟩, fun H' _ hd => krHold f l q ht hb hs hd.1 hd.2.1 hd.2.2.1, forkF (by rw [beq_self_eq_true]; rfl) (forkF (bne_self_eq_false _) ?_)⟩
  have tail := fun (Q : Prop) (hQ : Q) => hQ
  have B1 : ∀ H' : Heap, H'.length = 9 → (H'[5]? = some (.cells true 1 (inL f.t)) ∧ H'[6]? = some (.cells true 1 (f.b.flatMap intC)) ∧ True) → KCall prog 39 [fleetV f 5 6 1, .agg ⟨preC q⟩] H' [] (Is (bV (fBound f q)) H') :=
    fun H' _ hd => KCall.wkA (kBound f q ht hb hs hd.1 hd.2.1) (wks_cons wk_fleet (wks_cons (wk_refl _) wks_nil))
  have B2 : ∀ H' : Heap, H'.length = 9 → (H'[0]? = some (.cells false 0 (inL f.t)) ∧ H'[1]? = some (.cells false 0 (f.b.flatMap intC)) ∧ True) → KCall prog 40 [fleetV f 0 1, .agg ⟨preC q⟩] H' [] (Is (bV (fBound f q)) H') :=
    fun H' _ hd => krBound f q ht hb hs hd.1 hd.2.1
  have B3 : ∀ H' : Heap, H'.length = 9 → (H'[5]? = some (.cells true 1 (inL f.t)) ∧ H'[6]? = some (.cells true 1 (f.b.flatMap intC)) ∧ H'[0]? = some (.cells false 0 (inL f.t)) ∧ H'[1]? = some (.cells false 0 (f.b.flatMap intC)) ∧ H'[7]? = some (.cells true 7 (l.flatMap rqC)) ∧ H'[2]? = some (.cells false 0 (l.flatMap rqC)) ∧ True) →
      KCall prog 25 [fleetV f 5 6 1, fleetV f 0 1, .slice (some ⟨7, 0, some 1⟩) l.length l.length, .slice (some ⟨2, 0, some 2⟩) l.length l.length] H' [] (Is (.bool true) H') :=
    fun H' _ hd => KCall.wkA (kKept f l ht hb hl hs hd.1 hd.2.1 hd.2.2.1 hd.2.2.2.1 hd.2.2.2.2.1 hd.2.2.2.2.2.1) (wks_cons wk_fleet (wks_cons (wk_refl _) (wks_cons wk_QR (wks_cons (wk_refl _) wks_nil))))
  have aw : ∀ H' : Heap, H'.length = 9 → True → KCall prog 14 [] H' [] (Is (.bool true) H') := fun H' _ _ => kAwake H'
  repeat' first | exact ⟨trivial, aw, rfl⟩ | refine ⟨⟨rfl, rfl, trivial⟩, B1, ⟨rfl, rfl, trivial⟩, B2, forkT (beq_self_eq_true _) (forkT (beq_self_eq_true _) ⟨⟨rfl, rfl, rfl, rfl, rfl, rfl, trivial⟩, B3, trivial, aw, rfl⟩), ?_⟩ | exact ⟨⟨rfl, rfl, trivial⟩, B1, ⟨rfl, rfl, trivial⟩, B2, forkT (beq_self_eq_true _) (forkT (beq_self_eq_true _) ⟨⟨rfl, rfl, rfl, rfl, rfl, rfl, trivial⟩, B3, trivial, aw, rfl⟩)⟩ | (refine forkD (fun h => ?_) (fun h => ?_)) | (refine ⟨vI64 (by have := mul_in (a := q.period) (b := q.service) (A := 200) (B := 200) (by omega) (by omega) (by omega) (by omega); omega), ?_⟩)
end
end Go.Proofs.YthdekmpkioikdaaGreat
/- Flat arguments among those whose lists are said by their values. No condition. -/
namespace Go.K
set_option linter.unusedSimpArgs false
open Go Go.ChangeShapes Go.WideShapes Go.ChangeAt Go.RowKit
set_option linter.unusedVariables false
variable {P : Program}
theorem flatI_goodD : ∀ (n : Nat) (t : TypeId) (k : Nat) (cs : List Value), flatI P n t = some k → GoodD P n t cs → ∃ ns : List Int, cs = ns.map (.int .i64) ∧ ns.length = k ∧ ∀ x ∈ ns, inI x := by
  intro n
  induction n with
  | zero => intro t k cs h; cases h
  | succ n ih =>
    intro t k cs h g
    unfold flatI at h
    unfold GoodD at g
    cases hu : P.underlying t with
    | none => rw [hu] at h; cases h
    | some d =>
      rw [hu] at h g
      cases d <;> try (cases h; done)
      · rename_i ik
        cases ik <;> try (cases h; done)
        cases h
        obtain ⟨x, rfl, h1, h2⟩ := g
        refine ⟨[x], rfl, rfl, fun y hy => ?_⟩
        rw [List.mem_singleton] at hy; subst hy
        simp only [IntKind.min, IntKind.max, IntKind.signed, IntKind.bits] at h1 h2
        unfold inI
        simp at h1 h2
        omega
      · rename_i fs
        simp only at h g
        have key : ∀ (fs : List Field) (k : Nat) (cs : List Value), fs.foldr (fun f r => match flatI P n f.type, r with | some a, some b => some (a + b) | _, _ => none) (some 0) = some k →
            GoodL (GoodD P n) (fs.map (·.type)) cs → ∃ ns : List Int, cs = ns.map (.int .i64) ∧ ns.length = k ∧ ∀ x ∈ ns, inI x := by
          intro fs
          induction fs with
          | nil => intro k cs h g; cases h; exact ⟨[], g, rfl, fun _ h => by cases h⟩
          | cons f fs ihf =>
            intro k cs h g
            rw [List.foldr_cons] at h
            obtain ⟨c, rest, rfl, g1, g2⟩ := g
            cases ha : flatI P n f.type with
            | none => rw [ha] at h; cases h
            | some a =>
              cases hb : fs.foldr (fun f r => match flatI P n f.type, r with | some a, some b => some (a + b) | _, _ => none) (some 0) with
              | none => rw [ha, hb] at h; cases h
              | some b =>
                rw [ha, hb] at h
                cases h
                obtain ⟨n1, rfl, l1, m1⟩ := ih _ _ _ ha g1
                obtain ⟨n2, rfl, l2, m2⟩ := ihf _ _ hb g2
                exact ⟨n1 ++ n2, by simp, by simp [l1, l2], fun x hx => by rcases List.mem_append.1 hx with h | h; exact m1 x h; exact m2 x h⟩
        exact key _ _ _ h g
theorem flatI_good2 {H : Heap} : ∀ (n : Nat) (t : TypeId) (k : Nat) (cs : List Value), flatI P n t = some k → Good2 P H n t cs → ∃ ns : List Int, cs = ns.map (.int .i64) ∧ ns.length = k ∧ ∀ x ∈ ns, inI x := by
  intro n
  induction n with
  | zero => intro t k cs h; cases h
  | succ n ih =>
    intro t k cs h g
    unfold flatI at h
    unfold Good2 at g
    cases hu : P.underlying t with
    | none => rw [hu] at h; cases h
    | some d =>
      rw [hu] at h g
      cases d <;> try (cases h; done)
      · rename_i ik
        cases ik <;> try (cases h; done)
        cases h
        obtain ⟨x, rfl, h1, h2⟩ := g
        refine ⟨[x], rfl, rfl, fun y hy => ?_⟩
        rw [List.mem_singleton] at hy; subst hy
        simp only [IntKind.min, IntKind.max, IntKind.signed, IntKind.bits] at h1 h2
        unfold inI
        simp at h1 h2
        omega
      · rename_i fs
        simp only at h g
        have key : ∀ (fs : List Field) (k : Nat) (cs : List Value), fs.foldr (fun f r => match flatI P n f.type, r with | some a, some b => some (a + b) | _, _ => none) (some 0) = some k →
            GoodL (Good2 P H n) (fs.map (·.type)) cs → ∃ ns : List Int, cs = ns.map (.int .i64) ∧ ns.length = k ∧ ∀ x ∈ ns, inI x := by
          intro fs
          induction fs with
          | nil => intro k cs h g; cases h; exact ⟨[], g, rfl, fun _ h => by cases h⟩
          | cons f fs ihf =>
            intro k cs h g
            rw [List.foldr_cons] at h
            obtain ⟨c, rest, rfl, g1, g2⟩ := g
            cases ha : flatI P n f.type with
            | none => rw [ha] at h; cases h
            | some a =>
              cases hb : fs.foldr (fun f r => match flatI P n f.type, r with | some a, some b => some (a + b) | _, _ => none) (some 0) with
              | none => rw [ha, hb] at h; cases h
              | some b =>
                rw [ha, hb] at h
                cases h
                obtain ⟨n1, rfl, l1, m1⟩ := ih _ _ _ ha g1
                obtain ⟨n2, rfl, l2, m2⟩ := ihf _ _ hb g2
                exact ⟨n1 ++ n2, by simp, by simp [l1, l2], fun x hx => by rcases List.mem_append.1 hx with h | h; exact m1 x h; exact m2 x h⟩
        exact key _ _ _ h g
end Go.K
/- How laws' arguments are read. No condition. -/
namespace Go.Proofs.YthdekmpkioikdaaGreat
set_option linter.unusedSimpArgs false
open Go Go.K Go.ChangeShapes Go.WideShapes Go.ChangeAt Go.RowKit
set_option maxRecDepth 100000
set_option linter.unusedVariables false
noncomputable section
theorem own : ownKnob Tryz.prog.godebug = none := by kernel_rfl
theorem sized : slicesSized Tryz.prog = true := by kernel_rfl
abbrev known (t : TypeId) : Prop := t < Tryz.prog.types.size
theorem kids : Kids Tryz.prog known := kids_rows (by kernel_rfl) (by kernel_rfl)
theorem goodA2_cons {H : Heap} {n : Nat} {t : TypeId} {ts : List TypeId} {vs : List Value} (h : GoodA2 Tryz.prog H n (t :: ts) vs) : ∃ v vs', vs = v :: vs' ∧ GoodV2 Tryz.prog H n t v ∧ GoodA2 Tryz.prog H n ts vs' := by
  cases vs with
  | nil => exact h.elim
  | cons v vs => exact ⟨v, vs, rfl, h.1, h.2⟩
theorem goodA2_nil {H : Heap} {n : Nat} {vs : List Value} (h : GoodA2 Tryz.prog H n [] vs) : vs = [] := by
  cases vs with
  | nil => rfl
  | cons v vs => exact h.elim
/-- A slice: less is said: read only. -/
theorem slice_read2 {α : Type} {f : α → List Value} {H : Heap} {n t e : Nat} {cs : List Value} (hu : Tryz.prog.underlying t = some (.slice e)) (hg : ∀ c, GoodD Tryz.prog n e c → ∃ x : α, c = f x ∧ True) (h : Good2 Tryz.prog H (n + 1) t cs) :
    ∃ (v : Value) (xs : List α), cs = [v] ∧ xs.length ≤ maxLen ∧ ∀ K : Heap, ∃ (gs : List KObj) (id : Nat) (own : Bool) (z : Nat), wk v (.slice (some ⟨id, 0, some 2⟩) xs.length xs.length) ∧ (H ++ K ++ gs)[id]? = some (.cells own z (xs.flatMap f)) := by
  unfold Good2 at h
  rw [hu] at h
  rcases h with h | h | ⟨id, len, cs', h1, h2, h3, h4, h5⟩
  · exact ⟨_, [], h, by simp [maxLen], fun K => ⟨[.cells false 0 []], (H ++ K).length, false, 0, wk_nil _ _ _ (.inr rfl), by rw [List.getElem?_append_right (Nat.le_refl _)]; simp⟩⟩
  · exact ⟨_, [], h, by simp [maxLen], fun K => ⟨[.cells false 0 []], (H ++ K).length, false, 0, wk_E _ _ _ (.inr rfl), by rw [List.getElem?_append_right (Nat.le_refl _)]; simp⟩⟩
  · obtain ⟨xs, rfl, rfl, _⟩ := goodL_list (f := f) (q := fun _ => True) hg len cs' h5
    refine ⟨_, xs, h1, h4, fun K => ⟨[], id, false, 0, wk_R, ?_⟩⟩
    rw [List.append_nil, List.getElem?_append_left (List.getElem?_eq_some_iff.1 h2).1]; exact h2
theorem goodV2_slice {α : Type} {f : α → List Value} {H : Heap} {t e : Nat} {v : Value} (hu : Tryz.prog.underlying t = some (.slice e)) (hg : ∀ c, GoodD Tryz.prog 5 e c → ∃ x : α, c = f x ∧ True) (h : GoodV2 Tryz.prog H 6 t v) :
    ∃ xs : List α, xs.length ≤ maxLen ∧ ∀ K : Heap, ∃ (gs : List KObj) (id : Nat) (own : Bool) (z : Nat), wk v (.slice (some ⟨id, 0, some 2⟩) xs.length xs.length) ∧ (H ++ K ++ gs)[id]? = some (.cells own z (xs.flatMap f)) := by
  unfold GoodV2 at h
  rw [hu] at h
  obtain ⟨v', xs, h1, h2, h3⟩ := slice_read2 hu hg h
  cases h1
  exact ⟨xs, h2, h3⟩
theorem goodD_flat {α : Type} {f : α → List Value} {n m t : Nat} (hf : flatI Tryz.prog m t = some n) (hα : ∀ ns : List Int, ns.length = n → ∃ x : α, ns.map (Value.int .i64) = f x) :
    ∀ c, GoodD Tryz.prog m t c → ∃ x : α, c = f x ∧ True := by
  intro c h
  obtain ⟨ns, rfl, h2, _⟩ := flatI_goodD m t n c hf h
  obtain ⟨x, hx⟩ := hα ns h2
  exact ⟨x, hx, trivial⟩
theorem int_of (ns : List Int) (h : ns.length = 1) : ∃ x : Int, ns.map (Value.int .i64) = intC x := by
  match ns, h with
  | [x], _ => exact ⟨x, rfl⟩
theorem rq_of (ns : List Int) (h : ns.length = 7) : ∃ r : Rq, ns.map (Value.int .i64) = rqC r := by
  match ns, h with
  | [a, b, c, d, e, f, g], _ => exact ⟨⟨a, b, c, d, e, f, g⟩, rfl⟩
theorem goodD_ints {n : Nat} {c : List Value} (hf : flatI Tryz.prog n 3 = some 1) (h : GoodD Tryz.prog (n + 1) 23 c) : ∃ l : List Int, c = [inV l] ∧ True := by
  unfold GoodD at h
  rw [show Tryz.prog.underlying 23 = some (.slice 3) by kernel_rfl] at h
  obtain ⟨len, ds, h1, h2, h3, h4⟩ := h
  obtain ⟨xs, e1, e2, _⟩ := goodL_list (f := intC) (q := fun _ => True) (goodD_flat hf int_of) len ds h4
  subst e1 e2
  exact ⟨xs, h1, trivial⟩
theorem inL_flat (ll : List (List Int)) : ll.flatMap (fun l => [inV l]) = inL ll := by
  induction ll with
  | nil => rfl
  | cons l ll ih => rw [List.flatMap_cons, ih]; rfl
/-- The places that are made where two arguments' lists are read. -/
theorem fleet_read2 {H : Heap} {v : Value} (h : GoodV2 Tryz.prog H 6 25 v) : ∃ f : Fleet, ∀ K : Heap, ∃ (gs : List KObj) (i j : Nat) (o o2 : Bool) (z z2 : Nat), wk v (fleetV f i j) ∧ (H ++ K ++ gs)[i]? = some (.cells o z (inL f.t)) ∧ (H ++ K ++ gs)[j]? = some (.cells o2 z2 (f.b.flatMap intC)) := by
  have hu : ∃ fs, Tryz.prog.underlying 25 = some (.struct fs) ∧ fs.toList.map (·.type) = [22, 23] := by
    have : (match Tryz.prog.underlying 25 with | some (.struct fs) => decide (fs.toList.map (·.type) = [22, 23]) | _ => false) = true := by kernel_rfl
    split at this
    · rename_i fs e; exact ⟨fs, e, of_decide_eq_true this⟩
    · cases this
  obtain ⟨fs, hu, ht⟩ := hu
  unfold GoodV2 at h
  rw [hu] at h
  obtain ⟨cs, rfl, h⟩ := h
  unfold Good2 at h
  rw [hu] at h
  simp only [ht] at h
  obtain ⟨c1, r1, rfl, h1, c2, r2, rfl, h2, h3⟩ := h
  obtain rfl : r2 = [] := h3
  obtain ⟨v1, xs, rfl, _, q1⟩ := slice_read2 (f := fun l => [inV l]) (n := 4) (e := 23) (by kernel_rfl) (fun c hc => goodD_ints (by kernel_rfl) hc) h1
  obtain ⟨v2, ys, rfl, _, q2⟩ := slice_read2 (f := intC) (n := 4) (e := 3) (by kernel_rfl) (goodD_flat (by kernel_rfl) int_of) h2
  refine ⟨⟨xs, ys⟩, fun K => ?_⟩
  obtain ⟨gs1, i, o, z, g1, g2⟩ := q1 K
  obtain ⟨gs2, j, o2, z2, g3, g4⟩ := q2 (K ++ gs1)
  rw [inL_flat] at g2
  refine ⟨gs1 ++ gs2, i, j, o, o2, z, z2, wk_aggL ⟨g1, g3, trivial⟩, ?_, ?_⟩
  · rw [← List.append_assoc, List.getElem?_append_left (List.getElem?_eq_some_iff.1 g2).1]; exact g2
  · rw [← List.append_assoc] at g4 ⊢; exact g4
theorem rqs_read2 {H : Heap} {v : Value} (h : GoodV2 Tryz.prog H 6 29 v) : ∃ l : List Rq, l.length ≤ maxLen ∧ ∀ K : Heap, ∃ (gs : List KObj) (id : Nat) (own : Bool) (z : Nat), wk v (.slice (some ⟨id, 0, some 2⟩) l.length l.length) ∧ (H ++ K ++ gs)[id]? = some (.cells own z (l.flatMap rqC)) :=
  goodV2_slice (e := 109) (f := rqC) (by kernel_rfl) (goodD_flat (by kernel_rfl) rq_of) h
theorem good2_flat {H : Heap} {t : TypeId} {v : Value} (n : Nat) (hu : (match Tryz.prog.underlying t with | some (.struct _) => true | _ => false) = true) (hf : flatI Tryz.prog 6 t = some n) (h : GoodV2 Tryz.prog H 6 t v) :
    ∃ ns : List Int, v = .agg ⟨ns.map (.int .i64)⟩ ∧ ns.length = n ∧ ∀ x ∈ ns, inI x := by
  unfold GoodV2 at h
  split at hu
  · rename_i fs e
    rw [e] at h
    obtain ⟨cs, rfl, h⟩ := h
    obtain ⟨ns, rfl, h2, h3⟩ := flatI_good2 6 t n cs hf h
    exact ⟨ns, rfl, h2, h3⟩
  · cases hu
theorem pre_read2 {H : Heap} {v : Value} (h : GoodV2 Tryz.prog H 6 80 v) : ∃ q : Prem, v = .agg ⟨preC q⟩ := by
  obtain ⟨ns, rfl, h2, _⟩ := good2_flat 3 (by kernel_rfl) (by kernel_rfl) h
  match ns, h2 with
  | [a, b, c], _ => exact ⟨⟨a, b, c⟩, rfl⟩
end
end Go.Proofs.YthdekmpkioikdaaGreat
