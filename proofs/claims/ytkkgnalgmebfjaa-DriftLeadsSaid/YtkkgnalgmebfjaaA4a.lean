/- Drift: the examples of the chapter (awake), run by the kernel. No condition. -/
import Derived.Test.YtkkgnalgmebfjaaGK27xE1a
namespace Go.Proofs.Ytkkgnalgmebfjaa
set_option linter.unusedSimpArgs false
set_option linter.unusedVariables false
open Go Go.K
set_option maxRecDepth 100000
noncomputable section
attribute [local irreducible] vF
/-- Functions that may write what is not theirs. -/
abbrev impI : Nat := 2^78 + 2^28 + 2^33 + 2^36 + 2^15 + 2^121 + 2^124 + 2^125 + 2^146 + 2^150 + 2^151 + 2^152 + 2^153 + 2^154 + 2^155 + 2^157 + 2^158 + 2^162 + 2^164 + 2^165 + 2^166 + 2^168
def isTrueV (v : Value) : Prop := match v with | .bool true => True | _ => False
theorem awakeRun : vF prog msk (dm impI) 100000 true 40 true F.polynyalaw02_awake [] ⟨0, .leaf⟩ none .auto (fun v _ _ => isTrueV v) = True := by kernel_rfl
end
end Go.Proofs.Ytkkgnalgmebfjaa
