/- Ice: the examples of the chapter (awake), run by the kernel. No condition. -/
import Derived.Test.YthcjliffpebjaaaGS0xS7g
namespace Go.Proofs.Ythcjliffpebjaaa
set_option linter.unusedSimpArgs false
set_option linter.unusedVariables false
open Go Go.K
set_option maxRecDepth 100000
noncomputable section
attribute [local irreducible] vF
/-- Functions that may write what is not theirs. -/
abbrev impI : Nat := 2^12 + 2^16 + 2^37 + 2^65 + 2^85 + 2^91 + 2^92 + 2^93 + 2^94 + 2^95 + 2^96 + 2^97 + 2^98 + 2^102 + 2^104 + 2^88 + 2^63 + 2^39 + 2^14
def isTrueV (v : Value) : Prop := match v with | .bool true => True | _ => False
theorem awakeRun : vF prog msk (dm impI) 100000 true 40 true F.polynyalaw01_awake [] ⟨0, .leaf⟩ none .auto (fun v _ _ => isTrueV v) = True := by kernel_rfl
end
end Go.Proofs.Ythcjliffpebjaaa
