/- Ice: the examples of the chapter (awake), run by the kernel. No condition. -/
import Derived.Test.YthcjliffpebjaaaGreatGS0xP1a
namespace Go.Proofs.YthcjliffpebjaaaGreat
set_option linter.unusedSimpArgs false
set_option linter.unusedVariables false
open Go Go.K
set_option maxRecDepth 100000
noncomputable section
attribute [local irreducible] vF
/-- Functions that may write what is not theirs. -/
abbrev impI : Nat := 2^21 + 2^24 + 2^87 + 2^140 + 2^158 + 2^176 + 2^177 + 2^178 + 2^179 + 2^180 + 2^181 + 2^182 + 2^183 + 2^190 + 2^187 + 2^173 + 2^138 + 2^85 + 2^18
def isTrueV (v : Value) : Prop := match v with | .bool true => True | _ => False
theorem awakeRun : vF prog msk (dm impI) 100000 true 40 true F.polynyalaw01_awake [] ⟨0, .leaf⟩ none .auto (fun v _ _ => isTrueV v) = True := by kernel_rfl
end
end Go.Proofs.YthcjliffpebjaaaGreat
