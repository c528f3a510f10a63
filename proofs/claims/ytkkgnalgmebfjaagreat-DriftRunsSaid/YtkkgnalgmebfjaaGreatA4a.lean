/- Drift: the examples of the chapter (awake), run by the kernel. No condition. -/
import Derived.Test.YtkkgnalgmebfjaaGreatGK27xD3g
open Go Go.K
set_option maxRecDepth 1000000
set_option linter.unusedVariables false
set_option linter.unusedSimpArgs false
namespace Go.Proofs.YtkkgnalgmebfjaaGreat
noncomputable section
attribute [local irreducible] vF
abbrev Bn:Nat:=2^104+2^76+2^44+2^85+2^12+2^113+2^154+2^162+2^181+2^187+2^188+2^189+2^190+2^191+2^192+2^194+2^195+2^203+2^205+2^206+2^207+2^209
def qn(v:Value):Prop:=match v with| .bool true=>True|_=>False
theorem yB:vF prog msk (dm Bn) 100000 true 40 true F.cr [] ⟨0,.leaf⟩ none .auto (fun v _ _=>qn v)=True:=by kernel_rfl
end
end Go.Proofs.YtkkgnalgmebfjaaGreat
