/- Ice: the examples of the chapter (awake), run by the kernel. No condition. -/
import Derived.Test.YthcjliffpebjaaaGreatGX0xS4a
open Go Go.K
set_option maxRecDepth 1000000
set_option linter.unusedVariables false
set_option linter.unusedSimpArgs false
namespace Go.Proofs.YthcjliffpebjaaaGreat
noncomputable section
attribute [local irreducible] vF
abbrev MF:Nat:=2^21+2^24+2^87+2^140+2^158+2^176+2^177+2^178+2^179+2^180+2^181+2^182+2^183+2^190+2^187+2^173+2^138+2^85+2^18
def xW(v:Value):Prop:=match v with| .bool true=>True|_=>False
theorem Ip:vF prog msk (dm MF) 100000 true 40 true F.cC [] ⟨0,.leaf⟩ none .auto (fun v _ _=>xW v)=True:=by kernel_rfl
end
end Go.Proofs.YthcjliffpebjaaaGreat
