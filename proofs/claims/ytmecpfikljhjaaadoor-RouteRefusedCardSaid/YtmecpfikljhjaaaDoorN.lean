/- The seat's program and its functions by name. No condition. -/
import Derived.Test.YtmecpfikljhjaaaDoorChecked
import Derived.Test.YtmecpfikljhjaaaDoorV14
open Go Go.K
set_option maxRecDepth 1000000
set_option linter.unusedVariables false
set_option linter.unusedSimpArgs false
namespace Go.Proofs.YtmecpfikljhjaaaDoor
noncomputable section
@[reducible] noncomputable def prog:Program:=Tryd.prog
namespace F
end F
theorem mixed:true=true->prog.follows .mixedOrders=true:=fun _=>by kernel_rfl
abbrev msk:Nat:=5575188958088647355215675375776210937184252
theorem nb:ff prog true msk:=yF msk 143 (Nat.le_of_ble_eq_true (by kernel_rfl)) (by kernel_rfl)
theorem kA:prog.globals.size=1:=by kernel_rfl
end
end Go.Proofs.YtmecpfikljhjaaaDoor
