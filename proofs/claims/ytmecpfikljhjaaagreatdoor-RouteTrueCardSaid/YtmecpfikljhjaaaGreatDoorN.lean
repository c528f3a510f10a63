/- The seat's program and its functions by name. No condition. -/
import Derived.Test.YtmecpfikljhjaaaGreatDoorChecked
import Derived.Test.YtmecpfikljhjaaaGreatDoorV14
open Go Go.K
set_option maxRecDepth 1000000
set_option linter.unusedVariables false
set_option linter.unusedSimpArgs false
namespace Go.Proofs.YtmecpfikljhjaaaGreatDoor
noncomputable section
@[reducible] noncomputable def prog:Program:=Tryz.prog
namespace F
end F
theorem mixed:true=true->prog.follows .mixedOrders=true:=fun _=>by kernel_rfl
abbrev msk:Nat:=231584620186398585443224365841751001436168926202255346983654698417376582434812
theorem mY:fp prog true msk:=yE msk 258 (Nat.le_of_ble_eq_true (by kernel_rfl)) (by kernel_rfl)
theorem kD:prog.globals.size=1:=by kernel_rfl
end
end Go.Proofs.YtmecpfikljhjaaaGreatDoor
