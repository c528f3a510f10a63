/- The seat's program and its functions by name. No condition. -/
import Derived.Test.YtbgfjemppjhmjaaGreatChecked
import Derived.Test.YtbgfjemppjhmjaaGreatGK24xV14
open Go Go.K
set_option maxRecDepth 1000000
set_option linter.unusedVariables false
set_option linter.unusedSimpArgs false
namespace Go.Proofs.YtbgfjemppjhmjaaGreat
noncomputable section
@[reducible] noncomputable def prog:Program:=Tryz.prog
namespace F
end F
theorem mixed:true=true->prog.follows .mixedOrders=true:=fun _=>by kernel_rfl
abbrev msk:Nat:=248661618204893321077691124073410420050136731546340677287844258144534980817538191982588
theorem iw:gy prog true msk:=AU msk 287 (Nat.le_of_ble_eq_true (by kernel_rfl)) (by kernel_rfl)
theorem dx:prog.globals.size=0:=by kernel_rfl
end
end Go.Proofs.YtbgfjemppjhmjaaGreat
