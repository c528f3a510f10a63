/- The seat's program and its functions by name. No condition. -/
import Derived.Test.YthdekmpkioikdaaGreatChecked
import Derived.Test.YthdekmpkioikdaaGreatGV10xV14
namespace Go.Proofs.YthdekmpkioikdaaGreat
set_option linter.unusedSimpArgs false
set_option linter.unusedVariables false
open Go Go.K
set_option maxRecDepth 100000
noncomputable section
@[reducible] noncomputable def prog : Program := Tryz.prog
namespace F
end F
theorem mixed : true = true -> prog.follows .mixedOrders = true := fun _ => by kernel_rfl
abbrev msk : Nat := 1569275433846670190958947355801916604025588861116008628220
theorem mskOk : MaskOk prog true msk := maskOk_of msk 190 (by decide) (by kernel_rfl)
theorem glob0 : prog.globals.size = 0 := by kernel_rfl
end
end Go.Proofs.YthdekmpkioikdaaGreat
