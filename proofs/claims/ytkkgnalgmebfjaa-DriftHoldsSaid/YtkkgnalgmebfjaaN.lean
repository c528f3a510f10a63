/- The seat's program and its functions by name. No condition. -/
import Derived.Test.YtkkgnalgmebfjaaChecked
import Derived.Test.YtkkgnalgmebfjaaGV10xV14
namespace Go.Proofs.Ytkkgnalgmebfjaa
set_option linter.unusedSimpArgs false
set_option linter.unusedVariables false
open Go Go.K
set_option maxRecDepth 100000
noncomputable section
@[reducible] noncomputable def prog : Program := Try.prog
namespace F
abbrev polynyalaw02_DriftHolds : Nat := 10
abbrev polynyalaw02_Waters : Nat := 11
abbrev polynyalaw02_Field : Nat := 12
abbrev polynyalaw02_Currents : Nat := 13
abbrev polynyalaw02_Moving : Nat := 14
abbrev drift_Drift : Nat := 15
abbrev polynyalaw02_awake : Nat := 16
abbrev drift_CheckBasin : Nat := 20
abbrev drift_CheckFlows : Nat := 22
abbrev drift_Moves : Nat := 26
abbrev polynyakit_Pick : Nat := 38
abbrev polynyalaw02_Digits_Next : Nat := 40
abbrev polynyalaw02_Holding : Nat := 41
abbrev drift_Step : Nat := 42
abbrev ice_Age : Nat := 53
abbrev drift_Run : Nat := 55
abbrev ice_Holds : Nat := 56
abbrev drift_Flow_ends : Nat := 58
abbrev ice_CheckIce : Nat := 59
abbrev drift_in : Nat := 60
abbrev drift_sea_is : Nat := 62
abbrev drift_sea_target : Nat := 63
abbrev drift_floor : Nat := 71
abbrev drift_Flow_moves : Nat := 76
abbrev drift_sea_targets : Nat := 78
abbrev drift_fits : Nat := 90
abbrev drift_sea_step : Nat := 91
abbrev ice_CheckChart : Nat := 97
abbrev drift_sides : Nat := 98
abbrev ice_CheckCell : Nat := 104
abbrev ice_CheckRates : Nat := 105
abbrev ice_wrong_ice_Ice_ : Nat := 113
abbrev ice_spans_has : Nat := 114
abbrev drift_least : Nat := 129
abbrev drift_greatest : Nat := 130
abbrev ice_size : Nat := 132
abbrev ice_wrong_ice_Cell_ : Nat := 133
abbrev ice_change : Nat := 143
end F
theorem mixed : true = true → prog.follows .mixedOrders = true := fun _ => by kernel_rfl
abbrev msk : Nat := 748288838313422294120286634350736906063837462003708
theorem mskOk : MaskOk prog true msk := maskOk_of msk 169 (by decide) (by kernel_rfl)
theorem glob0 : prog.globals.size = 0 := by kernel_rfl
end
end Go.Proofs.Ytkkgnalgmebfjaa
