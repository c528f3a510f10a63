/- The seat's program and its functions by name. No condition. -/
import Derived.Test.YtkkgnalgmebfjaaChecked
import Derived.Test.YtkkgnalgmebfjaaGV10xV14
namespace Go.Proofs.Ytkkgnalgmebfjaa
set_option linter.unusedSimpArgs false
set_option linter.unusedVariables false
open Go Go.K
set_option maxRecDepth 100000
noncomputable section
@[reducible] noncomputable def prog : Program := Try.prog
namespace F
abbrev polynyalaw02_DriftFloes : Nat := 5
abbrev polynyalaw02_awake : Nat := 16
abbrev polynyalaw02_Basin : Nat := 18
abbrev polynyalaw02_Flows : Nat := 19
abbrev drift_CheckBasin : Nat := 20
abbrev polynyaref02_CheckBasin : Nat := 21
abbrev drift_CheckFlows : Nat := 22
abbrev polynyaref02_CheckFlows : Nat := 23
abbrev polynyaref02_Moves : Nat := 27
abbrev polynyakit_SameInts : Nat := 30
abbrev polynyalaw02_kept : Nat := 31
abbrev polynyalaw02_steps : Nat := 32
abbrev drift_Reach : Nat := 33
abbrev polynyaref02_Reach : Nat := 34
abbrev polynyalaw02_lists : Nat := 35
abbrev drift_Origin : Nat := 36
abbrev polynyaref02_Origin : Nat := 37
abbrev drift_Flow_ends : Nat := 58
abbrev drift_sea_is : Nat := 62
abbrev drift_sea_target : Nat := 63
abbrev drift_floor : Nat := 71
abbrev drift_Flow_moves : Nat := 76
abbrev drift_sea_targets : Nat := 78
abbrev polynyaref02_isSea : Nat := 79
abbrev polynyaref02_list : Nat := 80
abbrev polynyaref02_goes : Nat := 81
abbrev polynyakit_SameTruths : Nat := 82
abbrev drift_floe : Nat := 83
abbrev drift_numbers : Nat := 84
abbrev polynyaref02_floe : Nat := 85
abbrev slices_ContainsFunc___int_int_ : Nat := 86
abbrev slices_Contains___int_int_ : Nat := 88
abbrev drift_fits : Nat := 90
abbrev ice_CheckChart : Nat := 97
abbrev drift_sides : Nat := 98
abbrev ice_CheckCell : Nat := 104
abbrev polynyaref02_Target : Nat := 126
abbrev ice_size : Nat := 132
abbrev ice_wrong_ice_Cell_ : Nat := 133
end F
theorem mixed : true = true → prog.follows .mixedOrders = true := fun _ => by kernel_rfl
abbrev msk : Nat := 748288838313422294120286634350736906063837462003708
theorem mskOk : MaskOk prog true msk := maskOk_of msk 169 (by decide) (by kernel_rfl)
theorem glob0 : prog.globals.size = 0 := by kernel_rfl
end
end Go.Proofs.Ytkkgnalgmebfjaa
