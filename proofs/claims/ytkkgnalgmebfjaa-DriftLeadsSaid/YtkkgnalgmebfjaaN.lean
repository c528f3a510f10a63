/- The seat's program and its functions by name. No condition. -/
import Derived.Test.YtkkgnalgmebfjaaChecked
import Derived.Test.YtkkgnalgmebfjaaGV10xV14
namespace Go.Proofs.Ytkkgnalgmebfjaa
set_option linter.unusedSimpArgs false
set_option linter.unusedVariables false
open Go Go.K
set_option maxRecDepth 100000
noncomputable section
@[reducible] noncomputable def prog : Program := Try.prog
namespace F
abbrev polynyalaw02_DriftLeads : Nat := 8
abbrev polynyalaw02_awake : Nat := 16
abbrev polynyalaw02_Basin : Nat := 18
abbrev drift_CheckBasin : Nat := 20
abbrev polynyaref02_CheckBasin : Nat := 21
abbrev polynyakit_SameInts : Nat := 30
abbrev polynyalaw02_kept : Nat := 31
abbrev polynyalaw01_Chart : Nat := 45
abbrev drift_Kinds : Nat := 46
abbrev polynyaref02_Kinds : Nat := 47
abbrev drift_Turns : Nat := 48
abbrev polynyaref02_Turns : Nat := 49
abbrev drift_Joined : Nat := 50
abbrev polynyaref02_Joined : Nat := 51
abbrev polynyalaw01_Same : Nat := 52
abbrev drift_sea_is : Nat := 62
abbrev drift_sea_target : Nat := 63
abbrev polynyaref02_isSea : Nat := 79
abbrev polynyakit_SameTruths : Nat := 82
abbrev drift_fits : Nat := 90
abbrev drift_sea_kinds : Nat := 93
abbrev polynyaref02_fits : Nat := 94
abbrev polynyaref02_Kind : Nat := 95
abbrev ice_CheckChart : Nat := 97
abbrev drift_sides : Nat := 98
abbrev polynyaref01_CheckChart : Nat := 99
abbrev polynyaref02_dry : Nat := 100
abbrev polynyaref02_over : Nat := 102
abbrev ice_CheckCell : Nat := 104
abbrev polynyaref02_sides : Nat := 131
abbrev ice_size : Nat := 132
abbrev ice_wrong_ice_Cell_ : Nat := 133
abbrev polynyaref01_sides : Nat := 134
abbrev polynyaref01_CheckCell : Nat := 135
abbrev polynyaref02_beside : Nat := 137
end F
theorem mixed : true = true → prog.follows .mixedOrders = true := fun _ => by kernel_rfl
abbrev msk : Nat := 748288838313422294120286634350736906063837462003708
theorem mskOk : MaskOk prog true msk := maskOk_of msk 169 (by decide) (by kernel_rfl)
theorem glob0 : prog.globals.size = 0 := by kernel_rfl
end
end Go.Proofs.Ytkkgnalgmebfjaa
