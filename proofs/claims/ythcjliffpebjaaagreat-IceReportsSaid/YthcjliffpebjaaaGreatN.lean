/- The seat's program and its functions by name. No condition. -/
import Derived.Test.YthcjliffpebjaaaGreatChecked
import Derived.Test.YthcjliffpebjaaaGreatGK24xV14
namespace Go.Proofs.YthcjliffpebjaaaGreat
set_option linter.unusedSimpArgs false
set_option linter.unusedVariables false
open Go Go.K
set_option maxRecDepth 100000
noncomputable section
@[reducible] noncomputable def prog : Program := Tryz.prog
namespace F
abbrev polynyalaw01_IceReports : Nat := 3
abbrev polynyalaw01_awake : Nat := 9
abbrev polynyalaw01_Reports : Nat := 10
abbrev ice_Tells : Nat := 11
abbrev polynyaref01_Tells : Nat := 13
abbrev ice_Fuse : Nat := 14
abbrev polynyaref01_Fuse : Nat := 15
abbrev ice_Conflicts : Nat := 16
abbrev polynyaref01_Conflicts : Nat := 17
abbrev ice_Trust : Nat := 18
abbrev polynyaref01_Trust : Nat := 19
abbrev polynyakit_SameTruths : Nat := 20
abbrev ice_Blame : Nat := 21
abbrev polynyaref01_Blame : Nat := 22
abbrev polynyakit_SameInts : Nat := 23
abbrev ice_Guilt : Nat := 24
abbrev polynyaref01_Guilt : Nat := 25
abbrev polynyalaw01_kept : Nat := 26
abbrev ice_CheckRates : Nat := 31
abbrev polynyaref01_CheckRates : Nat := 32
abbrev ice_ask : Nat := 72
abbrev ice_Report_check : Nat := 73
abbrev ice_Report_tells : Nat := 74
abbrev polynyaref01_asked : Nat := 76
abbrev polynyaref01_CheckReport : Nat := 77
abbrev polynyaref01_said : Nat := 78
abbrev ice_open : Nat := 79
abbrev ice_work_together : Nat := 80
abbrev polynyaref01_listed : Nat := 81
abbrev polynyaref01_pairs : Nat := 82
abbrev polynyaref01_Common : Nat := 83
abbrev ice_spans_meet : Nat := 84
abbrev ice_work_trust : Nat := 85
abbrev polynyaref01_trusted : Nat := 86
abbrev ice_work_blamed : Nat := 87
abbrev polynyaref01_blamed : Nat := 88
abbrev polynyaref01_Apart : Nat := 109
abbrev ice_spans_aged : Nat := 112
abbrev polynyaref01_Older : Nat := 113
abbrev polynyaref01_change : Nat := 117
abbrev ice_size : Nat := 118
abbrev ice_Report_has : Nat := 131
abbrev ice_work_bit : Nat := 135
abbrev ice_work_agreeing : Nat := 138
abbrev polynyaref01_greatest : Nat := 139
abbrev polynyaref01_before : Nat := 142
abbrev ice_change : Nat := 149
abbrev math_bits_OnesCount : Nat := 155
abbrev polynyaref01_lists : Nat := 156
abbrev polynyaref01_count : Nat := 157
end F
theorem mixed : true = true → prog.follows .mixedOrders = true := fun _ => by kernel_rfl
abbrev msk : Nat := 50216813883093446110686315385661331328818843555712276103164
theorem mskOk : MaskOk prog true msk := maskOk_of msk 195 (by decide) (by kernel_rfl)
theorem glob0 : prog.globals.size = 0 := by kernel_rfl
end
end Go.Proofs.YthcjliffpebjaaaGreat
