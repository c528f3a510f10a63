/- The seat's program and its functions by name. No condition. -/
import Derived.Test.YthcjliffpebjaaaGK24xV14
import Derived.Test.YthcjliffpebjaaaChecked
namespace Go.Proofs.Ythcjliffpebjaaa
set_option linter.unusedSimpArgs false
set_option linter.unusedVariables false
open Go Go.K
set_option maxRecDepth 100000
noncomputable section
@[reducible] noncomputable def prog : Program := Try.prog
namespace F
abbrev main_main : Nat := 0
abbrev gosem_cut : Nat := 1
abbrev gosem_cut_init : Nat := 2
abbrev polynyalaw01_IceBlames : Nat := 3
abbrev polynyalaw01_IceGuilt : Nat := 4
abbrev polynyalaw01_IceAges : Nat := 5
abbrev polynyalaw01_IceHolds : Nat := 6
abbrev polynyalaw01_IceLattice : Nat := 7
abbrev polynyalaw01_awake : Nat := 8
abbrev polynyalaw01_Rates : Nat := 9
abbrev polynyalaw01_Right : Nat := 10
abbrev ice_CheckRates : Nat := 11
abbrev ice_Blame : Nat := 12
abbrev ice_Conflicts : Nat := 13
abbrev ice_Trust : Nat := 14
abbrev ice_Fuse : Nat := 15
abbrev ice_Guilt : Nat := 16
abbrev polynyakit_Pick : Nat := 17
abbrev ice_Hull : Nat := 18
abbrev ice_Age : Nat := 19
abbrev ice_Inside : Nat := 20
abbrev polynyalaw01_Course : Nat := 21
abbrev polynyalaw01_ranged : Nat := 22
abbrev ice_Allowed : Nat := 23
abbrev polynyalaw01_around : Nat := 24
abbrev ice_Has : Nat := 25
abbrev ice_Meet : Nat := 26
abbrev polynyalaw01_three : Nat := 27
abbrev ice_Whole : Nat := 28
abbrev polynyakit_SameTruths : Nat := 29
abbrev polynyakit_SameInts : Nat := 30
abbrev polynyalaw01_Right_1 : Nat := 31
abbrev ice_Ice_numbers : Nat := 32
abbrev ice_all : Nat := 33
abbrev ice_CheckRates_1 : Nat := 34
abbrev ice_in : Nat := 35
abbrev ice_open : Nat := 36
abbrev ice_work_blamed : Nat := 37
abbrev ice_spans_meet : Nat := 38
abbrev ice_work_trust : Nat := 39
abbrev ice_spans_cell : Nat := 40
abbrev ice_work_together : Nat := 41
abbrev slices_Contains___int_int_ : Nat := 42
abbrev ice_first : Nat := 43
abbrev ice_CheckCell : Nat := 44
abbrev ice_Cell_spans : Nat := 45
abbrev ice_spans_hull : Nat := 46
abbrev ice_spans_aged : Nat := 47
abbrev ice_spans_inside : Nat := 48
abbrev polynyalaw01_moved : Nat := 49
abbrev ice_wrong_ice_Ice_ : Nat := 50
abbrev ice_CheckIce : Nat := 51
abbrev ice_each : Nat := 52
abbrev ice_Allowed_1 : Nat := 53
abbrev ice_spans_has : Nat := 54
abbrev polynyalaw01_around_1 : Nat := 55
abbrev ice_whole : Nat := 56
abbrev ice_most : Nat := 57
abbrev ice_ask : Nat := 58
abbrev ice_Report_check : Nat := 59
abbrev slices_ContainsFunc___ice_Report_ice_Report_ : Nat := 60
abbrev ice_open_1 : Nat := 61
abbrev ice_Report_tells : Nat := 62
abbrev ice_work_agreeing : Nat := 63
abbrev ice_work_bit : Nat := 64
abbrev slices_SortFunc_____int___int_ : Nat := 65
abbrev slices_Compare___int_int_ : Nat := 66
abbrev ice_spans_meet_1 : Nat := 67
abbrev ice_spans_meet_2 : Nat := 68
abbrev slices_Index___int_int_ : Nat := 69
abbrev ice_CheckCell_1 : Nat := 70
abbrev ice_right : Nat := 71
abbrev ice_spans_hull_1 : Nat := 72
abbrev ice_spans_aged_1 : Nat := 73
abbrev ice_change : Nat := 74
abbrev ice_spans_inside_1 : Nat := 75
abbrev ice_CheckIce_1 : Nat := 76
abbrev ice_spans_has_1 : Nat := 77
abbrev ice_whole_1 : Nat := 78
abbrev ice_Report_check_1 : Nat := 79
abbrev ice_Report_has : Nat := 80
abbrev slices_IndexFunc___ice_Report_ice_Report_ : Nat := 81
abbrev ice_Report_tells_1 : Nat := 82
abbrev ice_work_sets : Nat := 83
abbrev math_bits_OnesCount : Nat := 84
abbrev slices_pdqsortCmpFunc___int_ : Nat := 85
abbrev math_bits_Len : Nat := 86
abbrev cmp_Compare_int_ : Nat := 87
abbrev ice_work_sets_1 : Nat := 88
abbrev math_bits_OnesCount32 : Nat := 89
abbrev math_bits_OnesCount64 : Nat := 90
abbrev slices_insertionSortCmpFunc___int_ : Nat := 91
abbrev slices_heapSortCmpFunc___int_ : Nat := 92
abbrev slices_breakPatternsCmpFunc___int_ : Nat := 93
abbrev slices_choosePivotCmpFunc___int_ : Nat := 94
abbrev slices_reverseRangeCmpFunc___int_ : Nat := 95
abbrev slices_partialInsertionSortCmpFunc___int_ : Nat := 96
abbrev slices_partitionEqualCmpFunc___int_ : Nat := 97
abbrev slices_partitionCmpFunc___int_ : Nat := 98
abbrev math_bits_Len32 : Nat := 99
abbrev math_bits_Len64 : Nat := 100
abbrev cmp_isNaN_int_ : Nat := 101
abbrev slices_siftDownCmpFunc___int_ : Nat := 102
abbrev slices_nextPowerOfTwo : Nat := 103
abbrev slices_xorshift_Next : Nat := 104
abbrev slices_medianAdjacentCmpFunc___int_ : Nat := 105
abbrev slices_medianCmpFunc___int_ : Nat := 106
abbrev slices_order2CmpFunc___int_ : Nat := 107
abbrev runtime_boundsError_Error : Nat := 108
abbrev runtime_boundsError_RuntimeError : Nat := 109
abbrev runtime_errorString_Error : Nat := 110
abbrev runtime_errorString_RuntimeError : Nat := 111
abbrev runtime_plainError_Error : Nat := 112
abbrev runtime_plainError_RuntimeError : Nat := 113
abbrev runtime_errorAddressString_Error : Nat := 114
abbrev runtime_errorAddressString_RuntimeError : Nat := 115
abbrev runtime_TypeAssertionError_Error : Nat := 116
abbrev runtime_TypeAssertionError_RuntimeError : Nat := 117
abbrev runtime_PanicNilError_Error : Nat := 118
abbrev runtime_PanicNilError_RuntimeError : Nat := 119
abbrev internal_abi_Type_Align : Nat := 120
abbrev internal_runtime_maps_unhashableTypeError_Error : Nat := 121
abbrev internal_runtime_maps_unhashableTypeError_RuntimeError : Nat := 122
abbrev internal_abi_Kind_String : Nat := 123
end F
theorem mixed : true = true → prog.follows .mixedOrders = true := fun _ => by kernel_rfl
abbrev msk : Nat := 324518553658426726783156020576252
theorem mskOk : MaskOk prog true msk := maskOk_of msk 108 (by decide) (by kernel_rfl)
theorem glob0 : prog.globals.size = 0 := by kernel_rfl
end
end Go.Proofs.Ythcjliffpebjaaa
