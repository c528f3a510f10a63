/- The seat's program and its functions by name. No condition. -/
import Derived.Test.YthcjliffpebjaaaGreatChecked
import Derived.Test.YthcjliffpebjaaaGreatGV11xV14
open Go Go.K
set_option maxRecDepth 1000000
set_option linter.unusedVariables false
set_option linter.unusedSimpArgs false
namespace Go.Proofs.YthcjliffpebjaaaGreat
noncomputable section
@[reducible] noncomputable def prog:Program:=Tryz.prog
namespace F
abbrev gd:Nat:=7
abbrev bV:Nat:=9
abbrev ix:Nat:=27
abbrev jt:Nat:=29
abbrev l7:Nat:=31
abbrev uE:Nat:=33
abbrev xl:Nat:=35
abbrev l8:Nat:=49
abbrev ph:Nat:=51
abbrev kI:Nat:=58
abbrev uF:Nat:=60
abbrev uG:Nat:=62
abbrev vR:Nat:=64
abbrev ic:Nat:=66
abbrev kG:Nat:=67
abbrev ie:Nat:=68
abbrev jY:Nat:=73
abbrev jX:Nat:=74
abbrev jq:Nat:=80
abbrev l5:Nat:=84
abbrev l4:Nat:=85
abbrev m3:Nat:=104
abbrev jW:Nat:=106
abbrev gC:Nat:=112
abbrev iQ:Nat:=114
abbrev vP:Nat:=118
abbrev ij:Nat:=119
abbrev vQ:Nat:=124
abbrev dx:Nat:=125
abbrev fM:Nat:=128
abbrev l6:Nat:=131
abbrev pg:Nat:=135
abbrev jr:Nat:=138
abbrev sy:Nat:=149
abbrev mS:Nat:=150
abbrev ii:Nat:=155
end F
theorem mixed:true=true->prog.follows .mixedOrders=true:=fun _=>by kernel_rfl
abbrev msk:Nat:=50216813883093446110686315385661331328818843555712276103164
theorem nu:eA prog true msk:=uo msk 195 (by decide) (by kernel_rfl)
theorem dQ:prog.globals.size=0:=by kernel_rfl
end
end Go.Proofs.YthcjliffpebjaaaGreat
