/- The seat's program and its functions by name. No condition. -/
import Derived.Test.YthcjliffpebjaaaGreatChecked
import Derived.Test.YthcjliffpebjaaaGreatGV11xV14
open Go Go.K
set_option maxRecDepth 1000000
set_option linter.unusedVariables false
set_option linter.unusedSimpArgs false
namespace Go.Proofs.YthcjliffpebjaaaGreat
noncomputable section
@[reducible] noncomputable def prog:Program:=Tryz.prog
namespace F
abbrev gq:Nat:=6
abbrev b6:Nat:=9
abbrev gH:Nat:=10
abbrev ip:Nat:=23
abbrev jn:Nat:=26
abbrev mr:Nat:=31
abbrev fC:Nat:=32
abbrev uI:Nat:=33
abbrev iM:Nat:=34
abbrev jo:Nat:=53
abbrev uJ:Nat:=62
abbrev iN:Nat:=63
abbrev wg:Nat:=64
abbrev jm:Nat:=65
abbrev km:Nat:=73
abbrev kl:Nat:=74
abbrev fl:Nat:=77
abbrev jl:Nat:=78
abbrev jD:Nat:=80
abbrev iK:Nat:=82
abbrev io:Nat:=83
abbrev mo:Nat:=84
abbrev mn:Nat:=85
abbrev gG:Nat:=86
abbrev iO:Nat:=109
abbrev gO:Nat:=112
abbrev eR:Nat:=113
abbrev im:Nat:=117
abbrev we:Nat:=118
abbrev iJ:Nat:=120
abbrev dr:Nat:=125
abbrev fP:Nat:=128
abbrev mq:Nat:=131
abbrev pi:Nat:=135
abbrev jE:Nat:=138
abbrev gn:Nat:=139
abbrev sB:Nat:=149
abbrev mY:Nat:=150
abbrev iu:Nat:=155
abbrev cP:Nat:=156
abbrev iL:Nat:=157
end F
theorem mixed:true=true->prog.follows .mixedOrders=true:=fun _=>by kernel_rfl
abbrev msk:Nat:=50216813883093446110686315385661331328818843555712276103164
theorem ny:eB prog true msk:=uv msk 195 (by decide) (by kernel_rfl)
theorem dS:prog.globals.size=0:=by kernel_rfl
end
end Go.Proofs.YthcjliffpebjaaaGreat
