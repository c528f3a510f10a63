/- The seat's program and its functions by name. No condition. -/
import Derived.Test.YtkkgnalgmebfjaaGreatChecked
import Derived.Test.YtkkgnalgmebfjaaGreatGV13xV14
open Go Go.K
set_option maxRecDepth 1000000
set_option linter.unusedVariables false
set_option linter.unusedSimpArgs false
namespace Go.Proofs.YtkkgnalgmebfjaaGreat
noncomputable section
@[reducible] noncomputable def prog:Program:=Tryz.prog
namespace F
abbrev gV:Nat:=4
abbrev cr:Nat:=8
abbrev jH:Nat:=9
abbrev fI:Nat:=10
abbrev fJ:Nat:=11
abbrev nS:Nat:=17
abbrev fY:Nat:=19
abbrev v7:Nat:=22
abbrev kh:Nat:=23
abbrev jG:Nat:=24
abbrev kV:Nat:=27
abbrev lm:Nat:=46
abbrev l9:Nat:=47
abbrev lj:Nat:=52
abbrev ep:Nat:=53
abbrev fD:Nat:=55
abbrev jl:Nat:=56
abbrev kg:Nat:=57
abbrev tL:Nat:=58
abbrev nQ:Nat:=59
abbrev fX:Nat:=60
abbrev fF:Nat:=61
abbrev lq:Nat:=62
abbrev sn:Nat:=63
abbrev cS:Nat:=64
abbrev gF:Nat:=65
abbrev jE:Nat:=66
abbrev iv:Nat:=69
abbrev nB:Nat:=71
abbrev zK:Nat:=72
abbrev gG:Nat:=73
abbrev fG:Nat:=74
abbrev nC:Nat:=92
abbrev lk:Nat:=98
abbrev sr:Nat:=102
abbrev gb:Nat:=104
abbrev sq:Nat:=119
abbrev nR:Nat:=120
abbrev kU:Nat:=121
abbrev kd:Nat:=122
abbrev kf:Nat:=123
abbrev ke:Nat:=124
abbrev kT:Nat:=125
abbrev gH:Nat:=126
abbrev jy:Nat:=131
abbrev jm:Nat:=134
abbrev xF:Nat:=158
abbrev jp:Nat:=159
abbrev jF:Nat:=163
abbrev gU:Nat:=164
abbrev tE:Nat:=168
end F
theorem mixed:true=true->prog.follows .mixedOrders=true:=fun _=>by kernel_rfl
abbrev msk:Nat:=1645504557321206042154969182557350504982735865633579863348609020
theorem uv:gB prog true msk:=vT msk 210 (Nat.le_of_ble_eq_true (by kernel_rfl)) (by kernel_rfl)
theorem jz:prog.globals.size=0:=by kernel_rfl
end
end Go.Proofs.YtkkgnalgmebfjaaGreat
