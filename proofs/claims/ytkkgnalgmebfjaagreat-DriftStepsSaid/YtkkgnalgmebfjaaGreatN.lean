/- The seat's program and its functions by name. No condition. -/
import Derived.Test.YtkkgnalgmebfjaaGreatChecked
import Derived.Test.YtkkgnalgmebfjaaGreatV14
open Go Go.K
set_option maxRecDepth 1000000
set_option linter.unusedVariables false
set_option linter.unusedSimpArgs false
namespace Go.Proofs.YtkkgnalgmebfjaaGreat
noncomputable section
@[reducible] noncomputable def prog:Program:=Tryz.prog
namespace F
abbrev gn:Nat:=3
abbrev cy:Nat:=8
abbrev jc:Nat:=9
abbrev jb:Nat:=10
abbrev je:Nat:=11
abbrev rf:Nat:=12
abbrev jd:Nat:=13
abbrev ja:Nat:=14
abbrev i7:Nat:=15
abbrev iK:Nat:=16
abbrev sM:Nat:=17
abbrev jM:Nat:=18
abbrev jO:Nat:=19
abbrev re:Nat:=20
abbrev i6:Nat:=21
abbrev vg:Nat:=22
abbrev kH:Nat:=46
abbrev lJ:Nat:=47
abbrev pA:Nat:=48
abbrev wT:Nat:=49
abbrev pE:Nat:=51
abbrev kF:Nat:=52
abbrev gi:Nat:=53
abbrev gS:Nat:=54
abbrev fk:Nat:=55
abbrev iJ:Nat:=56
abbrev jN:Nat:=57
abbrev sL:Nat:=58
abbrev m8:Nat:=59
abbrev jL:Nat:=60
abbrev i8:Nat:=61
abbrev kI:Nat:=62
abbrev ra:Nat:=63
abbrev cU:Nat:=64
abbrev gj:Nat:=65
abbrev i5:Nat:=66
abbrev gT:Nat:=69
abbrev mS:Nat:=92
abbrev kG:Nat:=98
abbrev rc:Nat:=102
abbrev fS:Nat:=104
abbrev rb:Nat:=119
abbrev m9:Nat:=120
abbrev ku:Nat:=121
abbrev jI:Nat:=122
abbrev jK:Nat:=123
abbrev jJ:Nat:=124
abbrev kr:Nat:=125
abbrev gk:Nat:=126
abbrev iT:Nat:=131
abbrev ww:Nat:=158
abbrev iM:Nat:=159
abbrev i9:Nat:=163
abbrev gE:Nat:=164
end F
theorem mixed:true=true->prog.follows .mixedOrders=true:=fun _=>by kernel_rfl
abbrev msk:Nat:=1645504557321206042154969182557350504982735865633579863348609020
theorem tE:f7 prog true msk:=u0 msk 210 (Nat.le_of_ble_eq_true (by kernel_rfl)) (by kernel_rfl)
theorem iU:prog.globals.size=0:=by kernel_rfl
end
end Go.Proofs.YtkkgnalgmebfjaaGreat
