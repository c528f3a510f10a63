/- The ice seat: what all its texts share. No condition. -/
import Derived.Test.YthcjliffpebjaaaV11
import Derived.Test.YthcjliffpebjaaaChecked
namespace Go.Proofs.Ythcjliffpebjaaa
open Go Go.K
set_option maxRecDepth 100000
noncomputable section
theorem mixed : true = true → Try.prog.follows .mixedOrders = true := fun _ => by kernel_rfl
abbrev msk : Nat := 2 ^ 108 - 4
theorem mskOk : MaskOk Try.prog true msk := maskOk_of msk 108 (by decide) (by kernel_rfl)
def dm (imp : Nat) : Value → MS
  | .func (.func f) _ _ => cond (Nat.testBit imp f) none (some [])
  | .func (.yield _) _ _ => none
  | _ => some []
theorem glob0 : Try.prog.globals.size = 0 := by kernel_rfl
theorem i64_eq {a b : Int} (h : a = b) : (Value.int .i64 a) = .int .i64 b := by rw [h]
structure Span where
  lo : Int
  hi : Int
structure Cell where
  conc : Span
  thick : Span
  ridge : Span
  press : Span
structure Ice where
  conc : Int
  thick : Int
  ridge : Int
  press : Int
structure Rates where
  up : Ice
  down : Ice
structure Report where
  id : Int
  source : Int
  at_ : Int
  x : Int
  y : Int
  has : Int
  cell : Cell
abbrev iceC (x : Ice) : List Value := [.int .i64 x.conc, .int .i64 x.thick, .int .i64 x.ridge, .int .i64 x.press]
abbrev cellC (c : Cell) : List Value := [.int .i64 c.conc.lo, .int .i64 c.conc.hi, .int .i64 c.thick.lo, .int .i64 c.thick.hi, .int .i64 c.ridge.lo, .int .i64 c.ridge.hi, .int .i64 c.press.lo, .int .i64 c.press.hi]
abbrev ratesC (m : Rates) : List Value := [.int .i64 m.up.conc, .int .i64 m.up.thick, .int .i64 m.up.ridge, .int .i64 m.up.press, .int .i64 m.down.conc, .int .i64 m.down.thick, .int .i64 m.down.ridge, .int .i64 m.down.press]
abbrev reportC (r : Report) : List Value := [.int .i64 r.id, .int .i64 r.source, .int .i64 r.at_, .int .i64 r.x, .int .i64 r.y, .int .i64 r.has] ++ cellC r.cell
abbrev iceV (x : Ice) : Value := .agg ⟨iceC x⟩
abbrev cellV (c : Cell) : Value := .agg ⟨cellC c⟩
abbrev ratesV (m : Rates) : Value := .agg ⟨ratesC m⟩
/-- A call's answer that is a value alone. -/
theorem valK {f : FuncId} {args : List Value} {h : Hint} {v : Value} (n : Nat) (hargs : ∀ σ, args.map (rn σ 3) = args) (hv : belowV 0 v = true)
    (hc : vF Try.prog msk (dm 0) 100000 true n true f args ⟨0, .leaf⟩ (some []) h (fun v' _ _ => v' = v)) (H : Heap) : KCall Try.prog f args H [] (Is v H) :=
  vcP mskOk mixed n hargs hv (by rw [glob0]; exact hc) H (by rw [glob0]; exact Nat.zero_le _)
end
end Go.Proofs.Ythcjliffpebjaaa
