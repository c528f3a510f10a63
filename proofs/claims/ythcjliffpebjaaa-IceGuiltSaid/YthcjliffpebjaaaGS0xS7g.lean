/- Ice: what all texts share. No condition. -/
import Derived.Test.YthcjliffpebjaaaN
import Derived.IntWalk
namespace Go.Proofs.Ythcjliffpebjaaa
set_option linter.unusedSimpArgs false
open Go Go.K
set_option maxRecDepth 100000
set_option linter.unusedVariables false
noncomputable section
def dm (imp : Nat) : Value → MS
  | .func (.func f) _ _ => cond (Nat.testBit imp f) none (some [])
  | .func (.yield _) _ _ => none
  | _ => some []
theorem i64_eq {a b : Int} (h : a = b) : (Value.int .i64 a) = .int .i64 b := by rw [h]
structure Span where
  lo : Int
  hi : Int
structure Cell where
  conc : Span
  thick : Span
  ridge : Span
  press : Span
structure Ice where
  conc : Int
  thick : Int
  ridge : Int
  press : Int
structure Rates where
  up : Ice
  down : Ice
structure Report where
  id : Int
  source : Int
  at_ : Int
  x : Int
  y : Int
  has : Int
  cell : Cell
abbrev iceC (x : Ice) : List Value := [.int .i64 x.conc, .int .i64 x.thick, .int .i64 x.ridge, .int .i64 x.press]
abbrev cellC (c : Cell) : List Value := [.int .i64 c.conc.lo, .int .i64 c.conc.hi, .int .i64 c.thick.lo, .int .i64 c.thick.hi, .int .i64 c.ridge.lo, .int .i64 c.ridge.hi, .int .i64 c.press.lo, .int .i64 c.press.hi]
abbrev ratesC (m : Rates) : List Value := [.int .i64 m.up.conc, .int .i64 m.up.thick, .int .i64 m.up.ridge, .int .i64 m.up.press, .int .i64 m.down.conc, .int .i64 m.down.thick, .int .i64 m.down.ridge, .int .i64 m.down.press]
abbrev reportC (r : Report) : List Value := [.int .i64 r.id, .int .i64 r.source, .int .i64 r.at_, .int .i64 r.x, .int .i64 r.y, .int .i64 r.has] ++ cellC r.cell
abbrev iceV (x : Ice) : Value := .agg ⟨iceC x⟩
abbrev cellV (c : Cell) : Value := .agg ⟨cellC c⟩
abbrev ratesV (m : Rates) : Value := .agg ⟨ratesC m⟩
/-- A call's answer that is a value alone. -/
theorem valK {f : FuncId} {args : List Value} {h : Hint} {v : Value} (n : Nat) (hargs : ∀ σ, args.map (rn σ 5) = args) (hv : belowV 0 v = true)
    (hc : vF prog msk (dm 0) 100000 true n true f args ⟨0, .leaf⟩ (some []) h (fun v' _ _ => v' = v)) (H : Heap) : KCall prog f args H [] (Is v H) :=
  vcP mskOk mixed n hargs hv (by rw [glob0]; exact hc) H (by rw [glob0]; exact Nat.zero_le _)
end
end Go.Proofs.Ythcjliffpebjaaa
/- What is to be shown of functions. Printed by a program. No condition. -/
namespace Go.Proofs.Ythcjliffpebjaaa
set_option linter.unusedSimpArgs false
open Go Go.K
set_option maxRecDepth 100000
set_option linter.unusedVariables false
noncomputable section
def RCheckCell (sp : Value) (c : Cell) : Prop :=
  (((decide ((0 : Int) ≤ c.conc.lo)) = true → (((decide ((c.conc.lo : Int) ≤ 100)) = true → (((decide ((c.conc.lo : Int) ≤ c.conc.hi)) = true → (((!(decide ((c.conc.hi : Int) ≤ 100))) = true → (.int .i64 20 : Value) = sp) ∧ ((!(decide ((c.conc.hi : Int) ≤ 100))) = false → (((decide ((0 : Int) ≤ c.thick.lo)) = true → (((decide ((c.thick.lo : Int) ≤ 400)) = true → (((decide ((c.thick.lo : Int) ≤ c.thick.hi)) = true → (((!(decide ((c.thick.hi : Int) ≤ 400))) = true → (.int .i64 20 : Value) = sp) ∧ ((!(decide ((c.thick.hi : Int) ≤ 400))) = false → (((decide ((0 : Int) ≤ c.ridge.lo)) = true → (((decide ((c.ridge.lo : Int) ≤ 100)) = true → (((decide ((c.ridge.lo : Int) ≤ c.ridge.hi)) = true → (((!(decide ((c.ridge.hi : Int) ≤ 100))) = true → (.int .i64 20 : Value) = sp) ∧ ((!(decide ((c.ridge.hi : Int) ≤ 100))) = false → (((decide ((0 : Int) ≤ c.press.lo)) = true → (((decide ((c.press.lo : Int) ≤ 3)) = true → (((decide ((c.press.lo : Int) ≤ c.press.hi)) = true → (((!(decide ((c.press.hi : Int) ≤ 3))) = true → (.int .i64 20 : Value) = sp) ∧ ((!(decide ((c.press.hi : Int) ≤ 3))) = false → (.int .i64 0 : Value) = sp))) ∧ ((decide ((c.press.lo : Int) ≤ c.press.hi)) = false → (.int .i64 20 : Value) = sp))) ∧ ((decide ((c.press.lo : Int) ≤ 3)) = false → (.int .i64 20 : Value) = sp))) ∧ ((decide ((0 : Int) ≤ c.press.lo)) = false → (.int .i64 20 : Value) = sp))))) ∧ ((decide ((c.ridge.lo : Int) ≤ c.ridge.hi)) = false → (.int .i64 20 : Value) = sp))) ∧ ((decide ((c.ridge.lo : Int) ≤ 100)) = false → (.int .i64 20 : Value) = sp))) ∧ ((decide ((0 : Int) ≤ c.ridge.lo)) = false → (.int .i64 20 : Value) = sp))))) ∧ ((decide ((c.thick.lo : Int) ≤ c.thick.hi)) = false → (.int .i64 20 : Value) = sp))) ∧ ((decide ((c.thick.lo : Int) ≤ 400)) = false → (.int .i64 20 : Value) = sp))) ∧ ((decide ((0 : Int) ≤ c.thick.lo)) = false → (.int .i64 20 : Value) = sp))))) ∧ ((decide ((c.conc.lo : Int) ≤ c.conc.hi)) = false → (.int .i64 20 : Value) = sp))) ∧ ((decide ((c.conc.lo : Int) ≤ 100)) = false → (.int .i64 20 : Value) = sp))) ∧ ((decide ((0 : Int) ≤ c.conc.lo)) = false → (.int .i64 20 : Value) = sp))
theorem ECheckCell (sp : Value) (c : Cell) : vF prog msk (dm 0) 100000 true 40 true 44 [.agg #[.int .i64 c.conc.lo, .int .i64 c.conc.hi, .int .i64 c.thick.lo, .int .i64 c.thick.hi, .int .i64 c.ridge.lo, .int .i64 c.ridge.hi, .int .i64 c.press.lo, .int .i64 c.press.hi]] ⟨0, .leaf⟩ (some [])
  (.go 54 (.gfork (.go 5 (.gfork (.go 15 (.gfork (.go 8 (.fork (.auto) (.go 30 (.gfork (.go 5 (.gfork (.go 15 (.gfork (.go 8 (.fork (.auto) (.go 30 (.gfork (.go 5 (.gfork (.go 15 (.gfork (.go 8 (.fork (.auto) (.go 30 (.gfork (.go 5 (.gfork (.go 15 (.gfork (.go 8 (.fork (.auto) (.auto))) (.auto))) (.auto))) (.auto))))) (.auto))) (.auto))) (.auto))))) (.auto))) (.auto))) (.auto))))) (.auto))) (.auto))) (.auto)))
  (fun v _ _ => v = sp) = RCheckCell sp c := by kernel_rfl
def RCheckIce (sp : Value) (x : Ice) : Prop :=
  (((decide ((0 : Int) ≤ x.conc)) = true → (((!(decide ((x.conc : Int) ≤ 100))) = true → (.int .i64 20 : Value) = sp) ∧ ((!(decide ((x.conc : Int) ≤ 100))) = false → (((decide ((0 : Int) ≤ x.thick)) = true → (((!(decide ((x.thick : Int) ≤ 400))) = true → (.int .i64 20 : Value) = sp) ∧ ((!(decide ((x.thick : Int) ≤ 400))) = false → (((decide ((0 : Int) ≤ x.ridge)) = true → (((!(decide ((x.ridge : Int) ≤ 100))) = true → (.int .i64 20 : Value) = sp) ∧ ((!(decide ((x.ridge : Int) ≤ 100))) = false → (((decide ((0 : Int) ≤ x.press)) = true → (((!(decide ((x.press : Int) ≤ 3))) = true → (.int .i64 20 : Value) = sp) ∧ ((!(decide ((x.press : Int) ≤ 3))) = false → (.int .i64 0 : Value) = sp))) ∧ ((decide ((0 : Int) ≤ x.press)) = false → (.int .i64 20 : Value) = sp))))) ∧ ((decide ((0 : Int) ≤ x.ridge)) = false → (.int .i64 20 : Value) = sp))))) ∧ ((decide ((0 : Int) ≤ x.thick)) = false → (.int .i64 20 : Value) = sp))))) ∧ ((decide ((0 : Int) ≤ x.conc)) = false → (.int .i64 20 : Value) = sp))
theorem ECheckIce (sp : Value) (x : Ice) : vF prog msk (dm 0) 100000 true 40 true 51 [.agg #[.int .i64 x.conc, .int .i64 x.thick, .int .i64 x.ridge, .int .i64 x.press]] ⟨0, .leaf⟩ (some [])
  (.go 48 (.gfork (.go 6 (.fork (.auto) (.go 24 (.gfork (.go 6 (.fork (.auto) (.go 24 (.gfork (.go 6 (.fork (.auto) (.go 24 (.gfork (.go 6 (.fork (.auto) (.auto))) (.auto))))) (.auto))))) (.auto))))) (.auto)))
  (fun v _ _ => v = sp) = RCheckIce sp x := by kernel_rfl
def RCheckRates (sp : Value) (m : Rates) : Prop :=
  (((decide ((0 : Int) ≤ m.up.conc)) = true → (((decide ((m.up.conc : Int) ≤ 1000)) = true → (((decide ((0 : Int) ≤ m.down.conc)) = true → (((!(decide ((m.down.conc : Int) ≤ 1000))) = true → (.int .i64 6 : Value) = sp) ∧ ((!(decide ((m.down.conc : Int) ≤ 1000))) = false → (((decide ((0 : Int) ≤ m.up.thick)) = true → (((decide ((m.up.thick : Int) ≤ 1000)) = true → (((decide ((0 : Int) ≤ m.down.thick)) = true → (((!(decide ((m.down.thick : Int) ≤ 1000))) = true → (.int .i64 6 : Value) = sp) ∧ ((!(decide ((m.down.thick : Int) ≤ 1000))) = false → (((decide ((0 : Int) ≤ m.up.ridge)) = true → (((decide ((m.up.ridge : Int) ≤ 1000)) = true → (((decide ((0 : Int) ≤ m.down.ridge)) = true → (((!(decide ((m.down.ridge : Int) ≤ 1000))) = true → (.int .i64 6 : Value) = sp) ∧ ((!(decide ((m.down.ridge : Int) ≤ 1000))) = false → (((decide ((0 : Int) ≤ m.up.press)) = true → (((decide ((m.up.press : Int) ≤ 1000)) = true → (((decide ((0 : Int) ≤ m.down.press)) = true → (((!(decide ((m.down.press : Int) ≤ 1000))) = true → (.int .i64 6 : Value) = sp) ∧ ((!(decide ((m.down.press : Int) ≤ 1000))) = false → (.int .i64 0 : Value) = sp))) ∧ ((decide ((0 : Int) ≤ m.down.press)) = false → (.int .i64 6 : Value) = sp))) ∧ ((decide ((m.up.press : Int) ≤ 1000)) = false → (.int .i64 6 : Value) = sp))) ∧ ((decide ((0 : Int) ≤ m.up.press)) = false → (.int .i64 6 : Value) = sp))))) ∧ ((decide ((0 : Int) ≤ m.down.ridge)) = false → (.int .i64 6 : Value) = sp))) ∧ ((decide ((m.up.ridge : Int) ≤ 1000)) = false → (.int .i64 6 : Value) = sp))) ∧ ((decide ((0 : Int) ≤ m.up.ridge)) = false → (.int .i64 6 : Value) = sp))))) ∧ ((decide ((0 : Int) ≤ m.down.thick)) = false → (.int .i64 6 : Value) = sp))) ∧ ((decide ((m.up.thick : Int) ≤ 1000)) = false → (.int .i64 6 : Value) = sp))) ∧ ((decide ((0 : Int) ≤ m.up.thick)) = false → (.int .i64 6 : Value) = sp))))) ∧ ((decide ((0 : Int) ≤ m.down.conc)) = false → (.int .i64 6 : Value) = sp))) ∧ ((decide ((m.up.conc : Int) ≤ 1000)) = false → (.int .i64 6 : Value) = sp))) ∧ ((decide ((0 : Int) ≤ m.up.conc)) = false → (.int .i64 6 : Value) = sp))
theorem ECheckRates (sp : Value) (m : Rates) : vF prog msk (dm 0) 100000 true 40 true 11 [.agg #[.int .i64 m.up.conc, .int .i64 m.up.thick, .int .i64 m.up.ridge, .int .i64 m.up.press, .int .i64 m.down.conc, .int .i64 m.down.thick, .int .i64 m.down.ridge, .int .i64 m.down.press]] ⟨0, .leaf⟩ (some [])
  (.go 60 (.gfork (.go 5 (.gfork (.go 8 (.gfork (.go 7 (.fork (.auto) (.go 18 (.gfork (.go 5 (.gfork (.go 8 (.gfork (.go 7 (.fork (.auto) (.go 18 (.gfork (.go 5 (.gfork (.go 8 (.gfork (.go 7 (.fork (.auto) (.go 18 (.gfork (.go 5 (.gfork (.go 8 (.gfork (.go 7 (.fork (.auto) (.auto))) (.auto))) (.auto))) (.auto))))) (.auto))) (.auto))) (.auto))))) (.auto))) (.auto))) (.auto))))) (.auto))) (.auto))) (.auto)))
  (fun v _ _ => v = sp) = RCheckRates sp m := by kernel_rfl
def RPick (sp : Value) (x n : Int) : Prop :=
  (((decide ((n : Int) < 1)) = true → (.int .i64 0 : Value) = sp) ∧ ((decide ((n : Int) < 1)) = false → (((n : Int) ≠ 0) ∧ (((decide (((Int.tmod x n) : Int) < 0)) = true → ((.int .i64 (IntKind.wrap .i64 ((Int.tmod x n) + n)) : Value) = .int .i64 ((Int.tmod x n) + n) ∧ (.int .i64 ((Int.tmod x n) + n) : Value) = sp)) ∧ ((decide (((Int.tmod x n) : Int) < 0)) = false → (.int .i64 (Int.tmod x n) : Value) = sp)))))
theorem EPick (sp : Value) (x n : Int) : vF prog msk (dm 0) 100000 true 40 true 17 [.int .i64 x, .int .i64 n] ⟨0, .leaf⟩ (some [])
  (.go 2 (.fork (.auto) (.go 1 (.need (.go 2 (.fork (.go 2 (.slot 15 (.int .i64 ((Int.tmod x n) + n)) (.auto))) (.auto)))))))
  (fun v _ _ => v = sp) = RPick sp x n := by kernel_rfl
def Rchange (sp : Value) (rate hours : Int) : Prop :=
  ((.int .i64 (IntKind.wrap .i64 (rate * hours)) : Value) = .int .i64 (rate * hours) ∧ ((.int .i64 (IntKind.wrap .i64 ((rate * hours) + 24)) : Value) = .int .i64 ((rate * hours) + 24) ∧ ((.int .i64 (IntKind.wrap .i64 (((rate * hours) + 24) - 1)) : Value) = .int .i64 (((rate * hours) + 24) - 1) ∧ ((.int .i64 (IntKind.wrap .i64 (Int.tdiv (((rate * hours) + 24) - 1) 24)) : Value) = .int .i64 (Int.tdiv (((rate * hours) + 24) - 1) 24) ∧ (.int .i64 (Int.tdiv (((rate * hours) + 24) - 1) 24) : Value) = sp))))
theorem Echange (sp : Value) (rate hours : Int) : vF prog msk (dm 0) 100000 true 40 true 74 [.int .i64 rate, .int .i64 hours] ⟨0, .leaf⟩ (some [])
  (.go 3 (.slot 7 (.int .i64 (rate * hours)) (.go 0 (.slot 8 (.int .i64 ((rate * hours) + 24)) (.go 0 (.slot 9 (.int .i64 (((rate * hours) + 24) - 1)) (.go 0 (.slot 10 (.int .i64 (Int.tdiv (((rate * hours) + 24) - 1) 24)) (.auto)))))))))
  (fun v _ _ => v = sp) = Rchange sp rate hours := by kernel_rfl
def RHas (sp : Value) (c : Cell) (x : Ice) : Prop :=
  (∃ r0 : Int, ((True) ∧ (∀ H' : Heap, H'.length = 2 → (True) → KCall prog 44 [.agg #[.int .i64 c.conc.lo, .int .i64 c.conc.hi, .int .i64 c.thick.lo, .int .i64 c.thick.hi, .int .i64 c.ridge.lo, .int .i64 c.ridge.hi, .int .i64 c.press.lo, .int .i64 c.press.hi]] H' [] (Is (.int .i64 r0) H')) ∧ (∃ r1 : Int, ((True) ∧ (∀ H' : Heap, H'.length = 2 → (True) → KCall prog 51 [.agg #[.int .i64 x.conc, .int .i64 x.thick, .int .i64 x.ridge, .int .i64 x.press]] H' [] (Is (.int .i64 r1) H')) ∧ ((((r0 : Int) != 0) = true → ((.bool ((r0 : Int) != 0) : Value) = .bool true ∧ (.tuple #[.bool false, .int .i64 r0] : Value) = sp)) ∧ (((r0 : Int) != 0) = false → ((((r1 : Int) != 0) = true → ((.bool ((r1 : Int) != 0) : Value) = .bool true ∧ (.tuple #[.bool false, .int .i64 r1] : Value) = sp)) ∧ (((r1 : Int) != 0) = false → (((decide ((c.conc.lo : Int) ≤ x.conc)) = true → (((!(decide ((x.conc : Int) ≤ c.conc.hi))) = true → (.tuple #[.bool false, .int .i64 0] : Value) = sp) ∧ ((!(decide ((x.conc : Int) ≤ c.conc.hi))) = false → (((decide ((c.thick.lo : Int) ≤ x.thick)) = true → (((!(decide ((x.thick : Int) ≤ c.thick.hi))) = true → (.tuple #[.bool false, .int .i64 0] : Value) = sp) ∧ ((!(decide ((x.thick : Int) ≤ c.thick.hi))) = false → (((decide ((c.ridge.lo : Int) ≤ x.ridge)) = true → (((!(decide ((x.ridge : Int) ≤ c.ridge.hi))) = true → (.tuple #[.bool false, .int .i64 0] : Value) = sp) ∧ ((!(decide ((x.ridge : Int) ≤ c.ridge.hi))) = false → (((decide ((c.press.lo : Int) ≤ x.press)) = true → (((!(decide ((x.press : Int) ≤ c.press.hi))) = true → (.tuple #[.bool false, .int .i64 0] : Value) = sp) ∧ ((!(decide ((x.press : Int) ≤ c.press.hi))) = false → (.tuple #[.bool true, .int .i64 0] : Value) = sp))) ∧ ((decide ((c.press.lo : Int) ≤ x.press)) = false → (.tuple #[.bool false, .int .i64 0] : Value) = sp))))) ∧ ((decide ((c.ridge.lo : Int) ≤ x.ridge)) = false → (.tuple #[.bool false, .int .i64 0] : Value) = sp))))) ∧ ((decide ((c.thick.lo : Int) ≤ x.thick)) = false → (.tuple #[.bool false, .int .i64 0] : Value) = sp))))) ∧ ((decide ((c.conc.lo : Int) ≤ x.conc)) = false → (.tuple #[.bool false, .int .i64 0] : Value) = sp))))))))))
theorem EHas (sp : Value) (c : Cell) (x : Ice) : vF prog msk (dm 0) 100000 true 40 true 25 [.agg #[.int .i64 c.conc.lo, .int .i64 c.conc.hi, .int .i64 c.thick.lo, .int .i64 c.thick.hi, .int .i64 c.ridge.lo, .int .i64 c.ridge.hi, .int .i64 c.press.lo, .int .i64 c.press.hi], .agg #[.int .i64 x.conc, .int .i64 x.thick, .int .i64 x.ridge, .int .i64 x.press]] ⟨0, .leaf⟩ (some [])
  (.go 5 (.bind (Int) (fun r0 => .ans [] (.int .i64 r0) [] (.bind (Int) (fun r1 => .ans [] (.int .i64 r1) [] (.go 12 (.fork (.go 4 (.slot 14 (.bool true) (.auto))) (.go 8 (.fork (.go 4 (.slot 14 (.bool true) (.auto))) (.go 76 (.gfork (.go 6 (.fork (.auto) (.go 26 (.gfork (.go 6 (.fork (.auto) (.go 26 (.gfork (.go 6 (.fork (.auto) (.go 26 (.gfork (.go 6 (.fork (.auto) (.auto))) (.auto))))) (.auto))))) (.auto))))) (.auto))))))))))))
  (fun v _ _ => v = sp) = RHas sp c x := by kernel_rfl
def RInside (sp : Value) (a b : Cell) : Prop :=
  (∃ r0 : Int, ((True) ∧ (∀ H' : Heap, H'.length = 2 → (True) → KCall prog 44 [.agg #[.int .i64 a.conc.lo, .int .i64 a.conc.hi, .int .i64 a.thick.lo, .int .i64 a.thick.hi, .int .i64 a.ridge.lo, .int .i64 a.ridge.hi, .int .i64 a.press.lo, .int .i64 a.press.hi]] H' [] (Is (.int .i64 r0) H')) ∧ (∃ r1 : Int, ((True) ∧ (∀ H' : Heap, H'.length = 2 → (True) → KCall prog 44 [.agg #[.int .i64 b.conc.lo, .int .i64 b.conc.hi, .int .i64 b.thick.lo, .int .i64 b.thick.hi, .int .i64 b.ridge.lo, .int .i64 b.ridge.hi, .int .i64 b.press.lo, .int .i64 b.press.hi]] H' [] (Is (.int .i64 r1) H')) ∧ ((((r0 : Int) != 0) = true → ((.bool ((r0 : Int) != 0) : Value) = .bool true ∧ (.tuple #[.bool false, .int .i64 r0] : Value) = sp)) ∧ (((r0 : Int) != 0) = false → ((((r1 : Int) != 0) = true → ((.bool ((r1 : Int) != 0) : Value) = .bool true ∧ (.tuple #[.bool false, .int .i64 r1] : Value) = sp)) ∧ (((r1 : Int) != 0) = false → (((decide ((b.conc.lo : Int) ≤ a.conc.lo)) = true → (((!(decide ((a.conc.hi : Int) ≤ b.conc.hi))) = true → (.tuple #[.bool false, .int .i64 0] : Value) = sp) ∧ ((!(decide ((a.conc.hi : Int) ≤ b.conc.hi))) = false → (((decide ((b.thick.lo : Int) ≤ a.thick.lo)) = true → (((!(decide ((a.thick.hi : Int) ≤ b.thick.hi))) = true → (.tuple #[.bool false, .int .i64 0] : Value) = sp) ∧ ((!(decide ((a.thick.hi : Int) ≤ b.thick.hi))) = false → (((decide ((b.ridge.lo : Int) ≤ a.ridge.lo)) = true → (((!(decide ((a.ridge.hi : Int) ≤ b.ridge.hi))) = true → (.tuple #[.bool false, .int .i64 0] : Value) = sp) ∧ ((!(decide ((a.ridge.hi : Int) ≤ b.ridge.hi))) = false → (((decide ((b.press.lo : Int) ≤ a.press.lo)) = true → (((!(decide ((a.press.hi : Int) ≤ b.press.hi))) = true → (.tuple #[.bool false, .int .i64 0] : Value) = sp) ∧ ((!(decide ((a.press.hi : Int) ≤ b.press.hi))) = false → (.tuple #[.bool true, .int .i64 0] : Value) = sp))) ∧ ((decide ((b.press.lo : Int) ≤ a.press.lo)) = false → (.tuple #[.bool false, .int .i64 0] : Value) = sp))))) ∧ ((decide ((b.ridge.lo : Int) ≤ a.ridge.lo)) = false → (.tuple #[.bool false, .int .i64 0] : Value) = sp))))) ∧ ((decide ((b.thick.lo : Int) ≤ a.thick.lo)) = false → (.tuple #[.bool false, .int .i64 0] : Value) = sp))))) ∧ ((decide ((b.conc.lo : Int) ≤ a.conc.lo)) = false → (.tuple #[.bool false, .int .i64 0] : Value) = sp))))))))))
theorem EInside (sp : Value) (a b : Cell) : vF prog msk (dm 0) 100000 true 40 true 20 [.agg #[.int .i64 a.conc.lo, .int .i64 a.conc.hi, .int .i64 a.thick.lo, .int .i64 a.thick.hi, .int .i64 a.ridge.lo, .int .i64 a.ridge.hi, .int .i64 a.press.lo, .int .i64 a.press.hi], .agg #[.int .i64 b.conc.lo, .int .i64 b.conc.hi, .int .i64 b.thick.lo, .int .i64 b.thick.hi, .int .i64 b.ridge.lo, .int .i64 b.ridge.hi, .int .i64 b.press.lo, .int .i64 b.press.hi]] ⟨0, .leaf⟩ (some [])
  (.go 5 (.bind (Int) (fun r0 => .ans [] (.int .i64 r0) [] (.bind (Int) (fun r1 => .ans [] (.int .i64 r1) [] (.go 12 (.fork (.go 4 (.slot 14 (.bool true) (.auto))) (.go 8 (.fork (.go 4 (.slot 14 (.bool true) (.auto))) (.go 66 (.gfork (.go 11 (.fork (.auto) (.go 19 (.gfork (.go 11 (.fork (.auto) (.go 19 (.gfork (.go 11 (.fork (.auto) (.go 19 (.gfork (.go 11 (.fork (.auto) (.auto))) (.auto))))) (.auto))))) (.auto))))) (.auto))))))))))))
  (fun v _ _ => v = sp) = RInside sp a b := by kernel_rfl
def RMeet (sp : Value) (a b : Cell) : Prop :=
  (∃ r0 : Int, ((True) ∧ (∀ H' : Heap, H'.length = 3 → (True) → KCall prog 44 [.agg #[.int .i64 a.conc.lo, .int .i64 a.conc.hi, .int .i64 a.thick.lo, .int .i64 a.thick.hi, .int .i64 a.ridge.lo, .int .i64 a.ridge.hi, .int .i64 a.press.lo, .int .i64 a.press.hi]] H' [] (Is (.int .i64 r0) H')) ∧ (∃ r1 : Int, ((True) ∧ (∀ H' : Heap, H'.length = 3 → (True) → KCall prog 44 [.agg #[.int .i64 b.conc.lo, .int .i64 b.conc.hi, .int .i64 b.thick.lo, .int .i64 b.thick.hi, .int .i64 b.ridge.lo, .int .i64 b.ridge.hi, .int .i64 b.press.lo, .int .i64 b.press.hi]] H' [] (Is (.int .i64 r1) H')) ∧ ((((r0 : Int) != 0) = true → ((.bool ((r0 : Int) != 0) : Value) = .bool true ∧ (.tuple #[.agg #[.int .i64 0, .int .i64 0, .int .i64 0, .int .i64 0, .int .i64 0, .int .i64 0, .int .i64 0, .int .i64 0], .int .i64 r0] : Value) = sp)) ∧ (((r0 : Int) != 0) = false → ((((r1 : Int) != 0) = true → ((.bool ((r1 : Int) != 0) : Value) = .bool true ∧ (.tuple #[.agg #[.int .i64 0, .int .i64 0, .int .i64 0, .int .i64 0, .int .i64 0, .int .i64 0, .int .i64 0, .int .i64 0], .int .i64 r1] : Value) = sp)) ∧ (((r1 : Int) != 0) = false → (∃ y2 : Int, (.int .i64 (if (b.conc.lo : Int) > a.conc.lo then (b.conc.lo : Int) else a.conc.lo) : Value) = .int .i64 y2 ∧ (∃ y3 : Int, (.int .i64 (if (b.conc.hi : Int) < a.conc.hi then (b.conc.hi : Int) else a.conc.hi) : Value) = .int .i64 y3 ∧ (∃ y4 : Int, (.int .i64 (if (b.thick.lo : Int) > a.thick.lo then (b.thick.lo : Int) else a.thick.lo) : Value) = .int .i64 y4 ∧ (∃ y5 : Int, (.int .i64 (if (b.thick.hi : Int) < a.thick.hi then (b.thick.hi : Int) else a.thick.hi) : Value) = .int .i64 y5 ∧ (∃ y6 : Int, (.int .i64 (if (b.ridge.lo : Int) > a.ridge.lo then (b.ridge.lo : Int) else a.ridge.lo) : Value) = .int .i64 y6 ∧ (∃ y7 : Int, (.int .i64 (if (b.ridge.hi : Int) < a.ridge.hi then (b.ridge.hi : Int) else a.ridge.hi) : Value) = .int .i64 y7 ∧ (∃ y8 : Int, (.int .i64 (if (b.press.lo : Int) > a.press.lo then (b.press.lo : Int) else a.press.lo) : Value) = .int .i64 y8 ∧ (∃ y9 : Int, (.int .i64 (if (b.press.hi : Int) < a.press.hi then (b.press.hi : Int) else a.press.hi) : Value) = .int .i64 y9 ∧ (((!(decide ((y2 : Int) ≤ y3))) = true → (.tuple #[.agg #[.int .i64 0, .int .i64 0, .int .i64 0, .int .i64 0, .int .i64 0, .int .i64 0, .int .i64 0, .int .i64 0], .int .i64 21] : Value) = sp) ∧ ((!(decide ((y2 : Int) ≤ y3))) = false → (((!(decide ((y4 : Int) ≤ y5))) = true → (.tuple #[.agg #[.int .i64 0, .int .i64 0, .int .i64 0, .int .i64 0, .int .i64 0, .int .i64 0, .int .i64 0, .int .i64 0], .int .i64 21] : Value) = sp) ∧ ((!(decide ((y4 : Int) ≤ y5))) = false → (((!(decide ((y6 : Int) ≤ y7))) = true → (.tuple #[.agg #[.int .i64 0, .int .i64 0, .int .i64 0, .int .i64 0, .int .i64 0, .int .i64 0, .int .i64 0, .int .i64 0], .int .i64 21] : Value) = sp) ∧ ((!(decide ((y6 : Int) ≤ y7))) = false → (((!(decide ((y8 : Int) ≤ y9))) = true → (.tuple #[.agg #[.int .i64 0, .int .i64 0, .int .i64 0, .int .i64 0, .int .i64 0, .int .i64 0, .int .i64 0, .int .i64 0], .int .i64 21] : Value) = sp) ∧ ((!(decide ((y8 : Int) ≤ y9))) = false → (.tuple #[.agg #[.int .i64 y2, .int .i64 y3, .int .i64 y4, .int .i64 y5, .int .i64 y6, .int .i64 y7, .int .i64 y8, .int .i64 y9], .int .i64 0] : Value) = sp))))))))))))))))))))))))
theorem EMeet (sp : Value) (a b : Cell) : vF prog msk (dm 0) 100000 true 40 true 26 [.agg #[.int .i64 a.conc.lo, .int .i64 a.conc.hi, .int .i64 a.thick.lo, .int .i64 a.thick.hi, .int .i64 a.ridge.lo, .int .i64 a.ridge.hi, .int .i64 a.press.lo, .int .i64 a.press.hi], .agg #[.int .i64 b.conc.lo, .int .i64 b.conc.hi, .int .i64 b.thick.lo, .int .i64 b.thick.hi, .int .i64 b.ridge.lo, .int .i64 b.ridge.hi, .int .i64 b.press.lo, .int .i64 b.press.hi]] ⟨0, .leaf⟩ (some [])
  (.go 5 (.bind (Int) (fun r0 => .ans [] (.int .i64 r0) [] (.bind (Int) (fun r1 => .ans [] (.int .i64 r1) [] (.go 12 (.fork (.go 4 (.slot 16 (.bool true) (.auto))) (.go 8 (.fork (.go 4 (.slot 16 (.bool true) (.auto))) (.go 65 (.bind Int (fun y2 => .slot 13 (.int .i64 y2) (.go 8 (.bind Int (fun y3 => .slot 22 (.int .i64 y3) (.go 23 (.bind Int (fun y4 => .slot 13 (.int .i64 y4) (.go 8 (.bind Int (fun y5 => .slot 22 (.int .i64 y5) (.go 23 (.bind Int (fun y6 => .slot 13 (.int .i64 y6) (.go 8 (.bind Int (fun y7 => .slot 22 (.int .i64 y7) (.go 23 (.bind Int (fun y8 => .slot 13 (.int .i64 y8) (.go 8 (.bind Int (fun y9 => .slot 22 (.int .i64 y9) (.go 39 (.fork (.auto) (.go 20 (.fork (.auto) (.go 20 (.fork (.auto) (.go 20 (.fork (.auto) (.auto))))))))))))))))))))))))))))))))))))))))))
  (fun v _ _ => v = sp) = RMeet sp a b := by kernel_rfl
def RHull (sp : Value) (a b : Cell) : Prop :=
  (∃ r0 : Int, ((True) ∧ (∀ H' : Heap, H'.length = 3 → (True) → KCall prog 44 [.agg #[.int .i64 a.conc.lo, .int .i64 a.conc.hi, .int .i64 a.thick.lo, .int .i64 a.thick.hi, .int .i64 a.ridge.lo, .int .i64 a.ridge.hi, .int .i64 a.press.lo, .int .i64 a.press.hi]] H' [] (Is (.int .i64 r0) H')) ∧ (∃ r1 : Int, ((True) ∧ (∀ H' : Heap, H'.length = 3 → (True) → KCall prog 44 [.agg #[.int .i64 b.conc.lo, .int .i64 b.conc.hi, .int .i64 b.thick.lo, .int .i64 b.thick.hi, .int .i64 b.ridge.lo, .int .i64 b.ridge.hi, .int .i64 b.press.lo, .int .i64 b.press.hi]] H' [] (Is (.int .i64 r1) H')) ∧ ((((r0 : Int) != 0) = true → ((.bool ((r0 : Int) != 0) : Value) = .bool true ∧ (.tuple #[.agg #[.int .i64 0, .int .i64 0, .int .i64 0, .int .i64 0, .int .i64 0, .int .i64 0, .int .i64 0, .int .i64 0], .int .i64 r0] : Value) = sp)) ∧ (((r0 : Int) != 0) = false → ((((r1 : Int) != 0) = true → ((.bool ((r1 : Int) != 0) : Value) = .bool true ∧ (.tuple #[.agg #[.int .i64 0, .int .i64 0, .int .i64 0, .int .i64 0, .int .i64 0, .int .i64 0, .int .i64 0, .int .i64 0], .int .i64 r1] : Value) = sp)) ∧ (((r1 : Int) != 0) = false → (∃ y2 : Int, (.int .i64 (if (b.conc.lo : Int) < a.conc.lo then (b.conc.lo : Int) else a.conc.lo) : Value) = .int .i64 y2 ∧ (∃ y3 : Int, (.int .i64 (if (b.conc.hi : Int) > a.conc.hi then (b.conc.hi : Int) else a.conc.hi) : Value) = .int .i64 y3 ∧ (∃ y4 : Int, (.int .i64 (if (b.thick.lo : Int) < a.thick.lo then (b.thick.lo : Int) else a.thick.lo) : Value) = .int .i64 y4 ∧ (∃ y5 : Int, (.int .i64 (if (b.thick.hi : Int) > a.thick.hi then (b.thick.hi : Int) else a.thick.hi) : Value) = .int .i64 y5 ∧ (∃ y6 : Int, (.int .i64 (if (b.ridge.lo : Int) < a.ridge.lo then (b.ridge.lo : Int) else a.ridge.lo) : Value) = .int .i64 y6 ∧ (∃ y7 : Int, (.int .i64 (if (b.ridge.hi : Int) > a.ridge.hi then (b.ridge.hi : Int) else a.ridge.hi) : Value) = .int .i64 y7 ∧ (∃ y8 : Int, (.int .i64 (if (b.press.lo : Int) < a.press.lo then (b.press.lo : Int) else a.press.lo) : Value) = .int .i64 y8 ∧ (∃ y9 : Int, (.int .i64 (if (b.press.hi : Int) > a.press.hi then (b.press.hi : Int) else a.press.hi) : Value) = .int .i64 y9 ∧ (.tuple #[.agg #[.int .i64 y2, .int .i64 y3, .int .i64 y4, .int .i64 y5, .int .i64 y6, .int .i64 y7, .int .i64 y8, .int .i64 y9], .int .i64 0] : Value) = sp))))))))))))))))
theorem EHull (sp : Value) (a b : Cell) : vF prog msk (dm 0) 100000 true 40 true 18 [.agg #[.int .i64 a.conc.lo, .int .i64 a.conc.hi, .int .i64 a.thick.lo, .int .i64 a.thick.hi, .int .i64 a.ridge.lo, .int .i64 a.ridge.hi, .int .i64 a.press.lo, .int .i64 a.press.hi], .agg #[.int .i64 b.conc.lo, .int .i64 b.conc.hi, .int .i64 b.thick.lo, .int .i64 b.thick.hi, .int .i64 b.ridge.lo, .int .i64 b.ridge.hi, .int .i64 b.press.lo, .int .i64 b.press.hi]] ⟨0, .leaf⟩ (some [])
  (.go 5 (.bind (Int) (fun r0 => .ans [] (.int .i64 r0) [] (.bind (Int) (fun r1 => .ans [] (.int .i64 r1) [] (.go 12 (.fork (.go 4 (.slot 14 (.bool true) (.auto))) (.go 8 (.fork (.go 4 (.slot 14 (.bool true) (.auto))) (.go 63 (.bind Int (fun y2 => .slot 13 (.int .i64 y2) (.go 8 (.bind Int (fun y3 => .slot 22 (.int .i64 y3) (.go 23 (.bind Int (fun y4 => .slot 13 (.int .i64 y4) (.go 8 (.bind Int (fun y5 => .slot 22 (.int .i64 y5) (.go 23 (.bind Int (fun y6 => .slot 13 (.int .i64 y6) (.go 8 (.bind Int (fun y7 => .slot 22 (.int .i64 y7) (.go 23 (.bind Int (fun y8 => .slot 13 (.int .i64 y8) (.go 8 (.bind Int (fun y9 => .slot 22 (.int .i64 y9) (.auto))))))))))))))))))))))))))))))))))
  (fun v _ _ => v = sp) = RHull sp a b := by kernel_rfl
def RAge (sp : Value) (c : Cell) (m : Rates) (hours : Int) : Prop :=
  (∃ r0 : Int, ((True) ∧ (∀ H' : Heap, H'.length = 3 → (True) → KCall prog 44 [.agg #[.int .i64 c.conc.lo, .int .i64 c.conc.hi, .int .i64 c.thick.lo, .int .i64 c.thick.hi, .int .i64 c.ridge.lo, .int .i64 c.ridge.hi, .int .i64 c.press.lo, .int .i64 c.press.hi]] H' [] (Is (.int .i64 r0) H')) ∧ (∃ r1 : Int, ((True) ∧ (∀ H' : Heap, H'.length = 3 → (True) → KCall prog 11 [.agg #[.int .i64 m.up.conc, .int .i64 m.up.thick, .int .i64 m.up.ridge, .int .i64 m.up.press, .int .i64 m.down.conc, .int .i64 m.down.thick, .int .i64 m.down.ridge, .int .i64 m.down.press]] H' [] (Is (.int .i64 r1) H')) ∧ ((((r0 : Int) != 0) = true → ((.bool ((r0 : Int) != 0) : Value) = .bool true ∧ (.tuple #[.agg #[.int .i64 0, .int .i64 0, .int .i64 0, .int .i64 0, .int .i64 0, .int .i64 0, .int .i64 0, .int .i64 0], .int .i64 r0] : Value) = sp)) ∧ (((r0 : Int) != 0) = false → ((((r1 : Int) != 0) = true → ((.bool ((r1 : Int) != 0) : Value) = .bool true ∧ (.tuple #[.agg #[.int .i64 0, .int .i64 0, .int .i64 0, .int .i64 0, .int .i64 0, .int .i64 0, .int .i64 0, .int .i64 0], .int .i64 r1] : Value) = sp)) ∧ (((r1 : Int) != 0) = false → (((decide ((0 : Int) ≤ hours)) = true → (((!(decide ((hours : Int) ≤ 10000))) = true → (.tuple #[.agg #[.int .i64 0, .int .i64 0, .int .i64 0, .int .i64 0, .int .i64 0, .int .i64 0, .int .i64 0, .int .i64 0], .int .i64 6] : Value) = sp) ∧ ((!(decide ((hours : Int) ≤ 10000))) = false → (∃ r2 : Int, ((True) ∧ (∀ H' : Heap, H'.length = 13 → (True) → KCall prog 74 [.int .i64 m.down.conc, .int .i64 hours] H' [] (Is (.int .i64 r2) H')) ∧ ((.int .i64 (IntKind.wrap .i64 (c.conc.lo - r2)) : Value) = .int .i64 (c.conc.lo - r2) ∧ (∃ y3 : Int, (.int .i64 (if (0 : Int) > (c.conc.lo - r2) then (0 : Int) else (c.conc.lo - r2)) : Value) = .int .i64 y3 ∧ (∃ r4 : Int, ((True) ∧ (∀ H' : Heap, H'.length = 13 → (True) → KCall prog 74 [.int .i64 m.up.conc, .int .i64 hours] H' [] (Is (.int .i64 r4) H')) ∧ ((.int .i64 (IntKind.wrap .i64 (c.conc.hi + r4)) : Value) = .int .i64 (c.conc.hi + r4) ∧ (∃ y5 : Int, (.int .i64 (if (100 : Int) < (c.conc.hi + r4) then (100 : Int) else (c.conc.hi + r4)) : Value) = .int .i64 y5 ∧ (∃ r6 : Int, ((True) ∧ (∀ H' : Heap, H'.length = 13 → (True) → KCall prog 74 [.int .i64 m.down.thick, .int .i64 hours] H' [] (Is (.int .i64 r6) H')) ∧ ((.int .i64 (IntKind.wrap .i64 (c.thick.lo - r6)) : Value) = .int .i64 (c.thick.lo - r6) ∧ (∃ y7 : Int, (.int .i64 (if (0 : Int) > (c.thick.lo - r6) then (0 : Int) else (c.thick.lo - r6)) : Value) = .int .i64 y7 ∧ (∃ r8 : Int, ((True) ∧ (∀ H' : Heap, H'.length = 13 → (True) → KCall prog 74 [.int .i64 m.up.thick, .int .i64 hours] H' [] (Is (.int .i64 r8) H')) ∧ ((.int .i64 (IntKind.wrap .i64 (c.thick.hi + r8)) : Value) = .int .i64 (c.thick.hi + r8) ∧ (∃ y9 : Int, (.int .i64 (if (400 : Int) < (c.thick.hi + r8) then (400 : Int) else (c.thick.hi + r8)) : Value) = .int .i64 y9 ∧ (∃ r10 : Int, ((True) ∧ (∀ H' : Heap, H'.length = 13 → (True) → KCall prog 74 [.int .i64 m.down.ridge, .int .i64 hours] H' [] (Is (.int .i64 r10) H')) ∧ ((.int .i64 (IntKind.wrap .i64 (c.ridge.lo - r10)) : Value) = .int .i64 (c.ridge.lo - r10) ∧ (∃ y11 : Int, (.int .i64 (if (0 : Int) > (c.ridge.lo - r10) then (0 : Int) else (c.ridge.lo - r10)) : Value) = .int .i64 y11 ∧ (∃ r12 : Int, ((True) ∧ (∀ H' : Heap, H'.length = 13 → (True) → KCall prog 74 [.int .i64 m.up.ridge, .int .i64 hours] H' [] (Is (.int .i64 r12) H')) ∧ ((.int .i64 (IntKind.wrap .i64 (c.ridge.hi + r12)) : Value) = .int .i64 (c.ridge.hi + r12) ∧ (∃ y13 : Int, (.int .i64 (if (100 : Int) < (c.ridge.hi + r12) then (100 : Int) else (c.ridge.hi + r12)) : Value) = .int .i64 y13 ∧ (∃ r14 : Int, ((True) ∧ (∀ H' : Heap, H'.length = 13 → (True) → KCall prog 74 [.int .i64 m.down.press, .int .i64 hours] H' [] (Is (.int .i64 r14) H')) ∧ ((.int .i64 (IntKind.wrap .i64 (c.press.lo - r14)) : Value) = .int .i64 (c.press.lo - r14) ∧ (∃ y15 : Int, (.int .i64 (if (0 : Int) > (c.press.lo - r14) then (0 : Int) else (c.press.lo - r14)) : Value) = .int .i64 y15 ∧ (∃ r16 : Int, ((True) ∧ (∀ H' : Heap, H'.length = 13 → (True) → KCall prog 74 [.int .i64 m.up.press, .int .i64 hours] H' [] (Is (.int .i64 r16) H')) ∧ ((.int .i64 (IntKind.wrap .i64 (c.press.hi + r16)) : Value) = .int .i64 (c.press.hi + r16) ∧ (∃ y17 : Int, (.int .i64 (if (3 : Int) < (c.press.hi + r16) then (3 : Int) else (c.press.hi + r16)) : Value) = .int .i64 y17 ∧ (.tuple #[.agg #[.int .i64 y3, .int .i64 y5, .int .i64 y7, .int .i64 y9, .int .i64 y11, .int .i64 y13, .int .i64 y15, .int .i64 y17], .int .i64 0] : Value) = sp))))))))))))))))))))))))))))))))))) ∧ ((decide ((0 : Int) ≤ hours)) = false → (.tuple #[.agg #[.int .i64 0, .int .i64 0, .int .i64 0, .int .i64 0, .int .i64 0, .int .i64 0, .int .i64 0, .int .i64 0], .int .i64 6] : Value) = sp))))))))))
theorem EAge (sp : Value) (c : Cell) (m : Rates) (hours : Int) : vF prog msk (dm 0) 100000 true 40 true 19 [.agg #[.int .i64 c.conc.lo, .int .i64 c.conc.hi, .int .i64 c.thick.lo, .int .i64 c.thick.hi, .int .i64 c.ridge.lo, .int .i64 c.ridge.hi, .int .i64 c.press.lo, .int .i64 c.press.hi], .agg #[.int .i64 m.up.conc, .int .i64 m.up.thick, .int .i64 m.up.ridge, .int .i64 m.up.press, .int .i64 m.down.conc, .int .i64 m.down.thick, .int .i64 m.down.ridge, .int .i64 m.down.press], .int .i64 hours] ⟨0, .leaf⟩ (some [])
  (.go 5 (.bind (Int) (fun r0 => .ans [] (.int .i64 r0) [] (.bind (Int) (fun r1 => .ans [] (.int .i64 r1) [] (.go 12 (.fork (.go 4 (.slot 16 (.bool true) (.auto))) (.go 8 (.fork (.go 4 (.slot 16 (.bool true) (.auto))) (.go 15 (.gfork (.go 5 (.fork (.auto) (.go 85 (.bind (Int) (fun r2 => .ans [] (.int .i64 r2) [] (.go 0 (.slot 16 (.int .i64 (c.conc.lo - r2)) (.go 0 (.bind Int (fun y3 => .slot 17 (.int .i64 y3) (.bind (Int) (fun r4 => .ans [] (.int .i64 r4) [] (.go 0 (.slot 27 (.int .i64 (c.conc.hi + r4)) (.go 5 (.bind Int (fun y5 => .slot 31 (.int .i64 y5) (.go 31 (.bind (Int) (fun r6 => .ans [] (.int .i64 r6) [] (.go 0 (.slot 16 (.int .i64 (c.thick.lo - r6)) (.go 0 (.bind Int (fun y7 => .slot 17 (.int .i64 y7) (.bind (Int) (fun r8 => .ans [] (.int .i64 r8) [] (.go 0 (.slot 27 (.int .i64 (c.thick.hi + r8)) (.go 5 (.bind Int (fun y9 => .slot 31 (.int .i64 y9) (.go 31 (.bind (Int) (fun r10 => .ans [] (.int .i64 r10) [] (.go 0 (.slot 16 (.int .i64 (c.ridge.lo - r10)) (.go 0 (.bind Int (fun y11 => .slot 17 (.int .i64 y11) (.bind (Int) (fun r12 => .ans [] (.int .i64 r12) [] (.go 0 (.slot 27 (.int .i64 (c.ridge.hi + r12)) (.go 5 (.bind Int (fun y13 => .slot 31 (.int .i64 y13) (.go 31 (.bind (Int) (fun r14 => .ans [] (.int .i64 r14) [] (.go 0 (.slot 16 (.int .i64 (c.press.lo - r14)) (.go 0 (.bind Int (fun y15 => .slot 17 (.int .i64 y15) (.bind (Int) (fun r16 => .ans [] (.int .i64 r16) [] (.go 0 (.slot 27 (.int .i64 (c.press.hi + r16)) (.go 5 (.bind Int (fun y17 => .slot 31 (.int .i64 y17) (.auto))))))))))))))))))))))))))))))))))))))))))))))))))))))))))))))) (.auto))))))))))))
  (fun v _ _ => v = sp) = RAge sp c m hours := by kernel_rfl
def RWhole (sp : Value)  : Prop :=
  (.agg #[.int .i64 0, .int .i64 100, .int .i64 0, .int .i64 400, .int .i64 0, .int .i64 100, .int .i64 0, .int .i64 3] : Value) = sp
theorem EWhole (sp : Value)  : vF prog msk (dm 0) 100000 true 40 true 28 [] ⟨0, .leaf⟩ (some [])
  (.auto)
  (fun v _ _ => v = sp) = RWhole sp  := by kernel_rfl
end
end Go.Proofs.Ythcjliffpebjaaa
/- Ice: the contracts of the functions of values alone. No condition. -/
namespace Go.Proofs.Ythcjliffpebjaaa
open Go Go.K
set_option maxRecDepth 100000
set_option linter.unusedVariables false
set_option linter.unusedSimpArgs false
noncomputable section
/-! ## What they compute -/
def rightS (s : Span) (m : Int) : Prop := 0 ≤ s.lo ∧ s.lo ≤ m ∧ s.lo ≤ s.hi ∧ s.hi ≤ m
def rightC (c : Cell) : Prop := rightS c.conc 100 ∧ rightS c.thick 400 ∧ rightS c.ridge 100 ∧ rightS c.press 3
def rightI (x : Ice) : Prop := (0 ≤ x.conc ∧ x.conc ≤ 100) ∧ (0 ≤ x.thick ∧ x.thick ≤ 400) ∧ (0 ≤ x.ridge ∧ x.ridge ≤ 100) ∧ 0 ≤ x.press ∧ x.press ≤ 3
def rateI (x : Ice) : Prop := (0 ≤ x.conc ∧ x.conc ≤ 1000) ∧ (0 ≤ x.thick ∧ x.thick ≤ 1000) ∧ (0 ≤ x.ridge ∧ x.ridge ≤ 1000) ∧ 0 ≤ x.press ∧ x.press ≤ 1000
def rightR (m : Rates) : Prop := rateI m.up ∧ rateI m.down
instance (s : Span) (m : Int) : Decidable (rightS s m) := by unfold rightS; infer_instance
instance (c : Cell) : Decidable (rightC c) := by unfold rightC; infer_instance
instance (x : Ice) : Decidable (rightI x) := by unfold rightI; infer_instance
instance (x : Ice) : Decidable (rateI x) := by unfold rateI; infer_instance
instance (m : Rates) : Decidable (rightR m) := by unfold rightR; infer_instance
def errCell (c : Cell) : Int := if rightC c then 0 else 20
def errIce (x : Ice) : Int := if rightI x then 0 else 20
def errRates (m : Rates) : Int := if rightR m then 0 else 6
def zeroC : Cell := ⟨⟨0, 0⟩, ⟨0, 0⟩, ⟨0, 0⟩, ⟨0, 0⟩⟩
def hasS (s : Span) (n : Int) : Prop := s.lo ≤ n ∧ n ≤ s.hi
def hasC (c : Cell) (x : Ice) : Prop := hasS c.conc x.conc ∧ hasS c.thick x.thick ∧ hasS c.ridge x.ridge ∧ hasS c.press x.press
def insS (s t : Span) : Prop := t.lo ≤ s.lo ∧ s.hi ≤ t.hi
def insC (a b : Cell) : Prop := insS a.conc b.conc ∧ insS a.thick b.thick ∧ insS a.ridge b.ridge ∧ insS a.press b.press
def okC (c : Cell) : Prop := c.conc.lo ≤ c.conc.hi ∧ c.thick.lo ≤ c.thick.hi ∧ c.ridge.lo ≤ c.ridge.hi ∧ c.press.lo ≤ c.press.hi
instance (s : Span) (n : Int) : Decidable (hasS s n) := by unfold hasS; infer_instance
instance (c : Cell) (x : Ice) : Decidable (hasC c x) := by unfold hasC; infer_instance
instance (s t : Span) : Decidable (insS s t) := by unfold insS; infer_instance
instance (a b : Cell) : Decidable (insC a b) := by unfold insC; infer_instance
instance (c : Cell) : Decidable (okC c) := by unfold okC; infer_instance
def meetS (s t : Span) : Span := ⟨max s.lo t.lo, min s.hi t.hi⟩
def meetC (a b : Cell) : Cell := ⟨meetS a.conc b.conc, meetS a.thick b.thick, meetS a.ridge b.ridge, meetS a.press b.press⟩
def hullS (s t : Span) : Span := ⟨min s.lo t.lo, max s.hi t.hi⟩
def hullC (a b : Cell) : Cell := ⟨hullS a.conc b.conc, hullS a.thick b.thick, hullS a.ridge b.ridge, hullS a.press b.press⟩
def chg (rate hours : Int) : Int := (rate * hours + 23) / 24
def ageS (s : Span) (u d h m : Int) : Span := ⟨max (s.lo - chg d h) 0, min (s.hi + chg u h) m⟩
def ageC (c : Cell) (m : Rates) (h : Int) : Cell := ⟨ageS c.conc m.up.conc m.down.conc h 100, ageS c.thick m.up.thick m.down.thick h 400, ageS c.ridge m.up.ridge m.down.ridge h 100, ageS c.press m.up.press m.down.press h 3⟩
def wholeC : Cell := ⟨⟨0, 100⟩, ⟨0, 400⟩, ⟨0, 100⟩, ⟨0, 3⟩⟩
def first2 (e f : Int) : Int := if e = 0 then f else e
def fHas (c : Cell) (x : Ice) : Bool × Int := if first2 (errCell c) (errIce x) = 0 then (decide (hasC c x), 0) else (false, first2 (errCell c) (errIce x))
def fInside (a b : Cell) : Bool × Int := if first2 (errCell a) (errCell b) = 0 then (decide (insC a b), 0) else (false, first2 (errCell a) (errCell b))
def fMeet (a b : Cell) : Cell × Int := if first2 (errCell a) (errCell b) = 0 then (if okC (meetC a b) then (meetC a b, 0) else (zeroC, 21)) else (zeroC, first2 (errCell a) (errCell b))
def fHull (a b : Cell) : Cell × Int := if first2 (errCell a) (errCell b) = 0 then (hullC a b, 0) else (zeroC, first2 (errCell a) (errCell b))
def fAge (c : Cell) (m : Rates) (h : Int) : Cell × Int :=
  if first2 (errCell c) (errRates m) = 0 then (if 0 ≤ h ∧ h ≤ 10000 then (ageC c m h, 0) else (zeroC, 6)) else (zeroC, first2 (errCell c) (errRates m))

/-! ## Numbers -/
theorem w64 {n : Int} (h : -9223372036854775808 ≤ n ∧ n ≤ 9223372036854775807) : IntKind.wrap .i64 n = n := IntWalk.i64_in n h
theorem v64 {n : Int} (h : -9223372036854775808 ≤ n ∧ n ≤ 9223372036854775807) : (Value.int .i64 (IntKind.wrap .i64 n)) = .int .i64 n := by rw [w64 h]
theorem mulb {a b A B : Int} (h1 : 0 ≤ a) (h2 : a ≤ A) (h3 : 0 ≤ b) (h4 : b ≤ B) : 0 ≤ a * b ∧ a * b ≤ A * B :=
  ⟨Int.mul_nonneg h1 h3, Int.mul_le_mul h2 h4 h3 (Int.le_trans h1 h2)⟩

/-! ## Contracts -/
theorem errCell_pos {c : Cell} (h : rightC c) : errCell c = 0 := if_pos h
theorem errCell_neg {c : Cell} (h : ¬ rightC c) : errCell c = 20 := if_neg h
theorem errIce_pos {c : Ice} (h : rightI c) : errIce c = 0 := if_pos h
theorem errIce_neg {c : Ice} (h : ¬ rightI c) : errIce c = 20 := if_neg h
theorem errRates_pos {c : Rates} (h : rightR c) : errRates c = 0 := if_pos h
theorem errRates_neg {c : Rates} (h : ¬ rightR c) : errRates c = 6 := if_neg h
theorem errCell_iff {c : Cell} : errCell c = 0 ↔ rightC c := by unfold errCell; split <;> simp_all
theorem errIce_iff {c : Ice} : errIce c = 0 ↔ rightI c := by unfold errIce; split <;> simp_all
theorem errRates_iff {c : Rates} : errRates c = 0 ↔ rightR c := by unfold errRates; split <;> simp_all
theorem kCheckCell (c : Cell) (H : Heap) : KCall prog F.ice_CheckCell [cellV c] H [] (Is (.int .i64 (errCell c)) H) := by
  refine valK 40 (fun _ => rfl) rfl (Eq.mpr (ECheckCell _ c) ?_) H
  unfold RCheckCell
  simp only [decide_eq_true_eq, decide_eq_false_iff_not, Bool.not_eq_true', Bool.not_eq_false']
  repeat' (first | apply And.intro | intro _)
  all_goals first
    | exact i64_eq (errCell_neg (by unfold rightC rightS; omega)).symm
    | exact i64_eq (errCell_pos (by unfold rightC rightS; omega)).symm
theorem kCheckIce (x : Ice) (H : Heap) : KCall prog F.ice_CheckIce [iceV x] H [] (Is (.int .i64 (errIce x)) H) := by
  refine valK 40 (fun _ => rfl) rfl (Eq.mpr (ECheckIce _ x) ?_) H
  unfold RCheckIce
  simp only [decide_eq_true_eq, decide_eq_false_iff_not, Bool.not_eq_true', Bool.not_eq_false']
  repeat' (first | apply And.intro | intro _)
  all_goals first
    | exact i64_eq (errIce_neg (by unfold rightI; omega)).symm
    | exact i64_eq (errIce_pos (by unfold rightI; omega)).symm
theorem kCheckRates (m : Rates) (H : Heap) : KCall prog F.ice_CheckRates [ratesV m] H [] (Is (.int .i64 (errRates m)) H) := by
  refine valK 40 (fun _ => rfl) rfl (Eq.mpr (ECheckRates _ m) ?_) H
  unfold RCheckRates
  simp only [decide_eq_true_eq, decide_eq_false_iff_not, Bool.not_eq_true', Bool.not_eq_false']
  repeat' (first | apply And.intro | intro _)
  all_goals first
    | exact i64_eq (errRates_neg (by unfold rightR rateI; omega)).symm
    | exact i64_eq (errRates_pos (by unfold rightR rateI; omega)).symm
theorem tmod_emod {x n : Int} (hn : 1 ≤ n) : (Int.tmod x n < 0 → Int.tmod x n + n = x % n) ∧ (¬ Int.tmod x n < 0 → Int.tmod x n = x % n) ∧ -n < Int.tmod x n ∧ Int.tmod x n < n := by
  have h1 := Int.mul_tdiv_add_tmod x n
  have h2 := Int.lt_tmod_of_pos x (by omega : 0 < n)
  have h3 := Int.tmod_lt_of_pos x (by omega : 0 < n)
  refine ⟨fun h => ?_, fun h => ?_, h2, h3⟩
  · have : x = (Int.tmod x n + n) + n * (x.tdiv n - 1) := by rw [Int.mul_sub]; omega
    rw [this, Int.add_mul_emod_self_left, ← this]
    exact (Int.emod_eq_of_lt (by omega) (by omega)).symm
  · have : x = Int.tmod x n + n * x.tdiv n := by omega
    conv => rhs; rw [this, Int.add_mul_emod_self_left]
    exact (Int.emod_eq_of_lt (by omega) (by omega)).symm
theorem kPick (x n : Int) (h1 : 1 ≤ n) (h2 : n ≤ 9223372036854775807) (H : Heap) : KCall prog F.polynyakit_Pick [.int .i64 x, .int .i64 n] H [] (Is (.int .i64 (x % n)) H) := by
  refine valK 40 (fun _ => rfl) rfl (Eq.mpr (EPick _ x n) ?_) H
  obtain ⟨t1, t2, t3, t4⟩ := tmod_emod (x := x) h1
  unfold RPick
  simp only [decide_eq_true_eq, decide_eq_false_iff_not]
  refine ⟨fun h => by omega, fun _ => ⟨by omega, fun h => ⟨v64 (by omega), i64_eq (t1 h)⟩, fun h => i64_eq (t2 h)⟩⟩
theorem kchange (rate hours : Int) (h1 : 0 ≤ rate ∧ rate ≤ 1000) (h2 : 0 ≤ hours ∧ hours ≤ 10000) (H : Heap) : KCall prog F.ice_change [.int .i64 rate, .int .i64 hours] H [] (Is (.int .i64 (chg rate hours)) H) := by
  refine valK 40 (fun _ => rfl) rfl (Eq.mpr (Echange _ rate hours) ?_) H
  have hb := mulb h1.1 h1.2 h2.1 h2.2
  have ht : Int.tdiv (rate * hours + 24 - 1) 24 = (rate * hours + 24 - 1) / 24 := Int.tdiv_eq_ediv_of_nonneg (by omega)
  unfold Rchange
  refine ⟨v64 (by omega), v64 (by omega), v64 (by omega), v64 (by rw [ht]; omega), i64_eq ?_⟩
  rw [ht]; unfold chg; congr 1; omega

/-! ## Two errors, then an answer -/
theorem first2_1 {e f : Int} (h : ¬ e = 0) : first2 e f = e := if_neg h
theorem first2_2 {e f : Int} (h : e = 0) : first2 e f = f := if_pos h
theorem vbool {b : Bool} (h : b = true) : (Value.bool b) = .bool true := by rw [h]
theorem vne {e : Int} (h : ¬ e = 0) : (Value.bool (e != 0)) = .bool true := vbool (by simp [h])
theorem tupB {b : Bool} {e : Int} {r : Bool × Int} (h : r = (b, e)) : (Value.tuple #[.bool b, .int .i64 e]) = .tuple #[.bool r.1, .int .i64 r.2] := by rw [h]
theorem tupC {a b c d e f g i n : Int} {r : Cell × Int} (h : r = (⟨⟨a, b⟩, ⟨c, d⟩, ⟨e, f⟩, ⟨g, i⟩⟩, n)) :
    (Value.tuple #[.agg #[.int .i64 a, .int .i64 b, .int .i64 c, .int .i64 d, .int .i64 e, .int .i64 f, .int .i64 g, .int .i64 i], .int .i64 n]) = .tuple #[cellV r.1, .int .i64 r.2] := by rw [h]
theorem fHas_1 {c : Cell} {x : Ice} (h : ¬ errCell c = 0) : fHas c x = (false, errCell c) := by unfold fHas; rw [first2_1 h, if_neg h]
theorem fHas_2 {c : Cell} {x : Ice} (h : errCell c = 0) (k : ¬ errIce x = 0) : fHas c x = (false, errIce x) := by unfold fHas; rw [first2_2 h, if_neg k]
theorem fHas_3 {c : Cell} {x : Ice} {b : Bool} (h : errCell c = 0) (k : errIce x = 0) (hb : decide (hasC c x) = b) : fHas c x = (b, 0) := by unfold fHas; rw [first2_2 h, if_pos k, hb]
theorem fInside_1 {a b : Cell} (h : ¬ errCell a = 0) : fInside a b = (false, errCell a) := by unfold fInside; rw [first2_1 h, if_neg h]
theorem fInside_2 {a b : Cell} (h : errCell a = 0) (k : ¬ errCell b = 0) : fInside a b = (false, errCell b) := by unfold fInside; rw [first2_2 h, if_neg k]
theorem fInside_3 {a b : Cell} {r : Bool} (h : errCell a = 0) (k : errCell b = 0) (hb : decide (insC a b) = r) : fInside a b = (r, 0) := by unfold fInside; rw [first2_2 h, if_pos k, hb]
theorem fMeet_1 {a b : Cell} (h : ¬ errCell a = 0) : fMeet a b = (zeroC, errCell a) := by unfold fMeet; rw [first2_1 h, if_neg h]
theorem fMeet_2 {a b : Cell} (h : errCell a = 0) (k : ¬ errCell b = 0) : fMeet a b = (zeroC, errCell b) := by unfold fMeet; rw [first2_2 h, if_neg k]
theorem fMeet_3 {a b : Cell} (h : errCell a = 0) (k : errCell b = 0) (hb : ¬ okC (meetC a b)) : fMeet a b = (zeroC, 21) := by unfold fMeet; rw [first2_2 h, if_pos k, if_neg hb]
theorem fMeet_4 {a b : Cell} (h : errCell a = 0) (k : errCell b = 0) (hb : okC (meetC a b)) : fMeet a b = (meetC a b, 0) := by unfold fMeet; rw [first2_2 h, if_pos k, if_pos hb]
theorem fHull_1 {a b : Cell} (h : ¬ errCell a = 0) : fHull a b = (zeroC, errCell a) := by unfold fHull; rw [first2_1 h, if_neg h]
theorem fHull_2 {a b : Cell} (h : errCell a = 0) (k : ¬ errCell b = 0) : fHull a b = (zeroC, errCell b) := by unfold fHull; rw [first2_2 h, if_neg k]
theorem fHull_3 {a b : Cell} (h : errCell a = 0) (k : errCell b = 0) : fHull a b = (hullC a b, 0) := by unfold fHull; rw [first2_2 h, if_pos k]
theorem fAge_1 {c : Cell} {m : Rates} {h : Int} (k : ¬ errCell c = 0) : fAge c m h = (zeroC, errCell c) := by unfold fAge; rw [first2_1 k, if_neg k]
theorem fAge_2 {c : Cell} {m : Rates} {h : Int} (k : errCell c = 0) (l : ¬ errRates m = 0) : fAge c m h = (zeroC, errRates m) := by unfold fAge; rw [first2_2 k, if_neg l]
theorem fAge_3 {c : Cell} {m : Rates} {h : Int} (k : errCell c = 0) (l : errRates m = 0) (q : ¬ (0 ≤ h ∧ h ≤ 10000)) : fAge c m h = (zeroC, 6) := by unfold fAge; rw [first2_2 k, if_pos l, if_neg q]
theorem fAge_4 {c : Cell} {m : Rates} {h : Int} (k : errCell c = 0) (l : errRates m = 0) (q : 0 ≤ h ∧ h ≤ 10000) : fAge c m h = (ageC c m h, 0) := by unfold fAge; rw [first2_2 k, if_pos l, if_pos q]
theorem kHas (c : Cell) (x : Ice) (H : Heap) : KCall prog F.ice_Has [cellV c, iceV x] H [] (Is (.tuple #[.bool (fHas c x).1, .int .i64 (fHas c x).2]) H) := by
  refine valK 40 (fun _ => rfl) rfl (Eq.mpr (EHas _ c x) ?_) H
  unfold RHas
  refine ⟨_, trivial, fun H' _ _ => kCheckCell c H', _, trivial, fun H' _ _ => kCheckIce x H', ?_⟩
  simp only [decide_eq_true_eq, decide_eq_false_iff_not, Bool.not_eq_true', Bool.not_eq_false', bne_iff_ne, ne_eq, bne_eq_false_iff_eq]
  repeat' (first | apply And.intro | intro _)
  all_goals first
    | exact vne (by assumption)
    | exact tupB (fHas_1 (by assumption))
    | exact tupB (fHas_2 (by assumption) (by assumption))
    | exact tupB (fHas_3 (by assumption) (by assumption) (decide_eq_false (by unfold hasC hasS; omega)))
    | exact tupB (fHas_3 (by assumption) (by assumption) (decide_eq_true (by unfold hasC hasS; omega)))
theorem kInside (a b : Cell) (H : Heap) : KCall prog F.ice_Inside [cellV a, cellV b] H [] (Is (.tuple #[.bool (fInside a b).1, .int .i64 (fInside a b).2]) H) := by
  refine valK 40 (fun _ => rfl) rfl (Eq.mpr (EInside _ a b) ?_) H
  unfold RInside
  refine ⟨_, trivial, fun H' _ _ => kCheckCell a H', _, trivial, fun H' _ _ => kCheckCell b H', ?_⟩
  simp only [decide_eq_true_eq, decide_eq_false_iff_not, Bool.not_eq_true', Bool.not_eq_false', bne_iff_ne, ne_eq, bne_eq_false_iff_eq]
  repeat' (first | apply And.intro | intro _)
  all_goals first
    | exact vne (by assumption)
    | exact tupB (fInside_1 (by assumption))
    | exact tupB (fInside_2 (by assumption) (by assumption))
    | exact tupB (fInside_3 (by assumption) (by assumption) (decide_eq_false (by unfold insC insS; omega)))
    | exact tupB (fInside_3 (by assumption) (by assumption) (decide_eq_true (by unfold insC insS; omega)))
theorem kMeet (a b : Cell) (H : Heap) : KCall prog F.ice_Meet [cellV a, cellV b] H [] (Is (.tuple #[cellV (fMeet a b).1, .int .i64 (fMeet a b).2]) H) := by
  refine valK 40 (fun _ => rfl) rfl (Eq.mpr (EMeet _ a b) ?_) H
  unfold RMeet
  refine ⟨_, trivial, fun H' _ _ => kCheckCell a H', _, trivial, fun H' _ _ => kCheckCell b H', ?_⟩
  simp only [decide_eq_true_eq, decide_eq_false_iff_not, Bool.not_eq_true', Bool.not_eq_false', bne_iff_ne, ne_eq, bne_eq_false_iff_eq]
  refine ⟨fun h => ⟨vne h, tupC (fMeet_1 h)⟩, fun h0 => ⟨fun h => ⟨vne h, tupC (fMeet_2 h0 h)⟩, fun h1 => ?_⟩⟩
  refine ⟨max a.conc.lo b.conc.lo, i64_eq (by split <;> omega), min a.conc.hi b.conc.hi, i64_eq (by split <;> omega), max a.thick.lo b.thick.lo, i64_eq (by split <;> omega), min a.thick.hi b.thick.hi, i64_eq (by split <;> omega),
    max a.ridge.lo b.ridge.lo, i64_eq (by split <;> omega), min a.ridge.hi b.ridge.hi, i64_eq (by split <;> omega), max a.press.lo b.press.lo, i64_eq (by split <;> omega), min a.press.hi b.press.hi, i64_eq (by split <;> omega), ?_⟩
  repeat' (first | apply And.intro | intro _)
  all_goals first
    | exact tupC (fMeet_3 h0 h1 (by unfold okC meetC meetS; simp only; omega))
    | exact tupC (fMeet_4 h0 h1 (by unfold okC meetC meetS; simp only; omega))
theorem kHull (a b : Cell) (H : Heap) : KCall prog F.ice_Hull [cellV a, cellV b] H [] (Is (.tuple #[cellV (fHull a b).1, .int .i64 (fHull a b).2]) H) := by
  refine valK 40 (fun _ => rfl) rfl (Eq.mpr (EHull _ a b) ?_) H
  unfold RHull
  refine ⟨_, trivial, fun H' _ _ => kCheckCell a H', _, trivial, fun H' _ _ => kCheckCell b H', ?_⟩
  simp only [decide_eq_true_eq, decide_eq_false_iff_not, Bool.not_eq_true', Bool.not_eq_false', bne_iff_ne, ne_eq, bne_eq_false_iff_eq]
  refine ⟨fun h => ⟨vne h, tupC (fHull_1 h)⟩, fun h0 => ⟨fun h => ⟨vne h, tupC (fHull_2 h0 h)⟩, fun h1 => ?_⟩⟩
  refine ⟨min a.conc.lo b.conc.lo, i64_eq (by split <;> omega), max a.conc.hi b.conc.hi, i64_eq (by split <;> omega), min a.thick.lo b.thick.lo, i64_eq (by split <;> omega), max a.thick.hi b.thick.hi, i64_eq (by split <;> omega),
    min a.ridge.lo b.ridge.lo, i64_eq (by split <;> omega), max a.ridge.hi b.ridge.hi, i64_eq (by split <;> omega), min a.press.lo b.press.lo, i64_eq (by split <;> omega), max a.press.hi b.press.hi, i64_eq (by split <;> omega), ?_⟩
  exact tupC (fHull_3 h0 h1)
theorem chg_bd {r h : Int} (h1 : 0 ≤ r ∧ r ≤ 1000) (h2 : 0 ≤ h ∧ h ≤ 10000) : 0 ≤ chg r h ∧ chg r h ≤ 500000 := by
  have := mulb h1.1 h1.2 h2.1 h2.2
  unfold chg; omega
theorem kAge (c : Cell) (m : Rates) (h : Int) (H : Heap) : KCall prog F.ice_Age [cellV c, ratesV m, .int .i64 h] H [] (Is (.tuple #[cellV (fAge c m h).1, .int .i64 (fAge c m h).2]) H) := by
  refine valK 40 (fun _ => rfl) rfl (Eq.mpr (EAge _ c m h) ?_) H
  unfold RAge
  refine ⟨_, trivial, fun H' _ _ => kCheckCell c H', _, trivial, fun H' _ _ => kCheckRates m H', ?_⟩
  simp only [decide_eq_true_eq, decide_eq_false_iff_not, Bool.not_eq_true', Bool.not_eq_false', bne_iff_ne, ne_eq, bne_eq_false_iff_eq]
  refine ⟨fun h => ⟨vne h, tupC (fAge_1 h)⟩, fun h0 => ⟨fun h => ⟨vne h, tupC (fAge_2 h0 h)⟩, fun h1 => ⟨fun h2 => ⟨fun h3 => tupC (fAge_3 h0 h1 (by omega)), fun h3 => ?_⟩, fun h2 => tupC (fAge_3 h0 h1 (by omega))⟩⟩⟩
  obtain ⟨⟨u1, u2, u3, u4⟩, d1, d2, d3, d4⟩ := errRates_iff.1 h1
  obtain ⟨c1, c2, c3, c4⟩ := errCell_iff.1 h0
  unfold rightS at c1 c2 c3 c4
  have bd := fun (r : Int) (hr : 0 ≤ r ∧ r ≤ 1000) => chg_bd hr ⟨h2, h3⟩
  have b1 := bd _ u1; have b2 := bd _ u2; have b3 := bd _ u3; have b4 := bd _ u4
  have e1 := bd _ d1; have e2 := bd _ d2; have e3 := bd _ d3; have e4 := bd _ d4
  refine ⟨_, trivial, fun H' _ _ => kchange _ _ d1 ⟨h2, h3⟩ H', v64 (by omega), max (c.conc.lo - chg m.down.conc h) 0, i64_eq (by split <;> omega), _, trivial, fun H' _ _ => kchange _ _ u1 ⟨h2, h3⟩ H', v64 (by omega), min (c.conc.hi + chg m.up.conc h) 100, i64_eq (by split <;> omega),
    _, trivial, fun H' _ _ => kchange _ _ d2 ⟨h2, h3⟩ H', v64 (by omega), max (c.thick.lo - chg m.down.thick h) 0, i64_eq (by split <;> omega), _, trivial, fun H' _ _ => kchange _ _ u2 ⟨h2, h3⟩ H', v64 (by omega), min (c.thick.hi + chg m.up.thick h) 400, i64_eq (by split <;> omega),
    _, trivial, fun H' _ _ => kchange _ _ d3 ⟨h2, h3⟩ H', v64 (by omega), max (c.ridge.lo - chg m.down.ridge h) 0, i64_eq (by split <;> omega), _, trivial, fun H' _ _ => kchange _ _ u3 ⟨h2, h3⟩ H', v64 (by omega), min (c.ridge.hi + chg m.up.ridge h) 100, i64_eq (by split <;> omega),
    _, trivial, fun H' _ _ => kchange _ _ d4 ⟨h2, h3⟩ H', v64 (by omega), max (c.press.lo - chg m.down.press h) 0, i64_eq (by split <;> omega), _, trivial, fun H' _ _ => kchange _ _ u4 ⟨h2, h3⟩ H', v64 (by omega), min (c.press.hi + chg m.up.press h) 3, i64_eq (by split <;> omega), ?_⟩
  exact tupC (fAge_4 h0 h1 ⟨h2, h3⟩)
theorem kWhole (H : Heap) : KCall prog F.ice_Whole [] H [] (Is (cellV wholeC) H) := valK 40 (fun _ => rfl) rfl (Eq.mpr (EWhole _) rfl) H
end
end Go.Proofs.Ythcjliffpebjaaa
/- Ice: lists of errors; the first cell, ice, report. No condition. -/
namespace Go.Proofs.Ythcjliffpebjaaa
set_option linter.unusedSimpArgs false
set_option linter.unusedVariables false
open Go Go.K
noncomputable section
def zeroI : Ice := ⟨0, 0, 0, 0⟩
def zeroR : Report := ⟨0, 0, 0, 0, 0, 0, zeroC⟩
def errs {α : Type} (e : α → Int) : List α → Int
  | [] => 0
  | x :: r => if e x = 0 then errs e r else e x
end
end Go.Proofs.Ythcjliffpebjaaa
/- What is to be shown of functions. Printed by a program. No condition. -/
namespace Go.Proofs.Ythcjliffpebjaaa
set_option linter.unusedSimpArgs false
open Go Go.K
set_option maxRecDepth 100000
set_option linter.unusedVariables false
noncomputable section
def RwrongI (sp : Value) (xs : List Ice) : Prop :=
  (true = true ∧ (0 ≤ List.length xs ∧ sp = .int .i64 (errs errIce (List.drop 0 xs))) ∧ (true = true ∧ ((.int .i64 0 : Value) = .int .i64 ((0 : Nat) : Int) ∧ (.func (.func 51) #[] #[] : Value) = .func (.func 51) #[] #[] ∧ wk (.slice (some ⟨0, 0, some 2⟩) (List.length xs) (List.length xs) : Value) (.slice (some ⟨0, 0, some 2⟩) (List.length xs) (List.length xs) : Value) ∧ (.int .i64 (((List.length xs) : Nat) : Int) : Value) = .int .i64 (((List.length xs) : Nat) : Int) ∧ True) ∧ (True) ∧ (True) ∧ (True)) ∧ (∀ x0 : Nat, true = true) ∧ ∀ x0 : Nat, (x0 ≤ List.length xs ∧ sp = .int .i64 (errs errIce (List.drop x0 xs))) → (((decide ((((x0 : Nat) : Int) : Int) < (((List.length xs) : Nat) : Int))) = true → (((0 : Int) ≤ ((x0 : Nat) : Int) ∧ (((x0 : Nat) : Int) : Int) < (((List.length xs) : Nat) : Int)) ∧ ((partA 4 (List.flatMap iceC xs) (0 + Int.toNat ((x0 : Nat) : Int) * 4) = some (.agg #[.int .i64 (List.getD xs x0 zeroI).conc, .int .i64 (List.getD xs x0 zeroI).thick, .int .i64 (List.getD xs x0 zeroI).ridge, .int .i64 (List.getD xs x0 zeroI).press])) ∧ (∃ r1 : Int, ((True) ∧ (∀ H' : Heap, H'.length = 2 → (True) → KCall prog 51 [.agg #[.int .i64 (List.getD xs x0 zeroI).conc, .int .i64 (List.getD xs x0 zeroI).thick, .int .i64 (List.getD xs x0 zeroI).ridge, .int .i64 (List.getD xs x0 zeroI).press]] H' [] (Is (.int .i64 r1) H')) ∧ ((((r1 : Int) != 0) = true → (.int .i64 r1 : Value) = sp) ∧ (((r1 : Int) != 0) = false → ((.int .i64 (IntKind.wrap .i64 (((x0 : Nat) : Int) + 1)) : Value) = .int .i64 (((x0 : Nat) : Int) + 1) ∧ (∃ x0' : Nat, (x0' ≤ List.length xs ∧ sp = .int .i64 (errs errIce (List.drop x0' xs))) ∧ (List.length xs - x0') < (List.length xs - x0) ∧ true = true ∧ ((.int .i64 (((x0 : Nat) : Int) + 1) : Value) = .int .i64 ((x0' : Nat) : Int) ∧ (.func (.func 51) #[] #[] : Value) = .func (.func 51) #[] #[] ∧ wk (.slice (some ⟨0, 0, some 2⟩) (List.length xs) (List.length xs) : Value) (.slice (some ⟨0, 0, some 2⟩) (List.length xs) (List.length xs) : Value) ∧ (.int .i64 (((List.length xs) : Nat) : Int) : Value) = .int .i64 (((List.length xs) : Nat) : Int) ∧ True) ∧ (True) ∧ (True) ∧ (True)))))))))) ∧ ((decide ((((x0 : Nat) : Int) : Int) < (((List.length xs) : Nat) : Int))) = false → (.int .i64 0 : Value) = sp)))
theorem EwrongI (sp : Value) (xs : List Ice) : vF prog msk (dm 0) 100000 true 40 true 50 [.slice (some ⟨0, 0, some 2⟩) (List.length xs) (List.length xs), .func (.func 51) #[] #[]] (readsT 0 [xs.flatMap iceC]) (some [])
  (.go 3 (.inv 3 (Nat) (0) [] [] (fun x0 => [(10, .int .i64 ((x0 : Nat) : Int)), (1, .func (.func 51) #[] #[]), (8, .slice (some ⟨0, 0, some 2⟩) (List.length xs) (List.length xs)), (9, .int .i64 (((List.length xs) : Nat) : Int))]) (fun x0 => []) (fun x0 => []) (fun x0 => []) (fun x0 => (x0 ≤ List.length xs ∧ sp = .int .i64 (errs errIce (List.drop x0 xs)))) (fun x0 => (List.length xs - x0)) (fun x0 => .go 0 (.fork (.need (.val (.agg #[.int .i64 (List.getD xs x0 zeroI).conc, .int .i64 (List.getD xs x0 zeroI).thick, .int .i64 (List.getD xs x0 zeroI).ridge, .int .i64 (List.getD xs x0 zeroI).press]) (.go 3 (.bind (Int) (fun r1 => .ans [] (.int .i64 r1) [] (.go 2 (.fork (.auto) (.go 0 (.slot 20 (.int .i64 (((x0 : Nat) : Int) + 1)) (.go 0 (.again []))))))))))) (.auto)))))
  (fun v _ _ => v = sp) = RwrongI sp xs := by kernel_rfl
end
end Go.Proofs.Ythcjliffpebjaaa
/- Ice: the reference's functions of values; lists of errors. No condition. -/
namespace Go.Proofs.Ythcjliffpebjaaa
open Go Go.K
set_option maxRecDepth 100000
set_option linter.unusedVariables false
set_option linter.unusedSimpArgs false
noncomputable section
attribute [local irreducible] vF
/-! ## Lists -/
theorem valR {f : FuncId} {args : List Value} {css : List (List Value)} {h : Hint} {v : Value} (hc : vF prog msk (dm 0) 100000 true 40 true f args (readsT 0 css) (some []) h (fun v' _ _ => v' = v)) (hcss : ∀ cs ∈ css, cs.all (belowC 0) = true) (hv : belowV 0 v = true)
    {H : Heap} (ids : List Nat) (hl : ids.length = css.length) (hids : ∀ (k : Nat) (cs : List Value), css[k]? = some cs → ∃ id own z, ids[k]? = some id ∧ H[id]? = some (KObj.cells own z cs)) :
    KCall prog f (args.map (rn (sgR 0 ids) 5)) H [] (Is v H) := by
  have := vcR0 (H := H) mskOk mixed 40 (v := v) hcss (by rw [glob0]; exact hc) hv ids hl hids
  rw [glob0] at this; exact this
theorem valN {f : FuncId} {args : List Value} {css : List (List Value)} {h : Hint} {v : Value} {new : List (Bool × KObj)} (hc : vF prog msk (dm 0) 100000 true 40 true f args (readsT 0 css) (some []) h (newK (readsT 0 css).n 3 v new)) (hcss : ∀ cs ∈ css, cs.all (belowC 0) = true)
    (hv : rnOk 3 v = true) (hv2 : rn (sgOnly (0 + css.length)) 3 v = v) (hn : (new.map (·.2)).all (fun o => rnoOk 3 o && o.owned) = true) (hn2 : (new.map (·.2)).map (rno (sgOnly (0 + css.length)) 3) = new.map (·.2))
    {H : Heap} (ids : List Nat) (hl : ids.length = css.length) (hids : ∀ (k : Nat) (cs : List Value), css[k]? = some cs → ∃ id own z, ids[k]? = some id ∧ H[id]? = some (KObj.cells own z cs)) :
    KCall prog f (args.map (rn (sgR 0 ids) 3)) H [] (Is (rn (sgUp (0 + css.length) H.length) 3 v) (H ++ (new.map (·.2)).map (rno (sgUp (0 + css.length) H.length) 3))) := by
  have := vcR (H := H) mskOk mixed 40 (v := v) (new := new) hcss (by rw [glob0]; exact hc) hv (by rw [glob0]; exact hv2) hn (by rw [glob0]; exact hn2) ids hl hids
  rw [glob0] at this; exact this
/-- A function that answers with a list. -/
theorem valL {f : FuncId} {args : List Value} {css : List (List Value)} {h : Hint} {n z : Nat} {cs : List Value} (hc : vF prog msk (dm 0) 100000 true 40 true f args (readsT 0 css) (some []) h (newK (readsT 0 css).n 3 (.slice (some ⟨css.length, 0, some 1⟩) n n) [(true, .cells true z cs)]))
    (hcs : cs.all (belowC 0) = true) (hcss : ∀ cs ∈ css, cs.all (belowC 0) = true)
    {H : Heap} (ids : List Nat) (hl : ids.length = css.length) (hids : ∀ (k : Nat) (cs : List Value), css[k]? = some cs → ∃ id own z, ids[k]? = some id ∧ H[id]? = some (KObj.cells own z cs)) :
    KCall prog f (args.map (rn (sgR 0 ids) 3)) H [] (Is (.slice (some ⟨H.length, 0, some 1⟩) n n) (H ++ [.cells true z cs])) := by
  have := valN hc hcss rfl (by simp [rn, sgOnly]) (by
    show ((rnoOk 3 (.cells true z cs) && true) && true) = true
    rw [Bool.and_true, Bool.and_true]; exact (rnCl (σ := fun _ => none) (d := 0) hcs).2) (congrArg (fun l => [KObj.cells true z l]) (rnCl (d := 0) hcs).1) ids hl hids
  have e1 : rn (sgUp (0 + css.length) H.length) 3 (.slice (some ⟨css.length, 0, some 1⟩) n n) = .slice (some ⟨H.length, 0, some 1⟩) n n := by simp [rn, sgUp]
  have e2 : (List.map (fun x : Bool × KObj => x.2) [(true, KObj.cells true z cs)]).map (rno (sgUp (0 + css.length) H.length) 3) = [.cells true z cs] := congrArg (fun l => [KObj.cells true z l]) (rnCl (d := 0) hcs).1
  rw [e1, e2] at this
  exact this
theorem one_id {H : Heap} {id : Nat} {own : Bool} {z : Nat} {cs : List Value} (hid : H[id]? = some (.cells own z cs)) : ∀ (k : Nat) (c : List Value), [cs][k]? = some c → ∃ id' own z, [id][k]? = some id' ∧ H[id']? = some (KObj.cells own z c) := by
  intro k c h
  match k with
  | 0 => cases h; exact ⟨id, own, z, rfl, hid⟩
theorem one_cs {cs : List Value} (h : cs.all (belowC 0) = true) : ∀ c ∈ [cs], c.all (belowC 0) = true := by intro c hc; rw [List.mem_singleton.1 hc]; exact h
theorem iceC_len (x : Ice) : (iceC x).length = 4 := rfl
theorem partIce {xs : List Ice} {x : Nat} (h : x < xs.length) : partA 4 (List.flatMap iceC xs) (0 + Int.toNat ((x : Nat) : Int) * 4) = some (.agg #[.int .i64 (List.getD xs x zeroI).conc, .int .i64 (List.getD xs x zeroI).thick, .int .i64 (List.getD xs x zeroI).ridge, .int .i64 (List.getD xs x zeroI).press]) :=
  (part_at (f := iceC) (d := zeroI) (c := 0) (m := 4) iceC_len h (by rw [Int.toNat_natCast]; omega) (by decide)).trans rfl
theorem drop_at {α : Type} {xs : List α} {d : α} {k : Nat} (hk : k < xs.length) : xs.drop k = xs.getD k d :: xs.drop (k + 1) := by
  rw [List.drop_eq_getElem_cons hk, List.getD_eq_getElem?_getD, List.getElem?_eq_getElem hk]; rfl
theorem take_at {α : Type} {xs : List α} {d : α} {k : Nat} (hk : k < xs.length) : xs.take (k + 1) = xs.take k ++ [xs.getD k d] := by
  rw [List.take_add_one, List.getElem?_eq_getElem hk, List.getD_eq_getElem?_getD, List.getElem?_eq_getElem hk]; rfl
theorem errs_at {α : Type} {e : α → Int} {xs : List α} {d : α} {k : Nat} (hk : k < xs.length) : errs e (xs.drop k) = if e (xs.getD k d) = 0 then errs e (xs.drop (k + 1)) else e (xs.getD k d) := by
  rw [drop_at (d := d) hk]; rfl
theorem kwrongI (xs : List Ice) (hn : xs.length ≤ 2 ^ 30) {H : Heap} {id : Nat} {own : Bool} {z : Nat} (hid : H[id]? = some (.cells own z (xs.flatMap iceC))) :
    KCall prog F.ice_wrong_ice_Ice_ [.slice (some ⟨id, 0, some 2⟩) xs.length xs.length, .func (.func F.ice_CheckIce) #[] #[]] H [] (Is (.int .i64 (errs errIce xs)) H) := by
  refine valR (Eq.mpr (EwrongI _ xs) ?_) (one_cs (plain_flat (fun _ => rfl) xs)) rfl [id] rfl (one_id hid)
  unfold RwrongI
  refine ⟨rfl, ⟨Nat.zero_le _, rfl⟩, ⟨rfl, ⟨rfl, rfl, wk_refl _, rfl, trivial⟩, trivial, trivial, trivial⟩, fun _ => rfl, ?_⟩
  rintro x ⟨hx, hsp⟩
  refine ⟨fun h => ?_, fun h => ?_⟩
  · have hlt : x < xs.length := by have := of_decide_eq_true h; omega
    refine ⟨⟨by omega, by omega⟩, partIce hlt, _, trivial, fun H' _ _ => kCheckIce _ H', fun h1 => ?_, fun h1 => ?_⟩
    · rw [hsp, errs_at (d := zeroI) hlt, if_neg (by simpa using h1)]
    · refine ⟨v64 (by omega), x + 1, ⟨hlt, ?_⟩, by omega, rfl, ⟨i64_eq (by omega), rfl, wk_refl _, rfl, trivial⟩, trivial, trivial, trivial⟩
      rw [hsp, errs_at (d := zeroI) hlt, if_pos (by simpa using h1)]
  · have hge : x = xs.length := by have := of_decide_eq_false h; omega
    rw [hsp, hge, List.drop_length]; rfl
end
end Go.Proofs.Ythcjliffpebjaaa
/- Ice: allowed courses. No condition. -/
namespace Go.Proofs.Ythcjliffpebjaaa
set_option linter.unusedSimpArgs false
set_option linter.unusedVariables false
open Go Go.K
noncomputable section
def pairI (m : Rates) (x y : Ice) (h : Int) : Prop :=
  (x.conc - chg m.down.conc h ≤ y.conc ∧ y.conc ≤ x.conc + chg m.up.conc h) ∧ (x.thick - chg m.down.thick h ≤ y.thick ∧ y.thick ≤ x.thick + chg m.up.thick h) ∧
  (x.ridge - chg m.down.ridge h ≤ y.ridge ∧ y.ridge ≤ x.ridge + chg m.up.ridge h) ∧ (x.press - chg m.down.press h ≤ y.press ∧ y.press ≤ x.press + chg m.up.press h)
def row (xs : List Ice) (m : Rates) (t n : Nat) : Prop := ∀ s, s < n → pairI m (xs.getD s zeroI) (xs.getD t zeroI) ((t : Int) - (s : Int))
def upto (xs : List Ice) (m : Rates) (n : Nat) : Prop := ∀ t, t < n → row xs m t t
open Classical in
def fAllowed (xs : List Ice) (m : Rates) : Bool × Int :=
  if 400 < xs.length then (false, 2) else if first2 (errs errIce xs) (errRates m) = 0 then (decide (upto xs m xs.length), 0) else (false, first2 (errs errIce xs) (errRates m))
end
end Go.Proofs.Ythcjliffpebjaaa
/- What is to be shown of functions. Printed by a program. No condition. -/
namespace Go.Proofs.Ythcjliffpebjaaa
set_option linter.unusedSimpArgs false
open Go Go.K
set_option maxRecDepth 100000
set_option linter.unusedVariables false
noncomputable section
def RAllowed (sp : Value) (xs : List Ice) (m : Rates) : Prop :=
  (((decide ((400 : Int) < (((List.length xs) : Nat) : Int))) = true → (.tuple #[.bool false, .int .i64 2] : Value) = sp) ∧ ((decide ((400 : Int) < (((List.length xs) : Nat) : Int))) = false → (∃ r0 : Int, (((some (.cells false 0 (List.flatMap iceC xs) : KObj) = some (.cells false 0 (List.flatMap iceC xs) : KObj)) ∧ True) ∧ (∀ H' : Heap, H'.length = 2 → (H'[0]? = some (.cells false 0 (List.flatMap iceC xs) : KObj) ∧ True) → KCall prog 50 [.slice (some ⟨0, 0, some 2⟩) (List.length xs) (List.length xs), .func (.func 51) #[] #[]] H' [] (Is (.int .i64 r0) H')) ∧ (∃ r1 : Int, ((True) ∧ (∀ H' : Heap, H'.length = 2 → (True) → KCall prog 11 [.agg #[.int .i64 m.up.conc, .int .i64 m.up.thick, .int .i64 m.up.ridge, .int .i64 m.up.press, .int .i64 m.down.conc, .int .i64 m.down.thick, .int .i64 m.down.ridge, .int .i64 m.down.press]] H' [] (Is (.int .i64 r1) H')) ∧ ((((r0 : Int) != 0) = true → ((.bool ((r0 : Int) != 0) : Value) = .bool true ∧ (.tuple #[.bool false, .int .i64 r0] : Value) = sp)) ∧ (((r0 : Int) != 0) = false → ((((r1 : Int) != 0) = true → ((.bool ((r1 : Int) != 0) : Value) = .bool true ∧ (.tuple #[.bool false, .int .i64 r1] : Value) = sp)) ∧ (((r1 : Int) != 0) = false → (true = true ∧ (0 ≤ List.length xs ∧ upto xs m 0) ∧ (true = true ∧ ((.int .i64 0 : Value) = .int .i64 ((0 : Nat) : Int) ∧ wk (.slice (some ⟨0, 0, some 2⟩) (List.length xs) (List.length xs) : Value) (.slice (some ⟨0, 0, some 2⟩) (List.length xs) (List.length xs) : Value) ∧ (.pointer (some ⟨1, 0, none⟩) : Value) = .pointer (some ⟨1, 0, none⟩) ∧ wk (.slice (some ⟨0, 0, some 2⟩) (List.length xs) (List.length xs) : Value) (.slice (some ⟨0, 0, some 2⟩) (List.length xs) (List.length xs) : Value) ∧ (.int .i64 (((List.length xs) : Nat) : Int) : Value) = .int .i64 (((List.length xs) : Nat) : Int) ∧ True) ∧ (True) ∧ (True) ∧ (True)) ∧ (∀ x2 : Nat, true = true) ∧ ∀ x2 : Nat, (x2 ≤ List.length xs ∧ upto xs m x2) → (((decide ((((x2 : Nat) : Int) : Int) < (((List.length xs) : Nat) : Int))) = true → (((0 : Int) ≤ ((x2 : Nat) : Int) ∧ (((x2 : Nat) : Int) : Int) < (((List.length xs) : Nat) : Int)) ∧ ((partA 4 (List.flatMap iceC xs) (0 + Int.toNat ((x2 : Nat) : Int) * 4) = some (.agg #[.int .i64 (List.getD xs x2 zeroI).conc, .int .i64 (List.getD xs x2 zeroI).thick, .int .i64 (List.getD xs x2 zeroI).ridge, .int .i64 (List.getD xs x2 zeroI).press])) ∧ ((((false = false ∨ 0 = 0 ∨ 0 = 4) ∧ (Int.toNat ((x2 : Nat) : Int)) ≤ (List.length xs)) ∧ ((0 : Int) ≤ ((x2 : Nat) : Int) ∧ (((x2 : Nat) : Int) : Int) ≤ (((List.length xs) : Nat) : Int)) ∧ (0 ≤ (Int.toNat ((x2 : Nat) : Int)))) ∧ ((.slice (some ⟨0, 0, some 2⟩) ((Int.toNat ((x2 : Nat) : Int)) - 0) ((Int.toNat ((x2 : Nat) : Int)) - 0) : Value) = .slice (some ⟨0, 0, some 2⟩) x2 x2 ∧ (true = true ∧ (0 ≤ x2 ∧ row xs m x2 0) ∧ (true = true ∧ ((.int .i64 0 : Value) = .int .i64 ((0 : Nat) : Int) ∧ (.int .i64 (((List.length xs) : Nat) : Int) : Value) = .int .i64 (((List.length xs) : Nat) : Int) ∧ wk (.slice (some ⟨0, 0, some 2⟩) (List.length xs) (List.length xs) : Value) (.slice (some ⟨0, 0, some 2⟩) (List.length xs) (List.length xs) : Value) ∧ (.pointer (some ⟨1, 0, none⟩) : Value) = .pointer (some ⟨1, 0, none⟩) ∧ wk (.slice (some ⟨0, 0, some 2⟩) (List.length xs) (List.length xs) : Value) (.slice (some ⟨0, 0, some 2⟩) (List.length xs) (List.length xs) : Value) ∧ (.int .i64 ((x2 : Nat) : Int) : Value) = .int .i64 ((x2 : Nat) : Int) ∧ (.pointer (some ⟨3, 0, none⟩) : Value) = .pointer (some ⟨3, 0, none⟩) ∧ (.int .i64 ((x2 : Nat) : Int) : Value) = .int .i64 ((x2 : Nat) : Int) ∧ wk (.slice (some ⟨0, 0, some 2⟩) x2 x2 : Value) (.slice (some ⟨0, 0, some 2⟩) x2 x2 : Value) ∧ (.int .i64 ((x2 : Nat) : Int) : Value) = .int .i64 ((x2 : Nat) : Int) ∧ True) ∧ (True) ∧ (True) ∧ (True)) ∧ (∀ x3 : Nat, true = true) ∧ ∀ x3 : Nat, (x3 ≤ x2 ∧ row xs m x2 x3) → (((decide ((((x3 : Nat) : Int) : Int) < ((x2 : Nat) : Int))) = true → (((0 : Int) ≤ ((x3 : Nat) : Int) ∧ (((x3 : Nat) : Int) : Int) < ((x2 : Nat) : Int)) ∧ ((partA 4 (List.flatMap iceC xs) (0 + Int.toNat ((x3 : Nat) : Int) * 4) = some (.agg #[.int .i64 (List.getD xs x3 zeroI).conc, .int .i64 (List.getD xs x3 zeroI).thick, .int .i64 (List.getD xs x3 zeroI).ridge, .int .i64 (List.getD xs x3 zeroI).press])) ∧ ((.int .i64 (IntKind.wrap .i64 (((x2 : Nat) : Int) - ((x3 : Nat) : Int))) : Value) = .int .i64 (((x2 : Nat) : Int) - ((x3 : Nat) : Int)) ∧ (∃ r4 : Int, ((True) ∧ (∀ H' : Heap, H'.length = 15 → (True) → KCall prog 74 [.int .i64 m.down.conc, .int .i64 (((x2 : Nat) : Int) - ((x3 : Nat) : Int))] H' [] (Is (.int .i64 r4) H')) ∧ ((.int .i64 (IntKind.wrap .i64 ((List.getD xs x3 zeroI).conc - r4)) : Value) = .int .i64 ((List.getD xs x3 zeroI).conc - r4) ∧ (∃ y5 : Int, (.int .i64 (if (0 : Int) > ((List.getD xs x3 zeroI).conc - r4) then (0 : Int) else ((List.getD xs x3 zeroI).conc - r4)) : Value) = .int .i64 y5 ∧ (∃ r6 : Int, ((True) ∧ (∀ H' : Heap, H'.length = 15 → (True) → KCall prog 74 [.int .i64 m.up.conc, .int .i64 (((x2 : Nat) : Int) - ((x3 : Nat) : Int))] H' [] (Is (.int .i64 r6) H')) ∧ ((.int .i64 (IntKind.wrap .i64 ((List.getD xs x3 zeroI).conc + r6)) : Value) = .int .i64 ((List.getD xs x3 zeroI).conc + r6) ∧ (∃ y7 : Int, (.int .i64 (if (100 : Int) < ((List.getD xs x3 zeroI).conc + r6) then (100 : Int) else ((List.getD xs x3 zeroI).conc + r6)) : Value) = .int .i64 y7 ∧ (∃ r8 : Int, ((True) ∧ (∀ H' : Heap, H'.length = 15 → (True) → KCall prog 74 [.int .i64 m.down.thick, .int .i64 (((x2 : Nat) : Int) - ((x3 : Nat) : Int))] H' [] (Is (.int .i64 r8) H')) ∧ ((.int .i64 (IntKind.wrap .i64 ((List.getD xs x3 zeroI).thick - r8)) : Value) = .int .i64 ((List.getD xs x3 zeroI).thick - r8) ∧ (∃ y9 : Int, (.int .i64 (if (0 : Int) > ((List.getD xs x3 zeroI).thick - r8) then (0 : Int) else ((List.getD xs x3 zeroI).thick - r8)) : Value) = .int .i64 y9 ∧ (∃ r10 : Int, ((True) ∧ (∀ H' : Heap, H'.length = 15 → (True) → KCall prog 74 [.int .i64 m.up.thick, .int .i64 (((x2 : Nat) : Int) - ((x3 : Nat) : Int))] H' [] (Is (.int .i64 r10) H')) ∧ ((.int .i64 (IntKind.wrap .i64 ((List.getD xs x3 zeroI).thick + r10)) : Value) = .int .i64 ((List.getD xs x3 zeroI).thick + r10) ∧ (∃ y11 : Int, (.int .i64 (if (400 : Int) < ((List.getD xs x3 zeroI).thick + r10) then (400 : Int) else ((List.getD xs x3 zeroI).thick + r10)) : Value) = .int .i64 y11 ∧ (∃ r12 : Int, ((True) ∧ (∀ H' : Heap, H'.length = 15 → (True) → KCall prog 74 [.int .i64 m.down.ridge, .int .i64 (((x2 : Nat) : Int) - ((x3 : Nat) : Int))] H' [] (Is (.int .i64 r12) H')) ∧ ((.int .i64 (IntKind.wrap .i64 ((List.getD xs x3 zeroI).ridge - r12)) : Value) = .int .i64 ((List.getD xs x3 zeroI).ridge - r12) ∧ (∃ y13 : Int, (.int .i64 (if (0 : Int) > ((List.getD xs x3 zeroI).ridge - r12) then (0 : Int) else ((List.getD xs x3 zeroI).ridge - r12)) : Value) = .int .i64 y13 ∧ (∃ r14 : Int, ((True) ∧ (∀ H' : Heap, H'.length = 15 → (True) → KCall prog 74 [.int .i64 m.up.ridge, .int .i64 (((x2 : Nat) : Int) - ((x3 : Nat) : Int))] H' [] (Is (.int .i64 r14) H')) ∧ ((.int .i64 (IntKind.wrap .i64 ((List.getD xs x3 zeroI).ridge + r14)) : Value) = .int .i64 ((List.getD xs x3 zeroI).ridge + r14) ∧ (∃ y15 : Int, (.int .i64 (if (100 : Int) < ((List.getD xs x3 zeroI).ridge + r14) then (100 : Int) else ((List.getD xs x3 zeroI).ridge + r14)) : Value) = .int .i64 y15 ∧ (∃ r16 : Int, ((True) ∧ (∀ H' : Heap, H'.length = 15 → (True) → KCall prog 74 [.int .i64 m.down.press, .int .i64 (((x2 : Nat) : Int) - ((x3 : Nat) : Int))] H' [] (Is (.int .i64 r16) H')) ∧ ((.int .i64 (IntKind.wrap .i64 ((List.getD xs x3 zeroI).press - r16)) : Value) = .int .i64 ((List.getD xs x3 zeroI).press - r16) ∧ (∃ y17 : Int, (.int .i64 (if (0 : Int) > ((List.getD xs x3 zeroI).press - r16) then (0 : Int) else ((List.getD xs x3 zeroI).press - r16)) : Value) = .int .i64 y17 ∧ (∃ r18 : Int, ((True) ∧ (∀ H' : Heap, H'.length = 15 → (True) → KCall prog 74 [.int .i64 m.up.press, .int .i64 (((x2 : Nat) : Int) - ((x3 : Nat) : Int))] H' [] (Is (.int .i64 r18) H')) ∧ ((.int .i64 (IntKind.wrap .i64 ((List.getD xs x3 zeroI).press + r18)) : Value) = .int .i64 ((List.getD xs x3 zeroI).press + r18) ∧ (∃ y19 : Int, (.int .i64 (if (3 : Int) < ((List.getD xs x3 zeroI).press + r18) then (3 : Int) else ((List.getD xs x3 zeroI).press + r18)) : Value) = .int .i64 y19 ∧ (((decide ((y5 : Int) ≤ (List.getD xs x2 zeroI).conc)) = true → (((!(decide (((List.getD xs x2 zeroI).conc : Int) ≤ y7))) = true → (.tuple #[.bool false, .int .i64 0] : Value) = sp) ∧ ((!(decide (((List.getD xs x2 zeroI).conc : Int) ≤ y7))) = false → (((decide ((y9 : Int) ≤ (List.getD xs x2 zeroI).thick)) = true → (((!(decide (((List.getD xs x2 zeroI).thick : Int) ≤ y11))) = true → (.tuple #[.bool false, .int .i64 0] : Value) = sp) ∧ ((!(decide (((List.getD xs x2 zeroI).thick : Int) ≤ y11))) = false → (((decide ((y13 : Int) ≤ (List.getD xs x2 zeroI).ridge)) = true → (((!(decide (((List.getD xs x2 zeroI).ridge : Int) ≤ y15))) = true → (.tuple #[.bool false, .int .i64 0] : Value) = sp) ∧ ((!(decide (((List.getD xs x2 zeroI).ridge : Int) ≤ y15))) = false → (((decide ((y17 : Int) ≤ (List.getD xs x2 zeroI).press)) = true → (((!(decide (((List.getD xs x2 zeroI).press : Int) ≤ y19))) = true → (.tuple #[.bool false, .int .i64 0] : Value) = sp) ∧ ((!(decide (((List.getD xs x2 zeroI).press : Int) ≤ y19))) = false → ((.int .i64 (IntKind.wrap .i64 (((x3 : Nat) : Int) + 1)) : Value) = .int .i64 (((x3 : Nat) : Int) + 1) ∧ (∃ x3' : Nat, (x3' ≤ x2 ∧ row xs m x2 x3') ∧ (x2 - x3') < (x2 - x3) ∧ true = true ∧ ((.int .i64 (((x3 : Nat) : Int) + 1) : Value) = .int .i64 ((x3' : Nat) : Int) ∧ (.int .i64 (((List.length xs) : Nat) : Int) : Value) = .int .i64 (((List.length xs) : Nat) : Int) ∧ wk (.slice (some ⟨0, 0, some 2⟩) (List.length xs) (List.length xs) : Value) (.slice (some ⟨0, 0, some 2⟩) (List.length xs) (List.length xs) : Value) ∧ (.pointer (some ⟨1, 0, none⟩) : Value) = .pointer (some ⟨1, 0, none⟩) ∧ wk (.slice (some ⟨0, 0, some 2⟩) (List.length xs) (List.length xs) : Value) (.slice (some ⟨0, 0, some 2⟩) (List.length xs) (List.length xs) : Value) ∧ (.int .i64 ((x2 : Nat) : Int) : Value) = .int .i64 ((x2 : Nat) : Int) ∧ (.pointer (some ⟨3, 0, none⟩) : Value) = .pointer (some ⟨3, 0, none⟩) ∧ (.int .i64 ((x2 : Nat) : Int) : Value) = .int .i64 ((x2 : Nat) : Int) ∧ wk (.slice (some ⟨0, 0, some 2⟩) x2 x2 : Value) (.slice (some ⟨0, 0, some 2⟩) x2 x2 : Value) ∧ (.int .i64 ((x2 : Nat) : Int) : Value) = .int .i64 ((x2 : Nat) : Int) ∧ True) ∧ (True) ∧ (True) ∧ (True)))))) ∧ ((decide ((y17 : Int) ≤ (List.getD xs x2 zeroI).press)) = false → (.tuple #[.bool false, .int .i64 0] : Value) = sp))))) ∧ ((decide ((y13 : Int) ≤ (List.getD xs x2 zeroI).ridge)) = false → (.tuple #[.bool false, .int .i64 0] : Value) = sp))))) ∧ ((decide ((y9 : Int) ≤ (List.getD xs x2 zeroI).thick)) = false → (.tuple #[.bool false, .int .i64 0] : Value) = sp))))) ∧ ((decide ((y5 : Int) ≤ (List.getD xs x2 zeroI).conc)) = false → (.tuple #[.bool false, .int .i64 0] : Value) = sp)))))))))))))))))))))))))))))))))))))) ∧ ((decide ((((x3 : Nat) : Int) : Int) < ((x2 : Nat) : Int))) = false → ((.int .i64 (IntKind.wrap .i64 (((x2 : Nat) : Int) + 1)) : Value) = .int .i64 (((x2 : Nat) : Int) + 1) ∧ (∃ x2' : Nat, (x2' ≤ List.length xs ∧ upto xs m x2') ∧ (List.length xs - x2') < (List.length xs - x2) ∧ true = true ∧ ((.int .i64 (((x2 : Nat) : Int) + 1) : Value) = .int .i64 ((x2' : Nat) : Int) ∧ wk (.slice (some ⟨0, 0, some 2⟩) (List.length xs) (List.length xs) : Value) (.slice (some ⟨0, 0, some 2⟩) (List.length xs) (List.length xs) : Value) ∧ (.pointer (some ⟨1, 0, none⟩) : Value) = .pointer (some ⟨1, 0, none⟩) ∧ wk (.slice (some ⟨0, 0, some 2⟩) (List.length xs) (List.length xs) : Value) (.slice (some ⟨0, 0, some 2⟩) (List.length xs) (List.length xs) : Value) ∧ (.int .i64 (((List.length xs) : Nat) : Int) : Value) = .int .i64 (((List.length xs) : Nat) : Int) ∧ True) ∧ (True) ∧ (True) ∧ (True))))))))))) ∧ ((decide ((((x2 : Nat) : Int) : Int) < (((List.length xs) : Nat) : Int))) = false → (.tuple #[.bool true, .int .i64 0] : Value) = sp)))))))))))))
theorem EAllowed (sp : Value) (xs : List Ice) (m : Rates) : vF prog msk (dm 0) 100000 true 40 true 23 [.slice (some ⟨0, 0, some 2⟩) (List.length xs) (List.length xs), .agg #[.int .i64 m.up.conc, .int .i64 m.up.thick, .int .i64 m.up.ridge, .int .i64 m.up.press, .int .i64 m.down.conc, .int .i64 m.down.thick, .int .i64 m.down.ridge, .int .i64 m.down.press]] (readsT 0 [xs.flatMap iceC]) (some [])
  (.go 5 (.fork (.auto) (.go 1 (.bind (Int) (fun r0 => .ans [(0, .cells false 0 (List.flatMap iceC xs))] (.int .i64 r0) [] (.bind (Int) (fun r1 => .ans [] (.int .i64 r1) [] (.go 12 (.fork (.go 4 (.slot 22 (.bool true) (.auto))) (.go 8 (.fork (.go 4 (.slot 22 (.bool true) (.auto))) (.go 11 (.inv 3 (Nat) (0) [] [] (fun x2 => [(26, .int .i64 ((x2 : Nat) : Int)), (0, .slice (some ⟨0, 0, some 2⟩) (List.length xs) (List.length xs)), (3, .pointer (some ⟨1, 0, none⟩)), (24, .slice (some ⟨0, 0, some 2⟩) (List.length xs) (List.length xs)), (25, .int .i64 (((List.length xs) : Nat) : Int))]) (fun x2 => []) (fun x2 => []) (fun x2 => []) (fun x2 => (x2 ≤ List.length xs ∧ upto xs m x2)) (fun x2 => (List.length xs - x2)) (fun x2 => .go 0 (.fork (.go 0 (.need (.val (.agg #[.int .i64 (List.getD xs x2 zeroI).conc, .int .i64 (List.getD xs x2 zeroI).thick, .int .i64 (List.getD xs x2 zeroI).ridge, .int .i64 (List.getD xs x2 zeroI).press]) (.go 4 (.need (.slot 33 (.slice (some ⟨0, 0, some 2⟩) x2 x2) (.go 1 (.inv 3 (Nat) (0) [] [] (fun x3 => [(35, .int .i64 ((x3 : Nat) : Int)), (25, .int .i64 (((List.length xs) : Nat) : Int)), (24, .slice (some ⟨0, 0, some 2⟩) (List.length xs) (List.length xs)), (3, .pointer (some ⟨1, 0, none⟩)), (0, .slice (some ⟨0, 0, some 2⟩) (List.length xs) (List.length xs)), (26, .int .i64 ((x2 : Nat) : Int)), (8, .pointer (some ⟨3, 0, none⟩)), (7, .int .i64 ((x2 : Nat) : Int)), (33, .slice (some ⟨0, 0, some 2⟩) x2 x2), (34, .int .i64 ((x2 : Nat) : Int))]) (fun x3 => []) (fun x3 => []) (fun x3 => []) (fun x3 => (x3 ≤ x2 ∧ row xs m x2 x3)) (fun x3 => (x2 - x3)) (fun x3 => .go 0 (.fork (.go 0 (.need (.val (.agg #[.int .i64 (List.getD xs x3 zeroI).conc, .int .i64 (List.getD xs x3 zeroI).thick, .int .i64 (List.getD xs x3 zeroI).ridge, .int .i64 (List.getD xs x3 zeroI).press]) (.go 23 (.slot 47 (.int .i64 (((x2 : Nat) : Int) - ((x3 : Nat) : Int))) (.go 162 (.bind (Int) (fun r4 => .ans [] (.int .i64 r4) [] (.go 0 (.slot 16 (.int .i64 ((List.getD xs x3 zeroI).conc - r4)) (.go 0 (.bind Int (fun y5 => .slot 17 (.int .i64 y5) (.bind (Int) (fun r6 => .ans [] (.int .i64 r6) [] (.go 0 (.slot 27 (.int .i64 ((List.getD xs x3 zeroI).conc + r6)) (.go 5 (.bind Int (fun y7 => .slot 31 (.int .i64 y7) (.go 31 (.bind (Int) (fun r8 => .ans [] (.int .i64 r8) [] (.go 0 (.slot 16 (.int .i64 ((List.getD xs x3 zeroI).thick - r8)) (.go 0 (.bind Int (fun y9 => .slot 17 (.int .i64 y9) (.bind (Int) (fun r10 => .ans [] (.int .i64 r10) [] (.go 0 (.slot 27 (.int .i64 ((List.getD xs x3 zeroI).thick + r10)) (.go 5 (.bind Int (fun y11 => .slot 31 (.int .i64 y11) (.go 31 (.bind (Int) (fun r12 => .ans [] (.int .i64 r12) [] (.go 0 (.slot 16 (.int .i64 ((List.getD xs x3 zeroI).ridge - r12)) (.go 0 (.bind Int (fun y13 => .slot 17 (.int .i64 y13) (.bind (Int) (fun r14 => .ans [] (.int .i64 r14) [] (.go 0 (.slot 27 (.int .i64 ((List.getD xs x3 zeroI).ridge + r14)) (.go 5 (.bind Int (fun y15 => .slot 31 (.int .i64 y15) (.go 31 (.bind (Int) (fun r16 => .ans [] (.int .i64 r16) [] (.go 0 (.slot 16 (.int .i64 ((List.getD xs x3 zeroI).press - r16)) (.go 0 (.bind Int (fun y17 => .slot 17 (.int .i64 y17) (.bind (Int) (fun r18 => .ans [] (.int .i64 r18) [] (.go 0 (.slot 27 (.int .i64 ((List.getD xs x3 zeroI).press + r18)) (.go 5 (.bind Int (fun y19 => .slot 31 (.int .i64 y19) (.go 63 (.gfork (.go 6 (.fork (.auto) (.go 26 (.gfork (.go 6 (.fork (.auto) (.go 26 (.gfork (.go 6 (.fork (.auto) (.go 26 (.gfork (.go 6 (.fork (.auto) (.go 8 (.slot 52 (.int .i64 (((x3 : Nat) : Int) + 1)) (.go 0 (.again [])))))) (.auto))))) (.auto))))) (.auto))))) (.auto)))))))))))))))))))))))))))))))))))))))))))))))))))))))))))))))))))) (.go 0 (.slot 53 (.int .i64 (((x2 : Nat) : Int) + 1)) (.go 0 (.again [])))))))))))))) (.auto))))))))))))))))
  (fun v _ _ => v = sp) = RAllowed sp xs m := by kernel_rfl
end
end Go.Proofs.Ythcjliffpebjaaa
/- Ice: which courses are allowed: the layer's answer. No condition. -/
namespace Go.Proofs.Ythcjliffpebjaaa
open Go Go.K
set_option maxRecDepth 100000
set_option linter.unusedVariables false
set_option linter.unusedSimpArgs false
noncomputable section
attribute [local irreducible] vF
theorem nameI {t : Int} {Q : Int → Prop} (h : ∀ y, y = t → Q y) : ∃ y : Int, (Value.int .i64 t) = .int .i64 y ∧ Q y := ⟨t, rfl, h t rfl⟩
theorem nd1 {p : Prop} [Decidable p] (h : (!decide p) = true) : ¬ p := by simpa using h
theorem nd2 {p : Prop} [Decidable p] (h : (!decide p) = false) : p := by simpa using h
theorem errs_zero {α : Type} {e : α → Int} : ∀ {xs : List α}, errs e xs = 0 → ∀ x ∈ xs, e x = 0
  | [], _, x, h => by cases h
  | y :: r, he, x, h => by
    unfold errs at he
    split at he
    · rename_i h0
      rcases List.mem_cons.1 h with rfl | h
      · exact h0
      · exact errs_zero he x h
    · rename_i h0; exact absurd he h0
theorem getD_mem {α : Type} {xs : List α} {d : α} {k : Nat} (h : k < xs.length) : xs.getD k d ∈ xs := by
  rw [List.getD_eq_getElem?_getD, List.getElem?_eq_getElem h]; exact List.getElem_mem h
theorem upto_succ {xs : List Ice} {m : Rates} {n : Nat} (h : upto xs m n) (hr : row xs m n n) : upto xs m (n + 1) := by
  intro t ht
  rcases Nat.lt_or_ge t n with h1 | h1
  · exact h t h1
  · obtain rfl : t = n := by omega
    exact hr
theorem row_succ {xs : List Ice} {m : Rates} {t n : Nat} (h : row xs m t n) (hp : pairI m (xs.getD n zeroI) (xs.getD t zeroI) ((t : Int) - (n : Int))) : row xs m t (n + 1) := by
  intro s hs
  rcases Nat.lt_or_ge s n with h1 | h1
  · exact h s h1
  · obtain rfl : s = n := by omega
    exact hp
theorem fAllowed_1 {xs : List Ice} {m : Rates} (h : 400 < xs.length) : fAllowed xs m = (false, 2) := by unfold fAllowed; rw [if_pos h]
theorem fAllowed_2 {xs : List Ice} {m : Rates} (h : ¬ 400 < xs.length) (h1 : ¬ errs errIce xs = 0) : fAllowed xs m = (false, errs errIce xs) := by unfold fAllowed; rw [if_neg h, first2_1 h1, if_neg h1]
theorem fAllowed_3 {xs : List Ice} {m : Rates} (h : ¬ 400 < xs.length) (h1 : errs errIce xs = 0) (h2 : ¬ errRates m = 0) : fAllowed xs m = (false, errRates m) := by unfold fAllowed; rw [if_neg h, first2_2 h1, if_neg h2]
theorem fAllowed_4 {xs : List Ice} {m : Rates} (h : ¬ 400 < xs.length) (h1 : errs errIce xs = 0) (h2 : errRates m = 0) (h3 : ¬ upto xs m xs.length) : fAllowed xs m = (false, 0) := by
  unfold fAllowed; rw [if_neg h, first2_2 h1, if_pos h2]; simp [h3]
theorem fAllowed_5 {xs : List Ice} {m : Rates} (h : ¬ 400 < xs.length) (h1 : errs errIce xs = 0) (h2 : errRates m = 0) (h3 : upto xs m xs.length) : fAllowed xs m = (true, 0) := by
  unfold fAllowed; rw [if_neg h, first2_2 h1, if_pos h2]; simp [h3]
theorem kAllowed (xs : List Ice) (m : Rates) (hn : xs.length ≤ 2 ^ 30) {H : Heap} {id : Nat} {own : Bool} {z : Nat} (hid : H[id]? = some (.cells own z (xs.flatMap iceC))) :
    KCall prog F.ice_Allowed [.slice (some ⟨id, 0, some 2⟩) xs.length xs.length, ratesV m] H [] (Is (.tuple #[.bool (fAllowed xs m).1, .int .i64 (fAllowed xs m).2]) H) := by
  refine valR (Eq.mpr (EAllowed _ xs m) ?_) (one_cs (plain_flat (fun _ => rfl) xs)) rfl [id] rfl (one_id hid)
  unfold RAllowed
  refine ⟨fun h => tupB (fAllowed_1 (by have := of_decide_eq_true h; omega)), fun h => ?_⟩
  have h0 : ¬ 400 < xs.length := by have := of_decide_eq_false h; omega
  refine ⟨_, ⟨rfl, trivial⟩, fun H' _ hd => kwrongI xs hn hd.1, _, trivial, fun H' _ _ => kCheckRates m H', fun g => ⟨vbool g, tupB (fAllowed_2 h0 (by simpa using g))⟩, fun g => ⟨fun g2 => ⟨vbool g2, tupB (fAllowed_3 h0 (by simpa using g) (by simpa using g2))⟩, fun g2 => ?_⟩⟩
  have k0 : errs errIce xs = 0 := by simpa using g
  have k1 : errRates m = 0 := by simpa using g2
  obtain ⟨⟨u1, u2, u3, u4⟩, d1, d2, d3, d4⟩ := errRates_iff.1 k1
  refine ⟨rfl, ⟨Nat.zero_le _, fun t ht => absurd ht (Nat.not_lt_zero _)⟩, ⟨rfl, ⟨rfl, wk_refl _, rfl, wk_refl _, rfl, trivial⟩, trivial, trivial, trivial⟩, fun _ => rfl, ?_⟩
  rintro t ⟨ht, hu⟩
  refine ⟨fun h => ?_, fun h => ?_⟩
  · have hlt : t < xs.length := by have := of_decide_eq_true h; omega
    refine ⟨⟨by omega, by omega⟩, partIce hlt, ⟨⟨.inl rfl, by rw [Int.toNat_natCast]; omega⟩, ⟨by omega, by omega⟩, Nat.zero_le _⟩, by simp, rfl, ⟨Nat.zero_le _, fun s hs => absurd hs (Nat.not_lt_zero _)⟩, ⟨rfl, ⟨rfl, rfl, wk_refl _, rfl, wk_refl _, rfl, rfl, rfl, wk_refl _, rfl, trivial⟩, trivial, trivial, trivial⟩, fun _ => rfl, ?_⟩
    rintro s ⟨hs, hr⟩
    refine ⟨fun h => ?_, fun h => ?_⟩
    · have hst : s < t := by have := of_decide_eq_true h; omega
      have hh : (0 : Int) ≤ (t : Int) - (s : Int) ∧ (t : Int) - (s : Int) ≤ 10000 := by omega
      refine ⟨⟨by omega, by omega⟩, partIce (by omega), v64 (by omega), ?_⟩
      obtain ⟨i1, i2, i3, i4⟩ := errIce_iff.1 (errs_zero k0 _ (getD_mem (d := zeroI) (show s < xs.length by omega)))
      obtain ⟨j1, j2, j3, j4⟩ := errIce_iff.1 (errs_zero k0 _ (getD_mem (d := zeroI) hlt))
      have bd := fun (r : Int) (hr : 0 ≤ r ∧ r ≤ 1000) => chg_bd hr hh
      have b1 := bd _ d1
      have b2 := bd _ u1
      refine ⟨_, trivial, fun H' _ _ => kchange _ _ d1 hh H', v64 (by omega), nameI fun y1 f1 => ⟨_, trivial, fun H' _ _ => kchange _ _ u1 hh H', v64 (by omega), nameI fun y2 f2 => ?_⟩⟩
      have b3 := bd _ d2
      have b4 := bd _ u2
      refine ⟨_, trivial, fun H' _ _ => kchange _ _ d2 hh H', v64 (by omega), nameI fun y3 f3 => ⟨_, trivial, fun H' _ _ => kchange _ _ u2 hh H', v64 (by omega), nameI fun y4 f4 => ?_⟩⟩
      have b5 := bd _ d3
      have b6 := bd _ u3
      refine ⟨_, trivial, fun H' _ _ => kchange _ _ d3 hh H', v64 (by omega), nameI fun y5 f5 => ⟨_, trivial, fun H' _ _ => kchange _ _ u3 hh H', v64 (by omega), nameI fun y6 f6 => ?_⟩⟩
      have b7 := bd _ d4
      have b8 := bd _ u4
      refine ⟨_, trivial, fun H' _ _ => kchange _ _ d4 hh H', v64 (by omega), nameI fun y7 f7 => ⟨_, trivial, fun H' _ _ => kchange _ _ u4 hh H', v64 (by omega), nameI fun y8 f8 => ?_⟩⟩
      have bad : ¬ pairI m (xs.getD s zeroI) (xs.getD t zeroI) ((t : Int) - (s : Int)) → (Value.tuple #[.bool false, .int .i64 0]) = .tuple #[.bool (fAllowed xs m).1, .int .i64 (fAllowed xs m).2] := fun hb => tupB (fAllowed_4 h0 k0 k1 (fun hu' => hb (hu' t hlt s hst)))
      refine ⟨fun c1 => ⟨fun c2 => bad (fun q => by have q := q.1; replace c2 := nd1 c2; split at f2 <;> omega), fun c2 => ?_⟩, fun c1 => bad (fun q => by have q := q.1; have := of_decide_eq_false c1; split at f1 <;> omega)⟩
      replace c1 := of_decide_eq_true c1
      replace c2 : (xs.getD t zeroI).conc ≤ y2 := nd2 c2
      have p1 : (xs.getD s zeroI).conc - chg m.down.conc ((t : Int) - (s : Int)) ≤ (xs.getD t zeroI).conc ∧ (xs.getD t zeroI).conc ≤ (xs.getD s zeroI).conc + chg m.up.conc ((t : Int) - (s : Int)) := by
        split at f1 <;> split at f2 <;> omega
      refine ⟨fun c3 => ⟨fun c4 => bad (fun q => by have q := q.2.1; replace c4 := nd1 c4; split at f4 <;> omega), fun c4 => ?_⟩, fun c3 => bad (fun q => by have q := q.2.1; have := of_decide_eq_false c3; split at f3 <;> omega)⟩
      replace c3 := of_decide_eq_true c3
      replace c4 : (xs.getD t zeroI).thick ≤ y4 := nd2 c4
      have p2 : (xs.getD s zeroI).thick - chg m.down.thick ((t : Int) - (s : Int)) ≤ (xs.getD t zeroI).thick ∧ (xs.getD t zeroI).thick ≤ (xs.getD s zeroI).thick + chg m.up.thick ((t : Int) - (s : Int)) := by
        split at f3 <;> split at f4 <;> omega
      refine ⟨fun c5 => ⟨fun c6 => bad (fun q => by have q := q.2.2.1; replace c6 := nd1 c6; split at f6 <;> omega), fun c6 => ?_⟩, fun c5 => bad (fun q => by have q := q.2.2.1; have := of_decide_eq_false c5; split at f5 <;> omega)⟩
      replace c5 := of_decide_eq_true c5
      replace c6 : (xs.getD t zeroI).ridge ≤ y6 := nd2 c6
      have p3 : (xs.getD s zeroI).ridge - chg m.down.ridge ((t : Int) - (s : Int)) ≤ (xs.getD t zeroI).ridge ∧ (xs.getD t zeroI).ridge ≤ (xs.getD s zeroI).ridge + chg m.up.ridge ((t : Int) - (s : Int)) := by
        split at f5 <;> split at f6 <;> omega
      refine ⟨fun c7 => ⟨fun c8 => bad (fun q => by have q := q.2.2.2; replace c8 := nd1 c8; split at f8 <;> omega), fun c8 => ?_⟩, fun c7 => bad (fun q => by have q := q.2.2.2; have := of_decide_eq_false c7; split at f7 <;> omega)⟩
      replace c7 := of_decide_eq_true c7
      replace c8 : (xs.getD t zeroI).press ≤ y8 := nd2 c8
      have p4 : (xs.getD s zeroI).press - chg m.down.press ((t : Int) - (s : Int)) ≤ (xs.getD t zeroI).press ∧ (xs.getD t zeroI).press ≤ (xs.getD s zeroI).press + chg m.up.press ((t : Int) - (s : Int)) := by
        split at f7 <;> split at f8 <;> omega
      exact ⟨v64 (by omega), s + 1, ⟨hst, row_succ hr ⟨p1, p2, p3, p4⟩⟩, by omega, rfl, ⟨i64_eq (by omega), rfl, wk_refl _, rfl, wk_refl _, rfl, rfl, rfl, wk_refl _, rfl, trivial⟩, trivial, trivial, trivial⟩
    · obtain rfl : s = t := by have := of_decide_eq_false h; omega
      exact ⟨v64 (by omega), s + 1, ⟨hlt, upto_succ hu hr⟩, by omega, rfl, ⟨i64_eq (by omega), wk_refl _, rfl, wk_refl _, rfl, trivial⟩, trivial, trivial, trivial⟩
  · obtain rfl : t = xs.length := by have := of_decide_eq_false h; omega
    exact tupB (fAllowed_5 h0 k0 k1 hu)
end
end Go.Proofs.Ythcjliffpebjaaa
/- What is to be shown of functions. Printed by a program. No condition. -/
namespace Go.Proofs.Ythcjliffpebjaaa
set_option linter.unusedSimpArgs false
open Go Go.K
set_option maxRecDepth 100000
set_option linter.unusedVariables false
noncomputable section
def RspMeet (sp : Value) (a b : Cell) : Prop :=
  (∃ y0 : Int, (.int .i64 (if (b.conc.lo : Int) > a.conc.lo then (b.conc.lo : Int) else a.conc.lo) : Value) = .int .i64 y0 ∧ (∃ y1 : Int, (.int .i64 (if (b.conc.hi : Int) < a.conc.hi then (b.conc.hi : Int) else a.conc.hi) : Value) = .int .i64 y1 ∧ (∃ y2 : Int, (.int .i64 (if (b.thick.lo : Int) > a.thick.lo then (b.thick.lo : Int) else a.thick.lo) : Value) = .int .i64 y2 ∧ (∃ y3 : Int, (.int .i64 (if (b.thick.hi : Int) < a.thick.hi then (b.thick.hi : Int) else a.thick.hi) : Value) = .int .i64 y3 ∧ (∃ y4 : Int, (.int .i64 (if (b.ridge.lo : Int) > a.ridge.lo then (b.ridge.lo : Int) else a.ridge.lo) : Value) = .int .i64 y4 ∧ (∃ y5 : Int, (.int .i64 (if (b.ridge.hi : Int) < a.ridge.hi then (b.ridge.hi : Int) else a.ridge.hi) : Value) = .int .i64 y5 ∧ (∃ y6 : Int, (.int .i64 (if (b.press.lo : Int) > a.press.lo then (b.press.lo : Int) else a.press.lo) : Value) = .int .i64 y6 ∧ (∃ y7 : Int, (.int .i64 (if (b.press.hi : Int) < a.press.hi then (b.press.hi : Int) else a.press.hi) : Value) = .int .i64 y7 ∧ (((!(decide ((y0 : Int) ≤ y1))) = true → (.tuple #[.agg #[.int .i64 y0, .int .i64 y1, .int .i64 y2, .int .i64 y3, .int .i64 y4, .int .i64 y5, .int .i64 y6, .int .i64 y7], .bool false] : Value) = sp) ∧ ((!(decide ((y0 : Int) ≤ y1))) = false → (((!(decide ((y2 : Int) ≤ y3))) = true → (.tuple #[.agg #[.int .i64 y0, .int .i64 y1, .int .i64 y2, .int .i64 y3, .int .i64 y4, .int .i64 y5, .int .i64 y6, .int .i64 y7], .bool false] : Value) = sp) ∧ ((!(decide ((y2 : Int) ≤ y3))) = false → (((!(decide ((y4 : Int) ≤ y5))) = true → (.tuple #[.agg #[.int .i64 y0, .int .i64 y1, .int .i64 y2, .int .i64 y3, .int .i64 y4, .int .i64 y5, .int .i64 y6, .int .i64 y7], .bool false] : Value) = sp) ∧ ((!(decide ((y4 : Int) ≤ y5))) = false → (((!(decide ((y6 : Int) ≤ y7))) = true → (.tuple #[.agg #[.int .i64 y0, .int .i64 y1, .int .i64 y2, .int .i64 y3, .int .i64 y4, .int .i64 y5, .int .i64 y6, .int .i64 y7], .bool false] : Value) = sp) ∧ ((!(decide ((y6 : Int) ≤ y7))) = false → (.tuple #[.agg #[.int .i64 y0, .int .i64 y1, .int .i64 y2, .int .i64 y3, .int .i64 y4, .int .i64 y5, .int .i64 y6, .int .i64 y7], .bool true] : Value) = sp))))))))))))))))
theorem EspMeet (sp : Value) (a b : Cell) : vF prog msk (dm 0) 100000 true 40 true 38 [.agg #[.int .i64 a.conc.lo, .int .i64 a.conc.hi, .int .i64 a.thick.lo, .int .i64 a.thick.hi, .int .i64 a.ridge.lo, .int .i64 a.ridge.hi, .int .i64 a.press.lo, .int .i64 a.press.hi], .agg #[.int .i64 b.conc.lo, .int .i64 b.conc.hi, .int .i64 b.thick.lo, .int .i64 b.thick.hi, .int .i64 b.ridge.lo, .int .i64 b.ridge.hi, .int .i64 b.press.lo, .int .i64 b.press.hi]] ⟨0, .leaf⟩ (some [])
  (.go 26 (.bind Int (fun y0 => .slot 13 (.int .i64 y0) (.go 8 (.bind Int (fun y1 => .slot 22 (.int .i64 y1) (.go 23 (.bind Int (fun y2 => .slot 13 (.int .i64 y2) (.go 8 (.bind Int (fun y3 => .slot 22 (.int .i64 y3) (.go 23 (.bind Int (fun y4 => .slot 13 (.int .i64 y4) (.go 8 (.bind Int (fun y5 => .slot 22 (.int .i64 y5) (.go 23 (.bind Int (fun y6 => .slot 13 (.int .i64 y6) (.go 8 (.bind Int (fun y7 => .slot 22 (.int .i64 y7) (.go 39 (.fork (.auto) (.go 20 (.fork (.auto) (.go 20 (.fork (.auto) (.go 20 (.fork (.auto) (.auto)))))))))))))))))))))))))))))))))
  (fun v _ _ => v = sp) = RspMeet sp a b := by kernel_rfl
def RspHull (sp : Value) (a b : Cell) : Prop :=
  (∃ y0 : Int, (.int .i64 (if (b.conc.lo : Int) < a.conc.lo then (b.conc.lo : Int) else a.conc.lo) : Value) = .int .i64 y0 ∧ (∃ y1 : Int, (.int .i64 (if (b.conc.hi : Int) > a.conc.hi then (b.conc.hi : Int) else a.conc.hi) : Value) = .int .i64 y1 ∧ (∃ y2 : Int, (.int .i64 (if (b.thick.lo : Int) < a.thick.lo then (b.thick.lo : Int) else a.thick.lo) : Value) = .int .i64 y2 ∧ (∃ y3 : Int, (.int .i64 (if (b.thick.hi : Int) > a.thick.hi then (b.thick.hi : Int) else a.thick.hi) : Value) = .int .i64 y3 ∧ (∃ y4 : Int, (.int .i64 (if (b.ridge.lo : Int) < a.ridge.lo then (b.ridge.lo : Int) else a.ridge.lo) : Value) = .int .i64 y4 ∧ (∃ y5 : Int, (.int .i64 (if (b.ridge.hi : Int) > a.ridge.hi then (b.ridge.hi : Int) else a.ridge.hi) : Value) = .int .i64 y5 ∧ (∃ y6 : Int, (.int .i64 (if (b.press.lo : Int) < a.press.lo then (b.press.lo : Int) else a.press.lo) : Value) = .int .i64 y6 ∧ (∃ y7 : Int, (.int .i64 (if (b.press.hi : Int) > a.press.hi then (b.press.hi : Int) else a.press.hi) : Value) = .int .i64 y7 ∧ (.agg #[.int .i64 y0, .int .i64 y1, .int .i64 y2, .int .i64 y3, .int .i64 y4, .int .i64 y5, .int .i64 y6, .int .i64 y7] : Value) = sp))))))))
theorem EspHull (sp : Value) (a b : Cell) : vF prog msk (dm 0) 100000 true 40 true 46 [.agg #[.int .i64 a.conc.lo, .int .i64 a.conc.hi, .int .i64 a.thick.lo, .int .i64 a.thick.hi, .int .i64 a.ridge.lo, .int .i64 a.ridge.hi, .int .i64 a.press.lo, .int .i64 a.press.hi], .agg #[.int .i64 b.conc.lo, .int .i64 b.conc.hi, .int .i64 b.thick.lo, .int .i64 b.thick.hi, .int .i64 b.ridge.lo, .int .i64 b.ridge.hi, .int .i64 b.press.lo, .int .i64 b.press.hi]] ⟨0, .leaf⟩ (some [])
  (.go 25 (.bind Int (fun y0 => .slot 13 (.int .i64 y0) (.go 8 (.bind Int (fun y1 => .slot 22 (.int .i64 y1) (.go 23 (.bind Int (fun y2 => .slot 13 (.int .i64 y2) (.go 8 (.bind Int (fun y3 => .slot 22 (.int .i64 y3) (.go 23 (.bind Int (fun y4 => .slot 13 (.int .i64 y4) (.go 8 (.bind Int (fun y5 => .slot 22 (.int .i64 y5) (.go 23 (.bind Int (fun y6 => .slot 13 (.int .i64 y6) (.go 8 (.bind Int (fun y7 => .slot 22 (.int .i64 y7) (.auto)))))))))))))))))))))))))
  (fun v _ _ => v = sp) = RspHull sp a b := by kernel_rfl
def RspAged (sp : Value) (c : Cell) (m : Rates) (h : Int) : Prop :=
  (∃ r0 : Int, ((True) ∧ (∀ H' : Heap, H'.length = 9 → (True) → KCall prog 74 [.int .i64 m.down.conc, .int .i64 h] H' [] (Is (.int .i64 r0) H')) ∧ ((.int .i64 (IntKind.wrap .i64 (c.conc.lo - r0)) : Value) = .int .i64 (c.conc.lo - r0) ∧ (∃ y1 : Int, (.int .i64 (if (0 : Int) > (c.conc.lo - r0) then (0 : Int) else (c.conc.lo - r0)) : Value) = .int .i64 y1 ∧ (∃ r2 : Int, ((True) ∧ (∀ H' : Heap, H'.length = 9 → (True) → KCall prog 74 [.int .i64 m.up.conc, .int .i64 h] H' [] (Is (.int .i64 r2) H')) ∧ ((.int .i64 (IntKind.wrap .i64 (c.conc.hi + r2)) : Value) = .int .i64 (c.conc.hi + r2) ∧ (∃ y3 : Int, (.int .i64 (if (100 : Int) < (c.conc.hi + r2) then (100 : Int) else (c.conc.hi + r2)) : Value) = .int .i64 y3 ∧ (∃ r4 : Int, ((True) ∧ (∀ H' : Heap, H'.length = 9 → (True) → KCall prog 74 [.int .i64 m.down.thick, .int .i64 h] H' [] (Is (.int .i64 r4) H')) ∧ ((.int .i64 (IntKind.wrap .i64 (c.thick.lo - r4)) : Value) = .int .i64 (c.thick.lo - r4) ∧ (∃ y5 : Int, (.int .i64 (if (0 : Int) > (c.thick.lo - r4) then (0 : Int) else (c.thick.lo - r4)) : Value) = .int .i64 y5 ∧ (∃ r6 : Int, ((True) ∧ (∀ H' : Heap, H'.length = 9 → (True) → KCall prog 74 [.int .i64 m.up.thick, .int .i64 h] H' [] (Is (.int .i64 r6) H')) ∧ ((.int .i64 (IntKind.wrap .i64 (c.thick.hi + r6)) : Value) = .int .i64 (c.thick.hi + r6) ∧ (∃ y7 : Int, (.int .i64 (if (400 : Int) < (c.thick.hi + r6) then (400 : Int) else (c.thick.hi + r6)) : Value) = .int .i64 y7 ∧ (∃ r8 : Int, ((True) ∧ (∀ H' : Heap, H'.length = 9 → (True) → KCall prog 74 [.int .i64 m.down.ridge, .int .i64 h] H' [] (Is (.int .i64 r8) H')) ∧ ((.int .i64 (IntKind.wrap .i64 (c.ridge.lo - r8)) : Value) = .int .i64 (c.ridge.lo - r8) ∧ (∃ y9 : Int, (.int .i64 (if (0 : Int) > (c.ridge.lo - r8) then (0 : Int) else (c.ridge.lo - r8)) : Value) = .int .i64 y9 ∧ (∃ r10 : Int, ((True) ∧ (∀ H' : Heap, H'.length = 9 → (True) → KCall prog 74 [.int .i64 m.up.ridge, .int .i64 h] H' [] (Is (.int .i64 r10) H')) ∧ ((.int .i64 (IntKind.wrap .i64 (c.ridge.hi + r10)) : Value) = .int .i64 (c.ridge.hi + r10) ∧ (∃ y11 : Int, (.int .i64 (if (100 : Int) < (c.ridge.hi + r10) then (100 : Int) else (c.ridge.hi + r10)) : Value) = .int .i64 y11 ∧ (∃ r12 : Int, ((True) ∧ (∀ H' : Heap, H'.length = 9 → (True) → KCall prog 74 [.int .i64 m.down.press, .int .i64 h] H' [] (Is (.int .i64 r12) H')) ∧ ((.int .i64 (IntKind.wrap .i64 (c.press.lo - r12)) : Value) = .int .i64 (c.press.lo - r12) ∧ (∃ y13 : Int, (.int .i64 (if (0 : Int) > (c.press.lo - r12) then (0 : Int) else (c.press.lo - r12)) : Value) = .int .i64 y13 ∧ (∃ r14 : Int, ((True) ∧ (∀ H' : Heap, H'.length = 9 → (True) → KCall prog 74 [.int .i64 m.up.press, .int .i64 h] H' [] (Is (.int .i64 r14) H')) ∧ ((.int .i64 (IntKind.wrap .i64 (c.press.hi + r14)) : Value) = .int .i64 (c.press.hi + r14) ∧ (∃ y15 : Int, (.int .i64 (if (3 : Int) < (c.press.hi + r14) then (3 : Int) else (c.press.hi + r14)) : Value) = .int .i64 y15 ∧ (.agg #[.int .i64 y1, .int .i64 y3, .int .i64 y5, .int .i64 y7, .int .i64 y9, .int .i64 y11, .int .i64 y13, .int .i64 y15] : Value) = sp))))))))))))))))))))))))))))))))
theorem EspAged (sp : Value) (c : Cell) (m : Rates) (h : Int) : vF prog msk (dm 0) 100000 true 40 true 47 [.agg #[.int .i64 c.conc.lo, .int .i64 c.conc.hi, .int .i64 c.thick.lo, .int .i64 c.thick.hi, .int .i64 c.ridge.lo, .int .i64 c.ridge.hi, .int .i64 c.press.lo, .int .i64 c.press.hi], .agg #[.int .i64 m.up.conc, .int .i64 m.up.thick, .int .i64 m.up.ridge, .int .i64 m.up.press, .int .i64 m.down.conc, .int .i64 m.down.thick, .int .i64 m.down.ridge, .int .i64 m.down.press], .int .i64 h] ⟨0, .leaf⟩ (some [])
  (.go 68 (.bind (Int) (fun r0 => .ans [] (.int .i64 r0) [] (.go 0 (.slot 16 (.int .i64 (c.conc.lo - r0)) (.go 0 (.bind Int (fun y1 => .slot 17 (.int .i64 y1) (.bind (Int) (fun r2 => .ans [] (.int .i64 r2) [] (.go 0 (.slot 27 (.int .i64 (c.conc.hi + r2)) (.go 5 (.bind Int (fun y3 => .slot 31 (.int .i64 y3) (.go 31 (.bind (Int) (fun r4 => .ans [] (.int .i64 r4) [] (.go 0 (.slot 16 (.int .i64 (c.thick.lo - r4)) (.go 0 (.bind Int (fun y5 => .slot 17 (.int .i64 y5) (.bind (Int) (fun r6 => .ans [] (.int .i64 r6) [] (.go 0 (.slot 27 (.int .i64 (c.thick.hi + r6)) (.go 5 (.bind Int (fun y7 => .slot 31 (.int .i64 y7) (.go 31 (.bind (Int) (fun r8 => .ans [] (.int .i64 r8) [] (.go 0 (.slot 16 (.int .i64 (c.ridge.lo - r8)) (.go 0 (.bind Int (fun y9 => .slot 17 (.int .i64 y9) (.bind (Int) (fun r10 => .ans [] (.int .i64 r10) [] (.go 0 (.slot 27 (.int .i64 (c.ridge.hi + r10)) (.go 5 (.bind Int (fun y11 => .slot 31 (.int .i64 y11) (.go 31 (.bind (Int) (fun r12 => .ans [] (.int .i64 r12) [] (.go 0 (.slot 16 (.int .i64 (c.press.lo - r12)) (.go 0 (.bind Int (fun y13 => .slot 17 (.int .i64 y13) (.bind (Int) (fun r14 => .ans [] (.int .i64 r14) [] (.go 0 (.slot 27 (.int .i64 (c.press.hi + r14)) (.go 5 (.bind Int (fun y15 => .slot 31 (.int .i64 y15) (.auto)))))))))))))))))))))))))))))))))))))))))))))))))))))))))))))
  (fun v _ _ => v = sp) = RspAged sp c m h := by kernel_rfl
def RspIns (sp : Value) (a b : Cell) : Prop :=
  (((decide ((b.conc.lo : Int) ≤ a.conc.lo)) = true → (((!(decide ((a.conc.hi : Int) ≤ b.conc.hi))) = true → (.bool false : Value) = sp) ∧ ((!(decide ((a.conc.hi : Int) ≤ b.conc.hi))) = false → (((decide ((b.thick.lo : Int) ≤ a.thick.lo)) = true → (((!(decide ((a.thick.hi : Int) ≤ b.thick.hi))) = true → (.bool false : Value) = sp) ∧ ((!(decide ((a.thick.hi : Int) ≤ b.thick.hi))) = false → (((decide ((b.ridge.lo : Int) ≤ a.ridge.lo)) = true → (((!(decide ((a.ridge.hi : Int) ≤ b.ridge.hi))) = true → (.bool false : Value) = sp) ∧ ((!(decide ((a.ridge.hi : Int) ≤ b.ridge.hi))) = false → (((decide ((b.press.lo : Int) ≤ a.press.lo)) = true → (((!(decide ((a.press.hi : Int) ≤ b.press.hi))) = true → (.bool false : Value) = sp) ∧ ((!(decide ((a.press.hi : Int) ≤ b.press.hi))) = false → (.bool true : Value) = sp))) ∧ ((decide ((b.press.lo : Int) ≤ a.press.lo)) = false → (.bool false : Value) = sp))))) ∧ ((decide ((b.ridge.lo : Int) ≤ a.ridge.lo)) = false → (.bool false : Value) = sp))))) ∧ ((decide ((b.thick.lo : Int) ≤ a.thick.lo)) = false → (.bool false : Value) = sp))))) ∧ ((decide ((b.conc.lo : Int) ≤ a.conc.lo)) = false → (.bool false : Value) = sp))
theorem EspIns (sp : Value) (a b : Cell) : vF prog msk (dm 0) 100000 true 40 true 48 [.agg #[.int .i64 a.conc.lo, .int .i64 a.conc.hi, .int .i64 a.thick.lo, .int .i64 a.thick.hi, .int .i64 a.ridge.lo, .int .i64 a.ridge.hi, .int .i64 a.press.lo, .int .i64 a.press.hi], .agg #[.int .i64 b.conc.lo, .int .i64 b.conc.hi, .int .i64 b.thick.lo, .int .i64 b.thick.hi, .int .i64 b.ridge.lo, .int .i64 b.ridge.hi, .int .i64 b.press.lo, .int .i64 b.press.hi]] ⟨0, .leaf⟩ (some [])
  (.go 28 (.gfork (.go 11 (.fork (.auto) (.go 19 (.gfork (.go 11 (.fork (.auto) (.go 19 (.gfork (.go 11 (.fork (.auto) (.go 19 (.gfork (.go 11 (.fork (.auto) (.auto))) (.auto))))) (.auto))))) (.auto))))) (.auto)))
  (fun v _ _ => v = sp) = RspIns sp a b := by kernel_rfl
def RspHas (sp : Value) (c : Cell) (x : Ice) : Prop :=
  (((decide ((c.conc.lo : Int) ≤ x.conc)) = true → (((!(decide ((x.conc : Int) ≤ c.conc.hi))) = true → (.bool false : Value) = sp) ∧ ((!(decide ((x.conc : Int) ≤ c.conc.hi))) = false → (((decide ((c.thick.lo : Int) ≤ x.thick)) = true → (((!(decide ((x.thick : Int) ≤ c.thick.hi))) = true → (.bool false : Value) = sp) ∧ ((!(decide ((x.thick : Int) ≤ c.thick.hi))) = false → (((decide ((c.ridge.lo : Int) ≤ x.ridge)) = true → (((!(decide ((x.ridge : Int) ≤ c.ridge.hi))) = true → (.bool false : Value) = sp) ∧ ((!(decide ((x.ridge : Int) ≤ c.ridge.hi))) = false → (((decide ((c.press.lo : Int) ≤ x.press)) = true → (((!(decide ((x.press : Int) ≤ c.press.hi))) = true → (.bool false : Value) = sp) ∧ ((!(decide ((x.press : Int) ≤ c.press.hi))) = false → (.bool true : Value) = sp))) ∧ ((decide ((c.press.lo : Int) ≤ x.press)) = false → (.bool false : Value) = sp))))) ∧ ((decide ((c.ridge.lo : Int) ≤ x.ridge)) = false → (.bool false : Value) = sp))))) ∧ ((decide ((c.thick.lo : Int) ≤ x.thick)) = false → (.bool false : Value) = sp))))) ∧ ((decide ((c.conc.lo : Int) ≤ x.conc)) = false → (.bool false : Value) = sp))
theorem EspHas (sp : Value) (c : Cell) (x : Ice) : vF prog msk (dm 0) 100000 true 40 true 54 [.agg #[.int .i64 c.conc.lo, .int .i64 c.conc.hi, .int .i64 c.thick.lo, .int .i64 c.thick.hi, .int .i64 c.ridge.lo, .int .i64 c.ridge.hi, .int .i64 c.press.lo, .int .i64 c.press.hi], .agg #[.int .i64 x.conc, .int .i64 x.thick, .int .i64 x.ridge, .int .i64 x.press]] ⟨0, .leaf⟩ (some [])
  (.go 51 (.gfork (.go 6 (.fork (.auto) (.go 26 (.gfork (.go 6 (.fork (.auto) (.go 26 (.gfork (.go 6 (.fork (.auto) (.go 26 (.gfork (.go 6 (.fork (.auto) (.auto))) (.auto))))) (.auto))))) (.auto))))) (.auto)))
  (fun v _ _ => v = sp) = RspHas sp c x := by kernel_rfl
end
end Go.Proofs.Ythcjliffpebjaaa
