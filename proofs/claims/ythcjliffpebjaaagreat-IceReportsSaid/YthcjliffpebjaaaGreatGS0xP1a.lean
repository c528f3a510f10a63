/- Ice: what all texts share. No condition. -/
import Derived.Test.YthcjliffpebjaaaGreatN
import Derived.IntWalk
import Derived.Test.YthcjliffpebjaaaGreatGK24xV14
namespace Go.Proofs.YthcjliffpebjaaaGreat
set_option linter.unusedSimpArgs false
open Go Go.K
set_option maxRecDepth 100000
set_option linter.unusedVariables false
noncomputable section
def dm (imp : Nat) : Value → MS
  | .func (.func f) _ _ => cond (Nat.testBit imp f) none (some [])
  | .func (.yield _) _ _ => none
  | _ => some []
theorem i64_eq {a b : Int} (h : a = b) : (Value.int .i64 a) = .int .i64 b := by rw [h]
structure Span where
  lo : Int
  hi : Int
structure Cell where
  conc : Span
  thick : Span
  ridge : Span
  press : Span
structure Ice where
  conc : Int
  thick : Int
  ridge : Int
  press : Int
structure Rates where
  up : Ice
  down : Ice
structure Report where
  id : Int
  source : Int
  at_ : Int
  x : Int
  y : Int
  has : Int
  cell : Cell
abbrev cellC (c : Cell) : List Value := [.int .i64 c.conc.lo, .int .i64 c.conc.hi, .int .i64 c.thick.lo, .int .i64 c.thick.hi, .int .i64 c.ridge.lo, .int .i64 c.ridge.hi, .int .i64 c.press.lo, .int .i64 c.press.hi]
abbrev ratesC (m : Rates) : List Value := [.int .i64 m.up.conc, .int .i64 m.up.thick, .int .i64 m.up.ridge, .int .i64 m.up.press, .int .i64 m.down.conc, .int .i64 m.down.thick, .int .i64 m.down.ridge, .int .i64 m.down.press]
abbrev reportC (r : Report) : List Value := [.int .i64 r.id, .int .i64 r.source, .int .i64 r.at_, .int .i64 r.x, .int .i64 r.y, .int .i64 r.has] ++ cellC r.cell
abbrev cellV (c : Cell) : Value := .agg ⟨cellC c⟩
abbrev ratesV (m : Rates) : Value := .agg ⟨ratesC m⟩
/-- A call's answer that is a value alone. -/
theorem valK {f : FuncId} {args : List Value} {h : Hint} {v : Value} (n : Nat) (hargs : ∀ σ, args.map (rn σ 5) = args) (hv : belowV 0 v = true)
    (hc : vF prog msk (dm 0) 100000 true n true f args ⟨0, .leaf⟩ (some []) h (fun v' _ _ => v' = v)) (H : Heap) : KCall prog f args H [] (Is v H) :=
  vcP mskOk mixed n hargs hv (by rw [glob0]; exact hc) H (by rw [glob0]; exact Nat.zero_le _)
end
end Go.Proofs.YthcjliffpebjaaaGreat
/- What is to be shown of functions. Printed by a program. No condition. -/
namespace Go.Proofs.YthcjliffpebjaaaGreat
set_option linter.unusedSimpArgs false
open Go Go.K
set_option maxRecDepth 100000
set_option linter.unusedVariables false
noncomputable section
def RCheckRates (sp : Value) (m : Rates) : Prop :=
  (((decide ((0 : Int) ≤ m.up.conc)) = true → (((decide ((m.up.conc : Int) ≤ 1000)) = true → (((decide ((0 : Int) ≤ m.down.conc)) = true → (((!(decide ((m.down.conc : Int) ≤ 1000))) = true → (.int .i64 6 : Value) = sp) ∧ ((!(decide ((m.down.conc : Int) ≤ 1000))) = false → (((decide ((0 : Int) ≤ m.up.thick)) = true → (((decide ((m.up.thick : Int) ≤ 1000)) = true → (((decide ((0 : Int) ≤ m.down.thick)) = true → (((!(decide ((m.down.thick : Int) ≤ 1000))) = true → (.int .i64 6 : Value) = sp) ∧ ((!(decide ((m.down.thick : Int) ≤ 1000))) = false → (((decide ((0 : Int) ≤ m.up.ridge)) = true → (((decide ((m.up.ridge : Int) ≤ 1000)) = true → (((decide ((0 : Int) ≤ m.down.ridge)) = true → (((!(decide ((m.down.ridge : Int) ≤ 1000))) = true → (.int .i64 6 : Value) = sp) ∧ ((!(decide ((m.down.ridge : Int) ≤ 1000))) = false → (((decide ((0 : Int) ≤ m.up.press)) = true → (((decide ((m.up.press : Int) ≤ 1000)) = true → (((decide ((0 : Int) ≤ m.down.press)) = true → (((!(decide ((m.down.press : Int) ≤ 1000))) = true → (.int .i64 6 : Value) = sp) ∧ ((!(decide ((m.down.press : Int) ≤ 1000))) = false → (.int .i64 0 : Value) = sp))) ∧ ((decide ((0 : Int) ≤ m.down.press)) = false → (.int .i64 6 : Value) = sp))) ∧ ((decide ((m.up.press : Int) ≤ 1000)) = false → (.int .i64 6 : Value) = sp))) ∧ ((decide ((0 : Int) ≤ m.up.press)) = false → (.int .i64 6 : Value) = sp))))) ∧ ((decide ((0 : Int) ≤ m.down.ridge)) = false → (.int .i64 6 : Value) = sp))) ∧ ((decide ((m.up.ridge : Int) ≤ 1000)) = false → (.int .i64 6 : Value) = sp))) ∧ ((decide ((0 : Int) ≤ m.up.ridge)) = false → (.int .i64 6 : Value) = sp))))) ∧ ((decide ((0 : Int) ≤ m.down.thick)) = false → (.int .i64 6 : Value) = sp))) ∧ ((decide ((m.up.thick : Int) ≤ 1000)) = false → (.int .i64 6 : Value) = sp))) ∧ ((decide ((0 : Int) ≤ m.up.thick)) = false → (.int .i64 6 : Value) = sp))))) ∧ ((decide ((0 : Int) ≤ m.down.conc)) = false → (.int .i64 6 : Value) = sp))) ∧ ((decide ((m.up.conc : Int) ≤ 1000)) = false → (.int .i64 6 : Value) = sp))) ∧ ((decide ((0 : Int) ≤ m.up.conc)) = false → (.int .i64 6 : Value) = sp))
theorem ECheckRates (sp : Value) (m : Rates) : vF prog msk (dm 0) 100000 true 40 true 31 [.agg #[.int .i64 m.up.conc, .int .i64 m.up.thick, .int .i64 m.up.ridge, .int .i64 m.up.press, .int .i64 m.down.conc, .int .i64 m.down.thick, .int .i64 m.down.ridge, .int .i64 m.down.press]] ⟨0, .leaf⟩ (some [])
  (.go 60 (.gfork (.go 5 (.gfork (.go 8 (.gfork (.go 7 (.fork (.auto) (.go 18 (.gfork (.go 5 (.gfork (.go 8 (.gfork (.go 7 (.fork (.auto) (.go 18 (.gfork (.go 5 (.gfork (.go 8 (.gfork (.go 7 (.fork (.auto) (.go 18 (.gfork (.go 5 (.gfork (.go 8 (.gfork (.go 7 (.fork (.auto) (.auto))) (.auto))) (.auto))) (.auto))))) (.auto))) (.auto))) (.auto))))) (.auto))) (.auto))) (.auto))))) (.auto))) (.auto))) (.auto)))
  (fun v _ _ => v = sp) = RCheckRates sp m := by kernel_rfl
def Rchange (sp : Value) (rate hours : Int) : Prop :=
  ((.int .i64 (IntKind.wrap .i64 (rate * hours)) : Value) = .int .i64 (rate * hours) ∧ ((.int .i64 (IntKind.wrap .i64 ((rate * hours) + 24)) : Value) = .int .i64 ((rate * hours) + 24) ∧ ((.int .i64 (IntKind.wrap .i64 (((rate * hours) + 24) - 1)) : Value) = .int .i64 (((rate * hours) + 24) - 1) ∧ ((.int .i64 (IntKind.wrap .i64 (Int.tdiv (((rate * hours) + 24) - 1) 24)) : Value) = .int .i64 (Int.tdiv (((rate * hours) + 24) - 1) 24) ∧ (.int .i64 (Int.tdiv (((rate * hours) + 24) - 1) 24) : Value) = sp))))
theorem Echange (sp : Value) (rate hours : Int) : vF prog msk (dm 0) 100000 true 40 true 149 [.int .i64 rate, .int .i64 hours] ⟨0, .leaf⟩ (some [])
  (.go 3 (.slot 7 (.int .i64 (rate * hours)) (.go 0 (.slot 8 (.int .i64 ((rate * hours) + 24)) (.go 0 (.slot 9 (.int .i64 (((rate * hours) + 24) - 1)) (.go 0 (.slot 10 (.int .i64 (Int.tdiv (((rate * hours) + 24) - 1) 24)) (.auto)))))))))
  (fun v _ _ => v = sp) = Rchange sp rate hours := by kernel_rfl
end
end Go.Proofs.YthcjliffpebjaaaGreat
/- Ice: the contracts of the functions of values alone. No condition. -/
namespace Go.Proofs.YthcjliffpebjaaaGreat
open Go Go.K
set_option maxRecDepth 100000
set_option linter.unusedVariables false
set_option linter.unusedSimpArgs false
noncomputable section
/-! ## What they compute -/
def rightS (s : Span) (m : Int) : Prop := 0 ≤ s.lo ∧ s.lo ≤ m ∧ s.lo ≤ s.hi ∧ s.hi ≤ m
def rightC (c : Cell) : Prop := rightS c.conc 100 ∧ rightS c.thick 400 ∧ rightS c.ridge 100 ∧ rightS c.press 3
def rightI (x : Ice) : Prop := (0 ≤ x.conc ∧ x.conc ≤ 100) ∧ (0 ≤ x.thick ∧ x.thick ≤ 400) ∧ (0 ≤ x.ridge ∧ x.ridge ≤ 100) ∧ 0 ≤ x.press ∧ x.press ≤ 3
def rateI (x : Ice) : Prop := (0 ≤ x.conc ∧ x.conc ≤ 1000) ∧ (0 ≤ x.thick ∧ x.thick ≤ 1000) ∧ (0 ≤ x.ridge ∧ x.ridge ≤ 1000) ∧ 0 ≤ x.press ∧ x.press ≤ 1000
def rightR (m : Rates) : Prop := rateI m.up ∧ rateI m.down
instance (s : Span) (m : Int) : Decidable (rightS s m) := by unfold rightS; infer_instance
instance (c : Cell) : Decidable (rightC c) := by unfold rightC; infer_instance
instance (x : Ice) : Decidable (rightI x) := by unfold rightI; infer_instance
instance (x : Ice) : Decidable (rateI x) := by unfold rateI; infer_instance
instance (m : Rates) : Decidable (rightR m) := by unfold rightR; infer_instance
def errRates (m : Rates) : Int := if rightR m then 0 else 6
def zeroC : Cell := ⟨⟨0, 0⟩, ⟨0, 0⟩, ⟨0, 0⟩, ⟨0, 0⟩⟩
def hasS (s : Span) (n : Int) : Prop := s.lo ≤ n ∧ n ≤ s.hi
def hasC (c : Cell) (x : Ice) : Prop := hasS c.conc x.conc ∧ hasS c.thick x.thick ∧ hasS c.ridge x.ridge ∧ hasS c.press x.press
def insS (s t : Span) : Prop := t.lo ≤ s.lo ∧ s.hi ≤ t.hi
def insC (a b : Cell) : Prop := insS a.conc b.conc ∧ insS a.thick b.thick ∧ insS a.ridge b.ridge ∧ insS a.press b.press
def okC (c : Cell) : Prop := c.conc.lo ≤ c.conc.hi ∧ c.thick.lo ≤ c.thick.hi ∧ c.ridge.lo ≤ c.ridge.hi ∧ c.press.lo ≤ c.press.hi
instance (s : Span) (n : Int) : Decidable (hasS s n) := by unfold hasS; infer_instance
instance (c : Cell) (x : Ice) : Decidable (hasC c x) := by unfold hasC; infer_instance
instance (s t : Span) : Decidable (insS s t) := by unfold insS; infer_instance
instance (a b : Cell) : Decidable (insC a b) := by unfold insC; infer_instance
instance (c : Cell) : Decidable (okC c) := by unfold okC; infer_instance
def meetS (s t : Span) : Span := ⟨max s.lo t.lo, min s.hi t.hi⟩
def meetC (a b : Cell) : Cell := ⟨meetS a.conc b.conc, meetS a.thick b.thick, meetS a.ridge b.ridge, meetS a.press b.press⟩
def chg (rate hours : Int) : Int := (rate * hours + 23) / 24
def ageS (s : Span) (u d h m : Int) : Span := ⟨max (s.lo - chg d h) 0, min (s.hi + chg u h) m⟩
def ageC (c : Cell) (m : Rates) (h : Int) : Cell := ⟨ageS c.conc m.up.conc m.down.conc h 100, ageS c.thick m.up.thick m.down.thick h 400, ageS c.ridge m.up.ridge m.down.ridge h 100, ageS c.press m.up.press m.down.press h 3⟩
def wholeC : Cell := ⟨⟨0, 100⟩, ⟨0, 400⟩, ⟨0, 100⟩, ⟨0, 3⟩⟩
def first2 (e f : Int) : Int := if e = 0 then f else e
/-! ## Numbers -/
theorem w64 {n : Int} (h : -9223372036854775808 ≤ n ∧ n ≤ 9223372036854775807) : IntKind.wrap .i64 n = n := IntWalk.i64_in n h
theorem v64 {n : Int} (h : -9223372036854775808 ≤ n ∧ n ≤ 9223372036854775807) : (Value.int .i64 (IntKind.wrap .i64 n)) = .int .i64 n := by rw [w64 h]
theorem mulb {a b A B : Int} (h1 : 0 ≤ a) (h2 : a ≤ A) (h3 : 0 ≤ b) (h4 : b ≤ B) : 0 ≤ a * b ∧ a * b ≤ A * B :=
  ⟨Int.mul_nonneg h1 h3, Int.mul_le_mul h2 h4 h3 (Int.le_trans h1 h2)⟩

/-! ## Contracts -/
theorem errRates_pos {c : Rates} (h : rightR c) : errRates c = 0 := if_pos h
theorem errRates_neg {c : Rates} (h : ¬ rightR c) : errRates c = 6 := if_neg h
theorem errRates_iff {c : Rates} : errRates c = 0 ↔ rightR c := by unfold errRates; split <;> simp_all
theorem kCheckRates (m : Rates) (H : Heap) : KCall prog F.ice_CheckRates [ratesV m] H [] (Is (.int .i64 (errRates m)) H) := by
  refine valK 40 (fun _ => rfl) rfl (Eq.mpr (ECheckRates _ m) ?_) H
  unfold RCheckRates
  simp only [decide_eq_true_eq, decide_eq_false_iff_not, Bool.not_eq_true', Bool.not_eq_false']
  repeat' (first | apply And.intro | intro _)
  all_goals first
    | exact i64_eq (errRates_neg (by unfold rightR rateI; omega)).symm
    | exact i64_eq (errRates_pos (by unfold rightR rateI; omega)).symm
theorem kchange (rate hours : Int) (h1 : 0 ≤ rate ∧ rate ≤ 1000) (h2 : 0 ≤ hours ∧ hours ≤ 10000) (H : Heap) : KCall prog F.ice_change [.int .i64 rate, .int .i64 hours] H [] (Is (.int .i64 (chg rate hours)) H) := by
  refine valK 40 (fun _ => rfl) rfl (Eq.mpr (Echange _ rate hours) ?_) H
  have hb := mulb h1.1 h1.2 h2.1 h2.2
  have ht : Int.tdiv (rate * hours + 24 - 1) 24 = (rate * hours + 24 - 1) / 24 := Int.tdiv_eq_ediv_of_nonneg (by omega)
  unfold Rchange
  refine ⟨v64 (by omega), v64 (by omega), v64 (by omega), v64 (by rw [ht]; omega), i64_eq ?_⟩
  rw [ht]; unfold chg; congr 1; omega

/-! ## Two errors, then an answer -/
theorem first2_1 {e f : Int} (h : ¬ e = 0) : first2 e f = e := if_neg h
theorem first2_2 {e f : Int} (h : e = 0) : first2 e f = f := if_pos h
theorem tupC {a b c d e f g i n : Int} {r : Cell × Int} (h : r = (⟨⟨a, b⟩, ⟨c, d⟩, ⟨e, f⟩, ⟨g, i⟩⟩, n)) :
    (Value.tuple #[.agg #[.int .i64 a, .int .i64 b, .int .i64 c, .int .i64 d, .int .i64 e, .int .i64 f, .int .i64 g, .int .i64 i], .int .i64 n]) = .tuple #[cellV r.1, .int .i64 r.2] := by rw [h]
theorem chg_bd {r h : Int} (h1 : 0 ≤ r ∧ r ≤ 1000) (h2 : 0 ≤ h ∧ h ≤ 10000) : 0 ≤ chg r h ∧ chg r h ≤ 500000 := by
  have := mulb h1.1 h1.2 h2.1 h2.2
  unfold chg; omega
end
end Go.Proofs.YthcjliffpebjaaaGreat
/- Ice: lists of errors; the first cell, ice, report. No condition. -/
namespace Go.Proofs.YthcjliffpebjaaaGreat
set_option linter.unusedSimpArgs false
set_option linter.unusedVariables false
open Go Go.K
noncomputable section
def zeroI : Ice := ⟨0, 0, 0, 0⟩
def zeroR : Report := ⟨0, 0, 0, 0, 0, 0, zeroC⟩
end
end Go.Proofs.YthcjliffpebjaaaGreat
/- What is to be shown of functions. Printed by a program. No condition. -/
namespace Go.Proofs.YthcjliffpebjaaaGreat
set_option linter.unusedSimpArgs false
open Go Go.K
set_option maxRecDepth 100000
set_option linter.unusedVariables false
noncomputable section
def RrCheckRates (sp : Value) (m : Rates) : Prop :=
  (((decide ((m.up.conc : Int) < 0)) = true → (.int .i64 6 : Value) = sp) ∧ ((decide ((m.up.conc : Int) < 0)) = false → (((decide ((1000 : Int) < m.up.conc)) = true → (.int .i64 6 : Value) = sp) ∧ ((decide ((1000 : Int) < m.up.conc)) = false → (((decide ((m.down.conc : Int) < 0)) = true → (.int .i64 6 : Value) = sp) ∧ ((decide ((m.down.conc : Int) < 0)) = false → (((decide ((1000 : Int) < m.down.conc)) = true → (.int .i64 6 : Value) = sp) ∧ ((decide ((1000 : Int) < m.down.conc)) = false → (((decide ((m.up.thick : Int) < 0)) = true → (.int .i64 6 : Value) = sp) ∧ ((decide ((m.up.thick : Int) < 0)) = false → (((decide ((1000 : Int) < m.up.thick)) = true → (.int .i64 6 : Value) = sp) ∧ ((decide ((1000 : Int) < m.up.thick)) = false → (((decide ((m.down.thick : Int) < 0)) = true → (.int .i64 6 : Value) = sp) ∧ ((decide ((m.down.thick : Int) < 0)) = false → (((decide ((1000 : Int) < m.down.thick)) = true → (.int .i64 6 : Value) = sp) ∧ ((decide ((1000 : Int) < m.down.thick)) = false → (((decide ((m.up.ridge : Int) < 0)) = true → (.int .i64 6 : Value) = sp) ∧ ((decide ((m.up.ridge : Int) < 0)) = false → (((decide ((1000 : Int) < m.up.ridge)) = true → (.int .i64 6 : Value) = sp) ∧ ((decide ((1000 : Int) < m.up.ridge)) = false → (((decide ((m.down.ridge : Int) < 0)) = true → (.int .i64 6 : Value) = sp) ∧ ((decide ((m.down.ridge : Int) < 0)) = false → (((decide ((1000 : Int) < m.down.ridge)) = true → (.int .i64 6 : Value) = sp) ∧ ((decide ((1000 : Int) < m.down.ridge)) = false → (((decide ((m.up.press : Int) < 0)) = true → (.int .i64 6 : Value) = sp) ∧ ((decide ((m.up.press : Int) < 0)) = false → (((decide ((1000 : Int) < m.up.press)) = true → (.int .i64 6 : Value) = sp) ∧ ((decide ((1000 : Int) < m.up.press)) = false → (((decide ((m.down.press : Int) < 0)) = true → (.int .i64 6 : Value) = sp) ∧ ((decide ((m.down.press : Int) < 0)) = false → (((decide ((1000 : Int) < m.down.press)) = true → (.int .i64 6 : Value) = sp) ∧ ((decide ((1000 : Int) < m.down.press)) = false → (.int .i64 0 : Value) = sp))))))))))))))))))))))))))))))))
theorem ErCheckRates (sp : Value) (m : Rates) : vF prog msk (dm 0) 100000 true 40 true 32 [.agg #[.int .i64 m.up.conc, .int .i64 m.up.thick, .int .i64 m.up.ridge, .int .i64 m.up.press, .int .i64 m.down.conc, .int .i64 m.down.thick, .int .i64 m.down.ridge, .int .i64 m.down.press]] ⟨0, .leaf⟩ (some [])
  (.go 36 (.gfork (.auto) (.go 3 (.gfork (.auto) (.go 3 (.gfork (.auto) (.go 2 (.fork (.auto) (.go 42 (.gfork (.auto) (.go 3 (.gfork (.auto) (.go 3 (.gfork (.auto) (.go 2 (.fork (.auto) (.go 48 (.gfork (.auto) (.go 3 (.gfork (.auto) (.go 3 (.gfork (.auto) (.go 2 (.fork (.auto) (.go 48 (.gfork (.auto) (.go 3 (.gfork (.auto) (.go 3 (.gfork (.auto) (.go 2 (.fork (.auto) (.auto)))))))))))))))))))))))))))))))))
  (fun v _ _ => v = sp) = RrCheckRates sp m := by kernel_rfl
def Rrchange (sp : Value) (rate hours : Int) : Prop :=
  ((.int .i64 (IntKind.wrap .i64 (rate * hours)) : Value) = .int .i64 (rate * hours) ∧ ((.int .i64 (IntKind.wrap .i64 (Int.tdiv (rate * hours) 24)) : Value) = .int .i64 (Int.tdiv (rate * hours) 24) ∧ ((.int .i64 (IntKind.wrap .i64 ((Int.tdiv (rate * hours) 24) * 24)) : Value) = .int .i64 ((Int.tdiv (rate * hours) 24) * 24) ∧ ((.int .i64 (IntKind.wrap .i64 (rate * hours)) : Value) = .int .i64 (rate * hours) ∧ (((decide ((((Int.tdiv (rate * hours) 24) * 24) : Int) < (rate * hours))) = true → ((.int .i64 (IntKind.wrap .i64 ((Int.tdiv (rate * hours) 24) + 1)) : Value) = .int .i64 ((Int.tdiv (rate * hours) 24) + 1) ∧ (.int .i64 ((Int.tdiv (rate * hours) 24) + 1) : Value) = sp)) ∧ ((decide ((((Int.tdiv (rate * hours) 24) * 24) : Int) < (rate * hours))) = false → (.int .i64 (Int.tdiv (rate * hours) 24) : Value) = sp))))))
theorem Erchange (sp : Value) (rate hours : Int) : vF prog msk (dm 0) 100000 true 40 true 117 [.int .i64 rate, .int .i64 hours] ⟨0, .leaf⟩ (some [])
  (.go 3 (.slot 8 (.int .i64 (rate * hours)) (.go 0 (.slot 9 (.int .i64 (Int.tdiv (rate * hours) 24)) (.go 2 (.slot 11 (.int .i64 ((Int.tdiv (rate * hours) 24) * 24)) (.go 2 (.slot 14 (.int .i64 (rate * hours)) (.go 0 (.fork (.go 1 (.slot 17 (.int .i64 ((Int.tdiv (rate * hours) 24) + 1)) (.auto))) (.auto)))))))))))
  (fun v _ _ => v = sp) = Rrchange sp rate hours := by kernel_rfl
end
end Go.Proofs.YthcjliffpebjaaaGreat
/- Ice: the reference's functions of values; lists of errors. No condition. -/
namespace Go.Proofs.YthcjliffpebjaaaGreat
open Go Go.K
set_option maxRecDepth 100000
set_option linter.unusedVariables false
set_option linter.unusedSimpArgs false
noncomputable section
attribute [local irreducible] vF
theorem krCheckRates (m : Rates) (H : Heap) : KCall prog F.polynyaref01_CheckRates [ratesV m] H [] (Is (.int .i64 (errRates m)) H) := by
  refine valK 40 (fun _ => rfl) rfl (Eq.mpr (ErCheckRates _ m) ?_) H
  unfold RrCheckRates
  simp only [decide_eq_true_eq, decide_eq_false_iff_not, Bool.not_eq_true', Bool.not_eq_false']
  repeat' (first | apply And.intro | intro _)
  all_goals first
    | exact i64_eq (errRates_neg (by unfold rightR rateI; omega)).symm
    | exact i64_eq (errRates_pos (by unfold rightR rateI; omega)).symm
/-! ## Lists -/
theorem valR {f : FuncId} {args : List Value} {css : List (List Value)} {h : Hint} {v : Value} (hc : vF prog msk (dm 0) 100000 true 40 true f args (readsT 0 css) (some []) h (fun v' _ _ => v' = v)) (hcss : ∀ cs ∈ css, cs.all (belowC 0) = true) (hv : belowV 0 v = true)
    {H : Heap} (ids : List Nat) (hl : ids.length = css.length) (hids : ∀ (k : Nat) (cs : List Value), css[k]? = some cs → ∃ id own z, ids[k]? = some id ∧ H[id]? = some (KObj.cells own z cs)) :
    KCall prog f (args.map (rn (sgR 0 ids) 5)) H [] (Is v H) := by
  have := vcR0 (H := H) mskOk mixed 40 (v := v) hcss (by rw [glob0]; exact hc) hv ids hl hids
  rw [glob0] at this; exact this
theorem valN {f : FuncId} {args : List Value} {css : List (List Value)} {h : Hint} {v : Value} {new : List (Bool × KObj)} (hc : vF prog msk (dm 0) 100000 true 40 true f args (readsT 0 css) (some []) h (newK (readsT 0 css).n 3 v new)) (hcss : ∀ cs ∈ css, cs.all (belowC 0) = true)
    (hv : rnOk 3 v = true) (hv2 : rn (sgOnly (0 + css.length)) 3 v = v) (hn : (new.map (·.2)).all (fun o => rnoOk 3 o && o.owned) = true) (hn2 : (new.map (·.2)).map (rno (sgOnly (0 + css.length)) 3) = new.map (·.2))
    {H : Heap} (ids : List Nat) (hl : ids.length = css.length) (hids : ∀ (k : Nat) (cs : List Value), css[k]? = some cs → ∃ id own z, ids[k]? = some id ∧ H[id]? = some (KObj.cells own z cs)) :
    KCall prog f (args.map (rn (sgR 0 ids) 3)) H [] (Is (rn (sgUp (0 + css.length) H.length) 3 v) (H ++ (new.map (·.2)).map (rno (sgUp (0 + css.length) H.length) 3))) := by
  have := vcR (H := H) mskOk mixed 40 (v := v) (new := new) hcss (by rw [glob0]; exact hc) hv (by rw [glob0]; exact hv2) hn (by rw [glob0]; exact hn2) ids hl hids
  rw [glob0] at this; exact this
theorem one_id {H : Heap} {id : Nat} {own : Bool} {z : Nat} {cs : List Value} (hid : H[id]? = some (.cells own z cs)) : ∀ (k : Nat) (c : List Value), [cs][k]? = some c → ∃ id' own z, [id][k]? = some id' ∧ H[id']? = some (KObj.cells own z c) := by
  intro k c h
  match k with
  | 0 => cases h; exact ⟨id, own, z, rfl, hid⟩
theorem one_cs {cs : List Value} (h : cs.all (belowC 0) = true) : ∀ c ∈ [cs], c.all (belowC 0) = true := by intro c hc; rw [List.mem_singleton.1 hc]; exact h
end
end Go.Proofs.YthcjliffpebjaaaGreat
/- Ice: the reference's answers on cells are the layer's. No condition. -/
namespace Go.Proofs.YthcjliffpebjaaaGreat
open Go Go.K
set_option maxRecDepth 100000
set_option linter.unusedVariables false
set_option linter.unusedSimpArgs false
noncomputable section
attribute [local irreducible] vF
theorem krchange (rate hours : Int) (h1 : 0 ≤ rate ∧ rate ≤ 1000) (h2 : 0 ≤ hours ∧ hours ≤ 10000) (H : Heap) : KCall prog F.polynyaref01_change [.int .i64 rate, .int .i64 hours] H [] (Is (.int .i64 (chg rate hours)) H) := by
  refine valK 40 (fun _ => rfl) rfl (Eq.mpr (Erchange _ rate hours) ?_) H
  have hb := mulb h1.1 h1.2 h2.1 h2.2
  have ht : Int.tdiv (rate * hours) 24 = (rate * hours) / 24 := Int.tdiv_eq_ediv_of_nonneg (by omega)
  unfold Rrchange
  rw [ht]
  refine ⟨v64 (by omega), v64 (by omega), v64 (by omega), v64 (by omega), fun h => ⟨v64 (by omega), i64_eq ?_⟩, fun h => i64_eq ?_⟩
  · have := of_decide_eq_true h; unfold chg; omega
  · have := of_decide_eq_false h; unfold chg; omega
/-! ## Branches that come together -/
end
end Go.Proofs.YthcjliffpebjaaaGreat
/- Ice: allowed courses. No condition. -/
namespace Go.Proofs.YthcjliffpebjaaaGreat
set_option linter.unusedSimpArgs false
set_option linter.unusedVariables false
open Go Go.K
noncomputable section
def pairI (m : Rates) (x y : Ice) (h : Int) : Prop :=
  (x.conc - chg m.down.conc h ≤ y.conc ∧ y.conc ≤ x.conc + chg m.up.conc h) ∧ (x.thick - chg m.down.thick h ≤ y.thick ∧ y.thick ≤ x.thick + chg m.up.thick h) ∧
  (x.ridge - chg m.down.ridge h ≤ y.ridge ∧ y.ridge ≤ x.ridge + chg m.up.ridge h) ∧ (x.press - chg m.down.press h ≤ y.press ∧ y.press ≤ x.press + chg m.up.press h)
def row (xs : List Ice) (m : Rates) (t n : Nat) : Prop := ∀ s, s < n → pairI m (xs.getD s zeroI) (xs.getD t zeroI) ((t : Int) - (s : Int))
end
end Go.Proofs.YthcjliffpebjaaaGreat
/- What is to be shown of functions. Printed by a program. No condition. -/
namespace Go.Proofs.YthcjliffpebjaaaGreat
set_option linter.unusedSimpArgs false
open Go Go.K
set_option maxRecDepth 100000
set_option linter.unusedVariables false
noncomputable section
def RspMeet (sp : Value) (a b : Cell) : Prop :=
  (∃ y0 : Int, (.int .i64 (if (b.conc.lo : Int) > a.conc.lo then (b.conc.lo : Int) else a.conc.lo) : Value) = .int .i64 y0 ∧ (∃ y1 : Int, (.int .i64 (if (b.conc.hi : Int) < a.conc.hi then (b.conc.hi : Int) else a.conc.hi) : Value) = .int .i64 y1 ∧ (∃ y2 : Int, (.int .i64 (if (b.thick.lo : Int) > a.thick.lo then (b.thick.lo : Int) else a.thick.lo) : Value) = .int .i64 y2 ∧ (∃ y3 : Int, (.int .i64 (if (b.thick.hi : Int) < a.thick.hi then (b.thick.hi : Int) else a.thick.hi) : Value) = .int .i64 y3 ∧ (∃ y4 : Int, (.int .i64 (if (b.ridge.lo : Int) > a.ridge.lo then (b.ridge.lo : Int) else a.ridge.lo) : Value) = .int .i64 y4 ∧ (∃ y5 : Int, (.int .i64 (if (b.ridge.hi : Int) < a.ridge.hi then (b.ridge.hi : Int) else a.ridge.hi) : Value) = .int .i64 y5 ∧ (∃ y6 : Int, (.int .i64 (if (b.press.lo : Int) > a.press.lo then (b.press.lo : Int) else a.press.lo) : Value) = .int .i64 y6 ∧ (∃ y7 : Int, (.int .i64 (if (b.press.hi : Int) < a.press.hi then (b.press.hi : Int) else a.press.hi) : Value) = .int .i64 y7 ∧ (((!(decide ((y0 : Int) ≤ y1))) = true → (.tuple #[.agg #[.int .i64 y0, .int .i64 y1, .int .i64 y2, .int .i64 y3, .int .i64 y4, .int .i64 y5, .int .i64 y6, .int .i64 y7], .bool false] : Value) = sp) ∧ ((!(decide ((y0 : Int) ≤ y1))) = false → (((!(decide ((y2 : Int) ≤ y3))) = true → (.tuple #[.agg #[.int .i64 y0, .int .i64 y1, .int .i64 y2, .int .i64 y3, .int .i64 y4, .int .i64 y5, .int .i64 y6, .int .i64 y7], .bool false] : Value) = sp) ∧ ((!(decide ((y2 : Int) ≤ y3))) = false → (((!(decide ((y4 : Int) ≤ y5))) = true → (.tuple #[.agg #[.int .i64 y0, .int .i64 y1, .int .i64 y2, .int .i64 y3, .int .i64 y4, .int .i64 y5, .int .i64 y6, .int .i64 y7], .bool false] : Value) = sp) ∧ ((!(decide ((y4 : Int) ≤ y5))) = false → (((!(decide ((y6 : Int) ≤ y7))) = true → (.tuple #[.agg #[.int .i64 y0, .int .i64 y1, .int .i64 y2, .int .i64 y3, .int .i64 y4, .int .i64 y5, .int .i64 y6, .int .i64 y7], .bool false] : Value) = sp) ∧ ((!(decide ((y6 : Int) ≤ y7))) = false → (.tuple #[.agg #[.int .i64 y0, .int .i64 y1, .int .i64 y2, .int .i64 y3, .int .i64 y4, .int .i64 y5, .int .i64 y6, .int .i64 y7], .bool true] : Value) = sp))))))))))))))))
theorem EspMeet (sp : Value) (a b : Cell) : vF prog msk (dm 0) 100000 true 40 true 84 [.agg #[.int .i64 a.conc.lo, .int .i64 a.conc.hi, .int .i64 a.thick.lo, .int .i64 a.thick.hi, .int .i64 a.ridge.lo, .int .i64 a.ridge.hi, .int .i64 a.press.lo, .int .i64 a.press.hi], .agg #[.int .i64 b.conc.lo, .int .i64 b.conc.hi, .int .i64 b.thick.lo, .int .i64 b.thick.hi, .int .i64 b.ridge.lo, .int .i64 b.ridge.hi, .int .i64 b.press.lo, .int .i64 b.press.hi]] ⟨0, .leaf⟩ (some [])
  (.go 26 (.bind Int (fun y0 => .slot 13 (.int .i64 y0) (.go 8 (.bind Int (fun y1 => .slot 22 (.int .i64 y1) (.go 23 (.bind Int (fun y2 => .slot 13 (.int .i64 y2) (.go 8 (.bind Int (fun y3 => .slot 22 (.int .i64 y3) (.go 23 (.bind Int (fun y4 => .slot 13 (.int .i64 y4) (.go 8 (.bind Int (fun y5 => .slot 22 (.int .i64 y5) (.go 23 (.bind Int (fun y6 => .slot 13 (.int .i64 y6) (.go 8 (.bind Int (fun y7 => .slot 22 (.int .i64 y7) (.go 39 (.fork (.auto) (.go 20 (.fork (.auto) (.go 20 (.fork (.auto) (.go 20 (.fork (.auto) (.auto)))))))))))))))))))))))))))))))))
  (fun v _ _ => v = sp) = RspMeet sp a b := by kernel_rfl
def RspAged (sp : Value) (c : Cell) (m : Rates) (h : Int) : Prop :=
  (∃ r0 : Int, ((True) ∧ (∀ H' : Heap, H'.length = 9 → (True) → KCall prog 149 [.int .i64 m.down.conc, .int .i64 h] H' [] (Is (.int .i64 r0) H')) ∧ ((.int .i64 (IntKind.wrap .i64 (c.conc.lo - r0)) : Value) = .int .i64 (c.conc.lo - r0) ∧ (∃ y1 : Int, (.int .i64 (if (0 : Int) > (c.conc.lo - r0) then (0 : Int) else (c.conc.lo - r0)) : Value) = .int .i64 y1 ∧ (∃ r2 : Int, ((True) ∧ (∀ H' : Heap, H'.length = 9 → (True) → KCall prog 149 [.int .i64 m.up.conc, .int .i64 h] H' [] (Is (.int .i64 r2) H')) ∧ ((.int .i64 (IntKind.wrap .i64 (c.conc.hi + r2)) : Value) = .int .i64 (c.conc.hi + r2) ∧ (∃ y3 : Int, (.int .i64 (if (100 : Int) < (c.conc.hi + r2) then (100 : Int) else (c.conc.hi + r2)) : Value) = .int .i64 y3 ∧ (∃ r4 : Int, ((True) ∧ (∀ H' : Heap, H'.length = 9 → (True) → KCall prog 149 [.int .i64 m.down.thick, .int .i64 h] H' [] (Is (.int .i64 r4) H')) ∧ ((.int .i64 (IntKind.wrap .i64 (c.thick.lo - r4)) : Value) = .int .i64 (c.thick.lo - r4) ∧ (∃ y5 : Int, (.int .i64 (if (0 : Int) > (c.thick.lo - r4) then (0 : Int) else (c.thick.lo - r4)) : Value) = .int .i64 y5 ∧ (∃ r6 : Int, ((True) ∧ (∀ H' : Heap, H'.length = 9 → (True) → KCall prog 149 [.int .i64 m.up.thick, .int .i64 h] H' [] (Is (.int .i64 r6) H')) ∧ ((.int .i64 (IntKind.wrap .i64 (c.thick.hi + r6)) : Value) = .int .i64 (c.thick.hi + r6) ∧ (∃ y7 : Int, (.int .i64 (if (400 : Int) < (c.thick.hi + r6) then (400 : Int) else (c.thick.hi + r6)) : Value) = .int .i64 y7 ∧ (∃ r8 : Int, ((True) ∧ (∀ H' : Heap, H'.length = 9 → (True) → KCall prog 149 [.int .i64 m.down.ridge, .int .i64 h] H' [] (Is (.int .i64 r8) H')) ∧ ((.int .i64 (IntKind.wrap .i64 (c.ridge.lo - r8)) : Value) = .int .i64 (c.ridge.lo - r8) ∧ (∃ y9 : Int, (.int .i64 (if (0 : Int) > (c.ridge.lo - r8) then (0 : Int) else (c.ridge.lo - r8)) : Value) = .int .i64 y9 ∧ (∃ r10 : Int, ((True) ∧ (∀ H' : Heap, H'.length = 9 → (True) → KCall prog 149 [.int .i64 m.up.ridge, .int .i64 h] H' [] (Is (.int .i64 r10) H')) ∧ ((.int .i64 (IntKind.wrap .i64 (c.ridge.hi + r10)) : Value) = .int .i64 (c.ridge.hi + r10) ∧ (∃ y11 : Int, (.int .i64 (if (100 : Int) < (c.ridge.hi + r10) then (100 : Int) else (c.ridge.hi + r10)) : Value) = .int .i64 y11 ∧ (∃ r12 : Int, ((True) ∧ (∀ H' : Heap, H'.length = 9 → (True) → KCall prog 149 [.int .i64 m.down.press, .int .i64 h] H' [] (Is (.int .i64 r12) H')) ∧ ((.int .i64 (IntKind.wrap .i64 (c.press.lo - r12)) : Value) = .int .i64 (c.press.lo - r12) ∧ (∃ y13 : Int, (.int .i64 (if (0 : Int) > (c.press.lo - r12) then (0 : Int) else (c.press.lo - r12)) : Value) = .int .i64 y13 ∧ (∃ r14 : Int, ((True) ∧ (∀ H' : Heap, H'.length = 9 → (True) → KCall prog 149 [.int .i64 m.up.press, .int .i64 h] H' [] (Is (.int .i64 r14) H')) ∧ ((.int .i64 (IntKind.wrap .i64 (c.press.hi + r14)) : Value) = .int .i64 (c.press.hi + r14) ∧ (∃ y15 : Int, (.int .i64 (if (3 : Int) < (c.press.hi + r14) then (3 : Int) else (c.press.hi + r14)) : Value) = .int .i64 y15 ∧ (.agg #[.int .i64 y1, .int .i64 y3, .int .i64 y5, .int .i64 y7, .int .i64 y9, .int .i64 y11, .int .i64 y13, .int .i64 y15] : Value) = sp))))))))))))))))))))))))))))))))
theorem EspAged (sp : Value) (c : Cell) (m : Rates) (h : Int) : vF prog msk (dm 0) 100000 true 40 true 112 [.agg #[.int .i64 c.conc.lo, .int .i64 c.conc.hi, .int .i64 c.thick.lo, .int .i64 c.thick.hi, .int .i64 c.ridge.lo, .int .i64 c.ridge.hi, .int .i64 c.press.lo, .int .i64 c.press.hi], .agg #[.int .i64 m.up.conc, .int .i64 m.up.thick, .int .i64 m.up.ridge, .int .i64 m.up.press, .int .i64 m.down.conc, .int .i64 m.down.thick, .int .i64 m.down.ridge, .int .i64 m.down.press], .int .i64 h] ⟨0, .leaf⟩ (some [])
  (.go 68 (.bind (Int) (fun r0 => .ans [] (.int .i64 r0) [] (.go 0 (.slot 16 (.int .i64 (c.conc.lo - r0)) (.go 0 (.bind Int (fun y1 => .slot 17 (.int .i64 y1) (.bind (Int) (fun r2 => .ans [] (.int .i64 r2) [] (.go 0 (.slot 27 (.int .i64 (c.conc.hi + r2)) (.go 5 (.bind Int (fun y3 => .slot 31 (.int .i64 y3) (.go 31 (.bind (Int) (fun r4 => .ans [] (.int .i64 r4) [] (.go 0 (.slot 16 (.int .i64 (c.thick.lo - r4)) (.go 0 (.bind Int (fun y5 => .slot 17 (.int .i64 y5) (.bind (Int) (fun r6 => .ans [] (.int .i64 r6) [] (.go 0 (.slot 27 (.int .i64 (c.thick.hi + r6)) (.go 5 (.bind Int (fun y7 => .slot 31 (.int .i64 y7) (.go 31 (.bind (Int) (fun r8 => .ans [] (.int .i64 r8) [] (.go 0 (.slot 16 (.int .i64 (c.ridge.lo - r8)) (.go 0 (.bind Int (fun y9 => .slot 17 (.int .i64 y9) (.bind (Int) (fun r10 => .ans [] (.int .i64 r10) [] (.go 0 (.slot 27 (.int .i64 (c.ridge.hi + r10)) (.go 5 (.bind Int (fun y11 => .slot 31 (.int .i64 y11) (.go 31 (.bind (Int) (fun r12 => .ans [] (.int .i64 r12) [] (.go 0 (.slot 16 (.int .i64 (c.press.lo - r12)) (.go 0 (.bind Int (fun y13 => .slot 17 (.int .i64 y13) (.bind (Int) (fun r14 => .ans [] (.int .i64 r14) [] (.go 0 (.slot 27 (.int .i64 (c.press.hi + r14)) (.go 5 (.bind Int (fun y15 => .slot 31 (.int .i64 y15) (.auto)))))))))))))))))))))))))))))))))))))))))))))))))))))))))))))
  (fun v _ _ => v = sp) = RspAged sp c m h := by kernel_rfl
def RrApart (sp : Value) (a b : Cell) : Prop :=
  (((decide ((a.conc.hi : Int) < b.conc.lo)) = true → (.bool true : Value) = sp) ∧ ((decide ((a.conc.hi : Int) < b.conc.lo)) = false → (((decide ((b.conc.hi : Int) < a.conc.lo)) = true → (.bool true : Value) = sp) ∧ ((decide ((b.conc.hi : Int) < a.conc.lo)) = false → (((decide ((a.thick.hi : Int) < b.thick.lo)) = true → (.bool true : Value) = sp) ∧ ((decide ((a.thick.hi : Int) < b.thick.lo)) = false → (((decide ((b.thick.hi : Int) < a.thick.lo)) = true → (.bool true : Value) = sp) ∧ ((decide ((b.thick.hi : Int) < a.thick.lo)) = false → (((decide ((a.ridge.hi : Int) < b.ridge.lo)) = true → (.bool true : Value) = sp) ∧ ((decide ((a.ridge.hi : Int) < b.ridge.lo)) = false → (((decide ((b.ridge.hi : Int) < a.ridge.lo)) = true → (.bool true : Value) = sp) ∧ ((decide ((b.ridge.hi : Int) < a.ridge.lo)) = false → (((decide ((a.press.hi : Int) < b.press.lo)) = true → (.bool true : Value) = sp) ∧ ((decide ((a.press.hi : Int) < b.press.lo)) = false → (((decide ((b.press.hi : Int) < a.press.lo)) = true → (.bool true : Value) = sp) ∧ ((decide ((b.press.hi : Int) < a.press.lo)) = false → (.bool false : Value) = sp))))))))))))))))
theorem ErApart (sp : Value) (a b : Cell) : vF prog msk (dm 0) 100000 true 40 true 109 [.agg #[.int .i64 a.conc.lo, .int .i64 a.conc.hi, .int .i64 a.thick.lo, .int .i64 a.thick.hi, .int .i64 a.ridge.lo, .int .i64 a.ridge.hi, .int .i64 a.press.lo, .int .i64 a.press.hi], .agg #[.int .i64 b.conc.lo, .int .i64 b.conc.hi, .int .i64 b.thick.lo, .int .i64 b.thick.hi, .int .i64 b.ridge.lo, .int .i64 b.ridge.hi, .int .i64 b.press.lo, .int .i64 b.press.hi]] ⟨0, .leaf⟩ (some [])
  (.go 34 (.gfork (.auto) (.go 27 (.fork (.auto) (.go 39 (.gfork (.auto) (.go 33 (.fork (.auto) (.go 45 (.gfork (.auto) (.go 39 (.fork (.auto) (.go 45 (.gfork (.auto) (.go 39 (.fork (.auto) (.auto)))))))))))))))))
  (fun v _ _ => v = sp) = RrApart sp a b := by kernel_rfl
def RrCommon (sp : Value) (a b : Cell) : Prop :=
  (true = true ∧ ((decide ((a.conc.lo : Int) < b.conc.lo)) = true → (∃ x0' : Int, (((decide ((a.conc.lo : Int) < b.conc.lo)) = true ∧ (x0' : Int) = b.conc.lo ∧ True) ∨ ((decide ((a.conc.lo : Int) < b.conc.lo)) = false ∧ (x0' : Int) = a.conc.lo ∧ True)) ∧ true = true ∧ ((.pointer (some ⟨3, 0, none⟩) : Value) = .pointer (some ⟨3, 0, none⟩) ∧ (.int .i64 0 : Value) = .int .i64 0 ∧ (.pointer (some ⟨2, 0, none⟩) : Value) = .pointer (some ⟨2, 0, none⟩) ∧ (.pointer (some ⟨1, 0, none⟩) : Value) = .pointer (some ⟨1, 0, none⟩) ∧ (.pointer (some ⟨0, 0, none⟩) : Value) = .pointer (some ⟨0, 0, none⟩) ∧ True) ∧ ((some (.cells true 0 [.int .i64 b.conc.lo, .int .i64 a.conc.hi] : KObj) = some (.cells true 0 [.int .i64 x0', .int .i64 a.conc.hi] : KObj) ∧ belowO 4 (.cells true 0 [.int .i64 x0', .int .i64 a.conc.hi] : KObj) = true) ∧ True) ∧ (True) ∧ (True))) ∧ ((decide ((a.conc.lo : Int) < b.conc.lo)) = false → (∃ x0' : Int, (((decide ((a.conc.lo : Int) < b.conc.lo)) = true ∧ (x0' : Int) = b.conc.lo ∧ True) ∨ ((decide ((a.conc.lo : Int) < b.conc.lo)) = false ∧ (x0' : Int) = a.conc.lo ∧ True)) ∧ true = true ∧ ((.pointer (some ⟨3, 0, none⟩) : Value) = .pointer (some ⟨3, 0, none⟩) ∧ (.int .i64 0 : Value) = .int .i64 0 ∧ (.pointer (some ⟨2, 0, none⟩) : Value) = .pointer (some ⟨2, 0, none⟩) ∧ (.pointer (some ⟨1, 0, none⟩) : Value) = .pointer (some ⟨1, 0, none⟩) ∧ (.pointer (some ⟨0, 0, none⟩) : Value) = .pointer (some ⟨0, 0, none⟩) ∧ True) ∧ ((some (.cells true 0 [.int .i64 a.conc.lo, .int .i64 a.conc.hi] : KObj) = some (.cells true 0 [.int .i64 x0', .int .i64 a.conc.hi] : KObj) ∧ belowO 4 (.cells true 0 [.int .i64 x0', .int .i64 a.conc.hi] : KObj) = true) ∧ True) ∧ (True) ∧ (True))) ∧ ∀ x0 : Int, (((decide ((a.conc.lo : Int) < b.conc.lo)) = true ∧ (x0 : Int) = b.conc.lo ∧ True) ∨ ((decide ((a.conc.lo : Int) < b.conc.lo)) = false ∧ (x0 : Int) = a.conc.lo ∧ True)) → (true = true ∧ ((decide ((b.conc.hi : Int) < a.conc.hi)) = true → (∃ x1' : Int, (((decide ((b.conc.hi : Int) < a.conc.hi)) = true ∧ (x1' : Int) = b.conc.hi ∧ True) ∨ ((decide ((b.conc.hi : Int) < a.conc.hi)) = false ∧ (x1' : Int) = a.conc.hi ∧ True)) ∧ true = true ∧ ((.pointer (some ⟨3, 0, none⟩) : Value) = .pointer (some ⟨3, 0, none⟩) ∧ (.int .i64 0 : Value) = .int .i64 0 ∧ (.pointer (some ⟨2, 0, none⟩) : Value) = .pointer (some ⟨2, 0, none⟩) ∧ (.pointer (some ⟨1, 0, none⟩) : Value) = .pointer (some ⟨1, 0, none⟩) ∧ (.pointer (some ⟨0, 0, none⟩) : Value) = .pointer (some ⟨0, 0, none⟩) ∧ True) ∧ ((some (.cells true 0 [.int .i64 x0, .int .i64 b.conc.hi] : KObj) = some (.cells true 0 [.int .i64 x0, .int .i64 x1'] : KObj) ∧ belowO 4 (.cells true 0 [.int .i64 x0, .int .i64 x1'] : KObj) = true) ∧ True) ∧ (True) ∧ (True))) ∧ ((decide ((b.conc.hi : Int) < a.conc.hi)) = false → (∃ x1' : Int, (((decide ((b.conc.hi : Int) < a.conc.hi)) = true ∧ (x1' : Int) = b.conc.hi ∧ True) ∨ ((decide ((b.conc.hi : Int) < a.conc.hi)) = false ∧ (x1' : Int) = a.conc.hi ∧ True)) ∧ true = true ∧ ((.pointer (some ⟨3, 0, none⟩) : Value) = .pointer (some ⟨3, 0, none⟩) ∧ (.int .i64 0 : Value) = .int .i64 0 ∧ (.pointer (some ⟨2, 0, none⟩) : Value) = .pointer (some ⟨2, 0, none⟩) ∧ (.pointer (some ⟨1, 0, none⟩) : Value) = .pointer (some ⟨1, 0, none⟩) ∧ (.pointer (some ⟨0, 0, none⟩) : Value) = .pointer (some ⟨0, 0, none⟩) ∧ True) ∧ ((some (.cells true 0 [.int .i64 x0, .int .i64 a.conc.hi] : KObj) = some (.cells true 0 [.int .i64 x0, .int .i64 x1'] : KObj) ∧ belowO 4 (.cells true 0 [.int .i64 x0, .int .i64 x1'] : KObj) = true) ∧ True) ∧ (True) ∧ (True))) ∧ ∀ x1 : Int, (((decide ((b.conc.hi : Int) < a.conc.hi)) = true ∧ (x1 : Int) = b.conc.hi ∧ True) ∨ ((decide ((b.conc.hi : Int) < a.conc.hi)) = false ∧ (x1 : Int) = a.conc.hi ∧ True)) → (true = true ∧ ((decide ((a.thick.lo : Int) < b.thick.lo)) = true → (∃ x2' : Int, (((decide ((a.thick.lo : Int) < b.thick.lo)) = true ∧ (x2' : Int) = b.thick.lo ∧ True) ∨ ((decide ((a.thick.lo : Int) < b.thick.lo)) = false ∧ (x2' : Int) = a.thick.lo ∧ True)) ∧ true = true ∧ ((.pointer (some ⟨4, 0, none⟩) : Value) = .pointer (some ⟨4, 0, none⟩) ∧ (.int .i64 1 : Value) = .int .i64 1 ∧ (.pointer (some ⟨2, 0, none⟩) : Value) = .pointer (some ⟨2, 0, none⟩) ∧ (.pointer (some ⟨1, 0, none⟩) : Value) = .pointer (some ⟨1, 0, none⟩) ∧ (.pointer (some ⟨0, 0, none⟩) : Value) = .pointer (some ⟨0, 0, none⟩) ∧ True) ∧ ((some (.cells true 0 [.int .i64 b.thick.lo, .int .i64 a.thick.hi] : KObj) = some (.cells true 0 [.int .i64 x2', .int .i64 a.thick.hi] : KObj) ∧ belowO 5 (.cells true 0 [.int .i64 x2', .int .i64 a.thick.hi] : KObj) = true) ∧ True) ∧ (True) ∧ (True))) ∧ ((decide ((a.thick.lo : Int) < b.thick.lo)) = false → (∃ x2' : Int, (((decide ((a.thick.lo : Int) < b.thick.lo)) = true ∧ (x2' : Int) = b.thick.lo ∧ True) ∨ ((decide ((a.thick.lo : Int) < b.thick.lo)) = false ∧ (x2' : Int) = a.thick.lo ∧ True)) ∧ true = true ∧ ((.pointer (some ⟨4, 0, none⟩) : Value) = .pointer (some ⟨4, 0, none⟩) ∧ (.int .i64 1 : Value) = .int .i64 1 ∧ (.pointer (some ⟨2, 0, none⟩) : Value) = .pointer (some ⟨2, 0, none⟩) ∧ (.pointer (some ⟨1, 0, none⟩) : Value) = .pointer (some ⟨1, 0, none⟩) ∧ (.pointer (some ⟨0, 0, none⟩) : Value) = .pointer (some ⟨0, 0, none⟩) ∧ True) ∧ ((some (.cells true 0 [.int .i64 a.thick.lo, .int .i64 a.thick.hi] : KObj) = some (.cells true 0 [.int .i64 x2', .int .i64 a.thick.hi] : KObj) ∧ belowO 5 (.cells true 0 [.int .i64 x2', .int .i64 a.thick.hi] : KObj) = true) ∧ True) ∧ (True) ∧ (True))) ∧ ∀ x2 : Int, (((decide ((a.thick.lo : Int) < b.thick.lo)) = true ∧ (x2 : Int) = b.thick.lo ∧ True) ∨ ((decide ((a.thick.lo : Int) < b.thick.lo)) = false ∧ (x2 : Int) = a.thick.lo ∧ True)) → (true = true ∧ ((decide ((b.thick.hi : Int) < a.thick.hi)) = true → (∃ x3' : Int, (((decide ((b.thick.hi : Int) < a.thick.hi)) = true ∧ (x3' : Int) = b.thick.hi ∧ True) ∨ ((decide ((b.thick.hi : Int) < a.thick.hi)) = false ∧ (x3' : Int) = a.thick.hi ∧ True)) ∧ true = true ∧ ((.pointer (some ⟨4, 0, none⟩) : Value) = .pointer (some ⟨4, 0, none⟩) ∧ (.int .i64 1 : Value) = .int .i64 1 ∧ (.pointer (some ⟨2, 0, none⟩) : Value) = .pointer (some ⟨2, 0, none⟩) ∧ (.pointer (some ⟨1, 0, none⟩) : Value) = .pointer (some ⟨1, 0, none⟩) ∧ (.pointer (some ⟨0, 0, none⟩) : Value) = .pointer (some ⟨0, 0, none⟩) ∧ True) ∧ ((some (.cells true 0 [.int .i64 x2, .int .i64 b.thick.hi] : KObj) = some (.cells true 0 [.int .i64 x2, .int .i64 x3'] : KObj) ∧ belowO 5 (.cells true 0 [.int .i64 x2, .int .i64 x3'] : KObj) = true) ∧ True) ∧ (True) ∧ (True))) ∧ ((decide ((b.thick.hi : Int) < a.thick.hi)) = false → (∃ x3' : Int, (((decide ((b.thick.hi : Int) < a.thick.hi)) = true ∧ (x3' : Int) = b.thick.hi ∧ True) ∨ ((decide ((b.thick.hi : Int) < a.thick.hi)) = false ∧ (x3' : Int) = a.thick.hi ∧ True)) ∧ true = true ∧ ((.pointer (some ⟨4, 0, none⟩) : Value) = .pointer (some ⟨4, 0, none⟩) ∧ (.int .i64 1 : Value) = .int .i64 1 ∧ (.pointer (some ⟨2, 0, none⟩) : Value) = .pointer (some ⟨2, 0, none⟩) ∧ (.pointer (some ⟨1, 0, none⟩) : Value) = .pointer (some ⟨1, 0, none⟩) ∧ (.pointer (some ⟨0, 0, none⟩) : Value) = .pointer (some ⟨0, 0, none⟩) ∧ True) ∧ ((some (.cells true 0 [.int .i64 x2, .int .i64 a.thick.hi] : KObj) = some (.cells true 0 [.int .i64 x2, .int .i64 x3'] : KObj) ∧ belowO 5 (.cells true 0 [.int .i64 x2, .int .i64 x3'] : KObj) = true) ∧ True) ∧ (True) ∧ (True))) ∧ ∀ x3 : Int, (((decide ((b.thick.hi : Int) < a.thick.hi)) = true ∧ (x3 : Int) = b.thick.hi ∧ True) ∨ ((decide ((b.thick.hi : Int) < a.thick.hi)) = false ∧ (x3 : Int) = a.thick.hi ∧ True)) → (true = true ∧ ((decide ((a.ridge.lo : Int) < b.ridge.lo)) = true → (∃ x4' : Int, (((decide ((a.ridge.lo : Int) < b.ridge.lo)) = true ∧ (x4' : Int) = b.ridge.lo ∧ True) ∨ ((decide ((a.ridge.lo : Int) < b.ridge.lo)) = false ∧ (x4' : Int) = a.ridge.lo ∧ True)) ∧ true = true ∧ ((.pointer (some ⟨5, 0, none⟩) : Value) = .pointer (some ⟨5, 0, none⟩) ∧ (.int .i64 2 : Value) = .int .i64 2 ∧ (.pointer (some ⟨2, 0, none⟩) : Value) = .pointer (some ⟨2, 0, none⟩) ∧ (.pointer (some ⟨1, 0, none⟩) : Value) = .pointer (some ⟨1, 0, none⟩) ∧ (.pointer (some ⟨0, 0, none⟩) : Value) = .pointer (some ⟨0, 0, none⟩) ∧ True) ∧ ((some (.cells true 0 [.int .i64 b.ridge.lo, .int .i64 a.ridge.hi] : KObj) = some (.cells true 0 [.int .i64 x4', .int .i64 a.ridge.hi] : KObj) ∧ belowO 6 (.cells true 0 [.int .i64 x4', .int .i64 a.ridge.hi] : KObj) = true) ∧ True) ∧ (True) ∧ (True))) ∧ ((decide ((a.ridge.lo : Int) < b.ridge.lo)) = false → (∃ x4' : Int, (((decide ((a.ridge.lo : Int) < b.ridge.lo)) = true ∧ (x4' : Int) = b.ridge.lo ∧ True) ∨ ((decide ((a.ridge.lo : Int) < b.ridge.lo)) = false ∧ (x4' : Int) = a.ridge.lo ∧ True)) ∧ true = true ∧ ((.pointer (some ⟨5, 0, none⟩) : Value) = .pointer (some ⟨5, 0, none⟩) ∧ (.int .i64 2 : Value) = .int .i64 2 ∧ (.pointer (some ⟨2, 0, none⟩) : Value) = .pointer (some ⟨2, 0, none⟩) ∧ (.pointer (some ⟨1, 0, none⟩) : Value) = .pointer (some ⟨1, 0, none⟩) ∧ (.pointer (some ⟨0, 0, none⟩) : Value) = .pointer (some ⟨0, 0, none⟩) ∧ True) ∧ ((some (.cells true 0 [.int .i64 a.ridge.lo, .int .i64 a.ridge.hi] : KObj) = some (.cells true 0 [.int .i64 x4', .int .i64 a.ridge.hi] : KObj) ∧ belowO 6 (.cells true 0 [.int .i64 x4', .int .i64 a.ridge.hi] : KObj) = true) ∧ True) ∧ (True) ∧ (True))) ∧ ∀ x4 : Int, (((decide ((a.ridge.lo : Int) < b.ridge.lo)) = true ∧ (x4 : Int) = b.ridge.lo ∧ True) ∨ ((decide ((a.ridge.lo : Int) < b.ridge.lo)) = false ∧ (x4 : Int) = a.ridge.lo ∧ True)) → (true = true ∧ ((decide ((b.ridge.hi : Int) < a.ridge.hi)) = true → (∃ x5' : Int, (((decide ((b.ridge.hi : Int) < a.ridge.hi)) = true ∧ (x5' : Int) = b.ridge.hi ∧ True) ∨ ((decide ((b.ridge.hi : Int) < a.ridge.hi)) = false ∧ (x5' : Int) = a.ridge.hi ∧ True)) ∧ true = true ∧ ((.pointer (some ⟨5, 0, none⟩) : Value) = .pointer (some ⟨5, 0, none⟩) ∧ (.int .i64 2 : Value) = .int .i64 2 ∧ (.pointer (some ⟨2, 0, none⟩) : Value) = .pointer (some ⟨2, 0, none⟩) ∧ (.pointer (some ⟨1, 0, none⟩) : Value) = .pointer (some ⟨1, 0, none⟩) ∧ (.pointer (some ⟨0, 0, none⟩) : Value) = .pointer (some ⟨0, 0, none⟩) ∧ True) ∧ ((some (.cells true 0 [.int .i64 x4, .int .i64 b.ridge.hi] : KObj) = some (.cells true 0 [.int .i64 x4, .int .i64 x5'] : KObj) ∧ belowO 6 (.cells true 0 [.int .i64 x4, .int .i64 x5'] : KObj) = true) ∧ True) ∧ (True) ∧ (True))) ∧ ((decide ((b.ridge.hi : Int) < a.ridge.hi)) = false → (∃ x5' : Int, (((decide ((b.ridge.hi : Int) < a.ridge.hi)) = true ∧ (x5' : Int) = b.ridge.hi ∧ True) ∨ ((decide ((b.ridge.hi : Int) < a.ridge.hi)) = false ∧ (x5' : Int) = a.ridge.hi ∧ True)) ∧ true = true ∧ ((.pointer (some ⟨5, 0, none⟩) : Value) = .pointer (some ⟨5, 0, none⟩) ∧ (.int .i64 2 : Value) = .int .i64 2 ∧ (.pointer (some ⟨2, 0, none⟩) : Value) = .pointer (some ⟨2, 0, none⟩) ∧ (.pointer (some ⟨1, 0, none⟩) : Value) = .pointer (some ⟨1, 0, none⟩) ∧ (.pointer (some ⟨0, 0, none⟩) : Value) = .pointer (some ⟨0, 0, none⟩) ∧ True) ∧ ((some (.cells true 0 [.int .i64 x4, .int .i64 a.ridge.hi] : KObj) = some (.cells true 0 [.int .i64 x4, .int .i64 x5'] : KObj) ∧ belowO 6 (.cells true 0 [.int .i64 x4, .int .i64 x5'] : KObj) = true) ∧ True) ∧ (True) ∧ (True))) ∧ ∀ x5 : Int, (((decide ((b.ridge.hi : Int) < a.ridge.hi)) = true ∧ (x5 : Int) = b.ridge.hi ∧ True) ∨ ((decide ((b.ridge.hi : Int) < a.ridge.hi)) = false ∧ (x5 : Int) = a.ridge.hi ∧ True)) → (true = true ∧ ((decide ((a.press.lo : Int) < b.press.lo)) = true → (∃ x6' : Int, (((decide ((a.press.lo : Int) < b.press.lo)) = true ∧ (x6' : Int) = b.press.lo ∧ True) ∨ ((decide ((a.press.lo : Int) < b.press.lo)) = false ∧ (x6' : Int) = a.press.lo ∧ True)) ∧ true = true ∧ ((.pointer (some ⟨6, 0, none⟩) : Value) = .pointer (some ⟨6, 0, none⟩) ∧ (.int .i64 3 : Value) = .int .i64 3 ∧ (.pointer (some ⟨2, 0, none⟩) : Value) = .pointer (some ⟨2, 0, none⟩) ∧ (.pointer (some ⟨1, 0, none⟩) : Value) = .pointer (some ⟨1, 0, none⟩) ∧ (.pointer (some ⟨0, 0, none⟩) : Value) = .pointer (some ⟨0, 0, none⟩) ∧ True) ∧ ((some (.cells true 0 [.int .i64 b.press.lo, .int .i64 a.press.hi] : KObj) = some (.cells true 0 [.int .i64 x6', .int .i64 a.press.hi] : KObj) ∧ belowO 7 (.cells true 0 [.int .i64 x6', .int .i64 a.press.hi] : KObj) = true) ∧ True) ∧ (True) ∧ (True))) ∧ ((decide ((a.press.lo : Int) < b.press.lo)) = false → (∃ x6' : Int, (((decide ((a.press.lo : Int) < b.press.lo)) = true ∧ (x6' : Int) = b.press.lo ∧ True) ∨ ((decide ((a.press.lo : Int) < b.press.lo)) = false ∧ (x6' : Int) = a.press.lo ∧ True)) ∧ true = true ∧ ((.pointer (some ⟨6, 0, none⟩) : Value) = .pointer (some ⟨6, 0, none⟩) ∧ (.int .i64 3 : Value) = .int .i64 3 ∧ (.pointer (some ⟨2, 0, none⟩) : Value) = .pointer (some ⟨2, 0, none⟩) ∧ (.pointer (some ⟨1, 0, none⟩) : Value) = .pointer (some ⟨1, 0, none⟩) ∧ (.pointer (some ⟨0, 0, none⟩) : Value) = .pointer (some ⟨0, 0, none⟩) ∧ True) ∧ ((some (.cells true 0 [.int .i64 a.press.lo, .int .i64 a.press.hi] : KObj) = some (.cells true 0 [.int .i64 x6', .int .i64 a.press.hi] : KObj) ∧ belowO 7 (.cells true 0 [.int .i64 x6', .int .i64 a.press.hi] : KObj) = true) ∧ True) ∧ (True) ∧ (True))) ∧ ∀ x6 : Int, (((decide ((a.press.lo : Int) < b.press.lo)) = true ∧ (x6 : Int) = b.press.lo ∧ True) ∨ ((decide ((a.press.lo : Int) < b.press.lo)) = false ∧ (x6 : Int) = a.press.lo ∧ True)) → (true = true ∧ ((decide ((b.press.hi : Int) < a.press.hi)) = true → (∃ x7' : Int, (((decide ((b.press.hi : Int) < a.press.hi)) = true ∧ (x7' : Int) = b.press.hi ∧ True) ∨ ((decide ((b.press.hi : Int) < a.press.hi)) = false ∧ (x7' : Int) = a.press.hi ∧ True)) ∧ true = true ∧ ((.pointer (some ⟨6, 0, none⟩) : Value) = .pointer (some ⟨6, 0, none⟩) ∧ (.int .i64 3 : Value) = .int .i64 3 ∧ (.pointer (some ⟨2, 0, none⟩) : Value) = .pointer (some ⟨2, 0, none⟩) ∧ (.pointer (some ⟨1, 0, none⟩) : Value) = .pointer (some ⟨1, 0, none⟩) ∧ (.pointer (some ⟨0, 0, none⟩) : Value) = .pointer (some ⟨0, 0, none⟩) ∧ True) ∧ ((some (.cells true 0 [.int .i64 x6, .int .i64 b.press.hi] : KObj) = some (.cells true 0 [.int .i64 x6, .int .i64 x7'] : KObj) ∧ belowO 7 (.cells true 0 [.int .i64 x6, .int .i64 x7'] : KObj) = true) ∧ True) ∧ (True) ∧ (True))) ∧ ((decide ((b.press.hi : Int) < a.press.hi)) = false → (∃ x7' : Int, (((decide ((b.press.hi : Int) < a.press.hi)) = true ∧ (x7' : Int) = b.press.hi ∧ True) ∨ ((decide ((b.press.hi : Int) < a.press.hi)) = false ∧ (x7' : Int) = a.press.hi ∧ True)) ∧ true = true ∧ ((.pointer (some ⟨6, 0, none⟩) : Value) = .pointer (some ⟨6, 0, none⟩) ∧ (.int .i64 3 : Value) = .int .i64 3 ∧ (.pointer (some ⟨2, 0, none⟩) : Value) = .pointer (some ⟨2, 0, none⟩) ∧ (.pointer (some ⟨1, 0, none⟩) : Value) = .pointer (some ⟨1, 0, none⟩) ∧ (.pointer (some ⟨0, 0, none⟩) : Value) = .pointer (some ⟨0, 0, none⟩) ∧ True) ∧ ((some (.cells true 0 [.int .i64 x6, .int .i64 a.press.hi] : KObj) = some (.cells true 0 [.int .i64 x6, .int .i64 x7'] : KObj) ∧ belowO 7 (.cells true 0 [.int .i64 x6, .int .i64 x7'] : KObj) = true) ∧ True) ∧ (True) ∧ (True))) ∧ ∀ x7 : Int, (((decide ((b.press.hi : Int) < a.press.hi)) = true ∧ (x7 : Int) = b.press.hi ∧ True) ∨ ((decide ((b.press.hi : Int) < a.press.hi)) = false ∧ (x7 : Int) = a.press.hi ∧ True)) → (.agg #[.int .i64 x0, .int .i64 x1, .int .i64 x2, .int .i64 x3, .int .i64 x4, .int .i64 x5, .int .i64 x6, .int .i64 x7] : Value) = sp))))))))
theorem ErCommon (sp : Value) (a b : Cell) : vF prog msk (dm 0) 100000 true 40 true 83 [.agg #[.int .i64 a.conc.lo, .int .i64 a.conc.hi, .int .i64 a.thick.lo, .int .i64 a.thick.hi, .int .i64 a.ridge.lo, .int .i64 a.ridge.hi, .int .i64 a.press.lo, .int .i64 a.press.hi], .agg #[.int .i64 b.conc.lo, .int .i64 b.conc.hi, .int .i64 b.thick.lo, .int .i64 b.thick.hi, .int .i64 b.ridge.lo, .int .i64 b.ridge.hi, .int .i64 b.press.lo, .int .i64 b.press.hi]] ⟨0, .leaf⟩ (some [])
  (.go 36 (.join 3 (Int) [3] (fun x0 => [(6, .pointer (some ⟨3, 0, none⟩)), (5, .int .i64 0), (4, .pointer (some ⟨2, 0, none⟩)), (3, .pointer (some ⟨1, 0, none⟩)), (2, .pointer (some ⟨0, 0, none⟩))]) (fun x0 => [(3, true, .cells true 0 [.int .i64 x0, .int .i64 a.conc.hi])]) (fun x0 => []) (fun x0 => []) (fun x0 => (((decide ((a.conc.lo : Int) < b.conc.lo)) = true ∧ (x0 : Int) = b.conc.lo ∧ True) ∨ ((decide ((a.conc.lo : Int) < b.conc.lo)) = false ∧ (x0 : Int) = a.conc.lo ∧ True))) (.go 14 (.again [])) (.again []) (fun x0 => .go 15 (.join 3 (Int) [3] (fun x1 => [(6, .pointer (some ⟨3, 0, none⟩)), (5, .int .i64 0), (4, .pointer (some ⟨2, 0, none⟩)), (3, .pointer (some ⟨1, 0, none⟩)), (2, .pointer (some ⟨0, 0, none⟩))]) (fun x1 => [(3, true, .cells true 0 [.int .i64 x0, .int .i64 x1])]) (fun x1 => []) (fun x1 => []) (fun x1 => (((decide ((b.conc.hi : Int) < a.conc.hi)) = true ∧ (x1 : Int) = b.conc.hi ∧ True) ∨ ((decide ((b.conc.hi : Int) < a.conc.hi)) = false ∧ (x1 : Int) = a.conc.hi ∧ True))) (.go 14 (.again [])) (.again []) (fun x1 => .go 58 (.join 3 (Int) [4] (fun x2 => [(6, .pointer (some ⟨4, 0, none⟩)), (5, .int .i64 1), (4, .pointer (some ⟨2, 0, none⟩)), (3, .pointer (some ⟨1, 0, none⟩)), (2, .pointer (some ⟨0, 0, none⟩))]) (fun x2 => [(4, true, .cells true 0 [.int .i64 x2, .int .i64 a.thick.hi])]) (fun x2 => []) (fun x2 => []) (fun x2 => (((decide ((a.thick.lo : Int) < b.thick.lo)) = true ∧ (x2 : Int) = b.thick.lo ∧ True) ∨ ((decide ((a.thick.lo : Int) < b.thick.lo)) = false ∧ (x2 : Int) = a.thick.lo ∧ True))) (.go 17 (.again [])) (.again []) (fun x2 => .go 18 (.join 3 (Int) [4] (fun x3 => [(6, .pointer (some ⟨4, 0, none⟩)), (5, .int .i64 1), (4, .pointer (some ⟨2, 0, none⟩)), (3, .pointer (some ⟨1, 0, none⟩)), (2, .pointer (some ⟨0, 0, none⟩))]) (fun x3 => [(4, true, .cells true 0 [.int .i64 x2, .int .i64 x3])]) (fun x3 => []) (fun x3 => []) (fun x3 => (((decide ((b.thick.hi : Int) < a.thick.hi)) = true ∧ (x3 : Int) = b.thick.hi ∧ True) ∨ ((decide ((b.thick.hi : Int) < a.thick.hi)) = false ∧ (x3 : Int) = a.thick.hi ∧ True))) (.go 17 (.again [])) (.again []) (fun x3 => .go 67 (.join 3 (Int) [5] (fun x4 => [(6, .pointer (some ⟨5, 0, none⟩)), (5, .int .i64 2), (4, .pointer (some ⟨2, 0, none⟩)), (3, .pointer (some ⟨1, 0, none⟩)), (2, .pointer (some ⟨0, 0, none⟩))]) (fun x4 => [(5, true, .cells true 0 [.int .i64 x4, .int .i64 a.ridge.hi])]) (fun x4 => []) (fun x4 => []) (fun x4 => (((decide ((a.ridge.lo : Int) < b.ridge.lo)) = true ∧ (x4 : Int) = b.ridge.lo ∧ True) ∨ ((decide ((a.ridge.lo : Int) < b.ridge.lo)) = false ∧ (x4 : Int) = a.ridge.lo ∧ True))) (.go 20 (.again [])) (.again []) (fun x4 => .go 21 (.join 3 (Int) [5] (fun x5 => [(6, .pointer (some ⟨5, 0, none⟩)), (5, .int .i64 2), (4, .pointer (some ⟨2, 0, none⟩)), (3, .pointer (some ⟨1, 0, none⟩)), (2, .pointer (some ⟨0, 0, none⟩))]) (fun x5 => [(5, true, .cells true 0 [.int .i64 x4, .int .i64 x5])]) (fun x5 => []) (fun x5 => []) (fun x5 => (((decide ((b.ridge.hi : Int) < a.ridge.hi)) = true ∧ (x5 : Int) = b.ridge.hi ∧ True) ∨ ((decide ((b.ridge.hi : Int) < a.ridge.hi)) = false ∧ (x5 : Int) = a.ridge.hi ∧ True))) (.go 20 (.again [])) (.again []) (fun x5 => .go 70 (.join 3 (Int) [6] (fun x6 => [(6, .pointer (some ⟨6, 0, none⟩)), (5, .int .i64 3), (4, .pointer (some ⟨2, 0, none⟩)), (3, .pointer (some ⟨1, 0, none⟩)), (2, .pointer (some ⟨0, 0, none⟩))]) (fun x6 => [(6, true, .cells true 0 [.int .i64 x6, .int .i64 a.press.hi])]) (fun x6 => []) (fun x6 => []) (fun x6 => (((decide ((a.press.lo : Int) < b.press.lo)) = true ∧ (x6 : Int) = b.press.lo ∧ True) ∨ ((decide ((a.press.lo : Int) < b.press.lo)) = false ∧ (x6 : Int) = a.press.lo ∧ True))) (.go 20 (.again [])) (.again []) (fun x6 => .go 21 (.join 3 (Int) [6] (fun x7 => [(6, .pointer (some ⟨6, 0, none⟩)), (5, .int .i64 3), (4, .pointer (some ⟨2, 0, none⟩)), (3, .pointer (some ⟨1, 0, none⟩)), (2, .pointer (some ⟨0, 0, none⟩))]) (fun x7 => [(6, true, .cells true 0 [.int .i64 x6, .int .i64 x7])]) (fun x7 => []) (fun x7 => []) (fun x7 => (((decide ((b.press.hi : Int) < a.press.hi)) = true ∧ (x7 : Int) = b.press.hi ∧ True) ∨ ((decide ((b.press.hi : Int) < a.press.hi)) = false ∧ (x7 : Int) = a.press.hi ∧ True))) (.go 20 (.again [])) (.again []) (fun x7 => .auto)))))))))))))))))
  (fun v _ _ => v = sp) = RrCommon sp a b := by kernel_rfl
def RrOlder (sp : Value) (c : Cell) (m : Rates) (h : Int) : Prop :=
  (∃ r0 : Int, ((True) ∧ (∀ H' : Heap, H'.length = 4 → (True) → KCall prog 117 [.int .i64 m.down.conc, .int .i64 h] H' [] (Is (.int .i64 r0) H')) ∧ ((.int .i64 (IntKind.wrap .i64 (c.conc.lo - r0)) : Value) = .int .i64 (c.conc.lo - r0) ∧ (∃ r1 : Int, ((True) ∧ (∀ H' : Heap, H'.length = 4 → (True) → KCall prog 117 [.int .i64 m.up.conc, .int .i64 h] H' [] (Is (.int .i64 r1) H')) ∧ ((.int .i64 (IntKind.wrap .i64 (c.conc.hi + r1)) : Value) = .int .i64 (c.conc.hi + r1) ∧ (true = true ∧ ((decide (((c.conc.lo - r0) : Int) < 0)) = true → (∃ x2' : Int, (((decide (((c.conc.lo - r0) : Int) < 0)) = true ∧ (x2' : Int) = 0 ∧ True) ∨ ((decide (((c.conc.lo - r0) : Int) < 0)) = false ∧ (x2' : Int) = (c.conc.lo - r0) ∧ True)) ∧ true = true ∧ ((.pointer (some ⟨3, 0, none⟩) : Value) = .pointer (some ⟨3, 0, none⟩) ∧ (.int .i64 0 : Value) = .int .i64 0 ∧ (.pointer (some ⟨2, 0, none⟩) : Value) = .pointer (some ⟨2, 0, none⟩) ∧ (.pointer (some ⟨1, 0, none⟩) : Value) = .pointer (some ⟨1, 0, none⟩) ∧ (.pointer (some ⟨0, 0, none⟩) : Value) = .pointer (some ⟨0, 0, none⟩) ∧ (.int .i64 h : Value) = .int .i64 h ∧ True) ∧ ((some (.cells true 0 [.int .i64 0, .int .i64 (c.conc.hi + r1)] : KObj) = some (.cells true 0 [.int .i64 x2', .int .i64 (c.conc.hi + r1)] : KObj) ∧ belowO 4 (.cells true 0 [.int .i64 x2', .int .i64 (c.conc.hi + r1)] : KObj) = true) ∧ True) ∧ (True) ∧ (True))) ∧ ((decide (((c.conc.lo - r0) : Int) < 0)) = false → (∃ x2' : Int, (((decide (((c.conc.lo - r0) : Int) < 0)) = true ∧ (x2' : Int) = 0 ∧ True) ∨ ((decide (((c.conc.lo - r0) : Int) < 0)) = false ∧ (x2' : Int) = (c.conc.lo - r0) ∧ True)) ∧ true = true ∧ ((.pointer (some ⟨3, 0, none⟩) : Value) = .pointer (some ⟨3, 0, none⟩) ∧ (.int .i64 0 : Value) = .int .i64 0 ∧ (.pointer (some ⟨2, 0, none⟩) : Value) = .pointer (some ⟨2, 0, none⟩) ∧ (.pointer (some ⟨1, 0, none⟩) : Value) = .pointer (some ⟨1, 0, none⟩) ∧ (.pointer (some ⟨0, 0, none⟩) : Value) = .pointer (some ⟨0, 0, none⟩) ∧ (.int .i64 h : Value) = .int .i64 h ∧ True) ∧ ((some (.cells true 0 [.int .i64 (c.conc.lo - r0), .int .i64 (c.conc.hi + r1)] : KObj) = some (.cells true 0 [.int .i64 x2', .int .i64 (c.conc.hi + r1)] : KObj) ∧ belowO 4 (.cells true 0 [.int .i64 x2', .int .i64 (c.conc.hi + r1)] : KObj) = true) ∧ True) ∧ (True) ∧ (True))) ∧ ∀ x2 : Int, (((decide (((c.conc.lo - r0) : Int) < 0)) = true ∧ (x2 : Int) = 0 ∧ True) ∨ ((decide (((c.conc.lo - r0) : Int) < 0)) = false ∧ (x2 : Int) = (c.conc.lo - r0) ∧ True)) → (true = true ∧ ((decide ((100 : Int) < (c.conc.hi + r1))) = true → (∃ x3' : Int, (((decide ((100 : Int) < (c.conc.hi + r1))) = true ∧ (x3' : Int) = 100 ∧ True) ∨ ((decide ((100 : Int) < (c.conc.hi + r1))) = false ∧ (x3' : Int) = (c.conc.hi + r1) ∧ True)) ∧ true = true ∧ ((.pointer (some ⟨3, 0, none⟩) : Value) = .pointer (some ⟨3, 0, none⟩) ∧ (.int .i64 0 : Value) = .int .i64 0 ∧ (.pointer (some ⟨2, 0, none⟩) : Value) = .pointer (some ⟨2, 0, none⟩) ∧ (.pointer (some ⟨1, 0, none⟩) : Value) = .pointer (some ⟨1, 0, none⟩) ∧ (.pointer (some ⟨0, 0, none⟩) : Value) = .pointer (some ⟨0, 0, none⟩) ∧ (.int .i64 h : Value) = .int .i64 h ∧ True) ∧ ((some (.cells true 0 [.int .i64 x2, .int .i64 100] : KObj) = some (.cells true 0 [.int .i64 x2, .int .i64 x3'] : KObj) ∧ belowO 4 (.cells true 0 [.int .i64 x2, .int .i64 x3'] : KObj) = true) ∧ True) ∧ (True) ∧ (True))) ∧ ((decide ((100 : Int) < (c.conc.hi + r1))) = false → (∃ x3' : Int, (((decide ((100 : Int) < (c.conc.hi + r1))) = true ∧ (x3' : Int) = 100 ∧ True) ∨ ((decide ((100 : Int) < (c.conc.hi + r1))) = false ∧ (x3' : Int) = (c.conc.hi + r1) ∧ True)) ∧ true = true ∧ ((.pointer (some ⟨3, 0, none⟩) : Value) = .pointer (some ⟨3, 0, none⟩) ∧ (.int .i64 0 : Value) = .int .i64 0 ∧ (.pointer (some ⟨2, 0, none⟩) : Value) = .pointer (some ⟨2, 0, none⟩) ∧ (.pointer (some ⟨1, 0, none⟩) : Value) = .pointer (some ⟨1, 0, none⟩) ∧ (.pointer (some ⟨0, 0, none⟩) : Value) = .pointer (some ⟨0, 0, none⟩) ∧ (.int .i64 h : Value) = .int .i64 h ∧ True) ∧ ((some (.cells true 0 [.int .i64 x2, .int .i64 (c.conc.hi + r1)] : KObj) = some (.cells true 0 [.int .i64 x2, .int .i64 x3'] : KObj) ∧ belowO 4 (.cells true 0 [.int .i64 x2, .int .i64 x3'] : KObj) = true) ∧ True) ∧ (True) ∧ (True))) ∧ ∀ x3 : Int, (((decide ((100 : Int) < (c.conc.hi + r1))) = true ∧ (x3 : Int) = 100 ∧ True) ∨ ((decide ((100 : Int) < (c.conc.hi + r1))) = false ∧ (x3 : Int) = (c.conc.hi + r1) ∧ True)) → (∃ r4 : Int, ((True) ∧ (∀ H' : Heap, H'.length = 5 → (True) → KCall prog 117 [.int .i64 m.down.thick, .int .i64 h] H' [] (Is (.int .i64 r4) H')) ∧ ((.int .i64 (IntKind.wrap .i64 (c.thick.lo - r4)) : Value) = .int .i64 (c.thick.lo - r4) ∧ (∃ r5 : Int, ((True) ∧ (∀ H' : Heap, H'.length = 5 → (True) → KCall prog 117 [.int .i64 m.up.thick, .int .i64 h] H' [] (Is (.int .i64 r5) H')) ∧ ((.int .i64 (IntKind.wrap .i64 (c.thick.hi + r5)) : Value) = .int .i64 (c.thick.hi + r5) ∧ (true = true ∧ ((decide (((c.thick.lo - r4) : Int) < 0)) = true → (∃ x6' : Int, (((decide (((c.thick.lo - r4) : Int) < 0)) = true ∧ (x6' : Int) = 0 ∧ True) ∨ ((decide (((c.thick.lo - r4) : Int) < 0)) = false ∧ (x6' : Int) = (c.thick.lo - r4) ∧ True)) ∧ true = true ∧ ((.pointer (some ⟨4, 0, none⟩) : Value) = .pointer (some ⟨4, 0, none⟩) ∧ (.int .i64 1 : Value) = .int .i64 1 ∧ (.pointer (some ⟨2, 0, none⟩) : Value) = .pointer (some ⟨2, 0, none⟩) ∧ (.pointer (some ⟨1, 0, none⟩) : Value) = .pointer (some ⟨1, 0, none⟩) ∧ (.pointer (some ⟨0, 0, none⟩) : Value) = .pointer (some ⟨0, 0, none⟩) ∧ (.int .i64 h : Value) = .int .i64 h ∧ True) ∧ ((some (.cells true 0 [.int .i64 0, .int .i64 (c.thick.hi + r5)] : KObj) = some (.cells true 0 [.int .i64 x6', .int .i64 (c.thick.hi + r5)] : KObj) ∧ belowO 5 (.cells true 0 [.int .i64 x6', .int .i64 (c.thick.hi + r5)] : KObj) = true) ∧ True) ∧ (True) ∧ (True))) ∧ ((decide (((c.thick.lo - r4) : Int) < 0)) = false → (∃ x6' : Int, (((decide (((c.thick.lo - r4) : Int) < 0)) = true ∧ (x6' : Int) = 0 ∧ True) ∨ ((decide (((c.thick.lo - r4) : Int) < 0)) = false ∧ (x6' : Int) = (c.thick.lo - r4) ∧ True)) ∧ true = true ∧ ((.pointer (some ⟨4, 0, none⟩) : Value) = .pointer (some ⟨4, 0, none⟩) ∧ (.int .i64 1 : Value) = .int .i64 1 ∧ (.pointer (some ⟨2, 0, none⟩) : Value) = .pointer (some ⟨2, 0, none⟩) ∧ (.pointer (some ⟨1, 0, none⟩) : Value) = .pointer (some ⟨1, 0, none⟩) ∧ (.pointer (some ⟨0, 0, none⟩) : Value) = .pointer (some ⟨0, 0, none⟩) ∧ (.int .i64 h : Value) = .int .i64 h ∧ True) ∧ ((some (.cells true 0 [.int .i64 (c.thick.lo - r4), .int .i64 (c.thick.hi + r5)] : KObj) = some (.cells true 0 [.int .i64 x6', .int .i64 (c.thick.hi + r5)] : KObj) ∧ belowO 5 (.cells true 0 [.int .i64 x6', .int .i64 (c.thick.hi + r5)] : KObj) = true) ∧ True) ∧ (True) ∧ (True))) ∧ ∀ x6 : Int, (((decide (((c.thick.lo - r4) : Int) < 0)) = true ∧ (x6 : Int) = 0 ∧ True) ∨ ((decide (((c.thick.lo - r4) : Int) < 0)) = false ∧ (x6 : Int) = (c.thick.lo - r4) ∧ True)) → (true = true ∧ ((decide ((400 : Int) < (c.thick.hi + r5))) = true → (∃ x7' : Int, (((decide ((400 : Int) < (c.thick.hi + r5))) = true ∧ (x7' : Int) = 400 ∧ True) ∨ ((decide ((400 : Int) < (c.thick.hi + r5))) = false ∧ (x7' : Int) = (c.thick.hi + r5) ∧ True)) ∧ true = true ∧ ((.pointer (some ⟨4, 0, none⟩) : Value) = .pointer (some ⟨4, 0, none⟩) ∧ (.int .i64 1 : Value) = .int .i64 1 ∧ (.pointer (some ⟨2, 0, none⟩) : Value) = .pointer (some ⟨2, 0, none⟩) ∧ (.pointer (some ⟨1, 0, none⟩) : Value) = .pointer (some ⟨1, 0, none⟩) ∧ (.pointer (some ⟨0, 0, none⟩) : Value) = .pointer (some ⟨0, 0, none⟩) ∧ (.int .i64 h : Value) = .int .i64 h ∧ True) ∧ ((some (.cells true 0 [.int .i64 x6, .int .i64 400] : KObj) = some (.cells true 0 [.int .i64 x6, .int .i64 x7'] : KObj) ∧ belowO 5 (.cells true 0 [.int .i64 x6, .int .i64 x7'] : KObj) = true) ∧ True) ∧ (True) ∧ (True))) ∧ ((decide ((400 : Int) < (c.thick.hi + r5))) = false → (∃ x7' : Int, (((decide ((400 : Int) < (c.thick.hi + r5))) = true ∧ (x7' : Int) = 400 ∧ True) ∨ ((decide ((400 : Int) < (c.thick.hi + r5))) = false ∧ (x7' : Int) = (c.thick.hi + r5) ∧ True)) ∧ true = true ∧ ((.pointer (some ⟨4, 0, none⟩) : Value) = .pointer (some ⟨4, 0, none⟩) ∧ (.int .i64 1 : Value) = .int .i64 1 ∧ (.pointer (some ⟨2, 0, none⟩) : Value) = .pointer (some ⟨2, 0, none⟩) ∧ (.pointer (some ⟨1, 0, none⟩) : Value) = .pointer (some ⟨1, 0, none⟩) ∧ (.pointer (some ⟨0, 0, none⟩) : Value) = .pointer (some ⟨0, 0, none⟩) ∧ (.int .i64 h : Value) = .int .i64 h ∧ True) ∧ ((some (.cells true 0 [.int .i64 x6, .int .i64 (c.thick.hi + r5)] : KObj) = some (.cells true 0 [.int .i64 x6, .int .i64 x7'] : KObj) ∧ belowO 5 (.cells true 0 [.int .i64 x6, .int .i64 x7'] : KObj) = true) ∧ True) ∧ (True) ∧ (True))) ∧ ∀ x7 : Int, (((decide ((400 : Int) < (c.thick.hi + r5))) = true ∧ (x7 : Int) = 400 ∧ True) ∨ ((decide ((400 : Int) < (c.thick.hi + r5))) = false ∧ (x7 : Int) = (c.thick.hi + r5) ∧ True)) → (∃ r8 : Int, ((True) ∧ (∀ H' : Heap, H'.length = 6 → (True) → KCall prog 117 [.int .i64 m.down.ridge, .int .i64 h] H' [] (Is (.int .i64 r8) H')) ∧ ((.int .i64 (IntKind.wrap .i64 (c.ridge.lo - r8)) : Value) = .int .i64 (c.ridge.lo - r8) ∧ (∃ r9 : Int, ((True) ∧ (∀ H' : Heap, H'.length = 6 → (True) → KCall prog 117 [.int .i64 m.up.ridge, .int .i64 h] H' [] (Is (.int .i64 r9) H')) ∧ ((.int .i64 (IntKind.wrap .i64 (c.ridge.hi + r9)) : Value) = .int .i64 (c.ridge.hi + r9) ∧ (true = true ∧ ((decide (((c.ridge.lo - r8) : Int) < 0)) = true → (∃ x10' : Int, (((decide (((c.ridge.lo - r8) : Int) < 0)) = true ∧ (x10' : Int) = 0 ∧ True) ∨ ((decide (((c.ridge.lo - r8) : Int) < 0)) = false ∧ (x10' : Int) = (c.ridge.lo - r8) ∧ True)) ∧ true = true ∧ ((.pointer (some ⟨5, 0, none⟩) : Value) = .pointer (some ⟨5, 0, none⟩) ∧ (.int .i64 2 : Value) = .int .i64 2 ∧ (.pointer (some ⟨2, 0, none⟩) : Value) = .pointer (some ⟨2, 0, none⟩) ∧ (.pointer (some ⟨1, 0, none⟩) : Value) = .pointer (some ⟨1, 0, none⟩) ∧ (.pointer (some ⟨0, 0, none⟩) : Value) = .pointer (some ⟨0, 0, none⟩) ∧ (.int .i64 h : Value) = .int .i64 h ∧ True) ∧ ((some (.cells true 0 [.int .i64 0, .int .i64 (c.ridge.hi + r9)] : KObj) = some (.cells true 0 [.int .i64 x10', .int .i64 (c.ridge.hi + r9)] : KObj) ∧ belowO 6 (.cells true 0 [.int .i64 x10', .int .i64 (c.ridge.hi + r9)] : KObj) = true) ∧ True) ∧ (True) ∧ (True))) ∧ ((decide (((c.ridge.lo - r8) : Int) < 0)) = false → (∃ x10' : Int, (((decide (((c.ridge.lo - r8) : Int) < 0)) = true ∧ (x10' : Int) = 0 ∧ True) ∨ ((decide (((c.ridge.lo - r8) : Int) < 0)) = false ∧ (x10' : Int) = (c.ridge.lo - r8) ∧ True)) ∧ true = true ∧ ((.pointer (some ⟨5, 0, none⟩) : Value) = .pointer (some ⟨5, 0, none⟩) ∧ (.int .i64 2 : Value) = .int .i64 2 ∧ (.pointer (some ⟨2, 0, none⟩) : Value) = .pointer (some ⟨2, 0, none⟩) ∧ (.pointer (some ⟨1, 0, none⟩) : Value) = .pointer (some ⟨1, 0, none⟩) ∧ (.pointer (some ⟨0, 0, none⟩) : Value) = .pointer (some ⟨0, 0, none⟩) ∧ (.int .i64 h : Value) = .int .i64 h ∧ True) ∧ ((some (.cells true 0 [.int .i64 (c.ridge.lo - r8), .int .i64 (c.ridge.hi + r9)] : KObj) = some (.cells true 0 [.int .i64 x10', .int .i64 (c.ridge.hi + r9)] : KObj) ∧ belowO 6 (.cells true 0 [.int .i64 x10', .int .i64 (c.ridge.hi + r9)] : KObj) = true) ∧ True) ∧ (True) ∧ (True))) ∧ ∀ x10 : Int, (((decide (((c.ridge.lo - r8) : Int) < 0)) = true ∧ (x10 : Int) = 0 ∧ True) ∨ ((decide (((c.ridge.lo - r8) : Int) < 0)) = false ∧ (x10 : Int) = (c.ridge.lo - r8) ∧ True)) → (true = true ∧ ((decide ((100 : Int) < (c.ridge.hi + r9))) = true → (∃ x11' : Int, (((decide ((100 : Int) < (c.ridge.hi + r9))) = true ∧ (x11' : Int) = 100 ∧ True) ∨ ((decide ((100 : Int) < (c.ridge.hi + r9))) = false ∧ (x11' : Int) = (c.ridge.hi + r9) ∧ True)) ∧ true = true ∧ ((.pointer (some ⟨5, 0, none⟩) : Value) = .pointer (some ⟨5, 0, none⟩) ∧ (.int .i64 2 : Value) = .int .i64 2 ∧ (.pointer (some ⟨2, 0, none⟩) : Value) = .pointer (some ⟨2, 0, none⟩) ∧ (.pointer (some ⟨1, 0, none⟩) : Value) = .pointer (some ⟨1, 0, none⟩) ∧ (.pointer (some ⟨0, 0, none⟩) : Value) = .pointer (some ⟨0, 0, none⟩) ∧ (.int .i64 h : Value) = .int .i64 h ∧ True) ∧ ((some (.cells true 0 [.int .i64 x10, .int .i64 100] : KObj) = some (.cells true 0 [.int .i64 x10, .int .i64 x11'] : KObj) ∧ belowO 6 (.cells true 0 [.int .i64 x10, .int .i64 x11'] : KObj) = true) ∧ True) ∧ (True) ∧ (True))) ∧ ((decide ((100 : Int) < (c.ridge.hi + r9))) = false → (∃ x11' : Int, (((decide ((100 : Int) < (c.ridge.hi + r9))) = true ∧ (x11' : Int) = 100 ∧ True) ∨ ((decide ((100 : Int) < (c.ridge.hi + r9))) = false ∧ (x11' : Int) = (c.ridge.hi + r9) ∧ True)) ∧ true = true ∧ ((.pointer (some ⟨5, 0, none⟩) : Value) = .pointer (some ⟨5, 0, none⟩) ∧ (.int .i64 2 : Value) = .int .i64 2 ∧ (.pointer (some ⟨2, 0, none⟩) : Value) = .pointer (some ⟨2, 0, none⟩) ∧ (.pointer (some ⟨1, 0, none⟩) : Value) = .pointer (some ⟨1, 0, none⟩) ∧ (.pointer (some ⟨0, 0, none⟩) : Value) = .pointer (some ⟨0, 0, none⟩) ∧ (.int .i64 h : Value) = .int .i64 h ∧ True) ∧ ((some (.cells true 0 [.int .i64 x10, .int .i64 (c.ridge.hi + r9)] : KObj) = some (.cells true 0 [.int .i64 x10, .int .i64 x11'] : KObj) ∧ belowO 6 (.cells true 0 [.int .i64 x10, .int .i64 x11'] : KObj) = true) ∧ True) ∧ (True) ∧ (True))) ∧ ∀ x11 : Int, (((decide ((100 : Int) < (c.ridge.hi + r9))) = true ∧ (x11 : Int) = 100 ∧ True) ∨ ((decide ((100 : Int) < (c.ridge.hi + r9))) = false ∧ (x11 : Int) = (c.ridge.hi + r9) ∧ True)) → (∃ r12 : Int, ((True) ∧ (∀ H' : Heap, H'.length = 7 → (True) → KCall prog 117 [.int .i64 m.down.press, .int .i64 h] H' [] (Is (.int .i64 r12) H')) ∧ ((.int .i64 (IntKind.wrap .i64 (c.press.lo - r12)) : Value) = .int .i64 (c.press.lo - r12) ∧ (∃ r13 : Int, ((True) ∧ (∀ H' : Heap, H'.length = 7 → (True) → KCall prog 117 [.int .i64 m.up.press, .int .i64 h] H' [] (Is (.int .i64 r13) H')) ∧ ((.int .i64 (IntKind.wrap .i64 (c.press.hi + r13)) : Value) = .int .i64 (c.press.hi + r13) ∧ (true = true ∧ ((decide (((c.press.lo - r12) : Int) < 0)) = true → (∃ x14' : Int, (((decide (((c.press.lo - r12) : Int) < 0)) = true ∧ (x14' : Int) = 0 ∧ True) ∨ ((decide (((c.press.lo - r12) : Int) < 0)) = false ∧ (x14' : Int) = (c.press.lo - r12) ∧ True)) ∧ true = true ∧ ((.pointer (some ⟨6, 0, none⟩) : Value) = .pointer (some ⟨6, 0, none⟩) ∧ (.int .i64 3 : Value) = .int .i64 3 ∧ (.pointer (some ⟨2, 0, none⟩) : Value) = .pointer (some ⟨2, 0, none⟩) ∧ (.pointer (some ⟨1, 0, none⟩) : Value) = .pointer (some ⟨1, 0, none⟩) ∧ (.pointer (some ⟨0, 0, none⟩) : Value) = .pointer (some ⟨0, 0, none⟩) ∧ (.int .i64 h : Value) = .int .i64 h ∧ True) ∧ ((some (.cells true 0 [.int .i64 0, .int .i64 (c.press.hi + r13)] : KObj) = some (.cells true 0 [.int .i64 x14', .int .i64 (c.press.hi + r13)] : KObj) ∧ belowO 7 (.cells true 0 [.int .i64 x14', .int .i64 (c.press.hi + r13)] : KObj) = true) ∧ True) ∧ (True) ∧ (True))) ∧ ((decide (((c.press.lo - r12) : Int) < 0)) = false → (∃ x14' : Int, (((decide (((c.press.lo - r12) : Int) < 0)) = true ∧ (x14' : Int) = 0 ∧ True) ∨ ((decide (((c.press.lo - r12) : Int) < 0)) = false ∧ (x14' : Int) = (c.press.lo - r12) ∧ True)) ∧ true = true ∧ ((.pointer (some ⟨6, 0, none⟩) : Value) = .pointer (some ⟨6, 0, none⟩) ∧ (.int .i64 3 : Value) = .int .i64 3 ∧ (.pointer (some ⟨2, 0, none⟩) : Value) = .pointer (some ⟨2, 0, none⟩) ∧ (.pointer (some ⟨1, 0, none⟩) : Value) = .pointer (some ⟨1, 0, none⟩) ∧ (.pointer (some ⟨0, 0, none⟩) : Value) = .pointer (some ⟨0, 0, none⟩) ∧ (.int .i64 h : Value) = .int .i64 h ∧ True) ∧ ((some (.cells true 0 [.int .i64 (c.press.lo - r12), .int .i64 (c.press.hi + r13)] : KObj) = some (.cells true 0 [.int .i64 x14', .int .i64 (c.press.hi + r13)] : KObj) ∧ belowO 7 (.cells true 0 [.int .i64 x14', .int .i64 (c.press.hi + r13)] : KObj) = true) ∧ True) ∧ (True) ∧ (True))) ∧ ∀ x14 : Int, (((decide (((c.press.lo - r12) : Int) < 0)) = true ∧ (x14 : Int) = 0 ∧ True) ∨ ((decide (((c.press.lo - r12) : Int) < 0)) = false ∧ (x14 : Int) = (c.press.lo - r12) ∧ True)) → (true = true ∧ ((decide ((3 : Int) < (c.press.hi + r13))) = true → (∃ x15' : Int, (((decide ((3 : Int) < (c.press.hi + r13))) = true ∧ (x15' : Int) = 3 ∧ True) ∨ ((decide ((3 : Int) < (c.press.hi + r13))) = false ∧ (x15' : Int) = (c.press.hi + r13) ∧ True)) ∧ true = true ∧ ((.pointer (some ⟨6, 0, none⟩) : Value) = .pointer (some ⟨6, 0, none⟩) ∧ (.int .i64 3 : Value) = .int .i64 3 ∧ (.pointer (some ⟨2, 0, none⟩) : Value) = .pointer (some ⟨2, 0, none⟩) ∧ (.pointer (some ⟨1, 0, none⟩) : Value) = .pointer (some ⟨1, 0, none⟩) ∧ (.pointer (some ⟨0, 0, none⟩) : Value) = .pointer (some ⟨0, 0, none⟩) ∧ (.int .i64 h : Value) = .int .i64 h ∧ True) ∧ ((some (.cells true 0 [.int .i64 x14, .int .i64 3] : KObj) = some (.cells true 0 [.int .i64 x14, .int .i64 x15'] : KObj) ∧ belowO 7 (.cells true 0 [.int .i64 x14, .int .i64 x15'] : KObj) = true) ∧ True) ∧ (True) ∧ (True))) ∧ ((decide ((3 : Int) < (c.press.hi + r13))) = false → (∃ x15' : Int, (((decide ((3 : Int) < (c.press.hi + r13))) = true ∧ (x15' : Int) = 3 ∧ True) ∨ ((decide ((3 : Int) < (c.press.hi + r13))) = false ∧ (x15' : Int) = (c.press.hi + r13) ∧ True)) ∧ true = true ∧ ((.pointer (some ⟨6, 0, none⟩) : Value) = .pointer (some ⟨6, 0, none⟩) ∧ (.int .i64 3 : Value) = .int .i64 3 ∧ (.pointer (some ⟨2, 0, none⟩) : Value) = .pointer (some ⟨2, 0, none⟩) ∧ (.pointer (some ⟨1, 0, none⟩) : Value) = .pointer (some ⟨1, 0, none⟩) ∧ (.pointer (some ⟨0, 0, none⟩) : Value) = .pointer (some ⟨0, 0, none⟩) ∧ (.int .i64 h : Value) = .int .i64 h ∧ True) ∧ ((some (.cells true 0 [.int .i64 x14, .int .i64 (c.press.hi + r13)] : KObj) = some (.cells true 0 [.int .i64 x14, .int .i64 x15'] : KObj) ∧ belowO 7 (.cells true 0 [.int .i64 x14, .int .i64 x15'] : KObj) = true) ∧ True) ∧ (True) ∧ (True))) ∧ ∀ x15 : Int, (((decide ((3 : Int) < (c.press.hi + r13))) = true ∧ (x15 : Int) = 3 ∧ True) ∨ ((decide ((3 : Int) < (c.press.hi + r13))) = false ∧ (x15 : Int) = (c.press.hi + r13) ∧ True)) → (.agg #[.int .i64 x2, .int .i64 x3, .int .i64 x6, .int .i64 x7, .int .i64 x10, .int .i64 x11, .int .i64 x14, .int .i64 x15] : Value) = sp))))))))))))))))))))))))))))))))
theorem ErOlder (sp : Value) (c : Cell) (m : Rates) (h : Int) : vF prog msk (dm 0) 100000 true 40 true 113 [.agg #[.int .i64 c.conc.lo, .int .i64 c.conc.hi, .int .i64 c.thick.lo, .int .i64 c.thick.hi, .int .i64 c.ridge.lo, .int .i64 c.ridge.hi, .int .i64 c.press.lo, .int .i64 c.press.hi], .agg #[.int .i64 m.up.conc, .int .i64 m.up.thick, .int .i64 m.up.ridge, .int .i64 m.up.press, .int .i64 m.down.conc, .int .i64 m.down.thick, .int .i64 m.down.ridge, .int .i64 m.down.press], .int .i64 h] ⟨0, .leaf⟩ (some [])
  (.go 36 (.bind (Int) (fun r0 => .ans [] (.int .i64 r0) [] (.go 0 (.slot 24 (.int .i64 (c.conc.lo - r0)) (.go 17 (.bind (Int) (fun r1 => .ans [] (.int .i64 r1) [] (.go 0 (.slot 34 (.int .i64 (c.conc.hi + r1)) (.go 4 (.join 3 (Int) [3] (fun x2 => [(8, .pointer (some ⟨3, 0, none⟩)), (7, .int .i64 0), (6, .pointer (some ⟨2, 0, none⟩)), (4, .pointer (some ⟨1, 0, none⟩)), (3, .pointer (some ⟨0, 0, none⟩)), (2, .int .i64 h)]) (fun x2 => [(3, true, .cells true 0 [.int .i64 x2, .int .i64 (c.conc.hi + r1)])]) (fun x2 => []) (fun x2 => []) (fun x2 => (((decide (((c.conc.lo - r0) : Int) < 0)) = true ∧ (x2 : Int) = 0 ∧ True) ∨ ((decide (((c.conc.lo - r0) : Int) < 0)) = false ∧ (x2 : Int) = (c.conc.lo - r0) ∧ True))) (.go 1 (.again [])) (.again []) (fun x2 => .go 11 (.join 3 (Int) [3] (fun x3 => [(8, .pointer (some ⟨3, 0, none⟩)), (7, .int .i64 0), (6, .pointer (some ⟨2, 0, none⟩)), (4, .pointer (some ⟨1, 0, none⟩)), (3, .pointer (some ⟨0, 0, none⟩)), (2, .int .i64 h)]) (fun x3 => [(3, true, .cells true 0 [.int .i64 x2, .int .i64 x3])]) (fun x3 => []) (fun x3 => []) (fun x3 => (((decide ((100 : Int) < (c.conc.hi + r1))) = true ∧ (x3 : Int) = 100 ∧ True) ∨ ((decide ((100 : Int) < (c.conc.hi + r1))) = false ∧ (x3 : Int) = (c.conc.hi + r1) ∧ True))) (.go 10 (.again [])) (.again []) (fun x3 => .go 58 (.bind (Int) (fun r4 => .ans [] (.int .i64 r4) [] (.go 0 (.slot 24 (.int .i64 (c.thick.lo - r4)) (.go 20 (.bind (Int) (fun r5 => .ans [] (.int .i64 r5) [] (.go 0 (.slot 34 (.int .i64 (c.thick.hi + r5)) (.go 4 (.join 3 (Int) [4] (fun x6 => [(8, .pointer (some ⟨4, 0, none⟩)), (7, .int .i64 1), (6, .pointer (some ⟨2, 0, none⟩)), (4, .pointer (some ⟨1, 0, none⟩)), (3, .pointer (some ⟨0, 0, none⟩)), (2, .int .i64 h)]) (fun x6 => [(4, true, .cells true 0 [.int .i64 x6, .int .i64 (c.thick.hi + r5)])]) (fun x6 => []) (fun x6 => []) (fun x6 => (((decide (((c.thick.lo - r4) : Int) < 0)) = true ∧ (x6 : Int) = 0 ∧ True) ∨ ((decide (((c.thick.lo - r4) : Int) < 0)) = false ∧ (x6 : Int) = (c.thick.lo - r4) ∧ True))) (.go 1 (.again [])) (.again []) (fun x6 => .go 16 (.join 3 (Int) [4] (fun x7 => [(8, .pointer (some ⟨4, 0, none⟩)), (7, .int .i64 1), (6, .pointer (some ⟨2, 0, none⟩)), (4, .pointer (some ⟨1, 0, none⟩)), (3, .pointer (some ⟨0, 0, none⟩)), (2, .int .i64 h)]) (fun x7 => [(4, true, .cells true 0 [.int .i64 x6, .int .i64 x7])]) (fun x7 => []) (fun x7 => []) (fun x7 => (((decide ((400 : Int) < (c.thick.hi + r5))) = true ∧ (x7 : Int) = 400 ∧ True) ∨ ((decide ((400 : Int) < (c.thick.hi + r5))) = false ∧ (x7 : Int) = (c.thick.hi + r5) ∧ True))) (.go 15 (.again [])) (.again []) (fun x7 => .go 67 (.bind (Int) (fun r8 => .ans [] (.int .i64 r8) [] (.go 0 (.slot 24 (.int .i64 (c.ridge.lo - r8)) (.go 23 (.bind (Int) (fun r9 => .ans [] (.int .i64 r9) [] (.go 0 (.slot 34 (.int .i64 (c.ridge.hi + r9)) (.go 4 (.join 3 (Int) [5] (fun x10 => [(8, .pointer (some ⟨5, 0, none⟩)), (7, .int .i64 2), (6, .pointer (some ⟨2, 0, none⟩)), (4, .pointer (some ⟨1, 0, none⟩)), (3, .pointer (some ⟨0, 0, none⟩)), (2, .int .i64 h)]) (fun x10 => [(5, true, .cells true 0 [.int .i64 x10, .int .i64 (c.ridge.hi + r9)])]) (fun x10 => []) (fun x10 => []) (fun x10 => (((decide (((c.ridge.lo - r8) : Int) < 0)) = true ∧ (x10 : Int) = 0 ∧ True) ∨ ((decide (((c.ridge.lo - r8) : Int) < 0)) = false ∧ (x10 : Int) = (c.ridge.lo - r8) ∧ True))) (.go 1 (.again [])) (.again []) (fun x10 => .go 13 (.join 3 (Int) [5] (fun x11 => [(8, .pointer (some ⟨5, 0, none⟩)), (7, .int .i64 2), (6, .pointer (some ⟨2, 0, none⟩)), (4, .pointer (some ⟨1, 0, none⟩)), (3, .pointer (some ⟨0, 0, none⟩)), (2, .int .i64 h)]) (fun x11 => [(5, true, .cells true 0 [.int .i64 x10, .int .i64 x11])]) (fun x11 => []) (fun x11 => []) (fun x11 => (((decide ((100 : Int) < (c.ridge.hi + r9))) = true ∧ (x11 : Int) = 100 ∧ True) ∨ ((decide ((100 : Int) < (c.ridge.hi + r9))) = false ∧ (x11 : Int) = (c.ridge.hi + r9) ∧ True))) (.go 12 (.again [])) (.again []) (fun x11 => .go 70 (.bind (Int) (fun r12 => .ans [] (.int .i64 r12) [] (.go 0 (.slot 24 (.int .i64 (c.press.lo - r12)) (.go 23 (.bind (Int) (fun r13 => .ans [] (.int .i64 r13) [] (.go 0 (.slot 34 (.int .i64 (c.press.hi + r13)) (.go 4 (.join 3 (Int) [6] (fun x14 => [(8, .pointer (some ⟨6, 0, none⟩)), (7, .int .i64 3), (6, .pointer (some ⟨2, 0, none⟩)), (4, .pointer (some ⟨1, 0, none⟩)), (3, .pointer (some ⟨0, 0, none⟩)), (2, .int .i64 h)]) (fun x14 => [(6, true, .cells true 0 [.int .i64 x14, .int .i64 (c.press.hi + r13)])]) (fun x14 => []) (fun x14 => []) (fun x14 => (((decide (((c.press.lo - r12) : Int) < 0)) = true ∧ (x14 : Int) = 0 ∧ True) ∨ ((decide (((c.press.lo - r12) : Int) < 0)) = false ∧ (x14 : Int) = (c.press.lo - r12) ∧ True))) (.go 1 (.again [])) (.again []) (fun x14 => .go 16 (.join 3 (Int) [6] (fun x15 => [(8, .pointer (some ⟨6, 0, none⟩)), (7, .int .i64 3), (6, .pointer (some ⟨2, 0, none⟩)), (4, .pointer (some ⟨1, 0, none⟩)), (3, .pointer (some ⟨0, 0, none⟩)), (2, .int .i64 h)]) (fun x15 => [(6, true, .cells true 0 [.int .i64 x14, .int .i64 x15])]) (fun x15 => []) (fun x15 => []) (fun x15 => (((decide ((3 : Int) < (c.press.hi + r13))) = true ∧ (x15 : Int) = 3 ∧ True) ∨ ((decide ((3 : Int) < (c.press.hi + r13))) = false ∧ (x15 : Int) = (c.press.hi + r13) ∧ True))) (.go 15 (.again [])) (.again []) (fun x15 => .auto)))))))))))))))))))))))))))))))))))))))))))))))))))))))))
  (fun v _ _ => v = sp) = RrOlder sp c m h := by kernel_rfl
def Rsize (sp : Value) (w h t : Int) : Prop :=
  (((decide ((1 : Int) ≤ w)) = true → (((!(decide ((w : Int) ≤ 64))) = true → (.int .i64 6 : Value) = sp) ∧ ((!(decide ((w : Int) ≤ 64))) = false → (((decide ((1 : Int) ≤ h)) = true → (((!(decide ((h : Int) ≤ 64))) = true → (.int .i64 6 : Value) = sp) ∧ ((!(decide ((h : Int) ≤ 64))) = false → ((.int .i64 (IntKind.wrap .i64 (w * h)) : Value) = .int .i64 (w * h) ∧ (((decide ((1024 : Int) < (w * h))) = true → (.int .i64 6 : Value) = sp) ∧ ((decide ((1024 : Int) < (w * h))) = false → (((decide ((0 : Int) ≤ t)) = true → (((!(decide ((t : Int) ≤ 10000))) = true → (.int .i64 6 : Value) = sp) ∧ ((!(decide ((t : Int) ≤ 10000))) = false → (.int .i64 0 : Value) = sp))) ∧ ((decide ((0 : Int) ≤ t)) = false → (.int .i64 6 : Value) = sp)))))))) ∧ ((decide ((1 : Int) ≤ h)) = false → (.int .i64 6 : Value) = sp))))) ∧ ((decide ((1 : Int) ≤ w)) = false → (.int .i64 6 : Value) = sp))
theorem Esize (sp : Value) (w h t : Int) : vF prog msk (dm 0) 100000 true 40 true 118 [.int .i64 w, .int .i64 h, .int .i64 t] ⟨0, .leaf⟩ (some [])
  (.go 7 (.gfork (.go 6 (.gfork (.auto) (.go 6 (.gfork (.go 7 (.gfork (.auto) (.go 2 (.slot 18 (.int .i64 (w * h)) (.go 2 (.gfork (.auto) (.go 6 (.gfork (.go 6 (.fork (.auto) (.auto))) (.auto))))))))) (.auto))))) (.auto)))
  (fun v _ _ => v = sp) = Rsize sp w h t := by kernel_rfl
end
end Go.Proofs.YthcjliffpebjaaaGreat
/- Small steps that texts about functions share. No condition. -/
namespace Go.K
set_option linter.unusedSimpArgs false
open Go
set_option linter.unusedVariables false
noncomputable section
theorem forkD {p A B : Prop} [Decidable p] (h1 : p → A) (h2 : ¬ p → B) : (decide p = true → A) ∧ (decide p = false → B) :=
  ⟨fun h => h1 (of_decide_eq_true h), fun h => h2 (of_decide_eq_false h)⟩
theorem forkNe {a b : Int} {A B : Prop} (h1 : a ≠ b → A) (h2 : a = b → B) : ((a != b) = true → A) ∧ ((a != b) = false → B) :=
  ⟨fun h => h1 (by simpa using h), fun h => h2 (by simpa using h)⟩
theorem forkEq {a b : Int} {A B : Prop} (h1 : a = b → A) (h2 : a ≠ b → B) : ((a == b) = true → A) ∧ ((a == b) = false → B) :=
  ⟨fun h => h1 (by simpa using h), fun h => h2 (by simpa using h)⟩
theorem forkNot {b : Bool} {A B : Prop} (h : (b = true → B) ∧ (b = false → A)) : ((!b) = true → A) ∧ ((!b) = false → B) := by
  cases b
  · exact ⟨fun _ => h.2 rfl, fun h => by cases h⟩
  · exact ⟨fun h => (by cases h), fun _ => h.1 rfl⟩
theorem forkB {b : Bool} {A B : Prop} (h1 : b = true → A) (h2 : b = false → B) : (b = true → A) ∧ (b = false → B) := ⟨h1, h2⟩
/-- A test whose outcome is known. -/
theorem forkT {b : Bool} {A B : Prop} (hb : b = true) (h1 : A) : (b = true → A) ∧ (b = false → B) := ⟨fun _ => h1, fun h => by rw [hb] at h; cases h⟩
theorem forkF {b : Bool} {A B : Prop} (hb : b = false) (h1 : B) : (b = true → A) ∧ (b = false → B) := ⟨fun h => (by rw [hb] at h; cases h), fun _ => h1⟩
theorem vbT {b : Bool} (h : b = true) : (Value.bool b) = .bool true := by rw [h]
theorem vbF {b : Bool} (h : b = false) : (Value.bool b) = .bool false := by rw [h]
theorem iEq {k : IntKind} {a b : Int} (h : a = b) : (Value.int k a) = .int k b := by rw [h]
theorem bEq {a b : Bool} (h : a = b) : (Value.bool a) = .bool b := by rw [h]
theorem wI64 {n : Int} (h : -9223372036854775808 ≤ n ∧ n ≤ 9223372036854775807) : IntKind.wrap .i64 n = n := IntWalk.i64_in n h
theorem vI64 {n : Int} (h : -9223372036854775808 ≤ n ∧ n ≤ 9223372036854775807) : (Value.int .i64 (IntKind.wrap .i64 n)) = .int .i64 n := by rw [wI64 h]
theorem ite_max (a b : Int) : (if b > a then b else a) = max a b := by split <;> omega
theorem ite_min (a b : Int) : (if b < a then b else a) = min a b := by split <;> omega
theorem toMax {k : IntKind} {a b : Int} {Q : Int → Prop} (h : Q (max a b)) : ∃ y : Int, (Value.int k (if b > a then b else a)) = .int k y ∧ Q y := ⟨max a b, by rw [ite_max], h⟩
theorem toMin {k : IntKind} {a b : Int} {Q : Int → Prop} (h : Q (min a b)) : ∃ y : Int, (Value.int k (if b < a then b else a)) = .int k y ∧ Q y := ⟨min a b, by rw [ite_min], h⟩
/-- Branches that come together: the greater, the less. -/
theorem joinI {c : Bool} {v1 v2 : Int} {S1 S2 R : Int → Prop} (h1 : c = true → S1 v1) (h2 : c = false → S2 v2) (hr : ∀ x, x = (if c = true then v1 else v2) → R x) :
    (true = true ∧ (c = true → ∃ x' : Int, ((c = true ∧ x' = v1 ∧ True) ∨ (c = false ∧ x' = v2 ∧ True)) ∧ S1 x') ∧ (c = false → ∃ x' : Int, ((c = true ∧ x' = v1 ∧ True) ∨ (c = false ∧ x' = v2 ∧ True)) ∧ S2 x') ∧
      ∀ x : Int, ((c = true ∧ x = v1 ∧ True) ∨ (c = false ∧ x = v2 ∧ True)) → R x) := by
  refine ⟨rfl, fun h => ⟨v1, .inl ⟨h, rfl, trivial⟩, h1 h⟩, fun h => ⟨v2, .inr ⟨h, rfl, trivial⟩, h2 h⟩, fun x hx => hr x ?_⟩
  rcases hx with ⟨h, rfl, _⟩ | ⟨h, rfl, _⟩
  · rw [if_pos h]
  · rw [if_neg (by rw [h]; decide)]
theorem joinMax {a b : Int} {S1 S2 R : Int → Prop} (h1 : S1 b) (h2 : S2 a) (hr : R (max a b)) :
    (true = true ∧ (decide (a < b) = true → ∃ x' : Int, ((decide (a < b) = true ∧ x' = b ∧ True) ∨ (decide (a < b) = false ∧ x' = a ∧ True)) ∧ S1 x') ∧ (decide (a < b) = false → ∃ x' : Int, ((decide (a < b) = true ∧ x' = b ∧ True) ∨ (decide (a < b) = false ∧ x' = a ∧ True)) ∧ S2 x') ∧
      ∀ x : Int, ((decide (a < b) = true ∧ x = b ∧ True) ∨ (decide (a < b) = false ∧ x = a ∧ True)) → R x) :=
  joinI (fun _ => h1) (fun _ => h2) fun x hx => by
    have : x = max a b := by rw [hx]; simp only [decide_eq_true_eq]; split <;> omega
    rw [this]; exact hr
theorem joinMin {a b : Int} {S1 S2 R : Int → Prop} (h1 : S1 b) (h2 : S2 a) (hr : R (min a b)) :
    (true = true ∧ (decide (b < a) = true → ∃ x' : Int, ((decide (b < a) = true ∧ x' = b ∧ True) ∨ (decide (b < a) = false ∧ x' = a ∧ True)) ∧ S1 x') ∧ (decide (b < a) = false → ∃ x' : Int, ((decide (b < a) = true ∧ x' = b ∧ True) ∨ (decide (b < a) = false ∧ x' = a ∧ True)) ∧ S2 x') ∧
      ∀ x : Int, ((decide (b < a) = true ∧ x = b ∧ True) ∨ (decide (b < a) = false ∧ x = a ∧ True)) → R x) :=
  joinI (fun _ => h1) (fun _ => h2) fun x hx => by
    have : x = min a b := by rw [hx]; simp only [decide_eq_true_eq]; split <;> omega
    rw [this]; exact hr
theorem wks_cons {a b : Value} {r s : List Value} (h : wk a b) (hr : wks r s) : wks (a :: r) (b :: s) := ⟨h, hr⟩
theorem wks_nil : wks [] [] := trivial
theorem KCall.wkA {P : Program} {f : FuncId} {args args2 : List Value} {H : Heap} {M : List Nat} {Q : Value → Heap → Prop} (h : KCall P f args2 H M Q) (ha : wks args args2) : KCall P f args H M Q :=
  KCall.weakArgs [] (by rw [List.append_nil]; exact h) (wks_spec ha).1 (wks_spec ha).2
/-- Blocks that are read and may hold one another's addresses. -/
theorem reads_ofA {P : Program} {css : List (List Value)} {ids : List Nat} {H : Heap} (hids : ∀ (k : Nat) (cs : List Value), css[k]? = some cs → ∃ id own z, ids[k]? = some id ∧ H[id]? = some (KObj.cells own z (cs.map (rn (sgR P.globals.size ids) 3)))) (hl : ids.length = css.length) :
    Reads P (readsT P.globals.size css).list H (sgR P.globals.size ids) 3 := by
  have hn : (readsT P.globals.size css).list.length = P.globals.size + css.length := by rw [HT.length, readsT_n]
  refine ⟨fun g hg => if_pos hg, fun id id' h => ?_, by rw [hn]; omega, fun id o h => ?_, fun id id' cs h1 h2 => ?_⟩
  · rw [hn]
    unfold sgR at h
    split at h
    · omega
    · have := (List.getElem?_eq_some_iff.1 h).1; omega
  · rw [readsT_list] at h
    split at h
    · cases h; exact .inl rfl
    · obtain ⟨cs, _, rfl⟩ := Option.map_eq_some_iff.1 h; exact .inr ⟨cs, rfl⟩
  · rw [readsT_list] at h2
    split at h2
    · cases h2
    · rename_i hlt
      obtain ⟨cs', a1, a2⟩ := Option.map_eq_some_iff.1 h2
      cases a2
      unfold sgR at h1
      rw [if_neg hlt] at h1
      obtain ⟨id2, own, z, b1, b2⟩ := hids _ _ a1
      rw [h1] at b1; cases b1
      exact ⟨own, z, b2⟩
theorem vcRA {P : Program} {mixed : Bool} {mask : Nat} {dm : Value → MS} {rounds : Nat} (hmask : MaskOk P mixed mask) (hmix : mixed = true → P.follows .mixedOrders = true) (n : Nat) {f : FuncId} {args : List Value} {css : List (List Value)} {h : Hint} {v : Value} {new : List (Bool × KObj)}
    (hc : vF P mask dm rounds mixed n true f args (readsT P.globals.size css) (some []) h (newK (readsT P.globals.size css).n 3 v new))
    (hv : rnOk 3 v = true) (hv2 : rn (sgOnly (P.globals.size + css.length)) 3 v = v) (hn : (new.map (·.2)).all (fun o => rnoOk 3 o && o.owned) = true) (hn2 : (new.map (·.2)).map (rno (sgOnly (P.globals.size + css.length)) 3) = new.map (·.2))
    {H : Heap} (ids : List Nat) (hl : ids.length = css.length) (hids : ∀ (k : Nat) (cs : List Value), css[k]? = some cs → ∃ id own z, ids[k]? = some id ∧ H[id]? = some (KObj.cells own z (cs.map (rn (sgR P.globals.size ids) 3)))) :
    KCall P f (args.map (rn (sgR P.globals.size ids) 3)) H [] (Is (rn (sgUp (P.globals.size + css.length) H.length) 3 v) (H ++ (new.map (·.2)).map (rno (sgUp (P.globals.size + css.length) H.length) 3))) := by
  have h1 := vcN hmask hmix n hc
  have e : (readsT P.globals.size css).list.length = P.globals.size + css.length := by rw [HT.length, readsT_n]
  have := KCall.reads (reads_ofA hids hl) h1 hv (by rw [e]; exact hv2) hn (by rw [e]; exact hn2)
  rw [e] at this
  exact this
theorem vcR0A {P : Program} {mixed : Bool} {mask : Nat} {dm : Value → MS} {rounds : Nat} (hmask : MaskOk P mixed mask) (hmix : mixed = true → P.follows .mixedOrders = true) (n : Nat) {f : FuncId} {args : List Value} {css : List (List Value)} {h : Hint} {v : Value}
    (hc : vF P mask dm rounds mixed n true f args (readsT P.globals.size css) (some []) h (fun v' _ _ => v' = v)) (hv : belowV 0 v = true)
    {H : Heap} (ids : List Nat) (hl : ids.length = css.length) (hids : ∀ (k : Nat) (cs : List Value), css[k]? = some cs → ∃ id own z, ids[k]? = some id ∧ H[id]? = some (KObj.cells own z (cs.map (rn (sgR P.globals.size ids) 3)))) (h3 : rnOk 3 v = true := by rfl) (h4 : ∀ σ, rn σ 3 v = v := by intro σ; rfl) :
    KCall P f (args.map (rn (sgR P.globals.size ids) 3)) H [] (Is v H) := by
  have h1 : KCall P f args (readsT P.globals.size css).list [] (Is v ((readsT P.globals.size css).list ++ [])) := by
    have := KCall.clean (vc hmask hmix n (Q := fun v' _ => v' = v) hc) hv
    simpa using this
  have := KCall.reads (reads_ofA hids hl) h1 h3 (h4 _) rfl rfl
  rw [h4] at this
  simpa using this
end
end Go.K
/- Ice: functions of cells that charts and reports use. No condition. -/
namespace Go.Proofs.YthcjliffpebjaaaGreat
open Go Go.K
set_option maxRecDepth 100000
set_option linter.unusedVariables false
set_option linter.unusedSimpArgs false
noncomputable section
attribute [local irreducible] vF
theorem kspMeet (a b : Cell) (H : Heap) : KCall prog F.ice_spans_meet [cellV a, cellV b] H [] (Is (.tuple #[cellV (meetC a b), .bool (decide (okC (meetC a b)))]) H) := by
  refine valK 40 (fun _ => rfl) rfl (Eq.mpr (EspMeet _ a b) ?_) H
  unfold RspMeet
  repeat' first | exact trivial | exact rfl | refine joinMax ?_ ?_ ?_ | refine joinMin ?_ ?_ ?_ | refine toMax ?_ | refine toMin ?_ | refine ⟨rfl, ?_⟩ | refine ⟨trivial, ?_⟩ | (refine forkD (fun h => ?_) (fun h => ?_)) | (refine forkNe (fun h => ?_) (fun h => ?_)) | (refine forkEq (fun h => ?_) (fun h => ?_)) | refine forkNot ?_ | (refine ⟨vI64 (by omega), ?_⟩) | (refine And.intro (by omega) ?_) | apply And.intro | exact wk_refl _ | (exact iEq (by omega)) | (exact vI64 (by omega))
  · exact congrArg (fun q => Value.tuple #[cellV (meetC a b), Value.bool q]) (decide_eq_true (p := okC (meetC a b)) ⟨‹_›, ‹_›, ‹_›, ‹_›⟩).symm
  all_goals exact congrArg (fun q => Value.tuple #[cellV (meetC a b), Value.bool q]) (decide_eq_false (p := okC (meetC a b)) (fun o => by first | exact h o.1 | exact h o.2.1 | exact h o.2.2.1 | exact h o.2.2.2)).symm
theorem kspAged (c : Cell) (m : Rates) (h : Int) (hc : rightC c) (hm : rightR m) (hh : 0 ≤ h ∧ h ≤ 10000) (H : Heap) : KCall prog F.ice_spans_aged [cellV c, ratesV m, .int .i64 h] H [] (Is (cellV (ageC c m h)) H) := by
  refine valK 40 (fun _ => rfl) rfl (Eq.mpr (EspAged _ c m h) ?_) H
  unfold RspAged
  obtain ⟨⟨u1, u2, u3, u4⟩, d1, d2, d3, d4⟩ := hm
  obtain ⟨c1, c2, c3, c4⟩ := hc
  unfold rightS at c1 c2 c3 c4
  have b1 := chg_bd u1 hh; have b2 := chg_bd u2 hh; have b3 := chg_bd u3 hh; have b4 := chg_bd u4 hh
  have e1 := chg_bd d1 hh; have e2 := chg_bd d2 hh; have e3 := chg_bd d3 hh; have e4 := chg_bd d4 hh
  repeat' first
    | refine ⟨_, trivial, fun H' _ _ => kchange _ _ (by first
    | exact u1
    | exact u2
    | exact u3
    | exact u4
    | exact d1
    | exact d2
    | exact d3
    | exact d4) hh H', ?_⟩
    | exact trivial
    | exact rfl
    | refine joinMax ?_ ?_ ?_
    | refine joinMin ?_ ?_ ?_
    | refine toMax ?_
    | refine toMin ?_
    | refine ⟨rfl, ?_⟩
    | refine ⟨trivial, ?_⟩
    | refine forkD (fun h => ?_) (fun h => ?_)
    | refine forkNe (fun h => ?_) (fun h => ?_)
    | refine forkEq (fun h => ?_) (fun h => ?_)
    | refine forkNot ?_
    | refine ⟨vI64 (by omega), ?_⟩
    | refine And.intro (by omega) ?_
    | apply And.intro
    | exact wk_refl _
    | exact iEq (by omega)
    | exact vI64 (by omega)
theorem okC_meet {a b : Cell} (ha : rightC a) (hb : rightC b) : okC (meetC a b) ↔ (b.conc.lo ≤ a.conc.hi ∧ a.conc.lo ≤ b.conc.hi) ∧ (b.thick.lo ≤ a.thick.hi ∧ a.thick.lo ≤ b.thick.hi) ∧ (b.ridge.lo ≤ a.ridge.hi ∧ a.ridge.lo ≤ b.ridge.hi) ∧ (b.press.lo ≤ a.press.hi ∧ a.press.lo ≤ b.press.hi) := by
  obtain ⟨a1, a2, a3, a4⟩ := ha
  obtain ⟨b1, b2, b3, b4⟩ := hb
  have key : ∀ {s t : Span} {m : Int}, rightS s m → rightS t m → ((meetS s t).lo ≤ (meetS s t).hi ↔ t.lo ≤ s.hi ∧ s.lo ≤ t.hi) := by
    intro s t m h1 h2; unfold rightS at h1 h2; simp only [meetS]; omega
  exact and_congr (key a1 b1) (and_congr (key a2 b2) (and_congr (key a3 b3) (key a4 b4)))
theorem krApart (a b : Cell) (ha : rightC a) (hb : rightC b) (H : Heap) : KCall prog F.polynyaref01_Apart [cellV a, cellV b] H [] (Is (.bool (!decide (okC (meetC a b)))) H) := by
  refine valK 40 (fun _ => rfl) rfl (Eq.mpr (ErApart _ a b) ?_) H
  unfold RrApart
  repeat' first | exact trivial | exact rfl | refine joinMax ?_ ?_ ?_ | refine joinMin ?_ ?_ ?_ | refine toMax ?_ | refine toMin ?_ | refine ⟨rfl, ?_⟩ | refine ⟨trivial, ?_⟩ | (refine forkD (fun h => ?_) (fun h => ?_)) | (refine forkNe (fun h => ?_) (fun h => ?_)) | (refine forkEq (fun h => ?_) (fun h => ?_)) | refine forkNot ?_ | (refine ⟨vI64 (by omega), ?_⟩) | (refine And.intro (by omega) ?_) | apply And.intro | exact wk_refl _ | (exact iEq (by omega)) | (exact vI64 (by omega))
  all_goals first | exact bEq (by rw [decide_eq_false (fun o => by have := (okC_meet ha hb).1 o; omega)]; rfl) | exact bEq (by rw [decide_eq_true ((okC_meet ha hb).2 (by omega))]; rfl)
theorem krCommon (a b : Cell) (H : Heap) : KCall prog F.polynyaref01_Common [cellV a, cellV b] H [] (Is (cellV (meetC a b)) H) := by
  refine valK 40 (fun _ => rfl) rfl (Eq.mpr (ErCommon _ a b) ?_) H
  unfold RrCommon
  repeat' first | exact trivial | exact rfl | refine joinMax ?_ ?_ ?_ | refine joinMin ?_ ?_ ?_ | refine toMax ?_ | refine toMin ?_ | refine ⟨rfl, ?_⟩ | refine ⟨trivial, ?_⟩ | (refine forkD (fun h => ?_) (fun h => ?_)) | (refine forkNe (fun h => ?_) (fun h => ?_)) | (refine forkEq (fun h => ?_) (fun h => ?_)) | refine forkNot ?_ | (refine ⟨vI64 (by omega), ?_⟩) | (refine And.intro (by omega) ?_) | apply And.intro | exact wk_refl _ | (exact iEq (by omega)) | (exact vI64 (by omega))
theorem krOlder (c : Cell) (m : Rates) (h : Int) (hc : rightC c) (hm : rightR m) (hh : 0 ≤ h ∧ h ≤ 10000) (H : Heap) : KCall prog F.polynyaref01_Older [cellV c, ratesV m, .int .i64 h] H [] (Is (cellV (ageC c m h)) H) := by
  refine valK 40 (fun _ => rfl) rfl (Eq.mpr (ErOlder _ c m h) ?_) H
  unfold RrOlder
  obtain ⟨⟨u1, u2, u3, u4⟩, d1, d2, d3, d4⟩ := hm
  obtain ⟨c1, c2, c3, c4⟩ := hc
  unfold rightS at c1 c2 c3 c4
  have b1 := chg_bd u1 hh; have b2 := chg_bd u2 hh; have b3 := chg_bd u3 hh; have b4 := chg_bd u4 hh
  have e1 := chg_bd d1 hh; have e2 := chg_bd d2 hh; have e3 := chg_bd d3 hh; have e4 := chg_bd d4 hh
  repeat' first
    | refine ⟨_, trivial, fun H' _ _ => krchange _ _ (by first
    | exact u1
    | exact u2
    | exact u3
    | exact u4
    | exact d1
    | exact d2
    | exact d3
    | exact d4) hh H', ?_⟩
    | exact trivial
    | exact rfl
    | refine joinMax ?_ ?_ ?_
    | refine joinMin ?_ ?_ ?_
    | refine toMax ?_
    | refine toMin ?_
    | refine ⟨rfl, ?_⟩
    | refine ⟨trivial, ?_⟩
    | refine forkD (fun h => ?_) (fun h => ?_)
    | refine forkNe (fun h => ?_) (fun h => ?_)
    | refine forkEq (fun h => ?_) (fun h => ?_)
    | refine forkNot ?_
    | refine ⟨vI64 (by omega), ?_⟩
    | refine And.intro (by omega) ?_
    | apply And.intro
    | exact wk_refl _
    | exact iEq (by omega)
    | exact vI64 (by omega)
def sizeOk (w h t : Int) : Prop := (1 ≤ w ∧ w ≤ 64) ∧ (1 ≤ h ∧ h ≤ 64) ∧ w * h ≤ 1024 ∧ (0 ≤ t ∧ t ≤ 10000)
instance (w h t : Int) : Decidable (sizeOk w h t) := by unfold sizeOk; infer_instance
def errSize (w h t : Int) : Int := if sizeOk w h t then 0 else 6
theorem ksize (w h t : Int) (H : Heap) : KCall prog F.ice_size [.int .i64 w, .int .i64 h, .int .i64 t] H [] (Is (.int .i64 (errSize w h t)) H) := by
  refine valK 40 (fun _ => rfl) rfl (Eq.mpr (Esize _ w h t) ?_) H
  unfold Rsize
  have mb : (1 ≤ w ∧ w ≤ 64) → (1 ≤ h ∧ h ≤ 64) → 0 ≤ w * h ∧ w * h ≤ 64 * 64 := fun h1 h2 => mulb (by omega) h1.2 (by omega) h2.2
  repeat' first | (refine ⟨vI64 (by have := mb ⟨‹_›, ‹_›⟩ ⟨‹_›, ‹_›⟩; omega), ?_⟩) | (exact iEq (if_pos (by unfold sizeOk; omega)).symm) | (exact iEq (if_neg (by unfold sizeOk; omega)).symm) | exact trivial | exact rfl | refine joinMax ?_ ?_ ?_ | refine joinMin ?_ ?_ ?_ | refine toMax ?_ | refine toMin ?_ | refine ⟨rfl, ?_⟩ | refine ⟨trivial, ?_⟩ | (refine forkD (fun h => ?_) (fun h => ?_)) | (refine forkNe (fun h => ?_) (fun h => ?_)) | (refine forkEq (fun h => ?_) (fun h => ?_)) | refine forkNot ?_ | (refine ⟨vI64 (by omega), ?_⟩) | (refine And.intro (by omega) ?_) | apply And.intro | exact wk_refl _ | (exact iEq (by omega)) | (exact vI64 (by omega))
end
end Go.Proofs.YthcjliffpebjaaaGreat
/- Ice: reports: what functions of reports answer. No condition. -/
namespace Go.Proofs.YthcjliffpebjaaaGreat
set_option linter.unusedSimpArgs false
set_option linter.unusedVariables false
open Go Go.K
noncomputable section
/-- A list by its indices. -/
def tabP {α : Type} (f : Nat → α) (n : Nat) : List α := (List.range n).map f
theorem tabP_len {α : Type} (f : Nat → α) (n : Nat) : (tabP f n).length = n := by simp [tabP]
theorem tabP_succ {α : Type} (f : Nat → α) (n : Nat) : tabP f (n + 1) = tabP f n ++ [f n] := by simp [tabP, List.range_succ]
theorem tabP_get {α : Type} {f : Nat → α} {n k : Nat} {d : α} (h : k < n) : (tabP f n).getD k d = f k := by simp [tabP, List.getD_eq_getElem?_getD, List.getElem?_range h]
abbrev reportV (r : Report) : Value := .agg ⟨reportC r⟩
def reportOk (r : Report) : Prop := ((0 ≤ r.id ∧ r.id ≤ 1000000) ∧ (1 ≤ r.source ∧ r.source ≤ 3) ∧ (0 ≤ r.at_ ∧ r.at_ ≤ 10000) ∧ (0 ≤ r.x ∧ r.x ≤ 63) ∧ (0 ≤ r.y ∧ r.y ≤ 63) ∧ (1 ≤ r.has ∧ r.has ≤ 15)) ∧
  (r.has % 2 = 1 → rightS r.cell.conc 100) ∧ (r.has / 2 % 2 = 1 → rightS r.cell.thick 400) ∧ (r.has / 4 % 2 = 1 → rightS r.cell.ridge 100) ∧ (r.has / 8 % 2 = 1 → rightS r.cell.press 3)
instance (r : Report) : Decidable (reportOk r) := by unfold reportOk; infer_instance
def errReport (r : Report) : Int := if reportOk r then 0 else 20
theorem errReport_iff {r : Report} : errReport r = 0 ↔ reportOk r := by unfold errReport; split <;> simp_all
def saidC (r : Report) : Cell := ⟨if r.has % 2 = 1 then r.cell.conc else ⟨0, 100⟩, if r.has / 2 % 2 = 1 then r.cell.thick else ⟨0, 400⟩, if r.has / 4 % 2 = 1 then r.cell.ridge else ⟨0, 100⟩, if r.has / 8 % 2 = 1 then r.cell.press else ⟨0, 3⟩⟩
theorem saidC_right {r : Report} (h : reportOk r) : rightC (saidC r) := by
  obtain ⟨_, h1, h2, h3, h4⟩ := h
  unfold saidC
  refine ⟨?_, ?_, ?_, ?_⟩
  · show rightS (if _ then _ else _) 100
    split
    · exact h1 ‹_›
    · unfold rightS; decide
  · show rightS (if _ then _ else _) 400
    split
    · exact h2 ‹_›
    · unfold rightS; decide
  · show rightS (if _ then _ else _) 100
    split
    · exact h3 ‹_›
    · unfold rightS; decide
  · show rightS (if _ then _ else _) 3
    split
    · exact h4 ‹_›
    · unfold rightS; decide
def tellsC (r : Report) (m : Rates) (now : Int) : Cell := ageC (saidC r) m (now - r.at_)
def errHour (now : Int) : Int := if 0 ≤ now ∧ now ≤ 10000 then 0 else 6
def errAsk (m : Rates) (now : Int) : Int := first2 (errRates m) (errHour now)
def fTells (r : Report) (m : Rates) (now : Int) : Cell × Int :=
  if first2 (errAsk m now) (errReport r) = 0 then (if r.at_ > now then (zeroC, 12) else (tellsC r m now, 0)) else (zeroC, first2 (errAsk m now) (errReport r))
/-- The first error of some, by their indices. -/
def errTo (f : Nat → Int) : Nat → Int
  | 0 => 0
  | n + 1 => if errTo f n = 0 then f n else errTo f n
theorem errTo_succ0 {f : Nat → Int} {n : Nat} (h : errTo f n = 0) (k : f n = 0) : errTo f (n + 1) = 0 := by unfold errTo; rw [if_pos h, k]
theorem errTo_stop {f : Nat → Int} {i n : Nat} (h : errTo f i = 0) (k : ¬ f i = 0) (hn : i < n) : errTo f n = f i := by
  have key : ∀ d, errTo f (i + 1 + d) = f i := by
    intro d
    induction d with
    | zero => show (if errTo f i = 0 then f i else errTo f i) = f i; rw [if_pos h]
    | succ d ih => show (if errTo f (i + 1 + d) = 0 then f (i + 1 + d) else errTo f (i + 1 + d)) = f i; rw [ih, if_neg k]
  have := key (n - (i + 1))
  rwa [show i + 1 + (n - (i + 1)) = n by omega] at this
theorem errTo_zero {f : Nat → Int} {n : Nat} (h : errTo f n = 0) : ∀ i, i < n → f i = 0 := by
  induction n with
  | zero => intro i hi; omega
  | succ n ih =>
    unfold errTo at h
    split at h
    · intro i hi
      rcases Nat.lt_or_ge i n with h1 | h1
      · exact ih (by assumption) i h1
      · obtain rfl : i = n := by omega
        exact h
    · rename_i h1; exact absurd h h1
open Classical in
def errOne (l : List Report) (now : Int) (i : Nat) : Int :=
  if errReport (l.getD i zeroR) = 0 then (if ∃ k, k < i ∧ (l.getD k zeroR).id = (l.getD i zeroR).id then 10 else
    if (l.getD i zeroR).x ≠ (l.getD 0 zeroR).x ∨ (l.getD i zeroR).y ≠ (l.getD 0 zeroR).y then 1 else if (l.getD i zeroR).at_ > now then 12 else 0) else errReport (l.getD i zeroR)
def errOpen (l : List Report) (m : Rates) (now : Int) : Int := first2 (errAsk m now) (if 12 < l.length then 2 else errTo (errOne l now) l.length)
def toldL (l : List Report) (m : Rates) (now : Int) (n : Nat) : List Cell := tabP (fun i => tellsC (l.getD i zeroR) m now) n
abbrev told (l : List Report) (m : Rates) (now : Int) : List Cell := toldL l m now l.length
/-- Is a report in a set? That of the first report is the greatest bit. -/
def inSet (n s i : Nat) : Bool := s.testBit (n - 1 - i)
/-- What the first j reports of a set tell together. -/
def tog (ts : List Cell) (s : Nat) : Nat → Option Cell
  | 0 => some wholeC
  | j + 1 => match tog ts s j with
    | none => none
    | some c => if inSet ts.length s j then (if okC (meetC c (ts.getD j zeroC)) then some (meetC c (ts.getD j zeroC)) else none) else some c
def togA (ts : List Cell) (s : Nat) : Option Cell := tog ts s ts.length
def popc (s : Nat) : Nat := ((List.range 12).filter fun i => s.testBit i).length
/-- The greatest sets that agree, of the first j sets: their size, and they. -/
def agr (ts : List Cell) : Nat → Int × List Nat
  | 0 => (-1, [])
  | j + 1 =>
    let s := 2 ^ ts.length - 1 - j
    if (popc s : Int) < (agr ts j).1 then agr ts j else if (togA ts s).isSome then (if (agr ts j).1 < popc s then (popc s, [s]) else ((agr ts j).1, (agr ts j).2 ++ [s])) else agr ts j
def agrA (ts : List Cell) : List Nat := (agr ts (2 ^ ts.length)).2
def natC (s : Nat) : List Value := [.int .i64 ((s : Nat) : Int)]
abbrev boolC (b : Bool) : List Value := [.bool b]
def pairC (p : Nat × Nat) : List Value := [.int .i64 ((p.1 : Nat) : Int), .int .i64 ((p.2 : Nat) : Int)]
def fFuse (l : List Report) (m : Rates) (now : Int) : Cell × Int :=
  if errOpen l m now = 0 then (match togA (told l m now) (2 ^ l.length - 1) with | some c => (c, 0) | none => (zeroC, 21)) else (zeroC, errOpen l m now)
/-- The pairs in conflict of report i with the k reports behind it; of the first i reports. -/
def confRow (ts : List Cell) (i : Nat) : Nat → List (Nat × Nat)
  | 0 => []
  | k + 1 => if okC (meetC (ts.getD i zeroC) (ts.getD (i + 1 + k) zeroC)) then confRow ts i k else confRow ts i k ++ [(i, i + 1 + k)]
def conf (ts : List Cell) : Nat → List (Nat × Nat)
  | 0 => []
  | i + 1 => conf ts i ++ confRow ts i (ts.length - (i + 1))
def fConf (l : List Report) (m : Rates) (now : Int) : List (Nat × Nat) × Int :=
  if errOpen l m now = 0 then (conf (told l m now) l.length, 0) else ([], errOpen l m now)
def trustS (ts : List Cell) : Nat := (agrA ts).getD 0 0
def trustL (ts : List Cell) (n : Nat) : List Bool := tabP (fun i => inSet ts.length (trustS ts) i) n
def fTrust (l : List Report) (m : Rates) (now : Int) : List Bool × Cell × Int :=
  if errOpen l m now = 0 then (trustL (told l m now) l.length, (togA (told l m now) (trustS (told l m now))).getD zeroC, 0) else ([], zeroC, errOpen l m now)
end
end Go.Proofs.YthcjliffpebjaaaGreat
