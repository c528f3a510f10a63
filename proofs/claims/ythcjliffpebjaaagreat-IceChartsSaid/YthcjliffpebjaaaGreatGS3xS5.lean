/- Ice: the reference's answers on cells are the layer's. No condition. -/
import Derived.Test.YthcjliffpebjaaaGreatGS2gxS2
namespace Go.Proofs.YthcjliffpebjaaaGreat
open Go Go.K
set_option maxRecDepth 100000
set_option linter.unusedVariables false
set_option linter.unusedSimpArgs false
noncomputable section
attribute [local irreducible] vF
theorem krchange (rate hours : Int) (h1 : 0 ≤ rate ∧ rate ≤ 1000) (h2 : 0 ≤ hours ∧ hours ≤ 10000) (H : Heap) : KCall prog F.polynyaref01_change [.int .i64 rate, .int .i64 hours] H [] (Is (.int .i64 (chg rate hours)) H) := by
  refine valK 40 (fun _ => rfl) rfl (Eq.mpr (Erchange _ rate hours) ?_) H
  have hb := mulb h1.1 h1.2 h2.1 h2.2
  have ht : Int.tdiv (rate * hours) 24 = (rate * hours) / 24 := Int.tdiv_eq_ediv_of_nonneg (by omega)
  unfold Rrchange
  rw [ht]
  refine ⟨v64 (by omega), v64 (by omega), v64 (by omega), v64 (by omega), fun h => ⟨v64 (by omega), i64_eq ?_⟩, fun h => i64_eq ?_⟩
  · have := of_decide_eq_true h; unfold chg; omega
  · have := of_decide_eq_false h; unfold chg; omega
theorem krHas (c : Cell) (x : Ice) (H : Heap) : KCall prog F.polynyaref01_Has [cellV c, iceV x] H [] (Is (.tuple #[.bool (fHas c x).1, .int .i64 (fHas c x).2]) H) := by
  refine valK 40 (fun _ => rfl) rfl (Eq.mpr (ErHas _ c x) ?_) H
  unfold RrHas
  refine ⟨_, trivial, fun H' _ _ => krCheckCell c H', fun h0 => ?_, fun h0 => ⟨_, trivial, fun H' _ _ => krCheckIce x H', fun h1 => ?_, fun h1 => ?_⟩⟩
  · exact tupB (fHas_1 (by simpa using h0))
  · exact tupB (fHas_2 (by simpa using h0) (by simpa using h1))
  · have k0 : errCell c = 0 := by simpa using h0
    have k1 : errIce x = 0 := by simpa using h1
    simp only [decide_eq_true_eq, decide_eq_false_iff_not]
    repeat' (first | apply And.intro | intro _)
    all_goals first
      | exact tupB (fHas_3 k0 k1 (decide_eq_false (by unfold hasC hasS; omega)))
      | exact tupB (fHas_3 k0 k1 (decide_eq_true (by unfold hasC hasS; omega)))
theorem krWhole (H : Heap) : KCall prog F.polynyaref01_Whole [] H [] (Is (cellV wholeC) H) := valK 40 (fun _ => rfl) rfl (Eq.mpr (ErWhole _) rfl) H
theorem krInside (a b : Cell) (H : Heap) : KCall prog F.polynyaref01_Inside [cellV a, cellV b] H [] (Is (.tuple #[.bool (fInside a b).1, .int .i64 (fInside a b).2]) H) := by
  refine valK 40 (fun _ => rfl) rfl (Eq.mpr (ErInside _ a b) ?_) H
  unfold RrInside
  refine ⟨_, trivial, fun H' _ _ => krCheckCell a H', fun h0 => ⟨vbool h0, tupB (fInside_1 (by simpa using h0))⟩, fun h0 => ⟨_, trivial, fun H' _ _ => krCheckCell b H', fun h1 => tupB (fInside_2 (by simpa using h0) (by simpa using h1)), fun h1 => ?_⟩⟩
  have k0 : errCell a = 0 := by simpa using h0
  have k1 : errCell b = 0 := by simpa using h1
  obtain ⟨ra1, ra2, ra3, ra4⟩ := errCell_iff.1 k0
  have q1 := ra1.2.2.1
  have q2 := ra2.2.2.1
  have q3 := ra3.2.2.1
  have q4 := ra4.2.2.1
  clear ra1 ra2 ra3 ra4 h0 h1
  simp only [decide_eq_true_eq, decide_eq_false_iff_not]
  repeat' (first | apply And.intro | intro _)
  all_goals first
    | exact tupB (fInside_3 k0 k1 (decide_eq_false (by unfold insC insS; omega)))
    | exact tupB (fInside_3 k0 k1 (decide_eq_true (by unfold insC insS; omega)))
/-! ## Branches that come together -/
theorem joinI0 {c : Bool} {v1 v2 : Int} {S1 S2 R : Int → Prop} (h1 : S1 v1) (h2 : S2 v2) (hr : ∀ x, x = (if c = true then v1 else v2) → R x) :
    (true = true ∧ (c = true → ∃ x' : Int, ((c = true ∧ x' = v1 ∧ True) ∨ (c = false ∧ x' = v2 ∧ True)) ∧ S1 x') ∧ (c = false → ∃ x' : Int, ((c = true ∧ x' = v1 ∧ True) ∨ (c = false ∧ x' = v2 ∧ True)) ∧ S2 x') ∧
      ∀ x : Int, ((c = true ∧ x = v1 ∧ True) ∨ (c = false ∧ x = v2 ∧ True)) → R x) := by
  refine ⟨rfl, fun h => ⟨v1, .inl ⟨h, rfl, trivial⟩, h1⟩, fun h => ⟨v2, .inr ⟨h, rfl, trivial⟩, h2⟩, fun x hx => hr x ?_⟩
  rcases hx with ⟨h, rfl, _⟩ | ⟨h, rfl, _⟩
  · rw [if_pos h]
  · rw [if_neg (by rw [h]; decide)]
theorem krMeet (a b : Cell) (H : Heap) : KCall prog F.polynyaref01_Meet [cellV a, cellV b] H [] (Is (.tuple #[cellV (fMeet a b).1, .int .i64 (fMeet a b).2]) H) := by
  refine valK 40 (fun _ => rfl) rfl (Eq.mpr (ErMeet _ a b) ?_) H
  unfold RrMeet
  refine ⟨_, trivial, fun H' _ _ => krCheckCell a H', fun h0 => ⟨vbool h0, tupC (fMeet_1 (by simpa using h0))⟩, fun h0 => ⟨_, trivial, fun H' _ _ => krCheckCell b H', fun h1 => tupC (fMeet_2 (by simpa using h0) (by simpa using h1)), fun h1 => ?_⟩⟩
  have k0 : errCell a = 0 := by simpa using h0
  have k1 : errCell b = 0 := by simpa using h1
  obtain ⟨ra1, ra2, ra3, ra4⟩ := errCell_iff.1 k0
  obtain ⟨rb1, rb2, rb3, rb4⟩ := errCell_iff.1 k1
  have p1 := ra1.2.2.1
  have p2 := ra2.2.2.1
  have p3 := ra3.2.2.1
  have p4 := ra4.2.2.1
  have q1 := rb1.2.2.1
  have q2 := rb2.2.2.1
  have q3 := rb3.2.2.1
  have q4 := rb4.2.2.1
  clear ra1 ra2 ra3 ra4 rb1 rb2 rb3 rb4 h0 h1
  have bad : ∀ {n : Int}, n = 21 → (¬ okC (meetC a b)) → (Value.tuple #[.agg #[.int .i64 0, .int .i64 0, .int .i64 0, .int .i64 0, .int .i64 0, .int .i64 0, .int .i64 0, .int .i64 0], .int .i64 n]) = .tuple #[cellV (fMeet a b).1, .int .i64 (fMeet a b).2] := fun hn hb => by subst hn; exact tupC (fMeet_3 k0 k1 hb)
  refine ⟨fun h => bad rfl (fun o => by have := of_decide_eq_true h; have := o.1; simp only [meetC, meetS] at this; omega), fun c1 => ?_⟩
  refine ⟨fun h => bad rfl (fun o => by have := of_decide_eq_true h; have := o.1; simp only [meetC, meetS] at this; omega), fun c2 => ?_⟩
  refine ⟨fun h => bad rfl (fun o => by have := of_decide_eq_true h; have := o.2.1; simp only [meetC, meetS] at this; omega), fun c3 => ?_⟩
  refine ⟨fun h => bad rfl (fun o => by have := of_decide_eq_true h; have := o.2.1; simp only [meetC, meetS] at this; omega), fun c4 => ?_⟩
  refine ⟨fun h => bad rfl (fun o => by have := of_decide_eq_true h; have := o.2.2.1; simp only [meetC, meetS] at this; omega), fun c5 => ?_⟩
  refine ⟨fun h => bad rfl (fun o => by have := of_decide_eq_true h; have := o.2.2.1; simp only [meetC, meetS] at this; omega), fun c6 => ?_⟩
  refine ⟨fun h => bad rfl (fun o => by have := of_decide_eq_true h; have := o.2.2.2; simp only [meetC, meetS] at this; omega), fun c7 => ?_⟩
  refine ⟨fun h => bad rfl (fun o => by have := of_decide_eq_true h; have := o.2.2.2; simp only [meetC, meetS] at this; omega), fun c8 => ?_⟩
  simp only [decide_eq_false_iff_not] at c1 c2 c3 c4 c5 c6 c7 c8
  have hok : okC (meetC a b) := by
    refine ⟨?_, ?_, ?_, ?_⟩ <;> simp only [meetC, meetS]
    · clear p2 p3 p4 q2 q3 q4; omega
    · clear p1 p3 p4 q1 q3 q4; omega
    · clear p1 p2 p4 q1 q2 q4; omega
    · clear p1 p2 p3 q1 q2 q3; omega
  refine joinI0 (by repeat' (first | exact trivial | exact rfl | constructor)) (by repeat' (first | exact trivial | exact rfl | constructor)) fun x1 e1 => ?_
  refine joinI0 (by repeat' (first | exact trivial | exact rfl | constructor)) (by repeat' (first | exact trivial | exact rfl | constructor)) fun x2 e2 => ?_
  refine joinI0 (by repeat' (first | exact trivial | exact rfl | constructor)) (by repeat' (first | exact trivial | exact rfl | constructor)) fun x3 e3 => ?_
  refine joinI0 (by repeat' (first | exact trivial | exact rfl | constructor)) (by repeat' (first | exact trivial | exact rfl | constructor)) fun x4 e4 => ?_
  refine joinI0 (by repeat' (first | exact trivial | exact rfl | constructor)) (by repeat' (first | exact trivial | exact rfl | constructor)) fun x5 e5 => ?_
  refine joinI0 (by repeat' (first | exact trivial | exact rfl | constructor)) (by repeat' (first | exact trivial | exact rfl | constructor)) fun x6 e6 => ?_
  refine joinI0 (by repeat' (first | exact trivial | exact rfl | constructor)) (by repeat' (first | exact trivial | exact rfl | constructor)) fun x7 e7 => ?_
  refine joinI0 (by repeat' (first | exact trivial | exact rfl | constructor)) (by repeat' (first | exact trivial | exact rfl | constructor)) fun x8 e8 => ?_
  refine tupC ((fMeet_4 k0 k1 hok).trans ?_)
  simp only [decide_eq_true_eq] at e1 e2 e3 e4 e5 e6 e7 e8
  have m1 : max a.conc.lo b.conc.lo = x1 := by rw [e1]; split <;> omega
  have m2 : min a.conc.hi b.conc.hi = x2 := by rw [e2]; split <;> omega
  have m3 : max a.thick.lo b.thick.lo = x3 := by rw [e3]; split <;> omega
  have m4 : min a.thick.hi b.thick.hi = x4 := by rw [e4]; split <;> omega
  have m5 : max a.ridge.lo b.ridge.lo = x5 := by rw [e5]; split <;> omega
  have m6 : min a.ridge.hi b.ridge.hi = x6 := by rw [e6]; split <;> omega
  have m7 : max a.press.lo b.press.lo = x7 := by rw [e7]; split <;> omega
  have m8 : min a.press.hi b.press.hi = x8 := by rw [e8]; split <;> omega
  unfold meetC meetS
  rw [m1, m2, m3, m4, m5, m6, m7, m8]
theorem krHull (a b : Cell) (H : Heap) : KCall prog F.polynyaref01_Hull [cellV a, cellV b] H [] (Is (.tuple #[cellV (fHull a b).1, .int .i64 (fHull a b).2]) H) := by
  refine valK 40 (fun _ => rfl) rfl (Eq.mpr (ErHull _ a b) ?_) H
  unfold RrHull
  refine ⟨_, trivial, fun H' _ _ => krCheckCell a H', fun h0 => ⟨vbool h0, tupC (fHull_1 (by simpa using h0))⟩, fun h0 => ⟨_, trivial, fun H' _ _ => krCheckCell b H', fun h1 => tupC (fHull_2 (by simpa using h0) (by simpa using h1)), fun h1 => ?_⟩⟩
  have k0 : errCell a = 0 := by simpa using h0
  have k1 : errCell b = 0 := by simpa using h1
  refine joinI0 (by repeat' (first | exact trivial | exact rfl | constructor)) (by repeat' (first | exact trivial | exact rfl | constructor)) fun x1 e1 => ?_
  refine joinI0 (by repeat' (first | exact trivial | exact rfl | constructor)) (by repeat' (first | exact trivial | exact rfl | constructor)) fun x2 e2 => ?_
  refine joinI0 (by repeat' (first | exact trivial | exact rfl | constructor)) (by repeat' (first | exact trivial | exact rfl | constructor)) fun x3 e3 => ?_
  refine joinI0 (by repeat' (first | exact trivial | exact rfl | constructor)) (by repeat' (first | exact trivial | exact rfl | constructor)) fun x4 e4 => ?_
  refine joinI0 (by repeat' (first | exact trivial | exact rfl | constructor)) (by repeat' (first | exact trivial | exact rfl | constructor)) fun x5 e5 => ?_
  refine joinI0 (by repeat' (first | exact trivial | exact rfl | constructor)) (by repeat' (first | exact trivial | exact rfl | constructor)) fun x6 e6 => ?_
  refine joinI0 (by repeat' (first | exact trivial | exact rfl | constructor)) (by repeat' (first | exact trivial | exact rfl | constructor)) fun x7 e7 => ?_
  refine joinI0 (by repeat' (first | exact trivial | exact rfl | constructor)) (by repeat' (first | exact trivial | exact rfl | constructor)) fun x8 e8 => ?_
  refine tupC ((fHull_3 k0 k1).trans ?_)
  simp only [decide_eq_true_eq] at e1 e2 e3 e4 e5 e6 e7 e8
  have m1 : min a.conc.lo b.conc.lo = x1 := by rw [e1]; split <;> omega
  have m2 : max a.conc.hi b.conc.hi = x2 := by rw [e2]; split <;> omega
  have m3 : min a.thick.lo b.thick.lo = x3 := by rw [e3]; split <;> omega
  have m4 : max a.thick.hi b.thick.hi = x4 := by rw [e4]; split <;> omega
  have m5 : min a.ridge.lo b.ridge.lo = x5 := by rw [e5]; split <;> omega
  have m6 : max a.ridge.hi b.ridge.hi = x6 := by rw [e6]; split <;> omega
  have m7 : min a.press.lo b.press.lo = x7 := by rw [e7]; split <;> omega
  have m8 : max a.press.hi b.press.hi = x8 := by rw [e8]; split <;> omega
  unfold hullC hullS
  rw [m1, m2, m3, m4, m5, m6, m7, m8]
theorem krAge (c : Cell) (m : Rates) (h : Int) (H : Heap) : KCall prog F.polynyaref01_Age [cellV c, ratesV m, .int .i64 h] H [] (Is (.tuple #[cellV (fAge c m h).1, .int .i64 (fAge c m h).2]) H) := by
  refine valK 40 (fun _ => rfl) rfl (Eq.mpr (ErAge _ c m h) ?_) H
  unfold RrAge
  refine ⟨_, trivial, fun H' _ _ => krCheckCell c H', fun h0 => tupC (fAge_1 (by simpa using h0)), fun h0 => ⟨_, trivial, fun H' _ _ => krCheckRates m H', fun h1 => tupC (fAge_2 (by simpa using h0) (by simpa using h1)), fun h1 => ?_⟩⟩
  have k0 : errCell c = 0 := by simpa using h0
  have k1 : errRates m = 0 := by simpa using h1
  refine ⟨fun h2 => tupC (fAge_3 k0 k1 (by have := of_decide_eq_true h2; omega)), fun h2 => ⟨fun h3 => tupC (fAge_3 k0 k1 (by have := of_decide_eq_true h3; omega)), fun h3 => ?_⟩⟩
  replace h2 : 0 ≤ h := by have := of_decide_eq_false h2; omega
  replace h3 : h ≤ 10000 := by have := of_decide_eq_false h3; omega
  obtain ⟨⟨u1, u2, u3, u4⟩, d1, d2, d3, d4⟩ := errRates_iff.1 k1
  obtain ⟨c1, c2, c3, c4⟩ := errCell_iff.1 k0
  unfold rightS at c1 c2 c3 c4
  have bd := fun (r : Int) (hr : 0 ≤ r ∧ r ≤ 1000) => chg_bd hr ⟨h2, h3⟩
  have b1 := bd _ u1; have b2 := bd _ u2; have b3 := bd _ u3; have b4 := bd _ u4
  have e1 := bd _ d1; have e2 := bd _ d2; have e3 := bd _ d3; have e4 := bd _ d4
  refine ⟨_, trivial, fun H' _ _ => krchange _ _ d1 ⟨h2, h3⟩ H', v64 (by omega), _, trivial, fun H' _ _ => krchange _ _ u1 ⟨h2, h3⟩ H', v64 (by omega), ?_⟩
  refine joinI0 (by repeat' (first | exact trivial | exact rfl | constructor)) (by repeat' (first | exact trivial | exact rfl | constructor)) fun x1 f1 => ?_
  refine joinI0 (by repeat' (first | exact trivial | exact rfl | constructor)) (by repeat' (first | exact trivial | exact rfl | constructor)) fun x2 f2 => ?_
  refine ⟨_, trivial, fun H' _ _ => krchange _ _ d2 ⟨h2, h3⟩ H', v64 (by omega), _, trivial, fun H' _ _ => krchange _ _ u2 ⟨h2, h3⟩ H', v64 (by omega), ?_⟩
  refine joinI0 (by repeat' (first | exact trivial | exact rfl | constructor)) (by repeat' (first | exact trivial | exact rfl | constructor)) fun x3 f3 => ?_
  refine joinI0 (by repeat' (first | exact trivial | exact rfl | constructor)) (by repeat' (first | exact trivial | exact rfl | constructor)) fun x4 f4 => ?_
  refine ⟨_, trivial, fun H' _ _ => krchange _ _ d3 ⟨h2, h3⟩ H', v64 (by omega), _, trivial, fun H' _ _ => krchange _ _ u3 ⟨h2, h3⟩ H', v64 (by omega), ?_⟩
  refine joinI0 (by repeat' (first | exact trivial | exact rfl | constructor)) (by repeat' (first | exact trivial | exact rfl | constructor)) fun x5 f5 => ?_
  refine joinI0 (by repeat' (first | exact trivial | exact rfl | constructor)) (by repeat' (first | exact trivial | exact rfl | constructor)) fun x6 f6 => ?_
  refine ⟨_, trivial, fun H' _ _ => krchange _ _ d4 ⟨h2, h3⟩ H', v64 (by omega), _, trivial, fun H' _ _ => krchange _ _ u4 ⟨h2, h3⟩ H', v64 (by omega), ?_⟩
  refine joinI0 (by repeat' (first | exact trivial | exact rfl | constructor)) (by repeat' (first | exact trivial | exact rfl | constructor)) fun x7 f7 => ?_
  refine joinI0 (by repeat' (first | exact trivial | exact rfl | constructor)) (by repeat' (first | exact trivial | exact rfl | constructor)) fun x8 f8 => ?_
  refine tupC ((fAge_4 k0 k1 ⟨h2, h3⟩).trans ?_)
  simp only [decide_eq_true_eq] at f1 f2 f3 f4 f5 f6 f7 f8
  have m1 : max (c.conc.lo - chg m.down.conc h) 0 = x1 := by rw [f1]; split <;> omega
  have m2 : min (c.conc.hi + chg m.up.conc h) 100 = x2 := by rw [f2]; split <;> omega
  have m3 : max (c.thick.lo - chg m.down.thick h) 0 = x3 := by rw [f3]; split <;> omega
  have m4 : min (c.thick.hi + chg m.up.thick h) 400 = x4 := by rw [f4]; split <;> omega
  have m5 : max (c.ridge.lo - chg m.down.ridge h) 0 = x5 := by rw [f5]; split <;> omega
  have m6 : min (c.ridge.hi + chg m.up.ridge h) 100 = x6 := by rw [f6]; split <;> omega
  have m7 : max (c.press.lo - chg m.down.press h) 0 = x7 := by rw [f7]; split <;> omega
  have m8 : min (c.press.hi + chg m.up.press h) 3 = x8 := by rw [f8]; split <;> omega
  unfold ageC ageS
  rw [m1, m2, m3, m4, m5, m6, m7, m8]
end
end Go.Proofs.YthcjliffpebjaaaGreat
/- Ice: allowed courses. No condition. -/
namespace Go.Proofs.YthcjliffpebjaaaGreat
set_option linter.unusedSimpArgs false
set_option linter.unusedVariables false
open Go Go.K
noncomputable section
def pairI (m : Rates) (x y : Ice) (h : Int) : Prop :=
  (x.conc - chg m.down.conc h ≤ y.conc ∧ y.conc ≤ x.conc + chg m.up.conc h) ∧ (x.thick - chg m.down.thick h ≤ y.thick ∧ y.thick ≤ x.thick + chg m.up.thick h) ∧
  (x.ridge - chg m.down.ridge h ≤ y.ridge ∧ y.ridge ≤ x.ridge + chg m.up.ridge h) ∧ (x.press - chg m.down.press h ≤ y.press ∧ y.press ≤ x.press + chg m.up.press h)
def row (xs : List Ice) (m : Rates) (t n : Nat) : Prop := ∀ s, s < n → pairI m (xs.getD s zeroI) (xs.getD t zeroI) ((t : Int) - (s : Int))
def upto (xs : List Ice) (m : Rates) (n : Nat) : Prop := ∀ t, t < n → row xs m t t
open Classical in
def fAllowed (xs : List Ice) (m : Rates) : Bool × Int :=
  if 400 < xs.length then (false, 2) else if first2 (errs errIce xs) (errRates m) = 0 then (decide (upto xs m xs.length), 0) else (false, first2 (errs errIce xs) (errRates m))
end
end Go.Proofs.YthcjliffpebjaaaGreat
/- What is to be shown of functions. Printed by a program. No condition. -/
namespace Go.Proofs.YthcjliffpebjaaaGreat
set_option linter.unusedSimpArgs false
open Go Go.K
set_option maxRecDepth 100000
set_option linter.unusedVariables false
noncomputable section
def RAllowed (sp : Value) (xs : List Ice) (m : Rates) : Prop :=
  (((decide ((400 : Int) < (((List.length xs) : Nat) : Int))) = true → (.tuple #[.bool false, .int .i64 2] : Value) = sp) ∧ ((decide ((400 : Int) < (((List.length xs) : Nat) : Int))) = false → (∃ r0 : Int, (((some (.cells false 0 (List.flatMap iceC xs) : KObj) = some (.cells false 0 (List.flatMap iceC xs) : KObj)) ∧ True) ∧ (∀ H' : Heap, H'.length = 2 → (H'[0]? = some (.cells false 0 (List.flatMap iceC xs) : KObj) ∧ True) → KCall prog 114 [.slice (some ⟨0, 0, some 2⟩) (List.length xs) (List.length xs), .func (.func 29) #[] #[]] H' [] (Is (.int .i64 r0) H')) ∧ (∃ r1 : Int, ((True) ∧ (∀ H' : Heap, H'.length = 2 → (True) → KCall prog 31 [.agg #[.int .i64 m.up.conc, .int .i64 m.up.thick, .int .i64 m.up.ridge, .int .i64 m.up.press, .int .i64 m.down.conc, .int .i64 m.down.thick, .int .i64 m.down.ridge, .int .i64 m.down.press]] H' [] (Is (.int .i64 r1) H')) ∧ ((((r0 : Int) != 0) = true → ((.bool ((r0 : Int) != 0) : Value) = .bool true ∧ (.tuple #[.bool false, .int .i64 r0] : Value) = sp)) ∧ (((r0 : Int) != 0) = false → ((((r1 : Int) != 0) = true → ((.bool ((r1 : Int) != 0) : Value) = .bool true ∧ (.tuple #[.bool false, .int .i64 r1] : Value) = sp)) ∧ (((r1 : Int) != 0) = false → (true = true ∧ (0 ≤ List.length xs ∧ upto xs m 0) ∧ (true = true ∧ ((.int .i64 0 : Value) = .int .i64 ((0 : Nat) : Int) ∧ wk (.slice (some ⟨0, 0, some 2⟩) (List.length xs) (List.length xs) : Value) (.slice (some ⟨0, 0, some 2⟩) (List.length xs) (List.length xs) : Value) ∧ (.pointer (some ⟨1, 0, none⟩) : Value) = .pointer (some ⟨1, 0, none⟩) ∧ wk (.slice (some ⟨0, 0, some 2⟩) (List.length xs) (List.length xs) : Value) (.slice (some ⟨0, 0, some 2⟩) (List.length xs) (List.length xs) : Value) ∧ (.int .i64 (((List.length xs) : Nat) : Int) : Value) = .int .i64 (((List.length xs) : Nat) : Int) ∧ True) ∧ (True) ∧ (True) ∧ (True)) ∧ (∀ x2 : Nat, true = true) ∧ ∀ x2 : Nat, (x2 ≤ List.length xs ∧ upto xs m x2) → (((decide ((((x2 : Nat) : Int) : Int) < (((List.length xs) : Nat) : Int))) = true → (((0 : Int) ≤ ((x2 : Nat) : Int) ∧ (((x2 : Nat) : Int) : Int) < (((List.length xs) : Nat) : Int)) ∧ ((partA 4 (List.flatMap iceC xs) (0 + Int.toNat ((x2 : Nat) : Int) * 4) = some (.agg #[.int .i64 (List.getD xs x2 zeroI).conc, .int .i64 (List.getD xs x2 zeroI).thick, .int .i64 (List.getD xs x2 zeroI).ridge, .int .i64 (List.getD xs x2 zeroI).press])) ∧ ((((false = false ∨ 0 = 0 ∨ 0 = 4) ∧ (Int.toNat ((x2 : Nat) : Int)) ≤ (List.length xs)) ∧ ((0 : Int) ≤ ((x2 : Nat) : Int) ∧ (((x2 : Nat) : Int) : Int) ≤ (((List.length xs) : Nat) : Int)) ∧ (0 ≤ (Int.toNat ((x2 : Nat) : Int)))) ∧ ((.slice (some ⟨0, 0, some 2⟩) ((Int.toNat ((x2 : Nat) : Int)) - 0) ((Int.toNat ((x2 : Nat) : Int)) - 0) : Value) = .slice (some ⟨0, 0, some 2⟩) x2 x2 ∧ (true = true ∧ (0 ≤ x2 ∧ row xs m x2 0) ∧ (true = true ∧ ((.int .i64 0 : Value) = .int .i64 ((0 : Nat) : Int) ∧ (.int .i64 (((List.length xs) : Nat) : Int) : Value) = .int .i64 (((List.length xs) : Nat) : Int) ∧ wk (.slice (some ⟨0, 0, some 2⟩) (List.length xs) (List.length xs) : Value) (.slice (some ⟨0, 0, some 2⟩) (List.length xs) (List.length xs) : Value) ∧ (.pointer (some ⟨1, 0, none⟩) : Value) = .pointer (some ⟨1, 0, none⟩) ∧ wk (.slice (some ⟨0, 0, some 2⟩) (List.length xs) (List.length xs) : Value) (.slice (some ⟨0, 0, some 2⟩) (List.length xs) (List.length xs) : Value) ∧ (.int .i64 ((x2 : Nat) : Int) : Value) = .int .i64 ((x2 : Nat) : Int) ∧ (.pointer (some ⟨3, 0, none⟩) : Value) = .pointer (some ⟨3, 0, none⟩) ∧ (.int .i64 ((x2 : Nat) : Int) : Value) = .int .i64 ((x2 : Nat) : Int) ∧ wk (.slice (some ⟨0, 0, some 2⟩) x2 x2 : Value) (.slice (some ⟨0, 0, some 2⟩) x2 x2 : Value) ∧ (.int .i64 ((x2 : Nat) : Int) : Value) = .int .i64 ((x2 : Nat) : Int) ∧ True) ∧ (True) ∧ (True) ∧ (True)) ∧ (∀ x3 : Nat, true = true) ∧ ∀ x3 : Nat, (x3 ≤ x2 ∧ row xs m x2 x3) → (((decide ((((x3 : Nat) : Int) : Int) < ((x2 : Nat) : Int))) = true → (((0 : Int) ≤ ((x3 : Nat) : Int) ∧ (((x3 : Nat) : Int) : Int) < ((x2 : Nat) : Int)) ∧ ((partA 4 (List.flatMap iceC xs) (0 + Int.toNat ((x3 : Nat) : Int) * 4) = some (.agg #[.int .i64 (List.getD xs x3 zeroI).conc, .int .i64 (List.getD xs x3 zeroI).thick, .int .i64 (List.getD xs x3 zeroI).ridge, .int .i64 (List.getD xs x3 zeroI).press])) ∧ ((.int .i64 (IntKind.wrap .i64 (((x2 : Nat) : Int) - ((x3 : Nat) : Int))) : Value) = .int .i64 (((x2 : Nat) : Int) - ((x3 : Nat) : Int)) ∧ (∃ r4 : Int, ((True) ∧ (∀ H' : Heap, H'.length = 15 → (True) → KCall prog 149 [.int .i64 m.down.conc, .int .i64 (((x2 : Nat) : Int) - ((x3 : Nat) : Int))] H' [] (Is (.int .i64 r4) H')) ∧ ((.int .i64 (IntKind.wrap .i64 ((List.getD xs x3 zeroI).conc - r4)) : Value) = .int .i64 ((List.getD xs x3 zeroI).conc - r4) ∧ (∃ y5 : Int, (.int .i64 (if (0 : Int) > ((List.getD xs x3 zeroI).conc - r4) then (0 : Int) else ((List.getD xs x3 zeroI).conc - r4)) : Value) = .int .i64 y5 ∧ (∃ r6 : Int, ((True) ∧ (∀ H' : Heap, H'.length = 15 → (True) → KCall prog 149 [.int .i64 m.up.conc, .int .i64 (((x2 : Nat) : Int) - ((x3 : Nat) : Int))] H' [] (Is (.int .i64 r6) H')) ∧ ((.int .i64 (IntKind.wrap .i64 ((List.getD xs x3 zeroI).conc + r6)) : Value) = .int .i64 ((List.getD xs x3 zeroI).conc + r6) ∧ (∃ y7 : Int, (.int .i64 (if (100 : Int) < ((List.getD xs x3 zeroI).conc + r6) then (100 : Int) else ((List.getD xs x3 zeroI).conc + r6)) : Value) = .int .i64 y7 ∧ (∃ r8 : Int, ((True) ∧ (∀ H' : Heap, H'.length = 15 → (True) → KCall prog 149 [.int .i64 m.down.thick, .int .i64 (((x2 : Nat) : Int) - ((x3 : Nat) : Int))] H' [] (Is (.int .i64 r8) H')) ∧ ((.int .i64 (IntKind.wrap .i64 ((List.getD xs x3 zeroI).thick - r8)) : Value) = .int .i64 ((List.getD xs x3 zeroI).thick - r8) ∧ (∃ y9 : Int, (.int .i64 (if (0 : Int) > ((List.getD xs x3 zeroI).thick - r8) then (0 : Int) else ((List.getD xs x3 zeroI).thick - r8)) : Value) = .int .i64 y9 ∧ (∃ r10 : Int, ((True) ∧ (∀ H' : Heap, H'.length = 15 → (True) → KCall prog 149 [.int .i64 m.up.thick, .int .i64 (((x2 : Nat) : Int) - ((x3 : Nat) : Int))] H' [] (Is (.int .i64 r10) H')) ∧ ((.int .i64 (IntKind.wrap .i64 ((List.getD xs x3 zeroI).thick + r10)) : Value) = .int .i64 ((List.getD xs x3 zeroI).thick + r10) ∧ (∃ y11 : Int, (.int .i64 (if (400 : Int) < ((List.getD xs x3 zeroI).thick + r10) then (400 : Int) else ((List.getD xs x3 zeroI).thick + r10)) : Value) = .int .i64 y11 ∧ (∃ r12 : Int, ((True) ∧ (∀ H' : Heap, H'.length = 15 → (True) → KCall prog 149 [.int .i64 m.down.ridge, .int .i64 (((x2 : Nat) : Int) - ((x3 : Nat) : Int))] H' [] (Is (.int .i64 r12) H')) ∧ ((.int .i64 (IntKind.wrap .i64 ((List.getD xs x3 zeroI).ridge - r12)) : Value) = .int .i64 ((List.getD xs x3 zeroI).ridge - r12) ∧ (∃ y13 : Int, (.int .i64 (if (0 : Int) > ((List.getD xs x3 zeroI).ridge - r12) then (0 : Int) else ((List.getD xs x3 zeroI).ridge - r12)) : Value) = .int .i64 y13 ∧ (∃ r14 : Int, ((True) ∧ (∀ H' : Heap, H'.length = 15 → (True) → KCall prog 149 [.int .i64 m.up.ridge, .int .i64 (((x2 : Nat) : Int) - ((x3 : Nat) : Int))] H' [] (Is (.int .i64 r14) H')) ∧ ((.int .i64 (IntKind.wrap .i64 ((List.getD xs x3 zeroI).ridge + r14)) : Value) = .int .i64 ((List.getD xs x3 zeroI).ridge + r14) ∧ (∃ y15 : Int, (.int .i64 (if (100 : Int) < ((List.getD xs x3 zeroI).ridge + r14) then (100 : Int) else ((List.getD xs x3 zeroI).ridge + r14)) : Value) = .int .i64 y15 ∧ (∃ r16 : Int, ((True) ∧ (∀ H' : Heap, H'.length = 15 → (True) → KCall prog 149 [.int .i64 m.down.press, .int .i64 (((x2 : Nat) : Int) - ((x3 : Nat) : Int))] H' [] (Is (.int .i64 r16) H')) ∧ ((.int .i64 (IntKind.wrap .i64 ((List.getD xs x3 zeroI).press - r16)) : Value) = .int .i64 ((List.getD xs x3 zeroI).press - r16) ∧ (∃ y17 : Int, (.int .i64 (if (0 : Int) > ((List.getD xs x3 zeroI).press - r16) then (0 : Int) else ((List.getD xs x3 zeroI).press - r16)) : Value) = .int .i64 y17 ∧ (∃ r18 : Int, ((True) ∧ (∀ H' : Heap, H'.length = 15 → (True) → KCall prog 149 [.int .i64 m.up.press, .int .i64 (((x2 : Nat) : Int) - ((x3 : Nat) : Int))] H' [] (Is (.int .i64 r18) H')) ∧ ((.int .i64 (IntKind.wrap .i64 ((List.getD xs x3 zeroI).press + r18)) : Value) = .int .i64 ((List.getD xs x3 zeroI).press + r18) ∧ (∃ y19 : Int, (.int .i64 (if (3 : Int) < ((List.getD xs x3 zeroI).press + r18) then (3 : Int) else ((List.getD xs x3 zeroI).press + r18)) : Value) = .int .i64 y19 ∧ (((decide ((y5 : Int) ≤ (List.getD xs x2 zeroI).conc)) = true → (((!(decide (((List.getD xs x2 zeroI).conc : Int) ≤ y7))) = true → (.tuple #[.bool false, .int .i64 0] : Value) = sp) ∧ ((!(decide (((List.getD xs x2 zeroI).conc : Int) ≤ y7))) = false → (((decide ((y9 : Int) ≤ (List.getD xs x2 zeroI).thick)) = true → (((!(decide (((List.getD xs x2 zeroI).thick : Int) ≤ y11))) = true → (.tuple #[.bool false, .int .i64 0] : Value) = sp) ∧ ((!(decide (((List.getD xs x2 zeroI).thick : Int) ≤ y11))) = false → (((decide ((y13 : Int) ≤ (List.getD xs x2 zeroI).ridge)) = true → (((!(decide (((List.getD xs x2 zeroI).ridge : Int) ≤ y15))) = true → (.tuple #[.bool false, .int .i64 0] : Value) = sp) ∧ ((!(decide (((List.getD xs x2 zeroI).ridge : Int) ≤ y15))) = false → (((decide ((y17 : Int) ≤ (List.getD xs x2 zeroI).press)) = true → (((!(decide (((List.getD xs x2 zeroI).press : Int) ≤ y19))) = true → (.tuple #[.bool false, .int .i64 0] : Value) = sp) ∧ ((!(decide (((List.getD xs x2 zeroI).press : Int) ≤ y19))) = false → ((.int .i64 (IntKind.wrap .i64 (((x3 : Nat) : Int) + 1)) : Value) = .int .i64 (((x3 : Nat) : Int) + 1) ∧ (∃ x3' : Nat, (x3' ≤ x2 ∧ row xs m x2 x3') ∧ (x2 - x3') < (x2 - x3) ∧ true = true ∧ ((.int .i64 (((x3 : Nat) : Int) + 1) : Value) = .int .i64 ((x3' : Nat) : Int) ∧ (.int .i64 (((List.length xs) : Nat) : Int) : Value) = .int .i64 (((List.length xs) : Nat) : Int) ∧ wk (.slice (some ⟨0, 0, some 2⟩) (List.length xs) (List.length xs) : Value) (.slice (some ⟨0, 0, some 2⟩) (List.length xs) (List.length xs) : Value) ∧ (.pointer (some ⟨1, 0, none⟩) : Value) = .pointer (some ⟨1, 0, none⟩) ∧ wk (.slice (some ⟨0, 0, some 2⟩) (List.length xs) (List.length xs) : Value) (.slice (some ⟨0, 0, some 2⟩) (List.length xs) (List.length xs) : Value) ∧ (.int .i64 ((x2 : Nat) : Int) : Value) = .int .i64 ((x2 : Nat) : Int) ∧ (.pointer (some ⟨3, 0, none⟩) : Value) = .pointer (some ⟨3, 0, none⟩) ∧ (.int .i64 ((x2 : Nat) : Int) : Value) = .int .i64 ((x2 : Nat) : Int) ∧ wk (.slice (some ⟨0, 0, some 2⟩) x2 x2 : Value) (.slice (some ⟨0, 0, some 2⟩) x2 x2 : Value) ∧ (.int .i64 ((x2 : Nat) : Int) : Value) = .int .i64 ((x2 : Nat) : Int) ∧ True) ∧ (True) ∧ (True) ∧ (True)))))) ∧ ((decide ((y17 : Int) ≤ (List.getD xs x2 zeroI).press)) = false → (.tuple #[.bool false, .int .i64 0] : Value) = sp))))) ∧ ((decide ((y13 : Int) ≤ (List.getD xs x2 zeroI).ridge)) = false → (.tuple #[.bool false, .int .i64 0] : Value) = sp))))) ∧ ((decide ((y9 : Int) ≤ (List.getD xs x2 zeroI).thick)) = false → (.tuple #[.bool false, .int .i64 0] : Value) = sp))))) ∧ ((decide ((y5 : Int) ≤ (List.getD xs x2 zeroI).conc)) = false → (.tuple #[.bool false, .int .i64 0] : Value) = sp)))))))))))))))))))))))))))))))))))))) ∧ ((decide ((((x3 : Nat) : Int) : Int) < ((x2 : Nat) : Int))) = false → ((.int .i64 (IntKind.wrap .i64 (((x2 : Nat) : Int) + 1)) : Value) = .int .i64 (((x2 : Nat) : Int) + 1) ∧ (∃ x2' : Nat, (x2' ≤ List.length xs ∧ upto xs m x2') ∧ (List.length xs - x2') < (List.length xs - x2) ∧ true = true ∧ ((.int .i64 (((x2 : Nat) : Int) + 1) : Value) = .int .i64 ((x2' : Nat) : Int) ∧ wk (.slice (some ⟨0, 0, some 2⟩) (List.length xs) (List.length xs) : Value) (.slice (some ⟨0, 0, some 2⟩) (List.length xs) (List.length xs) : Value) ∧ (.pointer (some ⟨1, 0, none⟩) : Value) = .pointer (some ⟨1, 0, none⟩) ∧ wk (.slice (some ⟨0, 0, some 2⟩) (List.length xs) (List.length xs) : Value) (.slice (some ⟨0, 0, some 2⟩) (List.length xs) (List.length xs) : Value) ∧ (.int .i64 (((List.length xs) : Nat) : Int) : Value) = .int .i64 (((List.length xs) : Nat) : Int) ∧ True) ∧ (True) ∧ (True) ∧ (True))))))))))) ∧ ((decide ((((x2 : Nat) : Int) : Int) < (((List.length xs) : Nat) : Int))) = false → (.tuple #[.bool true, .int .i64 0] : Value) = sp)))))))))))))
theorem EAllowed (sp : Value) (xs : List Ice) (m : Rates) : vF prog msk (dm 0) 100000 true 40 true 46 [.slice (some ⟨0, 0, some 2⟩) (List.length xs) (List.length xs), .agg #[.int .i64 m.up.conc, .int .i64 m.up.thick, .int .i64 m.up.ridge, .int .i64 m.up.press, .int .i64 m.down.conc, .int .i64 m.down.thick, .int .i64 m.down.ridge, .int .i64 m.down.press]] (readsT 0 [xs.flatMap iceC]) (some [])
  (.go 5 (.fork (.auto) (.go 1 (.bind (Int) (fun r0 => .ans [(0, .cells false 0 (List.flatMap iceC xs))] (.int .i64 r0) [] (.bind (Int) (fun r1 => .ans [] (.int .i64 r1) [] (.go 12 (.fork (.go 4 (.slot 22 (.bool true) (.auto))) (.go 8 (.fork (.go 4 (.slot 22 (.bool true) (.auto))) (.go 11 (.inv 3 (Nat) (0) [] [] (fun x2 => [(26, .int .i64 ((x2 : Nat) : Int)), (0, .slice (some ⟨0, 0, some 2⟩) (List.length xs) (List.length xs)), (3, .pointer (some ⟨1, 0, none⟩)), (24, .slice (some ⟨0, 0, some 2⟩) (List.length xs) (List.length xs)), (25, .int .i64 (((List.length xs) : Nat) : Int))]) (fun x2 => []) (fun x2 => []) (fun x2 => []) (fun x2 => (x2 ≤ List.length xs ∧ upto xs m x2)) (fun x2 => (List.length xs - x2)) (fun x2 => .go 0 (.fork (.go 0 (.need (.val (.agg #[.int .i64 (List.getD xs x2 zeroI).conc, .int .i64 (List.getD xs x2 zeroI).thick, .int .i64 (List.getD xs x2 zeroI).ridge, .int .i64 (List.getD xs x2 zeroI).press]) (.go 4 (.need (.slot 33 (.slice (some ⟨0, 0, some 2⟩) x2 x2) (.go 1 (.inv 3 (Nat) (0) [] [] (fun x3 => [(35, .int .i64 ((x3 : Nat) : Int)), (25, .int .i64 (((List.length xs) : Nat) : Int)), (24, .slice (some ⟨0, 0, some 2⟩) (List.length xs) (List.length xs)), (3, .pointer (some ⟨1, 0, none⟩)), (0, .slice (some ⟨0, 0, some 2⟩) (List.length xs) (List.length xs)), (26, .int .i64 ((x2 : Nat) : Int)), (8, .pointer (some ⟨3, 0, none⟩)), (7, .int .i64 ((x2 : Nat) : Int)), (33, .slice (some ⟨0, 0, some 2⟩) x2 x2), (34, .int .i64 ((x2 : Nat) : Int))]) (fun x3 => []) (fun x3 => []) (fun x3 => []) (fun x3 => (x3 ≤ x2 ∧ row xs m x2 x3)) (fun x3 => (x2 - x3)) (fun x3 => .go 0 (.fork (.go 0 (.need (.val (.agg #[.int .i64 (List.getD xs x3 zeroI).conc, .int .i64 (List.getD xs x3 zeroI).thick, .int .i64 (List.getD xs x3 zeroI).ridge, .int .i64 (List.getD xs x3 zeroI).press]) (.go 23 (.slot 47 (.int .i64 (((x2 : Nat) : Int) - ((x3 : Nat) : Int))) (.go 162 (.bind (Int) (fun r4 => .ans [] (.int .i64 r4) [] (.go 0 (.slot 16 (.int .i64 ((List.getD xs x3 zeroI).conc - r4)) (.go 0 (.bind Int (fun y5 => .slot 17 (.int .i64 y5) (.bind (Int) (fun r6 => .ans [] (.int .i64 r6) [] (.go 0 (.slot 27 (.int .i64 ((List.getD xs x3 zeroI).conc + r6)) (.go 5 (.bind Int (fun y7 => .slot 31 (.int .i64 y7) (.go 31 (.bind (Int) (fun r8 => .ans [] (.int .i64 r8) [] (.go 0 (.slot 16 (.int .i64 ((List.getD xs x3 zeroI).thick - r8)) (.go 0 (.bind Int (fun y9 => .slot 17 (.int .i64 y9) (.bind (Int) (fun r10 => .ans [] (.int .i64 r10) [] (.go 0 (.slot 27 (.int .i64 ((List.getD xs x3 zeroI).thick + r10)) (.go 5 (.bind Int (fun y11 => .slot 31 (.int .i64 y11) (.go 31 (.bind (Int) (fun r12 => .ans [] (.int .i64 r12) [] (.go 0 (.slot 16 (.int .i64 ((List.getD xs x3 zeroI).ridge - r12)) (.go 0 (.bind Int (fun y13 => .slot 17 (.int .i64 y13) (.bind (Int) (fun r14 => .ans [] (.int .i64 r14) [] (.go 0 (.slot 27 (.int .i64 ((List.getD xs x3 zeroI).ridge + r14)) (.go 5 (.bind Int (fun y15 => .slot 31 (.int .i64 y15) (.go 31 (.bind (Int) (fun r16 => .ans [] (.int .i64 r16) [] (.go 0 (.slot 16 (.int .i64 ((List.getD xs x3 zeroI).press - r16)) (.go 0 (.bind Int (fun y17 => .slot 17 (.int .i64 y17) (.bind (Int) (fun r18 => .ans [] (.int .i64 r18) [] (.go 0 (.slot 27 (.int .i64 ((List.getD xs x3 zeroI).press + r18)) (.go 5 (.bind Int (fun y19 => .slot 31 (.int .i64 y19) (.go 63 (.gfork (.go 6 (.fork (.auto) (.go 26 (.gfork (.go 6 (.fork (.auto) (.go 26 (.gfork (.go 6 (.fork (.auto) (.go 26 (.gfork (.go 6 (.fork (.auto) (.go 8 (.slot 52 (.int .i64 (((x3 : Nat) : Int) + 1)) (.go 0 (.again [])))))) (.auto))))) (.auto))))) (.auto))))) (.auto)))))))))))))))))))))))))))))))))))))))))))))))))))))))))))))))))))) (.go 0 (.slot 53 (.int .i64 (((x2 : Nat) : Int) + 1)) (.go 0 (.again [])))))))))))))) (.auto))))))))))))))))
  (fun v _ _ => v = sp) = RAllowed sp xs m := by kernel_rfl
end
end Go.Proofs.YthcjliffpebjaaaGreat
/- Ice: which courses are allowed: the layer's answer. No condition. -/
namespace Go.Proofs.YthcjliffpebjaaaGreat
open Go Go.K
set_option maxRecDepth 100000
set_option linter.unusedVariables false
set_option linter.unusedSimpArgs false
noncomputable section
attribute [local irreducible] vF
theorem nameI {t : Int} {Q : Int → Prop} (h : ∀ y, y = t → Q y) : ∃ y : Int, (Value.int .i64 t) = .int .i64 y ∧ Q y := ⟨t, rfl, h t rfl⟩
theorem nd1 {p : Prop} [Decidable p] (h : (!decide p) = true) : ¬ p := by simpa using h
theorem nd2 {p : Prop} [Decidable p] (h : (!decide p) = false) : p := by simpa using h
theorem errs_zero {α : Type} {e : α → Int} : ∀ {xs : List α}, errs e xs = 0 → ∀ x ∈ xs, e x = 0
  | [], _, x, h => by cases h
  | y :: r, he, x, h => by
    unfold errs at he
    split at he
    · rename_i h0
      rcases List.mem_cons.1 h with rfl | h
      · exact h0
      · exact errs_zero he x h
    · rename_i h0; exact absurd he h0
theorem getD_mem {α : Type} {xs : List α} {d : α} {k : Nat} (h : k < xs.length) : xs.getD k d ∈ xs := by
  rw [List.getD_eq_getElem?_getD, List.getElem?_eq_getElem h]; exact List.getElem_mem h
theorem upto_succ {xs : List Ice} {m : Rates} {n : Nat} (h : upto xs m n) (hr : row xs m n n) : upto xs m (n + 1) := by
  intro t ht
  rcases Nat.lt_or_ge t n with h1 | h1
  · exact h t h1
  · obtain rfl : t = n := by omega
    exact hr
theorem row_succ {xs : List Ice} {m : Rates} {t n : Nat} (h : row xs m t n) (hp : pairI m (xs.getD n zeroI) (xs.getD t zeroI) ((t : Int) - (n : Int))) : row xs m t (n + 1) := by
  intro s hs
  rcases Nat.lt_or_ge s n with h1 | h1
  · exact h s h1
  · obtain rfl : s = n := by omega
    exact hp
theorem fAllowed_1 {xs : List Ice} {m : Rates} (h : 400 < xs.length) : fAllowed xs m = (false, 2) := by unfold fAllowed; rw [if_pos h]
theorem fAllowed_2 {xs : List Ice} {m : Rates} (h : ¬ 400 < xs.length) (h1 : ¬ errs errIce xs = 0) : fAllowed xs m = (false, errs errIce xs) := by unfold fAllowed; rw [if_neg h, first2_1 h1, if_neg h1]
theorem fAllowed_3 {xs : List Ice} {m : Rates} (h : ¬ 400 < xs.length) (h1 : errs errIce xs = 0) (h2 : ¬ errRates m = 0) : fAllowed xs m = (false, errRates m) := by unfold fAllowed; rw [if_neg h, first2_2 h1, if_neg h2]
theorem fAllowed_4 {xs : List Ice} {m : Rates} (h : ¬ 400 < xs.length) (h1 : errs errIce xs = 0) (h2 : errRates m = 0) (h3 : ¬ upto xs m xs.length) : fAllowed xs m = (false, 0) := by
  unfold fAllowed; rw [if_neg h, first2_2 h1, if_pos h2]; simp [h3]
theorem fAllowed_5 {xs : List Ice} {m : Rates} (h : ¬ 400 < xs.length) (h1 : errs errIce xs = 0) (h2 : errRates m = 0) (h3 : upto xs m xs.length) : fAllowed xs m = (true, 0) := by
  unfold fAllowed; rw [if_neg h, first2_2 h1, if_pos h2]; simp [h3]
theorem kAllowed (xs : List Ice) (m : Rates) (hn : xs.length ≤ 2 ^ 30) {H : Heap} {id : Nat} {own : Bool} {z : Nat} (hid : H[id]? = some (.cells own z (xs.flatMap iceC))) :
    KCall prog F.ice_Allowed [.slice (some ⟨id, 0, some 2⟩) xs.length xs.length, ratesV m] H [] (Is (.tuple #[.bool (fAllowed xs m).1, .int .i64 (fAllowed xs m).2]) H) := by
  refine valR (Eq.mpr (EAllowed _ xs m) ?_) (one_cs (plain_flat (fun _ => rfl) xs)) rfl [id] rfl (one_id hid)
  unfold RAllowed
  refine ⟨fun h => tupB (fAllowed_1 (by have := of_decide_eq_true h; omega)), fun h => ?_⟩
  have h0 : ¬ 400 < xs.length := by have := of_decide_eq_false h; omega
  refine ⟨_, ⟨rfl, trivial⟩, fun H' _ hd => kwrongI xs hn hd.1, _, trivial, fun H' _ _ => kCheckRates m H', fun g => ⟨vbool g, tupB (fAllowed_2 h0 (by simpa using g))⟩, fun g => ⟨fun g2 => ⟨vbool g2, tupB (fAllowed_3 h0 (by simpa using g) (by simpa using g2))⟩, fun g2 => ?_⟩⟩
  have k0 : errs errIce xs = 0 := by simpa using g
  have k1 : errRates m = 0 := by simpa using g2
  obtain ⟨⟨u1, u2, u3, u4⟩, d1, d2, d3, d4⟩ := errRates_iff.1 k1
  refine ⟨rfl, ⟨Nat.zero_le _, fun t ht => absurd ht (Nat.not_lt_zero _)⟩, ⟨rfl, ⟨rfl, wk_refl _, rfl, wk_refl _, rfl, trivial⟩, trivial, trivial, trivial⟩, fun _ => rfl, ?_⟩
  rintro t ⟨ht, hu⟩
  refine ⟨fun h => ?_, fun h => ?_⟩
  · have hlt : t < xs.length := by have := of_decide_eq_true h; omega
    refine ⟨⟨by omega, by omega⟩, partIce hlt, ⟨⟨.inl rfl, by rw [Int.toNat_natCast]; omega⟩, ⟨by omega, by omega⟩, Nat.zero_le _⟩, by simp, rfl, ⟨Nat.zero_le _, fun s hs => absurd hs (Nat.not_lt_zero _)⟩, ⟨rfl, ⟨rfl, rfl, wk_refl _, rfl, wk_refl _, rfl, rfl, rfl, wk_refl _, rfl, trivial⟩, trivial, trivial, trivial⟩, fun _ => rfl, ?_⟩
    rintro s ⟨hs, hr⟩
    refine ⟨fun h => ?_, fun h => ?_⟩
    · have hst : s < t := by have := of_decide_eq_true h; omega
      have hh : (0 : Int) ≤ (t : Int) - (s : Int) ∧ (t : Int) - (s : Int) ≤ 10000 := by omega
      refine ⟨⟨by omega, by omega⟩, partIce (by omega), v64 (by omega), ?_⟩
      obtain ⟨i1, i2, i3, i4⟩ := errIce_iff.1 (errs_zero k0 _ (getD_mem (d := zeroI) (show s < xs.length by omega)))
      obtain ⟨j1, j2, j3, j4⟩ := errIce_iff.1 (errs_zero k0 _ (getD_mem (d := zeroI) hlt))
      have bd := fun (r : Int) (hr : 0 ≤ r ∧ r ≤ 1000) => chg_bd hr hh
      have b1 := bd _ d1
      have b2 := bd _ u1
      refine ⟨_, trivial, fun H' _ _ => kchange _ _ d1 hh H', v64 (by omega), nameI fun y1 f1 => ⟨_, trivial, fun H' _ _ => kchange _ _ u1 hh H', v64 (by omega), nameI fun y2 f2 => ?_⟩⟩
      have b3 := bd _ d2
      have b4 := bd _ u2
      refine ⟨_, trivial, fun H' _ _ => kchange _ _ d2 hh H', v64 (by omega), nameI fun y3 f3 => ⟨_, trivial, fun H' _ _ => kchange _ _ u2 hh H', v64 (by omega), nameI fun y4 f4 => ?_⟩⟩
      have b5 := bd _ d3
      have b6 := bd _ u3
      refine ⟨_, trivial, fun H' _ _ => kchange _ _ d3 hh H', v64 (by omega), nameI fun y5 f5 => ⟨_, trivial, fun H' _ _ => kchange _ _ u3 hh H', v64 (by omega), nameI fun y6 f6 => ?_⟩⟩
      have b7 := bd _ d4
      have b8 := bd _ u4
      refine ⟨_, trivial, fun H' _ _ => kchange _ _ d4 hh H', v64 (by omega), nameI fun y7 f7 => ⟨_, trivial, fun H' _ _ => kchange _ _ u4 hh H', v64 (by omega), nameI fun y8 f8 => ?_⟩⟩
      have bad : ¬ pairI m (xs.getD s zeroI) (xs.getD t zeroI) ((t : Int) - (s : Int)) → (Value.tuple #[.bool false, .int .i64 0]) = .tuple #[.bool (fAllowed xs m).1, .int .i64 (fAllowed xs m).2] := fun hb => tupB (fAllowed_4 h0 k0 k1 (fun hu' => hb (hu' t hlt s hst)))
      refine ⟨fun c1 => ⟨fun c2 => bad (fun q => by have q := q.1; replace c2 := nd1 c2; split at f2 <;> omega), fun c2 => ?_⟩, fun c1 => bad (fun q => by have q := q.1; have := of_decide_eq_false c1; split at f1 <;> omega)⟩
      replace c1 := of_decide_eq_true c1
      replace c2 : (xs.getD t zeroI).conc ≤ y2 := nd2 c2
      have p1 : (xs.getD s zeroI).conc - chg m.down.conc ((t : Int) - (s : Int)) ≤ (xs.getD t zeroI).conc ∧ (xs.getD t zeroI).conc ≤ (xs.getD s zeroI).conc + chg m.up.conc ((t : Int) - (s : Int)) := by
        split at f1 <;> split at f2 <;> omega
      refine ⟨fun c3 => ⟨fun c4 => bad (fun q => by have q := q.2.1; replace c4 := nd1 c4; split at f4 <;> omega), fun c4 => ?_⟩, fun c3 => bad (fun q => by have q := q.2.1; have := of_decide_eq_false c3; split at f3 <;> omega)⟩
      replace c3 := of_decide_eq_true c3
      replace c4 : (xs.getD t zeroI).thick ≤ y4 := nd2 c4
      have p2 : (xs.getD s zeroI).thick - chg m.down.thick ((t : Int) - (s : Int)) ≤ (xs.getD t zeroI).thick ∧ (xs.getD t zeroI).thick ≤ (xs.getD s zeroI).thick + chg m.up.thick ((t : Int) - (s : Int)) := by
        split at f3 <;> split at f4 <;> omega
      refine ⟨fun c5 => ⟨fun c6 => bad (fun q => by have q := q.2.2.1; replace c6 := nd1 c6; split at f6 <;> omega), fun c6 => ?_⟩, fun c5 => bad (fun q => by have q := q.2.2.1; have := of_decide_eq_false c5; split at f5 <;> omega)⟩
      replace c5 := of_decide_eq_true c5
      replace c6 : (xs.getD t zeroI).ridge ≤ y6 := nd2 c6
      have p3 : (xs.getD s zeroI).ridge - chg m.down.ridge ((t : Int) - (s : Int)) ≤ (xs.getD t zeroI).ridge ∧ (xs.getD t zeroI).ridge ≤ (xs.getD s zeroI).ridge + chg m.up.ridge ((t : Int) - (s : Int)) := by
        split at f5 <;> split at f6 <;> omega
      refine ⟨fun c7 => ⟨fun c8 => bad (fun q => by have q := q.2.2.2; replace c8 := nd1 c8; split at f8 <;> omega), fun c8 => ?_⟩, fun c7 => bad (fun q => by have q := q.2.2.2; have := of_decide_eq_false c7; split at f7 <;> omega)⟩
      replace c7 := of_decide_eq_true c7
      replace c8 : (xs.getD t zeroI).press ≤ y8 := nd2 c8
      have p4 : (xs.getD s zeroI).press - chg m.down.press ((t : Int) - (s : Int)) ≤ (xs.getD t zeroI).press ∧ (xs.getD t zeroI).press ≤ (xs.getD s zeroI).press + chg m.up.press ((t : Int) - (s : Int)) := by
        split at f7 <;> split at f8 <;> omega
      exact ⟨v64 (by omega), s + 1, ⟨hst, row_succ hr ⟨p1, p2, p3, p4⟩⟩, by omega, rfl, ⟨i64_eq (by omega), rfl, wk_refl _, rfl, wk_refl _, rfl, rfl, rfl, wk_refl _, rfl, trivial⟩, trivial, trivial, trivial⟩
    · obtain rfl : s = t := by have := of_decide_eq_false h; omega
      exact ⟨v64 (by omega), s + 1, ⟨hlt, upto_succ hu hr⟩, by omega, rfl, ⟨i64_eq (by omega), wk_refl _, rfl, wk_refl _, rfl, trivial⟩, trivial, trivial, trivial⟩
  · obtain rfl : t = xs.length := by have := of_decide_eq_false h; omega
    exact tupB (fAllowed_5 h0 k0 k1 hu)
end
end Go.Proofs.YthcjliffpebjaaaGreat
/- Ice: allowed courses, read from the earlier hour. No condition. -/
namespace Go.Proofs.YthcjliffpebjaaaGreat
set_option linter.unusedSimpArgs false
set_option linter.unusedVariables false
open Go Go.K
noncomputable section
def rowR (xs : List Ice) (m : Rates) (s n : Nat) : Prop := ∀ t, s < t → t < n → pairI m (xs.getD s zeroI) (xs.getD t zeroI) ((t : Int) - (s : Int))
def uptoR (xs : List Ice) (m : Rates) (n : Nat) : Prop := ∀ s, s < n → rowR xs m s xs.length
theorem uptoR_all {xs : List Ice} {m : Rates} : uptoR xs m xs.length ↔ upto xs m xs.length := by
  constructor
  · intro h t ht s hs; exact h s (by omega) t hs ht
  · intro h s _ t h1 h2; exact h t h2 s h1
end
end Go.Proofs.YthcjliffpebjaaaGreat
/- What is to be shown of functions. Printed by a program. No condition. -/
namespace Go.Proofs.YthcjliffpebjaaaGreat
set_option linter.unusedSimpArgs false
open Go Go.K
set_option maxRecDepth 100000
set_option linter.unusedVariables false
noncomputable section
def RrAllowed (sp : Value) (xs : List Ice) (m : Rates) : Prop :=
  (((decide ((400 : Int) < (((List.length xs) : Nat) : Int))) = true → (.tuple #[.bool false, .int .i64 2] : Value) = sp) ∧ ((decide ((400 : Int) < (((List.length xs) : Nat) : Int))) = false → (true = true ∧ (0 ≤ List.length xs ∧ errs errIce xs = errs errIce (List.drop 0 xs)) ∧ (true = true ∧ ((.int .i64 0 : Value) = .int .i64 ((0 : Nat) : Int) ∧ wk (.slice (some ⟨0, 0, some 2⟩) (List.length xs) (List.length xs) : Value) (.slice (some ⟨0, 0, some 2⟩) (List.length xs) (List.length xs) : Value) ∧ (.pointer (some ⟨1, 0, none⟩) : Value) = .pointer (some ⟨1, 0, none⟩) ∧ True) ∧ (True) ∧ (True) ∧ (True)) ∧ (∀ x0 : Nat, true = true) ∧ ∀ x0 : Nat, (x0 ≤ List.length xs ∧ errs errIce xs = errs errIce (List.drop x0 xs)) → (((decide ((((x0 : Nat) : Int) : Int) < (((List.length xs) : Nat) : Int))) = true → (((0 : Int) ≤ ((x0 : Nat) : Int) ∧ (((x0 : Nat) : Int) : Int) < (((List.length xs) : Nat) : Int)) ∧ ((partA 4 (List.flatMap iceC xs) (0 + Int.toNat ((x0 : Nat) : Int) * 4) = some (.agg #[.int .i64 (List.getD xs x0 zeroI).conc, .int .i64 (List.getD xs x0 zeroI).thick, .int .i64 (List.getD xs x0 zeroI).ridge, .int .i64 (List.getD xs x0 zeroI).press])) ∧ (∃ r1 : Int, ((True) ∧ (∀ H' : Heap, H'.length = 2 → (True) → KCall prog 30 [.agg #[.int .i64 (List.getD xs x0 zeroI).conc, .int .i64 (List.getD xs x0 zeroI).thick, .int .i64 (List.getD xs x0 zeroI).ridge, .int .i64 (List.getD xs x0 zeroI).press]] H' [] (Is (.int .i64 r1) H')) ∧ ((((r1 : Int) != 0) = true → (.tuple #[.bool false, .int .i64 r1] : Value) = sp) ∧ (((r1 : Int) != 0) = false → ((.int .i64 (IntKind.wrap .i64 (((x0 : Nat) : Int) + 1)) : Value) = .int .i64 (((x0 : Nat) : Int) + 1) ∧ (∃ x0' : Nat, (x0' ≤ List.length xs ∧ errs errIce xs = errs errIce (List.drop x0' xs)) ∧ (List.length xs - x0') < (List.length xs - x0) ∧ true = true ∧ ((.int .i64 (((x0 : Nat) : Int) + 1) : Value) = .int .i64 ((x0' : Nat) : Int) ∧ wk (.slice (some ⟨0, 0, some 2⟩) (List.length xs) (List.length xs) : Value) (.slice (some ⟨0, 0, some 2⟩) (List.length xs) (List.length xs) : Value) ∧ (.pointer (some ⟨1, 0, none⟩) : Value) = .pointer (some ⟨1, 0, none⟩) ∧ True) ∧ (True) ∧ (True) ∧ (True)))))))))) ∧ ((decide ((((x0 : Nat) : Int) : Int) < (((List.length xs) : Nat) : Int))) = false → (∃ r1 : Int, ((True) ∧ (∀ H' : Heap, H'.length = 2 → (True) → KCall prog 32 [.agg #[.int .i64 m.up.conc, .int .i64 m.up.thick, .int .i64 m.up.ridge, .int .i64 m.up.press, .int .i64 m.down.conc, .int .i64 m.down.thick, .int .i64 m.down.ridge, .int .i64 m.down.press]] H' [] (Is (.int .i64 r1) H')) ∧ ((((r1 : Int) != 0) = true → (.tuple #[.bool false, .int .i64 r1] : Value) = sp) ∧ (((r1 : Int) != 0) = false → (true = true ∧ (0 ≤ List.length xs ∧ uptoR xs m 0) ∧ (true = true ∧ ((.int .i64 0 : Value) = .int .i64 ((0 : Nat) : Int) ∧ (.pointer (some ⟨1, 0, none⟩) : Value) = .pointer (some ⟨1, 0, none⟩) ∧ wk (.slice (some ⟨0, 0, some 2⟩) (List.length xs) (List.length xs) : Value) (.slice (some ⟨0, 0, some 2⟩) (List.length xs) (List.length xs) : Value) ∧ True) ∧ (True) ∧ (True) ∧ (True)) ∧ (∀ x2 : Nat, true = true) ∧ ∀ x2 : Nat, (x2 ≤ List.length xs ∧ uptoR xs m x2) → (((decide ((((x2 : Nat) : Int) : Int) < (((List.length xs) : Nat) : Int))) = true → ((.int .i64 (IntKind.wrap .i64 (((x2 : Nat) : Int) + 1)) : Value) = .int .i64 (((x2 : Nat) : Int) + 1) ∧ (true = true ∧ (x2 + 1 + 0 ≤ List.length xs ∧ rowR xs m x2 (x2 + 1 + 0)) ∧ (true = true ∧ ((.int .i64 (((x2 : Nat) : Int) + 1) : Value) = .int .i64 (((x2 + 1 + 0) : Nat) : Int) ∧ wk (.slice (some ⟨0, 0, some 2⟩) (List.length xs) (List.length xs) : Value) (.slice (some ⟨0, 0, some 2⟩) (List.length xs) (List.length xs) : Value) ∧ (.pointer (some ⟨1, 0, none⟩) : Value) = .pointer (some ⟨1, 0, none⟩) ∧ (.int .i64 ((x2 : Nat) : Int) : Value) = .int .i64 ((x2 : Nat) : Int) ∧ True) ∧ (True) ∧ (True) ∧ (True)) ∧ (∀ x3 : Nat, true = true) ∧ ∀ x3 : Nat, (x2 + 1 + x3 ≤ List.length xs ∧ rowR xs m x2 (x2 + 1 + x3)) → (((decide (((((x2 + 1 + x3) : Nat) : Int) : Int) < (((List.length xs) : Nat) : Int))) = true → (((0 : Int) ≤ (((x2 + 1 + x3) : Nat) : Int) ∧ ((((x2 + 1 + x3) : Nat) : Int) : Int) < (((List.length xs) : Nat) : Int)) ∧ ((partA 4 (List.flatMap iceC xs) (0 + Int.toNat (((x2 + 1 + x3) : Nat) : Int) * 4) = some (.agg #[.int .i64 (List.getD xs (x2 + 1 + x3) zeroI).conc, .int .i64 (List.getD xs (x2 + 1 + x3) zeroI).thick, .int .i64 (List.getD xs (x2 + 1 + x3) zeroI).ridge, .int .i64 (List.getD xs (x2 + 1 + x3) zeroI).press])) ∧ (((0 : Int) ≤ ((x2 : Nat) : Int) ∧ (((x2 : Nat) : Int) : Int) < (((List.length xs) : Nat) : Int)) ∧ ((partA 4 (List.flatMap iceC xs) (0 + Int.toNat ((x2 : Nat) : Int) * 4) = some (.agg #[.int .i64 (List.getD xs x2 zeroI).conc, .int .i64 (List.getD xs x2 zeroI).thick, .int .i64 (List.getD xs x2 zeroI).ridge, .int .i64 (List.getD xs x2 zeroI).press])) ∧ ((.int .i64 (IntKind.wrap .i64 ((List.getD xs (x2 + 1 + x3) zeroI).conc - (List.getD xs x2 zeroI).conc)) : Value) = .int .i64 ((List.getD xs (x2 + 1 + x3) zeroI).conc - (List.getD xs x2 zeroI).conc) ∧ (∃ y4 : Int, (.int .i64 ((List.getD xs (x2 + 1 + x3) zeroI).conc - (List.getD xs x2 zeroI).conc) : Value) = .int .i64 y4 ∧ ((.int .i64 (IntKind.wrap .i64 ((((x2 + 1 + x3) : Nat) : Int) - ((x2 : Nat) : Int))) : Value) = .int .i64 ((((x2 + 1 + x3) : Nat) : Int) - ((x2 : Nat) : Int)) ∧ (∃ y5 : Int, (.int .i64 ((((x2 + 1 + x3) : Nat) : Int) - ((x2 : Nat) : Int)) : Value) = .int .i64 y5 ∧ (∃ r6 : Int, ((True) ∧ (∀ H' : Heap, H'.length = 2 → (True) → KCall prog 117 [.int .i64 m.up.conc, .int .i64 y5] H' [] (Is (.int .i64 r6) H')) ∧ (((decide ((r6 : Int) < y4)) = true → (.tuple #[.bool false, .int .i64 0] : Value) = sp) ∧ ((decide ((r6 : Int) < y4)) = false → ((.int .i64 (IntKind.wrap .i64 (0 - y4)) : Value) = .int .i64 (0 - y4) ∧ ((.int .i64 (IntKind.wrap .i64 ((((x2 + 1 + x3) : Nat) : Int) - ((x2 : Nat) : Int))) : Value) = .int .i64 ((((x2 + 1 + x3) : Nat) : Int) - ((x2 : Nat) : Int)) ∧ (∃ y7 : Int, (.int .i64 ((((x2 + 1 + x3) : Nat) : Int) - ((x2 : Nat) : Int)) : Value) = .int .i64 y7 ∧ (∃ r8 : Int, ((True) ∧ (∀ H' : Heap, H'.length = 2 → (True) → KCall prog 117 [.int .i64 m.down.conc, .int .i64 y7] H' [] (Is (.int .i64 r8) H')) ∧ (((decide ((r8 : Int) < (0 - y4))) = true → (.tuple #[.bool false, .int .i64 0] : Value) = sp) ∧ ((decide ((r8 : Int) < (0 - y4))) = false → (((0 : Int) ≤ (((x2 + 1 + x3) : Nat) : Int) ∧ ((((x2 + 1 + x3) : Nat) : Int) : Int) < (((List.length xs) : Nat) : Int)) ∧ ((partA 4 (List.flatMap iceC xs) (0 + Int.toNat (((x2 + 1 + x3) : Nat) : Int) * 4) = some (.agg #[.int .i64 (List.getD xs (x2 + 1 + x3) zeroI).conc, .int .i64 (List.getD xs (x2 + 1 + x3) zeroI).thick, .int .i64 (List.getD xs (x2 + 1 + x3) zeroI).ridge, .int .i64 (List.getD xs (x2 + 1 + x3) zeroI).press])) ∧ (((0 : Int) ≤ ((x2 : Nat) : Int) ∧ (((x2 : Nat) : Int) : Int) < (((List.length xs) : Nat) : Int)) ∧ ((partA 4 (List.flatMap iceC xs) (0 + Int.toNat ((x2 : Nat) : Int) * 4) = some (.agg #[.int .i64 (List.getD xs x2 zeroI).conc, .int .i64 (List.getD xs x2 zeroI).thick, .int .i64 (List.getD xs x2 zeroI).ridge, .int .i64 (List.getD xs x2 zeroI).press])) ∧ ((.int .i64 (IntKind.wrap .i64 ((List.getD xs (x2 + 1 + x3) zeroI).thick - (List.getD xs x2 zeroI).thick)) : Value) = .int .i64 ((List.getD xs (x2 + 1 + x3) zeroI).thick - (List.getD xs x2 zeroI).thick) ∧ (∃ y9 : Int, (.int .i64 ((List.getD xs (x2 + 1 + x3) zeroI).thick - (List.getD xs x2 zeroI).thick) : Value) = .int .i64 y9 ∧ ((.int .i64 (IntKind.wrap .i64 ((((x2 + 1 + x3) : Nat) : Int) - ((x2 : Nat) : Int))) : Value) = .int .i64 ((((x2 + 1 + x3) : Nat) : Int) - ((x2 : Nat) : Int)) ∧ (∃ y10 : Int, (.int .i64 ((((x2 + 1 + x3) : Nat) : Int) - ((x2 : Nat) : Int)) : Value) = .int .i64 y10 ∧ (∃ r11 : Int, ((True) ∧ (∀ H' : Heap, H'.length = 2 → (True) → KCall prog 117 [.int .i64 m.up.thick, .int .i64 y10] H' [] (Is (.int .i64 r11) H')) ∧ (((decide ((r11 : Int) < y9)) = true → (.tuple #[.bool false, .int .i64 0] : Value) = sp) ∧ ((decide ((r11 : Int) < y9)) = false → ((.int .i64 (IntKind.wrap .i64 (0 - y9)) : Value) = .int .i64 (0 - y9) ∧ ((.int .i64 (IntKind.wrap .i64 ((((x2 + 1 + x3) : Nat) : Int) - ((x2 : Nat) : Int))) : Value) = .int .i64 ((((x2 + 1 + x3) : Nat) : Int) - ((x2 : Nat) : Int)) ∧ (∃ y12 : Int, (.int .i64 ((((x2 + 1 + x3) : Nat) : Int) - ((x2 : Nat) : Int)) : Value) = .int .i64 y12 ∧ (∃ r13 : Int, ((True) ∧ (∀ H' : Heap, H'.length = 2 → (True) → KCall prog 117 [.int .i64 m.down.thick, .int .i64 y12] H' [] (Is (.int .i64 r13) H')) ∧ (((decide ((r13 : Int) < (0 - y9))) = true → (.tuple #[.bool false, .int .i64 0] : Value) = sp) ∧ ((decide ((r13 : Int) < (0 - y9))) = false → (((0 : Int) ≤ (((x2 + 1 + x3) : Nat) : Int) ∧ ((((x2 + 1 + x3) : Nat) : Int) : Int) < (((List.length xs) : Nat) : Int)) ∧ ((partA 4 (List.flatMap iceC xs) (0 + Int.toNat (((x2 + 1 + x3) : Nat) : Int) * 4) = some (.agg #[.int .i64 (List.getD xs (x2 + 1 + x3) zeroI).conc, .int .i64 (List.getD xs (x2 + 1 + x3) zeroI).thick, .int .i64 (List.getD xs (x2 + 1 + x3) zeroI).ridge, .int .i64 (List.getD xs (x2 + 1 + x3) zeroI).press])) ∧ (((0 : Int) ≤ ((x2 : Nat) : Int) ∧ (((x2 : Nat) : Int) : Int) < (((List.length xs) : Nat) : Int)) ∧ ((partA 4 (List.flatMap iceC xs) (0 + Int.toNat ((x2 : Nat) : Int) * 4) = some (.agg #[.int .i64 (List.getD xs x2 zeroI).conc, .int .i64 (List.getD xs x2 zeroI).thick, .int .i64 (List.getD xs x2 zeroI).ridge, .int .i64 (List.getD xs x2 zeroI).press])) ∧ ((.int .i64 (IntKind.wrap .i64 ((List.getD xs (x2 + 1 + x3) zeroI).ridge - (List.getD xs x2 zeroI).ridge)) : Value) = .int .i64 ((List.getD xs (x2 + 1 + x3) zeroI).ridge - (List.getD xs x2 zeroI).ridge) ∧ (∃ y14 : Int, (.int .i64 ((List.getD xs (x2 + 1 + x3) zeroI).ridge - (List.getD xs x2 zeroI).ridge) : Value) = .int .i64 y14 ∧ ((.int .i64 (IntKind.wrap .i64 ((((x2 + 1 + x3) : Nat) : Int) - ((x2 : Nat) : Int))) : Value) = .int .i64 ((((x2 + 1 + x3) : Nat) : Int) - ((x2 : Nat) : Int)) ∧ (∃ y15 : Int, (.int .i64 ((((x2 + 1 + x3) : Nat) : Int) - ((x2 : Nat) : Int)) : Value) = .int .i64 y15 ∧ (∃ r16 : Int, ((True) ∧ (∀ H' : Heap, H'.length = 2 → (True) → KCall prog 117 [.int .i64 m.up.ridge, .int .i64 y15] H' [] (Is (.int .i64 r16) H')) ∧ (((decide ((r16 : Int) < y14)) = true → (.tuple #[.bool false, .int .i64 0] : Value) = sp) ∧ ((decide ((r16 : Int) < y14)) = false → ((.int .i64 (IntKind.wrap .i64 (0 - y14)) : Value) = .int .i64 (0 - y14) ∧ ((.int .i64 (IntKind.wrap .i64 ((((x2 + 1 + x3) : Nat) : Int) - ((x2 : Nat) : Int))) : Value) = .int .i64 ((((x2 + 1 + x3) : Nat) : Int) - ((x2 : Nat) : Int)) ∧ (∃ y17 : Int, (.int .i64 ((((x2 + 1 + x3) : Nat) : Int) - ((x2 : Nat) : Int)) : Value) = .int .i64 y17 ∧ (∃ r18 : Int, ((True) ∧ (∀ H' : Heap, H'.length = 2 → (True) → KCall prog 117 [.int .i64 m.down.ridge, .int .i64 y17] H' [] (Is (.int .i64 r18) H')) ∧ (((decide ((r18 : Int) < (0 - y14))) = true → (.tuple #[.bool false, .int .i64 0] : Value) = sp) ∧ ((decide ((r18 : Int) < (0 - y14))) = false → (((0 : Int) ≤ (((x2 + 1 + x3) : Nat) : Int) ∧ ((((x2 + 1 + x3) : Nat) : Int) : Int) < (((List.length xs) : Nat) : Int)) ∧ ((partA 4 (List.flatMap iceC xs) (0 + Int.toNat (((x2 + 1 + x3) : Nat) : Int) * 4) = some (.agg #[.int .i64 (List.getD xs (x2 + 1 + x3) zeroI).conc, .int .i64 (List.getD xs (x2 + 1 + x3) zeroI).thick, .int .i64 (List.getD xs (x2 + 1 + x3) zeroI).ridge, .int .i64 (List.getD xs (x2 + 1 + x3) zeroI).press])) ∧ (((0 : Int) ≤ ((x2 : Nat) : Int) ∧ (((x2 : Nat) : Int) : Int) < (((List.length xs) : Nat) : Int)) ∧ ((partA 4 (List.flatMap iceC xs) (0 + Int.toNat ((x2 : Nat) : Int) * 4) = some (.agg #[.int .i64 (List.getD xs x2 zeroI).conc, .int .i64 (List.getD xs x2 zeroI).thick, .int .i64 (List.getD xs x2 zeroI).ridge, .int .i64 (List.getD xs x2 zeroI).press])) ∧ ((.int .i64 (IntKind.wrap .i64 ((List.getD xs (x2 + 1 + x3) zeroI).press - (List.getD xs x2 zeroI).press)) : Value) = .int .i64 ((List.getD xs (x2 + 1 + x3) zeroI).press - (List.getD xs x2 zeroI).press) ∧ (∃ y19 : Int, (.int .i64 ((List.getD xs (x2 + 1 + x3) zeroI).press - (List.getD xs x2 zeroI).press) : Value) = .int .i64 y19 ∧ ((.int .i64 (IntKind.wrap .i64 ((((x2 + 1 + x3) : Nat) : Int) - ((x2 : Nat) : Int))) : Value) = .int .i64 ((((x2 + 1 + x3) : Nat) : Int) - ((x2 : Nat) : Int)) ∧ (∃ y20 : Int, (.int .i64 ((((x2 + 1 + x3) : Nat) : Int) - ((x2 : Nat) : Int)) : Value) = .int .i64 y20 ∧ (∃ r21 : Int, ((True) ∧ (∀ H' : Heap, H'.length = 2 → (True) → KCall prog 117 [.int .i64 m.up.press, .int .i64 y20] H' [] (Is (.int .i64 r21) H')) ∧ (((decide ((r21 : Int) < y19)) = true → (.tuple #[.bool false, .int .i64 0] : Value) = sp) ∧ ((decide ((r21 : Int) < y19)) = false → ((.int .i64 (IntKind.wrap .i64 (0 - y19)) : Value) = .int .i64 (0 - y19) ∧ ((.int .i64 (IntKind.wrap .i64 ((((x2 + 1 + x3) : Nat) : Int) - ((x2 : Nat) : Int))) : Value) = .int .i64 ((((x2 + 1 + x3) : Nat) : Int) - ((x2 : Nat) : Int)) ∧ (∃ y22 : Int, (.int .i64 ((((x2 + 1 + x3) : Nat) : Int) - ((x2 : Nat) : Int)) : Value) = .int .i64 y22 ∧ (∃ r23 : Int, ((True) ∧ (∀ H' : Heap, H'.length = 2 → (True) → KCall prog 117 [.int .i64 m.down.press, .int .i64 y22] H' [] (Is (.int .i64 r23) H')) ∧ (((decide ((r23 : Int) < (0 - y19))) = true → (.tuple #[.bool false, .int .i64 0] : Value) = sp) ∧ ((decide ((r23 : Int) < (0 - y19))) = false → ((.int .i64 (IntKind.wrap .i64 ((((x2 + 1 + x3) : Nat) : Int) + 1)) : Value) = .int .i64 ((((x2 + 1 + x3) : Nat) : Int) + 1) ∧ (∃ x3' : Nat, (x2 + 1 + x3' ≤ List.length xs ∧ rowR xs m x2 (x2 + 1 + x3')) ∧ (List.length xs - x3') < (List.length xs - x3) ∧ true = true ∧ ((.int .i64 ((((x2 + 1 + x3) : Nat) : Int) + 1) : Value) = .int .i64 (((x2 + 1 + x3') : Nat) : Int) ∧ wk (.slice (some ⟨0, 0, some 2⟩) (List.length xs) (List.length xs) : Value) (.slice (some ⟨0, 0, some 2⟩) (List.length xs) (List.length xs) : Value) ∧ (.pointer (some ⟨1, 0, none⟩) : Value) = .pointer (some ⟨1, 0, none⟩) ∧ (.int .i64 ((x2 : Nat) : Int) : Value) = .int .i64 ((x2 : Nat) : Int) ∧ True) ∧ (True) ∧ (True) ∧ (True)))))))))))))))))))))))))))))))))))))))))))))))))))))))))))))))))))))))))))))))) ∧ ((decide (((((x2 + 1 + x3) : Nat) : Int) : Int) < (((List.length xs) : Nat) : Int))) = false → ((.int .i64 (IntKind.wrap .i64 (((x2 : Nat) : Int) + 1)) : Value) = .int .i64 (((x2 : Nat) : Int) + 1) ∧ (∃ x2' : Nat, (x2' ≤ List.length xs ∧ uptoR xs m x2') ∧ (List.length xs - x2') < (List.length xs - x2) ∧ true = true ∧ ((.int .i64 (((x2 : Nat) : Int) + 1) : Value) = .int .i64 ((x2' : Nat) : Int) ∧ (.pointer (some ⟨1, 0, none⟩) : Value) = .pointer (some ⟨1, 0, none⟩) ∧ wk (.slice (some ⟨0, 0, some 2⟩) (List.length xs) (List.length xs) : Value) (.slice (some ⟨0, 0, some 2⟩) (List.length xs) (List.length xs) : Value) ∧ True) ∧ (True) ∧ (True) ∧ (True)))))))) ∧ ((decide ((((x2 : Nat) : Int) : Int) < (((List.length xs) : Nat) : Int))) = false → (.tuple #[.bool true, .int .i64 0] : Value) = sp))))))))))))
theorem ErAllowed (sp : Value) (xs : List Ice) (m : Rates) : vF prog msk (dm 0) 100000 true 40 true 47 [.slice (some ⟨0, 0, some 2⟩) (List.length xs) (List.length xs), .agg #[.int .i64 m.up.conc, .int .i64 m.up.thick, .int .i64 m.up.ridge, .int .i64 m.up.press, .int .i64 m.down.conc, .int .i64 m.down.thick, .int .i64 m.down.ridge, .int .i64 m.down.press]] (readsT 0 [xs.flatMap iceC]) (some [])
  (.go 5 (.fork (.auto) (.go 0 (.inv 3 (Nat) (0) [] [] (fun x0 => [(6, .int .i64 ((x0 : Nat) : Int)), (0, .slice (some ⟨0, 0, some 2⟩) (List.length xs) (List.length xs)), (3, .pointer (some ⟨1, 0, none⟩))]) (fun x0 => []) (fun x0 => []) (fun x0 => []) (fun x0 => (x0 ≤ List.length xs ∧ errs errIce xs = errs errIce (List.drop x0 xs))) (fun x0 => (List.length xs - x0)) (fun x0 => .go 3 (.fork (.go 1 (.need (.val (.agg #[.int .i64 (List.getD xs x0 zeroI).conc, .int .i64 (List.getD xs x0 zeroI).thick, .int .i64 (List.getD xs x0 zeroI).ridge, .int .i64 (List.getD xs x0 zeroI).press]) (.bind (Int) (fun r1 => .ans [] (.int .i64 r1) [] (.go 2 (.fork (.auto) (.go 1 (.slot 21 (.int .i64 (((x0 : Nat) : Int) + 1)) (.go 0 (.again []))))))))))) (.go 0 (.bind (Int) (fun r1 => .ans [] (.int .i64 r1) [] (.go 2 (.fork (.auto) (.go 0 (.inv 3 (Nat) (0) [] [] (fun x2 => [(9, .int .i64 ((x2 : Nat) : Int)), (3, .pointer (some ⟨1, 0, none⟩)), (0, .slice (some ⟨0, 0, some 2⟩) (List.length xs) (List.length xs))]) (fun x2 => []) (fun x2 => []) (fun x2 => []) (fun x2 => (x2 ≤ List.length xs ∧ uptoR xs m x2)) (fun x2 => (List.length xs - x2)) (fun x2 => .go 3 (.fork (.go 1 (.slot 42 (.int .i64 (((x2 : Nat) : Int) + 1)) (.go 0 (.inv 3 (Nat) (0) [] [] (fun x3 => [(10, .int .i64 (((x2 + 1 + x3) : Nat) : Int)), (0, .slice (some ⟨0, 0, some 2⟩) (List.length xs) (List.length xs)), (3, .pointer (some ⟨1, 0, none⟩)), (9, .int .i64 ((x2 : Nat) : Int))]) (fun x3 => []) (fun x3 => []) (fun x3 => []) (fun x3 => (x2 + 1 + x3 ≤ List.length xs ∧ rowR xs m x2 (x2 + 1 + x3))) (fun x3 => (List.length xs - x3)) (fun x3 => .go 3 (.fork (.go 5 (.need (.val (.agg #[.int .i64 (List.getD xs (x2 + 1 + x3) zeroI).conc, .int .i64 (List.getD xs (x2 + 1 + x3) zeroI).thick, .int .i64 (List.getD xs (x2 + 1 + x3) zeroI).ridge, .int .i64 (List.getD xs (x2 + 1 + x3) zeroI).press]) (.go 2 (.need (.val (.agg #[.int .i64 (List.getD xs x2 zeroI).conc, .int .i64 (List.getD xs x2 zeroI).thick, .int .i64 (List.getD xs x2 zeroI).ridge, .int .i64 (List.getD xs x2 zeroI).press]) (.go 21 (.slot 65 (.int .i64 ((List.getD xs (x2 + 1 + x3) zeroI).conc - (List.getD xs x2 zeroI).conc)) (.bind Int (fun y4 => .slot 65 (.int .i64 y4) (.go 17 (.slot 73 (.int .i64 ((((x2 + 1 + x3) : Nat) : Int) - ((x2 : Nat) : Int))) (.bind Int (fun y5 => .slot 73 (.int .i64 y5) (.bind (Int) (fun r6 => .ans [] (.int .i64 r6) [] (.go 1 (.gfork (.auto) (.go 1 (.slot 78 (.int .i64 (0 - y4)) (.go 15 (.slot 85 (.int .i64 ((((x2 + 1 + x3) : Nat) : Int) - ((x2 : Nat) : Int))) (.bind Int (fun y7 => .slot 85 (.int .i64 y7) (.bind (Int) (fun r8 => .ans [] (.int .i64 r8) [] (.go 1 (.fork (.auto) (.go 7 (.need (.val (.agg #[.int .i64 (List.getD xs (x2 + 1 + x3) zeroI).conc, .int .i64 (List.getD xs (x2 + 1 + x3) zeroI).thick, .int .i64 (List.getD xs (x2 + 1 + x3) zeroI).ridge, .int .i64 (List.getD xs (x2 + 1 + x3) zeroI).press]) (.go 2 (.need (.val (.agg #[.int .i64 (List.getD xs x2 zeroI).conc, .int .i64 (List.getD xs x2 zeroI).thick, .int .i64 (List.getD xs x2 zeroI).ridge, .int .i64 (List.getD xs x2 zeroI).press]) (.go 27 (.slot 65 (.int .i64 ((List.getD xs (x2 + 1 + x3) zeroI).thick - (List.getD xs x2 zeroI).thick)) (.bind Int (fun y9 => .slot 65 (.int .i64 y9) (.go 20 (.slot 73 (.int .i64 ((((x2 + 1 + x3) : Nat) : Int) - ((x2 : Nat) : Int))) (.bind Int (fun y10 => .slot 73 (.int .i64 y10) (.bind (Int) (fun r11 => .ans [] (.int .i64 r11) [] (.go 1 (.gfork (.auto) (.go 1 (.slot 78 (.int .i64 (0 - y9)) (.go 18 (.slot 85 (.int .i64 ((((x2 + 1 + x3) : Nat) : Int) - ((x2 : Nat) : Int))) (.bind Int (fun y12 => .slot 85 (.int .i64 y12) (.bind (Int) (fun r13 => .ans [] (.int .i64 r13) [] (.go 1 (.fork (.auto) (.go 7 (.need (.val (.agg #[.int .i64 (List.getD xs (x2 + 1 + x3) zeroI).conc, .int .i64 (List.getD xs (x2 + 1 + x3) zeroI).thick, .int .i64 (List.getD xs (x2 + 1 + x3) zeroI).ridge, .int .i64 (List.getD xs (x2 + 1 + x3) zeroI).press]) (.go 2 (.need (.val (.agg #[.int .i64 (List.getD xs x2 zeroI).conc, .int .i64 (List.getD xs x2 zeroI).thick, .int .i64 (List.getD xs x2 zeroI).ridge, .int .i64 (List.getD xs x2 zeroI).press]) (.go 33 (.slot 65 (.int .i64 ((List.getD xs (x2 + 1 + x3) zeroI).ridge - (List.getD xs x2 zeroI).ridge)) (.bind Int (fun y14 => .slot 65 (.int .i64 y14) (.go 23 (.slot 73 (.int .i64 ((((x2 + 1 + x3) : Nat) : Int) - ((x2 : Nat) : Int))) (.bind Int (fun y15 => .slot 73 (.int .i64 y15) (.bind (Int) (fun r16 => .ans [] (.int .i64 r16) [] (.go 1 (.gfork (.auto) (.go 1 (.slot 78 (.int .i64 (0 - y14)) (.go 21 (.slot 85 (.int .i64 ((((x2 + 1 + x3) : Nat) : Int) - ((x2 : Nat) : Int))) (.bind Int (fun y17 => .slot 85 (.int .i64 y17) (.bind (Int) (fun r18 => .ans [] (.int .i64 r18) [] (.go 1 (.fork (.auto) (.go 7 (.need (.val (.agg #[.int .i64 (List.getD xs (x2 + 1 + x3) zeroI).conc, .int .i64 (List.getD xs (x2 + 1 + x3) zeroI).thick, .int .i64 (List.getD xs (x2 + 1 + x3) zeroI).ridge, .int .i64 (List.getD xs (x2 + 1 + x3) zeroI).press]) (.go 2 (.need (.val (.agg #[.int .i64 (List.getD xs x2 zeroI).conc, .int .i64 (List.getD xs x2 zeroI).thick, .int .i64 (List.getD xs x2 zeroI).ridge, .int .i64 (List.getD xs x2 zeroI).press]) (.go 33 (.slot 65 (.int .i64 ((List.getD xs (x2 + 1 + x3) zeroI).press - (List.getD xs x2 zeroI).press)) (.bind Int (fun y19 => .slot 65 (.int .i64 y19) (.go 23 (.slot 73 (.int .i64 ((((x2 + 1 + x3) : Nat) : Int) - ((x2 : Nat) : Int))) (.bind Int (fun y20 => .slot 73 (.int .i64 y20) (.bind (Int) (fun r21 => .ans [] (.int .i64 r21) [] (.go 1 (.gfork (.auto) (.go 1 (.slot 78 (.int .i64 (0 - y19)) (.go 21 (.slot 85 (.int .i64 ((((x2 + 1 + x3) : Nat) : Int) - ((x2 : Nat) : Int))) (.bind Int (fun y22 => .slot 85 (.int .i64 y22) (.bind (Int) (fun r23 => .ans [] (.int .i64 r23) [] (.go 1 (.fork (.auto) (.go 7 (.slot 48 (.int .i64 ((((x2 + 1 + x3) : Nat) : Int) + 1)) (.go 0 (.again [])))))))))))))))))))))))))))))))))))))))))))))))))))))))))))))))))))))))))))))))))))))))))))))))))))))))))))))))))))) (.go 1 (.slot 40 (.int .i64 (((x2 : Nat) : Int) + 1)) (.go 0 (.again [])))))))))) (.auto))))))))))))))))
  (fun v _ _ => v = sp) = RrAllowed sp xs m := by kernel_rfl
end
end Go.Proofs.YthcjliffpebjaaaGreat
/- Ice: which courses are allowed: the reference's answer is the layer's. No condition. -/
namespace Go.Proofs.YthcjliffpebjaaaGreat
open Go Go.K
set_option maxRecDepth 100000
set_option linter.unusedVariables false
set_option linter.unusedSimpArgs false
noncomputable section
attribute [local irreducible] vF
theorem krAllowed (xs : List Ice) (m : Rates) (hn : xs.length ≤ 2 ^ 30) {H : Heap} {id : Nat} {own : Bool} {z : Nat} (hid : H[id]? = some (.cells own z (xs.flatMap iceC))) :
    KCall prog F.polynyaref01_Allowed [.slice (some ⟨id, 0, some 2⟩) xs.length xs.length, ratesV m] H [] (Is (.tuple #[.bool (fAllowed xs m).1, .int .i64 (fAllowed xs m).2]) H) := by
  refine valR (Eq.mpr (ErAllowed _ xs m) ?_) (one_cs (plain_flat (fun _ => rfl) xs)) rfl [id] rfl (one_id hid)
  unfold RrAllowed
  refine ⟨fun h => tupB (fAllowed_1 (by have := of_decide_eq_true h; omega)), fun h => ?_⟩
  have h0 : ¬ 400 < xs.length := by have := of_decide_eq_false h; omega
  refine ⟨rfl, ⟨Nat.zero_le _, rfl⟩, ⟨rfl, ⟨rfl, wk_refl _, rfl, trivial⟩, trivial, trivial, trivial⟩, fun _ => rfl, ?_⟩
  rintro x ⟨hx, he⟩
  refine ⟨fun h => ?_, fun h => ?_⟩
  · have hlt : x < xs.length := by have := of_decide_eq_true h; omega
    rw [errs_at (d := zeroI) hlt] at he
    refine ⟨⟨by omega, by omega⟩, partIce hlt, _, trivial, fun H' _ _ => krCheckIce _ H', fun h1 => ?_, fun h1 => ?_⟩
    · have g : ¬ errIce (xs.getD x zeroI) = 0 := by simpa using h1
      rw [if_neg g] at he
      exact tupB ((fAllowed_2 h0 (by rw [he]; exact g)).trans (by rw [he]))
    · have g : errIce (xs.getD x zeroI) = 0 := by simpa using h1
      rw [if_pos g] at he
      exact ⟨v64 (by omega), x + 1, ⟨hlt, he⟩, by omega, rfl, ⟨i64_eq (by omega), wk_refl _, rfl, trivial⟩, trivial, trivial, trivial⟩
  have hge : x = xs.length := by have := of_decide_eq_false h; omega
  subst hge
  rw [List.drop_length] at he
  have k0 : errs errIce xs = 0 := he
  refine ⟨_, trivial, fun H' _ _ => krCheckRates m H', fun g => tupB (fAllowed_3 h0 k0 (by simpa using g)), fun g => ?_⟩
  have k1 : errRates m = 0 := by simpa using g
  obtain ⟨⟨u1, u2, u3, u4⟩, d1, d2, d3, d4⟩ := errRates_iff.1 k1
  refine ⟨rfl, ⟨Nat.zero_le _, fun s hs => absurd hs (Nat.not_lt_zero _)⟩, ⟨rfl, ⟨rfl, rfl, wk_refl _, trivial⟩, trivial, trivial, trivial⟩, fun _ => rfl, ?_⟩
  rintro s ⟨hs0, hu⟩
  refine ⟨fun h => ?_, fun h => ?_⟩
  · have hs : s < xs.length := by have := of_decide_eq_true h; omega
    refine ⟨v64 (by omega), rfl, ⟨by omega, fun t h1 h2 => by omega⟩, ⟨rfl, ⟨i64_eq (by omega), wk_refl _, rfl, rfl, trivial⟩, trivial, trivial, trivial⟩, fun _ => rfl, ?_⟩
    rintro j ⟨hj, hr⟩
    refine ⟨fun h => ?_, fun h => ?_⟩
    · have hjt : s + 1 + j < xs.length := by have := of_decide_eq_true h; omega
      have hh : (0 : Int) ≤ ((s + 1 + j : Nat) : Int) - (s : Int) ∧ ((s + 1 + j : Nat) : Int) - (s : Int) ≤ 10000 := by omega
      obtain ⟨i1, i2, i3, i4⟩ := errIce_iff.1 (errs_zero k0 _ (getD_mem (d := zeroI) hs))
      obtain ⟨j1, j2, j3, j4⟩ := errIce_iff.1 (errs_zero k0 _ (getD_mem (d := zeroI) hjt))
      have bd := fun (r : Int) (hr : 0 ≤ r ∧ r ≤ 1000) => chg_bd hr hh
      have bad : ¬ pairI m (xs.getD s zeroI) (xs.getD (s + 1 + j) zeroI) (((s + 1 + j : Nat) : Int) - (s : Int)) → (Value.tuple #[.bool false, .int .i64 0]) = .tuple #[.bool (fAllowed xs m).1, .int .i64 (fAllowed xs m).2] := fun hb => tupB (fAllowed_4 h0 k0 k1 (fun hu' => hb (hu' (s + 1 + j) hjt s (by omega))))
      have b1 := bd _ d1
      have b2 := bd _ u1
      refine ⟨⟨by omega, by omega⟩, partIce hjt, ⟨by omega, by omega⟩, partIce hs, v64 (by omega), _, rfl, v64 (by omega), _, rfl, _, trivial, fun H' _ _ => krchange _ _ u1 hh H', fun c => bad (fun q => by have q := q.1; have := of_decide_eq_true c; omega), fun c1 => ⟨v64 (by omega), v64 (by omega), _, rfl, _, trivial, fun H' _ _ => krchange _ _ d1 hh H', fun c => bad (fun q => by have q := q.1; have := of_decide_eq_true c; omega), fun c2 => ?_⟩⟩
      replace c1 := of_decide_eq_false c1
      replace c2 := of_decide_eq_false c2
      have b3 := bd _ d2
      have b4 := bd _ u2
      refine ⟨⟨by omega, by omega⟩, partIce hjt, ⟨by omega, by omega⟩, partIce hs, v64 (by omega), _, rfl, v64 (by omega), _, rfl, _, trivial, fun H' _ _ => krchange _ _ u2 hh H', fun c => bad (fun q => by have q := q.2.1; have := of_decide_eq_true c; omega), fun c3 => ⟨v64 (by omega), v64 (by omega), _, rfl, _, trivial, fun H' _ _ => krchange _ _ d2 hh H', fun c => bad (fun q => by have q := q.2.1; have := of_decide_eq_true c; omega), fun c4 => ?_⟩⟩
      replace c3 := of_decide_eq_false c3
      replace c4 := of_decide_eq_false c4
      have b5 := bd _ d3
      have b6 := bd _ u3
      refine ⟨⟨by omega, by omega⟩, partIce hjt, ⟨by omega, by omega⟩, partIce hs, v64 (by omega), _, rfl, v64 (by omega), _, rfl, _, trivial, fun H' _ _ => krchange _ _ u3 hh H', fun c => bad (fun q => by have q := q.2.2.1; have := of_decide_eq_true c; omega), fun c5 => ⟨v64 (by omega), v64 (by omega), _, rfl, _, trivial, fun H' _ _ => krchange _ _ d3 hh H', fun c => bad (fun q => by have q := q.2.2.1; have := of_decide_eq_true c; omega), fun c6 => ?_⟩⟩
      replace c5 := of_decide_eq_false c5
      replace c6 := of_decide_eq_false c6
      have b7 := bd _ d4
      have b8 := bd _ u4
      refine ⟨⟨by omega, by omega⟩, partIce hjt, ⟨by omega, by omega⟩, partIce hs, v64 (by omega), _, rfl, v64 (by omega), _, rfl, _, trivial, fun H' _ _ => krchange _ _ u4 hh H', fun c => bad (fun q => by have q := q.2.2.2; have := of_decide_eq_true c; omega), fun c7 => ⟨v64 (by omega), v64 (by omega), _, rfl, _, trivial, fun H' _ _ => krchange _ _ d4 hh H', fun c => bad (fun q => by have q := q.2.2.2; have := of_decide_eq_true c; omega), fun c8 => ?_⟩⟩
      replace c7 := of_decide_eq_false c7
      replace c8 := of_decide_eq_false c8
      refine ⟨v64 (by omega), j + 1, ⟨by omega, fun t h1 h2 => ?_⟩, by omega, rfl, ⟨i64_eq (by omega), wk_refl _, rfl, rfl, trivial⟩, trivial, trivial, trivial⟩
      rcases Nat.lt_or_ge t (s + 1 + j) with h3 | h3
      · exact hr t h1 h3
      · obtain rfl : t = s + 1 + j := by omega
        exact ⟨by omega, by omega, by omega, by omega⟩
    · have hje : s + 1 + j = xs.length := by have := of_decide_eq_false h; omega
      refine ⟨v64 (by omega), s + 1, ⟨hs, fun s' hs' => ?_⟩, by omega, rfl, ⟨i64_eq (by omega), rfl, wk_refl _, trivial⟩, trivial, trivial, trivial⟩
      rcases Nat.lt_or_ge s' s with h3 | h3
      · exact hu s' h3
      · obtain rfl : s' = s := by omega
        rw [← hje]; exact hr
  · obtain rfl : s = xs.length := by have := of_decide_eq_false h; omega
    exact tupB (fAllowed_5 h0 k0 k1 (uptoR_all.1 hu))
end
end Go.Proofs.YthcjliffpebjaaaGreat
