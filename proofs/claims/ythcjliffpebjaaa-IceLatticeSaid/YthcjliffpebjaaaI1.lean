/- Ice: the contracts of the functions of values alone. No condition. -/
import Derived.Test.YthcjliffpebjaaaI1g
import Derived.IntWalk
namespace Go.Proofs.Ythcjliffpebjaaa
open Go Go.K
set_option maxRecDepth 100000
noncomputable section
/-! ## What they compute -/
def rightS (s : Span) (m : Int) : Prop := 0 ≤ s.lo ∧ s.lo ≤ m ∧ s.lo ≤ s.hi ∧ s.hi ≤ m
def rightC (c : Cell) : Prop := rightS c.conc 100 ∧ rightS c.thick 400 ∧ rightS c.ridge 100 ∧ rightS c.press 3
def rightI (x : Ice) : Prop := (0 ≤ x.conc ∧ x.conc ≤ 100) ∧ (0 ≤ x.thick ∧ x.thick ≤ 400) ∧ (0 ≤ x.ridge ∧ x.ridge ≤ 100) ∧ 0 ≤ x.press ∧ x.press ≤ 3
def rateI (x : Ice) : Prop := (0 ≤ x.conc ∧ x.conc ≤ 1000) ∧ (0 ≤ x.thick ∧ x.thick ≤ 1000) ∧ (0 ≤ x.ridge ∧ x.ridge ≤ 1000) ∧ 0 ≤ x.press ∧ x.press ≤ 1000
def rightR (m : Rates) : Prop := rateI m.up ∧ rateI m.down
instance (s : Span) (m : Int) : Decidable (rightS s m) := by unfold rightS; infer_instance
instance (c : Cell) : Decidable (rightC c) := by unfold rightC; infer_instance
instance (x : Ice) : Decidable (rightI x) := by unfold rightI; infer_instance
instance (x : Ice) : Decidable (rateI x) := by unfold rateI; infer_instance
instance (m : Rates) : Decidable (rightR m) := by unfold rightR; infer_instance
def errCell (c : Cell) : Int := if rightC c then 0 else 20
def errIce (x : Ice) : Int := if rightI x then 0 else 20
def errRates (m : Rates) : Int := if rightR m then 0 else 6
def zeroC : Cell := ⟨⟨0, 0⟩, ⟨0, 0⟩, ⟨0, 0⟩, ⟨0, 0⟩⟩
def hasS (s : Span) (n : Int) : Prop := s.lo ≤ n ∧ n ≤ s.hi
def hasC (c : Cell) (x : Ice) : Prop := hasS c.conc x.conc ∧ hasS c.thick x.thick ∧ hasS c.ridge x.ridge ∧ hasS c.press x.press
def insS (s t : Span) : Prop := t.lo ≤ s.lo ∧ s.hi ≤ t.hi
def insC (a b : Cell) : Prop := insS a.conc b.conc ∧ insS a.thick b.thick ∧ insS a.ridge b.ridge ∧ insS a.press b.press
def okC (c : Cell) : Prop := c.conc.lo ≤ c.conc.hi ∧ c.thick.lo ≤ c.thick.hi ∧ c.ridge.lo ≤ c.ridge.hi ∧ c.press.lo ≤ c.press.hi
instance (s : Span) (n : Int) : Decidable (hasS s n) := by unfold hasS; infer_instance
instance (c : Cell) (x : Ice) : Decidable (hasC c x) := by unfold hasC; infer_instance
instance (s t : Span) : Decidable (insS s t) := by unfold insS; infer_instance
instance (a b : Cell) : Decidable (insC a b) := by unfold insC; infer_instance
instance (c : Cell) : Decidable (okC c) := by unfold okC; infer_instance
def meetS (s t : Span) : Span := ⟨max s.lo t.lo, min s.hi t.hi⟩
def meetC (a b : Cell) : Cell := ⟨meetS a.conc b.conc, meetS a.thick b.thick, meetS a.ridge b.ridge, meetS a.press b.press⟩
def hullS (s t : Span) : Span := ⟨min s.lo t.lo, max s.hi t.hi⟩
def hullC (a b : Cell) : Cell := ⟨hullS a.conc b.conc, hullS a.thick b.thick, hullS a.ridge b.ridge, hullS a.press b.press⟩
def chg (rate hours : Int) : Int := (rate * hours + 23) / 24
def ageS (s : Span) (u d h m : Int) : Span := ⟨max (s.lo - chg d h) 0, min (s.hi + chg u h) m⟩
def ageC (c : Cell) (m : Rates) (h : Int) : Cell := ⟨ageS c.conc m.up.conc m.down.conc h 100, ageS c.thick m.up.thick m.down.thick h 400, ageS c.ridge m.up.ridge m.down.ridge h 100, ageS c.press m.up.press m.down.press h 3⟩
def wholeC : Cell := ⟨⟨0, 100⟩, ⟨0, 400⟩, ⟨0, 100⟩, ⟨0, 3⟩⟩
def first2 (e f : Int) : Int := if e = 0 then f else e
def fHas (c : Cell) (x : Ice) : Bool × Int := if first2 (errCell c) (errIce x) = 0 then (decide (hasC c x), 0) else (false, first2 (errCell c) (errIce x))
def fInside (a b : Cell) : Bool × Int := if first2 (errCell a) (errCell b) = 0 then (decide (insC a b), 0) else (false, first2 (errCell a) (errCell b))
def fMeet (a b : Cell) : Cell × Int := if first2 (errCell a) (errCell b) = 0 then (if okC (meetC a b) then (meetC a b, 0) else (zeroC, 21)) else (zeroC, first2 (errCell a) (errCell b))
def fHull (a b : Cell) : Cell × Int := if first2 (errCell a) (errCell b) = 0 then (hullC a b, 0) else (zeroC, first2 (errCell a) (errCell b))
def fAge (c : Cell) (m : Rates) (h : Int) : Cell × Int :=
  if first2 (errCell c) (errRates m) = 0 then (if 0 ≤ h ∧ h ≤ 10000 then (ageC c m h, 0) else (zeroC, 6)) else (zeroC, first2 (errCell c) (errRates m))

/-! ## Numbers -/
theorem w64 {n : Int} (h : -9223372036854775808 ≤ n ∧ n ≤ 9223372036854775807) : IntKind.wrap .i64 n = n := IntWalk.i64_in n h
theorem v64 {n : Int} (h : -9223372036854775808 ≤ n ∧ n ≤ 9223372036854775807) : (Value.int .i64 (IntKind.wrap .i64 n)) = .int .i64 n := by rw [w64 h]
theorem mulb {a b A B : Int} (h1 : 0 ≤ a) (h2 : a ≤ A) (h3 : 0 ≤ b) (h4 : b ≤ B) : 0 ≤ a * b ∧ a * b ≤ A * B :=
  ⟨Int.mul_nonneg h1 h3, Int.mul_le_mul h2 h4 h3 (Int.le_trans h1 h2)⟩

/-! ## Contracts -/
theorem errCell_pos {c : Cell} (h : rightC c) : errCell c = 0 := if_pos h
theorem errCell_neg {c : Cell} (h : ¬ rightC c) : errCell c = 20 := if_neg h
theorem errIce_pos {c : Ice} (h : rightI c) : errIce c = 0 := if_pos h
theorem errIce_neg {c : Ice} (h : ¬ rightI c) : errIce c = 20 := if_neg h
theorem errRates_pos {c : Rates} (h : rightR c) : errRates c = 0 := if_pos h
theorem errRates_neg {c : Rates} (h : ¬ rightR c) : errRates c = 6 := if_neg h
theorem errCell_iff {c : Cell} : errCell c = 0 ↔ rightC c := by unfold errCell; split <;> simp_all
theorem errIce_iff {c : Ice} : errIce c = 0 ↔ rightI c := by unfold errIce; split <;> simp_all
theorem errRates_iff {c : Rates} : errRates c = 0 ↔ rightR c := by unfold errRates; split <;> simp_all
theorem kCheckCell (c : Cell) (H : Heap) : KCall Try.prog 44 [cellV c] H [] (Is (.int .i64 (errCell c)) H) := by
  refine valK 40 (fun _ => rfl) rfl (Eq.mpr (ECheckCell _ c) ?_) H
  unfold RCheckCell
  simp only [decide_eq_true_eq, decide_eq_false_iff_not, Bool.not_eq_true', Bool.not_eq_false']
  repeat' (first | apply And.intro | intro _)
  all_goals first
    | exact i64_eq (errCell_neg (by unfold rightC rightS; omega)).symm
    | exact i64_eq (errCell_pos (by unfold rightC rightS; omega)).symm
theorem kCheckIce (x : Ice) (H : Heap) : KCall Try.prog 51 [iceV x] H [] (Is (.int .i64 (errIce x)) H) := by
  refine valK 40 (fun _ => rfl) rfl (Eq.mpr (ECheckIce _ x) ?_) H
  unfold RCheckIce
  simp only [decide_eq_true_eq, decide_eq_false_iff_not, Bool.not_eq_true', Bool.not_eq_false']
  repeat' (first | apply And.intro | intro _)
  all_goals first
    | exact i64_eq (errIce_neg (by unfold rightI; omega)).symm
    | exact i64_eq (errIce_pos (by unfold rightI; omega)).symm
theorem kCheckRates (m : Rates) (H : Heap) : KCall Try.prog 11 [ratesV m] H [] (Is (.int .i64 (errRates m)) H) := by
  refine valK 40 (fun _ => rfl) rfl (Eq.mpr (ECheckRates _ m) ?_) H
  unfold RCheckRates
  simp only [decide_eq_true_eq, decide_eq_false_iff_not, Bool.not_eq_true', Bool.not_eq_false']
  repeat' (first | apply And.intro | intro _)
  all_goals first
    | exact i64_eq (errRates_neg (by unfold rightR rateI; omega)).symm
    | exact i64_eq (errRates_pos (by unfold rightR rateI; omega)).symm
theorem tmod_emod {x n : Int} (hn : 1 ≤ n) : (Int.tmod x n < 0 → Int.tmod x n + n = x % n) ∧ (¬ Int.tmod x n < 0 → Int.tmod x n = x % n) ∧ -n < Int.tmod x n ∧ Int.tmod x n < n := by
  have h1 := Int.mul_tdiv_add_tmod x n
  have h2 := Int.lt_tmod_of_pos x (by omega : 0 < n)
  have h3 := Int.tmod_lt_of_pos x (by omega : 0 < n)
  refine ⟨fun h => ?_, fun h => ?_, h2, h3⟩
  · have : x = (Int.tmod x n + n) + n * (x.tdiv n - 1) := by rw [Int.mul_sub]; omega
    rw [this, Int.add_mul_emod_self_left, ← this]
    exact (Int.emod_eq_of_lt (by omega) (by omega)).symm
  · have : x = Int.tmod x n + n * x.tdiv n := by omega
    conv => rhs; rw [this, Int.add_mul_emod_self_left]
    exact (Int.emod_eq_of_lt (by omega) (by omega)).symm
theorem kPick (x n : Int) (h1 : 1 ≤ n) (h2 : n ≤ 9223372036854775807) (H : Heap) : KCall Try.prog 17 [.int .i64 x, .int .i64 n] H [] (Is (.int .i64 (x % n)) H) := by
  refine valK 40 (fun _ => rfl) rfl (Eq.mpr (EPick _ x n) ?_) H
  obtain ⟨t1, t2, t3, t4⟩ := tmod_emod (x := x) h1
  unfold RPick
  simp only [decide_eq_true_eq, decide_eq_false_iff_not]
  refine ⟨fun h => by omega, fun _ => ⟨by omega, fun h => ⟨v64 (by omega), i64_eq (t1 h)⟩, fun h => i64_eq (t2 h)⟩⟩
theorem kchange (rate hours : Int) (h1 : 0 ≤ rate ∧ rate ≤ 1000) (h2 : 0 ≤ hours ∧ hours ≤ 10000) (H : Heap) : KCall Try.prog 74 [.int .i64 rate, .int .i64 hours] H [] (Is (.int .i64 (chg rate hours)) H) := by
  refine valK 40 (fun _ => rfl) rfl (Eq.mpr (Echange _ rate hours) ?_) H
  have hb := mulb h1.1 h1.2 h2.1 h2.2
  have ht : Int.tdiv (rate * hours + 24 - 1) 24 = (rate * hours + 24 - 1) / 24 := Int.tdiv_eq_ediv_of_nonneg (by omega)
  unfold Rchange
  refine ⟨v64 (by omega), v64 (by omega), v64 (by omega), v64 (by rw [ht]; omega), i64_eq ?_⟩
  rw [ht]; unfold chg; congr 1; omega

/-! ## Two errors, then an answer -/
theorem first2_1 {e f : Int} (h : ¬ e = 0) : first2 e f = e := if_neg h
theorem first2_2 {e f : Int} (h : e = 0) : first2 e f = f := if_pos h
theorem vbool {b : Bool} (h : b = true) : (Value.bool b) = .bool true := by rw [h]
theorem vne {e : Int} (h : ¬ e = 0) : (Value.bool (e != 0)) = .bool true := vbool (by simp [h])
theorem tupB {b : Bool} {e : Int} {r : Bool × Int} (h : r = (b, e)) : (Value.tuple #[.bool b, .int .i64 e]) = .tuple #[.bool r.1, .int .i64 r.2] := by rw [h]
theorem tupC {a b c d e f g i n : Int} {r : Cell × Int} (h : r = (⟨⟨a, b⟩, ⟨c, d⟩, ⟨e, f⟩, ⟨g, i⟩⟩, n)) :
    (Value.tuple #[.agg #[.int .i64 a, .int .i64 b, .int .i64 c, .int .i64 d, .int .i64 e, .int .i64 f, .int .i64 g, .int .i64 i], .int .i64 n]) = .tuple #[cellV r.1, .int .i64 r.2] := by rw [h]
theorem fHas_1 {c : Cell} {x : Ice} (h : ¬ errCell c = 0) : fHas c x = (false, errCell c) := by unfold fHas; rw [first2_1 h, if_neg h]
theorem fHas_2 {c : Cell} {x : Ice} (h : errCell c = 0) (k : ¬ errIce x = 0) : fHas c x = (false, errIce x) := by unfold fHas; rw [first2_2 h, if_neg k]
theorem fHas_3 {c : Cell} {x : Ice} {b : Bool} (h : errCell c = 0) (k : errIce x = 0) (hb : decide (hasC c x) = b) : fHas c x = (b, 0) := by unfold fHas; rw [first2_2 h, if_pos k, hb]
theorem fInside_1 {a b : Cell} (h : ¬ errCell a = 0) : fInside a b = (false, errCell a) := by unfold fInside; rw [first2_1 h, if_neg h]
theorem fInside_2 {a b : Cell} (h : errCell a = 0) (k : ¬ errCell b = 0) : fInside a b = (false, errCell b) := by unfold fInside; rw [first2_2 h, if_neg k]
theorem fInside_3 {a b : Cell} {r : Bool} (h : errCell a = 0) (k : errCell b = 0) (hb : decide (insC a b) = r) : fInside a b = (r, 0) := by unfold fInside; rw [first2_2 h, if_pos k, hb]
theorem fMeet_1 {a b : Cell} (h : ¬ errCell a = 0) : fMeet a b = (zeroC, errCell a) := by unfold fMeet; rw [first2_1 h, if_neg h]
theorem fMeet_2 {a b : Cell} (h : errCell a = 0) (k : ¬ errCell b = 0) : fMeet a b = (zeroC, errCell b) := by unfold fMeet; rw [first2_2 h, if_neg k]
theorem fMeet_3 {a b : Cell} (h : errCell a = 0) (k : errCell b = 0) (hb : ¬ okC (meetC a b)) : fMeet a b = (zeroC, 21) := by unfold fMeet; rw [first2_2 h, if_pos k, if_neg hb]
theorem fMeet_4 {a b : Cell} (h : errCell a = 0) (k : errCell b = 0) (hb : okC (meetC a b)) : fMeet a b = (meetC a b, 0) := by unfold fMeet; rw [first2_2 h, if_pos k, if_pos hb]
theorem fHull_1 {a b : Cell} (h : ¬ errCell a = 0) : fHull a b = (zeroC, errCell a) := by unfold fHull; rw [first2_1 h, if_neg h]
theorem fHull_2 {a b : Cell} (h : errCell a = 0) (k : ¬ errCell b = 0) : fHull a b = (zeroC, errCell b) := by unfold fHull; rw [first2_2 h, if_neg k]
theorem fHull_3 {a b : Cell} (h : errCell a = 0) (k : errCell b = 0) : fHull a b = (hullC a b, 0) := by unfold fHull; rw [first2_2 h, if_pos k]
theorem fAge_1 {c : Cell} {m : Rates} {h : Int} (k : ¬ errCell c = 0) : fAge c m h = (zeroC, errCell c) := by unfold fAge; rw [first2_1 k, if_neg k]
theorem fAge_2 {c : Cell} {m : Rates} {h : Int} (k : errCell c = 0) (l : ¬ errRates m = 0) : fAge c m h = (zeroC, errRates m) := by unfold fAge; rw [first2_2 k, if_neg l]
theorem fAge_3 {c : Cell} {m : Rates} {h : Int} (k : errCell c = 0) (l : errRates m = 0) (q : ¬ (0 ≤ h ∧ h ≤ 10000)) : fAge c m h = (zeroC, 6) := by unfold fAge; rw [first2_2 k, if_pos l, if_neg q]
theorem fAge_4 {c : Cell} {m : Rates} {h : Int} (k : errCell c = 0) (l : errRates m = 0) (q : 0 ≤ h ∧ h ≤ 10000) : fAge c m h = (ageC c m h, 0) := by unfold fAge; rw [first2_2 k, if_pos l, if_pos q]
theorem kHas (c : Cell) (x : Ice) (H : Heap) : KCall Try.prog 25 [cellV c, iceV x] H [] (Is (.tuple #[.bool (fHas c x).1, .int .i64 (fHas c x).2]) H) := by
  refine valK 40 (fun _ => rfl) rfl (Eq.mpr (EHas _ c x) ?_) H
  unfold RHas
  refine ⟨_, trivial, fun H' _ _ => kCheckCell c H', _, trivial, fun H' _ _ => kCheckIce x H', ?_⟩
  simp only [decide_eq_true_eq, decide_eq_false_iff_not, Bool.not_eq_true', Bool.not_eq_false', bne_iff_ne, ne_eq, bne_eq_false_iff_eq]
  repeat' (first | apply And.intro | intro _)
  all_goals first
    | exact vne (by assumption)
    | exact tupB (fHas_1 (by assumption))
    | exact tupB (fHas_2 (by assumption) (by assumption))
    | exact tupB (fHas_3 (by assumption) (by assumption) (decide_eq_false (by unfold hasC hasS; omega)))
    | exact tupB (fHas_3 (by assumption) (by assumption) (decide_eq_true (by unfold hasC hasS; omega)))
theorem kInside (a b : Cell) (H : Heap) : KCall Try.prog 20 [cellV a, cellV b] H [] (Is (.tuple #[.bool (fInside a b).1, .int .i64 (fInside a b).2]) H) := by
  refine valK 40 (fun _ => rfl) rfl (Eq.mpr (EInside _ a b) ?_) H
  unfold RInside
  refine ⟨_, trivial, fun H' _ _ => kCheckCell a H', _, trivial, fun H' _ _ => kCheckCell b H', ?_⟩
  simp only [decide_eq_true_eq, decide_eq_false_iff_not, Bool.not_eq_true', Bool.not_eq_false', bne_iff_ne, ne_eq, bne_eq_false_iff_eq]
  repeat' (first | apply And.intro | intro _)
  all_goals first
    | exact vne (by assumption)
    | exact tupB (fInside_1 (by assumption))
    | exact tupB (fInside_2 (by assumption) (by assumption))
    | exact tupB (fInside_3 (by assumption) (by assumption) (decide_eq_false (by unfold insC insS; omega)))
    | exact tupB (fInside_3 (by assumption) (by assumption) (decide_eq_true (by unfold insC insS; omega)))
theorem kMeet (a b : Cell) (H : Heap) : KCall Try.prog 26 [cellV a, cellV b] H [] (Is (.tuple #[cellV (fMeet a b).1, .int .i64 (fMeet a b).2]) H) := by
  refine valK 40 (fun _ => rfl) rfl (Eq.mpr (EMeet _ a b) ?_) H
  unfold RMeet
  refine ⟨_, trivial, fun H' _ _ => kCheckCell a H', _, trivial, fun H' _ _ => kCheckCell b H', ?_⟩
  simp only [decide_eq_true_eq, decide_eq_false_iff_not, Bool.not_eq_true', Bool.not_eq_false', bne_iff_ne, ne_eq, bne_eq_false_iff_eq]
  refine ⟨fun h => ⟨vne h, tupC (fMeet_1 h)⟩, fun h0 => ⟨fun h => ⟨vne h, tupC (fMeet_2 h0 h)⟩, fun h1 => ?_⟩⟩
  refine ⟨max a.conc.lo b.conc.lo, i64_eq (by split <;> omega), min a.conc.hi b.conc.hi, i64_eq (by split <;> omega), max a.thick.lo b.thick.lo, i64_eq (by split <;> omega), min a.thick.hi b.thick.hi, i64_eq (by split <;> omega),
    max a.ridge.lo b.ridge.lo, i64_eq (by split <;> omega), min a.ridge.hi b.ridge.hi, i64_eq (by split <;> omega), max a.press.lo b.press.lo, i64_eq (by split <;> omega), min a.press.hi b.press.hi, i64_eq (by split <;> omega), ?_⟩
  repeat' (first | apply And.intro | intro _)
  all_goals first
    | exact tupC (fMeet_3 h0 h1 (by unfold okC meetC meetS; simp only; omega))
    | exact tupC (fMeet_4 h0 h1 (by unfold okC meetC meetS; simp only; omega))
theorem kHull (a b : Cell) (H : Heap) : KCall Try.prog 18 [cellV a, cellV b] H [] (Is (.tuple #[cellV (fHull a b).1, .int .i64 (fHull a b).2]) H) := by
  refine valK 40 (fun _ => rfl) rfl (Eq.mpr (EHull _ a b) ?_) H
  unfold RHull
  refine ⟨_, trivial, fun H' _ _ => kCheckCell a H', _, trivial, fun H' _ _ => kCheckCell b H', ?_⟩
  simp only [decide_eq_true_eq, decide_eq_false_iff_not, Bool.not_eq_true', Bool.not_eq_false', bne_iff_ne, ne_eq, bne_eq_false_iff_eq]
  refine ⟨fun h => ⟨vne h, tupC (fHull_1 h)⟩, fun h0 => ⟨fun h => ⟨vne h, tupC (fHull_2 h0 h)⟩, fun h1 => ?_⟩⟩
  refine ⟨min a.conc.lo b.conc.lo, i64_eq (by split <;> omega), max a.conc.hi b.conc.hi, i64_eq (by split <;> omega), min a.thick.lo b.thick.lo, i64_eq (by split <;> omega), max a.thick.hi b.thick.hi, i64_eq (by split <;> omega),
    min a.ridge.lo b.ridge.lo, i64_eq (by split <;> omega), max a.ridge.hi b.ridge.hi, i64_eq (by split <;> omega), min a.press.lo b.press.lo, i64_eq (by split <;> omega), max a.press.hi b.press.hi, i64_eq (by split <;> omega), ?_⟩
  exact tupC (fHull_3 h0 h1)
theorem chg_bd {r h : Int} (h1 : 0 ≤ r ∧ r ≤ 1000) (h2 : 0 ≤ h ∧ h ≤ 10000) : 0 ≤ chg r h ∧ chg r h ≤ 500000 := by
  have := mulb h1.1 h1.2 h2.1 h2.2
  unfold chg; omega
theorem kAge (c : Cell) (m : Rates) (h : Int) (H : Heap) : KCall Try.prog 19 [cellV c, ratesV m, .int .i64 h] H [] (Is (.tuple #[cellV (fAge c m h).1, .int .i64 (fAge c m h).2]) H) := by
  refine valK 40 (fun _ => rfl) rfl (Eq.mpr (EAge _ c m h) ?_) H
  unfold RAge
  refine ⟨_, trivial, fun H' _ _ => kCheckCell c H', _, trivial, fun H' _ _ => kCheckRates m H', ?_⟩
  simp only [decide_eq_true_eq, decide_eq_false_iff_not, Bool.not_eq_true', Bool.not_eq_false', bne_iff_ne, ne_eq, bne_eq_false_iff_eq]
  refine ⟨fun h => ⟨vne h, tupC (fAge_1 h)⟩, fun h0 => ⟨fun h => ⟨vne h, tupC (fAge_2 h0 h)⟩, fun h1 => ⟨fun h2 => ⟨fun h3 => tupC (fAge_3 h0 h1 (by omega)), fun h3 => ?_⟩, fun h2 => tupC (fAge_3 h0 h1 (by omega))⟩⟩⟩
  obtain ⟨⟨u1, u2, u3, u4⟩, d1, d2, d3, d4⟩ := errRates_iff.1 h1
  obtain ⟨c1, c2, c3, c4⟩ := errCell_iff.1 h0
  unfold rightS at c1 c2 c3 c4
  have bd := fun (r : Int) (hr : 0 ≤ r ∧ r ≤ 1000) => chg_bd hr ⟨h2, h3⟩
  have b1 := bd _ u1; have b2 := bd _ u2; have b3 := bd _ u3; have b4 := bd _ u4
  have e1 := bd _ d1; have e2 := bd _ d2; have e3 := bd _ d3; have e4 := bd _ d4
  refine ⟨_, trivial, fun H' _ _ => kchange _ _ d1 ⟨h2, h3⟩ H', v64 (by omega), max (c.conc.lo - chg m.down.conc h) 0, i64_eq (by split <;> omega), _, trivial, fun H' _ _ => kchange _ _ u1 ⟨h2, h3⟩ H', v64 (by omega), min (c.conc.hi + chg m.up.conc h) 100, i64_eq (by split <;> omega),
    _, trivial, fun H' _ _ => kchange _ _ d2 ⟨h2, h3⟩ H', v64 (by omega), max (c.thick.lo - chg m.down.thick h) 0, i64_eq (by split <;> omega), _, trivial, fun H' _ _ => kchange _ _ u2 ⟨h2, h3⟩ H', v64 (by omega), min (c.thick.hi + chg m.up.thick h) 400, i64_eq (by split <;> omega),
    _, trivial, fun H' _ _ => kchange _ _ d3 ⟨h2, h3⟩ H', v64 (by omega), max (c.ridge.lo - chg m.down.ridge h) 0, i64_eq (by split <;> omega), _, trivial, fun H' _ _ => kchange _ _ u3 ⟨h2, h3⟩ H', v64 (by omega), min (c.ridge.hi + chg m.up.ridge h) 100, i64_eq (by split <;> omega),
    _, trivial, fun H' _ _ => kchange _ _ d4 ⟨h2, h3⟩ H', v64 (by omega), max (c.press.lo - chg m.down.press h) 0, i64_eq (by split <;> omega), _, trivial, fun H' _ _ => kchange _ _ u4 ⟨h2, h3⟩ H', v64 (by omega), min (c.press.hi + chg m.up.press h) 3, i64_eq (by split <;> omega), ?_⟩
  exact tupC (fAge_4 h0 h1 ⟨h2, h3⟩)
theorem kWhole (H : Heap) : KCall Try.prog 28 [] H [] (Is (cellV wholeC) H) := valK 40 (fun _ => rfl) rfl (Eq.mpr (EWhole _) rfl) H
end
end Go.Proofs.Ythcjliffpebjaaa
