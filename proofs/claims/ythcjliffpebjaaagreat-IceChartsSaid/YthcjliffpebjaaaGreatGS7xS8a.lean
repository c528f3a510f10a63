/- Ice: functions of cells that charts and reports use. No condition. -/
import Derived.Test.YthcjliffpebjaaaGreatGS7gxK27
namespace Go.Proofs.YthcjliffpebjaaaGreat
open Go Go.K
set_option maxRecDepth 100000
set_option linter.unusedVariables false
set_option linter.unusedSimpArgs false
noncomputable section
attribute [local irreducible] vF
theorem kspMeet (a b : Cell) (H : Heap) : KCall prog F.ice_spans_meet [cellV a, cellV b] H [] (Is (.tuple #[cellV (meetC a b), .bool (decide (okC (meetC a b)))]) H) := by
  refine valK 40 (fun _ => rfl) rfl (Eq.mpr (EspMeet _ a b) ?_) H
  unfold RspMeet
  repeat' first
    | exact trivial
    | exact rfl
    | refine joinMax ?_ ?_ ?_
    | refine joinMin ?_ ?_ ?_
    | refine toMax ?_
    | refine toMin ?_
    | refine ⟨rfl, ?_⟩
    | refine ⟨trivial, ?_⟩
    | refine forkD (fun h => ?_) (fun h => ?_)
    | refine forkNe (fun h => ?_) (fun h => ?_)
    | refine forkEq (fun h => ?_) (fun h => ?_)
    | refine forkNot ?_
    | refine ⟨vI64 (by omega), ?_⟩
    | refine And.intro (by omega) ?_
    | apply And.intro
    | exact wk_refl _
    | exact iEq (by omega)
    | exact vI64 (by omega)
  · exact congrArg (fun q => Value.tuple #[cellV (meetC a b), Value.bool q]) (decide_eq_true (p := okC (meetC a b)) ⟨‹_›, ‹_›, ‹_›, ‹_›⟩).symm
  all_goals exact congrArg (fun q => Value.tuple #[cellV (meetC a b), Value.bool q]) (decide_eq_false (p := okC (meetC a b)) (fun o => by first | exact h o.1 | exact h o.2.1 | exact h o.2.2.1 | exact h o.2.2.2)).symm
theorem kspHull (a b : Cell) (H : Heap) : KCall prog F.ice_spans_hull [cellV a, cellV b] H [] (Is (cellV (hullC a b)) H) := by
  refine valK 40 (fun _ => rfl) rfl (Eq.mpr (EspHull _ a b) ?_) H
  unfold RspHull
  repeat' first
    | exact trivial
    | exact rfl
    | refine joinMax ?_ ?_ ?_
    | refine joinMin ?_ ?_ ?_
    | refine toMax ?_
    | refine toMin ?_
    | refine ⟨rfl, ?_⟩
    | refine ⟨trivial, ?_⟩
    | refine forkD (fun h => ?_) (fun h => ?_)
    | refine forkNe (fun h => ?_) (fun h => ?_)
    | refine forkEq (fun h => ?_) (fun h => ?_)
    | refine forkNot ?_
    | refine ⟨vI64 (by omega), ?_⟩
    | refine And.intro (by omega) ?_
    | apply And.intro
    | exact wk_refl _
    | exact iEq (by omega)
    | exact vI64 (by omega)
theorem kspAged (c : Cell) (m : Rates) (h : Int) (hc : rightC c) (hm : rightR m) (hh : 0 ≤ h ∧ h ≤ 10000) (H : Heap) : KCall prog F.ice_spans_aged [cellV c, ratesV m, .int .i64 h] H [] (Is (cellV (ageC c m h)) H) := by
  refine valK 40 (fun _ => rfl) rfl (Eq.mpr (EspAged _ c m h) ?_) H
  unfold RspAged
  obtain ⟨⟨u1, u2, u3, u4⟩, d1, d2, d3, d4⟩ := hm
  obtain ⟨c1, c2, c3, c4⟩ := hc
  unfold rightS at c1 c2 c3 c4
  have b1 := chg_bd u1 hh; have b2 := chg_bd u2 hh; have b3 := chg_bd u3 hh; have b4 := chg_bd u4 hh
  have e1 := chg_bd d1 hh; have e2 := chg_bd d2 hh; have e3 := chg_bd d3 hh; have e4 := chg_bd d4 hh
  repeat' first
    | refine ⟨_, trivial, fun H' _ _ => kchange _ _ (by first
    | exact u1
    | exact u2
    | exact u3
    | exact u4
    | exact d1
    | exact d2
    | exact d3
    | exact d4) hh H', ?_⟩
    | exact trivial
    | exact rfl
    | refine joinMax ?_ ?_ ?_
    | refine joinMin ?_ ?_ ?_
    | refine toMax ?_
    | refine toMin ?_
    | refine ⟨rfl, ?_⟩
    | refine ⟨trivial, ?_⟩
    | refine forkD (fun h => ?_) (fun h => ?_)
    | refine forkNe (fun h => ?_) (fun h => ?_)
    | refine forkEq (fun h => ?_) (fun h => ?_)
    | refine forkNot ?_
    | refine ⟨vI64 (by omega), ?_⟩
    | refine And.intro (by omega) ?_
    | apply And.intro
    | exact wk_refl _
    | exact iEq (by omega)
    | exact vI64 (by omega)
theorem kspIns (a b : Cell) (H : Heap) : KCall prog F.ice_spans_inside [cellV a, cellV b] H [] (Is (.bool (decide (insC a b))) H) := by
  refine valK 40 (fun _ => rfl) rfl (Eq.mpr (EspIns _ a b) ?_) H
  unfold RspIns
  repeat' first
    | exact trivial
    | exact rfl
    | refine joinMax ?_ ?_ ?_
    | refine joinMin ?_ ?_ ?_
    | refine toMax ?_
    | refine toMin ?_
    | refine ⟨rfl, ?_⟩
    | refine ⟨trivial, ?_⟩
    | refine forkD (fun h => ?_) (fun h => ?_)
    | refine forkNe (fun h => ?_) (fun h => ?_)
    | refine forkEq (fun h => ?_) (fun h => ?_)
    | refine forkNot ?_
    | refine ⟨vI64 (by omega), ?_⟩
    | refine And.intro (by omega) ?_
    | apply And.intro
    | exact wk_refl _
    | exact iEq (by omega)
    | exact vI64 (by omega)
  all_goals first | exact bEq (decide_eq_true (by unfold insC insS; omega)).symm | exact bEq (decide_eq_false (by unfold insC insS; omega)).symm
theorem kspHas (c : Cell) (x : Ice) (H : Heap) : KCall prog F.ice_spans_has [cellV c, iceV x] H [] (Is (.bool (decide (hasC c x))) H) := by
  refine valK 40 (fun _ => rfl) rfl (Eq.mpr (EspHas _ c x) ?_) H
  unfold RspHas
  repeat' first
    | exact trivial
    | exact rfl
    | refine joinMax ?_ ?_ ?_
    | refine joinMin ?_ ?_ ?_
    | refine toMax ?_
    | refine toMin ?_
    | refine ⟨rfl, ?_⟩
    | refine ⟨trivial, ?_⟩
    | refine forkD (fun h => ?_) (fun h => ?_)
    | refine forkNe (fun h => ?_) (fun h => ?_)
    | refine forkEq (fun h => ?_) (fun h => ?_)
    | refine forkNot ?_
    | refine ⟨vI64 (by omega), ?_⟩
    | refine And.intro (by omega) ?_
    | apply And.intro
    | exact wk_refl _
    | exact iEq (by omega)
    | exact vI64 (by omega)
  all_goals first | exact bEq (decide_eq_true (by unfold hasC hasS; omega)).symm | exact bEq (decide_eq_false (by unfold hasC hasS; omega)).symm
theorem krContains (c : Cell) (x : Ice) (H : Heap) : KCall prog F.polynyaref01_Contains [cellV c, iceV x] H [] (Is (.bool (decide (hasC c x))) H) := by
  refine valK 40 (fun _ => rfl) rfl (Eq.mpr (ErContains _ c x) ?_) H
  unfold RrContains
  repeat' first
    | exact trivial
    | exact rfl
    | refine joinMax ?_ ?_ ?_
    | refine joinMin ?_ ?_ ?_
    | refine toMax ?_
    | refine toMin ?_
    | refine ⟨rfl, ?_⟩
    | refine ⟨trivial, ?_⟩
    | refine forkD (fun h => ?_) (fun h => ?_)
    | refine forkNe (fun h => ?_) (fun h => ?_)
    | refine forkEq (fun h => ?_) (fun h => ?_)
    | refine forkNot ?_
    | refine ⟨vI64 (by omega), ?_⟩
    | refine And.intro (by omega) ?_
    | apply And.intro
    | exact wk_refl _
    | exact iEq (by omega)
    | exact vI64 (by omega)
  all_goals first | exact bEq (decide_eq_true (by unfold hasC hasS; omega)).symm | exact bEq (decide_eq_false (by unfold hasC hasS; omega)).symm
theorem okC_meet {a b : Cell} (ha : rightC a) (hb : rightC b) : okC (meetC a b) ↔ (b.conc.lo ≤ a.conc.hi ∧ a.conc.lo ≤ b.conc.hi) ∧ (b.thick.lo ≤ a.thick.hi ∧ a.thick.lo ≤ b.thick.hi) ∧ (b.ridge.lo ≤ a.ridge.hi ∧ a.ridge.lo ≤ b.ridge.hi) ∧ (b.press.lo ≤ a.press.hi ∧ a.press.lo ≤ b.press.hi) := by
  obtain ⟨a1, a2, a3, a4⟩ := ha
  obtain ⟨b1, b2, b3, b4⟩ := hb
  have key : ∀ {s t : Span} {m : Int}, rightS s m → rightS t m → ((meetS s t).lo ≤ (meetS s t).hi ↔ t.lo ≤ s.hi ∧ s.lo ≤ t.hi) := by
    intro s t m h1 h2; unfold rightS at h1 h2; simp only [meetS]; omega
  exact and_congr (key a1 b1) (and_congr (key a2 b2) (and_congr (key a3 b3) (key a4 b4)))
theorem krApart (a b : Cell) (ha : rightC a) (hb : rightC b) (H : Heap) : KCall prog F.polynyaref01_Apart [cellV a, cellV b] H [] (Is (.bool (!decide (okC (meetC a b)))) H) := by
  refine valK 40 (fun _ => rfl) rfl (Eq.mpr (ErApart _ a b) ?_) H
  unfold RrApart
  repeat' first
    | exact trivial
    | exact rfl
    | refine joinMax ?_ ?_ ?_
    | refine joinMin ?_ ?_ ?_
    | refine toMax ?_
    | refine toMin ?_
    | refine ⟨rfl, ?_⟩
    | refine ⟨trivial, ?_⟩
    | refine forkD (fun h => ?_) (fun h => ?_)
    | refine forkNe (fun h => ?_) (fun h => ?_)
    | refine forkEq (fun h => ?_) (fun h => ?_)
    | refine forkNot ?_
    | refine ⟨vI64 (by omega), ?_⟩
    | refine And.intro (by omega) ?_
    | apply And.intro
    | exact wk_refl _
    | exact iEq (by omega)
    | exact vI64 (by omega)
  all_goals first | exact bEq (by rw [decide_eq_false (fun o => by have := (okC_meet ha hb).1 o; omega)]; rfl) | exact bEq (by rw [decide_eq_true ((okC_meet ha hb).2 (by omega))]; rfl)
theorem krCommon (a b : Cell) (H : Heap) : KCall prog F.polynyaref01_Common [cellV a, cellV b] H [] (Is (cellV (meetC a b)) H) := by
  refine valK 40 (fun _ => rfl) rfl (Eq.mpr (ErCommon _ a b) ?_) H
  unfold RrCommon
  repeat' first
    | exact trivial
    | exact rfl
    | refine joinMax ?_ ?_ ?_
    | refine joinMin ?_ ?_ ?_
    | refine toMax ?_
    | refine toMin ?_
    | refine ⟨rfl, ?_⟩
    | refine ⟨trivial, ?_⟩
    | refine forkD (fun h => ?_) (fun h => ?_)
    | refine forkNe (fun h => ?_) (fun h => ?_)
    | refine forkEq (fun h => ?_) (fun h => ?_)
    | refine forkNot ?_
    | refine ⟨vI64 (by omega), ?_⟩
    | refine And.intro (by omega) ?_
    | apply And.intro
    | exact wk_refl _
    | exact iEq (by omega)
    | exact vI64 (by omega)
theorem krCover (a b : Cell) (H : Heap) : KCall prog F.polynyaref01_Cover [cellV a, cellV b] H [] (Is (cellV (hullC a b)) H) := by
  refine valK 40 (fun _ => rfl) rfl (Eq.mpr (ErCover _ a b) ?_) H
  unfold RrCover
  repeat' first
    | exact trivial
    | exact rfl
    | refine joinMax ?_ ?_ ?_
    | refine joinMin ?_ ?_ ?_
    | refine toMax ?_
    | refine toMin ?_
    | refine ⟨rfl, ?_⟩
    | refine ⟨trivial, ?_⟩
    | refine forkD (fun h => ?_) (fun h => ?_)
    | refine forkNe (fun h => ?_) (fun h => ?_)
    | refine forkEq (fun h => ?_) (fun h => ?_)
    | refine forkNot ?_
    | refine ⟨vI64 (by omega), ?_⟩
    | refine And.intro (by omega) ?_
    | apply And.intro
    | exact wk_refl _
    | exact iEq (by omega)
    | exact vI64 (by omega)
theorem krOlder (c : Cell) (m : Rates) (h : Int) (hc : rightC c) (hm : rightR m) (hh : 0 ≤ h ∧ h ≤ 10000) (H : Heap) : KCall prog F.polynyaref01_Older [cellV c, ratesV m, .int .i64 h] H [] (Is (cellV (ageC c m h)) H) := by
  refine valK 40 (fun _ => rfl) rfl (Eq.mpr (ErOlder _ c m h) ?_) H
  unfold RrOlder
  obtain ⟨⟨u1, u2, u3, u4⟩, d1, d2, d3, d4⟩ := hm
  obtain ⟨c1, c2, c3, c4⟩ := hc
  unfold rightS at c1 c2 c3 c4
  have b1 := chg_bd u1 hh; have b2 := chg_bd u2 hh; have b3 := chg_bd u3 hh; have b4 := chg_bd u4 hh
  have e1 := chg_bd d1 hh; have e2 := chg_bd d2 hh; have e3 := chg_bd d3 hh; have e4 := chg_bd d4 hh
  repeat' first
    | refine ⟨_, trivial, fun H' _ _ => krchange _ _ (by first
    | exact u1
    | exact u2
    | exact u3
    | exact u4
    | exact d1
    | exact d2
    | exact d3
    | exact d4) hh H', ?_⟩
    | exact trivial
    | exact rfl
    | refine joinMax ?_ ?_ ?_
    | refine joinMin ?_ ?_ ?_
    | refine toMax ?_
    | refine toMin ?_
    | refine ⟨rfl, ?_⟩
    | refine ⟨trivial, ?_⟩
    | refine forkD (fun h => ?_) (fun h => ?_)
    | refine forkNe (fun h => ?_) (fun h => ?_)
    | refine forkEq (fun h => ?_) (fun h => ?_)
    | refine forkNot ?_
    | refine ⟨vI64 (by omega), ?_⟩
    | refine And.intro (by omega) ?_
    | apply And.intro
    | exact wk_refl _
    | exact iEq (by omega)
    | exact vI64 (by omega)
theorem krwithin (a b : Cell) (ha : rightC a) (H : Heap) : KCall prog F.polynyaref01_within [cellV a, cellV b] H [] (Is (.bool (decide (insC a b))) H) := by
  refine valK 40 (fun _ => rfl) rfl (Eq.mpr (Erwithin _ a b) ?_) H
  unfold Rrwithin
  obtain ⟨a1, a2, a3, a4⟩ := ha
  unfold rightS at a1 a2 a3 a4
  repeat' first
    | exact trivial
    | exact rfl
    | refine joinMax ?_ ?_ ?_
    | refine joinMin ?_ ?_ ?_
    | refine toMax ?_
    | refine toMin ?_
    | refine ⟨rfl, ?_⟩
    | refine ⟨trivial, ?_⟩
    | refine forkD (fun h => ?_) (fun h => ?_)
    | refine forkNe (fun h => ?_) (fun h => ?_)
    | refine forkEq (fun h => ?_) (fun h => ?_)
    | refine forkNot ?_
    | refine ⟨vI64 (by omega), ?_⟩
    | refine And.intro (by omega) ?_
    | apply And.intro
    | exact wk_refl _
    | exact iEq (by omega)
    | exact vI64 (by omega)
  all_goals first | exact bEq (decide_eq_true (by unfold insC insS; omega)).symm | exact bEq (decide_eq_false (by unfold insC insS; omega)).symm
def sizeOk (w h t : Int) : Prop := (1 ≤ w ∧ w ≤ 64) ∧ (1 ≤ h ∧ h ≤ 64) ∧ w * h ≤ 1024 ∧ (0 ≤ t ∧ t ≤ 10000)
instance (w h t : Int) : Decidable (sizeOk w h t) := by unfold sizeOk; infer_instance
def errSize (w h t : Int) : Int := if sizeOk w h t then 0 else 6
theorem errSize_iff {w h t : Int} : errSize w h t = 0 ↔ sizeOk w h t := by unfold errSize; split <;> simp_all
theorem ksize (w h t : Int) (H : Heap) : KCall prog F.ice_size [.int .i64 w, .int .i64 h, .int .i64 t] H [] (Is (.int .i64 (errSize w h t)) H) := by
  refine valK 40 (fun _ => rfl) rfl (Eq.mpr (Esize _ w h t) ?_) H
  unfold Rsize
  have mb : (1 ≤ w ∧ w ≤ 64) → (1 ≤ h ∧ h ≤ 64) → 0 ≤ w * h ∧ w * h ≤ 64 * 64 := fun h1 h2 => mulb (by omega) h1.2 (by omega) h2.2
  repeat' first
    | refine ⟨vI64 (by have := mb ⟨‹_›, ‹_›⟩ ⟨‹_›, ‹_›⟩; omega), ?_⟩
    | exact iEq (if_pos (by unfold sizeOk; omega)).symm
    | exact iEq (if_neg (by unfold sizeOk; omega)).symm
    | exact trivial
    | exact rfl
    | refine joinMax ?_ ?_ ?_
    | refine joinMin ?_ ?_ ?_
    | refine toMax ?_
    | refine toMin ?_
    | refine ⟨rfl, ?_⟩
    | refine ⟨trivial, ?_⟩
    | refine forkD (fun h => ?_) (fun h => ?_)
    | refine forkNe (fun h => ?_) (fun h => ?_)
    | refine forkEq (fun h => ?_) (fun h => ?_)
    | refine forkNot ?_
    | refine ⟨vI64 (by omega), ?_⟩
    | refine And.intro (by omega) ?_
    | apply And.intro
    | exact wk_refl _
    | exact iEq (by omega)
    | exact vI64 (by omega)
theorem krsides (w h t : Int) (H : Heap) : KCall prog F.polynyaref01_sides [.int .i64 w, .int .i64 h, .int .i64 t] H [] (Is (.int .i64 (errSize w h t)) H) := by
  refine valK 40 (fun _ => rfl) rfl (Eq.mpr (Ersides _ w h t) ?_) H
  unfold Rrsides
  have mb : (1 ≤ w ∧ w ≤ 64) → (1 ≤ h ∧ h ≤ 64) → 0 ≤ w * h ∧ w * h ≤ 64 * 64 := fun h1 h2 => mulb (by omega) h1.2 (by omega) h2.2
  repeat' first
    | refine ⟨vI64 (by have := mb ⟨by omega, by omega⟩ ⟨by omega, by omega⟩; omega), ?_⟩
    | exact iEq (if_pos (by unfold sizeOk; omega)).symm
    | exact iEq (if_neg (by unfold sizeOk; omega)).symm
    | exact trivial
    | exact rfl
    | refine joinMax ?_ ?_ ?_
    | refine joinMin ?_ ?_ ?_
    | refine toMax ?_
    | refine toMin ?_
    | refine ⟨rfl, ?_⟩
    | refine ⟨trivial, ?_⟩
    | refine forkD (fun h => ?_) (fun h => ?_)
    | refine forkNe (fun h => ?_) (fun h => ?_)
    | refine forkEq (fun h => ?_) (fun h => ?_)
    | refine forkNot ?_
    | refine ⟨vI64 (by omega), ?_⟩
    | refine And.intro (by omega) ?_
    | apply And.intro
    | exact wk_refl _
    | exact iEq (by omega)
    | exact vI64 (by omega)
end
end Go.Proofs.YthcjliffpebjaaaGreat
/- Ice: charts: what functions of charts answer. No condition. -/
namespace Go.Proofs.YthcjliffpebjaaaGreat
set_option linter.unusedSimpArgs false
set_option linter.unusedVariables false
open Go Go.K
noncomputable section
structure Chart where
  w : Int
  h : Int
  hour : Int
  cells : List Cell
def zeroChart : Chart := ⟨0, 0, 0, []⟩
/-- A list by its indices. -/
def tab {α : Type} (f : Nat → α) (n : Nat) : List α := (List.range n).map f
theorem tab_len {α : Type} (f : Nat → α) (n : Nat) : (tab f n).length = n := by simp [tab]
theorem tab_succ {α : Type} (f : Nat → α) (n : Nat) : tab f (n + 1) = tab f n ++ [f n] := by simp [tab, List.range_succ]
theorem tab_get {α : Type} {f : Nat → α} {n k : Nat} {d : α} (h : k < n) : (tab f n).getD k d = f k := by simp [tab, List.getD_eq_getElem?_getD, List.getElem?_range h]
def errChart (w h t : Int) (cs : List Cell) : Int := first2 (errSize w h t) (if (cs.length : Int) = w * h then errs errCell cs else 1)
def fAgeC (w h t : Int) (cs : List Cell) (m : Rates) (n : Int) : Chart × Int :=
  if first2 (errChart w h t cs) (errRates m) = 0 then (if 0 ≤ n ∧ n ≤ 10000 - t then (⟨w, h, t + n, tab (fun k => ageC (cs.getD k zeroC) m n) cs.length⟩, 0) else (zeroChart, 6)) else (zeroChart, first2 (errChart w h t cs) (errRates m))
def errPair (w h t : Int) (cs : List Cell) (w' h' t' : Int) (ds : List Cell) : Int :=
  if first2 (errChart w h t cs) (errChart w' h' t' ds) = 0 then (if w = w' ∧ h = h' ∧ t = t' then 0 else 1) else first2 (errChart w h t cs) (errChart w' h' t' ds)
def meetAt (cs ds : List Cell) (k : Nat) : Cell := meetC (cs.getD k zeroC) (ds.getD k zeroC)
def hullAt (cs ds : List Cell) (k : Nat) : Cell := hullC (cs.getD k zeroC) (ds.getD k zeroC)
def okTo (cs ds : List Cell) (n : Nat) : Prop := ∀ k, k < n → okC (meetAt cs ds k)
def insTo (cs ds : List Cell) (n : Nat) : Prop := ∀ k, k < n → insC (cs.getD k zeroC) (ds.getD k zeroC)
def hasTo (cs : List Cell) (xs : List Ice) (n : Nat) : Prop := ∀ k, k < n → hasC (cs.getD k zeroC) (xs.getD k zeroI)
open Classical in
def fMeetC (w h t : Int) (cs : List Cell) (w' h' t' : Int) (ds : List Cell) : Chart × Int :=
  if errPair w h t cs w' h' t' ds = 0 then (if okTo cs ds cs.length then (⟨w, h, t, tab (meetAt cs ds) cs.length⟩, 0) else (zeroChart, 21)) else (zeroChart, errPair w h t cs w' h' t' ds)
def fHullC (w h t : Int) (cs : List Cell) (w' h' t' : Int) (ds : List Cell) : Chart × Int :=
  if errPair w h t cs w' h' t' ds = 0 then (⟨w, h, t, tab (hullAt cs ds) cs.length⟩, 0) else (zeroChart, errPair w h t cs w' h' t' ds)
open Classical in
def fInsC (w h t : Int) (cs : List Cell) (w' h' t' : Int) (ds : List Cell) : Bool × Int :=
  if errPair w h t cs w' h' t' ds = 0 then (decide (insTo cs ds cs.length), 0) else (false, errPair w h t cs w' h' t' ds)
open Classical in
def fHolds (w h t : Int) (cs : List Cell) (xs : List Ice) : Bool × Int :=
  if errChart w h t cs = 0 then (if xs.length = cs.length then (if errs errIce xs = 0 then (decide (hasTo cs xs xs.length), 0) else (false, errs errIce xs)) else (false, 1)) else (false, errChart w h t cs)
end
end Go.Proofs.YthcjliffpebjaaaGreat
