/- Ice: plain facts of cells. No condition. -/
import Derived.Test.YthcjliffpebjaaaI1
namespace Go.Proofs.Ythcjliffpebjaaa
open Go Go.K
noncomputable section
theorem chg_add {r h k : Int} (hr : 0 ≤ r) (hh : 0 ≤ h) (hk : 0 ≤ k) : 0 ≤ chg r h ∧ 0 ≤ chg r k ∧ chg r h ≤ chg r (h + k) ∧ chg r k ≤ chg r (h + k) ∧ chg r (h + k) ≤ chg r h + chg r k ∧ chg r h + chg r k ≤ chg r (h + k) + 1 := by
  have h1 := Int.mul_nonneg hr hh
  have h2 := Int.mul_nonneg hr hk
  unfold chg
  rw [Int.mul_add]
  omega
theorem chg_nn {r h : Int} (hr : 0 ≤ r) (hh : 0 ≤ h) : 0 ≤ chg r h := by
  have h1 := Int.mul_nonneg hr hh
  unfold chg; omega
theorem insS_refl (s : Span) : insS s s := ⟨Int.le_refl _, Int.le_refl _⟩
theorem ageS_right {s : Span} {u d h m : Int} (hs : rightS s m) (hu : 0 ≤ u) (hd : 0 ≤ d) (hh : 0 ≤ h) : rightS (ageS s u d h m) m ∧ insS s (ageS s u d h m) := by
  have a := chg_nn hu hh
  have b := chg_nn hd hh
  unfold rightS insS ageS at *
  simp only
  omega
theorem ageS_mono {s t : Span} {u d h m : Int} (i : insS s t) : insS (ageS s u d h m) (ageS t u d h m) := by
  unfold insS ageS at *
  simp only
  omega
theorem ageS_more {s : Span} {u d h k m : Int} (hs : rightS s m) (hu : 0 ≤ u) (hd : 0 ≤ d) (hh : 0 ≤ h) (hk : 0 ≤ k) :
    insS (ageS s u d h m) (ageS s u d (h + k) m) ∧ insS (ageS s u d (h + k) m) (ageS (ageS s u d h m) u d k m) ∧
    (ageS s u d (h + k) m).lo - (ageS (ageS s u d h m) u d k m).lo ≤ 1 ∧ (ageS (ageS s u d h m) u d k m).hi - (ageS s u d (h + k) m).hi ≤ 1 := by
  obtain ⟨a1, a2, a3, a4, a5, a6⟩ := chg_add hu hh hk
  obtain ⟨b1, b2, b3, b4, b5, b6⟩ := chg_add hd hh hk
  unfold rightS at hs
  unfold insS ageS
  simp only
  omega
theorem ageC_right {c : Cell} {m : Rates} {h : Int} (hc : rightC c) (hm : rightR m) (hh : 0 ≤ h) : rightC (ageC c m h) ∧ insC c (ageC c m h) := by
  obtain ⟨c1, c2, c3, c4⟩ := hc
  obtain ⟨⟨u1, u2, u3, u4⟩, d1, d2, d3, d4⟩ := hm
  have e1 := ageS_right c1 u1.1 d1.1 hh
  have e2 := ageS_right c2 u2.1 d2.1 hh
  have e3 := ageS_right c3 u3.1 d3.1 hh
  have e4 := ageS_right c4 u4.1 d4.1 hh
  exact ⟨⟨e1.1, e2.1, e3.1, e4.1⟩, e1.2, e2.2, e3.2, e4.2⟩
theorem ageC_mono {a b : Cell} {m : Rates} {h : Int} (i : insC a b) : insC (ageC a m h) (ageC b m h) :=
  ⟨ageS_mono i.1, ageS_mono i.2.1, ageS_mono i.2.2.1, ageS_mono i.2.2.2⟩
theorem hullC_right {a b : Cell} (ha : rightC a) (hb : rightC b) : rightC (hullC a b) ∧ insC a (hullC a b) := by
  obtain ⟨⟨_, _, _, _⟩, ⟨_, _, _, _⟩, ⟨_, _, _, _⟩, _, _, _, _⟩ := ha
  obtain ⟨⟨_, _, _, _⟩, ⟨_, _, _, _⟩, ⟨_, _, _, _⟩, _, _, _, _⟩ := hb
  unfold rightC rightS insC insS hullC hullS
  simp only
  omega
theorem fHull_ok {a b : Cell} (ha : rightC a) (hb : rightC b) : fHull a b = (hullC a b, 0) := fHull_3 (errCell_pos ha) (errCell_pos hb)
theorem fAge_ok {c : Cell} {m : Rates} {h : Int} (hc : rightC c) (hm : rightR m) (h0 : 0 ≤ h) (h1 : h ≤ 10000) : fAge c m h = (ageC c m h, 0) := fAge_4 (errCell_pos hc) (errRates_pos hm) ⟨h0, h1⟩
theorem fInside_ok {a b : Cell} (ha : rightC a) (hb : rightC b) : fInside a b = (decide (insC a b), 0) := fInside_3 (errCell_pos ha) (errCell_pos hb) rfl

/-! ## Steps in what is to be shown -/
theorem ansI {α : Type} {g : FuncId} {args : List Value} {n : Nat} {v : α → Value} {Q : α → Prop} (x : α) (hk : ∀ H : Heap, KCall Try.prog g args H [] (Is (v x) H)) (h : ∀ r, r = x → Q r) :
    ∃ r : α, True ∧ (∀ H' : Heap, H'.length = n → True → KCall Try.prog g args H' [] (Is (v r) H')) ∧ Q r := ⟨x, trivial, fun H' _ _ => hk H', h x rfl⟩
theorem nameI {t : Int} {Q : Int → Prop} (h : ∀ y, y = t → Q y) : ∃ y : Int, (Value.int .i64 t) = .int .i64 y ∧ Q y := ⟨t, rfl, h t rfl⟩
theorem ansA {n : Nat} {Q : Prop} (hk : ∀ H : Heap, KCall Try.prog 8 [] H [] (Is (.bool true) H)) (h : Q) : True ∧ (∀ H' : Heap, H'.length = n → True → KCall Try.prog 8 [] H' [] (Is (.bool true) H')) ∧ Q := ⟨trivial, fun H' _ _ => hk H', h⟩
/-- A span made right. -/
theorem span_right {x y lo hi : Int} {m : Int} (hm : 0 ≤ m) {a b : Int} (ha : a = x % (m + 1)) (hb : b = y % (m + 1)) (h1 : lo = if b < a then b else a) (h2 : hi = if b > a then b else a) : rightS ⟨lo, hi⟩ m := by
  have := Int.emod_nonneg x (show m + 1 ≠ 0 by omega)
  have := Int.emod_lt_of_pos x (show 0 < m + 1 by omega)
  have := Int.emod_nonneg y (show m + 1 ≠ 0 by omega)
  have := Int.emod_lt_of_pos y (show 0 < m + 1 by omega)
  unfold rightS
  simp only
  rw [h1, h2]
  refine ⟨?_, ?_, ?_, ?_⟩ <;> (repeat' split) <;> omega
theorem partA_lit {n off : Nat} {pre mid tl : List Value} (h1 : pre.length = off) (h2 : mid.length = n) : partA n (pre ++ (mid ++ tl)) off = some (.agg ⟨mid⟩) := by
  subst h1; subst h2
  unfold partA
  rw [if_pos (by simp)]
  simp
end
end Go.Proofs.Ythcjliffpebjaaa
