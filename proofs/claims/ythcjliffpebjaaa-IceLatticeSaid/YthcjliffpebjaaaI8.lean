/- Ice: plain facts of what cells have in common. No condition. -/
import Derived.Test.YthcjliffpebjaaaI5
namespace Go.Proofs.Ythcjliffpebjaaa
open Go Go.K
set_option linter.unusedVariables false
noncomputable section
theorem span_ext {s t : Span} (h1 : s.lo = t.lo) (h2 : s.hi = t.hi) : s = t := by cases s; cases t; cases h1; cases h2; rfl
theorem cell_ext {a b : Cell} (h1 : a.conc = b.conc) (h2 : a.thick = b.thick) (h3 : a.ridge = b.ridge) (h4 : a.press = b.press) : a = b := by cases a; cases b; cases h1; cases h2; cases h3; cases h4; rfl
theorem span_iff {s t : Span} : s = t ↔ s.lo = t.lo ∧ s.hi = t.hi := ⟨fun h => by rw [h]; exact ⟨rfl, rfl⟩, fun h => span_ext h.1 h.2⟩
theorem cell_iff {a b : Cell} : a = b ↔ (a.conc.lo = b.conc.lo ∧ a.conc.hi = b.conc.hi) ∧ (a.thick.lo = b.thick.lo ∧ a.thick.hi = b.thick.hi) ∧ (a.ridge.lo = b.ridge.lo ∧ a.ridge.hi = b.ridge.hi) ∧ a.press.lo = b.press.lo ∧ a.press.hi = b.press.hi :=
  ⟨fun h => by rw [h]; exact ⟨⟨rfl, rfl⟩, ⟨rfl, rfl⟩, ⟨rfl, rfl⟩, rfl, rfl⟩, fun ⟨h1, h2, h3, h4⟩ => cell_ext (span_iff.2 h1) (span_iff.2 h2) (span_iff.2 h3) (span_iff.2 h4)⟩
instance (a b : Cell) : Decidable (a = b) := decidable_of_iff _ cell_iff.symm
theorem eqc (a b : Cell) : ((((a.conc.lo : Int) == b.conc.lo) && (((a.conc.hi : Int) == b.conc.hi) && true)) && ((((a.thick.lo : Int) == b.thick.lo) && (((a.thick.hi : Int) == b.thick.hi) && true)) && ((((a.ridge.lo : Int) == b.ridge.lo) && (((a.ridge.hi : Int) == b.ridge.hi) && true)) && ((((a.press.lo : Int) == b.press.lo) && (((a.press.hi : Int) == b.press.hi) && true)) && true)))) = decide (a = b) := by
  rw [Bool.eq_iff_iff, decide_eq_true_eq, cell_iff]
  simp only [Bool.and_eq_true, beq_iff_eq, and_true]
theorem meetC_comm (a b : Cell) : meetC a b = meetC b a := by
  unfold meetC meetS
  rw [Int.max_comm a.conc.lo, Int.min_comm a.conc.hi, Int.max_comm a.thick.lo, Int.min_comm a.thick.hi, Int.max_comm a.ridge.lo, Int.min_comm a.ridge.hi, Int.max_comm a.press.lo, Int.min_comm a.press.hi]
theorem hullC_comm (a b : Cell) : hullC a b = hullC b a := by
  unfold hullC hullS
  rw [Int.min_comm a.conc.lo, Int.max_comm a.conc.hi, Int.min_comm a.thick.lo, Int.max_comm a.thick.hi, Int.min_comm a.ridge.lo, Int.max_comm a.ridge.hi, Int.min_comm a.press.lo, Int.max_comm a.press.hi]
theorem meetC_assoc (a b c : Cell) : meetC (meetC a b) c = meetC a (meetC b c) := by
  unfold meetC meetS
  simp only [Int.max_assoc, Int.min_assoc]
theorem hullC_assoc (a b c : Cell) : hullC (hullC a b) c = hullC a (hullC b c) := by
  unfold hullC hullS
  simp only [Int.max_assoc, Int.min_assoc]
theorem meetC_self {a : Cell} : meetC a a = a := by
  unfold meetC meetS
  rw [cell_iff]; simp only [Int.max_self, Int.min_self, and_self]
theorem rightC_ok {a : Cell} (h : rightC a) : okC a := by
  unfold rightC rightS at h; unfold okC; omega
theorem meetS_right {s t : Span} {m : Int} (hs : rightS s m) (ht : rightS t m) (h : (meetS s t).lo ≤ (meetS s t).hi) : rightS (meetS s t) m := by
  unfold rightS meetS at *; simp only at *; omega
theorem meetC_right {a b : Cell} (ha : rightC a) (hb : rightC b) (h : okC (meetC a b)) : rightC (meetC a b) :=
  ⟨meetS_right ha.1 hb.1 h.1, meetS_right ha.2.1 hb.2.1 h.2.1, meetS_right ha.2.2.1 hb.2.2.1 h.2.2.1, meetS_right ha.2.2.2 hb.2.2.2 h.2.2.2⟩
theorem meetS_ins {s t : Span} : insS s t ↔ meetS s t = s := by
  rw [span_iff]; unfold insS meetS; simp only; omega
theorem hullS_ins {s t : Span} : insS s t ↔ hullS s t = t := by
  rw [span_iff]; unfold insS hullS; simp only; omega
theorem cell_spans {a b : Cell} : a = b ↔ a.conc = b.conc ∧ a.thick = b.thick ∧ a.ridge = b.ridge ∧ a.press = b.press :=
  ⟨fun h => by rw [h]; exact ⟨rfl, rfl, rfl, rfl⟩, fun ⟨h1, h2, h3, h4⟩ => cell_ext h1 h2 h3 h4⟩
theorem meetC_ins' {a b : Cell} : insC a b ↔ meetC a b = a := by
  rw [cell_spans]; unfold insC; rw [meetS_ins, meetS_ins, meetS_ins, meetS_ins]; exact Iff.rfl
theorem meetC_ins {a b : Cell} (ha : rightC a) : insC a b ↔ (okC (meetC a b) ∧ meetC a b = a) := by
  rw [meetC_ins']
  exact ⟨fun h => ⟨by rw [h]; exact rightC_ok ha, h⟩, fun h => h.2⟩
theorem hullC_ins {a b : Cell} : insC a b ↔ hullC a b = b := by
  rw [cell_spans]; unfold insC; rw [hullS_ins, hullS_ins, hullS_ins, hullS_ins]; exact Iff.rfl
theorem okS_more {s t u : Span} (h : (meetS (meetS s t) u).lo ≤ (meetS (meetS s t) u).hi) : (meetS s t).lo ≤ (meetS s t).hi ∧ (meetS t u).lo ≤ (meetS t u).hi := by
  unfold meetS at *; simp only at *; omega
theorem okC_more {a b c : Cell} (h : okC (meetC (meetC a b) c)) : okC (meetC a b) ∧ okC (meetC b c) := by
  have h1 := okS_more h.1
  have h2 := okS_more h.2.1
  have h3 := okS_more h.2.2.1
  have h4 := okS_more h.2.2.2
  exact ⟨⟨h1.1, h2.1, h3.1, h4.1⟩, h1.2, h2.2, h3.2, h4.2⟩
theorem hasS_meet {s t : Span} {x : Int} : hasS (meetS s t) x ↔ hasS s x ∧ hasS t x := by
  unfold hasS meetS; simp only; omega
theorem hasC_meet {a b : Cell} {x : Ice} : hasC (meetC a b) x ↔ hasC a x ∧ hasC b x := by
  unfold hasC meetC
  simp only [hasS_meet]
  constructor
  · rintro ⟨⟨a1, b1⟩, ⟨a2, b2⟩, ⟨a3, b3⟩, a4, b4⟩; exact ⟨⟨a1, a2, a3, a4⟩, b1, b2, b3, b4⟩
  · rintro ⟨⟨a1, a2, a3, a4⟩, b1, b2, b3, b4⟩; exact ⟨⟨a1, b1⟩, ⟨a2, b2⟩, ⟨a3, b3⟩, a4, b4⟩
theorem hasC_ok {a : Cell} {x : Ice} (h : hasC a x) : okC a := by
  unfold hasC hasS at h; unfold okC; omega
theorem fMeet_ok {a b : Cell} (ha : rightC a) (hb : rightC b) : fMeet a b = if okC (meetC a b) then (meetC a b, 0) else (zeroC, 21) := by
  split
  · exact fMeet_4 (errCell_pos ha) (errCell_pos hb) ‹_›
  · exact fMeet_3 (errCell_pos ha) (errCell_pos hb) ‹_›
theorem fHas_ok {a : Cell} {x : Ice} (ha : rightC a) (hx : rightI x) : fHas a x = (decide (hasC a x), 0) := fHas_3 (errCell_pos ha) (errIce_pos hx) rfl
theorem stepF {C : Bool} {Q : Prop} (h : C = false) (q : Q) : (C = true → (Value.bool false) = .bool true) ∧ (C = false → Q) := ⟨fun h' => (by rw [h] at h'; cases h'), fun _ => q⟩
theorem stepR {C : Bool} {A B : Prop} (h : C = false) (q : B) : (C = true → A) ∧ (C = false → B) := ⟨fun h' => (by rw [h] at h'; cases h'), fun _ => q⟩
theorem stepL {C : Bool} {A B : Prop} (h : C = true) (q : A) : (C = true → A) ∧ (C = false → B) := ⟨fun _ => q, fun h' => (by rw [h] at h'; cases h')⟩
end
end Go.Proofs.Ythcjliffpebjaaa
