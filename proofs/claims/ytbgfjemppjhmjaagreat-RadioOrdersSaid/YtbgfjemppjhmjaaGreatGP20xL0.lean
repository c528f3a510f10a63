/- Radio: messages in any order: the law. No condition. -/
import Derived.Test.YtbgfjemppjhmjaaGreatGA1xW14
import Derived.Test.YtbgfjemppjhmjaaGreatO20g
import Derived.Test.YtbgfjemppjhmjaaGreatRows
import Derived.JoinedCond
import Derived.Test.YtbgfjemppjhmjaaGreatGW2xP2
import Derived.Test.YtbgfjemppjhmjaaGreatGK27xW1
namespace Go.Proofs.YtbgfjemppjhmjaaGreat
open Go Go.K
set_option maxRecDepth 100000
set_option linter.unusedVariables false
set_option linter.unusedSimpArgs false
noncomputable section
attribute [local irreducible] vF
theorem kFillS {l : List Msg} (hk : ∀ m ∈ l, okM m = true) (hl : l.length <= 1500) {H : Heap} {i : Nat} {o z} (hi : H[i]? = some (.cells o z (l.flatMap msgC))) {m n : Nat} (hm : l.length = m) (hn : H.length = n) :
  KCall prog 26 [.slice (some ⟨i, 0, none⟩) m m] H [] (Is (.tuple #[.pointer (some ⟨n, 0, none⟩), .bool true]) (H ++ [.cells true 0 [.map (some (n + 1))], .map (heldE (addAll l))])) := by
 subst hm; subst hn
 exact KCall.wkA (kFilled hk hl hi) (wks_cons (wk_RF rfl) wks_nil)
theorem kFillQ {l : List Msg} (hk : ∀ m ∈ l, okM m = true) (hl : l.length <= 1500) {H : Heap} {i : Nat} {o z} (hi : H[i]? = some (.cells o z (l.flatMap msgC))) {n : Nat} (hn : H.length = n) :
  KCall prog 26 [.slice (some ⟨i, 0, some 1⟩) l.length l.length] H [] (Is (.tuple #[.pointer (some ⟨n, 0, none⟩), .bool true]) (H ++ [.cells true 0 [.map (some (n + 1))], .map (heldE (addAll l))])) := by
 subst hn
 exact KCall.wkA (kFilled hk hl hi) (wks_cons wk_QR wks_nil)
structure Ex (l O Y0 Y1 Y2 : List Msg) : Prop where
 ho : ∀ m, m ∈ l ↔ m ∈ O
 hy : ∀ m, m ∈ l ↔ m ∈ Y0 ∨ m ∈ Y1 ∨ m ∈ Y2
 lo : O.length <= 400
 l0 : Y0.length <= 400
 l1 : Y1.length <= 400
 l2 : Y2.length <= 400
structure OrdJ (l : List Msg) (s : OSt) : Prop where
 mo : ∀ m, m ∈ l ↔ m ∈ s.o ∨ m ∈ s.c.take s.r
 mp : ∀ m, m ∈ l ↔ m ∈ s.p0 ∨ m ∈ s.p1 ∨ m ∈ s.p2 ∨ m ∈ s.c.take s.r
 rl : s.r <= s.c.length
 cl : s.c.length = l.length
 ol : s.o.length <= 301
 pl : s.p0.length + s.p1.length + s.p2.length = s.o.length
 dl : 0 <= s.d /\ s.d = 3 * (s.o.length : Int)
theorem OrdI.j {l : List Msg} {s : OSt} (h : OrdI l s) : OrdJ l s := ⟨h.mo, h.mp, h.rl, h.cl, by have := h.ol; omega, h.pl, h.dl⟩
theorem OrdJ.i {l : List Msg} {s : OSt} (h : OrdJ l s) (ho : s.o.length <= 300) : OrdI l s := ⟨h.mo, h.mp, h.rl, h.cl, ho, h.pl, h.dl⟩
theorem ex_0 {l : List Msg} {s : OSt} (h : OrdJ l s) (h0 : s.r = 0) : Ex l s.o s.p0 s.p1 s.p2 := by
 have h1 := h.ol
 have h2 := h.pl
 refine ⟨fun m => ?_, fun m => ?_, by omega, by omega, by omega, by omega⟩
 ·rw [h.mo, h0, List.take_zero]; simp
 ·rw [h.mp, h0, List.take_zero]; simp
theorem ex_1 {l : List Msg} {s : OSt} (hl : l.length <= 40) (h : OrdJ l s) : Ex l (s.o ++ s.c.take s.r) (s.p0 ++ s.c.take s.r) s.p1 s.p2 := by
 have h1 := h.ol
 have h2 := h.pl
 have h3 := h.cl
 have h4 : (s.c.take s.r).length <= 40 := by rw [List.length_take]; omega
 refine ⟨fun m => ?_, fun m => ?_, by rw [List.length_append]; omega, by rw [List.length_append]; omega, by omega, by omega⟩
 ·rw [h.mo, List.mem_append]
 ·rw [h.mp, List.mem_append]
  simp only [or_assoc, or_comm, or_left_comm]
theorem ac0 {a b c e t : Prop} : (a ∨ b ∨ c ∨ (e ∨ t)) ↔ ((a ∨ e) ∨ b ∨ c ∨ t) := by simp only [or_assoc, or_comm, or_left_comm]
theorem ac1 {a b c e t : Prop} : (a ∨ b ∨ c ∨ (e ∨ t)) ↔ (a ∨ (b ∨ e) ∨ c ∨ t) := by simp only [or_assoc, or_comm, or_left_comm]
theorem ac2 {a b c e t : Prop} : (a ∨ b ∨ c ∨ (e ∨ t)) ↔ (a ∨ b ∨ (c ∨ e) ∨ t) := by simp only [or_assoc, or_comm, or_left_comm]
theorem take_in {C : List Msg} {r i : Nat} (hr : r <= C.length) (hi : i < r) : C.getD i zeroM ∈ C.take r := (swap_mem hr hi _).2 (.inl rfl)
theorem rem_take {C : List Msg} {r i q : Nat} (hr : r <= C.length) (hi : i < r) (hq : q = r - 1) (m : Msg) : m ∈ C.take r ↔ m = C.getD i zeroM ∨ m ∈ (C.set i (C.getD (r - 1) zeroM)).take q := by rw [hq]; exact swap_mem hr hi m
theorem keep_take {C : List Msg} {r i : Nat} (hr : r <= C.length) (hi : i < r) (m : Msg) : m ∈ C.take r ↔ m = C.getD i zeroM ∨ m ∈ C.take r :=
 ⟨.inr, fun h => h.elim (fun e => by rw [e]; exact take_in hr hi) _root_.id⟩
theorem step_00 {l : List Msg} {x : OSt} (h : OrdI l x) {i : Nat} (hi : i < x.r) : OrdJ l ⟨x.o ++ [x.c.getD i zeroM], x.c, x.r, x.p0 ++ [x.c.getD i zeroM], x.p1, x.p2, x.d + 1 + 1 + 1⟩ := by
 have h1 := h.rl
 have h2 := h.ol
 have h3 := h.pl
 have h4 := h.dl
 have h5 := h.cl
 have ht := fun m => keep_take h1 hi m
 refine ⟨fun m => ?_, fun m => ?_, h1, h5, by show (x.o ++ [x.c.getD i zeroM]).length <= 301; rw [List.length_append]; simp only [List.length_cons, List.length_nil]; omega, ?_, ?_⟩
 ·show m ∈ l ↔ m ∈ x.o ++ [x.c.getD i zeroM] ∨ _
  refine (h.mo m).trans ?_
  rw [List.mem_append, List.mem_singleton, or_assoc]
  exact or_congr Iff.rfl (ht m)
 ·show m ∈ l ↔ m ∈ x.p0 ++ [x.c.getD i zeroM] ∨ m ∈ x.p1 ∨ m ∈ x.p2 ∨ _
  refine (h.mp m).trans ?_
  rw [List.mem_append, List.mem_singleton]
  exact (or_congr Iff.rfl (or_congr Iff.rfl (or_congr Iff.rfl (ht m)))).trans ac0
 ·show (x.p0 ++ [x.c.getD i zeroM]).length + (x.p1).length + (x.p2).length = (x.o ++ [x.c.getD i zeroM]).length
  rw [List.length_append, List.length_append]; simp only [List.length_cons, List.length_nil]; omega
 ·show 0 <= x.d + 1 + 1 + 1 /\ x.d + 1 + 1 + 1 = 3 * ((x.o ++ [x.c.getD i zeroM]).length : Int)
  rw [List.length_append]; simp only [List.length_cons, List.length_nil]; omega
theorem step_01 {l : List Msg} {x : OSt} (h : OrdI l x) {i : Nat} (hi : i < x.r) : OrdJ l ⟨x.o ++ [x.c.getD i zeroM], x.c.set i (x.c.getD (x.r - 1) zeroM), Int.toNat (((x.r : Nat) : Int) - 1), x.p0 ++ [x.c.getD i zeroM], x.p1, x.p2, x.d + 1 + 1 + 1⟩ := by
 have h1 := h.rl
 have h2 := h.ol
 have h3 := h.pl
 have h4 := h.dl
 have h5 := h.cl
 have ht := fun m => rem_take h1 hi (q := Int.toNat (((x.r : Nat) : Int) - 1)) (by omega) m
 refine ⟨fun m => ?_, fun m => ?_, by show Int.toNat (((x.r : Nat) : Int) - 1) <= (x.c.set i (x.c.getD (x.r - 1) zeroM)).length; rw [List.length_set]; omega, by show (x.c.set i (x.c.getD (x.r - 1) zeroM)).length = l.length; rw [List.length_set]; exact h5, by show (x.o ++ [x.c.getD i zeroM]).length <= 301; rw [List.length_append]; simp only [List.length_cons, List.length_nil]; omega, ?_, ?_⟩
 ·show m ∈ l ↔ m ∈ x.o ++ [x.c.getD i zeroM] ∨ _
  refine (h.mo m).trans ?_
  rw [List.mem_append, List.mem_singleton, or_assoc]
  exact or_congr Iff.rfl (ht m)
 ·show m ∈ l ↔ m ∈ x.p0 ++ [x.c.getD i zeroM] ∨ m ∈ x.p1 ∨ m ∈ x.p2 ∨ _
  refine (h.mp m).trans ?_
  rw [List.mem_append, List.mem_singleton]
  exact (or_congr Iff.rfl (or_congr Iff.rfl (or_congr Iff.rfl (ht m)))).trans ac0
 ·show (x.p0 ++ [x.c.getD i zeroM]).length + (x.p1).length + (x.p2).length = (x.o ++ [x.c.getD i zeroM]).length
  rw [List.length_append, List.length_append]; simp only [List.length_cons, List.length_nil]; omega
 ·show 0 <= x.d + 1 + 1 + 1 /\ x.d + 1 + 1 + 1 = 3 * ((x.o ++ [x.c.getD i zeroM]).length : Int)
  rw [List.length_append]; simp only [List.length_cons, List.length_nil]; omega
theorem step_10 {l : List Msg} {x : OSt} (h : OrdI l x) {i : Nat} (hi : i < x.r) : OrdJ l ⟨x.o ++ [x.c.getD i zeroM], x.c, x.r, x.p0, x.p1 ++ [x.c.getD i zeroM], x.p2, x.d + 1 + 1 + 1⟩ := by
 have h1 := h.rl
 have h2 := h.ol
 have h3 := h.pl
 have h4 := h.dl
 have h5 := h.cl
 have ht := fun m => keep_take h1 hi m
 refine ⟨fun m => ?_, fun m => ?_, h1, h5, by show (x.o ++ [x.c.getD i zeroM]).length <= 301; rw [List.length_append]; simp only [List.length_cons, List.length_nil]; omega, ?_, ?_⟩
 ·show m ∈ l ↔ m ∈ x.o ++ [x.c.getD i zeroM] ∨ _
  refine (h.mo m).trans ?_
  rw [List.mem_append, List.mem_singleton, or_assoc]
  exact or_congr Iff.rfl (ht m)
 ·show m ∈ l ↔ m ∈ x.p0 ∨ m ∈ x.p1 ++ [x.c.getD i zeroM] ∨ m ∈ x.p2 ∨ _
  refine (h.mp m).trans ?_
  rw [List.mem_append, List.mem_singleton]
  exact (or_congr Iff.rfl (or_congr Iff.rfl (or_congr Iff.rfl (ht m)))).trans ac1
 ·show (x.p0).length + (x.p1 ++ [x.c.getD i zeroM]).length + (x.p2).length = (x.o ++ [x.c.getD i zeroM]).length
  rw [List.length_append, List.length_append]; simp only [List.length_cons, List.length_nil]; omega
 ·show 0 <= x.d + 1 + 1 + 1 /\ x.d + 1 + 1 + 1 = 3 * ((x.o ++ [x.c.getD i zeroM]).length : Int)
  rw [List.length_append]; simp only [List.length_cons, List.length_nil]; omega
theorem step_11 {l : List Msg} {x : OSt} (h : OrdI l x) {i : Nat} (hi : i < x.r) : OrdJ l ⟨x.o ++ [x.c.getD i zeroM], x.c.set i (x.c.getD (x.r - 1) zeroM), Int.toNat (((x.r : Nat) : Int) - 1), x.p0, x.p1 ++ [x.c.getD i zeroM], x.p2, x.d + 1 + 1 + 1⟩ := by
 have h1 := h.rl
 have h2 := h.ol
 have h3 := h.pl
 have h4 := h.dl
 have h5 := h.cl
 have ht := fun m => rem_take h1 hi (q := Int.toNat (((x.r : Nat) : Int) - 1)) (by omega) m
 refine ⟨fun m => ?_, fun m => ?_, by show Int.toNat (((x.r : Nat) : Int) - 1) <= (x.c.set i (x.c.getD (x.r - 1) zeroM)).length; rw [List.length_set]; omega, by show (x.c.set i (x.c.getD (x.r - 1) zeroM)).length = l.length; rw [List.length_set]; exact h5, by show (x.o ++ [x.c.getD i zeroM]).length <= 301; rw [List.length_append]; simp only [List.length_cons, List.length_nil]; omega, ?_, ?_⟩
 ·show m ∈ l ↔ m ∈ x.o ++ [x.c.getD i zeroM] ∨ _
  refine (h.mo m).trans ?_
  rw [List.mem_append, List.mem_singleton, or_assoc]
  exact or_congr Iff.rfl (ht m)
 ·show m ∈ l ↔ m ∈ x.p0 ∨ m ∈ x.p1 ++ [x.c.getD i zeroM] ∨ m ∈ x.p2 ∨ _
  refine (h.mp m).trans ?_
  rw [List.mem_append, List.mem_singleton]
  exact (or_congr Iff.rfl (or_congr Iff.rfl (or_congr Iff.rfl (ht m)))).trans ac1
 ·show (x.p0).length + (x.p1 ++ [x.c.getD i zeroM]).length + (x.p2).length = (x.o ++ [x.c.getD i zeroM]).length
  rw [List.length_append, List.length_append]; simp only [List.length_cons, List.length_nil]; omega
 ·show 0 <= x.d + 1 + 1 + 1 /\ x.d + 1 + 1 + 1 = 3 * ((x.o ++ [x.c.getD i zeroM]).length : Int)
  rw [List.length_append]; simp only [List.length_cons, List.length_nil]; omega
theorem step_20 {l : List Msg} {x : OSt} (h : OrdI l x) {i : Nat} (hi : i < x.r) : OrdJ l ⟨x.o ++ [x.c.getD i zeroM], x.c, x.r, x.p0, x.p1, x.p2 ++ [x.c.getD i zeroM], x.d + 1 + 1 + 1⟩ := by
 have h1 := h.rl
 have h2 := h.ol
 have h3 := h.pl
 have h4 := h.dl
 have h5 := h.cl
 have ht := fun m => keep_take h1 hi m
 refine ⟨fun m => ?_, fun m => ?_, h1, h5, by show (x.o ++ [x.c.getD i zeroM]).length <= 301; rw [List.length_append]; simp only [List.length_cons, List.length_nil]; omega, ?_, ?_⟩
 ·show m ∈ l ↔ m ∈ x.o ++ [x.c.getD i zeroM] ∨ _
  refine (h.mo m).trans ?_
  rw [List.mem_append, List.mem_singleton, or_assoc]
  exact or_congr Iff.rfl (ht m)
 ·show m ∈ l ↔ m ∈ x.p0 ∨ m ∈ x.p1 ∨ m ∈ x.p2 ++ [x.c.getD i zeroM] ∨ _
  refine (h.mp m).trans ?_
  rw [List.mem_append, List.mem_singleton]
  exact (or_congr Iff.rfl (or_congr Iff.rfl (or_congr Iff.rfl (ht m)))).trans ac2
 ·show (x.p0).length + (x.p1).length + (x.p2 ++ [x.c.getD i zeroM]).length = (x.o ++ [x.c.getD i zeroM]).length
  rw [List.length_append, List.length_append]; simp only [List.length_cons, List.length_nil]; omega
 ·show 0 <= x.d + 1 + 1 + 1 /\ x.d + 1 + 1 + 1 = 3 * ((x.o ++ [x.c.getD i zeroM]).length : Int)
  rw [List.length_append]; simp only [List.length_cons, List.length_nil]; omega
theorem step_21 {l : List Msg} {x : OSt} (h : OrdI l x) {i : Nat} (hi : i < x.r) : OrdJ l ⟨x.o ++ [x.c.getD i zeroM], x.c.set i (x.c.getD (x.r - 1) zeroM), Int.toNat (((x.r : Nat) : Int) - 1), x.p0, x.p1, x.p2 ++ [x.c.getD i zeroM], x.d + 1 + 1 + 1⟩ := by
 have h1 := h.rl
 have h2 := h.ol
 have h3 := h.pl
 have h4 := h.dl
 have h5 := h.cl
 have ht := fun m => rem_take h1 hi (q := Int.toNat (((x.r : Nat) : Int) - 1)) (by omega) m
 refine ⟨fun m => ?_, fun m => ?_, by show Int.toNat (((x.r : Nat) : Int) - 1) <= (x.c.set i (x.c.getD (x.r - 1) zeroM)).length; rw [List.length_set]; omega, by show (x.c.set i (x.c.getD (x.r - 1) zeroM)).length = l.length; rw [List.length_set]; exact h5, by show (x.o ++ [x.c.getD i zeroM]).length <= 301; rw [List.length_append]; simp only [List.length_cons, List.length_nil]; omega, ?_, ?_⟩
 ·show m ∈ l ↔ m ∈ x.o ++ [x.c.getD i zeroM] ∨ _
  refine (h.mo m).trans ?_
  rw [List.mem_append, List.mem_singleton, or_assoc]
  exact or_congr Iff.rfl (ht m)
 ·show m ∈ l ↔ m ∈ x.p0 ∨ m ∈ x.p1 ∨ m ∈ x.p2 ++ [x.c.getD i zeroM] ∨ _
  refine (h.mp m).trans ?_
  rw [List.mem_append, List.mem_singleton]
  exact (or_congr Iff.rfl (or_congr Iff.rfl (or_congr Iff.rfl (ht m)))).trans ac2
 ·show (x.p0).length + (x.p1).length + (x.p2 ++ [x.c.getD i zeroM]).length = (x.o ++ [x.c.getD i zeroM]).length
  rw [List.length_append, List.length_append]; simp only [List.length_cons, List.length_nil]; omega
 ·show 0 <= x.d + 1 + 1 + 1 /\ x.d + 1 + 1 + 1 = 3 * ((x.o ++ [x.c.getD i zeroM]).length : Int)
  rw [List.length_append]; simp only [List.length_cons, List.length_nil]; omega
theorem hvOt {L Y0 Y1 Y2 : List Msg} (hk : ∀ m ∈ L, okM m = true) (hl : L.length <= 40) (hY : ∀ m, m ∈ L ↔ m ∈ Y0 ∨ m ∈ Y1 ∨ m ∈ Y2) : Rot L Y0 Y1 Y2 (.bool true) := by
 obtain ⟨n0, _, m0⟩ := addAll_spec Y0
 obtain ⟨n1, _, m1⟩ := addAll_spec Y1
 obtain ⟨n2, _, m2⟩ := addAll_spec Y2
 obtain ⟨nP, lP, mP⟩ := addAll_spec L
 have k0 := nodup_sub _ L n0 fun m h => (hY m).2 (.inl ((m0 m).1 h))
 have k1 := nodup_sub _ L n1 fun m h => (hY m).2 (.inr (.inl ((m1 m).1 h)))
 have k2 := nodup_sub _ L n2 fun m h => (hY m).2 (.inr (.inr ((m2 m).1 h)))
 have hP : ∀ m ∈ addAll L, okM m = true := fun m h => hk m ((mP m).1 h)
 unfold Rot
 refine ⟨⟨rfl, rfl, rfl, rfl, trivial⟩, fun H' hh h => ?_, fun r hr => ⟨⟨rfl, rfl, rfl, rfl, trivial⟩, fun H' hh h => ?_, fun r2 hr2 => ⟨⟨rfl, rfl, rfl, rfl, trivial⟩, fun H' hh h => ?_, fun r3 hr3 => ⟨⟨rfl, rfl, rfl, rfl, trivial⟩, fun H' hh h => ?_, fun r4 hr4 => ⟨⟨rfl, rfl, trivial⟩, fun H' hh h => ?_, ⟨rfl, rfl, rfl, rfl, trivial⟩, fun H' hh h => ?_, ⟨rfl, rfl, rfl, rfl, trivial⟩, fun H' hh h => ?_, ⟨rfl, rfl, rfl, rfl, trivial⟩, fun H' hh h => ?_, trivial, fun H' _ _ => kAwake H', rfl⟩⟩⟩⟩⟩
 ·have := kMerge (M := addAll Y1) n0 (by omega) (by decide) h.1 h.2.2.1 h.2.1 h.2.2.2.1
  rw [hh] at this; exact this
 ·have kr := nodup_sub r L hr.1 fun m h => (hY m).2 (((hr.2 m).1 h).elim (fun q => .inl ((m0 m).1 q)) fun q => .inr (.inl ((m1 m).1 q)))
  have := kMerge (M := addAll Y2) hr.1 (by omega) (by decide) h.1 h.2.2.1 h.2.1 h.2.2.2.1
  rw [hh] at this; exact this
 ·have := kMerge (M := addAll Y1) n2 (by omega) (by decide) h.1 h.2.2.1 h.2.1 h.2.2.2.1
  rw [hh] at this; exact this
 ·have kr := nodup_sub r3 L hr3.1 fun m h => (hY m).2 (((hr3.2 m).1 h).elim (fun q => .inr (.inr ((m2 m).1 q))) fun q => .inr (.inl ((m1 m).1 q)))
  have := kMerge (M := addAll Y0) hr3.1 (by omega) (by decide) h.1 h.2.2.1 h.2.1 h.2.2.2.1
  rw [hh] at this; exact this
 ·have := kMergeP (L := addAll L) (by omega) (by decide) h.1 h.2.1
  rw [hh] at this; exact this
 ·have e : ∀ m, m ∈ r2 ↔ m ∈ addAll L := fun m => by rw [hr2.2, hr.2, m0, m1, m2, mP, hY, or_assoc]
  have hk2 : ∀ m ∈ r2, okM m = true := fun m h => hP m ((e m).1 h)
  have l2 := (same_perm hr2.1 nP e).length_eq
  have := kAgrees hk2 hP (by omega) (by omega) (by decide) h.1 h.2.2.1 h.2.1 h.2.2.2.1
  rw [agree_same hr2.1 nP e hk2] at this; exact this
 ·have e : ∀ m, m ∈ r4 ↔ m ∈ addAll L := fun m => by
   rw [hr4.2, hr3.2, m0, m1, m2, mP, hY]
   simp only [or_assoc, or_comm, or_left_comm]
  have hk2 : ∀ m ∈ r4, okM m = true := fun m h => hP m ((e m).1 h)
  have l2 := (same_perm hr4.1 nP e).length_eq
  have := kAgrees hk2 hP (by omega) (by omega) (by decide) h.1 h.2.2.1 h.2.1 h.2.2.2.1
  rw [agree_same hr4.1 nP e hk2] at this; exact this
 ·have := kAgrees hP hP (by omega) (by omega) (by decide) h.1 h.2.2.1 h.2.1 h.2.2.2.1
  rw [agree_same nP nP (fun _ => Iff.rfl) hP] at this; exact this
theorem kAgrO {l O : List Msg} (hk : ∀ m ∈ l, okM m = true) (hl : l.length <= 40) (ho : ∀ m, m ∈ l ↔ m ∈ O) {H : Heap} {i q j r : Nat} (hnd : [i, q, j, r].Nodup) (hi : H[i]? = some (.cells true 0 [.map (some q)])) (hq : H[q]? = some (.map (heldE (addAll l)))) (hj : H[j]? = some (.cells true 0 [.map (some r)])) (hr : H[r]? = some (.map (heldE (addAll O)))) :
  KCall prog 28 [.pointer (some ⟨i, 0, none⟩), .pointer (some ⟨j, 0, none⟩)] H [] (Is (.bool true) H) := by
 obtain ⟨nP, lP, mP⟩ := addAll_spec l
 obtain ⟨nO, _, mO⟩ := addAll_spec O
 have e : ∀ m, m ∈ addAll l ↔ m ∈ addAll O := fun m => by rw [mP, mO, ho]
 have hP : ∀ m ∈ addAll l, okM m = true := fun m h => hk m ((mP m).1 h)
 have l2 := (same_perm nP nO e).length_eq
 have := kAgrees hP (fun m h => hP m ((e m).2 h)) (by omega) (by omega) hnd hi hq hj hr
 rw [agree_same nP nO e hP] at this; exact this
theorem takeAllO {l : List Msg} {n : Nat} (h : n = l.length * 7) : List.take n (List.drop 0 (l.flatMap msgC)) = l.flatMap msgC := by
 rw [List.drop_zero, h, <- msgs_len, List.take_length]
theorem takeO (l : List Msg) (n : Nat) : List.take (n * 7) (List.drop 0 (l.flatMap msgC)) = (l.take n).flatMap msgC := by
 rw [List.drop_zero]
 rcases Nat.le_total n l.length with h | h
 ·have : n * 7 = ((l.take n).flatMap msgC).length := by rw [msgs_len, List.length_take, Nat.min_eq_left h]
  conv => lhs; rw [<- List.take_append_drop n l, List.flatMap_append, this, List.take_append_of_le_length (Nat.le_refl _), List.take_length]
 ·rw [List.take_of_length_le h, List.take_of_length_le (by rw [msgs_len]; omega)]
theorem msgs_oneO (l : List Msg) : (l.flatMap msgC : List Value).all (fun v => one1 v) = true := by
 rw [List.all_eq_true]
 intro v hv
 rw [List.mem_flatMap] at hv
 obtain ⟨m, _, hm⟩ := hv
 simp only [msgC, List.mem_cons, List.not_mem_nil, or_false] at hm
 rcases hm with rfl | rfl | rfl | rfl | rfl | rfl | rfl <;> rfl
theorem slE {id a b c d : Nat} (h1 : a = b) (h2 : c = d) : (Value.slice (some ⟨id, 0, none⟩) a c) = .slice (some ⟨id, 0, none⟩) b d := by rw [h1, h2]
theorem appO {X Y : List Msg} {a : Nat} (ha : a = X.length * 7) {t : List Value} (ht : t = Y.flatMap msgC) : (some (KObj.cells true 7 (List.take a (List.drop 0 (X.flatMap msgC)) ++ t)) : Option KObj) = some (.cells true 7 ((X ++ Y).flatMap msgC)) := by
 rw [takeAllO ha, ht, List.flatMap_append]
theorem hvOrd1 (A B : List Int) (n : Int) (h0 : ¬ (sd A n).length = 0) : Rord1 (.bool true) A B n := by
 obtain ⟨hl, hk, s3, s4⟩ := sd_ok A n
 have hml := msgs_len (sd A n)
 have hta := takeAllO (l := sd A n) (n := (sd A n).length * 7) rfl
 unfold Rord1
 refine ⟨trivial, fun H' _ _ => kPick41 n H', ⟨rfl, trivial⟩, fun H' hh h => ?_, ⟨rfl, trivial⟩, fun H' hh h => kFillQ hk (by omega) h.1 hh, fun c => absurd c h0, fun _ => ⟨⟨by omega, h0, ⟨Nat.le_refl _, Nat.le_refl _⟩, ⟨Nat.le_refl _, by omega⟩, by rw [hta]; exact msgs_oneO _⟩, rfl, ?_, ?_, rfl, ordI_0 _, ?_, fun _ => rfl, fun x hx => ⟨fun b => ?_, fun b => ?_⟩⟩⟩
 ·have := kSd A n h.1
  rw [hh] at this; exact this
 ·rw [hta]; rfl
 ·rw [Nat.zero_add]
 ·repeat' first | exact wk_nil _ _ _ (.inl rfl) | exact digO _ _ _ | exact plainML _ _ | exact slE rfl rfl | exact trivial | exact rfl | exact wk_refl _ | refine wkO_cells ?_ | refine wks_cons ?_ ?_ | exact wks_nil | exact wk_nil _ _ _ (.inl rfl) | (exact wk_Q (by omega)) | refine wk_tupL ?_ | refine wk_aggL ?_ | refine joinMax ?_ ?_ ?_ | refine joinMin ?_ ?_ ?_ | refine toMax ?_ | refine toMin ?_ | refine ⟨rfl, ?_⟩ | refine ⟨trivial, ?_⟩ | (refine forkD (fun h => ?_) (fun h => ?_)) | (refine forkNe (fun h => ?_) (fun h => ?_)) | (refine forkEq (fun h => ?_) (fun h => ?_)) | refine forkNot ?_ | (refine ⟨vI64 (by omega), ?_⟩) | (refine And.intro (by omega) ?_) | apply And.intro | (exact iEq (by omega)) | (exact vI64 (by omega))
 ·have hr : 0 < x.r := by have := of_decide_eq_true b; omega
  have hol := hx.ol
  have hpl := hx.pl
  have hdl := hx.dl
  have hrl := hx.rl
  have hcl := hx.cl
  have hd := dN_bd B x.d (m := ((x.r : Nat) : Int)) (by omega)
  have hd3 := dN_bd B (x.d + 1) (m := 3) (by omega)
  generalize hi : Int.toNat (dN B x.d ((x.r : Nat) : Int)) = i
  have hir : i < x.r := by omega
  have hic : i < x.c.length := by omega
  refine ⟨⟨rfl, trivial⟩, fun H' hh h => kNext B _ _ (by omega) (by omega) h.1, ⟨by omega, by omega⟩, partM hic (by omega), ⟨by omega, by decide, ⟨Nat.le_refl _, by have := msgs_len x.o; omega⟩, ⟨Nat.le_refl _, by simp⟩, rfl⟩, rfl, appO rfl rfl, fun k0 => ?_, fun k0 => ⟨fun k1 => ?_, fun k1 => ?_⟩⟩
  ·refine ⟨⟨rfl, trivial⟩, fun H' hh h => ?_, ⟨by omega, by omega⟩, partM hic (by omega), ⟨by omega, by decide, ⟨Nat.le_refl _, by have := msgs_len x.p0; omega⟩, ⟨Nat.le_refl _, by simp⟩, rfl⟩, rfl, appO rfl rfl, ⟨rfl, trivial⟩, fun H' hh h => kNext B _ 4 (by omega) (by omega) h.1, fun z => ?_, fun z => ?_⟩
   ·have := kNext B (x.d + 1) 3 (by omega) (by omega) h.1
    rw [k0] at this; exact this
   ·have J := step_01 hx hir
    refine ⟨vI64 (by omega), ⟨by omega, by omega⟩, partM (by omega) (by omega), ⟨by omega, by omega⟩, by have := msgs_len x.c; omega, rfl, ?_, vI64 (by omega), ⟨.inr (.inr rfl), ⟨by omega, by omega⟩, Nat.zero_le _⟩, slE rfl rfl, fun e => ?_, fun e => ?_⟩
    ·rw [show Int.toNat (((x.r : Nat) : Int) - 1) = x.r - 1 by omega]
     exact setQ hic (by omega) _
    ·refine ⟨fun e0 => ?_, fun e1 => ?_⟩
     ·have E := ex_0 J e0
      exact ⟨⟨by omega, e0⟩, fun _ => ⟨⟨by omega, e0⟩, ⟨rfl, trivial⟩, fun H' hh h => kFillS (fun m hm => hk m ((E.ho m).2 hm)) (by have := E.lo; omega) h.1 (by simp only [List.length_append, List.length_take, List.length_set, List.length_cons, List.length_nil] <;> omega) hh, ⟨rfl, rfl, rfl, rfl, trivial⟩, fun H' hh h => kAgrO hk hl E.ho (by decide) h.1 h.2.2.1 h.2.1 h.2.2.2.1, ⟨rfl, trivial⟩, fun H' hh h => kFillS (fun m hm => hk m ((E.hy m).2 (.inl hm))) (by have := E.l0; omega) h.1 (by simp only [List.length_append, List.length_take, List.length_set, List.length_cons, List.length_nil] <;> omega) hh, ⟨rfl, trivial⟩, fun H' hh h => kFillQ (fun m hm => hk m ((E.hy m).2 (.inr (.inl hm)))) (by have := E.l1; omega) h.1 hh, ⟨rfl, trivial⟩, fun H' hh h => kFillQ (fun m hm => hk m ((E.hy m).2 (.inr (.inr hm)))) (by have := E.l2; omega) h.1 hh, hvOt hk hl E.hy⟩, fun c => absurd e0 c⟩
     ·have E := ex_1 hl J
      have hC := msgs_len (x.c.set i (x.c.getD (x.r - 1) zeroM))
      have hO := msgs_len (x.o ++ [x.c.getD i zeroM])
      have hP := msgs_len (x.p0 ++ [x.c.getD i zeroM])
      simp only [List.length_append, List.length_set, List.length_cons, List.length_nil] at hC hO hP
      have hT := takeO (x.c.set i (x.c.getD (x.r - 1) zeroM)) (Int.toNat (((x.r : Nat) : Int) - 1))
      have h1T : ((List.take ((Int.toNat (((x.r : Nat) : Int) - 1)) * 7) (List.drop 0 ((x.c.set i (x.c.getD (x.r - 1) zeroM)).flatMap msgC))) : List Value).all (fun v => one1 v) = true := by rw [hT]; exact msgs_oneO _
      refine ⟨⟨by omega, e1, ⟨Nat.le_refl _, by omega⟩, ⟨Nat.le_refl _, by omega⟩, h1T⟩, rfl, appO (by simp only [List.length_append, List.length_cons, List.length_nil]) hT, fun c => absurd c e1, fun _ => ⟨⟨by omega, e1, ⟨Nat.le_refl _, by omega⟩, ⟨Nat.le_refl _, by omega⟩, h1T⟩, rfl, appO (by simp only [List.length_append, List.length_cons, List.length_nil]) hT, ?_⟩⟩
      exact ⟨⟨rfl, trivial⟩, fun H' hh h => kFillS (fun m hm => hk m ((E.ho m).2 hm)) (by have := E.lo; omega) h.1 (by simp only [List.length_append, List.length_take, List.length_set, List.length_cons, List.length_nil] <;> omega) hh, ⟨rfl, rfl, rfl, rfl, trivial⟩, fun H' hh h => kAgrO hk hl E.ho (by decide) h.1 h.2.2.1 h.2.1 h.2.2.2.1, ⟨rfl, trivial⟩, fun H' hh h => kFillS (fun m hm => hk m ((E.hy m).2 (.inl hm))) (by have := E.l0; omega) h.1 (by simp only [List.length_append, List.length_take, List.length_set, List.length_cons, List.length_nil] <;> omega) hh, ⟨rfl, trivial⟩, fun H' hh h => kFillQ (fun m hm => hk m ((E.hy m).2 (.inr (.inl hm)))) (by have := E.l1; omega) h.1 hh, ⟨rfl, trivial⟩, fun H' hh h => kFillQ (fun m hm => hk m ((E.hy m).2 (.inr (.inr hm)))) (by have := E.l2; omega) h.1 hh, hvOt hk hl E.hy⟩
    ·have he := of_decide_eq_false e
     refine ⟨⟨x.o ++ [x.c.getD i zeroM], x.c.set i (x.c.getD (x.r - 1) zeroM), Int.toNat (((x.r : Nat) : Int) - 1), x.p0 ++ [x.c.getD i zeroM], x.p1, x.p2, x.d + 1 + 1 + 1⟩, J.i (by simp only [List.length_append, List.length_cons, List.length_nil]; omega), by simp only [List.length_append, List.length_cons, List.length_nil]; omega, rfl, ?_⟩
     repeat' first | exact wk_snoc rfl | exact digO _ _ _ | exact plainML _ _ | (exact slE rfl (by rw [List.length_set])) | exact slE rfl rfl | exact trivial | exact rfl | exact wk_refl _ | refine wkO_cells ?_ | refine wks_cons ?_ ?_ | exact wks_nil | exact wk_nil _ _ _ (.inl rfl) | (exact wk_Q (by omega)) | refine wk_tupL ?_ | refine wk_aggL ?_ | refine joinMax ?_ ?_ ?_ | refine joinMin ?_ ?_ ?_ | refine toMax ?_ | refine toMin ?_ | refine ⟨rfl, ?_⟩ | refine ⟨trivial, ?_⟩ | (refine forkD (fun h => ?_) (fun h => ?_)) | (refine forkNe (fun h => ?_) (fun h => ?_)) | (refine forkEq (fun h => ?_) (fun h => ?_)) | refine forkNot ?_ | (refine ⟨vI64 (by omega), ?_⟩) | (refine And.intro (by omega) ?_) | apply And.intro | (exact iEq (by omega)) | (exact vI64 (by omega))
   ·have J := step_00 hx hir
    refine ⟨fun e => ?_, fun e => ?_⟩
    ·refine ⟨fun e0 => ?_, fun e1 => ?_⟩
     ·have E := ex_0 J e0
      exact ⟨⟨by omega, e0⟩, fun _ => ⟨⟨by omega, e0⟩, ⟨rfl, trivial⟩, fun H' hh h => kFillS (fun m hm => hk m ((E.ho m).2 hm)) (by have := E.lo; omega) h.1 (by simp only [List.length_append, List.length_take, List.length_set, List.length_cons, List.length_nil] <;> omega) hh, ⟨rfl, rfl, rfl, rfl, trivial⟩, fun H' hh h => kAgrO hk hl E.ho (by decide) h.1 h.2.2.1 h.2.1 h.2.2.2.1, ⟨rfl, trivial⟩, fun H' hh h => kFillS (fun m hm => hk m ((E.hy m).2 (.inl hm))) (by have := E.l0; omega) h.1 (by simp only [List.length_append, List.length_take, List.length_set, List.length_cons, List.length_nil] <;> omega) hh, ⟨rfl, trivial⟩, fun H' hh h => kFillQ (fun m hm => hk m ((E.hy m).2 (.inr (.inl hm)))) (by have := E.l1; omega) h.1 hh, ⟨rfl, trivial⟩, fun H' hh h => kFillQ (fun m hm => hk m ((E.hy m).2 (.inr (.inr hm)))) (by have := E.l2; omega) h.1 hh, hvOt hk hl E.hy⟩, fun c => absurd e0 c⟩
     ·have E := ex_1 hl J
      have hC := msgs_len x.c
      have hO := msgs_len (x.o ++ [x.c.getD i zeroM])
      have hP := msgs_len (x.p0 ++ [x.c.getD i zeroM])
      simp only [List.length_append, List.length_set, List.length_cons, List.length_nil] at hC hO hP
      have hT := takeO x.c x.r
      have h1T : ((List.take (x.r * 7) (List.drop 0 (x.c.flatMap msgC))) : List Value).all (fun v => one1 v) = true := by rw [hT]; exact msgs_oneO _
      refine ⟨⟨by omega, e1, ⟨Nat.le_refl _, by omega⟩, ⟨Nat.le_refl _, by omega⟩, h1T⟩, rfl, appO (by simp only [List.length_append, List.length_cons, List.length_nil]) hT, fun c => absurd c e1, fun _ => ⟨⟨by omega, e1, ⟨Nat.le_refl _, by omega⟩, ⟨Nat.le_refl _, by omega⟩, h1T⟩, rfl, appO (by simp only [List.length_append, List.length_cons, List.length_nil]) hT, ?_⟩⟩
      exact ⟨⟨rfl, trivial⟩, fun H' hh h => kFillS (fun m hm => hk m ((E.ho m).2 hm)) (by have := E.lo; omega) h.1 (by simp only [List.length_append, List.length_take, List.length_set, List.length_cons, List.length_nil] <;> omega) hh, ⟨rfl, rfl, rfl, rfl, trivial⟩, fun H' hh h => kAgrO hk hl E.ho (by decide) h.1 h.2.2.1 h.2.1 h.2.2.2.1, ⟨rfl, trivial⟩, fun H' hh h => kFillS (fun m hm => hk m ((E.hy m).2 (.inl hm))) (by have := E.l0; omega) h.1 (by simp only [List.length_append, List.length_take, List.length_set, List.length_cons, List.length_nil] <;> omega) hh, ⟨rfl, trivial⟩, fun H' hh h => kFillQ (fun m hm => hk m ((E.hy m).2 (.inr (.inl hm)))) (by have := E.l1; omega) h.1 hh, ⟨rfl, trivial⟩, fun H' hh h => kFillQ (fun m hm => hk m ((E.hy m).2 (.inr (.inr hm)))) (by have := E.l2; omega) h.1 hh, hvOt hk hl E.hy⟩
    ·have he := of_decide_eq_false e
     refine ⟨⟨x.o ++ [x.c.getD i zeroM], x.c, x.r, x.p0 ++ [x.c.getD i zeroM], x.p1, x.p2, x.d + 1 + 1 + 1⟩, J.i (by simp only [List.length_append, List.length_cons, List.length_nil]; omega), by simp only [List.length_append, List.length_cons, List.length_nil]; omega, rfl, ?_⟩
     repeat' first | exact wk_snoc rfl | exact digO _ _ _ | exact plainML _ _ | (exact slE rfl (by rw [List.length_set])) | exact slE rfl rfl | exact trivial | exact rfl | exact wk_refl _ | refine wkO_cells ?_ | refine wks_cons ?_ ?_ | exact wks_nil | exact wk_nil _ _ _ (.inl rfl) | (exact wk_Q (by omega)) | refine wk_tupL ?_ | refine wk_aggL ?_ | refine joinMax ?_ ?_ ?_ | refine joinMin ?_ ?_ ?_ | refine toMax ?_ | refine toMin ?_ | refine ⟨rfl, ?_⟩ | refine ⟨trivial, ?_⟩ | (refine forkD (fun h => ?_) (fun h => ?_)) | (refine forkNe (fun h => ?_) (fun h => ?_)) | (refine forkEq (fun h => ?_) (fun h => ?_)) | refine forkNot ?_ | (refine ⟨vI64 (by omega), ?_⟩) | (refine And.intro (by omega) ?_) | apply And.intro | (exact iEq (by omega)) | (exact vI64 (by omega))
  ·refine ⟨⟨rfl, trivial⟩, fun H' hh h => ?_, ⟨by omega, by omega⟩, partM hic (by omega), ⟨by omega, by decide, ⟨Nat.le_refl _, by have := msgs_len x.p1; omega⟩, ⟨Nat.le_refl _, by simp⟩, rfl⟩, rfl, appO rfl rfl, ⟨rfl, trivial⟩, fun H' hh h => kNext B _ 4 (by omega) (by omega) h.1, fun z => ?_, fun z => ?_⟩
   ·have := kNext B (x.d + 1) 3 (by omega) (by omega) h.1
    rw [k1] at this; exact this
   ·have J := step_11 hx hir
    refine ⟨vI64 (by omega), ⟨by omega, by omega⟩, partM (by omega) (by omega), ⟨by omega, by omega⟩, by have := msgs_len x.c; omega, rfl, ?_, vI64 (by omega), ⟨.inr (.inr rfl), ⟨by omega, by omega⟩, Nat.zero_le _⟩, slE rfl rfl, fun e => ?_, fun e => ?_⟩
    ·rw [show Int.toNat (((x.r : Nat) : Int) - 1) = x.r - 1 by omega]
     exact setQ hic (by omega) _
    ·refine ⟨fun e0 => ?_, fun e1 => ?_⟩
     ·have E := ex_0 J e0
      exact ⟨⟨by omega, e0⟩, fun _ => ⟨⟨by omega, e0⟩, ⟨rfl, trivial⟩, fun H' hh h => kFillS (fun m hm => hk m ((E.ho m).2 hm)) (by have := E.lo; omega) h.1 (by simp only [List.length_append, List.length_take, List.length_set, List.length_cons, List.length_nil] <;> omega) hh, ⟨rfl, rfl, rfl, rfl, trivial⟩, fun H' hh h => kAgrO hk hl E.ho (by decide) h.1 h.2.2.1 h.2.1 h.2.2.2.1, ⟨rfl, trivial⟩, fun H' hh h => kFillQ (fun m hm => hk m ((E.hy m).2 (.inl hm))) (by have := E.l0; omega) h.1 hh, ⟨rfl, trivial⟩, fun H' hh h => kFillS (fun m hm => hk m ((E.hy m).2 (.inr (.inl hm)))) (by have := E.l1; omega) h.1 (by simp only [List.length_append, List.length_take, List.length_set, List.length_cons, List.length_nil] <;> omega) hh, ⟨rfl, trivial⟩, fun H' hh h => kFillQ (fun m hm => hk m ((E.hy m).2 (.inr (.inr hm)))) (by have := E.l2; omega) h.1 hh, hvOt hk hl E.hy⟩, fun c => absurd e0 c⟩
     ·have E := ex_1 hl J
      have hC := msgs_len (x.c.set i (x.c.getD (x.r - 1) zeroM))
      have hO := msgs_len (x.o ++ [x.c.getD i zeroM])
      have hP := msgs_len x.p0
      simp only [List.length_append, List.length_set, List.length_cons, List.length_nil] at hC hO hP
      have hT := takeO (x.c.set i (x.c.getD (x.r - 1) zeroM)) (Int.toNat (((x.r : Nat) : Int) - 1))
      have h1T : ((List.take ((Int.toNat (((x.r : Nat) : Int) - 1)) * 7) (List.drop 0 ((x.c.set i (x.c.getD (x.r - 1) zeroM)).flatMap msgC))) : List Value).all (fun v => one1 v) = true := by rw [hT]; exact msgs_oneO _
      refine ⟨⟨by omega, e1, ⟨Nat.le_refl _, by omega⟩, ⟨Nat.le_refl _, by omega⟩, h1T⟩, rfl, appO (by simp only [List.length_append, List.length_cons, List.length_nil]) hT, fun c => absurd c e1, fun _ => ⟨⟨by omega, e1, ⟨Nat.le_refl _, by omega⟩, ⟨Nat.le_refl _, by omega⟩, h1T⟩, rfl, appO (by simp only [List.length_append, List.length_cons, List.length_nil]) hT, ?_⟩⟩
      exact ⟨⟨rfl, trivial⟩, fun H' hh h => kFillS (fun m hm => hk m ((E.ho m).2 hm)) (by have := E.lo; omega) h.1 (by simp only [List.length_append, List.length_take, List.length_set, List.length_cons, List.length_nil] <;> omega) hh, ⟨rfl, rfl, rfl, rfl, trivial⟩, fun H' hh h => kAgrO hk hl E.ho (by decide) h.1 h.2.2.1 h.2.1 h.2.2.2.1, ⟨rfl, trivial⟩, fun H' hh h => kFillS (fun m hm => hk m ((E.hy m).2 (.inl hm))) (by have := E.l0; omega) h.1 (by simp only [List.length_append, List.length_take, List.length_set, List.length_cons, List.length_nil] <;> omega) hh, ⟨rfl, trivial⟩, fun H' hh h => kFillS (fun m hm => hk m ((E.hy m).2 (.inr (.inl hm)))) (by have := E.l1; omega) h.1 (by simp only [List.length_append, List.length_take, List.length_set, List.length_cons, List.length_nil] <;> omega) hh, ⟨rfl, trivial⟩, fun H' hh h => kFillQ (fun m hm => hk m ((E.hy m).2 (.inr (.inr hm)))) (by have := E.l2; omega) h.1 hh, hvOt hk hl E.hy⟩
    ·have he := of_decide_eq_false e
     refine ⟨⟨x.o ++ [x.c.getD i zeroM], x.c.set i (x.c.getD (x.r - 1) zeroM), Int.toNat (((x.r : Nat) : Int) - 1), x.p0, x.p1 ++ [x.c.getD i zeroM], x.p2, x.d + 1 + 1 + 1⟩, J.i (by simp only [List.length_append, List.length_cons, List.length_nil]; omega), by simp only [List.length_append, List.length_cons, List.length_nil]; omega, rfl, ?_⟩
     repeat' first | exact wk_snoc rfl | exact digO _ _ _ | exact plainML _ _ | (exact slE rfl (by rw [List.length_set])) | exact slE rfl rfl | exact trivial | exact rfl | exact wk_refl _ | refine wkO_cells ?_ | refine wks_cons ?_ ?_ | exact wks_nil | exact wk_nil _ _ _ (.inl rfl) | (exact wk_Q (by omega)) | refine wk_tupL ?_ | refine wk_aggL ?_ | refine joinMax ?_ ?_ ?_ | refine joinMin ?_ ?_ ?_ | refine toMax ?_ | refine toMin ?_ | refine ⟨rfl, ?_⟩ | refine ⟨trivial, ?_⟩ | (refine forkD (fun h => ?_) (fun h => ?_)) | (refine forkNe (fun h => ?_) (fun h => ?_)) | (refine forkEq (fun h => ?_) (fun h => ?_)) | refine forkNot ?_ | (refine ⟨vI64 (by omega), ?_⟩) | (refine And.intro (by omega) ?_) | apply And.intro | (exact iEq (by omega)) | (exact vI64 (by omega))
   ·have J := step_10 hx hir
    refine ⟨fun e => ?_, fun e => ?_⟩
    ·refine ⟨fun e0 => ?_, fun e1 => ?_⟩
     ·have E := ex_0 J e0
      exact ⟨⟨by omega, e0⟩, fun _ => ⟨⟨by omega, e0⟩, ⟨rfl, trivial⟩, fun H' hh h => kFillS (fun m hm => hk m ((E.ho m).2 hm)) (by have := E.lo; omega) h.1 (by simp only [List.length_append, List.length_take, List.length_set, List.length_cons, List.length_nil] <;> omega) hh, ⟨rfl, rfl, rfl, rfl, trivial⟩, fun H' hh h => kAgrO hk hl E.ho (by decide) h.1 h.2.2.1 h.2.1 h.2.2.2.1, ⟨rfl, trivial⟩, fun H' hh h => kFillQ (fun m hm => hk m ((E.hy m).2 (.inl hm))) (by have := E.l0; omega) h.1 hh, ⟨rfl, trivial⟩, fun H' hh h => kFillS (fun m hm => hk m ((E.hy m).2 (.inr (.inl hm)))) (by have := E.l1; omega) h.1 (by simp only [List.length_append, List.length_take, List.length_set, List.length_cons, List.length_nil] <;> omega) hh, ⟨rfl, trivial⟩, fun H' hh h => kFillQ (fun m hm => hk m ((E.hy m).2 (.inr (.inr hm)))) (by have := E.l2; omega) h.1 hh, hvOt hk hl E.hy⟩, fun c => absurd e0 c⟩
     ·have E := ex_1 hl J
      have hC := msgs_len x.c
      have hO := msgs_len (x.o ++ [x.c.getD i zeroM])
      have hP := msgs_len x.p0
      simp only [List.length_append, List.length_set, List.length_cons, List.length_nil] at hC hO hP
      have hT := takeO x.c x.r
      have h1T : ((List.take (x.r * 7) (List.drop 0 (x.c.flatMap msgC))) : List Value).all (fun v => one1 v) = true := by rw [hT]; exact msgs_oneO _
      refine ⟨⟨by omega, e1, ⟨Nat.le_refl _, by omega⟩, ⟨Nat.le_refl _, by omega⟩, h1T⟩, rfl, appO (by simp only [List.length_append, List.length_cons, List.length_nil]) hT, fun c => absurd c e1, fun _ => ⟨⟨by omega, e1, ⟨Nat.le_refl _, by omega⟩, ⟨Nat.le_refl _, by omega⟩, h1T⟩, rfl, appO (by simp only [List.length_append, List.length_cons, List.length_nil]) hT, ?_⟩⟩
      exact ⟨⟨rfl, trivial⟩, fun H' hh h => kFillS (fun m hm => hk m ((E.ho m).2 hm)) (by have := E.lo; omega) h.1 (by simp only [List.length_append, List.length_take, List.length_set, List.length_cons, List.length_nil] <;> omega) hh, ⟨rfl, rfl, rfl, rfl, trivial⟩, fun H' hh h => kAgrO hk hl E.ho (by decide) h.1 h.2.2.1 h.2.1 h.2.2.2.1, ⟨rfl, trivial⟩, fun H' hh h => kFillS (fun m hm => hk m ((E.hy m).2 (.inl hm))) (by have := E.l0; omega) h.1 (by simp only [List.length_append, List.length_take, List.length_set, List.length_cons, List.length_nil] <;> omega) hh, ⟨rfl, trivial⟩, fun H' hh h => kFillS (fun m hm => hk m ((E.hy m).2 (.inr (.inl hm)))) (by have := E.l1; omega) h.1 (by simp only [List.length_append, List.length_take, List.length_set, List.length_cons, List.length_nil] <;> omega) hh, ⟨rfl, trivial⟩, fun H' hh h => kFillQ (fun m hm => hk m ((E.hy m).2 (.inr (.inr hm)))) (by have := E.l2; omega) h.1 hh, hvOt hk hl E.hy⟩
    ·have he := of_decide_eq_false e
     refine ⟨⟨x.o ++ [x.c.getD i zeroM], x.c, x.r, x.p0, x.p1 ++ [x.c.getD i zeroM], x.p2, x.d + 1 + 1 + 1⟩, J.i (by simp only [List.length_append, List.length_cons, List.length_nil]; omega), by simp only [List.length_append, List.length_cons, List.length_nil]; omega, rfl, ?_⟩
     repeat' first | exact wk_snoc rfl | exact digO _ _ _ | exact plainML _ _ | (exact slE rfl (by rw [List.length_set])) | exact slE rfl rfl | exact trivial | exact rfl | exact wk_refl _ | refine wkO_cells ?_ | refine wks_cons ?_ ?_ | exact wks_nil | exact wk_nil _ _ _ (.inl rfl) | (exact wk_Q (by omega)) | refine wk_tupL ?_ | refine wk_aggL ?_ | refine joinMax ?_ ?_ ?_ | refine joinMin ?_ ?_ ?_ | refine toMax ?_ | refine toMin ?_ | refine ⟨rfl, ?_⟩ | refine ⟨trivial, ?_⟩ | (refine forkD (fun h => ?_) (fun h => ?_)) | (refine forkNe (fun h => ?_) (fun h => ?_)) | (refine forkEq (fun h => ?_) (fun h => ?_)) | refine forkNot ?_ | (refine ⟨vI64 (by omega), ?_⟩) | (refine And.intro (by omega) ?_) | apply And.intro | (exact iEq (by omega)) | (exact vI64 (by omega))
  ·refine ⟨⟨rfl, trivial⟩, fun H' hh h => ?_, ⟨by omega, by omega⟩, partM hic (by omega), ⟨by omega, by decide, ⟨Nat.le_refl _, by have := msgs_len x.p2; omega⟩, ⟨Nat.le_refl _, by simp⟩, rfl⟩, rfl, appO rfl rfl, ⟨rfl, trivial⟩, fun H' hh h => kNext B _ 4 (by omega) (by omega) h.1, fun z => ?_, fun z => ?_⟩
   ·have := kNext B (x.d + 1) 3 (by omega) (by omega) h.1
    rw [show dN B (x.d + 1) 3 = 2 by omega] at this; exact this
   ·have J := step_21 hx hir
    refine ⟨vI64 (by omega), ⟨by omega, by omega⟩, partM (by omega) (by omega), ⟨by omega, by omega⟩, by have := msgs_len x.c; omega, rfl, ?_, vI64 (by omega), ⟨.inr (.inr rfl), ⟨by omega, by omega⟩, Nat.zero_le _⟩, slE rfl rfl, fun e => ?_, fun e => ?_⟩
    ·rw [show Int.toNat (((x.r : Nat) : Int) - 1) = x.r - 1 by omega]
     exact setQ hic (by omega) _
    ·refine ⟨fun e0 => ?_, fun e1 => ?_⟩
     ·have E := ex_0 J e0
      exact ⟨⟨by omega, e0⟩, fun _ => ⟨⟨by omega, e0⟩, ⟨rfl, trivial⟩, fun H' hh h => kFillS (fun m hm => hk m ((E.ho m).2 hm)) (by have := E.lo; omega) h.1 (by simp only [List.length_append, List.length_take, List.length_set, List.length_cons, List.length_nil] <;> omega) hh, ⟨rfl, rfl, rfl, rfl, trivial⟩, fun H' hh h => kAgrO hk hl E.ho (by decide) h.1 h.2.2.1 h.2.1 h.2.2.2.1, ⟨rfl, trivial⟩, fun H' hh h => kFillQ (fun m hm => hk m ((E.hy m).2 (.inl hm))) (by have := E.l0; omega) h.1 hh, ⟨rfl, trivial⟩, fun H' hh h => kFillQ (fun m hm => hk m ((E.hy m).2 (.inr (.inl hm)))) (by have := E.l1; omega) h.1 hh, ⟨rfl, trivial⟩, fun H' hh h => kFillS (fun m hm => hk m ((E.hy m).2 (.inr (.inr hm)))) (by have := E.l2; omega) h.1 (by simp only [List.length_append, List.length_take, List.length_set, List.length_cons, List.length_nil] <;> omega) hh, hvOt hk hl E.hy⟩, fun c => absurd e0 c⟩
     ·have E := ex_1 hl J
      have hC := msgs_len (x.c.set i (x.c.getD (x.r - 1) zeroM))
      have hO := msgs_len (x.o ++ [x.c.getD i zeroM])
      have hP := msgs_len x.p0
      simp only [List.length_append, List.length_set, List.length_cons, List.length_nil] at hC hO hP
      have hT := takeO (x.c.set i (x.c.getD (x.r - 1) zeroM)) (Int.toNat (((x.r : Nat) : Int) - 1))
      have h1T : ((List.take ((Int.toNat (((x.r : Nat) : Int) - 1)) * 7) (List.drop 0 ((x.c.set i (x.c.getD (x.r - 1) zeroM)).flatMap msgC))) : List Value).all (fun v => one1 v) = true := by rw [hT]; exact msgs_oneO _
      refine ⟨⟨by omega, e1, ⟨Nat.le_refl _, by omega⟩, ⟨Nat.le_refl _, by omega⟩, h1T⟩, rfl, appO (by simp only [List.length_append, List.length_cons, List.length_nil]) hT, fun c => absurd c e1, fun _ => ⟨⟨by omega, e1, ⟨Nat.le_refl _, by omega⟩, ⟨Nat.le_refl _, by omega⟩, h1T⟩, rfl, appO (by simp only [List.length_append, List.length_cons, List.length_nil]) hT, ?_⟩⟩
      exact ⟨⟨rfl, trivial⟩, fun H' hh h => kFillS (fun m hm => hk m ((E.ho m).2 hm)) (by have := E.lo; omega) h.1 (by simp only [List.length_append, List.length_take, List.length_set, List.length_cons, List.length_nil] <;> omega) hh, ⟨rfl, rfl, rfl, rfl, trivial⟩, fun H' hh h => kAgrO hk hl E.ho (by decide) h.1 h.2.2.1 h.2.1 h.2.2.2.1, ⟨rfl, trivial⟩, fun H' hh h => kFillS (fun m hm => hk m ((E.hy m).2 (.inl hm))) (by have := E.l0; omega) h.1 (by simp only [List.length_append, List.length_take, List.length_set, List.length_cons, List.length_nil] <;> omega) hh, ⟨rfl, trivial⟩, fun H' hh h => kFillQ (fun m hm => hk m ((E.hy m).2 (.inr (.inl hm)))) (by have := E.l1; omega) h.1 hh, ⟨rfl, trivial⟩, fun H' hh h => kFillS (fun m hm => hk m ((E.hy m).2 (.inr (.inr hm)))) (by have := E.l2; omega) h.1 (by simp only [List.length_append, List.length_take, List.length_set, List.length_cons, List.length_nil] <;> omega) hh, hvOt hk hl E.hy⟩
    ·have he := of_decide_eq_false e
     refine ⟨⟨x.o ++ [x.c.getD i zeroM], x.c.set i (x.c.getD (x.r - 1) zeroM), Int.toNat (((x.r : Nat) : Int) - 1), x.p0, x.p1, x.p2 ++ [x.c.getD i zeroM], x.d + 1 + 1 + 1⟩, J.i (by simp only [List.length_append, List.length_cons, List.length_nil]; omega), by simp only [List.length_append, List.length_cons, List.length_nil]; omega, rfl, ?_⟩
     repeat' first | exact wk_snoc rfl | exact digO _ _ _ | exact plainML _ _ | (exact slE rfl (by rw [List.length_set])) | exact slE rfl rfl | exact trivial | exact rfl | exact wk_refl _ | refine wkO_cells ?_ | refine wks_cons ?_ ?_ | exact wks_nil | exact wk_nil _ _ _ (.inl rfl) | (exact wk_Q (by omega)) | refine wk_tupL ?_ | refine wk_aggL ?_ | refine joinMax ?_ ?_ ?_ | refine joinMin ?_ ?_ ?_ | refine toMax ?_ | refine toMin ?_ | refine ⟨rfl, ?_⟩ | refine ⟨trivial, ?_⟩ | (refine forkD (fun h => ?_) (fun h => ?_)) | (refine forkNe (fun h => ?_) (fun h => ?_)) | (refine forkEq (fun h => ?_) (fun h => ?_)) | refine forkNot ?_ | (refine ⟨vI64 (by omega), ?_⟩) | (refine And.intro (by omega) ?_) | apply And.intro | (exact iEq (by omega)) | (exact vI64 (by omega))
   ·have J := step_20 hx hir
    refine ⟨fun e => ?_, fun e => ?_⟩
    ·refine ⟨fun e0 => ?_, fun e1 => ?_⟩
     ·have E := ex_0 J e0
      exact ⟨⟨by omega, e0⟩, fun _ => ⟨⟨by omega, e0⟩, ⟨rfl, trivial⟩, fun H' hh h => kFillS (fun m hm => hk m ((E.ho m).2 hm)) (by have := E.lo; omega) h.1 (by simp only [List.length_append, List.length_take, List.length_set, List.length_cons, List.length_nil] <;> omega) hh, ⟨rfl, rfl, rfl, rfl, trivial⟩, fun H' hh h => kAgrO hk hl E.ho (by decide) h.1 h.2.2.1 h.2.1 h.2.2.2.1, ⟨rfl, trivial⟩, fun H' hh h => kFillQ (fun m hm => hk m ((E.hy m).2 (.inl hm))) (by have := E.l0; omega) h.1 hh, ⟨rfl, trivial⟩, fun H' hh h => kFillQ (fun m hm => hk m ((E.hy m).2 (.inr (.inl hm)))) (by have := E.l1; omega) h.1 hh, ⟨rfl, trivial⟩, fun H' hh h => kFillS (fun m hm => hk m ((E.hy m).2 (.inr (.inr hm)))) (by have := E.l2; omega) h.1 (by simp only [List.length_append, List.length_take, List.length_set, List.length_cons, List.length_nil] <;> omega) hh, hvOt hk hl E.hy⟩, fun c => absurd e0 c⟩
     ·have E := ex_1 hl J
      have hC := msgs_len x.c
      have hO := msgs_len (x.o ++ [x.c.getD i zeroM])
      have hP := msgs_len x.p0
      simp only [List.length_append, List.length_set, List.length_cons, List.length_nil] at hC hO hP
      have hT := takeO x.c x.r
      have h1T : ((List.take (x.r * 7) (List.drop 0 (x.c.flatMap msgC))) : List Value).all (fun v => one1 v) = true := by rw [hT]; exact msgs_oneO _
      refine ⟨⟨by omega, e1, ⟨Nat.le_refl _, by omega⟩, ⟨Nat.le_refl _, by omega⟩, h1T⟩, rfl, appO (by simp only [List.length_append, List.length_cons, List.length_nil]) hT, fun c => absurd c e1, fun _ => ⟨⟨by omega, e1, ⟨Nat.le_refl _, by omega⟩, ⟨Nat.le_refl _, by omega⟩, h1T⟩, rfl, appO (by simp only [List.length_append, List.length_cons, List.length_nil]) hT, ?_⟩⟩
      exact ⟨⟨rfl, trivial⟩, fun H' hh h => kFillS (fun m hm => hk m ((E.ho m).2 hm)) (by have := E.lo; omega) h.1 (by simp only [List.length_append, List.length_take, List.length_set, List.length_cons, List.length_nil] <;> omega) hh, ⟨rfl, rfl, rfl, rfl, trivial⟩, fun H' hh h => kAgrO hk hl E.ho (by decide) h.1 h.2.2.1 h.2.1 h.2.2.2.1, ⟨rfl, trivial⟩, fun H' hh h => kFillS (fun m hm => hk m ((E.hy m).2 (.inl hm))) (by have := E.l0; omega) h.1 (by simp only [List.length_append, List.length_take, List.length_set, List.length_cons, List.length_nil] <;> omega) hh, ⟨rfl, trivial⟩, fun H' hh h => kFillQ (fun m hm => hk m ((E.hy m).2 (.inr (.inl hm)))) (by have := E.l1; omega) h.1 hh, ⟨rfl, trivial⟩, fun H' hh h => kFillS (fun m hm => hk m ((E.hy m).2 (.inr (.inr hm)))) (by have := E.l2; omega) h.1 (by simp only [List.length_append, List.length_take, List.length_set, List.length_cons, List.length_nil] <;> omega) hh, hvOt hk hl E.hy⟩
    ·have he := of_decide_eq_false e
     refine ⟨⟨x.o ++ [x.c.getD i zeroM], x.c, x.r, x.p0, x.p1, x.p2 ++ [x.c.getD i zeroM], x.d + 1 + 1 + 1⟩, J.i (by simp only [List.length_append, List.length_cons, List.length_nil]; omega), by simp only [List.length_append, List.length_cons, List.length_nil]; omega, rfl, ?_⟩
     repeat' first | exact wk_snoc rfl | exact digO _ _ _ | exact plainML _ _ | (exact slE rfl (by rw [List.length_set])) | exact slE rfl rfl | exact trivial | exact rfl | exact wk_refl _ | refine wkO_cells ?_ | refine wks_cons ?_ ?_ | exact wks_nil | exact wk_nil _ _ _ (.inl rfl) | (exact wk_Q (by omega)) | refine wk_tupL ?_ | refine wk_aggL ?_ | refine joinMax ?_ ?_ ?_ | refine joinMin ?_ ?_ ?_ | refine toMax ?_ | refine toMin ?_ | refine ⟨rfl, ?_⟩ | refine ⟨trivial, ?_⟩ | (refine forkD (fun h => ?_) (fun h => ?_)) | (refine forkNe (fun h => ?_) (fun h => ?_)) | (refine forkEq (fun h => ?_) (fun h => ?_)) | refine forkNot ?_ | (refine ⟨vI64 (by omega), ?_⟩) | (refine And.intro (by omega) ?_) | apply And.intro | (exact iEq (by omega)) | (exact vI64 (by omega))
 ·have hr0 : x.r = 0 := by have := of_decide_eq_false b; omega
  have hol := hx.ol
  have hpl := hx.pl
  have J := hx.j
  refine ⟨fun e0 => ?_, fun e1 => absurd hr0 e1⟩
  have E := ex_0 J e0
  exact ⟨⟨by omega, e0⟩, fun _ => ⟨⟨by omega, e0⟩, ⟨rfl, trivial⟩, fun H' hh h => kFillQ (fun m hm => hk m ((E.ho m).2 hm)) (by have := E.lo; omega) h.1 hh, ⟨rfl, rfl, rfl, rfl, trivial⟩, fun H' hh h => kAgrO hk hl E.ho (by decide) h.1 h.2.2.1 h.2.1 h.2.2.2.1, ⟨rfl, trivial⟩, fun H' hh h => kFillQ (fun m hm => hk m ((E.hy m).2 (.inl hm))) (by have := E.l0; omega) h.1 hh, ⟨rfl, trivial⟩, fun H' hh h => kFillQ (fun m hm => hk m ((E.hy m).2 (.inr (.inl hm)))) (by have := E.l1; omega) h.1 hh, ⟨rfl, trivial⟩, fun H' hh h => kFillQ (fun m hm => hk m ((E.hy m).2 (.inr (.inr hm)))) (by have := E.l2; omega) h.1 hh, hvOt hk hl E.hy⟩, fun c => absurd e0 c⟩
theorem merge_nil {r : List Msg} (h : MergeI [] [] r) : r = [] := by
 cases r with
 | nil => rfl
 | cons a t => exact absurd ((h.2 a).1 (List.mem_cons_self ..)) (by simp)
theorem kSdO {A : List Int} {n : Int} (h0 : (sd A n).length = 0) {H : Heap} {D : Nat} (hD : H[D]? = some (.cells true 0 (digC A 0))) :
  KCall prog 25 [.pointer (some ⟨D, 0, none⟩), .int .i64 ((Int.toNat (n % 41) : Nat) : Int)] H [D] (Is (.slice (some ⟨H.length, 0, some 1⟩) 0 0) (H.set D (.cells true 0 (digC A (sdN A n))) ++ [.cells true 7 []])) := by
 have e := List.length_eq_zero_iff.1 h0
 have := kSd A n hD
 rw [e] at this; exact this
theorem hvOrd2 (A B : List Int) (n : Int) (h0 : (sd A n).length = 0) : Rord2 (.bool true) A B n := by
 have hk : ∀ m ∈ ([] : List Msg), okM m = true := fun m h => by cases h
 have ha : agreeB [] [] = true := agree_same List.nodup_nil List.nodup_nil (fun _ => Iff.rfl) hk
 unfold Rord2
 refine ⟨trivial, fun H' _ _ => kPick41 n H', ⟨rfl, trivial⟩, fun H' hh h => ?_, ⟨rfl, rfl, rfl, rfl, trivial⟩, fun H' hh h => ?_, ⟨rfl, rfl, rfl, rfl, trivial⟩, fun H' hh h => ?_, fun r hr => ?_⟩
 ·have := kSdO h0 h.1
  rw [hh] at this; exact this
 ·have := kAgrees hk hk (by decide) (by decide) (by decide) h.1 h.2.2.1 h.2.1 h.2.2.2.1
  rw [ha] at this; exact this
 ·have := kMerge (L := []) (M := []) List.nodup_nil (by decide) (by decide) h.1 h.2.2.1 h.2.1 h.2.2.2.1
  rw [hh] at this; exact this
 obtain rfl := merge_nil hr
 refine ⟨⟨rfl, rfl, rfl, rfl, trivial⟩, fun H' hh h => ?_, fun r hr => ?_⟩
 ·have := kMerge (L := []) (M := []) List.nodup_nil (by decide) (by decide) h.1 h.2.2.1 h.2.1 h.2.2.2.1
  rw [hh] at this; exact this
 obtain rfl := merge_nil hr
 refine ⟨⟨rfl, rfl, rfl, rfl, trivial⟩, fun H' hh h => ?_, fun r hr => ?_⟩
 ·have := kMerge (L := []) (M := []) List.nodup_nil (by decide) (by decide) h.1 h.2.2.1 h.2.1 h.2.2.2.1
  rw [hh] at this; exact this
 obtain rfl := merge_nil hr
 refine ⟨⟨rfl, rfl, rfl, rfl, trivial⟩, fun H' hh h => ?_, fun r hr => ?_⟩
 ·have := kMerge (L := []) (M := []) List.nodup_nil (by decide) (by decide) h.1 h.2.2.1 h.2.1 h.2.2.2.1
  rw [hh] at this; exact this
 obtain rfl := merge_nil hr
 refine ⟨⟨rfl, rfl, trivial⟩, fun H' hh h => ?_, ⟨rfl, rfl, rfl, rfl, trivial⟩, fun H' hh h => ?_, ⟨rfl, rfl, rfl, rfl, trivial⟩, fun H' hh h => ?_, ⟨rfl, rfl, rfl, rfl, trivial⟩, fun H' hh h => ?_, trivial, fun H' _ _ => kAwake H', rfl⟩
 ·have := kMergeP (L := []) (by decide) (by decide) h.1 h.2.1
  rw [hh] at this; exact this
 all_goals
  have := kAgrees hk hk (by decide) (by decide) (by decide) h.1 h.2.2.1 h.2.1 h.2.2.2.1
  rw [ha] at this; exact this
theorem kOrdersLaw (A B : List Int) (n : Int) (H : Heap) : KCall prog 5 [dI A, dI B, .int .i64 n] H [] (Is (.bool true) H) := by
 have hb : ([dI A, dI B, .int .i64 n] : List Value).all (belowC 0) = true := by
  show (belowC 0 (dI A) && (belowC 0 (dI B) && true)) = true
  rw [dI_b, dI_b]; rfl
 by_cases h0 : (sd A n).length = 0
 ·exact valK 40 (args_rn hb) rfl (Eq.mpr (Eord2 _ A B n) (hvOrd2 A B n h0)) H
 ·exact valK 40 (args_rn hb) rfl (Eq.mpr (Eord1 _ A B n) (hvOrd1 A B n h0)) H
end
end Go.Proofs.YtbgfjemppjhmjaaGreat
/- How laws' arguments are read. No condition. -/
namespace Go.Proofs.YtbgfjemppjhmjaaGreat
set_option linter.unusedSimpArgs false
open Go Go.K Go.ChangeShapes Go.WideShapes Go.ChangeAt Go.RowKit
set_option maxRecDepth 100000
set_option linter.unusedVariables false
noncomputable section
theorem own : ownKnob Tryz.prog.godebug = none := by kernel_rfl
theorem sized : slicesSized Tryz.prog = true := by kernel_rfl
abbrev known (t : TypeId) : Prop := t < Tryz.prog.types.size
theorem kids : Kids Tryz.prog known := kids_rows (by kernel_rfl) (by kernel_rfl)
theorem goodAD_cons {n : Nat} {t : TypeId} {ts : List TypeId} {vs : List Value} (h : GoodAD Tryz.prog n (t :: ts) vs) : ∃ v vs', vs = v :: vs' /\ GoodVD Tryz.prog n t v /\ GoodAD Tryz.prog n ts vs' := by
 cases vs with
 | nil => exact h.elim
 | cons v vs => exact ⟨v, vs, rfl, h.1, h.2⟩
theorem goodAD_nil {n : Nat} {vs : List Value} (h : GoodAD Tryz.prog n [] vs) : vs = [] := by
 cases vs with
 | nil => rfl
 | cons v vs => exact h.elim
theorem goodD_i64 {n : Nat} {c : List Value} (h : GoodD Tryz.prog (n + 1) 3 c) : ∃ x : Int, c = [.int .i64 x] /\ inI x := by
 unfold GoodD at h
 rw [show Tryz.prog.underlying 3 = some (.int .i64) by kernel_rfl] at h
 obtain ⟨x, rfl, h1, h2⟩ := h
 refine ⟨x, rfl, ?_⟩
 simp only [IntKind.min, IntKind.max, IntKind.signed, IntKind.bits] at h1 h2
 unfold inI
 simp at h1 h2
 omega
theorem goodVD_int {v : Value} (h : GoodVD Tryz.prog 6 3 v) : ∃ x : Int, v = .int .i64 x /\ inI x := by
 unfold GoodVD at h
 rw [show Tryz.prog.underlying 3 = some (.int .i64) by kernel_rfl] at h
 obtain ⟨x, h1, h2⟩ := goodD_i64 h
 exact ⟨x, by simpa using h1, h2⟩
theorem goodVD_ints {v : Value} (h : GoodVD Tryz.prog 6 22 v) : ∃ L : List Int, v = .iface (L.length + 1) (.agg ⟨L.flatMap intC⟩) /\ L.length <= maxLen /\ ∀ x ∈ L, inI x := by
 unfold GoodVD at h
 rw [show Tryz.prog.underlying 22 = some (.slice 3) by kernel_rfl] at h
 unfold GoodD at h
 rw [show Tryz.prog.underlying 22 = some (.slice 3) by kernel_rfl] at h
 obtain ⟨len, ds, h1, h2, h3, h4⟩ := h
 obtain ⟨xs, e1, e2, e3⟩ := goodL_list (f := intC) (q := inI) (fun c hc => goodD_i64 (n := 4) hc) len ds h4
 subst e1 e2
 exact ⟨xs, by simpa using h1, h3, e3⟩
end
end Go.Proofs.YtbgfjemppjhmjaaGreat
