/- Ice: some of reports: they are right; what they tell together; blamed sets. No condition. -/
import Derived.Test.YthcjliffpebjaaaGB2xB4
namespace Go.Proofs.Ythcjliffpebjaaa
set_option linter.unusedSimpArgs false
open Go Go.K
set_option linter.unusedVariables false
noncomputable section
attribute [local irreducible] vF popc
/-! ## When reports are right -/
structure OpenOk (l : List Report) (m : Rates) (now : Int) : Prop where
  ask : errAsk m now = 0
  len : l.length ≤ 12
  each : ∀ r ∈ l, reportOk r ∧ r.at_ ≤ now
  ids : l.Pairwise (fun a b => a.id ≠ b.id)
  here : ∀ a ∈ l, ∀ b ∈ l, a.x = b.x ∧ a.y = b.y
theorem getD_memR {α : Type} {l : List α} {d : α} {i : Nat} (h : i < l.length) : l.getD i d ∈ l := by
  rw [List.getD_eq_getElem?_getD, List.getElem?_eq_getElem h]; exact List.getElem_mem h
theorem getD_ofR {α : Type} {l : List α} {d a : α} (h : a ∈ l) : ∃ i, i < l.length ∧ l.getD i d = a := by
  obtain ⟨i, h1, rfl⟩ := List.mem_iff_getElem.1 h
  exact ⟨i, h1, by rw [List.getD_eq_getElem?_getD, List.getElem?_eq_getElem h1]; rfl⟩
theorem getD_elem {α : Type} {l : List α} {d : α} {i : Nat} (h : i < l.length) : l.getD i d = l[i] := by
  rw [List.getD_eq_getElem?_getD, List.getElem?_eq_getElem h]; rfl
theorem open_of {l : List Report} {m : Rates} {now : Int} (h : OpenOk l m now) : errOpen l m now = 0 := by
  rw [errOpen_3 h.ask (by have := h.len; omega)]
  have key : ∀ k, k ≤ l.length → errTo (errOne l now) k = 0 := by
    intro k
    induction k with
    | zero => intro _; rfl
    | succ k ih =>
      intro hk
      have hm := getD_memR (d := zeroR) (show k < l.length by omega)
      refine errTo_succ0 (ih (by omega)) (errOne_5 (errReport_iff.2 (h.each _ hm).1) ?_ ?_ ?_)
      · rintro ⟨j, hj, e⟩
        rw [getD_elem (by omega), getD_elem (by omega)] at e
        exact List.pairwise_iff_getElem.1 h.ids j k (by omega) (by omega) hj e
      · have := h.here _ hm _ (getD_memR (d := zeroR) (show 0 < l.length by omega))
        omega
      · have := (h.each _ hm).2; omega
  exact key _ (Nat.le_refl _)
/-! ## Some of a list -/
def someL (x : List Report) (p : Nat → Bool) : Nat → List Report
  | 0 => []
  | k + 1 => if p k then someL x p k ++ [x.getD k zeroR] else someL x p k
theorem someL_sub (x : List Report) (p : Nat → Bool) : ∀ k, k ≤ x.length → (someL x p k).Sublist (x.take k) := by
  intro k
  induction k with
  | zero => intro _; exact List.Sublist.refl _
  | succ k ih =>
    intro hk
    rw [List.take_add_one, List.getElem?_eq_getElem (by omega)]
    unfold someL
    split
    · rw [getD_elem (by omega)]
      exact (ih (by omega)).append (List.Sublist.refl _)
    · exact (ih (by omega)).trans (List.sublist_append_left ..)
theorem someL_len (x : List Report) (p : Nat → Bool) (k : Nat) : (someL x p k).length = cnt k p := by
  induction k with
  | zero => rfl
  | succ k ih =>
    rw [cnt_succ]
    unfold someL
    cases h : p k with
    | true => rw [if_pos rfl, List.length_append, ih]; rfl
    | false => rw [if_neg (by decide), ih]; rfl
theorem mem_someL {x : List Report} {p : Nat → Bool} {k : Nat} {r : Report} : r ∈ someL x p k ↔ ∃ i, i < k ∧ p i = true ∧ r = x.getD i zeroR := by
  induction k with
  | zero => constructor
            · intro h; cases h
            · rintro ⟨i, h, _⟩; omega
  | succ k ih =>
    unfold someL
    cases h : p k with
    | true =>
      rw [if_pos rfl, List.mem_append, ih, List.mem_singleton]
      constructor
      · rintro (⟨i, h1, h2, h3⟩ | rfl)
        · exact ⟨i, by omega, h2, h3⟩
        · exact ⟨k, by omega, h, rfl⟩
      · rintro ⟨i, h1, h2, h3⟩
        rcases Nat.lt_or_ge i k with g | g
        · exact .inl ⟨i, g, h2, h3⟩
        · obtain rfl : i = k := by omega
          exact .inr h3
    | false =>
      rw [if_neg (by decide), ih]
      constructor
      · rintro ⟨i, h1, h2, h3⟩; exact ⟨i, by omega, h2, h3⟩
      · rintro ⟨i, h1, h2, h3⟩
        rcases Nat.lt_or_ge i k with g | g
        · exact ⟨i, g, h2, h3⟩
        · obtain rfl : i = k := by omega
          rw [h] at h2; cases h2
theorem OpenOk.sub {l l' : List Report} {m : Rates} {now : Int} (h : OpenOk l m now) (hs : l'.Sublist l) : OpenOk l' m now :=
  ⟨h.ask, Nat.le_trans hs.length_le h.len, fun r hr => h.each r (hs.subset hr), h.ids.sublist hs, fun a ha b hb => h.here a (hs.subset ha) b (hs.subset hb)⟩
theorem OpenOk.some {x : List Report} {m : Rates} {now : Int} (h : OpenOk x m now) (p : Nat → Bool) {k : Nat} (hk : k ≤ x.length) : OpenOk (someL x p k) m now :=
  h.sub ((someL_sub x p k hk).trans (List.take_sublist ..))
/-! ## What they tell together -/
theorem told_get {l : List Report} {m : Rates} {now : Int} {i : Nat} (h : i < l.length) : (told l m now).getD i zeroC = tellsC (l.getD i zeroR) m now :=
  tabP_get (f := fun i => tellsC (l.getD i zeroR) m now) h
theorem ask_right {m : Rates} {now : Int} (h : errAsk m now = 0) : rightR m ∧ 0 ≤ now ∧ now ≤ 10000 := by
  unfold errAsk first2 at h
  split at h
  · rename_i h1
    unfold errHour at h
    split at h
    · rename_i h2; exact ⟨errRates_iff.1 h1, h2.1, h2.2⟩
    · cases h
  · rename_i h1; exact absurd h h1
theorem told_right {l : List Report} {m : Rates} {now : Int} (h : OpenOk l m now) : rightTs (told l m now) := by
  intro i hi
  rw [told_len] at hi
  rw [told_get hi]
  obtain ⟨h1, h2⟩ := h.each _ (getD_memR (d := zeroR) hi)
  obtain ⟨a1, a2, a3⟩ := ask_right h.ask
  have := h1.1.2.2.1
  exact ageC_right (saidC_right h1) a1 (show 0 ≤ now - (l.getD i zeroR).at_ ∧ now - (l.getD i zeroR).at_ ≤ 10000 by omega)
/-- No two of some reports are in conflict. -/
def okL (l : List Report) (m : Rates) (now : Int) : Prop := ∀ a ∈ l, ∀ b ∈ l, okC (meetC (tellsC a m now) (tellsC b m now))
theorem okL_iff {l : List Report} {m : Rates} {now : Int} : okL l m now ↔ okA (told l m now) (fun _ => true) := by
  constructor
  · intro h i j hi hj _ _
    rw [told_len] at hi hj
    rw [told_get hi, told_get hj]
    exact h _ (getD_memR hi) _ (getD_memR hj)
  · intro h a ha b hb
    obtain ⟨i, hi, rfl⟩ := getD_ofR (d := zeroR) ha
    obtain ⟨j, hj, rfl⟩ := getD_ofR (d := zeroR) hb
    rw [← told_get hi, ← told_get hj]
    exact h i j (by rw [told_len]; exact hi) (by rw [told_len]; exact hj) rfl rfl
theorem okA_congr {ts : List Cell} {p q : Nat → Bool} (h : ∀ i, i < ts.length → p i = q i) : okA ts p ↔ okA ts q :=
  ⟨fun k i j hi hj h1 h2 => k i j hi hj (by rw [h i hi]; exact h1) (by rw [h j hj]; exact h2), fun k i j hi hj h1 h2 => k i j hi hj (by rw [← h i hi]; exact h1) (by rw [← h j hj]; exact h2)⟩
theorem fuse_code {l : List Report} {m : Rates} {now : Int} (h : OpenOk l m now) : ((fFuse l m now).2 = 0 ↔ okL l m now) ∧ ((fFuse l m now).2 = 0 ∨ (fFuse l m now).2 = 21) := by
  have he := open_of h
  have hf : ∀ i, i < (told l m now).length → inSet (told l m now).length (2 ^ l.length - 1) i = true := fun i hi => by
    rw [told_len] at hi ⊢; exact inSet_full hi
  have ht := tog_iff (told_right h) (2 ^ l.length - 1)
  rw [okA_congr hf, ← okL_iff] at ht
  cases hq : (togA (told l m now) (2 ^ l.length - 1)).isSome with
  | true =>
    rw [fFuse_3 he hq]
    exact ⟨⟨fun _ => ht.1 hq, fun _ => rfl⟩, .inl rfl⟩
  | false =>
    rw [fFuse_2 he hq]
    refine ⟨⟨fun h => absurd h (by show ¬ (21 : Int) = 0; decide), fun h => ?_⟩, .inr rfl⟩
    have := ht.2 h
    rw [hq] at this; cases this
theorem okL_some {x : List Report} {m : Rates} {now : Int} {p : Nat → Bool} : okL (someL x p x.length) m now ↔ okA (told x m now) p := by
  constructor
  · intro h i j hi hj h1 h2
    rw [told_len] at hi hj
    rw [told_get hi, told_get hj]
    exact h _ (mem_someL.2 ⟨i, hi, h1, rfl⟩) _ (mem_someL.2 ⟨j, hj, h2, rfl⟩)
  · intro h a ha b hb
    obtain ⟨i, hi, h1, rfl⟩ := mem_someL.1 ha
    obtain ⟨j, hj, h2, rfl⟩ := mem_someL.1 hb
    rw [← told_get hi, ← told_get hj]
    exact h i j (by rw [told_len]; exact hi) (by rw [told_len]; exact hj) h1 h2
/-! ## Pairs in conflict -/
theorem mem_confRow {ts : List Cell} {i k : Nat} {q : Nat × Nat} (h : q ∈ confRow ts i k) : ∃ j, j < k ∧ q = (i, i + 1 + j) ∧ ¬ okC (meetC (ts.getD i zeroC) (ts.getD (i + 1 + j) zeroC)) := by
  induction k with
  | zero => cases h
  | succ k ih =>
    by_cases hc : okC (meetC (ts.getD i zeroC) (ts.getD (i + 1 + k) zeroC))
    · rw [confRow_a hc] at h
      obtain ⟨j, h1, h2⟩ := ih h
      exact ⟨j, by omega, h2⟩
    · rw [confRow_b hc] at h
      rcases List.mem_append.1 h with h | h
      · obtain ⟨j, h1, h2⟩ := ih h
        exact ⟨j, by omega, h2⟩
      · rw [List.mem_singleton.1 h]; exact ⟨k, by omega, rfl, hc⟩
theorem confRow_mem {ts : List Cell} {i k j : Nat} (hj : j < k) (hc : ¬ okC (meetC (ts.getD i zeroC) (ts.getD (i + 1 + j) zeroC))) : (i, i + 1 + j) ∈ confRow ts i k := by
  induction k with
  | zero => omega
  | succ k ih =>
    rcases Nat.lt_or_ge j k with h1 | h1
    · by_cases hk : okC (meetC (ts.getD i zeroC) (ts.getD (i + 1 + k) zeroC))
      · rw [confRow_a hk]; exact ih h1
      · rw [confRow_b hk]; exact List.mem_append_left _ (ih h1)
    · obtain rfl : j = k := by omega
      rw [confRow_b hc]; exact List.mem_append_right _ (List.mem_singleton.2 rfl)
theorem mem_conf {ts : List Cell} {n : Nat} (hn : n ≤ ts.length) {q : Nat × Nat} : q ∈ conf ts n ↔ q.1 < n ∧ q.1 < q.2 ∧ q.2 < ts.length ∧ ¬ okC (meetC (ts.getD q.1 zeroC) (ts.getD q.2 zeroC)) := by
  induction n with
  | zero => constructor
            · intro h; cases h
            · rintro ⟨h, _⟩; omega
  | succ n ih =>
    show q ∈ conf ts n ++ confRow ts n (ts.length - (n + 1)) ↔ _
    rw [List.mem_append, ih (by omega)]
    constructor
    · rintro (⟨h1, h2, h3, h4⟩ | h)
      · exact ⟨by omega, h2, h3, h4⟩
      · obtain ⟨j, h1, rfl, h2⟩ := mem_confRow h
        exact ⟨by show n < n + 1; omega, by show n < n + 1 + j; omega, by show n + 1 + j < _; omega, h2⟩
    · rintro ⟨h1, h2, h3, h4⟩
      rcases Nat.lt_or_ge q.1 n with h5 | h5
      · exact .inl ⟨h5, h2, h3, h4⟩
      · right
        obtain ⟨a, b⟩ := q
        simp only at h1 h2 h3 h4 h5
        obtain rfl : a = n := by omega
        have := confRow_mem (k := ts.length - (a + 1)) (j := b - (a + 1)) (by omega) (by rw [show a + 1 + (b - (a + 1)) = b by omega]; exact h4)
        rw [show a + 1 + (b - (a + 1)) = b by omega] at this
        exact this
theorem meet_comm (a b : Cell) : okC (meetC a b) ↔ okC (meetC b a) := by
  rw [okM, okM]; exact ⟨fun h d => by have := h d; omega, fun h d => by have := h d; omega⟩
theorem meet_self {a : Cell} (h : rightC a) : okC (meetC a a) := by
  rw [okM]; intro d; have := right_sp h d; omega
theorem conf_nil {ts : List Cell} (hr : rightTs ts) : conf ts ts.length = [] ↔ okA ts (fun _ => true) := by
  constructor
  · intro h i j hi hj _ _
    rcases Nat.lt_trichotomy i j with h1 | h1 | h1
    · refine Classical.byContradiction fun hc => ?_
      have := (mem_conf (Nat.le_refl _) (q := (i, j))).2 ⟨hi, h1, hj, hc⟩
      rw [h] at this; cases this
    · subst h1; exact meet_self (hr i hi)
    · refine Classical.byContradiction fun hc => ?_
      have := (mem_conf (Nat.le_refl _) (q := (j, i))).2 ⟨hj, h1, hi, fun h => hc ((meet_comm _ _).1 h)⟩
      rw [h] at this; cases this
  · intro h; exact conf_none (fun i k hi hk => h i k hi hk rfl rfl) _ (Nat.le_refl _)
/-! ## Blamed sets -/
theorem mem_outTo {n s x : Nat} {v : Int} : v ∈ outTo n s x ↔ ∃ k : Nat, k < x ∧ inSet n s k = false ∧ v = ((k : Nat) : Int) := by
  induction x with
  | zero => constructor
            · intro h; cases h
            · rintro ⟨k, h, _⟩; omega
  | succ x ih =>
    cases h : inSet n s x with
    | true =>
      rw [outTo_a h, ih]
      constructor
      · rintro ⟨k, h1, h2⟩; exact ⟨k, by omega, h2⟩
      · rintro ⟨k, h1, h2, h3⟩
        rcases Nat.lt_or_ge k x with g | g
        · exact ⟨k, g, h2, h3⟩
        · obtain rfl : k = x := by omega
          rw [h] at h2; cases h2
    | false =>
      rw [outTo_b (by rw [h]; decide), List.mem_append, ih, List.mem_singleton]
      constructor
      · rintro (⟨k, h1, h2⟩ | rfl)
        · exact ⟨k, by omega, h2⟩
        · exact ⟨x, by omega, h, rfl⟩
      · rintro ⟨k, h1, h2, h3⟩
        rcases Nat.lt_or_ge k x with g | g
        · exact .inl ⟨k, g, h2, h3⟩
        · obtain rfl : k = x := by omega
          exact .inr h3
theorem outTo_cnt (n s x : Nat) : (outTo n s x).length + cnt x (inSet n s) = x := by
  induction x with
  | zero => rfl
  | succ x ih =>
    rw [cnt_succ]
    cases h : inSet n s x with
    | true => rw [outTo_a h]; simp; omega
    | false => rw [outTo_b (by rw [h]; decide), List.length_append]; simp; omega
theorem outTo_sorted (n s x : Nat) : (outTo n s x).Pairwise (· < ·) := by
  induction x with
  | zero => exact .nil
  | succ x ih =>
    cases h : inSet n s x with
    | true => rw [outTo_a h]; exact ih
    | false =>
      rw [outTo_b (by rw [h]; decide), List.pairwise_append]
      refine ⟨ih, List.pairwise_singleton .., fun a ha b hb => ?_⟩
      obtain ⟨k, hk, _, rfl⟩ := mem_outTo.1 ha
      rw [List.mem_singleton.1 hb]; omega
theorem blamed_mem {ts : List Cell} {l : List Int} : l ∈ blamedL ts ↔ ∃ s ∈ agrA ts, l = outTo ts.length s ts.length := by
  constructor
  · exact mem_blamedL
  · rintro ⟨s, hs, rfl⟩
    unfold blamedL srtL
    rw [List.mem_mergeSort]
    obtain ⟨i, hi, rfl⟩ := getD_ofR (d := 0) hs
    exact List.mem_map.2 ⟨i, List.mem_range.2 hi, rfl⟩
theorem blamed_ne (ts : List Cell) : 0 < (blamedL ts).length := by rw [blamedL_len]; exact List.length_pos_iff.2 (agrA_ne ts)
theorem blamed_len {ts : List Cell} (hr : rightTs ts) (hn : ts.length ≤ 12) {l : List Int} (h : l ∈ blamedL ts) : l.length + maxP ts = ts.length := by
  obtain ⟨s, hs, rfl⟩ := blamed_mem.1 h
  rw [← ((mem_agrA hr hn).1 hs).2.2]
  exact outTo_cnt ..
end
end Go.Proofs.Ythcjliffpebjaaa
/- Ice: IceBlames, IceGuilt: what is reached in loops. No condition. -/
namespace Go.Proofs.Ythcjliffpebjaaa
set_option linter.unusedSimpArgs false
set_option linter.unusedVariables false
open Go Go.K
noncomputable section
def fixS (s : Span) (most : Int) : Span := ⟨min (s.lo % (most + 1)) (s.hi % (most + 1)), max (s.lo % (most + 1)) (s.hi % (most + 1))⟩
def rightAt (l : List Report) (i : Nat) : Report :=
  ⟨i, 1 + (l.getD i zeroR).source % 3, (l.getD i zeroR).at_ % 100, 0, 0, 1 + (l.getD i zeroR).has % 15, ⟨fixS (l.getD i zeroR).cell.conc 100, fixS (l.getD i zeroR).cell.thick 400, fixS (l.getD i zeroR).cell.ridge 100, fixS (l.getD i zeroR).cell.press 3⟩⟩
def rightL (l : List Report) (n : Nat) : List Report := tabP (rightAt l) n
def sameTo (b : List Int) (T : List Bool) (z : Nat) : Bool := (List.range z).all fun k => decide (((k : Nat) : Int) ∈ b) != T.getD k false
def foundTo (n : Nat) (B : List (List Int)) (T : List Bool) (x : Nat) : Bool := (List.range x).any fun j => sameTo (B.getD j []) T n
def outB (n : Nat) (b : List Int) (y : Nat) : List Bool := tabP (fun k => decide (((k : Nat) : Int) ∈ b.take y)) n
def notInB (b : List Int) (k : Nat) : Bool := !decide (((k : Nat) : Int) ∈ b)
def bitOff (s : Int) (k : Nat) : Bool := ((IntKind.wrap .i64 (((BitVec.ofInt (IntKind.bits .i64) (Int.fdiv s (2 ^ min (Int.toNat ((k : Nat) : Int)) (IntKind.bits .i64))) &&& BitVec.ofInt (IntKind.bits .i64) 1).toNat : Nat)) : Int) == 0)
/-- How often a number is in the first y lists, and the first z numbers of the next one. -/
def cntTo (B : List (List Int)) (i : Int) (y : Nat) : Nat := (List.range y).foldl (fun n k => n + (B.getD k []).count i) 0
def pairIn (P : List (Nat × Nat)) (i : Int) (u : Nat) : Bool := (P.take u).any fun q => ((q.1 : Nat) : Int) == i || ((q.2 : Nat) : Int) == i
end
end Go.Proofs.Ythcjliffpebjaaa
