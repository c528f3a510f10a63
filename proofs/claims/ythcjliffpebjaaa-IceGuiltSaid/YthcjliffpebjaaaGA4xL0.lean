/- Ice: the examples of the chapter (awake), as a contract. No condition. -/
import Derived.Test.YthcjliffpebjaaaA4a
import Derived.Test.YthcjliffpebjaaaB6g
import Derived.Test.YthcjliffpebjaaaB8g
import Derived.Test.YthcjliffpebjaaaGS0xS7g
import Derived.Test.YthcjliffpebjaaaGK27xP1a
import Derived.Test.YthcjliffpebjaaaRows
import Derived.JoinedCond
namespace Go.Proofs.Ythcjliffpebjaaa
set_option linter.unusedSimpArgs false
set_option linter.unusedVariables false
open Go Go.K
set_option maxRecDepth 100000
noncomputable section
attribute [local irreducible] vF
theorem kAwake (H : Heap) : KCall prog F.polynyalaw01_awake [] H [] (Is (.bool true) H) := by
  have hv : vF prog msk (dm impI) 100000 true 40 true F.polynyalaw01_awake [] ⟨0, .leaf⟩ none .auto (fun v _ _ => isTrueV v) := of_eq_true awakeRun
  have h0 := vc (P := prog) (mask := msk) (dm := dm impI) (rounds := 100000) (mixed := true) mskOk mixed 40 (f := F.polynyalaw01_awake) (args := []) (H := ⟨0, .leaf⟩) (M := none) (h := .auto) (Q := fun v _ => isTrueV v) hv
  have h1 : KCall prog F.polynyalaw01_awake [] [] [] (fun v _ => v = .bool true) := h0.post (fun v H' h => by
      cases v <;> first | exact h.elim | (rename_i b; cases b <;> first | rfl | exact h.elim))
  have h2 : KCall prog F.polynyalaw01_awake [] [] [] (Is (.bool true) []) := KCall.clean h1 rfl
  have h3 := KCall.frame (H := H) (new := []) (d := 3) (σ := fun _ => none) ⟨fun g hg => absurd hg (by rw [glob0]; exact Nat.not_lt_zero _), fun _ _ h => (by cases h), fun id h => absurd h (Nat.not_lt_zero _), fun _ _ _ h => (by cases h), fun _ _ _ h => (by cases h)⟩ h2 rfl rfl
  simpa [rn] using h3
end
end Go.Proofs.Ythcjliffpebjaaa
/- Ice: reports made right. No condition. -/
namespace Go.Proofs.Ythcjliffpebjaaa
open Go Go.K
set_option maxRecDepth 100000
set_option linter.unusedVariables false
set_option linter.unusedSimpArgs false
noncomputable section
attribute [local irreducible] vF popc hasK
theorem rightL_len (l : List Report) (n : Nat) : (rightL l n).length = n := tabP_len ..
theorem rightL_succ (l : List Report) (n : Nat) : rightL l (n + 1) = rightL l n ++ [rightAt l n] := tabP_succ ..
theorem rightL_get {l : List Report} {n k : Nat} (h : k < n) : (rightL l n).getD k zeroR = rightAt l k := tabP_get h
theorem kRight (l : List Report) (hl8 : l.length ≤ 4294967296) {H : Heap} {L : Nat} (hL : H.length = L) {id : Nat} {own : Bool} {z : Nat} (hid : H[id]? = some (.cells own z (l.flatMap reportC))) :
    KCall prog F.polynyalaw01_Right [.slice (some ⟨id, 0, some 2⟩) l.length l.length] H []
      (Is (.slice (some ⟨L, 0, some 1⟩) (rightL l l.length).length (rightL l l.length).length) (H ++ [.cells true 14 ((rightL l l.length).flatMap reportC)])) := by
  subst hL
  have key := fun hc => valN (css := [l.flatMap reportC]) (v := .slice (some ⟨1, 0, some 1⟩) (rightL l l.length).length (rightL l l.length).length) (new := [(true, .cells true 14 ((rightL l l.length).flatMap reportC))]) (Eq.mpr (ERight l) hc) (one_cs (plainR 0 l)) rfl (by simp [rn, sgOnly])
    (by show ((rnoOk 3 (.cells true 14 ((rightL l l.length).flatMap reportC)) && true) && true) = true
        rw [Bool.and_true, Bool.and_true]; exact (rnCl (σ := fun _ => none) (d := 0) (plainR 0 _)).2)
    (congrArg (fun q => [KObj.cells true 14 q]) (rnCl (d := 0) (plainR 0 _)).1) (H := H) [id] rfl (one_id hid)
  have e1 : rn (sgUp (0 + [l.flatMap reportC].length) H.length) 3 (.slice (some ⟨1, 0, some 1⟩) (rightL l l.length).length (rightL l l.length).length) = .slice (some ⟨H.length, 0, some 1⟩) (rightL l l.length).length (rightL l l.length).length := by simp [rn, sgUp]
  have e2 : (List.map (fun x : Bool × KObj => x.2) [(true, KObj.cells true 14 ((rightL l l.length).flatMap reportC))]).map (rno (sgUp (0 + [l.flatMap reportC].length) H.length) 3) = [.cells true 14 ((rightL l l.length).flatMap reportC)] :=
    congrArg (fun q => [KObj.cells true 14 q]) (rnCl (d := 0) (plainR 0 _)).1
  rw [e1, e2] at key
  refine key ?_
  clear key e1 e2
  unfold RRight
  refine ⟨rfl, Nat.zero_le _, ?_, fun _ => rfl, ?_⟩
  · repeat' first
      | exact plainR _ _
      | exact trivial
      | exact rfl
      | exact wk_refl _
      | refine wkO_cells ?_
      | refine wks_cons ?_ ?_
      | exact wks_nil
      | exact wk_nil _ _ _ (.inl rfl)
      | exact wk_Q (by omega)
      | refine wk_tupL ?_
      | refine wk_aggL ?_
      | refine joinMax ?_ ?_ ?_
      | refine joinMin ?_ ?_ ?_
      | refine toMax ?_
      | refine toMin ?_
      | refine ⟨rfl, ?_⟩
      | refine ⟨trivial, ?_⟩
      | refine forkD (fun h => ?_) (fun h => ?_)
      | refine forkNe (fun h => ?_) (fun h => ?_)
      | refine forkEq (fun h => ?_) (fun h => ?_)
      | refine forkNot ?_
      | refine ⟨vI64 (by omega), ?_⟩
      | refine And.intro (by omega) ?_
      | apply And.intro
      | exact iEq (by omega)
      | exact vI64 (by omega)
      | fail
  intro x hx
  refine forkD (fun h => ?_) (fun h => ?_)
  · have hlt : x < l.length := by omega
    have hl := rightL_len l x
    have g1 := Int.emod_nonneg (l.getD x zeroR).source (show (3 : Int) ≠ 0 by decide)
    have g2 := Int.emod_lt_of_pos (l.getD x zeroR).source (show (0 : Int) < 3 by decide)
    have g3 := Int.emod_nonneg (l.getD x zeroR).has (show (15 : Int) ≠ 0 by decide)
    have g4 := Int.emod_lt_of_pos (l.getD x zeroR).has (show (0 : Int) < 15 by decide)
    have hcell : ∀ c, c < 14 → ∀ v, (reportC (l.getD x zeroR))[c]? = some v → (List.flatMap reportC l)[0 + Int.toNat ((x : Nat) : Int) * 14 + c]? = some v := fun c hc v hv =>
      cell_at (n := 14) (f := reportC) (d := zeroR) (c := c) (k := x) reportC_len hlt (by rw [Int.toNat_natCast]; omega) hv
    have hpart : partA 8 (List.flatMap reportC l) (0 + Int.toNat ((x : Nat) : Int) * 14 + 6) = some (.agg ⟨((reportC (l.getD x zeroR)).drop 6).take 8⟩) :=
      part_at (f := reportC) (d := zeroR) (c := 6) (m := 8) reportC_len hlt (by rw [Int.toNat_natCast]; omega) (by decide)
    have hpick : ∀ (a : Int) (n : Int), 1 ≤ n → n ≤ 10000000 → ∀ H' : Heap, KCall prog 17 [.int .i64 a, .int .i64 n] H' [] (Is (.int .i64 (a % n)) H') := fun a n h1 h2 H' => kPick a n (by omega) (by omega) H'
    refine ⟨by omega, hpart, by omega, hcell 1 (by decide) _ rfl, by omega, hcell 2 (by decide) _ rfl, by omega, hcell 5 (by decide) _ rfl, ?_⟩
    repeat' first
      | refine ⟨_, trivial, fun H' _ _ => hpick _ _ (by decide) (by decide) H', ?_⟩
      | refine ⟨vI64 (by omega), ?_⟩
      | fail
    simp only [ite_max, ite_min]
    refine ⟨⟨by omega, by decide, ⟨Nat.le_refl _, by rw [flat_len reportC_len]; omega⟩, ⟨by decide, Nat.le_refl _⟩, by first | trivial | rfl⟩, by first | trivial | rfl, vI64 (by omega), x + 1, by omega, by omega, ?_⟩
    rw [rightL_succ]
    repeat' first
      | exact plainR _ _
      | exact congrArg (fun l => some (KObj.cells true 14 l)) (flat_snoc reportC_len (rightL l x) (rightAt l x) (rightL_len ..).symm)
      | exact trivial
      | exact rfl
      | exact wk_refl _
      | refine wkO_cells ?_
      | refine wks_cons ?_ ?_
      | exact wks_nil
      | exact wk_nil _ _ _ (.inl rfl)
      | exact wk_Q (by omega)
      | refine wk_tupL ?_
      | refine wk_aggL ?_
      | refine joinMax ?_ ?_ ?_
      | refine joinMin ?_ ?_ ?_
      | refine toMax ?_
      | refine toMin ?_
      | refine ⟨rfl, ?_⟩
      | refine ⟨trivial, ?_⟩
      | refine forkD (fun h => ?_) (fun h => ?_)
      | refine forkNe (fun h => ?_) (fun h => ?_)
      | refine forkEq (fun h => ?_) (fun h => ?_)
      | refine forkNot ?_
      | refine ⟨vI64 (by omega), ?_⟩
      | refine And.intro (by omega) ?_
      | apply And.intro
      | exact iEq (by omega)
      | exact vI64 (by omega)
      | fail
  · obtain rfl : x = l.length := by omega
    repeat' first
      | exact plainR _ _
      | exact (by rw [rightL_len]; exact wk_refl _)
      | exact trivial
      | exact rfl
      | exact wk_refl _
      | refine wkO_cells ?_
      | refine wks_cons ?_ ?_
      | exact wks_nil
      | exact wk_nil _ _ _ (.inl rfl)
      | exact wk_Q (by omega)
      | refine wk_tupL ?_
      | refine wk_aggL ?_
      | refine joinMax ?_ ?_ ?_
      | refine joinMin ?_ ?_ ?_
      | refine toMax ?_
      | refine toMin ?_
      | refine ⟨rfl, ?_⟩
      | refine ⟨trivial, ?_⟩
      | refine forkD (fun h => ?_) (fun h => ?_)
      | refine forkNe (fun h => ?_) (fun h => ?_)
      | refine forkEq (fun h => ?_) (fun h => ?_)
      | refine forkNot ?_
      | refine ⟨vI64 (by omega), ?_⟩
      | refine And.intro (by omega) ?_
      | apply And.intro
      | exact iEq (by omega)
      | exact vI64 (by omega)
      | fail
end
end Go.Proofs.Ythcjliffpebjaaa
/- Ice: what is so of blamed sets. No condition. -/
namespace Go.Proofs.Ythcjliffpebjaaa
open Go Go.K
set_option maxRecDepth 100000
set_option linter.unusedVariables false
set_option linter.unusedSimpArgs false
noncomputable section
attribute [local irreducible] vF popc hasK
theorem fixS_right {s : Span} {n : Int} (hn : 0 ≤ n) : rightS (fixS s n) n := by
  have h1 := Int.emod_nonneg s.lo (show n + 1 ≠ 0 by omega)
  have h2 := Int.emod_lt_of_pos s.lo (show 0 < n + 1 by omega)
  have h3 := Int.emod_nonneg s.hi (show n + 1 ≠ 0 by omega)
  have h4 := Int.emod_lt_of_pos s.hi (show 0 < n + 1 by omega)
  show 0 ≤ min _ _ ∧ min _ _ ≤ n ∧ min _ _ ≤ max _ _ ∧ max _ _ ≤ n
  omega
theorem rightAt_ok (l : List Report) {i : Nat} (hi : i ≤ 1000000) : reportOk (rightAt l i) ∧ (rightAt l i).at_ ≤ 100 := by
  have h1 := Int.emod_nonneg (l.getD i zeroR).source (show (3 : Int) ≠ 0 by decide)
  have h2 := Int.emod_lt_of_pos (l.getD i zeroR).source (show (0 : Int) < 3 by decide)
  have h3 := Int.emod_nonneg (l.getD i zeroR).has (show (15 : Int) ≠ 0 by decide)
  have h4 := Int.emod_lt_of_pos (l.getD i zeroR).has (show (0 : Int) < 15 by decide)
  have h5 := Int.emod_nonneg (l.getD i zeroR).at_ (show (100 : Int) ≠ 0 by decide)
  have h6 := Int.emod_lt_of_pos (l.getD i zeroR).at_ (show (0 : Int) < 100 by decide)
  refine ⟨⟨⟨?_, ?_, ?_, ?_, ?_, ?_⟩, fun _ => fixS_right (by decide), fun _ => fixS_right (by decide), fun _ => fixS_right (by decide), fun _ => fixS_right (by decide)⟩, ?_⟩
  · show 0 ≤ ((i : Nat) : Int) ∧ ((i : Nat) : Int) ≤ 1000000; omega
  · show 1 ≤ 1 + _ % (3 : Int) ∧ 1 + _ % (3 : Int) ≤ 3; omega
  · show 0 ≤ _ % (100 : Int) ∧ _ % (100 : Int) ≤ 10000; omega
  · exact ⟨Int.le_refl _, (show (0 : Int) ≤ 63 by decide)⟩
  · exact ⟨Int.le_refl _, (show (0 : Int) ≤ 63 by decide)⟩
  · show 1 ≤ 1 + _ % (15 : Int) ∧ 1 + _ % (15 : Int) ≤ 15; omega
  · show _ % (100 : Int) ≤ 100; omega
theorem right_open {l : List Report} {m : Rates} (hm : errRates m = 0) (hl : l.length ≤ 12) : OpenOk (rightL l l.length) m 100 := by
  refine ⟨(first2_2 hm).trans (if_pos ⟨by decide, by decide⟩), by rw [rightL_len]; exact hl, fun r hr => ?_, ?_, fun a ha b hb => ?_⟩
  · obtain ⟨i, hi, rfl⟩ := getD_ofR (d := zeroR) hr
    rw [rightL_len] at hi
    rw [rightL_get hi]
    exact rightAt_ok l (by omega)
  · rw [List.pairwise_iff_getElem]
    intro i j hi hj hij e
    rw [← getD_elem (d := zeroR), ← getD_elem (d := zeroR)] at e
    rw [rightL_len] at hi hj
    rw [rightL_get hi, rightL_get hj] at e
    have e : ((i : Nat) : Int) = ((j : Nat) : Int) := e
    omega
  · obtain ⟨i, hi, rfl⟩ := getD_ofR (d := zeroR) ha
    obtain ⟨j, hj, rfl⟩ := getD_ofR (d := zeroR) hb
    rw [rightL_len] at hi hj
    rw [rightL_get hi, rightL_get hj]
    exact ⟨rfl, rfl⟩
theorem sameTo_succ (b : List Int) (T : List Bool) (z : Nat) : sameTo b T (z + 1) = (sameTo b T z && (decide (((z : Nat) : Int) ∈ b) != T.getD z false)) := by
  unfold sameTo
  rw [List.range_succ, List.all_append]; simp
theorem foundTo_succ (n : Nat) (B : List (List Int)) (T : List Bool) (x : Nat) : foundTo n B T (x + 1) = (foundTo n B T x || sameTo (B.getD x []) T n) := by
  unfold foundTo
  rw [List.range_succ, List.any_append]; simp
theorem outB_len (n : Nat) (b : List Int) (y : Nat) : (outB n b y).length = n := tabP_len ..
theorem outB_get {n : Nat} {b : List Int} {y k : Nat} (h : k < n) : (outB n b y).getD k false = decide (((k : Nat) : Int) ∈ b.take y) := tabP_get h
/-- What is so of blamed sets. -/
structure Blm (x : List Report) (m : Rates) (B : List (List Int)) (P : List (Nat × Nat)) (T : List Bool) : Prop where
  pos : 0 < B.length
  few : B.length ≤ 4096
  fewP : P.length ≤ 4096
  len : T.length = x.length
  size : ∀ b ∈ B, b.length = (B.getD 0 []).length
  short : ∀ b ∈ B, b.length ≤ x.length
  ins : ∀ b ∈ B, ∀ v ∈ b, 0 ≤ v ∧ v < x.length
  inc : ∀ b ∈ B, b.Pairwise (· < ·)
  pairs : ∀ q ∈ P, q.1 < q.2 ∧ q.2 < x.length
  hits : ∀ b ∈ B, ∀ q ∈ P, ((q.1 : Nat) : Int) ∈ b ∨ ((q.2 : Nat) : Int) ∈ b
  rest : ∀ b ∈ B, (fFuse (someL x (notInB b) x.length) m 100).2 = 0
  found : foundTo x.length B T B.length = true
  other : ∀ p : Nat → Bool, ((fFuse (someL x p x.length) m 100).2 = 0 ∧ (B.getD 0 []).length ≤ x.length - (someL x p x.length).length) ∨ (fFuse (someL x p x.length) m 100).2 = 21
  none : P = [] ↔ (B.getD 0 []) = []
theorem blm {x : List Report} {m : Rates} (h : OpenOk x m 100) : Blm x m (blamedL (told x m 100)) (conf (told x m 100) x.length) (trustL (told x m 100) x.length) := by
  have hr := told_right h
  have hn : (told x m 100).length ≤ 12 := by rw [told_len]; exact h.len
  have hne := blamed_ne (told x m 100)
  have h0m : (blamedL (told x m 100)).getD 0 [] ∈ blamedL (told x m 100) := getD_memR hne
  have h0 := blamed_len hr hn h0m
  obtain ⟨ts, hts⟩ : ∃ ts, told x m 100 = ts := ⟨_, rfl⟩
  have hl : ts.length = x.length := by rw [← hts]; exact told_len ..
  rw [hts] at hr hn hne h0m h0 ⊢
  have nin : ∀ s b, b = outTo ts.length s ts.length → ∀ k, k < ts.length → notInB b k = inSet ts.length s k := by
    intro s b hb k hk
    unfold notInB
    have : (((k : Nat) : Int) ∈ b) ↔ inSet ts.length s k = false := by
      rw [hb, mem_outTo]
      constructor
      · rintro ⟨j, _, h2, e⟩
        obtain rfl : k = j := by omega
        exact h2
      · intro h; exact ⟨k, hk, h, rfl⟩
    cases hq : inSet ts.length s k with
    | true => rw [decide_eq_false (fun h => by rw [this.1 h] at hq; cases hq)]; rfl
    | false => rw [decide_eq_true (this.2 hq)]; rfl
  refine ⟨hne, by rw [blamedL_len]; exact Nat.le_trans (agr_len _ _) (pow12 hn).2, by have := Nat.le_trans (conf_len ts x.length) (Nat.mul_le_mul (show x.length ≤ 12 by omega) hn); omega, tabP_len .., fun b hb => ?_, fun b hb => by have := blamed_len hr hn hb; omega, fun b hb v hv => ?_, fun b hb => ?_, fun q hq => ?_, fun b hb q hq => ?_, fun b hb => ?_, ?_, fun p => ?_, ?_⟩
  · have := blamed_len hr hn hb; omega
  · obtain ⟨s, _, rfl⟩ := blamed_mem.1 hb
    obtain ⟨k, h1, _, rfl⟩ := mem_outTo.1 hv
    omega
  · obtain ⟨s, _, rfl⟩ := blamed_mem.1 hb
    exact outTo_sorted ..
  · rw [← hl] at hq
    have := (mem_conf (Nat.le_refl _)).1 hq
    omega
  · rw [← hl] at hq
    obtain ⟨h1, h2, h3, h4⟩ := (mem_conf (Nat.le_refl _)).1 hq
    obtain ⟨s, hs, rfl⟩ := blamed_mem.1 hb
    obtain ⟨_, ho, _⟩ := (mem_agrA hr hn).1 hs
    rw [mem_outTo, mem_outTo]
    cases k1 : inSet ts.length s q.1 with
    | false => exact .inl ⟨q.1, h1, k1, rfl⟩
    | true =>
      cases k2 : inSet ts.length s q.2 with
      | false => exact .inr ⟨q.2, h3, k2, rfl⟩
      | true => exact absurd (ho q.1 q.2 h1 h3 k1 k2) h4
  · obtain ⟨s, hs, hb'⟩ := blamed_mem.1 hb
    obtain ⟨_, ho, _⟩ := (mem_agrA hr hn).1 hs
    refine (fuse_code (h.some _ (Nat.le_refl _))).1.2 (okL_some.2 ?_)
    rw [hts]
    exact (okA_congr (nin s b hb')).2 ho
  · have hm := blamed_mem.2 ⟨trustS ts, trustS_mem ts, rfl⟩
    obtain ⟨i, hi, e⟩ := getD_ofR (d := []) hm
    unfold foundTo
    rw [List.any_eq_true]
    refine ⟨i, List.mem_range.2 hi, ?_⟩
    rw [e]
    unfold sameTo
    rw [List.all_eq_true]
    intro k hk
    rw [List.mem_range] at hk
    have h1 := nin (trustS ts) _ rfl k (by omega)
    have h2 : (trustL ts x.length).getD k false = inSet ts.length (trustS ts) k := tabP_get (by omega)
    rw [h2, ← h1]
    unfold notInB
    cases decide (((k : Nat) : Int) ∈ outTo ts.length (trustS ts) ts.length) <;> rfl
  · have hf := fuse_code (h.some p (Nat.le_refl _))
    rcases hf.2 with h1 | h1
    · left
      refine ⟨h1, ?_⟩
      have ho := okL_some.1 (hf.1.1 h1)
      rw [hts] at ho
      have := cnt_max hr hn ho
      rw [someL_len, ← hl]
      omega
    · exact .inr h1
  · rw [← hl, conf_nil hr]
    constructor
    · intro ho
      have h1 := cnt_max hr hn ho
      have h2 : cnt ts.length (fun _ => true) = ts.length := by
        unfold cnt
        rw [List.countP_true]; exact List.length_range
      exact List.eq_nil_of_length_eq_zero (by omega)
    · intro he
      rw [he] at h0
      obtain ⟨h1, h2⟩ := max_some hr hn
      refine (okA_congr (fun i hi => ?_)).1 h1
      cases hq : inSet ts.length (trustS ts) i with
      | true => rfl
      | false =>
        have h3 := cnt_lt (p := inSet ts.length (trustS ts)) (q := fun _ => true) (fun _ _ _ => rfl) hi hq rfl
        have h4 : cnt ts.length (fun _ => true) = ts.length := by
          unfold cnt
          rw [List.countP_true]; exact List.length_range
        have h5 : ([] : List Int).length = 0 := rfl
        omega
theorem boolAt {T : List Bool} {k : Nat} (h : k < T.length) : (T.flatMap boolC)[0 + Int.toNat ((k : Nat) : Int) * 1]? = some (.bool (T.getD k false)) :=
  cell_at (n := 1) (f := boolC) (d := false) (c := 0) (k := k) boolC_len h (by rw [Int.toNat_natCast]; omega) rfl
theorem boolC_map (ys : List Bool) : ys.flatMap boolC = ys.map (fun y => Value.bool y) := by
  induction ys with
  | nil => rfl
  | cons y ys ih => rw [List.flatMap_cons, ih]; rfl
theorem boolC_set {xs : List Bool} {k : Nat} {v : Bool} : setl (xs.flatMap boolC) k [.bool v] = (xs.set k v).flatMap boolC := by
  show (xs.flatMap boolC).set k (.bool v) = _
  rw [boolC_map, boolC_map, List.map_set]
theorem outB_0 (n : Nat) (b : List Int) : (outB n b 0).flatMap boolC = krep [.bool false] n := by
  induction n with
  | zero => rfl
  | succ n ih =>
    unfold outB at ih ⊢
    rw [tabP_succ, List.flatMap_append, ih]
    have : ∀ k, krep [Value.bool false] k ++ [.bool false] = .bool false :: krep [.bool false] k := by
      intro k
      induction k with
      | zero => rfl
      | succ k ih => show .bool false :: (krep _ k ++ _) = _; rw [ih]; rfl
    exact this n
theorem outB_succ {n : Nat} {b : List Int} {y : Nat} (hy : y < b.length) (h0 : 0 ≤ b.getD y 0) : outB n b (y + 1) = (outB n b y).set (b.getD y 0).toNat true := by
  refine List.ext_getElem? fun i => ?_
  unfold outB tabP
  rw [List.getElem?_set]
  simp only [List.getElem?_map, List.length_map, List.length_range]
  by_cases hi : i < n
  · rw [List.getElem?_range hi]
    have e : (((i : Nat) : Int) ∈ b.take (y + 1)) ↔ (((i : Nat) : Int) ∈ b.take y ∨ ((i : Nat) : Int) = b.getD y 0) := mem_take_succ hy _
    by_cases e2 : (b.getD y 0).toNat = i
    · rw [if_pos e2, if_pos (by omega)]
      rw [Option.map_some, decide_eq_true (e.2 (.inr (by omega)))]
    · rw [if_neg e2]
      simp only [Option.map_some, e]
      congr 1
      by_cases h2 : ((i : Nat) : Int) ∈ b.take y
      · rw [decide_eq_true h2, decide_eq_true (.inl h2)]
      · rw [decide_eq_false h2, decide_eq_false]
        rintro (h3 | h3)
        · exact h2 h3
        · omega
  · rw [List.getElem?_eq_none (by simpa using hi)]
    by_cases e : (b.getD y 0).toNat = i
    · rw [if_pos e, if_neg (by omega)]; rfl
    · rw [if_neg e]; rfl
theorem pairAt {P : List (Nat × Nat)} {k c : Nat} (h : k < P.length) (off : Nat) (ho : off = k * 2 + c) {v : Value} (hv : (pairC (P.getD k (0, 0)))[c]? = some v) : (P.flatMap pairC)[off]? = some v :=
  cell_at (n := 2) (f := pairC) (d := (0, 0)) (c := c) (k := k) pairC_len h ho hv
theorem someL_a {x : List Report} {p : Nat → Bool} {k : Nat} (h : p k = true) : someL x p (k + 1) = someL x p k ++ [x.getD k zeroR] := if_pos h
theorem someL_b {x : List Report} {p : Nat → Bool} {k : Nat} (h : p k = false) : someL x p (k + 1) = someL x p k := if_neg (by rw [h]; decide)
theorem someL_le (x : List Report) (p : Nat → Bool) (k : Nat) : (someL x p k).length ≤ k := by rw [someL_len]; exact cnt_le ..
theorem fBl {x : List Report} {m : Rates} (h : OpenOk x m 100) : fBlame x m 100 = (blamedL (told x m 100), 0) := fBlame_1 (open_of h)
theorem fCo {x : List Report} {m : Rates} (h : OpenOk x m 100) : fConf x m 100 = (conf (told x m 100) x.length, 0) := fConf_1 (open_of h)
theorem fTr {x : List Report} {m : Rates} (h : OpenOk x m 100) : ∃ c, fTrust x m 100 = (trustL (told x m 100) x.length, c, 0) := ⟨_, (fTrust_1 (open_of h)).trans (by rw [told_len])⟩
end
end Go.Proofs.Ythcjliffpebjaaa
/- Ice: IceGuilt: what is so of guilt. No condition. -/
namespace Go.Proofs.Ythcjliffpebjaaa
open Go Go.K
set_option maxRecDepth 100000
set_option linter.unusedVariables false
set_option linter.unusedSimpArgs false
noncomputable section
attribute [local irreducible] vF popc hasK
/-- The indices of a list without one. -/
def skipAt (i k : Nat) : Nat := if k < i then k else k + 1
theorem cnt_skip {n i : Nat} (hi : i < n) (p : Nat → Bool) : cnt n p = cnt (n - 1) (fun k => p (skipAt i k)) + (p i).toNat := by
  have e1 : cnt n p = cnt i p + ((p i).toNat + cnt (n - 1 - i) (fun k => p (i + 1 + k))) := by
    have h1 : n = i + (1 + (n - 1 - i)) := by omega
    have h2 := cnt_add i (1 + (n - 1 - i)) p
    rw [← h1] at h2
    rw [h2, cnt_add 1 (n - 1 - i)]
    have h3 : cnt 1 (fun k => p (i + k)) = (p i).toNat := by rw [cnt_succ]; show 0 + (p (i + 0)).toNat = _; rw [Nat.add_zero, Nat.zero_add]
    rw [h3, cnt_congr (p := fun k => p (i + (1 + k))) (q := fun k => p (i + 1 + k)) (fun k _ => by rw [Nat.add_assoc])]
  have e2 : cnt (n - 1) (fun k => p (skipAt i k)) = cnt i p + cnt (n - 1 - i) (fun k => p (i + 1 + k)) := by
    have h1 : n - 1 = i + (n - 1 - i) := by omega
    have h2 := cnt_add i (n - 1 - i) (fun k => p (skipAt i k))
    rw [← h1] at h2
    rw [h2]
    congr 1
    · refine cnt_congr fun k hk => ?_
      show p (skipAt i k) = _
      unfold skipAt; rw [if_pos hk]
    · refine cnt_congr fun k hk => ?_
      show p (skipAt i (i + k)) = _
      unfold skipAt; rw [if_neg (by omega)]
      congr 1; omega
  rw [e1, e2]; omega
theorem skip_lt {n i k : Nat} (hi : i < n) (hk : k < n - 1) : skipAt i k < n ∧ skipAt i k ≠ i := by
  unfold skipAt; split <;> omega
/-- A list without the one at i. -/
def without (x : List Report) (i : Nat) : List Report := x.take i ++ x.drop (i + 1)
theorem without_len {x : List Report} {i : Nat} (hi : i < x.length) : (without x i).length = x.length - 1 := by
  unfold without; rw [List.length_append, List.length_take, List.length_drop]; omega
theorem without_get {x : List Report} {i k : Nat} (hi : i < x.length) (hk : k < x.length - 1) : (without x i).getD k zeroR = x.getD (skipAt i k) zeroR := by
  unfold without skipAt
  rw [List.getD_eq_getElem?_getD, List.getD_eq_getElem?_getD]
  by_cases h : k < i
  · rw [if_pos h, List.getElem?_append_left (by rw [List.length_take]; omega), List.getElem?_take, if_pos h]
  · rw [if_neg h, List.getElem?_append_right (by rw [List.length_take]; omega), List.getElem?_drop, List.length_take]
    congr 2; omega
theorem without_sub (x : List Report) (i : Nat) : (without x i).Sublist x := by
  have h1 : (x.drop (i + 1)).Sublist (x.drop i) := by
    rw [← List.drop_drop]; exact List.drop_sublist ..
  have := (List.Sublist.refl (x.take i)).append h1
  rw [List.take_append_drop] at this
  exact this
theorem told_without {x : List Report} {m : Rates} {now : Int} {i k : Nat} (hi : i < x.length) (hk : k < x.length - 1) : (told (without x i) m now).getD k zeroC = (told x m now).getD (skipAt i k) zeroC := by
  have h := skip_lt hi hk
  rw [told_get (by rw [without_len hi]; exact hk), told_get h.1, without_get hi hk]
/-- Without a report that is in every blamed set, as many agree as before. -/
theorem max_without {x : List Report} {m : Rates} {i : Nat} (h : OpenOk x m 100) (hi : i < x.length) (hall : ∀ b ∈ blamedL (told x m 100), ((i : Nat) : Int) ∈ b) : maxP (told (without x i) m 100) = maxP (told x m 100) := by
  have h' := h.sub (without_sub x i)
  have hr := told_right h
  have hr' := told_right h'
  have hl : (told x m 100).length = x.length := told_len ..
  have hl' : (told (without x i) m 100).length = x.length - 1 := (told_len ..).trans (without_len hi)
  have hn : (told x m 100).length ≤ 12 := by rw [hl]; exact h.len
  have hn' : (told (without x i) m 100).length ≤ 12 := by rw [hl']; have := h.len; omega
  obtain ⟨a1, a2⟩ := max_some hr hn
  obtain ⟨b1, b2⟩ := max_some hr' hn'
  refine Nat.le_antisymm ?_ ?_
  · obtain ⟨p, hp⟩ : ∃ p : Nat → Bool, inSet (told (without x i) m 100).length (trustS (told (without x i) m 100)) = p := ⟨_, rfl⟩
    rw [hp] at b1 b2
    obtain ⟨q, hq⟩ : ∃ q : Nat → Bool, ∀ j, q j = if j = i then false else p (if j < i then j else j - 1) := ⟨fun j => if j = i then false else p (if j < i then j else j - 1), fun _ => rfl⟩
    have hq1 : ∀ k, q (skipAt i k) = p k := by
      intro k
      rw [hq]
      unfold skipAt
      by_cases hk : k < i
      · rw [if_pos hk, if_neg (by omega), if_pos hk]
      · rw [if_neg hk, if_neg (by omega), if_neg (by omega), Nat.add_sub_cancel]
    have hq2 : q i = false := by rw [hq, if_pos rfl]
    have hok : okA (told x m 100) q := by
      have key : ∀ j, j < x.length → q j = true → ∃ k, k < x.length - 1 ∧ j = skipAt i k ∧ p k = true := by
        intro j hj h1
        have hne : j ≠ i := by rintro rfl; rw [hq2] at h1; cases h1
        refine ⟨if j < i then j else j - 1, by split <;> omega, by unfold skipAt; by_cases hj1 : j < i <;> simp only [hj1, if_true, if_false] <;> (try split) <;> omega, ?_⟩
        rw [hq, if_neg hne] at h1; exact h1
      intro j1 j2 hj1 hj2 q1 q2
      rw [hl] at hj1 hj2
      obtain ⟨k1, c1, rfl, c3⟩ := key j1 hj1 q1
      obtain ⟨k2, d1, rfl, d3⟩ := key j2 hj2 q2
      rw [← told_without hi c1, ← told_without hi d1]
      exact b1 k1 k2 (by rw [hl']; exact c1) (by rw [hl']; exact d1) c3 d3
    have hc := cnt_max hr hn hok
    rw [hl, cnt_skip hi, hq2] at hc
    rw [hl', ← cnt_congr (fun k _ => hq1 k)] at b2
    have : (false).toNat = 0 := rfl
    omega
  · obtain ⟨p, hp⟩ : ∃ p : Nat → Bool, inSet (told x m 100).length (trustS (told x m 100)) = p := ⟨_, rfl⟩
    have hpi : p i = false := by
      have hb := hall _ (blamed_mem.2 ⟨_, trustS_mem _, rfl⟩)
      obtain ⟨k, _, h2, e⟩ := mem_outTo.1 hb
      obtain rfl : i = k := by omega
      rw [← hp]; exact h2
    rw [hp] at a1 a2
    have hok : okA (told (without x i) m 100) (fun k => p (skipAt i k)) := by
      intro k1 k2 h1 h2 q1 q2
      rw [hl'] at h1 h2
      rw [told_without hi h1, told_without hi h2]
      exact a1 _ _ (by rw [hl]; exact (skip_lt hi h1).1) (by rw [hl]; exact (skip_lt hi h2).1) q1 q2
    have hc := cnt_max hr' hn' hok
    rw [hl'] at hc
    rw [hl, cnt_skip hi, hpi] at a2
    have : (false).toNat = 0 := rfl
    omega
theorem less_size {x : List Report} {m : Rates} {i : Nat} (h : OpenOk x m 100) (hi : i < x.length) (hall : ∀ b ∈ blamedL (told x m 100), ((i : Nat) : Int) ∈ b) :
    ((blamedL (told (without x i) m 100)).getD 0 []).length + 1 = ((blamedL (told x m 100)).getD 0 []).length := by
  have h' := h.sub (without_sub x i)
  have hl : (told x m 100).length = x.length := told_len ..
  have hl' : (told (without x i) m 100).length = x.length - 1 := (told_len ..).trans (without_len hi)
  have e1 := blamed_len (told_right h) (by rw [hl]; exact h.len) (getD_memR (d := []) (blamed_ne (told x m 100)))
  have e2 := blamed_len (told_right h') (by rw [hl']; have := h.len; omega) (getD_memR (d := []) (blamed_ne (told (without x i) m 100)))
  have e3 := max_without h hi hall
  omega
/-- A report that is in no conflict is in no blamed set. -/
theorem free_of {x : List Report} {m : Rates} {i : Nat} (h : OpenOk x m 100) (hi : i < x.length) (hno : ∀ q ∈ conf (told x m 100) x.length, q.1 ≠ i ∧ q.2 ≠ i) : ∀ b ∈ blamedL (told x m 100), ((i : Nat) : Int) ∉ b := by
  have hr := told_right h
  have hl : (told x m 100).length = x.length := told_len ..
  have hn : (told x m 100).length ≤ 12 := by rw [hl]; exact h.len
  intro b hb hm
  obtain ⟨s, hs, rfl⟩ := blamed_mem.1 hb
  obtain ⟨_, ho, hc⟩ := (mem_agrA hr hn).1 hs
  obtain ⟨k, _, hk2, e⟩ := mem_outTo.1 hm
  obtain rfl : i = k := by omega
  have hcomp : ∀ j, j < x.length → okC (meetC ((told x m 100).getD i zeroC) ((told x m 100).getD j zeroC)) := by
    intro j hj
    rcases Nat.lt_trichotomy i j with h1 | h1 | h1
    · refine Classical.byContradiction fun hcn => ?_
      rw [← hl] at hno
      have := hno (i, j) ((mem_conf (Nat.le_refl _)).2 ⟨by rw [hl]; exact hi, h1, by rw [hl]; exact hj, hcn⟩)
      exact this.1 rfl
    · subst h1; exact meet_self (hr i (by rw [hl]; exact hi))
    · refine Classical.byContradiction fun hcn => ?_
      rw [← hl] at hno
      have := hno (j, i) ((mem_conf (Nat.le_refl _)).2 ⟨by rw [hl]; exact hj, h1, by rw [hl]; exact hi, fun h => hcn ((meet_comm _ _).1 h)⟩)
      exact this.2 rfl
  have hok : okA (told x m 100) (fun j => decide (j = i) || inSet (told x m 100).length s j) := by
    intro j1 j2 hj1 hj2 q1 q2
    rw [Bool.or_eq_true, decide_eq_true_eq] at q1 q2
    rcases q1 with rfl | q1
    · exact hcomp j2 (by rw [← hl]; exact hj2)
    · rcases q2 with rfl | q2
      · exact (meet_comm _ _).1 (hcomp j1 (by rw [← hl]; exact hj1))
      · exact ho j1 j2 hj1 hj2 q1 q2
  have h1 := cnt_max hr hn hok
  have h2 := cnt_lt (p := inSet (told x m 100).length s) (q := fun j => decide (j = i) || inSet (told x m 100).length s j) (n := (told x m 100).length) (fun j _ hj => by simp [hj]) (k := i) (by rw [hl]; exact hi) hk2 (by simp)
  omega
theorem count_nodup {b : List Int} (hb : b.Pairwise (· < ·)) (i : Int) : b.count i = if i ∈ b then 1 else 0 := by
  split
  · rename_i h
    refine Nat.le_antisymm ?_ (List.count_pos_iff.2 h)
    exact List.nodup_iff_count.1 (hb.imp (fun h => by omega)) i
  · rename_i h; exact List.count_eq_zero.2 h
theorem cntTo_succ (B : List (List Int)) (i : Int) (y : Nat) : cntTo B i (y + 1) = cntTo B i y + (B.getD y []).count i := by
  unfold cntTo
  rw [List.range_succ, List.foldl_append]; rfl
theorem cntTo_eq {B : List (List Int)} (hB : ∀ b ∈ B, b.Pairwise (· < ·)) (i : Int) : ∀ y, y ≤ B.length → cntTo B i y = inCnt B i y := by
  intro y
  induction y with
  | zero => intro _; rfl
  | succ y ih =>
    intro hy
    rw [cntTo_succ, ih (by omega), inCnt_succ (by omega), count_nodup (hB _ (getD_memR (by omega)))]
theorem inCnt_all {L : List (List Int)} {i : Int} (h : inCnt L i L.length = L.length) : ∀ b ∈ L, i ∈ b := by
  unfold inCnt at h
  rw [List.take_length, List.countP_eq_length] at h
  intro b hb
  exact of_decide_eq_true (h b hb)
theorem inCnt_none {L : List (List Int)} {i : Int} (h : ∀ b ∈ L, i ∉ b) : inCnt L i L.length = 0 := by
  unfold inCnt
  rw [List.take_length, List.countP_eq_zero]
  intro b hb
  rw [decide_eq_false (h b hb)]; decide
theorem pairIn_no {P : List (Nat × Nat)} {i : Nat} (h : pairIn P ((i : Nat) : Int) P.length = false) : ∀ q ∈ P, q.1 ≠ i ∧ q.2 ≠ i := by
  unfold pairIn at h
  rw [List.take_length, List.any_eq_false] at h
  intro q hq
  have := h q hq
  simp only [Bool.or_eq_true, beq_iff_eq, not_or] at this
  omega
theorem pairIn_succ {P : List (Nat × Nat)} {i : Int} {u : Nat} (hu : u < P.length) : pairIn P i (u + 1) = (pairIn P i u || (((((P.getD u (0, 0)).1 : Nat) : Int) == i) || ((((P.getD u (0, 0)).2 : Nat) : Int) == i))) := by
  unfold pairIn
  rw [List.take_add_one, List.getElem?_eq_getElem hu, List.any_append, getD_elem hu]; simp
theorem guiltTo_get {L : List (List Int)} {n k : Nat} (h : k < n) : (guiltTo L n n).getD k 0 = guiltOf L k := by
  have := tabP_get (f := fun i => if i < n then guiltOf L i else 0) (d := 0) h
  exact this.trans (if_pos h)
end
end Go.Proofs.Ythcjliffpebjaaa
/- Ice: IceGuilt returns true. No condition. -/
namespace Go.Proofs.Ythcjliffpebjaaa
open Go Go.K
set_option maxRecDepth 100000
set_option linter.unusedVariables false
set_option linter.unusedSimpArgs false
noncomputable section
attribute [local irreducible] vF popc hasK
theorem count_take_succ {b : List Int} {z : Nat} (hz : z < b.length) (i : Int) : List.count i (b.take (z + 1)) = List.count i (b.take z) + if b.getD z 0 = i then 1 else 0 := by
  rw [List.take_add_one, List.getElem?_eq_getElem hz, List.count_append, getD_elem hz]
  by_cases h : b[z] = i
  · simp [h]
  · simp [h]
theorem count_take_le (b : List Int) (z : Nat) (i : Int) : List.count i (b.take z) ≤ z :=
  Nat.le_trans List.count_le_length (by rw [List.length_take]; omega)
/-- What is blamed without a report. -/
theorem kLess {x : List Report} {m : Rates} {i : Nat} (h : OpenOk x m 100) {H : Heap} {L : Nat} (hL : H.length = L) {id n : Nat} {cs : List Value} (hid : H[id]? = some (.cells true 14 cs)) (hc : cs = (without x i).flatMap reportC) (hn : n = (without x i).length) :
    KCall prog F.ice_Blame [.slice (some ⟨id, 0, none⟩) n n, ratesV m, .int .i64 100] H [] (Is (.tuple #[.slice (some ⟨L, 0, some 1⟩) (blamedL (told (without x i) m 100)).length (blamedL (told (without x i) m 100)).length, .int .i64 0]) (H ++ [.cells true 1 (dIL (blamedL (told (without x i) m 100)))])) := by
  subst hc hn
  have k := (kBlame (without x i) m 100 hL hid).wkA (args := [.slice (some ⟨id, 0, none⟩) (without x i).length (without x i).length, ratesV m, .int .i64 100]) ⟨wk_R, wk_refl _, wk_refl _, trivial⟩
  rw [fBl (h.sub (without_sub x i))] at k
  exact k
theorem flat_take (x : List Report) (i : Nat) : List.take (i * 14) (x.flatMap reportC) = (x.take i).flatMap reportC := by
  induction x generalizing i with
  | nil => simp
  | cons r x ih =>
    cases i with
    | zero => simp
    | succ i =>
      rw [List.flatMap_cons, List.take_succ_cons, List.flatMap_cons, ← ih, show (i + 1) * 14 = (reportC r).length + i * 14 by rw [reportC_len]; omega, List.take_length_add_append]
theorem flat_drop (x : List Report) (i : Nat) : List.drop (i * 14) (x.flatMap reportC) = (x.drop i).flatMap reportC := by
  induction x generalizing i with
  | nil => simp
  | cons r x ih =>
    cases i with
    | zero => simp
    | succ i =>
      rw [List.flatMap_cons, List.drop_succ_cons, ← ih, show (i + 1) * 14 = (reportC r).length + i * 14 by rw [reportC_len]; omega, List.drop_length_add_append]
theorem flat_tail (x : List Report) (i : Nat) : List.take ((x.length - (i + 1)) * 14) (List.drop (0 + Int.toNat (((i : Nat) : Int) + 1) * 14) (x.flatMap reportC)) = (x.drop (i + 1)).flatMap reportC := by
  rw [show Int.toNat (((i : Nat) : Int) + 1) = i + 1 by omega, Nat.zero_add, flat_drop, List.take_of_length_le]
  rw [flat_len reportC_len, List.length_drop]; exact Nat.le_refl _
theorem flat_head (x : List Report) (i : Nat) : List.take (0 * 14) (List.drop 0 []) ++ List.take (i * 14) (List.drop 0 (x.flatMap reportC)) = (x.take i).flatMap reportC := by
  rw [List.drop_zero, List.drop_zero, flat_take]; simp
theorem one_flat (x : List Report) : (x.flatMap reportC).all (fun v => one1 v) = true := by
  rw [List.all_flatMap, List.all_eq_true]; intro r _; rfl
theorem kGuiltLaw (l : List Report) (m : Rates) {H : Heap} {id : Nat} {own : Bool} {z : Nat} (hid : H[id]? = some (.cells own z (l.flatMap reportC))) :
    KCall prog F.polynyalaw01_IceGuilt [.slice (some ⟨id, 0, some 2⟩) l.length l.length, ratesV m] H [] (Is (.bool true) H) := by
  refine valR (Eq.mpr (EIceGuilt _ l m) ?_) (one_cs (plainR 0 l)) rfl [id] rfl (one_id hid)
  unfold RIceGuilt
  refine forkD (fun h8 => ⟨trivial, fun H' _ _ => kAwake H', rfl⟩) (fun h8 => ?_)
  have hl8 : l.length ≤ 8 := by omega
  refine ⟨⟨rfl, trivial⟩, fun H' hl hd => kRight l (by omega) hl hd.1, _, trivial, fun H' _ _ => kCheckRates _ H', forkNe (fun _ => ⟨trivial, fun H' _ _ => kAwake H', rfl⟩) (fun h0 => ?_)⟩
  have hop := right_open h0 (l := l) (by omega)
  have hX : (rightL l l.length).length = l.length := rightL_len ..
  have hB := blm hop
  have e1 := fBl hop
  have e2 := fCo hop
  have e3 : fGuilt (rightL l l.length) m 100 = (guiltTo (blamedL (told (rightL l l.length) m 100)) (rightL l l.length).length (rightL l l.length).length, 0) := fGuilt_1 (open_of hop)
  obtain ⟨x, hx⟩ : ∃ x, rightL l l.length = x := ⟨_, rfl⟩
  rw [hx] at hB e1 e2 e3 hX hop ⊢
  have hfree := fun i hi => free_of (i := i) hop hi
  have hless := fun i hi => less_size (i := i) hop hi
  obtain ⟨B, hBe⟩ : ∃ B, blamedL (told x m 100) = B := ⟨_, rfl⟩
  obtain ⟨P, hPe⟩ : ∃ P, conf (told x m 100) x.length = P := ⟨_, rfl⟩
  rw [hBe, hPe] at hB
  rw [hBe] at e1 e3
  rw [hPe] at e2
  simp only [hBe, hPe] at hfree hless
  obtain ⟨G, hG⟩ : ∃ G, guiltTo B x.length x.length = G := ⟨_, rfl⟩
  rw [hG] at e3
  have hGl : G.length = x.length := by rw [← hG]; exact guiltTo_len ..
  have hGg : ∀ k, k < x.length → G.getD k 0 = guiltOf B k := by rw [← hG]; exact fun k hk => guiltTo_get hk
  refine ⟨(G, 0), ⟨rfl, trivial⟩, fun H' hl hd => ?_, ?_⟩
  · have k := (kGuilt x m 100 hl hd.1).wkA (args := [.slice (some ⟨3, 0, some 1⟩) x.length x.length, ratesV m, .int .i64 100]) ⟨wk_QR, wk_refl _, wk_refl _, trivial⟩
    rw [e3] at k
    exact k
  refine ⟨(B, 0), ⟨rfl, trivial⟩, fun H' hl hd => ?_, ?_⟩
  · have k := (kBlame x m 100 hl hd.1).wkA (args := [.slice (some ⟨3, 0, some 1⟩) x.length x.length, ratesV m, .int .i64 100]) ⟨wk_QR, wk_refl _, wk_refl _, trivial⟩
    rw [e1] at k
    exact k
  refine ⟨(P, 0), ⟨rfl, trivial⟩, fun H' hl hd => ?_, ?_⟩
  · have k := (kConflicts x m 100 hl hd.1).wkA (args := [.slice (some ⟨3, 0, some 1⟩) x.length x.length, ratesV m, .int .i64 100]) ⟨wk_QR, wk_refl _, wk_refl _, trivial⟩
    rw [e2] at k
    exact k
  have hBp := hB.pos
  have hBf := hB.few
  have hPf := hB.fewP
  refine forkF rfl (forkF rfl (forkF rfl (forkF (by rw [hGl]; exact niq _) (forkF (beq_eq_false_iff_ne.2 (show ((B.length : Nat) : Int) ≠ 0 by omega)) ?_))))
  dsimp only
  refine ⟨rfl, Nat.zero_le _, ?_, fun _ => rfl, ?_⟩
  · repeat' first
      | exact trivial
      | exact rfl
      | exact wk_refl _
      | refine wkO_cells ?_
      | refine wks_cons ?_ ?_
      | exact wks_nil
      | exact wk_nil _ _ _ (.inl rfl)
      | exact wk_Q (by omega)
      | refine wk_tupL ?_
      | refine wk_aggL ?_
      | refine joinMax ?_ ?_ ?_
      | refine joinMin ?_ ?_ ?_
      | refine toMax ?_
      | refine toMin ?_
      | refine ⟨rfl, ?_⟩
      | refine ⟨trivial, ?_⟩
      | refine forkD (fun h => ?_) (fun h => ?_)
      | refine forkNe (fun h => ?_) (fun h => ?_)
      | refine forkEq (fun h => ?_) (fun h => ?_)
      | refine forkNot ?_
      | refine ⟨vI64 (by omega), ?_⟩
      | refine And.intro (by omega) ?_
      | apply And.intro
      | exact iEq (by omega)
      | exact vI64 (by omega)
      | fail
  intro i hi
  refine forkD (fun h1 => ?_) (fun h1 => ⟨trivial, fun H' _ _ => kAwake H', rfl⟩)
  have hlt : i < x.length := by omega
  refine ⟨rfl, Nat.zero_le _, ?_, fun _ => rfl, ?_⟩
  · repeat' first
      | exact trivial
      | exact rfl
      | exact wk_refl _
      | refine wkO_cells ?_
      | refine wks_cons ?_ ?_
      | exact wks_nil
      | exact wk_nil _ _ _ (.inl rfl)
      | exact wk_Q (by omega)
      | refine wk_tupL ?_
      | refine wk_aggL ?_
      | refine joinMax ?_ ?_ ?_
      | refine joinMin ?_ ?_ ?_
      | refine toMax ?_
      | refine toMin ?_
      | refine ⟨rfl, ?_⟩
      | refine ⟨trivial, ?_⟩
      | refine forkD (fun h => ?_) (fun h => ?_)
      | refine forkNe (fun h => ?_) (fun h => ?_)
      | refine forkEq (fun h => ?_) (fun h => ?_)
      | refine forkNot ?_
      | refine ⟨vI64 (by omega), ?_⟩
      | refine And.intro (by omega) ?_
      | apply And.intro
      | exact iEq (by omega)
      | exact vI64 (by omega)
      | fail
  intro y hy
  have hct : cntTo B ((i : Nat) : Int) y ≤ 4096 := by rw [cntTo_eq hB.inc _ _ hy]; have := inCnt_le B ((i : Nat) : Int) y; omega
  refine forkD (fun h2 => ?_) (fun h2 => ?_)
  · have hlt2 : y < B.length := by omega
    have hbm : B.getD y [] ∈ B := getD_memR hlt2
    have hbs := hB.short _ hbm
    have hd1 := dIL_at hlt2
    have hcs := cntTo_succ B ((i : Nat) : Int) y
    obtain ⟨b, hb⟩ : ∃ b, B.getD y [] = b := ⟨_, rfl⟩
    rw [hb] at hbm hbs hd1 hcs ⊢
    refine ⟨rfl, Nat.zero_le _, ?_, fun _ => rfl, ?_⟩
    · repeat' first
        | exact trivial
        | exact rfl
        | exact wk_refl _
        | refine wkO_cells ?_
        | refine wks_cons ?_ ?_
        | exact wks_nil
        | exact wk_nil _ _ _ (.inl rfl)
        | exact wk_Q (by omega)
        | refine wk_tupL ?_
        | refine wk_aggL ?_
        | refine joinMax ?_ ?_ ?_
        | refine joinMin ?_ ?_ ?_
        | refine toMax ?_
        | refine toMin ?_
        | refine ⟨rfl, ?_⟩
        | refine ⟨trivial, ?_⟩
        | refine forkD (fun h => ?_) (fun h => ?_)
        | refine forkNe (fun h => ?_) (fun h => ?_)
        | refine forkEq (fun h => ?_) (fun h => ?_)
        | refine forkNot ?_
        | refine ⟨vI64 (by omega), ?_⟩
        | refine And.intro (by omega) ?_
        | apply And.intro
        | exact iEq (by omega)
        | exact vI64 (by omega)
        | fail
    intro z hz
    have hc1 := count_take_le b z ((i : Nat) : Int)
    refine ⟨by omega, hd1, forkD (fun h3 => ?_) (fun h3 => ?_)⟩
    · have hlt3 : z < b.length := by omega
      have hts := count_take_succ hlt3 ((i : Nat) : Int)
      refine ⟨by omega, hd1, by omega, cell_int0 hlt3, forkEq (fun h4 => ?_) (fun h4 => ?_)⟩
      · rw [if_pos h4] at hts
        refine ⟨vI64 (by omega), vI64 (by omega), z + 1, by omega, by omega, ?_⟩
        rw [hts]
        repeat' first
          | exact trivial
          | exact rfl
          | exact wk_refl _
          | refine wkO_cells ?_
          | refine wks_cons ?_ ?_
          | exact wks_nil
          | exact wk_nil _ _ _ (.inl rfl)
          | exact wk_Q (by omega)
          | refine wk_tupL ?_
          | refine wk_aggL ?_
          | refine joinMax ?_ ?_ ?_
          | refine joinMin ?_ ?_ ?_
          | refine toMax ?_
          | refine toMin ?_
          | refine ⟨rfl, ?_⟩
          | refine ⟨trivial, ?_⟩
          | refine forkD (fun h => ?_) (fun h => ?_)
          | refine forkNe (fun h => ?_) (fun h => ?_)
          | refine forkEq (fun h => ?_) (fun h => ?_)
          | refine forkNot ?_
          | refine ⟨vI64 (by omega), ?_⟩
          | refine And.intro (by omega) ?_
          | apply And.intro
          | exact iEq (by omega)
          | exact vI64 (by omega)
          | fail
      · rw [if_neg h4] at hts
        refine ⟨vI64 (by omega), z + 1, by omega, by omega, ?_⟩
        rw [hts]
        repeat' first
          | exact trivial
          | exact rfl
          | exact wk_refl _
          | refine wkO_cells ?_
          | refine wks_cons ?_ ?_
          | exact wks_nil
          | exact wk_nil _ _ _ (.inl rfl)
          | exact wk_Q (by omega)
          | refine wk_tupL ?_
          | refine wk_aggL ?_
          | refine joinMax ?_ ?_ ?_
          | refine joinMin ?_ ?_ ?_
          | refine toMax ?_
          | refine toMin ?_
          | refine ⟨rfl, ?_⟩
          | refine ⟨trivial, ?_⟩
          | refine forkD (fun h => ?_) (fun h => ?_)
          | refine forkNe (fun h => ?_) (fun h => ?_)
          | refine forkEq (fun h => ?_) (fun h => ?_)
          | refine forkNot ?_
          | refine ⟨vI64 (by omega), ?_⟩
          | refine And.intro (by omega) ?_
          | apply And.intro
          | exact iEq (by omega)
          | exact vI64 (by omega)
          | fail
    · obtain rfl : z = b.length := by omega
      refine ⟨vI64 (by omega), y + 1, by omega, by omega, ?_⟩
      rw [hcs, List.take_length]
      repeat' first
        | exact trivial
        | exact rfl
        | exact wk_refl _
        | refine wkO_cells ?_
        | refine wks_cons ?_ ?_
        | exact wks_nil
        | exact wk_nil _ _ _ (.inl rfl)
        | exact wk_Q (by omega)
        | refine wk_tupL ?_
        | refine wk_aggL ?_
        | refine joinMax ?_ ?_ ?_
        | refine joinMin ?_ ?_ ?_
        | refine toMax ?_
        | refine toMin ?_
        | refine ⟨rfl, ?_⟩
        | refine ⟨trivial, ?_⟩
        | refine forkD (fun h => ?_) (fun h => ?_)
        | refine forkNe (fun h => ?_) (fun h => ?_)
        | refine forkEq (fun h => ?_) (fun h => ?_)
        | refine forkNot ?_
        | refine ⟨vI64 (by omega), ?_⟩
        | refine And.intro (by omega) ?_
        | apply And.intro
        | exact iEq (by omega)
        | exact vI64 (by omega)
        | fail
  · obtain rfl : y = B.length := by omega
    refine ⟨rfl, Nat.zero_le _, ?_, fun _ => rfl, ?_⟩
    · repeat' first
        | exact trivial
        | exact rfl
        | exact wk_refl _
        | refine wkO_cells ?_
        | refine wks_cons ?_ ?_
        | exact wks_nil
        | exact wk_nil _ _ _ (.inl rfl)
        | exact wk_Q (by omega)
        | refine wk_tupL ?_
        | refine wk_aggL ?_
        | refine joinMax ?_ ?_ ?_
        | refine joinMin ?_ ?_ ?_
        | refine toMax ?_
        | refine toMin ?_
        | refine ⟨rfl, ?_⟩
        | refine ⟨trivial, ?_⟩
        | refine forkD (fun h => ?_) (fun h => ?_)
        | refine forkNe (fun h => ?_) (fun h => ?_)
        | refine forkEq (fun h => ?_) (fun h => ?_)
        | refine forkNot ?_
        | refine ⟨vI64 (by omega), ?_⟩
        | refine And.intro (by omega) ?_
        | apply And.intro
        | exact iEq (by omega)
        | exact vI64 (by omega)
        | fail
    intro u hu
    refine forkD (fun h3 => ?_) (fun h3 => ?_)
    · have hlt3 : u < P.length := by omega
      have hps := pairIn_succ (i := ((i : Nat) : Int)) hlt3
      have p0 : (List.flatMap pairC P)[0 + Int.toNat ((u : Nat) : Int) * 2 + 0 * 1]? = some (.int .i64 (((P.getD u (0, 0)).1 : Nat) : Int)) := pairAt (c := 0) hlt3 _ (by rw [Int.toNat_natCast]; omega) rfl
      have p1 : (List.flatMap pairC P)[0 + Int.toNat ((u : Nat) : Int) * 2 + 1 * 1]? = some (.int .i64 (((P.getD u (0, 0)).2 : Nat) : Int)) := pairAt (c := 1) hlt3 _ (by rw [Int.toNat_natCast]; omega) rfl
      refine ⟨fun h4 => ?_, fun h4 => ⟨by omega, p0, fun h5 => ?_, fun h5 => ⟨by omega, p1, ?_⟩⟩⟩
      · have hv : (Value.bool true) = .bool (pairIn P ((i : Nat) : Int) (u + 1)) := by rw [hps, h4]; rfl
        refine ⟨vI64 (by omega), u + 1, by omega, by omega, ?_⟩
        repeat' first
          | exact hv
          | exact trivial
          | exact rfl
          | exact wk_refl _
          | refine wkO_cells ?_
          | refine wks_cons ?_ ?_
          | exact wks_nil
          | exact wk_nil _ _ _ (.inl rfl)
          | exact wk_Q (by omega)
          | refine wk_tupL ?_
          | refine wk_aggL ?_
          | refine joinMax ?_ ?_ ?_
          | refine joinMin ?_ ?_ ?_
          | refine toMax ?_
          | refine toMin ?_
          | refine ⟨rfl, ?_⟩
          | refine ⟨trivial, ?_⟩
          | refine forkD (fun h => ?_) (fun h => ?_)
          | refine forkNe (fun h => ?_) (fun h => ?_)
          | refine forkEq (fun h => ?_) (fun h => ?_)
          | refine forkNot ?_
          | refine ⟨vI64 (by omega), ?_⟩
          | refine And.intro (by omega) ?_
          | apply And.intro
          | exact iEq (by omega)
          | exact vI64 (by omega)
          | fail
      · have hv : (Value.bool true) = .bool (pairIn P ((i : Nat) : Int) (u + 1)) := by rw [hps, h4, h5]; rfl
        refine ⟨vI64 (by omega), u + 1, by omega, by omega, ?_⟩
        repeat' first
          | exact hv
          | exact trivial
          | exact rfl
          | exact wk_refl _
          | refine wkO_cells ?_
          | refine wks_cons ?_ ?_
          | exact wks_nil
          | exact wk_nil _ _ _ (.inl rfl)
          | exact wk_Q (by omega)
          | refine wk_tupL ?_
          | refine wk_aggL ?_
          | refine joinMax ?_ ?_ ?_
          | refine joinMin ?_ ?_ ?_
          | refine toMax ?_
          | refine toMin ?_
          | refine ⟨rfl, ?_⟩
          | refine ⟨trivial, ?_⟩
          | refine forkD (fun h => ?_) (fun h => ?_)
          | refine forkNe (fun h => ?_) (fun h => ?_)
          | refine forkEq (fun h => ?_) (fun h => ?_)
          | refine forkNot ?_
          | refine ⟨vI64 (by omega), ?_⟩
          | refine And.intro (by omega) ?_
          | apply And.intro
          | exact iEq (by omega)
          | exact vI64 (by omega)
          | fail
      · have hv : (Value.bool ((((P.getD u (0, 0)).2 : Nat) : Int) == ((i : Nat) : Int))) = .bool (pairIn P ((i : Nat) : Int) (u + 1)) := by rw [hps, h4, h5]; rfl
        refine ⟨vI64 (by omega), u + 1, by omega, by omega, ?_⟩
        repeat' first
          | exact hv
          | exact trivial
          | exact rfl
          | exact wk_refl _
          | refine wkO_cells ?_
          | refine wks_cons ?_ ?_
          | exact wks_nil
          | exact wk_nil _ _ _ (.inl rfl)
          | exact wk_Q (by omega)
          | refine wk_tupL ?_
          | refine wk_aggL ?_
          | refine joinMax ?_ ?_ ?_
          | refine joinMin ?_ ?_ ?_
          | refine toMax ?_
          | refine toMin ?_
          | refine ⟨rfl, ?_⟩
          | refine ⟨trivial, ?_⟩
          | refine forkD (fun h => ?_) (fun h => ?_)
          | refine forkNe (fun h => ?_) (fun h => ?_)
          | refine forkEq (fun h => ?_) (fun h => ?_)
          | refine forkNot ?_
          | refine ⟨vI64 (by omega), ?_⟩
          | refine And.intro (by omega) ?_
          | apply And.intro
          | exact iEq (by omega)
          | exact vI64 (by omega)
          | fail
    · obtain rfl : u = P.length := by omega
      have hcn := cntTo_eq hB.inc ((i : Nat) : Int) B.length (Nat.le_refl _)
      have hgi : (List.flatMap intC G)[0 + Int.toNat ((i : Nat) : Int) * 1]? = some (.int .i64 (G.getD i 0)) := by
        rw [Nat.zero_add]; exact cell_int0 (by omega)
      have hg : G.getD i 0 = guiltOf B i := hGg i hlt
      obtain ⟨g, hge⟩ : ∃ g, G.getD i 0 = g := ⟨_, rfl⟩
      have hcle := inCnt_le B ((i : Nat) : Int) B.length
      obtain ⟨c, hc⟩ : ∃ c, inCnt B ((i : Nat) : Int) B.length = c := ⟨_, rfl⟩
      have hgc : g = if c = 0 then 0 else if c = B.length then 2 else 1 := by rw [← hge, hg, ← hc]; rfl
      have hin : pairIn P ((i : Nat) : Int) P.length = false → c = 0 := fun h => by
        rw [← hc]; exact inCnt_none (hfree i hlt (pairIn_no h))
      have hall : g = 2 → ∀ b ∈ B, ((i : Nat) : Int) ∈ b := fun h => by
        refine inCnt_all ?_
        rw [hc]
        rw [hgc] at h
        split at h
        · omega
        · split at h
          · assumption
          · omega
      obtain ⟨I, hI⟩ : ∃ I, pairIn P ((i : Nat) : Int) P.length = I := ⟨_, rfl⟩
      rw [hcn, hc, hI]
      rw [hI] at hin
      rw [hge] at hgi ⊢
      have hg012 : (g = 0 ∧ c = 0) ∨ (g = 2 ∧ 0 < c ∧ c = B.length) ∨ (g = 1 ∧ 0 < c ∧ c < B.length) := by
        rw [hgc]
        by_cases k1 : c = 0
        · rw [if_pos k1]; omega
        · rw [if_neg k1]
          by_cases k2 : c = B.length
          · rw [if_pos k2]; omega
          · rw [if_neg k2]; omega
      have t0 : (!((g == 0) == (((c : Nat) : Int) == 0))) = false := by
        have : (g == 0) = (((c : Nat) : Int) == 0) := by rw [Bool.eq_iff_iff, beq_iff_eq, beq_iff_eq]; omega
        rw [this]; exact nbq _
      have t2 : (!((g == 2) == (((c : Nat) : Int) == ((B.length : Nat) : Int)))) = false ∨ ¬ (0 : Int) < ((c : Nat) : Int) := by
        by_cases k : (0 : Int) < ((c : Nat) : Int)
        · left
          have : (g == 2) = (((c : Nat) : Int) == ((B.length : Nat) : Int)) := by rw [Bool.eq_iff_iff, beq_iff_eq, beq_iff_eq]; omega
          rw [this]; exact nbq _
        · exact .inr k
      have lead : ∀ {A : Prop}, A → A := fun h => h
      rcases hg012 with ⟨rfl, hc0⟩ | ⟨rfl, hc1, hc2⟩ | ⟨rfl, hc1, hc3⟩
      · refine ⟨by omega, hgi, forkD (fun h4 => absurd h4 (by omega)) (fun _ => ⟨by omega, hgi, forkD (fun h4 => absurd h4 (by omega)) (fun _ => ⟨by omega, hgi, forkF t0 ⟨by omega, hgi, forkD (fun h5 => absurd h5 (by omega)) (fun h5 => forkF rfl (forkNot ⟨fun h6 => ⟨by omega, hgi, forkF rfl ?_⟩, fun h6 => ⟨by omega, hgi, forkF rfl ⟨by omega, hgi, forkF rfl ?_⟩⟩⟩))⟩⟩)⟩)⟩
        · refine ⟨vI64 (by omega), i + 1, by omega, by omega, ?_⟩
          repeat' first
            | exact trivial
            | exact rfl
            | exact wk_refl _
            | refine wkO_cells ?_
            | refine wks_cons ?_ ?_
            | exact wks_nil
            | exact wk_nil _ _ _ (.inl rfl)
            | exact wk_Q (by omega)
            | refine wk_tupL ?_
            | refine wk_aggL ?_
            | refine joinMax ?_ ?_ ?_
            | refine joinMin ?_ ?_ ?_
            | refine toMax ?_
            | refine toMin ?_
            | refine ⟨rfl, ?_⟩
            | refine ⟨trivial, ?_⟩
            | refine forkD (fun h => ?_) (fun h => ?_)
            | refine forkNe (fun h => ?_) (fun h => ?_)
            | refine forkEq (fun h => ?_) (fun h => ?_)
            | refine forkNot ?_
            | refine ⟨vI64 (by omega), ?_⟩
            | refine And.intro (by omega) ?_
            | apply And.intro
            | exact iEq (by omega)
            | exact vI64 (by omega)
            | fail
        · refine ⟨vI64 (by omega), i + 1, by omega, by omega, ?_⟩
          repeat' first
            | exact trivial
            | exact rfl
            | exact wk_refl _
            | refine wkO_cells ?_
            | refine wks_cons ?_ ?_
            | exact wks_nil
            | exact wk_nil _ _ _ (.inl rfl)
            | exact wk_Q (by omega)
            | refine wk_tupL ?_
            | refine wk_aggL ?_
            | refine joinMax ?_ ?_ ?_
            | refine joinMin ?_ ?_ ?_
            | refine toMax ?_
            | refine toMin ?_
            | refine ⟨rfl, ?_⟩
            | refine ⟨trivial, ?_⟩
            | refine forkD (fun h => ?_) (fun h => ?_)
            | refine forkNe (fun h => ?_) (fun h => ?_)
            | refine forkEq (fun h => ?_) (fun h => ?_)
            | refine forkNot ?_
            | refine ⟨vI64 (by omega), ?_⟩
            | refine And.intro (by omega) ?_
            | apply And.intro
            | exact iEq (by omega)
            | exact vI64 (by omega)
            | fail
      · refine ⟨by omega, hgi, forkD (fun h4 => absurd h4 (by omega)) (fun _ => ⟨by omega, hgi, forkD (fun h4 => absurd h4 (by omega)) (fun _ => ⟨by omega, hgi, forkF t0 ⟨by omega, hgi, forkD (fun h5 => forkF (t2.resolve_right (fun h => h h5)) (forkNot ⟨fun h6 => ⟨by omega, hgi, forkT rfl ?_⟩, fun h6 => absurd (hin h6) (by omega)⟩)) (fun h5 => absurd h5 (by omega))⟩⟩)⟩)⟩
        have hls := hless i hlt (hall rfl)
        have hd0 := dIL_at hBp
        have hb0 := hB.short _ (getD_memR (d := []) hBp)
        have hp3 := blamed_ne (told (without x i) m 100)
        have hd3 := dIL_at hp3
        have hp4 : (0 : Int) < (((blamedL (told (without x i) m 100)).length : Nat) : Int) := by omega
        have hw := without_len hlt
        have hEQ : ((((blamedL (told (without x i) m 100)).getD 0 []).length : Nat) : Int) = (((B.getD 0 []).length : Nat) : Int) - 1 := by omega
        have hxl : (List.flatMap reportC x).length = x.length * 14 := flat_len reportC_len x
        have htl : ∀ k, (List.flatMap reportC (x.take k)).length = (x.take k).length * 14 := fun k => flat_len reportC_len _
        have hti : (x.take i).length = i := by rw [List.length_take]; omega
        have eti : Int.toNat (((i : Nat) : Int) + 1) = i + 1 := by omega
        refine ⟨⟨⟨.inr (.inr rfl), by omega⟩, ⟨by omega, by omega⟩, Nat.zero_le _⟩, rfl, fun hz => ⟨⟨by omega, hz⟩, vI64 (by omega), ⟨⟨.inr (.inr rfl), Nat.le_refl _⟩, Nat.le_refl _, by omega, by omega⟩, by rw [eti], fun hy => ⟨⟨by omega, hy⟩, ?_⟩, fun hy => ⟨⟨by omega, hy, ⟨Nat.le_refl _, Nat.le_refl _⟩, ⟨Nat.le_refl _, by omega⟩, by rw [flat_tail]; exact one_flat _⟩, rfl, ?_⟩⟩,
          fun hz => ⟨⟨by omega, hz, ⟨Nat.le_refl _, Nat.le_refl _⟩, ⟨Nat.le_refl _, by omega⟩, by rw [List.drop_zero, flat_take]; exact one_flat _⟩, rfl, vI64 (by omega), ⟨⟨.inr (.inr rfl), Nat.le_refl _⟩, Nat.le_refl _, by omega, by omega⟩, by rw [eti], fun hy => ⟨⟨by omega, hy⟩, ?_⟩, fun hy => ⟨⟨by omega, hy, ⟨Nat.le_refl _, by rw [flat_head, htl]; omega⟩, ⟨Nat.le_refl _, by omega⟩, by rw [flat_tail]; exact one_flat _⟩, rfl, ?_⟩⟩⟩
        · have hx1 : without x i = [] := List.eq_nil_of_length_eq_zero (by omega)
          refine ⟨(blamedL (told (without x i) m 100), 0), ⟨rfl, trivial⟩, fun H' hl hd => kLess hop hl hd.1 (by rw [hx1]; rfl) (by rw [hx1]; rfl), forkF rfl (forkF (beq_eq_false_iff_ne.2 (show (((blamedL (told (without x i) m 100)).length : Nat) : Int) ≠ 0 by omega)) ⟨⟨Int.le_refl _, hp4⟩, hd3, ⟨Int.le_refl _, by omega⟩, hd0, vI64 (by omega), forkF (by rw [hEQ]; exact niq _) ?_⟩)⟩
          refine ⟨vI64 (by omega), i + 1, by omega, by omega, ?_⟩
          repeat' first
            | exact trivial
            | exact rfl
            | exact wk_refl _
            | refine wkO_cells ?_
            | refine wks_cons ?_ ?_
            | exact wks_nil
            | exact wk_nil _ _ _ (.inl rfl)
            | exact wk_Q (by omega)
            | refine wk_tupL ?_
            | refine wk_aggL ?_
            | refine joinMax ?_ ?_ ?_
            | refine joinMin ?_ ?_ ?_
            | refine toMax ?_
            | refine toMin ?_
            | refine ⟨rfl, ?_⟩
            | refine ⟨trivial, ?_⟩
            | refine forkD (fun h => ?_) (fun h => ?_)
            | refine forkNe (fun h => ?_) (fun h => ?_)
            | refine forkEq (fun h => ?_) (fun h => ?_)
            | refine forkNot ?_
            | refine ⟨vI64 (by omega), ?_⟩
            | refine And.intro (by omega) ?_
            | apply And.intro
            | exact iEq (by omega)
            | exact vI64 (by omega)
            | fail
        · have hx1 : without x i = x.drop (i + 1) := by unfold without; rw [hz]; rfl
          refine ⟨(blamedL (told (without x i) m 100), 0), ⟨rfl, trivial⟩, fun H' hl hd => kLess hop hl hd.1 (by rw [flat_tail, hx1]; rfl) (by omega), forkF rfl (forkF (beq_eq_false_iff_ne.2 (show (((blamedL (told (without x i) m 100)).length : Nat) : Int) ≠ 0 by omega)) ⟨⟨Int.le_refl _, hp4⟩, hd3, ⟨Int.le_refl _, by omega⟩, hd0, vI64 (by omega), forkF (by rw [hEQ]; exact niq _) ?_⟩)⟩
          refine ⟨vI64 (by omega), i + 1, by omega, by omega, ?_⟩
          repeat' first
            | exact trivial
            | exact rfl
            | exact wk_refl _
            | refine wkO_cells ?_
            | refine wks_cons ?_ ?_
            | exact wks_nil
            | exact wk_nil _ _ _ (.inl rfl)
            | exact wk_Q (by omega)
            | refine wk_tupL ?_
            | refine wk_aggL ?_
            | refine joinMax ?_ ?_ ?_
            | refine joinMin ?_ ?_ ?_
            | refine toMax ?_
            | refine toMin ?_
            | refine ⟨rfl, ?_⟩
            | refine ⟨trivial, ?_⟩
            | refine forkD (fun h => ?_) (fun h => ?_)
            | refine forkNe (fun h => ?_) (fun h => ?_)
            | refine forkEq (fun h => ?_) (fun h => ?_)
            | refine forkNot ?_
            | refine ⟨vI64 (by omega), ?_⟩
            | refine And.intro (by omega) ?_
            | apply And.intro
            | exact iEq (by omega)
            | exact vI64 (by omega)
            | fail
        · have hx1 : without x i = x.take i := by unfold without; rw [List.drop_eq_nil_of_le (by omega), List.append_nil]
          refine ⟨(blamedL (told (without x i) m 100), 0), ⟨rfl, trivial⟩, fun H' hl hd => kLess hop hl hd.1 (by rw [flat_head, hx1]) (by omega), forkF rfl (forkF (beq_eq_false_iff_ne.2 (show (((blamedL (told (without x i) m 100)).length : Nat) : Int) ≠ 0 by omega)) ⟨⟨Int.le_refl _, hp4⟩, hd3, ⟨Int.le_refl _, by omega⟩, hd0, vI64 (by omega), forkF (by rw [hEQ]; exact niq _) ?_⟩)⟩
          refine ⟨vI64 (by omega), i + 1, by omega, by omega, ?_⟩
          repeat' first
            | exact trivial
            | exact rfl
            | exact wk_refl _
            | refine wkO_cells ?_
            | refine wks_cons ?_ ?_
            | exact wks_nil
            | exact wk_nil _ _ _ (.inl rfl)
            | exact wk_Q (by omega)
            | refine wk_tupL ?_
            | refine wk_aggL ?_
            | refine joinMax ?_ ?_ ?_
            | refine joinMin ?_ ?_ ?_
            | refine toMax ?_
            | refine toMin ?_
            | refine ⟨rfl, ?_⟩
            | refine ⟨trivial, ?_⟩
            | refine forkD (fun h => ?_) (fun h => ?_)
            | refine forkNe (fun h => ?_) (fun h => ?_)
            | refine forkEq (fun h => ?_) (fun h => ?_)
            | refine forkNot ?_
            | refine ⟨vI64 (by omega), ?_⟩
            | refine And.intro (by omega) ?_
            | apply And.intro
            | exact iEq (by omega)
            | exact vI64 (by omega)
            | fail
        · have hx1 : List.take ((0 + i) * 14) (List.drop 0 (List.take (0 * 14) (List.drop 0 []) ++ List.take (i * 14) (List.drop 0 (List.flatMap reportC x)))) = (x.take i).flatMap reportC := by
            rw [flat_head, List.drop_zero, List.take_of_length_le (by rw [htl]; omega)]
          refine ⟨(blamedL (told (without x i) m 100), 0), ⟨rfl, trivial⟩, fun H' hl hd => kLess hop hl hd.1 (by rw [hx1, flat_tail, ← List.flatMap_append]; rfl) (by omega), forkF rfl (forkF (beq_eq_false_iff_ne.2 (show (((blamedL (told (without x i) m 100)).length : Nat) : Int) ≠ 0 by omega)) ⟨⟨Int.le_refl _, hp4⟩, hd3, ⟨Int.le_refl _, by omega⟩, hd0, vI64 (by omega), forkF (by rw [hEQ]; exact niq _) ?_⟩)⟩
          refine ⟨vI64 (by omega), i + 1, by omega, by omega, ?_⟩
          repeat' first
            | exact trivial
            | exact rfl
            | exact wk_refl _
            | refine wkO_cells ?_
            | refine wks_cons ?_ ?_
            | exact wks_nil
            | exact wk_nil _ _ _ (.inl rfl)
            | exact wk_Q (by omega)
            | refine wk_tupL ?_
            | refine wk_aggL ?_
            | refine joinMax ?_ ?_ ?_
            | refine joinMin ?_ ?_ ?_
            | refine toMax ?_
            | refine toMin ?_
            | refine ⟨rfl, ?_⟩
            | refine ⟨trivial, ?_⟩
            | refine forkD (fun h => ?_) (fun h => ?_)
            | refine forkNe (fun h => ?_) (fun h => ?_)
            | refine forkEq (fun h => ?_) (fun h => ?_)
            | refine forkNot ?_
            | refine ⟨vI64 (by omega), ?_⟩
            | refine And.intro (by omega) ?_
            | apply And.intro
            | exact iEq (by omega)
            | exact vI64 (by omega)
            | fail
      · refine ⟨by omega, hgi, forkD (fun h4 => absurd h4 (by omega)) (fun _ => ⟨by omega, hgi, forkD (fun h4 => absurd h4 (by omega)) (fun _ => ⟨by omega, hgi, forkF t0 ⟨by omega, hgi, forkD (fun h5 => forkF (t2.resolve_right (fun h => h h5)) (forkNot ⟨fun h6 => ⟨by omega, hgi, forkF rfl ?_⟩, fun h6 => absurd (hin h6) (by omega)⟩)) (fun h5 => absurd h5 (by omega))⟩⟩)⟩)⟩
        refine ⟨vI64 (by omega), i + 1, by omega, by omega, ?_⟩
        repeat' first
          | exact trivial
          | exact rfl
          | exact wk_refl _
          | refine wkO_cells ?_
          | refine wks_cons ?_ ?_
          | exact wks_nil
          | exact wk_nil _ _ _ (.inl rfl)
          | exact wk_Q (by omega)
          | refine wk_tupL ?_
          | refine wk_aggL ?_
          | refine joinMax ?_ ?_ ?_
          | refine joinMin ?_ ?_ ?_
          | refine toMax ?_
          | refine toMin ?_
          | refine ⟨rfl, ?_⟩
          | refine ⟨trivial, ?_⟩
          | refine forkD (fun h => ?_) (fun h => ?_)
          | refine forkNe (fun h => ?_) (fun h => ?_)
          | refine forkEq (fun h => ?_) (fun h => ?_)
          | refine forkNot ?_
          | refine ⟨vI64 (by omega), ?_⟩
          | refine And.intro (by omega) ?_
          | apply And.intro
          | exact iEq (by omega)
          | exact vI64 (by omega)
          | fail
end
end Go.Proofs.Ythcjliffpebjaaa
/- How laws' arguments are read. No condition. -/
namespace Go.Proofs.Ythcjliffpebjaaa
set_option linter.unusedSimpArgs false
open Go Go.K Go.ChangeShapes Go.WideShapes Go.ChangeAt Go.RowKit
set_option maxRecDepth 100000
set_option linter.unusedVariables false
noncomputable section
theorem own : ownKnob Try.prog.godebug = none := by kernel_rfl
theorem sized : slicesSized Try.prog = true := by kernel_rfl
abbrev known (t : TypeId) : Prop := t < Try.prog.types.size
theorem kids : Kids Try.prog known := kids_rows (by kernel_rfl) (by kernel_rfl)
theorem good_flat {H : Heap} {t : TypeId} {v : Value} (n : Nat) (hu : (match Try.prog.underlying t with | some (.struct _) => true | _ => false) = true) (hf : flatI Try.prog 6 t = some n) (h : GoodV Try.prog H 6 t v) :
    ∃ ns : List Int, v = .agg ⟨ns.map (.int .i64)⟩ ∧ ns.length = n ∧ ∀ x ∈ ns, inI x := by
  unfold GoodV at h
  split at hu
  · rename_i fs e
    rw [e] at h
    obtain ⟨cs, rfl, h⟩ := h
    obtain ⟨ns, rfl, h2, h3⟩ := flatI_good 6 t n cs hf h
    exact ⟨ns, rfl, h2, h3⟩
  · cases hu
theorem good_int {H : Heap} {v : Value} (h : GoodV Try.prog H 6 3 v) : ∃ x : Int, v = .int .i64 x ∧ inI x := by
  have hu : Try.prog.underlying 3 = some (.int .i64) := by kernel_rfl
  unfold GoodV at h
  rw [hu] at h
  obtain ⟨ns, h1, h2, h3⟩ := flatI_good 6 3 1 [v] (by unfold flatI; rw [hu]) h
  match ns, h2 with
  | [x], _ => exact ⟨x, by simpa using h1, h3 x (by simp)⟩
theorem good_rates {H : Heap} {v : Value} (h : GoodV Try.prog H 6 26 v) : ∃ m : Rates, v = ratesV m := by
  obtain ⟨ns, rfl, h2, _⟩ := good_flat 8 (by kernel_rfl) (by kernel_rfl) h
  match ns, h2 with
  | [a1, a2, a3, a4, a5, a6, a7, a8], _ => exact ⟨⟨⟨a1, a2, a3, a4⟩, ⟨a5, a6, a7, a8⟩⟩, rfl⟩
theorem goodL_flat {α : Type} {f : α → List Value} {n t : Nat} (H : Heap) (hf : flatI Try.prog 5 t = some n) (hα : ∀ ns : List Int, ns.length = n → ∃ x : α, ns.map (Value.int .i64) = f x) :
    ∀ c, K.Good Try.prog H 5 t c → ∃ x : α, c = f x ∧ True := by
  intro c h
  obtain ⟨ns, rfl, h2, _⟩ := flatI_good 5 t n c hf h
  obtain ⟨x, hx⟩ := hα ns h2
  exact ⟨x, hx, trivial⟩
/-- A slice: less is said: read only. -/
theorem slice_read {α : Type} {f : α → List Value} {H : Heap} {n t e : Nat} {cs : List Value} (hu : Try.prog.underlying t = some (.slice e)) (hg : ∀ c, K.Good Try.prog H n e c → ∃ x : α, c = f x ∧ True) (h : K.Good Try.prog H (n + 1) t cs) :
    ∃ (v : Value) (xs : List α), cs = [v] ∧ xs.length ≤ maxLen ∧ ∀ K : Heap, ∃ (gs : List KObj) (id : Nat) (own : Bool) (z : Nat), wk v (.slice (some ⟨id, 0, some 2⟩) xs.length xs.length) ∧ (H ++ K ++ gs)[id]? = some (.cells own z (xs.flatMap f)) := by
  unfold K.Good at h
  rw [hu] at h
  rcases h with h | h | ⟨id, len, cs', h1, h2, h3, h4, h5⟩
  · exact ⟨_, [], h, by simp [maxLen], fun K => ⟨[.cells false 0 []], (H ++ K).length, false, 0, wk_nil _ _ _ (.inr rfl), by rw [List.getElem?_append_right (Nat.le_refl _)]; simp⟩⟩
  · exact ⟨_, [], h, by simp [maxLen], fun K => ⟨[.cells false 0 []], (H ++ K).length, false, 0, wk_E _ _ _ (.inr rfl), by rw [List.getElem?_append_right (Nat.le_refl _)]; simp⟩⟩
  · obtain ⟨xs, rfl, rfl, _⟩ := goodL_list (f := f) (q := fun _ => True) hg len cs' h5
    refine ⟨_, xs, h1, h4, fun K => ⟨[], id, false, 0, wk_R, ?_⟩⟩
    rw [List.append_nil, List.getElem?_append_left (List.getElem?_eq_some_iff.1 h2).1]; exact h2
theorem goodV_slice {α : Type} {f : α → List Value} {H : Heap} {t e : Nat} {v : Value} (hu : Try.prog.underlying t = some (.slice e)) (hg : ∀ c, K.Good Try.prog H 5 e c → ∃ x : α, c = f x ∧ True) (h : GoodV Try.prog H 6 t v) :
    ∃ xs : List α, xs.length ≤ maxLen ∧ ∀ K : Heap, ∃ (gs : List KObj) (id : Nat) (own : Bool) (z : Nat), wk v (.slice (some ⟨id, 0, some 2⟩) xs.length xs.length) ∧ (H ++ K ++ gs)[id]? = some (.cells own z (xs.flatMap f)) := by
  unfold GoodV at h
  rw [hu] at h
  obtain ⟨v', xs, h1, h2, h3⟩ := slice_read hu hg h
  cases h1
  exact ⟨xs, h2, h3⟩
theorem ints_read {H : Heap} {v : Value} (h : GoodV Try.prog H 6 49 v) : ∃ xs : List Int, (xs.length ≤ maxLen ∧ ∀ x ∈ xs, inI x) ∧ ∀ K : Heap, ∃ (gs : List KObj) (id : Nat) (own : Bool) (z : Nat), wk v (.slice (some ⟨id, 0, some 2⟩) xs.length xs.length) ∧ (H ++ K ++ gs)[id]? = some (.cells own z (xs.flatMap fun x => [.int .i64 x])) := by
  have hu : Try.prog.underlying 49 = some (.slice 3) := by kernel_rfl
  unfold GoodV at h
  rw [hu] at h
  unfold K.Good at h
  rw [hu] at h
  rcases h with h | h | ⟨id, len, cs', h1, h2, h3, h4, h5⟩
  · cases h; exact ⟨[], ⟨by simp [maxLen], fun x hx => by cases hx⟩, fun K => ⟨[.cells false 0 []], (H ++ K).length, false, 0, wk_nil _ _ _ (.inr rfl), by rw [List.getElem?_append_right (Nat.le_refl _)]; simp⟩⟩
  · cases h; exact ⟨[], ⟨by simp [maxLen], fun x hx => by cases hx⟩, fun K => ⟨[.cells false 0 []], (H ++ K).length, false, 0, wk_E _ _ _ (.inr rfl), by rw [List.getElem?_append_right (Nat.le_refl _)]; simp⟩⟩
  · cases h1
    obtain ⟨xs, rfl, rfl, hq⟩ := goodL_list (f := fun x : Int => [Value.int .i64 x]) (q := inI) (fun c hc => by
      obtain ⟨ns, rfl, k2, k3⟩ := flatI_good 5 3 1 c (by kernel_rfl) hc
      match ns, k2 with
      | [a], _ => exact ⟨a, rfl, k3 a (by simp)⟩) len cs' h5
    refine ⟨xs, ⟨h4, hq⟩, fun K => ⟨[], id, false, 0, wk_R, ?_⟩⟩
    rw [List.append_nil, List.getElem?_append_left (List.getElem?_eq_some_iff.1 h2).1]; exact h2
end
end Go.Proofs.Ythcjliffpebjaaa
