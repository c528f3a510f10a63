/- Ice: the examples of the chapter (awake), as a contract. No condition. -/
import Derived.Test.YthcjliffpebjaaaA4a
import Derived.Test.YthcjliffpebjaaaB6g
import Derived.Test.YthcjliffpebjaaaGS0xS7g
import Derived.Test.YthcjliffpebjaaaGK27xP1a
import Derived.Test.YthcjliffpebjaaaRows
import Derived.JoinedCond
namespace Go.Proofs.Ythcjliffpebjaaa
set_option linter.unusedSimpArgs false
set_option linter.unusedVariables false
open Go Go.K
set_option maxRecDepth 100000
noncomputable section
attribute [local irreducible] vF
theorem kAwake (H : Heap) : KCall prog F.polynyalaw01_awake [] H [] (Is (.bool true) H) := by
  have hv : vF prog msk (dm impI) 100000 true 40 true F.polynyalaw01_awake [] ⟨0, .leaf⟩ none .auto (fun v _ _ => isTrueV v) := of_eq_true awakeRun
  have h0 := vc (P := prog) (mask := msk) (dm := dm impI) (rounds := 100000) (mixed := true) mskOk mixed 40 (f := F.polynyalaw01_awake) (args := []) (H := ⟨0, .leaf⟩) (M := none) (h := .auto) (Q := fun v _ => isTrueV v) hv
  have h1 : KCall prog F.polynyalaw01_awake [] [] [] (fun v _ => v = .bool true) := h0.post (fun v H' h => by
      cases v <;> first | exact h.elim | (rename_i b; cases b <;> first | rfl | exact h.elim))
  have h2 : KCall prog F.polynyalaw01_awake [] [] [] (Is (.bool true) []) := KCall.clean h1 rfl
  have h3 := KCall.frame (H := H) (new := []) (d := 3) (σ := fun _ => none) ⟨fun g hg => absurd hg (by rw [glob0]; exact Nat.not_lt_zero _), fun _ _ h => (by cases h), fun id h => absurd h (Nat.not_lt_zero _), fun _ _ _ h => (by cases h), fun _ _ _ h => (by cases h)⟩ h2 rfl rfl
  simpa [rn] using h3
end
end Go.Proofs.Ythcjliffpebjaaa
/- Ice: reports made right. No condition. -/
namespace Go.Proofs.Ythcjliffpebjaaa
open Go Go.K
set_option maxRecDepth 100000
set_option linter.unusedVariables false
set_option linter.unusedSimpArgs false
noncomputable section
attribute [local irreducible] vF popc hasK
theorem rightL_len (l : List Report) (n : Nat) : (rightL l n).length = n := tabP_len ..
theorem rightL_succ (l : List Report) (n : Nat) : rightL l (n + 1) = rightL l n ++ [rightAt l n] := tabP_succ ..
theorem rightL_get {l : List Report} {n k : Nat} (h : k < n) : (rightL l n).getD k zeroR = rightAt l k := tabP_get h
theorem kRight (l : List Report) (hl8 : l.length ≤ 4294967296) {H : Heap} {L : Nat} (hL : H.length = L) {id : Nat} {own : Bool} {z : Nat} (hid : H[id]? = some (.cells own z (l.flatMap reportC))) :
    KCall prog F.polynyalaw01_Right [.slice (some ⟨id, 0, some 2⟩) l.length l.length] H []
      (Is (.slice (some ⟨L, 0, some 1⟩) (rightL l l.length).length (rightL l l.length).length) (H ++ [.cells true 14 ((rightL l l.length).flatMap reportC)])) := by
  subst hL
  have key := fun hc => valN (css := [l.flatMap reportC]) (v := .slice (some ⟨1, 0, some 1⟩) (rightL l l.length).length (rightL l l.length).length) (new := [(true, .cells true 14 ((rightL l l.length).flatMap reportC))]) (Eq.mpr (ERight l) hc) (one_cs (plainR 0 l)) rfl (by simp [rn, sgOnly])
    (by show ((rnoOk 3 (.cells true 14 ((rightL l l.length).flatMap reportC)) && true) && true) = true
        rw [Bool.and_true, Bool.and_true]; exact (rnCl (σ := fun _ => none) (d := 0) (plainR 0 _)).2)
    (congrArg (fun q => [KObj.cells true 14 q]) (rnCl (d := 0) (plainR 0 _)).1) (H := H) [id] rfl (one_id hid)
  have e1 : rn (sgUp (0 + [l.flatMap reportC].length) H.length) 3 (.slice (some ⟨1, 0, some 1⟩) (rightL l l.length).length (rightL l l.length).length) = .slice (some ⟨H.length, 0, some 1⟩) (rightL l l.length).length (rightL l l.length).length := by simp [rn, sgUp]
  have e2 : (List.map (fun x : Bool × KObj => x.2) [(true, KObj.cells true 14 ((rightL l l.length).flatMap reportC))]).map (rno (sgUp (0 + [l.flatMap reportC].length) H.length) 3) = [.cells true 14 ((rightL l l.length).flatMap reportC)] :=
    congrArg (fun q => [KObj.cells true 14 q]) (rnCl (d := 0) (plainR 0 _)).1
  rw [e1, e2] at key
  refine key ?_
  clear key e1 e2
  unfold RRight
  refine ⟨rfl, Nat.zero_le _, ?_, fun _ => rfl, ?_⟩
  · repeat' first
      | exact plainR _ _
      | exact trivial
      | exact rfl
      | exact wk_refl _
      | refine wkO_cells ?_
      | refine wks_cons ?_ ?_
      | exact wks_nil
      | exact wk_nil _ _ _ (.inl rfl)
      | exact wk_Q (by omega)
      | refine wk_tupL ?_
      | refine wk_aggL ?_
      | refine joinMax ?_ ?_ ?_
      | refine joinMin ?_ ?_ ?_
      | refine toMax ?_
      | refine toMin ?_
      | refine ⟨rfl, ?_⟩
      | refine ⟨trivial, ?_⟩
      | refine forkD (fun h => ?_) (fun h => ?_)
      | refine forkNe (fun h => ?_) (fun h => ?_)
      | refine forkEq (fun h => ?_) (fun h => ?_)
      | refine forkNot ?_
      | refine ⟨vI64 (by omega), ?_⟩
      | refine And.intro (by omega) ?_
      | apply And.intro
      | exact iEq (by omega)
      | exact vI64 (by omega)
      | fail
  intro x hx
  refine forkD (fun h => ?_) (fun h => ?_)
  · have hlt : x < l.length := by omega
    have hl := rightL_len l x
    have g1 := Int.emod_nonneg (l.getD x zeroR).source (show (3 : Int) ≠ 0 by decide)
    have g2 := Int.emod_lt_of_pos (l.getD x zeroR).source (show (0 : Int) < 3 by decide)
    have g3 := Int.emod_nonneg (l.getD x zeroR).has (show (15 : Int) ≠ 0 by decide)
    have g4 := Int.emod_lt_of_pos (l.getD x zeroR).has (show (0 : Int) < 15 by decide)
    have hcell : ∀ c, c < 14 → ∀ v, (reportC (l.getD x zeroR))[c]? = some v → (List.flatMap reportC l)[0 + Int.toNat ((x : Nat) : Int) * 14 + c]? = some v := fun c hc v hv =>
      cell_at (n := 14) (f := reportC) (d := zeroR) (c := c) (k := x) reportC_len hlt (by rw [Int.toNat_natCast]; omega) hv
    have hpart : partA 8 (List.flatMap reportC l) (0 + Int.toNat ((x : Nat) : Int) * 14 + 6) = some (.agg ⟨((reportC (l.getD x zeroR)).drop 6).take 8⟩) :=
      part_at (f := reportC) (d := zeroR) (c := 6) (m := 8) reportC_len hlt (by rw [Int.toNat_natCast]; omega) (by decide)
    have hpick : ∀ (a : Int) (n : Int), 1 ≤ n → n ≤ 10000000 → ∀ H' : Heap, KCall prog 17 [.int .i64 a, .int .i64 n] H' [] (Is (.int .i64 (a % n)) H') := fun a n h1 h2 H' => kPick a n (by omega) (by omega) H'
    refine ⟨by omega, hpart, by omega, hcell 1 (by decide) _ rfl, by omega, hcell 2 (by decide) _ rfl, by omega, hcell 5 (by decide) _ rfl, ?_⟩
    repeat' first
      | refine ⟨_, trivial, fun H' _ _ => hpick _ _ (by decide) (by decide) H', ?_⟩
      | refine ⟨vI64 (by omega), ?_⟩
      | fail
    simp only [ite_max, ite_min]
    refine ⟨⟨by omega, by decide, ⟨Nat.le_refl _, by rw [flat_len reportC_len]; omega⟩, ⟨by decide, Nat.le_refl _⟩, by first | trivial | rfl⟩, by first | trivial | rfl, vI64 (by omega), x + 1, by omega, by omega, ?_⟩
    rw [rightL_succ]
    repeat' first
      | exact plainR _ _
      | exact congrArg (fun l => some (KObj.cells true 14 l)) (flat_snoc reportC_len (rightL l x) (rightAt l x) (rightL_len ..).symm)
      | exact trivial
      | exact rfl
      | exact wk_refl _
      | refine wkO_cells ?_
      | refine wks_cons ?_ ?_
      | exact wks_nil
      | exact wk_nil _ _ _ (.inl rfl)
      | exact wk_Q (by omega)
      | refine wk_tupL ?_
      | refine wk_aggL ?_
      | refine joinMax ?_ ?_ ?_
      | refine joinMin ?_ ?_ ?_
      | refine toMax ?_
      | refine toMin ?_
      | refine ⟨rfl, ?_⟩
      | refine ⟨trivial, ?_⟩
      | refine forkD (fun h => ?_) (fun h => ?_)
      | refine forkNe (fun h => ?_) (fun h => ?_)
      | refine forkEq (fun h => ?_) (fun h => ?_)
      | refine forkNot ?_
      | refine ⟨vI64 (by omega), ?_⟩
      | refine And.intro (by omega) ?_
      | apply And.intro
      | exact iEq (by omega)
      | exact vI64 (by omega)
      | fail
  · obtain rfl : x = l.length := by omega
    repeat' first
      | exact plainR _ _
      | exact (by rw [rightL_len]; exact wk_refl _)
      | exact trivial
      | exact rfl
      | exact wk_refl _
      | refine wkO_cells ?_
      | refine wks_cons ?_ ?_
      | exact wks_nil
      | exact wk_nil _ _ _ (.inl rfl)
      | exact wk_Q (by omega)
      | refine wk_tupL ?_
      | refine wk_aggL ?_
      | refine joinMax ?_ ?_ ?_
      | refine joinMin ?_ ?_ ?_
      | refine toMax ?_
      | refine toMin ?_
      | refine ⟨rfl, ?_⟩
      | refine ⟨trivial, ?_⟩
      | refine forkD (fun h => ?_) (fun h => ?_)
      | refine forkNe (fun h => ?_) (fun h => ?_)
      | refine forkEq (fun h => ?_) (fun h => ?_)
      | refine forkNot ?_
      | refine ⟨vI64 (by omega), ?_⟩
      | refine And.intro (by omega) ?_
      | apply And.intro
      | exact iEq (by omega)
      | exact vI64 (by omega)
      | fail
end
end Go.Proofs.Ythcjliffpebjaaa
/- Ice: IceBlames returns true. No condition. -/
namespace Go.Proofs.Ythcjliffpebjaaa
open Go Go.K
set_option maxRecDepth 100000
set_option linter.unusedVariables false
set_option linter.unusedSimpArgs false
noncomputable section
attribute [local irreducible] vF popc hasK
theorem fixS_right {s : Span} {n : Int} (hn : 0 ≤ n) : rightS (fixS s n) n := by
  have h1 := Int.emod_nonneg s.lo (show n + 1 ≠ 0 by omega)
  have h2 := Int.emod_lt_of_pos s.lo (show 0 < n + 1 by omega)
  have h3 := Int.emod_nonneg s.hi (show n + 1 ≠ 0 by omega)
  have h4 := Int.emod_lt_of_pos s.hi (show 0 < n + 1 by omega)
  show 0 ≤ min _ _ ∧ min _ _ ≤ n ∧ min _ _ ≤ max _ _ ∧ max _ _ ≤ n
  omega
theorem rightAt_ok (l : List Report) {i : Nat} (hi : i ≤ 1000000) : reportOk (rightAt l i) ∧ (rightAt l i).at_ ≤ 100 := by
  have h1 := Int.emod_nonneg (l.getD i zeroR).source (show (3 : Int) ≠ 0 by decide)
  have h2 := Int.emod_lt_of_pos (l.getD i zeroR).source (show (0 : Int) < 3 by decide)
  have h3 := Int.emod_nonneg (l.getD i zeroR).has (show (15 : Int) ≠ 0 by decide)
  have h4 := Int.emod_lt_of_pos (l.getD i zeroR).has (show (0 : Int) < 15 by decide)
  have h5 := Int.emod_nonneg (l.getD i zeroR).at_ (show (100 : Int) ≠ 0 by decide)
  have h6 := Int.emod_lt_of_pos (l.getD i zeroR).at_ (show (0 : Int) < 100 by decide)
  refine ⟨⟨⟨?_, ?_, ?_, ?_, ?_, ?_⟩, fun _ => fixS_right (by decide), fun _ => fixS_right (by decide), fun _ => fixS_right (by decide), fun _ => fixS_right (by decide)⟩, ?_⟩
  · show 0 ≤ ((i : Nat) : Int) ∧ ((i : Nat) : Int) ≤ 1000000; omega
  · show 1 ≤ 1 + _ % (3 : Int) ∧ 1 + _ % (3 : Int) ≤ 3; omega
  · show 0 ≤ _ % (100 : Int) ∧ _ % (100 : Int) ≤ 10000; omega
  · exact ⟨Int.le_refl _, (show (0 : Int) ≤ 63 by decide)⟩
  · exact ⟨Int.le_refl _, (show (0 : Int) ≤ 63 by decide)⟩
  · show 1 ≤ 1 + _ % (15 : Int) ∧ 1 + _ % (15 : Int) ≤ 15; omega
  · show _ % (100 : Int) ≤ 100; omega
theorem right_open {l : List Report} {m : Rates} (hm : errRates m = 0) (hl : l.length ≤ 12) : OpenOk (rightL l l.length) m 100 := by
  refine ⟨(first2_2 hm).trans (if_pos ⟨by decide, by decide⟩), by rw [rightL_len]; exact hl, fun r hr => ?_, ?_, fun a ha b hb => ?_⟩
  · obtain ⟨i, hi, rfl⟩ := getD_ofR (d := zeroR) hr
    rw [rightL_len] at hi
    rw [rightL_get hi]
    exact rightAt_ok l (by omega)
  · rw [List.pairwise_iff_getElem]
    intro i j hi hj hij e
    rw [← getD_elem (d := zeroR), ← getD_elem (d := zeroR)] at e
    rw [rightL_len] at hi hj
    rw [rightL_get hi, rightL_get hj] at e
    have e : ((i : Nat) : Int) = ((j : Nat) : Int) := e
    omega
  · obtain ⟨i, hi, rfl⟩ := getD_ofR (d := zeroR) ha
    obtain ⟨j, hj, rfl⟩ := getD_ofR (d := zeroR) hb
    rw [rightL_len] at hi hj
    rw [rightL_get hi, rightL_get hj]
    exact ⟨rfl, rfl⟩
theorem sameTo_succ (b : List Int) (T : List Bool) (z : Nat) : sameTo b T (z + 1) = (sameTo b T z && (decide (((z : Nat) : Int) ∈ b) != T.getD z false)) := by
  unfold sameTo
  rw [List.range_succ, List.all_append]; simp
theorem foundTo_succ (n : Nat) (B : List (List Int)) (T : List Bool) (x : Nat) : foundTo n B T (x + 1) = (foundTo n B T x || sameTo (B.getD x []) T n) := by
  unfold foundTo
  rw [List.range_succ, List.any_append]; simp
theorem outB_len (n : Nat) (b : List Int) (y : Nat) : (outB n b y).length = n := tabP_len ..
theorem outB_get {n : Nat} {b : List Int} {y k : Nat} (h : k < n) : (outB n b y).getD k false = decide (((k : Nat) : Int) ∈ b.take y) := tabP_get h
/-- What is so of blamed sets. -/
structure Blm (x : List Report) (m : Rates) (B : List (List Int)) (P : List (Nat × Nat)) (T : List Bool) : Prop where
  pos : 0 < B.length
  few : B.length ≤ 4096
  fewP : P.length ≤ 4096
  len : T.length = x.length
  size : ∀ b ∈ B, b.length = (B.getD 0 []).length
  short : ∀ b ∈ B, b.length ≤ x.length
  ins : ∀ b ∈ B, ∀ v ∈ b, 0 ≤ v ∧ v < x.length
  inc : ∀ b ∈ B, b.Pairwise (· < ·)
  pairs : ∀ q ∈ P, q.1 < q.2 ∧ q.2 < x.length
  hits : ∀ b ∈ B, ∀ q ∈ P, ((q.1 : Nat) : Int) ∈ b ∨ ((q.2 : Nat) : Int) ∈ b
  rest : ∀ b ∈ B, (fFuse (someL x (notInB b) x.length) m 100).2 = 0
  found : foundTo x.length B T B.length = true
  other : ∀ p : Nat → Bool, ((fFuse (someL x p x.length) m 100).2 = 0 ∧ (B.getD 0 []).length ≤ x.length - (someL x p x.length).length) ∨ (fFuse (someL x p x.length) m 100).2 = 21
  none : P = [] ↔ (B.getD 0 []) = []
theorem blm {x : List Report} {m : Rates} (h : OpenOk x m 100) : Blm x m (blamedL (told x m 100)) (conf (told x m 100) x.length) (trustL (told x m 100) x.length) := by
  have hr := told_right h
  have hn : (told x m 100).length ≤ 12 := by rw [told_len]; exact h.len
  have hne := blamed_ne (told x m 100)
  have h0m : (blamedL (told x m 100)).getD 0 [] ∈ blamedL (told x m 100) := getD_memR hne
  have h0 := blamed_len hr hn h0m
  obtain ⟨ts, hts⟩ : ∃ ts, told x m 100 = ts := ⟨_, rfl⟩
  have hl : ts.length = x.length := by rw [← hts]; exact told_len ..
  rw [hts] at hr hn hne h0m h0 ⊢
  have nin : ∀ s b, b = outTo ts.length s ts.length → ∀ k, k < ts.length → notInB b k = inSet ts.length s k := by
    intro s b hb k hk
    unfold notInB
    have : (((k : Nat) : Int) ∈ b) ↔ inSet ts.length s k = false := by
      rw [hb, mem_outTo]
      constructor
      · rintro ⟨j, _, h2, e⟩
        obtain rfl : k = j := by omega
        exact h2
      · intro h; exact ⟨k, hk, h, rfl⟩
    cases hq : inSet ts.length s k with
    | true => rw [decide_eq_false (fun h => by rw [this.1 h] at hq; cases hq)]; rfl
    | false => rw [decide_eq_true (this.2 hq)]; rfl
  refine ⟨hne, by rw [blamedL_len]; exact Nat.le_trans (agr_len _ _) (pow12 hn).2, by have := Nat.le_trans (conf_len ts x.length) (Nat.mul_le_mul (show x.length ≤ 12 by omega) hn); omega, tabP_len .., fun b hb => ?_, fun b hb => by have := blamed_len hr hn hb; omega, fun b hb v hv => ?_, fun b hb => ?_, fun q hq => ?_, fun b hb q hq => ?_, fun b hb => ?_, ?_, fun p => ?_, ?_⟩
  · have := blamed_len hr hn hb; omega
  · obtain ⟨s, _, rfl⟩ := blamed_mem.1 hb
    obtain ⟨k, h1, _, rfl⟩ := mem_outTo.1 hv
    omega
  · obtain ⟨s, _, rfl⟩ := blamed_mem.1 hb
    exact outTo_sorted ..
  · rw [← hl] at hq
    have := (mem_conf (Nat.le_refl _)).1 hq
    omega
  · rw [← hl] at hq
    obtain ⟨h1, h2, h3, h4⟩ := (mem_conf (Nat.le_refl _)).1 hq
    obtain ⟨s, hs, rfl⟩ := blamed_mem.1 hb
    obtain ⟨_, ho, _⟩ := (mem_agrA hr hn).1 hs
    rw [mem_outTo, mem_outTo]
    cases k1 : inSet ts.length s q.1 with
    | false => exact .inl ⟨q.1, h1, k1, rfl⟩
    | true =>
      cases k2 : inSet ts.length s q.2 with
      | false => exact .inr ⟨q.2, h3, k2, rfl⟩
      | true => exact absurd (ho q.1 q.2 h1 h3 k1 k2) h4
  · obtain ⟨s, hs, hb'⟩ := blamed_mem.1 hb
    obtain ⟨_, ho, _⟩ := (mem_agrA hr hn).1 hs
    refine (fuse_code (h.some _ (Nat.le_refl _))).1.2 (okL_some.2 ?_)
    rw [hts]
    exact (okA_congr (nin s b hb')).2 ho
  · have hm := blamed_mem.2 ⟨trustS ts, trustS_mem ts, rfl⟩
    obtain ⟨i, hi, e⟩ := getD_ofR (d := []) hm
    unfold foundTo
    rw [List.any_eq_true]
    refine ⟨i, List.mem_range.2 hi, ?_⟩
    rw [e]
    unfold sameTo
    rw [List.all_eq_true]
    intro k hk
    rw [List.mem_range] at hk
    have h1 := nin (trustS ts) _ rfl k (by omega)
    have h2 : (trustL ts x.length).getD k false = inSet ts.length (trustS ts) k := tabP_get (by omega)
    rw [h2, ← h1]
    unfold notInB
    cases decide (((k : Nat) : Int) ∈ outTo ts.length (trustS ts) ts.length) <;> rfl
  · have hf := fuse_code (h.some p (Nat.le_refl _))
    rcases hf.2 with h1 | h1
    · left
      refine ⟨h1, ?_⟩
      have ho := okL_some.1 (hf.1.1 h1)
      rw [hts] at ho
      have := cnt_max hr hn ho
      rw [someL_len, ← hl]
      omega
    · exact .inr h1
  · rw [← hl, conf_nil hr]
    constructor
    · intro ho
      have h1 := cnt_max hr hn ho
      have h2 : cnt ts.length (fun _ => true) = ts.length := by
        unfold cnt
        rw [List.countP_true]; exact List.length_range
      exact List.eq_nil_of_length_eq_zero (by omega)
    · intro he
      rw [he] at h0
      obtain ⟨h1, h2⟩ := max_some hr hn
      refine (okA_congr (fun i hi => ?_)).1 h1
      cases hq : inSet ts.length (trustS ts) i with
      | true => rfl
      | false =>
        have h3 := cnt_lt (p := inSet ts.length (trustS ts)) (q := fun _ => true) (fun _ _ _ => rfl) hi hq rfl
        have h4 : cnt ts.length (fun _ => true) = ts.length := by
          unfold cnt
          rw [List.countP_true]; exact List.length_range
        have h5 : ([] : List Int).length = 0 := rfl
        omega
theorem boolAt {T : List Bool} {k : Nat} (h : k < T.length) : (T.flatMap boolC)[0 + Int.toNat ((k : Nat) : Int) * 1]? = some (.bool (T.getD k false)) :=
  cell_at (n := 1) (f := boolC) (d := false) (c := 0) (k := k) boolC_len h (by rw [Int.toNat_natCast]; omega) rfl
theorem boolC_map (ys : List Bool) : ys.flatMap boolC = ys.map (fun y => Value.bool y) := by
  induction ys with
  | nil => rfl
  | cons y ys ih => rw [List.flatMap_cons, ih]; rfl
theorem boolC_set {xs : List Bool} {k : Nat} {v : Bool} : setl (xs.flatMap boolC) k [.bool v] = (xs.set k v).flatMap boolC := by
  show (xs.flatMap boolC).set k (.bool v) = _
  rw [boolC_map, boolC_map, List.map_set]
theorem outB_0 (n : Nat) (b : List Int) : (outB n b 0).flatMap boolC = krep [.bool false] n := by
  induction n with
  | zero => rfl
  | succ n ih =>
    unfold outB at ih ⊢
    rw [tabP_succ, List.flatMap_append, ih]
    have : ∀ k, krep [Value.bool false] k ++ [.bool false] = .bool false :: krep [.bool false] k := by
      intro k
      induction k with
      | zero => rfl
      | succ k ih => show .bool false :: (krep _ k ++ _) = _; rw [ih]; rfl
    exact this n
theorem outB_succ {n : Nat} {b : List Int} {y : Nat} (hy : y < b.length) (h0 : 0 ≤ b.getD y 0) : outB n b (y + 1) = (outB n b y).set (b.getD y 0).toNat true := by
  refine List.ext_getElem? fun i => ?_
  unfold outB tabP
  rw [List.getElem?_set]
  simp only [List.getElem?_map, List.length_map, List.length_range]
  by_cases hi : i < n
  · rw [List.getElem?_range hi]
    have e : (((i : Nat) : Int) ∈ b.take (y + 1)) ↔ (((i : Nat) : Int) ∈ b.take y ∨ ((i : Nat) : Int) = b.getD y 0) := mem_take_succ hy _
    by_cases e2 : (b.getD y 0).toNat = i
    · rw [if_pos e2, if_pos (by omega)]
      rw [Option.map_some, decide_eq_true (e.2 (.inr (by omega)))]
    · rw [if_neg e2]
      simp only [Option.map_some, e]
      congr 1
      by_cases h2 : ((i : Nat) : Int) ∈ b.take y
      · rw [decide_eq_true h2, decide_eq_true (.inl h2)]
      · rw [decide_eq_false h2, decide_eq_false]
        rintro (h3 | h3)
        · exact h2 h3
        · omega
  · rw [List.getElem?_eq_none (by simpa using hi)]
    by_cases e : (b.getD y 0).toNat = i
    · rw [if_pos e, if_neg (by omega)]; rfl
    · rw [if_neg e]; rfl
theorem pairAt {P : List (Nat × Nat)} {k c : Nat} (h : k < P.length) (off : Nat) (ho : off = k * 2 + c) {v : Value} (hv : (pairC (P.getD k (0, 0)))[c]? = some v) : (P.flatMap pairC)[off]? = some v :=
  cell_at (n := 2) (f := pairC) (d := (0, 0)) (c := c) (k := k) pairC_len h ho hv
theorem someL_a {x : List Report} {p : Nat → Bool} {k : Nat} (h : p k = true) : someL x p (k + 1) = someL x p k ++ [x.getD k zeroR] := if_pos h
theorem someL_b {x : List Report} {p : Nat → Bool} {k : Nat} (h : p k = false) : someL x p (k + 1) = someL x p k := if_neg (by rw [h]; decide)
theorem someL_le (x : List Report) (p : Nat → Bool) (k : Nat) : (someL x p k).length ≤ k := by rw [someL_len]; exact cnt_le ..
theorem fBl {x : List Report} {m : Rates} (h : OpenOk x m 100) : fBlame x m 100 = (blamedL (told x m 100), 0) := fBlame_1 (open_of h)
theorem fCo {x : List Report} {m : Rates} (h : OpenOk x m 100) : fConf x m 100 = (conf (told x m 100) x.length, 0) := fConf_1 (open_of h)
theorem fTr {x : List Report} {m : Rates} (h : OpenOk x m 100) : ∃ c, fTrust x m 100 = (trustL (told x m 100) x.length, c, 0) := ⟨_, (fTrust_1 (open_of h)).trans (by rw [told_len])⟩
theorem kBlamesLaw (l : List Report) (m : Rates) (set : Int) {H : Heap} {id : Nat} {own : Bool} {z : Nat} (hid : H[id]? = some (.cells own z (l.flatMap reportC))) :
    KCall prog F.polynyalaw01_IceBlames [.slice (some ⟨id, 0, some 2⟩) l.length l.length, ratesV m, .int .i64 set] H [] (Is (.bool true) H) := by
  refine valR (Eq.mpr (EIceBlames _ l m set) ?_) (one_cs (plainR 0 l)) rfl [id] rfl (one_id hid)
  unfold RIceBlames
  refine forkD (fun h8 => ⟨trivial, fun H' _ _ => kAwake H', rfl⟩) (fun h8 => ?_)
  have hl8 : l.length ≤ 8 := by omega
  refine ⟨⟨rfl, trivial⟩, fun H' hl hd => kRight l (by omega) hl hd.1, _, trivial, fun H' _ _ => kCheckRates _ H', forkNe (fun _ => ⟨trivial, fun H' _ _ => kAwake H', rfl⟩) (fun h0 => ?_)⟩
  have hop := right_open h0 (l := l) (by omega)
  have hX : (rightL l l.length).length = l.length := rightL_len ..
  have hB := blm hop
  have e1 := fBl hop
  have e2 := fCo hop
  obtain ⟨c, e3⟩ := fTr hop
  obtain ⟨x, hx⟩ : ∃ x, rightL l l.length = x := ⟨_, rfl⟩
  rw [hx] at hB e1 e2 e3 hX hop ⊢
  obtain ⟨B, hBe⟩ : ∃ B, blamedL (told x m 100) = B := ⟨_, rfl⟩
  obtain ⟨P, hPe⟩ : ∃ P, conf (told x m 100) x.length = P := ⟨_, rfl⟩
  obtain ⟨T, hTe⟩ : ∃ T, trustL (told x m 100) x.length = T := ⟨_, rfl⟩
  rw [hBe, hPe, hTe] at hB
  rw [hBe] at e1
  rw [hPe] at e2
  rw [hTe] at e3
  refine ⟨(B, 0), ⟨rfl, trivial⟩, fun H' hl hd => ?_, ?_⟩
  · have k := (kBlame x m 100 hl hd.1).wkA (args := [.slice (some ⟨3, 0, some 1⟩) x.length x.length, ratesV m, .int .i64 100]) ⟨wk_QR, wk_refl _, wk_refl _, trivial⟩
    rw [e1] at k
    exact k
  refine ⟨(P, 0), ⟨rfl, trivial⟩, fun H' hl hd => ?_, ?_⟩
  · have k := (kConflicts x m 100 hl hd.1).wkA (args := [.slice (some ⟨3, 0, some 1⟩) x.length x.length, ratesV m, .int .i64 100]) ⟨wk_QR, wk_refl _, wk_refl _, trivial⟩
    rw [e2] at k
    exact k
  refine ⟨(T, c, 0), ⟨rfl, trivial⟩, fun H' hl hd => ?_, ?_⟩
  · have k := (kTrust x m 100 hl hd.1).wkA (args := [.slice (some ⟨3, 0, some 1⟩) x.length x.length, ratesV m, .int .i64 100]) ⟨wk_QR, wk_refl _, wk_refl _, trivial⟩
    rw [e3] at k
    exact k
  have hTl := hB.len
  have hBp := hB.pos
  have hBf := hB.few
  have hPf := hB.fewP
  refine forkF rfl (forkF rfl (forkF rfl (forkF (beq_eq_false_iff_ne.2 (show ((B.length : Nat) : Int) ≠ 0 by omega)) (forkF (by rw [hTl]; exact niq _) ?_))))
  dsimp only
  refine ⟨rfl, Nat.zero_le _, ?_, fun _ => rfl, ?_⟩
  · repeat' first
      | exact trivial
      | exact rfl
      | exact wk_refl _
      | refine wkO_cells ?_
      | refine wks_cons ?_ ?_
      | exact wks_nil
      | exact wk_nil _ _ _ (.inl rfl)
      | exact wk_Q (by omega)
      | refine wk_tupL ?_
      | refine wk_aggL ?_
      | refine joinMax ?_ ?_ ?_
      | refine joinMin ?_ ?_ ?_
      | refine toMax ?_
      | refine toMin ?_
      | refine ⟨rfl, ?_⟩
      | refine ⟨trivial, ?_⟩
      | refine forkD (fun h => ?_) (fun h => ?_)
      | refine forkNe (fun h => ?_) (fun h => ?_)
      | refine forkEq (fun h => ?_) (fun h => ?_)
      | refine forkNot ?_
      | refine ⟨vI64 (by omega), ?_⟩
      | refine And.intro (by omega) ?_
      | apply And.intro
      | exact iEq (by omega)
      | exact vI64 (by omega)
      | fail
  intro i hi
  refine forkD (fun h1 => ?_) (fun h1 => ?_)
  · have hlt : i < B.length := by omega
    have hbm : B.getD i [] ∈ B := getD_memR hlt
    have hbz := hB.size _ hbm
    obtain ⟨b, hb⟩ : ∃ b, B.getD i [] = b := ⟨_, rfl⟩
    rw [hb] at hbm hbz ⊢
    have hins := hB.ins b hbm
    have hinc := List.pairwise_iff_getElem.1 (hB.inc b hbm)
    have hb8 : b.length ≤ 8 := by have := hB.short b hbm; omega
    have hd1 := dIL_at hlt
    rw [hb] at hd1
    have hd0 := dIL_at hBp
    refine ⟨by omega, hd1, ⟨Int.le_refl _, by omega⟩, hd0, forkF (by rw [hbz]; exact niq _) ⟨⟨by omega, by omega, by omega, by omega⟩, rfl, Nat.zero_le _, ?_, fun _ => rfl, ?_⟩⟩
    · repeat' first
        | exact (dI_rn _ 0 _).symm
        | exact congrArg (fun l => some (KObj.cells true 1 l)) (outB_0 ..).symm
        | exact plainB _ _
        | exact trivial
        | exact rfl
        | exact wk_refl _
        | refine wkO_cells ?_
        | refine wks_cons ?_ ?_
        | exact wks_nil
        | exact wk_nil _ _ _ (.inl rfl)
        | exact wk_Q (by omega)
        | refine wk_tupL ?_
        | refine wk_aggL ?_
        | refine joinMax ?_ ?_ ?_
        | refine joinMin ?_ ?_ ?_
        | refine toMax ?_
        | refine toMin ?_
        | refine ⟨rfl, ?_⟩
        | refine ⟨trivial, ?_⟩
        | refine forkD (fun h => ?_) (fun h => ?_)
        | refine forkNe (fun h => ?_) (fun h => ?_)
        | refine forkEq (fun h => ?_) (fun h => ?_)
        | refine forkNot ?_
        | refine ⟨vI64 (by omega), ?_⟩
        | refine And.intro (by omega) ?_
        | apply And.intro
        | exact iEq (by omega)
        | exact vI64 (by omega)
        | fail
    intro y hy
    have hol := outB_len x.length b y
    have hfl : (List.flatMap boolC (outB x.length b y)).length = x.length := by rw [flat_len boolC_len, hol]; omega
    refine forkD (fun h2 => ?_) (fun h2 => ?_)
    · have hlt2 : y < b.length := by omega
      have hv := hins (b.getD y 0) (getD_memR hlt2)
      have hos := outB_succ (n := x.length) hlt2 hv.1
      have hst : setl (List.flatMap boolC (outB x.length b y)) (0 + (b.getD y 0).toNat * 1) [.bool true] = List.flatMap boolC (outB x.length b (y + 1)) := by
        rw [show 0 + (b.getD y 0).toNat * 1 = (b.getD y 0).toNat by omega, boolC_set, hos]
      refine ⟨by omega, cell_int0 hlt2, forkD (fun h3 => absurd h3 (by omega)) (fun h3 => ⟨by omega, cell_int0 hlt2, forkD (fun h4 => absurd h4 (by omega)) (fun h4 => forkD (fun h5 => ?_) (fun h5 => ?_))⟩)⟩
      · have hp1 : b.getD (y - 1) 0 < b.getD y 0 := by
          rw [getD_elem (by omega), getD_elem hlt2]; exact hinc (y - 1) y (by omega) hlt2 (by omega)
        have et : (((y : Nat) : Int) - 1).toNat = y - 1 := by omega
        have hc1 : (List.flatMap intC b)[(y - 1) * 1]? = some (.int .i64 (b.getD (y - 1) 0)) := by
          have := cell_int (xs := b) (k := y - 1) (by omega)
          rw [Nat.zero_add] at this; exact this
        rw [et]
        refine ⟨by omega, cell_int0 hlt2, vI64 (by omega), ⟨by omega, by omega⟩, hc1, forkD (fun h6 => absurd h6 (by omega)) (fun h6 => ⟨by omega, cell_int0 hlt2, hv, by rw [hfl]; omega, rfl, vI64 (by omega), y + 1, by omega, by omega, ?_⟩)⟩
        rw [hst]
        repeat' first
          | exact (dI_rn _ 0 _).symm
          | exact plainB _ _
          | exact trivial
          | exact rfl
          | exact wk_refl _
          | refine wkO_cells ?_
          | refine wks_cons ?_ ?_
          | exact wks_nil
          | exact wk_nil _ _ _ (.inl rfl)
          | exact wk_Q (by omega)
          | refine wk_tupL ?_
          | refine wk_aggL ?_
          | refine joinMax ?_ ?_ ?_
          | refine joinMin ?_ ?_ ?_
          | refine toMax ?_
          | refine toMin ?_
          | refine ⟨rfl, ?_⟩
          | refine ⟨trivial, ?_⟩
          | refine forkD (fun h => ?_) (fun h => ?_)
          | refine forkNe (fun h => ?_) (fun h => ?_)
          | refine forkEq (fun h => ?_) (fun h => ?_)
          | refine forkNot ?_
          | refine ⟨vI64 (by omega), ?_⟩
          | refine And.intro (by omega) ?_
          | apply And.intro
          | exact iEq (by omega)
          | exact vI64 (by omega)
          | fail
      · refine ⟨by omega, cell_int0 hlt2, hv, by rw [hfl]; omega, rfl, vI64 (by omega), y + 1, by omega, by omega, ?_⟩
        rw [hst]
        repeat' first
          | exact (dI_rn _ 0 _).symm
          | exact plainB _ _
          | exact trivial
          | exact rfl
          | exact wk_refl _
          | refine wkO_cells ?_
          | refine wks_cons ?_ ?_
          | exact wks_nil
          | exact wk_nil _ _ _ (.inl rfl)
          | exact wk_Q (by omega)
          | refine wk_tupL ?_
          | refine wk_aggL ?_
          | refine joinMax ?_ ?_ ?_
          | refine joinMin ?_ ?_ ?_
          | refine toMax ?_
          | refine toMin ?_
          | refine ⟨rfl, ?_⟩
          | refine ⟨trivial, ?_⟩
          | refine forkD (fun h => ?_) (fun h => ?_)
          | refine forkNe (fun h => ?_) (fun h => ?_)
          | refine forkEq (fun h => ?_) (fun h => ?_)
          | refine forkNot ?_
          | refine ⟨vI64 (by omega), ?_⟩
          | refine And.intro (by omega) ?_
          | apply And.intro
          | exact iEq (by omega)
          | exact vI64 (by omega)
          | fail
    · obtain rfl : y = b.length := by omega
      refine ⟨rfl, Nat.zero_le _, ?_, fun _ => rfl, ?_⟩
      · repeat' first
          | exact (dI_rn _ 0 _).symm
          | exact plainR _ _
          | exact trivial
          | exact rfl
          | exact wk_refl _
          | refine wkO_cells ?_
          | refine wks_cons ?_ ?_
          | exact wks_nil
          | exact wk_nil _ _ _ (.inl rfl)
          | exact wk_Q (by omega)
          | refine wk_tupL ?_
          | refine wk_aggL ?_
          | refine joinMax ?_ ?_ ?_
          | refine joinMin ?_ ?_ ?_
          | refine toMax ?_
          | refine toMin ?_
          | refine ⟨rfl, ?_⟩
          | refine ⟨trivial, ?_⟩
          | refine forkD (fun h => ?_) (fun h => ?_)
          | refine forkNe (fun h => ?_) (fun h => ?_)
          | refine forkEq (fun h => ?_) (fun h => ?_)
          | refine forkNot ?_
          | refine ⟨vI64 (by omega), ?_⟩
          | refine And.intro (by omega) ?_
          | apply And.intro
          | exact iEq (by omega)
          | exact vI64 (by omega)
          | fail
      intro k hk
      have hsl := someL_le x (notInB b) k
      refine forkD (fun h3 => ?_) (fun h3 => ?_)
      · have hlt3 : k < x.length := by omega
        have eo : (outB x.length b b.length).getD k false = decide (((k : Nat) : Int) ∈ b) := by rw [outB_get hlt3, List.take_length]
        have hss := sameTo_succ b T k
        rw [← eo] at hss
        have hai : (List.flatMap boolC (outB x.length b b.length))[0 + Int.toNat ((k : Nat) : Int) * 1]? = some (.bool ((outB x.length b b.length).getD k false)) := boolAt (by rw [hol]; exact hlt3)
        have hti : (List.flatMap boolC T)[0 + Int.toNat ((k : Nat) : Int) * 1]? = some (.bool (T.getD k false)) := boolAt (by rw [hTl]; exact hlt3)
        have hpa := partRep (xs := x) hlt3
        have hno : ∀ v, (outB x.length b b.length).getD k false = v → notInB b k = !v := by
          intro v hv; unfold notInB; rw [← eo, hv]
        refine ⟨fun hs => ⟨by omega, hai, by omega, hti, by omega, hai, forkNot ⟨fun hq => ?_, fun hq => ?_⟩⟩, fun hs => ⟨by omega, hai, forkNot ⟨fun hq => ?_, fun hq => ?_⟩⟩⟩
        · have hn1 := someL_b (x := x) (hno _ hq)
          refine ⟨vI64 (by omega), k + 1, by omega, by omega, ?_⟩
          rw [hn1]
          repeat' first
            | exact (dI_rn _ 0 _).symm
            | exact plainR _ _
            | exact (by rw [hss, hs]; rfl)
            | exact trivial
            | exact rfl
            | exact wk_refl _
            | refine wkO_cells ?_
            | refine wks_cons ?_ ?_
            | exact wks_nil
            | exact wk_nil _ _ _ (.inl rfl)
            | exact wk_Q (by omega)
            | refine wk_tupL ?_
            | refine wk_aggL ?_
            | refine joinMax ?_ ?_ ?_
            | refine joinMin ?_ ?_ ?_
            | refine toMax ?_
            | refine toMin ?_
            | refine ⟨rfl, ?_⟩
            | refine ⟨trivial, ?_⟩
            | refine forkD (fun h => ?_) (fun h => ?_)
            | refine forkNe (fun h => ?_) (fun h => ?_)
            | refine forkEq (fun h => ?_) (fun h => ?_)
            | refine forkNot ?_
            | refine ⟨vI64 (by omega), ?_⟩
            | refine And.intro (by omega) ?_
            | apply And.intro
            | exact iEq (by omega)
            | exact vI64 (by omega)
            | fail
        · have hn1 := someL_a (x := x) (hno _ hq)
          have hn2 : (someL x (notInB b) (k + 1)).length = (someL x (notInB b) k).length + 1 := by rw [hn1, List.length_append]; rfl
          refine ⟨by omega, hpa, ⟨by omega, by decide, ⟨Nat.le_refl _, by rw [flat_len reportC_len]; omega⟩, ⟨by decide, Nat.le_refl _⟩, rfl⟩, rfl, vI64 (by omega), k + 1, by omega, by omega, ?_⟩
          rw [hn2]
          repeat' first
            | exact (dI_rn _ 0 _).symm
            | exact plainR _ _
            | exact (by rw [hss, hs]; rfl)
            | exact congrArg (fun l => some (KObj.cells true 14 l)) (by rw [hn1]; exact flat_snoc reportC_len _ (x.getD k zeroR) rfl)
            | exact trivial
            | exact rfl
            | exact wk_refl _
            | refine wkO_cells ?_
            | refine wks_cons ?_ ?_
            | exact wks_nil
            | exact wk_nil _ _ _ (.inl rfl)
            | exact wk_Q (by omega)
            | refine wk_tupL ?_
            | refine wk_aggL ?_
            | refine joinMax ?_ ?_ ?_
            | refine joinMin ?_ ?_ ?_
            | refine toMax ?_
            | refine toMin ?_
            | refine ⟨rfl, ?_⟩
            | refine ⟨trivial, ?_⟩
            | refine forkD (fun h => ?_) (fun h => ?_)
            | refine forkNe (fun h => ?_) (fun h => ?_)
            | refine forkEq (fun h => ?_) (fun h => ?_)
            | refine forkNot ?_
            | refine ⟨vI64 (by omega), ?_⟩
            | refine And.intro (by omega) ?_
            | apply And.intro
            | exact iEq (by omega)
            | exact vI64 (by omega)
            | fail
        · have hn1 := someL_b (x := x) (hno _ hq)
          refine ⟨vI64 (by omega), k + 1, by omega, by omega, ?_⟩
          rw [hn1]
          repeat' first
            | exact (dI_rn _ 0 _).symm
            | exact plainR _ _
            | exact (by rw [hss, hs]; rfl)
            | exact trivial
            | exact rfl
            | exact wk_refl _
            | refine wkO_cells ?_
            | refine wks_cons ?_ ?_
            | exact wks_nil
            | exact wk_nil _ _ _ (.inl rfl)
            | exact wk_Q (by omega)
            | refine wk_tupL ?_
            | refine wk_aggL ?_
            | refine joinMax ?_ ?_ ?_
            | refine joinMin ?_ ?_ ?_
            | refine toMax ?_
            | refine toMin ?_
            | refine ⟨rfl, ?_⟩
            | refine ⟨trivial, ?_⟩
            | refine forkD (fun h => ?_) (fun h => ?_)
            | refine forkNe (fun h => ?_) (fun h => ?_)
            | refine forkEq (fun h => ?_) (fun h => ?_)
            | refine forkNot ?_
            | refine ⟨vI64 (by omega), ?_⟩
            | refine And.intro (by omega) ?_
            | apply And.intro
            | exact iEq (by omega)
            | exact vI64 (by omega)
            | fail
        · have hn1 := someL_a (x := x) (hno _ hq)
          have hn2 : (someL x (notInB b) (k + 1)).length = (someL x (notInB b) k).length + 1 := by rw [hn1, List.length_append]; rfl
          refine ⟨by omega, hpa, ⟨by omega, by decide, ⟨Nat.le_refl _, by rw [flat_len reportC_len]; omega⟩, ⟨by decide, Nat.le_refl _⟩, rfl⟩, rfl, vI64 (by omega), k + 1, by omega, by omega, ?_⟩
          rw [hn2]
          repeat' first
            | exact (dI_rn _ 0 _).symm
            | exact plainR _ _
            | exact (by rw [hss, hs]; rfl)
            | exact congrArg (fun l => some (KObj.cells true 14 l)) (by rw [hn1]; exact flat_snoc reportC_len _ (x.getD k zeroR) rfl)
            | exact trivial
            | exact rfl
            | exact wk_refl _
            | refine wkO_cells ?_
            | refine wks_cons ?_ ?_
            | exact wks_nil
            | exact wk_nil _ _ _ (.inl rfl)
            | exact wk_Q (by omega)
            | refine wk_tupL ?_
            | refine wk_aggL ?_
            | refine joinMax ?_ ?_ ?_
            | refine joinMin ?_ ?_ ?_
            | refine toMax ?_
            | refine toMin ?_
            | refine ⟨rfl, ?_⟩
            | refine ⟨trivial, ?_⟩
            | refine forkD (fun h => ?_) (fun h => ?_)
            | refine forkNe (fun h => ?_) (fun h => ?_)
            | refine forkEq (fun h => ?_) (fun h => ?_)
            | refine forkNot ?_
            | refine ⟨vI64 (by omega), ?_⟩
            | refine And.intro (by omega) ?_
            | apply And.intro
            | exact iEq (by omega)
            | exact vI64 (by omega)
            | fail
      · obtain rfl : k = x.length := by omega
        have hfs := foundTo_succ x.length B T i
        rw [hb] at hfs
        refine ⟨fun hf => ?_, fun hf => ?_⟩
        · have hfnd : (Value.bool true) = .bool (foundTo x.length B T (i + 1)) := by rw [hfs, hf]; rfl
          refine ⟨rfl, Nat.zero_le _, ?_, fun _ => rfl, ?_⟩
          · repeat' first
              | exact (dI_rn _ 0 _).symm
              | exact trivial
              | exact rfl
              | exact wk_refl _
              | refine wkO_cells ?_
              | refine wks_cons ?_ ?_
              | exact wks_nil
              | exact wk_nil _ _ _ (.inl rfl)
              | exact wk_Q (by omega)
              | refine wk_tupL ?_
              | refine wk_aggL ?_
              | refine joinMax ?_ ?_ ?_
              | refine joinMin ?_ ?_ ?_
              | refine toMax ?_
              | refine toMin ?_
              | refine ⟨rfl, ?_⟩
              | refine ⟨trivial, ?_⟩
              | refine forkD (fun h => ?_) (fun h => ?_)
              | refine forkNe (fun h => ?_) (fun h => ?_)
              | refine forkEq (fun h => ?_) (fun h => ?_)
              | refine forkNot ?_
              | refine ⟨vI64 (by omega), ?_⟩
              | refine And.intro (by omega) ?_
              | apply And.intro
              | exact iEq (by omega)
              | exact vI64 (by omega)
              | fail
          intro u hu
          refine forkD (fun h4 => ?_) (fun h4 => ?_)
          · have hlt4 : u < P.length := by omega
            have hqm : P.getD u (0, 0) ∈ P := getD_memR hlt4
            have hq := hB.pairs _ hqm
            have hh := hB.hits b hbm _ hqm
            have p0 : (List.flatMap pairC P)[0 + Int.toNat ((u : Nat) : Int) * 2 + 0 * 1]? = some (.int .i64 (((P.getD u (0, 0)).1 : Nat) : Int)) := pairAt (c := 0) hlt4 _ (by rw [Int.toNat_natCast]; omega) rfl
            have p1 : (List.flatMap pairC P)[0 + Int.toNat ((u : Nat) : Int) * 2 + 1 * 1]? = some (.int .i64 (((P.getD u (0, 0)).2 : Nat) : Int)) := pairAt (c := 1) hlt4 _ (by rw [Int.toNat_natCast]; omega) rfl
            have o0 : (outB x.length b b.length).getD (P.getD u (0, 0)).1 false = decide ((((P.getD u (0, 0)).1 : Nat) : Int) ∈ b) := by rw [outB_get (by omega), List.take_length]
            have o1 : (outB x.length b b.length).getD (P.getD u (0, 0)).2 false = decide ((((P.getD u (0, 0)).2 : Nat) : Int) ∈ b) := by rw [outB_get (by omega), List.take_length]
            refine ⟨by omega, p0, forkD (fun h5 => absurd h5 (by omega)) (fun _ => ⟨by omega, p1, by omega, p0, forkD (fun h5 => absurd h5 (by omega)) (fun _ => ⟨by omega, p1, forkD (fun h5 => absurd h5 (by omega)) (fun _ => ⟨by omega, p0, by omega, boolAt (T := outB x.length b b.length) (k := (P.getD u (0, 0)).1) (by rw [hol]; omega), forkNot ⟨fun h5 => ?_, fun h5 => ⟨by omega, p1, by omega, boolAt (T := outB x.length b b.length) (k := (P.getD u (0, 0)).2) (by rw [hol]; omega), forkNot ⟨fun h6 => ?_, fun h6 => ?_⟩⟩⟩⟩)⟩)⟩)⟩
            · refine ⟨vI64 (by omega), u + 1, by omega, by omega, ?_⟩
              repeat' first
                | exact (dI_rn _ 0 _).symm
                | exact trivial
                | exact rfl
                | exact wk_refl _
                | refine wkO_cells ?_
                | refine wks_cons ?_ ?_
                | exact wks_nil
                | exact wk_nil _ _ _ (.inl rfl)
                | exact wk_Q (by omega)
                | refine wk_tupL ?_
                | refine wk_aggL ?_
                | refine joinMax ?_ ?_ ?_
                | refine joinMin ?_ ?_ ?_
                | refine toMax ?_
                | refine toMin ?_
                | refine ⟨rfl, ?_⟩
                | refine ⟨trivial, ?_⟩
                | refine forkD (fun h => ?_) (fun h => ?_)
                | refine forkNe (fun h => ?_) (fun h => ?_)
                | refine forkEq (fun h => ?_) (fun h => ?_)
                | refine forkNot ?_
                | refine ⟨vI64 (by omega), ?_⟩
                | refine And.intro (by omega) ?_
                | apply And.intro
                | exact iEq (by omega)
                | exact vI64 (by omega)
                | fail
            · refine ⟨vI64 (by omega), u + 1, by omega, by omega, ?_⟩
              repeat' first
                | exact (dI_rn _ 0 _).symm
                | exact trivial
                | exact rfl
                | exact wk_refl _
                | refine wkO_cells ?_
                | refine wks_cons ?_ ?_
                | exact wks_nil
                | exact wk_nil _ _ _ (.inl rfl)
                | exact wk_Q (by omega)
                | refine wk_tupL ?_
                | refine wk_aggL ?_
                | refine joinMax ?_ ?_ ?_
                | refine joinMin ?_ ?_ ?_
                | refine toMax ?_
                | refine toMin ?_
                | refine ⟨rfl, ?_⟩
                | refine ⟨trivial, ?_⟩
                | refine forkD (fun h => ?_) (fun h => ?_)
                | refine forkNe (fun h => ?_) (fun h => ?_)
                | refine forkEq (fun h => ?_) (fun h => ?_)
                | refine forkNot ?_
                | refine ⟨vI64 (by omega), ?_⟩
                | refine And.intro (by omega) ?_
                | apply And.intro
                | exact iEq (by omega)
                | exact vI64 (by omega)
                | fail
            · rw [o0] at h5
              rw [o1] at h6
              rcases hh with h7 | h7
              · exact absurd h7 (of_decide_eq_false h5)
              · exact absurd h7 (of_decide_eq_false h6)
          · obtain rfl : u = P.length := by omega
            refine ⟨fFuse (someL x (notInB b) x.length) m 100, ⟨rfl, trivial⟩, fun H' hl hd => ?_, ?_⟩
            · exact (kFuse (someL x (notInB b) x.length) m 100 hd.1).wkA ⟨wk_QR, wk_refl _, wk_refl _, trivial⟩
            · refine forkF (by rw [hB.rest b hbm]; rfl) ⟨vI64 (by omega), i + 1, by omega, by omega, ?_⟩
              repeat' first
                | exact hfnd
                | exact trivial
                | exact rfl
                | exact wk_refl _
                | refine wkO_cells ?_
                | refine wks_cons ?_ ?_
                | exact wks_nil
                | exact wk_nil _ _ _ (.inl rfl)
                | exact wk_Q (by omega)
                | refine wk_tupL ?_
                | refine wk_aggL ?_
                | refine joinMax ?_ ?_ ?_
                | refine joinMin ?_ ?_ ?_
                | refine toMax ?_
                | refine toMin ?_
                | refine ⟨rfl, ?_⟩
                | refine ⟨trivial, ?_⟩
                | refine forkD (fun h => ?_) (fun h => ?_)
                | refine forkNe (fun h => ?_) (fun h => ?_)
                | refine forkEq (fun h => ?_) (fun h => ?_)
                | refine forkNot ?_
                | refine ⟨vI64 (by omega), ?_⟩
                | refine And.intro (by omega) ?_
                | apply And.intro
                | exact iEq (by omega)
                | exact vI64 (by omega)
                | fail
        · have hfnd : (Value.bool (sameTo b T x.length)) = .bool (foundTo x.length B T (i + 1)) := by rw [hfs, hf]; rfl
          refine ⟨rfl, Nat.zero_le _, ?_, fun _ => rfl, ?_⟩
          · repeat' first
              | exact (dI_rn _ 0 _).symm
              | exact trivial
              | exact rfl
              | exact wk_refl _
              | refine wkO_cells ?_
              | refine wks_cons ?_ ?_
              | exact wks_nil
              | exact wk_nil _ _ _ (.inl rfl)
              | exact wk_Q (by omega)
              | refine wk_tupL ?_
              | refine wk_aggL ?_
              | refine joinMax ?_ ?_ ?_
              | refine joinMin ?_ ?_ ?_
              | refine toMax ?_
              | refine toMin ?_
              | refine ⟨rfl, ?_⟩
              | refine ⟨trivial, ?_⟩
              | refine forkD (fun h => ?_) (fun h => ?_)
              | refine forkNe (fun h => ?_) (fun h => ?_)
              | refine forkEq (fun h => ?_) (fun h => ?_)
              | refine forkNot ?_
              | refine ⟨vI64 (by omega), ?_⟩
              | refine And.intro (by omega) ?_
              | apply And.intro
              | exact iEq (by omega)
              | exact vI64 (by omega)
              | fail
          intro u hu
          refine forkD (fun h4 => ?_) (fun h4 => ?_)
          · have hlt4 : u < P.length := by omega
            have hqm : P.getD u (0, 0) ∈ P := getD_memR hlt4
            have hq := hB.pairs _ hqm
            have hh := hB.hits b hbm _ hqm
            have p0 : (List.flatMap pairC P)[0 + Int.toNat ((u : Nat) : Int) * 2 + 0 * 1]? = some (.int .i64 (((P.getD u (0, 0)).1 : Nat) : Int)) := pairAt (c := 0) hlt4 _ (by rw [Int.toNat_natCast]; omega) rfl
            have p1 : (List.flatMap pairC P)[0 + Int.toNat ((u : Nat) : Int) * 2 + 1 * 1]? = some (.int .i64 (((P.getD u (0, 0)).2 : Nat) : Int)) := pairAt (c := 1) hlt4 _ (by rw [Int.toNat_natCast]; omega) rfl
            have o0 : (outB x.length b b.length).getD (P.getD u (0, 0)).1 false = decide ((((P.getD u (0, 0)).1 : Nat) : Int) ∈ b) := by rw [outB_get (by omega), List.take_length]
            have o1 : (outB x.length b b.length).getD (P.getD u (0, 0)).2 false = decide ((((P.getD u (0, 0)).2 : Nat) : Int) ∈ b) := by rw [outB_get (by omega), List.take_length]
            refine ⟨by omega, p0, forkD (fun h5 => absurd h5 (by omega)) (fun _ => ⟨by omega, p1, by omega, p0, forkD (fun h5 => absurd h5 (by omega)) (fun _ => ⟨by omega, p1, forkD (fun h5 => absurd h5 (by omega)) (fun _ => ⟨by omega, p0, by omega, boolAt (T := outB x.length b b.length) (k := (P.getD u (0, 0)).1) (by rw [hol]; omega), forkNot ⟨fun h5 => ?_, fun h5 => ⟨by omega, p1, by omega, boolAt (T := outB x.length b b.length) (k := (P.getD u (0, 0)).2) (by rw [hol]; omega), forkNot ⟨fun h6 => ?_, fun h6 => ?_⟩⟩⟩⟩)⟩)⟩)⟩
            · refine ⟨vI64 (by omega), u + 1, by omega, by omega, ?_⟩
              repeat' first
                | exact (dI_rn _ 0 _).symm
                | exact trivial
                | exact rfl
                | exact wk_refl _
                | refine wkO_cells ?_
                | refine wks_cons ?_ ?_
                | exact wks_nil
                | exact wk_nil _ _ _ (.inl rfl)
                | exact wk_Q (by omega)
                | refine wk_tupL ?_
                | refine wk_aggL ?_
                | refine joinMax ?_ ?_ ?_
                | refine joinMin ?_ ?_ ?_
                | refine toMax ?_
                | refine toMin ?_
                | refine ⟨rfl, ?_⟩
                | refine ⟨trivial, ?_⟩
                | refine forkD (fun h => ?_) (fun h => ?_)
                | refine forkNe (fun h => ?_) (fun h => ?_)
                | refine forkEq (fun h => ?_) (fun h => ?_)
                | refine forkNot ?_
                | refine ⟨vI64 (by omega), ?_⟩
                | refine And.intro (by omega) ?_
                | apply And.intro
                | exact iEq (by omega)
                | exact vI64 (by omega)
                | fail
            · refine ⟨vI64 (by omega), u + 1, by omega, by omega, ?_⟩
              repeat' first
                | exact (dI_rn _ 0 _).symm
                | exact trivial
                | exact rfl
                | exact wk_refl _
                | refine wkO_cells ?_
                | refine wks_cons ?_ ?_
                | exact wks_nil
                | exact wk_nil _ _ _ (.inl rfl)
                | exact wk_Q (by omega)
                | refine wk_tupL ?_
                | refine wk_aggL ?_
                | refine joinMax ?_ ?_ ?_
                | refine joinMin ?_ ?_ ?_
                | refine toMax ?_
                | refine toMin ?_
                | refine ⟨rfl, ?_⟩
                | refine ⟨trivial, ?_⟩
                | refine forkD (fun h => ?_) (fun h => ?_)
                | refine forkNe (fun h => ?_) (fun h => ?_)
                | refine forkEq (fun h => ?_) (fun h => ?_)
                | refine forkNot ?_
                | refine ⟨vI64 (by omega), ?_⟩
                | refine And.intro (by omega) ?_
                | apply And.intro
                | exact iEq (by omega)
                | exact vI64 (by omega)
                | fail
            · rw [o0] at h5
              rw [o1] at h6
              rcases hh with h7 | h7
              · exact absurd h7 (of_decide_eq_false h5)
              · exact absurd h7 (of_decide_eq_false h6)
          · obtain rfl : u = P.length := by omega
            refine ⟨fFuse (someL x (notInB b) x.length) m 100, ⟨rfl, trivial⟩, fun H' hl hd => ?_, ?_⟩
            · exact (kFuse (someL x (notInB b) x.length) m 100 hd.1).wkA ⟨wk_QR, wk_refl _, wk_refl _, trivial⟩
            · refine forkF (by rw [hB.rest b hbm]; rfl) ⟨vI64 (by omega), i + 1, by omega, by omega, ?_⟩
              repeat' first
                | exact hfnd
                | exact trivial
                | exact rfl
                | exact wk_refl _
                | refine wkO_cells ?_
                | refine wks_cons ?_ ?_
                | exact wks_nil
                | exact wk_nil _ _ _ (.inl rfl)
                | exact wk_Q (by omega)
                | refine wk_tupL ?_
                | refine wk_aggL ?_
                | refine joinMax ?_ ?_ ?_
                | refine joinMin ?_ ?_ ?_
                | refine toMax ?_
                | refine toMin ?_
                | refine ⟨rfl, ?_⟩
                | refine ⟨trivial, ?_⟩
                | refine forkD (fun h => ?_) (fun h => ?_)
                | refine forkNe (fun h => ?_) (fun h => ?_)
                | refine forkEq (fun h => ?_) (fun h => ?_)
                | refine forkNot ?_
                | refine ⟨vI64 (by omega), ?_⟩
                | refine And.intro (by omega) ?_
                | apply And.intro
                | exact iEq (by omega)
                | exact vI64 (by omega)
                | fail
  · obtain rfl : i = B.length := by omega
    refine ⟨rfl, Nat.zero_le _, ?_, fun _ => rfl, ?_⟩
    · repeat' first
        | exact plainR _ _
        | exact trivial
        | exact rfl
        | exact wk_refl _
        | refine wkO_cells ?_
        | refine wks_cons ?_ ?_
        | exact wks_nil
        | exact wk_nil _ _ _ (.inl rfl)
        | exact wk_Q (by omega)
        | refine wk_tupL ?_
        | refine wk_aggL ?_
        | refine joinMax ?_ ?_ ?_
        | refine joinMin ?_ ?_ ?_
        | refine toMax ?_
        | refine toMin ?_
        | refine ⟨rfl, ?_⟩
        | refine ⟨trivial, ?_⟩
        | refine forkD (fun h => ?_) (fun h => ?_)
        | refine forkNe (fun h => ?_) (fun h => ?_)
        | refine forkEq (fun h => ?_) (fun h => ?_)
        | refine forkNot ?_
        | refine ⟨vI64 (by omega), ?_⟩
        | refine And.intro (by omega) ?_
        | apply And.intro
        | exact iEq (by omega)
        | exact vI64 (by omega)
        | fail
    intro k hk
    have hsl := someL_le x (bitOff set) k
    refine forkD (fun h3 => ?_) (fun h3 => ?_)
    · have hlt3 : k < x.length := by omega
      have hpa := partRep (xs := x) hlt3
      refine ⟨by omega, fun hq => ?_, fun hq => ?_⟩
      · have hn1 := someL_a (x := x) (p := bitOff set) (k := k) hq
        have hn2 : (someL x (bitOff set) (k + 1)).length = (someL x (bitOff set) k).length + 1 := by rw [hn1, List.length_append]; rfl
        refine ⟨by omega, hpa, ⟨by omega, by decide, ⟨Nat.le_refl _, by rw [flat_len reportC_len]; omega⟩, ⟨by decide, Nat.le_refl _⟩, rfl⟩, rfl, vI64 (by omega), k + 1, by omega, by omega, ?_⟩
        rw [hn2]
        repeat' first
          | exact plainR _ _
          | exact congrArg (fun l => some (KObj.cells true 14 l)) (by rw [hn1]; exact flat_snoc reportC_len _ (x.getD k zeroR) rfl)
          | exact trivial
          | exact rfl
          | exact wk_refl _
          | refine wkO_cells ?_
          | refine wks_cons ?_ ?_
          | exact wks_nil
          | exact wk_nil _ _ _ (.inl rfl)
          | exact wk_Q (by omega)
          | refine wk_tupL ?_
          | refine wk_aggL ?_
          | refine joinMax ?_ ?_ ?_
          | refine joinMin ?_ ?_ ?_
          | refine toMax ?_
          | refine toMin ?_
          | refine ⟨rfl, ?_⟩
          | refine ⟨trivial, ?_⟩
          | refine forkD (fun h => ?_) (fun h => ?_)
          | refine forkNe (fun h => ?_) (fun h => ?_)
          | refine forkEq (fun h => ?_) (fun h => ?_)
          | refine forkNot ?_
          | refine ⟨vI64 (by omega), ?_⟩
          | refine And.intro (by omega) ?_
          | apply And.intro
          | exact iEq (by omega)
          | exact vI64 (by omega)
          | fail
      · have hn1 := someL_b (x := x) (p := bitOff set) (k := k) hq
        refine ⟨vI64 (by omega), k + 1, by omega, by omega, ?_⟩
        rw [hn1]
        repeat' first
          | exact plainR _ _
          | exact trivial
          | exact rfl
          | exact wk_refl _
          | refine wkO_cells ?_
          | refine wks_cons ?_ ?_
          | exact wks_nil
          | exact wk_nil _ _ _ (.inl rfl)
          | exact wk_Q (by omega)
          | refine wk_tupL ?_
          | refine wk_aggL ?_
          | refine joinMax ?_ ?_ ?_
          | refine joinMin ?_ ?_ ?_
          | refine toMax ?_
          | refine toMin ?_
          | refine ⟨rfl, ?_⟩
          | refine ⟨trivial, ?_⟩
          | refine forkD (fun h => ?_) (fun h => ?_)
          | refine forkNe (fun h => ?_) (fun h => ?_)
          | refine forkEq (fun h => ?_) (fun h => ?_)
          | refine forkNot ?_
          | refine ⟨vI64 (by omega), ?_⟩
          | refine And.intro (by omega) ?_
          | apply And.intro
          | exact iEq (by omega)
          | exact vI64 (by omega)
          | fail
    · obtain rfl : k = x.length := by omega
      refine ⟨fFuse (someL x (bitOff set) x.length) m 100, ⟨rfl, trivial⟩, fun H' hl hd => ?_, ?_⟩
      · exact (kFuse (someL x (bitOff set) x.length) m 100 hd.1).wkA ⟨wk_QR, wk_refl _, wk_refl _, trivial⟩
      have hd0 := dIL_at hBp
      have hno : ((((P.length : Nat) : Int) == 0) == (((((B.getD 0 []).length : Nat) : Int)) == 0)) = true := by
        have e1 : (((P.length : Nat) : Int) == 0) = decide (P = []) := by
          cases P with
          | nil => rfl
          | cons q r => exact beq_eq_false_iff_ne.2 (show (((r.length + 1 : Nat)) : Int) ≠ 0 by omega)
        have e2 : ((((B.getD 0 []).length : Nat) : Int) == 0) = decide (B.getD 0 [] = []) := by
          cases B.getD 0 [] with
          | nil => rfl
          | cons q r => exact beq_eq_false_iff_ne.2 (show (((r.length + 1 : Nat)) : Int) ≠ 0 by omega)
        rw [e1, e2]
        by_cases hp : P = []
        · rw [decide_eq_true hp, decide_eq_true (hB.none.1 hp)]; rfl
        · rw [decide_eq_false hp, decide_eq_false (fun h => hp (hB.none.2 h))]; rfl
      have ho := hB.other (bitOff set)
      obtain ⟨E, hE⟩ : ∃ E, (fFuse (someL x (bitOff set) x.length) m 100).2 = E := ⟨_, rfl⟩
      rw [hE] at ho ⊢
      have hb0 := hB.short _ (getD_memR (d := []) hBp)
      rcases ho with ⟨h4, h5⟩ | h4
      all_goals
        repeat' first
          | refine forkT hB.found ?_
          | refine forkT hno ?_
          | refine forkEq (fun he => ?_) (fun he => ?_)
          | refine forkNe (fun he => ?_) (fun he => ?_)
          | refine forkD (fun he => ?_) (fun he => ?_)
          | refine ⟨vI64 (by omega), ?_⟩
          | refine ⟨⟨Int.le_refl _, by omega⟩, hd0, ?_⟩
          | exact ⟨trivial, fun H' _ _ => kAwake H', rfl⟩
          | exact absurd he (by omega)
          | fail
end
end Go.Proofs.Ythcjliffpebjaaa
/- How laws' arguments are read. No condition. -/
namespace Go.Proofs.Ythcjliffpebjaaa
set_option linter.unusedSimpArgs false
open Go Go.K Go.ChangeShapes Go.WideShapes Go.ChangeAt Go.RowKit
set_option maxRecDepth 100000
set_option linter.unusedVariables false
noncomputable section
theorem own : ownKnob Try.prog.godebug = none := by kernel_rfl
theorem sized : slicesSized Try.prog = true := by kernel_rfl
abbrev known (t : TypeId) : Prop := t < Try.prog.types.size
theorem kids : Kids Try.prog known := kids_rows (by kernel_rfl) (by kernel_rfl)
theorem good_flat {H : Heap} {t : TypeId} {v : Value} (n : Nat) (hu : (match Try.prog.underlying t with | some (.struct _) => true | _ => false) = true) (hf : flatI Try.prog 6 t = some n) (h : GoodV Try.prog H 6 t v) :
    ∃ ns : List Int, v = .agg ⟨ns.map (.int .i64)⟩ ∧ ns.length = n ∧ ∀ x ∈ ns, inI x := by
  unfold GoodV at h
  split at hu
  · rename_i fs e
    rw [e] at h
    obtain ⟨cs, rfl, h⟩ := h
    obtain ⟨ns, rfl, h2, h3⟩ := flatI_good 6 t n cs hf h
    exact ⟨ns, rfl, h2, h3⟩
  · cases hu
theorem good_int {H : Heap} {v : Value} (h : GoodV Try.prog H 6 3 v) : ∃ x : Int, v = .int .i64 x ∧ inI x := by
  have hu : Try.prog.underlying 3 = some (.int .i64) := by kernel_rfl
  unfold GoodV at h
  rw [hu] at h
  obtain ⟨ns, h1, h2, h3⟩ := flatI_good 6 3 1 [v] (by unfold flatI; rw [hu]) h
  match ns, h2 with
  | [x], _ => exact ⟨x, by simpa using h1, h3 x (by simp)⟩
theorem good_rates {H : Heap} {v : Value} (h : GoodV Try.prog H 6 26 v) : ∃ m : Rates, v = ratesV m := by
  obtain ⟨ns, rfl, h2, _⟩ := good_flat 8 (by kernel_rfl) (by kernel_rfl) h
  match ns, h2 with
  | [a1, a2, a3, a4, a5, a6, a7, a8], _ => exact ⟨⟨⟨a1, a2, a3, a4⟩, ⟨a5, a6, a7, a8⟩⟩, rfl⟩
theorem goodL_flat {α : Type} {f : α → List Value} {n t : Nat} (H : Heap) (hf : flatI Try.prog 5 t = some n) (hα : ∀ ns : List Int, ns.length = n → ∃ x : α, ns.map (Value.int .i64) = f x) :
    ∀ c, K.Good Try.prog H 5 t c → ∃ x : α, c = f x ∧ True := by
  intro c h
  obtain ⟨ns, rfl, h2, _⟩ := flatI_good 5 t n c hf h
  obtain ⟨x, hx⟩ := hα ns h2
  exact ⟨x, hx, trivial⟩
/-- A slice: less is said: read only. -/
theorem slice_read {α : Type} {f : α → List Value} {H : Heap} {n t e : Nat} {cs : List Value} (hu : Try.prog.underlying t = some (.slice e)) (hg : ∀ c, K.Good Try.prog H n e c → ∃ x : α, c = f x ∧ True) (h : K.Good Try.prog H (n + 1) t cs) :
    ∃ (v : Value) (xs : List α), cs = [v] ∧ xs.length ≤ maxLen ∧ ∀ K : Heap, ∃ (gs : List KObj) (id : Nat) (own : Bool) (z : Nat), wk v (.slice (some ⟨id, 0, some 2⟩) xs.length xs.length) ∧ (H ++ K ++ gs)[id]? = some (.cells own z (xs.flatMap f)) := by
  unfold K.Good at h
  rw [hu] at h
  rcases h with h | h | ⟨id, len, cs', h1, h2, h3, h4, h5⟩
  · exact ⟨_, [], h, by simp [maxLen], fun K => ⟨[.cells false 0 []], (H ++ K).length, false, 0, wk_nil _ _ _ (.inr rfl), by rw [List.getElem?_append_right (Nat.le_refl _)]; simp⟩⟩
  · exact ⟨_, [], h, by simp [maxLen], fun K => ⟨[.cells false 0 []], (H ++ K).length, false, 0, wk_E _ _ _ (.inr rfl), by rw [List.getElem?_append_right (Nat.le_refl _)]; simp⟩⟩
  · obtain ⟨xs, rfl, rfl, _⟩ := goodL_list (f := f) (q := fun _ => True) hg len cs' h5
    refine ⟨_, xs, h1, h4, fun K => ⟨[], id, false, 0, wk_R, ?_⟩⟩
    rw [List.append_nil, List.getElem?_append_left (List.getElem?_eq_some_iff.1 h2).1]; exact h2
theorem goodV_slice {α : Type} {f : α → List Value} {H : Heap} {t e : Nat} {v : Value} (hu : Try.prog.underlying t = some (.slice e)) (hg : ∀ c, K.Good Try.prog H 5 e c → ∃ x : α, c = f x ∧ True) (h : GoodV Try.prog H 6 t v) :
    ∃ xs : List α, xs.length ≤ maxLen ∧ ∀ K : Heap, ∃ (gs : List KObj) (id : Nat) (own : Bool) (z : Nat), wk v (.slice (some ⟨id, 0, some 2⟩) xs.length xs.length) ∧ (H ++ K ++ gs)[id]? = some (.cells own z (xs.flatMap f)) := by
  unfold GoodV at h
  rw [hu] at h
  obtain ⟨v', xs, h1, h2, h3⟩ := slice_read hu hg h
  cases h1
  exact ⟨xs, h2, h3⟩
theorem ints_read {H : Heap} {v : Value} (h : GoodV Try.prog H 6 49 v) : ∃ xs : List Int, (xs.length ≤ maxLen ∧ ∀ x ∈ xs, inI x) ∧ ∀ K : Heap, ∃ (gs : List KObj) (id : Nat) (own : Bool) (z : Nat), wk v (.slice (some ⟨id, 0, some 2⟩) xs.length xs.length) ∧ (H ++ K ++ gs)[id]? = some (.cells own z (xs.flatMap fun x => [.int .i64 x])) := by
  have hu : Try.prog.underlying 49 = some (.slice 3) := by kernel_rfl
  unfold GoodV at h
  rw [hu] at h
  unfold K.Good at h
  rw [hu] at h
  rcases h with h | h | ⟨id, len, cs', h1, h2, h3, h4, h5⟩
  · cases h; exact ⟨[], ⟨by simp [maxLen], fun x hx => by cases hx⟩, fun K => ⟨[.cells false 0 []], (H ++ K).length, false, 0, wk_nil _ _ _ (.inr rfl), by rw [List.getElem?_append_right (Nat.le_refl _)]; simp⟩⟩
  · cases h; exact ⟨[], ⟨by simp [maxLen], fun x hx => by cases hx⟩, fun K => ⟨[.cells false 0 []], (H ++ K).length, false, 0, wk_E _ _ _ (.inr rfl), by rw [List.getElem?_append_right (Nat.le_refl _)]; simp⟩⟩
  · cases h1
    obtain ⟨xs, rfl, rfl, hq⟩ := goodL_list (f := fun x : Int => [Value.int .i64 x]) (q := inI) (fun c hc => by
      obtain ⟨ns, rfl, k2, k3⟩ := flatI_good 5 3 1 c (by kernel_rfl) hc
      match ns, k2 with
      | [a], _ => exact ⟨a, rfl, k3 a (by simp)⟩) len cs' h5
    refine ⟨xs, ⟨h4, hq⟩, fun K => ⟨[], id, false, 0, wk_R, ?_⟩⟩
    rw [List.append_nil, List.getElem?_append_left (List.getElem?_eq_some_iff.1 h2).1]; exact h2
end
end Go.Proofs.Ythcjliffpebjaaa
