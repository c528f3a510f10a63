/- Ice: the examples of the chapter (awake), as a contract. No condition. -/
import Derived.Test.YthcjliffpebjaaaA4a
import Derived.Test.YthcjliffpebjaaaGH1gxH2
import Derived.Test.YthcjliffpebjaaaGS0xS7g
import Derived.Test.YthcjliffpebjaaaGK27xP1a
import Derived.Test.YthcjliffpebjaaaRows
import Derived.JoinedCond
namespace Go.Proofs.Ythcjliffpebjaaa
set_option linter.unusedSimpArgs false
set_option linter.unusedVariables false
open Go Go.K
set_option maxRecDepth 100000
noncomputable section
attribute [local irreducible] vF
theorem kAwake (H : Heap) : KCall prog F.polynyalaw01_awake [] H [] (Is (.bool true) H) := by
  have hv : vF prog msk (dm impI) 100000 true 40 true F.polynyalaw01_awake [] ⟨0, .leaf⟩ none .auto (fun v _ _ => isTrueV v) := of_eq_true awakeRun
  have h0 := vc (P := prog) (mask := msk) (dm := dm impI) (rounds := 100000) (mixed := true) mskOk mixed 40 (f := F.polynyalaw01_awake) (args := []) (H := ⟨0, .leaf⟩) (M := none) (h := .auto) (Q := fun v _ => isTrueV v) hv
  have h1 : KCall prog F.polynyalaw01_awake [] [] [] (fun v _ => v = .bool true) := h0.post (fun v H' h => by
      cases v <;> first | exact h.elim | (rename_i b; cases b <;> first | rfl | exact h.elim))
  have h2 : KCall prog F.polynyalaw01_awake [] [] [] (Is (.bool true) []) := KCall.clean h1 rfl
  have h3 := KCall.frame (H := H) (new := []) (d := 3) (σ := fun _ => none) ⟨fun g hg => absurd hg (by rw [glob0]; exact Nat.not_lt_zero _), fun _ _ h => (by cases h), fun id h => absurd h (Nat.not_lt_zero _), fun _ _ _ h => (by cases h), fun _ _ _ h => (by cases h)⟩ h2 rfl rfl
  simpa [rn] using h3
end
end Go.Proofs.Ythcjliffpebjaaa
/- Ice: IceHolds returns true. No condition. -/
namespace Go.Proofs.Ythcjliffpebjaaa
open Go Go.K
set_option maxRecDepth 100000
set_option linter.unusedVariables false
set_option linter.unusedSimpArgs false
noncomputable section
attribute [local irreducible] vF hasK popc
theorem repL_len (m : Rates) (x : Ice) (ns hs : List Int) (n : Nat) : (repL m x ns hs n).length = n := tabP_len ..
theorem repL_succ (m : Rates) (x : Ice) (ns hs : List Int) (n : Nat) : repL m x ns hs (n + 1) = repL m x ns hs n ++ [repAt m x ns hs n] := tabP_succ ..
theorem repL_get {m : Rates} {x : Ice} {ns hs : List Int} {n k : Nat} (h : k < n) : (repL m x ns hs n).getD k zeroR = repAt m x ns hs k := tabP_get h
theorem lastTo_bd (hs : List Int) (i : Nat) : 0 ≤ lastTo hs i ∧ lastTo hs i ≤ 59 := by
  induction i with
  | zero => exact ⟨Int.le_refl _, (show (0 : Int) ≤ 59 by decide)⟩
  | succ i ih => unfold lastTo; omega
theorem lastTo_le (hs : List Int) {i n : Nat} (h : i < n) : hs.getD i 0 % 60 ≤ lastTo hs n := by
  induction n with
  | zero => omega
  | succ n ih =>
    unfold lastTo
    rcases Nat.lt_or_ge i n with h1 | h1
    · have := ih h1; omega
    · obtain rfl : i = n := by omega
      omega
theorem repAt_ok {m : Rates} {x : Ice} {ns hs : List Int} (hm : rightR m) (hx : rightI x) {i : Nat} (hi : i < 9) : reportOk (repAt m x ns hs i) := by
  have hr := crs_right ns hm hx (hs.getD i 0 % 60).toNat
  obtain ⟨c1, c2, c3, c4⟩ := (arC_ok (low := Int.tdiv (hs.getD i 0) 7) (high := Int.tdiv (hs.getD i 0) 11) hr).1
  have h1 := Int.emod_nonneg (hs.getD i 0) (show (60 : Int) ≠ 0 by decide)
  have h2 := Int.emod_lt_of_pos (hs.getD i 0) (show (0 : Int) < 60 by decide)
  have h3 := Int.emod_nonneg (Int.tdiv (hs.getD i 0) 60) (show (15 : Int) ≠ 0 by decide)
  have h4 := Int.emod_lt_of_pos (Int.tdiv (hs.getD i 0) 60) (show (0 : Int) < 15 by decide)
  have h5 : Int.tmod ((i : Nat) : Int) 3 = (i : Int) % 3 := Int.tmod_eq_emod_of_nonneg (by omega)
  refine ⟨⟨?_, ?_, ?_, ?_, ?_, ?_⟩, fun _ => c1, fun _ => c2, fun _ => c3, fun _ => c4⟩
  · show 0 ≤ ((i : Nat) : Int) ∧ ((i : Nat) : Int) ≤ 1000000; omega
  · show 1 ≤ 1 + Int.tmod ((i : Nat) : Int) 3 ∧ 1 + Int.tmod ((i : Nat) : Int) 3 ≤ 3; rw [h5]; omega
  · show 0 ≤ hs.getD i 0 % 60 ∧ hs.getD i 0 % 60 ≤ 10000; omega
  · exact ⟨Int.le_refl _, (show (0 : Int) ≤ 63 by decide)⟩
  · exact ⟨Int.le_refl _, (show (0 : Int) ≤ 63 by decide)⟩
  · show 1 ≤ 1 + Int.tdiv (hs.getD i 0) 60 % 15 ∧ 1 + Int.tdiv (hs.getD i 0) 60 % 15 ≤ 15; omega
theorem open_ok {m : Rates} {x : Ice} {ns hs : List Int} {now : Int} (hm : rightR m) (hx : rightI x) {n : Nat} (hn : n ≤ 9) (h1 : lastTo hs n ≤ now) (h2 : now ≤ 80) : errOpen (repL m x ns hs n) m now = 0 := by
  have hl := lastTo_bd hs n
  have ha : errAsk m now = 0 := (first2_2 (errRates_iff.2 hm)).trans (if_pos ⟨by omega, by omega⟩)
  rw [errOpen_3 ha (by rw [repL_len]; omega), repL_len]
  have key : ∀ k, k ≤ n → errTo (errOne (repL m x ns hs n) now) k = 0 := by
    intro k
    induction k with
    | zero => intro _; rfl
    | succ k ih =>
      intro hk
      refine errTo_succ0 (ih (by omega)) (errOne_5 ?_ ?_ ?_ ?_)
      · rw [repL_get (by omega)]; exact errReport_iff.2 (repAt_ok hm hx (by omega))
      · rintro ⟨j, hj, e⟩
        rw [repL_get (by omega), repL_get (by omega)] at e
        have e : ((j : Nat) : Int) = ((k : Nat) : Int) := e
        omega
      · rw [repL_get (by omega), repL_get (by omega)]
        rintro (h | h) <;> exact h rfl
      · rw [repL_get (by omega)]
        have : hs.getD k 0 % 60 ≤ lastTo hs n := lastTo_le hs (by omega)
        show ¬ hs.getD k 0 % 60 > now
        omega
  exact key n (Nat.le_refl _)
theorem told_has {m : Rates} {x : Ice} {ns hs : List Int} {now : Int} (hm : rightR m) (hx : rightI x) {n : Nat} (hn : n ≤ 9) (h1 : lastTo hs n ≤ now) (h2 : now ≤ 80) {i : Nat} (hi : i < n) :
    hasC ((told (repL m x ns hs n) m now).getD i zeroC) (crs m x ns now.toNat) ∧ rightC ((told (repL m x ns hs n) m now).getD i zeroC) := by
  have hl := lastTo_bd hs n
  have hi1 : hs.getD i 0 % 60 ≤ lastTo hs n := lastTo_le hs hi
  have g1 := Int.emod_nonneg (hs.getD i 0) (show (60 : Int) ≠ 0 by decide)
  have e : (told (repL m x ns hs n) m now).getD i zeroC = tellsC (repAt m x ns hs i) m now := by
    have := tabP_get (f := fun i => tellsC ((repL m x ns hs n).getD i zeroR) m now) (n := (repL m x ns hs n).length) (d := zeroC) (k := i) (by rw [repL_len]; exact hi)
    exact this.trans (by rw [repL_get hi])
  rw [e]
  have ok := repAt_ok (ns := ns) (hs := hs) hm hx (show i < 9 by omega)
  have hy := crs_right ns hm hx (hs.getD i 0 % 60).toNat
  have hw := crs_right ns hm hx now.toNat
  have hs1 : hasC (saidC (repAt m x ns hs i)) (crs m x ns (hs.getD i 0 % 60).toNat) := said_has hy (arC_ok hy).2
  have hp := crs_pair ns hm hx (hs.getD i 0 % 60).toNat (now.toNat - (hs.getD i 0 % 60).toNat)
  rw [show (hs.getD i 0 % 60).toNat + (now.toNat - (hs.getD i 0 % 60).toNat) = now.toNat by omega, show (((now.toNat - (hs.getD i 0 % 60).toNat : Nat)) : Int) = now - hs.getD i 0 % 60 by omega] at hp
  exact ⟨ageC_has hs1 hp hw, ageC_right (saidC_right ok) hm (show 0 ≤ now - hs.getD i 0 % 60 ∧ now - hs.getD i 0 % 60 ≤ 10000 by omega)⟩
/-- What the reports of a course tell. -/
theorem all_said {m : Rates} {x : Ice} {ns hs : List Int} {now : Int} (hm : rightR m) (hx : rightI x) {n : Nat} (hn : n ≤ 9) (h1 : lastTo hs n ≤ now) (h2 : now ≤ 80) :
    ∃ c, fFuse (repL m x ns hs n) m now = (c, 0) ∧ fConf (repL m x ns hs n) m now = ([], 0) ∧ (∃ bs, fTrust (repL m x ns hs n) m now = (bs, c, 0) ∧ bs.length = n ∧ ∀ k, k < n → bs.getD k false = true) ∧ fHas c (crs m x ns now.toNat) = (true, 0) := by
  have he := open_ok (ns := ns) (hs := hs) hm hx hn h1 h2
  have hw := crs_right ns hm hx now.toNat
  obtain ⟨ts, hts⟩ : ∃ ts, told (repL m x ns hs n) m now = ts := ⟨_, rfl⟩
  have hln : ts.length = n := by rw [← hts, told_len, repL_len]
  have hh : ∀ i, i < ts.length → hasC (ts.getD i zeroC) (crs m x ns now.toNat) ∧ rightC (ts.getD i zeroC) := by
    intro i hi; rw [← hts]; exact told_has hm hx hn h1 h2 (by omega)
  have hn12 : ts.length ≤ 12 := by omega
  obtain ⟨c, k1, k2, k3⟩ := tog_has hw hh (2 ^ ts.length - 1) ts.length (Nat.le_refl _)
  have hfull : togA ts (2 ^ ts.length - 1) = some c := k1
  have hsm : (togA ts (2 ^ ts.length - 1)).isSome = true := by rw [hfull]; rfl
  have htr := trust_full hn12 hsm
  refine ⟨c, ?_, ?_, ⟨trustL ts ts.length, ?_, by rw [trustL_len]; exact hln, fun k hk => ?_⟩, ?_⟩
  · rw [fFuse_3 he (by rw [hts, repL_len, ← hln]; exact hsm), hts, repL_len, ← hln, hfull]; rfl
  · rw [fConf_1 he, hts, conf_none (ts := ts) (fun i k hi hk => (meet_has (hh i hi).1 (hh k hk).1).2) _ (by rw [repL_len]; omega)]
  · rw [fTrust_1 he, hts, htr, hfull]; rfl
  · have := tabP_get (f := fun i => inSet ts.length (trustS ts) i) (n := ts.length) (d := false) (k := k) (by omega)
    exact this.trans (by rw [htr]; exact inSet_full (by omega))
  · exact fHas_3 (errCell_iff.2 k3) (errIce_iff.2 hw) (decide_eq_true k2)
theorem kHoldsLaw (m : Rates) (a b c d : Int) (ns hs : List Int) (hv : ∀ y ∈ ns, inI y) (hv2 : ∀ y ∈ hs, inI y) (hn : ns.length ≤ 9223372036854775807) {H : Heap} {id id2 : Nat} {own own2 : Bool} {z z2 : Nat} (hid : H[id]? = some (.cells own z (ns.flatMap intC))) (hid2 : H[id2]? = some (.cells own2 z2 (hs.flatMap intC))) :
    KCall prog F.polynyalaw01_IceHolds [ratesV m, .int .i64 a, .int .i64 b, .int .i64 c, .int .i64 d, .slice (some ⟨id, 0, some 2⟩) ns.length ns.length, .slice (some ⟨id2, 0, some 2⟩) hs.length hs.length] H [] (Is (.bool true) H) := by
  have ids : ∀ (k : Nat) (c : List Value), [ns.flatMap intC, hs.flatMap intC][k]? = some c → ∃ id' own z, [id, id2][k]? = some id' ∧ H[id']? = some (KObj.cells own z c) := by
    intro k c h
    match k with
    | 0 => cases h; exact ⟨id, own, z, rfl, hid⟩
    | 1 => cases h; exact ⟨id2, own2, z2, rfl, hid2⟩
  have css : ∀ c ∈ [ns.flatMap intC, hs.flatMap intC], c.all (belowC 0) = true := by
    intro c hc
    rcases List.mem_cons.1 hc with rfl | hc
    · exact plainZ 0 ns
    · rw [List.mem_singleton.1 hc]; exact plainZ 0 hs
  refine valR (css := [ns.flatMap intC, hs.flatMap intC]) (Eq.mpr (EHolds _ m a b c d ns hs (rangedI a b c d)) ?_) css rfl [id, id2] rfl ids
  have hx := rangedI_right a b c d
  obtain ⟨x, ex⟩ : ∃ x, rangedI a b c d = x := ⟨_, rfl⟩
  rw [ex]
  rw [ex] at hx
  unfold RHolds
  refine forkD (fun h9 => ⟨trivial, fun H' _ _ => kAwake H', rfl⟩) (fun h9 => ?_)
  refine ⟨_, trivial, fun H' _ _ => kCheckRates _ H', forkNe (fun _ => ⟨trivial, fun H' _ _ => kAwake H', rfl⟩) (fun h0 => ?_)⟩
  have hm := errRates_iff.1 h0
  refine ⟨x, trivial, fun H' _ _ => by have := kranged a b c d H'; rw [ex] at this; exact this, crsL m x ns 81, ⟨rfl, trivial⟩, fun H' hl hd => kCourse m x ns hm hx hv hn hl hd.1, ?_⟩
  refine ⟨(true, 0), ⟨rfl, trivial⟩, fun H' _ hd => (by have := kAllowed (crsL m x ns 81) m (by rw [crsL_len]; decide) hd.1; rw [crs_allowed ns hm hx] at this; exact this.wkA ⟨wk_QR, wk_refl _, trivial⟩), forkF rfl (forkF rfl ?_)⟩
  refine ⟨rfl, Nat.zero_le _, ?_, fun _ => rfl, ?_⟩
  · repeat' first
      | exact trivial
      | exact rfl
      | exact wk_refl _
      | refine wkO_cells ?_
      | refine wks_cons ?_ ?_
      | exact wks_nil
      | exact wk_nil _ _ _ (.inl rfl)
      | exact wk_Q (by omega)
      | refine wk_tupL ?_
      | refine wk_aggL ?_
      | refine joinMax ?_ ?_ ?_
      | refine joinMin ?_ ?_ ?_
      | refine toMax ?_
      | refine toMin ?_
      | refine ⟨rfl, ?_⟩
      | refine ⟨trivial, ?_⟩
      | refine forkD (fun h => ?_) (fun h => ?_)
      | refine forkNe (fun h => ?_) (fun h => ?_)
      | refine forkEq (fun h => ?_) (fun h => ?_)
      | refine forkNot ?_
      | refine ⟨vI64 (by omega), ?_⟩
      | refine And.intro (by omega) ?_
      | apply And.intro
      | exact iEq (by omega)
      | exact vI64 (by omega)
      | fail
  intro i hi
  refine forkD (fun h1 => ?_) (fun h1 => ?_)
  · have hlt : i < hs.length := by omega
    have hi9 : i < 9 := by omega
    have hin := getD_in hv2 i
    have g1 := Int.emod_nonneg (hs.getD i 0) (show (60 : Int) ≠ 0 by decide)
    have g2 := Int.emod_lt_of_pos (hs.getD i 0) (show (0 : Int) < 60 by decide)
    have g3 := Int.emod_nonneg (Int.tdiv (hs.getD i 0) 60) (show (15 : Int) ≠ 0 by decide)
    have g4 := Int.emod_lt_of_pos (Int.tdiv (hs.getD i 0) 60) (show (0 : Int) < 15 by decide)
    have e5 : Int.tmod ((i : Nat) : Int) 3 = (i : Int) % 3 := Int.tmod_eq_emod_of_nonneg (by omega)
    have ec : (crsL m x ns 81).getD (hs.getD i 0 % 60).toNat zeroI = crs m x ns (hs.getD i 0 % 60).toNat := crsL_get (by omega)
    have hrc : rightI ((crsL m x ns 81).getD (hs.getD i 0 % 60).toNat zeroI) := by rw [ec]; exact crs_right ns hm hx _
    have hl81 := crsL_len m x ns 81
    repeat' first
      | refine And.intro (by omega) ?_
      | refine ⟨cell_int (show i < hs.length from hlt), ?_⟩
      | refine ⟨_, trivial, fun H' _ _ => kPick _ _ (by decide) (by decide) H', ?_⟩
      | refine toMax ?_
      | refine ⟨vI64 (by omega), ?_⟩
      | refine ⟨vI64 (td_in hin (by decide)), ?_⟩
      | refine ⟨partIceK (by omega), ?_⟩
      | refine ⟨_, trivial, fun H' _ _ => karound _ _ _ hrc H', ?_⟩
      | refine ⟨⟨by omega, by decide, ⟨Nat.le_refl _, by rw [flat_len reportC_len, repL_len]; omega⟩, ⟨by decide, Nat.le_refl _⟩, rfl⟩, rfl, ?_⟩
      | refine ⟨i + 1, by omega, by omega, ?_⟩
      | fail
    rw [repL_succ, ec]
    repeat' first
      | exact plainR _ _
      | exact congrArg (fun l => some (KObj.cells true 14 l)) (flat_snoc reportC_len (repL m x ns hs i) (repAt m x ns hs i) (repL_len ..).symm)
      | exact trivial
      | exact rfl
      | exact wk_refl _
      | refine wkO_cells ?_
      | refine wks_cons ?_ ?_
      | exact wks_nil
      | exact wk_nil _ _ _ (.inl rfl)
      | exact wk_Q (by omega)
      | refine wk_tupL ?_
      | refine wk_aggL ?_
      | refine joinMax ?_ ?_ ?_
      | refine joinMin ?_ ?_ ?_
      | refine toMax ?_
      | refine toMin ?_
      | refine ⟨rfl, ?_⟩
      | refine ⟨trivial, ?_⟩
      | refine forkD (fun h => ?_) (fun h => ?_)
      | refine forkNe (fun h => ?_) (fun h => ?_)
      | refine forkEq (fun h => ?_) (fun h => ?_)
      | refine forkNot ?_
      | refine ⟨vI64 (by omega), ?_⟩
      | refine And.intro (by omega) ?_
      | apply And.intro
      | exact iEq (by omega)
      | exact vI64 (by omega)
      | fail
  · obtain rfl : i = hs.length := by omega
    have hlb := lastTo_bd hs hs.length
    repeat' first
      | refine ⟨rfl, (show lastTo hs hs.length + 9 * (((0 : Nat) : Int)) ≤ 89 by omega), ?_, fun _ => rfl, ?_⟩
      | exact trivial
      | exact rfl
      | exact wk_refl _
      | refine wkO_cells ?_
      | refine wks_cons ?_ ?_
      | exact wks_nil
      | exact wk_nil _ _ _ (.inl rfl)
      | exact wk_Q (by omega)
      | refine wk_tupL ?_
      | refine wk_aggL ?_
      | refine joinMax ?_ ?_ ?_
      | refine joinMin ?_ ?_ ?_
      | refine toMax ?_
      | refine toMin ?_
      | refine ⟨rfl, ?_⟩
      | refine ⟨trivial, ?_⟩
      | refine forkD (fun h => ?_) (fun h => ?_)
      | refine forkNe (fun h => ?_) (fun h => ?_)
      | refine forkEq (fun h => ?_) (fun h => ?_)
      | refine forkNot ?_
      | refine ⟨vI64 (by omega), ?_⟩
      | refine And.intro (by omega) ?_
      | apply And.intro
      | exact iEq (by omega)
      | exact vI64 (by omega)
      | fail
    intro j hj
    obtain ⟨N, eN⟩ : ∃ N, lastTo hs hs.length + 9 * ((j : Nat) : Int) = N := ⟨_, rfl⟩
    rw [eN]
    refine ⟨_, rfl, forkD (fun h80 => ?_) (fun h80 => ⟨trivial, fun H' _ _ => kAwake H', rfl⟩)⟩
    obtain ⟨cc, f1, f2, ⟨bs, f3, f4, f5⟩, f6⟩ := all_said (ns := ns) (hs := hs) hm hx (n := hs.length) (by omega) (now := N) (by omega) h80
    have hrl := repL_len m x ns hs hs.length
    have hl81 := crsL_len m x ns 81
    have ec : (crsL m x ns 81).getD N.toNat zeroI = crs m x ns N.toNat := crsL_get (by omega)
    refine ⟨_, rfl, (cc, 0), ⟨rfl, trivial⟩, fun H' _ hd => ?_, ?_⟩
    · have k := (kFuse (repL m x ns hs hs.length) m N hd.1).wkA (args := [.slice (some ⟨5, 0, some 1⟩) (repL m x ns hs hs.length).length (repL m x ns hs hs.length).length, ratesV m, .int .i64 N]) ⟨wk_QR, wk_refl _, wk_refl _, trivial⟩
      rw [hrl, f1] at k
      exact k
    refine ⟨_, rfl, ([], 0), ⟨rfl, trivial⟩, fun H' hl hd => ?_, ?_⟩
    · have k := (kConflicts (repL m x ns hs hs.length) m N hl hd.1).wkA (args := [.slice (some ⟨5, 0, some 1⟩) (repL m x ns hs hs.length).length (repL m x ns hs hs.length).length, ratesV m, .int .i64 N]) ⟨wk_QR, wk_refl _, wk_refl _, trivial⟩
      rw [hrl, f2] at k
      exact k
    refine ⟨_, rfl, (bs, cc, 0), ⟨rfl, trivial⟩, fun H' hl hd => ?_, ?_⟩
    · have k := (kTrust (repL m x ns hs hs.length) m N hl hd.1).wkA (args := [.slice (some ⟨5, 0, some 1⟩) (repL m x ns hs hs.length).length (repL m x ns hs hs.length).length, ratesV m, .int .i64 N]) ⟨wk_QR, wk_refl _, wk_refl _, trivial⟩
      rw [hrl, f3] at k
      exact k
    repeat' first
      | refine forkF rfl ?_
      | refine forkF (show (_ != _) = false from by rw [f4]; exact niq _) ?_
      | refine forkF (by simp only [bne_self_eq_false, BEq.rfl, Bool.and_self, Bool.not_true]) ?_
      | refine ⟨rfl, Nat.zero_le _, ?_, fun _ => rfl, ?_⟩
      | fail
    · repeat' first
        | exact trivial
        | exact rfl
        | exact wk_refl _
        | refine wkO_cells ?_
        | refine wks_cons ?_ ?_
        | exact wks_nil
        | exact wk_nil _ _ _ (.inl rfl)
        | exact wk_Q (by omega)
        | refine wk_tupL ?_
        | refine wk_aggL ?_
        | refine joinMax ?_ ?_ ?_
        | refine joinMin ?_ ?_ ?_
        | refine toMax ?_
        | refine toMin ?_
        | refine ⟨rfl, ?_⟩
        | refine ⟨trivial, ?_⟩
        | refine forkD (fun h => ?_) (fun h => ?_)
        | refine forkNe (fun h => ?_) (fun h => ?_)
        | refine forkEq (fun h => ?_) (fun h => ?_)
        | refine forkNot ?_
        | refine ⟨vI64 (by omega), ?_⟩
        | refine And.intro (by omega) ?_
        | apply And.intro
        | exact iEq (by omega)
        | exact vI64 (by omega)
        | fail
    intro k hk
    replace hk : k ≤ bs.length := hk
    refine forkD (fun h3 => ?_) (fun h3 => ?_)
    · replace h3 : ((k : Nat) : Int) < ((bs.length : Nat) : Int) := h3
      refine ⟨⟨(by omega), h3⟩, cell_at (n := 1) (f := boolC) (d := false) (c := 0) (k := k) boolC_len (show k < bs.length by omega) (by rw [Int.toNat_natCast]; omega) rfl, forkNot (forkT (f5 k (by omega)) ?_)⟩
      repeat' first
        | refine ⟨k + 1, (show k + 1 ≤ bs.length by omega), (show bs.length - (k + 1) < bs.length - k by omega), ?_⟩
        | exact trivial
        | exact rfl
        | exact wk_refl _
        | refine wkO_cells ?_
        | refine wks_cons ?_ ?_
        | exact wks_nil
        | exact wk_nil _ _ _ (.inl rfl)
        | exact wk_Q (by omega)
        | refine wk_tupL ?_
        | refine wk_aggL ?_
        | refine joinMax ?_ ?_ ?_
        | refine joinMin ?_ ?_ ?_
        | refine toMax ?_
        | refine toMin ?_
        | refine ⟨rfl, ?_⟩
        | refine ⟨trivial, ?_⟩
        | refine forkD (fun h => ?_) (fun h => ?_)
        | refine forkNe (fun h => ?_) (fun h => ?_)
        | refine forkEq (fun h => ?_) (fun h => ?_)
        | refine forkNot ?_
        | refine ⟨vI64 (by omega), ?_⟩
        | refine And.intro (by omega) ?_
        | apply And.intro
        | exact iEq (by omega)
        | exact vI64 (by omega)
        | fail
    · have hN : 0 ≤ N ∧ N < (((crsL m x ns 81).length : Nat) : Int) := by omega
      refine ⟨_, rfl, hN, partIceK (xs := crsL m x ns 81) (k := N.toNat) (by omega), (true, 0), trivial, fun H' _ _ => ?_, forkF rfl (forkF rfl ?_)⟩
      · have k := kHas cc ((crsL m x ns 81).getD N.toNat zeroI) H'
        rw [ec, f6] at k
        rw [ec]
        exact k
      · refine ⟨_, rfl, vI64 (by omega), j + 1, by omega, by omega, ?_⟩
        repeat' first
          | exact iEq (by omega)
          | exact trivial
          | exact rfl
          | exact wk_refl _
          | refine wkO_cells ?_
          | refine wks_cons ?_ ?_
          | exact wks_nil
          | exact wk_nil _ _ _ (.inl rfl)
          | exact wk_Q (by omega)
          | refine wk_tupL ?_
          | refine wk_aggL ?_
          | refine joinMax ?_ ?_ ?_
          | refine joinMin ?_ ?_ ?_
          | refine toMax ?_
          | refine toMin ?_
          | refine ⟨rfl, ?_⟩
          | refine ⟨trivial, ?_⟩
          | refine forkD (fun h => ?_) (fun h => ?_)
          | refine forkNe (fun h => ?_) (fun h => ?_)
          | refine forkEq (fun h => ?_) (fun h => ?_)
          | refine forkNot ?_
          | refine ⟨vI64 (by omega), ?_⟩
          | refine And.intro (by omega) ?_
          | apply And.intro
          | exact iEq (by omega)
          | exact vI64 (by omega)
          | fail
end
end Go.Proofs.Ythcjliffpebjaaa
/- How laws' arguments are read. No condition. -/
namespace Go.Proofs.Ythcjliffpebjaaa
set_option linter.unusedSimpArgs false
open Go Go.K Go.ChangeShapes Go.WideShapes Go.ChangeAt Go.RowKit
set_option maxRecDepth 100000
set_option linter.unusedVariables false
noncomputable section
theorem own : ownKnob Try.prog.godebug = none := by kernel_rfl
theorem sized : slicesSized Try.prog = true := by kernel_rfl
abbrev known (t : TypeId) : Prop := t < Try.prog.types.size
theorem kids : Kids Try.prog known := kids_rows (by kernel_rfl) (by kernel_rfl)
theorem good_flat {H : Heap} {t : TypeId} {v : Value} (n : Nat) (hu : (match Try.prog.underlying t with | some (.struct _) => true | _ => false) = true) (hf : flatI Try.prog 6 t = some n) (h : GoodV Try.prog H 6 t v) :
    ∃ ns : List Int, v = .agg ⟨ns.map (.int .i64)⟩ ∧ ns.length = n ∧ ∀ x ∈ ns, inI x := by
  unfold GoodV at h
  split at hu
  · rename_i fs e
    rw [e] at h
    obtain ⟨cs, rfl, h⟩ := h
    obtain ⟨ns, rfl, h2, h3⟩ := flatI_good 6 t n cs hf h
    exact ⟨ns, rfl, h2, h3⟩
  · cases hu
theorem good_int {H : Heap} {v : Value} (h : GoodV Try.prog H 6 3 v) : ∃ x : Int, v = .int .i64 x ∧ inI x := by
  have hu : Try.prog.underlying 3 = some (.int .i64) := by kernel_rfl
  unfold GoodV at h
  rw [hu] at h
  obtain ⟨ns, h1, h2, h3⟩ := flatI_good 6 3 1 [v] (by unfold flatI; rw [hu]) h
  match ns, h2 with
  | [x], _ => exact ⟨x, by simpa using h1, h3 x (by simp)⟩
theorem good_rates {H : Heap} {v : Value} (h : GoodV Try.prog H 6 26 v) : ∃ m : Rates, v = ratesV m := by
  obtain ⟨ns, rfl, h2, _⟩ := good_flat 8 (by kernel_rfl) (by kernel_rfl) h
  match ns, h2 with
  | [a1, a2, a3, a4, a5, a6, a7, a8], _ => exact ⟨⟨⟨a1, a2, a3, a4⟩, ⟨a5, a6, a7, a8⟩⟩, rfl⟩
theorem goodL_flat {α : Type} {f : α → List Value} {n t : Nat} (H : Heap) (hf : flatI Try.prog 5 t = some n) (hα : ∀ ns : List Int, ns.length = n → ∃ x : α, ns.map (Value.int .i64) = f x) :
    ∀ c, K.Good Try.prog H 5 t c → ∃ x : α, c = f x ∧ True := by
  intro c h
  obtain ⟨ns, rfl, h2, _⟩ := flatI_good 5 t n c hf h
  obtain ⟨x, hx⟩ := hα ns h2
  exact ⟨x, hx, trivial⟩
/-- A slice: less is said: read only. -/
theorem slice_read {α : Type} {f : α → List Value} {H : Heap} {n t e : Nat} {cs : List Value} (hu : Try.prog.underlying t = some (.slice e)) (hg : ∀ c, K.Good Try.prog H n e c → ∃ x : α, c = f x ∧ True) (h : K.Good Try.prog H (n + 1) t cs) :
    ∃ (v : Value) (xs : List α), cs = [v] ∧ xs.length ≤ maxLen ∧ ∀ K : Heap, ∃ (gs : List KObj) (id : Nat) (own : Bool) (z : Nat), wk v (.slice (some ⟨id, 0, some 2⟩) xs.length xs.length) ∧ (H ++ K ++ gs)[id]? = some (.cells own z (xs.flatMap f)) := by
  unfold K.Good at h
  rw [hu] at h
  rcases h with h | h | ⟨id, len, cs', h1, h2, h3, h4, h5⟩
  · exact ⟨_, [], h, by simp [maxLen], fun K => ⟨[.cells false 0 []], (H ++ K).length, false, 0, wk_nil _ _ _ (.inr rfl), by rw [List.getElem?_append_right (Nat.le_refl _)]; simp⟩⟩
  · exact ⟨_, [], h, by simp [maxLen], fun K => ⟨[.cells false 0 []], (H ++ K).length, false, 0, wk_E _ _ _ (.inr rfl), by rw [List.getElem?_append_right (Nat.le_refl _)]; simp⟩⟩
  · obtain ⟨xs, rfl, rfl, _⟩ := goodL_list (f := f) (q := fun _ => True) hg len cs' h5
    refine ⟨_, xs, h1, h4, fun K => ⟨[], id, false, 0, wk_R, ?_⟩⟩
    rw [List.append_nil, List.getElem?_append_left (List.getElem?_eq_some_iff.1 h2).1]; exact h2
theorem goodV_slice {α : Type} {f : α → List Value} {H : Heap} {t e : Nat} {v : Value} (hu : Try.prog.underlying t = some (.slice e)) (hg : ∀ c, K.Good Try.prog H 5 e c → ∃ x : α, c = f x ∧ True) (h : GoodV Try.prog H 6 t v) :
    ∃ xs : List α, xs.length ≤ maxLen ∧ ∀ K : Heap, ∃ (gs : List KObj) (id : Nat) (own : Bool) (z : Nat), wk v (.slice (some ⟨id, 0, some 2⟩) xs.length xs.length) ∧ (H ++ K ++ gs)[id]? = some (.cells own z (xs.flatMap f)) := by
  unfold GoodV at h
  rw [hu] at h
  obtain ⟨v', xs, h1, h2, h3⟩ := slice_read hu hg h
  cases h1
  exact ⟨xs, h2, h3⟩
theorem ints_read {H : Heap} {v : Value} (h : GoodV Try.prog H 6 49 v) : ∃ xs : List Int, (xs.length ≤ maxLen ∧ ∀ x ∈ xs, inI x) ∧ ∀ K : Heap, ∃ (gs : List KObj) (id : Nat) (own : Bool) (z : Nat), wk v (.slice (some ⟨id, 0, some 2⟩) xs.length xs.length) ∧ (H ++ K ++ gs)[id]? = some (.cells own z (xs.flatMap fun x => [.int .i64 x])) := by
  have hu : Try.prog.underlying 49 = some (.slice 3) := by kernel_rfl
  unfold GoodV at h
  rw [hu] at h
  unfold K.Good at h
  rw [hu] at h
  rcases h with h | h | ⟨id, len, cs', h1, h2, h3, h4, h5⟩
  · cases h; exact ⟨[], ⟨by simp [maxLen], fun x hx => by cases hx⟩, fun K => ⟨[.cells false 0 []], (H ++ K).length, false, 0, wk_nil _ _ _ (.inr rfl), by rw [List.getElem?_append_right (Nat.le_refl _)]; simp⟩⟩
  · cases h; exact ⟨[], ⟨by simp [maxLen], fun x hx => by cases hx⟩, fun K => ⟨[.cells false 0 []], (H ++ K).length, false, 0, wk_E _ _ _ (.inr rfl), by rw [List.getElem?_append_right (Nat.le_refl _)]; simp⟩⟩
  · cases h1
    obtain ⟨xs, rfl, rfl, hq⟩ := goodL_list (f := fun x : Int => [Value.int .i64 x]) (q := inI) (fun c hc => by
      obtain ⟨ns, rfl, k2, k3⟩ := flatI_good 5 3 1 c (by kernel_rfl) hc
      match ns, k2 with
      | [a], _ => exact ⟨a, rfl, k3 a (by simp)⟩) len cs' h5
    refine ⟨xs, ⟨h4, hq⟩, fun K => ⟨[], id, false, 0, wk_R, ?_⟩⟩
    rw [List.append_nil, List.getElem?_append_left (List.getElem?_eq_some_iff.1 h2).1]; exact h2
end
end Go.Proofs.Ythcjliffpebjaaa
