/- Ice: the reference's reports: right ones, what they tell, lists of them. No condition. -/
import Derived.Test.YthcjliffpebjaaaGreatR1g
namespace Go.Proofs.YthcjliffpebjaaaGreat
open Go Go.K
set_option maxRecDepth 100000
set_option linter.unusedVariables false
set_option linter.unusedSimpArgs false
noncomputable section
attribute [local irreducible] vF hasK popc
theorem has_div {h : Int} (k : 1 ≤ h) : Int.tmod h 2 = h % 2 ∧ Int.tdiv h 2 = h / 2 ∧ Int.tmod (h / 2) 2 = h / 2 % 2 ∧ Int.tdiv (h / 2) 2 = h / 4 ∧ Int.tmod (h / 4) 2 = h / 4 % 2 ∧ Int.tdiv (h / 4) 2 = h / 8 ∧ Int.tmod (h / 8) 2 = h / 8 % 2 ∧ Int.tdiv (h / 8) 2 = h / 16 := by
  refine ⟨Int.tmod_eq_emod_of_nonneg (by omega), Int.tdiv_eq_ediv_of_nonneg (by omega), Int.tmod_eq_emod_of_nonneg (by omega), ?_, Int.tmod_eq_emod_of_nonneg (by omega), ?_, Int.tmod_eq_emod_of_nonneg (by omega), ?_⟩
  · rw [Int.tdiv_eq_ediv_of_nonneg (by omega)]; omega
  · rw [Int.tdiv_eq_ediv_of_nonneg (by omega)]; omega
  · rw [Int.tdiv_eq_ediv_of_nonneg (by omega)]; omega
set_option maxHeartbeats 4000000 in
theorem krCheckReport (r : Report) (H : Heap) : KCall prog F.polynyaref01_CheckReport [reportV r] H [] (Is (.int .i64 (errReport r)) H) := by
  refine valK 40 (fun _ => rfl) rfl (Eq.mpr (ErCheckReport _ r) ?_) H
  unfold RrCheckReport
  have bad : ∀ (h : ¬ reportOk r), (Value.int .i64 20) = .int .i64 (errReport r) := fun h => iEq (if_neg h).symm
  iterate 12 refine forkD (fun h => bad (fun o => by have o := o.1; omega)) (fun _ => ?_)
  obtain ⟨m0, t0, m1, t1, m2, t2, m3, t3⟩ := has_div (h := r.has) (by omega)
  simp only [m0, t0, m1, t1, m2, t2, m3, t3]
  repeat' first | refine ⟨_, rfl, ?_⟩ | exact trivial | exact rfl | exact wk_refl _ | refine wkO_cells ?_ | refine wks_cons ?_ ?_ | exact wks_nil | exact wk_nil _ _ _ (.inl rfl) | (exact wk_Q (by omega)) | refine wk_tupL ?_ | refine wk_aggL ?_ | refine ⟨rfl, ?_⟩ | refine ⟨trivial, ?_⟩ | (refine forkD (fun h => ?_) (fun h => ?_)) | (refine forkNe (fun h => ?_) (fun h => ?_)) | (refine forkEq (fun h => ?_) (fun h => ?_)) | refine forkNot ?_ | (refine ⟨vI64 (by omega), ?_⟩) | (refine And.intro (by omega) ?_) | apply And.intro | (exact iEq (by omega)) | (exact vI64 (by omega))
  all_goals first
    | exact bad (fun o => by have o := o.2.1 ‹_›; unfold rightS at o; omega)
    | exact bad (fun o => by have o := o.2.2.1 ‹_›; unfold rightS at o; omega)
    | exact bad (fun o => by have o := o.2.2.2.1 ‹_›; unfold rightS at o; omega)
    | exact bad (fun o => by have o := o.2.2.2.2 ‹_›; unfold rightS at o; omega)
    | exact iEq (if_pos ⟨by omega, fun q => by unfold rightS; omega, fun q => by unfold rightS; omega, fun q => by unfold rightS; omega, fun q => by unfold rightS; omega⟩).symm
theorem krasked (m : Rates) (now : Int) (H : Heap) : KCall prog F.polynyaref01_asked [ratesV m, .int .i64 now] H [] (Is (.int .i64 (errAsk m now)) H) := by
  refine valK 40 (fun _ => rfl) rfl (Eq.mpr (Erasked _ m now) ?_) H
  unfold Rrasked
  refine ⟨_, trivial, fun H' _ _ => krCheckRates _ H', forkNe (fun h0 => iEq (first2_1 h0).symm) (fun h0 => ?_)⟩
  exact forkD (fun h1 => iEq ((first2_2 h0).trans (if_neg (by omega))).symm) (fun h1 => forkD (fun h2 => iEq ((first2_2 h0).trans (if_neg (by omega))).symm) (fun h2 => iEq ((first2_2 h0).trans (if_pos (by omega))).symm))
set_option maxHeartbeats 4000000 in
theorem krsaid (r : Report) (m : Rates) (now : Int) (hr : reportOk r) (hm : rightR m) (hh : r.at_ ≤ now ∧ now ≤ 10000) (H : Heap) : KCall prog F.polynyaref01_said [reportV r, ratesV m, .int .i64 now] H [] (Is (cellV (tellsC r m now)) H) := by
  refine valK 40 (fun _ => rfl) rfl (Eq.mpr (Ersaid _ r m now) ?_) H
  have hs := saidC_right hr
  obtain ⟨⟨_, _, ha, _, _, hq⟩, _⟩ := hr
  unfold Rrsaid
  obtain ⟨m0, t0, m1, t1, m2, t2, m3, t3⟩ := has_div (h := r.has) (by omega)
  simp only [m0, t0, m1, t1, m2, t2, m3, t3]
  repeat' first | (refine forkEq (fun h => ?_) (fun h => ?_)) | (refine ⟨vI64 (by omega), ?_⟩) | refine ⟨_, rfl, ?_⟩
  all_goals
    refine ⟨tellsC r m now, trivial, fun H' _ _ => ?_, rfl⟩
    have k := krOlder (saidC r) m (now - r.at_) hs hm (by omega) H'
    refine (congrArg (fun a => KCall prog F.polynyaref01_Older [a, ratesV m, .int .i64 (now - r.at_)] H' [] (Is (cellV (tellsC r m now)) H')) ?_).mp k
    simp only [saidC, if_true, if_false, *]
theorem krTells (r : Report) (m : Rates) (now : Int) (H : Heap) : KCall prog F.polynyaref01_Tells [reportV r, ratesV m, .int .i64 now] H [] (Is (.tuple #[cellV (fTells r m now).1, .int .i64 (fTells r m now).2]) H) := by
  refine valK 40 (fun _ => rfl) rfl (Eq.mpr (ErTells _ r m now) ?_) H
  unfold RrTells
  refine ⟨_, trivial, fun H' _ _ => krasked _ _ H', forkNe (fun h0 => tupC (fTells_1 h0)) (fun h0 => ⟨_, trivial, fun H' _ _ => krCheckReport r H', forkNe (fun h1 => tupC (fTells_2 h0 h1)) (fun h1 => forkD (fun h2 => tupC (fTells_3 h0 h1 h2)) (fun h2 => ?_))⟩)⟩
  obtain ⟨hm, hn⟩ := errAsk_ok h0
  exact ⟨_, trivial, fun H' _ _ => krsaid r m now (errReport_iff.1 h1) hm (by omega) H', tupC (fTells_4 h0 h1 h2)⟩
theorem repAt {l : List Report} {x c : Nat} (h : x < l.length) {v : Value} (hv : (reportC (l.getD x zeroR))[c]? = some v) : (l.flatMap reportC)[0 + Int.toNat ((x : Nat) : Int) * 14 + c]? = some v :=
  cell_at (n := 14) (f := reportC) (d := zeroR) reportC_len h (by rw [Int.toNat_natCast]; omega) hv
theorem krlisted (l : List Report) (m : Rates) (now : Int) {H : Heap} {id : Nat} {own : Bool} {z : Nat} (hid : H[id]? = some (.cells own z (l.flatMap reportC))) :
    KCall prog F.polynyaref01_listed [.slice (some ⟨id, 0, some 2⟩) l.length l.length, ratesV m, .int .i64 now] H [] (Is (.int .i64 (errOpen l m now)) H) := by
  refine valR (Eq.mpr (Erlisted _ l m now) ?_) (one_cs (plainR 0 l)) rfl [id] rfl (one_id hid)
  unfold Rrlisted
  refine ⟨_, trivial, fun H' _ _ => krasked _ _ H', forkNe (fun h0 => iEq (errOpen_1 h0).symm) (fun h0 => ?_)⟩
  refine forkD (fun h1 => iEq (errOpen_2 h0 (by omega)).symm) (fun h1 => ?_)
  have e3 := errOpen_3 h0 (l := l) (by omega)
  refine ⟨rfl, ⟨Nat.zero_le _, rfl⟩, ?_, fun _ => rfl, ?_⟩
  · repeat' first | exact trivial | exact rfl | exact wk_refl _ | refine wkO_cells ?_ | refine wks_cons ?_ ?_ | exact wks_nil | exact wk_nil _ _ _ (.inl rfl) | (exact wk_Q (by omega)) | refine wk_tupL ?_ | refine wk_aggL ?_ | refine ⟨rfl, ?_⟩ | refine ⟨trivial, ?_⟩ | (refine forkD (fun h => ?_) (fun h => ?_)) | (refine forkNe (fun h => ?_) (fun h => ?_)) | (refine forkEq (fun h => ?_) (fun h => ?_)) | refine forkNot ?_ | (refine ⟨vI64 (by omega), ?_⟩) | (refine And.intro (by omega) ?_) | apply And.intro | (exact iEq (by omega)) | (exact vI64 (by omega))
  rintro x ⟨hx, he⟩
  refine forkD (fun h => ?_) (fun h => ?_)
  · have hlt : x < l.length := by omega
    have stop : ∀ {n : Int}, errOne l now x = n → n ≠ 0 → (Value.int .i64 n) = .int .i64 (errOpen l m now) := fun h hn => iEq (by rw [e3, errTo_stop he (by rw [h]; exact hn) hlt, h])
    refine ⟨by omega, partRep hlt, _, trivial, fun H' _ _ => krCheckReport _ H', forkNe (fun h2 => stop (errOne_1 h2) h2) (fun h2 => ?_)⟩
    refine ⟨rfl, ⟨Nat.zero_le _, fun k hk => absurd hk (Nat.not_lt_zero k)⟩, ?_, fun _ => rfl, ?_⟩
    · repeat' first | exact trivial | exact rfl | exact wk_refl _ | refine wkO_cells ?_ | refine wks_cons ?_ ?_ | exact wks_nil | exact wk_nil _ _ _ (.inl rfl) | (exact wk_Q (by omega)) | refine wk_tupL ?_ | refine wk_aggL ?_ | refine ⟨rfl, ?_⟩ | refine ⟨trivial, ?_⟩ | (refine forkD (fun h => ?_) (fun h => ?_)) | (refine forkNe (fun h => ?_) (fun h => ?_)) | (refine forkEq (fun h => ?_) (fun h => ?_)) | refine forkNot ?_ | (refine ⟨vI64 (by omega), ?_⟩) | (refine And.intro (by omega) ?_) | apply And.intro | (exact iEq (by omega)) | (exact vI64 (by omega))
    rintro y ⟨hy, hno⟩
    refine forkD (fun hl2 => ?_) (fun hl2 => ?_)
    · refine ⟨by omega, repAt (c := 0) (by omega) rfl, by omega, repAt (c := 0) hlt rfl, forkEq (fun hq => stop (errOne_2 h2 ⟨y, by omega, hq⟩) (by decide)) (fun hq => ?_)⟩
      refine ⟨vI64 (by omega), y + 1, ⟨by omega, fun k hk => ?_⟩, by omega, rfl, ?_⟩
      · rcases Nat.lt_or_ge k y with h3 | h3
        · exact hno k h3
        · obtain rfl : k = y := by omega
          exact hq
      · repeat' first | exact trivial | exact rfl | exact wk_refl _ | refine wkO_cells ?_ | refine wks_cons ?_ ?_ | exact wks_nil | exact wk_nil _ _ _ (.inl rfl) | (exact wk_Q (by omega)) | refine wk_tupL ?_ | refine wk_aggL ?_ | refine ⟨rfl, ?_⟩ | refine ⟨trivial, ?_⟩ | (refine forkD (fun h => ?_) (fun h => ?_)) | (refine forkNe (fun h => ?_) (fun h => ?_)) | (refine forkEq (fun h => ?_) (fun h => ?_)) | refine forkNot ?_ | (refine ⟨vI64 (by omega), ?_⟩) | (refine And.intro (by omega) ?_) | apply And.intro | (exact iEq (by omega)) | (exact vI64 (by omega))
    · obtain rfl : y = x := by omega
      have h3 : ¬ ∃ k, k < y ∧ (l.getD k zeroR).id = (l.getD y zeroR).id := fun ⟨k, h, e⟩ => hno k h e
      refine ⟨by omega, repAt hlt rfl, by omega, rep3 (by omega), forkNe (fun h4 => stop (errOne_3 h2 h3 (.inl h4)) (by decide)) (fun h4 => ?_)⟩
      refine ⟨by omega, repAt hlt rfl, by omega, rep4 (by omega), forkNe (fun h5 => stop (errOne_3 h2 h3 (.inr h5)) (by decide)) (fun h5 => ?_)⟩
      have h6 : ¬ ((l.getD y zeroR).x ≠ (l.getD 0 zeroR).x ∨ (l.getD y zeroR).y ≠ (l.getD 0 zeroR).y) := fun q => q.elim (fun a => a h4) (fun a => a h5)
      refine ⟨by omega, repAt hlt rfl, forkD (fun h7 => stop (errOne_4 h2 h3 h6 (by omega)) (by decide)) (fun h7 => ?_)⟩
      refine ⟨vI64 (by omega), y + 1, ⟨by omega, errTo_succ0 he (errOne_5 h2 h3 h6 (by omega))⟩, by omega, rfl, ?_⟩
      repeat' first | exact trivial | exact rfl | exact wk_refl _ | refine wkO_cells ?_ | refine wks_cons ?_ ?_ | exact wks_nil | exact wk_nil _ _ _ (.inl rfl) | (exact wk_Q (by omega)) | refine wk_tupL ?_ | refine wk_aggL ?_ | refine ⟨rfl, ?_⟩ | refine ⟨trivial, ?_⟩ | (refine forkD (fun h => ?_) (fun h => ?_)) | (refine forkNe (fun h => ?_) (fun h => ?_)) | (refine forkEq (fun h => ?_) (fun h => ?_)) | refine forkNot ?_ | (refine ⟨vI64 (by omega), ?_⟩) | (refine And.intro (by omega) ?_) | apply And.intro | (exact iEq (by omega)) | (exact vI64 (by omega))
  · obtain rfl : x = l.length := by omega
    exact iEq (by rw [e3, he])
/-- What it is that reports of one cell are right. -/
structure Opened (l : List Report) (m : Rates) (now : Int) : Prop where
  rates : rightR m
  hour : 0 ≤ now ∧ now ≤ 10000
  len : l.length ≤ 12
  each : ∀ i, i < l.length → reportOk (l.getD i zeroR) ∧ (l.getD i zeroR).at_ ≤ now
theorem opened {l : List Report} {m : Rates} {now : Int} (h : errOpen l m now = 0) : Opened l m now := by
  have h0 : errAsk m now = 0 := by
    rcases Classical.em (errAsk m now = 0) with k | k
    · exact k
    · rw [errOpen_1 k] at h; exact absurd h k
  obtain ⟨hm, hn⟩ := errAsk_ok h0
  have hl := errOpen_len h
  refine ⟨hm, hn, hl, fun i hi => ?_⟩
  have e := errTo_zero ((errOpen_3 h0 (l := l) (by omega)).symm.trans h) i hi
  have h2 : errReport (l.getD i zeroR) = 0 := by
    rcases Classical.em (errReport (l.getD i zeroR) = 0) with k | k
    · exact k
    · rw [errOne_1 k] at e; exact absurd e k
  refine ⟨errReport_iff.1 h2, ?_⟩
  rcases Classical.em (∃ k, k < i ∧ (l.getD k zeroR).id = (l.getD i zeroR).id) with h3 | h3
  · rw [errOne_2 h2 h3] at e; cases e
  rcases Classical.em ((l.getD i zeroR).x ≠ (l.getD 0 zeroR).x ∨ (l.getD i zeroR).y ≠ (l.getD 0 zeroR).y) with h6 | h6
  · rw [errOne_3 h2 h3 h6] at e; cases e
  rcases Classical.em ((l.getD i zeroR).at_ > now) with h7 | h7
  · rw [errOne_4 h2 h3 h6 h7] at e; cases e
  · omega
theorem opened_told {l : List Report} {m : Rates} {now : Int} (h : errOpen l m now = 0) : rightTs (told l m now) := by
  have o := opened h
  intro i hi
  rw [told_len] at hi
  rw [told_get hi]
  obtain ⟨h1, h2⟩ := o.each i hi
  have := h1.1.2.2.1
  have := o.hour
  exact ageC_right (saidC_right h1) o.rates (show 0 ≤ now - (l.getD i zeroR).at_ ∧ now - (l.getD i zeroR).at_ ≤ 10000 by omega)
end
end Go.Proofs.YthcjliffpebjaaaGreat
/- Ice: the reference's conflicts, and what reports tell together; all lists of reports that agree. No condition. -/
namespace Go.Proofs.YthcjliffpebjaaaGreat
open Go Go.K
set_option maxRecDepth 100000
set_option linter.unusedVariables false
set_option linter.unusedSimpArgs false
noncomputable section
attribute [local irreducible] vF hasK popc
/-- An answer with one new list. -/
theorem valQ {f : FuncId} {args : List Value} {c : List Value} {h : Hint} (v : Nat → Value) {z : Nat} {cs : List Value}
    (hc : vF prog msk (dm 0) 100000 true 40 true f args (readsT 0 [c]) (some []) h (newK (readsT 0 [c]).n 3 (v 1) [(true, .cells true z cs)]))
    (hp0 : c.all (belowC 0) = true) (hp : ∀ n, cs.all (belowC n) = true) (h1 : rnOk 3 (v 1) = true) (h2 : rn (sgOnly (0 + 1)) 3 (v 1) = v 1) (h3 : ∀ j, rn (sgUp (0 + 1) j) 3 (v 1) = v j)
    {H : Heap} {id : Nat} {own : Bool} {z2 : Nat} (hid : H[id]? = some (.cells own z2 c)) {args' : List Value} (ha : args.map (rn (sgR 0 [id]) 3) = args') :
    KCall prog f args' H [] (Is (v H.length) (H ++ [.cells true z cs])) := by
  subst ha
  have key := valN (css := [c]) (v := v 1) (new := [(true, .cells true z cs)]) hc (one_cs hp0) h1 h2
    (by show ((rnoOk 3 (.cells true z cs) && true) && true) = true
        rw [Bool.and_true, Bool.and_true]; exact (rnCl (σ := fun _ => none) (d := 0) (hp 0)).2)
    (congrArg (fun q => [KObj.cells true z q]) (rnCl (d := 0) (hp 0)).1) (H := H) [id] rfl (one_id hid)
  have e2 : (List.map (fun x : Bool × KObj => x.2) [(true, KObj.cells true z cs)]).map (rno (sgUp (0 + [c].length) H.length) 3) = [.cells true z cs] :=
    congrArg (fun q => [KObj.cells true z q]) (rnCl (d := 0) (hp 0)).1
  rw [e2, show rn (sgUp (0 + [c].length) H.length) 3 (v 1) = v H.length from h3 _] at key
  exact key
theorem krpairs (l : List Report) (m : Rates) (now : Int) (he : errOpen l m now = 0) {H : Heap} {L : Nat} (hL : H.length = L) {id : Nat} {own : Bool} {z : Nat} (hid : H[id]? = some (.cells own z (l.flatMap reportC))) :
    KCall prog F.polynyaref01_pairs [.slice (some ⟨id, 0, some 2⟩) l.length l.length, ratesV m, .int .i64 now] H []
      (Is (.slice (some ⟨L, 0, some 1⟩) (conf (told l m now) l.length).length (conf (told l m now) l.length).length) (H ++ [.cells true 2 ((conf (told l m now) l.length).flatMap pairC)])) := by
  subst hL
  refine valQ (fun i => .slice (some ⟨i, 0, some 1⟩) (conf (told l m now) l.length).length (conf (told l m now) l.length).length) (Eq.mpr (Erpairs l m now) ?_) (plainR 0 l) (fun n => plainQ n _) rfl (by simp [rn, sgOnly]) (fun j => by simp [rn, sgUp]) hid rfl
  unfold Rrpairs
  have o := opened he
  have hn := o.len
  have hn2 := told_len l m now
  have hr := opened_told he
  refine ⟨rfl, Nat.zero_le _, ?_, fun _ => rfl, ?_⟩
  · repeat' first | exact plainQ _ _ | exact trivial | exact rfl | exact wk_refl _ | refine wkO_cells ?_ | refine wks_cons ?_ ?_ | exact wks_nil | exact wk_nil _ _ _ (.inl rfl) | (exact wk_Q (by omega)) | refine wk_tupL ?_ | refine wk_aggL ?_ | refine ⟨rfl, ?_⟩ | refine ⟨trivial, ?_⟩ | (refine forkD (fun h => ?_) (fun h => ?_)) | (refine forkNe (fun h => ?_) (fun h => ?_)) | (refine forkEq (fun h => ?_) (fun h => ?_)) | refine forkNot ?_ | (refine ⟨vI64 (by omega), ?_⟩) | (refine And.intro (by omega) ?_) | apply And.intro | (exact iEq (by omega)) | (exact vI64 (by omega))
  intro x hx
  have hcx : (conf (told l m now) x).length ≤ 12 * 12 := Nat.le_trans (conf_len (told l m now) x) (Nat.mul_le_mul (by omega) (by omega))
  refine forkD (fun h => ?_) (fun h => ?_)
  · have hlt : x < l.length := by omega
    refine ⟨vI64 (by omega), rfl, by omega, ?_, fun _ => rfl, ?_⟩
    · have ea : conf (told l m now) x ++ confRow (told l m now) x 0 = conf (told l m now) x := List.append_nil _
      rw [ea]
      repeat' first | exact plainQ _ _ | exact trivial | exact rfl | exact wk_refl _ | refine wkO_cells ?_ | refine wks_cons ?_ ?_ | exact wks_nil | exact wk_nil _ _ _ (.inl rfl) | (exact wk_Q (by omega)) | refine wk_tupL ?_ | refine wk_aggL ?_ | refine ⟨rfl, ?_⟩ | refine ⟨trivial, ?_⟩ | (refine forkD (fun h => ?_) (fun h => ?_)) | (refine forkNe (fun h => ?_) (fun h => ?_)) | (refine forkEq (fun h => ?_) (fun h => ?_)) | refine forkNot ?_ | (refine ⟨vI64 (by omega), ?_⟩) | (refine And.intro (by omega) ?_) | apply And.intro | (exact iEq (by omega)) | (exact vI64 (by omega))
    intro k hk
    have hcr := confRow_len (told l m now) x k
    have hap : (conf (told l m now) x ++ confRow (told l m now) x k).length = (conf (told l m now) x).length + (confRow (told l m now) x k).length := List.length_append
    refine forkD (fun h2 => ?_) (fun h2 => ?_)
    · have hlt2 : x + 1 + k < l.length := by omega
      have g1 := told_get (m := m) (now := now) hlt
      have g2 := told_get (m := m) (now := now) hlt2
      have r1 := hr x (by omega)
      have r2 := hr (x + 1 + k) (by omega)
      rw [g1] at r1
      rw [g2] at r2
      refine ⟨by omega, partRep hlt, by omega, partRep hlt2, _, trivial, fun H' _ _ => krsaid _ m now (o.each x hlt).1 o.rates ⟨(o.each x hlt).2, o.hour.2⟩ H', _, trivial, fun H' _ _ => krsaid _ m now (o.each _ hlt2).1 o.rates ⟨(o.each _ hlt2).2, o.hour.2⟩ H', _, trivial, fun H' _ _ => krApart _ _ r1 r2 H', forkNot (forkD (fun ok => ?_) (fun ok => ?_))⟩
      · rw [← g1, ← g2] at ok
        refine ⟨vI64 (by omega), k + 1, by omega, by omega, ?_⟩
        rw [confRow_a ok]
        repeat' first | exact plainQ _ _ | exact trivial | exact rfl | exact wk_refl _ | refine wkO_cells ?_ | refine wks_cons ?_ ?_ | exact wks_nil | exact wk_nil _ _ _ (.inl rfl) | (exact wk_Q (by omega)) | refine wk_tupL ?_ | refine wk_aggL ?_ | refine ⟨rfl, ?_⟩ | refine ⟨trivial, ?_⟩ | (refine forkD (fun h => ?_) (fun h => ?_)) | (refine forkNe (fun h => ?_) (fun h => ?_)) | (refine forkEq (fun h => ?_) (fun h => ?_)) | refine forkNot ?_ | (refine ⟨vI64 (by omega), ?_⟩) | (refine And.intro (by omega) ?_) | apply And.intro | (exact iEq (by omega)) | (exact vI64 (by omega))
      · rw [← g1, ← g2] at ok
        refine ⟨⟨by omega, by decide, ⟨Nat.le_refl _, by rw [flat_len pairC_len]; omega⟩, ⟨by decide, Nat.le_refl _⟩, rfl⟩, rfl, vI64 (by omega), k + 1, by omega, by omega, ?_⟩
        rw [confRow_b ok, ← List.append_assoc]
        have hl1 : (conf (told l m now) x ++ confRow (told l m now) x k ++ [(x, x + 1 + k)]).length = (conf (told l m now) x ++ confRow (told l m now) x k).length + 1 := List.length_append
        repeat' first | exact plainQ _ _ | (exact (by rw [hl1]; exact wk_Q (by omega))) | (exact congrArg (fun l => some (KObj.cells true 2 l)) (flat_snoc pairC_len _ (x, x + 1 + k) rfl)) | exact trivial | exact rfl | exact wk_refl _ | refine wkO_cells ?_ | refine wks_cons ?_ ?_ | exact wks_nil | exact wk_nil _ _ _ (.inl rfl) | (exact wk_Q (by omega)) | refine wk_tupL ?_ | refine wk_aggL ?_ | refine ⟨rfl, ?_⟩ | refine ⟨trivial, ?_⟩ | (refine forkD (fun h => ?_) (fun h => ?_)) | (refine forkNe (fun h => ?_) (fun h => ?_)) | (refine forkEq (fun h => ?_) (fun h => ?_)) | refine forkNot ?_ | (refine ⟨vI64 (by omega), ?_⟩) | (refine And.intro (by omega) ?_) | apply And.intro | (exact iEq (by omega)) | (exact vI64 (by omega))
    · have e : conf (told l m now) (x + 1) = conf (told l m now) x ++ confRow (told l m now) x k := by
        show _ ++ confRow _ _ _ = _
        rw [show (told l m now).length - (x + 1) = k by omega]
      refine ⟨vI64 (by omega), x + 1, by omega, by omega, ?_⟩
      rw [e]
      repeat' first | exact plainQ _ _ | exact trivial | exact rfl | exact wk_refl _ | refine wkO_cells ?_ | refine wks_cons ?_ ?_ | exact wks_nil | exact wk_nil _ _ _ (.inl rfl) | (exact wk_Q (by omega)) | refine wk_tupL ?_ | refine wk_aggL ?_ | refine ⟨rfl, ?_⟩ | refine ⟨trivial, ?_⟩ | (refine forkD (fun h => ?_) (fun h => ?_)) | (refine forkNe (fun h => ?_) (fun h => ?_)) | (refine forkEq (fun h => ?_) (fun h => ?_)) | refine forkNot ?_ | (refine ⟨vI64 (by omega), ?_⟩) | (refine And.intro (by omega) ?_) | apply And.intro | (exact iEq (by omega)) | (exact vI64 (by omega))
  · obtain rfl : x = l.length := by omega
    repeat' first | exact plainQ _ _ | exact trivial | exact rfl | exact wk_refl _ | refine wkO_cells ?_ | refine wks_cons ?_ ?_ | exact wks_nil | exact wk_nil _ _ _ (.inl rfl) | (exact wk_Q (by omega)) | refine wk_tupL ?_ | refine wk_aggL ?_ | refine ⟨rfl, ?_⟩ | refine ⟨trivial, ?_⟩ | (refine forkD (fun h => ?_) (fun h => ?_)) | (refine forkNe (fun h => ?_) (fun h => ?_)) | (refine forkEq (fun h => ?_) (fun h => ?_)) | refine forkNot ?_ | (refine ⟨vI64 (by omega), ?_⟩) | (refine And.intro (by omega) ?_) | apply And.intro | (exact iEq (by omega)) | (exact vI64 (by omega))
theorem krConflicts (l : List Report) (m : Rates) (now : Int) {H : Heap} {L : Nat} (hL : H.length = L) {id : Nat} {own : Bool} {z : Nat} (hid : H[id]? = some (.cells own z (l.flatMap reportC))) :
    KCall prog F.polynyaref01_Conflicts [.slice (some ⟨id, 0, some 2⟩) l.length l.length, ratesV m, .int .i64 now] H []
      (Is (.tuple #[.slice (some ⟨L, 0, some 1⟩) (fConf l m now).1.length (fConf l m now).1.length, .int .i64 (fConf l m now).2]) (H ++ [.cells true 2 ((fConf l m now).1.flatMap pairC)])) := by
  subst hL
  refine valQ (fun i => .tuple #[.slice (some ⟨i, 0, some 1⟩) (fConf l m now).1.length (fConf l m now).1.length, .int .i64 (fConf l m now).2]) (Eq.mpr (ErConflicts l m now) ?_) (plainR 0 l) (fun n => plainQ n _) rfl (by simp [rn, sgOnly]) (fun j => by simp [rn, sgUp]) hid rfl
  unfold RrConflicts
  refine ⟨_, ⟨rfl, trivial⟩, fun H' _ hd => krlisted l m now hd.1, forkNe (fun h0 => ?_) (fun h0 => ?_)⟩
  · rw [fConf_0 h0]
    repeat' first | exact trivial | exact rfl | exact wk_refl _ | refine wkO_cells ?_ | refine wks_cons ?_ ?_ | exact wks_nil | exact wk_nil _ _ _ (.inl rfl) | (exact wk_Q (by omega)) | refine wk_tupL ?_ | refine wk_aggL ?_ | refine ⟨rfl, ?_⟩ | refine ⟨trivial, ?_⟩ | (refine forkD (fun h => ?_) (fun h => ?_)) | (refine forkNe (fun h => ?_) (fun h => ?_)) | (refine forkEq (fun h => ?_) (fun h => ?_)) | refine forkNot ?_ | (refine ⟨vI64 (by omega), ?_⟩) | (refine And.intro (by omega) ?_) | apply And.intro | (exact iEq (by omega)) | (exact vI64 (by omega))
  · rw [fConf_1 h0]
    refine ⟨⟨rfl, trivial⟩, fun H' hl hd => krpairs l m now h0 hl hd.1, ?_⟩
    repeat' first | exact plainQ _ _ | exact trivial | exact rfl | exact wk_refl _ | refine wkO_cells ?_ | refine wks_cons ?_ ?_ | exact wks_nil | exact wk_nil _ _ _ (.inl rfl) | (exact wk_Q (by omega)) | refine wk_tupL ?_ | refine wk_aggL ?_ | refine ⟨rfl, ?_⟩ | refine ⟨trivial, ?_⟩ | (refine forkD (fun h => ?_) (fun h => ?_)) | (refine forkNe (fun h => ?_) (fun h => ?_)) | (refine forkEq (fun h => ?_) (fun h => ?_)) | refine forkNot ?_ | (refine ⟨vI64 (by omega), ?_⟩) | (refine And.intro (by omega) ?_) | apply And.intro | (exact iEq (by omega)) | (exact vI64 (by omega))
theorem fuse_conf {l : List Report} {m : Rates} {now : Int} (h : errOpen l m now = 0) : (togA (told l m now) (2 ^ l.length - 1)).isSome = true ↔ conf (told l m now) l.length = [] := by
  have hf : ∀ i, i < (told l m now).length → inSet (told l m now).length (2 ^ l.length - 1) i = true := fun i hi => by
    rw [told_len] at hi ⊢; exact inSet_full hi
  have hr := opened_told h
  rw [tog_iff hr, okA_congr hf, ← conf_nil hr, told_len]
theorem krFuse (l : List Report) (m : Rates) (now : Int) {H : Heap} {id : Nat} {own : Bool} {z : Nat} (hid : H[id]? = some (.cells own z (l.flatMap reportC))) :
    KCall prog F.polynyaref01_Fuse [.slice (some ⟨id, 0, some 2⟩) l.length l.length, ratesV m, .int .i64 now] H [] (Is (.tuple #[cellV (fFuse l m now).1, .int .i64 (fFuse l m now).2]) H) := by
  refine valR (Eq.mpr (ErFuse _ l m now) ?_) (one_cs (plainR 0 l)) rfl [id] rfl (one_id hid)
  unfold RrFuse
  refine ⟨_, ⟨rfl, trivial⟩, fun H' _ hd => krlisted l m now hd.1, forkNe (fun h0 => tupC (fFuse_1 h0)) (fun h0 => ?_)⟩
  have o := opened h0
  have hn := o.len
  have hn2 := told_len l m now
  have hfc := fuse_conf h0
  refine ⟨⟨rfl, trivial⟩, fun H' hl hd => krpairs l m now h0 hl hd.1, _, rfl, forkD (fun h1 => tupC (fFuse_2 h0 ?_)) (fun h1 => ?_)⟩
  · cases hq : (togA (told l m now) (2 ^ l.length - 1)).isSome with
    | false => rfl
    | true => rw [hfc.1 hq] at h1; simp at h1
  have hsome : (togA (told l m now) (2 ^ l.length - 1)).isSome = true := hfc.2 (List.length_eq_zero_iff.1 (by omega))
  refine ⟨rfl, ⟨Nat.zero_le _, rfl⟩, ?_, fun _ => rfl, ?_⟩
  · repeat' first | exact trivial | exact rfl | exact wk_refl _ | refine wkO_cells ?_ | refine wks_cons ?_ ?_ | exact wks_nil | exact wk_nil _ _ _ (.inl rfl) | (exact wk_Q (by omega)) | refine wk_tupL ?_ | refine wk_aggL ?_ | refine ⟨rfl, ?_⟩ | refine ⟨trivial, ?_⟩ | (refine forkD (fun h => ?_) (fun h => ?_)) | (refine forkNe (fun h => ?_) (fun h => ?_)) | (refine forkEq (fun h => ?_) (fun h => ?_)) | refine forkNot ?_ | (refine ⟨vI64 (by omega), ?_⟩) | (refine And.intro (by omega) ?_) | apply And.intro | (exact iEq (by omega)) | (exact vI64 (by omega))
  rintro ⟨x, c⟩ ⟨hx, hc⟩
  dsimp only at hx hc ⊢
  refine forkD (fun h => ?_) (fun h => ?_)
  · have hlt : x < l.length := by omega
    have g1 := told_get (m := m) (now := now) hlt
    have ht := tog_succ hc
    rw [show inSet (told l m now).length (2 ^ l.length - 1) x = true from by rw [hn2]; exact inSet_full hlt, if_pos rfl, g1] at ht
    have hok : okC (meetC c (tellsC (l.getD x zeroR) m now)) := by
      refine Classical.byContradiction fun hk => ?_
      rw [if_neg hk] at ht
      have := tog_none ht (n := (told l m now).length) (by omega)
      unfold togA at hsome
      rw [this] at hsome; cases hsome
    rw [if_pos hok] at ht
    refine ⟨by omega, partRep hlt, _, trivial, fun H' _ _ => krsaid _ m now (o.each x hlt).1 o.rates ⟨(o.each x hlt).2, o.hour.2⟩ H', _, trivial, fun H' _ _ => krCommon _ _ H', vI64 (by omega), (x + 1, meetC c (tellsC (l.getD x zeroR) m now)), ⟨hlt, ht⟩, (show l.length - (x + 1) < l.length - x by omega), ?_⟩
    repeat' first | exact trivial | exact rfl | exact wk_refl _ | refine wkO_cells ?_ | refine wks_cons ?_ ?_ | exact wks_nil | exact wk_nil _ _ _ (.inl rfl) | (exact wk_Q (by omega)) | refine wk_tupL ?_ | refine wk_aggL ?_ | refine ⟨rfl, ?_⟩ | refine ⟨trivial, ?_⟩ | (refine forkD (fun h => ?_) (fun h => ?_)) | (refine forkNe (fun h => ?_) (fun h => ?_)) | (refine forkEq (fun h => ?_) (fun h => ?_)) | refine forkNot ?_ | (refine ⟨vI64 (by omega), ?_⟩) | (refine And.intro (by omega) ?_) | apply And.intro | (exact iEq (by omega)) | (exact vI64 (by omega))
  · obtain rfl : x = l.length := by omega
    refine tupC ?_
    rw [fFuse_3 h0 hsome]
    unfold togA
    rw [hn2, hc]; rfl
end
end Go.Proofs.YthcjliffpebjaaaGreat
/- Ice: the reference's lists of reports that agree. No condition. -/
namespace Go.Proofs.YthcjliffpebjaaaGreat
open Go Go.K
set_option maxRecDepth 100000
set_option linter.unusedVariables false
set_option linter.unusedSimpArgs false
noncomputable section
attribute [local irreducible] vF hasK popc
theorem boolC_map {g : Value → Value} (hg : ∀ b, g (.bool b) = .bool b) (l : List Bool) : (l.flatMap boolC).map g = l.flatMap boolC := by
  induction l with
  | nil => rfl
  | cons b l ih => rw [List.flatMap_cons, List.map_append, ih]; show [g (.bool b)] ++ _ = _; rw [hg]
theorem boolC_all {g : Value → Bool} (hg : ∀ b, g (.bool b) = true) (l : List Bool) : (l.flatMap boolC).all g = true := by
  induction l with
  | nil => rfl
  | cons b l ih => rw [List.flatMap_cons, List.all_append, ih]; show (g (.bool b) && true) && true = true; rw [hg]; rfl
theorem dB_rn (σ : Nat → Option Nat) (d : Nat) (l : List Bool) : rn σ (d + 2) (dB l) = dB l := by
  show Value.iface _ (.agg ⟨(l.flatMap boolC).map (rn σ (d + 1))⟩) = _
  rw [boolC_map (fun b => rfl)]
theorem dB_ok (d : Nat) (l : List Bool) : rnOk (d + 2) (dB l) = true := boolC_all (fun b => rfl) l
theorem dB_below (n : Nat) (l : List Bool) : belowC n (dB l) = true := boolC_all (fun b => rfl) l
theorem plainDBL (n : Nat) (L : List (List Bool)) : (dBL L).all (belowC n) = true := by
  unfold dBL
  rw [List.all_map, List.all_eq_true]
  intro l _
  exact dB_below n l
theorem dBL_len (L : List (List Bool)) : (dBL L).length = L.length := List.length_map ..
theorem dBL_snoc (L : List (List Bool)) (l : List Bool) : dBL (L ++ [l]) = dBL L ++ [dB l] := List.map_append ..
theorem dBL_at {L : List (List Bool)} {y : Nat} (hy : y < L.length) : (dBL L)[0 + Int.toNat ((y : Nat) : Int) * 1]? = some (dB (L.getD y [])) := by
  unfold dBL
  rw [Int.toNat_natCast, show 0 + y * 1 = y by omega, List.getElem?_map, List.getElem?_eq_getElem hy, List.getD_eq_getElem?_getD, List.getElem?_eq_getElem hy]; rfl
theorem oneD (n : Nat) (L : List (List Bool)) : ((List.take n (List.drop 0 (dBL L))).all fun v => one1 v) = true := by
  rw [List.all_eq_true]
  intro v hv
  have h := List.mem_of_mem_take hv
  rw [List.drop_zero] at h
  obtain ⟨l, _, rfl⟩ := List.mem_map.1 h
  rfl
theorem oneB (n : Nat) (b : List Bool) : ((List.take n (List.drop 0 (b.flatMap boolC))).all fun v => one1 v) = true := by
  rw [List.all_eq_true]
  intro v hv
  have h := List.mem_of_mem_take hv
  rw [List.drop_zero] at h
  obtain ⟨l, _, h⟩ := List.mem_flatMap.1 h
  rw [List.mem_singleton.1 h]
  rfl
theorem wk_nilD {cs : Array Value} : wk (.slice none 0 0) (.iface 1 (.agg cs)) := by
  intro ρ x h
  cases h
  exact .deep0
theorem boolAt0 {xs : List Bool} {k : Nat} (h : k < xs.length) : (xs.flatMap boolC)[Int.toNat ((k : Nat) : Int) * 1]? = some (.bool (xs.getD k false)) :=
  cell_at (n := 1) (f := boolC) (d := false) (c := 0) boolC_len h (by rw [Int.toNat_natCast]; omega) rfl
theorem trueTo_le (b : List Bool) (x : Nat) : trueTo b x ≤ x := Nat.le_trans List.countP_le_length (by rw [List.length_take]; omega)
theorem trueTo_succ {b : List Bool} {x : Nat} (hx : x < b.length) : trueTo b (x + 1) = trueTo b x + (b.getD x false).toNat := by
  unfold trueTo
  rw [List.take_add_one, List.getElem?_eq_getElem hx, List.countP_append, List.getD_eq_getElem?_getD, List.getElem?_eq_getElem hx]
  cases h : b[x] <;> simp [h]
theorem krcount (b : List Bool) (hb : b.length ≤ 4294967296) (H : Heap) : KCall prog F.polynyaref01_count [dB b] H [] (Is (.int .i64 ((trueTo b b.length : Nat) : Int)) H) := by
  refine valK 40 (fun σ => by rw [List.map_cons, List.map_nil, dB_rn σ 3]) rfl (Eq.mpr (Ercount _ b) ?_) H
  unfold Rrcount
  repeat' first | (refine ⟨rfl, Nat.zero_le _, ?_, fun _ => rfl, ?_⟩) | exact (dB_rn _ 1 _).symm | exact trivial | exact rfl | exact wk_refl _ | refine wkO_cells ?_ | refine wks_cons ?_ ?_ | exact wks_nil | exact wk_nil _ _ _ (.inl rfl) | (exact wk_Q (by omega)) | refine wk_tupL ?_ | refine wk_aggL ?_ | refine ⟨rfl, ?_⟩ | refine ⟨trivial, ?_⟩ | (refine forkD (fun h => ?_) (fun h => ?_)) | (refine forkNe (fun h => ?_) (fun h => ?_)) | (refine forkEq (fun h => ?_) (fun h => ?_)) | refine forkNot ?_ | (refine ⟨vI64 (by omega), ?_⟩) | (refine And.intro (by omega) ?_) | apply And.intro | (exact iEq (by omega)) | (exact vI64 (by omega))
  intro x hx
  have ht := trueTo_le b x
  refine forkD (fun h => ?_) (fun h => ?_)
  · have hlt : x < b.length := by omega
    have hs := trueTo_succ hlt
    refine ⟨by omega, boolAt0 hlt, forkB (fun k => ?_) (fun k => ?_)⟩
    · rw [k] at hs
      replace hs : trueTo b (x + 1) = trueTo b x + 1 := hs
      refine ⟨vI64 (by omega), vI64 (by omega), x + 1, by omega, by omega, rfl, ?_⟩
      repeat' first | exact (dB_rn _ 1 _).symm | exact trivial | exact rfl | exact wk_refl _ | refine wkO_cells ?_ | refine wks_cons ?_ ?_ | exact wks_nil | exact wk_nil _ _ _ (.inl rfl) | (exact wk_Q (by omega)) | refine wk_tupL ?_ | refine wk_aggL ?_ | refine ⟨rfl, ?_⟩ | refine ⟨trivial, ?_⟩ | (refine forkD (fun h => ?_) (fun h => ?_)) | (refine forkNe (fun h => ?_) (fun h => ?_)) | (refine forkEq (fun h => ?_) (fun h => ?_)) | refine forkNot ?_ | (refine ⟨vI64 (by omega), ?_⟩) | (refine And.intro (by omega) ?_) | apply And.intro | (exact iEq (by omega)) | (exact vI64 (by omega))
    · rw [k] at hs
      replace hs : trueTo b (x + 1) = trueTo b x := hs
      refine ⟨vI64 (by omega), x + 1, by omega, by omega, rfl, ?_⟩
      repeat' first | exact (dB_rn _ 1 _).symm | exact trivial | exact rfl | exact wk_refl _ | refine wkO_cells ?_ | refine wks_cons ?_ ?_ | exact wks_nil | exact wk_nil _ _ _ (.inl rfl) | (exact wk_Q (by omega)) | refine wk_tupL ?_ | refine wk_aggL ?_ | refine ⟨rfl, ?_⟩ | refine ⟨trivial, ?_⟩ | (refine forkD (fun h => ?_) (fun h => ?_)) | (refine forkNe (fun h => ?_) (fun h => ?_)) | (refine forkEq (fun h => ?_) (fun h => ?_)) | refine forkNot ?_ | (refine ⟨vI64 (by omega), ?_⟩) | (refine And.intro (by omega) ?_) | apply And.intro | (exact iEq (by omega)) | (exact vI64 (by omega))
  · obtain rfl : x = b.length := by omega
    rfl
theorem lst_len (p : List (Nat × Nat)) : ∀ d b, 0 < (lst p d b).length ∧ (lst p d b).length ≤ 2 ^ d
  | 0, b => ⟨Nat.one_pos, Nat.le_refl _⟩
  | d + 1, b => by
    have h1 := lst_len p d (b ++ [true])
    have h2 := lst_len p d (b ++ [false])
    unfold lst
    rw [Nat.pow_succ]
    split
    · rw [List.length_append]; omega
    · rw [List.nil_append]; omega
theorem freeTo_succ {p : List (Nat × Nat)} {b : List Bool} {x : Nat} (h : x < p.length) : freeTo p b (x + 1) = (freeTo p b x && ((p.getD x (0, 0)).2 != b.length || !b.getD (p.getD x (0, 0)).1 false)) := by
  unfold freeTo
  rw [List.take_add_one, List.getElem?_eq_getElem h, List.all_append, List.getD_eq_getElem?_getD, List.getElem?_eq_getElem h]
  simp
theorem pairAt2 {p : List (Nat × Nat)} {x : Nat} (h : x < p.length) : (p.flatMap pairC)[0 + Int.toNat ((x : Nat) : Int) * 2 + 1 * 1]? = some (.int .i64 (((p.getD x (0, 0)).2 : Nat) : Int)) :=
  cell_at (n := 2) (f := pairC) (d := (0, 0)) (c := 1) pairC_len h (by rw [Int.toNat_natCast]; omega) rfl
theorem pairAt1 {p : List (Nat × Nat)} {x : Nat} (h : x < p.length) : (p.flatMap pairC)[0 + Int.toNat ((x : Nat) : Int) * 2 + 0 * 1]? = some (.int .i64 (((p.getD x (0, 0)).1 : Nat) : Int)) :=
  cell_at (n := 2) (f := pairC) (d := (0, 0)) (c := 0) pairC_len h (by rw [Int.toNat_natCast]; omega) rfl
theorem takeB (b : List Bool) : List.take (b.length * 1) (List.drop 0 (b.flatMap boolC)) = b.flatMap boolC := by
  rw [List.drop_zero, List.take_of_length_le (by rw [flat_len boolC_len]; omega)]
theorem dB_snoc (b : List Bool) (v : Bool) : (Value.iface ((0 + b.length) + 1 + 1) (.agg ⟨List.take ((0 + b.length) * 1) (List.drop 0 (List.take (0 * 1) (List.drop 0 ([] : List Value)) ++ List.take (b.length * 1) (List.drop 0 (b.flatMap boolC)))) ++ List.take (1 * 1) (List.drop 0 ([.bool v] : List Value))⟩)) = dB (b ++ [v]) := by
  have hl : (0 + b.length) + 1 + 1 = (b ++ [v]).length + 1 := by rw [List.length_append]; simp
  have hc : List.take ((0 + b.length) * 1) (List.drop 0 (List.take (0 * 1) (List.drop 0 ([] : List Value)) ++ List.take (b.length * 1) (List.drop 0 (b.flatMap boolC)))) ++ List.take (1 * 1) (List.drop 0 ([.bool v] : List Value)) = (b ++ [v]).flatMap boolC := by
    rw [takeB, show List.take (0 * 1) (List.drop 0 ([] : List Value)) ++ b.flatMap boolC = b.flatMap boolC from rfl, Nat.zero_add, takeB, List.flatMap_append]; rfl
  rw [hl, hc]
theorem apB1 {b : List Bool} (h : b.length ≤ 12) (h0 : ¬ b.length = 0) : (0 + b.length) * 1 ≤ 2 ^ 44 ∧ b.length ≠ 0 ∧ (0 ≤ 0 ∧ 0 + 0 * 1 ≤ List.length ([] : List Value)) ∧ (b.length ≤ b.length ∧ 0 + b.length * 1 ≤ List.length (b.flatMap boolC)) ∧ ((List.take (b.length * 1) (List.drop 0 (b.flatMap boolC))).all fun v => one1 v) = true :=
  ⟨by omega, h0, ⟨Nat.le_refl _, Nat.le_refl _⟩, ⟨Nat.le_refl _, by rw [flat_len boolC_len]; omega⟩, oneB _ _⟩
theorem apB2 {b : List Bool} (v : Bool) (h : b.length ≤ 12) : ((0 + b.length) + 1) * 1 ≤ 2 ^ 44 ∧ 1 ≠ 0 ∧ ((0 + b.length) ≤ (0 + b.length) ∧ 0 + (0 + b.length) * 1 ≤ List.length (List.take (0 * 1) (List.drop 0 ([] : List Value)) ++ List.take (b.length * 1) (List.drop 0 (b.flatMap boolC)))) ∧ (1 ≤ 1 ∧ 0 + 1 * 1 ≤ List.length ([.bool v] : List Value)) ∧ ((List.take (1 * 1) (List.drop 0 ([.bool v] : List Value))).all fun v => one1 v) = true :=
  ⟨by omega, by decide, ⟨Nat.le_refl _, by rw [takeB]; show _ ≤ List.length (b.flatMap boolC); rw [flat_len boolC_len]; omega⟩, ⟨Nat.le_refl _, Nat.le_refl _⟩, rfl⟩
theorem takeD (L : List (List Bool)) : List.take (L.length * 1) (List.drop 0 (dBL L)) = dBL L := by
  rw [List.drop_zero, List.take_of_length_le (by rw [dBL_len]; omega)]
theorem krlists (p : List (Nat × Nat)) (hp : ∀ q ∈ p, q.1 < q.2) (hpl : p.length ≤ 4294967296) : ∀ (d : Nat) (b : List Bool), b.length + d ≤ 12 → ∀ {H : Heap} {L : Nat} (hL : H.length = L) {id : Nat} {own : Bool} {z : Nat} (hid : H[id]? = some (.cells own z (p.flatMap pairC))),
    KCall prog F.polynyaref01_lists [dB b, .int .i64 (((b.length + d : Nat)) : Int), .slice (some ⟨id, 0, some 2⟩) p.length p.length] H [] (Is (.slice (some ⟨L, 0, some 1⟩) (lst p d b).length (lst p d b).length) (H ++ [.cells true 1 (dBL (lst p d b))])) := by
  intro d
  induction d with
  | zero =>
    intro b hb H L hL id own z hid
    subst hL
    refine valQ (fun i => .slice (some ⟨i, 0, some 1⟩) (lst p 0 b).length (lst p 0 b).length) (Eq.mpr (Erlists b 0 p) ?_) (plainQ 0 p) (fun n => plainDBL n _) rfl (by simp [rn, sgOnly]) (fun j => by simp [rn, sgUp]) hid (by rw [List.map_cons, dB_rn _ 1]; rfl)
    unfold Rrlists
    have hl : (lst p 0 b).length = 1 := rfl
    refine forkEq (fun _ => ⟨rfl, ?_, ⟨rfl, plainDBL _ _⟩, trivial⟩) (fun h => absurd rfl h)
    rw [hl]
    exact wk_Q (by omega)
  | succ d ih =>
    intro b hb H L hL id own z hid
    subst hL
    refine valQ (fun i => .slice (some ⟨i, 0, some 1⟩) (lst p (d + 1) b).length (lst p (d + 1) b).length) (Eq.mpr (Erlists b (d + 1) p) ?_) (plainQ 0 p) (fun n => plainDBL n _) rfl (by simp [rn, sgOnly]) (fun j => by simp [rn, sgUp]) hid (by rw [List.map_cons, dB_rn _ 1]; rfl)
    unfold Rrlists
    refine forkEq (fun h => absurd h (by omega)) (fun _ => ?_)
    refine ⟨rfl, Nat.zero_le _, ?_, fun _ => rfl, ?_⟩
    · repeat' first | exact (dB_rn _ 1 _).symm | exact trivial | exact rfl | exact wk_refl _ | refine wkO_cells ?_ | refine wks_cons ?_ ?_ | exact wks_nil | exact wk_nil _ _ _ (.inl rfl) | (exact wk_Q (by omega)) | refine wk_tupL ?_ | refine wk_aggL ?_ | refine ⟨rfl, ?_⟩ | refine ⟨trivial, ?_⟩ | (refine forkD (fun h => ?_) (fun h => ?_)) | (refine forkNe (fun h => ?_) (fun h => ?_)) | (refine forkEq (fun h => ?_) (fun h => ?_)) | refine forkNot ?_ | (refine ⟨vI64 (by omega), ?_⟩) | (refine And.intro (by omega) ?_) | apply And.intro | (exact iEq (by omega)) | (exact vI64 (by omega))
    intro x hx
    refine forkD (fun h => ?_) (fun h => ?_)
    · have hlt : x < p.length := by omega
      have hq := hp (p.getD x (0, 0)) (getD_memR hlt)
      have hs := freeTo_succ (b := b) hlt
      refine forkB (fun hf => ?_) (fun hf => ?_)
      · rw [hf, Bool.true_and] at hs
        refine ⟨by omega, pairAt2 hlt, forkNe (fun h2 => ?_) (fun h2 => ?_)⟩
        · have h3 : freeTo p b (x + 1) = true := by rw [hs, bne_iff_ne.2 (fun e => h2 (by rw [e]))]; rfl
          refine ⟨vI64 (by omega), x + 1, by omega, by omega, rfl, ?_⟩
          repeat' first | exact (dB_rn _ 1 _).symm | exact bEq h3.symm | exact trivial | exact rfl | exact wk_refl _ | refine wkO_cells ?_ | refine wks_cons ?_ ?_ | exact wks_nil | exact wk_nil _ _ _ (.inl rfl) | (exact wk_Q (by omega)) | refine wk_tupL ?_ | refine wk_aggL ?_ | refine ⟨rfl, ?_⟩ | refine ⟨trivial, ?_⟩ | (refine forkD (fun h => ?_) (fun h => ?_)) | (refine forkNe (fun h => ?_) (fun h => ?_)) | (refine forkEq (fun h => ?_) (fun h => ?_)) | refine forkNot ?_ | (refine ⟨vI64 (by omega), ?_⟩) | (refine And.intro (by omega) ?_) | apply And.intro | (exact iEq (by omega)) | (exact vI64 (by omega))
        · have h4 : (p.getD x (0, 0)).2 = b.length := by omega
          have h3 : freeTo p b (x + 1) = !b.getD (p.getD x (0, 0)).1 false := by rw [hs, h4, bne_self_eq_false, Bool.false_or]
          refine ⟨by omega, pairAt1 hlt, by omega, boolAt0 (by omega), vI64 (by omega), x + 1, by omega, by omega, rfl, ?_⟩
          repeat' first | exact (dB_rn _ 1 _).symm | exact bEq h3.symm | exact trivial | exact rfl | exact wk_refl _ | refine wkO_cells ?_ | refine wks_cons ?_ ?_ | exact wks_nil | exact wk_nil _ _ _ (.inl rfl) | (exact wk_Q (by omega)) | refine wk_tupL ?_ | refine wk_aggL ?_ | refine ⟨rfl, ?_⟩ | refine ⟨trivial, ?_⟩ | (refine forkD (fun h => ?_) (fun h => ?_)) | (refine forkNe (fun h => ?_) (fun h => ?_)) | (refine forkEq (fun h => ?_) (fun h => ?_)) | refine forkNot ?_ | (refine ⟨vI64 (by omega), ?_⟩) | (refine And.intro (by omega) ?_) | apply And.intro | (exact iEq (by omega)) | (exact vI64 (by omega))
      · rw [hf, Bool.false_and] at hs
        refine ⟨vI64 (by omega), x + 1, by omega, by omega, rfl, ?_⟩
        repeat' first | exact (dB_rn _ 1 _).symm | exact bEq hs.symm | exact trivial | exact rfl | exact wk_refl _ | refine wkO_cells ?_ | refine wks_cons ?_ ?_ | exact wks_nil | exact wk_nil _ _ _ (.inl rfl) | (exact wk_Q (by omega)) | refine wk_tupL ?_ | refine wk_aggL ?_ | refine ⟨rfl, ?_⟩ | refine ⟨trivial, ?_⟩ | (refine forkD (fun h => ?_) (fun h => ?_)) | (refine forkNe (fun h => ?_) (fun h => ?_)) | (refine forkEq (fun h => ?_) (fun h => ?_)) | refine forkNot ?_ | (refine ⟨vI64 (by omega), ?_⟩) | (refine And.intro (by omega) ?_) | apply And.intro | (exact iEq (by omega)) | (exact vI64 (by omega))
    · obtain rfl : x = p.length := by omega
      have hd := Nat.pow_le_pow_right (show 0 < 2 by decide) (show d ≤ 12 by omega)
      have t1 := lst_len p d (b ++ [true])
      have t2 := lst_len p d (b ++ [false])
      have call : ∀ (v : Bool) {H' : Heap} {L : Nat}, H'.length = L → H'[0]? = some (.cells false 0 (p.flatMap pairC)) → KCall prog F.polynyaref01_lists [dB (b ++ [v]), .int .i64 (((b.length + (d + 1) : Nat)) : Int), .slice (some ⟨0, 0, some 2⟩) p.length p.length] H' [] (Is (.slice (some ⟨L, 0, some 1⟩) (lst p d (b ++ [v])).length (lst p d (b ++ [v])).length) (H' ++ [.cells true 1 (dBL (lst p d (b ++ [v])))])) := by
        intro v H' L h1 h2
        have e : (b ++ [v]).length + d = b.length + (d + 1) := by rw [List.length_append]; simp; omega
        have := ih (b ++ [v]) (by omega) h1 h2
        rwa [e] at this
      have call0 : b.length = 0 → ∀ (v : Bool) {H' : Heap} {L : Nat}, H'.length = L → H'[0]? = some (.cells false 0 (p.flatMap pairC)) → KCall prog F.polynyaref01_lists [.iface (1 + 1) (.agg ⟨[.bool v]⟩), .int .i64 (((b.length + (d + 1) : Nat)) : Int), .slice (some ⟨0, 0, some 2⟩) p.length p.length] H' [] (Is (.slice (some ⟨L, 0, some 1⟩) (lst p d (b ++ [v])).length (lst p d (b ++ [v])).length) (H' ++ [.cells true 1 (dBL (lst p d (b ++ [v])))])) := by
        intro h0 v H' L h1 h2
        obtain rfl := List.length_eq_zero_iff.1 h0
        exact call v h1 h2
      have hb12 : b.length ≤ 12 := by omega
      have n2 : ¬ (lst p (d + 1 - 1) (b ++ [false])).length = 0 := by rw [Nat.add_sub_cancel]; omega
      refine forkB (fun hf => ?_) (fun hf => ?_)
      · have el : lst p (d + 1) b = lst p (d + 1 - 1) (b ++ [true]) ++ lst p (d + 1 - 1) (b ++ [false]) := by
          show (if _ then _ else _) ++ _ = _
          rw [if_pos hf]; rfl
        have hlen : (lst p (d + 1) b).length = (lst p (d + 1 - 1) (b ++ [true])).length + (lst p (d + 1 - 1) (b ++ [false])).length := by rw [el, List.length_append]
        have hcell : List.take ((lst p (d + 1 - 1) (b ++ [true])).length * 1) (List.drop 0 (dBL (lst p (d + 1 - 1) (b ++ [true])))) ++ List.take ((lst p (d + 1 - 1) (b ++ [false])).length * 1) (List.drop 0 (dBL (lst p (d + 1 - 1) (b ++ [false])))) = dBL (lst p (d + 1) b) := by
          rw [takeD, takeD, el]; exact List.map_append.symm
        have big : ((lst p (d + 1 - 1) (b ++ [true])).length + (lst p (d + 1 - 1) (b ++ [false])).length) * 24 ≤ 2 ^ 44 := by rw [Nat.add_sub_cancel]; omega
        refine ⟨fun hb0 => ⟨⟨by omega, hb0⟩, ⟨rfl, trivial⟩, fun H' hl hd => call0 hb0 true hl hd.1, ⟨fun _ => ⟨⟨by omega, hb0⟩, ⟨rfl, trivial⟩, fun H' hl hd => call0 hb0 false hl hd.1, ?_⟩, fun h => absurd hb0 h⟩⟩, fun hb0 => ⟨apB1 hb12 hb0, rfl, apB2 _ hb12, rfl, ⟨rfl, trivial⟩, fun H' hl hd => by rw [dB_snoc]; exact call true hl hd.1, ⟨fun h => absurd h hb0, fun _ => ⟨apB1 hb12 hb0, rfl, apB2 _ hb12, rfl, ⟨rfl, trivial⟩, fun H' hl hd => by rw [dB_snoc]; exact call false hl hd.1, ?_⟩⟩⟩⟩
        all_goals
          refine ⟨fun h => absurd h n2, fun _ => ⟨⟨big, n2, ⟨Nat.le_refl _, by rw [dBL_len]; omega⟩, ⟨Nat.le_refl _, by rw [dBL_len]; omega⟩, oneD _ _⟩, rfl, rfl, ?_, ⟨?_, plainDBL _ _⟩, trivial⟩⟩
          · rw [hlen]; exact wk_Q (by omega)
          · rw [hcell]
      · have el : lst p (d + 1) b = lst p (d + 1 - 1) (b ++ [false]) := by
          show (if _ then _ else _) ++ _ = _
          rw [if_neg (by rw [hf]; decide)]; rfl
        have hcell : [] ++ List.take ((lst p (d + 1 - 1) (b ++ [false])).length * 1) (List.drop 0 (dBL (lst p (d + 1 - 1) (b ++ [false])))) = dBL (lst p (d + 1) b) := by
          rw [takeD, el]; rfl
        have big : (0 + (lst p (d + 1 - 1) (b ++ [false])).length) * 24 ≤ 2 ^ 44 := by rw [Nat.add_sub_cancel]; omega
        refine ⟨fun hb0 => ⟨⟨by omega, hb0⟩, ⟨rfl, trivial⟩, fun H' hl hd => call0 hb0 false hl hd.1, ?_⟩, fun hb0 => ⟨apB1 hb12 hb0, rfl, apB2 _ hb12, rfl, ⟨rfl, trivial⟩, fun H' hl hd => by rw [dB_snoc]; exact call false hl hd.1, ?_⟩⟩
        all_goals
          refine ⟨fun h => absurd h n2, fun _ => ⟨⟨big, n2, rfl, ⟨Nat.le_refl _, by rw [dBL_len]; omega⟩, oneD _ _⟩, rfl, rfl, ?_, ⟨?_, plainDBL _ _⟩, trivial⟩⟩
          · rw [el, Nat.zero_add]; exact wk_Q (by omega)
          · rw [hcell]
end
end Go.Proofs.YthcjliffpebjaaaGreat
/- Ice: all lists of truths that are in no conflict, plainly: the greatest are those of the layer, in their order. No condition. -/
namespace Go.Proofs.YthcjliffpebjaaaGreat
set_option linter.unusedSimpArgs false
open Go Go.K Go.Sort
set_option linter.unusedVariables false
noncomputable section
attribute [local irreducible] vF popc
abbrev tru (l : List Bool) (i : Nat) : Bool := l.getD i false
def encB (l : List Bool) : Nat := encP (tru l) l.length
def bitsL (n s : Nat) : List Bool := tabP (inSet n s) n
theorem bitsL_len (n s : Nat) : (bitsL n s).length = n := tabP_len ..
theorem bitsL_get {n s i : Nat} (h : i < n) : tru (bitsL n s) i = inSet n s i := tabP_get h
theorem encP_congr {p q : Nat → Bool} : ∀ {n : Nat}, (∀ i, i < n → p i = q i) → encP p n = encP q n
  | 0, _ => rfl
  | n + 1, h => by
    show 2 * encP p n + (p n).toNat = 2 * encP q n + (q n).toNat
    rw [encP_congr (fun i hi => h i (by omega)), h n (by omega)]
theorem tru_app1 {a b : List Bool} {i : Nat} (h : i < a.length) : tru (a ++ b) i = tru a i := by
  unfold tru; rw [List.getD_eq_getElem?_getD, List.getElem?_append_left h, List.getD_eq_getElem?_getD]
theorem tru_snoc (b : List Bool) (v : Bool) : tru (b ++ [v]) b.length = v := by
  unfold tru; rw [List.getD_eq_getElem?_getD, List.getElem?_append_right (Nat.le_refl _), Nat.sub_self]; rfl
theorem encB_snoc (b : List Bool) (v : Bool) : encB (b ++ [v]) = 2 * encB b + v.toNat := by
  unfold encB
  rw [List.length_append]
  show 2 * encP (tru (b ++ [v])) b.length + (tru (b ++ [v]) b.length).toNat = _
  rw [tru_snoc, encP_congr (fun i hi => tru_app1 hi)]
theorem encB_lt (l : List Bool) : encB l < 2 ^ l.length := encP_lt ..
theorem bits_enc (l : List Bool) : bitsL l.length (encB l) = l := by
  refine List.ext_getElem (bitsL_len ..) fun i h1 h2 => ?_
  have := bitsL_get (s := encB l) h2
  rw [show inSet l.length (encB l) i = tru l i from inSet_enc _ _ _ h2] at this
  unfold tru at this
  rwa [getD_elem h1, getD_elem h2] at this
theorem enc_bits {n s : Nat} (h : s < 2 ^ n) : encB (bitsL n s) = s := by
  have h1 := encB_lt (bitsL n s)
  rw [bitsL_len] at h1
  refine Nat.eq_of_testBit_eq fun i => ?_
  rcases Nat.lt_or_ge i n with hi | hi
  · have e1 : inSet n (encB (bitsL n s)) (n - 1 - i) = inSet n s (n - 1 - i) := by
      have := inSet_enc (tru (bitsL n s)) (bitsL n s).length (n - 1 - i) (by rw [bitsL_len]; omega)
      rw [bitsL_get (by omega)] at this
      rw [← this]; unfold encB; rw [bitsL_len]
    unfold inSet at e1
    rwa [show n - 1 - (n - 1 - i) = i by omega] at e1
  · have h2 : 2 ^ n ≤ 2 ^ i := Nat.pow_le_pow_right (by decide) hi
    rw [Nat.testBit_lt_two_pow (by omega), Nat.testBit_lt_two_pow (by omega)]
theorem gt_eq : ∀ {l1 l2 : List Nat}, l1.Pairwise (· > ·) → l2.Pairwise (· > ·) → (∀ x, x ∈ l1 ↔ x ∈ l2) → l1 = l2
  | [], [], _, _, _ => rfl
  | [], b :: l, _, _, h => absurd ((h b).2 (by simp)) (by simp)
  | a :: l, [], _, _, h => absurd ((h a).1 (by simp)) (by simp)
  | a :: l, b :: m, h1, h2, h => by
    have p1 := List.pairwise_cons.1 h1
    have p2 := List.pairwise_cons.1 h2
    obtain rfl : a = b := by
      have ha := (h a).1 (by simp)
      have hb := (h b).2 (by simp)
      rcases List.mem_cons.1 ha with e | e
      · exact e
      · rcases List.mem_cons.1 hb with e' | e'
        · exact e'.symm
        · have := p2.1 a e; have := p1.1 b e'; omega
    rw [gt_eq p1.2 p2.2 fun x => ?_]
    constructor
    · intro hx
      rcases List.mem_cons.1 ((h x).1 (by simp [hx])) with e | e
      · subst e; have := p1.1 x hx; omega
      · exact e
    · intro hx
      rcases List.mem_cons.1 ((h x).2 (by simp [hx])) with e | e
      · subst e; have := p2.1 x hx; omega
      · exact e
/-! ## The lists -/
theorem lst_form (p : List (Nat × Nat)) : ∀ d b, ∀ t ∈ lst p d b, t.length = b.length + d ∧ encB b * 2 ^ d ≤ encB t ∧ encB t < (encB b + 1) * 2 ^ d
  | 0, b, t, h => by
    rw [List.mem_singleton.1 h]
    exact ⟨rfl, by simp, by simp⟩
  | d + 1, b, t, h => by
    have key : ∀ v, t ∈ lst p d (b ++ [v]) → t.length = b.length + (d + 1) ∧ (2 * encB b + v.toNat) * 2 ^ d ≤ encB t ∧ encB t < (2 * encB b + v.toNat + 1) * 2 ^ d := by
      intro v hv
      have := lst_form p d (b ++ [v]) t hv
      rw [encB_snoc, List.length_append] at this
      exact ⟨by have := this.1; simp at this; omega, this.2⟩
    have e : 2 ^ (d + 1) = 2 * 2 ^ d := by rw [Nat.pow_succ]; omega
    have m1 : encB b * 2 ^ (d + 1) = (2 * encB b) * 2 ^ d := by rw [e]; rw [← Nat.mul_assoc, Nat.mul_comm (encB b) 2]
    have m2 : (encB b + 1) * 2 ^ (d + 1) = (2 * encB b + 2) * 2 ^ d := by rw [e, ← Nat.mul_assoc]; congr 1; omega
    rw [m1, m2]
    have mono : ∀ {a c : Nat}, a ≤ c → a * 2 ^ d ≤ c * 2 ^ d := fun h => Nat.mul_le_mul_right _ h
    unfold lst at h
    rcases List.mem_append.1 h with h | h
    · split at h
      · obtain ⟨a1, a2, a3⟩ := key true h
        exact ⟨a1, Nat.le_trans (mono (by omega)) a2, Nat.lt_of_lt_of_le a3 (mono (by simp))⟩
      · cases h
    · obtain ⟨a1, a2, a3⟩ := key false h
      exact ⟨a1, Nat.le_trans (mono (by omega)) a2, Nat.lt_of_lt_of_le a3 (mono (by simp))⟩
theorem lst_gt (p : List (Nat × Nat)) : ∀ d b, ((lst p d b).map encB).Pairwise (· > ·)
  | 0, b => List.pairwise_singleton ..
  | d + 1, b => by
    unfold lst
    rw [List.map_append, List.pairwise_append]
    refine ⟨?_, lst_gt p d _, ?_⟩
    · split
      · exact lst_gt p d _
      · exact .nil
    · intro x hx y hy
      obtain ⟨t, ht, rfl⟩ := List.mem_map.1 hx
      obtain ⟨u, hu, rfl⟩ := List.mem_map.1 hy
      split at ht
      · have a := (lst_form p d _ t ht).2.1
        have c := (lst_form p d _ u hu).2.2
        rw [encB_snoc] at a c
        exact Nat.lt_of_lt_of_le c a
      · cases ht
theorem mem_lst (p : List (Nat × Nat)) : ∀ d b t, t ∈ lst p d b ↔ t.length = b.length + d ∧ t.take b.length = b ∧ ∀ k, b.length ≤ k → k < t.length → tru t k = true → freeTo p (t.take k) p.length = true
  | 0, b, t => by
    constructor
    · intro h
      rw [List.mem_singleton.1 h]
      exact ⟨rfl, List.take_length, fun k h1 h2 => by omega⟩
    · rintro ⟨h1, h2, _⟩
      rw [List.take_of_length_le (by omega)] at h2
      exact List.mem_singleton.2 h2
  | d + 1, b, t => by
    have rec_ := fun v => mem_lst p d (b ++ [v]) t
    have split_ : t.length = b.length + (d + 1) → ∀ v, t.take (b.length + 1) = b ++ [v] ↔ t.take b.length = b ∧ tru t b.length = v := by
      intro hl v
      rw [List.take_add_one, List.getElem?_eq_getElem (by omega)]
      unfold tru
      rw [getD_elem (by omega)]
      constructor
      · intro h
        have := List.append_inj h (by rw [List.length_take]; omega)
        exact ⟨this.1, by have := this.2; simpa using this⟩
      · rintro ⟨h1, h2⟩; rw [h1, h2]; rfl
    unfold lst
    rw [List.mem_append]
    constructor
    · intro h
      have key : ∀ v, t ∈ lst p d (b ++ [v]) → (v = true → freeTo p b p.length = true) → t.length = b.length + (d + 1) ∧ t.take b.length = b ∧ ∀ k, b.length ≤ k → k < t.length → tru t k = true → freeTo p (t.take k) p.length = true := by
        intro v hv hf
        obtain ⟨a1, a2, a3⟩ := (rec_ v).1 hv
        rw [List.length_append] at a1 a2 a3
        replace a1 : t.length = b.length + (d + 1) := by simp at a1; omega
        obtain ⟨c1, c2⟩ := (split_ a1 v).1 a2
        refine ⟨a1, c1, fun k k1 k2 k3 => ?_⟩
        rcases Nat.lt_or_ge b.length k with g | g
        · exact a3 k g k2 k3
        · obtain rfl : k = b.length := by omega
          rw [c1]; exact hf (c2.symm.trans k3)
      rcases h with h | h
      · split at h
        · rename_i hf; exact key true h (fun _ => hf)
        · cases h
      · exact key false h (fun h => by cases h)
    · rintro ⟨h1, h2, h3⟩
      cases hv : tru t b.length with
      | true =>
        left
        have hf := h3 b.length (Nat.le_refl _) (by omega) hv
        rw [h2] at hf
        rw [if_pos hf]
        refine (rec_ true).2 ⟨by rw [List.length_append]; simp; omega, ?_, fun k k1 k2 k3 => h3 k (by rw [List.length_append] at k1; omega) k2 k3⟩
        rw [List.length_append]; exact (split_ h1 true).2 ⟨h2, hv⟩
      | false =>
        right
        refine (rec_ false).2 ⟨by rw [List.length_append]; simp; omega, ?_, fun k k1 k2 k3 => h3 k (by rw [List.length_append] at k1; omega) k2 k3⟩
        rw [List.length_append]; exact (split_ h1 false).2 ⟨h2, hv⟩
theorem free_iff {p : List (Nat × Nat)} {b : List Bool} : freeTo p b p.length = true ↔ ∀ q ∈ p, q.2 = b.length → tru b q.1 = false := by
  unfold freeTo
  rw [List.take_length, List.all_eq_true]
  constructor
  · intro h q hq e
    have := h q hq
    rw [e, bne_self_eq_false, Bool.false_or] at this
    simpa using this
  · intro h q hq
    by_cases e : q.2 = b.length
    · have := h q hq e
      unfold tru at this
      rw [this]; simp
    · rw [bne_iff_ne.2 e]; rfl
theorem tru_take {t : List Bool} {i k : Nat} (h : i < k) : tru (t.take k) i = tru t i := by
  unfold tru
  rw [List.getD_eq_getElem?_getD, List.getElem?_take, if_pos h, List.getD_eq_getElem?_getD]
theorem mem_lstA {ts : List Cell} (hr : rightTs ts) {t : List Bool} : t ∈ lstA ts ↔ t.length = ts.length ∧ okA ts (tru t) := by
  unfold lstA
  rw [mem_lst]
  constructor
  · rintro ⟨h1, _, h3⟩
    have hl : t.length = ts.length := by simpa using h1
    refine ⟨hl, fun i j hi hj a b => ?_⟩
    have bad : ∀ i j, i < j → j < ts.length → tru t i = true → tru t j = true → okC (meetC (ts.getD i zeroC) (ts.getD j zeroC)) := by
      intro i j hij hj a b
      refine Classical.byContradiction fun hc => ?_
      have hm := (mem_conf (Nat.le_refl _) (q := (i, j))).2 ⟨by omega, hij, hj, hc⟩
      have := free_iff.1 (h3 j (Nat.zero_le _) (by omega) b) (i, j) hm (by rw [List.length_take]; show j = _; omega)
      rw [tru_take hij] at this
      rw [this] at a; cases a
    rcases Nat.lt_trichotomy i j with h | h | h
    · exact bad i j h hj a b
    · subst h; exact meet_self (hr i hi)
    · exact (meet_comm _ _).1 (bad j i h hi b a)
  · rintro ⟨hl, h⟩
    refine ⟨by simpa using hl, rfl, fun k _ hk ht => free_iff.2 fun q hq e => ?_⟩
    rw [List.length_take] at e
    obtain ⟨q1, q2, q3, q4⟩ := (mem_conf (Nat.le_refl _)).1 hq
    rw [tru_take (by omega)]
    cases hc : tru t q.1 with
    | false => rfl
    | true => exact absurd (h q.1 q.2 (by omega) (by omega) hc (by rw [show q.2 = k by omega]; exact ht)) q4
/-! ## The greatest -/
theorem trueTo_cnt (l : List Bool) : ∀ x, x ≤ l.length → trueTo l x = cnt x (tru l)
  | 0, _ => rfl
  | x + 1, h => by rw [trueTo_succ (by omega), cnt_succ, trueTo_cnt l x (by omega)]
theorem mostTo_le (L : List (List Bool)) : ∀ x, ∀ i, i < x → trueTo (L.getD i []) (L.getD i []).length ≤ mostTo L x
  | 0, i, h => by omega
  | x + 1, i, h => by
    show _ ≤ max _ _
    rcases Nat.lt_or_ge i x with g | g
    · have := mostTo_le L x i g; omega
    · obtain rfl : i = x := by omega
      omega
theorem mostTo_bd (L : List (List Bool)) {n : Nat} : ∀ x, (∀ i, i < x → trueTo (L.getD i []) (L.getD i []).length ≤ n) → mostTo L x ≤ n
  | 0, _ => Nat.zero_le _
  | x + 1, h => by
    show max _ _ ≤ n
    have := mostTo_bd L x (fun i hi => h i (by omega))
    have := h x (by omega)
    omega
theorem grtTo_filter (L : List (List Bool)) (k : Nat) : ∀ x, x ≤ L.length → grtTo L k x = (L.take x).filter fun l => decide (trueTo l l.length = k)
  | 0, _ => rfl
  | x + 1, h => by
    rw [List.take_add_one, List.getElem?_eq_getElem (by omega), List.filter_append, ← grtTo_filter L k x (by omega)]
    have e : L.getD x [] = L[x] := getD_elem (by omega)
    show (if _ then _ else _) = _
    rw [e]
    by_cases c : trueTo L[x] L[x].length = k
    · rw [if_pos c]; simp [c]
    · rw [if_neg c]; simp [c]
theorem most_max {ts : List Cell} (hr : rightTs ts) (hn : ts.length ≤ 12) : mostTo (lstA ts) (lstA ts).length = maxP ts := by
  refine Nat.le_antisymm (mostTo_bd _ _ fun i hi => ?_) ?_
  · have hm : (lstA ts).getD i [] ∈ lstA ts := getD_memR hi
    obtain ⟨h1, h2⟩ := (mem_lstA hr).1 hm
    rw [trueTo_cnt _ _ (Nat.le_refl _), h1]
    exact cnt_max hr hn h2
  · obtain ⟨h1, h2⟩ := max_some hr hn
    have hm : bitsL ts.length (trustS ts) ∈ lstA ts := (mem_lstA hr).2 ⟨bitsL_len .., (okA_congr fun i hi => bitsL_get hi).2 h1⟩
    obtain ⟨i, hi, e⟩ := getD_ofR (d := []) hm
    have := mostTo_le (lstA ts) _ i hi
    rw [e, trueTo_cnt _ _ (Nat.le_refl _), bitsL_len, cnt_congr (fun i hi => bitsL_get hi), h2] at this
    exact this
theorem mem_grtA {ts : List Cell} (hr : rightTs ts) (hn : ts.length ≤ 12) {t : List Bool} : t ∈ grtA ts ↔ t.length = ts.length ∧ okA ts (tru t) ∧ cnt ts.length (tru t) = maxP ts := by
  unfold grtA
  rw [grtTo_filter _ _ _ (Nat.le_refl _), List.take_length, List.mem_filter, mem_lstA hr, most_max hr hn, decide_eq_true_iff]
  constructor
  · rintro ⟨⟨h1, h2⟩, h3⟩
    rw [trueTo_cnt _ _ (Nat.le_refl _), h1] at h3
    exact ⟨h1, h2, h3⟩
  · rintro ⟨h1, h2, h3⟩
    exact ⟨⟨h1, h2⟩, by rw [trueTo_cnt _ _ (Nat.le_refl _), h1]; exact h3⟩
theorem agr_gt (ts : List Cell) : ∀ j, j ≤ 2 ^ ts.length → (agr ts j).2.Pairwise (· > ·) ∧ ∀ s ∈ (agr ts j).2, 2 ^ ts.length - j ≤ s
  | 0, _ => ⟨.nil, fun s h => by cases h⟩
  | j + 1, hj => by
    obtain ⟨i1, i2⟩ := agr_gt ts j (by omega)
    have i3 : ∀ s ∈ (agr ts j).2, 2 ^ ts.length - (j + 1) ≤ s := fun s h => by have := i2 s h; omega
    rcases Classical.em ((popc (2 ^ ts.length - 1 - j) : Int) < (agr ts j).1) with h1 | h1
    · rw [agr_a rfl h1]; exact ⟨i1, i3⟩
    · cases h2 : (togA ts (2 ^ ts.length - 1 - j)).isSome with
      | false => rw [agr_b rfl h1 h2]; exact ⟨i1, i3⟩
      | true =>
        rcases Classical.em ((agr ts j).1 < popc (2 ^ ts.length - 1 - j)) with h3 | h3
        · rw [agr_c rfl h1 h2 h3]
          exact ⟨List.pairwise_singleton .., fun s h => by rw [List.mem_singleton.1 h]; omega⟩
        · rw [agr_d rfl h1 h2 h3]
          refine ⟨List.pairwise_append.2 ⟨i1, List.pairwise_singleton .., fun a ha b hb => ?_⟩, fun s h => ?_⟩
          · rw [List.mem_singleton.1 hb]; have := i2 a ha; show a > _; omega
          · rcases List.mem_append.1 h with h | h
            · exact i3 s h
            · rw [List.mem_singleton.1 h]; omega
theorem grt_agr {ts : List Cell} (hr : rightTs ts) (hn : ts.length ≤ 12) : (grtA ts).map encB = agrA ts := by
  refine gt_eq ?_ (agr_gt ts _ (Nat.le_refl _)).1 fun s => ?_
  · unfold grtA
    rw [grtTo_filter _ _ _ (Nat.le_refl _), List.take_length]
    exact (lst_gt _ _ _).sublist ((List.filter_sublist ..).map _)
  · show _ ↔ s ∈ agrA ts
    rw [mem_agrA hr hn, List.mem_map]
    constructor
    · rintro ⟨t, ht, rfl⟩
      obtain ⟨h1, h2, h3⟩ := (mem_grtA hr hn).1 ht
      have e : ∀ i, i < ts.length → inSet ts.length (encB t) i = tru t i := fun i hi => by
        rw [← h1] at hi ⊢; exact inSet_enc _ _ _ hi
      have := encB_lt t
      rw [h1] at this
      exact ⟨this, (okA_congr e).2 h2, (cnt_congr e).trans h3⟩
    · rintro ⟨h1, h2, h3⟩
      exact ⟨bitsL ts.length s, (mem_grtA hr hn).2 ⟨bitsL_len .., (okA_congr fun i hi => bitsL_get hi).2 h2, (cnt_congr fun i hi => bitsL_get hi).trans h3⟩, enc_bits h1⟩
theorem grtA_eq {ts : List Cell} (hr : rightTs ts) (hn : ts.length ≤ 12) : grtA ts = (agrA ts).map (bitsL ts.length) := by
  rw [← grt_agr hr hn, List.map_map]
  refine (List.map_id (grtA ts)).symm.trans (List.map_congr_left fun t ht => ?_)
  obtain ⟨h1, _, _⟩ := (mem_grtA hr hn).1 ht
  show t = bitsL ts.length (encB t)
  rw [← h1, bits_enc]
theorem grtA_first {ts : List Cell} (hr : rightTs ts) (hn : ts.length ≤ 12) : 0 < (grtA ts).length ∧ (grtA ts).getD 0 [] = trustL ts ts.length := by
  have h0 : 0 < (agrA ts).length := List.length_pos_iff.2 (agrA_ne ts)
  rw [grtA_eq hr hn]
  refine ⟨by rw [List.length_map]; exact h0, ?_⟩
  rw [List.getD_eq_getElem?_getD, List.getElem?_map]
  unfold trustL trustS
  rw [List.getD_eq_getElem?_getD, List.getElem?_eq_getElem h0]; rfl
end
end Go.Proofs.YthcjliffpebjaaaGreat
/- Ice: the reference's greatest lists, and trusted reports. No condition. -/
namespace Go.Proofs.YthcjliffpebjaaaGreat
open Go Go.K
set_option maxRecDepth 100000
set_option linter.unusedVariables false
set_option linter.unusedSimpArgs false
noncomputable section
attribute [local irreducible] vF hasK popc
theorem grtTo_len (L : List (List Bool)) (k x : Nat) : (grtTo L k x).length ≤ x := by
  induction x with
  | zero => exact Nat.le_refl _
  | succ x ih =>
    unfold grtTo
    split
    · rw [List.length_append]; simp; omega
    · omega
theorem grtTo_a {L : List (List Bool)} {k x : Nat} (h : trueTo (L.getD x []) (L.getD x []).length = k) : grtTo L k (x + 1) = grtTo L k x ++ [L.getD x []] := if_pos h
theorem grtTo_b {L : List (List Bool)} {k x : Nat} (h : ¬ trueTo (L.getD x []) (L.getD x []).length = k) : grtTo L k (x + 1) = grtTo L k x := if_neg h
theorem krgreatest (l : List Report) (m : Rates) (now : Int) (he : errOpen l m now = 0) {H : Heap} {L : Nat} (hL : H.length = L) {id : Nat} {own : Bool} {z : Nat} (hid : H[id]? = some (.cells own z (l.flatMap reportC))) :
    KCall prog F.polynyaref01_greatest [.slice (some ⟨id, 0, some 2⟩) l.length l.length, ratesV m, .int .i64 now] H []
      (Is (.slice (some ⟨L, 0, some 1⟩) (grtA (told l m now)).length (grtA (told l m now)).length) (H ++ [.cells true 1 (dBL (grtA (told l m now)))])) := by
  subst hL
  refine valQ (fun i => .slice (some ⟨i, 0, some 1⟩) (grtA (told l m now)).length (grtA (told l m now)).length) (Eq.mpr (Ergreatest l m now) ?_) (plainR 0 l) (fun n => plainDBL n _) rfl (by simp [rn, sgOnly]) (fun j => by simp [rn, sgUp]) hid rfl
  unfold Rrgreatest
  have hn := (opened he).len
  have hn2 := told_len l m now
  have hcl : (conf (told l m now) l.length).length ≤ 12 * 12 := Nat.le_trans (conf_len (told l m now) l.length) (Nat.mul_le_mul (by omega) (by omega))
  have call : ∀ {H' : Heap} {L : Nat}, H'.length = L → H'[2]? = some (.cells true 2 ((conf (told l m now) l.length).flatMap pairC)) → KCall prog F.polynyaref01_lists [.slice none 0 0, .int .i64 ((l.length : Nat) : Int), .slice (some ⟨2, 0, some 1⟩) (conf (told l m now) l.length).length (conf (told l m now) l.length).length] H' [] (Is (.slice (some ⟨L, 0, some 1⟩) (lstA (told l m now)).length (lstA (told l m now)).length) (H' ++ [.cells true 1 (dBL (lstA (told l m now)))])) := by
    intro H' L h1 h2
    have := krlists (conf (told l m now) l.length) (fun q hq => ((mem_conf (by omega)).1 hq).2.1) (by omega) l.length [] (by show 0 + _ ≤ 12; omega) h1 h2
    rw [show ([] : List Bool).length + l.length = l.length from Nat.zero_add _, show lst (conf (told l m now) l.length) l.length [] = lstA (told l m now) from by unfold lstA; rw [told_len]] at this
    exact this.wkA ⟨wk_nilD, wk_refl _, wk_QR, trivial⟩
  have hAl : (lstA (told l m now)).length ≤ 4096 := by
    have h1 := (lst_len (conf (told l m now) (told l m now).length) (told l m now).length []).2
    have h2 := Nat.pow_le_pow_right (show 0 < 2 by decide) (show (told l m now).length ≤ 12 by omega)
    unfold lstA; omega
  have hAe : ∀ x, ((lstA (told l m now)).getD x []).length ≤ 4294967296 := by
    intro x
    rcases Nat.lt_or_ge x (lstA (told l m now)).length with h | h
    · have := ((mem_lstA (opened_told he)).1 (getD_memR (d := []) h)).1; omega
    · rw [List.getD_eq_getElem?_getD, List.getElem?_eq_none h]; exact Nat.zero_le _
  have hG : grtA (told l m now) = grtTo (lstA (told l m now)) (mostTo (lstA (told l m now)) (lstA (told l m now)).length) (lstA (told l m now)).length := rfl
  obtain ⟨A, hA⟩ : ∃ A, lstA (told l m now) = A := ⟨_, rfl⟩
  rw [hA] at call hAl hAe hG ⊢
  refine ⟨⟨rfl, trivial⟩, fun H' hl hd => krpairs l m now he hl hd.1, ⟨rfl, trivial⟩, fun H' hl hd => call hl hd.1, rfl, Nat.zero_le _, ?_, fun _ => rfl, ?_⟩
  · repeat' first | exact trivial | exact rfl | exact wk_refl _ | refine wkO_cells ?_ | refine wks_cons ?_ ?_ | exact wks_nil | exact wk_nil _ _ _ (.inl rfl) | (exact wk_Q (by omega)) | refine wk_tupL ?_ | refine wk_aggL ?_ | refine ⟨rfl, ?_⟩ | refine ⟨trivial, ?_⟩ | (refine forkD (fun h => ?_) (fun h => ?_)) | (refine forkNe (fun h => ?_) (fun h => ?_)) | (refine forkEq (fun h => ?_) (fun h => ?_)) | refine forkNot ?_ | (refine ⟨vI64 (by omega), ?_⟩) | (refine And.intro (by omega) ?_) | apply And.intro | (exact iEq (by omega)) | (exact vI64 (by omega))
  intro x hx
  refine ⟨_, rfl, forkD (fun h => ?_) (fun h => ?_)⟩
  · have hlt : x < A.length := by omega
    have e : mostTo A (x + 1) = max (mostTo A x) (trueTo (A.getD x []) (A.getD x []).length) := rfl
    refine ⟨_, rfl, by omega, dBL_at hlt, _, trivial, fun H' _ _ => krcount _ (hAe x) H', vI64 (by omega), x + 1, by omega, by omega, rfl, ?_⟩
    repeat' first | (exact iEq (by rw [e]; split <;> omega)) | exact trivial | exact rfl | exact wk_refl _ | refine wkO_cells ?_ | refine wks_cons ?_ ?_ | exact wks_nil | exact wk_nil _ _ _ (.inl rfl) | (exact wk_Q (by omega)) | refine wk_tupL ?_ | refine wk_aggL ?_ | refine ⟨rfl, ?_⟩ | refine ⟨trivial, ?_⟩ | (refine forkD (fun h => ?_) (fun h => ?_)) | (refine forkNe (fun h => ?_) (fun h => ?_)) | (refine forkEq (fun h => ?_) (fun h => ?_)) | refine forkNot ?_ | (refine ⟨vI64 (by omega), ?_⟩) | (refine And.intro (by omega) ?_) | apply And.intro | (exact iEq (by omega)) | (exact vI64 (by omega))
  · obtain rfl : x = A.length := by omega
    refine ⟨rfl, Nat.zero_le _, ?_, fun _ => rfl, ?_⟩
    · repeat' first | exact trivial | exact rfl | exact wk_refl _ | refine wkO_cells ?_ | refine wks_cons ?_ ?_ | exact wks_nil | exact wk_nil _ _ _ (.inl rfl) | (exact wk_Q (by omega)) | refine wk_tupL ?_ | refine wk_aggL ?_ | refine ⟨rfl, ?_⟩ | refine ⟨trivial, ?_⟩ | (refine forkD (fun h => ?_) (fun h => ?_)) | (refine forkNe (fun h => ?_) (fun h => ?_)) | (refine forkEq (fun h => ?_) (fun h => ?_)) | refine forkNot ?_ | (refine ⟨vI64 (by omega), ?_⟩) | (refine And.intro (by omega) ?_) | apply And.intro | (exact iEq (by omega)) | (exact vI64 (by omega))
    intro y hy
    have hgl := grtTo_len A (mostTo A A.length) y
    refine ⟨_, rfl, forkD (fun h2 => ?_) (fun h2 => ?_)⟩
    · have hlt : y < A.length := by omega
      refine ⟨by omega, dBL_at hlt, _, trivial, fun H' _ _ => krcount _ (hAe y) H', _, rfl, forkEq (fun h3 => ?_) (fun h3 => ?_)⟩
      · have hs := grtTo_a (show trueTo (A.getD y []) (A.getD y []).length = mostTo A A.length by omega)
        refine ⟨by omega, dBL_at hlt, ⟨by omega, by decide, ⟨Nat.le_refl _, by rw [dBL_len]; omega⟩, ⟨Nat.le_refl _, Nat.le_refl _⟩, rfl⟩, rfl, vI64 (by omega), y + 1, by omega, by omega, rfl, ?_⟩
        have hl1 : (grtTo A (mostTo A A.length) (y + 1)).length = (grtTo A (mostTo A A.length) y).length + 1 := by rw [hs]; exact List.length_append
        have hc : List.take ((grtTo A (mostTo A A.length) y).length * 1) (List.drop 0 (dBL (grtTo A (mostTo A A.length) y))) ++ List.take (1 * 1) (List.drop 0 [dB (A.getD y [])]) = dBL (grtTo A (mostTo A A.length) (y + 1)) := by rw [hs, dBL_snoc, takeD]; rfl
        repeat' first | exact plainDBL _ _ | (exact (by rw [hl1]; exact wk_Q (by omega))) | (exact congrArg (fun l => some (KObj.cells true 1 l)) hc) | exact trivial | exact rfl | exact wk_refl _ | refine wkO_cells ?_ | refine wks_cons ?_ ?_ | exact wks_nil | exact wk_nil _ _ _ (.inl rfl) | (exact wk_Q (by omega)) | refine wk_tupL ?_ | refine wk_aggL ?_ | refine ⟨rfl, ?_⟩ | refine ⟨trivial, ?_⟩ | (refine forkD (fun h => ?_) (fun h => ?_)) | (refine forkNe (fun h => ?_) (fun h => ?_)) | (refine forkEq (fun h => ?_) (fun h => ?_)) | refine forkNot ?_ | (refine ⟨vI64 (by omega), ?_⟩) | (refine And.intro (by omega) ?_) | apply And.intro | (exact iEq (by omega)) | (exact vI64 (by omega))
      · have hs := grtTo_b (show ¬ trueTo (A.getD y []) (A.getD y []).length = mostTo A A.length by omega)
        refine ⟨vI64 (by omega), y + 1, by omega, by omega, rfl, ?_⟩
        rw [hs]
        repeat' first | exact plainDBL _ _ | exact trivial | exact rfl | exact wk_refl _ | refine wkO_cells ?_ | refine wks_cons ?_ ?_ | exact wks_nil | exact wk_nil _ _ _ (.inl rfl) | (exact wk_Q (by omega)) | refine wk_tupL ?_ | refine wk_aggL ?_ | refine ⟨rfl, ?_⟩ | refine ⟨trivial, ?_⟩ | (refine forkD (fun h => ?_) (fun h => ?_)) | (refine forkNe (fun h => ?_) (fun h => ?_)) | (refine forkEq (fun h => ?_) (fun h => ?_)) | refine forkNot ?_ | (refine ⟨vI64 (by omega), ?_⟩) | (refine And.intro (by omega) ?_) | apply And.intro | (exact iEq (by omega)) | (exact vI64 (by omega))
    · obtain rfl : y = A.length := by omega
      rw [hG]
      repeat' first | exact plainDBL _ _ | exact trivial | exact rfl | exact wk_refl _ | refine wkO_cells ?_ | refine wks_cons ?_ ?_ | exact wks_nil | exact wk_nil _ _ _ (.inl rfl) | (exact wk_Q (by omega)) | refine wk_tupL ?_ | refine wk_aggL ?_ | refine ⟨rfl, ?_⟩ | refine ⟨trivial, ?_⟩ | (refine forkD (fun h => ?_) (fun h => ?_)) | (refine forkNe (fun h => ?_) (fun h => ?_)) | (refine forkEq (fun h => ?_) (fun h => ?_)) | refine forkNot ?_ | (refine ⟨vI64 (by omega), ?_⟩) | (refine And.intro (by omega) ?_) | apply And.intro | (exact iEq (by omega)) | (exact vI64 (by omega))
theorem krtrusted (l : List Report) (m : Rates) (now : Int) (h0 : errOpen l m now = 0) {H : Heap} {id : Nat} {own : Bool} {z : Nat} (hid : H[id]? = some (.cells own z (l.flatMap reportC))) :
    KCall prog F.polynyaref01_trusted [.slice (some ⟨id, 0, some 2⟩) l.length l.length, ratesV m, .int .i64 now] H [] (Is (.tuple #[dB (trustL (told l m now) l.length), cellV ((togA (told l m now) (trustS (told l m now))).getD zeroC)]) H) := by
  refine valR (Eq.mpr (Ertrusted _ l m now) ?_) (one_cs (plainR 0 l)) (by show (belowC 0 (dB _) && (true && true)) = true; rw [dB_below]; rfl) [id] rfl (one_id hid)
  unfold Rrtrusted
  have o := opened h0
  have hn := o.len
  have hn2 := told_len l m now
  have hsome := (trustS_ok (told l m now)).2
  obtain ⟨hg1, hg2⟩ := grtA_first (opened_told h0) (by omega)
  rw [hn2] at hg2
  rw [hg2]
  have htl := trustL_len (told l m now) l.length
  have at0 : (dBL (grtA (told l m now)))[0]? = some (dB (trustL (told l m now) l.length)) := by
    have := dBL_at (y := 0) hg1
    rw [hg2] at this
    exact this
  refine ⟨⟨rfl, trivial⟩, fun H' hl hd => krgreatest l m now h0 hl hd.1, by omega, at0, rfl, ⟨Nat.zero_le _, rfl⟩, ?_, fun _ => rfl, ?_⟩
  · repeat' first | exact (dB_rn _ 1 _).symm | exact trivial | exact rfl | exact wk_refl _ | refine wkO_cells ?_ | refine wks_cons ?_ ?_ | exact wks_nil | exact wk_nil _ _ _ (.inl rfl) | (exact wk_Q (by omega)) | refine wk_tupL ?_ | refine wk_aggL ?_ | refine ⟨rfl, ?_⟩ | refine ⟨trivial, ?_⟩ | (refine forkD (fun h => ?_) (fun h => ?_)) | (refine forkNe (fun h => ?_) (fun h => ?_)) | (refine forkEq (fun h => ?_) (fun h => ?_)) | refine forkNot ?_ | (refine ⟨vI64 (by omega), ?_⟩) | (refine And.intro (by omega) ?_) | apply And.intro | (exact iEq (by omega)) | (exact vI64 (by omega))
  rintro ⟨x, c⟩ ⟨hx, hc⟩
  dsimp only at hx hc ⊢
  refine forkD (fun h => ?_) (fun h => ?_)
  · have hlt : x < l.length := by omega
    have g1 := told_get (m := m) (now := now) hlt
    have ht := tog_succ hc
    have hq : (trustL (told l m now) l.length).getD x false = inSet (told l m now).length (trustS (told l m now)) x := tabP_get hlt
    refine ⟨by omega, boolAt0 (by omega), forkB (fun k => ?_) (fun k => ?_)⟩
    · rw [show inSet (told l m now).length (trustS (told l m now)) x = true from hq.symm.trans k, if_pos rfl, g1] at ht
      have hok : okC (meetC c (tellsC (l.getD x zeroR) m now)) := by
        refine Classical.byContradiction fun hk => ?_
        rw [if_neg hk] at ht
        have := tog_none ht (n := (told l m now).length) (by omega)
        unfold togA at hsome
        rw [this] at hsome; cases hsome
      rw [if_pos hok] at ht
      refine ⟨by omega, partRep hlt, _, trivial, fun H' _ _ => krsaid _ m now (o.each x hlt).1 o.rates ⟨(o.each x hlt).2, o.hour.2⟩ H', _, trivial, fun H' _ _ => krCommon _ _ H', vI64 (by omega), (x + 1, meetC c (tellsC (l.getD x zeroR) m now)), ⟨hlt, ht⟩, (show l.length - (x + 1) < l.length - x by omega), ?_⟩
      repeat' first | exact (dB_rn _ 1 _).symm | exact trivial | exact rfl | exact wk_refl _ | refine wkO_cells ?_ | refine wks_cons ?_ ?_ | exact wks_nil | exact wk_nil _ _ _ (.inl rfl) | (exact wk_Q (by omega)) | refine wk_tupL ?_ | refine wk_aggL ?_ | refine ⟨rfl, ?_⟩ | refine ⟨trivial, ?_⟩ | (refine forkD (fun h => ?_) (fun h => ?_)) | (refine forkNe (fun h => ?_) (fun h => ?_)) | (refine forkEq (fun h => ?_) (fun h => ?_)) | refine forkNot ?_ | (refine ⟨vI64 (by omega), ?_⟩) | (refine And.intro (by omega) ?_) | apply And.intro | (exact iEq (by omega)) | (exact vI64 (by omega))
    · rw [show inSet (told l m now).length (trustS (told l m now)) x = false from hq.symm.trans k, if_neg (by decide)] at ht
      refine ⟨vI64 (by omega), (x + 1, c), ⟨hlt, ht⟩, (show l.length - (x + 1) < l.length - x by omega), ?_⟩
      repeat' first | exact (dB_rn _ 1 _).symm | exact trivial | exact rfl | exact wk_refl _ | refine wkO_cells ?_ | refine wks_cons ?_ ?_ | exact wks_nil | exact wk_nil _ _ _ (.inl rfl) | (exact wk_Q (by omega)) | refine wk_tupL ?_ | refine wk_aggL ?_ | refine ⟨rfl, ?_⟩ | refine ⟨trivial, ?_⟩ | (refine forkD (fun h => ?_) (fun h => ?_)) | (refine forkNe (fun h => ?_) (fun h => ?_)) | (refine forkEq (fun h => ?_) (fun h => ?_)) | refine forkNot ?_ | (refine ⟨vI64 (by omega), ?_⟩) | (refine And.intro (by omega) ?_) | apply And.intro | (exact iEq (by omega)) | (exact vI64 (by omega))
  · obtain rfl : x = l.length := by omega
    have : (togA (told l m now) (trustS (told l m now))).getD zeroC = c := by
      unfold togA
      rw [hn2, hc]; rfl
    rw [this]
theorem tupB_rn (σ : Nat → Option Nat) (b : List Bool) (c : Cell) (e : Int) : rn σ 3 (.tuple #[dB b, cellV c, .int .i64 e]) = .tuple #[dB b, cellV c, .int .i64 e] := by
  show Value.tuple ⟨[rn σ (0 + 2) (dB b), _, _]⟩ = _
  rw [dB_rn]; rfl
theorem fTr_1 {l : List Report} {m : Rates} {now : Int} (h : errOpen l m now = 0) : fTrust l m now = (trustL (told l m now) l.length, (togA (told l m now) (trustS (told l m now))).getD zeroC, 0) := if_pos h
theorem krTrust (l : List Report) (m : Rates) (now : Int) {H : Heap} {id : Nat} {own : Bool} {z : Nat} (hid : H[id]? = some (.cells own z (l.flatMap reportC))) :
    KCall prog F.polynyaref01_Trust [.slice (some ⟨id, 0, some 2⟩) l.length l.length, ratesV m, .int .i64 now] H [] (Is (.tuple #[dB (fTrust l m now).1, cellV (fTrust l m now).2.1, .int .i64 (fTrust l m now).2.2]) H) := by
  have key := fun hc => valN (css := [l.flatMap reportC]) (v := .tuple #[dB (fTrust l m now).1, cellV (fTrust l m now).2.1, .int .i64 (fTrust l m now).2.2]) (new := []) (Eq.mpr (ErTrust l m now) hc) (one_cs (plainR 0 l))
    (by show (rnOk (0 + 2) (dB _) && _) = true; rw [dB_ok]; rfl) (tupB_rn _ _ _ _) rfl rfl (H := H) [id] rfl (one_id hid)
  rw [tupB_rn, show H ++ (List.map (fun x : Bool × KObj => x.2) ([] : List (Bool × KObj))).map (rno (sgUp (0 + [l.flatMap reportC].length) H.length) 3) = H from List.append_nil _] at key
  refine key ?_
  clear key
  unfold RrTrust
  refine ⟨_, ⟨rfl, trivial⟩, fun H' _ hd => krlisted l m now hd.1, forkNe (fun h0 => ?_) (fun h0 => ?_)⟩
  · rw [fTrust_0 h0]
    repeat' first | exact wk_nilD | exact trivial | exact rfl | exact wk_refl _ | refine wkO_cells ?_ | refine wks_cons ?_ ?_ | exact wks_nil | exact wk_nil _ _ _ (.inl rfl) | (exact wk_Q (by omega)) | refine wk_tupL ?_ | refine wk_aggL ?_ | refine ⟨rfl, ?_⟩ | refine ⟨trivial, ?_⟩ | (refine forkD (fun h => ?_) (fun h => ?_)) | (refine forkNe (fun h => ?_) (fun h => ?_)) | (refine forkEq (fun h => ?_) (fun h => ?_)) | refine forkNot ?_ | (refine ⟨vI64 (by omega), ?_⟩) | (refine And.intro (by omega) ?_) | apply And.intro | (exact iEq (by omega)) | (exact vI64 (by omega))
  · rw [fTr_1 h0]
    exact ⟨⟨rfl, trivial⟩, fun H' hl hd => krtrusted l m now h0 hd.1, rfl, wk_of_eq (tupB_rn _ _ _ _).symm, trivial⟩
theorem krbefore (a b : List Int) (hab : a.length = b.length) (ha : a.length ≤ 4294967296) (H : Heap) : KCall prog F.polynyaref01_before [dI a, dI b] H [] (Is (.bool (decide (cmpL a b < 0))) H) := by
  refine valK 40 (fun σ => by rw [List.map_cons, List.map_cons, List.map_nil, dI_rn σ 2, dI_rn σ 2]) rfl (Eq.mpr (Erbefore _ a b) ?_) H
  unfold Rrbefore
  repeat' first | (refine ⟨rfl, ⟨Nat.zero_le _, rfl⟩, ?_, fun _ => rfl, ?_⟩) | exact (dI_rn _ 0 _).symm | exact trivial | exact rfl | exact wk_refl _ | refine wkO_cells ?_ | refine wks_cons ?_ ?_ | exact wks_nil | exact wk_nil _ _ _ (.inl rfl) | (exact wk_Q (by omega)) | refine wk_tupL ?_ | refine wk_aggL ?_ | refine ⟨rfl, ?_⟩ | refine ⟨trivial, ?_⟩ | (refine forkD (fun h => ?_) (fun h => ?_)) | (refine forkNe (fun h => ?_) (fun h => ?_)) | (refine forkEq (fun h => ?_) (fun h => ?_)) | refine forkNot ?_ | (refine ⟨vI64 (by omega), ?_⟩) | (refine And.intro (by omega) ?_) | apply And.intro | (exact iEq (by omega)) | (exact vI64 (by omega))
  rintro x ⟨h1, h3⟩
  have hd := cmpL_drop x a b h1 (by omega) h3
  refine forkD (fun h => ?_) (fun h => ?_)
  · have hx : x < a.length := by omega
    have hy : x < b.length := by omega
    have ea : a.drop x = a.getD x 0 :: a.drop (x + 1) := by rw [List.drop_eq_getElem_cons hx, List.getD_eq_getElem?_getD, List.getElem?_eq_getElem hx]; rfl
    have eb : b.drop x = b.getD x 0 :: b.drop (x + 1) := by rw [List.drop_eq_getElem_cons hy, List.getD_eq_getElem?_getD, List.getElem?_eq_getElem hy]; rfl
    rw [ea, eb, cmpL_cc] at hd
    refine ⟨by omega, cell_int0 hx, by omega, cell_int0 hy, forkNe (fun q => ?_) (fun q => ?_)⟩
    · refine ⟨by omega, cell_int0 hx, by omega, cell_int0 hy, bEq ?_⟩
      rw [hd]
      by_cases g : a.getD x 0 < b.getD x 0
      · rw [if_pos g, decide_eq_true g]; rfl
      · rw [if_neg g, if_pos (by omega), decide_eq_false g]; rfl
    · refine ⟨vI64 (by omega), x + 1, ⟨by omega, ?_⟩, by omega, rfl, ?_⟩
      · rw [List.take_add_one, List.take_add_one, h3]
        rw [List.getD_eq_getElem?_getD, List.getElem?_eq_getElem hx, List.getD_eq_getElem?_getD, List.getElem?_eq_getElem hy] at q
        rw [List.getElem?_eq_getElem hx, List.getElem?_eq_getElem hy]
        exact congrArg (fun z => List.take x b ++ [z]) q
      · repeat' first | exact (dI_rn _ 0 _).symm | exact trivial | exact rfl | exact wk_refl _ | refine wkO_cells ?_ | refine wks_cons ?_ ?_ | exact wks_nil | exact wk_nil _ _ _ (.inl rfl) | (exact wk_Q (by omega)) | refine wk_tupL ?_ | refine wk_aggL ?_ | refine ⟨rfl, ?_⟩ | refine ⟨trivial, ?_⟩ | (refine forkD (fun h => ?_) (fun h => ?_)) | (refine forkNe (fun h => ?_) (fun h => ?_)) | (refine forkEq (fun h => ?_) (fun h => ?_)) | refine forkNot ?_ | (refine ⟨vI64 (by omega), ?_⟩) | (refine And.intro (by omega) ?_) | apply And.intro | (exact iEq (by omega)) | (exact vI64 (by omega))
  · obtain rfl : x = a.length := by omega
    rw [List.drop_length, hab, List.drop_length] at hd
    exact bEq (by rw [hd]; rfl)
end
end Go.Proofs.YthcjliffpebjaaaGreat
/- Ice: blamed sets, put in their place one by one, plainly. No condition. -/
namespace Go.Proofs.YthcjliffpebjaaaGreat
set_option linter.unusedSimpArgs false
open Go Go.K Go.Sort
set_option linter.unusedVariables false
noncomputable section
attribute [local irreducible] vF popc
theorem off_a {b : List Bool} {x : Nat} (h : b.getD x false = true) : offTo b (x + 1) = offTo b x := if_pos h
theorem off_b {b : List Bool} {x : Nat} (h : b.getD x false = false) : offTo b (x + 1) = offTo b x ++ [((x : Nat) : Int)] := if_neg (by rw [h]; decide)
theorem off_cnt (b : List Bool) : ∀ x, x ≤ b.length → (offTo b x).length + trueTo b x = x
  | 0, _ => rfl
  | x + 1, h => by
    have ih := off_cnt b x (by omega)
    rw [trueTo_succ (by omega)]
    cases hv : b.getD x false with
    | true => rw [off_a hv]; simp; omega
    | false => rw [off_b hv, List.length_append]; simp; omega
theorem off_out {n s : Nat} : ∀ {x : Nat}, x ≤ n → offTo (bitsL n s) x = outTo n s x
  | 0, _ => rfl
  | x + 1, h => by
    have e : (bitsL n s).getD x false = inSet n s x := bitsL_get (by omega)
    cases hv : inSet n s x with
    | true => rw [off_a (e.trans hv), outTo_a hv, off_out (by omega)]
    | false => rw [off_b (e.trans hv), outTo_b (by rw [hv]; decide), off_out (by omega)]
theorem rIns_len {L : List (List Bool)} {x : Nat} (h : x ≤ L.length) : (rIns L x).length = x := by
  unfold rIns
  rw [srtL_len, List.length_map, List.length_take]; omega
theorem rIns_full {ts : List Cell} (hr : rightTs ts) (hn : ts.length ≤ 12) : rIns (grtA ts) (grtA ts).length = blamedL ts := by
  unfold rIns blamedL
  rw [List.take_length, grtA_eq hr hn, List.map_map]
  congr 1
  refine List.ext_getElem (by rw [List.length_map, blL_len]) fun i h1 h2 => ?_
  rw [List.length_map] at h1
  have e : (blL ts (agrA ts).length)[i] = outTo ts.length ((agrA ts).getD i 0) ts.length := by
    rw [← getD_elem (d := []) h2]; exact tabP_get h1
  rw [e, List.getElem_map, getD_elem h1]
  show offTo (bitsL _ _) (bitsL _ _).length = _
  rw [bitsL_len, off_out (Nat.le_refl _)]
theorem grt_off {ts : List Cell} (hr : rightTs ts) (hn : ts.length ≤ 12) {b : List Bool} (hb : b ∈ grtA ts) : b.length = ts.length ∧ (offTo b b.length).length + maxP ts = ts.length := by
  obtain ⟨h1, _, h3⟩ := (mem_grtA hr hn).1 hb
  have := off_cnt b b.length (Nat.le_refl _)
  rw [trueTo_cnt _ _ (Nat.le_refl _), h1, h3] at this
  rw [h1]; exact ⟨rfl, this⟩
theorem mem_rIns {L : List (List Bool)} {x : Nat} {s : List Int} (h : s ∈ rIns L x) : ∃ b ∈ L, s = offTo b b.length := by
  unfold rIns srtL at h
  rw [List.mem_mergeSort] at h
  obtain ⟨b, hb, rfl⟩ := List.mem_map.1 h
  exact ⟨b, List.mem_of_mem_take hb, rfl⟩
/-! ## Lists in order -/
abbrev leL (a b : List Int) : Prop := (!ltOf cmpL b a) = true
theorem leL_iff {a b : List Int} : leL a b ↔ cmpL a b ≤ 0 := by
  show (!ltOf cmpL b a) = true ↔ _
  rw [Bool.not_eq_true', ltL_false, cmpL_anti a b]; omega
theorem leL_trans {a b c : List Int} (h1 : leL a b) (h2 : leL b c) : leL a c := by
  have h1 : ltOf cmpL b a = false := by simpa using h1
  have h2 : ltOf cmpL c b = false := by simpa using h2
  show (!ltOf cmpL c a) = true
  rw [swoL.ntrans _ _ _ h2 h1]; rfl
theorem srt_sorted (A : List (List Int)) : (srtL A).Pairwise leL :=
  List.pairwise_mergeSort (le := fun x y => !ltOf cmpL y x) (fun a b c h1 h2 => leL_trans h1 h2) (fun a b => by
    show ((!ltOf cmpL b a) || (!ltOf cmpL a b)) = true
    cases h1 : ltOf cmpL b a with
    | false => rfl
    | true =>
      have h2 := ltL_iff.1 h1
      have h3 := cmpL_anti b a
      rw [ltL_false.2 (by omega)]; rfl) A
theorem ins_srt {A : List (List Int)} {s : List Int} {k : Nat} (hk : k ≤ A.length) (h1 : ∀ j, k ≤ j → j < A.length → cmpL s ((srtL A).getD j []) < 0) (h2 : k = 0 ∨ ¬ cmpL s ((srtL A).getD (k - 1) []) < 0) : insAt (srtL A) s k = srtL (A ++ [s]) := by
  have hS := srt_sorted A
  have hl := srtL_len A
  refine List.Perm.eq_of_pairwise (le := leL) (fun a b _ _ p q => antiL a b (by have := leL_iff.1 q; rw [ltL_false, cmpL_anti b a]; omega) (by have := leL_iff.1 p; rw [ltL_false, cmpL_anti a b]; omega)) ?_ (srt_sorted _) ?_
  · unfold insAt
    rw [List.pairwise_append, List.pairwise_cons]
    have low : ∀ a ∈ (srtL A).take k, leL a s := by
      intro a ha
      obtain ⟨i, hi, rfl⟩ := List.mem_iff_getElem.1 ha
      rw [List.length_take] at hi
      rw [List.getElem_take]
      rcases h2 with h2 | h2
      · omega
      · rw [getD_elem (by omega)] at h2
        have hs : leL (srtL A)[k - 1] s := by rw [leL_iff, cmpL_anti s]; omega
        rcases Nat.lt_or_ge i (k - 1) with g | g
        · exact leL_trans (List.pairwise_iff_getElem.1 hS i (k - 1) (by omega) (by omega) g) hs
        · have e : i = k - 1 := by omega
          subst e; exact hs
    refine ⟨hS.sublist (List.take_sublist ..), ⟨fun b hb => ?_, hS.sublist (List.drop_sublist ..)⟩, fun a ha b hb => ?_⟩
    · obtain ⟨i, hi, rfl⟩ := List.mem_iff_getElem.1 hb
      rw [List.length_drop] at hi
      rw [List.getElem_drop, leL_iff]
      have := h1 (k + i) (by omega) (by omega)
      rw [getD_elem (by omega)] at this
      omega
    · rcases List.mem_cons.1 hb with rfl | hb
      · exact low a ha
      · obtain ⟨i, hi, rfl⟩ := List.mem_iff_getElem.1 ha
        obtain ⟨j, hj, rfl⟩ := List.mem_iff_getElem.1 hb
        rw [List.length_take] at hi
        rw [List.length_drop] at hj
        rw [List.getElem_take, List.getElem_drop]
        exact List.pairwise_iff_getElem.1 hS i (k + j) (by omega) (by omega) (by omega)
  · unfold insAt
    refine List.perm_middle.trans ?_
    rw [List.take_append_drop]
    refine List.Perm.trans ?_ (List.mergeSort_perm (A ++ [s]) _).symm
    exact ((List.mergeSort_perm A _).cons s).trans (List.perm_append_singleton s A).symm
theorem rIns_succ {L : List (List Bool)} {x k : Nat} (hx : x < L.length) (hk : k ≤ x) (h1 : ∀ j, k ≤ j → j < x → cmpL (offTo (L.getD x []) (L.getD x []).length) ((rIns L x).getD j []) < 0)
    (h2 : k = 0 ∨ ¬ cmpL (offTo (L.getD x []) (L.getD x []).length) ((rIns L x).getD (k - 1) []) < 0) : insAt (rIns L x) (offTo (L.getD x []) (L.getD x []).length) k = rIns L (x + 1) := by
  have hl : ((L.take x).map fun b => offTo b b.length).length = x := by rw [List.length_map, List.length_take]; omega
  have e : (L.take (x + 1)).map (fun b => offTo b b.length) = (L.take x).map (fun b => offTo b b.length) ++ [offTo (L.getD x []) (L.getD x []).length] := by
    rw [List.take_add_one, List.getElem?_eq_getElem hx, List.map_append, getD_elem hx]; rfl
  unfold rIns at h1 h2 ⊢
  rw [e]
  exact ins_srt (by rw [hl]; exact hk) (fun j a b => h1 j a (by rw [hl] at b; exact b)) h2
theorem insAt_len {M : List (List Int)} {s : List Int} {k : Nat} (hk : k ≤ M.length) : (insAt M s k).length = M.length + 1 := by
  unfold insAt
  rw [List.length_append, List.length_cons, List.length_take, List.length_drop]; omega
theorem insAt_get {M : List (List Int)} {s : List Int} {k : Nat} (hk : k ≤ M.length) (i : Nat) : (insAt M s k)[i]? = if i < k then M[i]? else if i = k then some s else M[i - 1]? := by
  unfold insAt
  by_cases h : i < k
  · rw [if_pos h, List.getElem?_append_left (by rw [List.length_take]; omega), List.getElem?_take, if_pos h]
  · rw [if_neg h, List.getElem?_append_right (by rw [List.length_take]; omega), List.length_take, show min k M.length = k by omega]
    by_cases e : i = k
    · subst e; rw [if_pos rfl, Nat.sub_self]; rfl
    · rw [if_neg e, show i - k = (i - k - 1) + 1 by omega, List.getElem?_cons_succ, List.getElem?_drop]
      congr 1; omega
theorem insAt_at {M : List (List Int)} {s : List Int} {k : Nat} (hk : k ≤ M.length) : (insAt M s k).getD k [] = s := by
  rw [List.getD_eq_getElem?_getD, insAt_get hk, if_neg (by omega), if_pos rfl]; rfl
theorem insAt_pre {M : List (List Int)} {s : List Int} {k : Nat} (hk : k ≤ M.length) (h0 : 0 < k) : (insAt M s k).getD (k - 1) [] = M.getD (k - 1) [] := by
  rw [List.getD_eq_getElem?_getD, insAt_get hk, if_pos (by omega), List.getD_eq_getElem?_getD]
theorem insAt_swap {M : List (List Int)} {s : List Int} {k : Nat} (hk : k ≤ M.length) (h0 : 0 < k) : ((insAt M s k).set k (M.getD (k - 1) [])).set (k - 1) s = insAt M s (k - 1) := by
  refine List.ext_getElem? fun i => ?_
  rw [List.getElem?_set, List.getElem?_set, List.length_set, insAt_len hk, insAt_get hk, insAt_get (by omega)]
  by_cases h1 : k - 1 = i
  · subst h1; rw [if_pos rfl, if_pos (by omega), if_neg (by omega), if_pos rfl]
  · rw [if_neg h1]
    by_cases h2 : k = i
    · subst h2
      rw [if_pos rfl, if_pos (by omega), if_neg (by omega), if_neg (by omega), getD_elem (by omega), List.getElem?_eq_getElem (by omega)]
    · rw [if_neg h2]
      by_cases h3 : i < k - 1
      · rw [if_pos (by omega), if_pos h3]
      · rw [if_neg (by omega), if_neg (by omega), if_neg h3, if_neg (by omega)]
theorem dIL_swap {M : List (List Int)} {s : List Int} {k : Nat} (hk : k ≤ M.length) (h0 : 0 < k) : setl (setl (dIL (insAt M s k)) k [dI (M.getD (k - 1) [])]) (k - 1) [dI s] = dIL (insAt M s (k - 1)) := by
  show ((dIL (insAt M s k)).set k (dI (M.getD (k - 1) []))).set (k - 1) (dI s) = _
  rw [← insAt_swap hk h0]
  unfold dIL
  rw [List.map_set, List.map_set]
/-! ## Guilt -/
theorem count_sorted {s : List Int} (h : s.Pairwise (· < ·)) (i : Int) : s.count i = if i ∈ s then 1 else 0 := by
  induction s with
  | nil => rfl
  | cons a s ih =>
    obtain ⟨h1, h2⟩ := List.pairwise_cons.1 h
    rw [List.count_cons, ih h2]
    by_cases e : a = i
    · subst e
      rw [if_neg (fun hm => by have := h1 _ hm; omega)]; simp
    · have e2 : i ≠ a := fun q => e q.symm
      simp [e, e2]
theorem count_take_succ {s : List Int} {z : Nat} (hz : z < s.length) (i : Int) : (s.take (z + 1)).count i = (s.take z).count i + if s.getD z 0 = i then 1 else 0 := by
  rw [List.take_add_one, List.getElem?_eq_getElem hz, List.count_append, getD_elem hz]
  by_cases e : s[z] = i
  · simp [e]
  · simp [e]
theorem guilt_tab (L : List (List Int)) (n : Nat) : guiltTo L n n = tabP (guiltOf L) n := by
  unfold guiltTo tabP
  exact List.map_congr_left fun i hi => if_pos (List.mem_range.1 hi)
end
end Go.Proofs.YthcjliffpebjaaaGreat
