/- Ice: reports of one cell. No condition. -/
import Derived.Test.YthcjliffpebjaaaGreatP1g
import Derived.Test.YthcjliffpebjaaaGreatGS0xP1a
namespace Go.Proofs.YthcjliffpebjaaaGreat
open Go Go.K
set_option maxRecDepth 100000
set_option linter.unusedVariables false
set_option linter.unusedSimpArgs false
noncomputable section
attribute [local irreducible] vF
theorem cellC_lenP (c : Cell) : (cellC c).length = 8 := rfl
theorem reportC_len (r : Report) : (reportC r).length = 14 := rfl
theorem partCellP {xs : List Cell} {x : Nat} (h : x < xs.length) : partA 8 (List.flatMap cellC xs) (0 + Int.toNat ((x : Nat) : Int) * 8) = some (.agg ⟨cellC (List.getD xs x zeroC)⟩) :=
  part_at (f := cellC) (d := zeroC) (c := 0) (m := 8) cellC_lenP h (by rw [Int.toNat_natCast]; omega) (by decide)
theorem partRep {xs : List Report} {x : Nat} (h : x < xs.length) : partA 14 (List.flatMap reportC xs) (0 + Int.toNat ((x : Nat) : Int) * 14) = some (.agg ⟨reportC (List.getD xs x zeroR)⟩) :=
  part_at (f := reportC) (d := zeroR) (c := 0) (m := 14) reportC_len h (by rw [Int.toNat_natCast]; omega) (by decide)
theorem plainP (n : Nat) (l : List Cell) : (l.flatMap cellC).all (belowC n) = true := plain_flat (fun _ => rfl) l
theorem plainR (n : Nat) (l : List Report) : (l.flatMap reportC).all (belowC n) = true := plain_flat (fun _ => rfl) l
theorem andN {n k : Nat} (h : n < 2 ^ 62) (hk : k < 2 ^ 62) : IntKind.wrap .i64 (((BitVec.ofInt (IntKind.bits .i64) ((n : Nat) : Int) &&& BitVec.ofInt (IntKind.bits .i64) ((k : Nat) : Int)).toNat : Nat) : Int) = ((n &&& k : Nat) : Int) := by
  have e : (BitVec.ofInt 64 ((n : Nat) : Int) &&& BitVec.ofInt 64 ((k : Nat) : Int)).toNat = n &&& k := by
    rw [BitVec.ofInt_natCast, BitVec.ofInt_natCast, BitVec.toNat_and, BitVec.toNat_ofNat, BitVec.toNat_ofNat, Nat.mod_eq_of_lt (by omega), Nat.mod_eq_of_lt (by omega)]
  have : n &&& k ≤ n := Nat.and_le_left
  exact (congrArg (fun q : Nat => IntKind.wrap .i64 (q : Int)) e).trans (wI64 (by omega))
theorem and_pow (n k : Nat) : n &&& 2 ^ k = if n.testBit k then 2 ^ k else 0 := by
  apply Nat.eq_of_testBit_eq
  intro i
  rw [Nat.testBit_and, Nat.testBit_two_pow]
  by_cases h : k = i
  · subst h; cases hb : n.testBit k <;> simp
  · cases hb : n.testBit k <;> simp [h, Nat.testBit_two_pow]
theorem and1 {x : Int} (h : 0 ≤ x ∧ x < 2 ^ 62) : IntKind.wrap .i64 (((BitVec.ofInt (IntKind.bits .i64) x &&& BitVec.ofInt (IntKind.bits .i64) 1).toNat : Nat) : Int) = x % 2 := by
  obtain ⟨n, rfl⟩ := Int.eq_ofNat_of_zero_le h.1
  have := andN (n := n) (k := 1) (by omega) (by decide)
  rw [show ((1 : Nat) : Int) = 1 from rfl] at this
  rw [this, Nat.and_one_is_mod]; omega
theorem andBit {n k : Nat} (h : n < 2 ^ 62) (hk : k < 62) : IntKind.wrap .i64 (((BitVec.ofInt (IntKind.bits .i64) ((n : Nat) : Int) &&& BitVec.ofInt (IntKind.bits .i64) (((2 ^ k : Nat)) : Int)).toNat : Nat) : Int) = if n.testBit k then (((2 ^ k : Nat)) : Int) else 0 := by
  rw [andN h (Nat.pow_lt_pow_right (by decide) hk), and_pow]
  cases n.testBit k <;> simp
/-- Has a report a quantity? -/
def hasK (r : Report) (k : Nat) : Bool := decide (r.has / 2 ^ k % 2 = 1)
theorem kHas1 (r : Report) (k : Nat) (hr : 1 ≤ r.has ∧ r.has ≤ 15) (hk : k < 4) (H : Heap) : KCall prog F.ice_Report_has [reportV r, .int .i64 ((k : Nat) : Int)] H [] (Is (.bool (hasK r k)) H) := by
  refine valK 40 (fun _ => rfl) rfl (Eq.mpr (EHas1 _ r _) ?_) H
  unfold RHas1
  have e : Int.fdiv r.has (2 ^ min (Int.toNat ((k : Nat) : Int)) (IntKind.bits .i64)) = r.has / 2 ^ k := by
    rw [Int.toNat_natCast, show min k (IntKind.bits .i64) = k from Nat.min_eq_left (by show k ≤ 64; omega)]
    exact Int.fdiv_eq_ediv_of_nonneg _ (Int.pow_nonneg (by decide))
  have hb : 0 ≤ r.has / 2 ^ k ∧ r.has / 2 ^ k < 2 ^ 62 := by
    have h1 := Int.ediv_nonneg (a := r.has) (b := 2 ^ k) (by omega) (Int.pow_nonneg (by decide))
    have h2 := Int.ediv_le_self (a := r.has) (2 ^ k) (by omega)
    omega
  refine ⟨by omega, _, iEq e, _, iEq (and1 hb), ?_⟩
  exact bEq (by unfold hasK; rw [Bool.eq_iff_iff]; simp)
theorem hasK0 {r : Report} : hasK r 0 = decide (r.has % 2 = 1) := by unfold hasK; simp
theorem hasK1 {r : Report} : hasK r 1 = decide (r.has / 2 % 2 = 1) := rfl
theorem hasK2 {r : Report} : hasK r 2 = decide (r.has / 4 % 2 = 1) := rfl
theorem hasK3 {r : Report} : hasK r 3 = decide (r.has / 8 % 2 = 1) := rfl
theorem forkK0 {r : Report} {A B : Prop} (h1 : r.has % 2 = 1 → A) (h2 : ¬ r.has % 2 = 1 → B) : (hasK r 0 = true → A) ∧ (hasK r 0 = false → B) := by rw [hasK0]; exact forkD h1 h2
theorem forkK1 {r : Report} {A B : Prop} (h1 : r.has / 2 % 2 = 1 → A) (h2 : ¬ r.has / 2 % 2 = 1 → B) : (hasK r 1 = true → A) ∧ (hasK r 1 = false → B) := by rw [hasK1]; exact forkD h1 h2
theorem forkK2 {r : Report} {A B : Prop} (h1 : r.has / 4 % 2 = 1 → A) (h2 : ¬ r.has / 4 % 2 = 1 → B) : (hasK r 2 = true → A) ∧ (hasK r 2 = false → B) := by rw [hasK2]; exact forkD h1 h2
theorem forkK3 {r : Report} {A B : Prop} (h1 : r.has / 8 % 2 = 1 → A) (h2 : ¬ r.has / 8 % 2 = 1 → B) : (hasK r 3 = true → A) ∧ (hasK r 3 = false → B) := by rw [hasK3]; exact forkD h1 h2
attribute [local irreducible] hasK
set_option maxHeartbeats 2000000 in
theorem kCheck (r : Report) (H : Heap) : KCall prog F.ice_Report_check [reportV r] H [] (Is (.int .i64 (errReport r)) H) := by
  refine valK 40 (fun _ => rfl) rfl (Eq.mpr (ECheck _ r) ?_) H
  unfold RCheck
  repeat' first | (refine forkK0 (fun h => ?_) (fun h => ?_)) | (refine forkK1 (fun h => ?_) (fun h => ?_)) | (refine forkK2 (fun h => ?_) (fun h => ?_)) | (refine forkK3 (fun h => ?_) (fun h => ?_)) | (refine ⟨_, trivial, fun H' _ _ => kHas1 r 0 (by omega) (by decide) H', ?_⟩) | (refine ⟨_, trivial, fun H' _ _ => kHas1 r 1 (by omega) (by decide) H', ?_⟩) | (refine ⟨_, trivial, fun H' _ _ => kHas1 r 2 (by omega) (by decide) H', ?_⟩) | (refine ⟨_, trivial, fun H' _ _ => kHas1 r 3 (by omega) (by decide) H', ?_⟩) | exact trivial | exact rfl | exact wk_refl _ | refine wkO_cells ?_ | refine wks_cons ?_ ?_ | exact wks_nil | exact wk_nil _ _ _ (.inl rfl) | (exact wk_Q (by omega)) | refine wk_tupL ?_ | refine wk_aggL ?_ | refine joinMax ?_ ?_ ?_ | refine joinMin ?_ ?_ ?_ | refine toMax ?_ | refine toMin ?_ | refine ⟨rfl, ?_⟩ | refine ⟨trivial, ?_⟩ | (refine forkD (fun h => ?_) (fun h => ?_)) | (refine forkNe (fun h => ?_) (fun h => ?_)) | (refine forkEq (fun h => ?_) (fun h => ?_)) | refine forkNot ?_ | (refine ⟨vI64 (by omega), ?_⟩) | (refine And.intro (by omega) ?_) | apply And.intro | (exact iEq (by omega)) | (exact vI64 (by omega))
  all_goals first
    | (refine iEq (if_pos ⟨by omega, fun q => ?_, fun q => ?_, fun q => ?_, fun q => ?_⟩).symm <;> first | exact absurd q ‹_› | exact ⟨‹_›, ‹_›, ‹_›, ‹_›⟩)
    | exact iEq (if_neg (fun o => by have o := o.1; omega)).symm
    | exact iEq (if_neg (fun o => by have o := o.2.1 ‹_›; unfold rightS at o; omega)).symm
    | exact iEq (if_neg (fun o => by have o := o.2.2.1 ‹_›; unfold rightS at o; omega)).symm
    | exact iEq (if_neg (fun o => by have o := o.2.2.2.1 ‹_›; unfold rightS at o; omega)).symm
    | exact iEq (if_neg (fun o => by have o := o.2.2.2.2 ‹_›; unfold rightS at o; omega)).symm
theorem ktells (r : Report) (m : Rates) (now : Int) (hr : reportOk r) (hm : rightR m) (hh : r.at_ ≤ now ∧ now ≤ 10000) (H : Heap) : KCall prog F.ice_Report_tells [reportV r, ratesV m, .int .i64 now] H [] (Is (cellV (tellsC r m now)) H) := by
  refine valK 40 (fun _ => rfl) rfl (Eq.mpr (Etells _ r m now) ?_) H
  have hs := saidC_right hr
  obtain ⟨⟨_, _, ha, _, _, hq⟩, _⟩ := hr
  unfold Rtells
  repeat' first | (refine forkK0 (fun h => ?_) (fun h => ?_)) | (refine forkK1 (fun h => ?_) (fun h => ?_)) | (refine forkK2 (fun h => ?_) (fun h => ?_)) | (refine forkK3 (fun h => ?_) (fun h => ?_)) | (refine ⟨_, trivial, fun H' _ _ => kHas1 r 0 (by omega) (by decide) H', ?_⟩) | (refine ⟨_, trivial, fun H' _ _ => kHas1 r 1 (by omega) (by decide) H', ?_⟩) | (refine ⟨_, trivial, fun H' _ _ => kHas1 r 2 (by omega) (by decide) H', ?_⟩) | (refine ⟨_, trivial, fun H' _ _ => kHas1 r 3 (by omega) (by decide) H', ?_⟩) | exact trivial | exact rfl | exact wk_refl _ | refine wkO_cells ?_ | refine wks_cons ?_ ?_ | exact wks_nil | exact wk_nil _ _ _ (.inl rfl) | (exact wk_Q (by omega)) | refine wk_tupL ?_ | refine wk_aggL ?_ | refine joinMax ?_ ?_ ?_ | refine joinMin ?_ ?_ ?_ | refine toMax ?_ | refine toMin ?_ | refine ⟨rfl, ?_⟩ | refine ⟨trivial, ?_⟩ | (refine forkD (fun h => ?_) (fun h => ?_)) | (refine forkNe (fun h => ?_) (fun h => ?_)) | (refine forkEq (fun h => ?_) (fun h => ?_)) | refine forkNot ?_ | (refine ⟨vI64 (by omega), ?_⟩) | (refine And.intro (by omega) ?_) | apply And.intro | (exact iEq (by omega)) | (exact vI64 (by omega))
  all_goals
    refine ⟨tellsC r m now, trivial, fun H' _ _ => ?_, rfl⟩
    have k := kspAged (saidC r) m (now - r.at_) hs hm (by omega) H'
    refine (congrArg (fun a => KCall prog F.ice_spans_aged [a, ratesV m, .int .i64 (now - r.at_)] H' [] (Is (cellV (tellsC r m now)) H')) ?_).mp k
    simp only [saidC, if_true, if_false, *]
end
end Go.Proofs.YthcjliffpebjaaaGreat
/- Ice: reports at work. No condition. -/
namespace Go.Proofs.YthcjliffpebjaaaGreat
open Go Go.K
set_option maxRecDepth 100000
set_option linter.unusedVariables false
set_option linter.unusedSimpArgs false
noncomputable section
attribute [local irreducible] vF hasK
theorem kask (m : Rates) (now : Int) (H : Heap) : KCall prog F.ice_ask [ratesV m, .int .i64 now] H [] (Is (.int .i64 (errAsk m now)) H) := by
  refine valK 40 (fun _ => rfl) rfl (Eq.mpr (Eask _ m now) ?_) H
  unfold Rask
  refine ⟨_, trivial, fun H' _ _ => kCheckRates _ H', forkNe (fun h0 => iEq (first2_1 h0).symm) (fun h0 => ?_)⟩
  repeat' first | exact iEq ((first2_2 h0).trans (if_pos ⟨‹_›, ‹_›⟩)).symm | (exact iEq ((first2_2 h0).trans (if_neg (by omega))).symm) | exact trivial | exact rfl | exact wk_refl _ | refine wkO_cells ?_ | refine wks_cons ?_ ?_ | exact wks_nil | exact wk_nil _ _ _ (.inl rfl) | (exact wk_Q (by omega)) | refine wk_tupL ?_ | refine wk_aggL ?_ | refine joinMax ?_ ?_ ?_ | refine joinMin ?_ ?_ ?_ | refine toMax ?_ | refine toMin ?_ | refine ⟨rfl, ?_⟩ | refine ⟨trivial, ?_⟩ | (refine forkD (fun h => ?_) (fun h => ?_)) | (refine forkNe (fun h => ?_) (fun h => ?_)) | (refine forkEq (fun h => ?_) (fun h => ?_)) | refine forkNot ?_ | (refine ⟨vI64 (by omega), ?_⟩) | (refine And.intro (by omega) ?_) | apply And.intro | (exact iEq (by omega)) | (exact vI64 (by omega))
theorem errAsk_ok {m : Rates} {now : Int} (h : errAsk m now = 0) : rightR m ∧ 0 ≤ now ∧ now ≤ 10000 := by
  unfold errAsk at h
  rcases Classical.em (errRates m = 0) with h1 | h1
  · rw [first2_2 h1] at h
    unfold errHour at h
    split at h
    · exact ⟨errRates_iff.1 h1, ‹_›⟩
    · cases h
  · rw [first2_1 h1] at h; exact absurd h h1
theorem fTells_1 {r : Report} {m : Rates} {now : Int} (h : ¬ errAsk m now = 0) : fTells r m now = (zeroC, errAsk m now) := by unfold fTells; rw [first2_1 h, if_neg h]
theorem fTells_2 {r : Report} {m : Rates} {now : Int} (h : errAsk m now = 0) (k : ¬ errReport r = 0) : fTells r m now = (zeroC, errReport r) := by unfold fTells; rw [first2_2 h, if_neg k]
theorem fTells_3 {r : Report} {m : Rates} {now : Int} (h : errAsk m now = 0) (k : errReport r = 0) (q : r.at_ > now) : fTells r m now = (zeroC, 12) := by unfold fTells; rw [first2_2 h, if_pos k, if_pos q]
theorem fTells_4 {r : Report} {m : Rates} {now : Int} (h : errAsk m now = 0) (k : errReport r = 0) (q : ¬ r.at_ > now) : fTells r m now = (tellsC r m now, 0) := by unfold fTells; rw [first2_2 h, if_pos k, if_neg q]
theorem kTells (r : Report) (m : Rates) (now : Int) (H : Heap) : KCall prog F.ice_Tells [reportV r, ratesV m, .int .i64 now] H [] (Is (.tuple #[cellV (fTells r m now).1, .int .i64 (fTells r m now).2]) H) := by
  refine valK 40 (fun _ => rfl) rfl (Eq.mpr (ETells _ r m now) ?_) H
  unfold RTells
  refine ⟨_, trivial, fun H' _ _ => kask _ _ H', _, trivial, fun H' _ _ => kCheck r H', ?_⟩
  refine forkNe (fun h0 => ⟨vbT (bne_iff_ne.2 h0), tupC (fTells_1 h0)⟩) (fun h0 => ?_)
  refine forkNe (fun h1 => ⟨vbT (bne_iff_ne.2 h1), tupC (fTells_2 h0 h1)⟩) (fun h1 => ?_)
  obtain ⟨hm, hn⟩ := errAsk_ok h0
  refine forkD (fun h2 => tupC (fTells_3 h0 h1 h2)) (fun h2 => ?_)
  refine ⟨_, trivial, fun H' _ _ => ktells r m now (errReport_iff.1 h1) hm (by omega) H', tupC (fTells_4 h0 h1 h2)⟩
theorem valRA {f : FuncId} {args : List Value} {css : List (List Value)} {h : Hint} {v : Value} (hc : vF prog msk (dm 0) 100000 true 40 true f args (readsT 0 css) (some []) h (fun v' _ _ => v' = v)) (hv : belowV 0 v = true)
    {H : Heap} (ids : List Nat) (hl : ids.length = css.length) (hids : ∀ (k : Nat) (cs : List Value), css[k]? = some cs → ∃ id own z, ids[k]? = some id ∧ H[id]? = some (KObj.cells own z (cs.map (rn (sgR 0 ids) 3)))) (h3 : rnOk 3 v = true := by rfl) (h4 : ∀ σ, rn σ 3 v = v := by intro σ; rfl) :
    KCall prog f (args.map (rn (sgR 0 ids) 3)) H [] (Is v H) := by
  have := vcR0A (H := H) mskOk mixed 40 (v := v) (by rw [glob0]; exact hc) hv ids hl (by rw [glob0]; exact hids) h3 h4
  rw [glob0] at this; exact this
theorem valNA {f : FuncId} {args : List Value} {css : List (List Value)} {h : Hint} {v : Value} {new : List (Bool × KObj)} (hc : vF prog msk (dm 0) 100000 true 40 true f args (readsT 0 css) (some []) h (newK (readsT 0 css).n 3 v new))
    (hv : rnOk 3 v = true) (hv2 : rn (sgOnly (0 + css.length)) 3 v = v) (hn : (new.map (·.2)).all (fun o => rnoOk 3 o && o.owned) = true) (hn2 : (new.map (·.2)).map (rno (sgOnly (0 + css.length)) 3) = new.map (·.2))
    {H : Heap} (ids : List Nat) (hl : ids.length = css.length) (hids : ∀ (k : Nat) (cs : List Value), css[k]? = some cs → ∃ id own z, ids[k]? = some id ∧ H[id]? = some (KObj.cells own z (cs.map (rn (sgR 0 ids) 3)))) :
    KCall prog f (args.map (rn (sgR 0 ids) 3)) H [] (Is (rn (sgUp (0 + css.length) H.length) 3 v) (H ++ (new.map (·.2)).map (rno (sgUp (0 + css.length) H.length) 3))) := by
  have := vcRA (H := H) mskOk mixed 40 (v := v) (new := new) (by rw [glob0]; exact hc) hv (by rw [glob0]; exact hv2) hn (by rw [glob0]; exact hn2) ids hl (by rw [glob0]; exact hids)
  rw [glob0] at this; exact this
/-- A place of work. -/
abbrev workC (m : Rates) (id n : Nat) : List Value := ratesC m ++ [.slice (some ⟨id, 0, some 1⟩) n n]
theorem work_ids {H : Heap} {m : Rates} {ts : List Cell} {i j : Nat} {own own2 : Bool} {z z2 : Nat} (h1 : H[i]? = some (.cells own z (workC m j ts.length))) (h2 : H[j]? = some (.cells own2 z2 (ts.flatMap cellC))) :
    ∀ (k : Nat) (cs : List Value), [workC m 1 ts.length, ts.flatMap cellC][k]? = some cs → ∃ id own z, [i, j][k]? = some id ∧ H[id]? = some (KObj.cells own z (cs.map (rn (sgR 0 [i, j]) 3))) := by
  intro k cs h
  match k with
  | 0 => cases h; exact ⟨i, own, z, rfl, h1⟩
  | 1 => cases h; exact ⟨j, own2, z2, rfl, by rw [h2, (rnCl (d := 0) (plainP 0 ts)).1]⟩
theorem bit_eq {n i : Nat} (hn : n ≤ 12) (hi : i < n) : (1 * 2 ^ min (Int.toNat ((((n : Nat) : Int) - 1) - ((i : Nat) : Int))) (IntKind.bits .i64) : Int) = (((2 ^ (n - 1 - i) : Nat)) : Int) := by
  have e : Int.toNat ((((n : Nat) : Int) - 1) - ((i : Nat) : Int)) = n - 1 - i := by omega
  rw [e, show min (n - 1 - i) (IntKind.bits .i64) = n - 1 - i from Nat.min_eq_left (by show n - 1 - i ≤ 64; omega)]
  simp
theorem pow12 {k : Nat} (h : k ≤ 12) : 1 ≤ 2 ^ k ∧ 2 ^ k ≤ 4096 := ⟨Nat.one_le_two_pow, Nat.pow_le_pow_right (by decide) h⟩
theorem kbit (m : Rates) (i : Nat) {ts : List Cell} (hn : ts.length ≤ 12) (hi : i < ts.length) {H : Heap} {w j : Nat} {own own2 : Bool} {z z2 : Nat} (h1 : H[w]? = some (.cells own z (workC m j ts.length))) (h2 : H[j]? = some (.cells own2 z2 (ts.flatMap cellC))) :
    KCall prog F.ice_work_bit [.pointer (some ⟨w, 0, none⟩), .int .i64 ((i : Nat) : Int)] H [] (Is (.int .i64 (((2 ^ (ts.length - 1 - i) : Nat)) : Int)) H) := by
  refine valRA (css := [workC m 1 ts.length, ts.flatMap cellC]) (Eq.mpr (Ebit _ m ts _) ?_) rfl [w, j] rfl (work_ids h1 h2)
  unfold Rbit
  have e := bit_eq hn hi
  have p := pow12 (k := ts.length - 1 - i) (by omega)
  refine ⟨vI64 (by omega), vI64 (by omega), by omega, vI64 (by rw [e]; omega), _, iEq e, rfl⟩
theorem tog_succ {ts : List Cell} {s j : Nat} {c : Cell} (h : tog ts s j = some c) : tog ts s (j + 1) = if inSet ts.length s j then (if okC (meetC c (ts.getD j zeroC)) then some (meetC c (ts.getD j zeroC)) else none) else some c := by
  show (match tog ts s j with | none => none | some c => _) = _; rw [h]
theorem tog_none {ts : List Cell} {s j n : Nat} (h : tog ts s j = none) (hn : j ≤ n) : tog ts s n = none := by
  have key : ∀ d, tog ts s (j + d) = none := by
    intro d
    induction d with
    | zero => exact h
    | succ d ih => show (match tog ts s (j + d) with | none => none | some c => _) = none; rw [ih]
  have := key (n - j); rwa [show j + (n - j) = n by omega] at this
theorem ktogether (m : Rates) (s : Nat) {ts : List Cell} (hn : ts.length ≤ 12) (hs : s < 4096) {H : Heap} {w j : Nat} {own own2 : Bool} {z z2 : Nat} (h1 : H[w]? = some (.cells own z (workC m j ts.length))) (h2 : H[j]? = some (.cells own2 z2 (ts.flatMap cellC))) :
    KCall prog F.ice_work_together [.pointer (some ⟨w, 0, none⟩), .int .i64 ((s : Nat) : Int)] H [] (Is (.tuple #[cellV ((togA ts s).getD zeroC), .bool (togA ts s).isSome]) H) := by
  refine valRA (css := [workC m 1 ts.length, ts.flatMap cellC]) (Eq.mpr (Etogether _ m ts s) ?_) rfl [w, j] rfl (work_ids h1 h2)
  unfold Rtogether
  refine ⟨rfl, ⟨Nat.zero_le _, rfl⟩, ?_, fun _ => rfl, ?_⟩
  · repeat' first | exact trivial | exact rfl | exact wk_refl _ | refine wkO_cells ?_ | refine wks_cons ?_ ?_ | exact wks_nil | exact wk_nil _ _ _ (.inl rfl) | (exact wk_Q (by omega)) | refine wk_tupL ?_ | refine wk_aggL ?_ | refine joinMax ?_ ?_ ?_ | refine joinMin ?_ ?_ ?_ | refine toMax ?_ | refine toMin ?_ | refine ⟨rfl, ?_⟩ | refine ⟨trivial, ?_⟩ | (refine forkD (fun h => ?_) (fun h => ?_)) | (refine forkNe (fun h => ?_) (fun h => ?_)) | (refine forkEq (fun h => ?_) (fun h => ?_)) | refine forkNot ?_ | (refine ⟨vI64 (by omega), ?_⟩) | (refine And.intro (by omega) ?_) | apply And.intro | (exact iEq (by omega)) | (exact vI64 (by omega))
  rintro ⟨x, c⟩ ⟨hx, hc⟩
  replace hx : x ≤ ts.length := hx
  replace hc : tog ts s x = some c := hc
  refine forkD (fun hl => ?_) (fun hl => ?_)
  · replace hl : x < ts.length := by simpa using hl
    have hk : ts.length - 1 - x < 62 := by omega
    have hb := andBit (n := s) (k := ts.length - 1 - x) (by omega) hk
    have hp := pow12 (k := ts.length - 1 - x) (by omega)
    have ht := tog_succ hc
    refine ⟨⟨by omega, by simpa using hl⟩, partCellP hl, _, ⟨rfl, rfl, trivial⟩, fun H' _ hd => kbit m x hn hl hd.1 hd.2.1, ?_⟩
    refine ⟨_, iEq hb, ?_⟩
    have step : ∀ c', tog ts s (x + 1) = some c' → (((x + 1, c') : Nat × Cell).1 ≤ ts.length ∧ tog ts s ((x + 1, c') : Nat × Cell).1 = some ((x + 1, c') : Nat × Cell).2) := fun c' h => ⟨hl, h⟩
    refine forkEq (fun h0 => ?_) (fun h0 => ?_)
    · have hf : inSet ts.length s x = false := by
        cases hq : s.testBit (ts.length - 1 - x) with
        | false => exact hq
        | true => rw [hq, if_pos rfl] at h0; omega
      rw [hf, if_neg (by decide)] at ht
      repeat' first | (refine ⟨vI64 (show _ ∧ (((x : Nat) : Int) + 1 ≤ _) by omega), ?_⟩) | (refine ⟨(x + 1, c), step c ht, (show ts.length - (x + 1) < ts.length - x by omega), ?_⟩) | exact trivial | exact rfl | exact wk_refl _ | refine wkO_cells ?_ | refine wks_cons ?_ ?_ | exact wks_nil | exact wk_nil _ _ _ (.inl rfl) | (exact wk_Q (by omega)) | refine wk_tupL ?_ | refine wk_aggL ?_ | refine joinMax ?_ ?_ ?_ | refine joinMin ?_ ?_ ?_ | refine toMax ?_ | refine toMin ?_ | refine ⟨rfl, ?_⟩ | refine ⟨trivial, ?_⟩ | (refine forkD (fun h => ?_) (fun h => ?_)) | (refine forkNe (fun h => ?_) (fun h => ?_)) | (refine forkEq (fun h => ?_) (fun h => ?_)) | refine forkNot ?_ | (refine ⟨vI64 (by omega), ?_⟩) | (refine And.intro (by omega) ?_) | apply And.intro | (exact iEq (by omega)) | (exact vI64 (by omega))
    · have hf : inSet ts.length s x = true := by
        cases hq : s.testBit (ts.length - 1 - x) with
        | true => exact hq
        | false => rw [hq, if_neg (by decide)] at h0; exact absurd rfl h0
      rw [hf, if_pos rfl] at ht
      refine ⟨(_, _), trivial, fun H' _ _ => kspMeet _ _ H', forkNot (forkD (fun ok => ?_) (fun ok => ?_))⟩
      · rw [if_pos ok] at ht
        repeat' first | (refine ⟨vI64 (show _ ∧ (((x : Nat) : Int) + 1 ≤ _) by omega), ?_⟩) | (refine ⟨(x + 1, meetC c (ts.getD x zeroC)), step _ ht, (show ts.length - (x + 1) < ts.length - x by omega), ?_⟩) | exact trivial | exact rfl | exact wk_refl _ | refine wkO_cells ?_ | refine wks_cons ?_ ?_ | exact wks_nil | exact wk_nil _ _ _ (.inl rfl) | (exact wk_Q (by omega)) | refine wk_tupL ?_ | refine wk_aggL ?_ | refine joinMax ?_ ?_ ?_ | refine joinMin ?_ ?_ ?_ | refine toMax ?_ | refine toMin ?_ | refine ⟨rfl, ?_⟩ | refine ⟨trivial, ?_⟩ | (refine forkD (fun h => ?_) (fun h => ?_)) | (refine forkNe (fun h => ?_) (fun h => ?_)) | (refine forkEq (fun h => ?_) (fun h => ?_)) | refine forkNot ?_ | (refine ⟨vI64 (by omega), ?_⟩) | (refine And.intro (by omega) ?_) | apply And.intro | (exact iEq (by omega)) | (exact vI64 (by omega))
      · rw [if_neg ok] at ht
        have := tog_none ht hl
        show _ = Value.tuple #[cellV ((tog ts s ts.length).getD zeroC), .bool (tog ts s ts.length).isSome]
        rw [this]; rfl
  · obtain rfl : x = ts.length := by have : ¬ x < ts.length := by simpa using hl
                                     omega
    show _ = Value.tuple #[cellV ((tog ts s ts.length).getD zeroC), .bool (tog ts s ts.length).isSome]
    rw [hc]; rfl
/-! ## Places of work -/
theorem errOpen_1 {l : List Report} {m : Rates} {now : Int} (h : ¬ errAsk m now = 0) : errOpen l m now = errAsk m now := first2_1 h
theorem errOpen_2 {l : List Report} {m : Rates} {now : Int} (h : errAsk m now = 0) (k : 12 < l.length) : errOpen l m now = 2 := (first2_2 h).trans (if_pos k)
theorem errOpen_3 {l : List Report} {m : Rates} {now : Int} (h : errAsk m now = 0) (k : ¬ 12 < l.length) : errOpen l m now = errTo (errOne l now) l.length := (first2_2 h).trans (if_neg k)
theorem errOne_1 {l : List Report} {now : Int} {i : Nat} (h : ¬ errReport (l.getD i zeroR) = 0) : errOne l now i = errReport (l.getD i zeroR) := if_neg h
theorem errOne_2 {l : List Report} {now : Int} {i : Nat} (h : errReport (l.getD i zeroR) = 0) (k : ∃ k, k < i ∧ (l.getD k zeroR).id = (l.getD i zeroR).id) : errOne l now i = 10 := (if_pos h).trans (if_pos k)
theorem errOne_3 {l : List Report} {now : Int} {i : Nat} (h : errReport (l.getD i zeroR) = 0) (k : ¬ ∃ k, k < i ∧ (l.getD k zeroR).id = (l.getD i zeroR).id) (q : (l.getD i zeroR).x ≠ (l.getD 0 zeroR).x ∨ (l.getD i zeroR).y ≠ (l.getD 0 zeroR).y) : errOne l now i = 1 := (if_pos h).trans ((if_neg k).trans (if_pos q))
theorem errOne_4 {l : List Report} {now : Int} {i : Nat} (h : errReport (l.getD i zeroR) = 0) (k : ¬ ∃ k, k < i ∧ (l.getD k zeroR).id = (l.getD i zeroR).id) (q : ¬ ((l.getD i zeroR).x ≠ (l.getD 0 zeroR).x ∨ (l.getD i zeroR).y ≠ (l.getD 0 zeroR).y)) (r : (l.getD i zeroR).at_ > now) : errOne l now i = 12 := (if_pos h).trans ((if_neg k).trans ((if_neg q).trans (if_pos r)))
theorem errOne_5 {l : List Report} {now : Int} {i : Nat} (h : errReport (l.getD i zeroR) = 0) (k : ¬ ∃ k, k < i ∧ (l.getD k zeroR).id = (l.getD i zeroR).id) (q : ¬ ((l.getD i zeroR).x ≠ (l.getD 0 zeroR).x ∨ (l.getD i zeroR).y ≠ (l.getD 0 zeroR).y)) (r : ¬ (l.getD i zeroR).at_ > now) : errOne l now i = 0 := (if_pos h).trans ((if_neg k).trans ((if_neg q).trans (if_neg r)))
theorem rep3 {l : List Report} (h : 0 < l.length) : (l.flatMap reportC)[3]? = some (.int .i64 (l.getD 0 zeroR).x) := by
  cases l with
  | nil => simp at h
  | cons x r => rfl
theorem rep4 {l : List Report} (h : 0 < l.length) : (l.flatMap reportC)[4]? = some (.int .i64 (l.getD 0 zeroR).y) := by
  cases l with
  | nil => simp at h
  | cons x r => rfl
theorem toldL_succ (l : List Report) (m : Rates) (now : Int) (x : Nat) : toldL l m now (x + 1) = toldL l m now x ++ [tellsC (l.getD x zeroR) m now] := tabP_succ _ _
theorem toldL_len (l : List Report) (m : Rates) (now : Int) (x : Nat) : (toldL l m now x).length = x := tabP_len _ _
theorem kopen0 (l : List Report) (m : Rates) (now : Int) (he : ¬ errOpen l m now = 0) {H : Heap} {id : Nat} {own : Bool} {z : Nat} (hid : H[id]? = some (.cells own z (l.flatMap reportC))) :
    KCall prog F.ice_open [.slice (some ⟨id, 0, some 2⟩) l.length l.length, ratesV m, .int .i64 now] H [] (Is (.tuple #[.pointer none, .int .i64 (errOpen l m now)]) H) := by
  refine valR (Eq.mpr (Eopen0 _ l m now) ?_) (one_cs (plainR 0 l)) rfl [id] rfl (one_id hid)
  unfold Ropen0
  have tp : ∀ {a b : Int}, a = b → (Value.tuple #[.pointer none, .int .i64 a]) = .tuple #[.pointer none, .int .i64 b] := fun h => by rw [h]
  refine ⟨_, trivial, fun H' _ _ => kask _ _ H', forkNe (fun h0 => tp (errOpen_1 h0).symm) (fun h0 => ?_)⟩
  obtain ⟨hm, hnow⟩ := errAsk_ok h0
  refine forkD (fun h1 => tp (errOpen_2 h0 (by omega)).symm) (fun h1 => ?_)
  have e3 := errOpen_3 h0 (l := l) (by omega)
  repeat' first | (refine ⟨rfl, ⟨Nat.zero_le _, rfl⟩, ?_, fun _ => rfl, ?_⟩) | exact plainP _ _ | exact trivial | exact rfl | exact wk_refl _ | refine wkO_cells ?_ | refine wks_cons ?_ ?_ | exact wks_nil | exact wk_nil _ _ _ (.inl rfl) | (exact wk_Q (by omega)) | refine wk_tupL ?_ | refine wk_aggL ?_ | refine joinMax ?_ ?_ ?_ | refine joinMin ?_ ?_ ?_ | refine toMax ?_ | refine toMin ?_ | refine ⟨rfl, ?_⟩ | refine ⟨trivial, ?_⟩ | (refine forkD (fun h => ?_) (fun h => ?_)) | (refine forkNe (fun h => ?_) (fun h => ?_)) | (refine forkEq (fun h => ?_) (fun h => ?_)) | refine forkNot ?_ | (refine ⟨vI64 (by omega), ?_⟩) | (refine And.intro (by omega) ?_) | apply And.intro | (exact iEq (by omega)) | (exact vI64 (by omega))
  rintro x ⟨hx, hz⟩
  refine forkD (fun hl => ?_) (fun hl => ?_)
  · have hlt : x < l.length := by omega
    refine ⟨by omega, partRep hlt, _, trivial, fun H' _ _ => kCheck _ H', ?_⟩
    have stop : ¬ errOne l now x = 0 → errOne l now x = errOpen l m now := fun h => (e3.trans (errTo_stop hz h hlt)).symm
    refine forkNe (fun h2 => tp ((stop (by rw [errOne_1 h2]; exact h2)).symm.trans (errOne_1 h2)).symm) (fun h2 => ?_)
    refine ⟨⟨⟨.inl rfl, by omega⟩, by omega, Nat.zero_le _⟩, rfl, rfl, ⟨Nat.zero_le _, fun k hk => absurd hk (Nat.not_lt_zero k)⟩, ?_, fun _ => rfl, ?_⟩
    · repeat' first | exact trivial | exact rfl | exact wk_refl _ | refine wkO_cells ?_ | refine wks_cons ?_ ?_ | exact wks_nil | exact wk_nil _ _ _ (.inl rfl) | (exact wk_Q (by omega)) | refine wk_tupL ?_ | refine wk_aggL ?_ | refine joinMax ?_ ?_ ?_ | refine joinMin ?_ ?_ ?_ | refine toMax ?_ | refine toMin ?_ | refine ⟨rfl, ?_⟩ | refine ⟨trivial, ?_⟩ | (refine forkD (fun h => ?_) (fun h => ?_)) | (refine forkNe (fun h => ?_) (fun h => ?_)) | (refine forkEq (fun h => ?_) (fun h => ?_)) | refine forkNot ?_ | (refine ⟨vI64 (by omega), ?_⟩) | (refine And.intro (by omega) ?_) | apply And.intro | (exact iEq (by omega)) | (exact vI64 (by omega))
    rintro y ⟨hy, hno⟩
    refine forkD (fun hl2 => ?_) (fun hl2 => ?_)
    · refine ⟨by omega, partRep (by omega), forkEq (fun hq => ?_) (fun hq => ?_)⟩
      · refine forkD (fun _ => tp ((stop (by rw [errOne_2 h2 ⟨y, by omega, hq⟩]; exact (by decide))).symm.trans (errOne_2 h2 ⟨y, by omega, hq⟩)).symm) (fun h => absurd (by omega) h)
      · repeat' first | (refine ⟨y + 1, ⟨by omega, fun k hk => ?_⟩, by omega, ?_⟩) | exact trivial | exact rfl | exact wk_refl _ | refine wkO_cells ?_ | refine wks_cons ?_ ?_ | exact wks_nil | exact wk_nil _ _ _ (.inl rfl) | (exact wk_Q (by omega)) | refine wk_tupL ?_ | refine wk_aggL ?_ | refine joinMax ?_ ?_ ?_ | refine joinMin ?_ ?_ ?_ | refine toMax ?_ | refine toMin ?_ | refine ⟨rfl, ?_⟩ | refine ⟨trivial, ?_⟩ | (refine forkD (fun h => ?_) (fun h => ?_)) | (refine forkNe (fun h => ?_) (fun h => ?_)) | (refine forkEq (fun h => ?_) (fun h => ?_)) | refine forkNot ?_ | (refine ⟨vI64 (by omega), ?_⟩) | (refine And.intro (by omega) ?_) | apply And.intro | (exact iEq (by omega)) | (exact vI64 (by omega))
        rcases Nat.lt_or_ge k y with h3 | h3
        · exact hno k h3
        · obtain rfl : k = y := by omega
          exact hq
    · obtain rfl : y = x := by omega
      have h3 : ¬ ∃ k, k < y ∧ (l.getD k zeroR).id = (l.getD y zeroR).id := fun ⟨k, h, e⟩ => hno k h e
      refine ⟨by omega, rep3 (by omega), forkNe (fun h4 => tp ((stop (by rw [errOne_3 h2 h3 (.inl h4)]; exact (by decide))).symm.trans (errOne_3 h2 h3 (.inl h4))).symm) (fun h4 => ?_)⟩
      refine ⟨by omega, rep4 (by omega), forkNe (fun h5 => tp ((stop (by rw [errOne_3 h2 h3 (.inr h5)]; exact (by decide))).symm.trans (errOne_3 h2 h3 (.inr h5))).symm) (fun h5 => ?_)⟩
      have h6 : ¬ ((l.getD y zeroR).x ≠ (l.getD 0 zeroR).x ∨ (l.getD y zeroR).y ≠ (l.getD 0 zeroR).y) := fun q => q.elim (fun a => a h4) (fun a => a h5)
      refine forkD (fun h7 => tp ((stop (by rw [errOne_4 h2 h3 h6 (by omega)]; exact (by decide))).symm.trans (errOne_4 h2 h3 h6 (by omega))).symm) (fun h7 => ?_)
      have ok := errReport_iff.1 h2
      have e5 := errOne_5 h2 h3 h6 (by omega)
      repeat' first | (refine ⟨_, trivial, fun H' _ _ => ktells _ m now ok hm (by omega) H', ?_⟩) | (refine ⟨⟨by omega, by decide, ⟨Nat.le_refl _, by rw [flat_len cellC_lenP, toldL_len]; omega⟩, ⟨by decide, Nat.le_refl _⟩, rfl⟩, rfl, ?_⟩) | (refine ⟨y + 1, ⟨by omega, errTo_succ0 hz e5⟩, by omega, ?_⟩) | exact plainP _ _ | (exact (by rw [toldL_succ]; exact congrArg (fun l => some (KObj.cells true 8 l)) (flat_snoc cellC_lenP _ _ (toldL_len ..).symm))) | exact trivial | exact rfl | exact wk_refl _ | refine wkO_cells ?_ | refine wks_cons ?_ ?_ | exact wks_nil | exact wk_nil _ _ _ (.inl rfl) | (exact wk_Q (by omega)) | refine wk_tupL ?_ | refine wk_aggL ?_ | refine joinMax ?_ ?_ ?_ | refine joinMin ?_ ?_ ?_ | refine toMax ?_ | refine toMin ?_ | refine ⟨rfl, ?_⟩ | refine ⟨trivial, ?_⟩ | (refine forkD (fun h => ?_) (fun h => ?_)) | (refine forkNe (fun h => ?_) (fun h => ?_)) | (refine forkEq (fun h => ?_) (fun h => ?_)) | refine forkNot ?_ | (refine ⟨vI64 (by omega), ?_⟩) | (refine And.intro (by omega) ?_) | apply And.intro | (exact iEq (by omega)) | (exact vI64 (by omega))
  · have hxe : x = l.length := by omega
    exact absurd (by rw [e3, ← hxe]; exact hz) he
theorem kopen1 (l : List Report) (m : Rates) (now : Int) (he : errOpen l m now = 0) {H : Heap} {L : Nat} (hL : H.length = L) {id : Nat} {own : Bool} {z : Nat} (hid : H[id]? = some (.cells own z (l.flatMap reportC))) :
    KCall prog F.ice_open [.slice (some ⟨id, 0, some 2⟩) l.length l.length, ratesV m, .int .i64 now] H [] (Is (.tuple #[.pointer (some ⟨L, 0, none⟩), .int .i64 0]) (H ++ [.cells true 0 (workC m (L + 1) (told l m now).length), .cells true 8 ((told l m now).flatMap cellC)])) := by
  subst hL
  have key := fun hc => valN (css := [l.flatMap reportC]) (v := .tuple #[.pointer (some ⟨1, 0, none⟩), .int .i64 0]) (new := [(false, .cells true 0 (workC m 2 (told l m now).length)), (true, .cells true 8 ((told l m now).flatMap cellC))]) (Eq.mpr (Eopen1 l m now) hc) (one_cs (plainR 0 l)) rfl (by simp [rn, sgOnly])
    (by show ((true && true) && ((rnoOk 3 (.cells true 8 ((told l m now).flatMap cellC)) && true) && true)) = true
        simp only [Bool.and_true, Bool.true_and]; exact (rnCl (σ := fun _ => none) (d := 0) (plainP 0 _)).2)
    (congrArg (fun q => [KObj.cells true 0 (workC m 2 (told l m now).length), KObj.cells true 8 q]) (rnCl (d := 0) (plainP 0 _)).1) (H := H) [id] rfl (one_id hid)
  have e1 : rn (sgUp (0 + [l.flatMap reportC].length) H.length) 3 (.tuple #[.pointer (some ⟨1, 0, none⟩), .int .i64 0]) = .tuple #[.pointer (some ⟨H.length, 0, none⟩), .int .i64 0] := by simp [rn, sgUp]
  have e2 : (List.map (fun x : Bool × KObj => x.2) [(false, KObj.cells true 0 (workC m 2 (told l m now).length)), (true, .cells true 8 ((told l m now).flatMap cellC))]).map (rno (sgUp (0 + [l.flatMap reportC].length) H.length) 3) = [.cells true 0 (workC m (H.length + 1) (told l m now).length), .cells true 8 ((told l m now).flatMap cellC)] :=
    congrArg (fun q => [KObj.cells true 0 (workC m (H.length + 1) (told l m now).length), KObj.cells true 8 q]) (rnCl (d := 0) (plainP 0 _)).1
  rw [e1, e2] at key
  refine key ?_
  unfold Ropen1
  refine ⟨_, trivial, fun H' _ _ => kask _ _ H', forkNe (fun h0 => absurd ((errOpen_1 h0).symm.trans he) (h0)) (fun h0 => ?_)⟩
  obtain ⟨hm, hnow⟩ := errAsk_ok h0
  refine forkD (fun h1 => absurd ((errOpen_2 h0 (by omega)).symm.trans he) ((by decide))) (fun h1 => ?_)
  have e3 := errOpen_3 h0 (l := l) (by omega)
  repeat' first | (refine ⟨rfl, ⟨Nat.zero_le _, rfl⟩, ?_, fun _ => rfl, ?_⟩) | exact plainP _ _ | exact trivial | exact rfl | exact wk_refl _ | refine wkO_cells ?_ | refine wks_cons ?_ ?_ | exact wks_nil | exact wk_nil _ _ _ (.inl rfl) | (exact wk_Q (by omega)) | refine wk_tupL ?_ | refine wk_aggL ?_ | refine joinMax ?_ ?_ ?_ | refine joinMin ?_ ?_ ?_ | refine toMax ?_ | refine toMin ?_ | refine ⟨rfl, ?_⟩ | refine ⟨trivial, ?_⟩ | (refine forkD (fun h => ?_) (fun h => ?_)) | (refine forkNe (fun h => ?_) (fun h => ?_)) | (refine forkEq (fun h => ?_) (fun h => ?_)) | refine forkNot ?_ | (refine ⟨vI64 (by omega), ?_⟩) | (refine And.intro (by omega) ?_) | apply And.intro | (exact iEq (by omega)) | (exact vI64 (by omega))
  rintro x ⟨hx, hz⟩
  refine forkD (fun hl => ?_) (fun hl => ?_)
  · have hlt : x < l.length := by omega
    refine ⟨by omega, partRep hlt, _, trivial, fun H' _ _ => kCheck _ H', ?_⟩
    have stop : ¬ errOne l now x = 0 → errOne l now x = errOpen l m now := fun h => (e3.trans (errTo_stop hz h hlt)).symm
    refine forkNe (fun h2 => absurd (((stop (by rw [errOne_1 h2]; exact h2)).symm.trans (errOne_1 h2)).symm.trans he) (h2)) (fun h2 => ?_)
    refine ⟨⟨⟨.inl rfl, by omega⟩, by omega, Nat.zero_le _⟩, rfl, rfl, ⟨Nat.zero_le _, fun k hk => absurd hk (Nat.not_lt_zero k)⟩, ?_, fun _ => rfl, ?_⟩
    · repeat' first | exact trivial | exact rfl | exact wk_refl _ | refine wkO_cells ?_ | refine wks_cons ?_ ?_ | exact wks_nil | exact wk_nil _ _ _ (.inl rfl) | (exact wk_Q (by omega)) | refine wk_tupL ?_ | refine wk_aggL ?_ | refine joinMax ?_ ?_ ?_ | refine joinMin ?_ ?_ ?_ | refine toMax ?_ | refine toMin ?_ | refine ⟨rfl, ?_⟩ | refine ⟨trivial, ?_⟩ | (refine forkD (fun h => ?_) (fun h => ?_)) | (refine forkNe (fun h => ?_) (fun h => ?_)) | (refine forkEq (fun h => ?_) (fun h => ?_)) | refine forkNot ?_ | (refine ⟨vI64 (by omega), ?_⟩) | (refine And.intro (by omega) ?_) | apply And.intro | (exact iEq (by omega)) | (exact vI64 (by omega))
    rintro y ⟨hy, hno⟩
    refine forkD (fun hl2 => ?_) (fun hl2 => ?_)
    · refine ⟨by omega, partRep (by omega), forkEq (fun hq => ?_) (fun hq => ?_)⟩
      · refine forkD (fun _ => absurd (((stop (by rw [errOne_2 h2 ⟨y, by omega, hq⟩]; exact (by decide))).symm.trans (errOne_2 h2 ⟨y, by omega, hq⟩)).symm.trans he) ((by decide))) (fun h => absurd (by omega) h)
      · repeat' first | (refine ⟨y + 1, ⟨by omega, fun k hk => ?_⟩, by omega, ?_⟩) | exact trivial | exact rfl | exact wk_refl _ | refine wkO_cells ?_ | refine wks_cons ?_ ?_ | exact wks_nil | exact wk_nil _ _ _ (.inl rfl) | (exact wk_Q (by omega)) | refine wk_tupL ?_ | refine wk_aggL ?_ | refine joinMax ?_ ?_ ?_ | refine joinMin ?_ ?_ ?_ | refine toMax ?_ | refine toMin ?_ | refine ⟨rfl, ?_⟩ | refine ⟨trivial, ?_⟩ | (refine forkD (fun h => ?_) (fun h => ?_)) | (refine forkNe (fun h => ?_) (fun h => ?_)) | (refine forkEq (fun h => ?_) (fun h => ?_)) | refine forkNot ?_ | (refine ⟨vI64 (by omega), ?_⟩) | (refine And.intro (by omega) ?_) | apply And.intro | (exact iEq (by omega)) | (exact vI64 (by omega))
        rcases Nat.lt_or_ge k y with h3 | h3
        · exact hno k h3
        · obtain rfl : k = y := by omega
          exact hq
    · obtain rfl : y = x := by omega
      have h3 : ¬ ∃ k, k < y ∧ (l.getD k zeroR).id = (l.getD y zeroR).id := fun ⟨k, h, e⟩ => hno k h e
      refine ⟨by omega, rep3 (by omega), forkNe (fun h4 => absurd (((stop (by rw [errOne_3 h2 h3 (.inl h4)]; exact (by decide))).symm.trans (errOne_3 h2 h3 (.inl h4))).symm.trans he) ((by decide))) (fun h4 => ?_)⟩
      refine ⟨by omega, rep4 (by omega), forkNe (fun h5 => absurd (((stop (by rw [errOne_3 h2 h3 (.inr h5)]; exact (by decide))).symm.trans (errOne_3 h2 h3 (.inr h5))).symm.trans he) ((by decide))) (fun h5 => ?_)⟩
      have h6 : ¬ ((l.getD y zeroR).x ≠ (l.getD 0 zeroR).x ∨ (l.getD y zeroR).y ≠ (l.getD 0 zeroR).y) := fun q => q.elim (fun a => a h4) (fun a => a h5)
      refine forkD (fun h7 => absurd (((stop (by rw [errOne_4 h2 h3 h6 (by omega)]; exact (by decide))).symm.trans (errOne_4 h2 h3 h6 (by omega))).symm.trans he) ((by decide))) (fun h7 => ?_)
      have ok := errReport_iff.1 h2
      have e5 := errOne_5 h2 h3 h6 (by omega)
      repeat' first | (refine ⟨_, trivial, fun H' _ _ => ktells _ m now ok hm (by omega) H', ?_⟩) | (refine ⟨⟨by omega, by decide, ⟨Nat.le_refl _, by rw [flat_len cellC_lenP, toldL_len]; omega⟩, ⟨by decide, Nat.le_refl _⟩, rfl⟩, rfl, ?_⟩) | (refine ⟨y + 1, ⟨by omega, errTo_succ0 hz e5⟩, by omega, ?_⟩) | exact plainP _ _ | (exact (by rw [toldL_succ]; exact congrArg (fun l => some (KObj.cells true 8 l)) (flat_snoc cellC_lenP _ _ (toldL_len ..).symm))) | exact trivial | exact rfl | exact wk_refl _ | refine wkO_cells ?_ | refine wks_cons ?_ ?_ | exact wks_nil | exact wk_nil _ _ _ (.inl rfl) | (exact wk_Q (by omega)) | refine wk_tupL ?_ | refine wk_aggL ?_ | refine joinMax ?_ ?_ ?_ | refine joinMin ?_ ?_ ?_ | refine toMax ?_ | refine toMin ?_ | refine ⟨rfl, ?_⟩ | refine ⟨trivial, ?_⟩ | (refine forkD (fun h => ?_) (fun h => ?_)) | (refine forkNe (fun h => ?_) (fun h => ?_)) | (refine forkEq (fun h => ?_) (fun h => ?_)) | refine forkNot ?_ | (refine ⟨vI64 (by omega), ?_⟩) | (refine And.intro (by omega) ?_) | apply And.intro | (exact iEq (by omega)) | (exact vI64 (by omega))
  · have hxe : x = l.length := by omega
    subst hxe
    repeat' first | exact plainP _ _ | exact trivial | exact rfl | exact wk_refl _ | refine wkO_cells ?_ | refine wks_cons ?_ ?_ | exact wks_nil | exact wk_nil _ _ _ (.inl rfl) | (exact wk_Q (by omega)) | refine wk_tupL ?_ | refine wk_aggL ?_ | refine joinMax ?_ ?_ ?_ | refine joinMin ?_ ?_ ?_ | refine toMax ?_ | refine toMin ?_ | refine ⟨rfl, ?_⟩ | refine ⟨trivial, ?_⟩ | (refine forkD (fun h => ?_) (fun h => ?_)) | (refine forkNe (fun h => ?_) (fun h => ?_)) | (refine forkEq (fun h => ?_) (fun h => ?_)) | refine forkNot ?_ | (refine ⟨vI64 (by omega), ?_⟩) | (refine And.intro (by omega) ?_) | apply And.intro | (exact iEq (by omega)) | (exact vI64 (by omega))
    all_goals (rw [show (told l m now).length = l.length from toldL_len ..]; exact wk_refl _)
end
end Go.Proofs.YthcjliffpebjaaaGreat
/- Ice: the greatest sets that agree. No condition. -/
namespace Go.Proofs.YthcjliffpebjaaaGreat
open Go Go.K
set_option maxRecDepth 100000
set_option linter.unusedVariables false
set_option linter.unusedSimpArgs false
noncomputable section
attribute [local irreducible] vF hasK
section
abbrev wu (n : Int) : Int := IntKind.wrap .u64 n
abbrev au (n m : Int) : Int := IntKind.wrap .u64 (((BitVec.ofInt (IntKind.bits .u64) n &&& BitVec.ofInt (IntKind.bits .u64) m).toNat : Nat) : Int)
def o0 (n : Int) : Int := au (Int.fdiv n (2 ^ 1)) 6148914691236517205
def o1 (n : Int) : Int := au n 6148914691236517205
def o2 (n : Int) : Int := au (Int.fdiv (o0 n + o1 n) (2 ^ 2)) 3689348814741910323
def o3 (n : Int) : Int := au (o0 n + o1 n) 3689348814741910323
def o4 (n : Int) : Int := au ((Int.fdiv (o2 n + o3 n) (2 ^ 4)) + (o2 n + o3 n)) 1085102592571150095
def o5 (n : Int) : Int := (o4 n + (Int.fdiv (o4 n) (2 ^ 8))) + (Int.fdiv (o4 n + (Int.fdiv (o4 n) (2 ^ 8))) (2 ^ 16))
def o6 (n : Int) : Int := IntKind.wrap .i64 (o5 n + (Int.fdiv (o5 n) (2 ^ 32)))
def o7 (n : Int) : Int := IntKind.wrap .i64 (((BitVec.ofInt (IntKind.bits .i64) (o6 n) &&& BitVec.ofInt (IntKind.bits .i64) 127).toNat : Nat) : Int)
def onesOk (s : Nat) : Bool :=
  decide (wu (o0 s + o1 s) = o0 s + o1 s) && (decide (wu (o2 s + o3 s) = o2 s + o3 s) && (decide (wu ((Int.fdiv (o2 s + o3 s) (2 ^ 4)) + (o2 s + o3 s)) = (Int.fdiv (o2 s + o3 s) (2 ^ 4)) + (o2 s + o3 s)) &&
  (decide (wu (o4 s + (Int.fdiv (o4 s) (2 ^ 8))) = o4 s + (Int.fdiv (o4 s) (2 ^ 8))) && (decide (wu (o5 s) = o5 s) && (decide (wu (o5 s + (Int.fdiv (o5 s) (2 ^ 32))) = o5 s + (Int.fdiv (o5 s) (2 ^ 32))) && decide (o7 s = (popc s : Int)))))))
theorem ones_all : (List.range 4096).all onesOk = true := by kernel_rfl
end
theorem kOnes (s : Nat) (hs : s < 4096) (H : Heap) : KCall prog F.math_bits_OnesCount [.int .u64 ((s : Nat) : Int)] H [] (Is (.int .i64 ((popc s : Nat) : Int)) H) := by
  refine valK 40 (fun _ => rfl) rfl (Eq.mpr (EOnesCount _ _) ?_) H
  have h := List.all_eq_true.1 ones_all s (List.mem_range.2 hs)
  simp only [onesOk, Bool.and_eq_true, decide_eq_true_eq] at h
  obtain ⟨h1, h2, h3, h4, h5, h6, h7⟩ := h
  exact ⟨o0 s, rfl, o1 s, rfl, iEq h1, o2 s, rfl, o3 s, rfl, iEq h2, iEq h3, o4 s, rfl, iEq h4, iEq h5, o5 s, rfl, iEq h6, o6 s, rfl, o7 s, rfl, iEq h7⟩
end
end Go.Proofs.YthcjliffpebjaaaGreat
/- Ice: the greatest sets that agree: the layer's answer. No condition. -/
namespace Go.Proofs.YthcjliffpebjaaaGreat
open Go Go.K
set_option maxRecDepth 100000
set_option linter.unusedVariables false
set_option linter.unusedSimpArgs false
noncomputable section
attribute [local irreducible] vF hasK popc
theorem natC_len (s : Nat) : (natC s).length = 1 := rfl
theorem plainN (n : Nat) (l : List Nat) : (l.flatMap natC).all (belowC n) = true := plain_flat (fun _ => rfl) l
theorem shl_eq {n : Nat} (hn : n ≤ 12) : (1 * 2 ^ min (Int.toNat ((n : Nat) : Int)) (IntKind.bits .i64) : Int) = (2 : Int) ^ n := by
  rw [Int.toNat_natCast, show min n (IntKind.bits .i64) = n from Nat.min_eq_left (by show n ≤ 64; omega), Int.one_mul]
theorem agr_succ (ts : List Cell) (j : Nat) : agr ts (j + 1) = if (popc (2 ^ ts.length - 1 - j) : Int) < (agr ts j).1 then agr ts j else if (togA ts (2 ^ ts.length - 1 - j)).isSome then (if (agr ts j).1 < popc (2 ^ ts.length - 1 - j) then (((popc (2 ^ ts.length - 1 - j) : Nat) : Int), [2 ^ ts.length - 1 - j]) else ((agr ts j).1, (agr ts j).2 ++ [2 ^ ts.length - 1 - j])) else agr ts j := rfl
theorem agr_a {ts : List Cell} {j s : Nat} (hs : 2 ^ ts.length - 1 - j = s) (h : (popc s : Int) < (agr ts j).1) : agr ts (j + 1) = agr ts j := by rw [agr_succ, hs, if_pos h]
theorem agr_b {ts : List Cell} {j s : Nat} (hs : 2 ^ ts.length - 1 - j = s) (h : ¬ (popc s : Int) < (agr ts j).1) (k : (togA ts s).isSome = false) : agr ts (j + 1) = agr ts j := by rw [agr_succ, hs, if_neg h, if_neg (by rw [k]; decide)]
theorem agr_c {ts : List Cell} {j s : Nat} (hs : 2 ^ ts.length - 1 - j = s) (h : ¬ (popc s : Int) < (agr ts j).1) (k : (togA ts s).isSome = true) (q : (agr ts j).1 < popc s) : agr ts (j + 1) = (((popc s : Nat) : Int), [s]) := by rw [agr_succ, hs, if_neg h, if_pos k, if_pos q]
theorem agr_d {ts : List Cell} {j s : Nat} (hs : 2 ^ ts.length - 1 - j = s) (h : ¬ (popc s : Int) < (agr ts j).1) (k : (togA ts s).isSome = true) (q : ¬ (agr ts j).1 < popc s) : agr ts (j + 1) = ((agr ts j).1, (agr ts j).2 ++ [s]) := by rw [agr_succ, hs, if_neg h, if_pos k, if_neg q]
theorem agr_len (ts : List Cell) (j : Nat) : (agr ts j).2.length ≤ j := by
  induction j with
  | zero => exact Nat.le_refl _
  | succ j ih =>
    rw [agr_succ]
    split
    · omega
    · split
      · split
        · show [_].length ≤ _
          simp
        · show ((agr ts j).2 ++ [_]).length ≤ _
          simp; omega
      · omega
theorem wu_eq {n : Nat} (h : n < 4096) : IntKind.wrap .u64 ((n : Nat) : Int) = ((n : Nat) : Int) := by
  show ((n : Int) % 18446744073709551616) = n
  omega
theorem kagreeing (m : Rates) {ts : List Cell} (hn : ts.length ≤ 12) {H : Heap} {L : Nat} (hL : H.length = L) {w j : Nat} {own own2 : Bool} {z z2 : Nat} (h1 : H[w]? = some (.cells own z (workC m j ts.length))) (h2 : H[j]? = some (.cells own2 z2 (ts.flatMap cellC))) :
    KCall prog F.ice_work_agreeing [.pointer (some ⟨w, 0, none⟩)] H [] (Is (.slice (some ⟨L, 0, some 1⟩) (agrA ts).length (agrA ts).length) (H ++ [.cells true 1 ((agrA ts).flatMap natC)])) := by
  subst hL
  have key := fun hc => valNA (css := [workC m 1 ts.length, ts.flatMap cellC]) (v := .slice (some ⟨2, 0, some 1⟩) (agrA ts).length (agrA ts).length) (new := [(true, .cells true 1 ((agrA ts).flatMap natC))]) (Eq.mpr (Eagreeing m ts) hc) rfl (by simp [rn, sgOnly])
    (by show ((rnoOk 3 (.cells true 1 ((agrA ts).flatMap natC)) && true) && true) = true
        rw [Bool.and_true, Bool.and_true]; exact (rnCl (σ := fun _ => none) (d := 0) (plainN 0 _)).2)
    (congrArg (fun q => [KObj.cells true 1 q]) (rnCl (d := 0) (plainN 0 _)).1) (H := H) [w, j] rfl (work_ids h1 h2)
  have e1 : rn (sgUp (0 + [workC m 1 ts.length, ts.flatMap cellC].length) H.length) 3 (.slice (some ⟨2, 0, some 1⟩) (agrA ts).length (agrA ts).length) = .slice (some ⟨H.length, 0, some 1⟩) (agrA ts).length (agrA ts).length := by simp [rn, sgUp]
  have e2 : (List.map (fun x : Bool × KObj => x.2) [(true, KObj.cells true 1 ((agrA ts).flatMap natC))]).map (rno (sgUp (0 + [workC m 1 ts.length, ts.flatMap cellC].length) H.length) 3) = [.cells true 1 ((agrA ts).flatMap natC)] :=
    congrArg (fun q => [KObj.cells true 1 q]) (rnCl (d := 0) (plainN 0 _)).1
  rw [e1, e2] at key
  refine key ?_
  unfold Ragreeing
  have hp := pow12 hn
  have hpi : ((2 : Int) ^ ts.length) = (((2 ^ ts.length : Nat)) : Int) := by simp
  have hs := shl_eq hn
  refine ⟨by omega, vI64 (by rw [hs, hpi]; omega), _, iEq hs, vI64 (by rw [hpi]; omega), rfl, Nat.zero_le _, ?_, fun _ => rfl, ?_⟩
  · repeat' first | (exact iEq (by simp)) | exact plainN _ _ | exact trivial | exact rfl | exact wk_refl _ | refine wkO_cells ?_ | refine wks_cons ?_ ?_ | exact wks_nil | exact wk_nil _ _ _ (.inl rfl) | (exact wk_Q (by omega)) | refine wk_tupL ?_ | refine wk_aggL ?_ | refine joinMax ?_ ?_ ?_ | refine joinMin ?_ ?_ ?_ | refine toMax ?_ | refine toMin ?_ | refine ⟨rfl, ?_⟩ | refine ⟨trivial, ?_⟩ | (refine forkD (fun h => ?_) (fun h => ?_)) | (refine forkNe (fun h => ?_) (fun h => ?_)) | (refine forkEq (fun h => ?_) (fun h => ?_)) | refine forkNot ?_ | (refine ⟨vI64 (by omega), ?_⟩) | (refine And.intro (by omega) ?_) | apply And.intro | (exact iEq (by omega)) | (exact vI64 (by omega))
  intro x hx
  refine ⟨_, rfl, forkD (fun h => ?_) (fun h => ?_)⟩
  · have hx1 : x < 2 ^ ts.length := by rw [hpi] at h; omega
    obtain ⟨s, he⟩ : ∃ s, 2 ^ ts.length - 1 - x = s := ⟨_, rfl⟩
    have ey : (2 : Int) ^ ts.length - 1 - ((x : Nat) : Int) = ((s : Nat) : Int) := by rw [hpi]; omega
    have hs1 : s < 4096 := by omega
    have hal := agr_len ts x
    refine ⟨_, iEq ey, _, trivial, fun H' _ _ => by rw [wu_eq hs1]; exact kOnes s hs1 H', ?_⟩
    refine forkD (fun h1 => ?_) (fun h1 => ?_)
    · refine ⟨_, iEq ey, vI64 (by omega), x + 1, by omega, by omega, ?_⟩
      rw [agr_a he h1]
      repeat' first | (exact iEq (by omega)) | exact plainN _ _ | exact trivial | exact rfl | exact wk_refl _ | refine wkO_cells ?_ | refine wks_cons ?_ ?_ | exact wks_nil | exact wk_nil _ _ _ (.inl rfl) | (exact wk_Q (by omega)) | refine wk_tupL ?_ | refine wk_aggL ?_ | refine joinMax ?_ ?_ ?_ | refine joinMin ?_ ?_ ?_ | refine toMax ?_ | refine toMin ?_ | refine ⟨rfl, ?_⟩ | refine ⟨trivial, ?_⟩ | (refine forkD (fun h => ?_) (fun h => ?_)) | (refine forkNe (fun h => ?_) (fun h => ?_)) | (refine forkEq (fun h => ?_) (fun h => ?_)) | refine forkNot ?_ | (refine ⟨vI64 (by omega), ?_⟩) | (refine And.intro (by omega) ?_) | apply And.intro | (exact iEq (by omega)) | (exact vI64 (by omega))
    refine ⟨(_, _), ⟨rfl, rfl, trivial⟩, fun H' _ hd => ktogether m s hn hs1 hd.1 hd.2.1, forkNot (forkB (fun h2 => ?_) (fun h2 => ?_))⟩
    · refine forkD (fun h3 => ?_) (fun h3 => ?_)
      · refine ⟨_, iEq ey, vI64 (by omega), x + 1, by omega, by omega, ?_⟩
        rw [agr_c he h1 h2 h3]
        repeat' first | (exact iEq (by omega)) | exact plainN _ _ | exact trivial | exact rfl | exact wk_refl _ | refine wkO_cells ?_ | refine wks_cons ?_ ?_ | exact wks_nil | exact wk_nil _ _ _ (.inl rfl) | (exact wk_Q (by omega)) | refine wk_tupL ?_ | refine wk_aggL ?_ | refine joinMax ?_ ?_ ?_ | refine joinMin ?_ ?_ ?_ | refine toMax ?_ | refine toMin ?_ | refine ⟨rfl, ?_⟩ | refine ⟨trivial, ?_⟩ | (refine forkD (fun h => ?_) (fun h => ?_)) | (refine forkNe (fun h => ?_) (fun h => ?_)) | (refine forkEq (fun h => ?_) (fun h => ?_)) | refine forkNot ?_ | (refine ⟨vI64 (by omega), ?_⟩) | (refine And.intro (by omega) ?_) | apply And.intro | (exact iEq (by omega)) | (exact vI64 (by omega))
      · refine ⟨⟨by omega, by decide, ⟨Nat.le_refl _, by rw [flat_len natC_len]; omega⟩, ⟨by decide, Nat.le_refl _⟩, rfl⟩, rfl, _, iEq ey, vI64 (by omega), x + 1, by omega, by omega, ?_⟩
        rw [agr_d he h1 h2 h3]
        have hl1 : ((agr ts x).2 ++ [s]).length = (agr ts x).2.length + 1 := by simp
        repeat' first | (exact iEq (by omega)) | exact plainN _ _ | (exact (by rw [hl1]; exact wk_Q (by omega))) | (exact congrArg (fun l => some (KObj.cells true 1 l)) (flat_snoc natC_len (agr ts x).2 s rfl)) | exact trivial | exact rfl | exact wk_refl _ | refine wkO_cells ?_ | refine wks_cons ?_ ?_ | exact wks_nil | exact wk_nil _ _ _ (.inl rfl) | (exact wk_Q (by omega)) | refine wk_tupL ?_ | refine wk_aggL ?_ | refine joinMax ?_ ?_ ?_ | refine joinMin ?_ ?_ ?_ | refine toMax ?_ | refine toMin ?_ | refine ⟨rfl, ?_⟩ | refine ⟨trivial, ?_⟩ | (refine forkD (fun h => ?_) (fun h => ?_)) | (refine forkNe (fun h => ?_) (fun h => ?_)) | (refine forkEq (fun h => ?_) (fun h => ?_)) | refine forkNot ?_ | (refine ⟨vI64 (by omega), ?_⟩) | (refine And.intro (by omega) ?_) | apply And.intro | (exact iEq (by omega)) | (exact vI64 (by omega))
    · refine ⟨_, iEq ey, vI64 (by omega), x + 1, by omega, by omega, ?_⟩
      rw [agr_b he h1 h2]
      repeat' first | (exact iEq (by omega)) | exact plainN _ _ | exact trivial | exact rfl | exact wk_refl _ | refine wkO_cells ?_ | refine wks_cons ?_ ?_ | exact wks_nil | exact wk_nil _ _ _ (.inl rfl) | (exact wk_Q (by omega)) | refine wk_tupL ?_ | refine wk_aggL ?_ | refine joinMax ?_ ?_ ?_ | refine joinMin ?_ ?_ ?_ | refine toMax ?_ | refine toMin ?_ | refine ⟨rfl, ?_⟩ | refine ⟨trivial, ?_⟩ | (refine forkD (fun h => ?_) (fun h => ?_)) | (refine forkNe (fun h => ?_) (fun h => ?_)) | (refine forkEq (fun h => ?_) (fun h => ?_)) | refine forkNot ?_ | (refine ⟨vI64 (by omega), ?_⟩) | (refine And.intro (by omega) ?_) | apply And.intro | (exact iEq (by omega)) | (exact vI64 (by omega))
  · obtain rfl : x = 2 ^ ts.length := by rw [hpi] at h; omega
    repeat' first | exact plainN _ _ | exact trivial | exact rfl | exact wk_refl _ | refine wkO_cells ?_ | refine wks_cons ?_ ?_ | exact wks_nil | exact wk_nil _ _ _ (.inl rfl) | (exact wk_Q (by omega)) | refine wk_tupL ?_ | refine wk_aggL ?_ | refine joinMax ?_ ?_ ?_ | refine joinMin ?_ ?_ ?_ | refine toMax ?_ | refine toMin ?_ | refine ⟨rfl, ?_⟩ | refine ⟨trivial, ?_⟩ | (refine forkD (fun h => ?_) (fun h => ?_)) | (refine forkNe (fun h => ?_) (fun h => ?_)) | (refine forkEq (fun h => ?_) (fun h => ?_)) | refine forkNot ?_ | (refine ⟨vI64 (by omega), ?_⟩) | (refine And.intro (by omega) ?_) | apply And.intro | (exact iEq (by omega)) | (exact vI64 (by omega))
end
end Go.Proofs.YthcjliffpebjaaaGreat
/- What is to be shown of functions. Printed by a program. No condition. -/
namespace Go.Proofs.YthcjliffpebjaaaGreat
set_option linter.unusedSimpArgs false
open Go Go.K
set_option maxRecDepth 100000
set_option linter.unusedVariables false
noncomputable section
def RTrust (l : List Report) (m : Rates) (now : Int) : Prop :=
  (((errOpen l m now = 0) → (((some (.cells false 0 (List.flatMap reportC l) : KObj) = some (.cells false 0 (List.flatMap reportC l) : KObj)) ∧ True) ∧ (∀ H' : Heap, H'.length = 3 → (H'[0]? = some (.cells false 0 (List.flatMap reportC l) : KObj) ∧ True) → KCall prog 79 [.slice (some ⟨0, 0, some 2⟩) (List.length l) (List.length l), (ratesV m), .int .i64 now] H' [] (Is (.tuple #[.pointer (some ⟨3, 0, none⟩), .int .i64 0]) (H' ++ [(.cells true 0 [.int .i64 m.up.conc, .int .i64 m.up.thick, .int .i64 m.up.ridge, .int .i64 m.up.press, .int .i64 m.down.conc, .int .i64 m.down.thick, .int .i64 m.down.ridge, .int .i64 m.down.press, .slice (some ⟨4, 0, some 1⟩) (List.length (told l m now)) (List.length (told l m now))] : KObj), (.cells true 8 (List.flatMap cellC (told l m now)) : KObj)]))) ∧ (((some (.cells true 0 [.int .i64 m.up.conc, .int .i64 m.up.thick, .int .i64 m.up.ridge, .int .i64 m.up.press, .int .i64 m.down.conc, .int .i64 m.down.thick, .int .i64 m.down.ridge, .int .i64 m.down.press, .slice (some ⟨4, 0, some 1⟩) (List.length (told l m now)) (List.length (told l m now))] : KObj) = some (.cells true 0 [.int .i64 m.up.conc, .int .i64 m.up.thick, .int .i64 m.up.ridge, .int .i64 m.up.press, .int .i64 m.down.conc, .int .i64 m.down.thick, .int .i64 m.down.ridge, .int .i64 m.down.press, .slice (some ⟨4, 0, some 1⟩) (List.length (told l m now)) (List.length (told l m now))] : KObj)) ∧ (some (.cells true 8 (List.flatMap cellC (told l m now)) : KObj) = some (.cells true 8 (List.flatMap cellC (told l m now)) : KObj)) ∧ True) ∧ (∀ H' : Heap, H'.length = 5 → (H'[3]? = some (.cells true 0 [.int .i64 m.up.conc, .int .i64 m.up.thick, .int .i64 m.up.ridge, .int .i64 m.up.press, .int .i64 m.down.conc, .int .i64 m.down.thick, .int .i64 m.down.ridge, .int .i64 m.down.press, .slice (some ⟨4, 0, some 1⟩) (List.length (told l m now)) (List.length (told l m now))] : KObj) ∧ H'[4]? = some (.cells true 8 (List.flatMap cellC (told l m now)) : KObj) ∧ True) → KCall prog 85 [.pointer (some ⟨3, 0, none⟩)] H' [] (Is (.tuple #[.slice (some ⟨5, 0, some 1⟩) (List.length (trustL (told l m now) (List.length (told l m now)))) (List.length (trustL (told l m now) (List.length (told l m now)))), (cellV ((togA (told l m now) (trustS (told l m now))).getD zeroC))]) (H' ++ [(.cells true 1 (List.flatMap boolC (trustL (told l m now) (List.length (told l m now)))) : KObj)]))) ∧ (true = true ∧ wk (.tuple #[.slice (some ⟨5, 0, some 1⟩) (List.length (trustL (told l m now) (List.length (told l m now)))) (List.length (trustL (told l m now) (List.length (told l m now)))), (cellV ((togA (told l m now) (trustS (told l m now))).getD zeroC)), .int .i64 0] : Value) (rn (sg 1 [(1, 5)]) 3 (.tuple #[.slice (some ⟨1, 0, some 1⟩) (List.length (fTrust l m now).1) (List.length (fTrust l m now).1), (cellV (fTrust l m now).2.1), .int .i64 (fTrust l m now).2.2] : Value)) ∧ ((some (.cells true 1 (List.flatMap boolC (trustL (told l m now) (List.length (told l m now)))) : KObj) = some (.cells true 1 (List.flatMap boolC (fTrust l m now).1) : KObj) ∧ belowO 1 (.cells true 1 (List.flatMap boolC (fTrust l m now).1) : KObj) = true) ∧ True))))) ∧ ((¬ (errOpen l m now = 0)) → (((some (.cells false 0 (List.flatMap reportC l) : KObj) = some (.cells false 0 (List.flatMap reportC l) : KObj)) ∧ True) ∧ (∀ H' : Heap, H'.length = 3 → (H'[0]? = some (.cells false 0 (List.flatMap reportC l) : KObj) ∧ True) → KCall prog 79 [.slice (some ⟨0, 0, some 2⟩) (List.length l) (List.length l), (ratesV m), .int .i64 now] H' [] (Is (.tuple #[.pointer none, .int .i64 (errOpen l m now)]) H')) ∧ ((.bool (((errOpen l m now) : Int) != 0) : Value) = .bool true ∧ (true = true ∧ wk (.tuple #[.slice none 0 0, .agg #[.int .i64 0, .int .i64 0, .int .i64 0, .int .i64 0, .int .i64 0, .int .i64 0, .int .i64 0, .int .i64 0], .int .i64 (errOpen l m now)] : Value) (rn (sg 1 []) 3 (.tuple #[.slice (some ⟨1, 0, some 1⟩) (List.length (fTrust l m now).1) (List.length (fTrust l m now).1), (cellV (fTrust l m now).2.1), .int .i64 (fTrust l m now).2.2] : Value)) ∧ (True ∧ True))))))
theorem ETrust (l : List Report) (m : Rates) (now : Int) : vF prog msk (dm 0) 100000 true 40 true 18 [.slice (some ⟨0, 0, some 2⟩) (List.length l) (List.length l), (ratesV m), .int .i64 now] (readsT 0 [l.flatMap reportC]) (some [])
  (.go 6 (.cas (errOpen l m now = 0) (.ans [(0, .cells false 0 (List.flatMap reportC l))] (.tuple #[.pointer (some ⟨3, 0, none⟩), .int .i64 0]) [.cells true 0 [.int .i64 m.up.conc, .int .i64 m.up.thick, .int .i64 m.up.ridge, .int .i64 m.up.press, .int .i64 m.down.conc, .int .i64 m.down.thick, .int .i64 m.down.ridge, .int .i64 m.down.press, .slice (some ⟨4, 0, some 1⟩) (List.length (told l m now)) (List.length (told l m now))], .cells true 8 (List.flatMap cellC (told l m now))] (.go 8 (.ans [(3, .cells true 0 [.int .i64 m.up.conc, .int .i64 m.up.thick, .int .i64 m.up.ridge, .int .i64 m.up.press, .int .i64 m.down.conc, .int .i64 m.down.thick, .int .i64 m.down.ridge, .int .i64 m.down.press, .slice (some ⟨4, 0, some 1⟩) (List.length (told l m now)) (List.length (told l m now))]), (4, .cells true 8 (List.flatMap cellC (told l m now)))] (.tuple #[.slice (some ⟨5, 0, some 1⟩) (List.length (trustL (told l m now) (List.length (told l m now)))) (List.length (trustL (told l m now) (List.length (told l m now)))), (cellV ((togA (told l m now) (trustS (told l m now))).getD zeroC))]) [.cells true 1 (List.flatMap boolC (trustL (told l m now) (List.length (told l m now))))] (.go 23 (.again [(1, 5)]))))) (.ans [(0, .cells false 0 (List.flatMap reportC l))] (.tuple #[.pointer none, .int .i64 (errOpen l m now)]) [] (.go 6 (.slot 21 (.bool true) (.go 5 (.again [])))))))
  (newK ((readsT 0 [l.flatMap reportC]) : HT).n 3 (.tuple #[.slice (some ⟨1, 0, some 1⟩) (List.length (fTrust l m now).1) (List.length (fTrust l m now).1), (cellV (fTrust l m now).2.1), .int .i64 (fTrust l m now).2.2]) [(true, .cells true 1 (List.flatMap boolC (fTrust l m now).1))]) = RTrust l m now := by kernel_rfl
end
end Go.Proofs.YthcjliffpebjaaaGreat
/- Ice: what reports tell together, conflicts, trusted reports. No condition. -/
namespace Go.Proofs.YthcjliffpebjaaaGreat
open Go Go.K
set_option maxRecDepth 100000
set_option linter.unusedVariables false
set_option linter.unusedSimpArgs false
noncomputable section
theorem agr_inv (ts : List Cell) (j : Nat) (hj : j ≤ 2 ^ ts.length) : (((agr ts j).1 = -1 ∧ (agr ts j).2 = []) ∨ (0 ≤ (agr ts j).1 ∧ (agr ts j).2 ≠ [])) ∧ ∀ s ∈ (agr ts j).2, s < 2 ^ ts.length ∧ (togA ts s).isSome = true ∧ ((popc s : Nat) : Int) = (agr ts j).1 := by
  induction j with
  | zero => exact ⟨.inl ⟨rfl, rfl⟩, fun s h => by cases h⟩
  | succ j ih =>
    obtain ⟨i1, i2⟩ := ih (by omega)
    have hs : 2 ^ ts.length - 1 - j < 2 ^ ts.length := by omega
    rcases Classical.em ((popc (2 ^ ts.length - 1 - j) : Int) < (agr ts j).1) with h1 | h1
    · rw [agr_a rfl h1]; exact ⟨i1, i2⟩
    · cases h2 : (togA ts (2 ^ ts.length - 1 - j)).isSome with
      | false => rw [agr_b rfl h1 h2]; exact ⟨i1, i2⟩
      | true =>
        rcases Classical.em ((agr ts j).1 < popc (2 ^ ts.length - 1 - j)) with h3 | h3
        · rw [agr_c rfl h1 h2 h3]
          refine ⟨.inr ⟨by omega, by simp⟩, fun s hm => ?_⟩
          rw [List.mem_singleton.1 hm]; exact ⟨hs, h2, rfl⟩
        · rw [agr_d rfl h1 h2 h3]
          refine ⟨.inr ⟨by show 0 ≤ (agr ts j).1; omega, by simp⟩, fun s hm => ?_⟩
          rcases List.mem_append.1 hm with hm | hm
          · exact i2 s hm
          · rw [List.mem_singleton.1 hm]; exact ⟨hs, h2, by omega⟩
theorem tog_zero (ts : List Cell) (j : Nat) : tog ts 0 j = some wholeC := by
  induction j with
  | zero => rfl
  | succ j ih => rw [tog_succ ih, show inSet ts.length 0 j = false from Nat.zero_testBit _, if_neg (by decide)]
theorem agrA_ne (ts : List Cell) : agrA ts ≠ [] := by
  unfold agrA
  have h0 : 1 ≤ 2 ^ ts.length := Nat.one_le_two_pow
  obtain ⟨j, hj⟩ : ∃ j, 2 ^ ts.length = j + 1 := ⟨2 ^ ts.length - 1, by omega⟩
  obtain ⟨i1, _⟩ := agr_inv ts j (by omega)
  have hs : 2 ^ ts.length - 1 - j = 0 := by omega
  have hz : (togA ts 0).isSome = true := by unfold togA; rw [tog_zero]; rfl
  rw [hj]
  rcases Classical.em ((popc 0 : Int) < (agr ts j).1) with h1 | h1
  · rw [agr_a hs h1]
    rcases i1 with ⟨a, _⟩ | ⟨_, b⟩
    · rw [a] at h1; omega
    · exact b
  · rcases Classical.em ((agr ts j).1 < popc 0) with h3 | h3
    · rw [agr_c hs h1 hz h3]; simp
    · rw [agr_d hs h1 hz h3]; simp
attribute [local irreducible] vF hasK popc
theorem trustS_mem (ts : List Cell) : trustS ts ∈ agrA ts := by
  unfold trustS
  cases h : agrA ts with
  | nil => exact absurd h (agrA_ne ts)
  | cons a r => simp
theorem trustS_ok (ts : List Cell) : trustS ts < 2 ^ ts.length ∧ (togA ts (trustS ts)).isSome = true :=
  let h := (agr_inv ts (2 ^ ts.length) (Nat.le_refl _)).2 _ (trustS_mem ts); ⟨h.1, h.2.1⟩
theorem errOpen_len {l : List Report} {m : Rates} {now : Int} (h : errOpen l m now = 0) : l.length ≤ 12 := by
  rcases Classical.em (errAsk m now = 0) with h1 | h1
  · rcases Nat.lt_or_ge 12 l.length with h2 | h2
    · rw [errOpen_2 h1 h2] at h; cases h
    · exact h2
  · rw [errOpen_1 h1] at h; exact absurd h h1
theorem told_len (l : List Report) (m : Rates) (now : Int) : (told l m now).length = l.length := toldL_len ..
theorem fFuse_1 {l : List Report} {m : Rates} {now : Int} (h : ¬ errOpen l m now = 0) : fFuse l m now = (zeroC, errOpen l m now) := by unfold fFuse; rw [if_neg h]
theorem fFuse_2 {l : List Report} {m : Rates} {now : Int} (h : errOpen l m now = 0) (k : (togA (told l m now) (2 ^ l.length - 1)).isSome = false) : fFuse l m now = (zeroC, 21) := by
  unfold fFuse; rw [if_pos h]
  cases hq : togA (told l m now) (2 ^ l.length - 1) with
  | none => rfl
  | some c => rw [hq] at k; cases k
theorem fFuse_3 {l : List Report} {m : Rates} {now : Int} (h : errOpen l m now = 0) (k : (togA (told l m now) (2 ^ l.length - 1)).isSome = true) : fFuse l m now = ((togA (told l m now) (2 ^ l.length - 1)).getD zeroC, 0) := by
  unfold fFuse; rw [if_pos h]
  cases hq : togA (told l m now) (2 ^ l.length - 1) with
  | none => rw [hq] at k; cases k
  | some c => rfl
theorem pow1_cast (n : Nat) : ((2 : Int) ^ n) - 1 = (((2 ^ n - 1 : Nat)) : Int) := by
  have h1 : ((2 : Int) ^ n) = (((2 ^ n : Nat)) : Int) := by simp
  have h2 : 1 ≤ 2 ^ n := Nat.one_le_two_pow
  rw [h1]; omega
theorem kFuse (l : List Report) (m : Rates) (now : Int) {H : Heap} {id : Nat} {own : Bool} {z : Nat} (hid : H[id]? = some (.cells own z (l.flatMap reportC))) :
    KCall prog F.ice_Fuse [.slice (some ⟨id, 0, some 2⟩) l.length l.length, ratesV m, .int .i64 now] H [] (Is (.tuple #[cellV (fFuse l m now).1, .int .i64 (fFuse l m now).2]) H) := by
  refine valR (Eq.mpr (EFuse _ l m now) ?_) (one_cs (plainR 0 l)) rfl [id] rfl (one_id hid)
  unfold RFuse
  refine ⟨fun he => ?_, fun he => ?_⟩
  · have hn := errOpen_len he
    have hs := shl_eq hn
    have hp := pow12 hn
    have hpi := pow1_cast l.length
    have hn2 : (told l m now).length ≤ 12 := by rw [told_len]; exact hn
    refine ⟨⟨rfl, trivial⟩, fun H' hl hd => kopen1 l m now he hl hd.1, by omega, vI64 (by rw [hs]; omega), _, iEq hs, vI64 (by omega), (_, _), ⟨rfl, rfl, trivial⟩, fun H' _ hd => by rw [hpi]; exact ktogether m _ hn2 (by omega) hd.1 hd.2.1, forkNot (forkB (fun h2 => ?_) (fun h2 => ?_))⟩
    · exact tupC (fFuse_3 he h2)
    · exact tupC (fFuse_2 he h2)
  · repeat' first | (refine ⟨⟨rfl, trivial⟩, fun H' _ hd => kopen0 l m now he hd.1, ?_⟩) | refine ⟨vbT (bne_iff_ne.2 he), ?_⟩ | exact tupC (fFuse_1 he) | exact trivial | exact rfl | exact wk_refl _ | refine wkO_cells ?_ | refine wks_cons ?_ ?_ | exact wks_nil | exact wk_nil _ _ _ (.inl rfl) | (exact wk_Q (by omega)) | refine wk_tupL ?_ | refine wk_aggL ?_ | refine joinMax ?_ ?_ ?_ | refine joinMin ?_ ?_ ?_ | refine toMax ?_ | refine toMin ?_ | refine ⟨rfl, ?_⟩ | refine ⟨trivial, ?_⟩ | (refine forkD (fun h => ?_) (fun h => ?_)) | (refine forkNe (fun h => ?_) (fun h => ?_)) | (refine forkEq (fun h => ?_) (fun h => ?_)) | refine forkNot ?_ | (refine ⟨vI64 (by omega), ?_⟩) | (refine And.intro (by omega) ?_) | apply And.intro | (exact iEq (by omega)) | (exact vI64 (by omega))
theorem pairC_len (p : Nat × Nat) : (pairC p).length = 2 := rfl
theorem plainQ (n : Nat) (l : List (Nat × Nat)) : (l.flatMap pairC).all (belowC n) = true := plain_flat (fun _ => rfl) l
theorem plainB (n : Nat) (l : List Bool) : (l.flatMap boolC).all (belowC n) = true := plain_flat (fun _ => rfl) l
theorem confRow_len (ts : List Cell) (i k : Nat) : (confRow ts i k).length ≤ k := by
  induction k with
  | zero => exact Nat.le_refl _
  | succ k ih =>
    unfold confRow
    split
    · omega
    · rw [List.length_append]; simp; omega
theorem conf_len (ts : List Cell) (i : Nat) : (conf ts i).length ≤ i * ts.length := by
  induction i with
  | zero => exact Nat.zero_le _
  | succ i ih =>
    unfold conf
    have := confRow_len ts i (ts.length - (i + 1))
    rw [List.length_append, Nat.succ_mul]; omega
theorem confRow_a {ts : List Cell} {i k : Nat} (h : okC (meetC (ts.getD i zeroC) (ts.getD (i + 1 + k) zeroC))) : confRow ts i (k + 1) = confRow ts i k := if_pos h
theorem confRow_b {ts : List Cell} {i k : Nat} (h : ¬ okC (meetC (ts.getD i zeroC) (ts.getD (i + 1 + k) zeroC))) : confRow ts i (k + 1) = confRow ts i k ++ [(i, i + 1 + k)] := if_neg h
theorem fConf_0 {l : List Report} {m : Rates} {now : Int} (h : ¬ errOpen l m now = 0) : fConf l m now = ([], errOpen l m now) := if_neg h
theorem fConf_1 {l : List Report} {m : Rates} {now : Int} (h : errOpen l m now = 0) : fConf l m now = (conf (told l m now) l.length, 0) := if_pos h
theorem partCell2 {xs : List Cell} {i k : Nat} (h : i + 1 + k < xs.length) : partA 8 (List.flatMap cellC xs) (0 + Int.toNat (((i : Nat) : Int) + 1) * 8 + Int.toNat ((k : Nat) : Int) * 8) = some (.agg ⟨cellC (List.getD xs (i + 1 + k) zeroC)⟩) :=
  part_at (f := cellC) (d := zeroC) (c := 0) (m := 8) cellC_lenP h (by rw [Int.toNat_natCast, show Int.toNat (((i : Nat) : Int) + 1) = i + 1 by omega]; omega) (by decide)
theorem kConflicts (l : List Report) (m : Rates) (now : Int) {H : Heap} {L : Nat} (hL : H.length = L) {id : Nat} {own : Bool} {z : Nat} (hid : H[id]? = some (.cells own z (l.flatMap reportC))) :
    KCall prog F.ice_Conflicts [.slice (some ⟨id, 0, some 2⟩) l.length l.length, ratesV m, .int .i64 now] H []
      (Is (.tuple #[.slice (some ⟨L, 0, some 1⟩) (fConf l m now).1.length (fConf l m now).1.length, .int .i64 (fConf l m now).2]) (H ++ [.cells true 2 ((fConf l m now).1.flatMap pairC)])) := by
  subst hL
  have key := fun hc => valN (css := [l.flatMap reportC]) (v := .tuple #[.slice (some ⟨1, 0, some 1⟩) (fConf l m now).1.length (fConf l m now).1.length, .int .i64 (fConf l m now).2]) (new := [(true, .cells true 2 ((fConf l m now).1.flatMap pairC))]) (Eq.mpr (EConflicts l m now) hc) (one_cs (plainR 0 l)) rfl (by simp [rn, sgOnly])
    (by show ((rnoOk 3 (.cells true 2 ((fConf l m now).1.flatMap pairC)) && true) && true) = true
        rw [Bool.and_true, Bool.and_true]; exact (rnCl (σ := fun _ => none) (d := 0) (plainQ 0 _)).2)
    (congrArg (fun q => [KObj.cells true 2 q]) (rnCl (d := 0) (plainQ 0 _)).1) (H := H) [id] rfl (one_id hid)
  have e1 : rn (sgUp (0 + [l.flatMap reportC].length) H.length) 3 (.tuple #[.slice (some ⟨1, 0, some 1⟩) (fConf l m now).1.length (fConf l m now).1.length, .int .i64 (fConf l m now).2]) = .tuple #[.slice (some ⟨H.length, 0, some 1⟩) (fConf l m now).1.length (fConf l m now).1.length, .int .i64 (fConf l m now).2] := by simp [rn, sgUp]
  have e2 : (List.map (fun x : Bool × KObj => x.2) [(true, KObj.cells true 2 ((fConf l m now).1.flatMap pairC))]).map (rno (sgUp (0 + [l.flatMap reportC].length) H.length) 3) = [.cells true 2 ((fConf l m now).1.flatMap pairC)] :=
    congrArg (fun q => [KObj.cells true 2 q]) (rnCl (d := 0) (plainQ 0 _)).1
  rw [e1, e2] at key
  refine key ?_
  clear key e1 e2
  unfold RConflicts
  refine ⟨fun he => ?_, fun he => ?_⟩
  · have hn := errOpen_len he
    have hn2 := told_len l m now
    refine ⟨⟨rfl, trivial⟩, fun H' hl hd => kopen1 l m now he hl hd.1, rfl, Nat.zero_le _, ?_, fun _ => rfl, ?_⟩
    · repeat' first | (exact iEq (by omega)) | exact plainQ _ _ | exact trivial | exact rfl | exact wk_refl _ | refine wkO_cells ?_ | refine wks_cons ?_ ?_ | exact wks_nil | exact wk_nil _ _ _ (.inl rfl) | (exact wk_Q (by omega)) | refine wk_tupL ?_ | refine wk_aggL ?_ | refine joinMax ?_ ?_ ?_ | refine joinMin ?_ ?_ ?_ | refine toMax ?_ | refine toMin ?_ | refine ⟨rfl, ?_⟩ | refine ⟨trivial, ?_⟩ | (refine forkD (fun h => ?_) (fun h => ?_)) | (refine forkNe (fun h => ?_) (fun h => ?_)) | (refine forkEq (fun h => ?_) (fun h => ?_)) | refine forkNot ?_ | (refine ⟨vI64 (by omega), ?_⟩) | (refine And.intro (by omega) ?_) | apply And.intro | (exact iEq (by omega)) | (exact vI64 (by omega))
    intro x hx
    have hcx : (conf (told l m now) x).length ≤ 12 * 12 := Nat.le_trans (conf_len (told l m now) x) (Nat.mul_le_mul (by omega) (by omega))
    refine forkD (fun h => ?_) (fun h => ?_)
    · refine ⟨by omega, partCellP (by omega), vI64 (by omega), ⟨⟨.inr (.inr rfl), Nat.le_refl _⟩, Nat.le_refl _, by omega, by omega⟩, rfl, _, rfl, rfl, by omega, ?_, fun _ => rfl, ?_⟩
      · have ea : conf (told l m now) x ++ confRow (told l m now) x 0 = conf (told l m now) x := List.append_nil _
        rw [ea]
        repeat' first | exact plainQ _ _ | exact trivial | exact rfl | exact wk_refl _ | refine wkO_cells ?_ | refine wks_cons ?_ ?_ | exact wks_nil | exact wk_nil _ _ _ (.inl rfl) | (exact wk_Q (by omega)) | refine wk_tupL ?_ | refine wk_aggL ?_ | refine joinMax ?_ ?_ ?_ | refine joinMin ?_ ?_ ?_ | refine toMax ?_ | refine toMin ?_ | refine ⟨rfl, ?_⟩ | refine ⟨trivial, ?_⟩ | (refine forkD (fun h => ?_) (fun h => ?_)) | (refine forkNe (fun h => ?_) (fun h => ?_)) | (refine forkEq (fun h => ?_) (fun h => ?_)) | refine forkNot ?_ | (refine ⟨vI64 (by omega), ?_⟩) | (refine And.intro (by omega) ?_) | apply And.intro | (exact iEq (by omega)) | (exact vI64 (by omega))
      intro k hk
      have hcr := confRow_len (told l m now) x k
      have hap : (conf (told l m now) x ++ confRow (told l m now) x k).length = (conf (told l m now) x).length + (confRow (told l m now) x k).length := List.length_append
      refine forkD (fun h2 => ?_) (fun h2 => ?_)
      · refine ⟨by omega, partCell2 (by omega), (_, _), trivial, fun H' _ _ => kspMeet _ _ H', forkNot (forkD (fun ok => ?_) (fun ok => ?_))⟩
        · refine ⟨vI64 (by omega), k + 1, by omega, by omega, ?_⟩
          rw [confRow_a ok]
          repeat' first | exact plainQ _ _ | exact trivial | exact rfl | exact wk_refl _ | refine wkO_cells ?_ | refine wks_cons ?_ ?_ | exact wks_nil | exact wk_nil _ _ _ (.inl rfl) | (exact wk_Q (by omega)) | refine wk_tupL ?_ | refine wk_aggL ?_ | refine joinMax ?_ ?_ ?_ | refine joinMin ?_ ?_ ?_ | refine toMax ?_ | refine toMin ?_ | refine ⟨rfl, ?_⟩ | refine ⟨trivial, ?_⟩ | (refine forkD (fun h => ?_) (fun h => ?_)) | (refine forkNe (fun h => ?_) (fun h => ?_)) | (refine forkEq (fun h => ?_) (fun h => ?_)) | refine forkNot ?_ | (refine ⟨vI64 (by omega), ?_⟩) | (refine And.intro (by omega) ?_) | apply And.intro | (exact iEq (by omega)) | (exact vI64 (by omega))
        · repeat' first | (refine ⟨vI64 (by omega), ?_⟩) | (refine ⟨⟨by omega, by decide, ⟨Nat.le_refl _, by rw [flat_len pairC_len]; omega⟩, ⟨by decide, Nat.le_refl _⟩, rfl⟩, rfl, ?_⟩) | (refine ⟨k + 1, by omega, by omega, ?_⟩)
          rw [confRow_b ok, ← List.append_assoc]
          have hl1 : (conf (told l m now) x ++ confRow (told l m now) x k ++ [(x, x + 1 + k)]).length = (conf (told l m now) x ++ confRow (told l m now) x k).length + 1 := List.length_append
          repeat' first | exact plainQ _ _ | (exact (by rw [hl1]; exact wk_Q (by omega))) | (exact congrArg (fun l => some (KObj.cells true 2 l)) (flat_snoc pairC_len _ (x, x + 1 + k) rfl)) | exact trivial | exact rfl | exact wk_refl _ | refine wkO_cells ?_ | refine wks_cons ?_ ?_ | exact wks_nil | exact wk_nil _ _ _ (.inl rfl) | (exact wk_Q (by omega)) | refine wk_tupL ?_ | refine wk_aggL ?_ | refine joinMax ?_ ?_ ?_ | refine joinMin ?_ ?_ ?_ | refine toMax ?_ | refine toMin ?_ | refine ⟨rfl, ?_⟩ | refine ⟨trivial, ?_⟩ | (refine forkD (fun h => ?_) (fun h => ?_)) | (refine forkNe (fun h => ?_) (fun h => ?_)) | (refine forkEq (fun h => ?_) (fun h => ?_)) | refine forkNot ?_ | (refine ⟨vI64 (by omega), ?_⟩) | (refine And.intro (by omega) ?_) | apply And.intro | (exact iEq (by omega)) | (exact vI64 (by omega))
      · have e : conf (told l m now) (x + 1) = conf (told l m now) x ++ confRow (told l m now) x k := by
          show _ ++ confRow _ _ _ = _
          rw [show (told l m now).length - (x + 1) = k by omega]
        refine ⟨vI64 (by omega), x + 1, by omega, by omega, ?_⟩
        rw [e]
        repeat' first | exact plainQ _ _ | exact trivial | exact rfl | exact wk_refl _ | refine wkO_cells ?_ | refine wks_cons ?_ ?_ | exact wks_nil | exact wk_nil _ _ _ (.inl rfl) | (exact wk_Q (by omega)) | refine wk_tupL ?_ | refine wk_aggL ?_ | refine joinMax ?_ ?_ ?_ | refine joinMin ?_ ?_ ?_ | refine toMax ?_ | refine toMin ?_ | refine ⟨rfl, ?_⟩ | refine ⟨trivial, ?_⟩ | (refine forkD (fun h => ?_) (fun h => ?_)) | (refine forkNe (fun h => ?_) (fun h => ?_)) | (refine forkEq (fun h => ?_) (fun h => ?_)) | refine forkNot ?_ | (refine ⟨vI64 (by omega), ?_⟩) | (refine And.intro (by omega) ?_) | apply And.intro | (exact iEq (by omega)) | (exact vI64 (by omega))
    · obtain rfl : x = l.length := by omega
      have hf := fConf_1 he
      rw [hf]
      repeat' first | exact plainQ _ _ | exact trivial | exact rfl | exact wk_refl _ | refine wkO_cells ?_ | refine wks_cons ?_ ?_ | exact wks_nil | exact wk_nil _ _ _ (.inl rfl) | (exact wk_Q (by omega)) | refine wk_tupL ?_ | refine wk_aggL ?_ | refine joinMax ?_ ?_ ?_ | refine joinMin ?_ ?_ ?_ | refine toMax ?_ | refine toMin ?_ | refine ⟨rfl, ?_⟩ | refine ⟨trivial, ?_⟩ | (refine forkD (fun h => ?_) (fun h => ?_)) | (refine forkNe (fun h => ?_) (fun h => ?_)) | (refine forkEq (fun h => ?_) (fun h => ?_)) | refine forkNot ?_ | (refine ⟨vI64 (by omega), ?_⟩) | (refine And.intro (by omega) ?_) | apply And.intro | (exact iEq (by omega)) | (exact vI64 (by omega))
  · rw [fConf_0 he]
    repeat' first | (refine ⟨⟨rfl, trivial⟩, fun H' _ hd => kopen0 l m now he hd.1, ?_⟩) | refine ⟨vbT (bne_iff_ne.2 he), ?_⟩ | exact trivial | exact rfl | exact wk_refl _ | refine wkO_cells ?_ | refine wks_cons ?_ ?_ | exact wks_nil | exact wk_nil _ _ _ (.inl rfl) | (exact wk_Q (by omega)) | refine wk_tupL ?_ | refine wk_aggL ?_ | refine joinMax ?_ ?_ ?_ | refine joinMin ?_ ?_ ?_ | refine toMax ?_ | refine toMin ?_ | refine ⟨rfl, ?_⟩ | refine ⟨trivial, ?_⟩ | (refine forkD (fun h => ?_) (fun h => ?_)) | (refine forkNe (fun h => ?_) (fun h => ?_)) | (refine forkEq (fun h => ?_) (fun h => ?_)) | refine forkNot ?_ | (refine ⟨vI64 (by omega), ?_⟩) | (refine And.intro (by omega) ?_) | apply And.intro | (exact iEq (by omega)) | (exact vI64 (by omega))
theorem boolC_len (b : Bool) : (boolC b).length = 1 := rfl
theorem nat0 {l : List Nat} (h : l ≠ []) : (l.flatMap natC)[0]? = some (.int .i64 (((l.getD 0 0 : Nat)) : Int)) := by
  cases l with
  | nil => exact absurd rfl h
  | cons x r => rfl
theorem trustL_succ (ts : List Cell) (x : Nat) : trustL ts (x + 1) = trustL ts x ++ [inSet ts.length (trustS ts) x] := tabP_succ _ _
theorem trustL_len (ts : List Cell) (x : Nat) : (trustL ts x).length = x := tabP_len _ _
theorem ktrust (m : Rates) {ts : List Cell} (hn : ts.length ≤ 12) {H : Heap} {L : Nat} (hL : H.length = L) {w j : Nat} {own own2 : Bool} {z z2 : Nat} (h1 : H[w]? = some (.cells own z (workC m j ts.length))) (h2 : H[j]? = some (.cells own2 z2 (ts.flatMap cellC))) :
    KCall prog F.ice_work_trust [.pointer (some ⟨w, 0, none⟩)] H [] (Is (.tuple #[.slice (some ⟨L, 0, some 1⟩) (trustL ts ts.length).length (trustL ts ts.length).length, cellV ((togA ts (trustS ts)).getD zeroC)]) (H ++ [.cells true 1 ((trustL ts ts.length).flatMap boolC)])) := by
  subst hL
  have key := fun hc => valNA (css := [workC m 1 ts.length, ts.flatMap cellC]) (v := .tuple #[.slice (some ⟨2, 0, some 1⟩) (trustL ts ts.length).length (trustL ts ts.length).length, cellV ((togA ts (trustS ts)).getD zeroC)]) (new := [(true, .cells true 1 ((trustL ts ts.length).flatMap boolC))]) (Eq.mpr (Etrust m ts) hc) rfl (by simp [rn, sgOnly])
    (by show ((rnoOk 3 (.cells true 1 ((trustL ts ts.length).flatMap boolC)) && true) && true) = true
        rw [Bool.and_true, Bool.and_true]; exact (rnCl (σ := fun _ => none) (d := 0) (plainB 0 _)).2)
    (congrArg (fun q => [KObj.cells true 1 q]) (rnCl (d := 0) (plainB 0 _)).1) (H := H) [w, j] rfl (work_ids h1 h2)
  have e1 : rn (sgUp (0 + [workC m 1 ts.length, ts.flatMap cellC].length) H.length) 3 (.tuple #[.slice (some ⟨2, 0, some 1⟩) (trustL ts ts.length).length (trustL ts ts.length).length, cellV ((togA ts (trustS ts)).getD zeroC)]) = .tuple #[.slice (some ⟨H.length, 0, some 1⟩) (trustL ts ts.length).length (trustL ts ts.length).length, cellV ((togA ts (trustS ts)).getD zeroC)] := by simp [rn, sgUp]
  have e2 : (List.map (fun x : Bool × KObj => x.2) [(true, KObj.cells true 1 ((trustL ts ts.length).flatMap boolC))]).map (rno (sgUp (0 + [workC m 1 ts.length, ts.flatMap cellC].length) H.length) 3) = [.cells true 1 ((trustL ts ts.length).flatMap boolC)] :=
    congrArg (fun q => [KObj.cells true 1 q]) (rnCl (d := 0) (plainB 0 _)).1
  rw [e1, e2] at key
  refine key ?_
  clear key e1 e2
  unfold Rtrust
  obtain ⟨t1, t2⟩ := trustS_ok ts
  have hp := pow12 hn
  have hne := agrA_ne ts
  have hne1 : 0 < (agrA ts).length := List.length_pos_iff.2 hne
  have hs : trustS ts < 4096 := by omega
  refine ⟨⟨rfl, rfl, trivial⟩, fun H' hl hd => kagreeing m hn hl hd.1 hd.2.1, by omega, nat0 hne, (_, _), ⟨rfl, rfl, trivial⟩, fun H' _ hd => ktogether m (trustS ts) hn hs hd.1 hd.2.1, ?_⟩
  refine ⟨rfl, Nat.zero_le _, ?_, fun _ => rfl, ?_⟩
  · repeat' first | exact plainB _ _ | exact trivial | exact rfl | exact wk_refl _ | refine wkO_cells ?_ | refine wks_cons ?_ ?_ | exact wks_nil | exact wk_nil _ _ _ (.inl rfl) | (exact wk_Q (by omega)) | refine wk_tupL ?_ | refine wk_aggL ?_ | refine joinMax ?_ ?_ ?_ | refine joinMin ?_ ?_ ?_ | refine toMax ?_ | refine toMin ?_ | refine ⟨rfl, ?_⟩ | refine ⟨trivial, ?_⟩ | (refine forkD (fun h => ?_) (fun h => ?_)) | (refine forkNe (fun h => ?_) (fun h => ?_)) | (refine forkEq (fun h => ?_) (fun h => ?_)) | refine forkNot ?_ | (refine ⟨vI64 (by omega), ?_⟩) | (refine And.intro (by omega) ?_) | apply And.intro | (exact iEq (by omega)) | (exact vI64 (by omega))
  intro x hx
  refine forkD (fun h => ?_) (fun h => ?_)
  · have hlt : x < ts.length := by omega
    have hb := andBit (n := trustS ts) (k := ts.length - 1 - x) (by omega) (by omega)
    have hpk := pow12 (k := ts.length - 1 - x) (by omega)
    have hbit : (Value.bool ((if (trustS ts).testBit (ts.length - 1 - x) then (((2 ^ (ts.length - 1 - x) : Nat)) : Int) else 0) != 0)) = .bool (inSet ts.length (trustS ts) x) := by
      show _ = Value.bool ((trustS ts).testBit (ts.length - 1 - x))
      cases (trustS ts).testBit (ts.length - 1 - x) with
      | true => refine congrArg Value.bool ?_; rw [if_pos rfl]; exact bne_iff_ne.2 (by omega)
      | false => rfl
    refine ⟨_, ⟨rfl, rfl, trivial⟩, fun H' _ hd => kbit m x hn hlt hd.1 hd.2.1, _, iEq hb, ?_⟩
    repeat' first | (refine ⟨vI64 (by omega), ?_⟩) | (refine ⟨⟨by omega, by decide, ⟨Nat.le_refl _, by rw [flat_len boolC_len, trustL_len]; omega⟩, ⟨by decide, Nat.le_refl _⟩, rfl⟩, rfl, ?_⟩) | (refine ⟨x + 1, by omega, by omega, ?_⟩)
    rw [trustL_succ]
    repeat' first | exact plainB _ _ | (exact congrArg (fun l => some (KObj.cells true 1 l)) (by rw [hbit]; exact flat_snoc boolC_len (trustL ts x) _ (trustL_len ..).symm)) | exact trivial | exact rfl | exact wk_refl _ | refine wkO_cells ?_ | refine wks_cons ?_ ?_ | exact wks_nil | exact wk_nil _ _ _ (.inl rfl) | (exact wk_Q (by omega)) | refine wk_tupL ?_ | refine wk_aggL ?_ | refine joinMax ?_ ?_ ?_ | refine joinMin ?_ ?_ ?_ | refine toMax ?_ | refine toMin ?_ | refine ⟨rfl, ?_⟩ | refine ⟨trivial, ?_⟩ | (refine forkD (fun h => ?_) (fun h => ?_)) | (refine forkNe (fun h => ?_) (fun h => ?_)) | (refine forkEq (fun h => ?_) (fun h => ?_)) | refine forkNot ?_ | (refine ⟨vI64 (by omega), ?_⟩) | (refine And.intro (by omega) ?_) | apply And.intro | (exact iEq (by omega)) | (exact vI64 (by omega))
  · obtain rfl : x = ts.length := by omega
    repeat' first | exact plainB _ _ | exact trivial | exact rfl | exact wk_refl _ | refine wkO_cells ?_ | refine wks_cons ?_ ?_ | exact wks_nil | exact wk_nil _ _ _ (.inl rfl) | (exact wk_Q (by omega)) | refine wk_tupL ?_ | refine wk_aggL ?_ | refine joinMax ?_ ?_ ?_ | refine joinMin ?_ ?_ ?_ | refine toMax ?_ | refine toMin ?_ | refine ⟨rfl, ?_⟩ | refine ⟨trivial, ?_⟩ | (refine forkD (fun h => ?_) (fun h => ?_)) | (refine forkNe (fun h => ?_) (fun h => ?_)) | (refine forkEq (fun h => ?_) (fun h => ?_)) | refine forkNot ?_ | (refine ⟨vI64 (by omega), ?_⟩) | (refine And.intro (by omega) ?_) | apply And.intro | (exact iEq (by omega)) | (exact vI64 (by omega))
    all_goals (rw [trustL_len]; exact wk_refl _)
theorem fTrust_0 {l : List Report} {m : Rates} {now : Int} (h : ¬ errOpen l m now = 0) : fTrust l m now = ([], zeroC, errOpen l m now) := if_neg h
theorem fTrust_1 {l : List Report} {m : Rates} {now : Int} (h : errOpen l m now = 0) : fTrust l m now = (trustL (told l m now) (told l m now).length, (togA (told l m now) (trustS (told l m now))).getD zeroC, 0) := by rw [told_len]; exact if_pos h
theorem kTrust (l : List Report) (m : Rates) (now : Int) {H : Heap} {L : Nat} (hL : H.length = L) {id : Nat} {own : Bool} {z : Nat} (hid : H[id]? = some (.cells own z (l.flatMap reportC))) :
    KCall prog F.ice_Trust [.slice (some ⟨id, 0, some 2⟩) l.length l.length, ratesV m, .int .i64 now] H []
      (Is (.tuple #[.slice (some ⟨L, 0, some 1⟩) (fTrust l m now).1.length (fTrust l m now).1.length, cellV (fTrust l m now).2.1, .int .i64 (fTrust l m now).2.2]) (H ++ [.cells true 1 ((fTrust l m now).1.flatMap boolC)])) := by
  subst hL
  have key := fun hc => valN (css := [l.flatMap reportC]) (v := .tuple #[.slice (some ⟨1, 0, some 1⟩) (fTrust l m now).1.length (fTrust l m now).1.length, cellV (fTrust l m now).2.1, .int .i64 (fTrust l m now).2.2]) (new := [(true, .cells true 1 ((fTrust l m now).1.flatMap boolC))]) (Eq.mpr (ETrust l m now) hc) (one_cs (plainR 0 l)) rfl (by simp [rn, sgOnly])
    (by show ((rnoOk 3 (.cells true 1 ((fTrust l m now).1.flatMap boolC)) && true) && true) = true
        rw [Bool.and_true, Bool.and_true]; exact (rnCl (σ := fun _ => none) (d := 0) (plainB 0 _)).2)
    (congrArg (fun q => [KObj.cells true 1 q]) (rnCl (d := 0) (plainB 0 _)).1) (H := H) [id] rfl (one_id hid)
  have e1 : rn (sgUp (0 + [l.flatMap reportC].length) H.length) 3 (.tuple #[.slice (some ⟨1, 0, some 1⟩) (fTrust l m now).1.length (fTrust l m now).1.length, cellV (fTrust l m now).2.1, .int .i64 (fTrust l m now).2.2]) = .tuple #[.slice (some ⟨H.length, 0, some 1⟩) (fTrust l m now).1.length (fTrust l m now).1.length, cellV (fTrust l m now).2.1, .int .i64 (fTrust l m now).2.2] := by simp [rn, sgUp]
  have e2 : (List.map (fun x : Bool × KObj => x.2) [(true, KObj.cells true 1 ((fTrust l m now).1.flatMap boolC))]).map (rno (sgUp (0 + [l.flatMap reportC].length) H.length) 3) = [.cells true 1 ((fTrust l m now).1.flatMap boolC)] :=
    congrArg (fun q => [KObj.cells true 1 q]) (rnCl (d := 0) (plainB 0 _)).1
  rw [e1, e2] at key
  refine key ?_
  clear key e1 e2
  unfold RTrust
  refine ⟨fun he => ?_, fun he => ?_⟩
  · have hn2 : (told l m now).length ≤ 12 := by rw [told_len]; exact errOpen_len he
    rw [fTrust_1 he]
    repeat' first | (refine ⟨⟨rfl, trivial⟩, fun H' hl hd => kopen1 l m now he hl hd.1, ?_⟩) | (refine ⟨⟨rfl, rfl, trivial⟩, fun H' hl hd => ktrust m hn2 hl hd.1 hd.2.1, ?_⟩) | exact plainB _ _ | exact trivial | exact rfl | exact wk_refl _ | refine wkO_cells ?_ | refine wks_cons ?_ ?_ | exact wks_nil | exact wk_nil _ _ _ (.inl rfl) | (exact wk_Q (by omega)) | refine wk_tupL ?_ | refine wk_aggL ?_ | refine joinMax ?_ ?_ ?_ | refine joinMin ?_ ?_ ?_ | refine toMax ?_ | refine toMin ?_ | refine ⟨rfl, ?_⟩ | refine ⟨trivial, ?_⟩ | (refine forkD (fun h => ?_) (fun h => ?_)) | (refine forkNe (fun h => ?_) (fun h => ?_)) | (refine forkEq (fun h => ?_) (fun h => ?_)) | refine forkNot ?_ | (refine ⟨vI64 (by omega), ?_⟩) | (refine And.intro (by omega) ?_) | apply And.intro | (exact iEq (by omega)) | (exact vI64 (by omega))
  · rw [fTrust_0 he]
    repeat' first | (refine ⟨⟨rfl, trivial⟩, fun H' _ hd => kopen0 l m now he hd.1, ?_⟩) | refine ⟨vbT (bne_iff_ne.2 he), ?_⟩ | exact trivial | exact rfl | exact wk_refl _ | refine wkO_cells ?_ | refine wks_cons ?_ ?_ | exact wks_nil | exact wk_nil _ _ _ (.inl rfl) | (exact wk_Q (by omega)) | refine wk_tupL ?_ | refine wk_aggL ?_ | refine joinMax ?_ ?_ ?_ | refine joinMin ?_ ?_ ?_ | refine toMax ?_ | refine toMin ?_ | refine ⟨rfl, ?_⟩ | refine ⟨trivial, ?_⟩ | (refine forkD (fun h => ?_) (fun h => ?_)) | (refine forkNe (fun h => ?_) (fun h => ?_)) | (refine forkEq (fun h => ?_) (fun h => ?_)) | refine forkNot ?_ | (refine ⟨vI64 (by omega), ?_⟩) | (refine And.intro (by omega) ?_) | apply And.intro | (exact iEq (by omega)) | (exact vI64 (by omega))
end
end Go.Proofs.YthcjliffpebjaaaGreat
/- Ice: lists of numbers; small facts about reports. No condition. -/
namespace Go.Proofs.YthcjliffpebjaaaGreat
set_option linter.unusedSimpArgs false
open Go Go.K
set_option linter.unusedVariables false
noncomputable section
abbrev intC (x : Int) : List Value := [.int .i64 x]
theorem intC_len (x : Int) : (intC x).length = 1 := rfl
theorem plainZ (n : Nat) (l : List Int) : (l.flatMap intC).all (belowC n) = true := plain_flat (fun _ => rfl) l
theorem cell_int {xs : List Int} {k : Nat} (h : k < xs.length) : (xs.flatMap intC)[0 + k * 1]? = some (.int .i64 (xs.getD k 0)) :=
  cell_at (n := 1) (f := intC) (d := 0) (c := 0) intC_len h (by omega) rfl
theorem age_right {s : Span} {u d h mx : Int} (hs : rightS s mx) (hu : 0 ≤ chg u h) (hd : 0 ≤ chg d h) : rightS (ageS s u d h mx) mx := by
  unfold rightS at *; unfold ageS; dsimp only; omega
theorem ageC_right {c : Cell} {m : Rates} {h : Int} (hc : rightC c) (hm : rightR m) (hh : 0 ≤ h ∧ h ≤ 10000) : rightC (ageC c m h) := by
  obtain ⟨⟨u1, u2, u3, u4⟩, d1, d2, d3, d4⟩ := hm
  exact ⟨age_right hc.1 (chg_bd u1 hh).1 (chg_bd d1 hh).1, age_right hc.2.1 (chg_bd u2 hh).1 (chg_bd d2 hh).1, age_right hc.2.2.1 (chg_bd u3 hh).1 (chg_bd d3 hh).1, age_right hc.2.2.2 (chg_bd u4 hh).1 (chg_bd d4 hh).1⟩
theorem conf_none {ts : List Cell} (h : ∀ i k, i < ts.length → k < ts.length → okC (meetC (ts.getD i zeroC) (ts.getD k zeroC))) : ∀ n, n ≤ ts.length → conf ts n = [] := by
  intro n
  induction n with
  | zero => intro _; rfl
  | succ n ih =>
    intro hn
    have row : ∀ k, n + 1 + k ≤ ts.length → confRow ts n k = [] := by
      intro k
      induction k with
      | zero => intro _; rfl
      | succ k ihk => intro hk; rw [confRow_a (h n (n + 1 + k) (by omega) (by omega))]; exact ihk (by omega)
    show conf ts n ++ confRow ts n (ts.length - (n + 1)) = []
    rw [ih (by omega), row _ (by omega)]; rfl
theorem inSet_full {n i : Nat} (h : i < n) : inSet n (2 ^ n - 1) i = true := by
  unfold inSet
  rw [Nat.testBit_two_pow_sub_one]
  exact decide_eq_true (by omega)
end
end Go.Proofs.YthcjliffpebjaaaGreat
/- What is to be shown of functions. Printed by a program. No condition. -/
namespace Go.Proofs.YthcjliffpebjaaaGreat
set_option linter.unusedSimpArgs false
open Go Go.K
set_option maxRecDepth 100000
set_option maxHeartbeats 4000000
set_option linter.unusedVariables false
noncomputable section
def Rcmp (sp : Value) (a b : Int) : Prop :=
  ((((a : Int) != a) = true → ((((b : Int) != b) = true → (.int .i64 0 : Value) = sp) ∧ (((b : Int) != b) = false → (.int .i64 (-1) : Value) = sp))) ∧ (((a : Int) != a) = false → ((((b : Int) != b) = true → (.int .i64 1 : Value) = sp) ∧ (((b : Int) != b) = false → (((decide ((a : Int) < b)) = true → (.int .i64 (-1) : Value) = sp) ∧ ((decide ((a : Int) < b)) = false → (((decide ((b : Int) < a)) = true → (.int .i64 1 : Value) = sp) ∧ ((decide ((b : Int) < a)) = false → (.int .i64 0 : Value) = sp))))))))
theorem Ecmp (sp : Value) (a b : Int) : vF prog msk (dm 0) 100000 true 40 true 159 [.int .i64 a, .int .i64 b] ⟨0, .leaf⟩ (some [])
  (.go 17 (.fork (.go 0 (.fork (.auto) (.auto))) (.go 0 (.fork (.auto) (.go 2 (.fork (.auto) (.go 2 (.fork (.auto) (.auto)))))))))
  (fun v _ _ => v = sp) = Rcmp sp a b := by kernel_rfl
def RCompare (sp : Value) (a b : List Int) : Prop :=
  (true = true ∧ (0 ≤ List.length a ∧ 0 ≤ List.length b ∧ List.take 0 a = List.take 0 b) ∧ (true = true ∧ ((.int .i64 0 : Value) = .int .i64 ((0 : Nat) : Int) ∧ (.iface ((List.length b) + 1) (.agg ⟨(List.flatMap intC b)⟩) : Value) = rn (sg 0 []) 3 (.iface ((List.length b) + 1) (.agg ⟨(List.flatMap intC b)⟩) : Value) ∧ (.iface ((List.length a) + 1) (.agg ⟨(List.flatMap intC a)⟩) : Value) = rn (sg 0 []) 3 (.iface ((List.length a) + 1) (.agg ⟨(List.flatMap intC a)⟩) : Value) ∧ (.iface ((List.length a) + 1) (.agg ⟨(List.flatMap intC a)⟩) : Value) = rn (sg 0 []) 3 (.iface ((List.length a) + 1) (.agg ⟨(List.flatMap intC a)⟩) : Value) ∧ (.int .i64 (((List.length a) : Nat) : Int) : Value) = .int .i64 (((List.length a) : Nat) : Int) ∧ True) ∧ (True) ∧ (True) ∧ (True)) ∧ (∀ x0 : Nat, true = true) ∧ ∀ x0 : Nat, (x0 ≤ List.length a ∧ x0 ≤ List.length b ∧ List.take x0 a = List.take x0 b) → (((decide ((((x0 : Nat) : Int) : Int) < (((List.length a) : Nat) : Int))) = true → (((0 : Int) ≤ ((x0 : Nat) : Int) ∧ (((x0 : Nat) : Int) : Int) < (((List.length a) : Nat) : Int)) ∧ (((List.flatMap intC a)[(Int.toNat ((x0 : Nat) : Int) * 1)]? = some (.int .i64 (List.getD a x0 0))) ∧ (((decide (((((List.length b) : Nat) : Int) : Int) ≤ ((x0 : Nat) : Int))) = true → (.int .i64 1 : Value) = sp) ∧ ((decide (((((List.length b) : Nat) : Int) : Int) ≤ ((x0 : Nat) : Int))) = false → (((0 : Int) ≤ ((x0 : Nat) : Int) ∧ (((x0 : Nat) : Int) : Int) < (((List.length b) : Nat) : Int)) ∧ (((List.flatMap intC b)[(Int.toNat ((x0 : Nat) : Int) * 1)]? = some (.int .i64 (List.getD b x0 0))) ∧ (∃ r1 : Int, ((True) ∧ (∀ H' : Heap, H'.length = 0 → (True) → KCall prog 159 [.int .i64 (List.getD a x0 0), .int .i64 (List.getD b x0 0)] H' [] (Is (.int .i64 r1) H')) ∧ ((((r1 : Int) != 0) = true → (.int .i64 r1 : Value) = sp) ∧ (((r1 : Int) != 0) = false → ((.int .i64 (IntKind.wrap .i64 (((x0 : Nat) : Int) + 1)) : Value) = .int .i64 (((x0 : Nat) : Int) + 1) ∧ (∃ x0' : Nat, (x0' ≤ List.length a ∧ x0' ≤ List.length b ∧ List.take x0' a = List.take x0' b) ∧ (List.length a - x0') < (List.length a - x0) ∧ true = true ∧ ((.int .i64 (((x0 : Nat) : Int) + 1) : Value) = .int .i64 ((x0' : Nat) : Int) ∧ (.iface ((List.length b) + 1) (.agg ⟨(List.flatMap intC b)⟩) : Value) = rn (sg 0 []) 3 (.iface ((List.length b) + 1) (.agg ⟨(List.flatMap intC b)⟩) : Value) ∧ (.iface ((List.length a) + 1) (.agg ⟨(List.flatMap intC a)⟩) : Value) = rn (sg 0 []) 3 (.iface ((List.length a) + 1) (.agg ⟨(List.flatMap intC a)⟩) : Value) ∧ (.iface ((List.length a) + 1) (.agg ⟨(List.flatMap intC a)⟩) : Value) = rn (sg 0 []) 3 (.iface ((List.length a) + 1) (.agg ⟨(List.flatMap intC a)⟩) : Value) ∧ (.int .i64 (((List.length a) : Nat) : Int) : Value) = .int .i64 (((List.length a) : Nat) : Int) ∧ True) ∧ (True) ∧ (True) ∧ (True)))))))))))))) ∧ ((decide ((((x0 : Nat) : Int) : Int) < (((List.length a) : Nat) : Int))) = false → (((decide (((((List.length a) : Nat) : Int) : Int) < (((List.length b) : Nat) : Int))) = true → (.int .i64 (-1) : Value) = sp) ∧ ((decide (((((List.length a) : Nat) : Int) : Int) < (((List.length b) : Nat) : Int))) = false → (.int .i64 0 : Value) = sp)))))
theorem ECompare (sp : Value) (a b : List Int) : vF prog msk (dm 0) 100000 true 40 true 141 [.iface ((List.length a) + 1) (.agg ⟨(List.flatMap intC a)⟩), .iface ((List.length b) + 1) (.agg ⟨(List.flatMap intC b)⟩)] ⟨0, .leaf⟩ (some [])
  (.go 3 (.inv 3 (Nat) (0) [] [] (fun x0 => [(11, .int .i64 ((x0 : Nat) : Int)), (1, .iface ((List.length b) + 1) (.agg ⟨(List.flatMap intC b)⟩)), (0, .iface ((List.length a) + 1) (.agg ⟨(List.flatMap intC a)⟩)), (9, .iface ((List.length a) + 1) (.agg ⟨(List.flatMap intC a)⟩)), (10, .int .i64 (((List.length a) : Nat) : Int))]) (fun x0 => []) (fun x0 => []) (fun x0 => []) (fun x0 => (x0 ≤ List.length a ∧ x0 ≤ List.length b ∧ List.take x0 a = List.take x0 b)) (fun x0 => (List.length a - x0)) (fun x0 => .go 0 (.fork (.go 0 (.need (.val (.int .i64 (List.getD a x0 0)) (.go 5 (.fork (.auto) (.go 1 (.need (.val (.int .i64 (List.getD b x0 0)) (.go 2 (.bind (Int) (fun r1 => .ans [] (.int .i64 r1) [] (.go 2 (.fork (.auto) (.go 0 (.slot 30 (.int .i64 (((x0 : Nat) : Int) + 1)) (.go 0 (.again []))))))))))))))))) (.go 4 (.fork (.auto) (.auto)))))))
  (fun v _ _ => v = sp) = RCompare sp a b := by kernel_rfl
def RContains (sp : Value) (a : List Int) (i : Int) : Prop :=
  (true = true ∧ (0 ≤ List.length a ∧ i ∉ List.take 0 a) ∧ (true = true ∧ ((.int .i64 0 : Value) = .int .i64 ((0 : Nat) : Int) ∧ (.int .i64 i : Value) = .int .i64 i ∧ (.iface ((List.length a) + 1) (.agg ⟨(List.flatMap intC a)⟩) : Value) = rn (sg 0 []) 3 (.iface ((List.length a) + 1) (.agg ⟨(List.flatMap intC a)⟩) : Value) ∧ (.int .i64 (((List.length a) : Nat) : Int) : Value) = .int .i64 (((List.length a) : Nat) : Int) ∧ True) ∧ (True) ∧ (True) ∧ (True)) ∧ (∀ x0 : Nat, true = true) ∧ ∀ x0 : Nat, (x0 ≤ List.length a ∧ i ∉ List.take x0 a) → (((decide ((((x0 : Nat) : Int) : Int) < (((List.length a) : Nat) : Int))) = true → (((0 : Int) ≤ ((x0 : Nat) : Int) ∧ (((x0 : Nat) : Int) : Int) < (((List.length a) : Nat) : Int)) ∧ (((List.flatMap intC a)[(Int.toNat ((x0 : Nat) : Int) * 1)]? = some (.int .i64 (List.getD a x0 0))) ∧ ((((i : Int) == (List.getD a x0 0)) = true → (.bool (decide ((0 : Int) ≤ ((x0 : Nat) : Int))) : Value) = sp) ∧ (((i : Int) == (List.getD a x0 0)) = false → ((.int .i64 (IntKind.wrap .i64 (((x0 : Nat) : Int) + 1)) : Value) = .int .i64 (((x0 : Nat) : Int) + 1) ∧ (∃ x0' : Nat, (x0' ≤ List.length a ∧ i ∉ List.take x0' a) ∧ (List.length a - x0') < (List.length a - x0) ∧ true = true ∧ ((.int .i64 (((x0 : Nat) : Int) + 1) : Value) = .int .i64 ((x0' : Nat) : Int) ∧ (.int .i64 i : Value) = .int .i64 i ∧ (.iface ((List.length a) + 1) (.agg ⟨(List.flatMap intC a)⟩) : Value) = rn (sg 0 []) 3 (.iface ((List.length a) + 1) (.agg ⟨(List.flatMap intC a)⟩) : Value) ∧ (.int .i64 (((List.length a) : Nat) : Int) : Value) = .int .i64 (((List.length a) : Nat) : Int) ∧ True) ∧ (True) ∧ (True) ∧ (True)))))))) ∧ ((decide ((((x0 : Nat) : Int) : Int) < (((List.length a) : Nat) : Int))) = false → (.bool false : Value) = sp)))
theorem EContains (sp : Value) (a : List Int) (i : Int) : vF prog msk (dm 0) 100000 true 40 true 89 [.iface ((List.length a) + 1) (.agg ⟨(List.flatMap intC a)⟩), .int .i64 i] ⟨0, .leaf⟩ (some [])
  (.go 7 (.inv 3 (Nat) (0) [] [] (fun x0 => [(8, .int .i64 ((x0 : Nat) : Int)), (1, .int .i64 i), (0, .iface ((List.length a) + 1) (.agg ⟨(List.flatMap intC a)⟩)), (7, .int .i64 (((List.length a) : Nat) : Int))]) (fun x0 => []) (fun x0 => []) (fun x0 => []) (fun x0 => (x0 ≤ List.length a ∧ i ∉ List.take x0 a)) (fun x0 => (List.length a - x0)) (fun x0 => .go 0 (.fork (.go 4 (.need (.val (.int .i64 (List.getD a x0 0)) (.go 0 (.fork (.auto) (.go 0 (.slot 18 (.int .i64 (((x0 : Nat) : Int) + 1)) (.go 0 (.again []))))))))) (.auto)))))
  (fun v _ _ => v = sp) = RContains sp a i := by kernel_rfl
end
end Go.Proofs.YthcjliffpebjaaaGreat
/- Ice: lists of numbers by value: compared, looked through. No condition. -/
namespace Go.Proofs.YthcjliffpebjaaaGreat
open Go Go.K
set_option maxRecDepth 100000
set_option linter.unusedVariables false
set_option linter.unusedSimpArgs false
noncomputable section
attribute [local irreducible] vF
abbrev dI (l : List Int) : Value := .iface (l.length + 1) (.agg ⟨l.flatMap intC⟩)
theorem dI_below (l : List Int) : belowC 0 (dI l) = true := by
  show (l.flatMap intC).all (belowD 0) = true
  rw [List.all_eq_true]
  intro v hv
  obtain ⟨x, _, hx⟩ := List.mem_flatMap.1 hv
  rw [List.mem_singleton] at hx; subst hx; rfl
theorem dI_rn (σ : Nat → Option Nat) (d : Nat) (l : List Int) : rn σ (d + 3) (dI l) = dI l := (rnC (dI_below l)).1
def cmpI (a b : Int) : Int := if a < b then -1 else if b < a then 1 else 0
def cmpL : List Int → List Int → Int
  | [], [] => 0
  | [], _ :: _ => -1
  | _ :: _, [] => 1
  | a :: l, b :: m => if cmpI a b ≠ 0 then cmpI a b else cmpL l m
theorem kcmp_int (a b : Int) (H : Heap) : KCall prog 159 [.int .i64 a, .int .i64 b] H [] (Is (.int .i64 (cmpI a b)) H) := by
  refine valK 40 (fun _ => rfl) rfl (Eq.mpr (Ecmp _ a b) ?_) H
  unfold Rcmp cmpI
  refine ⟨fun h => absurd h (by simp), fun _ => ⟨fun h => absurd h (by simp), fun _ => ⟨fun h => ?_, fun h => ⟨fun k => ?_, fun k => ?_⟩⟩⟩⟩
  · have h := of_decide_eq_true h; rw [if_pos h]
  · have h := of_decide_eq_false h; have k := of_decide_eq_true k; rw [if_neg h, if_pos k]
  · have h := of_decide_eq_false h; have k := of_decide_eq_false k; rw [if_neg h, if_neg k]
theorem cmpL_drop : ∀ (x : Nat) (a b : List Int), x ≤ a.length → x ≤ b.length → a.take x = b.take x → cmpL a b = cmpL (a.drop x) (b.drop x)
  | 0, _, _, _, _, _ => rfl
  | x + 1, [], _, h, _, _ => by simp at h
  | x + 1, _ :: _, [], _, h, _ => by simp at h
  | x + 1, a :: l, b :: m, h1, h2, h3 => by
    simp only [List.take_succ_cons, List.cons.injEq] at h3
    obtain ⟨rfl, h3⟩ := h3
    have e : cmpI a a = 0 := by unfold cmpI; rw [if_neg (by omega), if_neg (by omega)]
    show (if cmpI a a ≠ 0 then cmpI a a else cmpL l m) = _
    rw [if_neg (by omega)]
    exact cmpL_drop x l m (by simpa using h1) (by simpa using h2) h3
theorem cell_int0 {xs : List Int} {k : Nat} (h : k < xs.length) : (xs.flatMap intC)[Int.toNat ((k : Nat) : Int) * 1]? = some (.int .i64 (xs.getD k 0)) := by
  have := cell_int h; rw [Nat.zero_add] at this; rw [Int.toNat_natCast]; exact this
theorem kCompare (a b : List Int) (ha : a.length ≤ 4294967296) (hb : b.length ≤ 4294967296) (H : Heap) : KCall prog 141 [dI a, dI b] H [] (Is (.int .i64 (cmpL a b)) H) := by
  refine valK 40 (fun σ => by rw [List.map_cons, List.map_cons, List.map_nil, dI_rn σ 2, dI_rn σ 2]) rfl (Eq.mpr (ECompare _ a b) ?_) H
  unfold RCompare
  repeat' first | (refine ⟨rfl, ⟨Nat.zero_le _, Nat.zero_le _, rfl⟩, ?_, fun _ => rfl, ?_⟩) | exact (dI_rn _ 0 _).symm | exact trivial | exact rfl | exact wk_refl _ | refine wkO_cells ?_ | refine wks_cons ?_ ?_ | exact wks_nil | exact wk_nil _ _ _ (.inl rfl) | (exact wk_Q (by omega)) | refine wk_tupL ?_ | refine wk_aggL ?_ | refine joinMax ?_ ?_ ?_ | refine joinMin ?_ ?_ ?_ | refine toMax ?_ | refine toMin ?_ | refine ⟨rfl, ?_⟩ | refine ⟨trivial, ?_⟩ | (refine forkD (fun h => ?_) (fun h => ?_)) | (refine forkNe (fun h => ?_) (fun h => ?_)) | (refine forkEq (fun h => ?_) (fun h => ?_)) | refine forkNot ?_ | (refine ⟨vI64 (by omega), ?_⟩) | (refine And.intro (by omega) ?_) | apply And.intro | (exact iEq (by omega)) | (exact vI64 (by omega))
  rintro x ⟨h1, h2, h3⟩
  have hd := cmpL_drop x a b h1 h2 h3
  refine forkD (fun h => ?_) (fun h => ?_)
  · have hx : x < a.length := by omega
    have ea : a.drop x = a.getD x 0 :: a.drop (x + 1) := by rw [List.drop_eq_getElem_cons hx, List.getD_eq_getElem?_getD, List.getElem?_eq_getElem hx]; rfl
    refine ⟨⟨by omega, by omega⟩, cell_int0 hx, forkD (fun k => ?_) (fun k => ?_)⟩
    · have eb : b.drop x = [] := List.drop_eq_nil_of_le (by omega)
      exact iEq (by rw [hd, ea, eb]; rfl)
    · have hy : x < b.length := by omega
      have eb : b.drop x = b.getD x 0 :: b.drop (x + 1) := by rw [List.drop_eq_getElem_cons hy, List.getD_eq_getElem?_getD, List.getElem?_eq_getElem hy]; rfl
      have hd2 : cmpL a b = if cmpI (a.getD x 0) (b.getD x 0) ≠ 0 then cmpI (a.getD x 0) (b.getD x 0) else cmpL (a.drop (x + 1)) (b.drop (x + 1)) := by rw [hd, ea, eb]; rfl
      refine ⟨⟨by omega, by omega⟩, cell_int0 hy, _, trivial, fun H' _ _ => kcmp_int _ _ H', forkNe (fun q => ?_) (fun q => ?_)⟩
      · exact iEq (by rw [hd2, if_pos q])
      · have exy : a.getD x 0 = b.getD x 0 := by
          unfold cmpI at q
          split at q
          · omega
          · split at q <;> omega
        refine ⟨vI64 (by omega), x + 1, ⟨by omega, by omega, ?_⟩, by omega, rfl, ?_⟩
        · rw [List.take_add_one, List.take_add_one, h3]
          rw [List.getD_eq_getElem?_getD, List.getElem?_eq_getElem hx, List.getD_eq_getElem?_getD, List.getElem?_eq_getElem hy] at exy
          rw [List.getElem?_eq_getElem hx, List.getElem?_eq_getElem hy]
          exact congrArg (fun z => List.take x b ++ [z]) exy
        · repeat' first | exact (dI_rn _ 0 _).symm | exact trivial | exact rfl | exact wk_refl _ | refine wkO_cells ?_ | refine wks_cons ?_ ?_ | exact wks_nil | exact wk_nil _ _ _ (.inl rfl) | (exact wk_Q (by omega)) | refine wk_tupL ?_ | refine wk_aggL ?_ | refine joinMax ?_ ?_ ?_ | refine joinMin ?_ ?_ ?_ | refine toMax ?_ | refine toMin ?_ | refine ⟨rfl, ?_⟩ | refine ⟨trivial, ?_⟩ | (refine forkD (fun h => ?_) (fun h => ?_)) | (refine forkNe (fun h => ?_) (fun h => ?_)) | (refine forkEq (fun h => ?_) (fun h => ?_)) | refine forkNot ?_ | (refine ⟨vI64 (by omega), ?_⟩) | (refine And.intro (by omega) ?_) | apply And.intro | (exact iEq (by omega)) | (exact vI64 (by omega))
  · obtain rfl : x = a.length := by omega
    have ea : a.drop a.length = [] := List.drop_length
    refine forkD (fun k => ?_) (fun k => ?_)
    · have hy : a.length < b.length := by omega
      exact iEq (by rw [hd, ea, List.drop_eq_getElem_cons hy]; rfl)
    · have eb : b.drop a.length = [] := List.drop_eq_nil_of_le (by omega)
      exact iEq (by rw [hd, ea, eb]; rfl)
theorem mem_take_succ {a : List Int} {x : Nat} (hx : x < a.length) (i : Int) : i ∈ a.take (x + 1) ↔ i ∈ a.take x ∨ i = a.getD x 0 := by
  rw [List.take_add_one, List.getElem?_eq_getElem hx, List.mem_append, List.getD_eq_getElem?_getD, List.getElem?_eq_getElem hx]
  simp
theorem kContains (a : List Int) (i : Int) (ha : a.length ≤ 4294967296) (H : Heap) : KCall prog 89 [dI a, .int .i64 i] H [] (Is (.bool (decide (i ∈ a))) H) := by
  refine valK 40 (fun σ => by rw [List.map_cons, List.map_cons, List.map_nil, dI_rn σ 2]; rfl) rfl (Eq.mpr (EContains _ a i) ?_) H
  unfold RContains
  repeat' first | (refine ⟨rfl, ⟨Nat.zero_le _, by simp⟩, ?_, fun _ => rfl, ?_⟩) | exact (dI_rn _ 0 _).symm | exact trivial | exact rfl | exact wk_refl _ | refine wkO_cells ?_ | refine wks_cons ?_ ?_ | exact wks_nil | exact wk_nil _ _ _ (.inl rfl) | (exact wk_Q (by omega)) | refine wk_tupL ?_ | refine wk_aggL ?_ | refine joinMax ?_ ?_ ?_ | refine joinMin ?_ ?_ ?_ | refine toMax ?_ | refine toMin ?_ | refine ⟨rfl, ?_⟩ | refine ⟨trivial, ?_⟩ | (refine forkD (fun h => ?_) (fun h => ?_)) | (refine forkNe (fun h => ?_) (fun h => ?_)) | (refine forkEq (fun h => ?_) (fun h => ?_)) | refine forkNot ?_ | (refine ⟨vI64 (by omega), ?_⟩) | (refine And.intro (by omega) ?_) | apply And.intro | (exact iEq (by omega)) | (exact vI64 (by omega))
  rintro x ⟨h1, h2⟩
  refine forkD (fun h => ?_) (fun h => ?_)
  · have hx : x < a.length := by omega
    refine ⟨⟨by omega, by omega⟩, cell_int0 hx, forkEq (fun k => ?_) (fun k => ?_)⟩
    · have hm : i ∈ a := List.mem_of_mem_take ((mem_take_succ hx i).2 (.inr k))
      rw [decide_eq_true hm]
      exact congrArg Value.bool (decide_eq_true (by omega))
    · refine ⟨vI64 (by omega), x + 1, ⟨by omega, fun hm => ?_⟩, by omega, rfl, ?_⟩
      · rcases (mem_take_succ hx i).1 hm with g | g
        · exact h2 g
        · exact k g
      · repeat' first | exact (dI_rn _ 0 _).symm | exact trivial | exact rfl | exact wk_refl _ | refine wkO_cells ?_ | refine wks_cons ?_ ?_ | exact wks_nil | exact wk_nil _ _ _ (.inl rfl) | (exact wk_Q (by omega)) | refine wk_tupL ?_ | refine wk_aggL ?_ | refine joinMax ?_ ?_ ?_ | refine joinMin ?_ ?_ ?_ | refine toMax ?_ | refine toMin ?_ | refine ⟨rfl, ?_⟩ | refine ⟨trivial, ?_⟩ | (refine forkD (fun h => ?_) (fun h => ?_)) | (refine forkNe (fun h => ?_) (fun h => ?_)) | (refine forkEq (fun h => ?_) (fun h => ?_)) | refine forkNot ?_ | (refine ⟨vI64 (by omega), ?_⟩) | (refine And.intro (by omega) ?_) | apply And.intro | (exact iEq (by omega)) | (exact vI64 (by omega))
  · obtain rfl : x = a.length := by omega
    rw [List.take_length] at h2
    rw [decide_eq_false h2]
end
end Go.Proofs.YthcjliffpebjaaaGreat
