/- Ice: the examples of the chapter (awake), as a contract. No condition. -/
import Derived.Test.YthcjliffpebjaaaGreatA4a
import Derived.Test.YthcjliffpebjaaaGreatGS8xS11g
import Derived.Test.YthcjliffpebjaaaGreatGS0xS2a
import Derived.Test.YthcjliffpebjaaaGreatGS7gxK27
import Derived.Test.YthcjliffpebjaaaGreatRows
import Derived.JoinedCond
import Derived.Test.YthcjliffpebjaaaGreatGS7xS8a
namespace Go.Proofs.YthcjliffpebjaaaGreat
set_option linter.unusedSimpArgs false
set_option linter.unusedVariables false
open Go Go.K
set_option maxRecDepth 100000
noncomputable section
attribute [local irreducible] vF
theorem kAwake (H : Heap) : KCall prog F.polynyalaw01_awake [] H [] (Is (.bool true) H) := by
  have hv : vF prog msk (dm impI) 100000 true 40 true F.polynyalaw01_awake [] ⟨0, .leaf⟩ none .auto (fun v _ _ => isTrueV v) := of_eq_true awakeRun
  have h0 := vc (P := prog) (mask := msk) (dm := dm impI) (rounds := 100000) (mixed := true) mskOk mixed 40 (f := F.polynyalaw01_awake) (args := []) (H := ⟨0, .leaf⟩) (M := none) (h := .auto) (Q := fun v _ => isTrueV v) hv
  have h1 : KCall prog F.polynyalaw01_awake [] [] [] (fun v _ => v = .bool true) := h0.post (fun v H' h => by
      cases v <;> first | exact h.elim | (rename_i b; cases b <;> first | rfl | exact h.elim))
  have h2 : KCall prog F.polynyalaw01_awake [] [] [] (Is (.bool true) []) := KCall.clean h1 rfl
  have h3 := KCall.frame (H := H) (new := []) (d := 3) (σ := fun _ => none) ⟨fun g hg => absurd hg (by rw [glob0]; exact Nat.not_lt_zero _), fun _ _ h => (by cases h), fun id h => absurd h (Nat.not_lt_zero _), fun _ _ _ h => (by cases h), fun _ _ _ h => (by cases h)⟩ h2 rfl rfl
  simpa [rn] using h3
end
end Go.Proofs.YthcjliffpebjaaaGreat
/- Ice: IceCharts returns true. No condition. -/
namespace Go.Proofs.YthcjliffpebjaaaGreat
open Go Go.K
set_option maxRecDepth 100000
set_option linter.unusedVariables false
set_option linter.unusedSimpArgs false
noncomputable section
attribute [local irreducible] vF
theorem setl_mid : ∀ (n o A B : List Value), o.length = n.length → setl (A ++ (o ++ B)) A.length n = A ++ (n ++ B)
  | [], [], A, B, _ => rfl
  | v :: n, w :: o, A, B, h => by
    have e : (A ++ (w :: o ++ B)).set A.length v = (A ++ [v]) ++ (o ++ B) := by simp
    have := setl_mid n o (A ++ [v]) B (by simpa using h)
    simp only [setl]
    rw [e]
    simpa using this
theorem flat_set {α : Type} {f : α → List Value} {m : Nat} (hf : ∀ x, (f x).length = m) (xs : List α) (k : Nat) (hk : k < xs.length) (y : α) : setl (xs.flatMap f) (k * m) (f y) = (xs.set k y).flatMap f := by
  have e1 : xs = xs.take k ++ xs[k] :: xs.drop (k + 1) := by rw [← List.drop_eq_getElem_cons hk, List.take_append_drop]
  have e2 : xs.set k y = xs.take k ++ y :: xs.drop (k + 1) := by rw [List.set_eq_take_append_cons_drop, if_pos hk]
  have hl : ((xs.take k).flatMap f).length = k * m := by rw [flat_len hf, List.length_take, Nat.min_eq_left (Nat.le_of_lt hk)]
  rw [e2]
  conv => lhs; rw [e1]
  rw [List.flatMap_append, List.flatMap_cons, List.flatMap_append, List.flatMap_cons, ← hl]
  exact setl_mid _ _ _ _ (by rw [hf, hf])
theorem vwk1 {a b c : Int} {id n : Nat} : wks [.agg #[.int .i64 a, .int .i64 b, .int .i64 c, .slice (some ⟨id, 0, some 1⟩) n n]] [.agg #[.int .i64 a, .int .i64 b, .int .i64 c, .slice (some ⟨id, 0, some 2⟩) n n]] :=
  ⟨wk_aggL ⟨wk_refl _, wk_refl _, wk_refl _, wk_QR, trivial⟩, trivial⟩
theorem aQR {a b c : Int} {id n : Nat} : wk (.agg #[.int .i64 a, .int .i64 b, .int .i64 c, .slice (some ⟨id, 0, some 1⟩) n n]) (.agg #[.int .i64 a, .int .i64 b, .int .i64 c, .slice (some ⟨id, 0, some 2⟩) n n]) :=
  wk_aggL ⟨wk_refl _, wk_refl _, wk_refl _, wk_QR, trivial⟩
theorem fAgeC_len (w v t : Int) (cs : List Cell) (m : Rates) (n : Int) : (fAgeC w v t cs m n).1.cells.length ≤ cs.length := by
  unfold fAgeC
  split
  · split
    · exact Nat.le_of_eq (tab_len _ _)
    · exact Nat.zero_le _
  · exact Nat.zero_le _
theorem fMeetC_len (w v t : Int) (cs : List Cell) (w' v' t' : Int) (ds : List Cell) : (fMeetC w v t cs w' v' t' ds).1.cells.length ≤ cs.length := by
  unfold fMeetC
  split
  · split
    · exact Nat.le_of_eq (tab_len _ _)
    · exact Nat.zero_le _
  · exact Nat.zero_le _
theorem fHullC_len (w v t : Int) (cs : List Cell) (w' v' t' : Int) (ds : List Cell) : (fHullC w v t cs w' v' t' ds).1.cells.length ≤ cs.length := by
  unfold fHullC
  split
  · exact Nat.le_of_eq (tab_len _ _)
  · exact Nat.zero_le _
set_option maxHeartbeats 4000000 in
theorem kCharts (w v t : Int) (cs : List Cell) (w' v' t' : Int) (ds : List Cell) (xs : List Ice) (m : Rates) (n : Int) {H : Heap} {id id2 id3 : Nat} {own own2 own3 : Bool} {z z2 z3 : Nat} (hid : H[id]? = some (.cells own z (cs.flatMap cellC))) (hid2 : H[id2]? = some (.cells own2 z2 (ds.flatMap cellC))) (hid3 : H[id3]? = some (.cells own3 z3 (xs.flatMap iceC))) :
    KCall prog F.polynyalaw01_IceCharts [.agg #[.int .i64 w, .int .i64 v, .int .i64 t, .slice (some ⟨id, 0, some 2⟩) cs.length cs.length], .agg #[.int .i64 w', .int .i64 v', .int .i64 t', .slice (some ⟨id2, 0, some 2⟩) ds.length ds.length], .slice (some ⟨id3, 0, some 2⟩) xs.length xs.length, ratesV m, .int .i64 n] H [] (Is (.bool true) H) := by
  refine valR (css := [cs.flatMap cellC, ds.flatMap cellC, xs.flatMap iceC]) (Eq.mpr (ECharts _ w v t cs w' v' t' ds xs m n) ?_) (fun c hc => ?_) rfl [id, id2, id3] rfl (fun k c h => ?_)
  · unfold RCharts
    have l1 := fAgeC_len w v t cs m n
    have l2 := fMeetC_len w v t cs w' v' t' ds
    have l3 := fHullC_len w v t cs w' v' t' ds
    repeat' first
      | refine forkT rfl ?_
      | refine forkF rfl ?_
      | refine forkT (bq _) ?_
      | refine forkT (iq _) ?_
      | refine forkF (nbq _) ?_
      | refine forkF (niq _) ?_
      | exact rfl
      | refine forkD (fun h => ?_) (fun h => ?_)
      | refine ⟨trivial, fun H' _ _ => kAwake H', ?_⟩
      | refine ⟨⟨rfl, trivial⟩, fun H' hl hd => kChart _ _ _ _ (by omega) hl hd.1, ?_⟩
      | refine ⟨_, ⟨rfl, trivial⟩, fun H' _ hd => (kCheckChart _ _ _ _ hd.1).wkA ⟨aQR, trivial⟩, ?_⟩
      | refine ⟨_, ⟨rfl, trivial⟩, fun H' _ hd => krCheckChart _ _ _ _ hd.1, ?_⟩
      | refine ⟨_, ⟨rfl, trivial⟩, fun H' hl hd => (kAgeChart _ _ _ _ _ _ hl hd.1).wkA ⟨aQR, wk_refl _, wk_refl _, trivial⟩, ?_⟩
      | refine ⟨_, ⟨rfl, trivial⟩, fun H' hl hd => krAgeChart _ _ _ _ _ _ hl hd.1, ?_⟩
      | refine ⟨⟨rfl, trivial⟩, fun H' hl hd => hl ▸ kField xs (by omega) hd.1, ?_⟩
      | refine ⟨_, ⟨rfl, rfl, trivial⟩, fun H' hl hd => (kMeetCharts _ _ _ _ _ _ _ _ hl hd.1 hd.2.1).wkA ⟨aQR, aQR, trivial⟩, ?_⟩
      | refine ⟨_, ⟨rfl, rfl, trivial⟩, fun H' hl hd => krMeetCharts _ _ _ _ _ _ _ _ hl hd.1 hd.2.1, ?_⟩
      | refine ⟨_, ⟨rfl, rfl, trivial⟩, fun H' hl hd => (kHullCharts _ _ _ _ _ _ _ _ hl hd.1 hd.2.1).wkA ⟨aQR, aQR, trivial⟩, ?_⟩
      | refine ⟨_, ⟨rfl, rfl, trivial⟩, fun H' hl hd => krHullCharts _ _ _ _ _ _ _ _ hl hd.1 hd.2.1, ?_⟩
      | refine ⟨_, ⟨rfl, rfl, trivial⟩, fun H' _ hd => (kInsideChart _ _ _ _ _ _ _ _ hd.1 hd.2.1).wkA ⟨aQR, aQR, trivial⟩, ?_⟩
      | refine ⟨_, ⟨rfl, rfl, trivial⟩, fun H' _ hd => krInsideChart _ _ _ _ _ _ _ _ hd.1 hd.2.1, ?_⟩
      | refine ⟨_, ⟨rfl, rfl, trivial⟩, fun H' _ hd => (kHolds _ _ _ _ _ hd.1 hd.2.1).wkA ⟨aQR, wk_QR, trivial⟩, ?_⟩
      | refine ⟨_, ⟨rfl, rfl, trivial⟩, fun H' _ hd => krHolds _ _ _ _ _ hd.1 hd.2.1, ?_⟩
      | refine ⟨⟨rfl, rfl, trivial⟩, fun H' _ hd => (kSame _ _ _ _ (by omega) hd.1 hd.2.1).wkA (by first
      | exact ⟨aQR, aQR, trivial⟩
      | exact ⟨aQR, wk_refl _, trivial⟩), ?_⟩
      | fail
    refine ⟨rfl, ⟨Nat.zero_le _, rfl⟩, ?_, fun _ => rfl, ?_⟩
    · repeat' first
        | exact plainC _ _
        | exact trivial
        | exact rfl
        | exact wk_refl _
        | refine wkO_cells ?_
        | refine wks_cons ?_ ?_
        | exact wks_nil
        | exact wk_nil _ _ _ (.inl rfl)
        | exact wk_Q (by omega)
        | refine wk_tupL ?_
        | refine wk_aggL ?_
        | refine joinMax ?_ ?_ ?_
        | refine joinMin ?_ ?_ ?_
        | refine toMax ?_
        | refine toMin ?_
        | refine ⟨rfl, ?_⟩
        | refine ⟨trivial, ?_⟩
        | refine forkD (fun h => ?_) (fun h => ?_)
        | refine forkNe (fun h => ?_) (fun h => ?_)
        | refine forkEq (fun h => ?_) (fun h => ?_)
        | refine forkNot ?_
        | refine ⟨vI64 (by omega), ?_⟩
        | refine And.intro (by omega) ?_
        | apply And.intro
        | exact iEq (by omega)
        | exact vI64 (by omega)
        | fail
    rintro ⟨p, ps⟩ ⟨hxp, hyp⟩
    replace hxp : p ≤ (fMeetC w v t cs w' v' t' ds).1.cells.length := hxp
    replace hyp : ps.length = (fMeetC w v t cs w' v' t' ds).1.cells.length := hyp
    refine forkD (fun hl => ?_) (fun hl => ?_)
    · replace hl : p < (fMeetC w v t cs w' v' t' ds).1.cells.length := by simpa using hl
      repeat' first
        | refine ⟨(show 0 + Int.toNat ((p : Nat) : Int) * 8 + 8 ≤ List.length (List.flatMap cellC ps) by rw [flat_len cellC_len, Int.toNat_natCast]; omega), ?_⟩
        | refine ⟨⟨(show (0 : Int) ≤ ((p : Nat) : Int) by omega), (show ((p : Nat) : Int) < (((fMeetC w v t cs w' v' t' ds).1.cells.length : Nat) : Int) by omega)⟩, ?_⟩
        | refine ⟨vI64 (show _ ∧ ((p : Nat) : Int) + 1 ≤ _ by omega), ?_⟩
        | refine ⟨(p + 1, ps.set p zeroC), ⟨hl, (List.length_set ..).trans hyp⟩, (show (fMeetC w v t cs w' v' t' ds).1.cells.length - (p + 1) < (fMeetC w v t cs w' v' t' ds).1.cells.length - p by omega), ?_⟩
        | exact plainC _ _
        | exact congrArg (fun l => some (KObj.cells true 8 l)) (by rw [Int.toNat_natCast, Nat.zero_add]; exact flat_set cellC_len ps p (by omega) zeroC)
        | exact trivial
        | exact rfl
        | exact wk_refl _
        | refine wkO_cells ?_
        | refine wks_cons ?_ ?_
        | exact wks_nil
        | exact wk_nil _ _ _ (.inl rfl)
        | exact wk_Q (by omega)
        | refine wk_tupL ?_
        | refine wk_aggL ?_
        | refine joinMax ?_ ?_ ?_
        | refine joinMin ?_ ?_ ?_
        | refine toMax ?_
        | refine toMin ?_
        | refine ⟨rfl, ?_⟩
        | refine ⟨trivial, ?_⟩
        | refine forkD (fun h => ?_) (fun h => ?_)
        | refine forkNe (fun h => ?_) (fun h => ?_)
        | refine forkEq (fun h => ?_) (fun h => ?_)
        | refine forkNot ?_
        | refine ⟨vI64 (by omega), ?_⟩
        | refine And.intro (by omega) ?_
        | apply And.intro
        | exact iEq (by omega)
        | exact vI64 (by omega)
        | fail
    repeat' first
      | refine forkT rfl ?_
      | refine forkF rfl ?_
      | refine forkT (bq _) ?_
      | refine forkT (iq _) ?_
      | refine forkF (nbq _) ?_
      | refine forkF (niq _) ?_
      | exact rfl
      | refine forkD (fun h => ?_) (fun h => ?_)
      | refine ⟨trivial, fun H' _ _ => kAwake H', ?_⟩
      | refine ⟨⟨rfl, trivial⟩, fun H' hl hd => kChart _ _ _ _ (by omega) hl hd.1, ?_⟩
      | refine ⟨_, ⟨rfl, trivial⟩, fun H' _ hd => (kCheckChart _ _ _ _ hd.1).wkA ⟨aQR, trivial⟩, ?_⟩
      | refine ⟨_, ⟨rfl, trivial⟩, fun H' _ hd => krCheckChart _ _ _ _ hd.1, ?_⟩
      | refine ⟨_, ⟨rfl, trivial⟩, fun H' hl hd => (kAgeChart _ _ _ _ _ _ hl hd.1).wkA ⟨aQR, wk_refl _, wk_refl _, trivial⟩, ?_⟩
      | refine ⟨_, ⟨rfl, trivial⟩, fun H' hl hd => krAgeChart _ _ _ _ _ _ hl hd.1, ?_⟩
      | refine ⟨⟨rfl, trivial⟩, fun H' hl hd => hl ▸ kField xs (by omega) hd.1, ?_⟩
      | refine ⟨_, ⟨rfl, rfl, trivial⟩, fun H' hl hd => (kMeetCharts _ _ _ _ _ _ _ _ hl hd.1 hd.2.1).wkA ⟨aQR, aQR, trivial⟩, ?_⟩
      | refine ⟨_, ⟨rfl, rfl, trivial⟩, fun H' hl hd => krMeetCharts _ _ _ _ _ _ _ _ hl hd.1 hd.2.1, ?_⟩
      | refine ⟨_, ⟨rfl, rfl, trivial⟩, fun H' hl hd => (kHullCharts _ _ _ _ _ _ _ _ hl hd.1 hd.2.1).wkA ⟨aQR, aQR, trivial⟩, ?_⟩
      | refine ⟨_, ⟨rfl, rfl, trivial⟩, fun H' hl hd => krHullCharts _ _ _ _ _ _ _ _ hl hd.1 hd.2.1, ?_⟩
      | refine ⟨_, ⟨rfl, rfl, trivial⟩, fun H' _ hd => (kInsideChart _ _ _ _ _ _ _ _ hd.1 hd.2.1).wkA ⟨aQR, aQR, trivial⟩, ?_⟩
      | refine ⟨_, ⟨rfl, rfl, trivial⟩, fun H' _ hd => krInsideChart _ _ _ _ _ _ _ _ hd.1 hd.2.1, ?_⟩
      | refine ⟨_, ⟨rfl, rfl, trivial⟩, fun H' _ hd => (kHolds _ _ _ _ _ hd.1 hd.2.1).wkA ⟨aQR, wk_QR, trivial⟩, ?_⟩
      | refine ⟨_, ⟨rfl, rfl, trivial⟩, fun H' _ hd => krHolds _ _ _ _ _ hd.1 hd.2.1, ?_⟩
      | refine ⟨⟨rfl, rfl, trivial⟩, fun H' _ hd => (kSame _ _ _ _ (by omega) hd.1 hd.2.1).wkA (by first
      | exact ⟨aQR, aQR, trivial⟩
      | exact ⟨aQR, wk_refl _, trivial⟩), ?_⟩
      | fail
    refine ⟨rfl, ⟨Nat.zero_le _, rfl⟩, ?_, fun _ => rfl, ?_⟩
    · repeat' first
        | exact plainC _ _
        | exact trivial
        | exact rfl
        | exact wk_refl _
        | refine wkO_cells ?_
        | refine wks_cons ?_ ?_
        | exact wks_nil
        | exact wk_nil _ _ _ (.inl rfl)
        | exact wk_Q (by omega)
        | refine wk_tupL ?_
        | refine wk_aggL ?_
        | refine joinMax ?_ ?_ ?_
        | refine joinMin ?_ ?_ ?_
        | refine toMax ?_
        | refine toMin ?_
        | refine ⟨rfl, ?_⟩
        | refine ⟨trivial, ?_⟩
        | refine forkD (fun h => ?_) (fun h => ?_)
        | refine forkNe (fun h => ?_) (fun h => ?_)
        | refine forkEq (fun h => ?_) (fun h => ?_)
        | refine forkNot ?_
        | refine ⟨vI64 (by omega), ?_⟩
        | refine And.intro (by omega) ?_
        | apply And.intro
        | exact iEq (by omega)
        | exact vI64 (by omega)
        | fail
    rintro ⟨q, qs⟩ ⟨hxq, hyq⟩
    replace hxq : q ≤ (fHullC w v t cs w' v' t' ds).1.cells.length := hxq
    replace hyq : qs.length = (fHullC w v t cs w' v' t' ds).1.cells.length := hyq
    refine forkD (fun hl => ?_) (fun hl => ?_)
    · replace hl : q < (fHullC w v t cs w' v' t' ds).1.cells.length := by simpa using hl
      repeat' first
        | refine ⟨(show 0 + Int.toNat ((q : Nat) : Int) * 8 + 8 ≤ List.length (List.flatMap cellC qs) by rw [flat_len cellC_len, Int.toNat_natCast]; omega), ?_⟩
        | refine ⟨⟨(show (0 : Int) ≤ ((q : Nat) : Int) by omega), (show ((q : Nat) : Int) < (((fHullC w v t cs w' v' t' ds).1.cells.length : Nat) : Int) by omega)⟩, ?_⟩
        | refine ⟨vI64 (show _ ∧ ((q : Nat) : Int) + 1 ≤ _ by omega), ?_⟩
        | refine ⟨(q + 1, qs.set q zeroC), ⟨hl, (List.length_set ..).trans hyq⟩, (show (fHullC w v t cs w' v' t' ds).1.cells.length - (q + 1) < (fHullC w v t cs w' v' t' ds).1.cells.length - q by omega), ?_⟩
        | exact plainC _ _
        | exact congrArg (fun l => some (KObj.cells true 8 l)) (by rw [Int.toNat_natCast, Nat.zero_add]; exact flat_set cellC_len qs q (by omega) zeroC)
        | exact trivial
        | exact rfl
        | exact wk_refl _
        | refine wkO_cells ?_
        | refine wks_cons ?_ ?_
        | exact wks_nil
        | exact wk_nil _ _ _ (.inl rfl)
        | exact wk_Q (by omega)
        | refine wk_tupL ?_
        | refine wk_aggL ?_
        | refine joinMax ?_ ?_ ?_
        | refine joinMin ?_ ?_ ?_
        | refine toMax ?_
        | refine toMin ?_
        | refine ⟨rfl, ?_⟩
        | refine ⟨trivial, ?_⟩
        | refine forkD (fun h => ?_) (fun h => ?_)
        | refine forkNe (fun h => ?_) (fun h => ?_)
        | refine forkEq (fun h => ?_) (fun h => ?_)
        | refine forkNot ?_
        | refine ⟨vI64 (by omega), ?_⟩
        | refine And.intro (by omega) ?_
        | apply And.intro
        | exact iEq (by omega)
        | exact vI64 (by omega)
        | fail
    repeat' first
      | refine forkT rfl ?_
      | refine forkF rfl ?_
      | refine forkT (bq _) ?_
      | refine forkT (iq _) ?_
      | refine forkF (nbq _) ?_
      | refine forkF (niq _) ?_
      | exact rfl
      | refine forkD (fun h => ?_) (fun h => ?_)
      | refine ⟨trivial, fun H' _ _ => kAwake H', ?_⟩
      | refine ⟨⟨rfl, trivial⟩, fun H' hl hd => kChart _ _ _ _ (by omega) hl hd.1, ?_⟩
      | refine ⟨_, ⟨rfl, trivial⟩, fun H' _ hd => (kCheckChart _ _ _ _ hd.1).wkA ⟨aQR, trivial⟩, ?_⟩
      | refine ⟨_, ⟨rfl, trivial⟩, fun H' _ hd => krCheckChart _ _ _ _ hd.1, ?_⟩
      | refine ⟨_, ⟨rfl, trivial⟩, fun H' hl hd => (kAgeChart _ _ _ _ _ _ hl hd.1).wkA ⟨aQR, wk_refl _, wk_refl _, trivial⟩, ?_⟩
      | refine ⟨_, ⟨rfl, trivial⟩, fun H' hl hd => krAgeChart _ _ _ _ _ _ hl hd.1, ?_⟩
      | refine ⟨⟨rfl, trivial⟩, fun H' hl hd => hl ▸ kField xs (by omega) hd.1, ?_⟩
      | refine ⟨_, ⟨rfl, rfl, trivial⟩, fun H' hl hd => (kMeetCharts _ _ _ _ _ _ _ _ hl hd.1 hd.2.1).wkA ⟨aQR, aQR, trivial⟩, ?_⟩
      | refine ⟨_, ⟨rfl, rfl, trivial⟩, fun H' hl hd => krMeetCharts _ _ _ _ _ _ _ _ hl hd.1 hd.2.1, ?_⟩
      | refine ⟨_, ⟨rfl, rfl, trivial⟩, fun H' hl hd => (kHullCharts _ _ _ _ _ _ _ _ hl hd.1 hd.2.1).wkA ⟨aQR, aQR, trivial⟩, ?_⟩
      | refine ⟨_, ⟨rfl, rfl, trivial⟩, fun H' hl hd => krHullCharts _ _ _ _ _ _ _ _ hl hd.1 hd.2.1, ?_⟩
      | refine ⟨_, ⟨rfl, rfl, trivial⟩, fun H' _ hd => (kInsideChart _ _ _ _ _ _ _ _ hd.1 hd.2.1).wkA ⟨aQR, aQR, trivial⟩, ?_⟩
      | refine ⟨_, ⟨rfl, rfl, trivial⟩, fun H' _ hd => krInsideChart _ _ _ _ _ _ _ _ hd.1 hd.2.1, ?_⟩
      | refine ⟨_, ⟨rfl, rfl, trivial⟩, fun H' _ hd => (kHolds _ _ _ _ _ hd.1 hd.2.1).wkA ⟨aQR, wk_QR, trivial⟩, ?_⟩
      | refine ⟨_, ⟨rfl, rfl, trivial⟩, fun H' _ hd => krHolds _ _ _ _ _ hd.1 hd.2.1, ?_⟩
      | refine ⟨⟨rfl, rfl, trivial⟩, fun H' _ hd => (kSame _ _ _ _ (by omega) hd.1 hd.2.1).wkA (by first
      | exact ⟨aQR, aQR, trivial⟩
      | exact ⟨aQR, wk_refl _, trivial⟩), ?_⟩
      | fail
  · rcases List.mem_cons.1 hc with rfl | hc
    · exact plainC 0 _
    · exact two_cs (plainC 0 ds) (plainI 0 xs) c hc
  · match k with
    | 0 => cases h; exact ⟨id, own, z, rfl, hid⟩
    | 1 => cases h; exact ⟨id2, own2, z2, rfl, hid2⟩
    | 2 => cases h; exact ⟨id3, own3, z3, rfl, hid3⟩
end
end Go.Proofs.YthcjliffpebjaaaGreat
/- How laws' arguments are read. No condition. -/
namespace Go.Proofs.YthcjliffpebjaaaGreat
set_option linter.unusedSimpArgs false
open Go Go.K Go.ChangeShapes Go.WideShapes Go.ChangeAt Go.RowKit
set_option maxRecDepth 100000
set_option linter.unusedVariables false
noncomputable section
theorem own : ownKnob Tryz.prog.godebug = none := by kernel_rfl
theorem sized : slicesSized Tryz.prog = true := by kernel_rfl
abbrev known (t : TypeId) : Prop := t < Tryz.prog.types.size
theorem kids : Kids Tryz.prog known := kids_rows (by kernel_rfl) (by kernel_rfl)
theorem good_flat {H : Heap} {t : TypeId} {v : Value} (n : Nat) (hu : (match Tryz.prog.underlying t with | some (.struct _) => true | _ => false) = true) (hf : flatI Tryz.prog 6 t = some n) (h : GoodV Tryz.prog H 6 t v) :
    ∃ ns : List Int, v = .agg ⟨ns.map (.int .i64)⟩ ∧ ns.length = n ∧ ∀ x ∈ ns, inI x := by
  unfold GoodV at h
  split at hu
  · rename_i fs e
    rw [e] at h
    obtain ⟨cs, rfl, h⟩ := h
    obtain ⟨ns, rfl, h2, h3⟩ := flatI_good 6 t n cs hf h
    exact ⟨ns, rfl, h2, h3⟩
  · cases hu
theorem good_int {H : Heap} {v : Value} (h : GoodV Tryz.prog H 6 3 v) : ∃ x : Int, v = .int .i64 x ∧ inI x := by
  have hu : Tryz.prog.underlying 3 = some (.int .i64) := by kernel_rfl
  unfold GoodV at h
  rw [hu] at h
  obtain ⟨ns, h1, h2, h3⟩ := flatI_good 6 3 1 [v] (by unfold flatI; rw [hu]) h
  match ns, h2 with
  | [x], _ => exact ⟨x, by simpa using h1, h3 x (by simp)⟩
theorem good_cell {H : Heap} {v : Value} (h : GoodV Tryz.prog H 6 43 v) : ∃ c : Cell, v = cellV c := by
  obtain ⟨ns, rfl, h2, _⟩ := good_flat 8 (by kernel_rfl) (by kernel_rfl) h
  match ns, h2 with
  | [a1, a2, a3, a4, a5, a6, a7, a8], _ => exact ⟨⟨⟨a1, a2⟩, ⟨a3, a4⟩, ⟨a5, a6⟩, ⟨a7, a8⟩⟩, rfl⟩
theorem good_ice {H : Heap} {v : Value} (h : GoodV Tryz.prog H 6 24 v) : ∃ x : Ice, v = iceV x := by
  obtain ⟨ns, rfl, h2, _⟩ := good_flat 4 (by kernel_rfl) (by kernel_rfl) h
  match ns, h2 with
  | [a1, a2, a3, a4], _ => exact ⟨⟨a1, a2, a3, a4⟩, rfl⟩
theorem good_rates {H : Heap} {v : Value} (h : GoodV Tryz.prog H 6 26 v) : ∃ m : Rates, v = ratesV m := by
  obtain ⟨ns, rfl, h2, _⟩ := good_flat 8 (by kernel_rfl) (by kernel_rfl) h
  match ns, h2 with
  | [a1, a2, a3, a4, a5, a6, a7, a8], _ => exact ⟨⟨⟨a1, a2, a3, a4⟩, ⟨a5, a6, a7, a8⟩⟩, rfl⟩
theorem goodL_flat {α : Type} {f : α → List Value} {n t : Nat} (H : Heap) (hf : flatI Tryz.prog 5 t = some n) (hα : ∀ ns : List Int, ns.length = n → ∃ x : α, ns.map (Value.int .i64) = f x) :
    ∀ c, K.Good Tryz.prog H 5 t c → ∃ x : α, c = f x ∧ True := by
  intro c h
  obtain ⟨ns, rfl, h2, _⟩ := flatI_good 5 t n c hf h
  obtain ⟨x, hx⟩ := hα ns h2
  exact ⟨x, hx, trivial⟩
/-- A slice: nil, empty, or a block of its own: less is said: read only. -/
theorem good_slice {α : Type} {f : α → List Value} {H : Heap} {t e : Nat} {v : Value} (hu : Tryz.prog.underlying t = some (.slice e)) (hg : ∀ c, K.Good Tryz.prog H 5 e c → ∃ x : α, c = f x ∧ True) (h : GoodV Tryz.prog H 6 t v) :
    ∃ (xs : List α) (gs : List KObj) (id : Nat) (own : Bool) (z : Nat), wk v (.slice (some ⟨id, 0, some 2⟩) xs.length xs.length) ∧ (H ++ gs)[id]? = some (.cells own z (xs.flatMap f)) ∧ xs.length ≤ maxLen := by
  unfold GoodV at h
  rw [hu] at h
  unfold K.Good at h
  rw [hu] at h
  rcases h with h | h | ⟨id, len, cs', h1, h2, h3, h4, h5⟩
  · cases h; exact ⟨[], [.cells false 0 []], H.length, false, 0, wk_nil _ _ _ (.inr rfl), by simp, by simp [maxLen]⟩
  · cases h; exact ⟨[], [.cells false 0 []], H.length, false, 0, wk_E _ _ _ (.inr rfl), by simp, by simp [maxLen]⟩
  · cases h1
    obtain ⟨xs, rfl, rfl, _⟩ := goodL_list (f := f) (q := fun _ => True) hg len cs' h5
    exact ⟨xs, [], id, false, 0, wk_R, by rw [List.append_nil]; exact h2, h4⟩
theorem good_ices {H : Heap} {v : Value} (h : GoodV Tryz.prog H 6 72 v) : ∃ (xs : List Ice) (gs : List KObj) (id : Nat) (own : Bool) (z : Nat), wk v (.slice (some ⟨id, 0, some 2⟩) xs.length xs.length) ∧ (H ++ gs)[id]? = some (.cells own z (xs.flatMap iceC)) ∧ xs.length ≤ maxLen := by
  refine good_slice (e := 24) (by kernel_rfl) (goodL_flat (n := 4) H (by kernel_rfl) fun ns h => ?_) h
  match ns, h with
  | [a1, a2, a3, a4], _ => exact ⟨⟨a1, a2, a3, a4⟩, rfl⟩
end
end Go.Proofs.YthcjliffpebjaaaGreat
/- How charts and several lists are read. No condition. -/
namespace Go.Proofs.YthcjliffpebjaaaGreat
set_option linter.unusedSimpArgs false
open Go Go.K Go.ChangeShapes Go.WideShapes Go.ChangeAt Go.RowKit
set_option maxRecDepth 100000
set_option linter.unusedVariables false
noncomputable section
/-- What a slice's cell says: less is said of it: read only. -/
theorem slice_read {α : Type} {f : α → List Value} {H : Heap} {n t e : Nat} {cs : List Value} (hu : Tryz.prog.underlying t = some (.slice e)) (hg : ∀ c, K.Good Tryz.prog H n e c → ∃ x : α, c = f x ∧ True) (h : K.Good Tryz.prog H (n + 1) t cs) :
    ∃ (v : Value) (xs : List α), cs = [v] ∧ xs.length ≤ maxLen ∧ ∀ K : Heap, ∃ (gs : List KObj) (id : Nat) (own : Bool) (z : Nat), wk v (.slice (some ⟨id, 0, some 2⟩) xs.length xs.length) ∧ (H ++ K ++ gs)[id]? = some (.cells own z (xs.flatMap f)) := by
  unfold K.Good at h
  rw [hu] at h
  rcases h with h | h | ⟨id, len, cs', h1, h2, h3, h4, h5⟩
  · exact ⟨_, [], h, by simp [maxLen], fun K => ⟨[.cells false 0 []], (H ++ K).length, false, 0, wk_nil _ _ _ (.inr rfl), by rw [List.getElem?_append_right (Nat.le_refl _)]; simp⟩⟩
  · exact ⟨_, [], h, by simp [maxLen], fun K => ⟨[.cells false 0 []], (H ++ K).length, false, 0, wk_E _ _ _ (.inr rfl), by rw [List.getElem?_append_right (Nat.le_refl _)]; simp⟩⟩
  · obtain ⟨xs, rfl, rfl, _⟩ := goodL_list (f := f) (q := fun _ => True) hg len cs' h5
    refine ⟨_, xs, h1, h4, fun K => ⟨[], id, false, 0, wk_R, ?_⟩⟩
    rw [List.append_nil, List.getElem?_append_left (List.getElem?_eq_some_iff.1 h2).1]; exact h2
theorem goodV_slice {α : Type} {f : α → List Value} {H : Heap} {t e : Nat} {v : Value} (hu : Tryz.prog.underlying t = some (.slice e)) (hg : ∀ c, K.Good Tryz.prog H 5 e c → ∃ x : α, c = f x ∧ True) (h : GoodV Tryz.prog H 6 t v) :
    ∃ xs : List α, xs.length ≤ maxLen ∧ ∀ K : Heap, ∃ (gs : List KObj) (id : Nat) (own : Bool) (z : Nat), wk v (.slice (some ⟨id, 0, some 2⟩) xs.length xs.length) ∧ (H ++ K ++ gs)[id]? = some (.cells own z (xs.flatMap f)) := by
  unfold GoodV at h
  rw [hu] at h
  obtain ⟨v', xs, h1, h2, h3⟩ := slice_read hu hg h
  cases h1
  exact ⟨xs, h2, h3⟩
theorem ices_read {H : Heap} {v : Value} (h : GoodV Tryz.prog H 6 72 v) : ∃ xs : List Ice, xs.length ≤ maxLen ∧ ∀ K : Heap, ∃ (gs : List KObj) (id : Nat) (own : Bool) (z : Nat), wk v (.slice (some ⟨id, 0, some 2⟩) xs.length xs.length) ∧ (H ++ K ++ gs)[id]? = some (.cells own z (xs.flatMap iceC)) := by
  refine goodV_slice (e := 24) (by kernel_rfl) (goodL_flat (n := 4) H (by kernel_rfl) fun ns h => ?_) h
  match ns, h with
  | [a1, a2, a3, a4], _ => exact ⟨⟨a1, a2, a3, a4⟩, rfl⟩
theorem good_i64 {H : Heap} {n : Nat} {c : List Value} (h : K.Good Tryz.prog H (n + 1) 3 c) : ∃ x : Int, c = [.int .i64 x] := by
  obtain ⟨ns, h1, h2, h3⟩ := flatI_good (n + 1) 3 1 c (by unfold flatI; rw [show Tryz.prog.underlying 3 = some (.int .i64) by kernel_rfl]) h
  match ns, h2 with
  | [x], _ => exact ⟨x, by simpa using h1⟩
theorem chart_read {H : Heap} {v : Value} (h : GoodV Tryz.prog H 6 97 v) : ∃ (w hh t : Int) (cs : List Cell), ∀ K : Heap, ∃ (gs : List KObj) (id : Nat) (own : Bool) (z : Nat), wk v (.agg #[.int .i64 w, .int .i64 hh, .int .i64 t, .slice (some ⟨id, 0, some 2⟩) cs.length cs.length]) ∧ (H ++ K ++ gs)[id]? = some (.cells own z (cs.flatMap cellC)) := by
  have hu : ∃ fs, Tryz.prog.underlying 97 = some (.struct fs) ∧ fs.toList.map (·.type) = [3, 3, 3, 95] := by
    have : (match Tryz.prog.underlying 97 with | some (.struct fs) => decide (fs.toList.map (·.type) = [3, 3, 3, 95]) | _ => false) = true := by kernel_rfl
    split at this
    · rename_i fs e; exact ⟨fs, e, of_decide_eq_true this⟩
    · cases this
  obtain ⟨fs, hu, ht⟩ := hu
  unfold GoodV at h
  rw [hu] at h
  obtain ⟨cs, rfl, h⟩ := h
  unfold K.Good at h
  rw [hu] at h
  simp only [ht] at h
  obtain ⟨c1, r1, rfl, h1, c2, r2, rfl, h2, c3, r3, rfl, h3, c4, r4, rfl, h4, h5⟩ := h
  obtain rfl : r4 = [] := h5
  obtain ⟨w, rfl⟩ := good_i64 h1
  obtain ⟨hh, rfl⟩ := good_i64 h2
  obtain ⟨t, rfl⟩ := good_i64 h3
  obtain ⟨v, xs, rfl, _, hr⟩ := slice_read (f := cellC) (n := 4) (e := 43) (by kernel_rfl) (fun c hc => by
    obtain ⟨ns, rfl, k2, _⟩ := flatI_good 4 43 8 c (by kernel_rfl) hc
    match ns, k2 with
    | [a1, a2, a3, a4, a5, a6, a7, a8], _ => exact ⟨⟨⟨a1, a2⟩, ⟨a3, a4⟩, ⟨a5, a6⟩, ⟨a7, a8⟩⟩, rfl, trivial⟩) h4
  refine ⟨w, hh, t, xs, fun K => ?_⟩
  obtain ⟨gs, id, own, z, g1, g2⟩ := hr K
  exact ⟨gs, id, own, z, wk_aggL ⟨wk_refl _, wk_refl _, wk_refl _, g1, trivial⟩, g2⟩
end
end Go.Proofs.YthcjliffpebjaaaGreat
