/- Drift: the examples of the chapter (awake), as a contract. No condition. -/
import Derived.Test.YtkkgnalgmebfjaaA4a
import Derived.Test.YtkkgnalgmebfjaaGH1gxH1f
import Derived.Test.YtkkgnalgmebfjaaRows
import Derived.JoinedCond
import Derived.Test.YtkkgnalgmebfjaaGK27xE1a
namespace Go.Proofs.Ytkkgnalgmebfjaa
set_option linter.unusedSimpArgs false
set_option linter.unusedVariables false
open Go Go.K
set_option maxRecDepth 100000
noncomputable section
attribute [local irreducible] vF
theorem kAwake (H : Heap) : KCall prog F.polynyalaw02_awake [] H [] (Is (.bool true) H) := by
  have hv : vF prog msk (dm impI) 100000 true 40 true F.polynyalaw02_awake [] ⟨0, .leaf⟩ none .auto (fun v _ _ => isTrueV v) := of_eq_true awakeRun
  have h0 := vc (P := prog) (mask := msk) (dm := dm impI) (rounds := 100000) (mixed := true) mskOk mixed 40 (f := F.polynyalaw02_awake) (args := []) (H := ⟨0, .leaf⟩) (M := none) (h := .auto) (Q := fun v _ => isTrueV v) hv
  have h1 : KCall prog F.polynyalaw02_awake [] [] [] (fun v _ => v = .bool true) := h0.post (fun v H' h => by
      cases v <;> first | exact h.elim | (rename_i b; cases b <;> first | rfl | exact h.elim))
  have h2 : KCall prog F.polynyalaw02_awake [] [] [] (Is (.bool true) []) := KCall.clean h1 rfl
  have h3 := KCall.frame (H := H) (new := []) (d := 3) (σ := fun _ => none) ⟨fun g hg => absurd hg (by rw [glob0]; exact Nat.not_lt_zero _), fun _ _ h => (by cases h), fun id h => absurd h (Nat.not_lt_zero _), fun _ _ _ h => (by cases h), fun _ _ _ h => (by cases h)⟩ h2 rfl rfl
  simpa [rn] using h3
end
end Go.Proofs.Ytkkgnalgmebfjaa
/- DriftKept returns true. No condition. -/
namespace Go.Proofs.Ytkkgnalgmebfjaa
open Go Go.K
set_option maxRecDepth 100000
set_option linter.unusedVariables false
set_option linter.unusedSimpArgs false
noncomputable section
attribute [local irreducible] vF
/-- Numbers' basin, field, flows, moves. -/
theorem k_bd (L : List Int) : ((0 ≤ k1 L ∧ k1 L ≤ 1000) ∧ (0 ≤ k2 L ∧ k2 L ≤ 2000)) ∧ (0 ≤ k3 L ∧ k3 L ≤ 3000) ∧ (kA L).length ≤ 30 := by
  have h1 := watN_bd L 0
  have h2 := watA_len L 0
  have h3 := wat_prod L 0
  obtain ⟨_, h4, _⟩ := fldL_ok L (kA L) (k1 L) (kA L).length
  obtain ⟨_, h5, _⟩ := curL_ok L (k2 L) (k2 L + 1 + 1) (kA L).length
  have e1 : k1 L = watN L 0 := rfl
  have e2 : k2 L = (fldL L (kA L) (k1 L) (kA L).length).2 := rfl
  have e3 : k3 L = (curL L (dN L (k2 L) 3001 - 1500) (dN L (k2 L + 1) 3001 - 1500) (k2 L + 1 + 1) (kA L).length).2 := rfl
  have e4 : ((kA L).length : Int) = watW L 0 * watH L 0 := h2
  rw [← e2] at h4
  rw [← e3] at h5
  omega
theorem kX_ok (L : List Int) : (kX L).length = (kA L).length ∧ ∀ k, k < (kA L).length → rightI ((kX L).getD k zeroI) ∧ ((kA L).getD k false = true → (kX L).getD k zeroI = zeroI) := by
  obtain ⟨h1, _, h3⟩ := fldL_ok L (kA L) (k1 L) (kA L).length
  exact ⟨h1, h3⟩
theorem kF_ok (L : List Int) : (kF L).length = (kA L).length ∧ ∀ f ∈ kF L, rightF f := by
  obtain ⟨h1, _, h3⟩ := curL_ok L (k2 L) (k2 L + 1 + 1) (kA L).length
  exact ⟨h1, h3⟩
theorem kB_ok (L : List Int) : BasOk (kW L) (kH L) (kA L).length := basOk (wat_ok L 0)
theorem flows_ok {w h : Int} {n : Nat} {l : List Flow} (b : errBas w h n = 0) (hl : l.length = n) (hf : ∀ f ∈ l, rightF f) : errFlows w h n l = 0 := by
  have key : ∀ l : List Flow, (∀ f ∈ l, rightF f) → errF l = 0 := by
    intro l
    induction l with
    | nil => intro _; rfl
    | cons f l ih => intro h; unfold errF; rw [if_pos (h f (List.mem_cons_self ..))]; exact ih fun g hg => h g (List.mem_cons_of_mem _ hg)
  unfold errFlows
  rw [first2_2 b, if_pos hl]; exact key l hf
/-- Moves of a flow lie between its ends. -/
theorem movesF_in {f : Flow} (hf : rightF f) : ∀ m ∈ movesF f, inMv f m = true := by
  have eb := ends_bd hf
  have key : ∀ j, j ≤ nyF f → ∀ m ∈ mvTo f j, inMv f m = true := by
    intro j
    induction j with
    | zero => intro _ m hm; cases hm
    | succ j ih =>
      intro hj m hm
      rcases List.mem_append.1 hm with h | h
      · exact ih (by omega) m h
      · unfold mvRow tabP at h
        obtain ⟨i, hi, rfl⟩ := List.mem_map.1 h
        rw [List.mem_range] at hi
        unfold nxF at hi
        unfold nyF at hj
        unfold inMv
        simp only [Bool.and_eq_true, decide_eq_true_eq]
        omega
  exact key _ (Nat.le_refl _)
theorem getD_snoc {α : Type} {l : List α} {y d : α} {x k : Nat} (hl : l.length = x) (hk : k < x + 1) : (l ++ [y]).getD k d = if k < x then l.getD k d else y := by
  rw [List.getD_eq_getElem?_getD]
  by_cases h : k < x
  · rw [if_pos h, List.getElem?_append_left (by omega), List.getD_eq_getElem?_getD]
  · rw [if_neg h, List.getElem?_append_right (by omega), show k - l.length = 0 by omega]; rfl
theorem kM_ok (L : List Int) (l : List Flow) (n : Int) (hf : ∀ f ∈ l, rightF f) : ∀ x, x ≤ l.length → ∀ k, k < x → inMv (l.getD k zeroF) ((mvgL L l n x).1.getD k zeroM) = true
  | 0, _, k, h => by omega
  | x + 1, hx, k, hk => by
    have i1 := (mvgL_len L l n x).1
    have hr := hf _ (getD_mem (d := zeroF) (show x < l.length by omega))
    have e : (mvgL L l n (x + 1)).1.getD k zeroM = if k < x then (mvgL L l n x).1.getD k zeroM else (fMoves (l.getD x zeroF)).1.getD (Int.toNat (dN L (mvgL L l n x).2 (((fMoves (l.getD x zeroF)).1.length : Nat) : Int))) zeroM := by
      show (_ ++ [_]).getD k zeroM = _
      exact getD_snoc i1 hk
    rw [e]
    by_cases h : k < x
    · rw [if_pos h]
      exact kM_ok L l n hf x (by omega) k h
    · obtain rfl : k = x := by omega
      rw [if_neg h, (fMovesR hr).1]
      have mb := movesF_bd hr
      have hp := dN_bd L (mvgL L l n k).2 (m := (((movesF (l.getD k zeroF)).length : Nat) : Int)) (by omega)
      exact movesF_in hr _ (getD_mem (by omega))
theorem kDr_ok (L : List Int) : DrOk (kW L) (kH L) (kA L) (kX L) (kM L) :=
  ⟨kB_ok L, (kX_ok L).1, fun k hk => ((kX_ok L).2 k (by rw [← (kX_ok L).1]; exact hk)).1, fun k hk => ((kX_ok L).2 k (by rw [← (kX_ok L).1]; exact hk)).2⟩
theorem errDr_0 {w h : Int} {a : List Bool} {l : List Flow} {xs : List Ice} {ms : List Move} (o : DrOk w h a xs ms) (hb : errBas w h a.length = 0) (hl : l.length = a.length) (hf : ∀ f ∈ l, rightF f) (hm : ms.length = a.length) (hi : ∀ k, k < a.length → a.getD k false = false → inMv (l.getD k zeroF) (ms.getD k zeroM) = true) : errDr w h a l xs ms = 0 := by
  have hn := o.n
  unfold errDr
  rw [first2_2 (flows_ok hb hl hf), if_pos ⟨by omega, by omega⟩]
  have key : ∀ k, k ≤ xs.length → errUp (mvErr a l xs ms) k = 0 := by
    intro k
    induction k with
    | zero => intro _; rfl
    | succ k ih =>
      intro hk
      have hr := errIce_iff.2 (o.x k (by omega))
      refine errUp_succ (ih (by omega)) ?_
      cases ha : a.getD k false with
      | true => exact mvErr_4 hr ha (by rw [o.z k (by omega) ha]; rfl)
      | false => exact mvErr_5 hr ha (hi k (by omega) ha)
  exact key _ (Nat.le_refl _)
theorem kDr_0 (L : List Int) : fDrift (kW L) (kH L) (kA L) (kF L) (kX L) (kM L) = (kD L, kE L, 0) := by
  obtain ⟨f1, f2⟩ := kF_ok L
  have hm : (kM L).length = (kF L).length := (mvgL_len L (kF L) (k3 L) (kF L).length).1
  exact if_pos (errDr_0 (kDr_ok L) (wat_ok L 0) f1 f2 (by omega) fun k hk _ => kM_ok L (kF L) (k3 L) f2 _ (Nat.le_refl _) k (by omega))
theorem concTo_bd {xs : List Ice} : ∀ k, (∀ i, i < k → rightI (xs.getD i zeroI)) → 0 ≤ concTo xs k ∧ concTo xs k ≤ 100 * (k : Int)
  | 0, _ => by show (0 : Int) ≤ 0 ∧ (0 : Int) ≤ 100 * 0; omega
  | k + 1, h => by
    have ih := concTo_bd (xs := xs) k (fun i hi => h i (by omega))
    have := (h k (by omega)).1
    unfold concTo; omega
theorem bothTo_bd {xs : List Ice} {es : List Int} : ∀ k, (∀ i, i < k → (0 ≤ (xs.getD i zeroI).conc ∧ (xs.getD i zeroI).conc ≤ 100) ∧ 0 ≤ es.getD i 0 ∧ es.getD i 0 ≤ 200000) → 0 ≤ bothTo xs es k ∧ bothTo xs es k ≤ 300000 * (k : Int)
  | 0, _ => by show (0 : Int) ≤ 0 ∧ (0 : Int) ≤ 300000 * 0; omega
  | k + 1, h => by
    have ih := bothTo_bd (xs := xs) (es := es) k (fun i hi => h i (by omega))
    have := h k (by omega)
    unfold bothTo; omega
theorem kKept (L : List Int) (H : Heap) : KCall prog F.polynyalaw02_DriftKept [.iface (L.length + 1) (.agg ⟨L.flatMap intC⟩)] H [] (Is (.bool true) H) := by
  refine valK 40 (fun σ => ?_) rfl (Eq.mpr (EKeptLaw (.bool true) L) ?_) H
  · have := (rnCl (σ := σ) (d := 2) (l := [.iface (L.length + 1) (.agg ⟨L.flatMap intC⟩)]) (by
      show ((L.flatMap intC).all (belowD 0) && true) = true
      rw [all_belowD]; rfl)).1
    exact this
  unfold RKeptLaw
  obtain ⟨⟨b1, b2⟩, b3, b4⟩ := k_bd L
  obtain ⟨x1, x2⟩ := kX_ok L
  obtain ⟨f1, f2⟩ := kF_ok L
  have o := kDr_ok L
  have hD : (kD L).length = (kA L).length := by unfold kD driftI; rw [List.length_map, plTo_len]
  have hE : (kE L).length = (kA L).length := by unfold kE driftE; rw [List.length_map, plTo_len]
  refine ⟨⟨rfl, trivial⟩, fun H' hl hd => kWaters L 0 (by omega) hl hd.1, ⟨rfl, rfl, trivial⟩, fun H' hl hd => (kField L (k1 L) (by omega) (kW L) (kH L) (kA L) (by omega) hl hd.1 hd.2.1 (by decide)).wkA ⟨wk_refl _, wk_aggL ⟨wk_refl _, wk_refl _, wk_QR, trivial⟩, trivial⟩,
    ⟨rfl, rfl, trivial⟩, fun H' hl hd => (kCurrents L (k2 L) (by omega) (kW L) (kH L) (kA L) (by omega) hl hd.1 hd.2.1 (by decide)).wkA ⟨wk_refl _, wk_aggL ⟨wk_refl _, wk_refl _, wk_QR, trivial⟩, trivial⟩,
    ⟨rfl, rfl, trivial⟩, fun H' hl hd => (kMoving L (k3 L) (by omega) (kF L) (by omega) f2 hl hd.1 hd.2.1 (by decide)).wkA ⟨wk_refl _, wk_QR, trivial⟩,
    ⟨rfl, rfl, rfl, rfl, trivial⟩, fun H' hl hd => ?_, forkNe (fun q => absurd rfl q) (fun _ => forkNe (fun q => absurd (by omega) q) (fun _ => forkNe (fun q => absurd (by omega) q) (fun _ => ?_)))⟩
  · have := kDrift (kW L) (kH L) (kA L) (kF L) (kX L) (kM L) (by omega) (by omega) hl hd.1 hd.2.1 hd.2.2.1 hd.2.2.2.1
    rw [kDr_0 L] at this
    exact this.wkA ⟨wk_aggL ⟨wk_refl _, wk_refl _, wk_QR, trivial⟩, wk_QR, wk_QR, wk_QR, trivial⟩
  refine ⟨rfl, Nat.zero_le _, ?_, fun _ => rfl, ?_⟩
  · repeat' first | exact trivial | exact rfl | exact wk_refl _ | refine wkO_cells ?_ | refine wks_cons ?_ ?_ | exact wks_nil | exact wk_nil _ _ _ (.inl rfl) | (exact wk_Q (by omega)) | refine wk_tupL ?_ | refine wk_aggL ?_ | refine joinMax ?_ ?_ ?_ | refine joinMin ?_ ?_ ?_ | refine toMax ?_ | refine toMin ?_ | refine ⟨rfl, ?_⟩ | refine ⟨trivial, ?_⟩ | (refine forkD (fun h => ?_) (fun h => ?_)) | (refine forkNe (fun h => ?_) (fun h => ?_)) | (refine forkEq (fun h => ?_) (fun h => ?_)) | refine forkNot ?_ | (refine ⟨vI64 (by omega), ?_⟩) | (refine And.intro (by omega) ?_) | apply And.intro | (exact iEq (by omega)) | (exact vI64 (by omega))
  intro x hx
  have hcb := concTo_bd (xs := kX L) x (fun i hi => (x2 i (by omega)).1)
  refine forkD (fun k => ?_) (fun k => ?_)
  · have hxx : x < (kX L).length := by omega
    obtain ⟨⟨i1, i2⟩, i3, i4⟩ := iceAt hxx
    have hr := (x2 x (by omega)).1.1
    refine ⟨by omega, i1, vI64 (by omega), by omega, i1, forkD (fun q => ⟨by omega, i2, vI64 (by omega), x + 1, by omega, by omega, rfl, ?_⟩) (fun q => ⟨vI64 (by omega), x + 1, by omega, by omega, rfl, ?_⟩)⟩
    · have e1 : thkTo (kX L) (x + 1) = max (thkTo (kX L) x) ((kX L).getD x zeroI).thick := if_pos q
      have e2 : concTo (kX L) (x + 1) = concTo (kX L) x + ((kX L).getD x zeroI).conc := rfl
      rw [e1, e2, ite_max]
      repeat' first | exact trivial | exact rfl | exact wk_refl _ | refine wkO_cells ?_ | refine wks_cons ?_ ?_ | exact wks_nil | exact wk_nil _ _ _ (.inl rfl) | (exact wk_Q (by omega)) | refine wk_tupL ?_ | refine wk_aggL ?_ | refine joinMax ?_ ?_ ?_ | refine joinMin ?_ ?_ ?_ | refine toMax ?_ | refine toMin ?_ | refine ⟨rfl, ?_⟩ | refine ⟨trivial, ?_⟩ | (refine forkD (fun h => ?_) (fun h => ?_)) | (refine forkNe (fun h => ?_) (fun h => ?_)) | (refine forkEq (fun h => ?_) (fun h => ?_)) | refine forkNot ?_ | (refine ⟨vI64 (by omega), ?_⟩) | (refine And.intro (by omega) ?_) | apply And.intro | (exact iEq (by omega)) | (exact vI64 (by omega))
    · have e1 : thkTo (kX L) (x + 1) = thkTo (kX L) x := if_neg q
      have e2 : concTo (kX L) (x + 1) = concTo (kX L) x + ((kX L).getD x zeroI).conc := rfl
      rw [e1, e2]
      repeat' first | exact trivial | exact rfl | exact wk_refl _ | refine wkO_cells ?_ | refine wks_cons ?_ ?_ | exact wks_nil | exact wk_nil _ _ _ (.inl rfl) | (exact wk_Q (by omega)) | refine wk_tupL ?_ | refine wk_aggL ?_ | refine joinMax ?_ ?_ ?_ | refine joinMin ?_ ?_ ?_ | refine toMax ?_ | refine toMin ?_ | refine ⟨rfl, ?_⟩ | refine ⟨trivial, ?_⟩ | (refine forkD (fun h => ?_) (fun h => ?_)) | (refine forkNe (fun h => ?_) (fun h => ?_)) | (refine forkEq (fun h => ?_) (fun h => ?_)) | refine forkNot ?_ | (refine ⟨vI64 (by omega), ?_⟩) | (refine And.intro (by omega) ?_) | apply And.intro | (exact iEq (by omega)) | (exact vI64 (by omega))
  obtain rfl : x = (kX L).length := by omega
  have ht0 := thk_0 (kX L) (kX L).length
  have ht1 := thk_le (kX L) (kX L).length (fun i hi => (x2 i (by omega)).1)
  refine ⟨rfl, Nat.zero_le _, ?_, fun _ => rfl, ?_⟩
  · repeat' first | exact trivial | exact rfl | exact wk_refl _ | refine wkO_cells ?_ | refine wks_cons ?_ ?_ | exact wks_nil | exact wk_nil _ _ _ (.inl rfl) | (exact wk_Q (by omega)) | refine wk_tupL ?_ | refine wk_aggL ?_ | refine joinMax ?_ ?_ ?_ | refine joinMin ?_ ?_ ?_ | refine toMax ?_ | refine toMin ?_ | refine ⟨rfl, ?_⟩ | refine ⟨trivial, ?_⟩ | (refine forkD (fun h => ?_) (fun h => ?_)) | (refine forkNe (fun h => ?_) (fun h => ?_)) | (refine forkEq (fun h => ?_) (fun h => ?_)) | refine forkNot ?_ | (refine ⟨vI64 (by omega), ?_⟩) | (refine And.intro (by omega) ?_) | apply And.intro | (exact iEq (by omega)) | (exact vI64 (by omega))
  intro y hy
  have hkc : ∀ j, j < (kA L).length → KeptC (thkTo (kX L) (kX L).length) ((kA L).getD j false) ((kD L).getD j zeroI) ((kE L).getD j 0) := fun j hj => kept_c o hj
  have hbb := bothTo_bd (xs := kD L) (es := kE L) y (fun i hi => ⟨(hkc i (by omega)).b.1, (hkc i (by omega)).e0, (hkc i (by omega)).b.2⟩)
  refine forkD (fun k5 => ?_) (fun k5 => ?_)
  · have hyy : y < (kD L).length := by omega
    obtain ⟨⟨l0, l1⟩, _, l3⟩ := iceAt hyy
    have lp := partIce hyy
    have le : ((kE L).flatMap intC)[0 + Int.toNat ((y : Nat) : Int) * 1]? = some (.int .i64 ((kE L).getD y 0)) := intAt (by omega) (by omega)
    have la : ((kA L).flatMap boolC)[0 + Int.toNat ((y : Nat) : Int) * 1]? = some (.bool ((kA L).getD y false)) := boolAt (by omega) (by omega)
    obtain ⟨c1, ⟨c2, c3⟩, c4, c5, c6, c7⟩ := hkc y (by omega)
    have hbo : bothTo (kD L) (kE L) (y + 1) = bothTo (kD L) (kE L) y + (((kD L).getD y zeroI).conc + (kE L).getD y 0) := rfl
    have d1 := tdiv_bd (d := 10) c1 (by decide)
    have nz : ∀ {A : Prop}, isZ ((kD L).getD y zeroI) = true → (!(isZ ((kD L).getD y zeroI))) = true → A := fun {A} h1 h2 => by rw [h1] at h2; cases h2
    refine ⟨by omega, l0, by omega, le, vI64 (by omega), vI64 (by omega), by omega, le, forkD (fun q => (show False by omega).elim) (fun q1 => ⟨by omega, le, forkD (fun q2 => ⟨by omega, l0, forkNe (fun q => absurd (c4 q2).1 q) (fun q3 => ⟨by omega, l3, forkD (fun q => (show False by have := (c4 q2).2; omega).elim) (fun q4 => ⟨by omega, la, ?_⟩)⟩)⟩) (fun q2 => ⟨by omega, la, ?_⟩)⟩)⟩
    all_goals
      refine ⟨fun ha => ⟨by omega, lp, fun q => nz (c5 ha) q, fun q => ⟨by omega, l1, by omega, le, vI64 (by omega), vI64 (by omega), forkD (fun q => (show False by omega).elim) (fun _ => ⟨by omega, l0, forkEq (fun qz => ⟨by omega, lp, bEq (by show (!(isZ ((kD L).getD y zeroI))) = false; rw [c5 ha]; rfl), vI64 (by omega), y + 1, by omega, by omega, rfl, ?_⟩) (fun _ => ⟨vI64 (by omega), y + 1, by omega, by omega, rfl, ?_⟩)⟩)⟩⟩,
        fun ha => ⟨by omega, l1, by omega, le, vI64 (by omega), vI64 (by omega), forkD (fun q => (show False by omega).elim) (fun _ => ⟨by omega, l0, forkEq (fun qz => ⟨by omega, lp, fun q => nz (c7 qz) q, fun q => ⟨vI64 (by omega), y + 1, by omega, by omega, rfl, ?_⟩⟩) (fun _ => ⟨vI64 (by omega), y + 1, by omega, by omega, rfl, ?_⟩)⟩)⟩⟩
      all_goals
        rw [hbo]
        repeat' first | exact trivial | exact rfl | exact wk_refl _ | refine wkO_cells ?_ | refine wks_cons ?_ ?_ | exact wks_nil | exact wk_nil _ _ _ (.inl rfl) | (exact wk_Q (by omega)) | refine wk_tupL ?_ | refine wk_aggL ?_ | refine joinMax ?_ ?_ ?_ | refine joinMin ?_ ?_ ?_ | refine toMax ?_ | refine toMin ?_ | refine ⟨rfl, ?_⟩ | refine ⟨trivial, ?_⟩ | (refine forkD (fun h => ?_) (fun h => ?_)) | (refine forkNe (fun h => ?_) (fun h => ?_)) | (refine forkEq (fun h => ?_) (fun h => ?_)) | refine forkNot ?_ | (refine ⟨vI64 (by omega), ?_⟩) | (refine And.intro (by omega) ?_) | apply And.intro | (exact iEq (by omega)) | (exact vI64 (by omega))
  · obtain rfl : y = (kD L).length := by omega
    have e : concTo (kX L) (kX L).length = bothTo (kD L) (kE L) (kD L).length := by
      have h1 := conc_sum o (Nat.le_refl (kX L).length)
      have h2 := both_sum (P := plTo (kW L) (kH L) (kA L) (kX L) (kM L) (kX L).length) (k := (kD L).length) (by rw [plTo_len]; omega)
      have h3 : (plTo (kW L) (kH L) (kA L) (kX L) (kM L) (kX L).length).take (kD L).length = plTo (kW L) (kH L) (kA L) (kX L) (kM L) (kX L).length := List.take_of_length_le (by rw [plTo_len]; omega)
      rw [h3, h1] at h2
      exact h2.symm
    exact forkEq (fun _ => ⟨trivial, fun H' _ _ => kAwake H', rfl⟩) (fun q => absurd e q)
end
end Go.Proofs.Ytkkgnalgmebfjaa
/- How laws' arguments are read. No condition. -/
namespace Go.Proofs.Ytkkgnalgmebfjaa
set_option linter.unusedSimpArgs false
open Go Go.K Go.ChangeShapes Go.WideShapes Go.ChangeAt Go.RowKit
set_option maxRecDepth 100000
set_option linter.unusedVariables false
noncomputable section
theorem own : ownKnob Try.prog.godebug = none := by kernel_rfl
theorem sized : slicesSized Try.prog = true := by kernel_rfl
abbrev known (t : TypeId) : Prop := t < Try.prog.types.size
theorem kids : Kids Try.prog known := kids_rows (by kernel_rfl) (by kernel_rfl)
end
end Go.Proofs.Ytkkgnalgmebfjaa
/- Arguments that are read: lists within lists by their values. No condition. -/
namespace Go.K
set_option linter.unusedSimpArgs false
open Go Go.RowKit Go.ChangeAt Go.WideShapes
set_option linter.unusedVariables false
variable {P : Program} {HH : Type} {enc : TypeId × Value → HH}

/-- Plain cells, whose lists are said by their values. -/
def GoodD (P : Program) : Nat → TypeId → List Value → Prop
  | 0, _, _ => False
  | n + 1, t, cs => match P.underlying t with
    | some .bool => ∃ b, cs = [.bool b]
    | some (.int k) => ∃ x, cs = [.int k x] ∧ k.min ≤ x ∧ x ≤ k.max
    | some .string => ∃ s, cs = [.string s]
    | some (.struct fs) => GoodL (GoodD P n) (fs.toList.map (·.type)) cs
    | some (.slice e) => ∃ len ds, cs = [.iface (len + 1) (.agg ⟨ds⟩)] ∧ ds.length = len * P.cellsOf e ∧ len ≤ maxLen ∧ GoodL (GoodD P n) (List.replicate len e) ds
    | _ => False
/-- Plain cells, whose lists lie in blocks, and the lists within these are said by their values. -/
def Good2 (P : Program) (H : Heap) : Nat → TypeId → List Value → Prop
  | 0, _, _ => False
  | n + 1, t, cs => match P.underlying t with
    | some .bool => ∃ b, cs = [.bool b]
    | some (.int k) => ∃ x, cs = [.int k x] ∧ k.min ≤ x ∧ x ≤ k.max
    | some .string => ∃ s, cs = [.string s]
    | some (.struct fs) => GoodL (Good2 P H n) (fs.toList.map (·.type)) cs
    | some (.slice e) => cs = [.slice none 0 0] ∨ cs = [.slice (some ⟨0, 0, some 0⟩) 0 0] ∨
        ∃ id len ds, cs = [.slice (some ⟨id, 0, none⟩) len len] ∧ H[id]? = some (.cells false 0 ds) ∧ ds.length = len * P.cellsOf e ∧ len ≤ maxLen ∧ GoodL (GoodD P n) (List.replicate len e) ds
    | _ => False
theorem Good2.mono {H K : Heap} : ∀ {n : Nat} {t : TypeId} {cs : List Value}, Good2 P H n t cs → Good2 P (H ++ K) n t cs := by
  intro n
  induction n with
  | zero => intro t cs h; exact h
  | succ n ih =>
    intro t cs h
    unfold Good2 at h ⊢
    split at h
    · exact h
    · exact h
    · exact h
    · exact GoodL.mono (fun _ _ => ih) h
    · rcases h with h | h | ⟨id, len, cs', h1, h2, h3, h4, h5⟩
      · exact .inl h
      · exact .inr (.inl h)
      · exact .inr (.inr ⟨id, len, cs', h1, by rw [List.getElem?_append_left (List.getElem?_eq_some_iff.1 h2).1]; exact h2, h3, h4, h5⟩)
    · exact h
/-- Nobody writes below B: what lies there is known. -/
def Low (B : Nat) (ρ : Ren) (W : World) : Prop := (∀ b m ty fz, b < B → W.heap[b]? = some (.cells m ty fz) → ρ.mem b = some m) ∧ ∀ id r, ρ id = some r → r.b < B

theorem deepenL {B : Nat} {ρ : Ren} {H : Heap} {W : World} {n : Nat} (IH : ∀ (t : TypeId) (cs cs' : List Value), Good P H n t cs → VRl ρ cs cs' → ∃ ds, VRl ρ ds cs' ∧ GoodD P n t ds) :
    ∀ (ts : List TypeId) (cs cs' : List Value), GoodL (Good P H n) ts cs → VRl ρ cs cs' → ∃ ds, VRl ρ ds cs' ∧ GoodL (GoodD P n) ts ds := by
  intro ts
  induction ts with
  | nil => intro cs cs' h hv; rw [show cs = [] from h] at hv; exact ⟨[], hv, rfl⟩
  | cons t ts ih =>
    rintro cs cs' ⟨c, rest, rfl, h1, h2⟩ hv
    have hl : (c ++ rest).length = cs'.length := hv.1
    rw [List.length_append] at hl
    have v1 : VRl ρ c (cs'.take c.length) := ⟨by rw [List.length_take]; omega, fun i v v' a b => by
      have hi := (List.getElem?_eq_some_iff.1 a).1
      rw [List.getElem?_take, if_pos hi] at b
      exact hv.2 i v v' (by rw [List.getElem?_append_left hi]; exact a) b⟩
    have v2 : VRl ρ rest (cs'.drop c.length) := ⟨by rw [List.length_drop]; omega, fun i v v' a b => by
      rw [List.getElem?_drop] at b
      exact hv.2 (c.length + i) v v' (by rw [List.getElem?_append_right (by omega), Nat.add_sub_cancel_left]; exact a) b⟩
    obtain ⟨d1, w1, g1⟩ := IH t c _ h1 v1
    obtain ⟨d2, w2, g2⟩ := ih rest _ h2 v2
    refine ⟨d1 ++ d2, ?_, d1, d2, rfl, g1, g2⟩
    have := VRl.append w1 w2
    rw [List.take_append_drop] at this
    exact this
theorem row_reals {ρ : Ren} {r : RI} {cs : List Value} {W : World} (h : ObjRel ρ r (.cells false 0 cs) W) : ∃ m ty fz, W.heap[r.b]? = some (.cells m ty fz) ∧ (cs.length = 0 ∨ cs.length + r.s ≤ m.size) ∧ VRl ρ cs ((m.toList.drop r.s).take cs.length) ∧ m.size = r.n := by
  obtain ⟨_, _, m, ty, fz, hb, hsz, _, hcs⟩ := h
  have hle : cs.length = 0 ∨ cs.length + r.s ≤ m.size := by
    rcases Nat.eq_zero_or_pos cs.length with h0 | h0
    · exact .inl h0
    · right
      obtain ⟨v', g1, _⟩ := hcs (cs.length - 1) _ (List.getElem?_eq_getElem (by omega))
      have := (Array.getElem?_eq_some_iff.1 g1).1
      omega
  refine ⟨m, ty, fz, hb, hle, ⟨?_, fun i v v' a b => ?_⟩, hsz⟩
  · have e : m.toList.length = m.size := Array.length_toList
    rw [List.length_take, List.length_drop, e]
    rcases hle with h | h <;> omega
  · obtain ⟨v2, g1, g2⟩ := hcs i v a
    have hi := (List.getElem?_eq_some_iff.1 a).1
    rw [List.getElem?_take, if_pos hi, List.getElem?_drop, Array.getElem?_toList, Nat.add_comm, g1] at b
    cases b; exact g2
theorem deepen {B : Nat} {ρ : Ren} {H : Heap} {W : World} (hr : Rel P B ρ H W) (hlow : Low B ρ W) : ∀ (n : Nat) (t : TypeId) (cs cs' : List Value), Good P H n t cs → VRl ρ cs cs' → ∃ ds, VRl ρ ds cs' ∧ GoodD P n t ds := by
  intro n
  induction n with
  | zero => intro t cs cs' h; exact h.elim
  | succ n ih =>
    intro t cs cs' h hv
    have single : ∀ v, cs = [v] → ∃ x, cs' = [x] ∧ VR ρ v x := by
      rintro v rfl
      have hl : cs'.length = 1 := hv.1.symm
      obtain ⟨x, rfl⟩ := List.length_eq_one_iff.1 hl
      exact ⟨x, rfl, hv.2 0 v x rfl rfl⟩
    unfold Good at h
    split at h
    · rename_i hu; exact ⟨cs, hv, by unfold GoodD; rw [hu]; exact h⟩
    · rename_i k hu; exact ⟨cs, hv, by unfold GoodD; rw [hu]; exact h⟩
    · rename_i hu; exact ⟨cs, hv, by unfold GoodD; rw [hu]; exact h⟩
    · rename_i fs hu
      obtain ⟨ds, w, g⟩ := deepenL (B := B) (W := W) ih _ cs cs' h hv
      exact ⟨ds, w, by unfold GoodD; rw [hu]; exact g⟩
    · rename_i e hu
      have nilD : ∀ x, (∃ a c, x = .slice a 0 c) → ∃ ds, VRl ρ ds [x] ∧ GoodD P (n + 1) t ds := by
        rintro x ⟨a, c, rfl⟩
        refine ⟨[.iface 1 (.agg ⟨[]⟩)], .cons .deep0 (.nil ρ), ?_⟩
        unfold GoodD
        rw [hu]
        exact ⟨0, [], rfl, by simp, by simp [maxLen], rfl⟩
      rcases h with h | h | ⟨id, len, csi, h1, h2, h3, h4, h5⟩
      · obtain ⟨x, rfl, hx⟩ := single _ h
        cases hx; exact nilD _ ⟨_, _, rfl⟩
      · obtain ⟨x, rfl, hx⟩ := single _ h
        refine nilD _ ?_
        generalize hz : (Value.slice (some ⟨0, 0, some 0⟩) 0 0) = z at hx
        cases hx <;> cases hz
        exact ⟨_, _, rfl⟩
      · obtain ⟨x, rfl, hx⟩ := single _ h1
        rcases Nat.eq_zero_or_pos len with h0 | h0
        · subst h0
          refine nilD _ ?_
          cases hx with
          | slice h hl hc _ => exact ⟨_, _, rfl⟩
          | slice0 h => exact ⟨_, _, rfl⟩
        · obtain ⟨r, cap', hid, hc, rfl⟩ : ∃ r cap', ρ id = some r ∧ len ≤ cap' ∧ x = .slice (some ⟨r.b, 0 + r.s, none⟩) len cap' := by
            generalize hz : (Value.slice (some ⟨id, 0, none⟩) len len) = z at hx
            cases hx <;> cases hz
            · exact ⟨_, _, ‹_›, by omega, rfl⟩
            · exact absurd h0 (Nat.lt_irrefl 0)
          obtain ⟨m, ty, fz, hb, hle, hvr, _⟩ := row_reals (hr.obj id r _ hid h2)
          have hm := hlow.1 r.b m ty fz (hlow.2 id r hid) hb
          obtain ⟨ds, w, g⟩ := deepenL (B := B) (W := W) ih _ csi _ h5 hvr
          have hdl : ds.length = csi.length := by
            have e1 := w.1
            have e2 := hvr.1
            omega
          refine ⟨[.iface (len + 1) (.agg ⟨ds⟩)], .cons ?_ (.nil ρ), ?_⟩
          · rw [Nat.zero_add]
            refine .deep hm h0 hc (by show ds.length = 0 ∨ ds.length + r.s ≤ m.size; rw [hdl]; exact hle) (fun i v v' a b => ?_)
            have hi : i < ds.length := by have := (Array.getElem?_eq_some_iff.1 a).1; simpa using this
            refine w.2 i v v' (by simpa using a) ?_
            rw [List.getElem?_take, if_pos (by omega), List.getElem?_drop, Array.getElem?_toList, Nat.add_comm]; exact b
          · unfold GoodD
            rw [hu]
            exact ⟨len, ds, rfl, by rw [hdl]; exact h3, h4, g⟩
    · exact h.elim
theorem Low.set {B : Nat} {ρ : Ren} {W : World} (h : Low B ρ W) {id : Nat} {ri : RI} (hb : ri.b < B) : Low B (ρ.set id ri) W := by
  refine ⟨h.1, fun i r hi => ?_⟩
  by_cases e : i = id
  · subst e; rw [Ren.set_same] at hi; cases hi; exact hb
  · rw [Ren.set_other e] at hi; exact h.2 i r hi
def GoodV2 (P : Program) (H : Heap) (n : Nat) (t : TypeId) (v : Value) : Prop :=
  match P.underlying t with
  | some (.struct _) => ∃ cs : List Value, v = .agg ⟨cs⟩ ∧ Good2 P H n t cs
  | _ => Good2 P H n t [v]
theorem GoodV2.mono {H K : Heap} {n : Nat} {t : TypeId} {v : Value} (h : GoodV2 P H n t v) : GoodV2 P (H ++ K) n t v := by
  unfold GoodV2 at h ⊢
  split at h
  · obtain ⟨cs, h1, h2⟩ := h; exact ⟨cs, h1, h2.mono⟩
  · exact h.mono
end Go.K
/- Laws whose arguments are said by their values. No condition. -/
namespace Go.K
set_option linter.unusedSimpArgs false
open Go Go.ChangeShapes Go.WideShapes Go.ChangeAt Go.RowKit
set_option linter.unusedVariables false
variable {P : Program} {HH : Type} {enc : TypeId × Value → HH}

def GoodVD (P : Program) (n : Nat) (t : TypeId) (v : Value) : Prop :=
  match P.underlying t with
  | some (.struct _) => ∃ cs : List Value, v = .agg ⟨cs⟩ ∧ GoodD P n t cs
  | _ => GoodD P n t [v]
def GoodAD (P : Program) (n : Nat) : List TypeId → List Value → Prop
  | [], [] => True
  | t :: ts, v :: vs => GoodVD P n t v ∧ GoodAD P n ts vs
  | _, _ => False
theorem bringVD {B : Nat} {W : World} {n : Nat} {t : TypeId} {v v' : Value} {ρ : Ren} {H : Heap} (h : GoodV P H n t v) (hv : VR ρ v v') (hr : Rel P B ρ H W) (hlow : Low B ρ W) : ∃ v2, VR ρ v2 v' ∧ GoodVD P n t v2 := by
  unfold GoodV at h
  split at h
  · rename_i fs hu
    obtain ⟨cs, rfl, h⟩ := h
    cases hv with
    | @agg _ cs' h1 h2 =>
      obtain ⟨ds, w, g⟩ := deepen hr hlow n t cs cs'.toList h ⟨by simpa using h1, fun i a b c d => h2 i a b (by simpa using c) (by simpa using d)⟩
      refine ⟨.agg ⟨ds⟩, .agg (by have := w.1; simpa using this) (fun i a b c d => w.2 i a b (by simpa using c) (by simpa using d)), ?_⟩
      unfold GoodVD; rw [hu]; exact ⟨ds, rfl, g⟩
  · rename_i hns
    obtain ⟨ds, w, g⟩ := deepen hr hlow n t [v] [v'] h (.cons hv (.nil ρ))
    have hl : ds.length = 1 := w.1
    obtain ⟨v2, rfl⟩ := List.length_eq_one_iff.1 hl
    refine ⟨v2, w.2 0 v2 v' rfl rfl, ?_⟩
    unfold GoodVD
    split
    · rename_i fs hu; exact absurd hu (hns fs)
    · exact g
theorem bringAD {B : Nat} {W : World} {n : Nat} {ρ : Ren} {H : Heap} (hr : Rel P B ρ H W) (hlow : Low B ρ W) : ∀ (ts : List TypeId) (vs vs' : List Value), GoodA P H n ts vs → VRl ρ vs vs' → ∃ ws, VRl ρ ws vs' ∧ GoodAD P n ts ws := by
  intro ts
  induction ts with
  | nil =>
    intro vs vs' h hv
    match vs, h with
    | [], _ => exact ⟨[], hv, trivial⟩
  | cons t ts ih =>
    intro vs vs' h hv
    match vs, h with
    | v :: vs, ⟨h1, h2⟩ =>
      match vs', hv with
      | [], hv => exact absurd hv.1 (by simp)
      | v' :: vs', hv =>
        obtain ⟨w1, r1, g1⟩ := bringVD h1 (hv.2 0 v v' rfl rfl) hr hlow
        obtain ⟨ws, r2, g2⟩ := ih vs vs' h2 (show VRl ρ vs vs' from ⟨by have := hv.1; simpa using this, fun i a b c d => hv.2 (i + 1) a b (by simpa using c) (by simpa using d)⟩)
        exact ⟨w1 :: ws, .cons r1 r2, g1, g2⟩
/-- A law's contract in the canonical heap is its contract in every world; arguments are said by their values. -/
theorem law_calls3 {N n b0 : Nat} {ts : List TypeId} {args : Array Value} {W : World} {ds : List (DataW HH)} {ps : List MemPlace} {held : Bool} (hG : P.globals.size ≤ W.heap.size) (hplain : ts.all (plainT P n) = true)
    (hok : ∀ (j : Nat) (t : TypeId) (v : Value), ts[j]? = some t → args.toList[j]? = some v → Value.okWide P W .any b0 t v) (h : DataW.TrodAll enc P W 0 (fun _ => true) held ts args.toList ds ps)
    (hlaw : ∀ (H : Heap) (vs : List Value), GoodAD P n ts vs → KCall P N vs H [] (fun v _ => v = .bool true)) :
    Calls P N args W fun e W' => e = .returned (.bool true) ∧ RowKit.Below W.heap.size W W' := by
  have hr : Rel P W.heap.size ⟨fun g => if g < P.globals.size then some ⟨g, 0, 0, 0, false⟩ else none, fun b => match W.heap[b]? with | some (.cells m _ _) => some m | _ => none, fun _ _ => none⟩ (List.replicate P.globals.size .dead) W := by
    have hdead : ∀ (id : Nat) (o : KObj), (List.replicate P.globals.size KObj.dead)[id]? = some o → o = .dead := fun id o ho => by
      rw [List.getElem?_replicate] at ho
      split at ho
      · cases ho; rfl
      · cases ho
    refine ⟨Nat.le_refl _, fun g hg => ⟨_, if_pos hg, rfl, rfl⟩, fun id r h1 => ?_, fun id r h1 => ?_, fun id r o h1 h2 => ?_, fun id r o h1 h2 h3 => ?_, fun id id' r r' o o' h1 h1' h2 h2' h3 _ _ => ?_, fun b m hm => ⟨?_, fun id r o h1 h2 h3 => ?_⟩, FRel.nofam (fun _ _ _ h => by cases h) (fun _ _ _ h => by cases h) (fun F z cs h => by have := hdead F _ h; cases this)⟩
    · dsimp only at h1
      split at h1
      · simpa using ‹id < _›
      · cases h1
    · dsimp only at h1
      split at h1
      · cases h1; exact Nat.lt_of_lt_of_le ‹id < _› hG
      · cases h1
    · rw [hdead id o h2]; trivial
    · rw [hdead id o h2] at h3; cases h3
    · rw [hdead id o h2] at h3; cases h3
    · dsimp only at hm
      split at hm
      · rename_i m' ty fz e; cases hm; exact ⟨ty, fz, e⟩
      · cases hm
    · rw [hdead id o h2] at h3; cases h3
  have hlow0 : Low W.heap.size ⟨fun g => if g < P.globals.size then some ⟨g, 0, 0, 0, false⟩ else none, fun b => match W.heap[b]? with | some (.cells m _ _) => some m | _ => none, fun _ _ => none⟩ W := by
    refine ⟨fun b m ty fz _ hb => by show (match W.heap[b]? with | some (.cells m _ _) => some m | _ => none) = _; rw [hb], fun id r h1 => ?_⟩
    dsimp only at h1
    split at h1
    · cases h1; exact Nat.lt_of_lt_of_le ‹id < _› hG
    · cases h1
  obtain ⟨ρ', H', vs', e, hv, g⟩ := bring_args rfl ts args.toList ds ps _ _ hplain hok h hr
  have hlow1 : Low W.heap.size ρ' W := ⟨fun b m ty fz h1 h2 => e.le.mem b m (hlow0.1 b m ty fz h1 h2), fun id r h1 => e.rel.lt id r h1⟩
  obtain ⟨ws, hv2, g2⟩ := bringAD e.rel hlow1 ts vs' args.toList g hv
  refine callsIn_wide.1 (((hlaw H' ws g2).2 _ ρ' W args e.rel hv2).mono ?_)
  rintro en w' ⟨v, v', ρ3, H3, rfl, h1, h2, rfl⟩
  cases h1
  exact ⟨rfl, h2.below e.rel⟩
end Go.K
/- How laws' numbers are read. No condition. -/
namespace Go.Proofs.Ytkkgnalgmebfjaa
set_option linter.unusedSimpArgs false
open Go Go.K Go.ChangeShapes Go.WideShapes Go.ChangeAt Go.RowKit
set_option maxRecDepth 100000
set_option linter.unusedVariables false
noncomputable section
theorem goodAD_cons {n : Nat} {t : TypeId} {ts : List TypeId} {vs : List Value} (h : GoodAD Try.prog n (t :: ts) vs) : ∃ v vs', vs = v :: vs' ∧ GoodVD Try.prog n t v ∧ GoodAD Try.prog n ts vs' := by
  cases vs with
  | nil => exact h.elim
  | cons v vs => exact ⟨v, vs, rfl, h.1, h.2⟩
theorem goodAD_nil {n : Nat} {vs : List Value} (h : GoodAD Try.prog n [] vs) : vs = [] := by
  cases vs with
  | nil => rfl
  | cons v vs => exact h.elim
theorem goodD_i64 {n : Nat} {c : List Value} (h : GoodD Try.prog (n + 1) 3 c) : ∃ x : Int, c = [.int .i64 x] ∧ inI x := by
  unfold GoodD at h
  rw [show Try.prog.underlying 3 = some (.int .i64) by kernel_rfl] at h
  obtain ⟨x, rfl, h1, h2⟩ := h
  refine ⟨x, rfl, ?_⟩
  simp only [IntKind.min, IntKind.max, IntKind.signed, IntKind.bits] at h1 h2
  unfold inI
  simp at h1 h2
  omega
/-- A list of numbers. -/
theorem goodD_ints {v : Value} (h : GoodVD Try.prog 6 22 v) : ∃ L : List Int, v = .iface (L.length + 1) (.agg ⟨L.flatMap intC⟩) ∧ L.length ≤ maxLen ∧ ∀ x ∈ L, inI x := by
  unfold GoodVD at h
  rw [show Try.prog.underlying 22 = some (.slice 3) by kernel_rfl] at h
  unfold GoodD at h
  rw [show Try.prog.underlying 22 = some (.slice 3) by kernel_rfl] at h
  obtain ⟨len, ds, h1, h2, h3, h4⟩ := h
  obtain ⟨xs, e1, e2, e3⟩ := goodL_list (f := intC) (q := inI) (fun c hc => goodD_i64 (n := 4) hc) len ds h4
  subst e1 e2
  exact ⟨xs, by simpa using h1, h3, e3⟩
end
end Go.Proofs.Ytkkgnalgmebfjaa
