/- Drift: charts that fit a basin; a cell's ends. No condition. -/
import Derived.Test.YtkkgnalgmebfjaaGE3gxE2g
import Derived.Test.YtkkgnalgmebfjaaGK27xK40
namespace Go.Proofs.Ytkkgnalgmebfjaa
open Go Go.K
set_option maxRecDepth 100000
set_option linter.unusedVariables false
set_option linter.unusedSimpArgs false
noncomputable section
attribute [local irreducible] vF
theorem kleast (c : Cell) (H : Heap) : KCall prog F.drift_least [cellV c] H [] (Is (iceV (loI c)) H) := by
  refine valK 40 (fun _ => rfl) rfl (Eq.mpr (Eleast _ c) ?_) H
  unfold Rleast
  rfl
theorem kgreatest (c : Cell) (H : Heap) : KCall prog F.drift_greatest [cellV c] H [] (Is (iceV (hiI c)) H) := by
  refine valK 40 (fun _ => rfl) rfl (Eq.mpr (Egreatest _ c) ?_) H
  unfold Rgreatest
  rfl
theorem ksides (w h : Int) (a : List Bool) (w' h' t : Int) (cs : List Cell) {H : Heap} {i0 i1 : Nat} {o0 o1 : Bool} {z0 z1 : Nat} (e0 : H[i0]? = some (.cells o0 z0 (a.flatMap boolC))) (e1 : H[i1]? = some (.cells o1 z1 (cs.flatMap cellC))) :
    KCall prog F.drift_sides [basV w h i0 a.length, .agg #[.int .i64 w', .int .i64 h', .int .i64 t, .slice (some ⟨i1, 0, some 2⟩) cs.length cs.length]] H [] (Is (.int .i64 (errSides w h w' h' t cs)) H) := by
  refine valR (Eq.mpr (Esides _ w h a w' h' t cs) ?_) (twoCs (plainBL 0 a) (plainC 0 cs)) rfl [i0, i1] rfl (twoId e0 e1)
  unfold Rsides
  refine ⟨⟨rfl, trivial⟩, fun H' _ hd => kCheckChart w' h' t cs hd.1, forkNe (fun h0 => ?_) (fun h0 => ?_)⟩
  · exact iEq (first2_1 h0).symm
  have e : errSides w h w' h' t cs = if w' = w ∧ h' = h then 0 else 1 := first2_2 h0
  rw [e]
  refine forkNe (fun h1 => ?_) (fun h1 => forkNe (fun h2 => ?_) (fun h2 => ?_))
  · rw [if_neg (fun q => h1 q.1)]
  · rw [if_neg (fun q => h2 q.2)]
  · rw [if_pos ⟨h1, h2⟩]
theorem errChart_len {w h t : Int} {cs : List Cell} (e : errChart w h t cs = 0) : (cs.length : Int) = w * h ∧ errs errCell cs = 0 := by
  unfold errChart first2 at e
  split at e
  · split at e
    · rename_i h1; exact ⟨h1, e⟩
    · omega
  · rename_i h0; exact absurd e h0
theorem dry_1 {a : List Bool} {cs : List Cell} {k : Nat} (h : a.getD k false = true) (h2 : isZC (cs.getD k zeroC) = false) : dryErr a cs k = 30 := by
  unfold dryErr
  rw [if_pos h, if_neg (by rw [h2]; exact Bool.false_ne_true)]
theorem dry_2 {a : List Bool} {cs : List Cell} {k : Nat} (h : a.getD k false = true → isZC (cs.getD k zeroC) = true) : dryErr a cs k = 0 := by
  unfold dryErr
  by_cases q : a.getD k false = true
  · rw [if_pos q, if_pos (h q)]
  · rw [if_neg q]
theorem sides_0 {w h w' h' t : Int} {cs : List Cell} (e : errSides w h w' h' t cs = 0) : errChart w' h' t cs = 0 ∧ w' = w ∧ h' = h := by
  unfold errSides first2 at e
  split at e
  · rename_i h0
    split at e
    · rename_i h1; exact ⟨h0, h1⟩
    · omega
  · rename_i h0; exact absurd e h0
theorem kfits {w h : Int} {a : List Bool} (b : BasOk w h a.length) (w' h' t : Int) (cs : List Cell) {H : Heap} {i0 i1 : Nat} {o0 o1 : Bool} {z0 z1 : Nat} (e0 : H[i0]? = some (.cells o0 z0 (a.flatMap boolC))) (e1 : H[i1]? = some (.cells o1 z1 (cs.flatMap cellC))) :
    KCall prog F.drift_fits [basV w h i0 a.length, .agg #[.int .i64 w', .int .i64 h', .int .i64 t, .slice (some ⟨i1, 0, some 2⟩) cs.length cs.length]] H [] (Is (.int .i64 (errFits w h a w' h' t cs)) H) := by
  refine valR (Eq.mpr (Efits _ w h a w' h' t cs) ?_) (twoCs (plainBL 0 a) (plainC 0 cs)) rfl [i0, i1] rfl (twoId e0 e1)
  unfold Rfits
  refine ⟨⟨rfl, rfl, trivial⟩, fun H' _ hd => ksides w h a w' h' t cs hd.1 hd.2.1, forkNe (fun h0 => ?_) (fun h0 => ?_)⟩
  · exact iEq (first2_1 h0).symm
  have e : errFits w h a w' h' t cs = errDry a cs := first2_2 h0
  obtain ⟨s1, s2, s3⟩ := sides_0 h0
  obtain ⟨s4, _⟩ := errChart_len s1
  subst s2 s3
  have hn := b.n1
  have hp := b.p1
  rw [e]
  refine ⟨rfl, ⟨Nat.zero_le _, rfl⟩, ?_, fun _ => rfl, ?_⟩
  · repeat' first | exact trivial | exact rfl | exact wk_refl _ | refine wkO_cells ?_ | refine wks_cons ?_ ?_ | exact wks_nil | exact wk_nil _ _ _ (.inl rfl) | (exact wk_Q (by omega)) | refine wk_tupL ?_ | refine wk_aggL ?_ | refine joinMax ?_ ?_ ?_ | refine joinMin ?_ ?_ ?_ | refine toMax ?_ | refine toMin ?_ | refine ⟨rfl, ?_⟩ | refine ⟨trivial, ?_⟩ | (refine forkD (fun h => ?_) (fun h => ?_)) | (refine forkNe (fun h => ?_) (fun h => ?_)) | (refine forkEq (fun h => ?_) (fun h => ?_)) | refine forkNot ?_ | (refine ⟨vI64 (by omega), ?_⟩) | (refine And.intro (by omega) ?_) | apply And.intro | (exact iEq (by omega)) | (exact vI64 (by omega))
  rintro x ⟨j1, j2⟩
  refine forkD (fun k1 => ?_) (fun k1 => ?_)
  · have hx : x < cs.length := by omega
    refine ⟨by omega, partCell hx, by omega, boolAt (by omega) (by omega), fun ha => ⟨fun q => ?_, fun q => ?_⟩, fun ha => ?_⟩
    · exact iEq (by unfold errDry; rw [errUp_at j2 (by rw [dry_1 ha (notB q)]; decide) hx, dry_1 ha (notB q)])
    · refine ⟨vI64 (by omega), x + 1, ⟨by omega, errUp_succ j2 (dry_2 fun _ => notB2 q)⟩, by omega, rfl, ?_⟩
      repeat' first | exact trivial | exact rfl | exact wk_refl _ | refine wkO_cells ?_ | refine wks_cons ?_ ?_ | exact wks_nil | exact wk_nil _ _ _ (.inl rfl) | (exact wk_Q (by omega)) | refine wk_tupL ?_ | refine wk_aggL ?_ | refine joinMax ?_ ?_ ?_ | refine joinMin ?_ ?_ ?_ | refine toMax ?_ | refine toMin ?_ | refine ⟨rfl, ?_⟩ | refine ⟨trivial, ?_⟩ | (refine forkD (fun h => ?_) (fun h => ?_)) | (refine forkNe (fun h => ?_) (fun h => ?_)) | (refine forkEq (fun h => ?_) (fun h => ?_)) | refine forkNot ?_ | (refine ⟨vI64 (by omega), ?_⟩) | (refine And.intro (by omega) ?_) | apply And.intro | (exact iEq (by omega)) | (exact vI64 (by omega))
    · refine ⟨vI64 (by omega), x + 1, ⟨by omega, errUp_succ j2 (dry_2 fun q => by rw [ha] at q; cases q)⟩, by omega, rfl, ?_⟩
      repeat' first | exact trivial | exact rfl | exact wk_refl _ | refine wkO_cells ?_ | refine wks_cons ?_ ?_ | exact wks_nil | exact wk_nil _ _ _ (.inl rfl) | (exact wk_Q (by omega)) | refine wk_tupL ?_ | refine wk_aggL ?_ | refine joinMax ?_ ?_ ?_ | refine joinMin ?_ ?_ ?_ | refine toMax ?_ | refine toMin ?_ | refine ⟨rfl, ?_⟩ | refine ⟨trivial, ?_⟩ | (refine forkD (fun h => ?_) (fun h => ?_)) | (refine forkNe (fun h => ?_) (fun h => ?_)) | (refine forkEq (fun h => ?_) (fun h => ?_)) | refine forkNot ?_ | (refine ⟨vI64 (by omega), ?_⟩) | (refine And.intro (by omega) ?_) | apply And.intro | (exact iEq (by omega)) | (exact vI64 (by omega))
  · obtain rfl : x = cs.length := by omega
    exact iEq j2.symm
end
end Go.Proofs.Ytkkgnalgmebfjaa
/- Drift: a chart after a step. No condition. -/
namespace Go.Proofs.Ytkkgnalgmebfjaa
open Go Go.K
set_option maxRecDepth 100000
set_option linter.unusedVariables false
set_option linter.unusedSimpArgs false
noncomputable section
attribute [local irreducible] vF
theorem addAt_len (ps : List Pl) (t : Int) (x : Ice) : (addAt ps t x).length = ps.length := List.length_set
theorem addTo_len : ∀ (ts : List Int) (ps : List Pl) (x : Ice), (addTo ps ts x).length = ps.length
  | [], ps, x => rfl
  | t :: ts, ps, x => (addTo_len ts (addAt ps t x) x).trans (addAt_len ps t x)
theorem addTo_snoc (ts : List Int) (t : Int) (ps : List Pl) (x : Ice) : addTo ps (ts ++ [t]) x = addAt (addTo ps ts x) t x := by
  unfold addTo
  rw [List.foldl_append]; rfl
theorem mayTo_len (w h : Int) (a : List Bool) (l : List Flow) (cs : List Cell) : ∀ k, (mayTo w h a l cs k).length = a.length
  | 0 => by simp [mayTo]
  | k + 1 => by
    unfold mayTo
    split
    · exact mayTo_len w h a l cs k
    · rw [addTo_len]; exact mayTo_len w h a l cs k
theorem mustTo_len (w h : Int) (a : List Bool) (l : List Flow) (cs : List Cell) : ∀ k, (mustTo w h a l cs k).length = a.length
  | 0 => by simp [mustTo]
  | k + 1 => by
    unfold mustTo
    split
    · exact mustTo_len w h a l cs k
    · split
      · rw [addAt_len]; exact mustTo_len w h a l cs k
      · exact mustTo_len w h a l cs k
theorem plOk_at {m : Nat} {ps : List Pl} {t : Int} {x : Ice} (h : ∀ j, plOk m (ps.getD j zeroP)) (hx : rightI x) (j : Nat) : plOk (m + 1) ((addAt ps t x).getD j zeroP) := by
  unfold addAt
  by_cases hd : Int.toNat t < ps.length
  · rw [getD_set hd]
    split
    · exact plOk_add (h _) hx
    · exact plOk_mono (by omega) (h j)
  · rw [List.set_eq_of_length_le (by omega)]
    exact plOk_mono (by omega) (h j)
theorem plOk_to {x : Ice} (hx : rightI x) : ∀ (ts : List Int) {m : Nat} {ps : List Pl}, (∀ j, plOk m (ps.getD j zeroP)) → ∀ j, plOk (m + ts.length) ((addTo ps ts x).getD j zeroP)
  | [], m, ps, h, j => h j
  | t :: ts, m, ps, h, j => by
    have := plOk_to hx ts (m := m + 1) (ps := addAt ps t x) (plOk_at h hx) j
    rw [List.length_cons, show m + (ts.length + 1) = m + 1 + ts.length by omega]; exact this
theorem plOk_rep (n j : Nat) : plOk 0 ((List.replicate n zeroP).getD j zeroP) := by
  rw [List.getD_eq_getElem?_getD, List.getElem?_replicate]
  split <;> exact ⟨⟨by decide, by decide⟩, ⟨by decide, by decide⟩, by decide, by decide⟩
theorem TG_len {w h : Int} {a : List Bool} {l : List Flow} {k : Nat} (b : BasOk w h a.length) (hc : 0 ≤ (k : Int) ∧ (k : Int) < w * h) (hf : rightF (l.getD k zeroF)) : (TG w h a l k).length ≤ 25 := by
  unfold TG
  rw [← tgts_comp b hc]
  have h1 := comp_len (srtI (tgL w h a (k : Int) (l.getD k zeroF)))
  have h2 := srt_len (tgL w h a (k : Int) (l.getD k zeroF))
  have h3 := tgL_len w h a (k : Int) (l.getD k zeroF)
  have h4 := (movesF_bd hf).2
  omega
theorem TG_bd {w h : Int} {a : List Bool} {l : List Flow} {k : Nat} (b : BasOk w h a.length) {t : Int} (ht : t ∈ TG w h a l k) : 0 ≤ t ∧ t < (a.length : Int) := by
  unfold TG tgts truesL at ht
  obtain ⟨i, h1, _, rfl⟩ := truesTo_mem.1 ht
  have hn := b.n1
  unfold goesL at h1
  rw [tabP_len] at h1
  omega
theorem rightC_lo {c : Cell} (h : rightC c) : rightI (loI c) := by
  obtain ⟨⟨a1, a2, a3, a4⟩, ⟨b1, b2, b3, b4⟩, ⟨c1, c2, c3, c4⟩, ⟨d1, d2, d3, d4⟩⟩ := h
  exact ⟨⟨a1, a2⟩, ⟨b1, b2⟩, ⟨c1, c2⟩, d1, d2⟩
theorem rightC_hi {c : Cell} (h : rightC c) : rightI (hiI c) := by
  obtain ⟨⟨a1, a2, a3, a4⟩, ⟨b1, b2, b3, b4⟩, ⟨c1, c2, c3, c4⟩, ⟨d1, d2, d3, d4⟩⟩ := h
  refine ⟨⟨?_, a4⟩, ⟨?_, b4⟩, ⟨?_, c4⟩, ?_, d4⟩ <;> (unfold hiI; dsimp only; omega)
/-- What a step needs. -/
structure StepOk (w h : Int) (a : List Bool) (l : List Flow) (cs : List Cell) : Prop where
  b : BasOk w h a.length
  l1 : l.length = a.length
  f : ∀ f ∈ l, rightF f
  n : cs.length = a.length
  c : ∀ c ∈ cs, rightC c
theorem StepOk.fl {w h : Int} {a : List Bool} {l : List Flow} {cs : List Cell} (o : StepOk w h a l cs) {k : Nat} (hk : k < cs.length) : rightF (l.getD k zeroF) := o.f _ (getD_mem (by have := o.l1; have := o.n; omega))
theorem StepOk.ce {w h : Int} {a : List Bool} {l : List Flow} {cs : List Cell} (o : StepOk w h a l cs) {k : Nat} (hk : k < cs.length) : rightC (cs.getD k zeroC) := o.c _ (getD_mem hk)
theorem mayTo_ok {w h : Int} {a : List Bool} {l : List Flow} {cs : List Cell} (o : StepOk w h a l cs) : ∀ {k : Nat}, k ≤ cs.length → ∀ j, plOk (25 * k) ((mayTo w h a l cs k).getD j zeroP)
  | 0, _, j => plOk_rep _ _
  | k + 1, hk, j => by
    have ih := mayTo_ok o (k := k) (by omega)
    unfold mayTo
    split
    · exact plOk_mono (by omega) (ih j)
    · have hb := o.b.n1
      have := o.n
      have hl := TG_len (a := a) (l := l) (k := k) o.b ⟨by omega, by omega⟩ (o.fl (by omega))
      exact plOk_mono (by omega) (plOk_to (rightC_hi (o.ce (by omega))) (TG w h a l k) ih j)
theorem mustTo_ok {w h : Int} {a : List Bool} {l : List Flow} {cs : List Cell} (o : StepOk w h a l cs) : ∀ {k : Nat}, k ≤ cs.length → ∀ j, plOk (25 * k) ((mustTo w h a l cs k).getD j zeroP)
  | 0, _, j => plOk_rep _ _
  | k + 1, hk, j => by
    have ih := mustTo_ok o (k := k) (by omega)
    unfold mustTo
    split
    · exact plOk_mono (by omega) (ih j)
    · split
      · exact plOk_mono (by omega) (plOk_at ih (rightC_lo (o.ce (by omega))) j)
      · exact plOk_mono (by omega) (ih j)
theorem kTGs {w h : Int} {a : List Bool} {c : Int} {f : Flow} (b : BasOk w h a.length) (hc : 0 ≤ c ∧ c < w * h) (hf : rightF f) {H : Heap} {L : Nat} (hL : H.length = L) {id : Nat} {own : Bool} {z : Nat} (hid : H[id]? = some (.cells own z (a.flatMap boolC))) :
    KCall prog F.drift_sea_targets [basV w h id a.length, flowV f, .int .i64 c] H [] (Is (.slice (some ⟨L, 0, some 2⟩) (tgts w h a c f).length (tgts w h a c f).length) (H ++ [.cells true 1 ((tgts w h a c f ++ padT (tgL w h a c f)).flatMap intC)])) := by
  have := ktargets b hc hf hL hid
  rw [tgts_comp b hc] at this; exact this
theorem intAtL {a p : List Int} {k : Nat} (h : k < a.length) {off : Nat} (ho : off = k) : ((a ++ p).flatMap intC)[off]? = some (.int .i64 (a.getD k 0)) := by
  have := intAt (a := a ++ p) (k := k) (by rw [List.length_append]; omega) ho
  rw [this, List.getD_eq_getElem?_getD, List.getElem?_append_left h, ← List.getD_eq_getElem?_getD]
theorem take_snoc {α : Type} {l : List α} {d : α} {k : Nat} (h : k < l.length) : l.take (k + 1) = l.take k ++ [l.getD k d] := by
  rw [List.take_add_one, List.getElem?_eq_getElem h, List.getD_eq_getElem?_getD, List.getElem?_eq_getElem h]; rfl
theorem addAt_0 {ps : List Pl} {t : Int} {x : Ice} (h : x.conc = 0) : addAt ps t x = ps := by
  unfold addAt
  rw [show addP (ps.getD (Int.toNat t) zeroP) x = ps.getD (Int.toNat t) zeroP from if_pos h]
  exact set_same
theorem tell_ok {m : Nat} {p : Pl} (h : plOk m p) : 0 ≤ overP p ∧ overP p ≤ p.s := by
  obtain ⟨⟨h1, h2⟩, _⟩ := h
  unfold overP; omega
set_option maxHeartbeats 2000000 in
theorem kstep {w h : Int} {a : List Bool} {l : List Flow} {cs : List Cell} (o : StepOk w h a l cs) (w' h' t : Int) (ht : 0 ≤ t ∧ t ≤ 10000) {H : Heap} {L : Nat} (hL : H.length = L) {i0 i1 i2 : Nat} {o0 o1 o2 : Bool} {z0 z1 z2 : Nat} (e0 : H[i0]? = some (.cells o0 z0 (a.flatMap boolC)))
    (e1 : H[i1]? = some (.cells o1 z1 (l.flatMap flowC))) (e2 : H[i2]? = some (.cells o2 z2 (cs.flatMap cellC))) :
    KCall prog F.drift_sea_step [basV w h i0 a.length, .slice (some ⟨i1, 0, some 2⟩) l.length l.length, .agg #[.int .i64 w', .int .i64 h', .int .i64 t, .slice (some ⟨i2, 0, some 2⟩) cs.length cs.length]] H []
      (Is (.agg #[.int .i64 w', .int .i64 h', .int .i64 (t + 1), .slice (some ⟨L, 0, some 1⟩) (stepL w h a l cs).length (stepL w h a l cs).length]) (H ++ [.cells true 8 ((stepL w h a l cs).flatMap cellC)])) := by
  subst hL
  refine valNs (fun i => .agg #[.int .i64 w', .int .i64 h', .int .i64 (t + 1), .slice (some ⟨i, 0, some 1⟩) (stepL w h a l cs).length (stepL w h a l cs).length]) (css := [a.flatMap boolC, l.flatMap flowC, cs.flatMap cellC]) (new := [.cells true 8 ((stepL w h a l cs).flatMap cellC)]) (Eq.mpr (Estep w h a l w' h' t cs) ?_) ⟨plainBL 0 a, plainFL 0 l, plainC 0 cs, trivial⟩
    ⟨⟨_, _, rfl, plainC 0 _⟩, trivial⟩ rfl rfl (fun _ => rfl) (ids := [i0, i1, i2]) ⟨⟨_, _, e0⟩, ⟨_, _, e1⟩, ⟨_, _, e2⟩, trivial⟩ rfl
  unfold Rstep
  have hb := o.b
  have hn := o.b.n1
  have hp := o.b.p1
  have hla := o.l1
  have hca := o.n
  refine ⟨by omega, by omega, by omega, by omega, rfl, Nat.zero_le _, ?_, fun _ => rfl, ?_⟩
  · repeat' first | exact closO rfl rfl (closL_0 _ _ _ _).symm | exact trivial | exact rfl | exact wk_refl _ | refine wkO_cells ?_ | refine wks_cons ?_ ?_ | exact wks_nil | exact wk_nil _ _ _ (.inl rfl) | (exact wk_Q (by omega)) | refine wk_tupL ?_ | refine wk_aggL ?_ | refine joinMax ?_ ?_ ?_ | refine joinMin ?_ ?_ ?_ | refine toMax ?_ | refine toMin ?_ | refine ⟨rfl, ?_⟩ | refine ⟨trivial, ?_⟩ | (refine forkD (fun h => ?_) (fun h => ?_)) | (refine forkNe (fun h => ?_) (fun h => ?_)) | (refine forkEq (fun h => ?_) (fun h => ?_)) | refine forkNot ?_ | (refine ⟨vI64 (by omega), ?_⟩) | (refine And.intro (by omega) ?_) | apply And.intro | (exact iEq (by omega)) | (exact vI64 (by omega))
  intro x0 hx0
  refine forkD (fun k0 => ?_) (fun k0 => ?_)
  · refine ⟨⟨rfl, by omega, by rw [flat_len plC1_len, List.length_replicate]⟩, ⟨rfl, by omega, by rw [flat_len plC2_len, List.length_replicate]⟩, by omega, by rw [closL_len]; omega, rfl, by omega, by rw [closL_len]; omega, rfl,
      ⟨rfl, by omega, by rw [flat_len plC1_len, List.length_replicate]⟩, ⟨rfl, by omega, by rw [flat_len plC2_len, List.length_replicate]⟩, by omega, by rw [closL_len]; omega, rfl, by omega, by rw [closL_len]; omega, rfl, vI64 (by omega), x0 + 1, by omega, by omega, rfl, ?_⟩
    repeat' first | (exact closO rfl rfl (closL_set (by omega) (by omega))) | exact plainP1 _ _ | exact plainP2 _ _ | ((rw [rep_snoc, List.flatMap_append]; rfl)) | exact trivial | exact rfl | exact wk_refl _ | refine wkO_cells ?_ | refine wks_cons ?_ ?_ | exact wks_nil | exact wk_nil _ _ _ (.inl rfl) | (exact wk_Q (by omega)) | refine wk_tupL ?_ | refine wk_aggL ?_ | refine joinMax ?_ ?_ ?_ | refine joinMin ?_ ?_ ?_ | refine toMax ?_ | refine toMin ?_ | refine ⟨rfl, ?_⟩ | refine ⟨trivial, ?_⟩ | (refine forkD (fun h => ?_) (fun h => ?_)) | (refine forkNe (fun h => ?_) (fun h => ?_)) | (refine forkEq (fun h => ?_) (fun h => ?_)) | refine forkNot ?_ | (refine ⟨vI64 (by omega), ?_⟩) | (refine And.intro (by omega) ?_) | apply And.intro | (exact iEq (by omega)) | (exact vI64 (by omega))
  obtain rfl : x0 = a.length := by omega
  refine ⟨rfl, Nat.zero_le _, ?_, fun _ => rfl, ?_⟩
  · repeat' first | exact plainP1 _ _ | exact plainP2 _ _ | exact trivial | exact rfl | exact wk_refl _ | refine wkO_cells ?_ | refine wks_cons ?_ ?_ | exact wks_nil | exact wk_nil _ _ _ (.inl rfl) | (exact wk_Q (by omega)) | refine wk_tupL ?_ | refine wk_aggL ?_ | refine joinMax ?_ ?_ ?_ | refine joinMin ?_ ?_ ?_ | refine toMax ?_ | refine toMin ?_ | refine ⟨rfl, ?_⟩ | refine ⟨trivial, ?_⟩ | (refine forkD (fun h => ?_) (fun h => ?_)) | (refine forkNe (fun h => ?_) (fun h => ?_)) | (refine forkEq (fun h => ?_) (fun h => ?_)) | refine forkNot ?_ | (refine ⟨vI64 (by omega), ?_⟩) | (refine And.intro (by omega) ?_) | apply And.intro | (exact iEq (by omega)) | (exact vI64 (by omega))
  intro x1 hx1
  have hMl := mustTo_len w h a l cs x1
  have hAl := mayTo_len w h a l cs x1
  have hMo := mustTo_ok o hx1
  have hAo := mayTo_ok o hx1
  refine forkD (fun k1 => ?_) (fun k1 => ?_)
  · have hx : x1 < cs.length := by omega
    refine ⟨by omega, partCell hx, by omega, boolAt (by omega) (by omega), fun ha => ?_, fun ha => ?_⟩
    · have s1 : mustTo w h a l cs (x1 + 1) = mustTo w h a l cs x1 := if_pos ha
      have s2 : mayTo w h a l cs (x1 + 1) = mayTo w h a l cs x1 := if_pos ha
      refine ⟨vI64 (by omega), x1 + 1, by omega, by omega, rfl, ?_⟩
      rw [s1, s2]
      repeat' first | exact plainP1 _ _ | exact plainP2 _ _ | exact trivial | exact rfl | exact wk_refl _ | refine wkO_cells ?_ | refine wks_cons ?_ ?_ | exact wks_nil | exact wk_nil _ _ _ (.inl rfl) | (exact wk_Q (by omega)) | refine wk_tupL ?_ | refine wk_aggL ?_ | refine joinMax ?_ ?_ ?_ | refine joinMin ?_ ?_ ?_ | refine toMax ?_ | refine toMin ?_ | refine ⟨rfl, ?_⟩ | refine ⟨trivial, ?_⟩ | (refine forkD (fun h => ?_) (fun h => ?_)) | (refine forkNe (fun h => ?_) (fun h => ?_)) | (refine forkEq (fun h => ?_) (fun h => ?_)) | refine forkNot ?_ | (refine ⟨vI64 (by omega), ?_⟩) | (refine And.intro (by omega) ?_) | apply And.intro | (exact iEq (by omega)) | (exact vI64 (by omega))
    have hf := o.fl hx
    have hc := o.ce hx
    have hcl := rightC_lo hc
    have hch := rightC_hi hc
    have hc0 : 0 ≤ (x1 : Int) ∧ (x1 : Int) < w * h := by omega
    have hna : ¬ a.getD x1 false = true := by rw [ha]; exact Bool.false_ne_true
    have hTl := TG_len (a := a) (l := l) (k := x1) hb hc0 hf
    have hTb : ∀ {k}, k < (TG w h a l x1).length → 0 ≤ (TG w h a l x1).getD k 0 ∧ (TG w h a l x1).getD k 0 < (a.length : Int) := fun hk => TG_bd hb (getD_mem hk)
    have hmay : mayTo w h a l cs (x1 + 1) = addTo (mayTo w h a l cs x1) (TG w h a l x1) (hiI (cs.getD x1 zeroC)) := if_neg hna
    have hmust : mustTo w h a l cs (x1 + 1) = if (TG w h a l x1).length = 1 then addAt (mustTo w h a l cs x1) ((TG w h a l x1).getD 0 0) (loI (cs.getD x1 zeroC)) else mustTo w h a l cs x1 := if_neg hna
    rw [show tgts w h a (x1 : Int) (l.getD x1 zeroF) = TG w h a l x1 from rfl]
    refine ⟨by omega, partFlow (by omega), ⟨rfl, trivial⟩, fun H' hl hd => kTGs hb hc0 hf hl hd.1, forkEq (fun q1 => ⟨by omega, intAtL (by omega) rfl, hTb (by omega), closL_get (by have := hTb (k := 0) (by omega); omega) (by have := hTb (k := 0) (by omega); omega) (by omega), trivial, fun H' _ _ => kleast _ H', forkEq (fun q2 => ?_) (fun q2 => ?_)⟩) (fun q1 => ?_)⟩
    have hm : mustTo w h a l cs (x1 + 1) = mustTo w h a l cs x1 := by rw [hmust, if_pos (by omega)]; exact addAt_0 q2
    rw [← hm]
    rotate_left
    have ht0 := hTb (k := 0) (by omega)
    have hd : Int.toNat ((TG w h a l x1).getD 0 0) < (mustTo w h a l cs x1).length := by omega
    have hP := hMo (Int.toNat ((TG w h a l x1).getD 0 0))
    have hm : mustTo w h a l cs (x1 + 1) = (mustTo w h a l cs x1).set (Int.toNat ((TG w h a l x1).getD 0 0)) (addP ((mustTo w h a l cs x1).getD (Int.toNat ((TG w h a l x1).getD 0 0)) zeroP) (loI (cs.getD x1 zeroC))) := by rw [hmust, if_pos (by omega)]; rfl
    have a1 := pl1At hd
    have a2 := pl2At hd
    generalize (mustTo w h a l cs x1).getD (Int.toNat ((TG w h a l x1).getD 0 0)) zeroP = p at *
    have hA : addP p (loI (cs.getD x1 zeroC)) = ⟨p.s + (cs.getD x1 zeroC).conc.lo, max p.t (cs.getD x1 zeroC).thick.lo, max p.r (cs.getD x1 zeroC).ridge.lo⟩ := if_neg q2
    have s1 := pl1Set hd (addP p (loI (cs.getD x1 zeroC)))
    have s2 := pl2Set hd (addP p (loI (cs.getD x1 zeroC)))
    rw [← hm, hA] at s1 s2
    obtain ⟨hp1, hp2, hp3⟩ := hP
    obtain ⟨hx1', hx2', hx3', hx4'⟩ := hcl
    unfold loI at hx1' hx2' hx3'
    dsimp only at hx1' hx2' hx3'
    refine ⟨a1, vI64 (by omega), by rw [flat_len plC1_len]; omega, rfl, a2.1, toMax ⟨a2.2, toMax ⟨by rw [flat_len plC2_len]; omega, rfl, by rw [setl_length, flat_len plC2_len]; omega, rfl, ?_⟩⟩⟩
    rw [s1, s2]
    rotate_left
    have hm : mustTo w h a l cs (x1 + 1) = mustTo w h a l cs x1 := by rw [hmust, if_neg (by omega)]
    rw [← hm]
    rotate_left
    all_goals
      refine ⟨rfl, Nat.zero_le _, ?_, fun _ => rfl, ?_⟩
      · repeat' first | exact plainP1 _ _ | exact plainP2 _ _ | exact trivial | exact rfl | exact wk_refl _ | refine wkO_cells ?_ | refine wks_cons ?_ ?_ | exact wks_nil | exact wk_nil _ _ _ (.inl rfl) | (exact wk_Q (by omega)) | refine wk_tupL ?_ | refine wk_aggL ?_ | refine joinMax ?_ ?_ ?_ | refine joinMin ?_ ?_ ?_ | refine toMax ?_ | refine toMin ?_ | refine ⟨rfl, ?_⟩ | refine ⟨trivial, ?_⟩ | (refine forkD (fun h => ?_) (fun h => ?_)) | (refine forkNe (fun h => ?_) (fun h => ?_)) | (refine forkEq (fun h => ?_) (fun h => ?_)) | refine forkNot ?_ | (refine ⟨vI64 (by omega), ?_⟩) | (refine And.intro (by omega) ?_) | apply And.intro | (exact iEq (by omega)) | (exact vI64 (by omega))
      intro y hy
      have hPl := addTo_len ((TG w h a l x1).take y) (mayTo w h a l cs x1) (hiI (cs.getD x1 zeroC))
      have hPo := plOk_to hch ((TG w h a l x1).take y) hAo
      have hly : ((TG w h a l x1).take y).length = y := by rw [List.length_take]; omega
      rw [hly] at hPo
      refine forkD (fun k5 => ?_) (fun k5 => ?_)
      · have hy' : y < (TG w h a l x1).length := by omega
        have ht0 := hTb hy'
        have hsn : addTo (mayTo w h a l cs x1) ((TG w h a l x1).take (y + 1)) (hiI (cs.getD x1 zeroC)) = addAt (addTo (mayTo w h a l cs x1) ((TG w h a l x1).take y) (hiI (cs.getD x1 zeroC))) ((TG w h a l x1).getD y 0) (hiI (cs.getD x1 zeroC)) := by
          rw [take_snoc (d := 0) hy', addTo_snoc]
        refine ⟨by omega, intAtL hy' (by omega), ht0, closL_get (by omega) (by omega) (by omega), trivial, fun H' _ _ => kgreatest _ H', forkEq (fun q6 => ?_) (fun q6 => ?_)⟩
        · have h3 : addTo (mayTo w h a l cs x1) ((TG w h a l x1).take (y + 1)) (hiI (cs.getD x1 zeroC)) = addTo (mayTo w h a l cs x1) ((TG w h a l x1).take y) (hiI (cs.getD x1 zeroC)) := by rw [hsn]; exact addAt_0 q6
          refine ⟨vI64 (by omega), y + 1, by omega, by omega, rfl, ?_⟩
          rw [h3]
          repeat' first | exact plainP1 _ _ | exact plainP2 _ _ | exact trivial | exact rfl | exact wk_refl _ | refine wkO_cells ?_ | refine wks_cons ?_ ?_ | exact wks_nil | exact wk_nil _ _ _ (.inl rfl) | (exact wk_Q (by omega)) | refine wk_tupL ?_ | refine wk_aggL ?_ | refine joinMax ?_ ?_ ?_ | refine joinMin ?_ ?_ ?_ | refine toMax ?_ | refine toMin ?_ | refine ⟨rfl, ?_⟩ | refine ⟨trivial, ?_⟩ | (refine forkD (fun h => ?_) (fun h => ?_)) | (refine forkNe (fun h => ?_) (fun h => ?_)) | (refine forkEq (fun h => ?_) (fun h => ?_)) | refine forkNot ?_ | (refine ⟨vI64 (by omega), ?_⟩) | (refine And.intro (by omega) ?_) | apply And.intro | (exact iEq (by omega)) | (exact vI64 (by omega))
        · generalize addTo (mayTo w h a l cs x1) ((TG w h a l x1).take y) (hiI (cs.getD x1 zeroC)) = P at *
          have hd : Int.toNat ((TG w h a l x1).getD y 0) < P.length := by omega
          have hP := hPo (Int.toNat ((TG w h a l x1).getD y 0))
          have a1 := pl1At hd
          have a2 := pl2At hd
          have hsn : addTo (mayTo w h a l cs x1) ((TG w h a l x1).take (y + 1)) (hiI (cs.getD x1 zeroC)) = P.set (Int.toNat ((TG w h a l x1).getD y 0)) (addP (P.getD (Int.toNat ((TG w h a l x1).getD y 0)) zeroP) (hiI (cs.getD x1 zeroC))) := hsn
          generalize P.getD (Int.toNat ((TG w h a l x1).getD y 0)) zeroP = p at *
          have hA : addP p (hiI (cs.getD x1 zeroC)) = ⟨p.s + (cs.getD x1 zeroC).conc.hi, max p.t (cs.getD x1 zeroC).thick.hi, max p.r (cs.getD x1 zeroC).ridge.hi⟩ := if_neg q6
          have s1 := pl1Set hd (addP p (hiI (cs.getD x1 zeroC)))
          have s2 := pl2Set hd (addP p (hiI (cs.getD x1 zeroC)))
          rw [← hsn, hA] at s1 s2
          obtain ⟨hp1, hp2, hp3⟩ := hP
          obtain ⟨hx1', hx2', hx3', hx4'⟩ := hch
          unfold hiI at hx1' hx2' hx3'
          dsimp only at hx1' hx2' hx3'
          refine ⟨a1, vI64 (by omega), by rw [flat_len plC1_len]; omega, rfl, a2.1, toMax ⟨a2.2, toMax ⟨by rw [flat_len plC2_len]; omega, rfl, by rw [setl_length, flat_len plC2_len]; omega, rfl, vI64 (by omega), y + 1, by omega, by omega, rfl, ?_⟩⟩⟩
          rw [s1, s2]
          repeat' first | exact plainP1 _ _ | exact plainP2 _ _ | exact trivial | exact rfl | exact wk_refl _ | refine wkO_cells ?_ | refine wks_cons ?_ ?_ | exact wks_nil | exact wk_nil _ _ _ (.inl rfl) | (exact wk_Q (by omega)) | refine wk_tupL ?_ | refine wk_aggL ?_ | refine joinMax ?_ ?_ ?_ | refine joinMin ?_ ?_ ?_ | refine toMax ?_ | refine toMin ?_ | refine ⟨rfl, ?_⟩ | refine ⟨trivial, ?_⟩ | (refine forkD (fun h => ?_) (fun h => ?_)) | (refine forkNe (fun h => ?_) (fun h => ?_)) | (refine forkEq (fun h => ?_) (fun h => ?_)) | refine forkNot ?_ | (refine ⟨vI64 (by omega), ?_⟩) | (refine And.intro (by omega) ?_) | apply And.intro | (exact iEq (by omega)) | (exact vI64 (by omega))
      · obtain rfl : y = (TG w h a l x1).length := by omega
        rw [List.take_length, ← hmay]
        refine ⟨vI64 (by omega), x1 + 1, by omega, by omega, rfl, ?_⟩
        repeat' first | exact plainP1 _ _ | exact plainP2 _ _ | exact trivial | exact rfl | exact wk_refl _ | refine wkO_cells ?_ | refine wks_cons ?_ ?_ | exact wks_nil | exact wk_nil _ _ _ (.inl rfl) | (exact wk_Q (by omega)) | refine wk_tupL ?_ | refine wk_aggL ?_ | refine joinMax ?_ ?_ ?_ | refine joinMin ?_ ?_ ?_ | refine toMax ?_ | refine toMin ?_ | refine ⟨rfl, ?_⟩ | refine ⟨trivial, ?_⟩ | (refine forkD (fun h => ?_) (fun h => ?_)) | (refine forkNe (fun h => ?_) (fun h => ?_)) | (refine forkEq (fun h => ?_) (fun h => ?_)) | refine forkNot ?_ | (refine ⟨vI64 (by omega), ?_⟩) | (refine And.intro (by omega) ?_) | apply And.intro | (exact iEq (by omega)) | (exact vI64 (by omega))
  obtain rfl : x1 = cs.length := by omega
  refine ⟨vI64 (by omega), rfl, Nat.zero_le _, ?_, fun _ => rfl, ?_⟩
  · repeat' first | exact trivial | exact rfl | exact wk_refl _ | refine wkO_cells ?_ | refine wks_cons ?_ ?_ | exact wks_nil | exact wk_nil _ _ _ (.inl rfl) | (exact wk_Q (by omega)) | refine wk_tupL ?_ | refine wk_aggL ?_ | refine joinMax ?_ ?_ ?_ | refine joinMin ?_ ?_ ?_ | refine toMax ?_ | refine toMin ?_ | refine ⟨rfl, ?_⟩ | refine ⟨trivial, ?_⟩ | (refine forkD (fun h => ?_) (fun h => ?_)) | (refine forkNe (fun h => ?_) (fun h => ?_)) | (refine forkEq (fun h => ?_) (fun h => ?_)) | refine forkNot ?_ | (refine ⟨vI64 (by omega), ?_⟩) | (refine And.intro (by omega) ?_) | apply And.intro | (exact iEq (by omega)) | (exact vI64 (by omega))
  intro x2 hx2
  refine forkD (fun k2 => ?_) (fun k2 => ?_)
  · have hd : x2 < (mustTo w h a l cs cs.length).length := by omega
    have hd2 : x2 < (mayTo w h a l cs cs.length).length := by omega
    have a1 := pl1At hd
    have a2 := pl2At hd
    have b1 := pl1At hd2
    have b2 := pl2At hd2
    have hpm := hMo x2
    have hpa := hAo x2
    have hS : tabP (stepC w h a l cs) (x2 + 1) = tabP (stepC w h a l cs) x2 ++ [stepC w h a l cs x2] := tabP_succ _ _
    have hSx : stepC w h a l cs x2 = cellOf (tellP ((mustTo w h a l cs cs.length).getD x2 zeroP)) (tellP ((mayTo w h a l cs cs.length).getD x2 zeroP)) := rfl
    generalize (mustTo w h a l cs cs.length).getD x2 zeroP = p at *
    generalize (mayTo w h a l cs cs.length).getD x2 zeroP = p' at *
    have o1 := tell_ok hpm
    have o2 := tell_ok hpa
    obtain ⟨m1, m2, m3⟩ := hpm
    obtain ⟨n1, n2, n3⟩ := hpa
    have hov : ∀ p : Pl, (if (0 : Int) > p.s - 100 then (0 : Int) else p.s - 100) = overP p := fun p => by unfold overP; rw [ite_max]
    have d1 := tdiv_bd (d := 10) o1.1 (by decide)
    have d2 := tdiv_bd (d := 5) o1.1 (by decide)
    have d3 := tdiv_bd (o := overP p + 25 - 1) (d := 25) (by omega) (by decide)
    have f1 := tdiv_bd (d := 10) o2.1 (by decide)
    have f2 := tdiv_bd (d := 5) o2.1 (by decide)
    have f3 := tdiv_bd (o := overP p' + 25 - 1) (d := 25) (by omega) (by decide)
    have l1 : (tabP (stepC w h a l cs) x2).length = x2 := tabP_len _ _
    have c1 := flat_le cellC_len (tabP (stepC w h a l cs) x2)
    have c2 := ob_snoc (own := true) cellC_len hS (by rw [hSx])
    rw [l1] at c1 c2
    rw [hov p, hov p']
    refine ⟨by omega, closL_get (by omega) (by omega) (by omega), a1, vI64 (by omega), a1, vI64 (by omega), a2.1, vI64 (by omega), vI64 (by omega), toMin ⟨a2.2, vI64 (by omega), vI64 (by omega), toMin ⟨vI64 (by omega), vI64 (by omega), vI64 (by omega), toMin
      ⟨by omega, closL_get (by omega) (by omega) (by omega), b1, vI64 (by omega), b1, vI64 (by omega), b2.1, vI64 (by omega), vI64 (by omega), toMin ⟨b2.2, vI64 (by omega), vI64 (by omega), toMin ⟨vI64 (by omega), vI64 (by omega), vI64 (by omega), toMin ?_⟩⟩⟩⟩⟩⟩
    repeat' first | (refine ⟨x2 + 1, by omega, by omega, rfl, ?_⟩) | exact c2 | exact plainC _ _ | exact c1 | exact Nat.le_refl _ | exact trivial | exact rfl | exact wk_refl _ | refine wkO_cells ?_ | refine wks_cons ?_ ?_ | exact wks_nil | exact wk_nil _ _ _ (.inl rfl) | (exact wk_Q (by omega)) | refine wk_tupL ?_ | refine wk_aggL ?_ | refine joinMax ?_ ?_ ?_ | refine joinMin ?_ ?_ ?_ | refine toMax ?_ | refine toMin ?_ | refine ⟨rfl, ?_⟩ | refine ⟨trivial, ?_⟩ | (refine forkD (fun h => ?_) (fun h => ?_)) | (refine forkNe (fun h => ?_) (fun h => ?_)) | (refine forkEq (fun h => ?_) (fun h => ?_)) | refine forkNot ?_ | (refine ⟨vI64 (by omega), ?_⟩) | (refine And.intro (by omega) ?_) | apply And.intro | (exact iEq (by omega)) | (exact vI64 (by omega))
  · obtain rfl : x2 = a.length := by omega
    rw [show tabP (stepC w h a l cs) a.length = stepL w h a l cs from rfl, show (stepL w h a l cs).length = a.length from tabP_len _ _]
    repeat' first | exact plainC _ _ | exact trivial | exact rfl | exact wk_refl _ | refine wkO_cells ?_ | refine wks_cons ?_ ?_ | exact wks_nil | exact wk_nil _ _ _ (.inl rfl) | (exact wk_Q (by omega)) | refine wk_tupL ?_ | refine wk_aggL ?_ | refine joinMax ?_ ?_ ?_ | refine joinMin ?_ ?_ ?_ | refine toMax ?_ | refine toMin ?_ | refine ⟨rfl, ?_⟩ | refine ⟨trivial, ?_⟩ | (refine forkD (fun h => ?_) (fun h => ?_)) | (refine forkNe (fun h => ?_) (fun h => ?_)) | (refine forkEq (fun h => ?_) (fun h => ?_)) | refine forkNot ?_ | (refine ⟨vI64 (by omega), ?_⟩) | (refine And.intro (by omega) ?_) | apply And.intro | (exact iEq (by omega)) | (exact vI64 (by omega))
end
end Go.Proofs.Ytkkgnalgmebfjaa
/- Drift: the chart an hour later, or the error. No condition. -/
namespace Go.Proofs.Ytkkgnalgmebfjaa
open Go Go.K
set_option maxRecDepth 100000
set_option linter.unusedVariables false
set_option linter.unusedSimpArgs false
noncomputable section
attribute [local irreducible] vF
abbrev chV (k i : Nat) (c : Chart) : Value := .agg #[.int .i64 c.w, .int .i64 c.h, .int .i64 c.hour, .slice (some ⟨i, 0, some k⟩) c.cells.length c.cells.length]
theorem errFits_0 {w h : Int} {a : List Bool} {w' h' t : Int} {cs : List Cell} (e : errFits w h a w' h' t cs = 0) : errSides w h w' h' t cs = 0 ∧ errDry a cs = 0 := by
  unfold errFits first2 at e
  split at e
  · rename_i h0; exact ⟨h0, e⟩
  · rename_i h0; exact absurd e h0
/-- Right flows, and a chart that fits. -/
theorem stepOk {w h : Int} {a : List Bool} {l : List Flow} {w' h' t : Int} {cs : List Cell} (e1 : errFlows w h a.length l = 0) (e2 : errFits w h a w' h' t cs = 0) : StepOk w h a l cs ∧ w' = w ∧ h' = h ∧ (0 ≤ t ∧ t ≤ 10000) := by
  obtain ⟨f1, f2, f3⟩ := errFlows_0 e1
  obtain ⟨s1, s2⟩ := errFits_0 e2
  obtain ⟨c1, c2, c3⟩ := sides_0 s1
  obtain ⟨c4, c5, _, c6⟩ := errChart_ok c1
  have hb := basOk f1
  have hn := hb.n1
  subst c2 c3
  exact ⟨⟨hb, f2, errF_all f3, by omega, c6⟩, rfl, rfl, by obtain ⟨_, _, _, q⟩ := c4; exact q⟩
theorem stErr {r : Chart × Int} {e : Int} (h : r = (zeroChart, e)) : true = true ∧ wk (.tuple #[.agg #[.int .i64 0, .int .i64 0, .int .i64 0, .slice none 0 0], .int .i64 e] : Value) (rn (sg 3 []) 3 (.tuple #[chV 1 3 r.1, .int .i64 r.2])) ∧ (True ∧ True) := by
  subst h
  exact ⟨rfl, wk_tupL ⟨wk_aggL ⟨wk_refl _, wk_refl _, wk_refl _, wk_nil _ _ _ (.inl rfl), trivial⟩, wk_refl _, trivial⟩, trivial, trivial⟩
theorem kStep (w h : Int) (a : List Bool) (l : List Flow) (hl : l.length ≤ 4294967296) (w' h' t : Int) (cs : List Cell) {H : Heap} {L : Nat} (hL : H.length = L) {i0 i1 i2 : Nat} {o0 o1 o2 : Bool} {z0 z1 z2 : Nat} (e0 : H[i0]? = some (.cells o0 z0 (a.flatMap boolC)))
    (e1 : H[i1]? = some (.cells o1 z1 (l.flatMap flowC))) (e2 : H[i2]? = some (.cells o2 z2 (cs.flatMap cellC))) :
    KCall prog F.drift_Step [basV w h i0 a.length, .slice (some ⟨i1, 0, some 2⟩) l.length l.length, .agg #[.int .i64 w', .int .i64 h', .int .i64 t, .slice (some ⟨i2, 0, some 2⟩) cs.length cs.length]] H []
      (Is (.tuple #[chV 1 L (fStep w h a l w' h' t cs).1, .int .i64 (fStep w h a l w' h' t cs).2]) (H ++ [.cells true 8 ((fStep w h a l w' h' t cs).1.cells.flatMap cellC)])) := by
  subst hL
  refine valNs (fun i => .tuple #[chV 1 i (fStep w h a l w' h' t cs).1, .int .i64 (fStep w h a l w' h' t cs).2]) (css := [a.flatMap boolC, l.flatMap flowC, cs.flatMap cellC]) (new := [.cells true 8 ((fStep w h a l w' h' t cs).1.cells.flatMap cellC)]) (Eq.mpr (EStep w h a l w' h' t cs) ?_) ⟨plainBL 0 a, plainFL 0 l, plainC 0 cs, trivial⟩
    ⟨⟨_, _, rfl, plainC 0 _⟩, trivial⟩ rfl rfl (fun _ => rfl) (ids := [i0, i1, i2]) ⟨⟨_, _, e0⟩, ⟨_, _, e1⟩, ⟨_, _, e2⟩, trivial⟩ rfl
  unfold RStep
  refine ⟨⟨rfl, rfl, trivial⟩, fun H' _ hd => kCheckFlows w h a l hl hd.1 hd.2.1, forkNe (fun h0 => stErr (if_neg h0)) (fun h0 => ?_)⟩
  have hb := basOk (errFlows_0 h0).1
  have E1 : fStep w h a l w' h' t cs = if errFits w h a w' h' t cs = 0 then (if t = 10000 then (zeroChart, 6) else (⟨w', h', t + 1, stepL w h a l cs⟩, 0)) else (zeroChart, errFits w h a w' h' t cs) := if_pos h0
  refine ⟨⟨rfl, rfl, trivial⟩, fun H' _ hd => kfits hb w' h' t cs hd.1 hd.2.1, forkNe (fun h1 => stErr (by rw [E1, if_neg h1])) (fun h1 => ?_)⟩
  rw [if_pos h1] at E1
  obtain ⟨o, _, _, ht⟩ := stepOk h0 h1
  refine forkEq (fun h2 => stErr (by rw [E1, if_pos h2])) (fun h2 => ⟨⟨rfl, rfl, rfl, trivial⟩, fun H' hl hd => kstep o w' h' t ht hl hd.1 hd.2.1 hd.2.2.1, ?_⟩)
  rw [if_neg h2] at E1
  rw [E1]
  repeat' first | exact plainC _ _ | exact trivial | exact rfl | exact wk_refl _ | refine wkO_cells ?_ | refine wks_cons ?_ ?_ | exact wks_nil | exact wk_nil _ _ _ (.inl rfl) | (exact wk_Q (by omega)) | refine wk_tupL ?_ | refine wk_aggL ?_ | refine joinMax ?_ ?_ ?_ | refine joinMin ?_ ?_ ?_ | refine toMax ?_ | refine toMin ?_ | refine ⟨rfl, ?_⟩ | refine ⟨trivial, ?_⟩ | (refine forkD (fun h => ?_) (fun h => ?_)) | (refine forkNe (fun h => ?_) (fun h => ?_)) | (refine forkEq (fun h => ?_) (fun h => ?_)) | refine forkNot ?_ | (refine ⟨vI64 (by omega), ?_⟩) | (refine And.intro (by omega) ?_) | apply And.intro | (exact iEq (by omega)) | (exact vI64 (by omega))
end
end Go.Proofs.Ytkkgnalgmebfjaa
/- Drift: what is made of numbers: basins, flows, fields, charts, moves. No condition. -/
namespace Go.Proofs.Ytkkgnalgmebfjaa
set_option linter.unusedSimpArgs false
set_option linter.unusedVariables false
open Go Go.K
noncomputable section
/-- Numbers, and how many were asked for. -/
abbrev digC (L : List Int) (n : Int) : List Value := [.iface (L.length + 1) (.agg ⟨L.flatMap intC⟩), .int .i64 n]
def dVal (L : List Int) (n : Int) : Int := if 0 < L.length then IntKind.wrap .i64 (L.getD (Int.toNat (Int.tmod n ((L.length : Nat) : Int))) 0 + IntKind.wrap .i64 (Int.tdiv n ((L.length : Nat) : Int))) else 0
def dN (L : List Int) (n m : Int) : Int := dVal L n % m
def watW (L : List Int) (n : Int) : Int := 2 + dN L n 5
def watH (L : List Int) (n : Int) : Int := 2 + dN L (n + 1) 4
def watL (L : List Int) (n : Int) : Nat → List Bool × Int
  | 0 => ([], n)
  | x + 1 => if 0 < x then ((watL L n x).1 ++ [dN L (watL L n x).2 7 == 0], (watL L n x).2 + 1) else ((watL L n x).1 ++ [false], (watL L n x).2)
def watA (L : List Int) (n : Int) : List Bool := (watL L (n + 1 + 1) (Int.toNat (watW L n * watH L n))).1
def watN (L : List Int) (n : Int) : Int := (watL L (n + 1 + 1) (Int.toNat (watW L n * watH L n))).2
def fldI (L : List Int) (n : Int) : Ice := ⟨dN L n 2 * dN L (n + 1) 101, dN L (n + 1 + 1) 401, dN L (n + 1 + 1 + 1) 101, dN L (n + 1 + 1 + 1 + 1) 4⟩
def fldL (L : List Int) (a : List Bool) (n : Int) : Nat → List Ice × Int
  | 0 => ([], n)
  | x + 1 => if a.getD x false = true then ((fldL L a n x).1 ++ [zeroI], (fldL L a n x).2) else ((fldL L a n x).1 ++ [fldI L (fldL L a n x).2], (fldL L a n x).2 + 1 + 1 + 1 + 1 + 1)
def curF (L : List Int) (X Y n : Int) : Flow :=
  ⟨⟨X + dN L n 400 - 200, min (X + dN L n 400 - 200 + dN L (n + 1 + 1) 3 * dN L (n + 1 + 1 + 1) 250) 2000⟩, ⟨Y + dN L (n + 1) 400 - 200, min (Y + dN L (n + 1) 400 - 200 + dN L (n + 1 + 1 + 1 + 1) 3 * dN L (n + 1 + 1 + 1 + 1 + 1) 250) 2000⟩⟩
def curL (L : List Int) (X Y n : Int) : Nat → List Flow × Int
  | 0 => ([], n)
  | x + 1 => ((curL L X Y n x).1 ++ [curF L X Y (curL L X Y n x).2], (curL L X Y n x).2 + 1 + 1 + 1 + 1 + 1 + 1)
def curs (L : List Int) (n : Int) (k : Nat) : List Flow × Int := curL L (dN L n 3001 - 1500) (dN L (n + 1) 3001 - 1500) (n + 1 + 1) k
def hldS (L : List Int) (n x most : Int) : Span := ⟨max (x - dN L n 4 * dN L (n + 1) 9) 0, min (x + dN L (n + 1 + 1) 4 * dN L (n + 1 + 1 + 1) 9) most⟩
def hldC (L : List Int) (n : Int) (x : Ice) : Cell :=
  ⟨hldS L n x.conc 100, hldS L (n + 1 + 1 + 1 + 1) x.thick 400, hldS L (n + 1 + 1 + 1 + 1 + 1 + 1 + 1 + 1) x.ridge 100, hldS L (n + 1 + 1 + 1 + 1 + 1 + 1 + 1 + 1 + 1 + 1 + 1 + 1) x.press 3⟩
def hldL (L : List Int) (a : List Bool) (xs : List Ice) (n : Int) : Nat → List Cell × Int
  | 0 => ([], n)
  | x + 1 => if a.getD x false = true then ((hldL L a xs n x).1 ++ [zeroC], (hldL L a xs n x).2) else ((hldL L a xs n x).1 ++ [hldC L (hldL L a xs n x).2 (xs.getD x zeroI)], (hldL L a xs n x).2 + 1 + 1 + 1 + 1 + 1 + 1 + 1 + 1 + 1 + 1 + 1 + 1 + 1 + 1 + 1 + 1)
def mvgL (L : List Int) (l : List Flow) (n : Int) : Nat → List Move × Int
  | 0 => ([], n)
  | x + 1 => ((mvgL L l n x).1 ++ [(fMoves (l.getD x zeroF)).1.getD (Int.toNat (dN L (mvgL L l n x).2 (((fMoves (l.getD x zeroF)).1.length : Nat) : Int))) zeroM], (mvgL L l n x).2 + 1)
end
end Go.Proofs.Ytkkgnalgmebfjaa
/- What is to be shown of functions. Printed by a program. No condition. -/
namespace Go.Proofs.Ytkkgnalgmebfjaa
set_option linter.unusedSimpArgs false
open Go Go.K
set_option maxRecDepth 100000
set_option maxHeartbeats 4000000
set_option linter.unusedVariables false
noncomputable section
def RNext (L : List Int) (n m : Int) : Prop :=
  (((decide ((0 : Int) < ((L.length : Nat) : Int))) = true → (((((L.length : Nat) : Int) : Int) ≠ 0) ∧ (((0 : Int) ≤ (Int.tmod n ((L.length : Nat) : Int)) ∧ ((Int.tmod n ((L.length : Nat) : Int)) : Int) < ((L.length : Nat) : Int)) ∧ (((L.flatMap intC)[(Int.toNat (Int.tmod n ((L.length : Nat) : Int)) * 1)]? = some (nI (L.getD (Int.tmod n ((L.length : Nat) : Int)).toNat 0))) ∧ (((((L.length : Nat) : Int) : Int) ≠ 0) ∧ (∃ y0 : Int, (nI (IntKind.wrap .i64 (Int.tdiv n ((L.length : Nat) : Int))) : Value) = nI y0 ∧ (∃ y1 : Int, (nI (IntKind.wrap .i64 ((L.getD (Int.tmod n ((L.length : Nat) : Int)).toNat 0) + y0)) : Value) = nI y1 ∧ ((True) ∧ (∀ H' : Heap, H'.length = 1 → (True) → KCall prog 38 [nI y1, nI m] H' [] (Is (nI (y1 % m)) H')) ∧ (true = true ∧ wk (nI (y1 % m) : Value) (rn (sg 1 []) 3 (nI (dN L n m) : Value)) ∧ ((some (.cells true 0 [.iface (L.length + 1) (.agg ⟨(L.flatMap intC)⟩), nI (IntKind.wrap .i64 (n + 1))] : KObj) = some (.cells true 0 [.iface (L.length + 1) (.agg ⟨(L.flatMap intC)⟩), nI (n + 1)] : KObj) ∧ belowO 1 (.cells true 0 [.iface (L.length + 1) (.agg ⟨(L.flatMap intC)⟩), nI (n + 1)] : KObj) = true) ∧ True) ∧ (True)))))))))) ∧ ((decide ((0 : Int) < ((L.length : Nat) : Int))) = false → ((True) ∧ (∀ H' : Heap, H'.length = 1 → (True) → KCall prog 38 [nI 0, nI m] H' [] (Is (nI (0 % m)) H')) ∧ (true = true ∧ wk (nI (0 % m) : Value) (rn (sg 1 []) 3 (nI (dN L n m) : Value)) ∧ ((some (.cells true 0 [.iface (L.length + 1) (.agg ⟨(L.flatMap intC)⟩), nI (IntKind.wrap .i64 (n + 1))] : KObj) = some (.cells true 0 [.iface (L.length + 1) (.agg ⟨(L.flatMap intC)⟩), nI (n + 1)] : KObj) ∧ belowO 1 (.cells true 0 [.iface (L.length + 1) (.agg ⟨(L.flatMap intC)⟩), nI (n + 1)] : KObj) = true) ∧ True) ∧ (True)))))
theorem ENext (L : List Int) (n m : Int) : vF prog msk (dm 0) 100000 true 40 true 40 [.pointer (some ⟨0, 0, none⟩), nI m] (readsW 0 0 (digC L n) []) (some [0])
  (.go 7 (.fork (.go 12 (.need (.need (.val (nI (L.getD (Int.tmod n ((L.length : Nat) : Int)).toNat 0)) (.go 8 (.need (.bind Int (fun y0 => .slot 37 (nI y0) (.go 0 (.bind Int (fun y1 => .slot 38 (nI y1) (.go 10 (.ans [] (nI (y1 % m)) [] (.go 0 (.keep (.again [])))))))))))))))) (.go 9 (.ans [] (nI (0 % m)) [] (.go 0 (.keep (.again [])))))))
  (newKW ((readsW 0 0 (digC L n) []) : HT).n 3 0 (.cells true 0 [.iface (L.length + 1) (.agg ⟨(L.flatMap intC)⟩), nI (n + 1)]) (nI (dN L n m)) []) = RNext L n m := by kernel_rfl
def RWaters (L : List Int) (n : Int) : Prop :=
  (((someR (.cells true 0 [.iface (L.length + 1) (.agg ⟨(L.flatMap intC)⟩), nI n])) ∧ True) ∧ (∀ H' : Heap, H'.length = 2 → (H'[0]? = some (.cells true 0 [.iface (L.length + 1) (.agg ⟨(L.flatMap intC)⟩), nI n] : KObj) ∧ True) → KCall prog 40 [.pointer (some ⟨0, 0, none⟩), nI 5] H' [0] (Is (nI (dN L n 5)) (List.set H' 0 (.cells true 0 [.iface (L.length + 1) (.agg ⟨(L.flatMap intC)⟩), nI (n + 1)] : KObj)))) ∧ ((nI (IntKind.wrap .i64 (2 + (dN L n 5))) : Value) = nI (2 + (dN L n 5)) ∧ (((someR (.cells true 0 [.iface (L.length + 1) (.agg ⟨(L.flatMap intC)⟩), nI (n + 1)])) ∧ True) ∧ (∀ H' : Heap, H'.length = 2 → (H'[0]? = some (.cells true 0 [.iface (L.length + 1) (.agg ⟨(L.flatMap intC)⟩), nI (n + 1)] : KObj) ∧ True) → KCall prog 40 [.pointer (some ⟨0, 0, none⟩), nI 4] H' [0] (Is (nI (dN L (n + 1) 4)) (List.set H' 0 (.cells true 0 [.iface (L.length + 1) (.agg ⟨(L.flatMap intC)⟩), nI ((n + 1) + 1)] : KObj)))) ∧ ((nI (IntKind.wrap .i64 (2 + (dN L (n + 1) 4))) : Value) = nI (2 + (dN L (n + 1) 4)) ∧ (true = true ∧ (0 ≤ Int.toNat (watW L n * watH L n)) ∧ (true = true ∧ ((nI 0 : Value) = nI ((0 : Nat) : Int) ∧ (.pointer (some ⟨0, 0, none⟩) : Value) = .pointer (some ⟨0, 0, none⟩) ∧ (.pointer (some ⟨1, 0, none⟩) : Value) = .pointer (some ⟨1, 0, none⟩) ∧ (.pointer (some ⟨2, 0, none⟩) : Value) = .pointer (some ⟨2, 0, none⟩) ∧ True) ∧ ((some (.cells true 0 [.iface (L.length + 1) (.agg ⟨(L.flatMap intC)⟩), nI ((n + 1) + 1)] : KObj) = some (.cells true 0 [.iface (L.length + 1) (.agg ⟨(L.flatMap intC)⟩), nI (watL L ((n + 1) + 1) 0).2] : KObj) ∧ belowO 3 (.cells true 0 [.iface (L.length + 1) (.agg ⟨(L.flatMap intC)⟩), nI (watL L ((n + 1) + 1) 0).2] : KObj) = true) ∧ wkO (.cells true 0 [nI (2 + (dN L n 5)), nI (2 + (dN L (n + 1) 4)), .slice none 0 0] : KObj) (rno (sg 3 []) 3 (.cells true 0 [nI (2 + (dN L n 5)), nI (2 + (dN L (n + 1) 4)), slQ 3 1 0] : KObj)) ∧ True) ∧ (True ∧ True) ∧ (True)) ∧ (∀ x2 : Nat, true = true) ∧ ∀ x2 : Nat, (x2 ≤ Int.toNat (watW L n * watH L n)) → ((nI (IntKind.wrap .i64 ((2 + (dN L n 5)) * (2 + (dN L (n + 1) 4)))) : Value) = nI ((2 + (dN L n 5)) * (2 + (dN L (n + 1) 4))) ∧ (((decide (((x2 : Int) : Int) < ((2 + (dN L n 5)) * (2 + (dN L (n + 1) 4))))) = true → (((decide ((0 : Int) < (x2 : Int))) = true → (((someR (.cells true 0 [.iface (L.length + 1) (.agg ⟨(L.flatMap intC)⟩), nI (watL L ((n + 1) + 1) x2).2])) ∧ True) ∧ (∀ H' : Heap, H'.length = 4 → (H'[0]? = some (.cells true 0 [.iface (L.length + 1) (.agg ⟨(L.flatMap intC)⟩), nI (watL L ((n + 1) + 1) x2).2] : KObj) ∧ True) → KCall prog 40 [.pointer (some ⟨0, 0, none⟩), nI 7] H' [0] (Is (nI (dN L (watL L ((n + 1) + 1) x2).2 7)) (List.set H' 0 (.cells true 0 [.iface (L.length + 1) (.agg ⟨(L.flatMap intC)⟩), nI ((watL L ((n + 1) + 1) x2).2 + 1)] : KObj)))) ∧ (((x2 + 1) * 1 ≤ 2 ^ 44 ∧ 1 ≠ 0 ∧ (x2 ≤ x2 ∧ 0 + x2 * 1 ≤ List.length (List.flatMap boolC (watL L ((n + 1) + 1) x2).1)) ∧ (1 ≤ 1 ∧ 0 + 1 * 1 ≤ List.length ([.bool (((dN L (watL L ((n + 1) + 1) x2).2 7) : Int) == 0)] : List Value)) ∧ (((([.bool (((dN L (watL L ((n + 1) + 1) x2).2 7) : Int) == 0)] : List Value).drop 0).take (1 * 1)) : List Value).all (fun v => one1 v) = true) ∧ true = true ∧ ((nI (IntKind.wrap .i64 ((x2 : Int) + 1)) : Value) = nI ((x2 : Int) + 1) ∧ (∃ x2' : Nat, (x2' ≤ Int.toNat (watW L n * watH L n)) ∧ (Int.toNat (watW L n * watH L n) - x2') < (Int.toNat (watW L n * watH L n) - x2) ∧ true = true ∧ ((nI ((x2 : Int) + 1) : Value) = nI (x2' : Int) ∧ (.pointer (some ⟨0, 0, none⟩) : Value) = .pointer (some ⟨0, 0, none⟩) ∧ (.pointer (some ⟨1, 0, none⟩) : Value) = .pointer (some ⟨1, 0, none⟩) ∧ (.pointer (some ⟨2, 0, none⟩) : Value) = .pointer (some ⟨2, 0, none⟩) ∧ True) ∧ ((some (.cells true 0 [.iface (L.length + 1) (.agg ⟨(L.flatMap intC)⟩), nI ((watL L ((n + 1) + 1) x2).2 + 1)] : KObj) = some (.cells true 0 [.iface (L.length + 1) (.agg ⟨(L.flatMap intC)⟩), nI (watL L ((n + 1) + 1) x2').2] : KObj) ∧ belowO 3 (.cells true 0 [.iface (L.length + 1) (.agg ⟨(L.flatMap intC)⟩), nI (watL L ((n + 1) + 1) x2').2] : KObj) = true) ∧ wkO (.cells true 0 [nI (2 + (dN L n 5)), nI (2 + (dN L (n + 1) 4)), .slice (some ⟨5, 0, none⟩) (x2 + 1) (x2 + 1)] : KObj) (rno (sg 3 [(3, 5)]) 3 (.cells true 0 [nI (2 + (dN L n 5)), nI (2 + (dN L (n + 1) 4)), slQ 3 1 x2'] : KObj)) ∧ True) ∧ ((some (.cells true 1 ((((List.flatMap boolC (watL L ((n + 1) + 1) x2).1).drop 0).take (x2 * 1)) ++ ((([.bool (((dN L (watL L ((n + 1) + 1) x2).2 7) : Int) == 0)] : List Value).drop 0).take (1 * 1))) : KObj) = some (.cells true 1 (List.flatMap boolC (watL L ((n + 1) + 1) x2').1) : KObj) ∧ belowO 3 (.cells true 1 (List.flatMap boolC (watL L ((n + 1) + 1) x2').1) : KObj) = true) ∧ True) ∧ (True)))))) ∧ ((decide ((0 : Int) < (x2 : Int))) = false → (((x2 + 1) * 1 ≤ 2 ^ 44 ∧ 1 ≠ 0 ∧ (x2 ≤ x2 ∧ 0 + x2 * 1 ≤ List.length (List.flatMap boolC (watL L ((n + 1) + 1) x2).1)) ∧ (1 ≤ 1 ∧ 0 + 1 * 1 ≤ List.length ([.bool false] : List Value)) ∧ (((([.bool false] : List Value).drop 0).take (1 * 1)) : List Value).all (fun v => one1 v) = true) ∧ true = true ∧ ((nI (IntKind.wrap .i64 ((x2 : Int) + 1)) : Value) = nI ((x2 : Int) + 1) ∧ (∃ x2' : Nat, (x2' ≤ Int.toNat (watW L n * watH L n)) ∧ (Int.toNat (watW L n * watH L n) - x2') < (Int.toNat (watW L n * watH L n) - x2) ∧ true = true ∧ ((nI ((x2 : Int) + 1) : Value) = nI (x2' : Int) ∧ (.pointer (some ⟨0, 0, none⟩) : Value) = .pointer (some ⟨0, 0, none⟩) ∧ (.pointer (some ⟨1, 0, none⟩) : Value) = .pointer (some ⟨1, 0, none⟩) ∧ (.pointer (some ⟨2, 0, none⟩) : Value) = .pointer (some ⟨2, 0, none⟩) ∧ True) ∧ ((some (.cells true 0 [.iface (L.length + 1) (.agg ⟨(L.flatMap intC)⟩), nI (watL L ((n + 1) + 1) x2).2] : KObj) = some (.cells true 0 [.iface (L.length + 1) (.agg ⟨(L.flatMap intC)⟩), nI (watL L ((n + 1) + 1) x2').2] : KObj) ∧ belowO 3 (.cells true 0 [.iface (L.length + 1) (.agg ⟨(L.flatMap intC)⟩), nI (watL L ((n + 1) + 1) x2').2] : KObj) = true) ∧ wkO (.cells true 0 [nI (2 + (dN L n 5)), nI (2 + (dN L (n + 1) 4)), .slice (some ⟨5, 0, none⟩) (x2 + 1) (x2 + 1)] : KObj) (rno (sg 3 [(3, 5)]) 3 (.cells true 0 [nI (2 + (dN L n 5)), nI (2 + (dN L (n + 1) 4)), slQ 3 1 x2'] : KObj)) ∧ True) ∧ ((some (.cells true 1 ((((List.flatMap boolC (watL L ((n + 1) + 1) x2).1).drop 0).take (x2 * 1)) ++ ((([.bool false] : List Value).drop 0).take (1 * 1))) : KObj) = some (.cells true 1 (List.flatMap boolC (watL L ((n + 1) + 1) x2').1) : KObj) ∧ belowO 3 (.cells true 1 (List.flatMap boolC (watL L ((n + 1) + 1) x2').1) : KObj) = true) ∧ True) ∧ (True))))))) ∧ ((decide (((x2 : Int) : Int) < ((2 + (dN L n 5)) * (2 + (dN L (n + 1) 4))))) = false → (true = true ∧ wk (.agg #[nI (2 + (dN L n 5)), nI (2 + (dN L (n + 1) 4)), slQ 3 1 x2] : Value) (rn (sg 1 [(1, 3)]) 3 (.agg #[nI (watW L n), nI (watH L n), slQ 1 1 (watA L n).length] : Value)) ∧ ((some (.cells true 0 [.iface (L.length + 1) (.agg ⟨(L.flatMap intC)⟩), nI (watL L ((n + 1) + 1) x2).2] : KObj) = some (.cells true 0 [.iface (L.length + 1) (.agg ⟨(L.flatMap intC)⟩), nI (watN L n)] : KObj) ∧ belowO 1 (.cells true 0 [.iface (L.length + 1) (.agg ⟨(L.flatMap intC)⟩), nI (watN L n)] : KObj) = true) ∧ True) ∧ ((some (.cells true 1 (List.flatMap boolC (watL L ((n + 1) + 1) x2).1) : KObj) = some (.cells true 1 ((watA L n).flatMap boolC) : KObj) ∧ belowO 1 (.cells true 1 ((watA L n).flatMap boolC) : KObj) = true) ∧ True))))))))))
theorem EWaters (L : List Int) (n : Int) : vF prog msk (dm 0) 100000 true 40 true 11 [.pointer (some ⟨0, 0, none⟩)] (readsW 0 0 (digC L n) []) (some [0])
  (.go 1 (.answ [(0, .cells true 0 [.iface (L.length + 1) (.agg ⟨(L.flatMap intC)⟩), nI n])] (nI (dN L n 5)) [(0, .cells true 0 [.iface (L.length + 1) (.agg ⟨(L.flatMap intC)⟩), nI (n + 1)])] [] (.go 0 (.slot 7 (nI (2 + (dN L n 5))) (.go 0 (.answ [(0, .cells true 0 [.iface (L.length + 1) (.agg ⟨(L.flatMap intC)⟩), nI (n + 1)])] (nI (dN L (n + 1) 4)) [(0, .cells true 0 [.iface (L.length + 1) (.agg ⟨(L.flatMap intC)⟩), nI ((n + 1) + 1)])] [] (.go 0 (.slot 10 (nI (2 + (dN L (n + 1) 4))) (.go 3 (.inv 3 (Nat) (0) [] [0, 2] (fun x2 => [(4, nI (x2 : Int)), (0, .pointer (some ⟨0, 0, none⟩)), (2, .pointer (some ⟨1, 0, none⟩)), (3, .pointer (some ⟨2, 0, none⟩))]) (fun x2 => [(0, true, .cells true 0 [.iface (L.length + 1) (.agg ⟨(L.flatMap intC)⟩), nI (watL L ((n + 1) + 1) x2).2]), (2, false, .cells true 0 [nI (2 + (dN L n 5)), nI (2 + (dN L (n + 1) 4)), slQ 3 1 x2])]) (fun x2 => [(true, .cells true 1 (List.flatMap boolC (watL L ((n + 1) + 1) x2).1))]) (fun x2 => []) (fun x2 => (x2 ≤ Int.toNat (watW L n * watH L n))) (fun x2 => (Int.toNat (watW L n * watH L n) - x2)) (fun x2 => .go 5 (.slot 17 (nI ((2 + (dN L n 5)) * (2 + (dN L (n + 1) 4)))) (.go 0 (.fork (.go 4 (.gfork (.go 0 (.answ [(0, .cells true 0 [.iface (L.length + 1) (.agg ⟨(L.flatMap intC)⟩), nI (watL L ((n + 1) + 1) x2).2])] (nI (dN L (watL L ((n + 1) + 1) x2).2 7)) [(0, .cells true 0 [.iface (L.length + 1) (.agg ⟨(L.flatMap intC)⟩), nI ((watL L ((n + 1) + 1) x2).2 + 1)])] [] (.go 2 (.need (.go 3 (.slot 20 (nI ((x2 : Int) + 1)) (.go 0 (.again [(3, 5)])))))))) (.go 1 (.need (.go 3 (.slot 20 (nI ((x2 : Int) + 1)) (.go 0 (.again [(3, 5)])))))))) (.go 1 (.keep (.again [(1, 3)])))))))))))))))))
  (newKW ((readsW 0 0 (digC L n) []) : HT).n 3 0 (.cells true 0 [.iface (L.length + 1) (.agg ⟨(L.flatMap intC)⟩), nI (watN L n)]) (.agg #[nI (watW L n), nI (watH L n), slQ 1 1 (watA L n).length]) [(true, .cells true 1 ((watA L n).flatMap boolC))]) = RWaters L n := by kernel_rfl
def RField (L : List Int) (n : Int) (w h : Int) (a : List Bool) : Prop :=
  (true = true ∧ (0 ≤ List.length a) ∧ (true = true ∧ ((nI 0 : Value) = nI ((0 : Nat) : Int) ∧ wk (.slice none 0 0 : Value) (slQ 0 1 0 : Value) ∧ (.pointer (some ⟨0, 0, none⟩) : Value) = .pointer (some ⟨0, 0, none⟩) ∧ (.pointer (some ⟨2, 0, none⟩) : Value) = .pointer (some ⟨2, 0, none⟩) ∧ (.slice none 0 0 : Value) = .slice none 0 0 ∧ True) ∧ ((some (.cells true 0 [.iface (L.length + 1) (.agg ⟨(L.flatMap intC)⟩), nI n] : KObj) = some (.cells true 0 [.iface (L.length + 1) (.agg ⟨(L.flatMap intC)⟩), nI (fldL L a n 0).2] : KObj) ∧ belowO 3 (.cells true 0 [.iface (L.length + 1) (.agg ⟨(L.flatMap intC)⟩), nI (fldL L a n 0).2] : KObj) = true) ∧ (keptR 3 (.cells true 0 [nI w, nI h, slQ 1 2 a.length])) ∧ True) ∧ (True ∧ True) ∧ (True)) ∧ (∀ x0 : Nat, true = true) ∧ ∀ x0 : Nat, (x0 ≤ List.length a) → (((decide (((x0 : Int) : Int) < ((a.length : Nat) : Int))) = true → (((0 : Int) ≤ (x0 : Int) ∧ ((x0 : Int) : Int) < ((a.length : Nat) : Int)) ∧ (((a.flatMap boolC)[(0 + Int.toNat (x0 : Int) * 1)]? = some (.bool (a.getD x0 false))) ∧ (((!(a.getD x0 false)) = true → (((someR (.cells true 0 [.iface (L.length + 1) (.agg ⟨(L.flatMap intC)⟩), nI (fldL L a n x0).2])) ∧ True) ∧ (∀ H' : Heap, H'.length = 5 → (H'[0]? = some (.cells true 0 [.iface (L.length + 1) (.agg ⟨(L.flatMap intC)⟩), nI (fldL L a n x0).2] : KObj) ∧ True) → KCall prog 40 [.pointer (some ⟨0, 0, none⟩), nI 2] H' [0] (Is (nI (dN L (fldL L a n x0).2 2)) (List.set H' 0 (.cells true 0 [.iface (L.length + 1) (.agg ⟨(L.flatMap intC)⟩), nI ((fldL L a n x0).2 + 1)] : KObj)))) ∧ (((someR (.cells true 0 [.iface (L.length + 1) (.agg ⟨(L.flatMap intC)⟩), nI ((fldL L a n x0).2 + 1)])) ∧ True) ∧ (∀ H' : Heap, H'.length = 5 → (H'[0]? = some (.cells true 0 [.iface (L.length + 1) (.agg ⟨(L.flatMap intC)⟩), nI ((fldL L a n x0).2 + 1)] : KObj) ∧ True) → KCall prog 40 [.pointer (some ⟨0, 0, none⟩), nI 101] H' [0] (Is (nI (dN L ((fldL L a n x0).2 + 1) 101)) (List.set H' 0 (.cells true 0 [.iface (L.length + 1) (.agg ⟨(L.flatMap intC)⟩), nI (((fldL L a n x0).2 + 1) + 1)] : KObj)))) ∧ ((nI (IntKind.wrap .i64 ((dN L (fldL L a n x0).2 2) * (dN L ((fldL L a n x0).2 + 1) 101))) : Value) = nI ((dN L (fldL L a n x0).2 2) * (dN L ((fldL L a n x0).2 + 1) 101)) ∧ (((someR (.cells true 0 [.iface (L.length + 1) (.agg ⟨(L.flatMap intC)⟩), nI (((fldL L a n x0).2 + 1) + 1)])) ∧ True) ∧ (∀ H' : Heap, H'.length = 5 → (H'[0]? = some (.cells true 0 [.iface (L.length + 1) (.agg ⟨(L.flatMap intC)⟩), nI (((fldL L a n x0).2 + 1) + 1)] : KObj) ∧ True) → KCall prog 40 [.pointer (some ⟨0, 0, none⟩), nI 401] H' [0] (Is (nI (dN L (((fldL L a n x0).2 + 1) + 1) 401)) (List.set H' 0 (.cells true 0 [.iface (L.length + 1) (.agg ⟨(L.flatMap intC)⟩), nI ((((fldL L a n x0).2 + 1) + 1) + 1)] : KObj)))) ∧ (((someR (.cells true 0 [.iface (L.length + 1) (.agg ⟨(L.flatMap intC)⟩), nI ((((fldL L a n x0).2 + 1) + 1) + 1)])) ∧ True) ∧ (∀ H' : Heap, H'.length = 5 → (H'[0]? = some (.cells true 0 [.iface (L.length + 1) (.agg ⟨(L.flatMap intC)⟩), nI ((((fldL L a n x0).2 + 1) + 1) + 1)] : KObj) ∧ True) → KCall prog 40 [.pointer (some ⟨0, 0, none⟩), nI 101] H' [0] (Is (nI (dN L ((((fldL L a n x0).2 + 1) + 1) + 1) 101)) (List.set H' 0 (.cells true 0 [.iface (L.length + 1) (.agg ⟨(L.flatMap intC)⟩), nI (((((fldL L a n x0).2 + 1) + 1) + 1) + 1)] : KObj)))) ∧ (((someR (.cells true 0 [.iface (L.length + 1) (.agg ⟨(L.flatMap intC)⟩), nI (((((fldL L a n x0).2 + 1) + 1) + 1) + 1)])) ∧ True) ∧ (∀ H' : Heap, H'.length = 5 → (H'[0]? = some (.cells true 0 [.iface (L.length + 1) (.agg ⟨(L.flatMap intC)⟩), nI (((((fldL L a n x0).2 + 1) + 1) + 1) + 1)] : KObj) ∧ True) → KCall prog 40 [.pointer (some ⟨0, 0, none⟩), nI 4] H' [0] (Is (nI (dN L (((((fldL L a n x0).2 + 1) + 1) + 1) + 1) 4)) (List.set H' 0 (.cells true 0 [.iface (L.length + 1) (.agg ⟨(L.flatMap intC)⟩), nI ((((((fldL L a n x0).2 + 1) + 1) + 1) + 1) + 1)] : KObj)))) ∧ (((x0 + 1) * 32 ≤ 2 ^ 44 ∧ 1 ≠ 0 ∧ (x0 ≤ x0 ∧ 0 + x0 * 4 ≤ List.length (List.flatMap iceC (fldL L a n x0).1)) ∧ (1 ≤ 1 ∧ 0 + 1 * 4 ≤ List.length ([nI ((dN L (fldL L a n x0).2 2) * (dN L ((fldL L a n x0).2 + 1) 101)), nI (dN L (((fldL L a n x0).2 + 1) + 1) 401), nI (dN L ((((fldL L a n x0).2 + 1) + 1) + 1) 101), nI (dN L (((((fldL L a n x0).2 + 1) + 1) + 1) + 1) 4)] : List Value)) ∧ (((([nI ((dN L (fldL L a n x0).2 2) * (dN L ((fldL L a n x0).2 + 1) 101)), nI (dN L (((fldL L a n x0).2 + 1) + 1) 401), nI (dN L ((((fldL L a n x0).2 + 1) + 1) + 1) 101), nI (dN L (((((fldL L a n x0).2 + 1) + 1) + 1) + 1) 4)] : List Value).drop 0).take (1 * 4)) : List Value).all (fun v => one1 v) = true) ∧ true = true ∧ ((nI (IntKind.wrap .i64 ((x0 : Int) + 1)) : Value) = nI ((x0 : Int) + 1) ∧ (∃ x0' : Nat, (x0' ≤ List.length a) ∧ (List.length a - x0') < (List.length a - x0) ∧ true = true ∧ ((nI ((x0 : Int) + 1) : Value) = nI (x0' : Int) ∧ wk (.slice (some ⟨6, 0, none⟩) (x0 + 1) (x0 + 1) : Value) (slQ 6 1 x0' : Value) ∧ (.pointer (some ⟨0, 0, none⟩) : Value) = .pointer (some ⟨0, 0, none⟩) ∧ (.pointer (some ⟨2, 0, none⟩) : Value) = .pointer (some ⟨2, 0, none⟩) ∧ (.slice none 0 0 : Value) = .slice none 0 0 ∧ True) ∧ ((some (.cells true 0 [.iface (L.length + 1) (.agg ⟨(L.flatMap intC)⟩), nI ((((((fldL L a n x0).2 + 1) + 1) + 1) + 1) + 1)] : KObj) = some (.cells true 0 [.iface (L.length + 1) (.agg ⟨(L.flatMap intC)⟩), nI (fldL L a n x0').2] : KObj) ∧ belowO 3 (.cells true 0 [.iface (L.length + 1) (.agg ⟨(L.flatMap intC)⟩), nI (fldL L a n x0').2] : KObj) = true) ∧ (keptR 3 (.cells true 0 [nI w, nI h, slQ 1 2 a.length])) ∧ True) ∧ ((some (.cells true 4 ((((List.flatMap iceC (fldL L a n x0).1).drop 0).take (x0 * 4)) ++ ((([nI ((dN L (fldL L a n x0).2 2) * (dN L ((fldL L a n x0).2 + 1) 101)), nI (dN L (((fldL L a n x0).2 + 1) + 1) 401), nI (dN L ((((fldL L a n x0).2 + 1) + 1) + 1) 101), nI (dN L (((((fldL L a n x0).2 + 1) + 1) + 1) + 1) 4)] : List Value).drop 0).take (1 * 4))) : KObj) = some (.cells true 4 (List.flatMap iceC (fldL L a n x0').1) : KObj) ∧ belowO 3 (.cells true 4 (List.flatMap iceC (fldL L a n x0').1) : KObj) = true) ∧ True) ∧ (True))))))))))) ∧ ((!(a.getD x0 false)) = false → (((x0 + 1) * 32 ≤ 2 ^ 44 ∧ 1 ≠ 0 ∧ (x0 ≤ x0 ∧ 0 + x0 * 4 ≤ List.length (List.flatMap iceC (fldL L a n x0).1)) ∧ (1 ≤ 1 ∧ 0 + 1 * 4 ≤ List.length ([nI 0, nI 0, nI 0, nI 0] : List Value)) ∧ (((([nI 0, nI 0, nI 0, nI 0] : List Value).drop 0).take (1 * 4)) : List Value).all (fun v => one1 v) = true) ∧ true = true ∧ ((nI (IntKind.wrap .i64 ((x0 : Int) + 1)) : Value) = nI ((x0 : Int) + 1) ∧ (∃ x0' : Nat, (x0' ≤ List.length a) ∧ (List.length a - x0') < (List.length a - x0) ∧ true = true ∧ ((nI ((x0 : Int) + 1) : Value) = nI (x0' : Int) ∧ wk (.slice (some ⟨6, 0, none⟩) (x0 + 1) (x0 + 1) : Value) (slQ 6 1 x0' : Value) ∧ (.pointer (some ⟨0, 0, none⟩) : Value) = .pointer (some ⟨0, 0, none⟩) ∧ (.pointer (some ⟨2, 0, none⟩) : Value) = .pointer (some ⟨2, 0, none⟩) ∧ (.slice none 0 0 : Value) = .slice none 0 0 ∧ True) ∧ ((some (.cells true 0 [.iface (L.length + 1) (.agg ⟨(L.flatMap intC)⟩), nI (fldL L a n x0).2] : KObj) = some (.cells true 0 [.iface (L.length + 1) (.agg ⟨(L.flatMap intC)⟩), nI (fldL L a n x0').2] : KObj) ∧ belowO 3 (.cells true 0 [.iface (L.length + 1) (.agg ⟨(L.flatMap intC)⟩), nI (fldL L a n x0').2] : KObj) = true) ∧ (keptR 3 (.cells true 0 [nI w, nI h, slQ 1 2 a.length])) ∧ True) ∧ ((some (.cells true 4 ((((List.flatMap iceC (fldL L a n x0).1).drop 0).take (x0 * 4)) ++ ((([nI 0, nI 0, nI 0, nI 0] : List Value).drop 0).take (1 * 4))) : KObj) = some (.cells true 4 (List.flatMap iceC (fldL L a n x0').1) : KObj) ∧ belowO 3 (.cells true 4 (List.flatMap iceC (fldL L a n x0').1) : KObj) = true) ∧ True) ∧ (True))))))))) ∧ ((decide (((x0 : Int) : Int) < ((a.length : Nat) : Int))) = false → (true = true ∧ wk (slQ 3 1 x0 : Value) (rn (sg 2 [(2, 3)]) 3 (slQ 2 1 (List.length (fldL L a n a.length).1) : Value)) ∧ ((some (.cells true 0 [.iface (L.length + 1) (.agg ⟨(L.flatMap intC)⟩), nI (fldL L a n x0).2] : KObj) = some (.cells true 0 [.iface (L.length + 1) (.agg ⟨(L.flatMap intC)⟩), nI (fldL L a n a.length).2] : KObj) ∧ belowO 2 (.cells true 0 [.iface (L.length + 1) (.agg ⟨(L.flatMap intC)⟩), nI (fldL L a n a.length).2] : KObj) = true) ∧ True) ∧ ((some (.cells true 4 (List.flatMap iceC (fldL L a n x0).1) : KObj) = some (.cells true 4 (List.flatMap iceC (fldL L a n a.length).1) : KObj) ∧ belowO 2 (.cells true 4 (List.flatMap iceC (fldL L a n a.length).1) : KObj) = true) ∧ True)))))
theorem EField (L : List Int) (n : Int) (w h : Int) (a : List Bool) : vF prog msk (dm 0) 100000 true 40 true 12 [.pointer (some ⟨0, 0, none⟩), .agg #[nI w, nI h, slQ 1 2 a.length]] (readsW 0 0 (digC L n) [a.flatMap boolC]) (some [0])
  (.go 3 (.inv 3 (Nat) (0) [] [0, 2] (fun x0 => [(6, nI (x0 : Int)), (5, slQ 3 1 x0), (0, .pointer (some ⟨0, 0, none⟩)), (3, .pointer (some ⟨2, 0, none⟩)), (4, .slice none 0 0)]) (fun x0 => [(0, true, .cells true 0 [.iface (L.length + 1) (.agg ⟨(L.flatMap intC)⟩), nI (fldL L a n x0).2]), (2, true, .cells true 0 [nI w, nI h, slQ 1 2 a.length])]) (fun x0 => [(true, .cells true 4 (List.flatMap iceC (fldL L a n x0).1))]) (fun x0 => []) (fun x0 => (x0 ≤ List.length a)) (fun x0 => (List.length a - x0)) (fun x0 => .go 4 (.fork (.go 5 (.need (.val (.bool (a.getD x0 false)) (.go 0 (.fork (.go 0 (.answ [(0, .cells true 0 [.iface (L.length + 1) (.agg ⟨(L.flatMap intC)⟩), nI (fldL L a n x0).2])] (nI (dN L (fldL L a n x0).2 2)) [(0, .cells true 0 [.iface (L.length + 1) (.agg ⟨(L.flatMap intC)⟩), nI ((fldL L a n x0).2 + 1)])] [] (.go 0 (.answ [(0, .cells true 0 [.iface (L.length + 1) (.agg ⟨(L.flatMap intC)⟩), nI ((fldL L a n x0).2 + 1)])] (nI (dN L ((fldL L a n x0).2 + 1) 101)) [(0, .cells true 0 [.iface (L.length + 1) (.agg ⟨(L.flatMap intC)⟩), nI (((fldL L a n x0).2 + 1) + 1)])] [] (.go 0 (.slot 26 (nI ((dN L (fldL L a n x0).2 2) * (dN L ((fldL L a n x0).2 + 1) 101))) (.go 0 (.answ [(0, .cells true 0 [.iface (L.length + 1) (.agg ⟨(L.flatMap intC)⟩), nI (((fldL L a n x0).2 + 1) + 1)])] (nI (dN L (((fldL L a n x0).2 + 1) + 1) 401)) [(0, .cells true 0 [.iface (L.length + 1) (.agg ⟨(L.flatMap intC)⟩), nI ((((fldL L a n x0).2 + 1) + 1) + 1)])] [] (.go 0 (.answ [(0, .cells true 0 [.iface (L.length + 1) (.agg ⟨(L.flatMap intC)⟩), nI ((((fldL L a n x0).2 + 1) + 1) + 1)])] (nI (dN L ((((fldL L a n x0).2 + 1) + 1) + 1) 101)) [(0, .cells true 0 [.iface (L.length + 1) (.agg ⟨(L.flatMap intC)⟩), nI (((((fldL L a n x0).2 + 1) + 1) + 1) + 1)])] [] (.go 0 (.answ [(0, .cells true 0 [.iface (L.length + 1) (.agg ⟨(L.flatMap intC)⟩), nI (((((fldL L a n x0).2 + 1) + 1) + 1) + 1)])] (nI (dN L (((((fldL L a n x0).2 + 1) + 1) + 1) + 1) 4)) [(0, .cells true 0 [.iface (L.length + 1) (.agg ⟨(L.flatMap intC)⟩), nI ((((((fldL L a n x0).2 + 1) + 1) + 1) + 1) + 1)])] [] (.go 4 (.need (.go 2 (.slot 14 (nI ((x0 : Int) + 1)) (.go 0 (.again [(3, 6)])))))))))))))))))) (.go 2 (.need (.go 2 (.slot 14 (nI ((x0 : Int) + 1)) (.go 0 (.again [(3, 6)]))))))))))) (.go 1 (.keep (.again [(2, 3)])))))))
  (newKW ((readsW 0 0 (digC L n) [a.flatMap boolC]) : HT).n 3 0 (.cells true 0 [.iface (L.length + 1) (.agg ⟨(L.flatMap intC)⟩), nI (fldL L a n a.length).2]) (slQ 2 1 (List.length (fldL L a n a.length).1)) [(true, .cells true 4 (List.flatMap iceC (fldL L a n a.length).1))]) = RField L n w h a := by kernel_rfl
def RCurrents (L : List Int) (n : Int) (w h : Int) (a : List Bool) : Prop :=
  (((someR (.cells true 0 [.iface (L.length + 1) (.agg ⟨(L.flatMap intC)⟩), nI n])) ∧ True) ∧ (∀ H' : Heap, H'.length = 3 → (H'[0]? = some (.cells true 0 [.iface (L.length + 1) (.agg ⟨(L.flatMap intC)⟩), nI n] : KObj) ∧ True) → KCall prog 40 [.pointer (some ⟨0, 0, none⟩), nI 3001] H' [0] (Is (nI (dN L n 3001)) (List.set H' 0 (.cells true 0 [.iface (L.length + 1) (.agg ⟨(L.flatMap intC)⟩), nI (n + 1)] : KObj)))) ∧ ((nI (IntKind.wrap .i64 ((dN L n 3001) - 1500)) : Value) = nI ((dN L n 3001) - 1500) ∧ (((someR (.cells true 0 [.iface (L.length + 1) (.agg ⟨(L.flatMap intC)⟩), nI (n + 1)])) ∧ True) ∧ (∀ H' : Heap, H'.length = 3 → (H'[0]? = some (.cells true 0 [.iface (L.length + 1) (.agg ⟨(L.flatMap intC)⟩), nI (n + 1)] : KObj) ∧ True) → KCall prog 40 [.pointer (some ⟨0, 0, none⟩), nI 3001] H' [0] (Is (nI (dN L (n + 1) 3001)) (List.set H' 0 (.cells true 0 [.iface (L.length + 1) (.agg ⟨(L.flatMap intC)⟩), nI ((n + 1) + 1)] : KObj)))) ∧ ((nI (IntKind.wrap .i64 ((dN L (n + 1) 3001) - 1500)) : Value) = nI ((dN L (n + 1) 3001) - 1500) ∧ (true = true ∧ (0 ≤ List.length a) ∧ (true = true ∧ ((nI 0 : Value) = nI ((0 : Nat) : Int) ∧ wk (.slice none 0 0 : Value) (slQ 0 1 0 : Value) ∧ (.pointer (some ⟨0, 0, none⟩) : Value) = .pointer (some ⟨0, 0, none⟩) ∧ (.pointer (some ⟨2, 0, none⟩) : Value) = .pointer (some ⟨2, 0, none⟩) ∧ (.slice none 0 0 : Value) = .slice none 0 0 ∧ (nI ((dN L n 3001) - 1500) : Value) = nI ((dN L n 3001) - 1500) ∧ (nI ((dN L (n + 1) 3001) - 1500) : Value) = nI ((dN L (n + 1) 3001) - 1500) ∧ True) ∧ ((some (.cells true 0 [.iface (L.length + 1) (.agg ⟨(L.flatMap intC)⟩), nI ((n + 1) + 1)] : KObj) = some (.cells true 0 [.iface (L.length + 1) (.agg ⟨(L.flatMap intC)⟩), nI (curL L ((dN L n 3001) - 1500) ((dN L (n + 1) 3001) - 1500) ((n + 1) + 1) 0).2] : KObj) ∧ belowO 3 (.cells true 0 [.iface (L.length + 1) (.agg ⟨(L.flatMap intC)⟩), nI (curL L ((dN L n 3001) - 1500) ((dN L (n + 1) 3001) - 1500) ((n + 1) + 1) 0).2] : KObj) = true) ∧ (keptR 3 (.cells true 0 [nI w, nI h, slQ 1 2 a.length])) ∧ True) ∧ (True ∧ True) ∧ (True)) ∧ (∀ x2 : Nat, true = true) ∧ ∀ x2 : Nat, (x2 ≤ List.length a) → (((decide (((x2 : Int) : Int) < ((a.length : Nat) : Int))) = true → (((someR (.cells true 0 [.iface (L.length + 1) (.agg ⟨(L.flatMap intC)⟩), nI (curL L ((dN L n 3001) - 1500) ((dN L (n + 1) 3001) - 1500) ((n + 1) + 1) x2).2])) ∧ True) ∧ (∀ H' : Heap, H'.length = 4 → (H'[0]? = some (.cells true 0 [.iface (L.length + 1) (.agg ⟨(L.flatMap intC)⟩), nI (curL L ((dN L n 3001) - 1500) ((dN L (n + 1) 3001) - 1500) ((n + 1) + 1) x2).2] : KObj) ∧ True) → KCall prog 40 [.pointer (some ⟨0, 0, none⟩), nI 400] H' [0] (Is (nI (dN L (curL L ((dN L n 3001) - 1500) ((dN L (n + 1) 3001) - 1500) ((n + 1) + 1) x2).2 400)) (List.set H' 0 (.cells true 0 [.iface (L.length + 1) (.agg ⟨(L.flatMap intC)⟩), nI ((curL L ((dN L n 3001) - 1500) ((dN L (n + 1) 3001) - 1500) ((n + 1) + 1) x2).2 + 1)] : KObj)))) ∧ ((nI (IntKind.wrap .i64 (((dN L n 3001) - 1500) + (dN L (curL L ((dN L n 3001) - 1500) ((dN L (n + 1) 3001) - 1500) ((n + 1) + 1) x2).2 400))) : Value) = nI (((dN L n 3001) - 1500) + (dN L (curL L ((dN L n 3001) - 1500) ((dN L (n + 1) 3001) - 1500) ((n + 1) + 1) x2).2 400)) ∧ ((nI (IntKind.wrap .i64 ((((dN L n 3001) - 1500) + (dN L (curL L ((dN L n 3001) - 1500) ((dN L (n + 1) 3001) - 1500) ((n + 1) + 1) x2).2 400)) - 200)) : Value) = nI ((((dN L n 3001) - 1500) + (dN L (curL L ((dN L n 3001) - 1500) ((dN L (n + 1) 3001) - 1500) ((n + 1) + 1) x2).2 400)) - 200) ∧ (((someR (.cells true 0 [.iface (L.length + 1) (.agg ⟨(L.flatMap intC)⟩), nI ((curL L ((dN L n 3001) - 1500) ((dN L (n + 1) 3001) - 1500) ((n + 1) + 1) x2).2 + 1)])) ∧ True) ∧ (∀ H' : Heap, H'.length = 4 → (H'[0]? = some (.cells true 0 [.iface (L.length + 1) (.agg ⟨(L.flatMap intC)⟩), nI ((curL L ((dN L n 3001) - 1500) ((dN L (n + 1) 3001) - 1500) ((n + 1) + 1) x2).2 + 1)] : KObj) ∧ True) → KCall prog 40 [.pointer (some ⟨0, 0, none⟩), nI 400] H' [0] (Is (nI (dN L ((curL L ((dN L n 3001) - 1500) ((dN L (n + 1) 3001) - 1500) ((n + 1) + 1) x2).2 + 1) 400)) (List.set H' 0 (.cells true 0 [.iface (L.length + 1) (.agg ⟨(L.flatMap intC)⟩), nI (((curL L ((dN L n 3001) - 1500) ((dN L (n + 1) 3001) - 1500) ((n + 1) + 1) x2).2 + 1) + 1)] : KObj)))) ∧ ((nI (IntKind.wrap .i64 (((dN L (n + 1) 3001) - 1500) + (dN L ((curL L ((dN L n 3001) - 1500) ((dN L (n + 1) 3001) - 1500) ((n + 1) + 1) x2).2 + 1) 400))) : Value) = nI (((dN L (n + 1) 3001) - 1500) + (dN L ((curL L ((dN L n 3001) - 1500) ((dN L (n + 1) 3001) - 1500) ((n + 1) + 1) x2).2 + 1) 400)) ∧ ((nI (IntKind.wrap .i64 ((((dN L (n + 1) 3001) - 1500) + (dN L ((curL L ((dN L n 3001) - 1500) ((dN L (n + 1) 3001) - 1500) ((n + 1) + 1) x2).2 + 1) 400)) - 200)) : Value) = nI ((((dN L (n + 1) 3001) - 1500) + (dN L ((curL L ((dN L n 3001) - 1500) ((dN L (n + 1) 3001) - 1500) ((n + 1) + 1) x2).2 + 1) 400)) - 200) ∧ (((someR (.cells true 0 [.iface (L.length + 1) (.agg ⟨(L.flatMap intC)⟩), nI (((curL L ((dN L n 3001) - 1500) ((dN L (n + 1) 3001) - 1500) ((n + 1) + 1) x2).2 + 1) + 1)])) ∧ True) ∧ (∀ H' : Heap, H'.length = 4 → (H'[0]? = some (.cells true 0 [.iface (L.length + 1) (.agg ⟨(L.flatMap intC)⟩), nI (((curL L ((dN L n 3001) - 1500) ((dN L (n + 1) 3001) - 1500) ((n + 1) + 1) x2).2 + 1) + 1)] : KObj) ∧ True) → KCall prog 40 [.pointer (some ⟨0, 0, none⟩), nI 3] H' [0] (Is (nI (dN L (((curL L ((dN L n 3001) - 1500) ((dN L (n + 1) 3001) - 1500) ((n + 1) + 1) x2).2 + 1) + 1) 3)) (List.set H' 0 (.cells true 0 [.iface (L.length + 1) (.agg ⟨(L.flatMap intC)⟩), nI ((((curL L ((dN L n 3001) - 1500) ((dN L (n + 1) 3001) - 1500) ((n + 1) + 1) x2).2 + 1) + 1) + 1)] : KObj)))) ∧ (((someR (.cells true 0 [.iface (L.length + 1) (.agg ⟨(L.flatMap intC)⟩), nI ((((curL L ((dN L n 3001) - 1500) ((dN L (n + 1) 3001) - 1500) ((n + 1) + 1) x2).2 + 1) + 1) + 1)])) ∧ True) ∧ (∀ H' : Heap, H'.length = 4 → (H'[0]? = some (.cells true 0 [.iface (L.length + 1) (.agg ⟨(L.flatMap intC)⟩), nI ((((curL L ((dN L n 3001) - 1500) ((dN L (n + 1) 3001) - 1500) ((n + 1) + 1) x2).2 + 1) + 1) + 1)] : KObj) ∧ True) → KCall prog 40 [.pointer (some ⟨0, 0, none⟩), nI 250] H' [0] (Is (nI (dN L ((((curL L ((dN L n 3001) - 1500) ((dN L (n + 1) 3001) - 1500) ((n + 1) + 1) x2).2 + 1) + 1) + 1) 250)) (List.set H' 0 (.cells true 0 [.iface (L.length + 1) (.agg ⟨(L.flatMap intC)⟩), nI (((((curL L ((dN L n 3001) - 1500) ((dN L (n + 1) 3001) - 1500) ((n + 1) + 1) x2).2 + 1) + 1) + 1) + 1)] : KObj)))) ∧ ((nI (IntKind.wrap .i64 ((dN L (((curL L ((dN L n 3001) - 1500) ((dN L (n + 1) 3001) - 1500) ((n + 1) + 1) x2).2 + 1) + 1) 3) * (dN L ((((curL L ((dN L n 3001) - 1500) ((dN L (n + 1) 3001) - 1500) ((n + 1) + 1) x2).2 + 1) + 1) + 1) 250))) : Value) = nI ((dN L (((curL L ((dN L n 3001) - 1500) ((dN L (n + 1) 3001) - 1500) ((n + 1) + 1) x2).2 + 1) + 1) 3) * (dN L ((((curL L ((dN L n 3001) - 1500) ((dN L (n + 1) 3001) - 1500) ((n + 1) + 1) x2).2 + 1) + 1) + 1) 250)) ∧ ((nI (IntKind.wrap .i64 (((((dN L n 3001) - 1500) + (dN L (curL L ((dN L n 3001) - 1500) ((dN L (n + 1) 3001) - 1500) ((n + 1) + 1) x2).2 400)) - 200) + ((dN L (((curL L ((dN L n 3001) - 1500) ((dN L (n + 1) 3001) - 1500) ((n + 1) + 1) x2).2 + 1) + 1) 3) * (dN L ((((curL L ((dN L n 3001) - 1500) ((dN L (n + 1) 3001) - 1500) ((n + 1) + 1) x2).2 + 1) + 1) + 1) 250)))) : Value) = nI (((((dN L n 3001) - 1500) + (dN L (curL L ((dN L n 3001) - 1500) ((dN L (n + 1) 3001) - 1500) ((n + 1) + 1) x2).2 400)) - 200) + ((dN L (((curL L ((dN L n 3001) - 1500) ((dN L (n + 1) 3001) - 1500) ((n + 1) + 1) x2).2 + 1) + 1) 3) * (dN L ((((curL L ((dN L n 3001) - 1500) ((dN L (n + 1) 3001) - 1500) ((n + 1) + 1) x2).2 + 1) + 1) + 1) 250))) ∧ (∃ y7 : Int, (nI (if (2000 : Int) < (((((dN L n 3001) - 1500) + (dN L (curL L ((dN L n 3001) - 1500) ((dN L (n + 1) 3001) - 1500) ((n + 1) + 1) x2).2 400)) - 200) + ((dN L (((curL L ((dN L n 3001) - 1500) ((dN L (n + 1) 3001) - 1500) ((n + 1) + 1) x2).2 + 1) + 1) 3) * (dN L ((((curL L ((dN L n 3001) - 1500) ((dN L (n + 1) 3001) - 1500) ((n + 1) + 1) x2).2 + 1) + 1) + 1) 250))) then (2000 : Int) else (((((dN L n 3001) - 1500) + (dN L (curL L ((dN L n 3001) - 1500) ((dN L (n + 1) 3001) - 1500) ((n + 1) + 1) x2).2 400)) - 200) + ((dN L (((curL L ((dN L n 3001) - 1500) ((dN L (n + 1) 3001) - 1500) ((n + 1) + 1) x2).2 + 1) + 1) 3) * (dN L ((((curL L ((dN L n 3001) - 1500) ((dN L (n + 1) 3001) - 1500) ((n + 1) + 1) x2).2 + 1) + 1) + 1) 250)))) : Value) = nI y7 ∧ (((someR (.cells true 0 [.iface (L.length + 1) (.agg ⟨(L.flatMap intC)⟩), nI (((((curL L ((dN L n 3001) - 1500) ((dN L (n + 1) 3001) - 1500) ((n + 1) + 1) x2).2 + 1) + 1) + 1) + 1)])) ∧ True) ∧ (∀ H' : Heap, H'.length = 4 → (H'[0]? = some (.cells true 0 [.iface (L.length + 1) (.agg ⟨(L.flatMap intC)⟩), nI (((((curL L ((dN L n 3001) - 1500) ((dN L (n + 1) 3001) - 1500) ((n + 1) + 1) x2).2 + 1) + 1) + 1) + 1)] : KObj) ∧ True) → KCall prog 40 [.pointer (some ⟨0, 0, none⟩), nI 3] H' [0] (Is (nI (dN L (((((curL L ((dN L n 3001) - 1500) ((dN L (n + 1) 3001) - 1500) ((n + 1) + 1) x2).2 + 1) + 1) + 1) + 1) 3)) (List.set H' 0 (.cells true 0 [.iface (L.length + 1) (.agg ⟨(L.flatMap intC)⟩), nI ((((((curL L ((dN L n 3001) - 1500) ((dN L (n + 1) 3001) - 1500) ((n + 1) + 1) x2).2 + 1) + 1) + 1) + 1) + 1)] : KObj)))) ∧ (((someR (.cells true 0 [.iface (L.length + 1) (.agg ⟨(L.flatMap intC)⟩), nI ((((((curL L ((dN L n 3001) - 1500) ((dN L (n + 1) 3001) - 1500) ((n + 1) + 1) x2).2 + 1) + 1) + 1) + 1) + 1)])) ∧ True) ∧ (∀ H' : Heap, H'.length = 4 → (H'[0]? = some (.cells true 0 [.iface (L.length + 1) (.agg ⟨(L.flatMap intC)⟩), nI ((((((curL L ((dN L n 3001) - 1500) ((dN L (n + 1) 3001) - 1500) ((n + 1) + 1) x2).2 + 1) + 1) + 1) + 1) + 1)] : KObj) ∧ True) → KCall prog 40 [.pointer (some ⟨0, 0, none⟩), nI 250] H' [0] (Is (nI (dN L ((((((curL L ((dN L n 3001) - 1500) ((dN L (n + 1) 3001) - 1500) ((n + 1) + 1) x2).2 + 1) + 1) + 1) + 1) + 1) 250)) (List.set H' 0 (.cells true 0 [.iface (L.length + 1) (.agg ⟨(L.flatMap intC)⟩), nI (((((((curL L ((dN L n 3001) - 1500) ((dN L (n + 1) 3001) - 1500) ((n + 1) + 1) x2).2 + 1) + 1) + 1) + 1) + 1) + 1)] : KObj)))) ∧ ((nI (IntKind.wrap .i64 ((dN L (((((curL L ((dN L n 3001) - 1500) ((dN L (n + 1) 3001) - 1500) ((n + 1) + 1) x2).2 + 1) + 1) + 1) + 1) 3) * (dN L ((((((curL L ((dN L n 3001) - 1500) ((dN L (n + 1) 3001) - 1500) ((n + 1) + 1) x2).2 + 1) + 1) + 1) + 1) + 1) 250))) : Value) = nI ((dN L (((((curL L ((dN L n 3001) - 1500) ((dN L (n + 1) 3001) - 1500) ((n + 1) + 1) x2).2 + 1) + 1) + 1) + 1) 3) * (dN L ((((((curL L ((dN L n 3001) - 1500) ((dN L (n + 1) 3001) - 1500) ((n + 1) + 1) x2).2 + 1) + 1) + 1) + 1) + 1) 250)) ∧ ((nI (IntKind.wrap .i64 (((((dN L (n + 1) 3001) - 1500) + (dN L ((curL L ((dN L n 3001) - 1500) ((dN L (n + 1) 3001) - 1500) ((n + 1) + 1) x2).2 + 1) 400)) - 200) + ((dN L (((((curL L ((dN L n 3001) - 1500) ((dN L (n + 1) 3001) - 1500) ((n + 1) + 1) x2).2 + 1) + 1) + 1) + 1) 3) * (dN L ((((((curL L ((dN L n 3001) - 1500) ((dN L (n + 1) 3001) - 1500) ((n + 1) + 1) x2).2 + 1) + 1) + 1) + 1) + 1) 250)))) : Value) = nI (((((dN L (n + 1) 3001) - 1500) + (dN L ((curL L ((dN L n 3001) - 1500) ((dN L (n + 1) 3001) - 1500) ((n + 1) + 1) x2).2 + 1) 400)) - 200) + ((dN L (((((curL L ((dN L n 3001) - 1500) ((dN L (n + 1) 3001) - 1500) ((n + 1) + 1) x2).2 + 1) + 1) + 1) + 1) 3) * (dN L ((((((curL L ((dN L n 3001) - 1500) ((dN L (n + 1) 3001) - 1500) ((n + 1) + 1) x2).2 + 1) + 1) + 1) + 1) + 1) 250))) ∧ (∃ y10 : Int, (nI (if (2000 : Int) < (((((dN L (n + 1) 3001) - 1500) + (dN L ((curL L ((dN L n 3001) - 1500) ((dN L (n + 1) 3001) - 1500) ((n + 1) + 1) x2).2 + 1) 400)) - 200) + ((dN L (((((curL L ((dN L n 3001) - 1500) ((dN L (n + 1) 3001) - 1500) ((n + 1) + 1) x2).2 + 1) + 1) + 1) + 1) 3) * (dN L ((((((curL L ((dN L n 3001) - 1500) ((dN L (n + 1) 3001) - 1500) ((n + 1) + 1) x2).2 + 1) + 1) + 1) + 1) + 1) 250))) then (2000 : Int) else (((((dN L (n + 1) 3001) - 1500) + (dN L ((curL L ((dN L n 3001) - 1500) ((dN L (n + 1) 3001) - 1500) ((n + 1) + 1) x2).2 + 1) 400)) - 200) + ((dN L (((((curL L ((dN L n 3001) - 1500) ((dN L (n + 1) 3001) - 1500) ((n + 1) + 1) x2).2 + 1) + 1) + 1) + 1) 3) * (dN L ((((((curL L ((dN L n 3001) - 1500) ((dN L (n + 1) 3001) - 1500) ((n + 1) + 1) x2).2 + 1) + 1) + 1) + 1) + 1) 250)))) : Value) = nI y10 ∧ (((x2 + 1) * 32 ≤ 2 ^ 44 ∧ 1 ≠ 0 ∧ (x2 ≤ x2 ∧ 0 + x2 * 4 ≤ List.length (List.flatMap flowC (curL L ((dN L n 3001) - 1500) ((dN L (n + 1) 3001) - 1500) ((n + 1) + 1) x2).1)) ∧ (1 ≤ 1 ∧ 0 + 1 * 4 ≤ List.length ([nI ((((dN L n 3001) - 1500) + (dN L (curL L ((dN L n 3001) - 1500) ((dN L (n + 1) 3001) - 1500) ((n + 1) + 1) x2).2 400)) - 200), nI y7, nI ((((dN L (n + 1) 3001) - 1500) + (dN L ((curL L ((dN L n 3001) - 1500) ((dN L (n + 1) 3001) - 1500) ((n + 1) + 1) x2).2 + 1) 400)) - 200), nI y10] : List Value)) ∧ (((([nI ((((dN L n 3001) - 1500) + (dN L (curL L ((dN L n 3001) - 1500) ((dN L (n + 1) 3001) - 1500) ((n + 1) + 1) x2).2 400)) - 200), nI y7, nI ((((dN L (n + 1) 3001) - 1500) + (dN L ((curL L ((dN L n 3001) - 1500) ((dN L (n + 1) 3001) - 1500) ((n + 1) + 1) x2).2 + 1) 400)) - 200), nI y10] : List Value).drop 0).take (1 * 4)) : List Value).all (fun v => one1 v) = true) ∧ true = true ∧ ((nI (IntKind.wrap .i64 ((x2 : Int) + 1)) : Value) = nI ((x2 : Int) + 1) ∧ (∃ x2' : Nat, (x2' ≤ List.length a) ∧ (List.length a - x2') < (List.length a - x2) ∧ true = true ∧ ((nI ((x2 : Int) + 1) : Value) = nI (x2' : Int) ∧ wk (.slice (some ⟨5, 0, none⟩) (x2 + 1) (x2 + 1) : Value) (slQ 5 1 x2' : Value) ∧ (.pointer (some ⟨0, 0, none⟩) : Value) = .pointer (some ⟨0, 0, none⟩) ∧ (.pointer (some ⟨2, 0, none⟩) : Value) = .pointer (some ⟨2, 0, none⟩) ∧ (.slice none 0 0 : Value) = .slice none 0 0 ∧ (nI ((dN L n 3001) - 1500) : Value) = nI ((dN L n 3001) - 1500) ∧ (nI ((dN L (n + 1) 3001) - 1500) : Value) = nI ((dN L (n + 1) 3001) - 1500) ∧ True) ∧ ((some (.cells true 0 [.iface (L.length + 1) (.agg ⟨(L.flatMap intC)⟩), nI (((((((curL L ((dN L n 3001) - 1500) ((dN L (n + 1) 3001) - 1500) ((n + 1) + 1) x2).2 + 1) + 1) + 1) + 1) + 1) + 1)] : KObj) = some (.cells true 0 [.iface (L.length + 1) (.agg ⟨(L.flatMap intC)⟩), nI (curL L ((dN L n 3001) - 1500) ((dN L (n + 1) 3001) - 1500) ((n + 1) + 1) x2').2] : KObj) ∧ belowO 3 (.cells true 0 [.iface (L.length + 1) (.agg ⟨(L.flatMap intC)⟩), nI (curL L ((dN L n 3001) - 1500) ((dN L (n + 1) 3001) - 1500) ((n + 1) + 1) x2').2] : KObj) = true) ∧ (keptR 3 (.cells true 0 [nI w, nI h, slQ 1 2 a.length])) ∧ True) ∧ ((some (.cells true 4 ((((List.flatMap flowC (curL L ((dN L n 3001) - 1500) ((dN L (n + 1) 3001) - 1500) ((n + 1) + 1) x2).1).drop 0).take (x2 * 4)) ++ ((([nI ((((dN L n 3001) - 1500) + (dN L (curL L ((dN L n 3001) - 1500) ((dN L (n + 1) 3001) - 1500) ((n + 1) + 1) x2).2 400)) - 200), nI y7, nI ((((dN L (n + 1) 3001) - 1500) + (dN L ((curL L ((dN L n 3001) - 1500) ((dN L (n + 1) 3001) - 1500) ((n + 1) + 1) x2).2 + 1) 400)) - 200), nI y10] : List Value).drop 0).take (1 * 4))) : KObj) = some (.cells true 4 (List.flatMap flowC (curL L ((dN L n 3001) - 1500) ((dN L (n + 1) 3001) - 1500) ((n + 1) + 1) x2').1) : KObj) ∧ belowO 3 (.cells true 4 (List.flatMap flowC (curL L ((dN L n 3001) - 1500) ((dN L (n + 1) 3001) - 1500) ((n + 1) + 1) x2').1) : KObj) = true) ∧ True) ∧ (True))))))))))))))))))))) ∧ ((decide (((x2 : Int) : Int) < ((a.length : Nat) : Int))) = false → (true = true ∧ wk (slQ 3 1 x2 : Value) (rn (sg 2 [(2, 3)]) 3 (slQ 2 1 (List.length (curs L n a.length).1) : Value)) ∧ ((some (.cells true 0 [.iface (L.length + 1) (.agg ⟨(L.flatMap intC)⟩), nI (curL L ((dN L n 3001) - 1500) ((dN L (n + 1) 3001) - 1500) ((n + 1) + 1) x2).2] : KObj) = some (.cells true 0 [.iface (L.length + 1) (.agg ⟨(L.flatMap intC)⟩), nI (curs L n a.length).2] : KObj) ∧ belowO 2 (.cells true 0 [.iface (L.length + 1) (.agg ⟨(L.flatMap intC)⟩), nI (curs L n a.length).2] : KObj) = true) ∧ True) ∧ ((some (.cells true 4 (List.flatMap flowC (curL L ((dN L n 3001) - 1500) ((dN L (n + 1) 3001) - 1500) ((n + 1) + 1) x2).1) : KObj) = some (.cells true 4 (List.flatMap flowC (curs L n a.length).1) : KObj) ∧ belowO 2 (.cells true 4 (List.flatMap flowC (curs L n a.length).1) : KObj) = true) ∧ True)))))))))
theorem ECurrents (L : List Int) (n : Int) (w h : Int) (a : List Bool) : vF prog msk (dm 0) 100000 true 40 true 13 [.pointer (some ⟨0, 0, none⟩), .agg #[nI w, nI h, slQ 1 2 a.length]] (readsW 0 0 (digC L n) [a.flatMap boolC]) (some [0])
  (.go 2 (.answ [(0, .cells true 0 [.iface (L.length + 1) (.agg ⟨(L.flatMap intC)⟩), nI n])] (nI (dN L n 3001)) [(0, .cells true 0 [.iface (L.length + 1) (.agg ⟨(L.flatMap intC)⟩), nI (n + 1)])] [] (.go 0 (.slot 13 (nI ((dN L n 3001) - 1500)) (.go 0 (.answ [(0, .cells true 0 [.iface (L.length + 1) (.agg ⟨(L.flatMap intC)⟩), nI (n + 1)])] (nI (dN L (n + 1) 3001)) [(0, .cells true 0 [.iface (L.length + 1) (.agg ⟨(L.flatMap intC)⟩), nI ((n + 1) + 1)])] [] (.go 0 (.slot 16 (nI ((dN L (n + 1) 3001) - 1500)) (.go 3 (.inv 3 (Nat) (0) [] [0, 2] (fun x2 => [(8, nI (x2 : Int)), (7, slQ 3 1 x2), (0, .pointer (some ⟨0, 0, none⟩)), (3, .pointer (some ⟨2, 0, none⟩)), (4, .slice none 0 0), (5, nI ((dN L n 3001) - 1500)), (6, nI ((dN L (n + 1) 3001) - 1500))]) (fun x2 => [(0, true, .cells true 0 [.iface (L.length + 1) (.agg ⟨(L.flatMap intC)⟩), nI (curL L ((dN L n 3001) - 1500) ((dN L (n + 1) 3001) - 1500) ((n + 1) + 1) x2).2]), (2, true, .cells true 0 [nI w, nI h, slQ 1 2 a.length])]) (fun x2 => [(true, .cells true 4 (List.flatMap flowC (curL L ((dN L n 3001) - 1500) ((dN L (n + 1) 3001) - 1500) ((n + 1) + 1) x2).1))]) (fun x2 => []) (fun x2 => (x2 ≤ List.length a)) (fun x2 => (List.length a - x2)) (fun x2 => .go 4 (.fork (.go 1 (.answ [(0, .cells true 0 [.iface (L.length + 1) (.agg ⟨(L.flatMap intC)⟩), nI (curL L ((dN L n 3001) - 1500) ((dN L (n + 1) 3001) - 1500) ((n + 1) + 1) x2).2])] (nI (dN L (curL L ((dN L n 3001) - 1500) ((dN L (n + 1) 3001) - 1500) ((n + 1) + 1) x2).2 400)) [(0, .cells true 0 [.iface (L.length + 1) (.agg ⟨(L.flatMap intC)⟩), nI ((curL L ((dN L n 3001) - 1500) ((dN L (n + 1) 3001) - 1500) ((n + 1) + 1) x2).2 + 1)])] [] (.go 0 (.slot 27 (nI (((dN L n 3001) - 1500) + (dN L (curL L ((dN L n 3001) - 1500) ((dN L (n + 1) 3001) - 1500) ((n + 1) + 1) x2).2 400))) (.go 0 (.slot 28 (nI ((((dN L n 3001) - 1500) + (dN L (curL L ((dN L n 3001) - 1500) ((dN L (n + 1) 3001) - 1500) ((n + 1) + 1) x2).2 400)) - 200)) (.go 1 (.answ [(0, .cells true 0 [.iface (L.length + 1) (.agg ⟨(L.flatMap intC)⟩), nI ((curL L ((dN L n 3001) - 1500) ((dN L (n + 1) 3001) - 1500) ((n + 1) + 1) x2).2 + 1)])] (nI (dN L ((curL L ((dN L n 3001) - 1500) ((dN L (n + 1) 3001) - 1500) ((n + 1) + 1) x2).2 + 1) 400)) [(0, .cells true 0 [.iface (L.length + 1) (.agg ⟨(L.flatMap intC)⟩), nI (((curL L ((dN L n 3001) - 1500) ((dN L (n + 1) 3001) - 1500) ((n + 1) + 1) x2).2 + 1) + 1)])] [] (.go 0 (.slot 32 (nI (((dN L (n + 1) 3001) - 1500) + (dN L ((curL L ((dN L n 3001) - 1500) ((dN L (n + 1) 3001) - 1500) ((n + 1) + 1) x2).2 + 1) 400))) (.go 0 (.slot 33 (nI ((((dN L (n + 1) 3001) - 1500) + (dN L ((curL L ((dN L n 3001) - 1500) ((dN L (n + 1) 3001) - 1500) ((n + 1) + 1) x2).2 + 1) 400)) - 200)) (.go 5 (.answ [(0, .cells true 0 [.iface (L.length + 1) (.agg ⟨(L.flatMap intC)⟩), nI (((curL L ((dN L n 3001) - 1500) ((dN L (n + 1) 3001) - 1500) ((n + 1) + 1) x2).2 + 1) + 1)])] (nI (dN L (((curL L ((dN L n 3001) - 1500) ((dN L (n + 1) 3001) - 1500) ((n + 1) + 1) x2).2 + 1) + 1) 3)) [(0, .cells true 0 [.iface (L.length + 1) (.agg ⟨(L.flatMap intC)⟩), nI ((((curL L ((dN L n 3001) - 1500) ((dN L (n + 1) 3001) - 1500) ((n + 1) + 1) x2).2 + 1) + 1) + 1)])] [] (.go 0 (.answ [(0, .cells true 0 [.iface (L.length + 1) (.agg ⟨(L.flatMap intC)⟩), nI ((((curL L ((dN L n 3001) - 1500) ((dN L (n + 1) 3001) - 1500) ((n + 1) + 1) x2).2 + 1) + 1) + 1)])] (nI (dN L ((((curL L ((dN L n 3001) - 1500) ((dN L (n + 1) 3001) - 1500) ((n + 1) + 1) x2).2 + 1) + 1) + 1) 250)) [(0, .cells true 0 [.iface (L.length + 1) (.agg ⟨(L.flatMap intC)⟩), nI (((((curL L ((dN L n 3001) - 1500) ((dN L (n + 1) 3001) - 1500) ((n + 1) + 1) x2).2 + 1) + 1) + 1) + 1)])] [] (.go 0 (.slot 41 (nI ((dN L (((curL L ((dN L n 3001) - 1500) ((dN L (n + 1) 3001) - 1500) ((n + 1) + 1) x2).2 + 1) + 1) 3) * (dN L ((((curL L ((dN L n 3001) - 1500) ((dN L (n + 1) 3001) - 1500) ((n + 1) + 1) x2).2 + 1) + 1) + 1) 250))) (.go 0 (.slot 42 (nI (((((dN L n 3001) - 1500) + (dN L (curL L ((dN L n 3001) - 1500) ((dN L (n + 1) 3001) - 1500) ((n + 1) + 1) x2).2 400)) - 200) + ((dN L (((curL L ((dN L n 3001) - 1500) ((dN L (n + 1) 3001) - 1500) ((n + 1) + 1) x2).2 + 1) + 1) 3) * (dN L ((((curL L ((dN L n 3001) - 1500) ((dN L (n + 1) 3001) - 1500) ((n + 1) + 1) x2).2 + 1) + 1) + 1) 250)))) (.go 0 (.bind Int (fun y7 => .slot 43 (nI y7) (.go 3 (.answ [(0, .cells true 0 [.iface (L.length + 1) (.agg ⟨(L.flatMap intC)⟩), nI (((((curL L ((dN L n 3001) - 1500) ((dN L (n + 1) 3001) - 1500) ((n + 1) + 1) x2).2 + 1) + 1) + 1) + 1)])] (nI (dN L (((((curL L ((dN L n 3001) - 1500) ((dN L (n + 1) 3001) - 1500) ((n + 1) + 1) x2).2 + 1) + 1) + 1) + 1) 3)) [(0, .cells true 0 [.iface (L.length + 1) (.agg ⟨(L.flatMap intC)⟩), nI ((((((curL L ((dN L n 3001) - 1500) ((dN L (n + 1) 3001) - 1500) ((n + 1) + 1) x2).2 + 1) + 1) + 1) + 1) + 1)])] [] (.go 0 (.answ [(0, .cells true 0 [.iface (L.length + 1) (.agg ⟨(L.flatMap intC)⟩), nI ((((((curL L ((dN L n 3001) - 1500) ((dN L (n + 1) 3001) - 1500) ((n + 1) + 1) x2).2 + 1) + 1) + 1) + 1) + 1)])] (nI (dN L ((((((curL L ((dN L n 3001) - 1500) ((dN L (n + 1) 3001) - 1500) ((n + 1) + 1) x2).2 + 1) + 1) + 1) + 1) + 1) 250)) [(0, .cells true 0 [.iface (L.length + 1) (.agg ⟨(L.flatMap intC)⟩), nI (((((((curL L ((dN L n 3001) - 1500) ((dN L (n + 1) 3001) - 1500) ((n + 1) + 1) x2).2 + 1) + 1) + 1) + 1) + 1) + 1)])] [] (.go 0 (.slot 51 (nI ((dN L (((((curL L ((dN L n 3001) - 1500) ((dN L (n + 1) 3001) - 1500) ((n + 1) + 1) x2).2 + 1) + 1) + 1) + 1) 3) * (dN L ((((((curL L ((dN L n 3001) - 1500) ((dN L (n + 1) 3001) - 1500) ((n + 1) + 1) x2).2 + 1) + 1) + 1) + 1) + 1) 250))) (.go 0 (.slot 52 (nI (((((dN L (n + 1) 3001) - 1500) + (dN L ((curL L ((dN L n 3001) - 1500) ((dN L (n + 1) 3001) - 1500) ((n + 1) + 1) x2).2 + 1) 400)) - 200) + ((dN L (((((curL L ((dN L n 3001) - 1500) ((dN L (n + 1) 3001) - 1500) ((n + 1) + 1) x2).2 + 1) + 1) + 1) + 1) 3) * (dN L ((((((curL L ((dN L n 3001) - 1500) ((dN L (n + 1) 3001) - 1500) ((n + 1) + 1) x2).2 + 1) + 1) + 1) + 1) + 1) 250)))) (.go 0 (.bind Int (fun y10 => .slot 53 (nI y10) (.go 2 (.need (.go 2 (.slot 23 (nI ((x2 : Int) + 1)) (.go 0 (.again [(3, 5)])))))))))))))))))))))))))))))))))))))))) (.go 1 (.keep (.again [(2, 3)])))))))))))))))
  (newKW ((readsW 0 0 (digC L n) [a.flatMap boolC]) : HT).n 3 0 (.cells true 0 [.iface (L.length + 1) (.agg ⟨(L.flatMap intC)⟩), nI (curs L n a.length).2]) (slQ 2 1 (List.length (curs L n a.length).1)) [(true, .cells true 4 (List.flatMap flowC (curs L n a.length).1))]) = RCurrents L n w h a := by kernel_rfl
def RMoving (L : List Int) (n : Int) (l : List Flow) : Prop :=
  (true = true ∧ (0 ≤ List.length l) ∧ (true = true ∧ ((nI 0 : Value) = nI ((0 : Nat) : Int) ∧ wk (.slice none 0 0 : Value) (slQ 0 1 0 : Value) ∧ wkR (slQ 1 2 l.length) ∧ (.pointer (some ⟨0, 0, none⟩) : Value) = .pointer (some ⟨0, 0, none⟩) ∧ True) ∧ ((some (.cells true 0 [.iface (L.length + 1) (.agg ⟨(L.flatMap intC)⟩), nI n] : KObj) = some (.cells true 0 [.iface (L.length + 1) (.agg ⟨(L.flatMap intC)⟩), nI (mvgL L l n 0).2] : KObj) ∧ belowO 2 (.cells true 0 [.iface (L.length + 1) (.agg ⟨(L.flatMap intC)⟩), nI (mvgL L l n 0).2] : KObj) = true) ∧ True) ∧ (True ∧ True) ∧ (True)) ∧ (∀ x0 : Nat, true = true) ∧ ∀ x0 : Nat, (x0 ≤ List.length l) → (((decide (((x0 : Int) : Int) < ((l.length : Nat) : Int))) = true → (((0 : Int) ≤ (x0 : Int) ∧ ((x0 : Int) : Int) < ((l.length : Nat) : Int)) ∧ ((partA 4 (l.flatMap flowC) (0 + Int.toNat (x0 : Int) * 4) = some (.agg #[nI (l.getD x0 zeroF).x.lo, nI (l.getD x0 zeroF).x.hi, nI (l.getD x0 zeroF).y.lo, nI (l.getD x0 zeroF).y.hi])) ∧ ((True) ∧ (∀ H' : Heap, H'.length = 3 → (True) → KCall prog 26 [.agg #[nI (l.getD x0 zeroF).x.lo, nI (l.getD x0 zeroF).x.hi, nI (l.getD x0 zeroF).y.lo, nI (l.getD x0 zeroF).y.hi]] H' [] (Is (.tuple #[slQ 3 1 (List.length (fMoves (l.getD x0 zeroF)).1), nI (fMoves (l.getD x0 zeroF)).2]) (H' ++ [(.cells true 2 (List.flatMap moveC (fMoves (l.getD x0 zeroF)).1) : KObj)]))) ∧ (((((fMoves (l.getD x0 zeroF)).2 : Int) != 0) = true → (true = true ∧ wk (.tuple #[.slice none 0 0, .bool false] : Value) (rn (sg 2 []) 3 (.tuple #[slQ 2 1 (List.length (mvgL L l n l.length).1), .bool true] : Value)) ∧ ((some (.cells true 0 [.iface (L.length + 1) (.agg ⟨(L.flatMap intC)⟩), nI (mvgL L l n x0).2] : KObj) = some (.cells true 0 [.iface (L.length + 1) (.agg ⟨(L.flatMap intC)⟩), nI (mvgL L l n l.length).2] : KObj) ∧ belowO 2 (.cells true 0 [.iface (L.length + 1) (.agg ⟨(L.flatMap intC)⟩), nI (mvgL L l n l.length).2] : KObj) = true) ∧ True) ∧ (True ∧ True))) ∧ ((((fMoves (l.getD x0 zeroF)).2 : Int) != 0) = false → (((((((List.length (fMoves (l.getD x0 zeroF)).1) : Nat) : Int) : Int) == 0) = true → (true = true ∧ wk (.tuple #[.slice none 0 0, .bool false] : Value) (rn (sg 2 []) 3 (.tuple #[slQ 2 1 (List.length (mvgL L l n l.length).1), .bool true] : Value)) ∧ ((some (.cells true 0 [.iface (L.length + 1) (.agg ⟨(L.flatMap intC)⟩), nI (mvgL L l n x0).2] : KObj) = some (.cells true 0 [.iface (L.length + 1) (.agg ⟨(L.flatMap intC)⟩), nI (mvgL L l n l.length).2] : KObj) ∧ belowO 2 (.cells true 0 [.iface (L.length + 1) (.agg ⟨(L.flatMap intC)⟩), nI (mvgL L l n l.length).2] : KObj) = true) ∧ True) ∧ (True ∧ True))) ∧ ((((((List.length (fMoves (l.getD x0 zeroF)).1) : Nat) : Int) : Int) == 0) = false → (((someR (.cells true 0 [.iface (L.length + 1) (.agg ⟨(L.flatMap intC)⟩), nI (mvgL L l n x0).2])) ∧ True) ∧ (∀ H' : Heap, H'.length = 4 → (H'[0]? = some (.cells true 0 [.iface (L.length + 1) (.agg ⟨(L.flatMap intC)⟩), nI (mvgL L l n x0).2] : KObj) ∧ True) → KCall prog 40 [.pointer (some ⟨0, 0, none⟩), nI (((List.length (fMoves (l.getD x0 zeroF)).1) : Nat) : Int)] H' [0] (Is (nI (dN L (mvgL L l n x0).2 (((List.length (fMoves (l.getD x0 zeroF)).1) : Nat) : Int))) (List.set H' 0 (.cells true 0 [.iface (L.length + 1) (.agg ⟨(L.flatMap intC)⟩), nI ((mvgL L l n x0).2 + 1)] : KObj)))) ∧ (((0 : Int) ≤ (dN L (mvgL L l n x0).2 (((List.length (fMoves (l.getD x0 zeroF)).1) : Nat) : Int)) ∧ ((dN L (mvgL L l n x0).2 (((List.length (fMoves (l.getD x0 zeroF)).1) : Nat) : Int)) : Int) < (((List.length (fMoves (l.getD x0 zeroF)).1) : Nat) : Int)) ∧ ((partA 2 (List.flatMap moveC (fMoves (l.getD x0 zeroF)).1) (0 + Int.toNat (dN L (mvgL L l n x0).2 (((List.length (fMoves (l.getD x0 zeroF)).1) : Nat) : Int)) * 2) = some (.agg #[nI (List.getD (fMoves (l.getD x0 zeroF)).1 (dN L (mvgL L l n x0).2 (((List.length (fMoves (l.getD x0 zeroF)).1) : Nat) : Int)).toNat zeroM).dx, nI (List.getD (fMoves (l.getD x0 zeroF)).1 (dN L (mvgL L l n x0).2 (((List.length (fMoves (l.getD x0 zeroF)).1) : Nat) : Int)).toNat zeroM).dy])) ∧ (((x0 + 1) * 16 ≤ 2 ^ 44 ∧ 1 ≠ 0 ∧ (x0 ≤ x0 ∧ 0 + x0 * 2 ≤ List.length (List.flatMap moveC (mvgL L l n x0).1)) ∧ (1 ≤ 1 ∧ 0 + 1 * 2 ≤ List.length ([nI (List.getD (fMoves (l.getD x0 zeroF)).1 (dN L (mvgL L l n x0).2 (((List.length (fMoves (l.getD x0 zeroF)).1) : Nat) : Int)).toNat zeroM).dx, nI (List.getD (fMoves (l.getD x0 zeroF)).1 (dN L (mvgL L l n x0).2 (((List.length (fMoves (l.getD x0 zeroF)).1) : Nat) : Int)).toNat zeroM).dy] : List Value)) ∧ (((([nI (List.getD (fMoves (l.getD x0 zeroF)).1 (dN L (mvgL L l n x0).2 (((List.length (fMoves (l.getD x0 zeroF)).1) : Nat) : Int)).toNat zeroM).dx, nI (List.getD (fMoves (l.getD x0 zeroF)).1 (dN L (mvgL L l n x0).2 (((List.length (fMoves (l.getD x0 zeroF)).1) : Nat) : Int)).toNat zeroM).dy] : List Value).drop 0).take (1 * 2)) : List Value).all (fun v => one1 v) = true) ∧ true = true ∧ ((nI (IntKind.wrap .i64 ((x0 : Int) + 1)) : Value) = nI ((x0 : Int) + 1) ∧ (∃ x0' : Nat, (x0' ≤ List.length l) ∧ (List.length l - x0') < (List.length l - x0) ∧ true = true ∧ ((nI ((x0 : Int) + 1) : Value) = nI (x0' : Int) ∧ wk (.slice (some ⟨5, 0, none⟩) (x0 + 1) (x0 + 1) : Value) (slQ 5 1 x0' : Value) ∧ wkR (slQ 1 2 l.length) ∧ (.pointer (some ⟨0, 0, none⟩) : Value) = .pointer (some ⟨0, 0, none⟩) ∧ True) ∧ ((some (.cells true 0 [.iface (L.length + 1) (.agg ⟨(L.flatMap intC)⟩), nI ((mvgL L l n x0).2 + 1)] : KObj) = some (.cells true 0 [.iface (L.length + 1) (.agg ⟨(L.flatMap intC)⟩), nI (mvgL L l n x0').2] : KObj) ∧ belowO 2 (.cells true 0 [.iface (L.length + 1) (.agg ⟨(L.flatMap intC)⟩), nI (mvgL L l n x0').2] : KObj) = true) ∧ True) ∧ ((some (.cells true 2 ((((List.flatMap moveC (mvgL L l n x0).1).drop 0).take (x0 * 2)) ++ ((([nI (List.getD (fMoves (l.getD x0 zeroF)).1 (dN L (mvgL L l n x0).2 (((List.length (fMoves (l.getD x0 zeroF)).1) : Nat) : Int)).toNat zeroM).dx, nI (List.getD (fMoves (l.getD x0 zeroF)).1 (dN L (mvgL L l n x0).2 (((List.length (fMoves (l.getD x0 zeroF)).1) : Nat) : Int)).toNat zeroM).dy] : List Value).drop 0).take (1 * 2))) : KObj) = some (.cells true 2 (List.flatMap moveC (mvgL L l n x0').1) : KObj) ∧ belowO 2 (.cells true 2 (List.flatMap moveC (mvgL L l n x0').1) : KObj) = true) ∧ True) ∧ (True))))))))))))))) ∧ ((decide (((x0 : Int) : Int) < ((l.length : Nat) : Int))) = false → (true = true ∧ wk (.tuple #[slQ 2 1 x0, .bool true] : Value) (rn (sg 2 [(2, 2)]) 3 (.tuple #[slQ 2 1 (List.length (mvgL L l n l.length).1), .bool true] : Value)) ∧ ((some (.cells true 0 [.iface (L.length + 1) (.agg ⟨(L.flatMap intC)⟩), nI (mvgL L l n x0).2] : KObj) = some (.cells true 0 [.iface (L.length + 1) (.agg ⟨(L.flatMap intC)⟩), nI (mvgL L l n l.length).2] : KObj) ∧ belowO 2 (.cells true 0 [.iface (L.length + 1) (.agg ⟨(L.flatMap intC)⟩), nI (mvgL L l n l.length).2] : KObj) = true) ∧ True) ∧ ((some (.cells true 2 (List.flatMap moveC (mvgL L l n x0).1) : KObj) = some (.cells true 2 (List.flatMap moveC (mvgL L l n l.length).1) : KObj) ∧ belowO 2 (.cells true 2 (List.flatMap moveC (mvgL L l n l.length).1) : KObj) = true) ∧ True)))))
theorem EMoving (L : List Int) (n : Int) (l : List Flow) : vF prog msk (dm 0) 100000 true 40 true 14 [.pointer (some ⟨0, 0, none⟩), slQ 1 2 l.length] (readsW 0 0 (digC L n) [l.flatMap flowC]) (some [0])
  (.go 3 (.inv 3 (Nat) (0) [] [0] (fun x0 => [(7, nI (x0 : Int)), (6, slQ 2 1 x0), (1, slQ 1 2 l.length), (0, .pointer (some ⟨0, 0, none⟩))]) (fun x0 => [(0, true, .cells true 0 [.iface (L.length + 1) (.agg ⟨(L.flatMap intC)⟩), nI (mvgL L l n x0).2])]) (fun x0 => [(true, .cells true 2 (List.flatMap moveC (mvgL L l n x0).1))]) (fun x0 => []) (fun x0 => (x0 ≤ List.length l)) (fun x0 => (List.length l - x0)) (fun x0 => .go 3 (.fork (.go 1 (.need (.val (.agg #[nI (l.getD x0 zeroF).x.lo, nI (l.getD x0 zeroF).x.hi, nI (l.getD x0 zeroF).y.lo, nI (l.getD x0 zeroF).y.hi]) (.ans [] (.tuple #[slQ 3 1 (List.length (fMoves (l.getD x0 zeroF)).1), nI (fMoves (l.getD x0 zeroF)).2]) [.cells true 2 (List.flatMap moveC (fMoves (l.getD x0 zeroF)).1)] (.go 7 (.gfork (.go 3 (.keep (.again []))) (.go 3 (.fork (.go 1 (.keep (.again []))) (.go 4 (.answ [(0, .cells true 0 [.iface (L.length + 1) (.agg ⟨(L.flatMap intC)⟩), nI (mvgL L l n x0).2])] (nI (dN L (mvgL L l n x0).2 (((List.length (fMoves (l.getD x0 zeroF)).1) : Nat) : Int))) [(0, .cells true 0 [.iface (L.length + 1) (.agg ⟨(L.flatMap intC)⟩), nI ((mvgL L l n x0).2 + 1)])] [] (.need (.val (.agg #[nI (List.getD (fMoves (l.getD x0 zeroF)).1 (dN L (mvgL L l n x0).2 (((List.length (fMoves (l.getD x0 zeroF)).1) : Nat) : Int)).toNat zeroM).dx, nI (List.getD (fMoves (l.getD x0 zeroF)).1 (dN L (mvgL L l n x0).2 (((List.length (fMoves (l.getD x0 zeroF)).1) : Nat) : Int)).toNat zeroM).dy]) (.go 0 (.need (.go 2 (.slot 15 (nI ((x0 : Int) + 1)) (.go 0 (.again [(2, 5)])))))))))))))))))) (.go 2 (.keep (.again [(2, 2)])))))))
  (newKW ((readsW 0 0 (digC L n) [l.flatMap flowC]) : HT).n 3 0 (.cells true 0 [.iface (L.length + 1) (.agg ⟨(L.flatMap intC)⟩), nI (mvgL L l n l.length).2]) (.tuple #[slQ 2 1 (List.length (mvgL L l n l.length).1), .bool true]) [(true, .cells true 2 (List.flatMap moveC (mvgL L l n l.length).1))]) = RMoving L n l := by kernel_rfl
end
end Go.Proofs.Ytkkgnalgmebfjaa
/- Drift: functions that write the numbers' block. No condition. -/
namespace Go.Proofs.Ytkkgnalgmebfjaa
open Go Go.K
set_option maxRecDepth 100000
set_option linter.unusedVariables false
set_option linter.unusedSimpArgs false
noncomputable section
attribute [local irreducible] vF
theorem all_belowD (n : Nat) (L : List Int) : (L.flatMap intC).all (belowD n) = true := by
  rw [List.all_flatMap, List.all_eq_true]
  intro r _; rfl
theorem plainDig (m : Nat) (L : List Int) (n : Int) : (digC L n).all (belowC m) = true := by
  show ((L.flatMap intC).all (belowD m) && (true && true)) = true
  rw [all_belowD]; rfl
theorem digO (m : Nat) (L : List Int) (n : Int) : belowO m (.cells true 0 (digC L n)) = true := plainDig m L n
/-- A function that writes the numbers' block and answers with new lists. -/
theorem valW {f : FuncId} {args : List Value} {css : List (List Value)} {h : Hint} (v : Nat → Value) {c0 c1 : List Value} {new : List KObj}
    (hc : vF prog msk (dm 0) 100000 true 40 true f args (readsW 0 0 c0 css) (some [0]) h (newKW (readsW 0 0 c0 css).n 3 0 (.cells true 0 c1) (v (css.length + 1)) (new.map fun o => (true, o))))
    (hp0 : c0.all (belowC 0) = true) (hp1 : c1.all (belowC 0) = true) (hp : plainAll css) (hn : newAll new) (h1 : rnOk 3 (v (css.length + 1)) = true) (h2 : rn (sgOnly (0 + 1 + css.length)) 3 (v (css.length + 1)) = v (css.length + 1)) (h3 : ∀ j, rn (sgUp (0 + 1 + css.length) j) 3 (v (css.length + 1)) = v j)
    {H : Heap} {D : Nat} (hD : H[D]? = some (.cells true 0 c0)) {ids : List Nat} (hi : idsOk H ids css) (hne : D ∉ ids) {args' : List Value} (ha : args.map (rn (sgRW 0 D ids) 3) = args') :
    KCall prog f args' H [D] (Is (v H.length) (H.set D (.cells true 0 c1) ++ new)) := by
  subst ha
  have e0 : (new.map fun o => (true, o)).map (·.2) = new := by rw [List.map_map]; exact List.map_id _
  have key := vcW (H := H) (D := D) (z := 0) (c0 := c0) (c1 := c1) mskOk mixed 40 (v := v (css.length + 1)) (new := new.map fun o => (true, o)) (by rw [glob0]; exact hc) hp0 hp1 (plainAll_spec hp) h1 (by rw [glob0]; exact h2) (by rw [e0]; exact (newAll_spec (σ := fun _ => none) hn).1) (by rw [e0]; exact (newAll_spec hn).2) hD ids (idsOk_len hi) (idsOk_spec hi) hne
  rw [glob0, e0, (newAll_spec hn).2, h3] at key
  exact key
theorem dN_bd (L : List Int) (n : Int) {m : Int} (hm : 1 ≤ m) : 0 ≤ dN L n m ∧ dN L n m < m := by
  unfold dN
  exact ⟨Int.emod_nonneg _ (by omega), Int.emod_lt_of_pos _ (by omega)⟩
theorem tmod_len {L : List Int} {n : Int} (hn : 0 ≤ n) (hL : 0 < L.length) : 0 ≤ Int.tmod n ((L.length : Nat) : Int) ∧ Int.tmod n ((L.length : Nat) : Int) < ((L.length : Nat) : Int) := by
  rw [Int.tmod_eq_emod_of_nonneg hn]
  exact ⟨Int.emod_nonneg _ (by omega), Int.emod_lt_of_pos _ (by omega)⟩
theorem kNext (L : List Int) (n m : Int) (hn : 0 ≤ n ∧ n ≤ 1000000000) (hm : 1 ≤ m ∧ m ≤ 1000000000) {H : Heap} {D : Nat} (hD : H[D]? = some (.cells true 0 (digC L n))) :
    KCall prog F.polynyalaw02_Digits_Next [.pointer (some ⟨D, 0, none⟩), .int .i64 m] H [D] (Is (.int .i64 (dN L n m)) (H.set D (.cells true 0 (digC L (n + 1))))) := by
  have key : KCall prog F.polynyalaw02_Digits_Next [.pointer (some ⟨D, 0, none⟩), .int .i64 m] H [D] (Is (.int .i64 (dN L n m)) (H.set D (.cells true 0 (digC L (n + 1))) ++ [])) := by
    refine valW (fun _ => .int .i64 (dN L n m)) (css := []) (new := []) (Eq.mpr (ENext L n m) ?_) (plainDig 0 L n) (plainDig 0 L (n + 1)) trivial trivial rfl rfl (fun _ => rfl) hD (ids := []) trivial (by simp) rfl
    unfold RNext
    have hw : IntKind.wrap .i64 (n + 1) = n + 1 := wI64 (by omega)
    refine forkD (fun k => ?_) (fun k => ?_)
    · have hL : 0 < L.length := by omega
      have hd : dVal L n = IntKind.wrap .i64 (L.getD (Int.toNat (Int.tmod n ((L.length : Nat) : Int))) 0 + IntKind.wrap .i64 (Int.tdiv n ((L.length : Nat) : Int))) := if_pos hL
      have hb := tmod_len hn.1 hL
      refine ⟨by omega, hb, intAt (by omega) (by omega), by omega, _, rfl, _, rfl, trivial, fun H' _ _ => kPick _ _ (by omega) (by omega) H', rfl, ?_, ⟨⟨by rw [hw], digO _ _ _⟩, trivial⟩, trivial⟩
      unfold dN
      rw [hd]; exact wk_refl _
    · have hd : dVal L n = 0 := if_neg (by omega)
      refine ⟨trivial, fun H' _ _ => kPick _ _ (by omega) (by omega) H', rfl, ?_, ⟨⟨by rw [hw], digO _ _ _⟩, trivial⟩, trivial⟩
      unfold dN
      rw [hd]; exact wk_refl _
  rw [List.append_nil] at key
  exact key
end
end Go.Proofs.Ytkkgnalgmebfjaa
