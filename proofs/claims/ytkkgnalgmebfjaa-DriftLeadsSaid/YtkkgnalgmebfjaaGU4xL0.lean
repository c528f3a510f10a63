/- Drift: DriftLeads returns true. No condition. -/
import Derived.Test.YtkkgnalgmebfjaaGE0xU3g
import Derived.Test.YtkkgnalgmebfjaaGA4xU3
import Derived.Test.YtkkgnalgmebfjaaGK27xE1a
import Derived.Test.YtkkgnalgmebfjaaRows
import Derived.JoinedCond
namespace Go.Proofs.Ytkkgnalgmebfjaa
open Go Go.K
set_option maxRecDepth 100000
set_option linter.unusedVariables false
set_option linter.unusedSimpArgs false
noncomputable section
attribute [local irreducible] vF
theorem kkept0 (w h : Int) (a : List Bool) (ha : a.length ≤ 4294967296) {H : Heap} {i0 i1 : Nat} {o0 o1 : Bool} {z0 z1 : Nat} (e0 : H[i0]? = some (.cells o0 z0 (a.flatMap boolC))) (e1 : H[i1]? = some (.cells o1 z1 (a.flatMap boolC))) :
    KCall prog F.polynyalaw02_kept [basV w h i0 a.length, basV w h i1 a.length, .slice none 0 0, .slice none 0 0] H [] (Is (.bool true) H) := by
  refine valR (Eq.mpr (Ekept0 _ w h a) ?_) (twoCs (plainBL 0 a) (plainBL 0 a)) rfl [i0, i1] rfl (twoId e0 e1)
  unfold Rkept0
  exact forkNe (fun q => absurd rfl q) (fun _ => forkNe (fun q => absurd rfl q) (fun _ => ⟨⟨rfl, rfl, trivial⟩, fun H' _ hd => kSameTruths a ha hd.1 hd.2.1, rfl⟩))
theorem fK_len (w h : Int) (a : List Bool) (w' h' t : Int) (cs : List Cell) : (fKinds w h a w' h' t cs).1.length ≤ cs.length := by
  unfold fKinds
  split
  · split
    · show (kindL a cs).length ≤ _; rw [kindL_len]; exact Nat.le_refl _
    · exact Nat.zero_le _
  · exact Nat.zero_le _
theorem fT_len (w h : Int) (a : List Bool) (w1 h1 t1 : Int) (cs : List Cell) (w2 h2 t2 : Int) (ds : List Cell) : (fTurns w h a w1 h1 t1 cs w2 h2 t2 ds).1.length ≤ cs.length := by
  unfold fTurns
  split
  · exact trnTo_le _ _ _ _
  · exact Nat.zero_le _
theorem partTrn {l : List Trn} {x : Nat} (h : x < l.length) : partA 3 (l.flatMap trnC) (0 + Int.toNat ((x : Nat) : Int) * 3) = some (.agg ⟨trnC (l.getD x zeroTn)⟩) :=
  part_at (f := trnC) (d := zeroTn) (c := 0) (m := 3) trnC_len h (by rw [Int.toNat_natCast]; omega) (by decide)
theorem kLeadsLaw (w h : Int) (a : List Bool) (w1 h1 t1 : Int) (cs : List Cell) (w2 h2 t2 : Int) (ds : List Cell) (f g : Int) {H : Heap} {i0 i1 i2 : Nat} {o0 o1 o2 : Bool} {z0 z1 z2 : Nat} (e0 : H[i0]? = some (.cells o0 z0 (a.flatMap boolC))) (e1 : H[i1]? = some (.cells o1 z1 (cs.flatMap cellC))) (e2 : H[i2]? = some (.cells o2 z2 (ds.flatMap cellC))) :
    KCall prog F.polynyalaw02_DriftLeads [basV w h i0 a.length, chaV w1 h1 t1 i1 cs.length, chaV w2 h2 t2 i2 ds.length, .int .i64 f, .int .i64 g] H [] (Is (.bool true) H) := by
  refine valRx (Eq.mpr (ELeadsLaw _ w h a w1 h1 t1 cs w2 h2 t2 ds f g) ?_) ⟨plainBL 0 a, plainC 0 cs, plainC 0 ds, trivial⟩ rfl (ids := [i0, i1, i2]) ⟨⟨_, _, e0⟩, ⟨_, _, e1⟩, ⟨_, _, e2⟩, trivial⟩ rfl
  unfold RLeadsLaw
  refine forkD (fun _ => ⟨trivial, fun H' _ _ => kAwake H', rfl⟩) (fun n0 => forkD (fun _ => ⟨trivial, fun H' _ _ => kAwake H', rfl⟩) (fun n1 => forkD (fun _ => ⟨trivial, fun H' _ _ => kAwake H', rfl⟩) (fun n2 => ?_)))
  have hK := fK_len w h a w1 h1 t1 cs
  have hT := fT_len w h a w1 h1 t1 cs w2 h2 t2 ds
  refine ⟨⟨rfl, trivial⟩, fun H' hl hd => kBasin w h a (by omega) hl hd.1, ⟨rfl, trivial⟩, fun H' hl hd => kChart w1 h1 t1 cs (by omega) hl hd.1, ⟨rfl, trivial⟩, fun H' hl hd => kChart w2 h2 t2 ds (by omega) hl hd.1,
    ⟨rfl, rfl, trivial⟩, fun H' hl hd => (kKinds w h a w1 h1 t1 cs hl hd.1 hd.2.1).wkA ⟨wk_aggL ⟨wk_refl _, wk_refl _, wk_QR, trivial⟩, wk_aggL ⟨wk_refl _, wk_refl _, wk_refl _, wk_QR, trivial⟩, trivial⟩,
    ⟨rfl, rfl, trivial⟩, fun H' hl hd => krKinds w h a w1 h1 t1 cs hl hd.1 hd.2.1,
    ⟨rfl, rfl, trivial⟩, fun H' hl hd => (kSameInts (fKinds w h a w1 h1 t1 cs).1 [] [] (by omega) (by rw [List.append_nil]; exact hd.1) (by rw [List.append_nil]; exact hd.2.1)).wkA ⟨wk_QR, wk_QR, trivial⟩,
    forkF (bne_self_eq_false _) ⟨⟨rfl, rfl, rfl, trivial⟩, fun H' hl hd => (kTurns w h a w1 h1 t1 cs w2 h2 t2 ds hl hd.1 hd.2.1 hd.2.2.1).wkA ⟨wk_aggL ⟨wk_refl _, wk_refl _, wk_QR, trivial⟩, wk_aggL ⟨wk_refl _, wk_refl _, wk_refl _, wk_QR, trivial⟩, wk_aggL ⟨wk_refl _, wk_refl _, wk_refl _, wk_QR, trivial⟩, trivial⟩,
    ⟨rfl, rfl, rfl, trivial⟩, fun H' hl hd => krTurns w h a w1 h1 t1 cs w2 h2 t2 ds hl hd.1 hd.2.1 hd.2.2.1,
    forkF (bne_self_eq_false _) (forkF (bne_self_eq_false _) ⟨rfl, Nat.zero_le _, ?_, fun _ => rfl, ?_⟩)⟩⟩
  · repeat' first | exact trivial | exact rfl | exact wk_refl _ | refine wkO_cells ?_ | refine wks_cons ?_ ?_ | exact wks_nil | exact wk_nil _ _ _ (.inl rfl) | (exact wk_Q (by omega)) | refine wk_tupL ?_ | refine wk_aggL ?_ | refine joinMax ?_ ?_ ?_ | refine joinMin ?_ ?_ ?_ | refine toMax ?_ | refine toMin ?_ | refine ⟨rfl, ?_⟩ | refine ⟨trivial, ?_⟩ | (refine forkD (fun h => ?_) (fun h => ?_)) | (refine forkNe (fun h => ?_) (fun h => ?_)) | (refine forkEq (fun h => ?_) (fun h => ?_)) | refine forkNot ?_ | (refine ⟨vI64 (by omega), ?_⟩) | (refine And.intro (by omega) ?_) | apply And.intro | (exact iEq (by omega)) | (exact vI64 (by omega))
  intro x hx
  refine forkD (fun k => ?_) (fun k => ?_)
  · have hlt : x < (fTurns w h a w1 h1 t1 cs w2 h2 t2 ds).1.length := by omega
    refine ⟨by omega, partTrn hlt, by omega, partTrn hlt, forkF (by simp) ⟨vI64 (by omega), x + 1, by omega, by omega, rfl, ?_⟩⟩
    repeat' first | exact trivial | exact rfl | exact wk_refl _ | refine wkO_cells ?_ | refine wks_cons ?_ ?_ | exact wks_nil | exact wk_nil _ _ _ (.inl rfl) | (exact wk_Q (by omega)) | refine wk_tupL ?_ | refine wk_aggL ?_ | refine joinMax ?_ ?_ ?_ | refine joinMin ?_ ?_ ?_ | refine toMax ?_ | refine toMin ?_ | refine ⟨rfl, ?_⟩ | refine ⟨trivial, ?_⟩ | (refine forkD (fun h => ?_) (fun h => ?_)) | (refine forkNe (fun h => ?_) (fun h => ?_)) | (refine forkEq (fun h => ?_) (fun h => ?_)) | refine forkNot ?_ | (refine ⟨vI64 (by omega), ?_⟩) | (refine And.intro (by omega) ?_) | apply And.intro | (exact iEq (by omega)) | (exact vI64 (by omega))
  · refine ⟨⟨rfl, rfl, trivial⟩, fun H' hl hd => (kJoined w h a w1 h1 t1 cs f g hd.1 hd.2.1).wkA ⟨wk_aggL ⟨wk_refl _, wk_refl _, wk_QR, trivial⟩, wk_aggL ⟨wk_refl _, wk_refl _, wk_refl _, wk_QR, trivial⟩, wk_refl _, wk_refl _, trivial⟩,
      ⟨rfl, rfl, trivial⟩, fun H' hl hd => krJoined w h a w1 h1 t1 cs f g hd.1 hd.2.1,
      forkEq (fun _ => forkEq (fun _ => ⟨⟨rfl, rfl, trivial⟩, fun H' hl hd => (kSame w1 h1 t1 cs (by omega) hd.1 hd.2.1).wkA ⟨wk_aggL ⟨wk_refl _, wk_refl _, wk_refl _, wk_QR, trivial⟩, wk_refl _, trivial⟩,
        ⟨rfl, rfl, trivial⟩, fun H' hl hd => (kSame w2 h2 t2 ds (by omega) hd.1 hd.2.1).wkA ⟨wk_aggL ⟨wk_refl _, wk_refl _, wk_refl _, wk_QR, trivial⟩, wk_refl _, trivial⟩,
        ⟨rfl, rfl, trivial⟩, fun H' hl hd => (kkept0 w h a (by omega) hd.1 hd.2.1).wkA ⟨wk_aggL ⟨wk_refl _, wk_refl _, wk_QR, trivial⟩, wk_refl _, wk_refl _, wk_refl _, trivial⟩,
        trivial, fun H' _ _ => kAwake H', rfl⟩) (fun q => absurd rfl q)) (fun q => absurd rfl q)⟩
end
end Go.Proofs.Ytkkgnalgmebfjaa
/- How laws' arguments are read. No condition. -/
namespace Go.Proofs.Ytkkgnalgmebfjaa
set_option linter.unusedSimpArgs false
open Go Go.K Go.ChangeShapes Go.WideShapes Go.ChangeAt Go.RowKit
set_option maxRecDepth 100000
set_option linter.unusedVariables false
noncomputable section
theorem own : ownKnob Try.prog.godebug = none := by kernel_rfl
theorem sized : slicesSized Try.prog = true := by kernel_rfl
abbrev known (t : TypeId) : Prop := t < Try.prog.types.size
theorem kids : Kids Try.prog known := kids_rows (by kernel_rfl) (by kernel_rfl)
theorem good_int {H : Heap} {v : Value} (h : GoodV Try.prog H 6 3 v) : ∃ x : Int, v = .int .i64 x ∧ inI x := by
  have hu : Try.prog.underlying 3 = some (.int .i64) := by kernel_rfl
  unfold GoodV at h
  rw [hu] at h
  obtain ⟨ns, h1, h2, h3⟩ := flatI_good 6 3 1 [v] (by unfold flatI; rw [hu]) h
  match ns, h2 with
  | [x], _ => exact ⟨x, by simpa using h1, h3 x (by simp)⟩
/-- A slice: less is said: read only. -/
theorem slice_read {α : Type} {f : α → List Value} {H : Heap} {n t e : Nat} {cs : List Value} (hu : Try.prog.underlying t = some (.slice e)) (hg : ∀ c, K.Good Try.prog H n e c → ∃ x : α, c = f x ∧ True) (h : K.Good Try.prog H (n + 1) t cs) :
    ∃ (v : Value) (xs : List α), cs = [v] ∧ xs.length ≤ maxLen ∧ ∀ K : Heap, ∃ (gs : List KObj) (id : Nat) (own : Bool) (z : Nat), wk v (.slice (some ⟨id, 0, some 2⟩) xs.length xs.length) ∧ (H ++ K ++ gs)[id]? = some (.cells own z (xs.flatMap f)) := by
  unfold K.Good at h
  rw [hu] at h
  rcases h with h | h | ⟨id, len, cs', h1, h2, h3, h4, h5⟩
  · exact ⟨_, [], h, by simp [maxLen], fun K => ⟨[.cells false 0 []], (H ++ K).length, false, 0, wk_nil _ _ _ (.inr rfl), by rw [List.getElem?_append_right (Nat.le_refl _)]; simp⟩⟩
  · exact ⟨_, [], h, by simp [maxLen], fun K => ⟨[.cells false 0 []], (H ++ K).length, false, 0, wk_E _ _ _ (.inr rfl), by rw [List.getElem?_append_right (Nat.le_refl _)]; simp⟩⟩
  · obtain ⟨xs, rfl, rfl, _⟩ := goodL_list (f := f) (q := fun _ => True) hg len cs' h5
    refine ⟨_, xs, h1, h4, fun K => ⟨[], id, false, 0, wk_R, ?_⟩⟩
    rw [List.append_nil, List.getElem?_append_left (List.getElem?_eq_some_iff.1 h2).1]; exact h2
theorem good_i64 {H : Heap} {n : Nat} {c : List Value} (h : K.Good Try.prog H (n + 1) 3 c) : ∃ x : Int, c = [.int .i64 x] := by
  obtain ⟨ns, h1, h2, h3⟩ := flatI_good (n + 1) 3 1 c (by unfold flatI; rw [show Try.prog.underlying 3 = some (.int .i64) by kernel_rfl]) h
  match ns, h2 with
  | [x], _ => exact ⟨x, by simpa using h1⟩
theorem basin_read {H : Heap} {v : Value} (h : GoodV Try.prog H 6 44 v) : ∃ (w hh : Int) (a : List Bool), ∀ K : Heap, ∃ (gs : List KObj) (id : Nat) (own : Bool) (z : Nat), wk v (basV w hh id a.length) ∧ (H ++ K ++ gs)[id]? = some (.cells own z (a.flatMap boolC)) := by
  have hu : ∃ fs, Try.prog.underlying 44 = some (.struct fs) ∧ fs.toList.map (·.type) = [3, 3, 26] := by
    have : (match Try.prog.underlying 44 with | some (.struct fs) => decide (fs.toList.map (·.type) = [3, 3, 26]) | _ => false) = true := by kernel_rfl
    split at this
    · rename_i fs e; exact ⟨fs, e, of_decide_eq_true this⟩
    · cases this
  obtain ⟨fs, hu, ht⟩ := hu
  unfold GoodV at h
  rw [hu] at h
  obtain ⟨cs, rfl, h⟩ := h
  unfold K.Good at h
  rw [hu] at h
  simp only [ht] at h
  obtain ⟨c1, r1, rfl, h1, c2, r2, rfl, h2, c3, r3, rfl, h3, h4⟩ := h
  obtain rfl : r3 = [] := h4
  obtain ⟨w, rfl⟩ := good_i64 h1
  obtain ⟨hh, rfl⟩ := good_i64 h2
  obtain ⟨v, xs, rfl, _, hr⟩ := slice_read (f := boolC) (n := 4) (e := 4) (by kernel_rfl) (fun c hc => by
    unfold K.Good at hc
    rw [show Try.prog.underlying 4 = some .bool by kernel_rfl] at hc
    obtain ⟨b, rfl⟩ := hc
    exact ⟨b, rfl, trivial⟩) h3
  refine ⟨w, hh, xs, fun K => ?_⟩
  obtain ⟨gs, id, own, z, g1, g2⟩ := hr K
  exact ⟨gs, id, own, z, wk_aggL ⟨wk_refl _, wk_refl _, g1, trivial⟩, g2⟩
end
end Go.Proofs.Ytkkgnalgmebfjaa
