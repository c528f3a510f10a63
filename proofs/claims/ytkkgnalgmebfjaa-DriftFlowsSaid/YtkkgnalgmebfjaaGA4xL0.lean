/- Drift: the examples of the chapter (awake), as a contract. No condition. -/
import Derived.Test.YtkkgnalgmebfjaaA4a
import Derived.Test.YtkkgnalgmebfjaaGD6xD7g
import Derived.Test.YtkkgnalgmebfjaaGK27xD3a
import Derived.Test.YtkkgnalgmebfjaaRows
import Derived.JoinedCond
namespace Go.Proofs.Ytkkgnalgmebfjaa
set_option linter.unusedSimpArgs false
set_option linter.unusedVariables false
open Go Go.K
set_option maxRecDepth 100000
noncomputable section
attribute [local irreducible] vF
theorem kAwake (H : Heap) : KCall prog F.polynyalaw02_awake [] H [] (Is (.bool true) H) := by
  have hv : vF prog msk (dm impI) 100000 true 40 true F.polynyalaw02_awake [] ⟨0, .leaf⟩ none .auto (fun v _ _ => isTrueV v) := of_eq_true awakeRun
  have h0 := vc (P := prog) (mask := msk) (dm := dm impI) (rounds := 100000) (mixed := true) mskOk mixed 40 (f := F.polynyalaw02_awake) (args := []) (H := ⟨0, .leaf⟩) (M := none) (h := .auto) (Q := fun v _ => isTrueV v) hv
  have h1 : KCall prog F.polynyalaw02_awake [] [] [] (fun v _ => v = .bool true) := h0.post (fun v H' h => by
      cases v <;> first | exact h.elim | (rename_i b; cases b <;> first | rfl | exact h.elim))
  have h2 : KCall prog F.polynyalaw02_awake [] [] [] (Is (.bool true) []) := KCall.clean h1 rfl
  have h3 := KCall.frame (H := H) (new := []) (d := 3) (σ := fun _ => none) ⟨fun g hg => absurd hg (by rw [glob0]; exact Nat.not_lt_zero _), fun _ _ h => (by cases h), fun id h => absurd h (Nat.not_lt_zero _), fun _ _ _ h => (by cases h), fun _ _ _ h => (by cases h)⟩ h2 rfl rfl
  simpa [rn] using h3
end
end Go.Proofs.Ytkkgnalgmebfjaa
/- Drift: DriftFlows returns true. No condition. -/
namespace Go.Proofs.Ytkkgnalgmebfjaa
open Go Go.K
set_option maxRecDepth 100000
set_option linter.unusedVariables false
set_option linter.unusedSimpArgs false
noncomputable section
attribute [local irreducible] vF
theorem wkBas {w h : Int} {id n : Nat} : wk (.agg #[.int .i64 w, .int .i64 h, .slice (some ⟨id, 0, some 1⟩) n n]) (basV w h id n) :=
  wk_aggL (wks_cons (wk_refl _) (wks_cons (wk_refl _) (wks_cons wk_QR wks_nil)))
theorem nne (x : Int) : (x != x) = false := by simp
theorem same2 (x y : Int) : (!((x == x) && ((y == y) && true))) = false := by simp
theorem same4 (x y z t : Int) : (!(((x == x) && ((y == y) && true)) && (((z == z) && ((t == t) && true)) && true))) = false := by simp
set_option maxHeartbeats 4000000 in
theorem kFlowsLaw (w h : Int) (a : List Bool) (l : List Flow) (p q : Flow) (size c : Int) {H : Heap} {id id2 : Nat} {own own2 : Bool} {z z2 : Nat} (hid : H[id]? = some (.cells own z (a.flatMap boolC))) (hid2 : H[id2]? = some (.cells own2 z2 (l.flatMap flowC))) :
    KCall prog F.polynyalaw02_DriftFlows [basV w h id a.length, .slice (some ⟨id2, 0, some 2⟩) l.length l.length, flowV p, flowV q, .int .i64 size, .int .i64 c] H [] (Is (.bool true) H) := by
  refine valR (css := [a.flatMap boolC, l.flatMap flowC]) (Eq.mpr (EDriftFlows _ w h a l p q size c) ?_) (twoCs (plainBL 0 a) (plainFL 0 l)) rfl [id, id2] rfl (twoId hid hid2)
  unfold RDriftFlows
  refine forkD (fun h0 => ⟨trivial, fun H' _ _ => kAwake H', rfl⟩) (fun h0 => forkD (fun h1 => ⟨trivial, fun H' _ _ => kAwake H', rfl⟩) (fun h1 => ?_))
  have ha : a.length ≤ 4294967296 := by omega
  have hl : l.length ≤ 4294967296 := by omega
  have mb : ∀ f : Flow, (fMoves f).1.length ≤ 25 := fun f => by
    by_cases hf : rightF f
    · rw [fMoves_0 hf]; exact (movesF_bd hf).2
    · rw [fMoves_1 hf]; exact Nat.zero_le _
  have tb : (fTargets w h a l c).1.length ≤ 4294967296 := by
    by_cases e : errFlows w h a.length l = 0
    · cases s : seaB a c with
      | false => rw [(fT_1 e s).1]; exact Nat.zero_le _
      | true =>
        rw [(fT_0 e s).1]
        have := truesTo_len (goesL w h a c (l.getD (Int.toNat c) zeroF)) (goesL w h a c (l.getD (Int.toNat c) zeroF)).length
        rw [goesL_len] at this
        have b := basOk (errFlows_0 e).1
        have := b.p1
        show (truesTo _ _).length ≤ _
        rw [goesL_len]; omega
    · rw [(fT_e e).1]; exact Nat.zero_le _
  refine ⟨⟨rfl, trivial⟩, fun H' hL hd => kBasin w h a ha hL hd.1, ⟨rfl, trivial⟩, fun H' hL hd => kFlows l hl hL hd.1, ⟨rfl, trivial⟩, fun H' _ hd => (kCheckBasin w h a hd.1).wkA ⟨wkBas, trivial⟩, ⟨rfl, trivial⟩, fun H' _ hd => krCheckBasin w h a hd.1, forkF (nne _) ?_⟩
  refine ⟨⟨rfl, rfl, trivial⟩, fun H' _ hd => (kCheckFlows w h a l hl hd.1 hd.2.1).wkA ⟨wkBas, wk_QR, trivial⟩, ⟨rfl, rfl, trivial⟩, fun H' _ hd => krCheckFlows w h a l hl hd.1 hd.2.1, forkF (nne _) ?_⟩
  refine ⟨trivial, fun H' _ _ => kWeather p q size H', trivial, fun H' _ _ => krWeather p q size H', forkF (same4 ..) (forkF (nne _) ?_)⟩
  refine ⟨trivial, fun H' hL _ => kMoves p hL, trivial, fun H' hL _ => krMoves p hL, forkF (nne _) (forkF (nne _) ⟨rfl, Nat.zero_le _, ?_, fun _ => rfl, ?_⟩)⟩
  · repeat' first
      | exact trivial
      | exact rfl
      | exact wk_refl _
      | refine wkO_cells ?_
      | refine wks_cons ?_ ?_
      | exact wks_nil
      | exact wk_nil _ _ _ (.inl rfl)
      | exact wk_Q (by omega)
      | refine wk_tupL ?_
      | refine wk_aggL ?_
      | refine joinMax ?_ ?_ ?_
      | refine joinMin ?_ ?_ ?_
      | refine toMax ?_
      | refine toMin ?_
      | refine ⟨rfl, ?_⟩
      | refine ⟨trivial, ?_⟩
      | refine forkD (fun h => ?_) (fun h => ?_)
      | refine forkNe (fun h => ?_) (fun h => ?_)
      | refine forkEq (fun h => ?_) (fun h => ?_)
      | refine forkNot ?_
      | refine ⟨vI64 (by omega), ?_⟩
      | refine And.intro (by omega) ?_
      | apply And.intro
      | exact iEq (by omega)
      | exact vI64 (by omega)
      | fail
  intro x hx
  have := mb p
  refine forkD (fun k => ⟨by omega, partMove (by omega), by omega, partMove (by omega), forkF (same2 ..) ⟨vI64 (by omega), x + 1, by omega, by omega, rfl, ?_⟩⟩) (fun k => ?_)
  · repeat' first
      | exact trivial
      | exact rfl
      | exact wk_refl _
      | refine wkO_cells ?_
      | refine wks_cons ?_ ?_
      | exact wks_nil
      | exact wk_nil _ _ _ (.inl rfl)
      | exact wk_Q (by omega)
      | refine wk_tupL ?_
      | refine wk_aggL ?_
      | refine joinMax ?_ ?_ ?_
      | refine joinMin ?_ ?_ ?_
      | refine toMax ?_
      | refine toMin ?_
      | refine ⟨rfl, ?_⟩
      | refine ⟨trivial, ?_⟩
      | refine forkD (fun h => ?_) (fun h => ?_)
      | refine forkNe (fun h => ?_) (fun h => ?_)
      | refine forkEq (fun h => ?_) (fun h => ?_)
      | refine forkNot ?_
      | refine ⟨vI64 (by omega), ?_⟩
      | refine And.intro (by omega) ?_
      | apply And.intro
      | exact iEq (by omega)
      | exact vI64 (by omega)
      | fail
  refine ⟨trivial, fun H' hL _ => kMoves q hL, trivial, fun H' hL _ => krMoves q hL, forkF (nne _) (forkF (nne _) ⟨rfl, Nat.zero_le _, ?_, fun _ => rfl, ?_⟩)⟩
  · repeat' first
      | exact trivial
      | exact rfl
      | exact wk_refl _
      | refine wkO_cells ?_
      | refine wks_cons ?_ ?_
      | exact wks_nil
      | exact wk_nil _ _ _ (.inl rfl)
      | exact wk_Q (by omega)
      | refine wk_tupL ?_
      | refine wk_aggL ?_
      | refine joinMax ?_ ?_ ?_
      | refine joinMin ?_ ?_ ?_
      | refine toMax ?_
      | refine toMin ?_
      | refine ⟨rfl, ?_⟩
      | refine ⟨trivial, ?_⟩
      | refine forkD (fun h => ?_) (fun h => ?_)
      | refine forkNe (fun h => ?_) (fun h => ?_)
      | refine forkEq (fun h => ?_) (fun h => ?_)
      | refine forkNot ?_
      | refine ⟨vI64 (by omega), ?_⟩
      | refine And.intro (by omega) ?_
      | apply And.intro
      | exact iEq (by omega)
      | exact vI64 (by omega)
      | fail
  intro x hx
  have := mb q
  refine forkD (fun k => ⟨by omega, partMove (by omega), by omega, partMove (by omega), forkF (same2 ..) ⟨vI64 (by omega), x + 1, by omega, by omega, rfl, ?_⟩⟩) (fun k => ?_)
  · repeat' first
      | exact trivial
      | exact rfl
      | exact wk_refl _
      | refine wkO_cells ?_
      | refine wks_cons ?_ ?_
      | exact wks_nil
      | exact wk_nil _ _ _ (.inl rfl)
      | exact wk_Q (by omega)
      | refine wk_tupL ?_
      | refine wk_aggL ?_
      | refine joinMax ?_ ?_ ?_
      | refine joinMin ?_ ?_ ?_
      | refine toMax ?_
      | refine toMin ?_
      | refine ⟨rfl, ?_⟩
      | refine ⟨trivial, ?_⟩
      | refine forkD (fun h => ?_) (fun h => ?_)
      | refine forkNe (fun h => ?_) (fun h => ?_)
      | refine forkEq (fun h => ?_) (fun h => ?_)
      | refine forkNot ?_
      | refine ⟨vI64 (by omega), ?_⟩
      | refine And.intro (by omega) ?_
      | apply And.intro
      | exact iEq (by omega)
      | exact vI64 (by omega)
      | fail
  refine ⟨trivial, fun H' hL _ => kMoves (weather p q size).1 hL, trivial, fun H' hL _ => krMoves (weather p q size).1 hL, forkF (nne _) (forkF (nne _) ⟨rfl, Nat.zero_le _, ?_, fun _ => rfl, ?_⟩)⟩
  · repeat' first
      | exact trivial
      | exact rfl
      | exact wk_refl _
      | refine wkO_cells ?_
      | refine wks_cons ?_ ?_
      | exact wks_nil
      | exact wk_nil _ _ _ (.inl rfl)
      | exact wk_Q (by omega)
      | refine wk_tupL ?_
      | refine wk_aggL ?_
      | refine joinMax ?_ ?_ ?_
      | refine joinMin ?_ ?_ ?_
      | refine toMax ?_
      | refine toMin ?_
      | refine ⟨rfl, ?_⟩
      | refine ⟨trivial, ?_⟩
      | refine forkD (fun h => ?_) (fun h => ?_)
      | refine forkNe (fun h => ?_) (fun h => ?_)
      | refine forkEq (fun h => ?_) (fun h => ?_)
      | refine forkNot ?_
      | refine ⟨vI64 (by omega), ?_⟩
      | refine And.intro (by omega) ?_
      | apply And.intro
      | exact iEq (by omega)
      | exact vI64 (by omega)
      | fail
  intro x hx
  have := mb (weather p q size).1
  refine forkD (fun k => ⟨by omega, partMove (by omega), by omega, partMove (by omega), forkF (same2 ..) ⟨vI64 (by omega), x + 1, by omega, by omega, rfl, ?_⟩⟩) (fun k => ?_)
  · repeat' first
      | exact trivial
      | exact rfl
      | exact wk_refl _
      | refine wkO_cells ?_
      | refine wks_cons ?_ ?_
      | exact wks_nil
      | exact wk_nil _ _ _ (.inl rfl)
      | exact wk_Q (by omega)
      | refine wk_tupL ?_
      | refine wk_aggL ?_
      | refine joinMax ?_ ?_ ?_
      | refine joinMin ?_ ?_ ?_
      | refine toMax ?_
      | refine toMin ?_
      | refine ⟨rfl, ?_⟩
      | refine ⟨trivial, ?_⟩
      | refine forkD (fun h => ?_) (fun h => ?_)
      | refine forkNe (fun h => ?_) (fun h => ?_)
      | refine forkEq (fun h => ?_) (fun h => ?_)
      | refine forkNot ?_
      | refine ⟨vI64 (by omega), ?_⟩
      | refine And.intro (by omega) ?_
      | apply And.intro
      | exact iEq (by omega)
      | exact vI64 (by omega)
      | fail
  refine ⟨⟨rfl, rfl, trivial⟩, fun H' hL hd => (kTargets w h a l c hl hL hd.1 hd.2.1).wkA ⟨wkBas, wk_QR, wk_refl _, trivial⟩, ⟨rfl, rfl, trivial⟩, fun H' hL hd => krTargets w h a l c hl hL hd.1 hd.2.1, ⟨rfl, rfl, trivial⟩, fun H' hL hd => ?_, ?_⟩
  · refine (kSameInts (fTargets w h a l c).1 _ [] tb hd.1 (by rw [List.append_nil]; exact hd.2.1)).wkA ⟨wk_refl _, wk_QR, trivial⟩
  refine forkT (beq_self_eq_true _) (forkF (nne _) (forkF (nne _) ⟨⟨rfl, rfl, trivial⟩, fun H' hL hd => (kSameTruths a ha hd.1 hd.2.1).wkA ⟨wk_QR, wk_refl _, trivial⟩, forkF (nne _) ⟨rfl, Nat.zero_le _, ?_, fun _ => rfl, ?_⟩⟩))
  · repeat' first
      | exact trivial
      | exact rfl
      | exact wk_refl _
      | refine wkO_cells ?_
      | refine wks_cons ?_ ?_
      | exact wks_nil
      | exact wk_nil _ _ _ (.inl rfl)
      | exact wk_Q (by omega)
      | refine wk_tupL ?_
      | refine wk_aggL ?_
      | refine joinMax ?_ ?_ ?_
      | refine joinMin ?_ ?_ ?_
      | refine toMax ?_
      | refine toMin ?_
      | refine ⟨rfl, ?_⟩
      | refine ⟨trivial, ?_⟩
      | refine forkD (fun h => ?_) (fun h => ?_)
      | refine forkNe (fun h => ?_) (fun h => ?_)
      | refine forkEq (fun h => ?_) (fun h => ?_)
      | refine forkNot ?_
      | refine ⟨vI64 (by omega), ?_⟩
      | refine And.intro (by omega) ?_
      | apply And.intro
      | exact iEq (by omega)
      | exact vI64 (by omega)
      | fail
  intro x hx
  refine forkD (fun k => ⟨by omega, partFlow (by omega), by omega, partFlow (by omega), forkF (same4 ..) ⟨vI64 (by omega), x + 1, by omega, by omega, rfl, ?_⟩⟩) (fun k => ⟨trivial, fun H' _ _ => kAwake H', rfl⟩)
  repeat' first
    | exact trivial
    | exact rfl
    | exact wk_refl _
    | refine wkO_cells ?_
    | refine wks_cons ?_ ?_
    | exact wks_nil
    | exact wk_nil _ _ _ (.inl rfl)
    | exact wk_Q (by omega)
    | refine wk_tupL ?_
    | refine wk_aggL ?_
    | refine joinMax ?_ ?_ ?_
    | refine joinMin ?_ ?_ ?_
    | refine toMax ?_
    | refine toMin ?_
    | refine ⟨rfl, ?_⟩
    | refine ⟨trivial, ?_⟩
    | refine forkD (fun h => ?_) (fun h => ?_)
    | refine forkNe (fun h => ?_) (fun h => ?_)
    | refine forkEq (fun h => ?_) (fun h => ?_)
    | refine forkNot ?_
    | refine ⟨vI64 (by omega), ?_⟩
    | refine And.intro (by omega) ?_
    | apply And.intro
    | exact iEq (by omega)
    | exact vI64 (by omega)
    | fail
end
end Go.Proofs.Ytkkgnalgmebfjaa
/- How laws' arguments are read. No condition. -/
namespace Go.Proofs.Ytkkgnalgmebfjaa
set_option linter.unusedSimpArgs false
open Go Go.K Go.ChangeShapes Go.WideShapes Go.ChangeAt Go.RowKit
set_option maxRecDepth 100000
set_option linter.unusedVariables false
noncomputable section
theorem own : ownKnob Try.prog.godebug = none := by kernel_rfl
theorem sized : slicesSized Try.prog = true := by kernel_rfl
abbrev known (t : TypeId) : Prop := t < Try.prog.types.size
theorem kids : Kids Try.prog known := kids_rows (by kernel_rfl) (by kernel_rfl)
theorem good_flat {H : Heap} {t : TypeId} {v : Value} (n : Nat) (hu : (match Try.prog.underlying t with | some (.struct _) => true | _ => false) = true) (hf : flatI Try.prog 6 t = some n) (h : GoodV Try.prog H 6 t v) :
    ∃ ns : List Int, v = .agg ⟨ns.map (.int .i64)⟩ ∧ ns.length = n ∧ ∀ x ∈ ns, inI x := by
  unfold GoodV at h
  split at hu
  · rename_i fs e
    rw [e] at h
    obtain ⟨cs, rfl, h⟩ := h
    obtain ⟨ns, rfl, h2, h3⟩ := flatI_good 6 t n cs hf h
    exact ⟨ns, rfl, h2, h3⟩
  · cases hu
theorem good_int {H : Heap} {v : Value} (h : GoodV Try.prog H 6 3 v) : ∃ x : Int, v = .int .i64 x ∧ inI x := by
  have hu : Try.prog.underlying 3 = some (.int .i64) := by kernel_rfl
  unfold GoodV at h
  rw [hu] at h
  obtain ⟨ns, h1, h2, h3⟩ := flatI_good 6 3 1 [v] (by unfold flatI; rw [hu]) h
  match ns, h2 with
  | [x], _ => exact ⟨x, by simpa using h1, h3 x (by simp)⟩
theorem goodL_flat {α : Type} {f : α → List Value} {n t : Nat} (H : Heap) (hf : flatI Try.prog 5 t = some n) (hα : ∀ ns : List Int, ns.length = n → ∃ x : α, ns.map (Value.int .i64) = f x) :
    ∀ c, K.Good Try.prog H 5 t c → ∃ x : α, c = f x ∧ True := by
  intro c h
  obtain ⟨ns, rfl, h2, _⟩ := flatI_good 5 t n c hf h
  obtain ⟨x, hx⟩ := hα ns h2
  exact ⟨x, hx, trivial⟩
/-- A slice: less is said: read only. -/
theorem slice_read {α : Type} {f : α → List Value} {H : Heap} {n t e : Nat} {cs : List Value} (hu : Try.prog.underlying t = some (.slice e)) (hg : ∀ c, K.Good Try.prog H n e c → ∃ x : α, c = f x ∧ True) (h : K.Good Try.prog H (n + 1) t cs) :
    ∃ (v : Value) (xs : List α), cs = [v] ∧ xs.length ≤ maxLen ∧ ∀ K : Heap, ∃ (gs : List KObj) (id : Nat) (own : Bool) (z : Nat), wk v (.slice (some ⟨id, 0, some 2⟩) xs.length xs.length) ∧ (H ++ K ++ gs)[id]? = some (.cells own z (xs.flatMap f)) := by
  unfold K.Good at h
  rw [hu] at h
  rcases h with h | h | ⟨id, len, cs', h1, h2, h3, h4, h5⟩
  · exact ⟨_, [], h, by simp [maxLen], fun K => ⟨[.cells false 0 []], (H ++ K).length, false, 0, wk_nil _ _ _ (.inr rfl), by rw [List.getElem?_append_right (Nat.le_refl _)]; simp⟩⟩
  · exact ⟨_, [], h, by simp [maxLen], fun K => ⟨[.cells false 0 []], (H ++ K).length, false, 0, wk_E _ _ _ (.inr rfl), by rw [List.getElem?_append_right (Nat.le_refl _)]; simp⟩⟩
  · obtain ⟨xs, rfl, rfl, _⟩ := goodL_list (f := f) (q := fun _ => True) hg len cs' h5
    refine ⟨_, xs, h1, h4, fun K => ⟨[], id, false, 0, wk_R, ?_⟩⟩
    rw [List.append_nil, List.getElem?_append_left (List.getElem?_eq_some_iff.1 h2).1]; exact h2
theorem goodV_slice {α : Type} {f : α → List Value} {H : Heap} {t e : Nat} {v : Value} (hu : Try.prog.underlying t = some (.slice e)) (hg : ∀ c, K.Good Try.prog H 5 e c → ∃ x : α, c = f x ∧ True) (h : GoodV Try.prog H 6 t v) :
    ∃ xs : List α, xs.length ≤ maxLen ∧ ∀ K : Heap, ∃ (gs : List KObj) (id : Nat) (own : Bool) (z : Nat), wk v (.slice (some ⟨id, 0, some 2⟩) xs.length xs.length) ∧ (H ++ K ++ gs)[id]? = some (.cells own z (xs.flatMap f)) := by
  unfold GoodV at h
  rw [hu] at h
  obtain ⟨v', xs, h1, h2, h3⟩ := slice_read hu hg h
  cases h1
  exact ⟨xs, h2, h3⟩
theorem good_flow {H : Heap} {v : Value} (h : GoodV Try.prog H 6 49 v) : ∃ f : Flow, v = flowV f := by
  obtain ⟨ns, rfl, h2, _⟩ := good_flat 4 (by kernel_rfl) (by kernel_rfl) h
  match ns, h2 with
  | [a1, a2, a3, a4], _ => exact ⟨⟨⟨a1, a2⟩, ⟨a3, a4⟩⟩, rfl⟩
theorem flows_read {H : Heap} {v : Value} (h : GoodV Try.prog H 6 45 v) : ∃ xs : List Flow, xs.length ≤ maxLen ∧ ∀ K : Heap, ∃ (gs : List KObj) (id : Nat) (own : Bool) (z : Nat), wk v (.slice (some ⟨id, 0, some 2⟩) xs.length xs.length) ∧ (H ++ K ++ gs)[id]? = some (.cells own z (xs.flatMap flowC)) := by
  refine goodV_slice (e := 49) (by kernel_rfl) (goodL_flat (n := 4) H (by kernel_rfl) fun ns h => ?_) h
  match ns, h with
  | [a1, a2, a3, a4], _ => exact ⟨⟨⟨a1, a2⟩, ⟨a3, a4⟩⟩, rfl⟩
theorem good_i64 {H : Heap} {n : Nat} {c : List Value} (h : K.Good Try.prog H (n + 1) 3 c) : ∃ x : Int, c = [.int .i64 x] := by
  obtain ⟨ns, h1, h2, h3⟩ := flatI_good (n + 1) 3 1 c (by unfold flatI; rw [show Try.prog.underlying 3 = some (.int .i64) by kernel_rfl]) h
  match ns, h2 with
  | [x], _ => exact ⟨x, by simpa using h1⟩
theorem basin_read {H : Heap} {v : Value} (h : GoodV Try.prog H 6 44 v) : ∃ (w hh : Int) (a : List Bool), ∀ K : Heap, ∃ (gs : List KObj) (id : Nat) (own : Bool) (z : Nat), wk v (basV w hh id a.length) ∧ (H ++ K ++ gs)[id]? = some (.cells own z (a.flatMap boolC)) := by
  have hu : ∃ fs, Try.prog.underlying 44 = some (.struct fs) ∧ fs.toList.map (·.type) = [3, 3, 26] := by
    have : (match Try.prog.underlying 44 with | some (.struct fs) => decide (fs.toList.map (·.type) = [3, 3, 26]) | _ => false) = true := by kernel_rfl
    split at this
    · rename_i fs e; exact ⟨fs, e, of_decide_eq_true this⟩
    · cases this
  obtain ⟨fs, hu, ht⟩ := hu
  unfold GoodV at h
  rw [hu] at h
  obtain ⟨cs, rfl, h⟩ := h
  unfold K.Good at h
  rw [hu] at h
  simp only [ht] at h
  obtain ⟨c1, r1, rfl, h1, c2, r2, rfl, h2, c3, r3, rfl, h3, h4⟩ := h
  obtain rfl : r3 = [] := h4
  obtain ⟨w, rfl⟩ := good_i64 h1
  obtain ⟨hh, rfl⟩ := good_i64 h2
  obtain ⟨v, xs, rfl, _, hr⟩ := slice_read (f := boolC) (n := 4) (e := 4) (by kernel_rfl) (fun c hc => by
    unfold K.Good at hc
    rw [show Try.prog.underlying 4 = some .bool by kernel_rfl] at hc
    obtain ⟨b, rfl⟩ := hc
    exact ⟨b, rfl, trivial⟩) h3
  refine ⟨w, hh, xs, fun K => ?_⟩
  obtain ⟨gs, id, own, z, g1, g2⟩ := hr K
  exact ⟨gs, id, own, z, wk_aggL ⟨wk_refl _, wk_refl _, g1, trivial⟩, g2⟩
end
end Go.Proofs.Ytkkgnalgmebfjaa
