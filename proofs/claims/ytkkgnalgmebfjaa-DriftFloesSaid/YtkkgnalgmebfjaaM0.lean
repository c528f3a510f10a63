/- How laws' lists of lists are read. No condition. -/
import Derived.Test.YtkkgnalgmebfjaaGA4xK37
import Derived.Test.YtkkgnalgmebfjaaGS8gxF5g
namespace Go.Proofs.Ytkkgnalgmebfjaa
set_option linter.unusedSimpArgs false
open Go Go.K Go.ChangeShapes Go.WideShapes Go.ChangeAt Go.RowKit
set_option maxRecDepth 100000
set_option linter.unusedVariables false
noncomputable section
theorem goodA2_cons {H : Heap} {n : Nat} {t : TypeId} {ts : List TypeId} {vs : List Value} (h : GoodA2 Try.prog H n (t :: ts) vs) : ∃ v vs', vs = v :: vs' ∧ GoodV2 Try.prog H n t v ∧ GoodA2 Try.prog H n ts vs' := by
  cases vs with
  | nil => exact h.elim
  | cons v vs => exact ⟨v, vs, rfl, h.1, h.2⟩
theorem goodA2_nil {H : Heap} {n : Nat} {vs : List Value} (h : GoodA2 Try.prog H n [] vs) : vs = [] := by
  cases vs with
  | nil => rfl
  | cons v vs => exact h.elim
/-- A slice: less is said: read only. -/
theorem slice_read2 {α : Type} {f : α → List Value} {H : Heap} {n t e : Nat} {cs : List Value} (hu : Try.prog.underlying t = some (.slice e)) (hg : ∀ c, GoodD Try.prog n e c → ∃ x : α, c = f x ∧ True) (h : Good2 Try.prog H (n + 1) t cs) :
    ∃ (v : Value) (xs : List α), cs = [v] ∧ xs.length ≤ maxLen ∧ ∀ K : Heap, ∃ (gs : List KObj) (id : Nat) (own : Bool) (z : Nat), wk v (.slice (some ⟨id, 0, some 2⟩) xs.length xs.length) ∧ (H ++ K ++ gs)[id]? = some (.cells own z (xs.flatMap f)) := by
  unfold Good2 at h
  rw [hu] at h
  rcases h with h | h | ⟨id, len, cs', h1, h2, h3, h4, h5⟩
  · exact ⟨_, [], h, by simp [maxLen], fun K => ⟨[.cells false 0 []], (H ++ K).length, false, 0, wk_nil _ _ _ (.inr rfl), by rw [List.getElem?_append_right (Nat.le_refl _)]; simp⟩⟩
  · exact ⟨_, [], h, by simp [maxLen], fun K => ⟨[.cells false 0 []], (H ++ K).length, false, 0, wk_E _ _ _ (.inr rfl), by rw [List.getElem?_append_right (Nat.le_refl _)]; simp⟩⟩
  · obtain ⟨xs, rfl, rfl, _⟩ := goodL_list (f := f) (q := fun _ => True) hg len cs' h5
    refine ⟨_, xs, h1, h4, fun K => ⟨[], id, false, 0, wk_R, ?_⟩⟩
    rw [List.append_nil, List.getElem?_append_left (List.getElem?_eq_some_iff.1 h2).1]; exact h2
theorem goodV2_slice {α : Type} {f : α → List Value} {H : Heap} {t e : Nat} {v : Value} (hu : Try.prog.underlying t = some (.slice e)) (hg : ∀ c, GoodD Try.prog 5 e c → ∃ x : α, c = f x ∧ True) (h : GoodV2 Try.prog H 6 t v) :
    ∃ xs : List α, xs.length ≤ maxLen ∧ ∀ K : Heap, ∃ (gs : List KObj) (id : Nat) (own : Bool) (z : Nat), wk v (.slice (some ⟨id, 0, some 2⟩) xs.length xs.length) ∧ (H ++ K ++ gs)[id]? = some (.cells own z (xs.flatMap f)) := by
  unfold GoodV2 at h
  rw [hu] at h
  obtain ⟨v', xs, h1, h2, h3⟩ := slice_read2 hu hg h
  cases h1
  exact ⟨xs, h2, h3⟩
theorem good2_int {H : Heap} {v : Value} (h : GoodV2 Try.prog H 6 3 v) : ∃ x : Int, v = .int .i64 x ∧ inI x := by
  have hu : Try.prog.underlying 3 = some (.int .i64) := by kernel_rfl
  unfold GoodV2 at h
  rw [hu] at h
  obtain ⟨ns, h1, h2, h3⟩ := flatI_good2 6 3 1 [v] (by unfold flatI; rw [hu]) h
  match ns, h2 with
  | [x], _ => exact ⟨x, by simpa using h1, h3 x (by simp)⟩
theorem goodD_flow {n : Nat} {c : List Value} (h : GoodD Try.prog n 49 c) (hf : flatI Try.prog n 49 = some 4) : ∃ f : Flow, c = flowC f ∧ True := by
  obtain ⟨ns, rfl, h2, _⟩ := flatI_goodD n 49 4 c hf h
  match ns, h2 with
  | [a1, a2, a3, a4], _ => exact ⟨⟨⟨a1, a2⟩, ⟨a3, a4⟩⟩, rfl, trivial⟩
theorem goodD_flows {c : List Value} (h : GoodD Try.prog 5 45 c) : ∃ l : List Flow, c = [flV l] ∧ True := by
  unfold GoodD at h
  rw [show Try.prog.underlying 45 = some (.slice 49) by kernel_rfl] at h
  obtain ⟨len, ds, h1, h2, h3, h4⟩ := h
  obtain ⟨xs, e1, e2, _⟩ := goodL_list (f := flowC) (q := fun _ => True) (fun c hc => goodD_flow hc (by kernel_rfl)) len ds h4
  subst e1 e2
  exact ⟨xs, h1, trivial⟩
theorem flL_flat (ll : List (List Flow)) : ll.flatMap (fun l => [flV l]) = flL ll := by
  induction ll with
  | nil => rfl
  | cons l ll ih => rw [List.flatMap_cons, ih]; rfl
theorem flowss_read2 {H : Heap} {v : Value} (h : GoodV2 Try.prog H 6 76 v) : ∃ ll : List (List Flow), ll.length ≤ maxLen ∧ ∀ K : Heap, ∃ (gs : List KObj) (id : Nat) (own : Bool) (z : Nat), wk v (.slice (some ⟨id, 0, some 2⟩) ll.length ll.length) ∧ (H ++ K ++ gs)[id]? = some (.cells own z (flL ll)) := by
  obtain ⟨ll, h1, h2⟩ := goodV2_slice (e := 45) (f := fun l => [flV l]) (by kernel_rfl) (fun c hc => goodD_flows hc) h
  refine ⟨ll, h1, fun K => ?_⟩
  obtain ⟨gs, id, own, z, e1, e2⟩ := h2 K
  rw [flL_flat] at e2
  exact ⟨gs, id, own, z, e1, e2⟩
theorem good2_i64 {H : Heap} {n : Nat} {c : List Value} (h : Good2 Try.prog H (n + 1) 3 c) : ∃ x : Int, c = [.int .i64 x] := by
  obtain ⟨ns, h1, h2, h3⟩ := flatI_good2 (n + 1) 3 1 c (by unfold flatI; rw [show Try.prog.underlying 3 = some (.int .i64) by kernel_rfl]) h
  match ns, h2 with
  | [x], _ => exact ⟨x, by simpa using h1⟩
theorem basin_read2 {H : Heap} {v : Value} (h : GoodV2 Try.prog H 6 44 v) : ∃ (w hh : Int) (a : List Bool), ∀ K : Heap, ∃ (gs : List KObj) (id : Nat) (own : Bool) (z : Nat), wk v (basV w hh id a.length) ∧ (H ++ K ++ gs)[id]? = some (.cells own z (a.flatMap boolC)) := by
  have hu : ∃ fs, Try.prog.underlying 44 = some (.struct fs) ∧ fs.toList.map (·.type) = [3, 3, 26] := by
    have : (match Try.prog.underlying 44 with | some (.struct fs) => decide (fs.toList.map (·.type) = [3, 3, 26]) | _ => false) = true := by kernel_rfl
    split at this
    · rename_i fs e; exact ⟨fs, e, of_decide_eq_true this⟩
    · cases this
  obtain ⟨fs, hu, ht⟩ := hu
  unfold GoodV2 at h
  rw [hu] at h
  obtain ⟨cs, rfl, h⟩ := h
  unfold Good2 at h
  rw [hu] at h
  simp only [ht] at h
  obtain ⟨c1, r1, rfl, h1, c2, r2, rfl, h2, c3, r3, rfl, h3, h4⟩ := h
  obtain rfl : r3 = [] := h4
  obtain ⟨w, rfl⟩ := good2_i64 h1
  obtain ⟨hh, rfl⟩ := good2_i64 h2
  obtain ⟨v, xs, rfl, _, hr⟩ := slice_read2 (f := boolC) (n := 4) (e := 4) (by kernel_rfl) (fun c hc => by
    unfold GoodD at hc
    rw [show Try.prog.underlying 4 = some .bool by kernel_rfl] at hc
    obtain ⟨b, rfl⟩ := hc
    exact ⟨b, rfl, trivial⟩) h3
  refine ⟨w, hh, xs, fun K => ?_⟩
  obtain ⟨gs, id, own, z, g1, g2⟩ := hr K
  exact ⟨gs, id, own, z, wk_aggL ⟨wk_refl _, wk_refl _, g1, trivial⟩, g2⟩
end
end Go.Proofs.Ytkkgnalgmebfjaa
