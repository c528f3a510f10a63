/- Ice: how a law's arguments are read, and a law's statement out of its contract. No condition. -/
import Derived.Test.YthcjliffpebjaaaV12
import Derived.Test.YthcjliffpebjaaaI4
import Derived.Test.YthcjliffpebjaaaRows
import Derived.JoinedCond
namespace Go.Proofs.Ythcjliffpebjaaa
open Go Go.K Go.ChangeShapes Go.WideShapes Go.ChangeAt Go.RowKit
set_option maxRecDepth 100000
set_option linter.unusedVariables false
noncomputable section
theorem own : ownKnob Try.prog.godebug = none := by kernel_rfl
theorem sized : slicesSized Try.prog = true := by kernel_rfl
abbrev known (t : TypeId) : Prop := t < Try.prog.types.size
theorem kids : Kids Try.prog known := kids_rows (by kernel_rfl) (by kernel_rfl)

/-! ## What is read -/
theorem good_int {H : Heap} {t : TypeId} {v : Value} (hu : Try.prog.underlying t = some (.int .i64)) (h : GoodV Try.prog H 6 t v) : ∃ x : Int, v = .int .i64 x ∧ inI x := by
  unfold GoodV at h
  rw [hu] at h
  obtain ⟨ns, h1, h2, h3⟩ := flatI_good 6 t 1 [v] (by unfold flatI; rw [hu]) h
  match ns, h2 with
  | [x], _ => exact ⟨x, by simpa using h1, h3 x (by simp)⟩
theorem u3 : Try.prog.underlying 3 = some (.int .i64) := by kernel_rfl
theorem flat84 : flatI Try.prog 5 84 = some 14 := by kernel_rfl
theorem flat26 : flatI Try.prog 6 26 = some 8 := by kernel_rfl
theorem good_report {H : Heap} {c : List Value} (h : K.Good Try.prog H 5 84 c) : ∃ r : Report, c = reportC r ∧ True := by
  obtain ⟨ns, rfl, h2, h3⟩ := flatI_good 5 84 14 c flat84 h
  match ns, h2 with
  | [a1, a2, a3, a4, a5, a6, a7, a8, a9, a10, a11, a12, a13, a14], _ => exact ⟨⟨a1, a2, a3, a4, a5, a6, ⟨⟨a7, a8⟩, ⟨a9, a10⟩, ⟨a11, a12⟩, ⟨a13, a14⟩⟩⟩, rfl, trivial⟩
def okI (x : Ice) : Prop := inI x.conc ∧ inI x.thick ∧ inI x.ridge ∧ inI x.press
def okR (m : Rates) : Prop := okI m.up ∧ okI m.down
theorem good_rates {H : Heap} {v : Value} (h : GoodV Try.prog H 6 26 v) : ∃ m : Rates, v = ratesV m ∧ okR m := by
  have hu : ∃ fs, Try.prog.underlying 26 = some (.struct fs) := by
    have : (match Try.prog.underlying 26 with | some (.struct _) => true | _ => false) = true := by kernel_rfl
    split at this
    · rename_i fs e; exact ⟨fs, e⟩
    · cases this
  obtain ⟨fs, hu⟩ := hu
  unfold GoodV at h
  rw [hu] at h
  obtain ⟨cs, rfl, h⟩ := h
  obtain ⟨ns, rfl, h2, h3⟩ := flatI_good 6 26 8 cs flat26 h
  match ns, h2 with
  | [a1, a2, a3, a4, a5, a6, a7, a8], _ =>
    refine ⟨⟨⟨a1, a2, a3, a4⟩, ⟨a5, a6, a7, a8⟩⟩, rfl, ⟨?_, ?_, ?_, ?_⟩, ⟨?_, ?_, ?_, ?_⟩⟩ <;> exact h3 _ (by simp)
theorem u22 : Try.prog.underlying 22 = some (.slice 84) := by kernel_rfl
/-- A slice of reports: nil, empty, or a block of its own. -/
theorem good_reports {H : Heap} {v : Value} (h : GoodV Try.prog H 6 22 v) : v = .slice none 0 0 ∨ v = .slice (some ⟨0, 0, some 0⟩) 0 0 ∨
    ∃ id xs, v = .slice (some ⟨id, 0, none⟩) (List.length (α := Report) xs) xs.length ∧ H[id]? = some (.cells false 0 (xs.flatMap reportC)) ∧ xs.length ≤ maxLen := by
  unfold GoodV at h
  rw [u22] at h
  unfold K.Good at h
  rw [u22] at h
  rcases h with h | h | ⟨id, len, cs', h1, h2, h3, h4, h5⟩
  · cases h; exact .inl rfl
  · cases h; exact .inr (.inl rfl)
  · cases h1
    obtain ⟨xs, rfl, rfl, _⟩ := goodL_list (f := reportC) (q := fun _ => True) (fun c hc => good_report hc) len cs' h5
    exact .inr (.inr ⟨id, xs, rfl, h2, h4⟩)
theorem plain_reports (xs : List Report) : (xs.flatMap reportC).all (belowC 0) = true := by
  rw [List.all_flatMap]
  rw [List.all_eq_true]
  intro r _; rfl
/-- A law's contract where one block is read. -/
theorem lawB {f : FuncId} {args : List Value} {cs : List Value} {h : Hint} (hcs : cs.all (belowC 0) = true)
    (hc : vF Try.prog msk (dm 0) 100000 true 40 true f args ⟨1, Tr.set .leaf 0 (.cells false 0 cs)⟩ (some []) h (fun v' _ _ => v' = .bool true))
    {H : Heap} {id : Nat} (hid : H[id]? = some (.cells false 0 cs)) : KCall Try.prog f (args.map (rn (fun i => if i < 0 then some i else if i = 0 then some id else none) 3)) H [] (fun v _ => v = .bool true) := by
  have := vcB (P := Try.prog) mskOk mixed 40 (v := .bool true) rfl hcs (by rw [glob0]; exact hc) H (by rw [glob0]; exact Nat.zero_le _) id hid (by rw [glob0]; exact Nat.zero_le _)
  rw [glob0] at this
  exact this.post fun v H' h => h.1
theorem law0 {f : FuncId} {args : List Value} {h : Hint} (hargs : ∀ σ, args.map (rn σ 3) = args)
    (hc : vF Try.prog msk (dm 0) 100000 true 40 true f args ⟨0, .leaf⟩ (some []) h (fun v' _ _ => v' = .bool true)) (H : Heap) : KCall Try.prog f args H [] (fun v _ => v = .bool true) :=
  (valK 40 hargs rfl hc H).post fun v H' h => h.1
end
end Go.Proofs.Ythcjliffpebjaaa
