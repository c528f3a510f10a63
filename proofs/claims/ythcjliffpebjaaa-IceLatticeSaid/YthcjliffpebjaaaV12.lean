/- Arguments as they are read: numbers, structs of numbers, slices of these. No condition. -/
import Derived.Test.YthcjliffpebjaaaK26
namespace Go.K
open Go
set_option linter.unusedVariables false
noncomputable section
variable {P : Program}
/-- How many numbers a type has that has nothing else. -/
def flatI (P : Program) : Nat → TypeId → Option Nat
  | 0, _ => none
  | n + 1, t => match P.underlying t with
    | some (.int .i64) => some 1
    | some (.struct fs) => fs.toList.foldr (fun f r => match flatI P n f.type, r with | some a, some b => some (a + b) | _, _ => none) (some 0)
    | _ => none
def inI (x : Int) : Prop := -9223372036854775808 ≤ x ∧ x ≤ 9223372036854775807
theorem flatI_good {H : Heap} : ∀ (n : Nat) (t : TypeId) (k : Nat) (cs : List Value), flatI P n t = some k → Good P H n t cs → ∃ ns : List Int, cs = ns.map (.int .i64) ∧ ns.length = k ∧ ∀ x ∈ ns, inI x := by
  intro n
  induction n with
  | zero => intro t k cs h; cases h
  | succ n ih =>
    intro t k cs h g
    unfold flatI at h
    unfold Good at g
    cases hu : P.underlying t with
    | none => rw [hu] at h; cases h
    | some d =>
      rw [hu] at h g
      cases d <;> try (cases h; done)
      · rename_i ik
        cases ik <;> try (cases h; done)
        cases h
        obtain ⟨x, rfl, h1, h2⟩ := g
        refine ⟨[x], rfl, rfl, fun y hy => ?_⟩
        rw [List.mem_singleton] at hy; subst hy
        simp only [IntKind.min, IntKind.max, IntKind.signed, IntKind.bits] at h1 h2
        unfold inI
        simp at h1 h2
        omega
      · rename_i fs
        simp only at h g
        have key : ∀ (fs : List Field) (k : Nat) (cs : List Value), fs.foldr (fun f r => match flatI P n f.type, r with | some a, some b => some (a + b) | _, _ => none) (some 0) = some k →
            GoodL (Good P H n) (fs.map (·.type)) cs → ∃ ns : List Int, cs = ns.map (.int .i64) ∧ ns.length = k ∧ ∀ x ∈ ns, inI x := by
          intro fs
          induction fs with
          | nil => intro k cs h g; cases h; exact ⟨[], g, rfl, fun _ h => by cases h⟩
          | cons f fs ihf =>
            intro k cs h g
            rw [List.foldr_cons] at h
            obtain ⟨c, rest, rfl, g1, g2⟩ := g
            cases ha : flatI P n f.type with
            | none => rw [ha] at h; cases h
            | some a =>
              cases hb : fs.foldr (fun f r => match flatI P n f.type, r with | some a, some b => some (a + b) | _, _ => none) (some 0) with
              | none => rw [ha, hb] at h; cases h
              | some b =>
                rw [ha, hb] at h
                cases h
                obtain ⟨n1, rfl, l1, m1⟩ := ih _ _ _ ha g1
                obtain ⟨n2, rfl, l2, m2⟩ := ihf _ _ hb g2
                exact ⟨n1 ++ n2, by simp, by simp [l1, l2], fun x hx => by rcases List.mem_append.1 hx with h | h; exact m1 x h; exact m2 x h⟩
        exact key _ _ _ h g
theorem goodL_list {α : Type} {g : TypeId → List Value → Prop} {t : TypeId} {f : α → List Value} {q : α → Prop} (h : ∀ c, g t c → ∃ x : α, c = f x ∧ q x) : ∀ (n : Nat) (cs : List Value), GoodL g (List.replicate n t) cs → ∃ xs : List α, xs.length = n ∧ cs = xs.flatMap f ∧ ∀ x ∈ xs, q x
  | 0, cs, hg => ⟨[], rfl, hg, fun _ h => by cases h⟩
  | n + 1, cs, hg => by
    obtain ⟨c, rest, rfl, h1, h2⟩ := hg
    obtain ⟨x, rfl, hx⟩ := h c h1
    obtain ⟨xs, e1, rfl, e3⟩ := goodL_list h n rest h2
    exact ⟨x :: xs, by simp [e1], by simp, fun y hy => by rcases List.mem_cons.1 hy with rfl | hy; exact hx; exact e3 y hy⟩
theorem sees_flatMap {α : Type} {f : α → List Value} {n : Nat} (hf : ∀ x, (f x).length = n) : ∀ (xs : List α), Sees f n (xs.flatMap f) 0 xs := by
  intro xs k x hx
  refine ⟨hf x, ?_⟩
  have key : ∀ (xs : List α) (k : Nat), xs[k]? = some x → (List.drop (k * n) (xs.flatMap f)).take n = f x := by
    intro xs
    induction xs with
    | nil => intro k h; simp at h
    | cons y ys ih =>
      intro k h
      cases k with
      | zero => simp at h; subst h; simp [← hf y]
      | succ k =>
        simp at h
        rw [List.flatMap_cons, Nat.succ_mul, Nat.add_comm, ← List.drop_drop, ← hf y, List.drop_left]
        rw [hf y]
        exact ih k h
  rw [Nat.zero_add]; exact key xs k hx
theorem goodA_cons {H : Heap} {n : Nat} {t : TypeId} {ts : List TypeId} {vs : List Value} (h : GoodA P H n (t :: ts) vs) : ∃ v vs', vs = v :: vs' ∧ GoodV P H n t v ∧ GoodA P H n ts vs' := by
  cases vs with
  | nil => exact h.elim
  | cons v vs => exact ⟨v, vs, rfl, h.1, h.2⟩
theorem goodA_nil {H : Heap} {n : Nat} {vs : List Value} (h : GoodA P H n [] vs) : vs = [] := by
  cases vs with
  | nil => rfl
  | cons v vs => exact h.elim
end
end Go.K
