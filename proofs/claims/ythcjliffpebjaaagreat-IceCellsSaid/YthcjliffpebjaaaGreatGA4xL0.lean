/- Ice: the examples of the chapter (awake), as a contract. No condition. -/
import Derived.Test.YthcjliffpebjaaaGreatA4a
import Derived.Test.YthcjliffpebjaaaGreatGV9xV14
import Derived.Test.YthcjliffpebjaaaGreatS6g
import Derived.Test.YthcjliffpebjaaaGreatGS0xS2a
import Derived.Test.YthcjliffpebjaaaGreatRows
import Derived.JoinedCond
namespace Go.Proofs.YthcjliffpebjaaaGreat
set_option linter.unusedVariables false
set_option linter.unusedSimpArgs false
open Go Go.K
set_option maxRecDepth 100000
noncomputable section
attribute [local irreducible] vF
theorem kAwake (H : Heap) : KCall prog F.polynyalaw01_awake [] H [] (Is (.bool true) H) := by
  have hv : vF prog msk (dm impI) 100000 true 40 true F.polynyalaw01_awake [] ⟨0, .leaf⟩ none .auto (fun v _ _ => isTrueV v) := of_eq_true awakeRun
  have h0 := vc (P := prog) (mask := msk) (dm := dm impI) (rounds := 100000) (mixed := true) mskOk mixed 40 (f := F.polynyalaw01_awake) (args := []) (H := ⟨0, .leaf⟩) (M := none) (h := .auto) (Q := fun v _ => isTrueV v) hv
  have h1 : KCall prog F.polynyalaw01_awake [] [] [] (fun v _ => v = .bool true) := h0.post (fun v H' h => by
      cases v <;> first | exact h.elim | (rename_i b; cases b <;> first | rfl | exact h.elim))
  have h2 : KCall prog F.polynyalaw01_awake [] [] [] (Is (.bool true) []) := KCall.clean h1 rfl
  have h3 := KCall.frame (H := H) (new := []) (d := 3) (σ := fun _ => none) ⟨fun g hg => absurd hg (by rw [glob0]; exact Nat.not_lt_zero _), fun _ _ h => (by cases h), fun id h => absurd h (Nat.not_lt_zero _), fun _ _ _ h => (by cases h), fun _ _ _ h => (by cases h)⟩ h2 rfl rfl
  simpa [rn] using h3
end
end Go.Proofs.YthcjliffpebjaaaGreat
/- Small steps that texts about functions share. No condition. -/
namespace Go.K
open Go
set_option linter.unusedVariables false
noncomputable section
theorem forkD {p A B : Prop} [Decidable p] (h1 : p → A) (h2 : ¬ p → B) : (decide p = true → A) ∧ (decide p = false → B) :=
  ⟨fun h => h1 (of_decide_eq_true h), fun h => h2 (of_decide_eq_false h)⟩
theorem forkNe {a b : Int} {A B : Prop} (h1 : a ≠ b → A) (h2 : a = b → B) : ((a != b) = true → A) ∧ ((a != b) = false → B) :=
  ⟨fun h => h1 (by simpa using h), fun h => h2 (by simpa using h)⟩
theorem forkEq {a b : Int} {A B : Prop} (h1 : a = b → A) (h2 : a ≠ b → B) : ((a == b) = true → A) ∧ ((a == b) = false → B) :=
  ⟨fun h => h1 (by simpa using h), fun h => h2 (by simpa using h)⟩
theorem forkNot {b : Bool} {A B : Prop} (h : (b = true → B) ∧ (b = false → A)) : ((!b) = true → A) ∧ ((!b) = false → B) := by
  cases b
  · exact ⟨fun _ => h.2 rfl, fun h => by cases h⟩
  · exact ⟨fun h => (by cases h), fun _ => h.1 rfl⟩
theorem forkB {b : Bool} {A B : Prop} (h1 : b = true → A) (h2 : b = false → B) : (b = true → A) ∧ (b = false → B) := ⟨h1, h2⟩
/-- A test whose outcome is known. -/
theorem forkT {b : Bool} {A B : Prop} (hb : b = true) (h1 : A) : (b = true → A) ∧ (b = false → B) := ⟨fun _ => h1, fun h => by rw [hb] at h; cases h⟩
theorem forkF {b : Bool} {A B : Prop} (hb : b = false) (h1 : B) : (b = true → A) ∧ (b = false → B) := ⟨fun h => (by rw [hb] at h; cases h), fun _ => h1⟩
theorem vbT {b : Bool} (h : b = true) : (Value.bool b) = .bool true := by rw [h]
theorem vbF {b : Bool} (h : b = false) : (Value.bool b) = .bool false := by rw [h]
theorem iEq {k : IntKind} {a b : Int} (h : a = b) : (Value.int k a) = .int k b := by rw [h]
theorem bEq {a b : Bool} (h : a = b) : (Value.bool a) = .bool b := by rw [h]
theorem wI64 {n : Int} (h : -9223372036854775808 ≤ n ∧ n ≤ 9223372036854775807) : IntKind.wrap .i64 n = n := IntWalk.i64_in n h
theorem vI64 {n : Int} (h : -9223372036854775808 ≤ n ∧ n ≤ 9223372036854775807) : (Value.int .i64 (IntKind.wrap .i64 n)) = .int .i64 n := by rw [wI64 h]
/-- A number has a name. -/
theorem nameK {k : IntKind} {t : Int} {Q : Int → Prop} (h : ∀ y, y = t → Q y) : ∃ y : Int, (Value.int k t) = .int k y ∧ Q y := ⟨t, rfl, h t rfl⟩
theorem nameMax {k : IntKind} {a b : Int} {Q : Int → Prop} (h : ∀ y, (y = a ∨ y = b) → a ≤ y → b ≤ y → Q y) : ∃ y : Int, (Value.int k (if b > a then b else a)) = .int k y ∧ Q y :=
  ⟨_, rfl, h _ (by split <;> simp) (by split <;> omega) (by split <;> omega)⟩
theorem nameMin {k : IntKind} {a b : Int} {Q : Int → Prop} (h : ∀ y, (y = a ∨ y = b) → y ≤ a → y ≤ b → Q y) : ∃ y : Int, (Value.int k (if b < a then b else a)) = .int k y ∧ Q y :=
  ⟨_, rfl, h _ (by split <;> simp) (by split <;> omega) (by split <;> omega)⟩
theorem ite_max (a b : Int) : (if b > a then b else a) = max a b := by split <;> omega
theorem ite_min (a b : Int) : (if b < a then b else a) = min a b := by split <;> omega
theorem toMax {k : IntKind} {a b : Int} {Q : Int → Prop} (h : Q (max a b)) : ∃ y : Int, (Value.int k (if b > a then b else a)) = .int k y ∧ Q y := ⟨max a b, by rw [ite_max], h⟩
theorem toMin {k : IntKind} {a b : Int} {Q : Int → Prop} (h : Q (min a b)) : ∃ y : Int, (Value.int k (if b < a then b else a)) = .int k y ∧ Q y := ⟨min a b, by rw [ite_min], h⟩
/-- Branches that come together: the greater, the less. -/
theorem joinI {c : Bool} {v1 v2 : Int} {S1 S2 R : Int → Prop} (h1 : c = true → S1 v1) (h2 : c = false → S2 v2) (hr : ∀ x, x = (if c = true then v1 else v2) → R x) :
    (true = true ∧ (c = true → ∃ x' : Int, ((c = true ∧ x' = v1 ∧ True) ∨ (c = false ∧ x' = v2 ∧ True)) ∧ S1 x') ∧ (c = false → ∃ x' : Int, ((c = true ∧ x' = v1 ∧ True) ∨ (c = false ∧ x' = v2 ∧ True)) ∧ S2 x') ∧
      ∀ x : Int, ((c = true ∧ x = v1 ∧ True) ∨ (c = false ∧ x = v2 ∧ True)) → R x) := by
  refine ⟨rfl, fun h => ⟨v1, .inl ⟨h, rfl, trivial⟩, h1 h⟩, fun h => ⟨v2, .inr ⟨h, rfl, trivial⟩, h2 h⟩, fun x hx => hr x ?_⟩
  rcases hx with ⟨h, rfl, _⟩ | ⟨h, rfl, _⟩
  · rw [if_pos h]
  · rw [if_neg (by rw [h]; decide)]
theorem joinMax {a b : Int} {S1 S2 R : Int → Prop} (h1 : S1 b) (h2 : S2 a) (hr : R (max a b)) :
    (true = true ∧ (decide (a < b) = true → ∃ x' : Int, ((decide (a < b) = true ∧ x' = b ∧ True) ∨ (decide (a < b) = false ∧ x' = a ∧ True)) ∧ S1 x') ∧ (decide (a < b) = false → ∃ x' : Int, ((decide (a < b) = true ∧ x' = b ∧ True) ∨ (decide (a < b) = false ∧ x' = a ∧ True)) ∧ S2 x') ∧
      ∀ x : Int, ((decide (a < b) = true ∧ x = b ∧ True) ∨ (decide (a < b) = false ∧ x = a ∧ True)) → R x) :=
  joinI (fun _ => h1) (fun _ => h2) fun x hx => by
    have : x = max a b := by rw [hx]; simp only [decide_eq_true_eq]; split <;> omega
    rw [this]; exact hr
theorem joinMin {a b : Int} {S1 S2 R : Int → Prop} (h1 : S1 b) (h2 : S2 a) (hr : R (min a b)) :
    (true = true ∧ (decide (b < a) = true → ∃ x' : Int, ((decide (b < a) = true ∧ x' = b ∧ True) ∨ (decide (b < a) = false ∧ x' = a ∧ True)) ∧ S1 x') ∧ (decide (b < a) = false → ∃ x' : Int, ((decide (b < a) = true ∧ x' = b ∧ True) ∨ (decide (b < a) = false ∧ x' = a ∧ True)) ∧ S2 x') ∧
      ∀ x : Int, ((decide (b < a) = true ∧ x = b ∧ True) ∨ (decide (b < a) = false ∧ x = a ∧ True)) → R x) :=
  joinI (fun _ => h1) (fun _ => h2) fun x hx => by
    have : x = min a b := by rw [hx]; simp only [decide_eq_true_eq]; split <;> omega
    rw [this]; exact hr
theorem KCall.wkA {P : Program} {f : FuncId} {args args2 : List Value} {H : Heap} {M : List Nat} {Q : Value → Heap → Prop} (h : KCall P f args2 H M Q) (ha : wks args args2) : KCall P f args H M Q :=
  KCall.weakArgs [] (by rw [List.append_nil]; exact h) (wks_spec ha).1 (wks_spec ha).2
/-- A call by its contract. -/
theorem ansV {α : Type} {A : α → Prop} {B : α → Prop} {C : α → Prop} (x : α) (hA : A x) (hB : B x) (hC : C x) : ∃ r, (A r ∧ B r ∧ C r) := ⟨x, hA, hB, hC⟩
end
end Go.K
/- Ice: IceCells returns true. No condition. -/
namespace Go.Proofs.YthcjliffpebjaaaGreat
open Go Go.K
set_option maxRecDepth 100000
set_option linter.unusedVariables false
set_option linter.unusedSimpArgs false
noncomputable section
attribute [local irreducible] vF
set_option maxHeartbeats 4000000 in
theorem kCells (a b : Cell) (x : Ice) (m : Rates) (hours : Int) (xs : List Ice) {H : Heap} {id : Nat} {own : Bool} {z : Nat} (hid : H[id]? = some (.cells own z (xs.flatMap iceC))) :
    KCall prog F.polynyalaw01_IceCells [cellV a, cellV b, iceV x, ratesV m, .int .i64 hours, .slice (some ⟨id, 0, some 2⟩) xs.length xs.length] H [] (Is (.bool true) H) := by
  refine valR (Eq.mpr (ECells _ a b x m hours xs) ?_) (one_cs (plain_flat (fun _ => rfl) xs)) rfl [id] rfl (one_id hid)
  unfold RCells
  repeat' first
    | refine ⟨trivial, fun H' _ _ => kAwake H', ?_⟩
    | refine ⟨_, trivial, fun H' _ _ => kCheckCell _ H', ?_⟩
    | refine ⟨_, trivial, fun H' _ _ => krCheckCell _ H', ?_⟩
    | refine ⟨_, trivial, fun H' _ _ => kCheckIce _ H', ?_⟩
    | refine ⟨_, trivial, fun H' _ _ => krCheckIce _ H', ?_⟩
    | refine ⟨_, trivial, fun H' _ _ => kCheckRates _ H', ?_⟩
    | refine ⟨_, trivial, fun H' _ _ => krCheckRates _ H', ?_⟩
    | refine ⟨wholeC, trivial, fun H' _ _ => kWhole H', ?_⟩
    | refine ⟨wholeC, trivial, fun H' _ _ => krWhole H', ?_⟩
    | refine ⟨_, trivial, fun H' _ _ => kHas _ _ H', ?_⟩
    | refine ⟨_, trivial, fun H' _ _ => krHas _ _ H', ?_⟩
    | refine ⟨_, trivial, fun H' _ _ => kInside _ _ H', ?_⟩
    | refine ⟨_, trivial, fun H' _ _ => krInside _ _ H', ?_⟩
    | refine ⟨_, trivial, fun H' _ _ => kMeet _ _ H', ?_⟩
    | refine ⟨_, trivial, fun H' _ _ => krMeet _ _ H', ?_⟩
    | refine ⟨_, trivial, fun H' _ _ => kHull _ _ H', ?_⟩
    | refine ⟨_, trivial, fun H' _ _ => krHull _ _ H', ?_⟩
    | refine ⟨_, trivial, fun H' _ _ => kAge _ _ _ H', ?_⟩
    | refine ⟨_, trivial, fun H' _ _ => krAge _ _ _ H', ?_⟩
    | refine ⟨_, ⟨rfl, trivial⟩, fun H' _ hd => (kAllowed _ _ (by omega) hd.1).wkA ⟨wk_QR, wk_refl _, trivial⟩, ?_⟩
    | refine ⟨_, ⟨rfl, trivial⟩, fun H' _ hd => krAllowed _ _ (by omega) hd.1, ?_⟩
    | refine ⟨⟨rfl, trivial⟩, fun H' hl hd => hl ▸ kField xs (by omega) hd.1, ?_⟩
    | refine forkF (by simp only [bne_self_eq_false, BEq.rfl, Bool.and_self, Bool.not_true]) ?_
    | exact rfl
    | refine forkD (fun h => ?_) (fun h => ?_)
  all_goals
    refine ⟨rfl, Nat.zero_le _, ?_, fun _ => rfl, ?_⟩
    · repeat' first
        | exact trivial
        | exact rfl
        | refine joinMax ?_ ?_ ?_
        | refine joinMin ?_ ?_ ?_
        | refine toMax ?_
        | refine toMin ?_
        | refine ⟨rfl, ?_⟩
        | refine ⟨trivial, ?_⟩
        | refine forkD (fun h => ?_) (fun h => ?_)
        | refine forkNe (fun h => ?_) (fun h => ?_)
        | refine forkEq (fun h => ?_) (fun h => ?_)
        | refine forkNot ?_
        | refine ⟨vI64 (by omega), ?_⟩
        | refine And.intro (by omega) ?_
        | apply And.intro
        | exact wk_refl _
        | exact iEq (by omega)
        | exact vI64 (by omega)
    · intro k hk
      have e : ∀ j, j < xs.length → partA 4 (List.flatMap iceC xs) (0 + Int.toNat ((j : Nat) : Int) * 4) = some (.agg #[.int .i64 (List.getD xs j zeroI).conc, .int .i64 (List.getD xs j zeroI).thick, .int .i64 (List.getD xs j zeroI).ridge, .int .i64 (List.getD xs j zeroI).press]) := fun j hj => partIce hj
      refine forkD (fun h => ?_) (fun h => ?_)
      · repeat' first
          | refine ⟨e _ (by omega), ?_⟩
          | refine forkF (by simp only [bne_self_eq_false, BEq.rfl, Bool.and_self, Bool.not_true]) ?_
          | refine ⟨k + 1, by omega, by omega, ?_⟩
          | exact trivial
          | exact rfl
          | refine joinMax ?_ ?_ ?_
          | refine joinMin ?_ ?_ ?_
          | refine toMax ?_
          | refine toMin ?_
          | refine ⟨rfl, ?_⟩
          | refine ⟨trivial, ?_⟩
          | refine forkD (fun h => ?_) (fun h => ?_)
          | refine forkNe (fun h => ?_) (fun h => ?_)
          | refine forkEq (fun h => ?_) (fun h => ?_)
          | refine forkNot ?_
          | refine ⟨vI64 (by omega), ?_⟩
          | refine And.intro (by omega) ?_
          | apply And.intro
          | exact wk_refl _
          | exact iEq (by omega)
          | exact vI64 (by omega)
      · repeat' first
          | refine ⟨trivial, fun H' _ _ => kAwake H', ?_⟩
          | refine ⟨_, trivial, fun H' _ _ => kCheckCell _ H', ?_⟩
          | refine ⟨_, trivial, fun H' _ _ => krCheckCell _ H', ?_⟩
          | refine ⟨_, trivial, fun H' _ _ => kCheckIce _ H', ?_⟩
          | refine ⟨_, trivial, fun H' _ _ => krCheckIce _ H', ?_⟩
          | refine ⟨_, trivial, fun H' _ _ => kCheckRates _ H', ?_⟩
          | refine ⟨_, trivial, fun H' _ _ => krCheckRates _ H', ?_⟩
          | refine ⟨wholeC, trivial, fun H' _ _ => kWhole H', ?_⟩
          | refine ⟨wholeC, trivial, fun H' _ _ => krWhole H', ?_⟩
          | refine forkT (by simp only [BEq.rfl]) ?_
          | exact trivial
          | exact rfl
          | refine joinMax ?_ ?_ ?_
          | refine joinMin ?_ ?_ ?_
          | refine toMax ?_
          | refine toMin ?_
          | refine ⟨rfl, ?_⟩
          | refine ⟨trivial, ?_⟩
          | refine forkD (fun h => ?_) (fun h => ?_)
          | refine forkNe (fun h => ?_) (fun h => ?_)
          | refine forkEq (fun h => ?_) (fun h => ?_)
          | refine forkNot ?_
          | refine ⟨vI64 (by omega), ?_⟩
          | refine And.intro (by omega) ?_
          | apply And.intro
          | exact wk_refl _
          | exact iEq (by omega)
          | exact vI64 (by omega)
end
end Go.Proofs.YthcjliffpebjaaaGreat
/- How laws' arguments are read. No condition. -/
namespace Go.Proofs.YthcjliffpebjaaaGreat
open Go Go.K Go.ChangeShapes Go.WideShapes Go.ChangeAt Go.RowKit
set_option maxRecDepth 100000
set_option linter.unusedVariables false
noncomputable section
theorem own : ownKnob Tryz.prog.godebug = none := by kernel_rfl
theorem sized : slicesSized Tryz.prog = true := by kernel_rfl
abbrev known (t : TypeId) : Prop := t < Tryz.prog.types.size
theorem kids : Kids Tryz.prog known := kids_rows (by kernel_rfl) (by kernel_rfl)
theorem good_flat {H : Heap} {t : TypeId} {v : Value} (n : Nat) (hu : (match Tryz.prog.underlying t with | some (.struct _) => true | _ => false) = true) (hf : flatI Tryz.prog 6 t = some n) (h : GoodV Tryz.prog H 6 t v) :
    ∃ ns : List Int, v = .agg ⟨ns.map (.int .i64)⟩ ∧ ns.length = n ∧ ∀ x ∈ ns, inI x := by
  unfold GoodV at h
  split at hu
  · rename_i fs e
    rw [e] at h
    obtain ⟨cs, rfl, h⟩ := h
    obtain ⟨ns, rfl, h2, h3⟩ := flatI_good 6 t n cs hf h
    exact ⟨ns, rfl, h2, h3⟩
  · cases hu
theorem good_int {H : Heap} {v : Value} (h : GoodV Tryz.prog H 6 3 v) : ∃ x : Int, v = .int .i64 x ∧ inI x := by
  have hu : Tryz.prog.underlying 3 = some (.int .i64) := by kernel_rfl
  unfold GoodV at h
  rw [hu] at h
  obtain ⟨ns, h1, h2, h3⟩ := flatI_good 6 3 1 [v] (by unfold flatI; rw [hu]) h
  match ns, h2 with
  | [x], _ => exact ⟨x, by simpa using h1, h3 x (by simp)⟩
theorem good_cell {H : Heap} {v : Value} (h : GoodV Tryz.prog H 6 43 v) : ∃ c : Cell, v = cellV c := by
  obtain ⟨ns, rfl, h2, _⟩ := good_flat 8 (by kernel_rfl) (by kernel_rfl) h
  match ns, h2 with
  | [a1, a2, a3, a4, a5, a6, a7, a8], _ => exact ⟨⟨⟨a1, a2⟩, ⟨a3, a4⟩, ⟨a5, a6⟩, ⟨a7, a8⟩⟩, rfl⟩
theorem good_ice {H : Heap} {v : Value} (h : GoodV Tryz.prog H 6 24 v) : ∃ x : Ice, v = iceV x := by
  obtain ⟨ns, rfl, h2, _⟩ := good_flat 4 (by kernel_rfl) (by kernel_rfl) h
  match ns, h2 with
  | [a1, a2, a3, a4], _ => exact ⟨⟨a1, a2, a3, a4⟩, rfl⟩
theorem good_rates {H : Heap} {v : Value} (h : GoodV Tryz.prog H 6 26 v) : ∃ m : Rates, v = ratesV m := by
  obtain ⟨ns, rfl, h2, _⟩ := good_flat 8 (by kernel_rfl) (by kernel_rfl) h
  match ns, h2 with
  | [a1, a2, a3, a4, a5, a6, a7, a8], _ => exact ⟨⟨⟨a1, a2, a3, a4⟩, ⟨a5, a6, a7, a8⟩⟩, rfl⟩
theorem goodL_flat {α : Type} {f : α → List Value} {n t : Nat} (H : Heap) (hf : flatI Tryz.prog 5 t = some n) (hα : ∀ ns : List Int, ns.length = n → ∃ x : α, ns.map (Value.int .i64) = f x) :
    ∀ c, K.Good Tryz.prog H 5 t c → ∃ x : α, c = f x ∧ True := by
  intro c h
  obtain ⟨ns, rfl, h2, _⟩ := flatI_good 5 t n c hf h
  obtain ⟨x, hx⟩ := hα ns h2
  exact ⟨x, hx, trivial⟩
/-- A slice: nil, empty, or a block of its own: less is said: read only. -/
theorem good_slice {α : Type} {f : α → List Value} {H : Heap} {t e : Nat} {v : Value} (hu : Tryz.prog.underlying t = some (.slice e)) (hg : ∀ c, K.Good Tryz.prog H 5 e c → ∃ x : α, c = f x ∧ True) (h : GoodV Tryz.prog H 6 t v) :
    ∃ (xs : List α) (gs : List KObj) (id : Nat) (own : Bool) (z : Nat), wk v (.slice (some ⟨id, 0, some 2⟩) xs.length xs.length) ∧ (H ++ gs)[id]? = some (.cells own z (xs.flatMap f)) ∧ xs.length ≤ maxLen := by
  unfold GoodV at h
  rw [hu] at h
  unfold K.Good at h
  rw [hu] at h
  rcases h with h | h | ⟨id, len, cs', h1, h2, h3, h4, h5⟩
  · cases h; exact ⟨[], [.cells false 0 []], H.length, false, 0, wk_nil _ _ _ (.inr rfl), by simp, by simp [maxLen]⟩
  · cases h; exact ⟨[], [.cells false 0 []], H.length, false, 0, wk_E _ _ _ (.inr rfl), by simp, by simp [maxLen]⟩
  · cases h1
    obtain ⟨xs, rfl, rfl, _⟩ := goodL_list (f := f) (q := fun _ => True) hg len cs' h5
    exact ⟨xs, [], id, false, 0, wk_R, by rw [List.append_nil]; exact h2, h4⟩
theorem good_ices {H : Heap} {v : Value} (h : GoodV Tryz.prog H 6 72 v) : ∃ (xs : List Ice) (gs : List KObj) (id : Nat) (own : Bool) (z : Nat), wk v (.slice (some ⟨id, 0, some 2⟩) xs.length xs.length) ∧ (H ++ gs)[id]? = some (.cells own z (xs.flatMap iceC)) ∧ xs.length ≤ maxLen := by
  refine good_slice (e := 24) (by kernel_rfl) (goodL_flat (n := 4) H (by kernel_rfl) fun ns h => ?_) h
  match ns, h with
  | [a1, a2, a3, a4], _ => exact ⟨⟨a1, a2, a3, a4⟩, rfl⟩
end
end Go.Proofs.YthcjliffpebjaaaGreat
