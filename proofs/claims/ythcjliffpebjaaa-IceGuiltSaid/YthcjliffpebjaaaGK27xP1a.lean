/- Small steps that texts about functions share. No condition. -/
import Derived.Test.YthcjliffpebjaaaGK24xV14
import Derived.Test.YthcjliffpebjaaaGS0xS7g
namespace Go.K
set_option linter.unusedSimpArgs false
open Go
set_option linter.unusedVariables false
noncomputable section
theorem forkD {p A B : Prop} [Decidable p] (h1 : p → A) (h2 : ¬ p → B) : (decide p = true → A) ∧ (decide p = false → B) :=
  ⟨fun h => h1 (of_decide_eq_true h), fun h => h2 (of_decide_eq_false h)⟩
theorem forkNe {a b : Int} {A B : Prop} (h1 : a ≠ b → A) (h2 : a = b → B) : ((a != b) = true → A) ∧ ((a != b) = false → B) :=
  ⟨fun h => h1 (by simpa using h), fun h => h2 (by simpa using h)⟩
theorem forkEq {a b : Int} {A B : Prop} (h1 : a = b → A) (h2 : a ≠ b → B) : ((a == b) = true → A) ∧ ((a == b) = false → B) :=
  ⟨fun h => h1 (by simpa using h), fun h => h2 (by simpa using h)⟩
theorem forkNot {b : Bool} {A B : Prop} (h : (b = true → B) ∧ (b = false → A)) : ((!b) = true → A) ∧ ((!b) = false → B) := by
  cases b
  · exact ⟨fun _ => h.2 rfl, fun h => by cases h⟩
  · exact ⟨fun h => (by cases h), fun _ => h.1 rfl⟩
theorem forkB {b : Bool} {A B : Prop} (h1 : b = true → A) (h2 : b = false → B) : (b = true → A) ∧ (b = false → B) := ⟨h1, h2⟩
/-- A test whose outcome is known. -/
theorem forkT {b : Bool} {A B : Prop} (hb : b = true) (h1 : A) : (b = true → A) ∧ (b = false → B) := ⟨fun _ => h1, fun h => by rw [hb] at h; cases h⟩
theorem forkF {b : Bool} {A B : Prop} (hb : b = false) (h1 : B) : (b = true → A) ∧ (b = false → B) := ⟨fun h => (by rw [hb] at h; cases h), fun _ => h1⟩
theorem nbq (b : Bool) : (!(b == b)) = false := by cases b <;> rfl
theorem bq (b : Bool) : (b == b) = true := by cases b <;> rfl
theorem iq (n : Int) : (n == n) = true := by simp
theorem niq (n : Int) : (n != n) = false := by simp
theorem vbT {b : Bool} (h : b = true) : (Value.bool b) = .bool true := by rw [h]
theorem vbF {b : Bool} (h : b = false) : (Value.bool b) = .bool false := by rw [h]
theorem iEq {k : IntKind} {a b : Int} (h : a = b) : (Value.int k a) = .int k b := by rw [h]
theorem bEq {a b : Bool} (h : a = b) : (Value.bool a) = .bool b := by rw [h]
theorem wI64 {n : Int} (h : -9223372036854775808 ≤ n ∧ n ≤ 9223372036854775807) : IntKind.wrap .i64 n = n := IntWalk.i64_in n h
theorem vI64 {n : Int} (h : -9223372036854775808 ≤ n ∧ n ≤ 9223372036854775807) : (Value.int .i64 (IntKind.wrap .i64 n)) = .int .i64 n := by rw [wI64 h]
/-- A number has a name. -/
theorem nameK {k : IntKind} {t : Int} {Q : Int → Prop} (h : ∀ y, y = t → Q y) : ∃ y : Int, (Value.int k t) = .int k y ∧ Q y := ⟨t, rfl, h t rfl⟩
theorem nameMax {k : IntKind} {a b : Int} {Q : Int → Prop} (h : ∀ y, (y = a ∨ y = b) → a ≤ y → b ≤ y → Q y) : ∃ y : Int, (Value.int k (if b > a then b else a)) = .int k y ∧ Q y :=
  ⟨_, rfl, h _ (by split <;> simp) (by split <;> omega) (by split <;> omega)⟩
theorem nameMin {k : IntKind} {a b : Int} {Q : Int → Prop} (h : ∀ y, (y = a ∨ y = b) → y ≤ a → y ≤ b → Q y) : ∃ y : Int, (Value.int k (if b < a then b else a)) = .int k y ∧ Q y :=
  ⟨_, rfl, h _ (by split <;> simp) (by split <;> omega) (by split <;> omega)⟩
theorem ite_max (a b : Int) : (if b > a then b else a) = max a b := by split <;> omega
theorem ite_min (a b : Int) : (if b < a then b else a) = min a b := by split <;> omega
theorem toMax {k : IntKind} {a b : Int} {Q : Int → Prop} (h : Q (max a b)) : ∃ y : Int, (Value.int k (if b > a then b else a)) = .int k y ∧ Q y := ⟨max a b, by rw [ite_max], h⟩
theorem toMin {k : IntKind} {a b : Int} {Q : Int → Prop} (h : Q (min a b)) : ∃ y : Int, (Value.int k (if b < a then b else a)) = .int k y ∧ Q y := ⟨min a b, by rw [ite_min], h⟩
/-- Branches that come together: the greater, the less. -/
theorem joinI {c : Bool} {v1 v2 : Int} {S1 S2 R : Int → Prop} (h1 : c = true → S1 v1) (h2 : c = false → S2 v2) (hr : ∀ x, x = (if c = true then v1 else v2) → R x) :
    (true = true ∧ (c = true → ∃ x' : Int, ((c = true ∧ x' = v1 ∧ True) ∨ (c = false ∧ x' = v2 ∧ True)) ∧ S1 x') ∧ (c = false → ∃ x' : Int, ((c = true ∧ x' = v1 ∧ True) ∨ (c = false ∧ x' = v2 ∧ True)) ∧ S2 x') ∧
      ∀ x : Int, ((c = true ∧ x = v1 ∧ True) ∨ (c = false ∧ x = v2 ∧ True)) → R x) := by
  refine ⟨rfl, fun h => ⟨v1, .inl ⟨h, rfl, trivial⟩, h1 h⟩, fun h => ⟨v2, .inr ⟨h, rfl, trivial⟩, h2 h⟩, fun x hx => hr x ?_⟩
  rcases hx with ⟨h, rfl, _⟩ | ⟨h, rfl, _⟩
  · rw [if_pos h]
  · rw [if_neg (by rw [h]; decide)]
theorem joinMax {a b : Int} {S1 S2 R : Int → Prop} (h1 : S1 b) (h2 : S2 a) (hr : R (max a b)) :
    (true = true ∧ (decide (a < b) = true → ∃ x' : Int, ((decide (a < b) = true ∧ x' = b ∧ True) ∨ (decide (a < b) = false ∧ x' = a ∧ True)) ∧ S1 x') ∧ (decide (a < b) = false → ∃ x' : Int, ((decide (a < b) = true ∧ x' = b ∧ True) ∨ (decide (a < b) = false ∧ x' = a ∧ True)) ∧ S2 x') ∧
      ∀ x : Int, ((decide (a < b) = true ∧ x = b ∧ True) ∨ (decide (a < b) = false ∧ x = a ∧ True)) → R x) :=
  joinI (fun _ => h1) (fun _ => h2) fun x hx => by
    have : x = max a b := by rw [hx]; simp only [decide_eq_true_eq]; split <;> omega
    rw [this]; exact hr
theorem joinMin {a b : Int} {S1 S2 R : Int → Prop} (h1 : S1 b) (h2 : S2 a) (hr : R (min a b)) :
    (true = true ∧ (decide (b < a) = true → ∃ x' : Int, ((decide (b < a) = true ∧ x' = b ∧ True) ∨ (decide (b < a) = false ∧ x' = a ∧ True)) ∧ S1 x') ∧ (decide (b < a) = false → ∃ x' : Int, ((decide (b < a) = true ∧ x' = b ∧ True) ∨ (decide (b < a) = false ∧ x' = a ∧ True)) ∧ S2 x') ∧
      ∀ x : Int, ((decide (b < a) = true ∧ x = b ∧ True) ∨ (decide (b < a) = false ∧ x = a ∧ True)) → R x) :=
  joinI (fun _ => h1) (fun _ => h2) fun x hx => by
    have : x = min a b := by rw [hx]; simp only [decide_eq_true_eq]; split <;> omega
    rw [this]; exact hr
theorem wks_cons {a b : Value} {r s : List Value} (h : wk a b) (hr : wks r s) : wks (a :: r) (b :: s) := ⟨h, hr⟩
theorem wks_nil : wks [] [] := trivial
theorem KCall.wkA {P : Program} {f : FuncId} {args args2 : List Value} {H : Heap} {M : List Nat} {Q : Value → Heap → Prop} (h : KCall P f args2 H M Q) (ha : wks args args2) : KCall P f args H M Q :=
  KCall.weakArgs [] (by rw [List.append_nil]; exact h) (wks_spec ha).1 (wks_spec ha).2
/-- Blocks that are read and may hold one another's addresses. -/
theorem reads_ofA {P : Program} {css : List (List Value)} {ids : List Nat} {H : Heap} (hids : ∀ (k : Nat) (cs : List Value), css[k]? = some cs → ∃ id own z, ids[k]? = some id ∧ H[id]? = some (KObj.cells own z (cs.map (rn (sgR P.globals.size ids) 3)))) (hl : ids.length = css.length) :
    Reads P (readsT P.globals.size css).list H (sgR P.globals.size ids) 3 := by
  have hn : (readsT P.globals.size css).list.length = P.globals.size + css.length := by rw [HT.length, readsT_n]
  refine ⟨fun g hg => if_pos hg, fun id id' h => ?_, by rw [hn]; omega, fun id o h => ?_, fun id id' cs h1 h2 => ?_⟩
  · rw [hn]
    unfold sgR at h
    split at h
    · omega
    · have := (List.getElem?_eq_some_iff.1 h).1; omega
  · rw [readsT_list] at h
    split at h
    · cases h; exact .inl rfl
    · obtain ⟨cs, _, rfl⟩ := Option.map_eq_some_iff.1 h; exact .inr ⟨cs, rfl⟩
  · rw [readsT_list] at h2
    split at h2
    · cases h2
    · rename_i hlt
      obtain ⟨cs', a1, a2⟩ := Option.map_eq_some_iff.1 h2
      cases a2
      unfold sgR at h1
      rw [if_neg hlt] at h1
      obtain ⟨id2, own, z, b1, b2⟩ := hids _ _ a1
      rw [h1] at b1; cases b1
      exact ⟨own, z, b2⟩
theorem vcRA {P : Program} {mixed : Bool} {mask : Nat} {dm : Value → MS} {rounds : Nat} (hmask : MaskOk P mixed mask) (hmix : mixed = true → P.follows .mixedOrders = true) (n : Nat) {f : FuncId} {args : List Value} {css : List (List Value)} {h : Hint} {v : Value} {new : List (Bool × KObj)}
    (hc : vF P mask dm rounds mixed n true f args (readsT P.globals.size css) (some []) h (newK (readsT P.globals.size css).n 3 v new))
    (hv : rnOk 3 v = true) (hv2 : rn (sgOnly (P.globals.size + css.length)) 3 v = v) (hn : (new.map (·.2)).all (fun o => rnoOk 3 o && o.owned) = true) (hn2 : (new.map (·.2)).map (rno (sgOnly (P.globals.size + css.length)) 3) = new.map (·.2))
    {H : Heap} (ids : List Nat) (hl : ids.length = css.length) (hids : ∀ (k : Nat) (cs : List Value), css[k]? = some cs → ∃ id own z, ids[k]? = some id ∧ H[id]? = some (KObj.cells own z (cs.map (rn (sgR P.globals.size ids) 3)))) :
    KCall P f (args.map (rn (sgR P.globals.size ids) 3)) H [] (Is (rn (sgUp (P.globals.size + css.length) H.length) 3 v) (H ++ (new.map (·.2)).map (rno (sgUp (P.globals.size + css.length) H.length) 3))) := by
  have h1 := vcN hmask hmix n hc
  have e : (readsT P.globals.size css).list.length = P.globals.size + css.length := by rw [HT.length, readsT_n]
  have := KCall.reads (reads_ofA hids hl) h1 hv (by rw [e]; exact hv2) hn (by rw [e]; exact hn2)
  rw [e] at this
  exact this
theorem vcR0A {P : Program} {mixed : Bool} {mask : Nat} {dm : Value → MS} {rounds : Nat} (hmask : MaskOk P mixed mask) (hmix : mixed = true → P.follows .mixedOrders = true) (n : Nat) {f : FuncId} {args : List Value} {css : List (List Value)} {h : Hint} {v : Value}
    (hc : vF P mask dm rounds mixed n true f args (readsT P.globals.size css) (some []) h (fun v' _ _ => v' = v)) (hv : belowV 0 v = true)
    {H : Heap} (ids : List Nat) (hl : ids.length = css.length) (hids : ∀ (k : Nat) (cs : List Value), css[k]? = some cs → ∃ id own z, ids[k]? = some id ∧ H[id]? = some (KObj.cells own z (cs.map (rn (sgR P.globals.size ids) 3)))) (h3 : rnOk 3 v = true := by rfl) (h4 : ∀ σ, rn σ 3 v = v := by intro σ; rfl) :
    KCall P f (args.map (rn (sgR P.globals.size ids) 3)) H [] (Is v H) := by
  have h1 : KCall P f args (readsT P.globals.size css).list [] (Is v ((readsT P.globals.size css).list ++ [])) := by
    have := KCall.clean (vc hmask hmix n (Q := fun v' _ => v' = v) hc) hv
    simpa using this
  have := KCall.reads (reads_ofA hids hl) h1 h3 (h4 _) rfl rfl
  rw [h4] at this
  simpa using this
/-- A call by its contract. -/
theorem ansV {α : Type} {A : α → Prop} {B : α → Prop} {C : α → Prop} (x : α) (hA : A x) (hB : B x) (hC : C x) : ∃ r, (A r ∧ B r ∧ C r) := ⟨x, hA, hB, hC⟩
end
end Go.K
/- Ice: functions of cells that charts and reports use. No condition. -/
namespace Go.Proofs.Ythcjliffpebjaaa
open Go Go.K
set_option maxRecDepth 100000
set_option linter.unusedVariables false
set_option linter.unusedSimpArgs false
noncomputable section
attribute [local irreducible] vF
theorem kspMeet (a b : Cell) (H : Heap) : KCall prog F.ice_spans_meet [cellV a, cellV b] H [] (Is (.tuple #[cellV (meetC a b), .bool (decide (okC (meetC a b)))]) H) := by
  refine valK 40 (fun _ => rfl) rfl (Eq.mpr (EspMeet _ a b) ?_) H
  unfold RspMeet
  repeat' first
    | exact trivial
    | exact rfl
    | refine joinMax ?_ ?_ ?_
    | refine joinMin ?_ ?_ ?_
    | refine toMax ?_
    | refine toMin ?_
    | refine ⟨rfl, ?_⟩
    | refine ⟨trivial, ?_⟩
    | refine forkD (fun h => ?_) (fun h => ?_)
    | refine forkNe (fun h => ?_) (fun h => ?_)
    | refine forkEq (fun h => ?_) (fun h => ?_)
    | refine forkNot ?_
    | refine ⟨vI64 (by omega), ?_⟩
    | refine And.intro (by omega) ?_
    | apply And.intro
    | exact wk_refl _
    | exact iEq (by omega)
    | exact vI64 (by omega)
  · exact congrArg (fun q => Value.tuple #[cellV (meetC a b), Value.bool q]) (decide_eq_true (p := okC (meetC a b)) ⟨‹_›, ‹_›, ‹_›, ‹_›⟩).symm
  all_goals exact congrArg (fun q => Value.tuple #[cellV (meetC a b), Value.bool q]) (decide_eq_false (p := okC (meetC a b)) (fun o => by first | exact h o.1 | exact h o.2.1 | exact h o.2.2.1 | exact h o.2.2.2)).symm
theorem kspHull (a b : Cell) (H : Heap) : KCall prog F.ice_spans_hull [cellV a, cellV b] H [] (Is (cellV (hullC a b)) H) := by
  refine valK 40 (fun _ => rfl) rfl (Eq.mpr (EspHull _ a b) ?_) H
  unfold RspHull
  repeat' first
    | exact trivial
    | exact rfl
    | refine joinMax ?_ ?_ ?_
    | refine joinMin ?_ ?_ ?_
    | refine toMax ?_
    | refine toMin ?_
    | refine ⟨rfl, ?_⟩
    | refine ⟨trivial, ?_⟩
    | refine forkD (fun h => ?_) (fun h => ?_)
    | refine forkNe (fun h => ?_) (fun h => ?_)
    | refine forkEq (fun h => ?_) (fun h => ?_)
    | refine forkNot ?_
    | refine ⟨vI64 (by omega), ?_⟩
    | refine And.intro (by omega) ?_
    | apply And.intro
    | exact wk_refl _
    | exact iEq (by omega)
    | exact vI64 (by omega)
theorem kspAged (c : Cell) (m : Rates) (h : Int) (hc : rightC c) (hm : rightR m) (hh : 0 ≤ h ∧ h ≤ 10000) (H : Heap) : KCall prog F.ice_spans_aged [cellV c, ratesV m, .int .i64 h] H [] (Is (cellV (ageC c m h)) H) := by
  refine valK 40 (fun _ => rfl) rfl (Eq.mpr (EspAged _ c m h) ?_) H
  unfold RspAged
  obtain ⟨⟨u1, u2, u3, u4⟩, d1, d2, d3, d4⟩ := hm
  obtain ⟨c1, c2, c3, c4⟩ := hc
  unfold rightS at c1 c2 c3 c4
  have b1 := chg_bd u1 hh; have b2 := chg_bd u2 hh; have b3 := chg_bd u3 hh; have b4 := chg_bd u4 hh
  have e1 := chg_bd d1 hh; have e2 := chg_bd d2 hh; have e3 := chg_bd d3 hh; have e4 := chg_bd d4 hh
  repeat' first
    | refine ⟨_, trivial, fun H' _ _ => kchange _ _ (by first
    | exact u1
    | exact u2
    | exact u3
    | exact u4
    | exact d1
    | exact d2
    | exact d3
    | exact d4) hh H', ?_⟩
    | exact trivial
    | exact rfl
    | refine joinMax ?_ ?_ ?_
    | refine joinMin ?_ ?_ ?_
    | refine toMax ?_
    | refine toMin ?_
    | refine ⟨rfl, ?_⟩
    | refine ⟨trivial, ?_⟩
    | refine forkD (fun h => ?_) (fun h => ?_)
    | refine forkNe (fun h => ?_) (fun h => ?_)
    | refine forkEq (fun h => ?_) (fun h => ?_)
    | refine forkNot ?_
    | refine ⟨vI64 (by omega), ?_⟩
    | refine And.intro (by omega) ?_
    | apply And.intro
    | exact wk_refl _
    | exact iEq (by omega)
    | exact vI64 (by omega)
theorem kspIns (a b : Cell) (H : Heap) : KCall prog F.ice_spans_inside [cellV a, cellV b] H [] (Is (.bool (decide (insC a b))) H) := by
  refine valK 40 (fun _ => rfl) rfl (Eq.mpr (EspIns _ a b) ?_) H
  unfold RspIns
  repeat' first
    | exact trivial
    | exact rfl
    | refine joinMax ?_ ?_ ?_
    | refine joinMin ?_ ?_ ?_
    | refine toMax ?_
    | refine toMin ?_
    | refine ⟨rfl, ?_⟩
    | refine ⟨trivial, ?_⟩
    | refine forkD (fun h => ?_) (fun h => ?_)
    | refine forkNe (fun h => ?_) (fun h => ?_)
    | refine forkEq (fun h => ?_) (fun h => ?_)
    | refine forkNot ?_
    | refine ⟨vI64 (by omega), ?_⟩
    | refine And.intro (by omega) ?_
    | apply And.intro
    | exact wk_refl _
    | exact iEq (by omega)
    | exact vI64 (by omega)
  all_goals first | exact bEq (decide_eq_true (by unfold insC insS; omega)).symm | exact bEq (decide_eq_false (by unfold insC insS; omega)).symm
theorem kspHas (c : Cell) (x : Ice) (H : Heap) : KCall prog F.ice_spans_has [cellV c, iceV x] H [] (Is (.bool (decide (hasC c x))) H) := by
  refine valK 40 (fun _ => rfl) rfl (Eq.mpr (EspHas _ c x) ?_) H
  unfold RspHas
  repeat' first
    | exact trivial
    | exact rfl
    | refine joinMax ?_ ?_ ?_
    | refine joinMin ?_ ?_ ?_
    | refine toMax ?_
    | refine toMin ?_
    | refine ⟨rfl, ?_⟩
    | refine ⟨trivial, ?_⟩
    | refine forkD (fun h => ?_) (fun h => ?_)
    | refine forkNe (fun h => ?_) (fun h => ?_)
    | refine forkEq (fun h => ?_) (fun h => ?_)
    | refine forkNot ?_
    | refine ⟨vI64 (by omega), ?_⟩
    | refine And.intro (by omega) ?_
    | apply And.intro
    | exact wk_refl _
    | exact iEq (by omega)
    | exact vI64 (by omega)
  all_goals first | exact bEq (decide_eq_true (by unfold hasC hasS; omega)).symm | exact bEq (decide_eq_false (by unfold hasC hasS; omega)).symm
theorem okC_meet {a b : Cell} (ha : rightC a) (hb : rightC b) : okC (meetC a b) ↔ (b.conc.lo ≤ a.conc.hi ∧ a.conc.lo ≤ b.conc.hi) ∧ (b.thick.lo ≤ a.thick.hi ∧ a.thick.lo ≤ b.thick.hi) ∧ (b.ridge.lo ≤ a.ridge.hi ∧ a.ridge.lo ≤ b.ridge.hi) ∧ (b.press.lo ≤ a.press.hi ∧ a.press.lo ≤ b.press.hi) := by
  obtain ⟨a1, a2, a3, a4⟩ := ha
  obtain ⟨b1, b2, b3, b4⟩ := hb
  have key : ∀ {s t : Span} {m : Int}, rightS s m → rightS t m → ((meetS s t).lo ≤ (meetS s t).hi ↔ t.lo ≤ s.hi ∧ s.lo ≤ t.hi) := by
    intro s t m h1 h2; unfold rightS at h1 h2; simp only [meetS]; omega
  exact and_congr (key a1 b1) (and_congr (key a2 b2) (and_congr (key a3 b3) (key a4 b4)))
def sizeOk (w h t : Int) : Prop := (1 ≤ w ∧ w ≤ 64) ∧ (1 ≤ h ∧ h ≤ 64) ∧ w * h ≤ 1024 ∧ (0 ≤ t ∧ t ≤ 10000)
instance (w h t : Int) : Decidable (sizeOk w h t) := by unfold sizeOk; infer_instance
def errSize (w h t : Int) : Int := if sizeOk w h t then 0 else 6
theorem errSize_iff {w h t : Int} : errSize w h t = 0 ↔ sizeOk w h t := by unfold errSize; split <;> simp_all
end
end Go.Proofs.Ythcjliffpebjaaa
/- Ice: reports: what functions of reports answer. No condition. -/
namespace Go.Proofs.Ythcjliffpebjaaa
set_option linter.unusedSimpArgs false
set_option linter.unusedVariables false
open Go Go.K
noncomputable section
/-- A list by its indices. -/
def tabP {α : Type} (f : Nat → α) (n : Nat) : List α := (List.range n).map f
theorem tabP_len {α : Type} (f : Nat → α) (n : Nat) : (tabP f n).length = n := by simp [tabP]
theorem tabP_succ {α : Type} (f : Nat → α) (n : Nat) : tabP f (n + 1) = tabP f n ++ [f n] := by simp [tabP, List.range_succ]
theorem tabP_get {α : Type} {f : Nat → α} {n k : Nat} {d : α} (h : k < n) : (tabP f n).getD k d = f k := by simp [tabP, List.getD_eq_getElem?_getD, List.getElem?_range h]
abbrev reportV (r : Report) : Value := .agg ⟨reportC r⟩
def reportOk (r : Report) : Prop := ((0 ≤ r.id ∧ r.id ≤ 1000000) ∧ (1 ≤ r.source ∧ r.source ≤ 3) ∧ (0 ≤ r.at_ ∧ r.at_ ≤ 10000) ∧ (0 ≤ r.x ∧ r.x ≤ 63) ∧ (0 ≤ r.y ∧ r.y ≤ 63) ∧ (1 ≤ r.has ∧ r.has ≤ 15)) ∧
  (r.has % 2 = 1 → rightS r.cell.conc 100) ∧ (r.has / 2 % 2 = 1 → rightS r.cell.thick 400) ∧ (r.has / 4 % 2 = 1 → rightS r.cell.ridge 100) ∧ (r.has / 8 % 2 = 1 → rightS r.cell.press 3)
instance (r : Report) : Decidable (reportOk r) := by unfold reportOk; infer_instance
def errReport (r : Report) : Int := if reportOk r then 0 else 20
theorem errReport_iff {r : Report} : errReport r = 0 ↔ reportOk r := by unfold errReport; split <;> simp_all
def saidC (r : Report) : Cell := ⟨if r.has % 2 = 1 then r.cell.conc else ⟨0, 100⟩, if r.has / 2 % 2 = 1 then r.cell.thick else ⟨0, 400⟩, if r.has / 4 % 2 = 1 then r.cell.ridge else ⟨0, 100⟩, if r.has / 8 % 2 = 1 then r.cell.press else ⟨0, 3⟩⟩
theorem saidC_right {r : Report} (h : reportOk r) : rightC (saidC r) := by
  obtain ⟨_, h1, h2, h3, h4⟩ := h
  unfold saidC
  refine ⟨?_, ?_, ?_, ?_⟩
  · show rightS (if _ then _ else _) 100
    split
    · exact h1 ‹_›
    · unfold rightS; decide
  · show rightS (if _ then _ else _) 400
    split
    · exact h2 ‹_›
    · unfold rightS; decide
  · show rightS (if _ then _ else _) 100
    split
    · exact h3 ‹_›
    · unfold rightS; decide
  · show rightS (if _ then _ else _) 3
    split
    · exact h4 ‹_›
    · unfold rightS; decide
def tellsC (r : Report) (m : Rates) (now : Int) : Cell := ageC (saidC r) m (now - r.at_)
def errHour (now : Int) : Int := if 0 ≤ now ∧ now ≤ 10000 then 0 else 6
def errAsk (m : Rates) (now : Int) : Int := first2 (errRates m) (errHour now)
def fTells (r : Report) (m : Rates) (now : Int) : Cell × Int :=
  if first2 (errAsk m now) (errReport r) = 0 then (if r.at_ > now then (zeroC, 12) else (tellsC r m now, 0)) else (zeroC, first2 (errAsk m now) (errReport r))
/-- The first error of some, by their indices. -/
def errTo (f : Nat → Int) : Nat → Int
  | 0 => 0
  | n + 1 => if errTo f n = 0 then f n else errTo f n
theorem errTo_succ0 {f : Nat → Int} {n : Nat} (h : errTo f n = 0) (k : f n = 0) : errTo f (n + 1) = 0 := by unfold errTo; rw [if_pos h, k]
theorem errTo_stop {f : Nat → Int} {i n : Nat} (h : errTo f i = 0) (k : ¬ f i = 0) (hn : i < n) : errTo f n = f i := by
  have key : ∀ d, errTo f (i + 1 + d) = f i := by
    intro d
    induction d with
    | zero => show (if errTo f i = 0 then f i else errTo f i) = f i; rw [if_pos h]
    | succ d ih => show (if errTo f (i + 1 + d) = 0 then f (i + 1 + d) else errTo f (i + 1 + d)) = f i; rw [ih, if_neg k]
  have := key (n - (i + 1))
  rwa [show i + 1 + (n - (i + 1)) = n by omega] at this
theorem errTo_zero {f : Nat → Int} {n : Nat} (h : errTo f n = 0) : ∀ i, i < n → f i = 0 := by
  induction n with
  | zero => intro i hi; omega
  | succ n ih =>
    unfold errTo at h
    split at h
    · intro i hi
      rcases Nat.lt_or_ge i n with h1 | h1
      · exact ih (by assumption) i h1
      · obtain rfl : i = n := by omega
        exact h
    · rename_i h1; exact absurd h h1
open Classical in
def errOne (l : List Report) (now : Int) (i : Nat) : Int :=
  if errReport (l.getD i zeroR) = 0 then (if ∃ k, k < i ∧ (l.getD k zeroR).id = (l.getD i zeroR).id then 10 else
    if (l.getD i zeroR).x ≠ (l.getD 0 zeroR).x ∨ (l.getD i zeroR).y ≠ (l.getD 0 zeroR).y then 1 else if (l.getD i zeroR).at_ > now then 12 else 0) else errReport (l.getD i zeroR)
def errOpen (l : List Report) (m : Rates) (now : Int) : Int := first2 (errAsk m now) (if 12 < l.length then 2 else errTo (errOne l now) l.length)
def toldL (l : List Report) (m : Rates) (now : Int) (n : Nat) : List Cell := tabP (fun i => tellsC (l.getD i zeroR) m now) n
abbrev told (l : List Report) (m : Rates) (now : Int) : List Cell := toldL l m now l.length
/-- Is a report in a set? That of the first report is the greatest bit. -/
def inSet (n s i : Nat) : Bool := s.testBit (n - 1 - i)
/-- What the first j reports of a set tell together. -/
def tog (ts : List Cell) (s : Nat) : Nat → Option Cell
  | 0 => some wholeC
  | j + 1 => match tog ts s j with
    | none => none
    | some c => if inSet ts.length s j then (if okC (meetC c (ts.getD j zeroC)) then some (meetC c (ts.getD j zeroC)) else none) else some c
def togA (ts : List Cell) (s : Nat) : Option Cell := tog ts s ts.length
def popc (s : Nat) : Nat := ((List.range 12).filter fun i => s.testBit i).length
/-- The greatest sets that agree, of the first j sets: their size, and they. -/
def agr (ts : List Cell) : Nat → Int × List Nat
  | 0 => (-1, [])
  | j + 1 =>
    let s := 2 ^ ts.length - 1 - j
    if (popc s : Int) < (agr ts j).1 then agr ts j else if (togA ts s).isSome then (if (agr ts j).1 < popc s then (popc s, [s]) else ((agr ts j).1, (agr ts j).2 ++ [s])) else agr ts j
def agrA (ts : List Cell) : List Nat := (agr ts (2 ^ ts.length)).2
def natC (s : Nat) : List Value := [.int .i64 ((s : Nat) : Int)]
abbrev boolC (b : Bool) : List Value := [.bool b]
def pairC (p : Nat × Nat) : List Value := [.int .i64 ((p.1 : Nat) : Int), .int .i64 ((p.2 : Nat) : Int)]
def fFuse (l : List Report) (m : Rates) (now : Int) : Cell × Int :=
  if errOpen l m now = 0 then (match togA (told l m now) (2 ^ l.length - 1) with | some c => (c, 0) | none => (zeroC, 21)) else (zeroC, errOpen l m now)
/-- The pairs in conflict of report i with the k reports behind it; of the first i reports. -/
def confRow (ts : List Cell) (i : Nat) : Nat → List (Nat × Nat)
  | 0 => []
  | k + 1 => if okC (meetC (ts.getD i zeroC) (ts.getD (i + 1 + k) zeroC)) then confRow ts i k else confRow ts i k ++ [(i, i + 1 + k)]
def conf (ts : List Cell) : Nat → List (Nat × Nat)
  | 0 => []
  | i + 1 => conf ts i ++ confRow ts i (ts.length - (i + 1))
def fConf (l : List Report) (m : Rates) (now : Int) : List (Nat × Nat) × Int :=
  if errOpen l m now = 0 then (conf (told l m now) l.length, 0) else ([], errOpen l m now)
def trustS (ts : List Cell) : Nat := (agrA ts).getD 0 0
def trustL (ts : List Cell) (n : Nat) : List Bool := tabP (fun i => inSet ts.length (trustS ts) i) n
def fTrust (l : List Report) (m : Rates) (now : Int) : List Bool × Cell × Int :=
  if errOpen l m now = 0 then (trustL (told l m now) l.length, (togA (told l m now) (trustS (told l m now))).getD zeroC, 0) else ([], zeroC, errOpen l m now)
end
end Go.Proofs.Ythcjliffpebjaaa
