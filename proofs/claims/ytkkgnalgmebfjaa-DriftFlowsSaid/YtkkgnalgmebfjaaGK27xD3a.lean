/- Small steps that texts about functions share. No condition. -/
import Derived.Test.YtkkgnalgmebfjaaGK24xV14
import Derived.Test.YtkkgnalgmebfjaaN
namespace Go.K
set_option linter.unusedSimpArgs false
open Go
set_option linter.unusedVariables false
noncomputable section
theorem forkD {p A B : Prop} [Decidable p] (h1 : p → A) (h2 : ¬ p → B) : (decide p = true → A) ∧ (decide p = false → B) :=
  ⟨fun h => h1 (of_decide_eq_true h), fun h => h2 (of_decide_eq_false h)⟩
theorem forkNe {a b : Int} {A B : Prop} (h1 : a ≠ b → A) (h2 : a = b → B) : ((a != b) = true → A) ∧ ((a != b) = false → B) :=
  ⟨fun h => h1 (by simpa using h), fun h => h2 (by simpa using h)⟩
theorem forkEq {a b : Int} {A B : Prop} (h1 : a = b → A) (h2 : a ≠ b → B) : ((a == b) = true → A) ∧ ((a == b) = false → B) :=
  ⟨fun h => h1 (by simpa using h), fun h => h2 (by simpa using h)⟩
theorem forkNot {b : Bool} {A B : Prop} (h : (b = true → B) ∧ (b = false → A)) : ((!b) = true → A) ∧ ((!b) = false → B) := by
  cases b
  · exact ⟨fun _ => h.2 rfl, fun h => by cases h⟩
  · exact ⟨fun h => (by cases h), fun _ => h.1 rfl⟩
theorem forkB {b : Bool} {A B : Prop} (h1 : b = true → A) (h2 : b = false → B) : (b = true → A) ∧ (b = false → B) := ⟨h1, h2⟩
/-- A test whose outcome is known. -/
theorem forkT {b : Bool} {A B : Prop} (hb : b = true) (h1 : A) : (b = true → A) ∧ (b = false → B) := ⟨fun _ => h1, fun h => by rw [hb] at h; cases h⟩
theorem forkF {b : Bool} {A B : Prop} (hb : b = false) (h1 : B) : (b = true → A) ∧ (b = false → B) := ⟨fun h => (by rw [hb] at h; cases h), fun _ => h1⟩
theorem nbq (b : Bool) : (!(b == b)) = false := by cases b <;> rfl
theorem bq (b : Bool) : (b == b) = true := by cases b <;> rfl
theorem iq (n : Int) : (n == n) = true := by simp
theorem niq (n : Int) : (n != n) = false := by simp
theorem vbT {b : Bool} (h : b = true) : (Value.bool b) = .bool true := by rw [h]
theorem vbF {b : Bool} (h : b = false) : (Value.bool b) = .bool false := by rw [h]
theorem iEq {k : IntKind} {a b : Int} (h : a = b) : (Value.int k a) = .int k b := by rw [h]
theorem bEq {a b : Bool} (h : a = b) : (Value.bool a) = .bool b := by rw [h]
theorem wI64 {n : Int} (h : -9223372036854775808 ≤ n ∧ n ≤ 9223372036854775807) : IntKind.wrap .i64 n = n := IntWalk.i64_in n h
theorem vI64 {n : Int} (h : -9223372036854775808 ≤ n ∧ n ≤ 9223372036854775807) : (Value.int .i64 (IntKind.wrap .i64 n)) = .int .i64 n := by rw [wI64 h]
/-- A number has a name. -/
theorem nameK {k : IntKind} {t : Int} {Q : Int → Prop} (h : ∀ y, y = t → Q y) : ∃ y : Int, (Value.int k t) = .int k y ∧ Q y := ⟨t, rfl, h t rfl⟩
theorem nameMax {k : IntKind} {a b : Int} {Q : Int → Prop} (h : ∀ y, (y = a ∨ y = b) → a ≤ y → b ≤ y → Q y) : ∃ y : Int, (Value.int k (if b > a then b else a)) = .int k y ∧ Q y :=
  ⟨_, rfl, h _ (by split <;> simp) (by split <;> omega) (by split <;> omega)⟩
theorem nameMin {k : IntKind} {a b : Int} {Q : Int → Prop} (h : ∀ y, (y = a ∨ y = b) → y ≤ a → y ≤ b → Q y) : ∃ y : Int, (Value.int k (if b < a then b else a)) = .int k y ∧ Q y :=
  ⟨_, rfl, h _ (by split <;> simp) (by split <;> omega) (by split <;> omega)⟩
theorem ite_max (a b : Int) : (if b > a then b else a) = max a b := by split <;> omega
theorem ite_min (a b : Int) : (if b < a then b else a) = min a b := by split <;> omega
theorem toMax {k : IntKind} {a b : Int} {Q : Int → Prop} (h : Q (max a b)) : ∃ y : Int, (Value.int k (if b > a then b else a)) = .int k y ∧ Q y := ⟨max a b, by rw [ite_max], h⟩
theorem toMin {k : IntKind} {a b : Int} {Q : Int → Prop} (h : Q (min a b)) : ∃ y : Int, (Value.int k (if b < a then b else a)) = .int k y ∧ Q y := ⟨min a b, by rw [ite_min], h⟩
/-- Branches that come together: the greater, the less. -/
theorem joinI {c : Bool} {v1 v2 : Int} {S1 S2 R : Int → Prop} (h1 : c = true → S1 v1) (h2 : c = false → S2 v2) (hr : ∀ x, x = (if c = true then v1 else v2) → R x) :
    (true = true ∧ (c = true → ∃ x' : Int, ((c = true ∧ x' = v1 ∧ True) ∨ (c = false ∧ x' = v2 ∧ True)) ∧ S1 x') ∧ (c = false → ∃ x' : Int, ((c = true ∧ x' = v1 ∧ True) ∨ (c = false ∧ x' = v2 ∧ True)) ∧ S2 x') ∧
      ∀ x : Int, ((c = true ∧ x = v1 ∧ True) ∨ (c = false ∧ x = v2 ∧ True)) → R x) := by
  refine ⟨rfl, fun h => ⟨v1, .inl ⟨h, rfl, trivial⟩, h1 h⟩, fun h => ⟨v2, .inr ⟨h, rfl, trivial⟩, h2 h⟩, fun x hx => hr x ?_⟩
  rcases hx with ⟨h, rfl, _⟩ | ⟨h, rfl, _⟩
  · rw [if_pos h]
  · rw [if_neg (by rw [h]; decide)]
theorem joinMax {a b : Int} {S1 S2 R : Int → Prop} (h1 : S1 b) (h2 : S2 a) (hr : R (max a b)) :
    (true = true ∧ (decide (a < b) = true → ∃ x' : Int, ((decide (a < b) = true ∧ x' = b ∧ True) ∨ (decide (a < b) = false ∧ x' = a ∧ True)) ∧ S1 x') ∧ (decide (a < b) = false → ∃ x' : Int, ((decide (a < b) = true ∧ x' = b ∧ True) ∨ (decide (a < b) = false ∧ x' = a ∧ True)) ∧ S2 x') ∧
      ∀ x : Int, ((decide (a < b) = true ∧ x = b ∧ True) ∨ (decide (a < b) = false ∧ x = a ∧ True)) → R x) :=
  joinI (fun _ => h1) (fun _ => h2) fun x hx => by
    have : x = max a b := by rw [hx]; simp only [decide_eq_true_eq]; split <;> omega
    rw [this]; exact hr
theorem joinMin {a b : Int} {S1 S2 R : Int → Prop} (h1 : S1 b) (h2 : S2 a) (hr : R (min a b)) :
    (true = true ∧ (decide (b < a) = true → ∃ x' : Int, ((decide (b < a) = true ∧ x' = b ∧ True) ∨ (decide (b < a) = false ∧ x' = a ∧ True)) ∧ S1 x') ∧ (decide (b < a) = false → ∃ x' : Int, ((decide (b < a) = true ∧ x' = b ∧ True) ∨ (decide (b < a) = false ∧ x' = a ∧ True)) ∧ S2 x') ∧
      ∀ x : Int, ((decide (b < a) = true ∧ x = b ∧ True) ∨ (decide (b < a) = false ∧ x = a ∧ True)) → R x) :=
  joinI (fun _ => h1) (fun _ => h2) fun x hx => by
    have : x = min a b := by rw [hx]; simp only [decide_eq_true_eq]; split <;> omega
    rw [this]; exact hr
theorem wks_cons {a b : Value} {r s : List Value} (h : wk a b) (hr : wks r s) : wks (a :: r) (b :: s) := ⟨h, hr⟩
theorem wks_nil : wks [] [] := trivial
theorem KCall.wkA {P : Program} {f : FuncId} {args args2 : List Value} {H : Heap} {M : List Nat} {Q : Value → Heap → Prop} (h : KCall P f args2 H M Q) (ha : wks args args2) : KCall P f args H M Q :=
  KCall.weakArgs [] (by rw [List.append_nil]; exact h) (wks_spec ha).1 (wks_spec ha).2
/-- Blocks that are read and may hold one another's addresses. -/
theorem reads_ofA {P : Program} {css : List (List Value)} {ids : List Nat} {H : Heap} (hids : ∀ (k : Nat) (cs : List Value), css[k]? = some cs → ∃ id own z, ids[k]? = some id ∧ H[id]? = some (KObj.cells own z (cs.map (rn (sgR P.globals.size ids) 3)))) (hl : ids.length = css.length) :
    Reads P (readsT P.globals.size css).list H (sgR P.globals.size ids) 3 := by
  have hn : (readsT P.globals.size css).list.length = P.globals.size + css.length := by rw [HT.length, readsT_n]
  refine ⟨fun g hg => if_pos hg, fun id id' h => ?_, by rw [hn]; omega, fun id o h => ?_, fun id id' cs h1 h2 => ?_⟩
  · rw [hn]
    unfold sgR at h
    split at h
    · omega
    · have := (List.getElem?_eq_some_iff.1 h).1; omega
  · rw [readsT_list] at h
    split at h
    · cases h; exact .inl rfl
    · obtain ⟨cs, _, rfl⟩ := Option.map_eq_some_iff.1 h; exact .inr ⟨cs, rfl⟩
  · rw [readsT_list] at h2
    split at h2
    · cases h2
    · rename_i hlt
      obtain ⟨cs', a1, a2⟩ := Option.map_eq_some_iff.1 h2
      cases a2
      unfold sgR at h1
      rw [if_neg hlt] at h1
      obtain ⟨id2, own, z, b1, b2⟩ := hids _ _ a1
      rw [h1] at b1; cases b1
      exact ⟨own, z, b2⟩
theorem vcRA {P : Program} {mixed : Bool} {mask : Nat} {dm : Value → MS} {rounds : Nat} (hmask : MaskOk P mixed mask) (hmix : mixed = true → P.follows .mixedOrders = true) (n : Nat) {f : FuncId} {args : List Value} {css : List (List Value)} {h : Hint} {v : Value} {new : List (Bool × KObj)}
    (hc : vF P mask dm rounds mixed n true f args (readsT P.globals.size css) (some []) h (newK (readsT P.globals.size css).n 3 v new))
    (hv : rnOk 3 v = true) (hv2 : rn (sgOnly (P.globals.size + css.length)) 3 v = v) (hn : (new.map (·.2)).all (fun o => rnoOk 3 o && o.owned) = true) (hn2 : (new.map (·.2)).map (rno (sgOnly (P.globals.size + css.length)) 3) = new.map (·.2))
    {H : Heap} (ids : List Nat) (hl : ids.length = css.length) (hids : ∀ (k : Nat) (cs : List Value), css[k]? = some cs → ∃ id own z, ids[k]? = some id ∧ H[id]? = some (KObj.cells own z (cs.map (rn (sgR P.globals.size ids) 3)))) :
    KCall P f (args.map (rn (sgR P.globals.size ids) 3)) H [] (Is (rn (sgUp (P.globals.size + css.length) H.length) 3 v) (H ++ (new.map (·.2)).map (rno (sgUp (P.globals.size + css.length) H.length) 3))) := by
  have h1 := vcN hmask hmix n hc
  have e : (readsT P.globals.size css).list.length = P.globals.size + css.length := by rw [HT.length, readsT_n]
  have := KCall.reads (reads_ofA hids hl) h1 hv (by rw [e]; exact hv2) hn (by rw [e]; exact hn2)
  rw [e] at this
  exact this
theorem vcR0A {P : Program} {mixed : Bool} {mask : Nat} {dm : Value → MS} {rounds : Nat} (hmask : MaskOk P mixed mask) (hmix : mixed = true → P.follows .mixedOrders = true) (n : Nat) {f : FuncId} {args : List Value} {css : List (List Value)} {h : Hint} {v : Value}
    (hc : vF P mask dm rounds mixed n true f args (readsT P.globals.size css) (some []) h (fun v' _ _ => v' = v)) (hv : belowV 0 v = true)
    {H : Heap} (ids : List Nat) (hl : ids.length = css.length) (hids : ∀ (k : Nat) (cs : List Value), css[k]? = some cs → ∃ id own z, ids[k]? = some id ∧ H[id]? = some (KObj.cells own z (cs.map (rn (sgR P.globals.size ids) 3)))) (h3 : rnOk 3 v = true := by rfl) (h4 : ∀ σ, rn σ 3 v = v := by intro σ; rfl) :
    KCall P f (args.map (rn (sgR P.globals.size ids) 3)) H [] (Is v H) := by
  have h1 : KCall P f args (readsT P.globals.size css).list [] (Is v ((readsT P.globals.size css).list ++ [])) := by
    have := KCall.clean (vc hmask hmix n (Q := fun v' _ => v' = v) hc) hv
    simpa using this
  have := KCall.reads (reads_ofA hids hl) h1 h3 (h4 _) rfl rfl
  rw [h4] at this
  simpa using this
/-- A call by its contract. -/
theorem ansV {α : Type} {A : α → Prop} {B : α → Prop} {C : α → Prop} (x : α) (hA : A x) (hB : B x) (hC : C x) : ∃ r, (A r ∧ B r ∧ C r) := ⟨x, hA, hB, hC⟩
end
end Go.K
/- Drift: what all texts share. No condition. -/
namespace Go.Proofs.Ytkkgnalgmebfjaa
set_option linter.unusedSimpArgs false
open Go Go.K
set_option maxRecDepth 100000
set_option linter.unusedVariables false
noncomputable section
def dm (imp : Nat) : Value → MS
  | .func (.func f) _ _ => cond (Nat.testBit imp f) none (some [])
  | .func (.yield _) _ _ => none
  | _ => some []
structure Span where
  lo : Int
  hi : Int
structure Flow where
  x : Span
  y : Span
structure Move where
  dx : Int
  dy : Int
structure Basin where
  w : Int
  h : Int
  land : List Bool
abbrev boolC (b : Bool) : List Value := [.bool b]
abbrev intC (x : Int) : List Value := [.int .i64 x]
abbrev spanC (s : Span) : List Value := [.int .i64 s.lo, .int .i64 s.hi]
abbrev flowC (f : Flow) : List Value := [.int .i64 f.x.lo, .int .i64 f.x.hi, .int .i64 f.y.lo, .int .i64 f.y.hi]
abbrev moveC (m : Move) : List Value := [.int .i64 m.dx, .int .i64 m.dy]
abbrev spanV (s : Span) : Value := .agg ⟨spanC s⟩
abbrev flowV (f : Flow) : Value := .agg ⟨flowC f⟩
abbrev moveV (m : Move) : Value := .agg ⟨moveC m⟩
def zeroF : Flow := ⟨⟨0, 0⟩, ⟨0, 0⟩⟩
def zeroM : Move := ⟨0, 0⟩
/-- A basin whose land lies in a block. -/
abbrev basV (w h : Int) (id n : Nat) : Value := .agg #[.int .i64 w, .int .i64 h, .slice (some ⟨id, 0, some 2⟩) n n]
/-- A list by its indices. -/
def tabP {α : Type} (f : Nat → α) (n : Nat) : List α := (List.range n).map f
theorem tabP_len {α : Type} (f : Nat → α) (n : Nat) : (tabP f n).length = n := by simp [tabP]
theorem tabP_succ {α : Type} (f : Nat → α) (n : Nat) : tabP f (n + 1) = tabP f n ++ [f n] := by simp [tabP, List.range_succ]
theorem tabP_get {α : Type} {f : Nat → α} {n k : Nat} {d : α} (h : k < n) : (tabP f n).getD k d = f k := by simp [tabP, List.getD_eq_getElem?_getD, List.getElem?_range h]
def first2 (e f : Int) : Int := if e = 0 then f else e
theorem first2_1 {e f : Int} (h : ¬ e = 0) : first2 e f = e := if_neg h
theorem first2_2 {e f : Int} (h : e = 0) : first2 e f = f := if_pos h
/-- A call's answer that is a value alone. -/
theorem valK {f : FuncId} {args : List Value} {h : Hint} {v : Value} (n : Nat) (hargs : ∀ σ, args.map (rn σ 5) = args) (hv : belowV 0 v = true)
    (hc : vF prog msk (dm 0) 100000 true n true f args ⟨0, .leaf⟩ (some []) h (fun v' _ _ => v' = v)) (H : Heap) : KCall prog f args H [] (Is v H) :=
  vcP mskOk mixed n hargs hv (by rw [glob0]; exact hc) H (by rw [glob0]; exact Nat.zero_le _)
theorem valR {f : FuncId} {args : List Value} {css : List (List Value)} {h : Hint} {v : Value} (hc : vF prog msk (dm 0) 100000 true 40 true f args (readsT 0 css) (some []) h (fun v' _ _ => v' = v)) (hcss : ∀ cs ∈ css, cs.all (belowC 0) = true) (hv : belowV 0 v = true)
    {H : Heap} (ids : List Nat) (hl : ids.length = css.length) (hids : ∀ (k : Nat) (cs : List Value), css[k]? = some cs → ∃ id own z, ids[k]? = some id ∧ H[id]? = some (KObj.cells own z cs)) :
    KCall prog f (args.map (rn (sgR 0 ids) 5)) H [] (Is v H) := by
  have := vcR0 (H := H) mskOk mixed 40 (v := v) hcss (by rw [glob0]; exact hc) hv ids hl hids
  rw [glob0] at this; exact this
theorem valN {f : FuncId} {args : List Value} {css : List (List Value)} {h : Hint} {v : Value} {new : List (Bool × KObj)} (hc : vF prog msk (dm 0) 100000 true 40 true f args (readsT 0 css) (some []) h (newK (readsT 0 css).n 3 v new)) (hcss : ∀ cs ∈ css, cs.all (belowC 0) = true)
    (hv : rnOk 3 v = true) (hv2 : rn (sgOnly (0 + css.length)) 3 v = v) (hn : (new.map (·.2)).all (fun o => rnoOk 3 o && o.owned) = true) (hn2 : (new.map (·.2)).map (rno (sgOnly (0 + css.length)) 3) = new.map (·.2))
    {H : Heap} (ids : List Nat) (hl : ids.length = css.length) (hids : ∀ (k : Nat) (cs : List Value), css[k]? = some cs → ∃ id own z, ids[k]? = some id ∧ H[id]? = some (KObj.cells own z cs)) :
    KCall prog f (args.map (rn (sgR 0 ids) 3)) H [] (Is (rn (sgUp (0 + css.length) H.length) 3 v) (H ++ (new.map (·.2)).map (rno (sgUp (0 + css.length) H.length) 3))) := by
  have := vcR (H := H) mskOk mixed 40 (v := v) (new := new) hcss (by rw [glob0]; exact hc) hv (by rw [glob0]; exact hv2) hn (by rw [glob0]; exact hn2) ids hl hids
  rw [glob0] at this; exact this
theorem one_id {H : Heap} {id : Nat} {own : Bool} {z : Nat} {cs : List Value} (hid : H[id]? = some (.cells own z cs)) : ∀ (k : Nat) (c : List Value), [cs][k]? = some c → ∃ id' own z, [id][k]? = some id' ∧ H[id']? = some (KObj.cells own z c) := by
  intro k c h
  match k with
  | 0 => cases h; exact ⟨id, own, z, rfl, hid⟩
theorem one_cs {cs : List Value} (h : cs.all (belowC 0) = true) : ∀ c ∈ [cs], c.all (belowC 0) = true := by intro c hc; rw [List.mem_singleton.1 hc]; exact h
theorem valRA {f : FuncId} {args : List Value} {css : List (List Value)} {h : Hint} {v : Value} (hc : vF prog msk (dm 0) 100000 true 40 true f args (readsT 0 css) (some []) h (fun v' _ _ => v' = v)) (hv : belowV 0 v = true)
    {H : Heap} (ids : List Nat) (hl : ids.length = css.length) (hids : ∀ (k : Nat) (cs : List Value), css[k]? = some cs → ∃ id own z, ids[k]? = some id ∧ H[id]? = some (KObj.cells own z (cs.map (rn (sgR 0 ids) 3)))) (h3 : rnOk 3 v = true := by rfl) (h4 : ∀ σ, rn σ 3 v = v := by intro σ; rfl) :
    KCall prog f (args.map (rn (sgR 0 ids) 3)) H [] (Is v H) := by
  have := vcR0A (H := H) mskOk mixed 40 (v := v) (by rw [glob0]; exact hc) hv ids hl (by rw [glob0]; exact hids) h3 h4
  rw [glob0] at this; exact this
theorem valNA {f : FuncId} {args : List Value} {css : List (List Value)} {h : Hint} {v : Value} {new : List (Bool × KObj)} (hc : vF prog msk (dm 0) 100000 true 40 true f args (readsT 0 css) (some []) h (newK (readsT 0 css).n 3 v new))
    (hv : rnOk 3 v = true) (hv2 : rn (sgOnly (0 + css.length)) 3 v = v) (hn : (new.map (·.2)).all (fun o => rnoOk 3 o && o.owned) = true) (hn2 : (new.map (·.2)).map (rno (sgOnly (0 + css.length)) 3) = new.map (·.2))
    {H : Heap} (ids : List Nat) (hl : ids.length = css.length) (hids : ∀ (k : Nat) (cs : List Value), css[k]? = some cs → ∃ id own z, ids[k]? = some id ∧ H[id]? = some (KObj.cells own z (cs.map (rn (sgR 0 ids) 3)))) :
    KCall prog f (args.map (rn (sgR 0 ids) 3)) H [] (Is (rn (sgUp (0 + css.length) H.length) 3 v) (H ++ (new.map (·.2)).map (rno (sgUp (0 + css.length) H.length) 3))) := by
  have := vcRA (H := H) mskOk mixed 40 (v := v) (new := new) (by rw [glob0]; exact hc) hv (by rw [glob0]; exact hv2) hn (by rw [glob0]; exact hn2) ids hl (by rw [glob0]; exact hids)
  rw [glob0] at this; exact this
/-- An answer with one new list. -/
theorem valQ {f : FuncId} {args : List Value} {c : List Value} {h : Hint} (v : Nat → Value) {z : Nat} {cs : List Value}
    (hc : vF prog msk (dm 0) 100000 true 40 true f args (readsT 0 [c]) (some []) h (newK (readsT 0 [c]).n 3 (v 1) [(true, .cells true z cs)]))
    (hp0 : c.all (belowC 0) = true) (hp : ∀ n, cs.all (belowC n) = true) (h1 : rnOk 3 (v 1) = true) (h2 : rn (sgOnly (0 + 1)) 3 (v 1) = v 1) (h3 : ∀ j, rn (sgUp (0 + 1) j) 3 (v 1) = v j)
    {H : Heap} {id : Nat} {own : Bool} {z2 : Nat} (hid : H[id]? = some (.cells own z2 c)) {args' : List Value} (ha : args.map (rn (sgR 0 [id]) 3) = args') :
    KCall prog f args' H [] (Is (v H.length) (H ++ [.cells true z cs])) := by
  subst ha
  have key := valN (css := [c]) (v := v 1) (new := [(true, .cells true z cs)]) hc (one_cs hp0) h1 h2
    (by show ((rnoOk 3 (.cells true z cs) && true) && true) = true
        rw [Bool.and_true, Bool.and_true]; exact (rnCl (σ := fun _ => none) (d := 0) (hp 0)).2)
    (congrArg (fun q => [KObj.cells true z q]) (rnCl (d := 0) (hp 0)).1) (H := H) [id] rfl (one_id hid)
  have e2 : (List.map (fun x : Bool × KObj => x.2) [(true, KObj.cells true z cs)]).map (rno (sgUp (0 + [c].length) H.length) 3) = [.cells true z cs] :=
    congrArg (fun q => [KObj.cells true z q]) (rnCl (d := 0) (hp 0)).1
  rw [e2, show rn (sgUp (0 + [c].length) H.length) 3 (v 1) = v H.length from h3 _] at key
  exact key
theorem twoId {H : Heap} {id id2 : Nat} {own own2 : Bool} {z z2 : Nat} {cs ds : List Value} (h1 : H[id]? = some (.cells own z cs)) (h2 : H[id2]? = some (.cells own2 z2 ds)) : ∀ (k : Nat) (c : List Value), [cs, ds][k]? = some c → ∃ id' own z, [id, id2][k]? = some id' ∧ H[id']? = some (KObj.cells own z c) := by
  intro k c h
  match k with
  | 0 => cases h; exact ⟨id, own, z, rfl, h1⟩
  | 1 => cases h; exact ⟨id2, own2, z2, rfl, h2⟩
theorem twoCs {cs ds : List Value} (h1 : cs.all (belowC 0) = true) (h2 : ds.all (belowC 0) = true) : ∀ c ∈ [cs, ds], c.all (belowC 0) = true := by
  intro c hc
  rcases List.mem_cons.1 hc with rfl | hc
  · exact h1
  · rw [List.mem_singleton.1 hc]; exact h2
end
end Go.Proofs.Ytkkgnalgmebfjaa
/- Drift: basins and flows: what functions answer. No condition. -/
namespace Go.Proofs.Ytkkgnalgmebfjaa
set_option linter.unusedSimpArgs false
set_option linter.unusedVariables false
open Go Go.K
noncomputable section
def rightS (s : Span) (n : Int) : Prop := -n ≤ s.lo ∧ s.lo ≤ s.hi ∧ s.hi ≤ n
instance (s : Span) (n : Int) : Decidable (rightS s n) := by unfold rightS; infer_instance
def rightF (f : Flow) : Prop := rightS f.x 2000 ∧ rightS f.y 2000
instance (f : Flow) : Decidable (rightF f) := by unfold rightF; infer_instance
/-- The first error of flows. -/
def errF : List Flow → Int
  | [] => 0
  | f :: r => if rightF f then errF r else 30
def errBas (w h : Int) (n : Nat) : Int := if (1 ≤ w ∧ w ≤ 64) ∧ (1 ≤ h ∧ h ≤ 64) ∧ w * h ≤ 1024 then (if (n : Int) = w * h then 0 else 1) else 6
def errFlows (w h : Int) (n : Nat) (l : List Flow) : Int := first2 (errBas w h n) (if l.length = n then errF l else 1)
end
end Go.Proofs.Ytkkgnalgmebfjaa
/- What is to be shown of functions. Printed by a program. No condition. -/
namespace Go.Proofs.Ytkkgnalgmebfjaa
set_option linter.unusedSimpArgs false
open Go Go.K
set_option maxRecDepth 100000
set_option maxHeartbeats 4000000
set_option linter.unusedVariables false
noncomputable section
def RCheckBasin (sp : Value) (w h : Int) (a : List Bool) : Prop :=
  (((decide ((1 : Int) ≤ w)) = true → (((!(decide ((w : Int) ≤ 64))) = true → (.int .i64 6 : Value) = sp) ∧ ((!(decide ((w : Int) ≤ 64))) = false → (((decide ((1 : Int) ≤ h)) = true → (((!(decide ((h : Int) ≤ 64))) = true → (.int .i64 6 : Value) = sp) ∧ ((!(decide ((h : Int) ≤ 64))) = false → ((.int .i64 (IntKind.wrap .i64 (w * h)) : Value) = .int .i64 (w * h) ∧ (((decide ((1024 : Int) < (w * h))) = true → (.int .i64 6 : Value) = sp) ∧ ((decide ((1024 : Int) < (w * h))) = false → ((.int .i64 (IntKind.wrap .i64 (w * h)) : Value) = .int .i64 (w * h) ∧ (((((((List.length a) : Nat) : Int) : Int) != (w * h)) = true → (.int .i64 1 : Value) = sp) ∧ ((((((List.length a) : Nat) : Int) : Int) != (w * h)) = false → (.int .i64 0 : Value) = sp))))))))) ∧ ((decide ((1 : Int) ≤ h)) = false → (.int .i64 6 : Value) = sp))))) ∧ ((decide ((1 : Int) ≤ w)) = false → (.int .i64 6 : Value) = sp))
theorem ECheckBasin (sp : Value) (w h : Int) (a : List Bool) : vF prog msk (dm 0) 100000 true 40 true 20 [.agg #[.int .i64 w, .int .i64 h, .slice (some ⟨0, 0, some 2⟩) (List.length a) (List.length a)]] (readsT 0 [a.flatMap boolC]) (some [])
  (.go 9 (.gfork (.go 6 (.gfork (.auto) (.go 7 (.gfork (.go 7 (.gfork (.auto) (.go 4 (.slot 19 (.int .i64 (w * h)) (.go 2 (.fork (.auto) (.go 7 (.slot 30 (.int .i64 (w * h)) (.go 1 (.fork (.auto) (.auto))))))))))) (.auto))))) (.auto)))
  (fun v _ _ => v = sp) = RCheckBasin sp w h a := by kernel_rfl
def RrCheckBasin (sp : Value) (w h : Int) (a : List Bool) : Prop :=
  (((decide ((w : Int) < 1)) = true → (.int .i64 6 : Value) = sp) ∧ ((decide ((w : Int) < 1)) = false → (((decide ((64 : Int) < w)) = true → (.int .i64 6 : Value) = sp) ∧ ((decide ((64 : Int) < w)) = false → (((decide ((h : Int) < 1)) = true → (.int .i64 6 : Value) = sp) ∧ ((decide ((h : Int) < 1)) = false → (((decide ((64 : Int) < h)) = true → (.int .i64 6 : Value) = sp) ∧ ((decide ((64 : Int) < h)) = false → ((.int .i64 (IntKind.wrap .i64 (w * h)) : Value) = .int .i64 (w * h) ∧ (((decide ((1024 : Int) < (w * h))) = true → (.int .i64 6 : Value) = sp) ∧ ((decide ((1024 : Int) < (w * h))) = false → ((.int .i64 (IntKind.wrap .i64 (w * h)) : Value) = .int .i64 (w * h) ∧ (((((((List.length a) : Nat) : Int) : Int) != (w * h)) = true → (.int .i64 1 : Value) = sp) ∧ ((((((List.length a) : Nat) : Int) : Int) != (w * h)) = false → (.int .i64 0 : Value) = sp))))))))))))))
theorem ErCheckBasin (sp : Value) (w h : Int) (a : List Bool) : vF prog msk (dm 0) 100000 true 40 true 21 [.agg #[.int .i64 w, .int .i64 h, .slice (some ⟨0, 0, some 2⟩) (List.length a) (List.length a)]] (readsT 0 [a.flatMap boolC]) (some [])
  (.go 5 (.gfork (.auto) (.go 4 (.gfork (.auto) (.go 4 (.gfork (.auto) (.go 4 (.gfork (.auto) (.go 4 (.slot 26 (.int .i64 (w * h)) (.go 1 (.fork (.auto) (.go 7 (.slot 36 (.int .i64 (w * h)) (.go 0 (.fork (.auto) (.auto)))))))))))))))))
  (fun v _ _ => v = sp) = RrCheckBasin sp w h a := by kernel_rfl
def RCheckFlows (sp : Value) (w h : Int) (a : List Bool) (l : List Flow) : Prop :=
  (∃ r0 : Int, (((some (.cells false 0 (List.flatMap boolC a) : KObj) = some (.cells false 0 (List.flatMap boolC a) : KObj)) ∧ True) ∧ (∀ H' : Heap, H'.length = 3 → (H'[0]? = some (.cells false 0 (List.flatMap boolC a) : KObj) ∧ True) → KCall prog 20 [.agg #[.int .i64 w, .int .i64 h, .slice (some ⟨0, 0, some 2⟩) (List.length a) (List.length a)]] H' [] (Is (.int .i64 r0) H')) ∧ ((((r0 : Int) != 0) = true → (.int .i64 r0 : Value) = sp) ∧ (((r0 : Int) != 0) = false → (((((((List.length l) : Nat) : Int) : Int) != (((List.length a) : Nat) : Int)) = true → (.int .i64 1 : Value) = sp) ∧ ((((((List.length l) : Nat) : Int) : Int) != (((List.length a) : Nat) : Int)) = false → (true = true ∧ (0 ≤ List.length l ∧ sp = .int .i64 (errF (List.drop 0 l))) ∧ (true = true ∧ ((.int .i64 0 : Value) = .int .i64 ((0 : Nat) : Int) ∧ wk (.slice (some ⟨1, 0, some 2⟩) (List.length l) (List.length l) : Value) (.slice (some ⟨1, 0, some 2⟩) (List.length l) (List.length l) : Value) ∧ (.int .i64 (((List.length l) : Nat) : Int) : Value) = .int .i64 (((List.length l) : Nat) : Int) ∧ True) ∧ ((some (.cells true 0 [.int .i64 w, .int .i64 h, .slice (some ⟨0, 0, some 2⟩) (List.length a) (List.length a)] : KObj) = some (.cells true 0 [.int .i64 w, .int .i64 h, .slice (some ⟨0, 0, some 2⟩) (List.length a) (List.length a)] : KObj) ∧ belowO 3 (.cells true 0 [.int .i64 w, .int .i64 h, .slice (some ⟨0, 0, some 2⟩) (List.length a) (List.length a)] : KObj) = true) ∧ True) ∧ (True) ∧ (True)) ∧ (∀ x1 : Nat, true = true) ∧ ∀ x1 : Nat, (x1 ≤ List.length l ∧ sp = .int .i64 (errF (List.drop x1 l))) → (((decide ((((x1 : Nat) : Int) : Int) < (((List.length l) : Nat) : Int))) = true → (((0 : Int) ≤ ((x1 : Nat) : Int) ∧ (((x1 : Nat) : Int) : Int) < (((List.length l) : Nat) : Int)) ∧ ((partA 4 (List.flatMap flowC l) (0 + Int.toNat ((x1 : Nat) : Int) * 4) = some (.agg #[.int .i64 (List.getD l x1 zeroF).x.lo, .int .i64 (List.getD l x1 zeroF).x.hi, .int .i64 (List.getD l x1 zeroF).y.lo, .int .i64 (List.getD l x1 zeroF).y.hi])) ∧ (((decide (((-2000) : Int) ≤ (List.getD l x1 zeroF).x.lo)) = true → (((decide (((List.getD l x1 zeroF).x.lo : Int) ≤ 2000)) = true → (((decide (((List.getD l x1 zeroF).x.lo : Int) ≤ (List.getD l x1 zeroF).x.hi)) = true → (((!(decide (((List.getD l x1 zeroF).x.hi : Int) ≤ 2000))) = true → (.int .i64 30 : Value) = sp) ∧ ((!(decide (((List.getD l x1 zeroF).x.hi : Int) ≤ 2000))) = false → (((decide (((-2000) : Int) ≤ (List.getD l x1 zeroF).y.lo)) = true → (((decide (((List.getD l x1 zeroF).y.lo : Int) ≤ 2000)) = true → (((decide (((List.getD l x1 zeroF).y.lo : Int) ≤ (List.getD l x1 zeroF).y.hi)) = true → (((!(decide (((List.getD l x1 zeroF).y.hi : Int) ≤ 2000))) = true → (.int .i64 30 : Value) = sp) ∧ ((!(decide (((List.getD l x1 zeroF).y.hi : Int) ≤ 2000))) = false → ((.int .i64 (IntKind.wrap .i64 (((x1 : Nat) : Int) + 1)) : Value) = .int .i64 (((x1 : Nat) : Int) + 1) ∧ (∃ x1' : Nat, (x1' ≤ List.length l ∧ sp = .int .i64 (errF (List.drop x1' l))) ∧ (List.length l - x1') < (List.length l - x1) ∧ true = true ∧ ((.int .i64 (((x1 : Nat) : Int) + 1) : Value) = .int .i64 ((x1' : Nat) : Int) ∧ wk (.slice (some ⟨1, 0, some 2⟩) (List.length l) (List.length l) : Value) (.slice (some ⟨1, 0, some 2⟩) (List.length l) (List.length l) : Value) ∧ (.int .i64 (((List.length l) : Nat) : Int) : Value) = .int .i64 (((List.length l) : Nat) : Int) ∧ True) ∧ ((some (.cells true 0 [.int .i64 w, .int .i64 h, .slice (some ⟨0, 0, some 2⟩) (List.length a) (List.length a)] : KObj) = some (.cells true 0 [.int .i64 w, .int .i64 h, .slice (some ⟨0, 0, some 2⟩) (List.length a) (List.length a)] : KObj) ∧ belowO 3 (.cells true 0 [.int .i64 w, .int .i64 h, .slice (some ⟨0, 0, some 2⟩) (List.length a) (List.length a)] : KObj) = true) ∧ True) ∧ (True) ∧ (True)))))) ∧ ((decide (((List.getD l x1 zeroF).y.lo : Int) ≤ (List.getD l x1 zeroF).y.hi)) = false → (.int .i64 30 : Value) = sp))) ∧ ((decide (((List.getD l x1 zeroF).y.lo : Int) ≤ 2000)) = false → (.int .i64 30 : Value) = sp))) ∧ ((decide (((-2000) : Int) ≤ (List.getD l x1 zeroF).y.lo)) = false → (.int .i64 30 : Value) = sp))))) ∧ ((decide (((List.getD l x1 zeroF).x.lo : Int) ≤ (List.getD l x1 zeroF).x.hi)) = false → (.int .i64 30 : Value) = sp))) ∧ ((decide (((List.getD l x1 zeroF).x.lo : Int) ≤ 2000)) = false → (.int .i64 30 : Value) = sp))) ∧ ((decide (((-2000) : Int) ≤ (List.getD l x1 zeroF).x.lo)) = false → (.int .i64 30 : Value) = sp))))) ∧ ((decide ((((x1 : Nat) : Int) : Int) < (((List.length l) : Nat) : Int))) = false → (.int .i64 0 : Value) = sp)))))))))
theorem ECheckFlows (sp : Value) (w h : Int) (a : List Bool) (l : List Flow) : vF prog msk (dm 0) 100000 true 40 true 22 [.agg #[.int .i64 w, .int .i64 h, .slice (some ⟨0, 0, some 2⟩) (List.length a) (List.length a)], .slice (some ⟨1, 0, some 2⟩) (List.length l) (List.length l)] (readsT 0 [a.flatMap boolC, l.flatMap flowC]) (some [])
  (.go 2 (.bind (Int) (fun r0 => .ans [(0, .cells false 0 (List.flatMap boolC a))] (.int .i64 r0) [] (.go 2 (.fork (.auto) (.go 5 (.fork (.auto) (.go 2 (.inv 3 (Nat) (0) [] [2] (fun x1 => [(22, .int .i64 ((x1 : Nat) : Int)), (20, .slice (some ⟨1, 0, some 2⟩) (List.length l) (List.length l)), (21, .int .i64 (((List.length l) : Nat) : Int))]) (fun x1 => [(2, true, .cells true 0 [.int .i64 w, .int .i64 h, .slice (some ⟨0, 0, some 2⟩) (List.length a) (List.length a)])]) (fun x1 => []) (fun x1 => []) (fun x1 => (x1 ≤ List.length l ∧ sp = .int .i64 (errF (List.drop x1 l)))) (fun x1 => (List.length l - x1)) (fun x1 => .go 0 (.fork (.need (.val (.agg #[.int .i64 (List.getD l x1 zeroF).x.lo, .int .i64 (List.getD l x1 zeroF).x.hi, .int .i64 (List.getD l x1 zeroF).y.lo, .int .i64 (List.getD l x1 zeroF).y.hi]) (.go 21 (.gfork (.go 5 (.gfork (.go 10 (.gfork (.go 8 (.gfork (.auto) (.go 15 (.gfork (.go 5 (.gfork (.go 10 (.gfork (.go 8 (.fork (.auto) (.go 5 (.slot 31 (.int .i64 (((x1 : Nat) : Int) + 1)) (.go 0 (.again [])))))) (.auto))) (.auto))) (.auto))))) (.auto))) (.auto))) (.auto))))) (.auto))))))))))))
  (fun v _ _ => v = sp) = RCheckFlows sp w h a l := by kernel_rfl
def RrCheckFlows (sp : Value) (w h : Int) (a : List Bool) (l : List Flow) : Prop :=
  (∃ r0 : Int, (((some (.cells false 0 (List.flatMap boolC a) : KObj) = some (.cells false 0 (List.flatMap boolC a) : KObj)) ∧ True) ∧ (∀ H' : Heap, H'.length = 3 → (H'[0]? = some (.cells false 0 (List.flatMap boolC a) : KObj) ∧ True) → KCall prog 21 [.agg #[.int .i64 w, .int .i64 h, .slice (some ⟨0, 0, some 2⟩) (List.length a) (List.length a)]] H' [] (Is (.int .i64 r0) H')) ∧ ((((r0 : Int) != 0) = true → (.int .i64 r0 : Value) = sp) ∧ (((r0 : Int) != 0) = false → ((.int .i64 (IntKind.wrap .i64 (w * h)) : Value) = .int .i64 (w * h) ∧ (((((((List.length l) : Nat) : Int) : Int) != (w * h)) = true → (.int .i64 1 : Value) = sp) ∧ ((((((List.length l) : Nat) : Int) : Int) != (w * h)) = false → (true = true ∧ (0 ≤ List.length l ∧ sp = .int .i64 (errF (List.drop 0 l))) ∧ (true = true ∧ ((.int .i64 0 : Value) = .int .i64 ((0 : Nat) : Int) ∧ wk (.slice (some ⟨1, 0, some 2⟩) (List.length l) (List.length l) : Value) (.slice (some ⟨1, 0, some 2⟩) (List.length l) (List.length l) : Value) ∧ True) ∧ ((some (.cells true 0 [.int .i64 w, .int .i64 h, .slice (some ⟨0, 0, some 2⟩) (List.length a) (List.length a)] : KObj) = some (.cells true 0 [.int .i64 w, .int .i64 h, .slice (some ⟨0, 0, some 2⟩) (List.length a) (List.length a)] : KObj) ∧ belowO 3 (.cells true 0 [.int .i64 w, .int .i64 h, .slice (some ⟨0, 0, some 2⟩) (List.length a) (List.length a)] : KObj) = true) ∧ True) ∧ (True) ∧ (True)) ∧ (∀ x1 : Nat, true = true) ∧ ∀ x1 : Nat, (x1 ≤ List.length l ∧ sp = .int .i64 (errF (List.drop x1 l))) → (((decide ((((x1 : Nat) : Int) : Int) < (((List.length l) : Nat) : Int))) = true → (((0 : Int) ≤ ((x1 : Nat) : Int) ∧ (((x1 : Nat) : Int) : Int) < (((List.length l) : Nat) : Int)) ∧ ((partA 2 (List.flatMap flowC l) ((0 + Int.toNat ((x1 : Nat) : Int) * 4) + 0) = some (.agg #[.int .i64 (List.getD l x1 zeroF).x.lo, .int .i64 (List.getD l x1 zeroF).x.hi])) ∧ (((decide (((List.getD l x1 zeroF).x.lo : Int) < (-2000))) = true → (.int .i64 30 : Value) = sp) ∧ ((decide (((List.getD l x1 zeroF).x.lo : Int) < (-2000))) = false → (((decide ((2000 : Int) < (List.getD l x1 zeroF).x.hi)) = true → (.int .i64 30 : Value) = sp) ∧ ((decide ((2000 : Int) < (List.getD l x1 zeroF).x.hi)) = false → (((decide (((List.getD l x1 zeroF).x.hi : Int) < (List.getD l x1 zeroF).x.lo)) = true → (.int .i64 30 : Value) = sp) ∧ ((decide (((List.getD l x1 zeroF).x.hi : Int) < (List.getD l x1 zeroF).x.lo)) = false → (((0 : Int) ≤ ((x1 : Nat) : Int) ∧ (((x1 : Nat) : Int) : Int) < (((List.length l) : Nat) : Int)) ∧ ((partA 2 (List.flatMap flowC l) ((0 + Int.toNat ((x1 : Nat) : Int) * 4) + 2) = some (.agg #[.int .i64 (List.getD l x1 zeroF).y.lo, .int .i64 (List.getD l x1 zeroF).y.hi])) ∧ (((decide (((List.getD l x1 zeroF).y.lo : Int) < (-2000))) = true → (.int .i64 30 : Value) = sp) ∧ ((decide (((List.getD l x1 zeroF).y.lo : Int) < (-2000))) = false → (((decide ((2000 : Int) < (List.getD l x1 zeroF).y.hi)) = true → (.int .i64 30 : Value) = sp) ∧ ((decide ((2000 : Int) < (List.getD l x1 zeroF).y.hi)) = false → (((decide (((List.getD l x1 zeroF).y.hi : Int) < (List.getD l x1 zeroF).y.lo)) = true → (.int .i64 30 : Value) = sp) ∧ ((decide (((List.getD l x1 zeroF).y.hi : Int) < (List.getD l x1 zeroF).y.lo)) = false → ((.int .i64 (IntKind.wrap .i64 (((x1 : Nat) : Int) + 1)) : Value) = .int .i64 (((x1 : Nat) : Int) + 1) ∧ (∃ x1' : Nat, (x1' ≤ List.length l ∧ sp = .int .i64 (errF (List.drop x1' l))) ∧ (List.length l - x1') < (List.length l - x1) ∧ true = true ∧ ((.int .i64 (((x1 : Nat) : Int) + 1) : Value) = .int .i64 ((x1' : Nat) : Int) ∧ wk (.slice (some ⟨1, 0, some 2⟩) (List.length l) (List.length l) : Value) (.slice (some ⟨1, 0, some 2⟩) (List.length l) (List.length l) : Value) ∧ True) ∧ ((some (.cells true 0 [.int .i64 w, .int .i64 h, .slice (some ⟨0, 0, some 2⟩) (List.length a) (List.length a)] : KObj) = some (.cells true 0 [.int .i64 w, .int .i64 h, .slice (some ⟨0, 0, some 2⟩) (List.length a) (List.length a)] : KObj) ∧ belowO 3 (.cells true 0 [.int .i64 w, .int .i64 h, .slice (some ⟨0, 0, some 2⟩) (List.length a) (List.length a)] : KObj) = true) ∧ True) ∧ (True) ∧ (True)))))))))))))))))))) ∧ ((decide ((((x1 : Nat) : Int) : Int) < (((List.length l) : Nat) : Int))) = false → (.int .i64 0 : Value) = sp))))))))))
theorem ErCheckFlows (sp : Value) (w h : Int) (a : List Bool) (l : List Flow) : vF prog msk (dm 0) 100000 true 40 true 23 [.agg #[.int .i64 w, .int .i64 h, .slice (some ⟨0, 0, some 2⟩) (List.length a) (List.length a)], .slice (some ⟨1, 0, some 2⟩) (List.length l) (List.length l)] (readsT 0 [a.flatMap boolC, l.flatMap flowC]) (some [])
  (.go 2 (.bind (Int) (fun r0 => .ans [(0, .cells false 0 (List.flatMap boolC a))] (.int .i64 r0) [] (.go 2 (.fork (.auto) (.go 6 (.slot 18 (.int .i64 (w * h)) (.go 0 (.fork (.auto) (.go 0 (.inv 3 (Nat) (0) [] [2] (fun x1 => [(6, .int .i64 ((x1 : Nat) : Int)), (1, .slice (some ⟨1, 0, some 2⟩) (List.length l) (List.length l))]) (fun x1 => [(2, true, .cells true 0 [.int .i64 w, .int .i64 h, .slice (some ⟨0, 0, some 2⟩) (List.length a) (List.length a)])]) (fun x1 => []) (fun x1 => []) (fun x1 => (x1 ≤ List.length l ∧ sp = .int .i64 (errF (List.drop x1 l)))) (fun x1 => (List.length l - x1)) (fun x1 => .go 3 (.fork (.go 1 (.need (.go 0 (.val (.agg #[.int .i64 (List.getD l x1 zeroF).x.lo, .int .i64 (List.getD l x1 zeroF).x.hi]) (.go 8 (.gfork (.auto) (.go 5 (.gfork (.auto) (.go 7 (.gfork (.auto) (.go 1 (.need (.go 0 (.val (.agg #[.int .i64 (List.getD l x1 zeroF).y.lo, .int .i64 (List.getD l x1 zeroF).y.hi]) (.go 8 (.gfork (.auto) (.go 5 (.gfork (.auto) (.go 7 (.fork (.auto) (.go 1 (.slot 25 (.int .i64 (((x1 : Nat) : Int) + 1)) (.go 0 (.again [])))))))))))))))))))))))) (.auto))))))))))))))
  (fun v _ _ => v = sp) = RrCheckFlows sp w h a l := by kernel_rfl
def Rfloor (sp : Value) (a b : Int) : Prop :=
  (((b : Int) ≠ 0) ∧ ((.int .i64 (IntKind.wrap .i64 (Int.tdiv a b)) : Value) = .int .i64 (Int.tdiv a b) ∧ (((b : Int) ≠ 0) ∧ (((decide (((Int.tmod a b) : Int) < 0)) = true → ((.int .i64 (IntKind.wrap .i64 ((Int.tdiv a b) - 1)) : Value) = .int .i64 ((Int.tdiv a b) - 1) ∧ (.int .i64 ((Int.tdiv a b) - 1) : Value) = sp)) ∧ ((decide (((Int.tmod a b) : Int) < 0)) = false → (.int .i64 (Int.tdiv a b) : Value) = sp)))))
theorem Efloor (sp : Value) (a b : Int) : vF prog msk (dm 0) 100000 true 40 true 71 [.int .i64 a, .int .i64 b] ⟨0, .leaf⟩ (some [])
  (.go 2 (.need (.slot 8 (.int .i64 (Int.tdiv a b)) (.go 2 (.need (.go 0 (.fork (.go 1 (.slot 14 (.int .i64 ((Int.tdiv a b) - 1)) (.auto))) (.auto))))))))
  (fun v _ _ => v = sp) = Rfloor sp a b := by kernel_rfl
def Rrdown (sp : Value) (a b : Int) : Prop :=
  (((b : Int) ≠ 0) ∧ ((.int .i64 (IntKind.wrap .i64 (Int.tdiv a b)) : Value) = .int .i64 (Int.tdiv a b) ∧ (true = true ∧ (a / b ≤ (Int.tdiv a b) ∧ (Int.tdiv a b) ≤ a / b + 1) ∧ (true = true ∧ ((.int .i64 (Int.tdiv a b) : Value) = .int .i64 (Int.tdiv a b) ∧ (.int .i64 b : Value) = .int .i64 b ∧ (.int .i64 a : Value) = .int .i64 a ∧ (.int .i64 0 : Value) = .int .i64 0 ∧ True) ∧ (True) ∧ (True) ∧ (True)) ∧ (∀ x0 : Int, true = true) ∧ ∀ x0 : Int, (a / b ≤ x0 ∧ x0 ≤ a / b + 1) → ((.int .i64 (IntKind.wrap .i64 (x0 * b)) : Value) = .int .i64 (x0 * b) ∧ (((decide ((a : Int) < (x0 * b))) = true → ((.int .i64 (IntKind.wrap .i64 (x0 - 1)) : Value) = .int .i64 (x0 - 1) ∧ (∃ x0' : Int, (a / b ≤ x0' ∧ x0' ≤ a / b + 1) ∧ (Int.toNat (x0' - a / b)) < (Int.toNat (x0 - a / b)) ∧ true = true ∧ ((.int .i64 (x0 - 1) : Value) = .int .i64 x0' ∧ (.int .i64 b : Value) = .int .i64 b ∧ (.int .i64 a : Value) = .int .i64 a ∧ (.int .i64 0 : Value) = .int .i64 0 ∧ True) ∧ (True) ∧ (True) ∧ (True)))) ∧ ((decide ((a : Int) < (x0 * b))) = false → (.int .i64 x0 : Value) = sp))))))
theorem Erdown (sp : Value) (a b : Int) : vF prog msk (dm 0) 100000 true 40 true 74 [.int .i64 a, .int .i64 b] ⟨0, .leaf⟩ (some [])
  (.go 2 (.need (.slot 8 (.int .i64 (Int.tdiv a b)) (.go 0 (.inv 3 (Int) ((Int.tdiv a b)) [] [] (fun x0 => [(5, .int .i64 x0), (1, .int .i64 b), (0, .int .i64 a), (4, .int .i64 0)]) (fun x0 => []) (fun x0 => []) (fun x0 => []) (fun x0 => (a / b ≤ x0 ∧ x0 ≤ a / b + 1)) (fun x0 => (Int.toNat (x0 - a / b))) (fun x0 => .go 2 (.slot 11 (.int .i64 (x0 * b)) (.go 1 (.fork (.go 1 (.slot 15 (.int .i64 (x0 - 1)) (.go 0 (.again [])))) (.auto))))))))))
  (fun v _ _ => v = sp) = Rrdown sp a b := by kernel_rfl
def Rrup (sp : Value) (a b : Int) : Prop :=
  (((b : Int) ≠ 0) ∧ ((.int .i64 (IntKind.wrap .i64 (Int.tdiv a b)) : Value) = .int .i64 (Int.tdiv a b) ∧ (true = true ∧ (-(-a / b) - 1 ≤ (Int.tdiv a b) ∧ (Int.tdiv a b) ≤ -(-a / b)) ∧ (true = true ∧ ((.int .i64 (Int.tdiv a b) : Value) = .int .i64 (Int.tdiv a b) ∧ (.int .i64 b : Value) = .int .i64 b ∧ (.int .i64 a : Value) = .int .i64 a ∧ (.int .i64 0 : Value) = .int .i64 0 ∧ True) ∧ (True) ∧ (True) ∧ (True)) ∧ (∀ x0 : Int, true = true) ∧ ∀ x0 : Int, (-(-a / b) - 1 ≤ x0 ∧ x0 ≤ -(-a / b)) → ((.int .i64 (IntKind.wrap .i64 (x0 * b)) : Value) = .int .i64 (x0 * b) ∧ (((decide (((x0 * b) : Int) < a)) = true → ((.int .i64 (IntKind.wrap .i64 (x0 + 1)) : Value) = .int .i64 (x0 + 1) ∧ (∃ x0' : Int, (-(-a / b) - 1 ≤ x0' ∧ x0' ≤ -(-a / b)) ∧ (Int.toNat (-(-a / b) - x0')) < (Int.toNat (-(-a / b) - x0)) ∧ true = true ∧ ((.int .i64 (x0 + 1) : Value) = .int .i64 x0' ∧ (.int .i64 b : Value) = .int .i64 b ∧ (.int .i64 a : Value) = .int .i64 a ∧ (.int .i64 0 : Value) = .int .i64 0 ∧ True) ∧ (True) ∧ (True) ∧ (True)))) ∧ ((decide (((x0 * b) : Int) < a)) = false → (.int .i64 x0 : Value) = sp))))))
theorem Erup (sp : Value) (a b : Int) : vF prog msk (dm 0) 100000 true 40 true 75 [.int .i64 a, .int .i64 b] ⟨0, .leaf⟩ (some [])
  (.go 2 (.need (.slot 8 (.int .i64 (Int.tdiv a b)) (.go 0 (.inv 3 (Int) ((Int.tdiv a b)) [] [] (fun x0 => [(5, .int .i64 x0), (1, .int .i64 b), (0, .int .i64 a), (4, .int .i64 0)]) (fun x0 => []) (fun x0 => []) (fun x0 => []) (fun x0 => (-(-a / b) - 1 ≤ x0 ∧ x0 ≤ -(-a / b))) (fun x0 => (Int.toNat (-(-a / b) - x0))) (fun x0 => .go 2 (.slot 11 (.int .i64 (x0 * b)) (.go 1 (.fork (.go 1 (.slot 15 (.int .i64 (x0 + 1)) (.go 0 (.again [])))) (.auto))))))))))
  (fun v _ _ => v = sp) = Rrup sp a b := by kernel_rfl
def Rrcut (sp : Value) (n : Int) : Prop :=
  (((decide ((2000 : Int) < n)) = true → (.int .i64 2000 : Value) = sp) ∧ ((decide ((2000 : Int) < n)) = false → (((decide ((n : Int) < (-2000))) = true → (.int .i64 (-2000) : Value) = sp) ∧ ((decide ((n : Int) < (-2000))) = false → (.int .i64 n : Value) = sp))))
theorem Ercut (sp : Value) (n : Int) : vF prog msk (dm 0) 100000 true 40 true 73 [.int .i64 n] ⟨0, .leaf⟩ (some [])
  (.go 2 (.fork (.auto) (.go 1 (.fork (.auto) (.auto)))))
  (fun v _ _ => v = sp) = Rrcut sp n := by kernel_rfl
def RrWeather (sp : Value) (p q : Flow) (size : Int) : Prop :=
  (((decide ((p.x.lo : Int) < (-500))) = true → (.tuple #[.agg #[.int .i64 0, .int .i64 0, .int .i64 0, .int .i64 0], .int .i64 6] : Value) = sp) ∧ ((decide ((p.x.lo : Int) < (-500))) = false → (((decide ((500 : Int) < p.x.lo)) = true → (.tuple #[.agg #[.int .i64 0, .int .i64 0, .int .i64 0, .int .i64 0], .int .i64 6] : Value) = sp) ∧ ((decide ((500 : Int) < p.x.lo)) = false → (((decide ((p.x.hi : Int) < (-500))) = true → (.tuple #[.agg #[.int .i64 0, .int .i64 0, .int .i64 0, .int .i64 0], .int .i64 6] : Value) = sp) ∧ ((decide ((p.x.hi : Int) < (-500))) = false → (((decide ((500 : Int) < p.x.hi)) = true → (.tuple #[.agg #[.int .i64 0, .int .i64 0, .int .i64 0, .int .i64 0], .int .i64 6] : Value) = sp) ∧ ((decide ((500 : Int) < p.x.hi)) = false → (((decide ((p.y.lo : Int) < (-500))) = true → (.tuple #[.agg #[.int .i64 0, .int .i64 0, .int .i64 0, .int .i64 0], .int .i64 6] : Value) = sp) ∧ ((decide ((p.y.lo : Int) < (-500))) = false → (((decide ((500 : Int) < p.y.lo)) = true → (.tuple #[.agg #[.int .i64 0, .int .i64 0, .int .i64 0, .int .i64 0], .int .i64 6] : Value) = sp) ∧ ((decide ((500 : Int) < p.y.lo)) = false → (((decide ((p.y.hi : Int) < (-500))) = true → (.tuple #[.agg #[.int .i64 0, .int .i64 0, .int .i64 0, .int .i64 0], .int .i64 6] : Value) = sp) ∧ ((decide ((p.y.hi : Int) < (-500))) = false → (((decide ((500 : Int) < p.y.hi)) = true → (.tuple #[.agg #[.int .i64 0, .int .i64 0, .int .i64 0, .int .i64 0], .int .i64 6] : Value) = sp) ∧ ((decide ((500 : Int) < p.y.hi)) = false → (((decide ((q.x.lo : Int) < (-3000))) = true → (.tuple #[.agg #[.int .i64 0, .int .i64 0, .int .i64 0, .int .i64 0], .int .i64 6] : Value) = sp) ∧ ((decide ((q.x.lo : Int) < (-3000))) = false → (((decide ((3000 : Int) < q.x.lo)) = true → (.tuple #[.agg #[.int .i64 0, .int .i64 0, .int .i64 0, .int .i64 0], .int .i64 6] : Value) = sp) ∧ ((decide ((3000 : Int) < q.x.lo)) = false → (((decide ((q.x.hi : Int) < (-3000))) = true → (.tuple #[.agg #[.int .i64 0, .int .i64 0, .int .i64 0, .int .i64 0], .int .i64 6] : Value) = sp) ∧ ((decide ((q.x.hi : Int) < (-3000))) = false → (((decide ((3000 : Int) < q.x.hi)) = true → (.tuple #[.agg #[.int .i64 0, .int .i64 0, .int .i64 0, .int .i64 0], .int .i64 6] : Value) = sp) ∧ ((decide ((3000 : Int) < q.x.hi)) = false → (((decide ((q.y.lo : Int) < (-3000))) = true → (.tuple #[.agg #[.int .i64 0, .int .i64 0, .int .i64 0, .int .i64 0], .int .i64 6] : Value) = sp) ∧ ((decide ((q.y.lo : Int) < (-3000))) = false → (((decide ((3000 : Int) < q.y.lo)) = true → (.tuple #[.agg #[.int .i64 0, .int .i64 0, .int .i64 0, .int .i64 0], .int .i64 6] : Value) = sp) ∧ ((decide ((3000 : Int) < q.y.lo)) = false → (((decide ((q.y.hi : Int) < (-3000))) = true → (.tuple #[.agg #[.int .i64 0, .int .i64 0, .int .i64 0, .int .i64 0], .int .i64 6] : Value) = sp) ∧ ((decide ((q.y.hi : Int) < (-3000))) = false → (((decide ((3000 : Int) < q.y.hi)) = true → (.tuple #[.agg #[.int .i64 0, .int .i64 0, .int .i64 0, .int .i64 0], .int .i64 6] : Value) = sp) ∧ ((decide ((3000 : Int) < q.y.hi)) = false → (((decide ((size : Int) < 100)) = true → (.tuple #[.agg #[.int .i64 0, .int .i64 0, .int .i64 0, .int .i64 0], .int .i64 6] : Value) = sp) ∧ ((decide ((size : Int) < 100)) = false → (((decide ((100000 : Int) < size)) = true → (.tuple #[.agg #[.int .i64 0, .int .i64 0, .int .i64 0, .int .i64 0], .int .i64 6] : Value) = sp) ∧ ((decide ((100000 : Int) < size)) = false → (((decide ((p.x.hi : Int) < p.x.lo)) = true → (.tuple #[.agg #[.int .i64 0, .int .i64 0, .int .i64 0, .int .i64 0], .int .i64 30] : Value) = sp) ∧ ((decide ((p.x.hi : Int) < p.x.lo)) = false → (((decide ((p.y.hi : Int) < p.y.lo)) = true → (.tuple #[.agg #[.int .i64 0, .int .i64 0, .int .i64 0, .int .i64 0], .int .i64 30] : Value) = sp) ∧ ((decide ((p.y.hi : Int) < p.y.lo)) = false → (((decide ((q.x.hi : Int) < q.x.lo)) = true → (.tuple #[.agg #[.int .i64 0, .int .i64 0, .int .i64 0, .int .i64 0], .int .i64 30] : Value) = sp) ∧ ((decide ((q.x.hi : Int) < q.x.lo)) = false → (((decide ((q.y.hi : Int) < q.y.lo)) = true → (.tuple #[.agg #[.int .i64 0, .int .i64 0, .int .i64 0, .int .i64 0], .int .i64 30] : Value) = sp) ∧ ((decide ((q.y.hi : Int) < q.y.lo)) = false → ((.int .i64 (IntKind.wrap .i64 (2 * p.x.lo)) : Value) = .int .i64 (2 * p.x.lo) ∧ ((.int .i64 (IntKind.wrap .i64 ((2 * p.x.lo) + q.x.lo)) : Value) = .int .i64 ((2 * p.x.lo) + q.x.lo) ∧ ((.int .i64 (IntKind.wrap .i64 (3600 * ((2 * p.x.lo) + q.x.lo))) : Value) = .int .i64 (3600 * ((2 * p.x.lo) + q.x.lo)) ∧ (∃ r0 : Int, ((True) ∧ (∀ H' : Heap, H'.length = 4 → (True) → KCall prog 74 [.int .i64 (3600 * ((2 * p.x.lo) + q.x.lo)), .int .i64 size] H' [] (Is (.int .i64 r0) H')) ∧ (∃ r1 : Int, ((True) ∧ (∀ H' : Heap, H'.length = 4 → (True) → KCall prog 73 [.int .i64 r0] H' [] (Is (.int .i64 r1) H')) ∧ ((.int .i64 (IntKind.wrap .i64 (2 * p.x.hi)) : Value) = .int .i64 (2 * p.x.hi) ∧ ((.int .i64 (IntKind.wrap .i64 ((2 * p.x.hi) + q.x.hi)) : Value) = .int .i64 ((2 * p.x.hi) + q.x.hi) ∧ ((.int .i64 (IntKind.wrap .i64 (3600 * ((2 * p.x.hi) + q.x.hi))) : Value) = .int .i64 (3600 * ((2 * p.x.hi) + q.x.hi)) ∧ (∃ r2 : Int, ((True) ∧ (∀ H' : Heap, H'.length = 4 → (True) → KCall prog 75 [.int .i64 (3600 * ((2 * p.x.hi) + q.x.hi)), .int .i64 size] H' [] (Is (.int .i64 r2) H')) ∧ (∃ r3 : Int, ((True) ∧ (∀ H' : Heap, H'.length = 4 → (True) → KCall prog 73 [.int .i64 r2] H' [] (Is (.int .i64 r3) H')) ∧ ((.int .i64 (IntKind.wrap .i64 (2 * p.y.lo)) : Value) = .int .i64 (2 * p.y.lo) ∧ ((.int .i64 (IntKind.wrap .i64 ((2 * p.y.lo) + q.y.lo)) : Value) = .int .i64 ((2 * p.y.lo) + q.y.lo) ∧ ((.int .i64 (IntKind.wrap .i64 (3600 * ((2 * p.y.lo) + q.y.lo))) : Value) = .int .i64 (3600 * ((2 * p.y.lo) + q.y.lo)) ∧ (∃ r4 : Int, ((True) ∧ (∀ H' : Heap, H'.length = 4 → (True) → KCall prog 74 [.int .i64 (3600 * ((2 * p.y.lo) + q.y.lo)), .int .i64 size] H' [] (Is (.int .i64 r4) H')) ∧ (∃ r5 : Int, ((True) ∧ (∀ H' : Heap, H'.length = 4 → (True) → KCall prog 73 [.int .i64 r4] H' [] (Is (.int .i64 r5) H')) ∧ ((.int .i64 (IntKind.wrap .i64 (2 * p.y.hi)) : Value) = .int .i64 (2 * p.y.hi) ∧ ((.int .i64 (IntKind.wrap .i64 ((2 * p.y.hi) + q.y.hi)) : Value) = .int .i64 ((2 * p.y.hi) + q.y.hi) ∧ ((.int .i64 (IntKind.wrap .i64 (3600 * ((2 * p.y.hi) + q.y.hi))) : Value) = .int .i64 (3600 * ((2 * p.y.hi) + q.y.hi)) ∧ (∃ r6 : Int, ((True) ∧ (∀ H' : Heap, H'.length = 4 → (True) → KCall prog 75 [.int .i64 (3600 * ((2 * p.y.hi) + q.y.hi)), .int .i64 size] H' [] (Is (.int .i64 r6) H')) ∧ (∃ r7 : Int, ((True) ∧ (∀ H' : Heap, H'.length = 4 → (True) → KCall prog 73 [.int .i64 r6] H' [] (Is (.int .i64 r7) H')) ∧ (.tuple #[.agg #[.int .i64 r1, .int .i64 r3, .int .i64 r5, .int .i64 r7], .int .i64 0] : Value) = sp))))))))))))))))))))))))))))))))))))))))))))))))))))))))))))))))))))))))
theorem ErWeather (sp : Value) (p q : Flow) (size : Int) : vF prog msk (dm 0) 100000 true 40 true 25 [.agg #[.int .i64 p.x.lo, .int .i64 p.x.hi, .int .i64 p.y.lo, .int .i64 p.y.hi], .agg #[.int .i64 q.x.lo, .int .i64 q.x.hi, .int .i64 q.y.lo, .int .i64 q.y.hi], .int .i64 size] ⟨0, .leaf⟩ (some [])
  (.go 14 (.gfork (.auto) (.go 5 (.gfork (.auto) (.go 6 (.gfork (.auto) (.go 6 (.gfork (.auto) (.go 10 (.gfork (.auto) (.go 5 (.gfork (.auto) (.go 6 (.gfork (.auto) (.go 7 (.gfork (.auto) (.go 10 (.gfork (.auto) (.go 5 (.gfork (.auto) (.go 6 (.gfork (.auto) (.go 7 (.gfork (.auto) (.go 10 (.gfork (.auto) (.go 5 (.gfork (.auto) (.go 6 (.gfork (.auto) (.go 7 (.gfork (.auto) (.go 3 (.gfork (.auto) (.go 2 (.fork (.auto) (.go 7 (.gfork (.auto) (.go 8 (.gfork (.auto) (.go 8 (.gfork (.auto) (.go 7 (.fork (.auto) (.go 4 (.slot 74 (.int .i64 (2 * p.x.lo)) (.go 3 (.slot 78 (.int .i64 ((2 * p.x.lo) + q.x.lo)) (.go 0 (.slot 79 (.int .i64 (3600 * ((2 * p.x.lo) + q.x.lo))) (.go 0 (.bind (Int) (fun r0 => .ans [] (.int .i64 r0) [] (.bind (Int) (fun r1 => .ans [] (.int .i64 r1) [] (.go 6 (.slot 88 (.int .i64 (2 * p.x.hi)) (.go 3 (.slot 92 (.int .i64 ((2 * p.x.hi) + q.x.hi)) (.go 0 (.slot 93 (.int .i64 (3600 * ((2 * p.x.hi) + q.x.hi))) (.go 0 (.bind (Int) (fun r2 => .ans [] (.int .i64 r2) [] (.bind (Int) (fun r3 => .ans [] (.int .i64 r3) [] (.go 6 (.slot 102 (.int .i64 (2 * p.y.lo)) (.go 3 (.slot 106 (.int .i64 ((2 * p.y.lo) + q.y.lo)) (.go 0 (.slot 107 (.int .i64 (3600 * ((2 * p.y.lo) + q.y.lo))) (.go 0 (.bind (Int) (fun r4 => .ans [] (.int .i64 r4) [] (.bind (Int) (fun r5 => .ans [] (.int .i64 r5) [] (.go 6 (.slot 116 (.int .i64 (2 * p.y.hi)) (.go 3 (.slot 120 (.int .i64 ((2 * p.y.hi) + q.y.hi)) (.go 0 (.slot 121 (.int .i64 (3600 * ((2 * p.y.hi) + q.y.hi))) (.go 0 (.bind (Int) (fun r6 => .ans [] (.int .i64 r6) [] (.bind (Int) (fun r7 => .ans [] (.int .i64 r7) [] (.auto)))))))))))))))))))))))))))))))))))))))))))))))))))))))))))))))))))))))))))))))))))))))))
  (fun v _ _ => v = sp) = RrWeather sp p q size := by kernel_rfl
def Rends (sp : Value) (f : Flow) : Prop :=
  (∃ r0 : Int, ((True) ∧ (∀ H' : Heap, H'.length = 5 → (True) → KCall prog 71 [.int .i64 f.x.lo, .int .i64 1000] H' [] (Is (.int .i64 r0) H')) ∧ (∃ r1 : Int, ((True) ∧ (∀ H' : Heap, H'.length = 5 → (True) → KCall prog 71 [.int .i64 f.y.lo, .int .i64 1000] H' [] (Is (.int .i64 r1) H')) ∧ ((.int .i64 (IntKind.wrap .i64 (f.x.hi + 1000)) : Value) = .int .i64 (f.x.hi + 1000) ∧ ((.int .i64 (IntKind.wrap .i64 ((f.x.hi + 1000) - 1)) : Value) = .int .i64 ((f.x.hi + 1000) - 1) ∧ (∃ r2 : Int, ((True) ∧ (∀ H' : Heap, H'.length = 5 → (True) → KCall prog 71 [.int .i64 ((f.x.hi + 1000) - 1), .int .i64 1000] H' [] (Is (.int .i64 r2) H')) ∧ ((.int .i64 (IntKind.wrap .i64 (f.y.hi + 1000)) : Value) = .int .i64 (f.y.hi + 1000) ∧ ((.int .i64 (IntKind.wrap .i64 ((f.y.hi + 1000) - 1)) : Value) = .int .i64 ((f.y.hi + 1000) - 1) ∧ (∃ r3 : Int, ((True) ∧ (∀ H' : Heap, H'.length = 5 → (True) → KCall prog 71 [.int .i64 ((f.y.hi + 1000) - 1), .int .i64 1000] H' [] (Is (.int .i64 r3) H')) ∧ (.tuple #[.agg #[.int .i64 r0, .int .i64 r1], .agg #[.int .i64 r2, .int .i64 r3]] : Value) = sp))))))))))))
theorem Eends (sp : Value) (f : Flow) : vF prog msk (dm 0) 100000 true 40 true 58 [.agg #[.int .i64 f.x.lo, .int .i64 f.x.hi, .int .i64 f.y.lo, .int .i64 f.y.hi]] ⟨0, .leaf⟩ (some [])
  (.go 23 (.bind (Int) (fun r0 => .ans [] (.int .i64 r0) [] (.go 5 (.bind (Int) (fun r1 => .ans [] (.int .i64 r1) [] (.go 24 (.slot 5 (.int .i64 (f.x.hi + 1000)) (.go 0 (.slot 6 (.int .i64 ((f.x.hi + 1000) - 1)) (.bind (Int) (fun r2 => .ans [] (.int .i64 r2) [] (.go 6 (.slot 5 (.int .i64 (f.y.hi + 1000)) (.go 0 (.slot 6 (.int .i64 ((f.y.hi + 1000) - 1)) (.bind (Int) (fun r3 => .ans [] (.int .i64 r3) [] (.auto)))))))))))))))))))
  (fun v _ _ => v = sp) = Rends sp f := by kernel_rfl
end
end Go.Proofs.Ytkkgnalgmebfjaa
/- Drift: basins, flows, weather: what they answer. No condition. -/
namespace Go.Proofs.Ytkkgnalgmebfjaa
open Go Go.K
set_option maxRecDepth 100000
set_option linter.unusedVariables false
set_option linter.unusedSimpArgs false
noncomputable section
attribute [local irreducible] vF
theorem plainBL (n : Nat) (l : List Bool) : (l.flatMap boolC).all (belowC n) = true := plain_flat (fun _ => rfl) l
theorem plainFL (n : Nat) (l : List Flow) : (l.flatMap flowC).all (belowC n) = true := plain_flat (fun _ => rfl) l
theorem flowC_len (f : Flow) : (flowC f).length = 4 := rfl
theorem partFlow {l : List Flow} {x : Nat} (h : x < l.length) : partA 4 (l.flatMap flowC) (0 + Int.toNat ((x : Nat) : Int) * 4) = some (.agg ⟨flowC (l.getD x zeroF)⟩) :=
  part_at (n := 4) (d := zeroF) (c := 0) flowC_len h (by omega) (by omega)
theorem partFlowX {l : List Flow} {x : Nat} (h : x < l.length) : partA 2 (l.flatMap flowC) ((0 + Int.toNat ((x : Nat) : Int) * 4) + 0) = some (.agg ⟨spanC (l.getD x zeroF).x⟩) :=
  part_at (n := 4) (d := zeroF) (c := 0) flowC_len h (by omega) (by omega)
theorem partFlowY {l : List Flow} {x : Nat} (h : x < l.length) : partA 2 (l.flatMap flowC) ((0 + Int.toNat ((x : Nat) : Int) * 4) + 2) = some (.agg ⟨spanC (l.getD x zeroF).y⟩) :=
  part_at (n := 4) (d := zeroF) (c := 2) flowC_len h (by omega) (by omega)
theorem mul_bd {w h : Int} (a : 1 ≤ w ∧ w ≤ 64) (b : 1 ≤ h ∧ h ≤ 64) : 1 ≤ w * h ∧ w * h ≤ 4096 := by
  have h1 : 1 * 1 ≤ w * h := Int.mul_le_mul a.1 b.1 (by omega) (by omega)
  have h2 : w * h ≤ 64 * 64 := Int.mul_le_mul a.2 b.2 (by omega) (by omega)
  omega
theorem kCheckBasin (w h : Int) (a : List Bool) {H : Heap} {id : Nat} {own : Bool} {z : Nat} (hid : H[id]? = some (.cells own z (a.flatMap boolC))) :
    KCall prog F.drift_CheckBasin [basV w h id a.length] H [] (Is (.int .i64 (errBas w h a.length)) H) := by
  refine valR (css := [a.flatMap boolC]) (v := .int .i64 (errBas w h a.length)) (Eq.mpr (ECheckBasin _ w h a) ?_) (one_cs (plainBL 0 a)) rfl [id] rfl (one_id hid)
  unfold RCheckBasin errBas
  obtain ⟨p, hp⟩ : ∃ p, w * h = p := ⟨_, rfl⟩
  have hb := fun a b => hp ▸ mul_bd (w := w) (h := h) a b
  simp only [hp]
  repeat' first
    | exact iEq (by split <;> (try split) <;> omega)
    | exact trivial
    | exact rfl
    | exact wk_refl _
    | refine wkO_cells ?_
    | refine wks_cons ?_ ?_
    | exact wks_nil
    | exact wk_nil _ _ _ (.inl rfl)
    | exact wk_Q (by omega)
    | refine wk_tupL ?_
    | refine wk_aggL ?_
    | refine joinMax ?_ ?_ ?_
    | refine joinMin ?_ ?_ ?_
    | refine toMax ?_
    | refine toMin ?_
    | refine ⟨rfl, ?_⟩
    | refine ⟨trivial, ?_⟩
    | refine forkD (fun h => ?_) (fun h => ?_)
    | refine forkNe (fun h => ?_) (fun h => ?_)
    | refine forkEq (fun h => ?_) (fun h => ?_)
    | refine forkNot ?_
    | refine ⟨vI64 (by omega), ?_⟩
    | refine And.intro (by omega) ?_
    | apply And.intro
    | exact iEq (by omega)
    | exact vI64 (by omega)
    | fail
theorem krCheckBasin (w h : Int) (a : List Bool) {H : Heap} {id : Nat} {own : Bool} {z : Nat} (hid : H[id]? = some (.cells own z (a.flatMap boolC))) :
    KCall prog F.polynyaref02_CheckBasin [basV w h id a.length] H [] (Is (.int .i64 (errBas w h a.length)) H) := by
  refine valR (css := [a.flatMap boolC]) (v := .int .i64 (errBas w h a.length)) (Eq.mpr (ErCheckBasin _ w h a) ?_) (one_cs (plainBL 0 a)) rfl [id] rfl (one_id hid)
  unfold RrCheckBasin errBas
  obtain ⟨p, hp⟩ : ∃ p, w * h = p := ⟨_, rfl⟩
  have hb := fun a b => hp ▸ mul_bd (w := w) (h := h) a b
  simp only [hp]
  repeat' first
    | exact iEq (by split <;> (try split) <;> omega)
    | exact trivial
    | exact rfl
    | exact wk_refl _
    | refine wkO_cells ?_
    | refine wks_cons ?_ ?_
    | exact wks_nil
    | exact wk_nil _ _ _ (.inl rfl)
    | exact wk_Q (by omega)
    | refine wk_tupL ?_
    | refine wk_aggL ?_
    | refine joinMax ?_ ?_ ?_
    | refine joinMin ?_ ?_ ?_
    | refine toMax ?_
    | refine toMin ?_
    | refine ⟨rfl, ?_⟩
    | refine ⟨trivial, ?_⟩
    | refine forkD (fun h => ?_) (fun h => ?_)
    | refine forkNe (fun h => ?_) (fun h => ?_)
    | refine forkEq (fun h => ?_) (fun h => ?_)
    | refine forkNot ?_
    | refine ⟨vI64 (by omega), ?_⟩
    | refine And.intro (by omega) ?_
    | apply And.intro
    | exact iEq (by omega)
    | exact vI64 (by omega)
    | fail
theorem errBas_0 {w h : Int} {n : Nat} (e : errBas w h n = 0) : (1 ≤ w ∧ w ≤ 64) ∧ (1 ≤ h ∧ h ≤ 64) ∧ w * h ≤ 1024 ∧ (n : Int) = w * h := by
  unfold errBas at e
  split at e
  · rename_i g; split at e
    · rename_i k; exact ⟨g.1, g.2.1, g.2.2, k⟩
    · omega
  · omega
theorem errF_drop {l : List Flow} {x : Nat} (h : x < l.length) : errF (l.drop x) = if rightF (l.getD x zeroF) then errF (l.drop (x + 1)) else 30 := by
  have : l.drop x = l.getD x zeroF :: l.drop (x + 1) := by rw [List.drop_eq_getElem_cons h, List.getD_eq_getElem?_getD, List.getElem?_eq_getElem h]; rfl
  rw [this]; rfl
theorem errF_1 {l : List Flow} {x : Nat} (h : x < l.length) (k : rightF (l.getD x zeroF)) : errF (l.drop x) = errF (l.drop (x + 1)) := by rw [errF_drop h, if_pos k]
theorem errF_2 {l : List Flow} {x : Nat} (h : x < l.length) (k : ¬ rightF (l.getD x zeroF)) : errF (l.drop x) = 30 := by rw [errF_drop h, if_neg k]
theorem flw_cs (a : List Bool) (l : List Flow) : ∀ c ∈ [a.flatMap boolC, l.flatMap flowC], c.all (belowC 0) = true := twoCs (plainBL 0 a) (plainFL 0 l)
theorem kCheckFlows (w h : Int) (a : List Bool) (l : List Flow) (hl : l.length ≤ 4294967296) {H : Heap} {id id2 : Nat} {own own2 : Bool} {z z2 : Nat} (hid : H[id]? = some (.cells own z (a.flatMap boolC))) (hid2 : H[id2]? = some (.cells own2 z2 (l.flatMap flowC))) :
    KCall prog F.drift_CheckFlows [basV w h id a.length, .slice (some ⟨id2, 0, some 2⟩) l.length l.length] H [] (Is (.int .i64 (errFlows w h a.length l)) H) := by
  refine valR (css := [a.flatMap boolC, l.flatMap flowC]) (v := .int .i64 (errFlows w h a.length l)) (Eq.mpr (ECheckFlows _ w h a l) ?_) (flw_cs a l) rfl [id, id2] rfl (twoId hid hid2)
  unfold RCheckFlows
  refine ⟨_, ⟨rfl, trivial⟩, fun H' _ hd => kCheckBasin w h a hd.1, forkNe (fun h0 => iEq (first2_1 h0).symm) (fun h0 => forkNe (fun h1 => iEq ((first2_2 h0).trans (if_neg (by omega))).symm) (fun h1 => ?_))⟩
  refine ⟨rfl, ⟨Nat.zero_le _, iEq ((first2_2 h0).trans (if_pos (by omega)))⟩, ?_, fun _ => rfl, ?_⟩
  · repeat' first
      | exact trivial
      | exact rfl
      | exact wk_refl _
      | refine wkO_cells ?_
      | refine wks_cons ?_ ?_
      | exact wks_nil
      | exact wk_nil _ _ _ (.inl rfl)
      | exact wk_Q (by omega)
      | refine wk_tupL ?_
      | refine wk_aggL ?_
      | refine joinMax ?_ ?_ ?_
      | refine joinMin ?_ ?_ ?_
      | refine toMax ?_
      | refine toMin ?_
      | refine ⟨rfl, ?_⟩
      | refine ⟨trivial, ?_⟩
      | refine forkD (fun h => ?_) (fun h => ?_)
      | refine forkNe (fun h => ?_) (fun h => ?_)
      | refine forkEq (fun h => ?_) (fun h => ?_)
      | refine forkNot ?_
      | refine ⟨vI64 (by omega), ?_⟩
      | refine And.intro (by omega) ?_
      | apply And.intro
      | exact iEq (by omega)
      | exact vI64 (by omega)
      | fail
  rintro x ⟨hx, hs⟩
  refine forkD (fun k => ?_) (fun k => ?_)
  · have hlt : x < l.length := by omega
    refine ⟨by omega, partFlow hlt, ?_⟩
    have e1 := errF_1 hlt
    have e2 := errF_2 hlt
    unfold rightF rightS at e1 e2
    repeat' first
      | exact (iEq (e2 (by omega)).symm).trans hs.symm
      | refine ⟨x + 1, ⟨by omega, hs.trans (iEq (e1 (by omega)))⟩, by omega, rfl, ?_⟩
      | exact trivial
      | exact rfl
      | exact wk_refl _
      | refine wkO_cells ?_
      | refine wks_cons ?_ ?_
      | exact wks_nil
      | exact wk_nil _ _ _ (.inl rfl)
      | exact wk_Q (by omega)
      | refine wk_tupL ?_
      | refine wk_aggL ?_
      | refine joinMax ?_ ?_ ?_
      | refine joinMin ?_ ?_ ?_
      | refine toMax ?_
      | refine toMin ?_
      | refine ⟨rfl, ?_⟩
      | refine ⟨trivial, ?_⟩
      | refine forkD (fun h => ?_) (fun h => ?_)
      | refine forkNe (fun h => ?_) (fun h => ?_)
      | refine forkEq (fun h => ?_) (fun h => ?_)
      | refine forkNot ?_
      | refine ⟨vI64 (by omega), ?_⟩
      | refine And.intro (by omega) ?_
      | apply And.intro
      | exact iEq (by omega)
      | exact vI64 (by omega)
      | fail
  · obtain rfl : x = l.length := by omega
    rw [hs, List.drop_length]; rfl
theorem krCheckFlows (w h : Int) (a : List Bool) (l : List Flow) (hl : l.length ≤ 4294967296) {H : Heap} {id id2 : Nat} {own own2 : Bool} {z z2 : Nat} (hid : H[id]? = some (.cells own z (a.flatMap boolC))) (hid2 : H[id2]? = some (.cells own2 z2 (l.flatMap flowC))) :
    KCall prog F.polynyaref02_CheckFlows [basV w h id a.length, .slice (some ⟨id2, 0, some 2⟩) l.length l.length] H [] (Is (.int .i64 (errFlows w h a.length l)) H) := by
  refine valR (css := [a.flatMap boolC, l.flatMap flowC]) (v := .int .i64 (errFlows w h a.length l)) (Eq.mpr (ErCheckFlows _ w h a l) ?_) (flw_cs a l) rfl [id, id2] rfl (twoId hid hid2)
  unfold RrCheckFlows
  refine ⟨_, ⟨rfl, trivial⟩, fun H' _ hd => krCheckBasin w h a hd.1, forkNe (fun h0 => iEq (first2_1 h0).symm) (fun h0 => ?_)⟩
  obtain ⟨b1, b2, b3, b4⟩ := errBas_0 h0
  have b5 := mul_bd b1 b2
  refine ⟨vI64 (by omega), forkNe (fun h1 => iEq ((first2_2 h0).trans (if_neg (by omega))).symm) (fun h1 => ?_)⟩
  refine ⟨rfl, ⟨Nat.zero_le _, iEq ((first2_2 h0).trans (if_pos (by omega)))⟩, ?_, fun _ => rfl, ?_⟩
  · repeat' first
      | exact trivial
      | exact rfl
      | exact wk_refl _
      | refine wkO_cells ?_
      | refine wks_cons ?_ ?_
      | exact wks_nil
      | exact wk_nil _ _ _ (.inl rfl)
      | exact wk_Q (by omega)
      | refine wk_tupL ?_
      | refine wk_aggL ?_
      | refine joinMax ?_ ?_ ?_
      | refine joinMin ?_ ?_ ?_
      | refine toMax ?_
      | refine toMin ?_
      | refine ⟨rfl, ?_⟩
      | refine ⟨trivial, ?_⟩
      | refine forkD (fun h => ?_) (fun h => ?_)
      | refine forkNe (fun h => ?_) (fun h => ?_)
      | refine forkEq (fun h => ?_) (fun h => ?_)
      | refine forkNot ?_
      | refine ⟨vI64 (by omega), ?_⟩
      | refine And.intro (by omega) ?_
      | apply And.intro
      | exact iEq (by omega)
      | exact vI64 (by omega)
      | fail
  rintro x ⟨hx, hs⟩
  refine forkD (fun k => ?_) (fun k => ?_)
  · have hlt : x < l.length := by omega
    refine ⟨by omega, partFlowX hlt, ?_⟩
    have e1 := errF_1 hlt
    have e2 := errF_2 hlt
    unfold rightF rightS at e1 e2
    repeat' first
      | exact (iEq (e2 (by omega)).symm).trans hs.symm
      | refine ⟨x + 1, ⟨by omega, hs.trans (iEq (e1 (by omega)))⟩, by omega, rfl, ?_⟩
      | exact partFlowY hlt
      | exact trivial
      | exact rfl
      | exact wk_refl _
      | refine wkO_cells ?_
      | refine wks_cons ?_ ?_
      | exact wks_nil
      | exact wk_nil _ _ _ (.inl rfl)
      | exact wk_Q (by omega)
      | refine wk_tupL ?_
      | refine wk_aggL ?_
      | refine joinMax ?_ ?_ ?_
      | refine joinMin ?_ ?_ ?_
      | refine toMax ?_
      | refine toMin ?_
      | refine ⟨rfl, ?_⟩
      | refine ⟨trivial, ?_⟩
      | refine forkD (fun h => ?_) (fun h => ?_)
      | refine forkNe (fun h => ?_) (fun h => ?_)
      | refine forkEq (fun h => ?_) (fun h => ?_)
      | refine forkNot ?_
      | refine ⟨vI64 (by omega), ?_⟩
      | refine And.intro (by omega) ?_
      | apply And.intro
      | exact iEq (by omega)
      | exact vI64 (by omega)
      | fail
  · obtain rfl : x = l.length := by omega
    rw [hs, List.drop_length]; rfl
theorem tdiv_up {a b : Int} (hb : 0 < b) : Int.tdiv a b = if Int.tmod a b < 0 then a / b + 1 else a / b := by
  have h1 := Int.tdiv_eq_ediv (a := a) (b := b)
  have h2 := Int.tmod_eq_emod (a := a) (b := b)
  have h3 := Int.emod_nonneg a (b := b) (by omega)
  have h4 := Int.emod_lt_of_pos a hb
  have hs : b.sign = 1 := Int.sign_eq_one_of_pos hb
  have hn : b.natAbs = b := by omega
  rw [h1]
  by_cases q : 0 ≤ a ∨ b ∣ a
  · rw [if_pos q] at h2 ⊢
    rw [h2, if_neg (by omega)]; omega
  · rw [if_neg q] at h2 ⊢
    rw [h2, if_pos (by omega), hs]
theorem kfloor (a b : Int) (hb : 0 < b) (ha : -9223372036854775807 ≤ a ∧ a ≤ 9223372036854775807) (H : Heap) : KCall prog F.drift_floor [.int .i64 a, .int .i64 b] H [] (Is (.int .i64 (a / b)) H) := by
  refine valK 40 (fun _ => rfl) rfl (Eq.mpr (Efloor _ a b) ?_) H
  unfold Rfloor
  have h := tdiv_up (a := a) hb
  have h1 : (Int.tdiv a b).natAbs ≤ a.natAbs := by rw [Int.natAbs_tdiv]; exact Nat.div_le_self _ _
  have hq : -9223372036854775808 ≤ Int.tdiv a b - 1 ∧ Int.tdiv a b ≤ 9223372036854775807 := by
    omega
  refine ⟨by omega, vI64 (by omega), by omega, forkD (fun k => ?_) (fun k => ?_)⟩
  · rw [if_pos k] at h
    exact ⟨vI64 (by omega), iEq (by omega)⟩
  · rw [if_neg k] at h
    exact iEq (by omega)
theorem krcut (n : Int) (H : Heap) : KCall prog F.polynyaref02_cut [.int .i64 n] H [] (Is (.int .i64 (min (max n (-2000)) 2000)) H) := by
  refine valK 40 (fun _ => rfl) rfl (Eq.mpr (Ercut _ n) ?_) H
  unfold Rrcut
  repeat' first
    | exact trivial
    | exact rfl
    | exact wk_refl _
    | refine wkO_cells ?_
    | refine wks_cons ?_ ?_
    | exact wks_nil
    | exact wk_nil _ _ _ (.inl rfl)
    | exact wk_Q (by omega)
    | refine wk_tupL ?_
    | refine wk_aggL ?_
    | refine joinMax ?_ ?_ ?_
    | refine joinMin ?_ ?_ ?_
    | refine toMax ?_
    | refine toMin ?_
    | refine ⟨rfl, ?_⟩
    | refine ⟨trivial, ?_⟩
    | refine forkD (fun h => ?_) (fun h => ?_)
    | refine forkNe (fun h => ?_) (fun h => ?_)
    | refine forkEq (fun h => ?_) (fun h => ?_)
    | refine forkNot ?_
    | refine ⟨vI64 (by omega), ?_⟩
    | refine And.intro (by omega) ?_
    | apply And.intro
    | exact iEq (by omega)
    | exact vI64 (by omega)
    | fail
end
end Go.Proofs.Ytkkgnalgmebfjaa
/- What is to be shown of functions. Printed by a program. No condition. -/
namespace Go.Proofs.Ytkkgnalgmebfjaa
set_option linter.unusedSimpArgs false
open Go Go.K
set_option maxRecDepth 100000
set_option maxHeartbeats 4000000
set_option linter.unusedVariables false
noncomputable section
def RWeather (sp : Value) (p q : Flow) (size : Int) : Prop :=
  (((decide (((-500) : Int) ≤ p.x.lo)) = true → (((decide ((p.x.lo : Int) ≤ 500)) = true → (((decide (((-500) : Int) ≤ p.x.hi)) = true → (((decide ((p.x.hi : Int) ≤ 500)) = true → (((decide (((-500) : Int) ≤ p.y.lo)) = true → (((decide ((p.y.lo : Int) ≤ 500)) = true → (((decide (((-500) : Int) ≤ p.y.hi)) = true → (((!(decide ((p.y.hi : Int) ≤ 500))) = true → (.tuple #[.agg #[.int .i64 0, .int .i64 0, .int .i64 0, .int .i64 0], .int .i64 6] : Value) = sp) ∧ ((!(decide ((p.y.hi : Int) ≤ 500))) = false → (((decide (((-3000) : Int) ≤ q.x.lo)) = true → (((decide ((q.x.lo : Int) ≤ 3000)) = true → (((decide (((-3000) : Int) ≤ q.x.hi)) = true → (((decide ((q.x.hi : Int) ≤ 3000)) = true → (((decide (((-3000) : Int) ≤ q.y.lo)) = true → (((decide ((q.y.lo : Int) ≤ 3000)) = true → (((decide (((-3000) : Int) ≤ q.y.hi)) = true → (((!(decide ((q.y.hi : Int) ≤ 3000))) = true → (.tuple #[.agg #[.int .i64 0, .int .i64 0, .int .i64 0, .int .i64 0], .int .i64 6] : Value) = sp) ∧ ((!(decide ((q.y.hi : Int) ≤ 3000))) = false → (((decide ((100 : Int) ≤ size)) = true → (((!(decide ((size : Int) ≤ 100000))) = true → (.tuple #[.agg #[.int .i64 0, .int .i64 0, .int .i64 0, .int .i64 0], .int .i64 6] : Value) = sp) ∧ ((!(decide ((size : Int) ≤ 100000))) = false → (((decide ((p.x.hi : Int) < p.x.lo)) = true → (.tuple #[.agg #[.int .i64 0, .int .i64 0, .int .i64 0, .int .i64 0], .int .i64 30] : Value) = sp) ∧ ((decide ((p.x.hi : Int) < p.x.lo)) = false → (((decide ((p.y.hi : Int) < p.y.lo)) = true → (.tuple #[.agg #[.int .i64 0, .int .i64 0, .int .i64 0, .int .i64 0], .int .i64 30] : Value) = sp) ∧ ((decide ((p.y.hi : Int) < p.y.lo)) = false → (((decide ((q.x.hi : Int) < q.x.lo)) = true → (.tuple #[.agg #[.int .i64 0, .int .i64 0, .int .i64 0, .int .i64 0], .int .i64 30] : Value) = sp) ∧ ((decide ((q.x.hi : Int) < q.x.lo)) = false → (((decide ((q.y.hi : Int) < q.y.lo)) = true → (.tuple #[.agg #[.int .i64 0, .int .i64 0, .int .i64 0, .int .i64 0], .int .i64 30] : Value) = sp) ∧ ((decide ((q.y.hi : Int) < q.y.lo)) = false → ((.int .i64 (IntKind.wrap .i64 (2 * p.x.lo)) : Value) = .int .i64 (2 * p.x.lo) ∧ ((.int .i64 (IntKind.wrap .i64 ((2 * p.x.lo) + q.x.lo)) : Value) = .int .i64 ((2 * p.x.lo) + q.x.lo) ∧ ((.int .i64 (IntKind.wrap .i64 (((2 * p.x.lo) + q.x.lo) * 3600)) : Value) = .int .i64 (((2 * p.x.lo) + q.x.lo) * 3600) ∧ ((.int .i64 (IntKind.wrap .i64 (2 * p.x.hi)) : Value) = .int .i64 (2 * p.x.hi) ∧ ((.int .i64 (IntKind.wrap .i64 ((2 * p.x.hi) + q.x.hi)) : Value) = .int .i64 ((2 * p.x.hi) + q.x.hi) ∧ ((.int .i64 (IntKind.wrap .i64 (((2 * p.x.hi) + q.x.hi) * 3600)) : Value) = .int .i64 (((2 * p.x.hi) + q.x.hi) * 3600) ∧ ((.int .i64 (IntKind.wrap .i64 (0 - (((2 * p.x.hi) + q.x.hi) * 3600))) : Value) = .int .i64 (0 - (((2 * p.x.hi) + q.x.hi) * 3600)) ∧ (∃ r0 : Int, ((True) ∧ (∀ H' : Heap, H'.length = 11 → (True) → KCall prog 71 [.int .i64 (((2 * p.x.lo) + q.x.lo) * 3600), .int .i64 size] H' [] (Is (.int .i64 r0) H')) ∧ (∃ r1 : Int, ((True) ∧ (∀ H' : Heap, H'.length = 11 → (True) → KCall prog 71 [.int .i64 (0 - (((2 * p.x.hi) + q.x.hi) * 3600)), .int .i64 size] H' [] (Is (.int .i64 r1) H')) ∧ ((.int .i64 (IntKind.wrap .i64 (0 - r1)) : Value) = .int .i64 (0 - r1) ∧ ((.int .i64 (IntKind.wrap .i64 (2 * p.y.lo)) : Value) = .int .i64 (2 * p.y.lo) ∧ ((.int .i64 (IntKind.wrap .i64 ((2 * p.y.lo) + q.y.lo)) : Value) = .int .i64 ((2 * p.y.lo) + q.y.lo) ∧ ((.int .i64 (IntKind.wrap .i64 (((2 * p.y.lo) + q.y.lo) * 3600)) : Value) = .int .i64 (((2 * p.y.lo) + q.y.lo) * 3600) ∧ ((.int .i64 (IntKind.wrap .i64 (2 * p.y.hi)) : Value) = .int .i64 (2 * p.y.hi) ∧ ((.int .i64 (IntKind.wrap .i64 ((2 * p.y.hi) + q.y.hi)) : Value) = .int .i64 ((2 * p.y.hi) + q.y.hi) ∧ ((.int .i64 (IntKind.wrap .i64 (((2 * p.y.hi) + q.y.hi) * 3600)) : Value) = .int .i64 (((2 * p.y.hi) + q.y.hi) * 3600) ∧ ((.int .i64 (IntKind.wrap .i64 (0 - (((2 * p.y.hi) + q.y.hi) * 3600))) : Value) = .int .i64 (0 - (((2 * p.y.hi) + q.y.hi) * 3600)) ∧ (∃ r2 : Int, ((True) ∧ (∀ H' : Heap, H'.length = 11 → (True) → KCall prog 71 [.int .i64 (((2 * p.y.lo) + q.y.lo) * 3600), .int .i64 size] H' [] (Is (.int .i64 r2) H')) ∧ (∃ r3 : Int, ((True) ∧ (∀ H' : Heap, H'.length = 11 → (True) → KCall prog 71 [.int .i64 (0 - (((2 * p.y.hi) + q.y.hi) * 3600)), .int .i64 size] H' [] (Is (.int .i64 r3) H')) ∧ ((.int .i64 (IntKind.wrap .i64 (0 - r3)) : Value) = .int .i64 (0 - r3) ∧ (.tuple #[.agg #[.int .i64 (if (2000 : Int) < (if ((-2000) : Int) > r0 then ((-2000) : Int) else r0) then (2000 : Int) else (if ((-2000) : Int) > r0 then ((-2000) : Int) else r0)), .int .i64 (if (2000 : Int) < (if ((-2000) : Int) > (0 - r1) then ((-2000) : Int) else (0 - r1)) then (2000 : Int) else (if ((-2000) : Int) > (0 - r1) then ((-2000) : Int) else (0 - r1))), .int .i64 (if (2000 : Int) < (if ((-2000) : Int) > r2 then ((-2000) : Int) else r2) then (2000 : Int) else (if ((-2000) : Int) > r2 then ((-2000) : Int) else r2)), .int .i64 (if (2000 : Int) < (if ((-2000) : Int) > (0 - r3) then ((-2000) : Int) else (0 - r3)) then (2000 : Int) else (if ((-2000) : Int) > (0 - r3) then ((-2000) : Int) else (0 - r3)))], .int .i64 0] : Value) = sp))))))))))))))))))))))))))))))))))) ∧ ((decide ((100 : Int) ≤ size)) = false → (.tuple #[.agg #[.int .i64 0, .int .i64 0, .int .i64 0, .int .i64 0], .int .i64 6] : Value) = sp))))) ∧ ((decide (((-3000) : Int) ≤ q.y.hi)) = false → (.tuple #[.agg #[.int .i64 0, .int .i64 0, .int .i64 0, .int .i64 0], .int .i64 6] : Value) = sp))) ∧ ((decide ((q.y.lo : Int) ≤ 3000)) = false → (.tuple #[.agg #[.int .i64 0, .int .i64 0, .int .i64 0, .int .i64 0], .int .i64 6] : Value) = sp))) ∧ ((decide (((-3000) : Int) ≤ q.y.lo)) = false → (.tuple #[.agg #[.int .i64 0, .int .i64 0, .int .i64 0, .int .i64 0], .int .i64 6] : Value) = sp))) ∧ ((decide ((q.x.hi : Int) ≤ 3000)) = false → (.tuple #[.agg #[.int .i64 0, .int .i64 0, .int .i64 0, .int .i64 0], .int .i64 6] : Value) = sp))) ∧ ((decide (((-3000) : Int) ≤ q.x.hi)) = false → (.tuple #[.agg #[.int .i64 0, .int .i64 0, .int .i64 0, .int .i64 0], .int .i64 6] : Value) = sp))) ∧ ((decide ((q.x.lo : Int) ≤ 3000)) = false → (.tuple #[.agg #[.int .i64 0, .int .i64 0, .int .i64 0, .int .i64 0], .int .i64 6] : Value) = sp))) ∧ ((decide (((-3000) : Int) ≤ q.x.lo)) = false → (.tuple #[.agg #[.int .i64 0, .int .i64 0, .int .i64 0, .int .i64 0], .int .i64 6] : Value) = sp))))) ∧ ((decide (((-500) : Int) ≤ p.y.hi)) = false → (.tuple #[.agg #[.int .i64 0, .int .i64 0, .int .i64 0, .int .i64 0], .int .i64 6] : Value) = sp))) ∧ ((decide ((p.y.lo : Int) ≤ 500)) = false → (.tuple #[.agg #[.int .i64 0, .int .i64 0, .int .i64 0, .int .i64 0], .int .i64 6] : Value) = sp))) ∧ ((decide (((-500) : Int) ≤ p.y.lo)) = false → (.tuple #[.agg #[.int .i64 0, .int .i64 0, .int .i64 0, .int .i64 0], .int .i64 6] : Value) = sp))) ∧ ((decide ((p.x.hi : Int) ≤ 500)) = false → (.tuple #[.agg #[.int .i64 0, .int .i64 0, .int .i64 0, .int .i64 0], .int .i64 6] : Value) = sp))) ∧ ((decide (((-500) : Int) ≤ p.x.hi)) = false → (.tuple #[.agg #[.int .i64 0, .int .i64 0, .int .i64 0, .int .i64 0], .int .i64 6] : Value) = sp))) ∧ ((decide ((p.x.lo : Int) ≤ 500)) = false → (.tuple #[.agg #[.int .i64 0, .int .i64 0, .int .i64 0, .int .i64 0], .int .i64 6] : Value) = sp))) ∧ ((decide (((-500) : Int) ≤ p.x.lo)) = false → (.tuple #[.agg #[.int .i64 0, .int .i64 0, .int .i64 0, .int .i64 0], .int .i64 6] : Value) = sp))
theorem EWeather (sp : Value) (p q : Flow) (size : Int) : vF prog msk (dm 0) 100000 true 40 true 24 [.agg #[.int .i64 p.x.lo, .int .i64 p.x.hi, .int .i64 p.y.lo, .int .i64 p.y.hi], .agg #[.int .i64 q.x.lo, .int .i64 q.x.hi, .int .i64 q.y.lo, .int .i64 q.y.hi], .int .i64 size] ⟨0, .leaf⟩ (some [])
  (.go 22 (.gfork (.go 5 (.gfork (.go 11 (.gfork (.go 6 (.gfork (.go 11 (.gfork (.go 6 (.gfork (.go 11 (.gfork (.go 8 (.gfork (.auto) (.go 16 (.gfork (.go 5 (.gfork (.go 11 (.gfork (.go 6 (.gfork (.go 11 (.gfork (.go 6 (.gfork (.go 11 (.gfork (.go 9 (.gfork (.auto) (.go 6 (.gfork (.go 6 (.fork (.auto) (.go 18 (.gfork (.auto) (.go 7 (.fork (.auto) (.go 15 (.gfork (.auto) (.go 7 (.fork (.auto) (.go 24 (.slot 11 (.int .i64 (2 * p.x.lo)) (.go 2 (.slot 14 (.int .i64 ((2 * p.x.lo) + q.x.lo)) (.go 0 (.slot 15 (.int .i64 (((2 * p.x.lo) + q.x.lo) * 3600)) (.go 2 (.slot 18 (.int .i64 (2 * p.x.hi)) (.go 2 (.slot 21 (.int .i64 ((2 * p.x.hi) + q.x.hi)) (.go 0 (.slot 22 (.int .i64 (((2 * p.x.hi) + q.x.hi) * 3600)) (.go 7 (.slot 30 (.int .i64 (0 - (((2 * p.x.hi) + q.x.hi) * 3600))) (.go 0 (.bind (Int) (fun r0 => .ans [] (.int .i64 r0) [] (.go 5 (.bind (Int) (fun r1 => .ans [] (.int .i64 r1) [] (.go 0 (.slot 33 (.int .i64 (0 - r1)) (.go 14 (.slot 11 (.int .i64 (2 * p.y.lo)) (.go 2 (.slot 14 (.int .i64 ((2 * p.y.lo) + q.y.lo)) (.go 0 (.slot 15 (.int .i64 (((2 * p.y.lo) + q.y.lo) * 3600)) (.go 2 (.slot 18 (.int .i64 (2 * p.y.hi)) (.go 2 (.slot 21 (.int .i64 ((2 * p.y.hi) + q.y.hi)) (.go 0 (.slot 22 (.int .i64 (((2 * p.y.hi) + q.y.hi) * 3600)) (.go 7 (.slot 30 (.int .i64 (0 - (((2 * p.y.hi) + q.y.hi) * 3600))) (.go 0 (.bind (Int) (fun r2 => .ans [] (.int .i64 r2) [] (.go 5 (.bind (Int) (fun r3 => .ans [] (.int .i64 r3) [] (.go 0 (.slot 33 (.int .i64 (0 - r3)) (.auto))))))))))))))))))))))))))))))))))))))))))))))))))))))) (.auto))))) (.auto))) (.auto))) (.auto))) (.auto))) (.auto))) (.auto))) (.auto))))) (.auto))) (.auto))) (.auto))) (.auto))) (.auto))) (.auto))) (.auto)))
  (fun v _ _ => v = sp) = RWeather sp p q size := by kernel_rfl
end
end Go.Proofs.Ytkkgnalgmebfjaa
/- Drift: rounding, weather, the ends of a flow. No condition. -/
namespace Go.Proofs.Ytkkgnalgmebfjaa
open Go Go.K
set_option maxRecDepth 100000
set_option linter.unusedVariables false
set_option linter.unusedSimpArgs false
noncomputable section
attribute [local irreducible] vF
theorem tdiv_abs (a b : Int) : -(a.natAbs : Int) ≤ Int.tdiv a b ∧ Int.tdiv a b ≤ a.natAbs := by
  have h1 : (Int.tdiv a b).natAbs ≤ a.natAbs := by rw [Int.natAbs_tdiv]; exact Nat.div_le_self _ _
  omega
theorem tdiv_fl {a b : Int} (hb : 0 < b) : a / b ≤ Int.tdiv a b ∧ Int.tdiv a b ≤ a / b + 1 := by
  have h := tdiv_up (a := a) hb
  split at h <;> omega
theorem tdiv_cl {a b : Int} (hb : 0 < b) : -(-a / b) - 1 ≤ Int.tdiv a b ∧ Int.tdiv a b ≤ -(-a / b) := by
  have h := tdiv_fl (a := -a) hb
  rw [Int.neg_tdiv] at h
  omega
theorem krdown (a b : Int) (hb : 0 < b ∧ b ≤ 1000000000) (ha : -1000000000000 ≤ a ∧ a ≤ 1000000000000) (H : Heap) : KCall prog F.polynyaref02_down [.int .i64 a, .int .i64 b] H [] (Is (.int .i64 (a / b)) H) := by
  refine valK 40 (fun _ => rfl) rfl (Eq.mpr (Erdown _ a b) ?_) H
  unfold Rrdown
  have h1 := tdiv_abs a b
  have h2 := tdiv_fl (a := a) hb.1
  have h3 : (a / b) * b ≤ a := Int.ediv_mul_le a (by omega)
  have h4 : a < (a / b + 1) * b := Int.lt_ediv_add_one_mul_self a hb.1
  have h5 : (a / b + 1) * b = (a / b) * b + b := by rw [Int.add_mul, Int.one_mul]
  refine ⟨by omega, vI64 (by omega), rfl, h2, ?_, fun _ => rfl, ?_⟩
  · repeat' first
      | exact trivial
      | exact rfl
      | exact wk_refl _
      | refine wkO_cells ?_
      | refine wks_cons ?_ ?_
      | exact wks_nil
      | exact wk_nil _ _ _ (.inl rfl)
      | exact wk_Q (by omega)
      | refine wk_tupL ?_
      | refine wk_aggL ?_
      | refine joinMax ?_ ?_ ?_
      | refine joinMin ?_ ?_ ?_
      | refine toMax ?_
      | refine toMin ?_
      | refine ⟨rfl, ?_⟩
      | refine ⟨trivial, ?_⟩
      | refine forkD (fun h => ?_) (fun h => ?_)
      | refine forkNe (fun h => ?_) (fun h => ?_)
      | refine forkEq (fun h => ?_) (fun h => ?_)
      | refine forkNot ?_
      | refine ⟨vI64 (by omega), ?_⟩
      | refine And.intro (by omega) ?_
      | apply And.intro
      | exact iEq (by omega)
      | exact vI64 (by omega)
      | fail
  rintro x ⟨x1, x2⟩
  rcases (by omega : x = a / b ∨ x = a / b + 1) with rfl | rfl
  · refine ⟨vI64 (by omega), forkD (fun k => by omega) (fun k => rfl)⟩
  · refine ⟨vI64 (by omega), forkD (fun k => ⟨vI64 (by omega), a / b + 1 - 1, ⟨by omega, by omega⟩, by omega, rfl, ?_⟩) (fun k => by omega)⟩
    repeat' first
      | exact trivial
      | exact rfl
      | exact wk_refl _
      | refine wkO_cells ?_
      | refine wks_cons ?_ ?_
      | exact wks_nil
      | exact wk_nil _ _ _ (.inl rfl)
      | exact wk_Q (by omega)
      | refine wk_tupL ?_
      | refine wk_aggL ?_
      | refine joinMax ?_ ?_ ?_
      | refine joinMin ?_ ?_ ?_
      | refine toMax ?_
      | refine toMin ?_
      | refine ⟨rfl, ?_⟩
      | refine ⟨trivial, ?_⟩
      | refine forkD (fun h => ?_) (fun h => ?_)
      | refine forkNe (fun h => ?_) (fun h => ?_)
      | refine forkEq (fun h => ?_) (fun h => ?_)
      | refine forkNot ?_
      | refine ⟨vI64 (by omega), ?_⟩
      | refine And.intro (by omega) ?_
      | apply And.intro
      | exact iEq (by omega)
      | exact vI64 (by omega)
      | fail
theorem krup (a b : Int) (hb : 0 < b ∧ b ≤ 1000000000) (ha : -1000000000000 ≤ a ∧ a ≤ 1000000000000) (H : Heap) : KCall prog F.polynyaref02_up [.int .i64 a, .int .i64 b] H [] (Is (.int .i64 (-(-a / b))) H) := by
  refine valK 40 (fun _ => rfl) rfl (Eq.mpr (Erup _ a b) ?_) H
  unfold Rrup
  have h1 := tdiv_abs a b
  have h2 := tdiv_cl (a := a) hb.1
  have h3 : (-a / b) * b ≤ -a := Int.ediv_mul_le (-a) (by omega)
  have h4 : -a < (-a / b + 1) * b := Int.lt_ediv_add_one_mul_self (-a) hb.1
  have h5 : (-a / b + 1) * b = (-a / b) * b + b := by rw [Int.add_mul, Int.one_mul]
  refine ⟨by omega, vI64 (by omega), rfl, h2, ?_, fun _ => rfl, ?_⟩
  · repeat' first
      | exact trivial
      | exact rfl
      | exact wk_refl _
      | refine wkO_cells ?_
      | refine wks_cons ?_ ?_
      | exact wks_nil
      | exact wk_nil _ _ _ (.inl rfl)
      | exact wk_Q (by omega)
      | refine wk_tupL ?_
      | refine wk_aggL ?_
      | refine joinMax ?_ ?_ ?_
      | refine joinMin ?_ ?_ ?_
      | refine toMax ?_
      | refine toMin ?_
      | refine ⟨rfl, ?_⟩
      | refine ⟨trivial, ?_⟩
      | refine forkD (fun h => ?_) (fun h => ?_)
      | refine forkNe (fun h => ?_) (fun h => ?_)
      | refine forkEq (fun h => ?_) (fun h => ?_)
      | refine forkNot ?_
      | refine ⟨vI64 (by omega), ?_⟩
      | refine And.intro (by omega) ?_
      | apply And.intro
      | exact iEq (by omega)
      | exact vI64 (by omega)
      | fail
  rintro x ⟨x1, x2⟩
  rcases (by omega : x = -(-a / b) ∨ x = -(-a / b) - 1) with rfl | rfl
  · have h6 : -(-a / b) * b = -((-a / b) * b) := Int.neg_mul _ _
    refine ⟨vI64 (by omega), forkD (fun k => by omega) (fun k => rfl)⟩
  · have h6 : (-(-a / b) - 1) * b = -((-a / b) * b) - b := by rw [Int.sub_mul, Int.neg_mul, Int.one_mul]
    refine ⟨vI64 (by omega), forkD (fun k => ⟨vI64 (by omega), -(-a / b) - 1 + 1, ⟨by omega, by omega⟩, by omega, rfl, ?_⟩) (fun k => by omega)⟩
    repeat' first
      | exact trivial
      | exact rfl
      | exact wk_refl _
      | refine wkO_cells ?_
      | refine wks_cons ?_ ?_
      | exact wks_nil
      | exact wk_nil _ _ _ (.inl rfl)
      | exact wk_Q (by omega)
      | refine wk_tupL ?_
      | refine wk_aggL ?_
      | refine joinMax ?_ ?_ ?_
      | refine joinMin ?_ ?_ ?_
      | refine toMax ?_
      | refine toMin ?_
      | refine ⟨rfl, ?_⟩
      | refine ⟨trivial, ?_⟩
      | refine forkD (fun h => ?_) (fun h => ?_)
      | refine forkNe (fun h => ?_) (fun h => ?_)
      | refine forkEq (fun h => ?_) (fun h => ?_)
      | refine forkNot ?_
      | refine ⟨vI64 (by omega), ?_⟩
      | refine And.intro (by omega) ?_
      | apply And.intro
      | exact iEq (by omega)
      | exact vI64 (by omega)
      | fail
def inS (s : Span) (n : Int) : Prop := -n ≤ s.lo ∧ s.lo ≤ n ∧ -n ≤ s.hi ∧ s.hi ≤ n
instance (s : Span) (n : Int) : Decidable (inS s n) := by unfold inS; infer_instance
def ordF (f : Flow) : Prop := f.x.lo ≤ f.x.hi ∧ f.y.lo ≤ f.y.hi
instance (f : Flow) : Decidable (ordF f) := by unfold ordF; infer_instance
def cutZ (n : Int) : Int := min (max n (-2000)) 2000
def windS (a b : Span) (size : Int) : Span := ⟨cutZ (((2 * a.lo + b.lo) * 3600) / size), cutZ (-(-((2 * a.hi + b.hi) * 3600) / size))⟩
def windIn (p q : Flow) (size : Int) : Prop := inS p.x 500 ∧ inS p.y 500 ∧ inS q.x 3000 ∧ inS q.y 3000 ∧ 100 ≤ size ∧ size ≤ 100000
instance (p q : Flow) (size : Int) : Decidable (windIn p q size) := by unfold windIn; infer_instance
def weather (p q : Flow) (size : Int) : Flow × Int :=
  if windIn p q size then (if ordF p ∧ ordF q then (⟨windS p.x q.x size, windS p.y q.y size⟩, 0) else (zeroF, 30)) else (zeroF, 6)
theorem weather_6 {p q : Flow} {size : Int} (h : ¬ windIn p q size) : weather p q size = (zeroF, 6) := if_neg h
theorem weather_30 {p q : Flow} {size : Int} (h : windIn p q size) (k : ¬ (ordF p ∧ ordF q)) : weather p q size = (zeroF, 30) := by unfold weather; rw [if_pos h, if_neg k]
theorem weather_0 {p q : Flow} {size : Int} (h : windIn p q size) (k : ordF p ∧ ordF q) : weather p q size = (⟨windS p.x q.x size, windS p.y q.y size⟩, 0) := by unfold weather; rw [if_pos h, if_pos k]
theorem div_bd {x s : Int} (hs : 0 < s) : -(x.natAbs : Int) - 1 ≤ x / s ∧ x / s ≤ x.natAbs := by
  have h1 := tdiv_abs x s
  have h2 := tdiv_fl (a := x) hs
  omega
theorem vDivNeg {x s : Int} (hs : 0 < s) (hx : -1000000000000 ≤ x ∧ x ≤ 1000000000000) : Value.int .i64 (IntKind.wrap .i64 (0 - x / s)) = .int .i64 (0 - x / s) := by
  have := div_bd (x := x) hs
  exact vI64 (by omega)
abbrev weaV (r : Flow × Int) : Value := .tuple #[flowV r.1, .int .i64 r.2]
set_option maxHeartbeats 4000000 in
theorem kWeather (p q : Flow) (size : Int) (H : Heap) : KCall prog F.drift_Weather [flowV p, flowV q, .int .i64 size] H [] (Is (weaV (weather p q size)) H) := by
  refine valK 40 (fun _ => rfl) rfl (Eq.mpr (EWeather _ p q size) ?_) H
  unfold RWeather
  have e6 : ¬ windIn p q size → weaV (zeroF, 6) = weaV (weather p q size) := fun h => by rw [weather_6 h]
  have e30 : windIn p q size → ¬ (ordF p ∧ ordF q) → weaV (zeroF, 30) = weaV (weather p q size) := fun h k => by rw [weather_30 h k]
  have e0 : windIn p q size → ordF p ∧ ordF q → weaV (⟨windS p.x q.x size, windS p.y q.y size⟩, 0) = weaV (weather p q size) := fun h k => by rw [weather_0 h k]
  unfold windIn inS at e6 e30 e0
  unfold ordF at e30 e0
  repeat' first
    | exact e6 (by omega)
    | exact e30 (by omega) (by omega)
    | refine ⟨_, trivial, fun H' _ _ => kfloor _ _ (by omega) (by omega) H', ?_⟩
    | refine ⟨vDivNeg (by omega) (by omega), ?_⟩
    | refine Eq.trans ?_ (e0 (by omega) (by omega))
    | exact trivial
    | exact rfl
    | exact wk_refl _
    | refine wkO_cells ?_
    | refine wks_cons ?_ ?_
    | exact wks_nil
    | exact wk_nil _ _ _ (.inl rfl)
    | exact wk_Q (by omega)
    | refine wk_tupL ?_
    | refine wk_aggL ?_
    | refine joinMax ?_ ?_ ?_
    | refine joinMin ?_ ?_ ?_
    | refine toMax ?_
    | refine toMin ?_
    | refine ⟨rfl, ?_⟩
    | refine ⟨trivial, ?_⟩
    | refine forkD (fun h => ?_) (fun h => ?_)
    | refine forkNe (fun h => ?_) (fun h => ?_)
    | refine forkEq (fun h => ?_) (fun h => ?_)
    | refine forkNot ?_
    | refine ⟨vI64 (by omega), ?_⟩
    | refine And.intro (by omega) ?_
    | apply And.intro
    | exact iEq (by omega)
    | exact vI64 (by omega)
    | fail
  simp only [ite_max, ite_min, Int.zero_sub]; rfl
set_option maxHeartbeats 4000000 in
theorem krWeather (p q : Flow) (size : Int) (H : Heap) : KCall prog F.polynyaref02_Weather [flowV p, flowV q, .int .i64 size] H [] (Is (weaV (weather p q size)) H) := by
  refine valK 40 (fun _ => rfl) rfl (Eq.mpr (ErWeather _ p q size) ?_) H
  unfold RrWeather
  have e6 : ¬ windIn p q size → weaV (zeroF, 6) = weaV (weather p q size) := fun h => by rw [weather_6 h]
  have e30 : windIn p q size → ¬ (ordF p ∧ ordF q) → weaV (zeroF, 30) = weaV (weather p q size) := fun h k => by rw [weather_30 h k]
  have e0 : windIn p q size → ordF p ∧ ordF q → weaV (⟨windS p.x q.x size, windS p.y q.y size⟩, 0) = weaV (weather p q size) := fun h k => by rw [weather_0 h k]
  unfold windIn inS at e6 e30 e0
  unfold ordF at e30 e0
  repeat' first
    | exact e6 (by omega)
    | exact e30 (by omega) (by omega)
    | refine ⟨_, trivial, fun H' _ _ => krdown _ _ (by omega) (by omega) H', ?_⟩
    | refine ⟨_, trivial, fun H' _ _ => krup _ _ (by omega) (by omega) H', ?_⟩
    | refine ⟨_, trivial, fun H' _ _ => krcut _ H', ?_⟩
    | refine Eq.trans ?_ (e0 (by omega) (by omega))
    | exact trivial
    | exact rfl
    | exact wk_refl _
    | refine wkO_cells ?_
    | refine wks_cons ?_ ?_
    | exact wks_nil
    | exact wk_nil _ _ _ (.inl rfl)
    | exact wk_Q (by omega)
    | refine wk_tupL ?_
    | refine wk_aggL ?_
    | refine joinMax ?_ ?_ ?_
    | refine joinMin ?_ ?_ ?_
    | refine toMax ?_
    | refine toMin ?_
    | refine ⟨rfl, ?_⟩
    | refine ⟨trivial, ?_⟩
    | refine forkD (fun h => ?_) (fun h => ?_)
    | refine forkNe (fun h => ?_) (fun h => ?_)
    | refine forkEq (fun h => ?_) (fun h => ?_)
    | refine forkNot ?_
    | refine ⟨vI64 (by omega), ?_⟩
    | refine And.intro (by omega) ?_
    | apply And.intro
    | exact iEq (by omega)
    | exact vI64 (by omega)
    | fail
  simp only [Int.mul_comm 3600]; rfl
def endA (f : Flow) : Move := ⟨f.x.lo / 1000, f.y.lo / 1000⟩
def endZ (f : Flow) : Move := ⟨(f.x.hi + 999) / 1000, (f.y.hi + 999) / 1000⟩
theorem kends (f : Flow) (hf : rightF f) (H : Heap) : KCall prog F.drift_Flow_ends [flowV f] H [] (Is (.tuple #[moveV (endA f), moveV (endZ f)]) H) := by
  refine valK 40 (fun _ => rfl) rfl (Eq.mpr (Eends _ f) ?_) H
  unfold Rends
  obtain ⟨⟨a1, a2, a3⟩, a4, a5, a6⟩ := hf
  refine ⟨_, trivial, fun H' _ _ => kfloor _ _ (by omega) (by omega) H', _, trivial, fun H' _ _ => kfloor _ _ (by omega) (by omega) H', vI64 (by omega), vI64 (by omega), _, trivial, fun H' _ _ => kfloor _ _ (by omega) (by omega) H', vI64 (by omega), vI64 (by omega), _, trivial, fun H' _ _ => kfloor _ _ (by omega) (by omega) H', ?_⟩
  unfold endA endZ
  rw [show f.x.hi + 1000 - 1 = f.x.hi + 999 by omega, show f.y.hi + 1000 - 1 = f.y.hi + 999 by omega]
end
end Go.Proofs.Ytkkgnalgmebfjaa
/- Drift: moves and targets, as lists. No condition. -/
namespace Go.Proofs.Ytkkgnalgmebfjaa
set_option linter.unusedSimpArgs false
set_option linter.unusedVariables false
open Go Go.K
noncomputable section
def errFlow (f : Flow) : Int := if rightF f then 0 else 30
def nxF (f : Flow) : Nat := Int.toNat ((endZ f).dx - (endA f).dx + 1)
def nyF (f : Flow) : Nat := Int.toNat ((endZ f).dy - (endA f).dy + 1)
/-- The first moves of a row. -/
def mvRow (f : Flow) (j n : Nat) : List Move := tabP (fun i => (⟨(endA f).dx + (i : Int), (endA f).dy + (j : Int)⟩ : Move)) n
def mvTo (f : Flow) : Nat → List Move
  | 0 => []
  | j + 1 => mvTo f j ++ mvRow f j (nxF f)
def movesF (f : Flow) : List Move := mvTo f (nyF f)
def mayB (s : Span) (c : Int) : Bool := decide (1000 * c - 999 ≤ s.hi) && decide (s.lo ≤ 1000 * c + 999)
def rvRow (f : Flow) (j n : Nat) : List Move := ((List.range n).filter fun i : Nat => mayB f.x (-2 + (i : Int)) && mayB f.y (-2 + (j : Int))).map fun i : Nat => (⟨-2 + (i : Int), -2 + (j : Int)⟩ : Move)
def rvTo (f : Flow) : Nat → List Move
  | 0 => []
  | j + 1 => rvTo f j ++ rvRow f j 5
def fMoves (f : Flow) : List Move × Int := if rightF f then (movesF f, 0) else ([], 30)
/-- Where a move leads. -/
def targ (w h : Int) (a : List Bool) (c : Int) (m : Move) : Int :=
  if (0 ≤ Int.tmod c w + m.dx ∧ Int.tmod c w + m.dx < w) ∧ (0 ≤ Int.tdiv c w + m.dy ∧ Int.tdiv c w + m.dy < h) ∧ a.getD (Int.toNat ((Int.tdiv c w + m.dy) * w + (Int.tmod c w + m.dx))) false = false then (Int.tdiv c w + m.dy) * w + (Int.tmod c w + m.dx) else c
def tgL (w h : Int) (a : List Bool) (c : Int) (f : Flow) : List Int := (movesF f).map (targ w h a c)
/-- The indices of what is true. -/
def truesTo (l : List Bool) (x : Nat) : List Int := ((List.range x).filter fun i : Nat => l.getD i false).map fun i : Nat => (i : Int)
def truesL (l : List Bool) : List Int := truesTo l l.length
def goesTo (L : List Int) (n x : Nat) : List Bool := tabP (fun i => decide ((i : Int) ∈ L.take x)) n
def goesL (w h : Int) (a : List Bool) (c : Int) (f : Flow) : List Bool := tabP (fun i => decide ((i : Int) ∈ tgL w h a c f)) (Int.toNat (w * h))
def tgts (w h : Int) (a : List Bool) (c : Int) (f : Flow) : List Int := truesL (goesL w h a c f)
def seaB (a : List Bool) (c : Int) : Bool := decide (0 ≤ c ∧ c < (a.length : Int)) && !(a.getD (Int.toNat c) false)
def srtI (L : List Int) : List Int := L.mergeSort fun x y => decide (x ≤ y)
/-- Of numbers beside one another that are alike the first. -/
def comp : List Int → List Int
  | [] => []
  | [x] => [x]
  | x :: y :: r => if x = y then comp (y :: r) else x :: comp (y :: r)
def cmpN (S : List Int) (m : Nat) : Nat := (comp (S.take m)).length
def cmpTo (S : List Int) (m : Nat) : List Int := comp (S.take m) ++ S.drop (cmpN S m)
def padT (L : List Int) : List Int := List.replicate (L.length - (comp (srtI L)).length) 0
def fTargets (w h : Int) (a : List Bool) (l : List Flow) (c : Int) : List Int × Int :=
  if errFlows w h a.length l = 0 then (if seaB a c = true then (tgts w h a c (l.getD (Int.toNat c) zeroF), 0) else ([], 1)) else ([], errFlows w h a.length l)
end
end Go.Proofs.Ytkkgnalgmebfjaa
