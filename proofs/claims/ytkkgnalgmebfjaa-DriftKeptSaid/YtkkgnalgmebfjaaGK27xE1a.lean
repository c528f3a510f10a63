/- Small steps that texts about functions share. No condition. -/
import Derived.Test.YtkkgnalgmebfjaaGV10xV14
import Derived.Test.YtkkgnalgmebfjaaN
import Derived.Shelf.Sort.Plain
import Derived.Ground.Names2Prog
import Derived.Test.YtkkgnalgmebfjaaChecked
import Derived.Sort.Grow
import Derived.Deep.Draws
import Derived.IntWalk
namespace Go.K
set_option linter.unusedSimpArgs false
open Go
set_option linter.unusedVariables false
noncomputable section
theorem forkD {p A B : Prop} [Decidable p] (h1 : p → A) (h2 : ¬ p → B) : (decide p = true → A) ∧ (decide p = false → B) :=
  ⟨fun h => h1 (of_decide_eq_true h), fun h => h2 (of_decide_eq_false h)⟩
theorem forkNe {a b : Int} {A B : Prop} (h1 : a ≠ b → A) (h2 : a = b → B) : ((a != b) = true → A) ∧ ((a != b) = false → B) :=
  ⟨fun h => h1 (by simpa using h), fun h => h2 (by simpa using h)⟩
theorem forkEq {a b : Int} {A B : Prop} (h1 : a = b → A) (h2 : a ≠ b → B) : ((a == b) = true → A) ∧ ((a == b) = false → B) :=
  ⟨fun h => h1 (by simpa using h), fun h => h2 (by simpa using h)⟩
theorem forkNot {b : Bool} {A B : Prop} (h : (b = true → B) ∧ (b = false → A)) : ((!b) = true → A) ∧ ((!b) = false → B) := by
  cases b
  · exact ⟨fun _ => h.2 rfl, fun h => by cases h⟩
  · exact ⟨fun h => (by cases h), fun _ => h.1 rfl⟩
theorem iEq {k : IntKind} {a b : Int} (h : a = b) : (Value.int k a) = .int k b := by rw [h]
theorem bEq {a b : Bool} (h : a = b) : (Value.bool a) = .bool b := by rw [h]
theorem wI64 {n : Int} (h : -9223372036854775808 ≤ n ∧ n ≤ 9223372036854775807) : IntKind.wrap .i64 n = n := IntWalk.i64_in n h
theorem vI64 {n : Int} (h : -9223372036854775808 ≤ n ∧ n ≤ 9223372036854775807) : (Value.int .i64 (IntKind.wrap .i64 n)) = .int .i64 n := by rw [wI64 h]
theorem ite_max (a b : Int) : (if b > a then b else a) = max a b := by split <;> omega
theorem ite_min (a b : Int) : (if b < a then b else a) = min a b := by split <;> omega
theorem toMax {k : IntKind} {a b : Int} {Q : Int → Prop} (h : Q (max a b)) : ∃ y : Int, (Value.int k (if b > a then b else a)) = .int k y ∧ Q y := ⟨max a b, by rw [ite_max], h⟩
theorem toMin {k : IntKind} {a b : Int} {Q : Int → Prop} (h : Q (min a b)) : ∃ y : Int, (Value.int k (if b < a then b else a)) = .int k y ∧ Q y := ⟨min a b, by rw [ite_min], h⟩
/-- Branches that come together: the greater, the less. -/
theorem joinI {c : Bool} {v1 v2 : Int} {S1 S2 R : Int → Prop} (h1 : c = true → S1 v1) (h2 : c = false → S2 v2) (hr : ∀ x, x = (if c = true then v1 else v2) → R x) :
    (true = true ∧ (c = true → ∃ x' : Int, ((c = true ∧ x' = v1 ∧ True) ∨ (c = false ∧ x' = v2 ∧ True)) ∧ S1 x') ∧ (c = false → ∃ x' : Int, ((c = true ∧ x' = v1 ∧ True) ∨ (c = false ∧ x' = v2 ∧ True)) ∧ S2 x') ∧
      ∀ x : Int, ((c = true ∧ x = v1 ∧ True) ∨ (c = false ∧ x = v2 ∧ True)) → R x) := by
  refine ⟨rfl, fun h => ⟨v1, .inl ⟨h, rfl, trivial⟩, h1 h⟩, fun h => ⟨v2, .inr ⟨h, rfl, trivial⟩, h2 h⟩, fun x hx => hr x ?_⟩
  rcases hx with ⟨h, rfl, _⟩ | ⟨h, rfl, _⟩
  · rw [if_pos h]
  · rw [if_neg (by rw [h]; decide)]
theorem joinMax {a b : Int} {S1 S2 R : Int → Prop} (h1 : S1 b) (h2 : S2 a) (hr : R (max a b)) :
    (true = true ∧ (decide (a < b) = true → ∃ x' : Int, ((decide (a < b) = true ∧ x' = b ∧ True) ∨ (decide (a < b) = false ∧ x' = a ∧ True)) ∧ S1 x') ∧ (decide (a < b) = false → ∃ x' : Int, ((decide (a < b) = true ∧ x' = b ∧ True) ∨ (decide (a < b) = false ∧ x' = a ∧ True)) ∧ S2 x') ∧
      ∀ x : Int, ((decide (a < b) = true ∧ x = b ∧ True) ∨ (decide (a < b) = false ∧ x = a ∧ True)) → R x) :=
  joinI (fun _ => h1) (fun _ => h2) fun x hx => by
    have : x = max a b := by rw [hx]; simp only [decide_eq_true_eq]; split <;> omega
    rw [this]; exact hr
theorem joinMin {a b : Int} {S1 S2 R : Int → Prop} (h1 : S1 b) (h2 : S2 a) (hr : R (min a b)) :
    (true = true ∧ (decide (b < a) = true → ∃ x' : Int, ((decide (b < a) = true ∧ x' = b ∧ True) ∨ (decide (b < a) = false ∧ x' = a ∧ True)) ∧ S1 x') ∧ (decide (b < a) = false → ∃ x' : Int, ((decide (b < a) = true ∧ x' = b ∧ True) ∨ (decide (b < a) = false ∧ x' = a ∧ True)) ∧ S2 x') ∧
      ∀ x : Int, ((decide (b < a) = true ∧ x = b ∧ True) ∨ (decide (b < a) = false ∧ x = a ∧ True)) → R x) :=
  joinI (fun _ => h1) (fun _ => h2) fun x hx => by
    have : x = min a b := by rw [hx]; simp only [decide_eq_true_eq]; split <;> omega
    rw [this]; exact hr
theorem wks_cons {a b : Value} {r s : List Value} (h : wk a b) (hr : wks r s) : wks (a :: r) (b :: s) := ⟨h, hr⟩
theorem wks_nil : wks [] [] := trivial
theorem KCall.wkA {P : Program} {f : FuncId} {args args2 : List Value} {H : Heap} {M : List Nat} {Q : Value → Heap → Prop} (h : KCall P f args2 H M Q) (ha : wks args args2) : KCall P f args H M Q :=
  KCall.weakArgs [] (by rw [List.append_nil]; exact h) (wks_spec ha).1 (wks_spec ha).2
end
end Go.K
/- Drift: what all texts share. No condition. -/
namespace Go.Proofs.Ytkkgnalgmebfjaa
set_option linter.unusedSimpArgs false
open Go Go.K
set_option maxRecDepth 100000
set_option linter.unusedVariables false
noncomputable section
def dm (imp : Nat) : Value → MS
  | .func (.func f) _ _ => cond (Nat.testBit imp f) none (some [])
  | .func (.yield _) _ _ => none
  | _ => some []
structure Span where
  lo : Int
  hi : Int
structure Flow where
  x : Span
  y : Span
structure Move where
  dx : Int
  dy : Int
structure Basin where
  w : Int
  h : Int
  land : List Bool
abbrev boolC (b : Bool) : List Value := [.bool b]
abbrev intC (x : Int) : List Value := [.int .i64 x]
abbrev flowC (f : Flow) : List Value := [.int .i64 f.x.lo, .int .i64 f.x.hi, .int .i64 f.y.lo, .int .i64 f.y.hi]
abbrev moveC (m : Move) : List Value := [.int .i64 m.dx, .int .i64 m.dy]
abbrev flowV (f : Flow) : Value := .agg ⟨flowC f⟩
abbrev moveV (m : Move) : Value := .agg ⟨moveC m⟩
def zeroF : Flow := ⟨⟨0, 0⟩, ⟨0, 0⟩⟩
def zeroM : Move := ⟨0, 0⟩
/-- A basin whose land lies in a block. -/
abbrev basV (w h : Int) (id n : Nat) : Value := .agg #[.int .i64 w, .int .i64 h, .slice (some ⟨id, 0, some 2⟩) n n]
/-- A list by its indices. -/
def tabP {α : Type} (f : Nat → α) (n : Nat) : List α := (List.range n).map f
theorem tabP_len {α : Type} (f : Nat → α) (n : Nat) : (tabP f n).length = n := by simp [tabP]
theorem tabP_succ {α : Type} (f : Nat → α) (n : Nat) : tabP f (n + 1) = tabP f n ++ [f n] := by simp [tabP, List.range_succ]
def first2 (e f : Int) : Int := if e = 0 then f else e
theorem first2_1 {e f : Int} (h : ¬ e = 0) : first2 e f = e := if_neg h
theorem first2_2 {e f : Int} (h : e = 0) : first2 e f = f := if_pos h
/-- A call's answer that is a value alone. -/
theorem valK {f : FuncId} {args : List Value} {h : Hint} {v : Value} (n : Nat) (hargs : ∀ σ, args.map (rn σ 5) = args) (hv : belowV 0 v = true)
    (hc : vF prog msk (dm 0) 100000 true n true f args ⟨0, .leaf⟩ (some []) h (fun v' _ _ => v' = v)) (H : Heap) : KCall prog f args H [] (Is v H) :=
  vcP mskOk mixed n hargs hv (by rw [glob0]; exact hc) H (by rw [glob0]; exact Nat.zero_le _)
theorem valR {f : FuncId} {args : List Value} {css : List (List Value)} {h : Hint} {v : Value} (hc : vF prog msk (dm 0) 100000 true 40 true f args (readsT 0 css) (some []) h (fun v' _ _ => v' = v)) (hcss : ∀ cs ∈ css, cs.all (belowC 0) = true) (hv : belowV 0 v = true)
    {H : Heap} (ids : List Nat) (hl : ids.length = css.length) (hids : ∀ (k : Nat) (cs : List Value), css[k]? = some cs → ∃ id own z, ids[k]? = some id ∧ H[id]? = some (KObj.cells own z cs)) :
    KCall prog f (args.map (rn (sgR 0 ids) 5)) H [] (Is v H) := by
  have := vcR0 (H := H) mskOk mixed 40 (v := v) hcss (by rw [glob0]; exact hc) hv ids hl hids
  rw [glob0] at this; exact this
theorem valN {f : FuncId} {args : List Value} {css : List (List Value)} {h : Hint} {v : Value} {new : List (Bool × KObj)} (hc : vF prog msk (dm 0) 100000 true 40 true f args (readsT 0 css) (some []) h (newK (readsT 0 css).n 3 v new)) (hcss : ∀ cs ∈ css, cs.all (belowC 0) = true)
    (hv : rnOk 3 v = true) (hv2 : rn (sgOnly (0 + css.length)) 3 v = v) (hn : (new.map (·.2)).all (fun o => rnoOk 3 o && o.owned) = true) (hn2 : (new.map (·.2)).map (rno (sgOnly (0 + css.length)) 3) = new.map (·.2))
    {H : Heap} (ids : List Nat) (hl : ids.length = css.length) (hids : ∀ (k : Nat) (cs : List Value), css[k]? = some cs → ∃ id own z, ids[k]? = some id ∧ H[id]? = some (KObj.cells own z cs)) :
    KCall prog f (args.map (rn (sgR 0 ids) 3)) H [] (Is (rn (sgUp (0 + css.length) H.length) 3 v) (H ++ (new.map (·.2)).map (rno (sgUp (0 + css.length) H.length) 3))) := by
  have := vcR (H := H) mskOk mixed 40 (v := v) (new := new) hcss (by rw [glob0]; exact hc) hv (by rw [glob0]; exact hv2) hn (by rw [glob0]; exact hn2) ids hl hids
  rw [glob0] at this; exact this
theorem one_id {H : Heap} {id : Nat} {own : Bool} {z : Nat} {cs : List Value} (hid : H[id]? = some (.cells own z cs)) : ∀ (k : Nat) (c : List Value), [cs][k]? = some c → ∃ id' own z, [id][k]? = some id' ∧ H[id']? = some (KObj.cells own z c) := by
  intro k c h
  match k with
  | 0 => cases h; exact ⟨id, own, z, rfl, hid⟩
theorem one_cs {cs : List Value} (h : cs.all (belowC 0) = true) : ∀ c ∈ [cs], c.all (belowC 0) = true := by intro c hc; rw [List.mem_singleton.1 hc]; exact h
theorem twoId {H : Heap} {id id2 : Nat} {own own2 : Bool} {z z2 : Nat} {cs ds : List Value} (h1 : H[id]? = some (.cells own z cs)) (h2 : H[id2]? = some (.cells own2 z2 ds)) : ∀ (k : Nat) (c : List Value), [cs, ds][k]? = some c → ∃ id' own z, [id, id2][k]? = some id' ∧ H[id']? = some (KObj.cells own z c) := by
  intro k c h
  match k with
  | 0 => cases h; exact ⟨id, own, z, rfl, h1⟩
  | 1 => cases h; exact ⟨id2, own2, z2, rfl, h2⟩
theorem twoCs {cs ds : List Value} (h1 : cs.all (belowC 0) = true) (h2 : ds.all (belowC 0) = true) : ∀ c ∈ [cs, ds], c.all (belowC 0) = true := by
  intro c hc
  rcases List.mem_cons.1 hc with rfl | hc
  · exact h1
  · rw [List.mem_singleton.1 hc]; exact h2
end
end Go.Proofs.Ytkkgnalgmebfjaa
/- Drift: basins and flows: what functions answer. No condition. -/
namespace Go.Proofs.Ytkkgnalgmebfjaa
set_option linter.unusedSimpArgs false
set_option linter.unusedVariables false
open Go Go.K
noncomputable section
def rightS (s : Span) (n : Int) : Prop := -n ≤ s.lo ∧ s.lo ≤ s.hi ∧ s.hi ≤ n
instance (s : Span) (n : Int) : Decidable (rightS s n) := by unfold rightS; infer_instance
def rightF (f : Flow) : Prop := rightS f.x 2000 ∧ rightS f.y 2000
instance (f : Flow) : Decidable (rightF f) := by unfold rightF; infer_instance
/-- The first error of flows. -/
def errF : List Flow → Int
  | [] => 0
  | f :: r => if rightF f then errF r else 30
def errBas (w h : Int) (n : Nat) : Int := if (1 ≤ w ∧ w ≤ 64) ∧ (1 ≤ h ∧ h ≤ 64) ∧ w * h ≤ 1024 then (if (n : Int) = w * h then 0 else 1) else 6
def errFlows (w h : Int) (n : Nat) (l : List Flow) : Int := first2 (errBas w h n) (if l.length = n then errF l else 1)
end
end Go.Proofs.Ytkkgnalgmebfjaa
/- What is to be shown of functions. Printed by a program. No condition. -/
namespace Go.Proofs.Ytkkgnalgmebfjaa
set_option linter.unusedSimpArgs false
open Go Go.K
set_option maxRecDepth 100000
set_option maxHeartbeats 4000000
set_option linter.unusedVariables false
noncomputable section
def RCheckBasin (sp : Value) (w h : Int) (a : List Bool) : Prop :=
  (((decide ((1 : Int) ≤ w)) = true → (((!(decide ((w : Int) ≤ 64))) = true → (.int .i64 6 : Value) = sp) ∧ ((!(decide ((w : Int) ≤ 64))) = false → (((decide ((1 : Int) ≤ h)) = true → (((!(decide ((h : Int) ≤ 64))) = true → (.int .i64 6 : Value) = sp) ∧ ((!(decide ((h : Int) ≤ 64))) = false → ((.int .i64 (IntKind.wrap .i64 (w * h)) : Value) = .int .i64 (w * h) ∧ (((decide ((1024 : Int) < (w * h))) = true → (.int .i64 6 : Value) = sp) ∧ ((decide ((1024 : Int) < (w * h))) = false → ((.int .i64 (IntKind.wrap .i64 (w * h)) : Value) = .int .i64 (w * h) ∧ (((((((List.length a) : Nat) : Int) : Int) != (w * h)) = true → (.int .i64 1 : Value) = sp) ∧ ((((((List.length a) : Nat) : Int) : Int) != (w * h)) = false → (.int .i64 0 : Value) = sp))))))))) ∧ ((decide ((1 : Int) ≤ h)) = false → (.int .i64 6 : Value) = sp))))) ∧ ((decide ((1 : Int) ≤ w)) = false → (.int .i64 6 : Value) = sp))
theorem ECheckBasin (sp : Value) (w h : Int) (a : List Bool) : vF prog msk (dm 0) 100000 true 40 true 20 [.agg #[.int .i64 w, .int .i64 h, .slice (some ⟨0, 0, some 2⟩) (List.length a) (List.length a)]] (readsT 0 [a.flatMap boolC]) (some [])
  (.go 9 (.gfork (.go 6 (.gfork (.auto) (.go 7 (.gfork (.go 7 (.gfork (.auto) (.go 4 (.slot 19 (.int .i64 (w * h)) (.go 2 (.fork (.auto) (.go 7 (.slot 30 (.int .i64 (w * h)) (.go 1 (.fork (.auto) (.auto))))))))))) (.auto))))) (.auto)))
  (fun v _ _ => v = sp) = RCheckBasin sp w h a := by kernel_rfl
def RCheckFlows (sp : Value) (w h : Int) (a : List Bool) (l : List Flow) : Prop :=
  (∃ r0 : Int, (((some (.cells false 0 (List.flatMap boolC a) : KObj) = some (.cells false 0 (List.flatMap boolC a) : KObj)) ∧ True) ∧ (∀ H' : Heap, H'.length = 3 → (H'[0]? = some (.cells false 0 (List.flatMap boolC a) : KObj) ∧ True) → KCall prog 20 [.agg #[.int .i64 w, .int .i64 h, .slice (some ⟨0, 0, some 2⟩) (List.length a) (List.length a)]] H' [] (Is (.int .i64 r0) H')) ∧ ((((r0 : Int) != 0) = true → (.int .i64 r0 : Value) = sp) ∧ (((r0 : Int) != 0) = false → (((((((List.length l) : Nat) : Int) : Int) != (((List.length a) : Nat) : Int)) = true → (.int .i64 1 : Value) = sp) ∧ ((((((List.length l) : Nat) : Int) : Int) != (((List.length a) : Nat) : Int)) = false → (true = true ∧ (0 ≤ List.length l ∧ sp = .int .i64 (errF (List.drop 0 l))) ∧ (true = true ∧ ((.int .i64 0 : Value) = .int .i64 ((0 : Nat) : Int) ∧ wk (.slice (some ⟨1, 0, some 2⟩) (List.length l) (List.length l) : Value) (.slice (some ⟨1, 0, some 2⟩) (List.length l) (List.length l) : Value) ∧ (.int .i64 (((List.length l) : Nat) : Int) : Value) = .int .i64 (((List.length l) : Nat) : Int) ∧ True) ∧ ((some (.cells true 0 [.int .i64 w, .int .i64 h, .slice (some ⟨0, 0, some 2⟩) (List.length a) (List.length a)] : KObj) = some (.cells true 0 [.int .i64 w, .int .i64 h, .slice (some ⟨0, 0, some 2⟩) (List.length a) (List.length a)] : KObj) ∧ belowO 3 (.cells true 0 [.int .i64 w, .int .i64 h, .slice (some ⟨0, 0, some 2⟩) (List.length a) (List.length a)] : KObj) = true) ∧ True) ∧ (True) ∧ (True)) ∧ (∀ x1 : Nat, true = true) ∧ ∀ x1 : Nat, (x1 ≤ List.length l ∧ sp = .int .i64 (errF (List.drop x1 l))) → (((decide ((((x1 : Nat) : Int) : Int) < (((List.length l) : Nat) : Int))) = true → (((0 : Int) ≤ ((x1 : Nat) : Int) ∧ (((x1 : Nat) : Int) : Int) < (((List.length l) : Nat) : Int)) ∧ ((partA 4 (List.flatMap flowC l) (0 + Int.toNat ((x1 : Nat) : Int) * 4) = some (.agg #[.int .i64 (List.getD l x1 zeroF).x.lo, .int .i64 (List.getD l x1 zeroF).x.hi, .int .i64 (List.getD l x1 zeroF).y.lo, .int .i64 (List.getD l x1 zeroF).y.hi])) ∧ (((decide (((-2000) : Int) ≤ (List.getD l x1 zeroF).x.lo)) = true → (((decide (((List.getD l x1 zeroF).x.lo : Int) ≤ 2000)) = true → (((decide (((List.getD l x1 zeroF).x.lo : Int) ≤ (List.getD l x1 zeroF).x.hi)) = true → (((!(decide (((List.getD l x1 zeroF).x.hi : Int) ≤ 2000))) = true → (.int .i64 30 : Value) = sp) ∧ ((!(decide (((List.getD l x1 zeroF).x.hi : Int) ≤ 2000))) = false → (((decide (((-2000) : Int) ≤ (List.getD l x1 zeroF).y.lo)) = true → (((decide (((List.getD l x1 zeroF).y.lo : Int) ≤ 2000)) = true → (((decide (((List.getD l x1 zeroF).y.lo : Int) ≤ (List.getD l x1 zeroF).y.hi)) = true → (((!(decide (((List.getD l x1 zeroF).y.hi : Int) ≤ 2000))) = true → (.int .i64 30 : Value) = sp) ∧ ((!(decide (((List.getD l x1 zeroF).y.hi : Int) ≤ 2000))) = false → ((.int .i64 (IntKind.wrap .i64 (((x1 : Nat) : Int) + 1)) : Value) = .int .i64 (((x1 : Nat) : Int) + 1) ∧ (∃ x1' : Nat, (x1' ≤ List.length l ∧ sp = .int .i64 (errF (List.drop x1' l))) ∧ (List.length l - x1') < (List.length l - x1) ∧ true = true ∧ ((.int .i64 (((x1 : Nat) : Int) + 1) : Value) = .int .i64 ((x1' : Nat) : Int) ∧ wk (.slice (some ⟨1, 0, some 2⟩) (List.length l) (List.length l) : Value) (.slice (some ⟨1, 0, some 2⟩) (List.length l) (List.length l) : Value) ∧ (.int .i64 (((List.length l) : Nat) : Int) : Value) = .int .i64 (((List.length l) : Nat) : Int) ∧ True) ∧ ((some (.cells true 0 [.int .i64 w, .int .i64 h, .slice (some ⟨0, 0, some 2⟩) (List.length a) (List.length a)] : KObj) = some (.cells true 0 [.int .i64 w, .int .i64 h, .slice (some ⟨0, 0, some 2⟩) (List.length a) (List.length a)] : KObj) ∧ belowO 3 (.cells true 0 [.int .i64 w, .int .i64 h, .slice (some ⟨0, 0, some 2⟩) (List.length a) (List.length a)] : KObj) = true) ∧ True) ∧ (True) ∧ (True)))))) ∧ ((decide (((List.getD l x1 zeroF).y.lo : Int) ≤ (List.getD l x1 zeroF).y.hi)) = false → (.int .i64 30 : Value) = sp))) ∧ ((decide (((List.getD l x1 zeroF).y.lo : Int) ≤ 2000)) = false → (.int .i64 30 : Value) = sp))) ∧ ((decide (((-2000) : Int) ≤ (List.getD l x1 zeroF).y.lo)) = false → (.int .i64 30 : Value) = sp))))) ∧ ((decide (((List.getD l x1 zeroF).x.lo : Int) ≤ (List.getD l x1 zeroF).x.hi)) = false → (.int .i64 30 : Value) = sp))) ∧ ((decide (((List.getD l x1 zeroF).x.lo : Int) ≤ 2000)) = false → (.int .i64 30 : Value) = sp))) ∧ ((decide (((-2000) : Int) ≤ (List.getD l x1 zeroF).x.lo)) = false → (.int .i64 30 : Value) = sp))))) ∧ ((decide ((((x1 : Nat) : Int) : Int) < (((List.length l) : Nat) : Int))) = false → (.int .i64 0 : Value) = sp)))))))))
theorem ECheckFlows (sp : Value) (w h : Int) (a : List Bool) (l : List Flow) : vF prog msk (dm 0) 100000 true 40 true 22 [.agg #[.int .i64 w, .int .i64 h, .slice (some ⟨0, 0, some 2⟩) (List.length a) (List.length a)], .slice (some ⟨1, 0, some 2⟩) (List.length l) (List.length l)] (readsT 0 [a.flatMap boolC, l.flatMap flowC]) (some [])
  (.go 2 (.bind (Int) (fun r0 => .ans [(0, .cells false 0 (List.flatMap boolC a))] (.int .i64 r0) [] (.go 2 (.fork (.auto) (.go 5 (.fork (.auto) (.go 2 (.inv 3 (Nat) (0) [] [2] (fun x1 => [(22, .int .i64 ((x1 : Nat) : Int)), (20, .slice (some ⟨1, 0, some 2⟩) (List.length l) (List.length l)), (21, .int .i64 (((List.length l) : Nat) : Int))]) (fun x1 => [(2, true, .cells true 0 [.int .i64 w, .int .i64 h, .slice (some ⟨0, 0, some 2⟩) (List.length a) (List.length a)])]) (fun x1 => []) (fun x1 => []) (fun x1 => (x1 ≤ List.length l ∧ sp = .int .i64 (errF (List.drop x1 l)))) (fun x1 => (List.length l - x1)) (fun x1 => .go 0 (.fork (.need (.val (.agg #[.int .i64 (List.getD l x1 zeroF).x.lo, .int .i64 (List.getD l x1 zeroF).x.hi, .int .i64 (List.getD l x1 zeroF).y.lo, .int .i64 (List.getD l x1 zeroF).y.hi]) (.go 21 (.gfork (.go 5 (.gfork (.go 10 (.gfork (.go 8 (.gfork (.auto) (.go 15 (.gfork (.go 5 (.gfork (.go 10 (.gfork (.go 8 (.fork (.auto) (.go 5 (.slot 31 (.int .i64 (((x1 : Nat) : Int) + 1)) (.go 0 (.again [])))))) (.auto))) (.auto))) (.auto))))) (.auto))) (.auto))) (.auto))))) (.auto))))))))))))
  (fun v _ _ => v = sp) = RCheckFlows sp w h a l := by kernel_rfl
def Rfloor (sp : Value) (a b : Int) : Prop :=
  (((b : Int) ≠ 0) ∧ ((.int .i64 (IntKind.wrap .i64 (Int.tdiv a b)) : Value) = .int .i64 (Int.tdiv a b) ∧ (((b : Int) ≠ 0) ∧ (((decide (((Int.tmod a b) : Int) < 0)) = true → ((.int .i64 (IntKind.wrap .i64 ((Int.tdiv a b) - 1)) : Value) = .int .i64 ((Int.tdiv a b) - 1) ∧ (.int .i64 ((Int.tdiv a b) - 1) : Value) = sp)) ∧ ((decide (((Int.tmod a b) : Int) < 0)) = false → (.int .i64 (Int.tdiv a b) : Value) = sp)))))
theorem Efloor (sp : Value) (a b : Int) : vF prog msk (dm 0) 100000 true 40 true 71 [.int .i64 a, .int .i64 b] ⟨0, .leaf⟩ (some [])
  (.go 2 (.need (.slot 8 (.int .i64 (Int.tdiv a b)) (.go 2 (.need (.go 0 (.fork (.go 1 (.slot 14 (.int .i64 ((Int.tdiv a b) - 1)) (.auto))) (.auto))))))))
  (fun v _ _ => v = sp) = Rfloor sp a b := by kernel_rfl
def Rends (sp : Value) (f : Flow) : Prop :=
  (∃ r0 : Int, ((True) ∧ (∀ H' : Heap, H'.length = 5 → (True) → KCall prog 71 [.int .i64 f.x.lo, .int .i64 1000] H' [] (Is (.int .i64 r0) H')) ∧ (∃ r1 : Int, ((True) ∧ (∀ H' : Heap, H'.length = 5 → (True) → KCall prog 71 [.int .i64 f.y.lo, .int .i64 1000] H' [] (Is (.int .i64 r1) H')) ∧ ((.int .i64 (IntKind.wrap .i64 (f.x.hi + 1000)) : Value) = .int .i64 (f.x.hi + 1000) ∧ ((.int .i64 (IntKind.wrap .i64 ((f.x.hi + 1000) - 1)) : Value) = .int .i64 ((f.x.hi + 1000) - 1) ∧ (∃ r2 : Int, ((True) ∧ (∀ H' : Heap, H'.length = 5 → (True) → KCall prog 71 [.int .i64 ((f.x.hi + 1000) - 1), .int .i64 1000] H' [] (Is (.int .i64 r2) H')) ∧ ((.int .i64 (IntKind.wrap .i64 (f.y.hi + 1000)) : Value) = .int .i64 (f.y.hi + 1000) ∧ ((.int .i64 (IntKind.wrap .i64 ((f.y.hi + 1000) - 1)) : Value) = .int .i64 ((f.y.hi + 1000) - 1) ∧ (∃ r3 : Int, ((True) ∧ (∀ H' : Heap, H'.length = 5 → (True) → KCall prog 71 [.int .i64 ((f.y.hi + 1000) - 1), .int .i64 1000] H' [] (Is (.int .i64 r3) H')) ∧ (.tuple #[.agg #[.int .i64 r0, .int .i64 r1], .agg #[.int .i64 r2, .int .i64 r3]] : Value) = sp))))))))))))
theorem Eends (sp : Value) (f : Flow) : vF prog msk (dm 0) 100000 true 40 true 58 [.agg #[.int .i64 f.x.lo, .int .i64 f.x.hi, .int .i64 f.y.lo, .int .i64 f.y.hi]] ⟨0, .leaf⟩ (some [])
  (.go 23 (.bind (Int) (fun r0 => .ans [] (.int .i64 r0) [] (.go 5 (.bind (Int) (fun r1 => .ans [] (.int .i64 r1) [] (.go 24 (.slot 5 (.int .i64 (f.x.hi + 1000)) (.go 0 (.slot 6 (.int .i64 ((f.x.hi + 1000) - 1)) (.bind (Int) (fun r2 => .ans [] (.int .i64 r2) [] (.go 6 (.slot 5 (.int .i64 (f.y.hi + 1000)) (.go 0 (.slot 6 (.int .i64 ((f.y.hi + 1000) - 1)) (.bind (Int) (fun r3 => .ans [] (.int .i64 r3) [] (.auto)))))))))))))))))))
  (fun v _ _ => v = sp) = Rends sp f := by kernel_rfl
end
end Go.Proofs.Ytkkgnalgmebfjaa
/- Drift: basins, flows, weather: what they answer. No condition. -/
namespace Go.Proofs.Ytkkgnalgmebfjaa
open Go Go.K
set_option maxRecDepth 100000
set_option linter.unusedVariables false
set_option linter.unusedSimpArgs false
noncomputable section
attribute [local irreducible] vF
theorem plainBL (n : Nat) (l : List Bool) : (l.flatMap boolC).all (belowC n) = true := plain_flat (fun _ => rfl) l
theorem plainFL (n : Nat) (l : List Flow) : (l.flatMap flowC).all (belowC n) = true := plain_flat (fun _ => rfl) l
theorem flowC_len (f : Flow) : (flowC f).length = 4 := rfl
theorem partFlow {l : List Flow} {x : Nat} (h : x < l.length) : partA 4 (l.flatMap flowC) (0 + Int.toNat ((x : Nat) : Int) * 4) = some (.agg ⟨flowC (l.getD x zeroF)⟩) :=
  part_at (n := 4) (d := zeroF) (c := 0) flowC_len h (by omega) (by omega)
theorem mul_bd {w h : Int} (a : 1 ≤ w ∧ w ≤ 64) (b : 1 ≤ h ∧ h ≤ 64) : 1 ≤ w * h ∧ w * h ≤ 4096 := by
  have h1 : 1 * 1 ≤ w * h := Int.mul_le_mul a.1 b.1 (by omega) (by omega)
  have h2 : w * h ≤ 64 * 64 := Int.mul_le_mul a.2 b.2 (by omega) (by omega)
  omega
theorem kCheckBasin (w h : Int) (a : List Bool) {H : Heap} {id : Nat} {own : Bool} {z : Nat} (hid : H[id]? = some (.cells own z (a.flatMap boolC))) :
    KCall prog F.drift_CheckBasin [basV w h id a.length] H [] (Is (.int .i64 (errBas w h a.length)) H) := by
  refine valR (css := [a.flatMap boolC]) (v := .int .i64 (errBas w h a.length)) (Eq.mpr (ECheckBasin _ w h a) ?_) (one_cs (plainBL 0 a)) rfl [id] rfl (one_id hid)
  unfold RCheckBasin errBas
  obtain ⟨p, hp⟩ : ∃ p, w * h = p := ⟨_, rfl⟩
  have hb := fun a b => hp ▸ mul_bd (w := w) (h := h) a b
  simp only [hp]
  repeat' first | (exact iEq (by split <;> (try split) <;> omega)) | exact trivial | exact rfl | exact wk_refl _ | refine wkO_cells ?_ | refine wks_cons ?_ ?_ | exact wks_nil | exact wk_nil _ _ _ (.inl rfl) | (exact wk_Q (by omega)) | refine wk_tupL ?_ | refine wk_aggL ?_ | refine joinMax ?_ ?_ ?_ | refine joinMin ?_ ?_ ?_ | refine toMax ?_ | refine toMin ?_ | refine ⟨rfl, ?_⟩ | refine ⟨trivial, ?_⟩ | (refine forkD (fun h => ?_) (fun h => ?_)) | (refine forkNe (fun h => ?_) (fun h => ?_)) | (refine forkEq (fun h => ?_) (fun h => ?_)) | refine forkNot ?_ | (refine ⟨vI64 (by omega), ?_⟩) | (refine And.intro (by omega) ?_) | apply And.intro | (exact iEq (by omega)) | (exact vI64 (by omega))
theorem errBas_0 {w h : Int} {n : Nat} (e : errBas w h n = 0) : (1 ≤ w ∧ w ≤ 64) ∧ (1 ≤ h ∧ h ≤ 64) ∧ w * h ≤ 1024 ∧ (n : Int) = w * h := by
  unfold errBas at e
  split at e
  · rename_i g; split at e
    · rename_i k; exact ⟨g.1, g.2.1, g.2.2, k⟩
    · omega
  · omega
theorem errF_drop {l : List Flow} {x : Nat} (h : x < l.length) : errF (l.drop x) = if rightF (l.getD x zeroF) then errF (l.drop (x + 1)) else 30 := by
  have : l.drop x = l.getD x zeroF :: l.drop (x + 1) := by rw [List.drop_eq_getElem_cons h, List.getD_eq_getElem?_getD, List.getElem?_eq_getElem h]; rfl
  rw [this]; rfl
theorem errF_1 {l : List Flow} {x : Nat} (h : x < l.length) (k : rightF (l.getD x zeroF)) : errF (l.drop x) = errF (l.drop (x + 1)) := by rw [errF_drop h, if_pos k]
theorem errF_2 {l : List Flow} {x : Nat} (h : x < l.length) (k : ¬ rightF (l.getD x zeroF)) : errF (l.drop x) = 30 := by rw [errF_drop h, if_neg k]
theorem flw_cs (a : List Bool) (l : List Flow) : ∀ c ∈ [a.flatMap boolC, l.flatMap flowC], c.all (belowC 0) = true := twoCs (plainBL 0 a) (plainFL 0 l)
theorem kCheckFlows (w h : Int) (a : List Bool) (l : List Flow) (hl : l.length ≤ 4294967296) {H : Heap} {id id2 : Nat} {own own2 : Bool} {z z2 : Nat} (hid : H[id]? = some (.cells own z (a.flatMap boolC))) (hid2 : H[id2]? = some (.cells own2 z2 (l.flatMap flowC))) :
    KCall prog F.drift_CheckFlows [basV w h id a.length, .slice (some ⟨id2, 0, some 2⟩) l.length l.length] H [] (Is (.int .i64 (errFlows w h a.length l)) H) := by
  refine valR (css := [a.flatMap boolC, l.flatMap flowC]) (v := .int .i64 (errFlows w h a.length l)) (Eq.mpr (ECheckFlows _ w h a l) ?_) (flw_cs a l) rfl [id, id2] rfl (twoId hid hid2)
  unfold RCheckFlows
  refine ⟨_, ⟨rfl, trivial⟩, fun H' _ hd => kCheckBasin w h a hd.1, forkNe (fun h0 => iEq (first2_1 h0).symm) (fun h0 => forkNe (fun h1 => iEq ((first2_2 h0).trans (if_neg (by omega))).symm) (fun h1 => ?_))⟩
  refine ⟨rfl, ⟨Nat.zero_le _, iEq ((first2_2 h0).trans (if_pos (by omega)))⟩, ?_, fun _ => rfl, ?_⟩
  · repeat' first | exact trivial | exact rfl | exact wk_refl _ | refine wkO_cells ?_ | refine wks_cons ?_ ?_ | exact wks_nil | exact wk_nil _ _ _ (.inl rfl) | (exact wk_Q (by omega)) | refine wk_tupL ?_ | refine wk_aggL ?_ | refine joinMax ?_ ?_ ?_ | refine joinMin ?_ ?_ ?_ | refine toMax ?_ | refine toMin ?_ | refine ⟨rfl, ?_⟩ | refine ⟨trivial, ?_⟩ | (refine forkD (fun h => ?_) (fun h => ?_)) | (refine forkNe (fun h => ?_) (fun h => ?_)) | (refine forkEq (fun h => ?_) (fun h => ?_)) | refine forkNot ?_ | (refine ⟨vI64 (by omega), ?_⟩) | (refine And.intro (by omega) ?_) | apply And.intro | (exact iEq (by omega)) | (exact vI64 (by omega))
  rintro x ⟨hx, hs⟩
  refine forkD (fun k => ?_) (fun k => ?_)
  · have hlt : x < l.length := by omega
    refine ⟨by omega, partFlow hlt, ?_⟩
    have e1 := errF_1 hlt
    have e2 := errF_2 hlt
    unfold rightF rightS at e1 e2
    repeat' first | (exact (iEq (e2 (by omega)).symm).trans hs.symm) | (refine ⟨x + 1, ⟨by omega, hs.trans (iEq (e1 (by omega)))⟩, by omega, rfl, ?_⟩) | exact trivial | exact rfl | exact wk_refl _ | refine wkO_cells ?_ | refine wks_cons ?_ ?_ | exact wks_nil | exact wk_nil _ _ _ (.inl rfl) | (exact wk_Q (by omega)) | refine wk_tupL ?_ | refine wk_aggL ?_ | refine joinMax ?_ ?_ ?_ | refine joinMin ?_ ?_ ?_ | refine toMax ?_ | refine toMin ?_ | refine ⟨rfl, ?_⟩ | refine ⟨trivial, ?_⟩ | (refine forkD (fun h => ?_) (fun h => ?_)) | (refine forkNe (fun h => ?_) (fun h => ?_)) | (refine forkEq (fun h => ?_) (fun h => ?_)) | refine forkNot ?_ | (refine ⟨vI64 (by omega), ?_⟩) | (refine And.intro (by omega) ?_) | apply And.intro | (exact iEq (by omega)) | (exact vI64 (by omega))
  · obtain rfl : x = l.length := by omega
    rw [hs, List.drop_length]; rfl
theorem tdiv_up {a b : Int} (hb : 0 < b) : Int.tdiv a b = if Int.tmod a b < 0 then a / b + 1 else a / b := by
  have h1 := Int.tdiv_eq_ediv (a := a) (b := b)
  have h2 := Int.tmod_eq_emod (a := a) (b := b)
  have h3 := Int.emod_nonneg a (b := b) (by omega)
  have h4 := Int.emod_lt_of_pos a hb
  have hs : b.sign = 1 := Int.sign_eq_one_of_pos hb
  have hn : b.natAbs = b := by omega
  rw [h1]
  by_cases q : 0 ≤ a ∨ b ∣ a
  · rw [if_pos q] at h2 ⊢
    rw [h2, if_neg (by omega)]; omega
  · rw [if_neg q] at h2 ⊢
    rw [h2, if_pos (by omega), hs]
theorem kfloor (a b : Int) (hb : 0 < b) (ha : -9223372036854775807 ≤ a ∧ a ≤ 9223372036854775807) (H : Heap) : KCall prog F.drift_floor [.int .i64 a, .int .i64 b] H [] (Is (.int .i64 (a / b)) H) := by
  refine valK 40 (fun _ => rfl) rfl (Eq.mpr (Efloor _ a b) ?_) H
  unfold Rfloor
  have h := tdiv_up (a := a) hb
  have h1 : (Int.tdiv a b).natAbs ≤ a.natAbs := by rw [Int.natAbs_tdiv]; exact Nat.div_le_self _ _
  have hq : -9223372036854775808 ≤ Int.tdiv a b - 1 ∧ Int.tdiv a b ≤ 9223372036854775807 := by
    omega
  refine ⟨by omega, vI64 (by omega), by omega, forkD (fun k => ?_) (fun k => ?_)⟩
  · rw [if_pos k] at h
    exact ⟨vI64 (by omega), iEq (by omega)⟩
  · rw [if_neg k] at h
    exact iEq (by omega)
end
end Go.Proofs.Ytkkgnalgmebfjaa
/- Drift: rounding, weather, the ends of a flow. No condition. -/
namespace Go.Proofs.Ytkkgnalgmebfjaa
open Go Go.K
set_option maxRecDepth 100000
set_option linter.unusedVariables false
set_option linter.unusedSimpArgs false
noncomputable section
attribute [local irreducible] vF
def inS (s : Span) (n : Int) : Prop := -n ≤ s.lo ∧ s.lo ≤ n ∧ -n ≤ s.hi ∧ s.hi ≤ n
instance (s : Span) (n : Int) : Decidable (inS s n) := by unfold inS; infer_instance
def ordF (f : Flow) : Prop := f.x.lo ≤ f.x.hi ∧ f.y.lo ≤ f.y.hi
instance (f : Flow) : Decidable (ordF f) := by unfold ordF; infer_instance
def windIn (p q : Flow) (size : Int) : Prop := inS p.x 500 ∧ inS p.y 500 ∧ inS q.x 3000 ∧ inS q.y 3000 ∧ 100 ≤ size ∧ size ≤ 100000
instance (p q : Flow) (size : Int) : Decidable (windIn p q size) := by unfold windIn; infer_instance
def endA (f : Flow) : Move := ⟨f.x.lo / 1000, f.y.lo / 1000⟩
def endZ (f : Flow) : Move := ⟨(f.x.hi + 999) / 1000, (f.y.hi + 999) / 1000⟩
theorem kends (f : Flow) (hf : rightF f) (H : Heap) : KCall prog F.drift_Flow_ends [flowV f] H [] (Is (.tuple #[moveV (endA f), moveV (endZ f)]) H) := by
  refine valK 40 (fun _ => rfl) rfl (Eq.mpr (Eends _ f) ?_) H
  unfold Rends
  obtain ⟨⟨a1, a2, a3⟩, a4, a5, a6⟩ := hf
  refine ⟨_, trivial, fun H' _ _ => kfloor _ _ (by omega) (by omega) H', _, trivial, fun H' _ _ => kfloor _ _ (by omega) (by omega) H', vI64 (by omega), vI64 (by omega), _, trivial, fun H' _ _ => kfloor _ _ (by omega) (by omega) H', vI64 (by omega), vI64 (by omega), _, trivial, fun H' _ _ => kfloor _ _ (by omega) (by omega) H', ?_⟩
  unfold endA endZ
  rw [show f.x.hi + 1000 - 1 = f.x.hi + 999 by omega, show f.y.hi + 1000 - 1 = f.y.hi + 999 by omega]
end
end Go.Proofs.Ytkkgnalgmebfjaa
/- Drift: moves and targets, as lists. No condition. -/
namespace Go.Proofs.Ytkkgnalgmebfjaa
set_option linter.unusedSimpArgs false
set_option linter.unusedVariables false
open Go Go.K
noncomputable section
def nxF (f : Flow) : Nat := Int.toNat ((endZ f).dx - (endA f).dx + 1)
def nyF (f : Flow) : Nat := Int.toNat ((endZ f).dy - (endA f).dy + 1)
/-- The first moves of a row. -/
def mvRow (f : Flow) (j n : Nat) : List Move := tabP (fun i => (⟨(endA f).dx + (i : Int), (endA f).dy + (j : Int)⟩ : Move)) n
def mvTo (f : Flow) : Nat → List Move
  | 0 => []
  | j + 1 => mvTo f j ++ mvRow f j (nxF f)
def movesF (f : Flow) : List Move := mvTo f (nyF f)
def fMoves (f : Flow) : List Move × Int := if rightF f then (movesF f, 0) else ([], 30)
/-- Where a move leads. -/
def targ (w h : Int) (a : List Bool) (c : Int) (m : Move) : Int :=
  if (0 ≤ Int.tmod c w + m.dx ∧ Int.tmod c w + m.dx < w) ∧ (0 ≤ Int.tdiv c w + m.dy ∧ Int.tdiv c w + m.dy < h) ∧ a.getD (Int.toNat ((Int.tdiv c w + m.dy) * w + (Int.tmod c w + m.dx))) false = false then (Int.tdiv c w + m.dy) * w + (Int.tmod c w + m.dx) else c
def seaB (a : List Bool) (c : Int) : Bool := decide (0 ≤ c ∧ c < (a.length : Int)) && !(a.getD (Int.toNat c) false)
end
end Go.Proofs.Ytkkgnalgmebfjaa
/- What is to be shown of functions. Printed by a program. No condition. -/
namespace Go.Proofs.Ytkkgnalgmebfjaa
set_option linter.unusedSimpArgs false
open Go Go.K
set_option maxRecDepth 100000
set_option maxHeartbeats 4000000
set_option linter.unusedVariables false
noncomputable section
def Rmoves (f : Flow) : Prop :=
  ((True) ∧ (∀ H' : Heap, H'.length = 1 → (True) → KCall prog 58 [.agg #[.int .i64 f.x.lo, .int .i64 f.x.hi, .int .i64 f.y.lo, .int .i64 f.y.hi]] H' [] (Is (.tuple #[.agg #[.int .i64 (endA f).dx, .int .i64 (endA f).dy], .agg #[.int .i64 (endZ f).dx, .int .i64 (endZ f).dy]]) H')) ∧ (true = true ∧ (0 ≤ nyF f) ∧ (true = true ∧ ((.int .i64 (endA f).dy : Value) = .int .i64 ((endA f).dy + ((0 : Nat) : Int)) ∧ wk (.slice none 0 0 : Value) (.slice (some ⟨0, 0, some 1⟩) (List.length (mvTo f 0)) (List.length (mvTo f 0)) : Value) ∧ (.slice none 0 0 : Value) = .slice none 0 0 ∧ (.pointer (some ⟨1, 0, none⟩) : Value) = .pointer (some ⟨1, 0, none⟩) ∧ (.pointer (some ⟨2, 0, none⟩) : Value) = .pointer (some ⟨2, 0, none⟩) ∧ True) ∧ ((some (.cells true 0 [.int .i64 f.x.lo, .int .i64 f.x.hi, .int .i64 f.y.lo, .int .i64 f.y.hi] : KObj) = some (.cells true 0 [.int .i64 f.x.lo, .int .i64 f.x.hi, .int .i64 f.y.lo, .int .i64 f.y.hi] : KObj) ∧ belowO 3 (.cells true 0 [.int .i64 f.x.lo, .int .i64 f.x.hi, .int .i64 f.y.lo, .int .i64 f.y.hi] : KObj) = true) ∧ (some (.cells true 0 [.int .i64 (endA f).dx, .int .i64 (endA f).dy] : KObj) = some (.cells true 0 [.int .i64 (endA f).dx, .int .i64 (endA f).dy] : KObj) ∧ belowO 3 (.cells true 0 [.int .i64 (endA f).dx, .int .i64 (endA f).dy] : KObj) = true) ∧ (some (.cells true 0 [.int .i64 (endZ f).dx, .int .i64 (endZ f).dy] : KObj) = some (.cells true 0 [.int .i64 (endZ f).dx, .int .i64 (endZ f).dy] : KObj) ∧ belowO 3 (.cells true 0 [.int .i64 (endZ f).dx, .int .i64 (endZ f).dy] : KObj) = true) ∧ True) ∧ (True ∧ True) ∧ (True)) ∧ (∀ x1 : Nat, true = true) ∧ ∀ x1 : Nat, (x1 ≤ nyF f) → (((decide ((((endA f).dy + ((x1 : Nat) : Int)) : Int) ≤ (endZ f).dy)) = true → (true = true ∧ (0 ≤ nxF f) ∧ (true = true ∧ ((.int .i64 (endA f).dx : Value) = .int .i64 ((endA f).dx + ((0 : Nat) : Int)) ∧ wk (.slice (some ⟨3, 0, some 1⟩) (List.length (mvTo f x1)) (List.length (mvTo f x1)) : Value) (.slice (some ⟨3, 0, some 1⟩) (List.length (mvTo f x1 ++ mvRow f x1 0)) (List.length (mvTo f x1 ++ mvRow f x1 0)) : Value) ∧ (.pointer (some ⟨2, 0, none⟩) : Value) = .pointer (some ⟨2, 0, none⟩) ∧ (.pointer (some ⟨1, 0, none⟩) : Value) = .pointer (some ⟨1, 0, none⟩) ∧ (.slice none 0 0 : Value) = .slice none 0 0 ∧ (.int .i64 ((endA f).dy + ((x1 : Nat) : Int)) : Value) = .int .i64 ((endA f).dy + ((x1 : Nat) : Int)) ∧ True) ∧ (True ∧ (some (.cells true 0 [.int .i64 (endA f).dx, .int .i64 (endA f).dy] : KObj) = some (.cells true 0 [.int .i64 (endA f).dx, .int .i64 (endA f).dy] : KObj) ∧ belowO 4 (.cells true 0 [.int .i64 (endA f).dx, .int .i64 (endA f).dy] : KObj) = true) ∧ (some (.cells true 0 [.int .i64 (endZ f).dx, .int .i64 (endZ f).dy] : KObj) = some (.cells true 0 [.int .i64 (endZ f).dx, .int .i64 (endZ f).dy] : KObj) ∧ belowO 4 (.cells true 0 [.int .i64 (endZ f).dx, .int .i64 (endZ f).dy] : KObj) = true) ∧ True) ∧ ((some (.cells true 2 (List.flatMap moveC (mvTo f x1)) : KObj) = some (.cells true 2 (List.flatMap moveC (mvTo f x1 ++ mvRow f x1 0)) : KObj) ∧ belowO 4 (.cells true 2 (List.flatMap moveC (mvTo f x1 ++ mvRow f x1 0)) : KObj) = true) ∧ True) ∧ (True)) ∧ (∀ x2 : Nat, true = true) ∧ ∀ x2 : Nat, (x2 ≤ nxF f) → (((decide ((((endA f).dx + ((x2 : Nat) : Int)) : Int) ≤ (endZ f).dx)) = true → ((((List.length (mvTo f x1 ++ mvRow f x1 x2)) + 1) * 16 ≤ 2 ^ 44 ∧ 1 ≠ 0 ∧ ((List.length (mvTo f x1 ++ mvRow f x1 x2)) ≤ (List.length (mvTo f x1 ++ mvRow f x1 x2)) ∧ 0 + (List.length (mvTo f x1 ++ mvRow f x1 x2)) * 2 ≤ List.length (List.flatMap moveC (mvTo f x1 ++ mvRow f x1 x2))) ∧ (1 ≤ 1 ∧ 0 + 1 * 2 ≤ List.length ([.int .i64 ((endA f).dx + ((x2 : Nat) : Int)), .int .i64 ((endA f).dy + ((x1 : Nat) : Int))] : List Value)) ∧ ((List.take (1 * 2) (List.drop 0 ([.int .i64 ((endA f).dx + ((x2 : Nat) : Int)), .int .i64 ((endA f).dy + ((x1 : Nat) : Int))] : List Value))) : List Value).all (fun v => one1 v) = true) ∧ true = true ∧ ((.int .i64 (IntKind.wrap .i64 (((endA f).dx + ((x2 : Nat) : Int)) + 1)) : Value) = .int .i64 (((endA f).dx + ((x2 : Nat) : Int)) + 1) ∧ (∃ x2' : Nat, (x2' ≤ nxF f) ∧ (nxF f - x2') < (nxF f - x2) ∧ true = true ∧ ((.int .i64 (((endA f).dx + ((x2 : Nat) : Int)) + 1) : Value) = .int .i64 ((endA f).dx + ((x2' : Nat) : Int)) ∧ wk (.slice (some ⟨6, 0, none⟩) ((List.length (mvTo f x1 ++ mvRow f x1 x2)) + 1) ((List.length (mvTo f x1 ++ mvRow f x1 x2)) + 1) : Value) (.slice (some ⟨6, 0, some 1⟩) (List.length (mvTo f x1 ++ mvRow f x1 x2')) (List.length (mvTo f x1 ++ mvRow f x1 x2')) : Value) ∧ (.pointer (some ⟨2, 0, none⟩) : Value) = .pointer (some ⟨2, 0, none⟩) ∧ (.pointer (some ⟨1, 0, none⟩) : Value) = .pointer (some ⟨1, 0, none⟩) ∧ (.slice none 0 0 : Value) = .slice none 0 0 ∧ (.int .i64 ((endA f).dy + ((x1 : Nat) : Int)) : Value) = .int .i64 ((endA f).dy + ((x1 : Nat) : Int)) ∧ True) ∧ (True ∧ (some (.cells true 0 [.int .i64 (endA f).dx, .int .i64 (endA f).dy] : KObj) = some (.cells true 0 [.int .i64 (endA f).dx, .int .i64 (endA f).dy] : KObj) ∧ belowO 4 (.cells true 0 [.int .i64 (endA f).dx, .int .i64 (endA f).dy] : KObj) = true) ∧ (some (.cells true 0 [.int .i64 (endZ f).dx, .int .i64 (endZ f).dy] : KObj) = some (.cells true 0 [.int .i64 (endZ f).dx, .int .i64 (endZ f).dy] : KObj) ∧ belowO 4 (.cells true 0 [.int .i64 (endZ f).dx, .int .i64 (endZ f).dy] : KObj) = true) ∧ True) ∧ ((some (.cells true 2 ((List.take ((List.length (mvTo f x1 ++ mvRow f x1 x2)) * 2) (List.drop 0 (List.flatMap moveC (mvTo f x1 ++ mvRow f x1 x2)))) ++ (List.take (1 * 2) (List.drop 0 ([.int .i64 ((endA f).dx + ((x2 : Nat) : Int)), .int .i64 ((endA f).dy + ((x1 : Nat) : Int))] : List Value)))) : KObj) = some (.cells true 2 (List.flatMap moveC (mvTo f x1 ++ mvRow f x1 x2')) : KObj) ∧ belowO 4 (.cells true 2 (List.flatMap moveC (mvTo f x1 ++ mvRow f x1 x2')) : KObj) = true) ∧ True) ∧ (True))))) ∧ ((decide ((((endA f).dx + ((x2 : Nat) : Int)) : Int) ≤ (endZ f).dx)) = false → ((.int .i64 (IntKind.wrap .i64 (((endA f).dy + ((x1 : Nat) : Int)) + 1)) : Value) = .int .i64 (((endA f).dy + ((x1 : Nat) : Int)) + 1) ∧ (∃ x1' : Nat, (x1' ≤ nyF f) ∧ (nyF f - x1') < (nyF f - x1) ∧ true = true ∧ ((.int .i64 (((endA f).dy + ((x1 : Nat) : Int)) + 1) : Value) = .int .i64 ((endA f).dy + ((x1' : Nat) : Int)) ∧ wk (.slice (some ⟨4, 0, some 1⟩) (List.length (mvTo f x1 ++ mvRow f x1 x2)) (List.length (mvTo f x1 ++ mvRow f x1 x2)) : Value) (.slice (some ⟨4, 0, some 1⟩) (List.length (mvTo f x1')) (List.length (mvTo f x1')) : Value) ∧ (.slice none 0 0 : Value) = .slice none 0 0 ∧ (.pointer (some ⟨1, 0, none⟩) : Value) = .pointer (some ⟨1, 0, none⟩) ∧ (.pointer (some ⟨2, 0, none⟩) : Value) = .pointer (some ⟨2, 0, none⟩) ∧ True) ∧ ((some (.cells true 0 [.int .i64 f.x.lo, .int .i64 f.x.hi, .int .i64 f.y.lo, .int .i64 f.y.hi] : KObj) = some (.cells true 0 [.int .i64 f.x.lo, .int .i64 f.x.hi, .int .i64 f.y.lo, .int .i64 f.y.hi] : KObj) ∧ belowO 3 (.cells true 0 [.int .i64 f.x.lo, .int .i64 f.x.hi, .int .i64 f.y.lo, .int .i64 f.y.hi] : KObj) = true) ∧ (some (.cells true 0 [.int .i64 (endA f).dx, .int .i64 (endA f).dy] : KObj) = some (.cells true 0 [.int .i64 (endA f).dx, .int .i64 (endA f).dy] : KObj) ∧ belowO 3 (.cells true 0 [.int .i64 (endA f).dx, .int .i64 (endA f).dy] : KObj) = true) ∧ (some (.cells true 0 [.int .i64 (endZ f).dx, .int .i64 (endZ f).dy] : KObj) = some (.cells true 0 [.int .i64 (endZ f).dx, .int .i64 (endZ f).dy] : KObj) ∧ belowO 3 (.cells true 0 [.int .i64 (endZ f).dx, .int .i64 (endZ f).dy] : KObj) = true) ∧ True) ∧ ((some (.cells true 2 (List.flatMap moveC (mvTo f x1 ++ mvRow f x1 x2)) : KObj) = some (.cells true 2 (List.flatMap moveC (mvTo f x1')) : KObj) ∧ belowO 3 (.cells true 2 (List.flatMap moveC (mvTo f x1')) : KObj) = true) ∧ True) ∧ (True))))))) ∧ ((decide ((((endA f).dy + ((x1 : Nat) : Int)) : Int) ≤ (endZ f).dy)) = false → (true = true ∧ wk (.slice (some ⟨3, 0, some 1⟩) (List.length (mvTo f x1)) (List.length (mvTo f x1)) : Value) (rn (sg 0 [(0, 3)]) 3 (.slice (some ⟨0, 0, some 1⟩) (List.length (movesF f)) (List.length (movesF f)) : Value)) ∧ ((some (.cells true 2 (List.flatMap moveC (mvTo f x1)) : KObj) = some (.cells true 2 (List.flatMap moveC (movesF f)) : KObj) ∧ belowO 0 (.cells true 2 (List.flatMap moveC (movesF f)) : KObj) = true) ∧ True))))))
theorem Emoves (f : Flow) : vF prog msk (dm 0) 100000 true 40 true 76 [.agg #[.int .i64 f.x.lo, .int .i64 f.x.hi, .int .i64 f.y.lo, .int .i64 f.y.hi]] ⟨0, .leaf⟩ (some [])
  (.go 2 (.ans [] (.tuple #[.agg #[.int .i64 (endA f).dx, .int .i64 (endA f).dy], .agg #[.int .i64 (endZ f).dx, .int .i64 (endZ f).dy]]) [] (.go 10 (.inv 3 (Nat) (0) [] [0, 1, 2] (fun x1 => [(6, .int .i64 ((endA f).dy + ((x1 : Nat) : Int))), (5, .slice (some ⟨3, 0, some 1⟩) (List.length (mvTo f x1)) (List.length (mvTo f x1))), (2, .slice none 0 0), (3, .pointer (some ⟨1, 0, none⟩)), (4, .pointer (some ⟨2, 0, none⟩))]) (fun x1 => [(0, true, .cells true 0 [.int .i64 f.x.lo, .int .i64 f.x.hi, .int .i64 f.y.lo, .int .i64 f.y.hi]), (1, true, .cells true 0 [.int .i64 (endA f).dx, .int .i64 (endA f).dy]), (2, true, .cells true 0 [.int .i64 (endZ f).dx, .int .i64 (endZ f).dy])]) (fun x1 => [(true, .cells true 2 (List.flatMap moveC (mvTo f x1)))]) (fun x1 => []) (fun x1 => (x1 ≤ nyF f)) (fun x1 => (nyF f - x1)) (fun x1 => .go 3 (.fork (.go 2 (.inv 3 (Nat) (0) [(4, 3)] [3, 1, 2] (fun x2 => [(7, .int .i64 ((endA f).dx + ((x2 : Nat) : Int))), (5, .slice (some ⟨4, 0, some 1⟩) (List.length (mvTo f x1 ++ mvRow f x1 x2)) (List.length (mvTo f x1 ++ mvRow f x1 x2))), (4, .pointer (some ⟨2, 0, none⟩)), (3, .pointer (some ⟨1, 0, none⟩)), (2, .slice none 0 0), (6, .int .i64 ((endA f).dy + ((x1 : Nat) : Int)))]) (fun x2 => [(3, false, .dead), (1, true, .cells true 0 [.int .i64 (endA f).dx, .int .i64 (endA f).dy]), (2, true, .cells true 0 [.int .i64 (endZ f).dx, .int .i64 (endZ f).dy])]) (fun x2 => [(true, .cells true 2 (List.flatMap moveC (mvTo f x1 ++ mvRow f x1 x2)))]) (fun x2 => []) (fun x2 => (x2 ≤ nxF f)) (fun x2 => (nxF f - x2)) (fun x2 => .go 3 (.fork (.go 4 (.need (.go 2 (.slot 28 (.int .i64 (((endA f).dx + ((x2 : Nat) : Int)) + 1)) (.go 0 (.again [(4, 6)])))))) (.go 1 (.slot 20 (.int .i64 (((endA f).dy + ((x1 : Nat) : Int)) + 1)) (.go 0 (.again [(3, 4)])))))))) (.go 1 (.again [(0, 3)]))))))))
  (newK (⟨0, .leaf⟩ : HT).n 3 (.slice (some ⟨0, 0, some 1⟩) (List.length (movesF f)) (List.length (movesF f))) [(true, .cells true 2 (List.flatMap moveC (movesF f)))]) = Rmoves f := by kernel_rfl
def RMoves (f : Flow) : Prop :=
  (((decide (((-2000) : Int) ≤ f.x.lo)) = true → (((decide ((f.x.lo : Int) ≤ 2000)) = true → (((decide ((f.x.lo : Int) ≤ f.x.hi)) = true → (((!(decide ((f.x.hi : Int) ≤ 2000))) = true → (true = true ∧ wk (.tuple #[.slice none 0 0, .int .i64 30] : Value) (rn (sg 0 []) 3 (.tuple #[.slice (some ⟨0, 0, some 1⟩) (List.length (fMoves f).1) (List.length (fMoves f).1), .int .i64 (fMoves f).2] : Value)) ∧ (True ∧ True))) ∧ ((!(decide ((f.x.hi : Int) ≤ 2000))) = false → (((decide (((-2000) : Int) ≤ f.y.lo)) = true → (((decide ((f.y.lo : Int) ≤ 2000)) = true → (((decide ((f.y.lo : Int) ≤ f.y.hi)) = true → (((!(decide ((f.y.hi : Int) ≤ 2000))) = true → (true = true ∧ wk (.tuple #[.slice none 0 0, .int .i64 30] : Value) (rn (sg 0 []) 3 (.tuple #[.slice (some ⟨0, 0, some 1⟩) (List.length (fMoves f).1) (List.length (fMoves f).1), .int .i64 (fMoves f).2] : Value)) ∧ (True ∧ True))) ∧ ((!(decide ((f.y.hi : Int) ≤ 2000))) = false → ((True) ∧ (∀ H' : Heap, H'.length = 1 → (True) → KCall prog 76 [.agg #[.int .i64 f.x.lo, .int .i64 f.x.hi, .int .i64 f.y.lo, .int .i64 f.y.hi]] H' [] (Is (.slice (some ⟨1, 0, some 1⟩) (List.length (movesF f)) (List.length (movesF f))) (H' ++ [(.cells true 2 (List.flatMap moveC (movesF f)) : KObj)]))) ∧ (true = true ∧ wk (.tuple #[.slice (some ⟨1, 0, some 1⟩) (List.length (movesF f)) (List.length (movesF f)), .int .i64 0] : Value) (rn (sg 0 [(0, 1)]) 3 (.tuple #[.slice (some ⟨0, 0, some 1⟩) (List.length (fMoves f).1) (List.length (fMoves f).1), .int .i64 (fMoves f).2] : Value)) ∧ ((some (.cells true 2 (List.flatMap moveC (movesF f)) : KObj) = some (.cells true 2 (List.flatMap moveC (fMoves f).1) : KObj) ∧ belowO 0 (.cells true 2 (List.flatMap moveC (fMoves f).1) : KObj) = true) ∧ True)))))) ∧ ((decide ((f.y.lo : Int) ≤ f.y.hi)) = false → (true = true ∧ wk (.tuple #[.slice none 0 0, .int .i64 30] : Value) (rn (sg 0 []) 3 (.tuple #[.slice (some ⟨0, 0, some 1⟩) (List.length (fMoves f).1) (List.length (fMoves f).1), .int .i64 (fMoves f).2] : Value)) ∧ (True ∧ True))))) ∧ ((decide ((f.y.lo : Int) ≤ 2000)) = false → (true = true ∧ wk (.tuple #[.slice none 0 0, .int .i64 30] : Value) (rn (sg 0 []) 3 (.tuple #[.slice (some ⟨0, 0, some 1⟩) (List.length (fMoves f).1) (List.length (fMoves f).1), .int .i64 (fMoves f).2] : Value)) ∧ (True ∧ True))))) ∧ ((decide (((-2000) : Int) ≤ f.y.lo)) = false → (true = true ∧ wk (.tuple #[.slice none 0 0, .int .i64 30] : Value) (rn (sg 0 []) 3 (.tuple #[.slice (some ⟨0, 0, some 1⟩) (List.length (fMoves f).1) (List.length (fMoves f).1), .int .i64 (fMoves f).2] : Value)) ∧ (True ∧ True))))))) ∧ ((decide ((f.x.lo : Int) ≤ f.x.hi)) = false → (true = true ∧ wk (.tuple #[.slice none 0 0, .int .i64 30] : Value) (rn (sg 0 []) 3 (.tuple #[.slice (some ⟨0, 0, some 1⟩) (List.length (fMoves f).1) (List.length (fMoves f).1), .int .i64 (fMoves f).2] : Value)) ∧ (True ∧ True))))) ∧ ((decide ((f.x.lo : Int) ≤ 2000)) = false → (true = true ∧ wk (.tuple #[.slice none 0 0, .int .i64 30] : Value) (rn (sg 0 []) 3 (.tuple #[.slice (some ⟨0, 0, some 1⟩) (List.length (fMoves f).1) (List.length (fMoves f).1), .int .i64 (fMoves f).2] : Value)) ∧ (True ∧ True))))) ∧ ((decide (((-2000) : Int) ≤ f.x.lo)) = false → (true = true ∧ wk (.tuple #[.slice none 0 0, .int .i64 30] : Value) (rn (sg 0 []) 3 (.tuple #[.slice (some ⟨0, 0, some 1⟩) (List.length (fMoves f).1) (List.length (fMoves f).1), .int .i64 (fMoves f).2] : Value)) ∧ (True ∧ True))))
theorem EMoves (f : Flow) : vF prog msk (dm 0) 100000 true 40 true 26 [.agg #[.int .i64 f.x.lo, .int .i64 f.x.hi, .int .i64 f.y.lo, .int .i64 f.y.hi]] ⟨0, .leaf⟩ (some [])
  (.go 22 (.gfork (.go 5 (.gfork (.go 10 (.gfork (.go 8 (.gfork (.go 9 (.again [])) (.go 15 (.gfork (.go 5 (.gfork (.go 10 (.gfork (.go 8 (.fork (.go 7 (.again [])) (.go 5 (.ans [] (.slice (some ⟨1, 0, some 1⟩) (List.length (movesF f)) (List.length (movesF f))) [.cells true 2 (List.flatMap moveC (movesF f))] (.go 1 (.again [(0, 1)])))))) (.go 14 (.again [])))) (.go 12 (.again [])))) (.go 15 (.again [])))))) (.go 15 (.again [])))) (.go 13 (.again [])))) (.go 16 (.again []))))
  (newK (⟨0, .leaf⟩ : HT).n 3 (.tuple #[.slice (some ⟨0, 0, some 1⟩) (List.length (fMoves f).1) (List.length (fMoves f).1), .int .i64 (fMoves f).2]) [(true, .cells true 2 (List.flatMap moveC (fMoves f).1))]) = RMoves f := by kernel_rfl
def Rtarget (sp : Value) (w h : Int) (a : List Bool) (c : Int) (m : Move) : Prop :=
  (((w : Int) ≠ 0) ∧ ((.int .i64 (IntKind.wrap .i64 ((Int.tmod c w) + m.dx)) : Value) = .int .i64 ((Int.tmod c w) + m.dx) ∧ (((w : Int) ≠ 0) ∧ ((.int .i64 (IntKind.wrap .i64 (Int.tdiv c w)) : Value) = .int .i64 (Int.tdiv c w) ∧ ((.int .i64 (IntKind.wrap .i64 ((Int.tdiv c w) + m.dy)) : Value) = .int .i64 ((Int.tdiv c w) + m.dy) ∧ ((.int .i64 (IntKind.wrap .i64 (w - 1)) : Value) = .int .i64 (w - 1) ∧ (((decide ((0 : Int) ≤ ((Int.tmod c w) + m.dx))) = true → (((!(decide ((((Int.tmod c w) + m.dx) : Int) ≤ (w - 1)))) = true → (.int .i64 c : Value) = sp) ∧ ((!(decide ((((Int.tmod c w) + m.dx) : Int) ≤ (w - 1)))) = false → ((.int .i64 (IntKind.wrap .i64 (h - 1)) : Value) = .int .i64 (h - 1) ∧ (((decide ((0 : Int) ≤ ((Int.tdiv c w) + m.dy))) = true → (((!(decide ((((Int.tdiv c w) + m.dy) : Int) ≤ (h - 1)))) = true → (.int .i64 c : Value) = sp) ∧ ((!(decide ((((Int.tdiv c w) + m.dy) : Int) ≤ (h - 1)))) = false → ((.int .i64 (IntKind.wrap .i64 (((Int.tdiv c w) + m.dy) * w)) : Value) = .int .i64 (((Int.tdiv c w) + m.dy) * w) ∧ ((.int .i64 (IntKind.wrap .i64 ((((Int.tdiv c w) + m.dy) * w) + ((Int.tmod c w) + m.dx))) : Value) = .int .i64 ((((Int.tdiv c w) + m.dy) * w) + ((Int.tmod c w) + m.dx)) ∧ (∃ y0 : Int, (.int .i64 ((((Int.tdiv c w) + m.dy) * w) + ((Int.tmod c w) + m.dx)) : Value) = .int .i64 y0 ∧ (((0 : Int) ≤ y0 ∧ (y0 : Int) < (((List.length a) : Nat) : Int)) ∧ (((List.flatMap boolC a)[(0 + Int.toNat y0 * 1)]? = some (.bool (List.getD a (Int.toNat y0) false))) ∧ (((List.getD a (Int.toNat y0) false) = true → (.int .i64 c : Value) = sp) ∧ ((List.getD a (Int.toNat y0) false) = false → ((.int .i64 (IntKind.wrap .i64 (((Int.tdiv c w) + m.dy) * w)) : Value) = .int .i64 (((Int.tdiv c w) + m.dy) * w) ∧ ((.int .i64 (IntKind.wrap .i64 ((((Int.tdiv c w) + m.dy) * w) + ((Int.tmod c w) + m.dx))) : Value) = .int .i64 ((((Int.tdiv c w) + m.dy) * w) + ((Int.tmod c w) + m.dx)) ∧ (∃ y1 : Int, (.int .i64 ((((Int.tdiv c w) + m.dy) * w) + ((Int.tmod c w) + m.dx)) : Value) = .int .i64 y1 ∧ (.int .i64 y1 : Value) = sp))))))))))))) ∧ ((decide ((0 : Int) ≤ ((Int.tdiv c w) + m.dy))) = false → (.int .i64 c : Value) = sp)))))) ∧ ((decide ((0 : Int) ≤ ((Int.tmod c w) + m.dx))) = false → (.int .i64 c : Value) = sp))))))))
theorem Etarget (sp : Value) (w h : Int) (a : List Bool) (c : Int) (m : Move) : vF prog msk (dm 0) 100000 true 40 true 63 [.agg #[.int .i64 w, .int .i64 h, .slice (some ⟨0, 0, some 2⟩) (List.length a) (List.length a)], .int .i64 c, .agg #[.int .i64 m.dx, .int .i64 m.dy]] (readsT 0 [a.flatMap boolC]) (some [])
  (.go 6 (.need (.go 2 (.slot 16 (.int .i64 ((Int.tmod c w) + m.dx)) (.go 3 (.need (.slot 21 (.int .i64 (Int.tdiv c w)) (.go 2 (.slot 24 (.int .i64 ((Int.tdiv c w) + m.dy)) (.go 6 (.slot 29 (.int .i64 (w - 1)) (.go 5 (.gfork (.go 6 (.gfork (.auto) (.go 4 (.slot 37 (.int .i64 (h - 1)) (.go 5 (.gfork (.go 7 (.gfork (.auto) (.go 7 (.slot 49 (.int .i64 (((Int.tdiv c w) + m.dy) * w)) (.go 1 (.slot 51 (.int .i64 ((((Int.tdiv c w) + m.dy) * w) + ((Int.tmod c w) + m.dx))) (.bind Int (fun y0 => .slot 51 (.int .i64 y0) (.need (.val (.bool (List.getD a (Int.toNat y0) false)) (.go 0 (.fork (.auto) (.go 4 (.slot 60 (.int .i64 (((Int.tdiv c w) + m.dy) * w)) (.go 1 (.slot 62 (.int .i64 ((((Int.tdiv c w) + m.dy) * w) + ((Int.tmod c w) + m.dx))) (.bind Int (fun y1 => .slot 62 (.int .i64 y1) (.auto))))))))))))))))))) (.auto))))))) (.auto))))))))))))))
  (fun v _ _ => v = sp) = Rtarget sp w h a c m := by kernel_rfl
def Ris (sp : Value) (w h : Int) (a : List Bool) (c : Int) : Prop :=
  ((.int .i64 (IntKind.wrap .i64 ((((List.length a) : Nat) : Int) - 1)) : Value) = .int .i64 ((((List.length a) : Nat) : Int) - 1) ∧ (((decide ((0 : Int) ≤ c)) = true → (((decide ((c : Int) ≤ ((((List.length a) : Nat) : Int) - 1))) = true → (((0 : Int) ≤ c ∧ (c : Int) < (((List.length a) : Nat) : Int)) ∧ (((List.flatMap boolC a)[(0 + Int.toNat c * 1)]? = some (.bool (List.getD a (Int.toNat c) false))) ∧ (.bool (!(List.getD a (Int.toNat c) false)) : Value) = sp))) ∧ ((decide ((c : Int) ≤ ((((List.length a) : Nat) : Int) - 1))) = false → (.bool false : Value) = sp))) ∧ ((decide ((0 : Int) ≤ c)) = false → (.bool false : Value) = sp)))
theorem Eis (sp : Value) (w h : Int) (a : List Bool) (c : Int) : vF prog msk (dm 0) 100000 true 40 true 62 [.agg #[.int .i64 w, .int .i64 h, .slice (some ⟨0, 0, some 2⟩) (List.length a) (List.length a)], .int .i64 c] (readsT 0 [a.flatMap boolC]) (some [])
  (.go 7 (.slot 10 (.int .i64 ((((List.length a) : Nat) : Int) - 1)) (.go 5 (.gfork (.go 5 (.gfork (.go 3 (.need (.val (.bool (List.getD a (Int.toNat c) false)) (.auto)))) (.auto))) (.auto)))))
  (fun v _ _ => v = sp) = Ris sp w h a c := by kernel_rfl
end
end Go.Proofs.Ytkkgnalgmebfjaa
/- Drift: the moves of a flow: what they answer. No condition. -/
namespace Go.Proofs.Ytkkgnalgmebfjaa
open Go Go.K
set_option maxRecDepth 100000
set_option linter.unusedVariables false
set_option linter.unusedSimpArgs false
noncomputable section
attribute [local irreducible] vF
theorem flat_le {α : Type} {f : α → List Value} {n : Nat} (hf : ∀ x, (f x).length = n) (xs : List α) : 0 + xs.length * n ≤ (xs.flatMap f).length := by rw [flat_len hf]; omega
theorem wk_snoc {α : Type} {L M : List α} {x : α} {id : Nat} (hM : M = L ++ [x]) : wk (.slice (some ⟨id, 0, none⟩) (L.length + 1) (L.length + 1)) (.slice (some ⟨id, 0, some 1⟩) M.length M.length) := by
  have : M.length = L.length + 1 := by rw [hM, List.length_append]; rfl
  rw [this]; exact wk_Q (by omega)
theorem ob_snoc {α : Type} {f : α → List Value} {n : Nat} (hf : ∀ x, (f x).length = n) {L M : List α} {x : α} {c : List Value} {own : Bool} (hM : M = L ++ [x]) (hc : f x = c) :
    (some (KObj.cells own n (List.take (L.length * n) (List.drop 0 (L.flatMap f)) ++ List.take (1 * n) (List.drop 0 c))) : Option KObj) = some (.cells own n (M.flatMap f)) := by
  subst hc
  rw [hM, ← flat_snoc hf L x rfl, List.drop_zero, List.drop_zero, List.take_of_length_le (l := f x) (by rw [hf]; omega), List.take_of_length_le (by rw [flat_len hf]; omega)]
/-- An answer with one new list; nothing read. -/
theorem valQ0 {f : FuncId} {args : List Value} {h : Hint} (v : Nat → Value) {z : Nat} {cs : List Value}
    (hc : vF prog msk (dm 0) 100000 true 40 true f args ⟨0, .leaf⟩ (some []) h (newK 0 3 (v 0) [(true, .cells true z cs)]))
    (hp : ∀ n, cs.all (belowC n) = true) (h1 : rnOk 3 (v 0) = true) (h2 : rn (sgOnly 0) 3 (v 0) = v 0) (h3 : ∀ j, rn (sgUp 0 j) 3 (v 0) = v j) (ha : ∀ σ, args.map (rn σ 3) = args) (H : Heap) :
    KCall prog f args H [] (Is (v H.length) (H ++ [.cells true z cs])) := by
  have key := valN (css := []) (v := v 0) (new := [(true, .cells true z cs)]) hc (fun c hc => by cases hc) h1 h2
    (by show ((rnoOk 3 (.cells true z cs) && true) && true) = true
        rw [Bool.and_true, Bool.and_true]; exact (rnCl (σ := fun _ => none) (d := 0) (hp 0)).2)
    (congrArg (fun q => [KObj.cells true z q]) (rnCl (d := 0) (hp 0)).1) (H := H) [] rfl (fun k c hk => by cases hk)
  have e2 : (List.map (fun x : Bool × KObj => x.2) [(true, KObj.cells true z cs)]).map (rno (sgUp (0 + ([] : List (List Value)).length) H.length) 3) = [.cells true z cs] :=
    congrArg (fun q => [KObj.cells true z q]) (rnCl (d := 0) (hp 0)).1
  rw [e2, show rn (sgUp (0 + ([] : List (List Value)).length) H.length) 3 (v 0) = v H.length from h3 _, ha] at key
  exact key
theorem moveC_len (m : Move) : (moveC m).length = 2 := rfl
theorem plainML (n : Nat) (l : List Move) : (l.flatMap moveC).all (belowC n) = true := plain_flat (fun _ => rfl) l
theorem mvRow_len (f : Flow) (j n : Nat) : (mvRow f j n).length = n := tabP_len _ _
theorem mvTo_len (f : Flow) : ∀ j, (mvTo f j).length = j * nxF f
  | 0 => by simp [mvTo]
  | j + 1 => by rw [mvTo, List.length_append, mvTo_len f j, mvRow_len, Nat.add_mul, Nat.one_mul]
theorem mvRow_succ (f : Flow) (j n : Nat) : mvRow f j (n + 1) = mvRow f j n ++ [⟨(endA f).dx + (n : Int), (endA f).dy + (j : Int)⟩] := tabP_succ _ _
theorem ends_bd {f : Flow} (hf : rightF f) : (-2 ≤ (endA f).dx ∧ (endA f).dx ≤ (endZ f).dx ∧ (endZ f).dx ≤ 2) ∧ (-2 ≤ (endA f).dy ∧ (endA f).dy ≤ (endZ f).dy ∧ (endZ f).dy ≤ 2) := by
  obtain ⟨⟨a1, a2, a3⟩, a4, a5, a6⟩ := hf
  unfold endA endZ
  dsimp only
  omega
theorem nx_bd {f : Flow} (hf : rightF f) : 1 ≤ nxF f ∧ nxF f ≤ 5 ∧ ((nxF f : Nat) : Int) = (endZ f).dx - (endA f).dx + 1 := by
  have := ends_bd hf
  unfold nxF
  omega
theorem ny_bd {f : Flow} (hf : rightF f) : 1 ≤ nyF f ∧ nyF f ≤ 5 ∧ ((nyF f : Nat) : Int) = (endZ f).dy - (endA f).dy + 1 := by
  have := ends_bd hf
  unfold nyF
  omega
theorem mvTo_bd {f : Flow} (hf : rightF f) {x : Nat} (hx : x ≤ nyF f) : (mvTo f x).length ≤ 25 := by
  have h1 := nx_bd hf
  have h2 := ny_bd hf
  rw [mvTo_len]
  exact Nat.mul_le_mul (show x ≤ 5 by omega) (show nxF f ≤ 5 by omega)
theorem movesF_bd {f : Flow} (hf : rightF f) : 1 ≤ (movesF f).length ∧ (movesF f).length ≤ 25 := by
  have h1 := nx_bd hf
  have h2 := ny_bd hf
  refine ⟨?_, mvTo_bd hf (Nat.le_refl _)⟩
  unfold movesF
  rw [mvTo_len]
  exact Nat.mul_le_mul (show 1 ≤ nyF f by omega) (show 1 ≤ nxF f by omega)
theorem kmoves (f : Flow) (hf : rightF f) {H : Heap} {L : Nat} (hL : H.length = L) : KCall prog F.drift_Flow_moves [flowV f] H [] (Is (.slice (some ⟨L, 0, some 1⟩) (movesF f).length (movesF f).length) (H ++ [.cells true 2 ((movesF f).flatMap moveC)])) := by
  subst hL
  refine valQ0 (fun i => .slice (some ⟨i, 0, some 1⟩) (movesF f).length (movesF f).length) (Eq.mpr (Emoves f) ?_) (fun n => plainML n _) rfl rfl (fun _ => rfl) (fun _ => rfl) H
  unfold Rmoves
  have eb := ends_bd hf
  have xb := nx_bd hf
  have yb := ny_bd hf
  refine ⟨trivial, fun H' _ _ => kends f hf H', rfl, Nat.zero_le _, ?_, fun _ => rfl, ?_⟩
  · repeat' first | (exact iEq (by omega)) | exact trivial | exact rfl | exact wk_refl _ | refine wkO_cells ?_ | refine wks_cons ?_ ?_ | exact wks_nil | exact wk_nil _ _ _ (.inl rfl) | (exact wk_Q (by omega)) | refine wk_tupL ?_ | refine wk_aggL ?_ | refine joinMax ?_ ?_ ?_ | refine joinMin ?_ ?_ ?_ | refine toMax ?_ | refine toMin ?_ | refine ⟨rfl, ?_⟩ | refine ⟨trivial, ?_⟩ | (refine forkD (fun h => ?_) (fun h => ?_)) | (refine forkNe (fun h => ?_) (fun h => ?_)) | (refine forkEq (fun h => ?_) (fun h => ?_)) | refine forkNot ?_ | (refine ⟨vI64 (by omega), ?_⟩) | (refine And.intro (by omega) ?_) | apply And.intro | (exact iEq (by omega)) | (exact vI64 (by omega))
  intro x hx
  refine forkD (fun k => ?_) (fun k => ?_)
  · have hx1 : x < nyF f := by omega
    refine ⟨rfl, Nat.zero_le _, ?_, fun _ => rfl, ?_⟩
    · rw [show mvTo f x ++ mvRow f x 0 = mvTo f x from List.append_nil _]
      repeat' first | (exact iEq (by omega)) | exact plainML _ _ | exact trivial | exact rfl | exact wk_refl _ | refine wkO_cells ?_ | refine wks_cons ?_ ?_ | exact wks_nil | exact wk_nil _ _ _ (.inl rfl) | (exact wk_Q (by omega)) | refine wk_tupL ?_ | refine wk_aggL ?_ | refine joinMax ?_ ?_ ?_ | refine joinMin ?_ ?_ ?_ | refine toMax ?_ | refine toMin ?_ | refine ⟨rfl, ?_⟩ | refine ⟨trivial, ?_⟩ | (refine forkD (fun h => ?_) (fun h => ?_)) | (refine forkNe (fun h => ?_) (fun h => ?_)) | (refine forkEq (fun h => ?_) (fun h => ?_)) | refine forkNot ?_ | (refine ⟨vI64 (by omega), ?_⟩) | (refine And.intro (by omega) ?_) | apply And.intro | (exact iEq (by omega)) | (exact vI64 (by omega))
    intro y hy
    have hlen : (mvTo f x ++ mvRow f x y).length ≤ 30 := by
      rw [List.length_append, mvRow_len]
      have := mvTo_bd hf (Nat.le_of_lt hx1)
      omega
    refine forkD (fun k2 => ?_) (fun k2 => ?_)
    · have hy1 : y < nxF f := by omega
      have hM : mvTo f x ++ mvRow f x (y + 1) = (mvTo f x ++ mvRow f x y) ++ [⟨(endA f).dx + (y : Int), (endA f).dy + (x : Int)⟩] := by rw [mvRow_succ, List.append_assoc]
      repeat' first | (refine ⟨y + 1, by omega, by omega, rfl, ?_⟩) | exact wk_snoc hM | exact ob_snoc moveC_len hM rfl | exact plainML _ _ | exact flat_le moveC_len _ | exact Nat.le_refl _ | exact trivial | exact rfl | exact wk_refl _ | refine wkO_cells ?_ | refine wks_cons ?_ ?_ | exact wks_nil | exact wk_nil _ _ _ (.inl rfl) | (exact wk_Q (by omega)) | refine wk_tupL ?_ | refine wk_aggL ?_ | refine joinMax ?_ ?_ ?_ | refine joinMin ?_ ?_ ?_ | refine toMax ?_ | refine toMin ?_ | refine ⟨rfl, ?_⟩ | refine ⟨trivial, ?_⟩ | (refine forkD (fun h => ?_) (fun h => ?_)) | (refine forkNe (fun h => ?_) (fun h => ?_)) | (refine forkEq (fun h => ?_) (fun h => ?_)) | refine forkNot ?_ | (refine ⟨vI64 (by omega), ?_⟩) | (refine And.intro (by omega) ?_) | apply And.intro | (exact iEq (by omega)) | (exact vI64 (by omega))
    · obtain rfl : y = nxF f := by omega
      repeat' first | (refine ⟨x + 1, by omega, by omega, rfl, ?_⟩) | exact plainML _ _ | exact trivial | exact rfl | exact wk_refl _ | refine wkO_cells ?_ | refine wks_cons ?_ ?_ | exact wks_nil | exact wk_nil _ _ _ (.inl rfl) | (exact wk_Q (by omega)) | refine wk_tupL ?_ | refine wk_aggL ?_ | refine joinMax ?_ ?_ ?_ | refine joinMin ?_ ?_ ?_ | refine toMax ?_ | refine toMin ?_ | refine ⟨rfl, ?_⟩ | refine ⟨trivial, ?_⟩ | (refine forkD (fun h => ?_) (fun h => ?_)) | (refine forkNe (fun h => ?_) (fun h => ?_)) | (refine forkEq (fun h => ?_) (fun h => ?_)) | refine forkNot ?_ | (refine ⟨vI64 (by omega), ?_⟩) | (refine And.intro (by omega) ?_) | apply And.intro | (exact iEq (by omega)) | (exact vI64 (by omega))
  · obtain rfl : x = nyF f := by omega
    repeat' first | exact plainML _ _ | exact trivial | exact rfl | exact wk_refl _ | refine wkO_cells ?_ | refine wks_cons ?_ ?_ | exact wks_nil | exact wk_nil _ _ _ (.inl rfl) | (exact wk_Q (by omega)) | refine wk_tupL ?_ | refine wk_aggL ?_ | refine joinMax ?_ ?_ ?_ | refine joinMin ?_ ?_ ?_ | refine toMax ?_ | refine toMin ?_ | refine ⟨rfl, ?_⟩ | refine ⟨trivial, ?_⟩ | (refine forkD (fun h => ?_) (fun h => ?_)) | (refine forkNe (fun h => ?_) (fun h => ?_)) | (refine forkEq (fun h => ?_) (fun h => ?_)) | refine forkNot ?_ | (refine ⟨vI64 (by omega), ?_⟩) | (refine And.intro (by omega) ?_) | apply And.intro | (exact iEq (by omega)) | (exact vI64 (by omega))
theorem fMoves_0 {f : Flow} (h : rightF f) : fMoves f = (movesF f, 0) := if_pos h
theorem fMoves_1 {f : Flow} (h : ¬ rightF f) : fMoves f = ([], 30) := if_neg h
abbrev mvsV (i : Nat) (r : List Move × Int) : Value := .tuple #[.slice (some ⟨i, 0, some 1⟩) r.1.length r.1.length, .int .i64 r.2]
theorem kMoves (f : Flow) {H : Heap} {L : Nat} (hL : H.length = L) : KCall prog F.drift_Moves [flowV f] H [] (Is (mvsV L (fMoves f)) (H ++ [.cells true 2 ((fMoves f).1.flatMap moveC)])) := by
  subst hL
  refine valQ0 (fun i => mvsV i (fMoves f)) (Eq.mpr (EMoves f) ?_) (fun n => plainML n _) rfl rfl (fun _ => rfl) (fun _ => rfl) H
  unfold RMoves
  by_cases h : rightF f
  · rw [fMoves_0 h]
    have hf := h
    obtain ⟨⟨a1, a2, a3⟩, a4, a5, a6⟩ := h
    repeat' first | (refine ⟨trivial, fun H' hl _ => kmoves f hf hl, ?_⟩) | exact plainML _ _ | omega | exact trivial | exact rfl | exact wk_refl _ | refine wkO_cells ?_ | refine wks_cons ?_ ?_ | exact wks_nil | exact wk_nil _ _ _ (.inl rfl) | (exact wk_Q (by omega)) | refine wk_tupL ?_ | refine wk_aggL ?_ | refine joinMax ?_ ?_ ?_ | refine joinMin ?_ ?_ ?_ | refine toMax ?_ | refine toMin ?_ | refine ⟨rfl, ?_⟩ | refine ⟨trivial, ?_⟩ | (refine forkD (fun h => ?_) (fun h => ?_)) | (refine forkNe (fun h => ?_) (fun h => ?_)) | (refine forkEq (fun h => ?_) (fun h => ?_)) | refine forkNot ?_ | (refine ⟨vI64 (by omega), ?_⟩) | (refine And.intro (by omega) ?_) | apply And.intro | (exact iEq (by omega)) | (exact vI64 (by omega))
  · rw [fMoves_1 h]
    unfold rightF rightS at h
    repeat' first | omega | exact trivial | exact rfl | exact wk_refl _ | refine wkO_cells ?_ | refine wks_cons ?_ ?_ | exact wks_nil | exact wk_nil _ _ _ (.inl rfl) | (exact wk_Q (by omega)) | refine wk_tupL ?_ | refine wk_aggL ?_ | refine joinMax ?_ ?_ ?_ | refine joinMin ?_ ?_ ?_ | refine toMax ?_ | refine toMin ?_ | refine ⟨rfl, ?_⟩ | refine ⟨trivial, ?_⟩ | (refine forkD (fun h => ?_) (fun h => ?_)) | (refine forkNe (fun h => ?_) (fun h => ?_)) | (refine forkEq (fun h => ?_) (fun h => ?_)) | refine forkNot ?_ | (refine ⟨vI64 (by omega), ?_⟩) | (refine And.intro (by omega) ?_) | apply And.intro | (exact iEq (by omega)) | (exact vI64 (by omega))
deriving instance DecidableEq for Move
end
end Go.Proofs.Ytkkgnalgmebfjaa
/- The library's sort of numbers, laid at this program (written by the kit's own tool). No condition. -/
namespace Go.Proofs.Ytkkgnalgmebfjaa
set_option linter.unusedSimpArgs false
set_option linter.unusedVariables false
open Go Go.Shelf
end Go.Proofs.Ytkkgnalgmebfjaa
/- The library's sort, by its contract, over canonical memory. No condition. -/
namespace Go.K
set_option linter.unusedSimpArgs false
open Go
set_option linter.unusedVariables false
variable {P : Program}

end Go.K
/- The library's sort of numbers, by the kit's contract, over canonical memory. No condition. -/
namespace Go.K
set_option linter.unusedSimpArgs false
open Go Go.Proofs Go.RowKit Go.Lib Go.Sort Go.Shelf
set_option linter.unusedVariables false
variable {P : Program}

end Go.K
/- Drift: where moves lead: what is answered. No condition. -/
namespace Go.Proofs.Ytkkgnalgmebfjaa
open Go Go.K
set_option maxRecDepth 100000
set_option linter.unusedVariables false
set_option linter.unusedSimpArgs false
noncomputable section
attribute [local irreducible] vF
theorem boolC_len (b : Bool) : (boolC b).length = 1 := rfl
theorem intC_len (x : Int) : (intC x).length = 1 := rfl
theorem plainIL (n : Nat) (l : List Int) : (l.flatMap intC).all (belowC n) = true := plain_flat (fun _ => rfl) l
theorem boolAt {a : List Bool} {k : Nat} (h : k < a.length) {off : Nat} (ho : off = k) : (a.flatMap boolC)[off]? = some (.bool (a.getD k false)) := cell_at (c := 0) boolC_len h (by omega) rfl
theorem intAt {a : List Int} {k : Nat} (h : k < a.length) {off : Nat} (ho : off = k) : (a.flatMap intC)[off]? = some (.int .i64 (a.getD k 0)) := cell_at (c := 0) intC_len h (by omega) rfl
theorem partMove {l : List Move} {x : Nat} (h : x < l.length) : partA 2 (l.flatMap moveC) (0 + Int.toNat ((x : Nat) : Int) * 2) = some (.agg ⟨moveC (l.getD x zeroM)⟩) :=
  part_at (n := 2) (d := zeroM) (c := 0) moveC_len h (by omega) (by omega)
/-- A basin that is right. -/
structure BasOk (w h : Int) (n : Nat) : Prop where
  w1 : 1 ≤ w ∧ w ≤ 64
  h1 : 1 ≤ h ∧ h ≤ 64
  p1 : w * h ≤ 1024
  n1 : (n : Int) = w * h
theorem basOk {w h : Int} {n : Nat} (e : errBas w h n = 0) : BasOk w h n := by
  obtain ⟨b1, b2, b3, b4⟩ := errBas_0 e
  exact ⟨b1, b2, b3, b4⟩
theorem divmod {w h c : Int} {n : Nat} (b : BasOk w h n) (hc : 0 ≤ c ∧ c < w * h) : (0 ≤ Int.tmod c w ∧ Int.tmod c w < w) ∧ (0 ≤ Int.tdiv c w ∧ Int.tdiv c w < h) := by
  have w1 := b.w1
  have e1 : Int.tdiv c w = c / w := Int.tdiv_eq_ediv_of_nonneg hc.1
  have e2 : Int.tmod c w = c % w := Int.tmod_eq_emod_of_nonneg hc.1
  rw [e1, e2]
  refine ⟨⟨Int.emod_nonneg _ (by omega), Int.emod_lt_of_pos _ (by omega)⟩, Int.ediv_nonneg hc.1 (by omega), Int.ediv_lt_of_lt_mul (by omega) (by rw [Int.mul_comm]; exact hc.2)⟩
theorem cellbd {w h x y : Int} (hx : 0 ≤ x ∧ x < w) (hy : 0 ≤ y ∧ y < h) : 0 ≤ y * w + x ∧ y * w + x < w * h := by
  have h1 : 0 ≤ y * w := Int.mul_nonneg hy.1 (by omega)
  have h2 : (y + 1) * w ≤ h * w := Int.mul_le_mul_of_nonneg_right (by omega) (by omega)
  rw [Int.add_mul, Int.one_mul, Int.mul_comm h w] at h2
  omega
def mvOk (m : Move) : Prop := (-2 ≤ m.dx ∧ m.dx ≤ 2) ∧ (-2 ≤ m.dy ∧ m.dy ≤ 2)
def tgIn (w h : Int) (a : List Bool) (c : Int) (m : Move) : Prop := (0 ≤ Int.tmod c w + m.dx ∧ Int.tmod c w + m.dx < w) ∧ (0 ≤ Int.tdiv c w + m.dy ∧ Int.tdiv c w + m.dy < h) ∧ a.getD (Int.toNat ((Int.tdiv c w + m.dy) * w + (Int.tmod c w + m.dx))) false = false
theorem targ_1 {w h : Int} {a : List Bool} {c : Int} {m : Move} (k : tgIn w h a c m) : targ w h a c m = (Int.tdiv c w + m.dy) * w + (Int.tmod c w + m.dx) := if_pos k
theorem targ_0 {w h : Int} {a : List Bool} {c : Int} {m : Move} (k : ¬ tgIn w h a c m) : targ w h a c m = c := if_neg k
theorem targ_bd {w h : Int} {a : List Bool} {c : Int} (hc : 0 ≤ c ∧ c < w * h) (m : Move) : 0 ≤ targ w h a c m ∧ targ w h a c m < w * h := by
  by_cases k : tgIn w h a c m
  · rw [targ_1 k]; exact cellbd k.1 k.2.1
  · rw [targ_0 k]; exact hc
theorem ktarget {w h : Int} {a : List Bool} {c : Int} {m : Move} (b : BasOk w h a.length) (hc : 0 ≤ c ∧ c < w * h) (hm : mvOk m) {H : Heap} {id : Nat} {own : Bool} {z : Nat} (hid : H[id]? = some (.cells own z (a.flatMap boolC))) :
    KCall prog F.drift_sea_target [basV w h id a.length, .int .i64 c, moveV m] H [] (Is (.int .i64 (targ w h a c m)) H) := by
  refine valR (css := [a.flatMap boolC]) (v := .int .i64 (targ w h a c m)) (Eq.mpr (Etarget _ w h a c m) ?_) (one_cs (plainBL 0 a)) rfl [id] rfl (one_id hid)
  unfold Rtarget
  have e1 := targ_1 (w := w) (h := h) (a := a) (c := c) (m := m)
  have e0 := targ_0 (w := w) (h := h) (a := a) (c := c) (m := m)
  unfold tgIn at e0 e1
  obtain ⟨⟨m1, m2⟩, m3, m4⟩ := hm
  obtain ⟨d1, d2⟩ := divmod b hc
  obtain ⟨b1, b2, b3, b4⟩ := b
  have cb := cellbd (w := w) (h := h) (x := Int.tmod c w + m.dx) (y := Int.tdiv c w + m.dy)
  have hx : -2 ≤ Int.tmod c w + m.dx ∧ Int.tmod c w + m.dx ≤ 66 := by omega
  have hy : -2 ≤ Int.tdiv c w + m.dy ∧ Int.tdiv c w + m.dy ≤ 66 := by omega
  have hy2 : 0 ≤ Int.tdiv c w ∧ Int.tdiv c w ≤ 64 := by omega
  generalize targ w h a c m = T at e0 e1 ⊢
  generalize Int.tmod c w + m.dx = X at *
  generalize Int.tdiv c w + m.dy = Y at *
  generalize Y * w = P at *
  generalize w * h = Q at *
  repeat' first | (exact iEq (e0 (fun k => by omega)).symm) | refine ⟨_, rfl, ?_⟩ | (refine ⟨fun hb => iEq (e0 fun k => Bool.false_ne_true (k.2.2.symm.trans hb)).symm, fun hb => ?_⟩) | (exact boolAt (by omega) (by omega)) | (exact iEq (e1 ⟨by omega, by omega, hb⟩).symm) | omega | exact trivial | exact rfl | exact wk_refl _ | refine wkO_cells ?_ | refine wks_cons ?_ ?_ | exact wks_nil | exact wk_nil _ _ _ (.inl rfl) | (exact wk_Q (by omega)) | refine wk_tupL ?_ | refine wk_aggL ?_ | refine joinMax ?_ ?_ ?_ | refine joinMin ?_ ?_ ?_ | refine toMax ?_ | refine toMin ?_ | refine ⟨rfl, ?_⟩ | refine ⟨trivial, ?_⟩ | (refine forkD (fun h => ?_) (fun h => ?_)) | (refine forkNe (fun h => ?_) (fun h => ?_)) | (refine forkEq (fun h => ?_) (fun h => ?_)) | refine forkNot ?_ | (refine ⟨vI64 (by omega), ?_⟩) | (refine And.intro (by omega) ?_) | apply And.intro | (exact iEq (by omega)) | (exact vI64 (by omega))
theorem seaB_1 {a : List Bool} {c : Int} (k : 0 ≤ c ∧ c < (a.length : Int)) : seaB a c = !(a.getD (Int.toNat c) false) := by unfold seaB; rw [decide_eq_true k]; rfl
theorem seaB_0 {a : List Bool} {c : Int} (k : ¬ (0 ≤ c ∧ c < (a.length : Int))) : seaB a c = false := by unfold seaB; rw [decide_eq_false k]; rfl
theorem kis {w h : Int} {a : List Bool} {c : Int} (b : BasOk w h a.length) {H : Heap} {id : Nat} {own : Bool} {z : Nat} (hid : H[id]? = some (.cells own z (a.flatMap boolC))) :
    KCall prog F.drift_sea_is [basV w h id a.length, .int .i64 c] H [] (Is (.bool (seaB a c)) H) := by
  refine valR (css := [a.flatMap boolC]) (v := .bool (seaB a c)) (Eq.mpr (Eis _ w h a c) ?_) (one_cs (plainBL 0 a)) rfl [id] rfl (one_id hid)
  unfold Ris
  have e1 := seaB_1 (a := a) (c := c)
  have e0 := seaB_0 (a := a) (c := c)
  obtain ⟨b1, b2, b3, b4⟩ := b
  generalize w * h = Q at *
  repeat' first | (exact congrArg Value.bool (e0 (by omega)).symm) | (exact congrArg Value.bool (e1 (by omega)).symm) | (exact boolAt (by omega) (by omega)) | exact trivial | exact rfl | exact wk_refl _ | refine wkO_cells ?_ | refine wks_cons ?_ ?_ | exact wks_nil | exact wk_nil _ _ _ (.inl rfl) | (exact wk_Q (by omega)) | refine wk_tupL ?_ | refine wk_aggL ?_ | refine joinMax ?_ ?_ ?_ | refine joinMin ?_ ?_ ?_ | refine toMax ?_ | refine toMin ?_ | refine ⟨rfl, ?_⟩ | refine ⟨trivial, ?_⟩ | (refine forkD (fun h => ?_) (fun h => ?_)) | (refine forkNe (fun h => ?_) (fun h => ?_)) | (refine forkEq (fun h => ?_) (fun h => ?_)) | refine forkNot ?_ | (refine ⟨vI64 (by omega), ?_⟩) | (refine And.intro (by omega) ?_) | apply And.intro | (exact iEq (by omega)) | (exact vI64 (by omega))
theorem getD_mem {α : Type} {l : List α} {d : α} {x : Nat} (h : x < l.length) : l.getD x d ∈ l := by
  rw [List.getD_eq_getElem?_getD, List.getElem?_eq_getElem h]; exact List.getElem_mem h
end
end Go.Proofs.Ytkkgnalgmebfjaa
/- Drift: targets, and how the law compares. No condition. -/
namespace Go.Proofs.Ytkkgnalgmebfjaa
open Go Go.K
set_option maxRecDepth 100000
set_option linter.unusedVariables false
set_option linter.unusedSimpArgs false
noncomputable section
attribute [local irreducible] vF
theorem errFlows_0 {w h : Int} {n : Nat} {l : List Flow} (e : errFlows w h n l = 0) : errBas w h n = 0 ∧ l.length = n ∧ errF l = 0 := by
  unfold errFlows first2 at e
  split at e
  · rename_i h0
    split at e
    · rename_i h1; exact ⟨h0, h1, e⟩
    · omega
  · rename_i h0; exact absurd e h0
theorem errF_all : ∀ {l : List Flow}, errF l = 0 → ∀ f ∈ l, rightF f
  | [], _, f, hf => by cases hf
  | g :: r, e, f, hf => by
    unfold errF at e
    split at e
    · rename_i hg
      rcases List.mem_cons.1 hf with rfl | hf
      · exact hg
      · exact errF_all e f hf
    · omega
theorem notB {b : Bool} (h : (!b) = true) : b = false := by cases b <;> first | rfl | cases h
theorem notB2 {b : Bool} (h : (!b) = false) : b = true := by cases b <;> first | rfl | cases h
end
end Go.Proofs.Ytkkgnalgmebfjaa
/- Ice: what all texts share. No condition. -/
namespace Go.Proofs.Ytkkgnalgmebfjaa
set_option linter.unusedSimpArgs false
open Go Go.K
set_option maxRecDepth 100000
set_option linter.unusedVariables false
noncomputable section
theorem i64_eq {a b : Int} (h : a = b) : (Value.int .i64 a) = .int .i64 b := by rw [h]
structure Cell where
  conc : Span
  thick : Span
  ridge : Span
  press : Span
structure Ice where
  conc : Int
  thick : Int
  ridge : Int
  press : Int
structure Rates where
  up : Ice
  down : Ice
structure Report where
  id : Int
  source : Int
  at_ : Int
  x : Int
  y : Int
  has : Int
  cell : Cell
abbrev iceC (x : Ice) : List Value := [.int .i64 x.conc, .int .i64 x.thick, .int .i64 x.ridge, .int .i64 x.press]
abbrev cellC (c : Cell) : List Value := [.int .i64 c.conc.lo, .int .i64 c.conc.hi, .int .i64 c.thick.lo, .int .i64 c.thick.hi, .int .i64 c.ridge.lo, .int .i64 c.ridge.hi, .int .i64 c.press.lo, .int .i64 c.press.hi]
abbrev iceV (x : Ice) : Value := .agg ⟨iceC x⟩
abbrev cellV (c : Cell) : Value := .agg ⟨cellC c⟩
end
end Go.Proofs.Ytkkgnalgmebfjaa
/- What is to be shown of functions. Printed by a program. No condition. -/
namespace Go.Proofs.Ytkkgnalgmebfjaa
set_option linter.unusedSimpArgs false
open Go Go.K
set_option maxRecDepth 100000
set_option maxHeartbeats 4000000
set_option linter.unusedVariables false
noncomputable section
def RCheckCell (sp : Value) (c : Cell) : Prop :=
  (((decide ((0 : Int) ≤ c.conc.lo)) = true → (((decide ((c.conc.lo : Int) ≤ 100)) = true → (((decide ((c.conc.lo : Int) ≤ c.conc.hi)) = true → (((!(decide ((c.conc.hi : Int) ≤ 100))) = true → (.int .i64 20 : Value) = sp) ∧ ((!(decide ((c.conc.hi : Int) ≤ 100))) = false → (((decide ((0 : Int) ≤ c.thick.lo)) = true → (((decide ((c.thick.lo : Int) ≤ 400)) = true → (((decide ((c.thick.lo : Int) ≤ c.thick.hi)) = true → (((!(decide ((c.thick.hi : Int) ≤ 400))) = true → (.int .i64 20 : Value) = sp) ∧ ((!(decide ((c.thick.hi : Int) ≤ 400))) = false → (((decide ((0 : Int) ≤ c.ridge.lo)) = true → (((decide ((c.ridge.lo : Int) ≤ 100)) = true → (((decide ((c.ridge.lo : Int) ≤ c.ridge.hi)) = true → (((!(decide ((c.ridge.hi : Int) ≤ 100))) = true → (.int .i64 20 : Value) = sp) ∧ ((!(decide ((c.ridge.hi : Int) ≤ 100))) = false → (((decide ((0 : Int) ≤ c.press.lo)) = true → (((decide ((c.press.lo : Int) ≤ 3)) = true → (((decide ((c.press.lo : Int) ≤ c.press.hi)) = true → (((!(decide ((c.press.hi : Int) ≤ 3))) = true → (.int .i64 20 : Value) = sp) ∧ ((!(decide ((c.press.hi : Int) ≤ 3))) = false → (.int .i64 0 : Value) = sp))) ∧ ((decide ((c.press.lo : Int) ≤ c.press.hi)) = false → (.int .i64 20 : Value) = sp))) ∧ ((decide ((c.press.lo : Int) ≤ 3)) = false → (.int .i64 20 : Value) = sp))) ∧ ((decide ((0 : Int) ≤ c.press.lo)) = false → (.int .i64 20 : Value) = sp))))) ∧ ((decide ((c.ridge.lo : Int) ≤ c.ridge.hi)) = false → (.int .i64 20 : Value) = sp))) ∧ ((decide ((c.ridge.lo : Int) ≤ 100)) = false → (.int .i64 20 : Value) = sp))) ∧ ((decide ((0 : Int) ≤ c.ridge.lo)) = false → (.int .i64 20 : Value) = sp))))) ∧ ((decide ((c.thick.lo : Int) ≤ c.thick.hi)) = false → (.int .i64 20 : Value) = sp))) ∧ ((decide ((c.thick.lo : Int) ≤ 400)) = false → (.int .i64 20 : Value) = sp))) ∧ ((decide ((0 : Int) ≤ c.thick.lo)) = false → (.int .i64 20 : Value) = sp))))) ∧ ((decide ((c.conc.lo : Int) ≤ c.conc.hi)) = false → (.int .i64 20 : Value) = sp))) ∧ ((decide ((c.conc.lo : Int) ≤ 100)) = false → (.int .i64 20 : Value) = sp))) ∧ ((decide ((0 : Int) ≤ c.conc.lo)) = false → (.int .i64 20 : Value) = sp))
theorem ECheckCell (sp : Value) (c : Cell) : vF prog msk (dm 0) 100000 true 40 true 104 [.agg #[.int .i64 c.conc.lo, .int .i64 c.conc.hi, .int .i64 c.thick.lo, .int .i64 c.thick.hi, .int .i64 c.ridge.lo, .int .i64 c.ridge.hi, .int .i64 c.press.lo, .int .i64 c.press.hi]] ⟨0, .leaf⟩ (some [])
  (.go 54 (.gfork (.go 5 (.gfork (.go 15 (.gfork (.go 8 (.fork (.auto) (.go 30 (.gfork (.go 5 (.gfork (.go 15 (.gfork (.go 8 (.fork (.auto) (.go 30 (.gfork (.go 5 (.gfork (.go 15 (.gfork (.go 8 (.fork (.auto) (.go 30 (.gfork (.go 5 (.gfork (.go 15 (.gfork (.go 8 (.fork (.auto) (.auto))) (.auto))) (.auto))) (.auto))))) (.auto))) (.auto))) (.auto))))) (.auto))) (.auto))) (.auto))))) (.auto))) (.auto))) (.auto)))
  (fun v _ _ => v = sp) = RCheckCell sp c := by kernel_rfl
def RCheckIce (sp : Value) (x : Ice) : Prop :=
  (((decide ((0 : Int) ≤ x.conc)) = true → (((!(decide ((x.conc : Int) ≤ 100))) = true → (.int .i64 20 : Value) = sp) ∧ ((!(decide ((x.conc : Int) ≤ 100))) = false → (((decide ((0 : Int) ≤ x.thick)) = true → (((!(decide ((x.thick : Int) ≤ 400))) = true → (.int .i64 20 : Value) = sp) ∧ ((!(decide ((x.thick : Int) ≤ 400))) = false → (((decide ((0 : Int) ≤ x.ridge)) = true → (((!(decide ((x.ridge : Int) ≤ 100))) = true → (.int .i64 20 : Value) = sp) ∧ ((!(decide ((x.ridge : Int) ≤ 100))) = false → (((decide ((0 : Int) ≤ x.press)) = true → (((!(decide ((x.press : Int) ≤ 3))) = true → (.int .i64 20 : Value) = sp) ∧ ((!(decide ((x.press : Int) ≤ 3))) = false → (.int .i64 0 : Value) = sp))) ∧ ((decide ((0 : Int) ≤ x.press)) = false → (.int .i64 20 : Value) = sp))))) ∧ ((decide ((0 : Int) ≤ x.ridge)) = false → (.int .i64 20 : Value) = sp))))) ∧ ((decide ((0 : Int) ≤ x.thick)) = false → (.int .i64 20 : Value) = sp))))) ∧ ((decide ((0 : Int) ≤ x.conc)) = false → (.int .i64 20 : Value) = sp))
theorem ECheckIce (sp : Value) (x : Ice) : vF prog msk (dm 0) 100000 true 40 true 59 [.agg #[.int .i64 x.conc, .int .i64 x.thick, .int .i64 x.ridge, .int .i64 x.press]] ⟨0, .leaf⟩ (some [])
  (.go 48 (.gfork (.go 6 (.fork (.auto) (.go 24 (.gfork (.go 6 (.fork (.auto) (.go 24 (.gfork (.go 6 (.fork (.auto) (.go 24 (.gfork (.go 6 (.fork (.auto) (.auto))) (.auto))))) (.auto))))) (.auto))))) (.auto)))
  (fun v _ _ => v = sp) = RCheckIce sp x := by kernel_rfl
def RPick (sp : Value) (x n : Int) : Prop :=
  (((decide ((n : Int) < 1)) = true → (.int .i64 0 : Value) = sp) ∧ ((decide ((n : Int) < 1)) = false → (((n : Int) ≠ 0) ∧ (((decide (((Int.tmod x n) : Int) < 0)) = true → ((.int .i64 (IntKind.wrap .i64 ((Int.tmod x n) + n)) : Value) = .int .i64 ((Int.tmod x n) + n) ∧ (.int .i64 ((Int.tmod x n) + n) : Value) = sp)) ∧ ((decide (((Int.tmod x n) : Int) < 0)) = false → (.int .i64 (Int.tmod x n) : Value) = sp)))))
theorem EPick (sp : Value) (x n : Int) : vF prog msk (dm 0) 100000 true 40 true 38 [.int .i64 x, .int .i64 n] ⟨0, .leaf⟩ (some [])
  (.go 2 (.fork (.auto) (.go 1 (.need (.go 2 (.fork (.go 2 (.slot 15 (.int .i64 ((Int.tmod x n) + n)) (.auto))) (.auto)))))))
  (fun v _ _ => v = sp) = RPick sp x n := by kernel_rfl
end
end Go.Proofs.Ytkkgnalgmebfjaa
/- Ice: the contracts of the functions of values alone. No condition. -/
namespace Go.Proofs.Ytkkgnalgmebfjaa
open Go Go.K
set_option maxRecDepth 100000
set_option linter.unusedVariables false
set_option linter.unusedSimpArgs false
noncomputable section
/-! ## What they compute -/
def rightSp (s : Span) (m : Int) : Prop := 0 ≤ s.lo ∧ s.lo ≤ m ∧ s.lo ≤ s.hi ∧ s.hi ≤ m
def rightC (c : Cell) : Prop := rightSp c.conc 100 ∧ rightSp c.thick 400 ∧ rightSp c.ridge 100 ∧ rightSp c.press 3
def rightI (x : Ice) : Prop := (0 ≤ x.conc ∧ x.conc ≤ 100) ∧ (0 ≤ x.thick ∧ x.thick ≤ 400) ∧ (0 ≤ x.ridge ∧ x.ridge ≤ 100) ∧ 0 ≤ x.press ∧ x.press ≤ 3
def rateI (x : Ice) : Prop := (0 ≤ x.conc ∧ x.conc ≤ 1000) ∧ (0 ≤ x.thick ∧ x.thick ≤ 1000) ∧ (0 ≤ x.ridge ∧ x.ridge ≤ 1000) ∧ 0 ≤ x.press ∧ x.press ≤ 1000
def rightR (m : Rates) : Prop := rateI m.up ∧ rateI m.down
instance (s : Span) (m : Int) : Decidable (rightSp s m) := by unfold rightSp; infer_instance
instance (c : Cell) : Decidable (rightC c) := by unfold rightC; infer_instance
instance (x : Ice) : Decidable (rightI x) := by unfold rightI; infer_instance
instance (x : Ice) : Decidable (rateI x) := by unfold rateI; infer_instance
instance (m : Rates) : Decidable (rightR m) := by unfold rightR; infer_instance
def errCell (c : Cell) : Int := if rightC c then 0 else 20
def errIce (x : Ice) : Int := if rightI x then 0 else 20
def zeroC : Cell := ⟨⟨0, 0⟩, ⟨0, 0⟩, ⟨0, 0⟩, ⟨0, 0⟩⟩
def hasS (s : Span) (n : Int) : Prop := s.lo ≤ n ∧ n ≤ s.hi
def hasC (c : Cell) (x : Ice) : Prop := hasS c.conc x.conc ∧ hasS c.thick x.thick ∧ hasS c.ridge x.ridge ∧ hasS c.press x.press
def insS (s t : Span) : Prop := t.lo ≤ s.lo ∧ s.hi ≤ t.hi
def insC (a b : Cell) : Prop := insS a.conc b.conc ∧ insS a.thick b.thick ∧ insS a.ridge b.ridge ∧ insS a.press b.press
def okC (c : Cell) : Prop := c.conc.lo ≤ c.conc.hi ∧ c.thick.lo ≤ c.thick.hi ∧ c.ridge.lo ≤ c.ridge.hi ∧ c.press.lo ≤ c.press.hi
instance (s : Span) (n : Int) : Decidable (hasS s n) := by unfold hasS; infer_instance
instance (c : Cell) (x : Ice) : Decidable (hasC c x) := by unfold hasC; infer_instance
instance (s t : Span) : Decidable (insS s t) := by unfold insS; infer_instance
instance (a b : Cell) : Decidable (insC a b) := by unfold insC; infer_instance
instance (c : Cell) : Decidable (okC c) := by unfold okC; infer_instance
def chg (rate hours : Int) : Int := (rate * hours + 23) / 24
/-! ## Numbers -/
theorem w64 {n : Int} (h : -9223372036854775808 ≤ n ∧ n ≤ 9223372036854775807) : IntKind.wrap .i64 n = n := IntWalk.i64_in n h
theorem v64 {n : Int} (h : -9223372036854775808 ≤ n ∧ n ≤ 9223372036854775807) : (Value.int .i64 (IntKind.wrap .i64 n)) = .int .i64 n := by rw [w64 h]
theorem mulb {a b A B : Int} (h1 : 0 ≤ a) (h2 : a ≤ A) (h3 : 0 ≤ b) (h4 : b ≤ B) : 0 ≤ a * b ∧ a * b ≤ A * B :=
  ⟨Int.mul_nonneg h1 h3, Int.mul_le_mul h2 h4 h3 (Int.le_trans h1 h2)⟩

/-! ## Contracts -/
theorem errCell_pos {c : Cell} (h : rightC c) : errCell c = 0 := if_pos h
theorem errCell_neg {c : Cell} (h : ¬ rightC c) : errCell c = 20 := if_neg h
theorem errIce_pos {c : Ice} (h : rightI c) : errIce c = 0 := if_pos h
theorem errIce_neg {c : Ice} (h : ¬ rightI c) : errIce c = 20 := if_neg h
theorem errIce_iff {c : Ice} : errIce c = 0 ↔ rightI c := by unfold errIce; split <;> simp_all
theorem kCheckCell (c : Cell) (H : Heap) : KCall prog F.ice_CheckCell [cellV c] H [] (Is (.int .i64 (errCell c)) H) := by
  refine valK 40 (fun _ => rfl) rfl (Eq.mpr (ECheckCell _ c) ?_) H
  unfold RCheckCell
  simp only [decide_eq_true_eq, decide_eq_false_iff_not, Bool.not_eq_true', Bool.not_eq_false']
  repeat' (first | apply And.intro | intro _)
  all_goals first
    | exact i64_eq (errCell_neg (by unfold rightC rightSp; omega)).symm
    | exact i64_eq (errCell_pos (by unfold rightC rightSp; omega)).symm
theorem kCheckIce (x : Ice) (H : Heap) : KCall prog F.ice_CheckIce [iceV x] H [] (Is (.int .i64 (errIce x)) H) := by
  refine valK 40 (fun _ => rfl) rfl (Eq.mpr (ECheckIce _ x) ?_) H
  unfold RCheckIce
  simp only [decide_eq_true_eq, decide_eq_false_iff_not, Bool.not_eq_true', Bool.not_eq_false']
  repeat' (first | apply And.intro | intro _)
  all_goals first
    | exact i64_eq (errIce_neg (by unfold rightI; omega)).symm
    | exact i64_eq (errIce_pos (by unfold rightI; omega)).symm
theorem tmod_emod {x n : Int} (hn : 1 ≤ n) : (Int.tmod x n < 0 → Int.tmod x n + n = x % n) ∧ (¬ Int.tmod x n < 0 → Int.tmod x n = x % n) ∧ -n < Int.tmod x n ∧ Int.tmod x n < n := by
  have h1 := Int.mul_tdiv_add_tmod x n
  have h2 := Int.lt_tmod_of_pos x (by omega : 0 < n)
  have h3 := Int.tmod_lt_of_pos x (by omega : 0 < n)
  refine ⟨fun h => ?_, fun h => ?_, h2, h3⟩
  · have : x = (Int.tmod x n + n) + n * (x.tdiv n - 1) := by rw [Int.mul_sub]; omega
    rw [this, Int.add_mul_emod_self_left, ← this]
    exact (Int.emod_eq_of_lt (by omega) (by omega)).symm
  · have : x = Int.tmod x n + n * x.tdiv n := by omega
    conv => rhs; rw [this, Int.add_mul_emod_self_left]
    exact (Int.emod_eq_of_lt (by omega) (by omega)).symm
theorem kPick (x n : Int) (h1 : 1 ≤ n) (h2 : n ≤ 9223372036854775807) (H : Heap) : KCall prog F.polynyakit_Pick [.int .i64 x, .int .i64 n] H [] (Is (.int .i64 (x % n)) H) := by
  refine valK 40 (fun _ => rfl) rfl (Eq.mpr (EPick _ x n) ?_) H
  obtain ⟨t1, t2, t3, t4⟩ := tmod_emod (x := x) h1
  unfold RPick
  simp only [decide_eq_true_eq, decide_eq_false_iff_not]
  refine ⟨fun h => by omega, fun _ => ⟨by omega, fun h => ⟨v64 (by omega), i64_eq (t1 h)⟩, fun h => i64_eq (t2 h)⟩⟩
/-! ## Two errors, then an answer -/
end
end Go.Proofs.Ytkkgnalgmebfjaa
/- Ice: lists of errors; the first cell, ice, report. No condition. -/
namespace Go.Proofs.Ytkkgnalgmebfjaa
set_option linter.unusedSimpArgs false
set_option linter.unusedVariables false
open Go Go.K
noncomputable section
def zeroI : Ice := ⟨0, 0, 0, 0⟩
def errs {α : Type} (e : α → Int) : List α → Int
  | [] => 0
  | x :: r => if e x = 0 then errs e r else e x
end
end Go.Proofs.Ytkkgnalgmebfjaa
/- Ice: the reference's functions of values; lists of errors. No condition. -/
namespace Go.Proofs.Ytkkgnalgmebfjaa
open Go Go.K
set_option maxRecDepth 100000
set_option linter.unusedVariables false
set_option linter.unusedSimpArgs false
noncomputable section
attribute [local irreducible] vF
/-! ## Lists -/
theorem iceC_len (x : Ice) : (iceC x).length = 4 := rfl
theorem partIce {xs : List Ice} {x : Nat} (h : x < xs.length) : partA 4 (List.flatMap iceC xs) (0 + Int.toNat ((x : Nat) : Int) * 4) = some (.agg #[.int .i64 (List.getD xs x zeroI).conc, .int .i64 (List.getD xs x zeroI).thick, .int .i64 (List.getD xs x zeroI).ridge, .int .i64 (List.getD xs x zeroI).press]) :=
  (part_at (f := iceC) (d := zeroI) (c := 0) (m := 4) iceC_len h (by rw [Int.toNat_natCast]; omega) (by decide)).trans rfl
theorem drop_at {α : Type} {xs : List α} {d : α} {k : Nat} (hk : k < xs.length) : xs.drop k = xs.getD k d :: xs.drop (k + 1) := by
  rw [List.drop_eq_getElem_cons hk, List.getD_eq_getElem?_getD, List.getElem?_eq_getElem hk]; rfl
theorem errs_at {α : Type} {e : α → Int} {xs : List α} {d : α} {k : Nat} (hk : k < xs.length) : errs e (xs.drop k) = if e (xs.getD k d) = 0 then errs e (xs.drop (k + 1)) else e (xs.getD k d) := by
  rw [drop_at (d := d) hk]; rfl
end
end Go.Proofs.Ytkkgnalgmebfjaa
/- What is to be shown of functions. Printed by a program. No condition. -/
namespace Go.Proofs.Ytkkgnalgmebfjaa
set_option linter.unusedSimpArgs false
open Go Go.K
set_option maxRecDepth 100000
set_option maxHeartbeats 4000000
set_option linter.unusedVariables false
noncomputable section
def Rsize (sp : Value) (w h t : Int) : Prop :=
  (((decide ((1 : Int) ≤ w)) = true → (((!(decide ((w : Int) ≤ 64))) = true → (.int .i64 6 : Value) = sp) ∧ ((!(decide ((w : Int) ≤ 64))) = false → (((decide ((1 : Int) ≤ h)) = true → (((!(decide ((h : Int) ≤ 64))) = true → (.int .i64 6 : Value) = sp) ∧ ((!(decide ((h : Int) ≤ 64))) = false → ((.int .i64 (IntKind.wrap .i64 (w * h)) : Value) = .int .i64 (w * h) ∧ (((decide ((1024 : Int) < (w * h))) = true → (.int .i64 6 : Value) = sp) ∧ ((decide ((1024 : Int) < (w * h))) = false → (((decide ((0 : Int) ≤ t)) = true → (((!(decide ((t : Int) ≤ 10000))) = true → (.int .i64 6 : Value) = sp) ∧ ((!(decide ((t : Int) ≤ 10000))) = false → (.int .i64 0 : Value) = sp))) ∧ ((decide ((0 : Int) ≤ t)) = false → (.int .i64 6 : Value) = sp)))))))) ∧ ((decide ((1 : Int) ≤ h)) = false → (.int .i64 6 : Value) = sp))))) ∧ ((decide ((1 : Int) ≤ w)) = false → (.int .i64 6 : Value) = sp))
theorem Esize (sp : Value) (w h t : Int) : vF prog msk (dm 0) 100000 true 40 true 132 [.int .i64 w, .int .i64 h, .int .i64 t] ⟨0, .leaf⟩ (some [])
  (.go 7 (.gfork (.go 6 (.gfork (.auto) (.go 6 (.gfork (.go 7 (.gfork (.auto) (.go 2 (.slot 18 (.int .i64 (w * h)) (.go 2 (.gfork (.auto) (.go 6 (.gfork (.go 6 (.fork (.auto) (.auto))) (.auto))))))))) (.auto))))) (.auto)))
  (fun v _ _ => v = sp) = Rsize sp w h t := by kernel_rfl
end
end Go.Proofs.Ytkkgnalgmebfjaa
/- Ice: functions of cells that charts and reports use. No condition. -/
namespace Go.Proofs.Ytkkgnalgmebfjaa
open Go Go.K
set_option maxRecDepth 100000
set_option linter.unusedVariables false
set_option linter.unusedSimpArgs false
noncomputable section
attribute [local irreducible] vF
def sizeOk (w h t : Int) : Prop := (1 ≤ w ∧ w ≤ 64) ∧ (1 ≤ h ∧ h ≤ 64) ∧ w * h ≤ 1024 ∧ (0 ≤ t ∧ t ≤ 10000)
instance (w h t : Int) : Decidable (sizeOk w h t) := by unfold sizeOk; infer_instance
def errSize (w h t : Int) : Int := if sizeOk w h t then 0 else 6
theorem errSize_iff {w h t : Int} : errSize w h t = 0 ↔ sizeOk w h t := by unfold errSize; split <;> simp_all
theorem ksize (w h t : Int) (H : Heap) : KCall prog F.ice_size [.int .i64 w, .int .i64 h, .int .i64 t] H [] (Is (.int .i64 (errSize w h t)) H) := by
  refine valK 40 (fun _ => rfl) rfl (Eq.mpr (Esize _ w h t) ?_) H
  unfold Rsize
  have mb : (1 ≤ w ∧ w ≤ 64) → (1 ≤ h ∧ h ≤ 64) → 0 ≤ w * h ∧ w * h ≤ 64 * 64 := fun h1 h2 => mulb (by omega) h1.2 (by omega) h2.2
  repeat' first | (refine ⟨vI64 (by have := mb ⟨‹_›, ‹_›⟩ ⟨‹_›, ‹_›⟩; omega), ?_⟩) | (exact iEq (if_pos (by unfold sizeOk; omega)).symm) | (exact iEq (if_neg (by unfold sizeOk; omega)).symm) | exact trivial | exact rfl | refine joinMax ?_ ?_ ?_ | refine joinMin ?_ ?_ ?_ | refine toMax ?_ | refine toMin ?_ | refine ⟨rfl, ?_⟩ | refine ⟨trivial, ?_⟩ | (refine forkD (fun h => ?_) (fun h => ?_)) | (refine forkNe (fun h => ?_) (fun h => ?_)) | (refine forkEq (fun h => ?_) (fun h => ?_)) | refine forkNot ?_ | (refine ⟨vI64 (by omega), ?_⟩) | (refine And.intro (by omega) ?_) | apply And.intro | exact wk_refl _ | (exact iEq (by omega)) | (exact vI64 (by omega))
end
end Go.Proofs.Ytkkgnalgmebfjaa
/- Ice: charts: what functions of charts answer. No condition. -/
namespace Go.Proofs.Ytkkgnalgmebfjaa
set_option linter.unusedSimpArgs false
set_option linter.unusedVariables false
open Go Go.K
noncomputable section
structure Chart where
  w : Int
  h : Int
  hour : Int
  cells : List Cell
def errChart (w h t : Int) (cs : List Cell) : Int := first2 (errSize w h t) (if (cs.length : Int) = w * h then errs errCell cs else 1)
end
end Go.Proofs.Ytkkgnalgmebfjaa
/- What is to be shown of functions. Printed by a program. No condition. -/
namespace Go.Proofs.Ytkkgnalgmebfjaa
set_option linter.unusedSimpArgs false
open Go Go.K
set_option maxRecDepth 100000
set_option maxHeartbeats 4000000
set_option linter.unusedVariables false
noncomputable section
def RwrongC (sp : Value) (cs : List Cell) : Prop :=
  (true = true ∧ (0 ≤ List.length cs ∧ sp = .int .i64 (errs errCell (List.drop 0 cs))) ∧ (true = true ∧ ((.int .i64 0 : Value) = .int .i64 ((0 : Nat) : Int) ∧ (.func (.func 104) #[] #[] : Value) = .func (.func 104) #[] #[] ∧ wk (.slice (some ⟨0, 0, some 2⟩) (List.length cs) (List.length cs) : Value) (.slice (some ⟨0, 0, some 2⟩) (List.length cs) (List.length cs) : Value) ∧ (.int .i64 (((List.length cs) : Nat) : Int) : Value) = .int .i64 (((List.length cs) : Nat) : Int) ∧ True) ∧ (True) ∧ (True) ∧ (True)) ∧ (∀ x0 : Nat, true = true) ∧ ∀ x0 : Nat, (x0 ≤ List.length cs ∧ sp = .int .i64 (errs errCell (List.drop x0 cs))) → (((decide ((((x0 : Nat) : Int) : Int) < (((List.length cs) : Nat) : Int))) = true → (((0 : Int) ≤ ((x0 : Nat) : Int) ∧ (((x0 : Nat) : Int) : Int) < (((List.length cs) : Nat) : Int)) ∧ ((partA 8 (List.flatMap cellC cs) (0 + Int.toNat ((x0 : Nat) : Int) * 8) = some (.agg #[.int .i64 (List.getD cs x0 zeroC).conc.lo, .int .i64 (List.getD cs x0 zeroC).conc.hi, .int .i64 (List.getD cs x0 zeroC).thick.lo, .int .i64 (List.getD cs x0 zeroC).thick.hi, .int .i64 (List.getD cs x0 zeroC).ridge.lo, .int .i64 (List.getD cs x0 zeroC).ridge.hi, .int .i64 (List.getD cs x0 zeroC).press.lo, .int .i64 (List.getD cs x0 zeroC).press.hi])) ∧ (∃ r1 : Int, ((True) ∧ (∀ H' : Heap, H'.length = 2 → (True) → KCall prog 104 [.agg #[.int .i64 (List.getD cs x0 zeroC).conc.lo, .int .i64 (List.getD cs x0 zeroC).conc.hi, .int .i64 (List.getD cs x0 zeroC).thick.lo, .int .i64 (List.getD cs x0 zeroC).thick.hi, .int .i64 (List.getD cs x0 zeroC).ridge.lo, .int .i64 (List.getD cs x0 zeroC).ridge.hi, .int .i64 (List.getD cs x0 zeroC).press.lo, .int .i64 (List.getD cs x0 zeroC).press.hi]] H' [] (Is (.int .i64 r1) H')) ∧ ((((r1 : Int) != 0) = true → (.int .i64 r1 : Value) = sp) ∧ (((r1 : Int) != 0) = false → ((.int .i64 (IntKind.wrap .i64 (((x0 : Nat) : Int) + 1)) : Value) = .int .i64 (((x0 : Nat) : Int) + 1) ∧ (∃ x0' : Nat, (x0' ≤ List.length cs ∧ sp = .int .i64 (errs errCell (List.drop x0' cs))) ∧ (List.length cs - x0') < (List.length cs - x0) ∧ true = true ∧ ((.int .i64 (((x0 : Nat) : Int) + 1) : Value) = .int .i64 ((x0' : Nat) : Int) ∧ (.func (.func 104) #[] #[] : Value) = .func (.func 104) #[] #[] ∧ wk (.slice (some ⟨0, 0, some 2⟩) (List.length cs) (List.length cs) : Value) (.slice (some ⟨0, 0, some 2⟩) (List.length cs) (List.length cs) : Value) ∧ (.int .i64 (((List.length cs) : Nat) : Int) : Value) = .int .i64 (((List.length cs) : Nat) : Int) ∧ True) ∧ (True) ∧ (True) ∧ (True)))))))))) ∧ ((decide ((((x0 : Nat) : Int) : Int) < (((List.length cs) : Nat) : Int))) = false → (.int .i64 0 : Value) = sp)))
theorem EwrongC (sp : Value) (cs : List Cell) : vF prog msk (dm 0) 100000 true 40 true 133 [.slice (some ⟨0, 0, some 2⟩) (List.length cs) (List.length cs), .func (.func 104) #[] #[]] (readsT 0 [cs.flatMap cellC]) (some [])
  (.go 3 (.inv 3 (Nat) (0) [] [] (fun x0 => [(10, .int .i64 ((x0 : Nat) : Int)), (1, .func (.func 104) #[] #[]), (8, .slice (some ⟨0, 0, some 2⟩) (List.length cs) (List.length cs)), (9, .int .i64 (((List.length cs) : Nat) : Int))]) (fun x0 => []) (fun x0 => []) (fun x0 => []) (fun x0 => (x0 ≤ List.length cs ∧ sp = .int .i64 (errs errCell (List.drop x0 cs)))) (fun x0 => (List.length cs - x0)) (fun x0 => .go 0 (.fork (.need (.val (.agg #[.int .i64 (List.getD cs x0 zeroC).conc.lo, .int .i64 (List.getD cs x0 zeroC).conc.hi, .int .i64 (List.getD cs x0 zeroC).thick.lo, .int .i64 (List.getD cs x0 zeroC).thick.hi, .int .i64 (List.getD cs x0 zeroC).ridge.lo, .int .i64 (List.getD cs x0 zeroC).ridge.hi, .int .i64 (List.getD cs x0 zeroC).press.lo, .int .i64 (List.getD cs x0 zeroC).press.hi]) (.go 3 (.bind (Int) (fun r1 => .ans [] (.int .i64 r1) [] (.go 2 (.fork (.auto) (.go 0 (.slot 20 (.int .i64 (((x0 : Nat) : Int) + 1)) (.go 0 (.again []))))))))))) (.auto)))))
  (fun v _ _ => v = sp) = RwrongC sp cs := by kernel_rfl
def RCheckChart (sp : Value) (w h t : Int) (cs : List Cell) : Prop :=
  (∃ r0 : Int, ((True) ∧ (∀ H' : Heap, H'.length = 2 → (True) → KCall prog 132 [.int .i64 w, .int .i64 h, .int .i64 t] H' [] (Is (.int .i64 r0) H')) ∧ ((((r0 : Int) != 0) = true → (.int .i64 r0 : Value) = sp) ∧ (((r0 : Int) != 0) = false → ((.int .i64 (IntKind.wrap .i64 (w * h)) : Value) = .int .i64 (w * h) ∧ (((((((List.length cs) : Nat) : Int) : Int) != (w * h)) = true → (.int .i64 1 : Value) = sp) ∧ ((((((List.length cs) : Nat) : Int) : Int) != (w * h)) = false → (∃ r1 : Int, (((some (.cells false 0 (List.flatMap cellC cs) : KObj) = some (.cells false 0 (List.flatMap cellC cs) : KObj)) ∧ True) ∧ (∀ H' : Heap, H'.length = 2 → (H'[0]? = some (.cells false 0 (List.flatMap cellC cs) : KObj) ∧ True) → KCall prog 133 [.slice (some ⟨0, 0, some 2⟩) (List.length cs) (List.length cs), .func (.func 104) #[] #[]] H' [] (Is (.int .i64 r1) H')) ∧ (.int .i64 r1 : Value) = sp)))))))))
theorem ECheckChart (sp : Value) (w h t : Int) (cs : List Cell) : vF prog msk (dm 0) 100000 true 40 true 97 [.agg #[.int .i64 w, .int .i64 h, .int .i64 t, .slice (some ⟨0, 0, some 2⟩) (List.length cs) (List.length cs)]] (readsT 0 [cs.flatMap cellC]) (some [])
  (.go 7 (.bind (Int) (fun r0 => .ans [] (.int .i64 r0) [] (.go 2 (.fork (.auto) (.go 7 (.slot 21 (.int .i64 (w * h)) (.go 0 (.fork (.auto) (.go 1 (.bind (Int) (fun r1 => .ans [(0, .cells false 0 (List.flatMap cellC cs))] (.int .i64 r1) [] (.auto)))))))))))))
  (fun v _ _ => v = sp) = RCheckChart sp w h t cs := by kernel_rfl
end
end Go.Proofs.Ytkkgnalgmebfjaa
/- Ice: functions of charts. No condition. -/
namespace Go.Proofs.Ytkkgnalgmebfjaa
open Go Go.K
set_option maxRecDepth 100000
set_option linter.unusedVariables false
set_option linter.unusedSimpArgs false
noncomputable section
attribute [local irreducible] vF
theorem cellC_len (c : Cell) : (cellC c).length = 8 := rfl
theorem partCell {xs : List Cell} {x : Nat} (h : x < xs.length) : partA 8 (List.flatMap cellC xs) (0 + Int.toNat ((x : Nat) : Int) * 8) = some (.agg ⟨cellC (List.getD xs x zeroC)⟩) :=
  part_at (f := cellC) (d := zeroC) (c := 0) (m := 8) cellC_len h (by rw [Int.toNat_natCast]; omega) (by decide)
theorem plainC (n : Nat) (l : List Cell) : (l.flatMap cellC).all (belowC n) = true := plain_flat (fun _ => rfl) l
theorem kwrongC (xs : List Cell) (hn : xs.length ≤ 2 ^ 30) {H : Heap} {id : Nat} {own : Bool} {z : Nat} (hid : H[id]? = some (.cells own z (xs.flatMap cellC))) :
    KCall prog F.ice_wrong_ice_Cell_ [.slice (some ⟨id, 0, some 2⟩) xs.length xs.length, .func (.func F.ice_CheckCell) #[] #[]] H [] (Is (.int .i64 (errs errCell xs)) H) := by
  refine valR (Eq.mpr (EwrongC _ xs) ?_) (one_cs (plainC 0 xs)) rfl [id] rfl (one_id hid)
  unfold RwrongC
  refine ⟨rfl, ⟨Nat.zero_le _, rfl⟩, ?_, fun _ => rfl, ?_⟩
  · repeat' first | exact trivial | exact rfl | exact wk_refl _ | refine wkO_cells ?_ | refine wks_cons ?_ ?_ | exact wks_nil | exact wk_nil _ _ _ (.inl rfl) | (exact wk_Q (by omega)) | refine wk_tupL ?_ | refine wk_aggL ?_ | refine joinMax ?_ ?_ ?_ | refine joinMin ?_ ?_ ?_ | refine toMax ?_ | refine toMin ?_ | refine ⟨rfl, ?_⟩ | refine ⟨trivial, ?_⟩ | (refine forkD (fun h => ?_) (fun h => ?_)) | (refine forkNe (fun h => ?_) (fun h => ?_)) | (refine forkEq (fun h => ?_) (fun h => ?_)) | refine forkNot ?_ | (refine ⟨vI64 (by omega), ?_⟩) | (refine And.intro (by omega) ?_) | apply And.intro | (exact iEq (by omega)) | (exact vI64 (by omega))
  rintro x ⟨hx, hsp⟩
  refine forkD (fun h => ?_) (fun h => ?_)
  · have hlt : x < xs.length := by omega
    rw [errs_at (d := zeroC) hlt] at hsp
    refine ⟨by omega, partCell hlt, _, trivial, fun H' _ _ => kCheckCell _ H', ?_⟩
    refine forkNe (fun h1 => ?_) (fun h1 => ?_)
    · rw [hsp, if_neg h1]
    · repeat' first | (refine ⟨x + 1, ⟨by omega, by rw [hsp, if_pos h1]⟩, by omega, ?_⟩) | exact trivial | exact rfl | exact wk_refl _ | refine wkO_cells ?_ | refine wks_cons ?_ ?_ | exact wks_nil | exact wk_nil _ _ _ (.inl rfl) | (exact wk_Q (by omega)) | refine wk_tupL ?_ | refine wk_aggL ?_ | refine joinMax ?_ ?_ ?_ | refine joinMin ?_ ?_ ?_ | refine toMax ?_ | refine toMin ?_ | refine ⟨rfl, ?_⟩ | refine ⟨trivial, ?_⟩ | (refine forkD (fun h => ?_) (fun h => ?_)) | (refine forkNe (fun h => ?_) (fun h => ?_)) | (refine forkEq (fun h => ?_) (fun h => ?_)) | refine forkNot ?_ | (refine ⟨vI64 (by omega), ?_⟩) | (refine And.intro (by omega) ?_) | apply And.intro | (exact iEq (by omega)) | (exact vI64 (by omega))
  · rw [hsp, show x = xs.length by omega, List.drop_length]; rfl
theorem errChart_1 {w h t : Int} {cs : List Cell} (h0 : ¬ errSize w h t = 0) : errChart w h t cs = errSize w h t := first2_1 h0
theorem errChart_2 {w h t : Int} {cs : List Cell} (h0 : errSize w h t = 0) (h1 : (cs.length : Int) ≠ w * h) : errChart w h t cs = 1 := (first2_2 h0).trans (if_neg h1)
theorem errChart_3 {w h t : Int} {cs : List Cell} (h0 : errSize w h t = 0) (h1 : (cs.length : Int) = w * h) : errChart w h t cs = errs errCell cs := (first2_2 h0).trans (if_pos h1)
theorem size_mul {w h t : Int} (h0 : errSize w h t = 0) : 1 ≤ w * h ∧ w * h ≤ 1024 := by
  obtain ⟨h1, h2, h3, _⟩ := errSize_iff.1 h0
  refine ⟨?_, h3⟩
  have : 1 * 1 ≤ w * h := Int.mul_le_mul h1.1 h2.1 (by omega) (by omega)
  omega
theorem kCheckChart (w h t : Int) (cs : List Cell) {H : Heap} {id : Nat} {own : Bool} {z : Nat} (hid : H[id]? = some (.cells own z (cs.flatMap cellC))) :
    KCall prog F.ice_CheckChart [.agg #[.int .i64 w, .int .i64 h, .int .i64 t, .slice (some ⟨id, 0, some 2⟩) cs.length cs.length]] H [] (Is (.int .i64 (errChart w h t cs)) H) := by
  refine valR (Eq.mpr (ECheckChart _ w h t cs) ?_) (one_cs (plainC 0 cs)) rfl [id] rfl (one_id hid)
  unfold RCheckChart
  refine ⟨_, trivial, fun H' _ _ => ksize _ _ _ H', ?_⟩
  refine forkNe (fun h0 => iEq (errChart_1 h0).symm) (fun h0 => ?_)
  have hm := size_mul h0
  repeat' first | (refine ⟨_, ⟨rfl, trivial⟩, fun H' _ hd => kwrongC _ (by omega) hd.1, ?_⟩) | exact iEq (errChart_2 h0 h).symm | exact iEq (errChart_3 h0 h).symm | exact trivial | exact rfl | exact wk_refl _ | refine wkO_cells ?_ | refine wks_cons ?_ ?_ | exact wks_nil | exact wk_nil _ _ _ (.inl rfl) | (exact wk_Q (by omega)) | refine wk_tupL ?_ | refine wk_aggL ?_ | refine joinMax ?_ ?_ ?_ | refine joinMin ?_ ?_ ?_ | refine toMax ?_ | refine toMin ?_ | refine ⟨rfl, ?_⟩ | refine ⟨trivial, ?_⟩ | (refine forkD (fun h => ?_) (fun h => ?_)) | (refine forkNe (fun h => ?_) (fun h => ?_)) | (refine forkEq (fun h => ?_) (fun h => ?_)) | refine forkNot ?_ | (refine ⟨vI64 (by omega), ?_⟩) | (refine And.intro (by omega) ?_) | apply And.intro | (exact iEq (by omega)) | (exact vI64 (by omega))
end
end Go.Proofs.Ytkkgnalgmebfjaa
/- Drift: what comes together in a cell, and what a step makes of a field. No condition. -/
namespace Go.Proofs.Ytkkgnalgmebfjaa
set_option linter.unusedSimpArgs false
set_option linter.unusedVariables false
open Go Go.K
noncomputable section
/-- What has come to a cell: all Conc, and the greatest Thick and Ridge. -/
structure Pl where
  s : Int
  t : Int
  r : Int
def zeroP : Pl := ⟨0, 0, 0⟩
abbrev plC1 (p : Pl) : List Value := [.int .i64 p.s]
abbrev plC2 (p : Pl) : List Value := [.int .i64 0, .int .i64 p.t, .int .i64 p.r, .int .i64 0]
def addP (p : Pl) (x : Ice) : Pl := if x.conc = 0 then p else ⟨p.s + x.conc, max p.t x.thick, max p.r x.ridge⟩
def overP (p : Pl) : Int := max (p.s - 100) 0
def tellP (p : Pl) : Ice := ⟨p.s - overP p, min (p.t + Int.tdiv (overP p) 10) 400, min (p.r + Int.tdiv (overP p) 5) 100, min (Int.tdiv (overP p + 25 - 1) 25) 3⟩
/-- The closures of member j of two families; those of the first x of n. -/
def clos (f F1 F2 j : Nat) : Value := .func (.func f) #[] #[.pointer (some ⟨F1, 0, some (j + 3)⟩), .pointer (some ⟨F2, 0, some (j + 3)⟩)]
def closL (f F1 F2 x n : Nat) : List Value := (List.range n).map fun j => if j < x then clos f F1 F2 j else .nilFunc
/-- The first error of those at the first indices. -/
def errUp (e : Nat → Int) : Nat → Int
  | 0 => 0
  | k + 1 => first2 (errUp e k) (e k)
def isZ (x : Ice) : Bool := (x.conc == 0) && ((x.thick == 0) && ((x.ridge == 0) && ((x.press == 0) && true)))
def inMv (f : Flow) (m : Move) : Bool := (decide ((endA f).dx ≤ m.dx) && decide (m.dx ≤ (endZ f).dx)) && (decide ((endA f).dy ≤ m.dy) && decide (m.dy ≤ (endZ f).dy))
def mvErr (a : List Bool) (l : List Flow) (xs : List Ice) (ms : List Move) (k : Nat) : Int :=
  first2 (errIce (xs.getD k zeroI)) (if a.getD k false = true then (if isZ (xs.getD k zeroI) = true then 0 else 30) else (if inMv (l.getD k zeroF) (ms.getD k zeroM) = true then 0 else 30))
def errDr (w h : Int) (a : List Bool) (l : List Flow) (xs : List Ice) (ms : List Move) : Int :=
  first2 (errFlows w h a.length l) (if xs.length = l.length ∧ ms.length = l.length then errUp (mvErr a l xs ms) xs.length else 1)
/-- What has come to each cell from the first ones. -/
def plTo (w h : Int) (a : List Bool) (xs : List Ice) (ms : List Move) : Nat → List Pl
  | 0 => List.replicate a.length zeroP
  | k + 1 => if a.getD k false = true then plTo w h a xs ms k else
      (plTo w h a xs ms k).set (Int.toNat (targ w h a (k : Int) (ms.getD k zeroM))) (addP ((plTo w h a xs ms k).getD (Int.toNat (targ w h a (k : Int) (ms.getD k zeroM))) zeroP) (xs.getD k zeroI))
def driftI (w h : Int) (a : List Bool) (xs : List Ice) (ms : List Move) : List Ice := (plTo w h a xs ms xs.length).map tellP
def driftE (w h : Int) (a : List Bool) (xs : List Ice) (ms : List Move) : List Int := (plTo w h a xs ms xs.length).map overP
def fDrift (w h : Int) (a : List Bool) (l : List Flow) (xs : List Ice) (ms : List Move) : List Ice × List Int × Int :=
  if errDr w h a l xs ms = 0 then (driftI w h a xs ms, driftE w h a xs ms, 0) else ([], [], errDr w h a l xs ms)
end
end Go.Proofs.Ytkkgnalgmebfjaa
