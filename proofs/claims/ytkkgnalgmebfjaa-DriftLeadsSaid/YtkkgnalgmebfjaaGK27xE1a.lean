/- Small steps that texts about functions share. No condition. -/
import Derived.Test.YtkkgnalgmebfjaaGV10xV14
import Derived.Test.YtkkgnalgmebfjaaN
import Derived.Shelf.Sort.Plain
import Derived.Ground.Names2Prog
import Derived.Test.YtkkgnalgmebfjaaChecked
import Derived.Sort.Grow
import Derived.Deep.Draws
import Derived.IntWalk
namespace Go.K
set_option linter.unusedSimpArgs false
open Go
set_option linter.unusedVariables false
noncomputable section
theorem forkD {p A B : Prop} [Decidable p] (h1 : p → A) (h2 : ¬ p → B) : (decide p = true → A) ∧ (decide p = false → B) :=
  ⟨fun h => h1 (of_decide_eq_true h), fun h => h2 (of_decide_eq_false h)⟩
theorem forkNe {a b : Int} {A B : Prop} (h1 : a ≠ b → A) (h2 : a = b → B) : ((a != b) = true → A) ∧ ((a != b) = false → B) :=
  ⟨fun h => h1 (by simpa using h), fun h => h2 (by simpa using h)⟩
theorem forkEq {a b : Int} {A B : Prop} (h1 : a = b → A) (h2 : a ≠ b → B) : ((a == b) = true → A) ∧ ((a == b) = false → B) :=
  ⟨fun h => h1 (by simpa using h), fun h => h2 (by simpa using h)⟩
theorem forkNot {b : Bool} {A B : Prop} (h : (b = true → B) ∧ (b = false → A)) : ((!b) = true → A) ∧ ((!b) = false → B) := by
  cases b
  · exact ⟨fun _ => h.2 rfl, fun h => by cases h⟩
  · exact ⟨fun h => (by cases h), fun _ => h.1 rfl⟩
theorem forkB {b : Bool} {A B : Prop} (h1 : b = true → A) (h2 : b = false → B) : (b = true → A) ∧ (b = false → B) := ⟨h1, h2⟩
theorem forkF {b : Bool} {A B : Prop} (hb : b = false) (h1 : B) : (b = true → A) ∧ (b = false → B) := ⟨fun h => (by rw [hb] at h; cases h), fun _ => h1⟩
theorem iEq {k : IntKind} {a b : Int} (h : a = b) : (Value.int k a) = .int k b := by rw [h]
theorem bEq {a b : Bool} (h : a = b) : (Value.bool a) = .bool b := by rw [h]
theorem wI64 {n : Int} (h : -9223372036854775808 ≤ n ∧ n ≤ 9223372036854775807) : IntKind.wrap .i64 n = n := IntWalk.i64_in n h
theorem vI64 {n : Int} (h : -9223372036854775808 ≤ n ∧ n ≤ 9223372036854775807) : (Value.int .i64 (IntKind.wrap .i64 n)) = .int .i64 n := by rw [wI64 h]
theorem ite_max (a b : Int) : (if b > a then b else a) = max a b := by split <;> omega
theorem ite_min (a b : Int) : (if b < a then b else a) = min a b := by split <;> omega
theorem toMax {k : IntKind} {a b : Int} {Q : Int → Prop} (h : Q (max a b)) : ∃ y : Int, (Value.int k (if b > a then b else a)) = .int k y ∧ Q y := ⟨max a b, by rw [ite_max], h⟩
theorem toMin {k : IntKind} {a b : Int} {Q : Int → Prop} (h : Q (min a b)) : ∃ y : Int, (Value.int k (if b < a then b else a)) = .int k y ∧ Q y := ⟨min a b, by rw [ite_min], h⟩
/-- Branches that come together: the greater, the less. -/
theorem joinI {c : Bool} {v1 v2 : Int} {S1 S2 R : Int → Prop} (h1 : c = true → S1 v1) (h2 : c = false → S2 v2) (hr : ∀ x, x = (if c = true then v1 else v2) → R x) :
    (true = true ∧ (c = true → ∃ x' : Int, ((c = true ∧ x' = v1 ∧ True) ∨ (c = false ∧ x' = v2 ∧ True)) ∧ S1 x') ∧ (c = false → ∃ x' : Int, ((c = true ∧ x' = v1 ∧ True) ∨ (c = false ∧ x' = v2 ∧ True)) ∧ S2 x') ∧
      ∀ x : Int, ((c = true ∧ x = v1 ∧ True) ∨ (c = false ∧ x = v2 ∧ True)) → R x) := by
  refine ⟨rfl, fun h => ⟨v1, .inl ⟨h, rfl, trivial⟩, h1 h⟩, fun h => ⟨v2, .inr ⟨h, rfl, trivial⟩, h2 h⟩, fun x hx => hr x ?_⟩
  rcases hx with ⟨h, rfl, _⟩ | ⟨h, rfl, _⟩
  · rw [if_pos h]
  · rw [if_neg (by rw [h]; decide)]
theorem joinMax {a b : Int} {S1 S2 R : Int → Prop} (h1 : S1 b) (h2 : S2 a) (hr : R (max a b)) :
    (true = true ∧ (decide (a < b) = true → ∃ x' : Int, ((decide (a < b) = true ∧ x' = b ∧ True) ∨ (decide (a < b) = false ∧ x' = a ∧ True)) ∧ S1 x') ∧ (decide (a < b) = false → ∃ x' : Int, ((decide (a < b) = true ∧ x' = b ∧ True) ∨ (decide (a < b) = false ∧ x' = a ∧ True)) ∧ S2 x') ∧
      ∀ x : Int, ((decide (a < b) = true ∧ x = b ∧ True) ∨ (decide (a < b) = false ∧ x = a ∧ True)) → R x) :=
  joinI (fun _ => h1) (fun _ => h2) fun x hx => by
    have : x = max a b := by rw [hx]; simp only [decide_eq_true_eq]; split <;> omega
    rw [this]; exact hr
theorem joinMin {a b : Int} {S1 S2 R : Int → Prop} (h1 : S1 b) (h2 : S2 a) (hr : R (min a b)) :
    (true = true ∧ (decide (b < a) = true → ∃ x' : Int, ((decide (b < a) = true ∧ x' = b ∧ True) ∨ (decide (b < a) = false ∧ x' = a ∧ True)) ∧ S1 x') ∧ (decide (b < a) = false → ∃ x' : Int, ((decide (b < a) = true ∧ x' = b ∧ True) ∨ (decide (b < a) = false ∧ x' = a ∧ True)) ∧ S2 x') ∧
      ∀ x : Int, ((decide (b < a) = true ∧ x = b ∧ True) ∨ (decide (b < a) = false ∧ x = a ∧ True)) → R x) :=
  joinI (fun _ => h1) (fun _ => h2) fun x hx => by
    have : x = min a b := by rw [hx]; simp only [decide_eq_true_eq]; split <;> omega
    rw [this]; exact hr
theorem wks_cons {a b : Value} {r s : List Value} (h : wk a b) (hr : wks r s) : wks (a :: r) (b :: s) := ⟨h, hr⟩
theorem wks_nil : wks [] [] := trivial
theorem KCall.wkA {P : Program} {f : FuncId} {args args2 : List Value} {H : Heap} {M : List Nat} {Q : Value → Heap → Prop} (h : KCall P f args2 H M Q) (ha : wks args args2) : KCall P f args H M Q :=
  KCall.weakArgs [] (by rw [List.append_nil]; exact h) (wks_spec ha).1 (wks_spec ha).2
end
end Go.K
/- Drift: what all texts share. No condition. -/
namespace Go.Proofs.Ytkkgnalgmebfjaa
set_option linter.unusedSimpArgs false
open Go Go.K
set_option maxRecDepth 100000
set_option linter.unusedVariables false
noncomputable section
def dm (imp : Nat) : Value → MS
  | .func (.func f) _ _ => cond (Nat.testBit imp f) none (some [])
  | .func (.yield _) _ _ => none
  | _ => some []
structure Span where
  lo : Int
  hi : Int
structure Flow where
  x : Span
  y : Span
structure Move where
  dx : Int
  dy : Int
structure Basin where
  w : Int
  h : Int
  land : List Bool
abbrev boolC (b : Bool) : List Value := [.bool b]
abbrev intC (x : Int) : List Value := [.int .i64 x]
abbrev moveC (m : Move) : List Value := [.int .i64 m.dx, .int .i64 m.dy]
abbrev moveV (m : Move) : Value := .agg ⟨moveC m⟩
def zeroF : Flow := ⟨⟨0, 0⟩, ⟨0, 0⟩⟩
def zeroM : Move := ⟨0, 0⟩
/-- A basin whose land lies in a block. -/
abbrev basV (w h : Int) (id n : Nat) : Value := .agg #[.int .i64 w, .int .i64 h, .slice (some ⟨id, 0, some 2⟩) n n]
/-- A list by its indices. -/
def tabP {α : Type} (f : Nat → α) (n : Nat) : List α := (List.range n).map f
/-- Short names for what is printed: a number, a list (k: nil or whole; read only), what is as it was. -/
abbrev nI (x : Int) : Value := .int .i64 x
abbrev slQ (i k n : Nat) : Value := .slice (some ⟨i, 0, some k⟩) n n
abbrev someR (o : KObj) : Prop := (some o : Option KObj) = some o
abbrev keptR (n : Nat) (o : KObj) : Prop := (some o : Option KObj) = some o ∧ belowO n o = true
abbrev wkR (v : Value) : Prop := wk v v
theorem tabP_len {α : Type} (f : Nat → α) (n : Nat) : (tabP f n).length = n := by simp [tabP]
theorem tabP_succ {α : Type} (f : Nat → α) (n : Nat) : tabP f (n + 1) = tabP f n ++ [f n] := by simp [tabP, List.range_succ]
theorem tabP_get {α : Type} {f : Nat → α} {n k : Nat} {d : α} (h : k < n) : (tabP f n).getD k d = f k := by simp [tabP, List.getD_eq_getElem?_getD, List.getElem?_range h]
def first2 (e f : Int) : Int := if e = 0 then f else e
theorem first2_1 {e f : Int} (h : ¬ e = 0) : first2 e f = e := if_neg h
theorem first2_2 {e f : Int} (h : e = 0) : first2 e f = f := if_pos h
/-- A call's answer that is a value alone. -/
theorem valK {f : FuncId} {args : List Value} {h : Hint} {v : Value} (n : Nat) (hargs : ∀ σ, args.map (rn σ 5) = args) (hv : belowV 0 v = true)
    (hc : vF prog msk (dm 0) 100000 true n true f args ⟨0, .leaf⟩ (some []) h (fun v' _ _ => v' = v)) (H : Heap) : KCall prog f args H [] (Is v H) :=
  vcP mskOk mixed n hargs hv (by rw [glob0]; exact hc) H (by rw [glob0]; exact Nat.zero_le _)
theorem valR {f : FuncId} {args : List Value} {css : List (List Value)} {h : Hint} {v : Value} (hc : vF prog msk (dm 0) 100000 true 40 true f args (readsT 0 css) (some []) h (fun v' _ _ => v' = v)) (hcss : ∀ cs ∈ css, cs.all (belowC 0) = true) (hv : belowV 0 v = true)
    {H : Heap} (ids : List Nat) (hl : ids.length = css.length) (hids : ∀ (k : Nat) (cs : List Value), css[k]? = some cs → ∃ id own z, ids[k]? = some id ∧ H[id]? = some (KObj.cells own z cs)) :
    KCall prog f (args.map (rn (sgR 0 ids) 5)) H [] (Is v H) := by
  have := vcR0 (H := H) mskOk mixed 40 (v := v) hcss (by rw [glob0]; exact hc) hv ids hl hids
  rw [glob0] at this; exact this
theorem valN {f : FuncId} {args : List Value} {css : List (List Value)} {h : Hint} {v : Value} {new : List (Bool × KObj)} (hc : vF prog msk (dm 0) 100000 true 40 true f args (readsT 0 css) (some []) h (newK (readsT 0 css).n 3 v new)) (hcss : ∀ cs ∈ css, cs.all (belowC 0) = true)
    (hv : rnOk 3 v = true) (hv2 : rn (sgOnly (0 + css.length)) 3 v = v) (hn : (new.map (·.2)).all (fun o => rnoOk 3 o && o.owned) = true) (hn2 : (new.map (·.2)).map (rno (sgOnly (0 + css.length)) 3) = new.map (·.2))
    {H : Heap} (ids : List Nat) (hl : ids.length = css.length) (hids : ∀ (k : Nat) (cs : List Value), css[k]? = some cs → ∃ id own z, ids[k]? = some id ∧ H[id]? = some (KObj.cells own z cs)) :
    KCall prog f (args.map (rn (sgR 0 ids) 3)) H [] (Is (rn (sgUp (0 + css.length) H.length) 3 v) (H ++ (new.map (·.2)).map (rno (sgUp (0 + css.length) H.length) 3))) := by
  have := vcR (H := H) mskOk mixed 40 (v := v) (new := new) hcss (by rw [glob0]; exact hc) hv (by rw [glob0]; exact hv2) hn (by rw [glob0]; exact hn2) ids hl hids
  rw [glob0] at this; exact this
theorem one_id {H : Heap} {id : Nat} {own : Bool} {z : Nat} {cs : List Value} (hid : H[id]? = some (.cells own z cs)) : ∀ (k : Nat) (c : List Value), [cs][k]? = some c → ∃ id' own z, [id][k]? = some id' ∧ H[id']? = some (KObj.cells own z c) := by
  intro k c h
  match k with
  | 0 => cases h; exact ⟨id, own, z, rfl, hid⟩
theorem one_cs {cs : List Value} (h : cs.all (belowC 0) = true) : ∀ c ∈ [cs], c.all (belowC 0) = true := by intro c hc; rw [List.mem_singleton.1 hc]; exact h
/-- An answer with one new list. -/
theorem valQ {f : FuncId} {args : List Value} {c : List Value} {h : Hint} (v : Nat → Value) {z : Nat} {cs : List Value}
    (hc : vF prog msk (dm 0) 100000 true 40 true f args (readsT 0 [c]) (some []) h (newK (readsT 0 [c]).n 3 (v 1) [(true, .cells true z cs)]))
    (hp0 : c.all (belowC 0) = true) (hp : ∀ n, cs.all (belowC n) = true) (h1 : rnOk 3 (v 1) = true) (h2 : rn (sgOnly (0 + 1)) 3 (v 1) = v 1) (h3 : ∀ j, rn (sgUp (0 + 1) j) 3 (v 1) = v j)
    {H : Heap} {id : Nat} {own : Bool} {z2 : Nat} (hid : H[id]? = some (.cells own z2 c)) {args' : List Value} (ha : args.map (rn (sgR 0 [id]) 3) = args') :
    KCall prog f args' H [] (Is (v H.length) (H ++ [.cells true z cs])) := by
  subst ha
  have key := valN (css := [c]) (v := v 1) (new := [(true, .cells true z cs)]) hc (one_cs hp0) h1 h2
    (by show ((rnoOk 3 (.cells true z cs) && true) && true) = true
        rw [Bool.and_true, Bool.and_true]; exact (rnCl (σ := fun _ => none) (d := 0) (hp 0)).2)
    (congrArg (fun q => [KObj.cells true z q]) (rnCl (d := 0) (hp 0)).1) (H := H) [id] rfl (one_id hid)
  have e2 : (List.map (fun x : Bool × KObj => x.2) [(true, KObj.cells true z cs)]).map (rno (sgUp (0 + [c].length) H.length) 3) = [.cells true z cs] :=
    congrArg (fun q => [KObj.cells true z q]) (rnCl (d := 0) (hp 0)).1
  rw [e2, show rn (sgUp (0 + [c].length) H.length) 3 (v 1) = v H.length from h3 _] at key
  exact key
theorem twoId {H : Heap} {id id2 : Nat} {own own2 : Bool} {z z2 : Nat} {cs ds : List Value} (h1 : H[id]? = some (.cells own z cs)) (h2 : H[id2]? = some (.cells own2 z2 ds)) : ∀ (k : Nat) (c : List Value), [cs, ds][k]? = some c → ∃ id' own z, [id, id2][k]? = some id' ∧ H[id']? = some (KObj.cells own z c) := by
  intro k c h
  match k with
  | 0 => cases h; exact ⟨id, own, z, rfl, h1⟩
  | 1 => cases h; exact ⟨id2, own2, z2, rfl, h2⟩
theorem twoCs {cs ds : List Value} (h1 : cs.all (belowC 0) = true) (h2 : ds.all (belowC 0) = true) : ∀ c ∈ [cs, ds], c.all (belowC 0) = true := by
  intro c hc
  rcases List.mem_cons.1 hc with rfl | hc
  · exact h1
  · rw [List.mem_singleton.1 hc]; exact h2
end
end Go.Proofs.Ytkkgnalgmebfjaa
/- Drift: basins and flows: what functions answer. No condition. -/
namespace Go.Proofs.Ytkkgnalgmebfjaa
set_option linter.unusedSimpArgs false
set_option linter.unusedVariables false
open Go Go.K
noncomputable section
def rightS (s : Span) (n : Int) : Prop := -n ≤ s.lo ∧ s.lo ≤ s.hi ∧ s.hi ≤ n
instance (s : Span) (n : Int) : Decidable (rightS s n) := by unfold rightS; infer_instance
def rightF (f : Flow) : Prop := rightS f.x 2000 ∧ rightS f.y 2000
instance (f : Flow) : Decidable (rightF f) := by unfold rightF; infer_instance
def errBas (w h : Int) (n : Nat) : Int := if (1 ≤ w ∧ w ≤ 64) ∧ (1 ≤ h ∧ h ≤ 64) ∧ w * h ≤ 1024 then (if (n : Int) = w * h then 0 else 1) else 6
end
end Go.Proofs.Ytkkgnalgmebfjaa
/- What is to be shown of functions. Printed by a program. No condition. -/
namespace Go.Proofs.Ytkkgnalgmebfjaa
set_option linter.unusedSimpArgs false
open Go Go.K
set_option maxRecDepth 100000
set_option maxHeartbeats 4000000
set_option linter.unusedVariables false
noncomputable section
def RCheckBasin (sp : Value) (w h : Int) (a : List Bool) : Prop :=
  (((decide ((1 : Int) ≤ w)) = true → (((!(decide ((w : Int) ≤ 64))) = true → (nI 6 : Value) = sp) ∧ ((!(decide ((w : Int) ≤ 64))) = false → (((decide ((1 : Int) ≤ h)) = true → (((!(decide ((h : Int) ≤ 64))) = true → (nI 6 : Value) = sp) ∧ ((!(decide ((h : Int) ≤ 64))) = false → ((nI (IntKind.wrap .i64 (w * h)) : Value) = nI (w * h) ∧ (((decide ((1024 : Int) < (w * h))) = true → (nI 6 : Value) = sp) ∧ ((decide ((1024 : Int) < (w * h))) = false → ((nI (IntKind.wrap .i64 (w * h)) : Value) = nI (w * h) ∧ ((((((a.length : Nat) : Int) : Int) != (w * h)) = true → (nI 1 : Value) = sp) ∧ (((((a.length : Nat) : Int) : Int) != (w * h)) = false → (nI 0 : Value) = sp))))))))) ∧ ((decide ((1 : Int) ≤ h)) = false → (nI 6 : Value) = sp))))) ∧ ((decide ((1 : Int) ≤ w)) = false → (nI 6 : Value) = sp))
theorem ECheckBasin (sp : Value) (w h : Int) (a : List Bool) : vF prog msk (dm 0) 100000 true 40 true 20 [.agg #[nI w, nI h, slQ 0 2 a.length]] (readsT 0 [a.flatMap boolC]) (some [])
  (.go 9 (.gfork (.go 6 (.gfork (.auto) (.go 7 (.gfork (.go 7 (.gfork (.auto) (.go 4 (.slot 19 (nI (w * h)) (.go 2 (.fork (.auto) (.go 7 (.slot 30 (nI (w * h)) (.go 1 (.fork (.auto) (.auto))))))))))) (.auto))))) (.auto)))
  (fun v _ _ => v = sp) = RCheckBasin sp w h a := by kernel_rfl
def RrCheckBasin (sp : Value) (w h : Int) (a : List Bool) : Prop :=
  (((decide ((w : Int) < 1)) = true → (nI 6 : Value) = sp) ∧ ((decide ((w : Int) < 1)) = false → (((decide ((64 : Int) < w)) = true → (nI 6 : Value) = sp) ∧ ((decide ((64 : Int) < w)) = false → (((decide ((h : Int) < 1)) = true → (nI 6 : Value) = sp) ∧ ((decide ((h : Int) < 1)) = false → (((decide ((64 : Int) < h)) = true → (nI 6 : Value) = sp) ∧ ((decide ((64 : Int) < h)) = false → ((nI (IntKind.wrap .i64 (w * h)) : Value) = nI (w * h) ∧ (((decide ((1024 : Int) < (w * h))) = true → (nI 6 : Value) = sp) ∧ ((decide ((1024 : Int) < (w * h))) = false → ((nI (IntKind.wrap .i64 (w * h)) : Value) = nI (w * h) ∧ ((((((a.length : Nat) : Int) : Int) != (w * h)) = true → (nI 1 : Value) = sp) ∧ (((((a.length : Nat) : Int) : Int) != (w * h)) = false → (nI 0 : Value) = sp))))))))))))))
theorem ErCheckBasin (sp : Value) (w h : Int) (a : List Bool) : vF prog msk (dm 0) 100000 true 40 true 21 [.agg #[nI w, nI h, slQ 0 2 a.length]] (readsT 0 [a.flatMap boolC]) (some [])
  (.go 5 (.gfork (.auto) (.go 4 (.gfork (.auto) (.go 4 (.gfork (.auto) (.go 4 (.gfork (.auto) (.go 4 (.slot 26 (nI (w * h)) (.go 1 (.fork (.auto) (.go 7 (.slot 36 (nI (w * h)) (.go 0 (.fork (.auto) (.auto)))))))))))))))))
  (fun v _ _ => v = sp) = RrCheckBasin sp w h a := by kernel_rfl
end
end Go.Proofs.Ytkkgnalgmebfjaa
/- Drift: basins, flows, weather: what they answer. No condition. -/
namespace Go.Proofs.Ytkkgnalgmebfjaa
open Go Go.K
set_option maxRecDepth 100000
set_option linter.unusedVariables false
set_option linter.unusedSimpArgs false
noncomputable section
attribute [local irreducible] vF
theorem plainBL (n : Nat) (l : List Bool) : (l.flatMap boolC).all (belowC n) = true := plain_flat (fun _ => rfl) l
theorem mul_bd {w h : Int} (a : 1 ≤ w ∧ w ≤ 64) (b : 1 ≤ h ∧ h ≤ 64) : 1 ≤ w * h ∧ w * h ≤ 4096 := by
  have h1 : 1 * 1 ≤ w * h := Int.mul_le_mul a.1 b.1 (by omega) (by omega)
  have h2 : w * h ≤ 64 * 64 := Int.mul_le_mul a.2 b.2 (by omega) (by omega)
  omega
theorem kCheckBasin (w h : Int) (a : List Bool) {H : Heap} {id : Nat} {own : Bool} {z : Nat} (hid : H[id]? = some (.cells own z (a.flatMap boolC))) :
    KCall prog F.drift_CheckBasin [basV w h id a.length] H [] (Is (.int .i64 (errBas w h a.length)) H) := by
  refine valR (css := [a.flatMap boolC]) (v := .int .i64 (errBas w h a.length)) (Eq.mpr (ECheckBasin _ w h a) ?_) (one_cs (plainBL 0 a)) rfl [id] rfl (one_id hid)
  unfold RCheckBasin errBas
  obtain ⟨p, hp⟩ : ∃ p, w * h = p := ⟨_, rfl⟩
  have hb := fun a b => hp ▸ mul_bd (w := w) (h := h) a b
  simp only [hp]
  repeat' first | (exact iEq (by split <;> (try split) <;> omega)) | exact trivial | exact rfl | exact wk_refl _ | refine wkO_cells ?_ | refine wks_cons ?_ ?_ | exact wks_nil | exact wk_nil _ _ _ (.inl rfl) | (exact wk_Q (by omega)) | refine wk_tupL ?_ | refine wk_aggL ?_ | refine joinMax ?_ ?_ ?_ | refine joinMin ?_ ?_ ?_ | refine toMax ?_ | refine toMin ?_ | refine ⟨rfl, ?_⟩ | refine ⟨trivial, ?_⟩ | (refine forkD (fun h => ?_) (fun h => ?_)) | (refine forkNe (fun h => ?_) (fun h => ?_)) | (refine forkEq (fun h => ?_) (fun h => ?_)) | refine forkNot ?_ | (refine ⟨vI64 (by omega), ?_⟩) | (refine And.intro (by omega) ?_) | apply And.intro | (exact iEq (by omega)) | (exact vI64 (by omega))
theorem krCheckBasin (w h : Int) (a : List Bool) {H : Heap} {id : Nat} {own : Bool} {z : Nat} (hid : H[id]? = some (.cells own z (a.flatMap boolC))) :
    KCall prog F.polynyaref02_CheckBasin [basV w h id a.length] H [] (Is (.int .i64 (errBas w h a.length)) H) := by
  refine valR (css := [a.flatMap boolC]) (v := .int .i64 (errBas w h a.length)) (Eq.mpr (ErCheckBasin _ w h a) ?_) (one_cs (plainBL 0 a)) rfl [id] rfl (one_id hid)
  unfold RrCheckBasin errBas
  obtain ⟨p, hp⟩ : ∃ p, w * h = p := ⟨_, rfl⟩
  have hb := fun a b => hp ▸ mul_bd (w := w) (h := h) a b
  simp only [hp]
  repeat' first | (exact iEq (by split <;> (try split) <;> omega)) | exact trivial | exact rfl | exact wk_refl _ | refine wkO_cells ?_ | refine wks_cons ?_ ?_ | exact wks_nil | exact wk_nil _ _ _ (.inl rfl) | (exact wk_Q (by omega)) | refine wk_tupL ?_ | refine wk_aggL ?_ | refine joinMax ?_ ?_ ?_ | refine joinMin ?_ ?_ ?_ | refine toMax ?_ | refine toMin ?_ | refine ⟨rfl, ?_⟩ | refine ⟨trivial, ?_⟩ | (refine forkD (fun h => ?_) (fun h => ?_)) | (refine forkNe (fun h => ?_) (fun h => ?_)) | (refine forkEq (fun h => ?_) (fun h => ?_)) | refine forkNot ?_ | (refine ⟨vI64 (by omega), ?_⟩) | (refine And.intro (by omega) ?_) | apply And.intro | (exact iEq (by omega)) | (exact vI64 (by omega))
theorem errBas_0 {w h : Int} {n : Nat} (e : errBas w h n = 0) : (1 ≤ w ∧ w ≤ 64) ∧ (1 ≤ h ∧ h ≤ 64) ∧ w * h ≤ 1024 ∧ (n : Int) = w * h := by
  unfold errBas at e
  split at e
  · rename_i g; split at e
    · rename_i k; exact ⟨g.1, g.2.1, g.2.2, k⟩
    · omega
  · omega
end
end Go.Proofs.Ytkkgnalgmebfjaa
/- Drift: rounding, weather, the ends of a flow. No condition. -/
namespace Go.Proofs.Ytkkgnalgmebfjaa
open Go Go.K
set_option maxRecDepth 100000
set_option linter.unusedVariables false
set_option linter.unusedSimpArgs false
noncomputable section
attribute [local irreducible] vF
def inS (s : Span) (n : Int) : Prop := -n ≤ s.lo ∧ s.lo ≤ n ∧ -n ≤ s.hi ∧ s.hi ≤ n
instance (s : Span) (n : Int) : Decidable (inS s n) := by unfold inS; infer_instance
def ordF (f : Flow) : Prop := f.x.lo ≤ f.x.hi ∧ f.y.lo ≤ f.y.hi
instance (f : Flow) : Decidable (ordF f) := by unfold ordF; infer_instance
def windIn (p q : Flow) (size : Int) : Prop := inS p.x 500 ∧ inS p.y 500 ∧ inS q.x 3000 ∧ inS q.y 3000 ∧ 100 ≤ size ∧ size ≤ 100000
instance (p q : Flow) (size : Int) : Decidable (windIn p q size) := by unfold windIn; infer_instance
def endA (f : Flow) : Move := ⟨f.x.lo / 1000, f.y.lo / 1000⟩
def endZ (f : Flow) : Move := ⟨(f.x.hi + 999) / 1000, (f.y.hi + 999) / 1000⟩
end
end Go.Proofs.Ytkkgnalgmebfjaa
/- Drift: moves and targets, as lists. No condition. -/
namespace Go.Proofs.Ytkkgnalgmebfjaa
set_option linter.unusedSimpArgs false
set_option linter.unusedVariables false
open Go Go.K
noncomputable section
def nxF (f : Flow) : Nat := Int.toNat ((endZ f).dx - (endA f).dx + 1)
def nyF (f : Flow) : Nat := Int.toNat ((endZ f).dy - (endA f).dy + 1)
/-- The first moves of a row. -/
def mvRow (f : Flow) (j n : Nat) : List Move := tabP (fun i => (⟨(endA f).dx + (i : Int), (endA f).dy + (j : Int)⟩ : Move)) n
def mvTo (f : Flow) : Nat → List Move
  | 0 => []
  | j + 1 => mvTo f j ++ mvRow f j (nxF f)
def movesF (f : Flow) : List Move := mvTo f (nyF f)
def fMoves (f : Flow) : List Move × Int := if rightF f then (movesF f, 0) else ([], 30)
/-- Where a move leads. -/
def targ (w h : Int) (a : List Bool) (c : Int) (m : Move) : Int :=
  if (0 ≤ Int.tmod c w + m.dx ∧ Int.tmod c w + m.dx < w) ∧ (0 ≤ Int.tdiv c w + m.dy ∧ Int.tdiv c w + m.dy < h) ∧ a.getD (Int.toNat ((Int.tdiv c w + m.dy) * w + (Int.tmod c w + m.dx))) false = false then (Int.tdiv c w + m.dy) * w + (Int.tmod c w + m.dx) else c
def seaB (a : List Bool) (c : Int) : Bool := decide (0 ≤ c ∧ c < (a.length : Int)) && !(a.getD (Int.toNat c) false)
end
end Go.Proofs.Ytkkgnalgmebfjaa
/- What is to be shown of functions. Printed by a program. No condition. -/
namespace Go.Proofs.Ytkkgnalgmebfjaa
set_option linter.unusedSimpArgs false
open Go Go.K
set_option maxRecDepth 100000
set_option maxHeartbeats 4000000
set_option linter.unusedVariables false
noncomputable section
def Rtarget (sp : Value) (w h : Int) (a : List Bool) (c : Int) (m : Move) : Prop :=
  (((w : Int) ≠ 0) ∧ ((nI (IntKind.wrap .i64 ((Int.tmod c w) + m.dx)) : Value) = nI ((Int.tmod c w) + m.dx) ∧ (((w : Int) ≠ 0) ∧ ((nI (IntKind.wrap .i64 (Int.tdiv c w)) : Value) = nI (Int.tdiv c w) ∧ ((nI (IntKind.wrap .i64 ((Int.tdiv c w) + m.dy)) : Value) = nI ((Int.tdiv c w) + m.dy) ∧ ((nI (IntKind.wrap .i64 (w - 1)) : Value) = nI (w - 1) ∧ (((decide ((0 : Int) ≤ ((Int.tmod c w) + m.dx))) = true → (((!(decide ((((Int.tmod c w) + m.dx) : Int) ≤ (w - 1)))) = true → (nI c : Value) = sp) ∧ ((!(decide ((((Int.tmod c w) + m.dx) : Int) ≤ (w - 1)))) = false → ((nI (IntKind.wrap .i64 (h - 1)) : Value) = nI (h - 1) ∧ (((decide ((0 : Int) ≤ ((Int.tdiv c w) + m.dy))) = true → (((!(decide ((((Int.tdiv c w) + m.dy) : Int) ≤ (h - 1)))) = true → (nI c : Value) = sp) ∧ ((!(decide ((((Int.tdiv c w) + m.dy) : Int) ≤ (h - 1)))) = false → ((nI (IntKind.wrap .i64 (((Int.tdiv c w) + m.dy) * w)) : Value) = nI (((Int.tdiv c w) + m.dy) * w) ∧ ((nI (IntKind.wrap .i64 ((((Int.tdiv c w) + m.dy) * w) + ((Int.tmod c w) + m.dx))) : Value) = nI ((((Int.tdiv c w) + m.dy) * w) + ((Int.tmod c w) + m.dx)) ∧ (∃ y0 : Int, (nI ((((Int.tdiv c w) + m.dy) * w) + ((Int.tmod c w) + m.dx)) : Value) = nI y0 ∧ (((0 : Int) ≤ y0 ∧ (y0 : Int) < ((a.length : Nat) : Int)) ∧ (((a.flatMap boolC)[(0 + Int.toNat y0 * 1)]? = some (.bool (a.getD y0.toNat false))) ∧ (((a.getD y0.toNat false) = true → (nI c : Value) = sp) ∧ ((a.getD y0.toNat false) = false → ((nI (IntKind.wrap .i64 (((Int.tdiv c w) + m.dy) * w)) : Value) = nI (((Int.tdiv c w) + m.dy) * w) ∧ ((nI (IntKind.wrap .i64 ((((Int.tdiv c w) + m.dy) * w) + ((Int.tmod c w) + m.dx))) : Value) = nI ((((Int.tdiv c w) + m.dy) * w) + ((Int.tmod c w) + m.dx)) ∧ (∃ y1 : Int, (nI ((((Int.tdiv c w) + m.dy) * w) + ((Int.tmod c w) + m.dx)) : Value) = nI y1 ∧ (nI y1 : Value) = sp))))))))))))) ∧ ((decide ((0 : Int) ≤ ((Int.tdiv c w) + m.dy))) = false → (nI c : Value) = sp)))))) ∧ ((decide ((0 : Int) ≤ ((Int.tmod c w) + m.dx))) = false → (nI c : Value) = sp))))))))
theorem Etarget (sp : Value) (w h : Int) (a : List Bool) (c : Int) (m : Move) : vF prog msk (dm 0) 100000 true 40 true 63 [.agg #[nI w, nI h, slQ 0 2 a.length], nI c, .agg #[nI m.dx, nI m.dy]] (readsT 0 [a.flatMap boolC]) (some [])
  (.go 6 (.need (.go 2 (.slot 16 (nI ((Int.tmod c w) + m.dx)) (.go 3 (.need (.slot 21 (nI (Int.tdiv c w)) (.go 2 (.slot 24 (nI ((Int.tdiv c w) + m.dy)) (.go 6 (.slot 29 (nI (w - 1)) (.go 5 (.gfork (.go 6 (.gfork (.auto) (.go 4 (.slot 37 (nI (h - 1)) (.go 5 (.gfork (.go 7 (.gfork (.auto) (.go 7 (.slot 49 (nI (((Int.tdiv c w) + m.dy) * w)) (.go 1 (.slot 51 (nI ((((Int.tdiv c w) + m.dy) * w) + ((Int.tmod c w) + m.dx))) (.bind Int (fun y0 => .slot 51 (nI y0) (.need (.val (.bool (a.getD y0.toNat false)) (.go 0 (.fork (.auto) (.go 4 (.slot 60 (nI (((Int.tdiv c w) + m.dy) * w)) (.go 1 (.slot 62 (nI ((((Int.tdiv c w) + m.dy) * w) + ((Int.tmod c w) + m.dx))) (.bind Int (fun y1 => .slot 62 (nI y1) (.auto))))))))))))))))))) (.auto))))))) (.auto))))))))))))))
  (fun v _ _ => v = sp) = Rtarget sp w h a c m := by kernel_rfl
def Ris (sp : Value) (w h : Int) (a : List Bool) (c : Int) : Prop :=
  ((nI (IntKind.wrap .i64 (((a.length : Nat) : Int) - 1)) : Value) = nI (((a.length : Nat) : Int) - 1) ∧ (((decide ((0 : Int) ≤ c)) = true → (((decide ((c : Int) ≤ (((a.length : Nat) : Int) - 1))) = true → (((0 : Int) ≤ c ∧ (c : Int) < ((a.length : Nat) : Int)) ∧ (((a.flatMap boolC)[(0 + Int.toNat c * 1)]? = some (.bool (a.getD c.toNat false))) ∧ (.bool (!(a.getD c.toNat false)) : Value) = sp))) ∧ ((decide ((c : Int) ≤ (((a.length : Nat) : Int) - 1))) = false → (.bool false : Value) = sp))) ∧ ((decide ((0 : Int) ≤ c)) = false → (.bool false : Value) = sp)))
theorem Eis (sp : Value) (w h : Int) (a : List Bool) (c : Int) : vF prog msk (dm 0) 100000 true 40 true 62 [.agg #[nI w, nI h, slQ 0 2 a.length], nI c] (readsT 0 [a.flatMap boolC]) (some [])
  (.go 7 (.slot 10 (nI (((a.length : Nat) : Int) - 1)) (.go 5 (.gfork (.go 5 (.gfork (.go 3 (.need (.val (.bool (a.getD c.toNat false)) (.auto)))) (.auto))) (.auto)))))
  (fun v _ _ => v = sp) = Ris sp w h a c := by kernel_rfl
def RrisSea (sp : Value) (w h : Int) (a : List Bool) (c : Int) : Prop :=
  (((decide ((0 : Int) ≤ c)) = true → ((nI (IntKind.wrap .i64 (w * h)) : Value) = nI (w * h) ∧ (((decide ((c : Int) < (w * h))) = true → (((0 : Int) ≤ c ∧ (c : Int) < ((a.length : Nat) : Int)) ∧ (((a.flatMap boolC)[(0 + Int.toNat c * 1)]? = some (.bool (a.getD c.toNat false))) ∧ (.bool (!(a.getD c.toNat false)) : Value) = sp))) ∧ ((decide ((c : Int) < (w * h))) = false → (.bool false : Value) = sp)))) ∧ ((decide ((0 : Int) ≤ c)) = false → (.bool false : Value) = sp))
theorem ErisSea (sp : Value) (w h : Int) (a : List Bool) (c : Int) : vF prog msk (dm 0) 100000 true 40 true 79 [.agg #[nI w, nI h, slQ 0 2 a.length], nI c] (readsT 0 [a.flatMap boolC]) (some [])
  (.go 4 (.gfork (.go 5 (.slot 13 (nI (w * h)) (.go 2 (.gfork (.go 2 (.need (.val (.bool (a.getD c.toNat false)) (.auto)))) (.auto))))) (.auto)))
  (fun v _ _ => v = sp) = RrisSea sp w h a c := by kernel_rfl
end
end Go.Proofs.Ytkkgnalgmebfjaa
/- Drift: the moves of a flow: what they answer. No condition. -/
namespace Go.Proofs.Ytkkgnalgmebfjaa
open Go Go.K
set_option maxRecDepth 100000
set_option linter.unusedVariables false
set_option linter.unusedSimpArgs false
noncomputable section
attribute [local irreducible] vF
theorem flat_le {α : Type} {f : α → List Value} {n : Nat} (hf : ∀ x, (f x).length = n) (xs : List α) : 0 + xs.length * n ≤ (xs.flatMap f).length := by rw [flat_len hf]; omega
theorem wk_snoc {α : Type} {L M : List α} {x : α} {id : Nat} (hM : M = L ++ [x]) : wk (.slice (some ⟨id, 0, none⟩) (L.length + 1) (L.length + 1)) (.slice (some ⟨id, 0, some 1⟩) M.length M.length) := by
  have : M.length = L.length + 1 := by rw [hM, List.length_append]; rfl
  rw [this]; exact wk_Q (by omega)
theorem ob_snoc {α : Type} {f : α → List Value} {n : Nat} (hf : ∀ x, (f x).length = n) {L M : List α} {x : α} {c : List Value} {own : Bool} (hM : M = L ++ [x]) (hc : f x = c) :
    (some (KObj.cells own n (List.take (L.length * n) (List.drop 0 (L.flatMap f)) ++ List.take (1 * n) (List.drop 0 c))) : Option KObj) = some (.cells own n (M.flatMap f)) := by
  subst hc
  rw [hM, ← flat_snoc hf L x rfl, List.drop_zero, List.drop_zero, List.take_of_length_le (l := f x) (by rw [hf]; omega), List.take_of_length_le (by rw [flat_len hf]; omega)]
deriving instance DecidableEq for Move
end
end Go.Proofs.Ytkkgnalgmebfjaa
/- The library's sort of numbers, laid at this program (written by the kit's own tool). No condition. -/
namespace Go.Proofs.Ytkkgnalgmebfjaa
set_option linter.unusedSimpArgs false
set_option linter.unusedVariables false
open Go Go.Shelf
end Go.Proofs.Ytkkgnalgmebfjaa
/- The library's sort, by its contract, over canonical memory. No condition. -/
namespace Go.K
set_option linter.unusedSimpArgs false
open Go
set_option linter.unusedVariables false
variable {P : Program}

end Go.K
/- The library's sort of numbers, by the kit's contract, over canonical memory. No condition. -/
namespace Go.K
set_option linter.unusedSimpArgs false
open Go Go.Proofs Go.RowKit Go.Lib Go.Sort Go.Shelf
set_option linter.unusedVariables false
variable {P : Program}

end Go.K
/- Drift: where moves lead: what is answered. No condition. -/
namespace Go.Proofs.Ytkkgnalgmebfjaa
open Go Go.K
set_option maxRecDepth 100000
set_option linter.unusedVariables false
set_option linter.unusedSimpArgs false
noncomputable section
attribute [local irreducible] vF
theorem boolC_len (b : Bool) : (boolC b).length = 1 := rfl
theorem intC_len (x : Int) : (intC x).length = 1 := rfl
theorem plainIL (n : Nat) (l : List Int) : (l.flatMap intC).all (belowC n) = true := plain_flat (fun _ => rfl) l
theorem boolAt {a : List Bool} {k : Nat} (h : k < a.length) {off : Nat} (ho : off = k) : (a.flatMap boolC)[off]? = some (.bool (a.getD k false)) := cell_at (c := 0) boolC_len h (by omega) rfl
theorem intAt {a : List Int} {k : Nat} (h : k < a.length) {off : Nat} (ho : off = k) : (a.flatMap intC)[off]? = some (.int .i64 (a.getD k 0)) := cell_at (c := 0) intC_len h (by omega) rfl
theorem setl_mid : ∀ (n o A B : List Value), o.length = n.length → setl (A ++ (o ++ B)) A.length n = A ++ (n ++ B)
  | [], [], A, B, _ => rfl
  | v :: n, w :: o, A, B, h => by
    have e : (A ++ (w :: o ++ B)).set A.length v = (A ++ [v]) ++ (o ++ B) := by simp
    have := setl_mid n o (A ++ [v]) B (by simpa using h)
    simp only [setl]
    rw [e]
    simpa using this
theorem flat_set {α : Type} {f : α → List Value} {m : Nat} (hf : ∀ x, (f x).length = m) (xs : List α) (k : Nat) (hk : k < xs.length) (y : α) : setl (xs.flatMap f) (k * m) (f y) = (xs.set k y).flatMap f := by
  have e1 : xs = xs.take k ++ xs[k] :: xs.drop (k + 1) := by rw [← List.drop_eq_getElem_cons hk, List.take_append_drop]
  have e2 : xs.set k y = xs.take k ++ y :: xs.drop (k + 1) := by rw [List.set_eq_take_append_cons_drop, if_pos hk]
  have hl : ((xs.take k).flatMap f).length = k * m := by rw [flat_len hf, List.length_take, Nat.min_eq_left (Nat.le_of_lt hk)]
  rw [e2]
  conv => lhs; rw [e1]
  rw [List.flatMap_append, List.flatMap_cons, List.flatMap_append, List.flatMap_cons, ← hl]
  exact setl_mid _ _ _ _ (by rw [hf, hf])
/-- A basin that is right. -/
structure BasOk (w h : Int) (n : Nat) : Prop where
  w1 : 1 ≤ w ∧ w ≤ 64
  h1 : 1 ≤ h ∧ h ≤ 64
  p1 : w * h ≤ 1024
  n1 : (n : Int) = w * h
theorem basOk {w h : Int} {n : Nat} (e : errBas w h n = 0) : BasOk w h n := by
  obtain ⟨b1, b2, b3, b4⟩ := errBas_0 e
  exact ⟨b1, b2, b3, b4⟩
theorem divmod {w h c : Int} {n : Nat} (b : BasOk w h n) (hc : 0 ≤ c ∧ c < w * h) : (0 ≤ Int.tmod c w ∧ Int.tmod c w < w) ∧ (0 ≤ Int.tdiv c w ∧ Int.tdiv c w < h) := by
  have w1 := b.w1
  have e1 : Int.tdiv c w = c / w := Int.tdiv_eq_ediv_of_nonneg hc.1
  have e2 : Int.tmod c w = c % w := Int.tmod_eq_emod_of_nonneg hc.1
  rw [e1, e2]
  refine ⟨⟨Int.emod_nonneg _ (by omega), Int.emod_lt_of_pos _ (by omega)⟩, Int.ediv_nonneg hc.1 (by omega), Int.ediv_lt_of_lt_mul (by omega) (by rw [Int.mul_comm]; exact hc.2)⟩
theorem cellbd {w h x y : Int} (hx : 0 ≤ x ∧ x < w) (hy : 0 ≤ y ∧ y < h) : 0 ≤ y * w + x ∧ y * w + x < w * h := by
  have h1 : 0 ≤ y * w := Int.mul_nonneg hy.1 (by omega)
  have h2 : (y + 1) * w ≤ h * w := Int.mul_le_mul_of_nonneg_right (by omega) (by omega)
  rw [Int.add_mul, Int.one_mul, Int.mul_comm h w] at h2
  omega
def mvOk (m : Move) : Prop := (-2 ≤ m.dx ∧ m.dx ≤ 2) ∧ (-2 ≤ m.dy ∧ m.dy ≤ 2)
def tgIn (w h : Int) (a : List Bool) (c : Int) (m : Move) : Prop := (0 ≤ Int.tmod c w + m.dx ∧ Int.tmod c w + m.dx < w) ∧ (0 ≤ Int.tdiv c w + m.dy ∧ Int.tdiv c w + m.dy < h) ∧ a.getD (Int.toNat ((Int.tdiv c w + m.dy) * w + (Int.tmod c w + m.dx))) false = false
theorem targ_1 {w h : Int} {a : List Bool} {c : Int} {m : Move} (k : tgIn w h a c m) : targ w h a c m = (Int.tdiv c w + m.dy) * w + (Int.tmod c w + m.dx) := if_pos k
theorem targ_0 {w h : Int} {a : List Bool} {c : Int} {m : Move} (k : ¬ tgIn w h a c m) : targ w h a c m = c := if_neg k
theorem targ_bd {w h : Int} {a : List Bool} {c : Int} (hc : 0 ≤ c ∧ c < w * h) (m : Move) : 0 ≤ targ w h a c m ∧ targ w h a c m < w * h := by
  by_cases k : tgIn w h a c m
  · rw [targ_1 k]; exact cellbd k.1 k.2.1
  · rw [targ_0 k]; exact hc
theorem ktarget {w h : Int} {a : List Bool} {c : Int} {m : Move} (b : BasOk w h a.length) (hc : 0 ≤ c ∧ c < w * h) (hm : mvOk m) {H : Heap} {id : Nat} {own : Bool} {z : Nat} (hid : H[id]? = some (.cells own z (a.flatMap boolC))) :
    KCall prog F.drift_sea_target [basV w h id a.length, .int .i64 c, moveV m] H [] (Is (.int .i64 (targ w h a c m)) H) := by
  refine valR (css := [a.flatMap boolC]) (v := .int .i64 (targ w h a c m)) (Eq.mpr (Etarget _ w h a c m) ?_) (one_cs (plainBL 0 a)) rfl [id] rfl (one_id hid)
  unfold Rtarget
  have e1 := targ_1 (w := w) (h := h) (a := a) (c := c) (m := m)
  have e0 := targ_0 (w := w) (h := h) (a := a) (c := c) (m := m)
  unfold tgIn at e0 e1
  obtain ⟨⟨m1, m2⟩, m3, m4⟩ := hm
  obtain ⟨d1, d2⟩ := divmod b hc
  obtain ⟨b1, b2, b3, b4⟩ := b
  have cb := cellbd (w := w) (h := h) (x := Int.tmod c w + m.dx) (y := Int.tdiv c w + m.dy)
  have hx : -2 ≤ Int.tmod c w + m.dx ∧ Int.tmod c w + m.dx ≤ 66 := by omega
  have hy : -2 ≤ Int.tdiv c w + m.dy ∧ Int.tdiv c w + m.dy ≤ 66 := by omega
  have hy2 : 0 ≤ Int.tdiv c w ∧ Int.tdiv c w ≤ 64 := by omega
  generalize targ w h a c m = T at e0 e1 ⊢
  generalize Int.tmod c w + m.dx = X at *
  generalize Int.tdiv c w + m.dy = Y at *
  generalize Y * w = P at *
  generalize w * h = Q at *
  repeat' first | (exact iEq (e0 (fun k => by omega)).symm) | refine ⟨_, rfl, ?_⟩ | (refine ⟨fun hb => iEq (e0 fun k => Bool.false_ne_true (k.2.2.symm.trans hb)).symm, fun hb => ?_⟩) | (exact boolAt (by omega) (by omega)) | (exact iEq (e1 ⟨by omega, by omega, hb⟩).symm) | omega | exact trivial | exact rfl | exact wk_refl _ | refine wkO_cells ?_ | refine wks_cons ?_ ?_ | exact wks_nil | exact wk_nil _ _ _ (.inl rfl) | (exact wk_Q (by omega)) | refine wk_tupL ?_ | refine wk_aggL ?_ | refine joinMax ?_ ?_ ?_ | refine joinMin ?_ ?_ ?_ | refine toMax ?_ | refine toMin ?_ | refine ⟨rfl, ?_⟩ | refine ⟨trivial, ?_⟩ | (refine forkD (fun h => ?_) (fun h => ?_)) | (refine forkNe (fun h => ?_) (fun h => ?_)) | (refine forkEq (fun h => ?_) (fun h => ?_)) | refine forkNot ?_ | (refine ⟨vI64 (by omega), ?_⟩) | (refine And.intro (by omega) ?_) | apply And.intro | (exact iEq (by omega)) | (exact vI64 (by omega))
theorem seaB_1 {a : List Bool} {c : Int} (k : 0 ≤ c ∧ c < (a.length : Int)) : seaB a c = !(a.getD (Int.toNat c) false) := by unfold seaB; rw [decide_eq_true k]; rfl
theorem seaB_0 {a : List Bool} {c : Int} (k : ¬ (0 ≤ c ∧ c < (a.length : Int))) : seaB a c = false := by unfold seaB; rw [decide_eq_false k]; rfl
theorem kis {w h : Int} {a : List Bool} {c : Int} (b : BasOk w h a.length) {H : Heap} {id : Nat} {own : Bool} {z : Nat} (hid : H[id]? = some (.cells own z (a.flatMap boolC))) :
    KCall prog F.drift_sea_is [basV w h id a.length, .int .i64 c] H [] (Is (.bool (seaB a c)) H) := by
  refine valR (css := [a.flatMap boolC]) (v := .bool (seaB a c)) (Eq.mpr (Eis _ w h a c) ?_) (one_cs (plainBL 0 a)) rfl [id] rfl (one_id hid)
  unfold Ris
  have e1 := seaB_1 (a := a) (c := c)
  have e0 := seaB_0 (a := a) (c := c)
  obtain ⟨b1, b2, b3, b4⟩ := b
  generalize w * h = Q at *
  repeat' first | (exact congrArg Value.bool (e0 (by omega)).symm) | (exact congrArg Value.bool (e1 (by omega)).symm) | (exact boolAt (by omega) (by omega)) | exact trivial | exact rfl | exact wk_refl _ | refine wkO_cells ?_ | refine wks_cons ?_ ?_ | exact wks_nil | exact wk_nil _ _ _ (.inl rfl) | (exact wk_Q (by omega)) | refine wk_tupL ?_ | refine wk_aggL ?_ | refine joinMax ?_ ?_ ?_ | refine joinMin ?_ ?_ ?_ | refine toMax ?_ | refine toMin ?_ | refine ⟨rfl, ?_⟩ | refine ⟨trivial, ?_⟩ | (refine forkD (fun h => ?_) (fun h => ?_)) | (refine forkNe (fun h => ?_) (fun h => ?_)) | (refine forkEq (fun h => ?_) (fun h => ?_)) | refine forkNot ?_ | (refine ⟨vI64 (by omega), ?_⟩) | (refine And.intro (by omega) ?_) | apply And.intro | (exact iEq (by omega)) | (exact vI64 (by omega))
theorem krisSea {w h : Int} {a : List Bool} {c : Int} (b : BasOk w h a.length) {H : Heap} {id : Nat} {own : Bool} {z : Nat} (hid : H[id]? = some (.cells own z (a.flatMap boolC))) :
    KCall prog F.polynyaref02_isSea [basV w h id a.length, .int .i64 c] H [] (Is (.bool (seaB a c)) H) := by
  refine valR (css := [a.flatMap boolC]) (v := .bool (seaB a c)) (Eq.mpr (ErisSea _ w h a c) ?_) (one_cs (plainBL 0 a)) rfl [id] rfl (one_id hid)
  unfold RrisSea
  have e1 := seaB_1 (a := a) (c := c)
  have e0 := seaB_0 (a := a) (c := c)
  obtain ⟨b1, b2, b3, b4⟩ := b
  generalize w * h = Q at *
  repeat' first | (exact congrArg Value.bool (e0 (by omega)).symm) | (exact congrArg Value.bool (e1 (by omega)).symm) | (exact boolAt (by omega) (by omega)) | exact trivial | exact rfl | exact wk_refl _ | refine wkO_cells ?_ | refine wks_cons ?_ ?_ | exact wks_nil | exact wk_nil _ _ _ (.inl rfl) | (exact wk_Q (by omega)) | refine wk_tupL ?_ | refine wk_aggL ?_ | refine joinMax ?_ ?_ ?_ | refine joinMin ?_ ?_ ?_ | refine toMax ?_ | refine toMin ?_ | refine ⟨rfl, ?_⟩ | refine ⟨trivial, ?_⟩ | (refine forkD (fun h => ?_) (fun h => ?_)) | (refine forkNe (fun h => ?_) (fun h => ?_)) | (refine forkEq (fun h => ?_) (fun h => ?_)) | refine forkNot ?_ | (refine ⟨vI64 (by omega), ?_⟩) | (refine And.intro (by omega) ?_) | apply And.intro | (exact iEq (by omega)) | (exact vI64 (by omega))
theorem getD_mem {α : Type} {l : List α} {d : α} {x : Nat} (h : x < l.length) : l.getD x d ∈ l := by
  rw [List.getD_eq_getElem?_getD, List.getElem?_eq_getElem h]; exact List.getElem_mem h
end
end Go.Proofs.Ytkkgnalgmebfjaa
/- What is to be shown of functions. Printed by a program. No condition. -/
namespace Go.Proofs.Ytkkgnalgmebfjaa
set_option linter.unusedSimpArgs false
open Go Go.K
set_option maxRecDepth 100000
set_option maxHeartbeats 4000000
set_option linter.unusedVariables false
noncomputable section
def RSameInts (sp : Value) (x p q : List Int) : Prop :=
  ((((((x.length : Nat) : Int) : Int) != ((x.length : Nat) : Int)) = true → (.bool false : Value) = sp) ∧ (((((x.length : Nat) : Int) : Int) != ((x.length : Nat) : Int)) = false → (true = true ∧ (0 ≤ List.length x) ∧ (true = true ∧ ((nI 0 : Value) = nI ((0 : Nat) : Int) ∧ wkR (slQ 1 2 x.length) ∧ wkR (slQ 0 2 x.length) ∧ True) ∧ (True) ∧ (True) ∧ (True)) ∧ (∀ x0 : Nat, true = true) ∧ ∀ x0 : Nat, (x0 ≤ List.length x) → (((decide (((x0 : Int) : Int) < ((x.length : Nat) : Int))) = true → (((0 : Int) ≤ (x0 : Int) ∧ ((x0 : Int) : Int) < ((x.length : Nat) : Int)) ∧ ((((x ++ p).flatMap intC)[(0 + Int.toNat (x0 : Int) * 1)]? = some (nI (x.getD x0 0))) ∧ (((0 : Int) ≤ (x0 : Int) ∧ ((x0 : Int) : Int) < ((x.length : Nat) : Int)) ∧ ((((x ++ q).flatMap intC)[(0 + Int.toNat (x0 : Int) * 1)]? = some (nI (x.getD x0 0))) ∧ (((((x.getD x0 0) : Int) != (x.getD x0 0)) = true → (.bool false : Value) = sp) ∧ ((((x.getD x0 0) : Int) != (x.getD x0 0)) = false → ((nI (IntKind.wrap .i64 ((x0 : Int) + 1)) : Value) = nI ((x0 : Int) + 1) ∧ (∃ x0' : Nat, (x0' ≤ List.length x) ∧ (List.length x - x0') < (List.length x - x0) ∧ true = true ∧ ((nI ((x0 : Int) + 1) : Value) = nI (x0' : Int) ∧ wkR (slQ 1 2 x.length) ∧ wkR (slQ 0 2 x.length) ∧ True) ∧ (True) ∧ (True) ∧ (True)))))))))) ∧ ((decide (((x0 : Int) : Int) < ((x.length : Nat) : Int))) = false → (.bool true : Value) = sp)))))
theorem ESameInts (sp : Value) (x p q : List Int) : vF prog msk (dm 0) 100000 true 40 true 30 [slQ 0 2 x.length, slQ 1 2 x.length] (readsT 0 [(x ++ p).flatMap intC, (x ++ q).flatMap intC]) (some [])
  (.go 5 (.fork (.auto) (.go 0 (.inv 3 (Nat) (0) [] [] (fun x0 => [(5, nI (x0 : Int)), (1, slQ 1 2 x.length), (0, slQ 0 2 x.length)]) (fun x0 => []) (fun x0 => []) (fun x0 => []) (fun x0 => (x0 ≤ List.length x)) (fun x0 => (List.length x - x0)) (fun x0 => .go 3 (.fork (.go 1 (.need (.val (nI (x.getD x0 0)) (.go 1 (.need (.val (nI (x.getD x0 0)) (.go 0 (.fork (.auto) (.go 1 (.slot 16 (nI ((x0 : Int) + 1)) (.go 0 (.again [])))))))))))) (.auto)))))))
  (fun v _ _ => v = sp) = RSameInts sp x p q := by kernel_rfl
def RSameTruths (sp : Value) (a : List Bool) : Prop :=
  ((((((a.length : Nat) : Int) : Int) != ((a.length : Nat) : Int)) = true → (.bool false : Value) = sp) ∧ (((((a.length : Nat) : Int) : Int) != ((a.length : Nat) : Int)) = false → (true = true ∧ (0 ≤ List.length a) ∧ (true = true ∧ ((nI 0 : Value) = nI ((0 : Nat) : Int) ∧ wkR (slQ 1 2 a.length) ∧ wkR (slQ 0 2 a.length) ∧ True) ∧ (True) ∧ (True) ∧ (True)) ∧ (∀ x0 : Nat, true = true) ∧ ∀ x0 : Nat, (x0 ≤ List.length a) → (((decide (((x0 : Int) : Int) < ((a.length : Nat) : Int))) = true → (((0 : Int) ≤ (x0 : Int) ∧ ((x0 : Int) : Int) < ((a.length : Nat) : Int)) ∧ (((a.flatMap boolC)[(0 + Int.toNat (x0 : Int) * 1)]? = some (.bool (a.getD x0 false))) ∧ (((0 : Int) ≤ (x0 : Int) ∧ ((x0 : Int) : Int) < ((a.length : Nat) : Int)) ∧ (((a.flatMap boolC)[(0 + Int.toNat (x0 : Int) * 1)]? = some (.bool (a.getD x0 false))) ∧ (((!((a.getD x0 false) == (a.getD x0 false))) = true → (.bool false : Value) = sp) ∧ ((!((a.getD x0 false) == (a.getD x0 false))) = false → ((nI (IntKind.wrap .i64 ((x0 : Int) + 1)) : Value) = nI ((x0 : Int) + 1) ∧ (∃ x0' : Nat, (x0' ≤ List.length a) ∧ (List.length a - x0') < (List.length a - x0) ∧ true = true ∧ ((nI ((x0 : Int) + 1) : Value) = nI (x0' : Int) ∧ wkR (slQ 1 2 a.length) ∧ wkR (slQ 0 2 a.length) ∧ True) ∧ (True) ∧ (True) ∧ (True)))))))))) ∧ ((decide (((x0 : Int) : Int) < ((a.length : Nat) : Int))) = false → (.bool true : Value) = sp)))))
theorem ESameTruths (sp : Value) (a : List Bool) : vF prog msk (dm 0) 100000 true 40 true 82 [slQ 0 2 a.length, slQ 1 2 a.length] (readsT 0 [a.flatMap boolC, a.flatMap boolC]) (some [])
  (.go 5 (.fork (.auto) (.go 0 (.inv 3 (Nat) (0) [] [] (fun x0 => [(5, nI (x0 : Int)), (1, slQ 1 2 a.length), (0, slQ 0 2 a.length)]) (fun x0 => []) (fun x0 => []) (fun x0 => []) (fun x0 => (x0 ≤ List.length a)) (fun x0 => (List.length a - x0)) (fun x0 => .go 3 (.fork (.go 1 (.need (.val (.bool (a.getD x0 false)) (.go 1 (.need (.val (.bool (a.getD x0 false)) (.go 0 (.fork (.auto) (.go 1 (.slot 16 (nI ((x0 : Int) + 1)) (.go 0 (.again [])))))))))))) (.auto)))))))
  (fun v _ _ => v = sp) = RSameTruths sp a := by kernel_rfl
def RBasin (w h : Int) (a : List Bool) : Prop :=
  ((a.length = 0 → (((0 + a.length) * 1 ≤ 2 ^ 44 ∧ a.length = 0) ∧ (true = true ∧ wk (.agg #[nI w, nI h, .slice none 0 0] : Value) (rn (sg 1 []) 3 (.agg #[nI w, nI h, slQ 1 1 a.length] : Value)) ∧ (True ∧ True)))) ∧ (¬ (a.length = 0) → (((0 + a.length) * 1 ≤ 2 ^ 44 ∧ a.length ≠ 0 ∧ (0 = 0) ∧ (a.length ≤ a.length ∧ 0 + a.length * 1 ≤ List.length (a.flatMap boolC)) ∧ ((((a.flatMap boolC).drop 0).take (a.length * 1)) : List Value).all (fun v => one1 v) = true) ∧ true = true ∧ (true = true ∧ wk (.agg #[nI w, nI h, .slice (some ⟨3, 0, none⟩) (0 + a.length) (0 + a.length)] : Value) (rn (sg 1 [(1, 3)]) 3 (.agg #[nI w, nI h, slQ 1 1 a.length] : Value)) ∧ ((some (.cells true 1 ([] ++ (((a.flatMap boolC).drop 0).take (a.length * 1))) : KObj) = some (.cells true 1 (a.flatMap boolC) : KObj) ∧ belowO 1 (.cells true 1 (a.flatMap boolC) : KObj) = true) ∧ True)))))
theorem EBasin (w h : Int) (a : List Bool) : vF prog msk (dm 0) 100000 true 40 true 18 [.agg #[nI w, nI h, slQ 0 2 a.length]] (readsT 0 [a.flatMap boolC]) (some [])
  (.go 12 (.cas (a.length = 0) (.val (.bool true) (.go 2 (.again []))) (.need (.go 2 (.again [(1, 3)])))))
  (newK ((readsT 0 [a.flatMap boolC]) : HT).n 3 (.agg #[nI w, nI h, slQ 1 1 a.length]) [(true, .cells true 1 (a.flatMap boolC))]) = RBasin w h a := by kernel_rfl
end
end Go.Proofs.Ytkkgnalgmebfjaa
/- Drift: targets, and how the law compares. No condition. -/
namespace Go.Proofs.Ytkkgnalgmebfjaa
open Go Go.K
set_option maxRecDepth 100000
set_option linter.unusedVariables false
set_option linter.unusedSimpArgs false
noncomputable section
attribute [local irreducible] vF
/-- An answer with one new list, of a function that reads two. -/
theorem valQ2 {f : FuncId} {args : List Value} {c d : List Value} {h : Hint} (v : Nat → Value) {z : Nat} {cs : List Value}
    (hc : vF prog msk (dm 0) 100000 true 40 true f args (readsT 0 [c, d]) (some []) h (newK (readsT 0 [c, d]).n 3 (v 2) [(true, .cells true z cs)]))
    (hp0 : c.all (belowC 0) = true) (hp1 : d.all (belowC 0) = true) (hp : ∀ n, cs.all (belowC n) = true) (h1 : rnOk 3 (v 2) = true) (h2 : rn (sgOnly (0 + 2)) 3 (v 2) = v 2) (h3 : ∀ j, rn (sgUp (0 + 2) j) 3 (v 2) = v j)
    {H : Heap} {id id2 : Nat} {own own2 : Bool} {z2 z3 : Nat} (hid : H[id]? = some (.cells own z2 c)) (hid2 : H[id2]? = some (.cells own2 z3 d)) {args' : List Value} (ha : args.map (rn (sgR 0 [id, id2]) 3) = args') :
    KCall prog f args' H [] (Is (v H.length) (H ++ [.cells true z cs])) := by
  subst ha
  have key := valN (css := [c, d]) (v := v 2) (new := [(true, .cells true z cs)]) hc (twoCs hp0 hp1) h1 h2
    (by show ((rnoOk 3 (.cells true z cs) && true) && true) = true
        rw [Bool.and_true, Bool.and_true]; exact (rnCl (σ := fun _ => none) (d := 0) (hp 0)).2)
    (congrArg (fun q => [KObj.cells true z q]) (rnCl (d := 0) (hp 0)).1) (H := H) [id, id2] rfl (twoId hid hid2)
  have e2 : (List.map (fun x : Bool × KObj => x.2) [(true, KObj.cells true z cs)]).map (rno (sgUp (0 + [c, d].length) H.length) 3) = [.cells true z cs] :=
    congrArg (fun q => [KObj.cells true z q]) (rnCl (d := 0) (hp 0)).1
  rw [e2, show rn (sgUp (0 + [c, d].length) H.length) 3 (v 2) = v H.length from h3 _] at key
  exact key
theorem seaB_t {a : List Bool} {c : Int} (s : seaB a c = true) : 0 ≤ c ∧ c < (a.length : Int) := by
  unfold seaB at s
  rw [Bool.and_eq_true] at s
  exact of_decide_eq_true s.1
theorem notB {b : Bool} (h : (!b) = true) : b = false := by cases b <;> first | rfl | cases h
theorem notB2 {b : Bool} (h : (!b) = false) : b = true := by cases b <;> first | rfl | cases h
theorem cell_x {x p : List Int} {k : Nat} (h : k < x.length) : ((x ++ p).flatMap intC)[0 + Int.toNat ((k : Nat) : Int) * 1]? = some (.int .i64 (x.getD k 0)) := by
  have := intAt (a := x ++ p) (k := k) (by rw [List.length_append]; omega) (off := 0 + Int.toNat ((k : Nat) : Int) * 1) (by omega)
  rw [this, List.getD_eq_getElem?_getD, List.getElem?_append_left h, ← List.getD_eq_getElem?_getD]
theorem kSameInts (x p q : List Int) (hx : x.length ≤ 4294967296) {H : Heap} {id id2 : Nat} {own own2 : Bool} {z z2 : Nat} (hid : H[id]? = some (.cells own z ((x ++ p).flatMap intC))) (hid2 : H[id2]? = some (.cells own2 z2 ((x ++ q).flatMap intC))) :
    KCall prog F.polynyakit_SameInts [.slice (some ⟨id, 0, some 2⟩) x.length x.length, .slice (some ⟨id2, 0, some 2⟩) x.length x.length] H [] (Is (.bool true) H) := by
  refine valR (Eq.mpr (ESameInts _ x p q) ?_) (twoCs (plainIL 0 _) (plainIL 0 _)) rfl [id, id2] rfl (twoId hid hid2)
  unfold RSameInts
  refine forkF (by simp only [bne_self_eq_false, beq_self_eq_true, Bool.and_self, Bool.not_true, Bool.not_false]) ⟨rfl, Nat.zero_le _, ?_, fun _ => rfl, ?_⟩
  · repeat' first | exact trivial | exact rfl | exact wk_refl _ | refine wkO_cells ?_ | refine wks_cons ?_ ?_ | exact wks_nil | exact wk_nil _ _ _ (.inl rfl) | (exact wk_Q (by omega)) | refine wk_tupL ?_ | refine wk_aggL ?_ | refine joinMax ?_ ?_ ?_ | refine joinMin ?_ ?_ ?_ | refine toMax ?_ | refine toMin ?_ | refine ⟨rfl, ?_⟩ | refine ⟨trivial, ?_⟩ | (refine forkD (fun h => ?_) (fun h => ?_)) | (refine forkNe (fun h => ?_) (fun h => ?_)) | (refine forkEq (fun h => ?_) (fun h => ?_)) | refine forkNot ?_ | (refine ⟨vI64 (by omega), ?_⟩) | (refine And.intro (by omega) ?_) | apply And.intro | (exact iEq (by omega)) | (exact vI64 (by omega))
  intro k hk
  refine forkD (fun h => ?_) (fun h => rfl)
  have hlt : k < x.length := by omega
  refine ⟨by omega, cell_x hlt, by omega, cell_x hlt, forkF (by simp only [bne_self_eq_false, beq_self_eq_true, Bool.and_self, Bool.not_true, Bool.not_false]) ⟨vI64 (by omega), k + 1, by omega, by omega, rfl, ?_⟩⟩
  repeat' first | exact trivial | exact rfl | exact wk_refl _ | refine wkO_cells ?_ | refine wks_cons ?_ ?_ | exact wks_nil | exact wk_nil _ _ _ (.inl rfl) | (exact wk_Q (by omega)) | refine wk_tupL ?_ | refine wk_aggL ?_ | refine joinMax ?_ ?_ ?_ | refine joinMin ?_ ?_ ?_ | refine toMax ?_ | refine toMin ?_ | refine ⟨rfl, ?_⟩ | refine ⟨trivial, ?_⟩ | (refine forkD (fun h => ?_) (fun h => ?_)) | (refine forkNe (fun h => ?_) (fun h => ?_)) | (refine forkEq (fun h => ?_) (fun h => ?_)) | refine forkNot ?_ | (refine ⟨vI64 (by omega), ?_⟩) | (refine And.intro (by omega) ?_) | apply And.intro | (exact iEq (by omega)) | (exact vI64 (by omega))
theorem kSameTruths (a : List Bool) (ha : a.length ≤ 4294967296) {H : Heap} {id id2 : Nat} {own own2 : Bool} {z z2 : Nat} (hid : H[id]? = some (.cells own z (a.flatMap boolC))) (hid2 : H[id2]? = some (.cells own2 z2 (a.flatMap boolC))) :
    KCall prog F.polynyakit_SameTruths [.slice (some ⟨id, 0, some 2⟩) a.length a.length, .slice (some ⟨id2, 0, some 2⟩) a.length a.length] H [] (Is (.bool true) H) := by
  refine valR (Eq.mpr (ESameTruths _ a) ?_) (twoCs (plainBL 0 _) (plainBL 0 _)) rfl [id, id2] rfl (twoId hid hid2)
  unfold RSameTruths
  refine forkF (by simp only [bne_self_eq_false, beq_self_eq_true, Bool.and_self, Bool.not_true, Bool.not_false]) ⟨rfl, Nat.zero_le _, ?_, fun _ => rfl, ?_⟩
  · repeat' first | exact trivial | exact rfl | exact wk_refl _ | refine wkO_cells ?_ | refine wks_cons ?_ ?_ | exact wks_nil | exact wk_nil _ _ _ (.inl rfl) | (exact wk_Q (by omega)) | refine wk_tupL ?_ | refine wk_aggL ?_ | refine joinMax ?_ ?_ ?_ | refine joinMin ?_ ?_ ?_ | refine toMax ?_ | refine toMin ?_ | refine ⟨rfl, ?_⟩ | refine ⟨trivial, ?_⟩ | (refine forkD (fun h => ?_) (fun h => ?_)) | (refine forkNe (fun h => ?_) (fun h => ?_)) | (refine forkEq (fun h => ?_) (fun h => ?_)) | refine forkNot ?_ | (refine ⟨vI64 (by omega), ?_⟩) | (refine And.intro (by omega) ?_) | apply And.intro | (exact iEq (by omega)) | (exact vI64 (by omega))
  intro k hk
  refine forkD (fun h => ?_) (fun h => rfl)
  have hlt : k < a.length := by omega
  refine ⟨by omega, boolAt hlt (by omega), by omega, boolAt hlt (by omega), forkF (by simp only [bne_self_eq_false, beq_self_eq_true, Bool.and_self, Bool.not_true, Bool.not_false]) ⟨vI64 (by omega), k + 1, by omega, by omega, rfl, ?_⟩⟩
  repeat' first | exact trivial | exact rfl | exact wk_refl _ | refine wkO_cells ?_ | refine wks_cons ?_ ?_ | exact wks_nil | exact wk_nil _ _ _ (.inl rfl) | (exact wk_Q (by omega)) | refine wk_tupL ?_ | refine wk_aggL ?_ | refine joinMax ?_ ?_ ?_ | refine joinMin ?_ ?_ ?_ | refine toMax ?_ | refine toMin ?_ | refine ⟨rfl, ?_⟩ | refine ⟨trivial, ?_⟩ | (refine forkD (fun h => ?_) (fun h => ?_)) | (refine forkNe (fun h => ?_) (fun h => ?_)) | (refine forkEq (fun h => ?_) (fun h => ?_)) | refine forkNot ?_ | (refine ⟨vI64 (by omega), ?_⟩) | (refine And.intro (by omega) ?_) | apply And.intro | (exact iEq (by omega)) | (exact vI64 (by omega))
theorem kBasin (w h : Int) (a : List Bool) (ha : a.length ≤ 4294967296) {H : Heap} {L : Nat} (hL : H.length = L) {id : Nat} {own : Bool} {z : Nat} (hid : H[id]? = some (.cells own z (a.flatMap boolC))) :
    KCall prog F.polynyalaw02_Basin [basV w h id a.length] H [] (Is (.agg #[.int .i64 w, .int .i64 h, .slice (some ⟨L, 0, some 1⟩) a.length a.length]) (H ++ [.cells true 1 (a.flatMap boolC)])) := by
  subst hL
  refine valQ (fun i => .agg #[.int .i64 w, .int .i64 h, .slice (some ⟨i, 0, some 1⟩) a.length a.length]) (Eq.mpr (EBasin w h a) ?_) (plainBL 0 a) (fun n => plainBL n _) rfl rfl (fun _ => rfl) hid rfl
  unfold RBasin
  have hfl : (a.flatMap boolC).length = a.length * 1 := flat_len boolC_len a
  refine ⟨fun h0 => ⟨⟨by omega, h0⟩, ?_⟩, fun h0 => ⟨⟨by omega, h0, rfl, ⟨Nat.le_refl _, by omega⟩, ?_⟩, rfl, ?_⟩⟩
  · rw [h0]
    repeat' first | exact trivial | exact rfl | exact wk_refl _ | refine wkO_cells ?_ | refine wks_cons ?_ ?_ | exact wks_nil | exact wk_nil _ _ _ (.inl rfl) | (exact wk_Q (by omega)) | refine wk_tupL ?_ | refine wk_aggL ?_ | refine joinMax ?_ ?_ ?_ | refine joinMin ?_ ?_ ?_ | refine toMax ?_ | refine toMin ?_ | refine ⟨rfl, ?_⟩ | refine ⟨trivial, ?_⟩ | (refine forkD (fun h => ?_) (fun h => ?_)) | (refine forkNe (fun h => ?_) (fun h => ?_)) | (refine forkEq (fun h => ?_) (fun h => ?_)) | refine forkNot ?_ | (refine ⟨vI64 (by omega), ?_⟩) | (refine And.intro (by omega) ?_) | apply And.intro | (exact iEq (by omega)) | (exact vI64 (by omega))
  · rw [List.drop_zero, ← hfl, List.take_length]
    exact List.all_eq_true.2 fun v hv => by obtain ⟨b, _, hb⟩ := List.mem_flatMap.1 hv; rw [List.mem_singleton.1 hb]; rfl
  · rw [List.drop_zero, ← hfl, List.take_length, List.nil_append, Nat.zero_add]
    repeat' first | exact plainBL _ _ | exact trivial | exact rfl | exact wk_refl _ | refine wkO_cells ?_ | refine wks_cons ?_ ?_ | exact wks_nil | exact wk_nil _ _ _ (.inl rfl) | (exact wk_Q (by omega)) | refine wk_tupL ?_ | refine wk_aggL ?_ | refine joinMax ?_ ?_ ?_ | refine joinMin ?_ ?_ ?_ | refine toMax ?_ | refine toMin ?_ | refine ⟨rfl, ?_⟩ | refine ⟨trivial, ?_⟩ | (refine forkD (fun h => ?_) (fun h => ?_)) | (refine forkNe (fun h => ?_) (fun h => ?_)) | (refine forkEq (fun h => ?_) (fun h => ?_)) | refine forkNot ?_ | (refine ⟨vI64 (by omega), ?_⟩) | (refine And.intro (by omega) ?_) | apply And.intro | (exact iEq (by omega)) | (exact vI64 (by omega))
end
end Go.Proofs.Ytkkgnalgmebfjaa
/- Ice: what all texts share. No condition. -/
namespace Go.Proofs.Ytkkgnalgmebfjaa
set_option linter.unusedSimpArgs false
open Go Go.K
set_option maxRecDepth 100000
set_option linter.unusedVariables false
noncomputable section
theorem i64_eq {a b : Int} (h : a = b) : (Value.int .i64 a) = .int .i64 b := by rw [h]
structure Cell where
  conc : Span
  thick : Span
  ridge : Span
  press : Span
structure Ice where
  conc : Int
  thick : Int
  ridge : Int
  press : Int
structure Rates where
  up : Ice
  down : Ice
structure Report where
  id : Int
  source : Int
  at_ : Int
  x : Int
  y : Int
  has : Int
  cell : Cell
abbrev cellC (c : Cell) : List Value := [.int .i64 c.conc.lo, .int .i64 c.conc.hi, .int .i64 c.thick.lo, .int .i64 c.thick.hi, .int .i64 c.ridge.lo, .int .i64 c.ridge.hi, .int .i64 c.press.lo, .int .i64 c.press.hi]
abbrev cellV (c : Cell) : Value := .agg ⟨cellC c⟩
end
end Go.Proofs.Ytkkgnalgmebfjaa
/- What is to be shown of functions. Printed by a program. No condition. -/
namespace Go.Proofs.Ytkkgnalgmebfjaa
set_option linter.unusedSimpArgs false
open Go Go.K
set_option maxRecDepth 100000
set_option maxHeartbeats 4000000
set_option linter.unusedVariables false
noncomputable section
def RCheckCell (sp : Value) (c : Cell) : Prop :=
  (((decide ((0 : Int) ≤ c.conc.lo)) = true → (((decide ((c.conc.lo : Int) ≤ 100)) = true → (((decide ((c.conc.lo : Int) ≤ c.conc.hi)) = true → (((!(decide ((c.conc.hi : Int) ≤ 100))) = true → (nI 20 : Value) = sp) ∧ ((!(decide ((c.conc.hi : Int) ≤ 100))) = false → (((decide ((0 : Int) ≤ c.thick.lo)) = true → (((decide ((c.thick.lo : Int) ≤ 400)) = true → (((decide ((c.thick.lo : Int) ≤ c.thick.hi)) = true → (((!(decide ((c.thick.hi : Int) ≤ 400))) = true → (nI 20 : Value) = sp) ∧ ((!(decide ((c.thick.hi : Int) ≤ 400))) = false → (((decide ((0 : Int) ≤ c.ridge.lo)) = true → (((decide ((c.ridge.lo : Int) ≤ 100)) = true → (((decide ((c.ridge.lo : Int) ≤ c.ridge.hi)) = true → (((!(decide ((c.ridge.hi : Int) ≤ 100))) = true → (nI 20 : Value) = sp) ∧ ((!(decide ((c.ridge.hi : Int) ≤ 100))) = false → (((decide ((0 : Int) ≤ c.press.lo)) = true → (((decide ((c.press.lo : Int) ≤ 3)) = true → (((decide ((c.press.lo : Int) ≤ c.press.hi)) = true → (((!(decide ((c.press.hi : Int) ≤ 3))) = true → (nI 20 : Value) = sp) ∧ ((!(decide ((c.press.hi : Int) ≤ 3))) = false → (nI 0 : Value) = sp))) ∧ ((decide ((c.press.lo : Int) ≤ c.press.hi)) = false → (nI 20 : Value) = sp))) ∧ ((decide ((c.press.lo : Int) ≤ 3)) = false → (nI 20 : Value) = sp))) ∧ ((decide ((0 : Int) ≤ c.press.lo)) = false → (nI 20 : Value) = sp))))) ∧ ((decide ((c.ridge.lo : Int) ≤ c.ridge.hi)) = false → (nI 20 : Value) = sp))) ∧ ((decide ((c.ridge.lo : Int) ≤ 100)) = false → (nI 20 : Value) = sp))) ∧ ((decide ((0 : Int) ≤ c.ridge.lo)) = false → (nI 20 : Value) = sp))))) ∧ ((decide ((c.thick.lo : Int) ≤ c.thick.hi)) = false → (nI 20 : Value) = sp))) ∧ ((decide ((c.thick.lo : Int) ≤ 400)) = false → (nI 20 : Value) = sp))) ∧ ((decide ((0 : Int) ≤ c.thick.lo)) = false → (nI 20 : Value) = sp))))) ∧ ((decide ((c.conc.lo : Int) ≤ c.conc.hi)) = false → (nI 20 : Value) = sp))) ∧ ((decide ((c.conc.lo : Int) ≤ 100)) = false → (nI 20 : Value) = sp))) ∧ ((decide ((0 : Int) ≤ c.conc.lo)) = false → (nI 20 : Value) = sp))
theorem ECheckCell (sp : Value) (c : Cell) : vF prog msk (dm 0) 100000 true 40 true 104 [.agg #[nI c.conc.lo, nI c.conc.hi, nI c.thick.lo, nI c.thick.hi, nI c.ridge.lo, nI c.ridge.hi, nI c.press.lo, nI c.press.hi]] ⟨0, .leaf⟩ (some [])
  (.go 54 (.gfork (.go 5 (.gfork (.go 15 (.gfork (.go 8 (.fork (.auto) (.go 30 (.gfork (.go 5 (.gfork (.go 15 (.gfork (.go 8 (.fork (.auto) (.go 30 (.gfork (.go 5 (.gfork (.go 15 (.gfork (.go 8 (.fork (.auto) (.go 30 (.gfork (.go 5 (.gfork (.go 15 (.gfork (.go 8 (.fork (.auto) (.auto))) (.auto))) (.auto))) (.auto))))) (.auto))) (.auto))) (.auto))))) (.auto))) (.auto))) (.auto))))) (.auto))) (.auto))) (.auto)))
  (fun v _ _ => v = sp) = RCheckCell sp c := by kernel_rfl
end
end Go.Proofs.Ytkkgnalgmebfjaa
/- Ice: the contracts of the functions of values alone. No condition. -/
namespace Go.Proofs.Ytkkgnalgmebfjaa
open Go Go.K
set_option maxRecDepth 100000
set_option linter.unusedVariables false
set_option linter.unusedSimpArgs false
noncomputable section
/-! ## What they compute -/
def rightSp (s : Span) (m : Int) : Prop := 0 ≤ s.lo ∧ s.lo ≤ m ∧ s.lo ≤ s.hi ∧ s.hi ≤ m
def rightC (c : Cell) : Prop := rightSp c.conc 100 ∧ rightSp c.thick 400 ∧ rightSp c.ridge 100 ∧ rightSp c.press 3
def rightI (x : Ice) : Prop := (0 ≤ x.conc ∧ x.conc ≤ 100) ∧ (0 ≤ x.thick ∧ x.thick ≤ 400) ∧ (0 ≤ x.ridge ∧ x.ridge ≤ 100) ∧ 0 ≤ x.press ∧ x.press ≤ 3
def rateI (x : Ice) : Prop := (0 ≤ x.conc ∧ x.conc ≤ 1000) ∧ (0 ≤ x.thick ∧ x.thick ≤ 1000) ∧ (0 ≤ x.ridge ∧ x.ridge ≤ 1000) ∧ 0 ≤ x.press ∧ x.press ≤ 1000
def rightR (m : Rates) : Prop := rateI m.up ∧ rateI m.down
instance (s : Span) (m : Int) : Decidable (rightSp s m) := by unfold rightSp; infer_instance
instance (c : Cell) : Decidable (rightC c) := by unfold rightC; infer_instance
instance (x : Ice) : Decidable (rightI x) := by unfold rightI; infer_instance
instance (x : Ice) : Decidable (rateI x) := by unfold rateI; infer_instance
instance (m : Rates) : Decidable (rightR m) := by unfold rightR; infer_instance
def errCell (c : Cell) : Int := if rightC c then 0 else 20
def zeroC : Cell := ⟨⟨0, 0⟩, ⟨0, 0⟩, ⟨0, 0⟩, ⟨0, 0⟩⟩
def hasS (s : Span) (n : Int) : Prop := s.lo ≤ n ∧ n ≤ s.hi
def hasC (c : Cell) (x : Ice) : Prop := hasS c.conc x.conc ∧ hasS c.thick x.thick ∧ hasS c.ridge x.ridge ∧ hasS c.press x.press
def insS (s t : Span) : Prop := t.lo ≤ s.lo ∧ s.hi ≤ t.hi
def insC (a b : Cell) : Prop := insS a.conc b.conc ∧ insS a.thick b.thick ∧ insS a.ridge b.ridge ∧ insS a.press b.press
def okC (c : Cell) : Prop := c.conc.lo ≤ c.conc.hi ∧ c.thick.lo ≤ c.thick.hi ∧ c.ridge.lo ≤ c.ridge.hi ∧ c.press.lo ≤ c.press.hi
instance (s : Span) (n : Int) : Decidable (hasS s n) := by unfold hasS; infer_instance
instance (c : Cell) (x : Ice) : Decidable (hasC c x) := by unfold hasC; infer_instance
instance (s t : Span) : Decidable (insS s t) := by unfold insS; infer_instance
instance (a b : Cell) : Decidable (insC a b) := by unfold insC; infer_instance
instance (c : Cell) : Decidable (okC c) := by unfold okC; infer_instance
def chg (rate hours : Int) : Int := (rate * hours + 23) / 24
/-! ## Numbers -/
theorem mulb {a b A B : Int} (h1 : 0 ≤ a) (h2 : a ≤ A) (h3 : 0 ≤ b) (h4 : b ≤ B) : 0 ≤ a * b ∧ a * b ≤ A * B :=
  ⟨Int.mul_nonneg h1 h3, Int.mul_le_mul h2 h4 h3 (Int.le_trans h1 h2)⟩

/-! ## Contracts -/
theorem errCell_pos {c : Cell} (h : rightC c) : errCell c = 0 := if_pos h
theorem errCell_neg {c : Cell} (h : ¬ rightC c) : errCell c = 20 := if_neg h
theorem errCell_iff {c : Cell} : errCell c = 0 ↔ rightC c := by unfold errCell; split <;> simp_all
theorem kCheckCell (c : Cell) (H : Heap) : KCall prog F.ice_CheckCell [cellV c] H [] (Is (.int .i64 (errCell c)) H) := by
  refine valK 40 (fun _ => rfl) rfl (Eq.mpr (ECheckCell _ c) ?_) H
  unfold RCheckCell
  simp only [decide_eq_true_eq, decide_eq_false_iff_not, Bool.not_eq_true', Bool.not_eq_false']
  repeat' (first | apply And.intro | intro _)
  all_goals first
    | exact i64_eq (errCell_neg (by unfold rightC rightSp; omega)).symm
    | exact i64_eq (errCell_pos (by unfold rightC rightSp; omega)).symm
/-! ## Two errors, then an answer -/
end
end Go.Proofs.Ytkkgnalgmebfjaa
/- Ice: lists of errors; the first cell, ice, report. No condition. -/
namespace Go.Proofs.Ytkkgnalgmebfjaa
set_option linter.unusedSimpArgs false
set_option linter.unusedVariables false
open Go Go.K
noncomputable section
def zeroI : Ice := ⟨0, 0, 0, 0⟩
def errs {α : Type} (e : α → Int) : List α → Int
  | [] => 0
  | x :: r => if e x = 0 then errs e r else e x
end
end Go.Proofs.Ytkkgnalgmebfjaa
/- What is to be shown of functions. Printed by a program. No condition. -/
namespace Go.Proofs.Ytkkgnalgmebfjaa
set_option linter.unusedSimpArgs false
open Go Go.K
set_option maxRecDepth 100000
set_option maxHeartbeats 4000000
set_option linter.unusedVariables false
noncomputable section
def RrCheckCell (sp : Value) (c : Cell) : Prop :=
  (((decide ((c.conc.lo : Int) < 0)) = true → (nI 20 : Value) = sp) ∧ ((decide ((c.conc.lo : Int) < 0)) = false → (((decide ((100 : Int) < c.conc.hi)) = true → (nI 20 : Value) = sp) ∧ ((decide ((100 : Int) < c.conc.hi)) = false → (((decide ((c.conc.hi : Int) < c.conc.lo)) = true → (nI 20 : Value) = sp) ∧ ((decide ((c.conc.hi : Int) < c.conc.lo)) = false → (((decide ((c.thick.lo : Int) < 0)) = true → (nI 20 : Value) = sp) ∧ ((decide ((c.thick.lo : Int) < 0)) = false → (((decide ((400 : Int) < c.thick.hi)) = true → (nI 20 : Value) = sp) ∧ ((decide ((400 : Int) < c.thick.hi)) = false → (((decide ((c.thick.hi : Int) < c.thick.lo)) = true → (nI 20 : Value) = sp) ∧ ((decide ((c.thick.hi : Int) < c.thick.lo)) = false → (((decide ((c.ridge.lo : Int) < 0)) = true → (nI 20 : Value) = sp) ∧ ((decide ((c.ridge.lo : Int) < 0)) = false → (((decide ((100 : Int) < c.ridge.hi)) = true → (nI 20 : Value) = sp) ∧ ((decide ((100 : Int) < c.ridge.hi)) = false → (((decide ((c.ridge.hi : Int) < c.ridge.lo)) = true → (nI 20 : Value) = sp) ∧ ((decide ((c.ridge.hi : Int) < c.ridge.lo)) = false → (((decide ((c.press.lo : Int) < 0)) = true → (nI 20 : Value) = sp) ∧ ((decide ((c.press.lo : Int) < 0)) = false → (((decide ((3 : Int) < c.press.hi)) = true → (nI 20 : Value) = sp) ∧ ((decide ((3 : Int) < c.press.hi)) = false → (((decide ((c.press.hi : Int) < c.press.lo)) = true → (nI 20 : Value) = sp) ∧ ((decide ((c.press.hi : Int) < c.press.lo)) = false → (nI 0 : Value) = sp))))))))))))))))))))))))
theorem ErCheckCell (sp : Value) (c : Cell) : vF prog msk (dm 0) 100000 true 40 true 135 [.agg #[nI c.conc.lo, nI c.conc.hi, nI c.thick.lo, nI c.thick.hi, nI c.ridge.lo, nI c.ridge.hi, nI c.press.lo, nI c.press.hi]] ⟨0, .leaf⟩ (some [])
  (.go 25 (.gfork (.auto) (.go 13 (.gfork (.auto) (.go 6 (.fork (.auto) (.go 28 (.gfork (.auto) (.go 18 (.gfork (.auto) (.go 6 (.fork (.auto) (.go 31 (.gfork (.auto) (.go 15 (.gfork (.auto) (.go 6 (.fork (.auto) (.go 31 (.gfork (.auto) (.go 18 (.gfork (.auto) (.go 6 (.fork (.auto) (.auto)))))))))))))))))))))))))
  (fun v _ _ => v = sp) = RrCheckCell sp c := by kernel_rfl
end
end Go.Proofs.Ytkkgnalgmebfjaa
/- Ice: the reference's functions of values; lists of errors. No condition. -/
namespace Go.Proofs.Ytkkgnalgmebfjaa
open Go Go.K
set_option maxRecDepth 100000
set_option linter.unusedVariables false
set_option linter.unusedSimpArgs false
noncomputable section
attribute [local irreducible] vF
theorem krCheckCell (c : Cell) (H : Heap) : KCall prog F.polynyaref01_CheckCell [cellV c] H [] (Is (.int .i64 (errCell c)) H) := by
  refine valK 40 (fun _ => rfl) rfl (Eq.mpr (ErCheckCell _ c) ?_) H
  unfold RrCheckCell
  simp only [decide_eq_true_eq, decide_eq_false_iff_not, Bool.not_eq_true', Bool.not_eq_false']
  repeat' (first | apply And.intro | intro _)
  all_goals first
    | exact i64_eq (errCell_neg (by unfold rightC rightSp; omega)).symm
    | exact i64_eq (errCell_pos (by unfold rightC rightSp; omega)).symm
/-! ## Lists -/
theorem drop_at {α : Type} {xs : List α} {d : α} {k : Nat} (hk : k < xs.length) : xs.drop k = xs.getD k d :: xs.drop (k + 1) := by
  rw [List.drop_eq_getElem_cons hk, List.getD_eq_getElem?_getD, List.getElem?_eq_getElem hk]; rfl
theorem take_at {α : Type} {xs : List α} {d : α} {k : Nat} (hk : k < xs.length) : xs.take (k + 1) = xs.take k ++ [xs.getD k d] := by
  rw [List.take_add_one, List.getElem?_eq_getElem hk, List.getD_eq_getElem?_getD, List.getElem?_eq_getElem hk]; rfl
theorem errs_at {α : Type} {e : α → Int} {xs : List α} {d : α} {k : Nat} (hk : k < xs.length) : errs e (xs.drop k) = if e (xs.getD k d) = 0 then errs e (xs.drop (k + 1)) else e (xs.getD k d) := by
  rw [drop_at (d := d) hk]; rfl
theorem errs_zero {α : Type} {e : α → Int} : ∀ {xs : List α}, errs e xs = 0 → ∀ x ∈ xs, e x = 0
  | [], _, x, h => by cases h
  | y :: r, he, x, h => by
    unfold errs at he
    split at he
    · rename_i h0
      rcases List.mem_cons.1 h with rfl | h
      · exact h0
      · exact errs_zero he x h
    · rename_i h0; exact absurd he h0
end
end Go.Proofs.Ytkkgnalgmebfjaa
/- What is to be shown of functions. Printed by a program. No condition. -/
namespace Go.Proofs.Ytkkgnalgmebfjaa
set_option linter.unusedSimpArgs false
open Go Go.K
set_option maxRecDepth 100000
set_option maxHeartbeats 4000000
set_option linter.unusedVariables false
noncomputable section
def Rsize (sp : Value) (w h t : Int) : Prop :=
  (((decide ((1 : Int) ≤ w)) = true → (((!(decide ((w : Int) ≤ 64))) = true → (nI 6 : Value) = sp) ∧ ((!(decide ((w : Int) ≤ 64))) = false → (((decide ((1 : Int) ≤ h)) = true → (((!(decide ((h : Int) ≤ 64))) = true → (nI 6 : Value) = sp) ∧ ((!(decide ((h : Int) ≤ 64))) = false → ((nI (IntKind.wrap .i64 (w * h)) : Value) = nI (w * h) ∧ (((decide ((1024 : Int) < (w * h))) = true → (nI 6 : Value) = sp) ∧ ((decide ((1024 : Int) < (w * h))) = false → (((decide ((0 : Int) ≤ t)) = true → (((!(decide ((t : Int) ≤ 10000))) = true → (nI 6 : Value) = sp) ∧ ((!(decide ((t : Int) ≤ 10000))) = false → (nI 0 : Value) = sp))) ∧ ((decide ((0 : Int) ≤ t)) = false → (nI 6 : Value) = sp)))))))) ∧ ((decide ((1 : Int) ≤ h)) = false → (nI 6 : Value) = sp))))) ∧ ((decide ((1 : Int) ≤ w)) = false → (nI 6 : Value) = sp))
theorem Esize (sp : Value) (w h t : Int) : vF prog msk (dm 0) 100000 true 40 true 132 [nI w, nI h, nI t] ⟨0, .leaf⟩ (some [])
  (.go 7 (.gfork (.go 6 (.gfork (.auto) (.go 6 (.gfork (.go 7 (.gfork (.auto) (.go 2 (.slot 18 (nI (w * h)) (.go 2 (.gfork (.auto) (.go 6 (.gfork (.go 6 (.fork (.auto) (.auto))) (.auto))))))))) (.auto))))) (.auto)))
  (fun v _ _ => v = sp) = Rsize sp w h t := by kernel_rfl
def Rrsides (sp : Value) (w h t : Int) : Prop :=
  (((decide ((w : Int) < 1)) = true → (nI 6 : Value) = sp) ∧ ((decide ((w : Int) < 1)) = false → (((decide ((64 : Int) < w)) = true → (nI 6 : Value) = sp) ∧ ((decide ((64 : Int) < w)) = false → (((decide ((h : Int) < 1)) = true → (nI 6 : Value) = sp) ∧ ((decide ((h : Int) < 1)) = false → (((decide ((64 : Int) < h)) = true → (nI 6 : Value) = sp) ∧ ((decide ((64 : Int) < h)) = false → ((nI (IntKind.wrap .i64 (w * h)) : Value) = nI (w * h) ∧ (((decide ((1024 : Int) < (w * h))) = true → (nI 6 : Value) = sp) ∧ ((decide ((1024 : Int) < (w * h))) = false → (((decide ((t : Int) < 0)) = true → (nI 6 : Value) = sp) ∧ ((decide ((t : Int) < 0)) = false → (((decide ((10000 : Int) < t)) = true → (nI 6 : Value) = sp) ∧ ((decide ((10000 : Int) < t)) = false → (nI 0 : Value) = sp)))))))))))))))
theorem Ersides (sp : Value) (w h t : Int) : vF prog msk (dm 0) 100000 true 40 true 134 [nI w, nI h, nI t] ⟨0, .leaf⟩ (some [])
  (.go 3 (.gfork (.auto) (.go 3 (.gfork (.auto) (.go 3 (.gfork (.auto) (.go 3 (.gfork (.auto) (.go 2 (.slot 24 (nI (w * h)) (.go 2 (.gfork (.auto) (.go 3 (.gfork (.auto) (.go 2 (.fork (.auto) (.auto)))))))))))))))))
  (fun v _ _ => v = sp) = Rrsides sp w h t := by kernel_rfl
end
end Go.Proofs.Ytkkgnalgmebfjaa
/- Ice: functions of cells that charts and reports use. No condition. -/
namespace Go.Proofs.Ytkkgnalgmebfjaa
open Go Go.K
set_option maxRecDepth 100000
set_option linter.unusedVariables false
set_option linter.unusedSimpArgs false
noncomputable section
attribute [local irreducible] vF
def sizeOk (w h t : Int) : Prop := (1 ≤ w ∧ w ≤ 64) ∧ (1 ≤ h ∧ h ≤ 64) ∧ w * h ≤ 1024 ∧ (0 ≤ t ∧ t ≤ 10000)
instance (w h t : Int) : Decidable (sizeOk w h t) := by unfold sizeOk; infer_instance
def errSize (w h t : Int) : Int := if sizeOk w h t then 0 else 6
theorem errSize_iff {w h t : Int} : errSize w h t = 0 ↔ sizeOk w h t := by unfold errSize; split <;> simp_all
theorem ksize (w h t : Int) (H : Heap) : KCall prog F.ice_size [.int .i64 w, .int .i64 h, .int .i64 t] H [] (Is (.int .i64 (errSize w h t)) H) := by
  refine valK 40 (fun _ => rfl) rfl (Eq.mpr (Esize _ w h t) ?_) H
  unfold Rsize
  have mb : (1 ≤ w ∧ w ≤ 64) → (1 ≤ h ∧ h ≤ 64) → 0 ≤ w * h ∧ w * h ≤ 64 * 64 := fun h1 h2 => mulb (by omega) h1.2 (by omega) h2.2
  repeat' first | (refine ⟨vI64 (by have := mb ⟨‹_›, ‹_›⟩ ⟨‹_›, ‹_›⟩; omega), ?_⟩) | (exact iEq (if_pos (by unfold sizeOk; omega)).symm) | (exact iEq (if_neg (by unfold sizeOk; omega)).symm) | exact trivial | exact rfl | refine joinMax ?_ ?_ ?_ | refine joinMin ?_ ?_ ?_ | refine toMax ?_ | refine toMin ?_ | refine ⟨rfl, ?_⟩ | refine ⟨trivial, ?_⟩ | (refine forkD (fun h => ?_) (fun h => ?_)) | (refine forkNe (fun h => ?_) (fun h => ?_)) | (refine forkEq (fun h => ?_) (fun h => ?_)) | refine forkNot ?_ | (refine ⟨vI64 (by omega), ?_⟩) | (refine And.intro (by omega) ?_) | apply And.intro | exact wk_refl _ | (exact iEq (by omega)) | (exact vI64 (by omega))
theorem krsides (w h t : Int) (H : Heap) : KCall prog F.polynyaref01_sides [.int .i64 w, .int .i64 h, .int .i64 t] H [] (Is (.int .i64 (errSize w h t)) H) := by
  refine valK 40 (fun _ => rfl) rfl (Eq.mpr (Ersides _ w h t) ?_) H
  unfold Rrsides
  have mb : (1 ≤ w ∧ w ≤ 64) → (1 ≤ h ∧ h ≤ 64) → 0 ≤ w * h ∧ w * h ≤ 64 * 64 := fun h1 h2 => mulb (by omega) h1.2 (by omega) h2.2
  repeat' first | (refine ⟨vI64 (by have := mb ⟨by omega, by omega⟩ ⟨by omega, by omega⟩; omega), ?_⟩) | (exact iEq (if_pos (by unfold sizeOk; omega)).symm) | (exact iEq (if_neg (by unfold sizeOk; omega)).symm) | exact trivial | exact rfl | refine joinMax ?_ ?_ ?_ | refine joinMin ?_ ?_ ?_ | refine toMax ?_ | refine toMin ?_ | refine ⟨rfl, ?_⟩ | refine ⟨trivial, ?_⟩ | (refine forkD (fun h => ?_) (fun h => ?_)) | (refine forkNe (fun h => ?_) (fun h => ?_)) | (refine forkEq (fun h => ?_) (fun h => ?_)) | refine forkNot ?_ | (refine ⟨vI64 (by omega), ?_⟩) | (refine And.intro (by omega) ?_) | apply And.intro | exact wk_refl _ | (exact iEq (by omega)) | (exact vI64 (by omega))
end
end Go.Proofs.Ytkkgnalgmebfjaa
/- Ice: charts: what functions of charts answer. No condition. -/
namespace Go.Proofs.Ytkkgnalgmebfjaa
set_option linter.unusedSimpArgs false
set_option linter.unusedVariables false
open Go Go.K
noncomputable section
structure Chart where
  w : Int
  h : Int
  hour : Int
  cells : List Cell
def errChart (w h t : Int) (cs : List Cell) : Int := first2 (errSize w h t) (if (cs.length : Int) = w * h then errs errCell cs else 1)
end
end Go.Proofs.Ytkkgnalgmebfjaa
/- What is to be shown of functions. Printed by a program. No condition. -/
namespace Go.Proofs.Ytkkgnalgmebfjaa
set_option linter.unusedSimpArgs false
open Go Go.K
set_option maxRecDepth 100000
set_option maxHeartbeats 4000000
set_option linter.unusedVariables false
noncomputable section
def RwrongC (sp : Value) (cs : List Cell) : Prop :=
  (true = true ∧ (0 ≤ List.length cs ∧ sp = nI (errs errCell (cs.drop 0))) ∧ (true = true ∧ ((nI 0 : Value) = nI ((0 : Nat) : Int) ∧ (.func (.func 104) #[] #[] : Value) = .func (.func 104) #[] #[] ∧ wkR (slQ 0 2 cs.length) ∧ (nI ((cs.length : Nat) : Int) : Value) = nI ((cs.length : Nat) : Int) ∧ True) ∧ (True) ∧ (True) ∧ (True)) ∧ (∀ x0 : Nat, true = true) ∧ ∀ x0 : Nat, (x0 ≤ List.length cs ∧ sp = nI (errs errCell (cs.drop x0))) → (((decide (((x0 : Int) : Int) < ((cs.length : Nat) : Int))) = true → (((0 : Int) ≤ (x0 : Int) ∧ ((x0 : Int) : Int) < ((cs.length : Nat) : Int)) ∧ ((partA 8 (cs.flatMap cellC) (0 + Int.toNat (x0 : Int) * 8) = some (.agg #[nI (cs.getD x0 zeroC).conc.lo, nI (cs.getD x0 zeroC).conc.hi, nI (cs.getD x0 zeroC).thick.lo, nI (cs.getD x0 zeroC).thick.hi, nI (cs.getD x0 zeroC).ridge.lo, nI (cs.getD x0 zeroC).ridge.hi, nI (cs.getD x0 zeroC).press.lo, nI (cs.getD x0 zeroC).press.hi])) ∧ (∃ r1 : Int, ((True) ∧ (∀ H' : Heap, H'.length = 2 → (True) → KCall prog 104 [.agg #[nI (cs.getD x0 zeroC).conc.lo, nI (cs.getD x0 zeroC).conc.hi, nI (cs.getD x0 zeroC).thick.lo, nI (cs.getD x0 zeroC).thick.hi, nI (cs.getD x0 zeroC).ridge.lo, nI (cs.getD x0 zeroC).ridge.hi, nI (cs.getD x0 zeroC).press.lo, nI (cs.getD x0 zeroC).press.hi]] H' [] (Is (nI r1) H')) ∧ ((((r1 : Int) != 0) = true → (nI r1 : Value) = sp) ∧ (((r1 : Int) != 0) = false → ((nI (IntKind.wrap .i64 ((x0 : Int) + 1)) : Value) = nI ((x0 : Int) + 1) ∧ (∃ x0' : Nat, (x0' ≤ List.length cs ∧ sp = nI (errs errCell (cs.drop x0'))) ∧ (List.length cs - x0') < (List.length cs - x0) ∧ true = true ∧ ((nI ((x0 : Int) + 1) : Value) = nI (x0' : Int) ∧ (.func (.func 104) #[] #[] : Value) = .func (.func 104) #[] #[] ∧ wkR (slQ 0 2 cs.length) ∧ (nI ((cs.length : Nat) : Int) : Value) = nI ((cs.length : Nat) : Int) ∧ True) ∧ (True) ∧ (True) ∧ (True)))))))))) ∧ ((decide (((x0 : Int) : Int) < ((cs.length : Nat) : Int))) = false → (nI 0 : Value) = sp)))
theorem EwrongC (sp : Value) (cs : List Cell) : vF prog msk (dm 0) 100000 true 40 true 133 [slQ 0 2 cs.length, .func (.func 104) #[] #[]] (readsT 0 [cs.flatMap cellC]) (some [])
  (.go 3 (.inv 3 (Nat) (0) [] [] (fun x0 => [(10, nI (x0 : Int)), (1, .func (.func 104) #[] #[]), (8, slQ 0 2 cs.length), (9, nI ((cs.length : Nat) : Int))]) (fun x0 => []) (fun x0 => []) (fun x0 => []) (fun x0 => (x0 ≤ List.length cs ∧ sp = nI (errs errCell (cs.drop x0)))) (fun x0 => (List.length cs - x0)) (fun x0 => .go 0 (.fork (.need (.val (.agg #[nI (cs.getD x0 zeroC).conc.lo, nI (cs.getD x0 zeroC).conc.hi, nI (cs.getD x0 zeroC).thick.lo, nI (cs.getD x0 zeroC).thick.hi, nI (cs.getD x0 zeroC).ridge.lo, nI (cs.getD x0 zeroC).ridge.hi, nI (cs.getD x0 zeroC).press.lo, nI (cs.getD x0 zeroC).press.hi]) (.go 3 (.bind (Int) (fun r1 => .ans [] (nI r1) [] (.go 2 (.fork (.auto) (.go 0 (.slot 20 (nI ((x0 : Int) + 1)) (.go 0 (.again []))))))))))) (.auto)))))
  (fun v _ _ => v = sp) = RwrongC sp cs := by kernel_rfl
def RCheckChart (sp : Value) (w h t : Int) (cs : List Cell) : Prop :=
  (∃ r0 : Int, ((True) ∧ (∀ H' : Heap, H'.length = 2 → (True) → KCall prog 132 [nI w, nI h, nI t] H' [] (Is (nI r0) H')) ∧ ((((r0 : Int) != 0) = true → (nI r0 : Value) = sp) ∧ (((r0 : Int) != 0) = false → ((nI (IntKind.wrap .i64 (w * h)) : Value) = nI (w * h) ∧ ((((((cs.length : Nat) : Int) : Int) != (w * h)) = true → (nI 1 : Value) = sp) ∧ (((((cs.length : Nat) : Int) : Int) != (w * h)) = false → (∃ r1 : Int, (((someR (.cells false 0 (cs.flatMap cellC))) ∧ True) ∧ (∀ H' : Heap, H'.length = 2 → (H'[0]? = some (.cells false 0 (cs.flatMap cellC) : KObj) ∧ True) → KCall prog 133 [slQ 0 2 cs.length, .func (.func 104) #[] #[]] H' [] (Is (nI r1) H')) ∧ (nI r1 : Value) = sp)))))))))
theorem ECheckChart (sp : Value) (w h t : Int) (cs : List Cell) : vF prog msk (dm 0) 100000 true 40 true 97 [.agg #[nI w, nI h, nI t, slQ 0 2 cs.length]] (readsT 0 [cs.flatMap cellC]) (some [])
  (.go 7 (.bind (Int) (fun r0 => .ans [] (nI r0) [] (.go 2 (.fork (.auto) (.go 7 (.slot 21 (nI (w * h)) (.go 0 (.fork (.auto) (.go 1 (.bind (Int) (fun r1 => .ans [(0, .cells false 0 (cs.flatMap cellC))] (nI r1) [] (.auto)))))))))))))
  (fun v _ _ => v = sp) = RCheckChart sp w h t cs := by kernel_rfl
def RrCheckChart (sp : Value) (w h t : Int) (cs : List Cell) : Prop :=
  (∃ r0 : Int, ((True) ∧ (∀ H' : Heap, H'.length = 2 → (True) → KCall prog 134 [nI w, nI h, nI t] H' [] (Is (nI r0) H')) ∧ ((((r0 : Int) != 0) = true → (nI r0 : Value) = sp) ∧ (((r0 : Int) != 0) = false → ((nI (IntKind.wrap .i64 (w * h)) : Value) = nI (w * h) ∧ ((((((cs.length : Nat) : Int) : Int) != (w * h)) = true → (nI 1 : Value) = sp) ∧ (((((cs.length : Nat) : Int) : Int) != (w * h)) = false → (true = true ∧ (0 ≤ List.length cs ∧ errs errCell cs = errs errCell (cs.drop 0)) ∧ (true = true ∧ ((nI 0 : Value) = nI ((0 : Nat) : Int) ∧ (.pointer (some ⟨1, 0, none⟩) : Value) = .pointer (some ⟨1, 0, none⟩) ∧ True) ∧ (True) ∧ (True) ∧ (True)) ∧ (∀ x1 : Nat, true = true) ∧ ∀ x1 : Nat, (x1 ≤ List.length cs ∧ errs errCell cs = errs errCell (cs.drop x1)) → (((decide (((x1 : Int) : Int) < ((cs.length : Nat) : Int))) = true → (((0 : Int) ≤ (x1 : Int) ∧ ((x1 : Int) : Int) < ((cs.length : Nat) : Int)) ∧ ((partA 8 (cs.flatMap cellC) (0 + Int.toNat (x1 : Int) * 8) = some (.agg #[nI (cs.getD x1 zeroC).conc.lo, nI (cs.getD x1 zeroC).conc.hi, nI (cs.getD x1 zeroC).thick.lo, nI (cs.getD x1 zeroC).thick.hi, nI (cs.getD x1 zeroC).ridge.lo, nI (cs.getD x1 zeroC).ridge.hi, nI (cs.getD x1 zeroC).press.lo, nI (cs.getD x1 zeroC).press.hi])) ∧ (∃ r2 : Int, ((True) ∧ (∀ H' : Heap, H'.length = 2 → (True) → KCall prog 135 [.agg #[nI (cs.getD x1 zeroC).conc.lo, nI (cs.getD x1 zeroC).conc.hi, nI (cs.getD x1 zeroC).thick.lo, nI (cs.getD x1 zeroC).thick.hi, nI (cs.getD x1 zeroC).ridge.lo, nI (cs.getD x1 zeroC).ridge.hi, nI (cs.getD x1 zeroC).press.lo, nI (cs.getD x1 zeroC).press.hi]] H' [] (Is (nI r2) H')) ∧ ((((r2 : Int) != 0) = true → (nI r2 : Value) = sp) ∧ (((r2 : Int) != 0) = false → ((nI (IntKind.wrap .i64 ((x1 : Int) + 1)) : Value) = nI ((x1 : Int) + 1) ∧ (∃ x1' : Nat, (x1' ≤ List.length cs ∧ errs errCell cs = errs errCell (cs.drop x1')) ∧ (List.length cs - x1') < (List.length cs - x1) ∧ true = true ∧ ((nI ((x1 : Int) + 1) : Value) = nI (x1' : Int) ∧ (.pointer (some ⟨1, 0, none⟩) : Value) = .pointer (some ⟨1, 0, none⟩) ∧ True) ∧ (True) ∧ (True) ∧ (True)))))))))) ∧ ((decide (((x1 : Int) : Int) < ((cs.length : Nat) : Int))) = false → (nI 0 : Value) = sp))))))))))
theorem ErCheckChart (sp : Value) (w h t : Int) (cs : List Cell) : vF prog msk (dm 0) 100000 true 40 true 99 [.agg #[nI w, nI h, nI t, slQ 0 2 cs.length]] (readsT 0 [cs.flatMap cellC]) (some [])
  (.go 7 (.bind (Int) (fun r0 => .ans [] (nI r0) [] (.go 2 (.fork (.auto) (.go 7 (.slot 23 (nI (w * h)) (.go 0 (.fork (.auto) (.go 0 (.inv 3 (Nat) (0) [] [] (fun x1 => [(4, nI (x1 : Int)), (1, .pointer (some ⟨1, 0, none⟩))]) (fun x1 => []) (fun x1 => []) (fun x1 => []) (fun x1 => (x1 ≤ List.length cs ∧ errs errCell cs = errs errCell (cs.drop x1))) (fun x1 => (List.length cs - x1)) (fun x1 => .go 4 (.fork (.go 2 (.need (.val (.agg #[nI (cs.getD x1 zeroC).conc.lo, nI (cs.getD x1 zeroC).conc.hi, nI (cs.getD x1 zeroC).thick.lo, nI (cs.getD x1 zeroC).thick.hi, nI (cs.getD x1 zeroC).ridge.lo, nI (cs.getD x1 zeroC).ridge.hi, nI (cs.getD x1 zeroC).press.lo, nI (cs.getD x1 zeroC).press.hi]) (.bind (Int) (fun r2 => .ans [] (nI r2) [] (.go 2 (.fork (.auto) (.go 1 (.slot 31 (nI ((x1 : Int) + 1)) (.go 0 (.again []))))))))))) (.auto))))))))))))))
  (fun v _ _ => v = sp) = RrCheckChart sp w h t cs := by kernel_rfl
def RChart (w h t : Int) (cs : List Cell) : Prop :=
  (true = true ∧ (0 ≤ List.length cs) ∧ (true = true ∧ ((nI 0 : Value) = nI ((0 : Nat) : Int) ∧ (.pointer (some ⟨1, 0, none⟩) : Value) = .pointer (some ⟨1, 0, none⟩) ∧ (.pointer (some ⟨2, 0, none⟩) : Value) = .pointer (some ⟨2, 0, none⟩) ∧ (.pointer (some ⟨3, 0, none⟩) : Value) = .pointer (some ⟨3, 0, none⟩) ∧ True) ∧ (wkO (.cells true 0 [nI w, nI h, nI t, .slice none 0 0] : KObj) (rno (sg 4 []) 3 (.cells true 0 [nI w, nI h, nI t, slQ 4 1 0] : KObj)) ∧ True) ∧ (True ∧ True) ∧ (True)) ∧ (∀ x0 : Nat, true = true) ∧ ∀ x0 : Nat, (x0 ≤ List.length cs) → (((decide (((x0 : Int) : Int) < ((cs.length : Nat) : Int))) = true → (((0 : Int) ≤ (x0 : Int) ∧ ((x0 : Int) : Int) < ((cs.length : Nat) : Int)) ∧ ((partA 8 (cs.flatMap cellC) (0 + Int.toNat (x0 : Int) * 8) = some (.agg #[nI (cs.getD x0 zeroC).conc.lo, nI (cs.getD x0 zeroC).conc.hi, nI (cs.getD x0 zeroC).thick.lo, nI (cs.getD x0 zeroC).thick.hi, nI (cs.getD x0 zeroC).ridge.lo, nI (cs.getD x0 zeroC).ridge.hi, nI (cs.getD x0 zeroC).press.lo, nI (cs.getD x0 zeroC).press.hi])) ∧ (((x0 + 1) * 64 ≤ 2 ^ 44 ∧ 1 ≠ 0 ∧ (x0 ≤ x0 ∧ 0 + x0 * 8 ≤ List.length ((cs.take x0).flatMap cellC)) ∧ (1 ≤ 1 ∧ 0 + 1 * 8 ≤ List.length ([nI (cs.getD x0 zeroC).conc.lo, nI (cs.getD x0 zeroC).conc.hi, nI (cs.getD x0 zeroC).thick.lo, nI (cs.getD x0 zeroC).thick.hi, nI (cs.getD x0 zeroC).ridge.lo, nI (cs.getD x0 zeroC).ridge.hi, nI (cs.getD x0 zeroC).press.lo, nI (cs.getD x0 zeroC).press.hi] : List Value)) ∧ (((([nI (cs.getD x0 zeroC).conc.lo, nI (cs.getD x0 zeroC).conc.hi, nI (cs.getD x0 zeroC).thick.lo, nI (cs.getD x0 zeroC).thick.hi, nI (cs.getD x0 zeroC).ridge.lo, nI (cs.getD x0 zeroC).ridge.hi, nI (cs.getD x0 zeroC).press.lo, nI (cs.getD x0 zeroC).press.hi] : List Value).drop 0).take (1 * 8)) : List Value).all (fun v => one1 v) = true) ∧ true = true ∧ ((nI (IntKind.wrap .i64 ((x0 : Int) + 1)) : Value) = nI ((x0 : Int) + 1) ∧ (∃ x0' : Nat, (x0' ≤ List.length cs) ∧ (List.length cs - x0') < (List.length cs - x0) ∧ true = true ∧ ((nI ((x0 : Int) + 1) : Value) = nI (x0' : Int) ∧ (.pointer (some ⟨1, 0, none⟩) : Value) = .pointer (some ⟨1, 0, none⟩) ∧ (.pointer (some ⟨2, 0, none⟩) : Value) = .pointer (some ⟨2, 0, none⟩) ∧ (.pointer (some ⟨3, 0, none⟩) : Value) = .pointer (some ⟨3, 0, none⟩) ∧ True) ∧ (wkO (.cells true 0 [nI w, nI h, nI t, .slice (some ⟨6, 0, none⟩) (x0 + 1) (x0 + 1)] : KObj) (rno (sg 4 [(4, 6)]) 3 (.cells true 0 [nI w, nI h, nI t, slQ 4 1 x0'] : KObj)) ∧ True) ∧ ((some (.cells true 8 (((((cs.take x0).flatMap cellC).drop 0).take (x0 * 8)) ++ ((([nI (cs.getD x0 zeroC).conc.lo, nI (cs.getD x0 zeroC).conc.hi, nI (cs.getD x0 zeroC).thick.lo, nI (cs.getD x0 zeroC).thick.hi, nI (cs.getD x0 zeroC).ridge.lo, nI (cs.getD x0 zeroC).ridge.hi, nI (cs.getD x0 zeroC).press.lo, nI (cs.getD x0 zeroC).press.hi] : List Value).drop 0).take (1 * 8))) : KObj) = some (.cells true 8 ((cs.take x0').flatMap cellC) : KObj) ∧ belowO 4 (.cells true 8 ((cs.take x0').flatMap cellC) : KObj) = true) ∧ True) ∧ (True))))))) ∧ ((decide (((x0 : Int) : Int) < ((cs.length : Nat) : Int))) = false → (true = true ∧ wk (.agg #[nI w, nI h, nI t, slQ 4 1 x0] : Value) (rn (sg 1 [(1, 4)]) 3 (.agg #[nI w, nI h, nI t, slQ 1 1 cs.length] : Value)) ∧ ((some (.cells true 8 ((cs.take x0).flatMap cellC) : KObj) = some (.cells true 8 (cs.flatMap cellC) : KObj) ∧ belowO 1 (.cells true 8 (cs.flatMap cellC) : KObj) = true) ∧ True)))))
theorem EChart (w h t : Int) (cs : List Cell) : vF prog msk (dm 0) 100000 true 40 true 45 [.agg #[nI w, nI h, nI t, slQ 0 2 cs.length]] (readsT 0 [cs.flatMap cellC]) (some [])
  (.go 11 (.inv 3 (Nat) (0) [] [3] (fun x0 => [(4, nI (x0 : Int)), (1, .pointer (some ⟨1, 0, none⟩)), (2, .pointer (some ⟨2, 0, none⟩)), (3, .pointer (some ⟨3, 0, none⟩))]) (fun x0 => [(3, false, .cells true 0 [nI w, nI h, nI t, slQ 4 1 x0])]) (fun x0 => [(true, .cells true 8 ((cs.take x0).flatMap cellC))]) (fun x0 => []) (fun x0 => (x0 ≤ List.length cs)) (fun x0 => (List.length cs - x0)) (fun x0 => .go 4 (.fork (.go 4 (.need (.val (.agg #[nI (cs.getD x0 zeroC).conc.lo, nI (cs.getD x0 zeroC).conc.hi, nI (cs.getD x0 zeroC).thick.lo, nI (cs.getD x0 zeroC).thick.hi, nI (cs.getD x0 zeroC).ridge.lo, nI (cs.getD x0 zeroC).ridge.hi, nI (cs.getD x0 zeroC).press.lo, nI (cs.getD x0 zeroC).press.hi]) (.go 0 (.need (.go 3 (.slot 18 (nI ((x0 : Int) + 1)) (.go 0 (.again [(4, 6)]))))))))) (.go 1 (.again [(1, 4)]))))))
  (newK ((readsT 0 [cs.flatMap cellC]) : HT).n 3 (.agg #[nI w, nI h, nI t, slQ 1 1 cs.length]) [(true, .cells true 8 (cs.flatMap cellC))]) = RChart w h t cs := by kernel_rfl
def RSame (sp : Value) (w h t : Int) (cs : List Cell) : Prop :=
  ((((w : Int) != w) = true → (.bool false : Value) = sp) ∧ (((w : Int) != w) = false → ((((h : Int) != h) = true → (.bool false : Value) = sp) ∧ (((h : Int) != h) = false → ((((t : Int) != t) = true → (.bool false : Value) = sp) ∧ (((t : Int) != t) = false → ((((((cs.length : Nat) : Int) : Int) != ((cs.length : Nat) : Int)) = true → (.bool false : Value) = sp) ∧ (((((cs.length : Nat) : Int) : Int) != ((cs.length : Nat) : Int)) = false → (true = true ∧ (0 ≤ List.length cs) ∧ (true = true ∧ ((nI 0 : Value) = nI ((0 : Nat) : Int) ∧ (.pointer (some ⟨2, 0, none⟩) : Value) = .pointer (some ⟨2, 0, none⟩) ∧ (.pointer (some ⟨3, 0, none⟩) : Value) = .pointer (some ⟨3, 0, none⟩) ∧ True) ∧ (True) ∧ (True) ∧ (True)) ∧ (∀ x0 : Nat, true = true) ∧ ∀ x0 : Nat, (x0 ≤ List.length cs) → (((decide (((x0 : Int) : Int) < ((cs.length : Nat) : Int))) = true → (((0 : Int) ≤ (x0 : Int) ∧ ((x0 : Int) : Int) < ((cs.length : Nat) : Int)) ∧ ((partA 8 (cs.flatMap cellC) (0 + Int.toNat (x0 : Int) * 8) = some (.agg #[nI (cs.getD x0 zeroC).conc.lo, nI (cs.getD x0 zeroC).conc.hi, nI (cs.getD x0 zeroC).thick.lo, nI (cs.getD x0 zeroC).thick.hi, nI (cs.getD x0 zeroC).ridge.lo, nI (cs.getD x0 zeroC).ridge.hi, nI (cs.getD x0 zeroC).press.lo, nI (cs.getD x0 zeroC).press.hi])) ∧ (((0 : Int) ≤ (x0 : Int) ∧ ((x0 : Int) : Int) < ((cs.length : Nat) : Int)) ∧ ((partA 8 (cs.flatMap cellC) (0 + Int.toNat (x0 : Int) * 8) = some (.agg #[nI (cs.getD x0 zeroC).conc.lo, nI (cs.getD x0 zeroC).conc.hi, nI (cs.getD x0 zeroC).thick.lo, nI (cs.getD x0 zeroC).thick.hi, nI (cs.getD x0 zeroC).ridge.lo, nI (cs.getD x0 zeroC).ridge.hi, nI (cs.getD x0 zeroC).press.lo, nI (cs.getD x0 zeroC).press.hi])) ∧ (((!(((((cs.getD x0 zeroC).conc.lo : Int) == (cs.getD x0 zeroC).conc.lo) && ((((cs.getD x0 zeroC).conc.hi : Int) == (cs.getD x0 zeroC).conc.hi) && true)) && (((((cs.getD x0 zeroC).thick.lo : Int) == (cs.getD x0 zeroC).thick.lo) && ((((cs.getD x0 zeroC).thick.hi : Int) == (cs.getD x0 zeroC).thick.hi) && true)) && (((((cs.getD x0 zeroC).ridge.lo : Int) == (cs.getD x0 zeroC).ridge.lo) && ((((cs.getD x0 zeroC).ridge.hi : Int) == (cs.getD x0 zeroC).ridge.hi) && true)) && (((((cs.getD x0 zeroC).press.lo : Int) == (cs.getD x0 zeroC).press.lo) && ((((cs.getD x0 zeroC).press.hi : Int) == (cs.getD x0 zeroC).press.hi) && true)) && true))))) = true → (.bool false : Value) = sp) ∧ ((!(((((cs.getD x0 zeroC).conc.lo : Int) == (cs.getD x0 zeroC).conc.lo) && ((((cs.getD x0 zeroC).conc.hi : Int) == (cs.getD x0 zeroC).conc.hi) && true)) && (((((cs.getD x0 zeroC).thick.lo : Int) == (cs.getD x0 zeroC).thick.lo) && ((((cs.getD x0 zeroC).thick.hi : Int) == (cs.getD x0 zeroC).thick.hi) && true)) && (((((cs.getD x0 zeroC).ridge.lo : Int) == (cs.getD x0 zeroC).ridge.lo) && ((((cs.getD x0 zeroC).ridge.hi : Int) == (cs.getD x0 zeroC).ridge.hi) && true)) && (((((cs.getD x0 zeroC).press.lo : Int) == (cs.getD x0 zeroC).press.lo) && ((((cs.getD x0 zeroC).press.hi : Int) == (cs.getD x0 zeroC).press.hi) && true)) && true))))) = false → ((nI (IntKind.wrap .i64 ((x0 : Int) + 1)) : Value) = nI ((x0 : Int) + 1) ∧ (∃ x0' : Nat, (x0' ≤ List.length cs) ∧ (List.length cs - x0') < (List.length cs - x0) ∧ true = true ∧ ((nI ((x0 : Int) + 1) : Value) = nI (x0' : Int) ∧ (.pointer (some ⟨2, 0, none⟩) : Value) = .pointer (some ⟨2, 0, none⟩) ∧ (.pointer (some ⟨3, 0, none⟩) : Value) = .pointer (some ⟨3, 0, none⟩) ∧ True) ∧ (True) ∧ (True) ∧ (True)))))))))) ∧ ((decide (((x0 : Int) : Int) < ((cs.length : Nat) : Int))) = false → (.bool true : Value) = sp)))))))))))
theorem ESame (sp : Value) (w h t : Int) (cs : List Cell) : vF prog msk (dm 0) 100000 true 40 true 52 [.agg #[nI w, nI h, nI t, slQ 0 2 cs.length], .agg #[nI w, nI h, nI t, slQ 1 2 cs.length]] (readsT 0 [cs.flatMap cellC, cs.flatMap cellC]) (some [])
  (.go 8 (.gfork (.auto) (.go 6 (.gfork (.auto) (.go 6 (.gfork (.auto) (.go 7 (.fork (.auto) (.go 0 (.inv 3 (Nat) (0) [] [] (fun x0 => [(5, nI (x0 : Int)), (2, .pointer (some ⟨2, 0, none⟩)), (3, .pointer (some ⟨3, 0, none⟩))]) (fun x0 => []) (fun x0 => []) (fun x0 => []) (fun x0 => (x0 ≤ List.length cs)) (fun x0 => (List.length cs - x0)) (fun x0 => .go 4 (.fork (.go 2 (.need (.val (.agg #[nI (cs.getD x0 zeroC).conc.lo, nI (cs.getD x0 zeroC).conc.hi, nI (cs.getD x0 zeroC).thick.lo, nI (cs.getD x0 zeroC).thick.hi, nI (cs.getD x0 zeroC).ridge.lo, nI (cs.getD x0 zeroC).ridge.hi, nI (cs.getD x0 zeroC).press.lo, nI (cs.getD x0 zeroC).press.hi]) (.go 2 (.need (.val (.agg #[nI (cs.getD x0 zeroC).conc.lo, nI (cs.getD x0 zeroC).conc.hi, nI (cs.getD x0 zeroC).thick.lo, nI (cs.getD x0 zeroC).thick.hi, nI (cs.getD x0 zeroC).ridge.lo, nI (cs.getD x0 zeroC).ridge.hi, nI (cs.getD x0 zeroC).press.lo, nI (cs.getD x0 zeroC).press.hi]) (.go 0 (.fork (.auto) (.go 1 (.slot 40 (nI ((x0 : Int) + 1)) (.go 0 (.again [])))))))))))) (.auto)))))))))))))
  (fun v _ _ => v = sp) = RSame sp w h t cs := by kernel_rfl
end
end Go.Proofs.Ytkkgnalgmebfjaa
/- Ice: functions of charts. No condition. -/
namespace Go.Proofs.Ytkkgnalgmebfjaa
open Go Go.K
set_option maxRecDepth 100000
set_option linter.unusedVariables false
set_option linter.unusedSimpArgs false
noncomputable section
attribute [local irreducible] vF
theorem cellC_len (c : Cell) : (cellC c).length = 8 := rfl
theorem partCell {xs : List Cell} {x : Nat} (h : x < xs.length) : partA 8 (List.flatMap cellC xs) (0 + Int.toNat ((x : Nat) : Int) * 8) = some (.agg ⟨cellC (List.getD xs x zeroC)⟩) :=
  part_at (f := cellC) (d := zeroC) (c := 0) (m := 8) cellC_len h (by rw [Int.toNat_natCast]; omega) (by decide)
theorem plainC (n : Nat) (l : List Cell) : (l.flatMap cellC).all (belowC n) = true := plain_flat (fun _ => rfl) l
theorem two_id {H : Heap} {id id2 : Nat} {own own2 : Bool} {z z2 : Nat} {cs ds : List Value} (h1 : H[id]? = some (.cells own z cs)) (h2 : H[id2]? = some (.cells own2 z2 ds)) : ∀ (k : Nat) (c : List Value), [cs, ds][k]? = some c → ∃ id' own z, [id, id2][k]? = some id' ∧ H[id']? = some (KObj.cells own z c) := by
  intro k c h
  match k with
  | 0 => cases h; exact ⟨id, own, z, rfl, h1⟩
  | 1 => cases h; exact ⟨id2, own2, z2, rfl, h2⟩
theorem two_cs {cs ds : List Value} (h1 : cs.all (belowC 0) = true) (h2 : ds.all (belowC 0) = true) : ∀ c ∈ [cs, ds], c.all (belowC 0) = true := by
  intro c hc
  rcases List.mem_cons.1 hc with rfl | hc
  · exact h1
  · rw [List.mem_singleton.1 hc]; exact h2
theorem kwrongC (xs : List Cell) (hn : xs.length ≤ 2 ^ 30) {H : Heap} {id : Nat} {own : Bool} {z : Nat} (hid : H[id]? = some (.cells own z (xs.flatMap cellC))) :
    KCall prog F.ice_wrong_ice_Cell_ [.slice (some ⟨id, 0, some 2⟩) xs.length xs.length, .func (.func F.ice_CheckCell) #[] #[]] H [] (Is (.int .i64 (errs errCell xs)) H) := by
  refine valR (Eq.mpr (EwrongC _ xs) ?_) (one_cs (plainC 0 xs)) rfl [id] rfl (one_id hid)
  unfold RwrongC
  refine ⟨rfl, ⟨Nat.zero_le _, rfl⟩, ?_, fun _ => rfl, ?_⟩
  · repeat' first | exact trivial | exact rfl | exact wk_refl _ | refine wkO_cells ?_ | refine wks_cons ?_ ?_ | exact wks_nil | exact wk_nil _ _ _ (.inl rfl) | (exact wk_Q (by omega)) | refine wk_tupL ?_ | refine wk_aggL ?_ | refine joinMax ?_ ?_ ?_ | refine joinMin ?_ ?_ ?_ | refine toMax ?_ | refine toMin ?_ | refine ⟨rfl, ?_⟩ | refine ⟨trivial, ?_⟩ | (refine forkD (fun h => ?_) (fun h => ?_)) | (refine forkNe (fun h => ?_) (fun h => ?_)) | (refine forkEq (fun h => ?_) (fun h => ?_)) | refine forkNot ?_ | (refine ⟨vI64 (by omega), ?_⟩) | (refine And.intro (by omega) ?_) | apply And.intro | (exact iEq (by omega)) | (exact vI64 (by omega))
  rintro x ⟨hx, hsp⟩
  refine forkD (fun h => ?_) (fun h => ?_)
  · have hlt : x < xs.length := by omega
    rw [errs_at (d := zeroC) hlt] at hsp
    refine ⟨by omega, partCell hlt, _, trivial, fun H' _ _ => kCheckCell _ H', ?_⟩
    refine forkNe (fun h1 => ?_) (fun h1 => ?_)
    · rw [hsp, if_neg h1]
    · repeat' first | (refine ⟨x + 1, ⟨by omega, by rw [hsp, if_pos h1]⟩, by omega, ?_⟩) | exact trivial | exact rfl | exact wk_refl _ | refine wkO_cells ?_ | refine wks_cons ?_ ?_ | exact wks_nil | exact wk_nil _ _ _ (.inl rfl) | (exact wk_Q (by omega)) | refine wk_tupL ?_ | refine wk_aggL ?_ | refine joinMax ?_ ?_ ?_ | refine joinMin ?_ ?_ ?_ | refine toMax ?_ | refine toMin ?_ | refine ⟨rfl, ?_⟩ | refine ⟨trivial, ?_⟩ | (refine forkD (fun h => ?_) (fun h => ?_)) | (refine forkNe (fun h => ?_) (fun h => ?_)) | (refine forkEq (fun h => ?_) (fun h => ?_)) | refine forkNot ?_ | (refine ⟨vI64 (by omega), ?_⟩) | (refine And.intro (by omega) ?_) | apply And.intro | (exact iEq (by omega)) | (exact vI64 (by omega))
  · rw [hsp, show x = xs.length by omega, List.drop_length]; rfl
theorem errChart_1 {w h t : Int} {cs : List Cell} (h0 : ¬ errSize w h t = 0) : errChart w h t cs = errSize w h t := first2_1 h0
theorem errChart_2 {w h t : Int} {cs : List Cell} (h0 : errSize w h t = 0) (h1 : (cs.length : Int) ≠ w * h) : errChart w h t cs = 1 := (first2_2 h0).trans (if_neg h1)
theorem errChart_3 {w h t : Int} {cs : List Cell} (h0 : errSize w h t = 0) (h1 : (cs.length : Int) = w * h) : errChart w h t cs = errs errCell cs := (first2_2 h0).trans (if_pos h1)
theorem size_mul {w h t : Int} (h0 : errSize w h t = 0) : 1 ≤ w * h ∧ w * h ≤ 1024 := by
  obtain ⟨h1, h2, h3, _⟩ := errSize_iff.1 h0
  refine ⟨?_, h3⟩
  have : 1 * 1 ≤ w * h := Int.mul_le_mul h1.1 h2.1 (by omega) (by omega)
  omega
theorem kCheckChart (w h t : Int) (cs : List Cell) {H : Heap} {id : Nat} {own : Bool} {z : Nat} (hid : H[id]? = some (.cells own z (cs.flatMap cellC))) :
    KCall prog F.ice_CheckChart [.agg #[.int .i64 w, .int .i64 h, .int .i64 t, .slice (some ⟨id, 0, some 2⟩) cs.length cs.length]] H [] (Is (.int .i64 (errChart w h t cs)) H) := by
  refine valR (Eq.mpr (ECheckChart _ w h t cs) ?_) (one_cs (plainC 0 cs)) rfl [id] rfl (one_id hid)
  unfold RCheckChart
  refine ⟨_, trivial, fun H' _ _ => ksize _ _ _ H', ?_⟩
  refine forkNe (fun h0 => iEq (errChart_1 h0).symm) (fun h0 => ?_)
  have hm := size_mul h0
  repeat' first | (refine ⟨_, ⟨rfl, trivial⟩, fun H' _ hd => kwrongC _ (by omega) hd.1, ?_⟩) | exact iEq (errChart_2 h0 h).symm | exact iEq (errChart_3 h0 h).symm | exact trivial | exact rfl | exact wk_refl _ | refine wkO_cells ?_ | refine wks_cons ?_ ?_ | exact wks_nil | exact wk_nil _ _ _ (.inl rfl) | (exact wk_Q (by omega)) | refine wk_tupL ?_ | refine wk_aggL ?_ | refine joinMax ?_ ?_ ?_ | refine joinMin ?_ ?_ ?_ | refine toMax ?_ | refine toMin ?_ | refine ⟨rfl, ?_⟩ | refine ⟨trivial, ?_⟩ | (refine forkD (fun h => ?_) (fun h => ?_)) | (refine forkNe (fun h => ?_) (fun h => ?_)) | (refine forkEq (fun h => ?_) (fun h => ?_)) | refine forkNot ?_ | (refine ⟨vI64 (by omega), ?_⟩) | (refine And.intro (by omega) ?_) | apply And.intro | (exact iEq (by omega)) | (exact vI64 (by omega))
theorem krCheckChart (w h t : Int) (cs : List Cell) {H : Heap} {id : Nat} {own : Bool} {z : Nat} (hid : H[id]? = some (.cells own z (cs.flatMap cellC))) :
    KCall prog F.polynyaref01_CheckChart [.agg #[.int .i64 w, .int .i64 h, .int .i64 t, .slice (some ⟨id, 0, some 2⟩) cs.length cs.length]] H [] (Is (.int .i64 (errChart w h t cs)) H) := by
  refine valR (Eq.mpr (ErCheckChart _ w h t cs) ?_) (one_cs (plainC 0 cs)) rfl [id] rfl (one_id hid)
  unfold RrCheckChart
  refine ⟨_, trivial, fun H' _ _ => krsides _ _ _ H', ?_⟩
  refine forkNe (fun h0 => iEq (errChart_1 h0).symm) (fun h0 => ?_)
  have hm := size_mul h0
  repeat' first | (refine ⟨rfl, ⟨Nat.zero_le _, rfl⟩, ?_, fun _ => rfl, ?_⟩) | exact iEq (errChart_2 h0 h).symm | exact trivial | exact rfl | exact wk_refl _ | refine wkO_cells ?_ | refine wks_cons ?_ ?_ | exact wks_nil | exact wk_nil _ _ _ (.inl rfl) | (exact wk_Q (by omega)) | refine wk_tupL ?_ | refine wk_aggL ?_ | refine joinMax ?_ ?_ ?_ | refine joinMin ?_ ?_ ?_ | refine toMax ?_ | refine toMin ?_ | refine ⟨rfl, ?_⟩ | refine ⟨trivial, ?_⟩ | (refine forkD (fun h => ?_) (fun h => ?_)) | (refine forkNe (fun h => ?_) (fun h => ?_)) | (refine forkEq (fun h => ?_) (fun h => ?_)) | refine forkNot ?_ | (refine ⟨vI64 (by omega), ?_⟩) | (refine And.intro (by omega) ?_) | apply And.intro | (exact iEq (by omega)) | (exact vI64 (by omega))
  rintro x ⟨hx, he⟩
  refine forkD (fun hl => ?_) (fun hl => ?_)
  · have hlt : x < cs.length := by omega
    rw [errs_at (d := zeroC) hlt] at he
    refine ⟨by omega, partCell hlt, _, trivial, fun H' _ _ => krCheckCell _ H', ?_⟩
    refine forkNe (fun h1 => ?_) (fun h1 => ?_)
    · exact iEq ((errChart_3 h0 h).trans (by rw [he, if_neg h1])).symm
    · repeat' first | (refine ⟨x + 1, ⟨by omega, by rw [he, if_pos h1]⟩, by omega, ?_⟩) | exact trivial | exact rfl | exact wk_refl _ | refine wkO_cells ?_ | refine wks_cons ?_ ?_ | exact wks_nil | exact wk_nil _ _ _ (.inl rfl) | (exact wk_Q (by omega)) | refine wk_tupL ?_ | refine wk_aggL ?_ | refine joinMax ?_ ?_ ?_ | refine joinMin ?_ ?_ ?_ | refine toMax ?_ | refine toMin ?_ | refine ⟨rfl, ?_⟩ | refine ⟨trivial, ?_⟩ | (refine forkD (fun h => ?_) (fun h => ?_)) | (refine forkNe (fun h => ?_) (fun h => ?_)) | (refine forkEq (fun h => ?_) (fun h => ?_)) | refine forkNot ?_ | (refine ⟨vI64 (by omega), ?_⟩) | (refine And.intro (by omega) ?_) | apply And.intro | (exact iEq (by omega)) | (exact vI64 (by omega))
  · exact iEq ((errChart_3 h0 h).trans (by rw [he, show x = cs.length by omega, List.drop_length]; rfl)).symm
theorem errChart_ok {w h t : Int} {cs : List Cell} (h0 : errChart w h t cs = 0) : sizeOk w h t ∧ (cs.length : Int) = w * h ∧ cs.length ≤ 1024 ∧ ∀ c ∈ cs, rightC c := by
  have h1 : errSize w h t = 0 := by
    rcases Classical.em (errSize w h t = 0) with h1 | h1
    · exact h1
    · rw [errChart_1 h1] at h0; exact h0
  have h2 : (cs.length : Int) = w * h := by
    rcases Classical.em ((cs.length : Int) = w * h) with h2 | h2
    · exact h2
    · rw [errChart_2 h1 h2] at h0; cases h0
  rw [errChart_3 h1 h2] at h0
  have hm := size_mul h1
  exact ⟨errSize_iff.1 h1, h2, by omega, fun c hc => errCell_iff.1 (errs_zero h0 c hc)⟩
end
end Go.Proofs.Ytkkgnalgmebfjaa
/- Ice: a chart made of the reference's; charts compared. No condition. -/
namespace Go.Proofs.Ytkkgnalgmebfjaa
open Go Go.K
set_option maxRecDepth 100000
set_option linter.unusedVariables false
set_option linter.unusedSimpArgs false
noncomputable section
attribute [local irreducible] vF
theorem kChart (w v t : Int) (cs : List Cell) (hn : cs.length ≤ 2 ^ 30) {H : Heap} {id : Nat} {own : Bool} {z : Nat} {L : Nat} (hL : H.length = L) (hid : H[id]? = some (.cells own z (cs.flatMap cellC))) :
    KCall prog F.polynyalaw01_Chart [.agg #[.int .i64 w, .int .i64 v, .int .i64 t, .slice (some ⟨id, 0, some 2⟩) cs.length cs.length]] H []
      (Is (.agg #[.int .i64 w, .int .i64 v, .int .i64 t, .slice (some ⟨L, 0, some 1⟩) cs.length cs.length]) (H ++ [.cells true 8 (cs.flatMap cellC)])) := by
  subst hL
  have key := fun hc => valN (css := [cs.flatMap cellC]) (new := [(true, .cells true 8 (cs.flatMap cellC))]) (v := .agg #[.int .i64 w, .int .i64 v, .int .i64 t, .slice (some ⟨1, 0, some 1⟩) cs.length cs.length]) (Eq.mpr (EChart w v t cs) hc) (one_cs (plainC 0 cs)) rfl (by simp [rn, sgOnly]) (by
    show ((rnoOk 3 (.cells true 8 (cs.flatMap cellC)) && true) && true) = true
    rw [Bool.and_true, Bool.and_true]; exact (rnCl (σ := fun _ => none) (d := 0) (plainC 0 cs)).2) (congrArg (fun l => [KObj.cells true 8 l]) (rnCl (d := 0) (plainC 0 cs)).1) (H := H) [id] rfl (one_id hid)
  have e1 : rn (sgUp (0 + [cs.flatMap cellC].length) H.length) 3 (.agg #[.int .i64 w, .int .i64 v, .int .i64 t, .slice (some ⟨1, 0, some 1⟩) cs.length cs.length]) = .agg #[.int .i64 w, .int .i64 v, .int .i64 t, .slice (some ⟨H.length, 0, some 1⟩) cs.length cs.length] := by simp [rn, sgUp]
  have e2 : (List.map (fun x : Bool × KObj => x.2) [(true, KObj.cells true 8 (cs.flatMap cellC))]).map (rno (sgUp (0 + [cs.flatMap cellC].length) H.length) 3) = [.cells true 8 (cs.flatMap cellC)] := congrArg (fun l => [KObj.cells true 8 l]) (rnCl (d := 0) (plainC 0 cs)).1
  rw [e1, e2] at key
  refine key ?_
  unfold RChart
  repeat' first | (refine ⟨rfl, Nat.zero_le _, ?_, fun _ => rfl, ?_⟩) | exact trivial | exact rfl | exact wk_refl _ | refine wkO_cells ?_ | refine wks_cons ?_ ?_ | exact wks_nil | exact wk_nil _ _ _ (.inl rfl) | (exact wk_Q (by omega)) | refine wk_tupL ?_ | refine wk_aggL ?_ | refine joinMax ?_ ?_ ?_ | refine joinMin ?_ ?_ ?_ | refine toMax ?_ | refine toMin ?_ | refine ⟨rfl, ?_⟩ | refine ⟨trivial, ?_⟩ | (refine forkD (fun h => ?_) (fun h => ?_)) | (refine forkNe (fun h => ?_) (fun h => ?_)) | (refine forkEq (fun h => ?_) (fun h => ?_)) | refine forkNot ?_ | (refine ⟨vI64 (by omega), ?_⟩) | (refine And.intro (by omega) ?_) | apply And.intro | (exact iEq (by omega)) | (exact vI64 (by omega))
  intro x hx
  refine forkD (fun hl => ?_) (fun hl => ?_)
  · have hlt : x < cs.length := by omega
    have htl : (cs.take x).length = x := by rw [List.length_take]; omega
    repeat' first | refine ⟨partCell hlt, ?_⟩ | (refine ⟨⟨by omega, by decide, ⟨Nat.le_refl _, by rw [flat_len cellC_len, htl]; omega⟩, ⟨by decide, Nat.le_refl _⟩, rfl⟩, rfl, ?_⟩) | (refine ⟨x + 1, by omega, by omega, ?_⟩) | (exact (by rw [take_at (d := zeroC) hlt]; exact congrArg (fun l => some (KObj.cells true 8 l)) (flat_snoc cellC_len (cs.take x) (cs.getD x zeroC) htl.symm))) | exact plainC _ _ | exact trivial | exact rfl | exact wk_refl _ | refine wkO_cells ?_ | refine wks_cons ?_ ?_ | exact wks_nil | exact wk_nil _ _ _ (.inl rfl) | (exact wk_Q (by omega)) | refine wk_tupL ?_ | refine wk_aggL ?_ | refine joinMax ?_ ?_ ?_ | refine joinMin ?_ ?_ ?_ | refine toMax ?_ | refine toMin ?_ | refine ⟨rfl, ?_⟩ | refine ⟨trivial, ?_⟩ | (refine forkD (fun h => ?_) (fun h => ?_)) | (refine forkNe (fun h => ?_) (fun h => ?_)) | (refine forkEq (fun h => ?_) (fun h => ?_)) | refine forkNot ?_ | (refine ⟨vI64 (by omega), ?_⟩) | (refine And.intro (by omega) ?_) | apply And.intro | (exact iEq (by omega)) | (exact vI64 (by omega))
  · obtain rfl : x = cs.length := by omega
    exact ⟨rfl, wk_refl _, ⟨by rw [List.take_length], plainC _ _⟩, trivial⟩
theorem kSame (w v t : Int) (cs : List Cell) (hn : cs.length ≤ 2 ^ 30) {H : Heap} {id id2 : Nat} {own own2 : Bool} {z z2 : Nat} (hid : H[id]? = some (.cells own z (cs.flatMap cellC))) (hid2 : H[id2]? = some (.cells own2 z2 (cs.flatMap cellC))) :
    KCall prog F.polynyalaw01_Same [.agg #[.int .i64 w, .int .i64 v, .int .i64 t, .slice (some ⟨id, 0, some 2⟩) cs.length cs.length], .agg #[.int .i64 w, .int .i64 v, .int .i64 t, .slice (some ⟨id2, 0, some 2⟩) cs.length cs.length]] H [] (Is (.bool true) H) := by
  refine valR (Eq.mpr (ESame _ w v t cs) ?_) (two_cs (plainC 0 cs) (plainC 0 cs)) rfl [id, id2] rfl (two_id hid hid2)
  unfold RSame
  repeat' first | (refine forkF (by simp only [bne_self_eq_false, BEq.rfl, Bool.and_self, Bool.not_true]) ?_) | (refine ⟨rfl, Nat.zero_le _, ?_, fun _ => rfl, ?_⟩) | exact trivial | exact rfl | exact wk_refl _ | refine wkO_cells ?_ | refine wks_cons ?_ ?_ | exact wks_nil | exact wk_nil _ _ _ (.inl rfl) | (exact wk_Q (by omega)) | refine wk_tupL ?_ | refine wk_aggL ?_ | refine joinMax ?_ ?_ ?_ | refine joinMin ?_ ?_ ?_ | refine toMax ?_ | refine toMin ?_ | refine ⟨rfl, ?_⟩ | refine ⟨trivial, ?_⟩ | (refine forkD (fun h => ?_) (fun h => ?_)) | (refine forkNe (fun h => ?_) (fun h => ?_)) | (refine forkEq (fun h => ?_) (fun h => ?_)) | refine forkNot ?_ | (refine ⟨vI64 (by omega), ?_⟩) | (refine And.intro (by omega) ?_) | apply And.intro | (exact iEq (by omega)) | (exact vI64 (by omega))
  intro x hx
  refine forkD (fun hl => ?_) (fun hl => ?_)
  · have hlt : x < cs.length := by omega
    repeat' first | refine ⟨partCell hlt, ?_⟩ | (refine forkF (by simp only [bne_self_eq_false, BEq.rfl, Bool.and_self, Bool.not_true]) ?_) | (refine ⟨x + 1, by omega, by omega, ?_⟩) | exact trivial | exact rfl | exact wk_refl _ | refine wkO_cells ?_ | refine wks_cons ?_ ?_ | exact wks_nil | exact wk_nil _ _ _ (.inl rfl) | (exact wk_Q (by omega)) | refine wk_tupL ?_ | refine wk_aggL ?_ | refine joinMax ?_ ?_ ?_ | refine joinMin ?_ ?_ ?_ | refine toMax ?_ | refine toMin ?_ | refine ⟨rfl, ?_⟩ | refine ⟨trivial, ?_⟩ | (refine forkD (fun h => ?_) (fun h => ?_)) | (refine forkNe (fun h => ?_) (fun h => ?_)) | (refine forkEq (fun h => ?_) (fun h => ?_)) | refine forkNot ?_ | (refine ⟨vI64 (by omega), ?_⟩) | (refine And.intro (by omega) ?_) | apply And.intro | (exact iEq (by omega)) | (exact vI64 (by omega))
  · rfl
end
end Go.Proofs.Ytkkgnalgmebfjaa
/- Drift: what comes together in a cell, and what a step makes of a field. No condition. -/
namespace Go.Proofs.Ytkkgnalgmebfjaa
set_option linter.unusedSimpArgs false
set_option linter.unusedVariables false
open Go Go.K
noncomputable section
/-- What has come to a cell: all Conc, and the greatest Thick and Ridge. -/
structure Pl where
  s : Int
  t : Int
  r : Int
def zeroP : Pl := ⟨0, 0, 0⟩
/-- The first error of those at the first indices. -/
def errUp (e : Nat → Int) : Nat → Int
  | 0 => 0
  | k + 1 => first2 (errUp e k) (e k)
def isZ (x : Ice) : Bool := (x.conc == 0) && ((x.thick == 0) && ((x.ridge == 0) && ((x.press == 0) && true)))
end
end Go.Proofs.Ytkkgnalgmebfjaa
