/- Drift: what all texts share. No condition. -/
import Derived.Test.YtkkgnalgmebfjaaN
import Derived.Test.YtkkgnalgmebfjaaGK27xK40
import Derived.Shelf.Sort.Plain
import Derived.Ground.Names2Prog
import Derived.Test.YtkkgnalgmebfjaaChecked
import Derived.Sort.Grow
import Derived.Deep.Draws
namespace Go.Proofs.Ytkkgnalgmebfjaa
set_option linter.unusedSimpArgs false
open Go Go.K
set_option maxRecDepth 100000
set_option linter.unusedVariables false
noncomputable section
def dm (imp : Nat) : Value → MS
  | .func (.func f) _ _ => cond (Nat.testBit imp f) none (some [])
  | .func (.yield _) _ _ => none
  | _ => some []
structure Span where
  lo : Int
  hi : Int
structure Flow where
  x : Span
  y : Span
structure Move where
  dx : Int
  dy : Int
structure Basin where
  w : Int
  h : Int
  land : List Bool
abbrev boolC (b : Bool) : List Value := [.bool b]
abbrev intC (x : Int) : List Value := [.int .i64 x]
abbrev flowC (f : Flow) : List Value := [.int .i64 f.x.lo, .int .i64 f.x.hi, .int .i64 f.y.lo, .int .i64 f.y.hi]
abbrev moveC (m : Move) : List Value := [.int .i64 m.dx, .int .i64 m.dy]
abbrev flowV (f : Flow) : Value := .agg ⟨flowC f⟩
abbrev moveV (m : Move) : Value := .agg ⟨moveC m⟩
def zeroF : Flow := ⟨⟨0, 0⟩, ⟨0, 0⟩⟩
def zeroM : Move := ⟨0, 0⟩
/-- A basin whose land lies in a block. -/
abbrev basV (w h : Int) (id n : Nat) : Value := .agg #[.int .i64 w, .int .i64 h, .slice (some ⟨id, 0, some 2⟩) n n]
/-- A list by its indices. -/
def tabP {α : Type} (f : Nat → α) (n : Nat) : List α := (List.range n).map f
/-- Short names for what is printed: a number, a list (k: nil or whole; read only), what is as it was. -/
abbrev nI (x : Int) : Value := .int .i64 x
abbrev slQ (i k n : Nat) : Value := .slice (some ⟨i, 0, some k⟩) n n
abbrev someR (o : KObj) : Prop := (some o : Option KObj) = some o
abbrev keptR (n : Nat) (o : KObj) : Prop := (some o : Option KObj) = some o ∧ belowO n o = true
abbrev wkR (v : Value) : Prop := wk v v
theorem tabP_len {α : Type} (f : Nat → α) (n : Nat) : (tabP f n).length = n := by simp [tabP]
theorem tabP_succ {α : Type} (f : Nat → α) (n : Nat) : tabP f (n + 1) = tabP f n ++ [f n] := by simp [tabP, List.range_succ]
theorem tabP_get {α : Type} {f : Nat → α} {n k : Nat} {d : α} (h : k < n) : (tabP f n).getD k d = f k := by simp [tabP, List.getD_eq_getElem?_getD, List.getElem?_range h]
def first2 (e f : Int) : Int := if e = 0 then f else e
theorem first2_1 {e f : Int} (h : ¬ e = 0) : first2 e f = e := if_neg h
theorem first2_2 {e f : Int} (h : e = 0) : first2 e f = f := if_pos h
/-- A call's answer that is a value alone. -/
theorem valK {f : FuncId} {args : List Value} {h : Hint} {v : Value} (n : Nat) (hargs : ∀ σ, args.map (rn σ 5) = args) (hv : belowV 0 v = true)
    (hc : vF prog msk (dm 0) 100000 true n true f args ⟨0, .leaf⟩ (some []) h (fun v' _ _ => v' = v)) (H : Heap) : KCall prog f args H [] (Is v H) :=
  vcP mskOk mixed n hargs hv (by rw [glob0]; exact hc) H (by rw [glob0]; exact Nat.zero_le _)
theorem valR {f : FuncId} {args : List Value} {css : List (List Value)} {h : Hint} {v : Value} (hc : vF prog msk (dm 0) 100000 true 40 true f args (readsT 0 css) (some []) h (fun v' _ _ => v' = v)) (hcss : ∀ cs ∈ css, cs.all (belowC 0) = true) (hv : belowV 0 v = true)
    {H : Heap} (ids : List Nat) (hl : ids.length = css.length) (hids : ∀ (k : Nat) (cs : List Value), css[k]? = some cs → ∃ id own z, ids[k]? = some id ∧ H[id]? = some (KObj.cells own z cs)) :
    KCall prog f (args.map (rn (sgR 0 ids) 5)) H [] (Is v H) := by
  have := vcR0 (H := H) mskOk mixed 40 (v := v) hcss (by rw [glob0]; exact hc) hv ids hl hids
  rw [glob0] at this; exact this
theorem valN {f : FuncId} {args : List Value} {css : List (List Value)} {h : Hint} {v : Value} {new : List (Bool × KObj)} (hc : vF prog msk (dm 0) 100000 true 40 true f args (readsT 0 css) (some []) h (newK (readsT 0 css).n 3 v new)) (hcss : ∀ cs ∈ css, cs.all (belowC 0) = true)
    (hv : rnOk 3 v = true) (hv2 : rn (sgOnly (0 + css.length)) 3 v = v) (hn : (new.map (·.2)).all (fun o => rnoOk 3 o && o.owned) = true) (hn2 : (new.map (·.2)).map (rno (sgOnly (0 + css.length)) 3) = new.map (·.2))
    {H : Heap} (ids : List Nat) (hl : ids.length = css.length) (hids : ∀ (k : Nat) (cs : List Value), css[k]? = some cs → ∃ id own z, ids[k]? = some id ∧ H[id]? = some (KObj.cells own z cs)) :
    KCall prog f (args.map (rn (sgR 0 ids) 3)) H [] (Is (rn (sgUp (0 + css.length) H.length) 3 v) (H ++ (new.map (·.2)).map (rno (sgUp (0 + css.length) H.length) 3))) := by
  have := vcR (H := H) mskOk mixed 40 (v := v) (new := new) hcss (by rw [glob0]; exact hc) hv (by rw [glob0]; exact hv2) hn (by rw [glob0]; exact hn2) ids hl hids
  rw [glob0] at this; exact this
theorem one_id {H : Heap} {id : Nat} {own : Bool} {z : Nat} {cs : List Value} (hid : H[id]? = some (.cells own z cs)) : ∀ (k : Nat) (c : List Value), [cs][k]? = some c → ∃ id' own z, [id][k]? = some id' ∧ H[id']? = some (KObj.cells own z c) := by
  intro k c h
  match k with
  | 0 => cases h; exact ⟨id, own, z, rfl, hid⟩
theorem one_cs {cs : List Value} (h : cs.all (belowC 0) = true) : ∀ c ∈ [cs], c.all (belowC 0) = true := by intro c hc; rw [List.mem_singleton.1 hc]; exact h
/-- An answer with one new list. -/
theorem valQ {f : FuncId} {args : List Value} {c : List Value} {h : Hint} (v : Nat → Value) {z : Nat} {cs : List Value}
    (hc : vF prog msk (dm 0) 100000 true 40 true f args (readsT 0 [c]) (some []) h (newK (readsT 0 [c]).n 3 (v 1) [(true, .cells true z cs)]))
    (hp0 : c.all (belowC 0) = true) (hp : ∀ n, cs.all (belowC n) = true) (h1 : rnOk 3 (v 1) = true) (h2 : rn (sgOnly (0 + 1)) 3 (v 1) = v 1) (h3 : ∀ j, rn (sgUp (0 + 1) j) 3 (v 1) = v j)
    {H : Heap} {id : Nat} {own : Bool} {z2 : Nat} (hid : H[id]? = some (.cells own z2 c)) {args' : List Value} (ha : args.map (rn (sgR 0 [id]) 3) = args') :
    KCall prog f args' H [] (Is (v H.length) (H ++ [.cells true z cs])) := by
  subst ha
  have key := valN (css := [c]) (v := v 1) (new := [(true, .cells true z cs)]) hc (one_cs hp0) h1 h2
    (by show ((rnoOk 3 (.cells true z cs) && true) && true) = true
        rw [Bool.and_true, Bool.and_true]; exact (rnCl (σ := fun _ => none) (d := 0) (hp 0)).2)
    (congrArg (fun q => [KObj.cells true z q]) (rnCl (d := 0) (hp 0)).1) (H := H) [id] rfl (one_id hid)
  have e2 : (List.map (fun x : Bool × KObj => x.2) [(true, KObj.cells true z cs)]).map (rno (sgUp (0 + [c].length) H.length) 3) = [.cells true z cs] :=
    congrArg (fun q => [KObj.cells true z q]) (rnCl (d := 0) (hp 0)).1
  rw [e2, show rn (sgUp (0 + [c].length) H.length) 3 (v 1) = v H.length from h3 _] at key
  exact key
theorem twoId {H : Heap} {id id2 : Nat} {own own2 : Bool} {z z2 : Nat} {cs ds : List Value} (h1 : H[id]? = some (.cells own z cs)) (h2 : H[id2]? = some (.cells own2 z2 ds)) : ∀ (k : Nat) (c : List Value), [cs, ds][k]? = some c → ∃ id' own z, [id, id2][k]? = some id' ∧ H[id']? = some (KObj.cells own z c) := by
  intro k c h
  match k with
  | 0 => cases h; exact ⟨id, own, z, rfl, h1⟩
  | 1 => cases h; exact ⟨id2, own2, z2, rfl, h2⟩
theorem twoCs {cs ds : List Value} (h1 : cs.all (belowC 0) = true) (h2 : ds.all (belowC 0) = true) : ∀ c ∈ [cs, ds], c.all (belowC 0) = true := by
  intro c hc
  rcases List.mem_cons.1 hc with rfl | hc
  · exact h1
  · rw [List.mem_singleton.1 hc]; exact h2
end
end Go.Proofs.Ytkkgnalgmebfjaa
/- Drift: basins and flows: what functions answer. No condition. -/
namespace Go.Proofs.Ytkkgnalgmebfjaa
set_option linter.unusedSimpArgs false
set_option linter.unusedVariables false
open Go Go.K
noncomputable section
def rightS (s : Span) (n : Int) : Prop := -n ≤ s.lo ∧ s.lo ≤ s.hi ∧ s.hi ≤ n
instance (s : Span) (n : Int) : Decidable (rightS s n) := by unfold rightS; infer_instance
def rightF (f : Flow) : Prop := rightS f.x 2000 ∧ rightS f.y 2000
instance (f : Flow) : Decidable (rightF f) := by unfold rightF; infer_instance
/-- The first error of flows. -/
def errF : List Flow → Int
  | [] => 0
  | f :: r => if rightF f then errF r else 30
def errBas (w h : Int) (n : Nat) : Int := if (1 ≤ w ∧ w ≤ 64) ∧ (1 ≤ h ∧ h ≤ 64) ∧ w * h ≤ 1024 then (if (n : Int) = w * h then 0 else 1) else 6
def errFlows (w h : Int) (n : Nat) (l : List Flow) : Int := first2 (errBas w h n) (if l.length = n then errF l else 1)
end
end Go.Proofs.Ytkkgnalgmebfjaa
/- What is to be shown of functions. Printed by a program. No condition. -/
namespace Go.Proofs.Ytkkgnalgmebfjaa
set_option linter.unusedSimpArgs false
open Go Go.K
set_option maxRecDepth 100000
set_option maxHeartbeats 4000000
set_option linter.unusedVariables false
noncomputable section
def RCheckBasin (sp : Value) (w h : Int) (a : List Bool) : Prop :=
  (((decide ((1 : Int) ≤ w)) = true → (((!(decide ((w : Int) ≤ 64))) = true → (nI 6 : Value) = sp) ∧ ((!(decide ((w : Int) ≤ 64))) = false → (((decide ((1 : Int) ≤ h)) = true → (((!(decide ((h : Int) ≤ 64))) = true → (nI 6 : Value) = sp) ∧ ((!(decide ((h : Int) ≤ 64))) = false → ((nI (IntKind.wrap .i64 (w * h)) : Value) = nI (w * h) ∧ (((decide ((1024 : Int) < (w * h))) = true → (nI 6 : Value) = sp) ∧ ((decide ((1024 : Int) < (w * h))) = false → ((nI (IntKind.wrap .i64 (w * h)) : Value) = nI (w * h) ∧ ((((((a.length : Nat) : Int) : Int) != (w * h)) = true → (nI 1 : Value) = sp) ∧ (((((a.length : Nat) : Int) : Int) != (w * h)) = false → (nI 0 : Value) = sp))))))))) ∧ ((decide ((1 : Int) ≤ h)) = false → (nI 6 : Value) = sp))))) ∧ ((decide ((1 : Int) ≤ w)) = false → (nI 6 : Value) = sp))
theorem ECheckBasin (sp : Value) (w h : Int) (a : List Bool) : vF prog msk (dm 0) 100000 true 40 true 20 [.agg #[nI w, nI h, slQ 0 2 a.length]] (readsT 0 [a.flatMap boolC]) (some [])
  (.go 9 (.gfork (.go 6 (.gfork (.auto) (.go 7 (.gfork (.go 7 (.gfork (.auto) (.go 4 (.slot 19 (nI (w * h)) (.go 2 (.fork (.auto) (.go 7 (.slot 30 (nI (w * h)) (.go 1 (.fork (.auto) (.auto))))))))))) (.auto))))) (.auto)))
  (fun v _ _ => v = sp) = RCheckBasin sp w h a := by kernel_rfl
def RCheckFlows (sp : Value) (w h : Int) (a : List Bool) (l : List Flow) : Prop :=
  (∃ r0 : Int, (((someR (.cells false 0 (a.flatMap boolC))) ∧ True) ∧ (∀ H' : Heap, H'.length = 3 → (H'[0]? = some (.cells false 0 (a.flatMap boolC) : KObj) ∧ True) → KCall prog 20 [.agg #[nI w, nI h, slQ 0 2 a.length]] H' [] (Is (nI r0) H')) ∧ ((((r0 : Int) != 0) = true → (nI r0 : Value) = sp) ∧ (((r0 : Int) != 0) = false → ((((((l.length : Nat) : Int) : Int) != ((a.length : Nat) : Int)) = true → (nI 1 : Value) = sp) ∧ (((((l.length : Nat) : Int) : Int) != ((a.length : Nat) : Int)) = false → (true = true ∧ (0 ≤ List.length l ∧ sp = nI (errF (l.drop 0))) ∧ (true = true ∧ ((nI 0 : Value) = nI ((0 : Nat) : Int) ∧ wkR (slQ 1 2 l.length) ∧ (nI ((l.length : Nat) : Int) : Value) = nI ((l.length : Nat) : Int) ∧ True) ∧ ((keptR 3 (.cells true 0 [nI w, nI h, slQ 0 2 a.length])) ∧ True) ∧ (True) ∧ (True)) ∧ (∀ x1 : Nat, true = true) ∧ ∀ x1 : Nat, (x1 ≤ List.length l ∧ sp = nI (errF (l.drop x1))) → (((decide (((x1 : Int) : Int) < ((l.length : Nat) : Int))) = true → (((0 : Int) ≤ (x1 : Int) ∧ ((x1 : Int) : Int) < ((l.length : Nat) : Int)) ∧ ((partA 4 (l.flatMap flowC) (0 + Int.toNat (x1 : Int) * 4) = some (.agg #[nI (l.getD x1 zeroF).x.lo, nI (l.getD x1 zeroF).x.hi, nI (l.getD x1 zeroF).y.lo, nI (l.getD x1 zeroF).y.hi])) ∧ (((decide (((-2000) : Int) ≤ (l.getD x1 zeroF).x.lo)) = true → (((decide (((l.getD x1 zeroF).x.lo : Int) ≤ 2000)) = true → (((decide (((l.getD x1 zeroF).x.lo : Int) ≤ (l.getD x1 zeroF).x.hi)) = true → (((!(decide (((l.getD x1 zeroF).x.hi : Int) ≤ 2000))) = true → (nI 30 : Value) = sp) ∧ ((!(decide (((l.getD x1 zeroF).x.hi : Int) ≤ 2000))) = false → (((decide (((-2000) : Int) ≤ (l.getD x1 zeroF).y.lo)) = true → (((decide (((l.getD x1 zeroF).y.lo : Int) ≤ 2000)) = true → (((decide (((l.getD x1 zeroF).y.lo : Int) ≤ (l.getD x1 zeroF).y.hi)) = true → (((!(decide (((l.getD x1 zeroF).y.hi : Int) ≤ 2000))) = true → (nI 30 : Value) = sp) ∧ ((!(decide (((l.getD x1 zeroF).y.hi : Int) ≤ 2000))) = false → ((nI (IntKind.wrap .i64 ((x1 : Int) + 1)) : Value) = nI ((x1 : Int) + 1) ∧ (∃ x1' : Nat, (x1' ≤ List.length l ∧ sp = nI (errF (l.drop x1'))) ∧ (List.length l - x1') < (List.length l - x1) ∧ true = true ∧ ((nI ((x1 : Int) + 1) : Value) = nI (x1' : Int) ∧ wkR (slQ 1 2 l.length) ∧ (nI ((l.length : Nat) : Int) : Value) = nI ((l.length : Nat) : Int) ∧ True) ∧ ((keptR 3 (.cells true 0 [nI w, nI h, slQ 0 2 a.length])) ∧ True) ∧ (True) ∧ (True)))))) ∧ ((decide (((l.getD x1 zeroF).y.lo : Int) ≤ (l.getD x1 zeroF).y.hi)) = false → (nI 30 : Value) = sp))) ∧ ((decide (((l.getD x1 zeroF).y.lo : Int) ≤ 2000)) = false → (nI 30 : Value) = sp))) ∧ ((decide (((-2000) : Int) ≤ (l.getD x1 zeroF).y.lo)) = false → (nI 30 : Value) = sp))))) ∧ ((decide (((l.getD x1 zeroF).x.lo : Int) ≤ (l.getD x1 zeroF).x.hi)) = false → (nI 30 : Value) = sp))) ∧ ((decide (((l.getD x1 zeroF).x.lo : Int) ≤ 2000)) = false → (nI 30 : Value) = sp))) ∧ ((decide (((-2000) : Int) ≤ (l.getD x1 zeroF).x.lo)) = false → (nI 30 : Value) = sp))))) ∧ ((decide (((x1 : Int) : Int) < ((l.length : Nat) : Int))) = false → (nI 0 : Value) = sp)))))))))
theorem ECheckFlows (sp : Value) (w h : Int) (a : List Bool) (l : List Flow) : vF prog msk (dm 0) 100000 true 40 true 22 [.agg #[nI w, nI h, slQ 0 2 a.length], slQ 1 2 l.length] (readsT 0 [a.flatMap boolC, l.flatMap flowC]) (some [])
  (.go 2 (.bind (Int) (fun r0 => .ans [(0, .cells false 0 (a.flatMap boolC))] (nI r0) [] (.go 2 (.fork (.auto) (.go 5 (.fork (.auto) (.go 2 (.inv 3 (Nat) (0) [] [2] (fun x1 => [(22, nI (x1 : Int)), (20, slQ 1 2 l.length), (21, nI ((l.length : Nat) : Int))]) (fun x1 => [(2, true, .cells true 0 [nI w, nI h, slQ 0 2 a.length])]) (fun x1 => []) (fun x1 => []) (fun x1 => (x1 ≤ List.length l ∧ sp = nI (errF (l.drop x1)))) (fun x1 => (List.length l - x1)) (fun x1 => .go 0 (.fork (.need (.val (.agg #[nI (l.getD x1 zeroF).x.lo, nI (l.getD x1 zeroF).x.hi, nI (l.getD x1 zeroF).y.lo, nI (l.getD x1 zeroF).y.hi]) (.go 21 (.gfork (.go 5 (.gfork (.go 10 (.gfork (.go 8 (.gfork (.auto) (.go 15 (.gfork (.go 5 (.gfork (.go 10 (.gfork (.go 8 (.fork (.auto) (.go 5 (.slot 31 (nI ((x1 : Int) + 1)) (.go 0 (.again [])))))) (.auto))) (.auto))) (.auto))))) (.auto))) (.auto))) (.auto))))) (.auto))))))))))))
  (fun v _ _ => v = sp) = RCheckFlows sp w h a l := by kernel_rfl
def Rfloor (sp : Value) (a b : Int) : Prop :=
  (((b : Int) ≠ 0) ∧ ((nI (IntKind.wrap .i64 (Int.tdiv a b)) : Value) = nI (Int.tdiv a b) ∧ (((b : Int) ≠ 0) ∧ (((decide (((Int.tmod a b) : Int) < 0)) = true → ((nI (IntKind.wrap .i64 ((Int.tdiv a b) - 1)) : Value) = nI ((Int.tdiv a b) - 1) ∧ (nI ((Int.tdiv a b) - 1) : Value) = sp)) ∧ ((decide (((Int.tmod a b) : Int) < 0)) = false → (nI (Int.tdiv a b) : Value) = sp)))))
theorem Efloor (sp : Value) (a b : Int) : vF prog msk (dm 0) 100000 true 40 true 71 [nI a, nI b] ⟨0, .leaf⟩ (some [])
  (.go 2 (.need (.slot 8 (nI (Int.tdiv a b)) (.go 2 (.need (.go 0 (.fork (.go 1 (.slot 14 (nI ((Int.tdiv a b) - 1)) (.auto))) (.auto))))))))
  (fun v _ _ => v = sp) = Rfloor sp a b := by kernel_rfl
def Rends (sp : Value) (f : Flow) : Prop :=
  (∃ r0 : Int, ((True) ∧ (∀ H' : Heap, H'.length = 5 → (True) → KCall prog 71 [nI f.x.lo, nI 1000] H' [] (Is (nI r0) H')) ∧ (∃ r1 : Int, ((True) ∧ (∀ H' : Heap, H'.length = 5 → (True) → KCall prog 71 [nI f.y.lo, nI 1000] H' [] (Is (nI r1) H')) ∧ ((nI (IntKind.wrap .i64 (f.x.hi + 1000)) : Value) = nI (f.x.hi + 1000) ∧ ((nI (IntKind.wrap .i64 ((f.x.hi + 1000) - 1)) : Value) = nI ((f.x.hi + 1000) - 1) ∧ (∃ r2 : Int, ((True) ∧ (∀ H' : Heap, H'.length = 5 → (True) → KCall prog 71 [nI ((f.x.hi + 1000) - 1), nI 1000] H' [] (Is (nI r2) H')) ∧ ((nI (IntKind.wrap .i64 (f.y.hi + 1000)) : Value) = nI (f.y.hi + 1000) ∧ ((nI (IntKind.wrap .i64 ((f.y.hi + 1000) - 1)) : Value) = nI ((f.y.hi + 1000) - 1) ∧ (∃ r3 : Int, ((True) ∧ (∀ H' : Heap, H'.length = 5 → (True) → KCall prog 71 [nI ((f.y.hi + 1000) - 1), nI 1000] H' [] (Is (nI r3) H')) ∧ (.tuple #[.agg #[nI r0, nI r1], .agg #[nI r2, nI r3]] : Value) = sp))))))))))))
theorem Eends (sp : Value) (f : Flow) : vF prog msk (dm 0) 100000 true 40 true 58 [.agg #[nI f.x.lo, nI f.x.hi, nI f.y.lo, nI f.y.hi]] ⟨0, .leaf⟩ (some [])
  (.go 23 (.bind (Int) (fun r0 => .ans [] (nI r0) [] (.go 5 (.bind (Int) (fun r1 => .ans [] (nI r1) [] (.go 24 (.slot 5 (nI (f.x.hi + 1000)) (.go 0 (.slot 6 (nI ((f.x.hi + 1000) - 1)) (.bind (Int) (fun r2 => .ans [] (nI r2) [] (.go 6 (.slot 5 (nI (f.y.hi + 1000)) (.go 0 (.slot 6 (nI ((f.y.hi + 1000) - 1)) (.bind (Int) (fun r3 => .ans [] (nI r3) [] (.auto)))))))))))))))))))
  (fun v _ _ => v = sp) = Rends sp f := by kernel_rfl
end
end Go.Proofs.Ytkkgnalgmebfjaa
/- Drift: basins, flows, weather: what they answer. No condition. -/
namespace Go.Proofs.Ytkkgnalgmebfjaa
open Go Go.K
set_option maxRecDepth 100000
set_option linter.unusedVariables false
set_option linter.unusedSimpArgs false
noncomputable section
attribute [local irreducible] vF
theorem plainBL (n : Nat) (l : List Bool) : (l.flatMap boolC).all (belowC n) = true := plain_flat (fun _ => rfl) l
theorem plainFL (n : Nat) (l : List Flow) : (l.flatMap flowC).all (belowC n) = true := plain_flat (fun _ => rfl) l
theorem flowC_len (f : Flow) : (flowC f).length = 4 := rfl
theorem partFlow {l : List Flow} {x : Nat} (h : x < l.length) : partA 4 (l.flatMap flowC) (0 + Int.toNat ((x : Nat) : Int) * 4) = some (.agg ⟨flowC (l.getD x zeroF)⟩) :=
  part_at (n := 4) (d := zeroF) (c := 0) flowC_len h (by omega) (by omega)
theorem mul_bd {w h : Int} (a : 1 ≤ w ∧ w ≤ 64) (b : 1 ≤ h ∧ h ≤ 64) : 1 ≤ w * h ∧ w * h ≤ 4096 := by
  have h1 : 1 * 1 ≤ w * h := Int.mul_le_mul a.1 b.1 (by omega) (by omega)
  have h2 : w * h ≤ 64 * 64 := Int.mul_le_mul a.2 b.2 (by omega) (by omega)
  omega
theorem kCheckBasin (w h : Int) (a : List Bool) {H : Heap} {id : Nat} {own : Bool} {z : Nat} (hid : H[id]? = some (.cells own z (a.flatMap boolC))) :
    KCall prog F.drift_CheckBasin [basV w h id a.length] H [] (Is (.int .i64 (errBas w h a.length)) H) := by
  refine valR (css := [a.flatMap boolC]) (v := .int .i64 (errBas w h a.length)) (Eq.mpr (ECheckBasin _ w h a) ?_) (one_cs (plainBL 0 a)) rfl [id] rfl (one_id hid)
  unfold RCheckBasin errBas
  obtain ⟨p, hp⟩ : ∃ p, w * h = p := ⟨_, rfl⟩
  have hb := fun a b => hp ▸ mul_bd (w := w) (h := h) a b
  simp only [hp]
  repeat' first | (exact iEq (by split <;> (try split) <;> omega)) | exact trivial | exact rfl | exact wk_refl _ | refine wkO_cells ?_ | refine wks_cons ?_ ?_ | exact wks_nil | exact wk_nil _ _ _ (.inl rfl) | (exact wk_Q (by omega)) | refine wk_tupL ?_ | refine wk_aggL ?_ | refine joinMax ?_ ?_ ?_ | refine joinMin ?_ ?_ ?_ | refine toMax ?_ | refine toMin ?_ | refine ⟨rfl, ?_⟩ | refine ⟨trivial, ?_⟩ | (refine forkD (fun h => ?_) (fun h => ?_)) | (refine forkNe (fun h => ?_) (fun h => ?_)) | (refine forkEq (fun h => ?_) (fun h => ?_)) | refine forkNot ?_ | (refine ⟨vI64 (by omega), ?_⟩) | (refine And.intro (by omega) ?_) | apply And.intro | (exact iEq (by omega)) | (exact vI64 (by omega))
theorem errBas_0 {w h : Int} {n : Nat} (e : errBas w h n = 0) : (1 ≤ w ∧ w ≤ 64) ∧ (1 ≤ h ∧ h ≤ 64) ∧ w * h ≤ 1024 ∧ (n : Int) = w * h := by
  unfold errBas at e
  split at e
  · rename_i g; split at e
    · rename_i k; exact ⟨g.1, g.2.1, g.2.2, k⟩
    · omega
  · omega
theorem errF_drop {l : List Flow} {x : Nat} (h : x < l.length) : errF (l.drop x) = if rightF (l.getD x zeroF) then errF (l.drop (x + 1)) else 30 := by
  have : l.drop x = l.getD x zeroF :: l.drop (x + 1) := by rw [List.drop_eq_getElem_cons h, List.getD_eq_getElem?_getD, List.getElem?_eq_getElem h]; rfl
  rw [this]; rfl
theorem errF_1 {l : List Flow} {x : Nat} (h : x < l.length) (k : rightF (l.getD x zeroF)) : errF (l.drop x) = errF (l.drop (x + 1)) := by rw [errF_drop h, if_pos k]
theorem errF_2 {l : List Flow} {x : Nat} (h : x < l.length) (k : ¬ rightF (l.getD x zeroF)) : errF (l.drop x) = 30 := by rw [errF_drop h, if_neg k]
theorem flw_cs (a : List Bool) (l : List Flow) : ∀ c ∈ [a.flatMap boolC, l.flatMap flowC], c.all (belowC 0) = true := twoCs (plainBL 0 a) (plainFL 0 l)
theorem kCheckFlows (w h : Int) (a : List Bool) (l : List Flow) (hl : l.length ≤ 4294967296) {H : Heap} {id id2 : Nat} {own own2 : Bool} {z z2 : Nat} (hid : H[id]? = some (.cells own z (a.flatMap boolC))) (hid2 : H[id2]? = some (.cells own2 z2 (l.flatMap flowC))) :
    KCall prog F.drift_CheckFlows [basV w h id a.length, .slice (some ⟨id2, 0, some 2⟩) l.length l.length] H [] (Is (.int .i64 (errFlows w h a.length l)) H) := by
  refine valR (css := [a.flatMap boolC, l.flatMap flowC]) (v := .int .i64 (errFlows w h a.length l)) (Eq.mpr (ECheckFlows _ w h a l) ?_) (flw_cs a l) rfl [id, id2] rfl (twoId hid hid2)
  unfold RCheckFlows
  refine ⟨_, ⟨rfl, trivial⟩, fun H' _ hd => kCheckBasin w h a hd.1, forkNe (fun h0 => iEq (first2_1 h0).symm) (fun h0 => forkNe (fun h1 => iEq ((first2_2 h0).trans (if_neg (by omega))).symm) (fun h1 => ?_))⟩
  refine ⟨rfl, ⟨Nat.zero_le _, iEq ((first2_2 h0).trans (if_pos (by omega)))⟩, ?_, fun _ => rfl, ?_⟩
  · repeat' first | exact trivial | exact rfl | exact wk_refl _ | refine wkO_cells ?_ | refine wks_cons ?_ ?_ | exact wks_nil | exact wk_nil _ _ _ (.inl rfl) | (exact wk_Q (by omega)) | refine wk_tupL ?_ | refine wk_aggL ?_ | refine joinMax ?_ ?_ ?_ | refine joinMin ?_ ?_ ?_ | refine toMax ?_ | refine toMin ?_ | refine ⟨rfl, ?_⟩ | refine ⟨trivial, ?_⟩ | (refine forkD (fun h => ?_) (fun h => ?_)) | (refine forkNe (fun h => ?_) (fun h => ?_)) | (refine forkEq (fun h => ?_) (fun h => ?_)) | refine forkNot ?_ | (refine ⟨vI64 (by omega), ?_⟩) | (refine And.intro (by omega) ?_) | apply And.intro | (exact iEq (by omega)) | (exact vI64 (by omega))
  rintro x ⟨hx, hs⟩
  refine forkD (fun k => ?_) (fun k => ?_)
  · have hlt : x < l.length := by omega
    refine ⟨by omega, partFlow hlt, ?_⟩
    have e1 := errF_1 hlt
    have e2 := errF_2 hlt
    unfold rightF rightS at e1 e2
    repeat' first | (exact (iEq (e2 (by omega)).symm).trans hs.symm) | (refine ⟨x + 1, ⟨by omega, hs.trans (iEq (e1 (by omega)))⟩, by omega, rfl, ?_⟩) | exact trivial | exact rfl | exact wk_refl _ | refine wkO_cells ?_ | refine wks_cons ?_ ?_ | exact wks_nil | exact wk_nil _ _ _ (.inl rfl) | (exact wk_Q (by omega)) | refine wk_tupL ?_ | refine wk_aggL ?_ | refine joinMax ?_ ?_ ?_ | refine joinMin ?_ ?_ ?_ | refine toMax ?_ | refine toMin ?_ | refine ⟨rfl, ?_⟩ | refine ⟨trivial, ?_⟩ | (refine forkD (fun h => ?_) (fun h => ?_)) | (refine forkNe (fun h => ?_) (fun h => ?_)) | (refine forkEq (fun h => ?_) (fun h => ?_)) | refine forkNot ?_ | (refine ⟨vI64 (by omega), ?_⟩) | (refine And.intro (by omega) ?_) | apply And.intro | (exact iEq (by omega)) | (exact vI64 (by omega))
  · obtain rfl : x = l.length := by omega
    rw [hs, List.drop_length]; rfl
theorem tdiv_up {a b : Int} (hb : 0 < b) : Int.tdiv a b = if Int.tmod a b < 0 then a / b + 1 else a / b := by
  have h1 := Int.tdiv_eq_ediv (a := a) (b := b)
  have h2 := Int.tmod_eq_emod (a := a) (b := b)
  have h3 := Int.emod_nonneg a (b := b) (by omega)
  have h4 := Int.emod_lt_of_pos a hb
  have hs : b.sign = 1 := Int.sign_eq_one_of_pos hb
  have hn : b.natAbs = b := by omega
  rw [h1]
  by_cases q : 0 ≤ a ∨ b ∣ a
  · rw [if_pos q] at h2 ⊢
    rw [h2, if_neg (by omega)]; omega
  · rw [if_neg q] at h2 ⊢
    rw [h2, if_pos (by omega), hs]
theorem kfloor (a b : Int) (hb : 0 < b) (ha : -9223372036854775807 ≤ a ∧ a ≤ 9223372036854775807) (H : Heap) : KCall prog F.drift_floor [.int .i64 a, .int .i64 b] H [] (Is (.int .i64 (a / b)) H) := by
  refine valK 40 (fun _ => rfl) rfl (Eq.mpr (Efloor _ a b) ?_) H
  unfold Rfloor
  have h := tdiv_up (a := a) hb
  have h1 : (Int.tdiv a b).natAbs ≤ a.natAbs := by rw [Int.natAbs_tdiv]; exact Nat.div_le_self _ _
  have hq : -9223372036854775808 ≤ Int.tdiv a b - 1 ∧ Int.tdiv a b ≤ 9223372036854775807 := by
    omega
  refine ⟨by omega, vI64 (by omega), by omega, forkD (fun k => ?_) (fun k => ?_)⟩
  · rw [if_pos k] at h
    exact ⟨vI64 (by omega), iEq (by omega)⟩
  · rw [if_neg k] at h
    exact iEq (by omega)
end
end Go.Proofs.Ytkkgnalgmebfjaa
/- Drift: rounding, weather, the ends of a flow. No condition. -/
namespace Go.Proofs.Ytkkgnalgmebfjaa
open Go Go.K
set_option maxRecDepth 100000
set_option linter.unusedVariables false
set_option linter.unusedSimpArgs false
noncomputable section
attribute [local irreducible] vF
def inS (s : Span) (n : Int) : Prop := -n ≤ s.lo ∧ s.lo ≤ n ∧ -n ≤ s.hi ∧ s.hi ≤ n
instance (s : Span) (n : Int) : Decidable (inS s n) := by unfold inS; infer_instance
def ordF (f : Flow) : Prop := f.x.lo ≤ f.x.hi ∧ f.y.lo ≤ f.y.hi
instance (f : Flow) : Decidable (ordF f) := by unfold ordF; infer_instance
def windIn (p q : Flow) (size : Int) : Prop := inS p.x 500 ∧ inS p.y 500 ∧ inS q.x 3000 ∧ inS q.y 3000 ∧ 100 ≤ size ∧ size ≤ 100000
instance (p q : Flow) (size : Int) : Decidable (windIn p q size) := by unfold windIn; infer_instance
def endA (f : Flow) : Move := ⟨f.x.lo / 1000, f.y.lo / 1000⟩
def endZ (f : Flow) : Move := ⟨(f.x.hi + 999) / 1000, (f.y.hi + 999) / 1000⟩
theorem kends (f : Flow) (hf : rightF f) (H : Heap) : KCall prog F.drift_Flow_ends [flowV f] H [] (Is (.tuple #[moveV (endA f), moveV (endZ f)]) H) := by
  refine valK 40 (fun _ => rfl) rfl (Eq.mpr (Eends _ f) ?_) H
  unfold Rends
  obtain ⟨⟨a1, a2, a3⟩, a4, a5, a6⟩ := hf
  refine ⟨_, trivial, fun H' _ _ => kfloor _ _ (by omega) (by omega) H', _, trivial, fun H' _ _ => kfloor _ _ (by omega) (by omega) H', vI64 (by omega), vI64 (by omega), _, trivial, fun H' _ _ => kfloor _ _ (by omega) (by omega) H', vI64 (by omega), vI64 (by omega), _, trivial, fun H' _ _ => kfloor _ _ (by omega) (by omega) H', ?_⟩
  unfold endA endZ
  rw [show f.x.hi + 1000 - 1 = f.x.hi + 999 by omega, show f.y.hi + 1000 - 1 = f.y.hi + 999 by omega]
end
end Go.Proofs.Ytkkgnalgmebfjaa
/- Drift: moves and targets, as lists. No condition. -/
namespace Go.Proofs.Ytkkgnalgmebfjaa
set_option linter.unusedSimpArgs false
set_option linter.unusedVariables false
open Go Go.K
noncomputable section
def nxF (f : Flow) : Nat := Int.toNat ((endZ f).dx - (endA f).dx + 1)
def nyF (f : Flow) : Nat := Int.toNat ((endZ f).dy - (endA f).dy + 1)
/-- The first moves of a row. -/
def mvRow (f : Flow) (j n : Nat) : List Move := tabP (fun i => (⟨(endA f).dx + (i : Int), (endA f).dy + (j : Int)⟩ : Move)) n
def mvTo (f : Flow) : Nat → List Move
  | 0 => []
  | j + 1 => mvTo f j ++ mvRow f j (nxF f)
def movesF (f : Flow) : List Move := mvTo f (nyF f)
def fMoves (f : Flow) : List Move × Int := if rightF f then (movesF f, 0) else ([], 30)
/-- Where a move leads. -/
def targ (w h : Int) (a : List Bool) (c : Int) (m : Move) : Int :=
  if (0 ≤ Int.tmod c w + m.dx ∧ Int.tmod c w + m.dx < w) ∧ (0 ≤ Int.tdiv c w + m.dy ∧ Int.tdiv c w + m.dy < h) ∧ a.getD (Int.toNat ((Int.tdiv c w + m.dy) * w + (Int.tmod c w + m.dx))) false = false then (Int.tdiv c w + m.dy) * w + (Int.tmod c w + m.dx) else c
def tgL (w h : Int) (a : List Bool) (c : Int) (f : Flow) : List Int := (movesF f).map (targ w h a c)
/-- The indices of what is true. -/
def truesTo (l : List Bool) (x : Nat) : List Int := ((List.range x).filter fun i : Nat => l.getD i false).map fun i : Nat => (i : Int)
def truesL (l : List Bool) : List Int := truesTo l l.length
def goesL (w h : Int) (a : List Bool) (c : Int) (f : Flow) : List Bool := tabP (fun i => decide ((i : Int) ∈ tgL w h a c f)) (Int.toNat (w * h))
def tgts (w h : Int) (a : List Bool) (c : Int) (f : Flow) : List Int := truesL (goesL w h a c f)
def seaB (a : List Bool) (c : Int) : Bool := decide (0 ≤ c ∧ c < (a.length : Int)) && !(a.getD (Int.toNat c) false)
def srtI (L : List Int) : List Int := L.mergeSort fun x y => decide (x ≤ y)
/-- Of numbers beside one another that are alike the first. -/
def comp : List Int → List Int
  | [] => []
  | [x] => [x]
  | x :: y :: r => if x = y then comp (y :: r) else x :: comp (y :: r)
def cmpN (S : List Int) (m : Nat) : Nat := (comp (S.take m)).length
def cmpTo (S : List Int) (m : Nat) : List Int := comp (S.take m) ++ S.drop (cmpN S m)
def padT (L : List Int) : List Int := List.replicate (L.length - (comp (srtI L)).length) 0
end
end Go.Proofs.Ytkkgnalgmebfjaa
/- What is to be shown of functions. Printed by a program. No condition. -/
namespace Go.Proofs.Ytkkgnalgmebfjaa
set_option linter.unusedSimpArgs false
open Go Go.K
set_option maxRecDepth 100000
set_option maxHeartbeats 4000000
set_option linter.unusedVariables false
noncomputable section
def Rmoves (f : Flow) : Prop :=
  ((True) ∧ (∀ H' : Heap, H'.length = 1 → (True) → KCall prog 58 [.agg #[nI f.x.lo, nI f.x.hi, nI f.y.lo, nI f.y.hi]] H' [] (Is (.tuple #[.agg #[nI (endA f).dx, nI (endA f).dy], .agg #[nI (endZ f).dx, nI (endZ f).dy]]) H')) ∧ (true = true ∧ (0 ≤ nyF f) ∧ (true = true ∧ ((nI (endA f).dy : Value) = nI ((endA f).dy + ((0 : Nat) : Int)) ∧ wk (.slice none 0 0 : Value) (slQ 0 1 (mvTo f 0).length : Value) ∧ (.slice none 0 0 : Value) = .slice none 0 0 ∧ (.pointer (some ⟨1, 0, none⟩) : Value) = .pointer (some ⟨1, 0, none⟩) ∧ (.pointer (some ⟨2, 0, none⟩) : Value) = .pointer (some ⟨2, 0, none⟩) ∧ True) ∧ ((keptR 3 (.cells true 0 [nI f.x.lo, nI f.x.hi, nI f.y.lo, nI f.y.hi])) ∧ (keptR 3 (.cells true 0 [nI (endA f).dx, nI (endA f).dy])) ∧ (keptR 3 (.cells true 0 [nI (endZ f).dx, nI (endZ f).dy])) ∧ True) ∧ (True ∧ True) ∧ (True)) ∧ (∀ x1 : Nat, true = true) ∧ ∀ x1 : Nat, (x1 ≤ nyF f) → (((decide ((((endA f).dy + (x1 : Int)) : Int) ≤ (endZ f).dy)) = true → (true = true ∧ (0 ≤ nxF f) ∧ (true = true ∧ ((nI (endA f).dx : Value) = nI ((endA f).dx + ((0 : Nat) : Int)) ∧ wk (slQ 3 1 (mvTo f x1).length : Value) (slQ 3 1 (mvTo f x1 ++ mvRow f x1 0).length : Value) ∧ (.pointer (some ⟨2, 0, none⟩) : Value) = .pointer (some ⟨2, 0, none⟩) ∧ (.pointer (some ⟨1, 0, none⟩) : Value) = .pointer (some ⟨1, 0, none⟩) ∧ (.slice none 0 0 : Value) = .slice none 0 0 ∧ (nI ((endA f).dy + (x1 : Int)) : Value) = nI ((endA f).dy + (x1 : Int)) ∧ True) ∧ (True ∧ (keptR 4 (.cells true 0 [nI (endA f).dx, nI (endA f).dy])) ∧ (keptR 4 (.cells true 0 [nI (endZ f).dx, nI (endZ f).dy])) ∧ True) ∧ ((some (.cells true 2 ((mvTo f x1).flatMap moveC) : KObj) = some (.cells true 2 ((mvTo f x1 ++ mvRow f x1 0).flatMap moveC) : KObj) ∧ belowO 4 (.cells true 2 ((mvTo f x1 ++ mvRow f x1 0).flatMap moveC) : KObj) = true) ∧ True) ∧ (True)) ∧ (∀ x2 : Nat, true = true) ∧ ∀ x2 : Nat, (x2 ≤ nxF f) → (((decide ((((endA f).dx + (x2 : Int)) : Int) ≤ (endZ f).dx)) = true → ((((mvTo f x1 ++ mvRow f x1 x2).length + 1) * 16 ≤ 2 ^ 44 ∧ 1 ≠ 0 ∧ ((mvTo f x1 ++ mvRow f x1 x2).length ≤ (mvTo f x1 ++ mvRow f x1 x2).length ∧ 0 + (mvTo f x1 ++ mvRow f x1 x2).length * 2 ≤ List.length ((mvTo f x1 ++ mvRow f x1 x2).flatMap moveC)) ∧ (1 ≤ 1 ∧ 0 + 1 * 2 ≤ List.length ([nI ((endA f).dx + (x2 : Int)), nI ((endA f).dy + (x1 : Int))] : List Value)) ∧ (((([nI ((endA f).dx + (x2 : Int)), nI ((endA f).dy + (x1 : Int))] : List Value).drop 0).take (1 * 2)) : List Value).all (fun v => one1 v) = true) ∧ true = true ∧ ((nI (IntKind.wrap .i64 (((endA f).dx + (x2 : Int)) + 1)) : Value) = nI (((endA f).dx + (x2 : Int)) + 1) ∧ (∃ x2' : Nat, (x2' ≤ nxF f) ∧ (nxF f - x2') < (nxF f - x2) ∧ true = true ∧ ((nI (((endA f).dx + (x2 : Int)) + 1) : Value) = nI ((endA f).dx + (x2' : Int)) ∧ wk (.slice (some ⟨6, 0, none⟩) ((mvTo f x1 ++ mvRow f x1 x2).length + 1) ((mvTo f x1 ++ mvRow f x1 x2).length + 1) : Value) (slQ 6 1 (mvTo f x1 ++ mvRow f x1 x2').length : Value) ∧ (.pointer (some ⟨2, 0, none⟩) : Value) = .pointer (some ⟨2, 0, none⟩) ∧ (.pointer (some ⟨1, 0, none⟩) : Value) = .pointer (some ⟨1, 0, none⟩) ∧ (.slice none 0 0 : Value) = .slice none 0 0 ∧ (nI ((endA f).dy + (x1 : Int)) : Value) = nI ((endA f).dy + (x1 : Int)) ∧ True) ∧ (True ∧ (keptR 4 (.cells true 0 [nI (endA f).dx, nI (endA f).dy])) ∧ (keptR 4 (.cells true 0 [nI (endZ f).dx, nI (endZ f).dy])) ∧ True) ∧ ((some (.cells true 2 (((((mvTo f x1 ++ mvRow f x1 x2).flatMap moveC).drop 0).take ((mvTo f x1 ++ mvRow f x1 x2).length * 2)) ++ ((([nI ((endA f).dx + (x2 : Int)), nI ((endA f).dy + (x1 : Int))] : List Value).drop 0).take (1 * 2))) : KObj) = some (.cells true 2 ((mvTo f x1 ++ mvRow f x1 x2').flatMap moveC) : KObj) ∧ belowO 4 (.cells true 2 ((mvTo f x1 ++ mvRow f x1 x2').flatMap moveC) : KObj) = true) ∧ True) ∧ (True))))) ∧ ((decide ((((endA f).dx + (x2 : Int)) : Int) ≤ (endZ f).dx)) = false → ((nI (IntKind.wrap .i64 (((endA f).dy + (x1 : Int)) + 1)) : Value) = nI (((endA f).dy + (x1 : Int)) + 1) ∧ (∃ x1' : Nat, (x1' ≤ nyF f) ∧ (nyF f - x1') < (nyF f - x1) ∧ true = true ∧ ((nI (((endA f).dy + (x1 : Int)) + 1) : Value) = nI ((endA f).dy + (x1' : Int)) ∧ wk (slQ 4 1 (mvTo f x1 ++ mvRow f x1 x2).length : Value) (slQ 4 1 (mvTo f x1').length : Value) ∧ (.slice none 0 0 : Value) = .slice none 0 0 ∧ (.pointer (some ⟨1, 0, none⟩) : Value) = .pointer (some ⟨1, 0, none⟩) ∧ (.pointer (some ⟨2, 0, none⟩) : Value) = .pointer (some ⟨2, 0, none⟩) ∧ True) ∧ ((keptR 3 (.cells true 0 [nI f.x.lo, nI f.x.hi, nI f.y.lo, nI f.y.hi])) ∧ (keptR 3 (.cells true 0 [nI (endA f).dx, nI (endA f).dy])) ∧ (keptR 3 (.cells true 0 [nI (endZ f).dx, nI (endZ f).dy])) ∧ True) ∧ ((some (.cells true 2 ((mvTo f x1 ++ mvRow f x1 x2).flatMap moveC) : KObj) = some (.cells true 2 ((mvTo f x1').flatMap moveC) : KObj) ∧ belowO 3 (.cells true 2 ((mvTo f x1').flatMap moveC) : KObj) = true) ∧ True) ∧ (True))))))) ∧ ((decide ((((endA f).dy + (x1 : Int)) : Int) ≤ (endZ f).dy)) = false → (true = true ∧ wk (slQ 3 1 (mvTo f x1).length : Value) (rn (sg 0 [(0, 3)]) 3 (slQ 0 1 (movesF f).length : Value)) ∧ ((some (.cells true 2 ((mvTo f x1).flatMap moveC) : KObj) = some (.cells true 2 ((movesF f).flatMap moveC) : KObj) ∧ belowO 0 (.cells true 2 ((movesF f).flatMap moveC) : KObj) = true) ∧ True))))))
theorem Emoves (f : Flow) : vF prog msk (dm 0) 100000 true 40 true 76 [.agg #[nI f.x.lo, nI f.x.hi, nI f.y.lo, nI f.y.hi]] ⟨0, .leaf⟩ (some [])
  (.go 2 (.ans [] (.tuple #[.agg #[nI (endA f).dx, nI (endA f).dy], .agg #[nI (endZ f).dx, nI (endZ f).dy]]) [] (.go 10 (.inv 3 (Nat) (0) [] [0, 1, 2] (fun x1 => [(6, nI ((endA f).dy + (x1 : Int))), (5, slQ 3 1 (mvTo f x1).length), (2, .slice none 0 0), (3, .pointer (some ⟨1, 0, none⟩)), (4, .pointer (some ⟨2, 0, none⟩))]) (fun x1 => [(0, true, .cells true 0 [nI f.x.lo, nI f.x.hi, nI f.y.lo, nI f.y.hi]), (1, true, .cells true 0 [nI (endA f).dx, nI (endA f).dy]), (2, true, .cells true 0 [nI (endZ f).dx, nI (endZ f).dy])]) (fun x1 => [(true, .cells true 2 ((mvTo f x1).flatMap moveC))]) (fun x1 => []) (fun x1 => (x1 ≤ nyF f)) (fun x1 => (nyF f - x1)) (fun x1 => .go 3 (.fork (.go 2 (.inv 3 (Nat) (0) [(4, 3)] [3, 1, 2] (fun x2 => [(7, nI ((endA f).dx + (x2 : Int))), (5, slQ 4 1 (mvTo f x1 ++ mvRow f x1 x2).length), (4, .pointer (some ⟨2, 0, none⟩)), (3, .pointer (some ⟨1, 0, none⟩)), (2, .slice none 0 0), (6, nI ((endA f).dy + (x1 : Int)))]) (fun x2 => [(3, false, .dead), (1, true, .cells true 0 [nI (endA f).dx, nI (endA f).dy]), (2, true, .cells true 0 [nI (endZ f).dx, nI (endZ f).dy])]) (fun x2 => [(true, .cells true 2 ((mvTo f x1 ++ mvRow f x1 x2).flatMap moveC))]) (fun x2 => []) (fun x2 => (x2 ≤ nxF f)) (fun x2 => (nxF f - x2)) (fun x2 => .go 3 (.fork (.go 4 (.need (.go 2 (.slot 28 (nI (((endA f).dx + (x2 : Int)) + 1)) (.go 0 (.again [(4, 6)])))))) (.go 1 (.slot 20 (nI (((endA f).dy + (x1 : Int)) + 1)) (.go 0 (.again [(3, 4)])))))))) (.go 1 (.again [(0, 3)]))))))))
  (newK (⟨0, .leaf⟩ : HT).n 3 (slQ 0 1 (movesF f).length) [(true, .cells true 2 ((movesF f).flatMap moveC))]) = Rmoves f := by kernel_rfl
def RMoves (f : Flow) : Prop :=
  (((decide (((-2000) : Int) ≤ f.x.lo)) = true → (((decide ((f.x.lo : Int) ≤ 2000)) = true → (((decide ((f.x.lo : Int) ≤ f.x.hi)) = true → (((!(decide ((f.x.hi : Int) ≤ 2000))) = true → (true = true ∧ wk (.tuple #[.slice none 0 0, nI 30] : Value) (rn (sg 0 []) 3 (.tuple #[slQ 0 1 (List.length (fMoves f).1), nI (fMoves f).2] : Value)) ∧ (True ∧ True))) ∧ ((!(decide ((f.x.hi : Int) ≤ 2000))) = false → (((decide (((-2000) : Int) ≤ f.y.lo)) = true → (((decide ((f.y.lo : Int) ≤ 2000)) = true → (((decide ((f.y.lo : Int) ≤ f.y.hi)) = true → (((!(decide ((f.y.hi : Int) ≤ 2000))) = true → (true = true ∧ wk (.tuple #[.slice none 0 0, nI 30] : Value) (rn (sg 0 []) 3 (.tuple #[slQ 0 1 (List.length (fMoves f).1), nI (fMoves f).2] : Value)) ∧ (True ∧ True))) ∧ ((!(decide ((f.y.hi : Int) ≤ 2000))) = false → ((True) ∧ (∀ H' : Heap, H'.length = 1 → (True) → KCall prog 76 [.agg #[nI f.x.lo, nI f.x.hi, nI f.y.lo, nI f.y.hi]] H' [] (Is (slQ 1 1 (movesF f).length) (H' ++ [(.cells true 2 ((movesF f).flatMap moveC) : KObj)]))) ∧ (true = true ∧ wk (.tuple #[slQ 1 1 (movesF f).length, nI 0] : Value) (rn (sg 0 [(0, 1)]) 3 (.tuple #[slQ 0 1 (List.length (fMoves f).1), nI (fMoves f).2] : Value)) ∧ ((some (.cells true 2 ((movesF f).flatMap moveC) : KObj) = some (.cells true 2 (List.flatMap moveC (fMoves f).1) : KObj) ∧ belowO 0 (.cells true 2 (List.flatMap moveC (fMoves f).1) : KObj) = true) ∧ True)))))) ∧ ((decide ((f.y.lo : Int) ≤ f.y.hi)) = false → (true = true ∧ wk (.tuple #[.slice none 0 0, nI 30] : Value) (rn (sg 0 []) 3 (.tuple #[slQ 0 1 (List.length (fMoves f).1), nI (fMoves f).2] : Value)) ∧ (True ∧ True))))) ∧ ((decide ((f.y.lo : Int) ≤ 2000)) = false → (true = true ∧ wk (.tuple #[.slice none 0 0, nI 30] : Value) (rn (sg 0 []) 3 (.tuple #[slQ 0 1 (List.length (fMoves f).1), nI (fMoves f).2] : Value)) ∧ (True ∧ True))))) ∧ ((decide (((-2000) : Int) ≤ f.y.lo)) = false → (true = true ∧ wk (.tuple #[.slice none 0 0, nI 30] : Value) (rn (sg 0 []) 3 (.tuple #[slQ 0 1 (List.length (fMoves f).1), nI (fMoves f).2] : Value)) ∧ (True ∧ True))))))) ∧ ((decide ((f.x.lo : Int) ≤ f.x.hi)) = false → (true = true ∧ wk (.tuple #[.slice none 0 0, nI 30] : Value) (rn (sg 0 []) 3 (.tuple #[slQ 0 1 (List.length (fMoves f).1), nI (fMoves f).2] : Value)) ∧ (True ∧ True))))) ∧ ((decide ((f.x.lo : Int) ≤ 2000)) = false → (true = true ∧ wk (.tuple #[.slice none 0 0, nI 30] : Value) (rn (sg 0 []) 3 (.tuple #[slQ 0 1 (List.length (fMoves f).1), nI (fMoves f).2] : Value)) ∧ (True ∧ True))))) ∧ ((decide (((-2000) : Int) ≤ f.x.lo)) = false → (true = true ∧ wk (.tuple #[.slice none 0 0, nI 30] : Value) (rn (sg 0 []) 3 (.tuple #[slQ 0 1 (List.length (fMoves f).1), nI (fMoves f).2] : Value)) ∧ (True ∧ True))))
theorem EMoves (f : Flow) : vF prog msk (dm 0) 100000 true 40 true 26 [.agg #[nI f.x.lo, nI f.x.hi, nI f.y.lo, nI f.y.hi]] ⟨0, .leaf⟩ (some [])
  (.go 22 (.gfork (.go 5 (.gfork (.go 10 (.gfork (.go 8 (.gfork (.go 9 (.again [])) (.go 15 (.gfork (.go 5 (.gfork (.go 10 (.gfork (.go 8 (.fork (.go 7 (.again [])) (.go 5 (.ans [] (slQ 1 1 (movesF f).length) [.cells true 2 ((movesF f).flatMap moveC)] (.go 1 (.again [(0, 1)])))))) (.go 14 (.again [])))) (.go 12 (.again [])))) (.go 15 (.again [])))))) (.go 15 (.again [])))) (.go 13 (.again [])))) (.go 16 (.again []))))
  (newK (⟨0, .leaf⟩ : HT).n 3 (.tuple #[slQ 0 1 (List.length (fMoves f).1), nI (fMoves f).2]) [(true, .cells true 2 (List.flatMap moveC (fMoves f).1))]) = RMoves f := by kernel_rfl
def Rtarget (sp : Value) (w h : Int) (a : List Bool) (c : Int) (m : Move) : Prop :=
  (((w : Int) ≠ 0) ∧ ((nI (IntKind.wrap .i64 ((Int.tmod c w) + m.dx)) : Value) = nI ((Int.tmod c w) + m.dx) ∧ (((w : Int) ≠ 0) ∧ ((nI (IntKind.wrap .i64 (Int.tdiv c w)) : Value) = nI (Int.tdiv c w) ∧ ((nI (IntKind.wrap .i64 ((Int.tdiv c w) + m.dy)) : Value) = nI ((Int.tdiv c w) + m.dy) ∧ ((nI (IntKind.wrap .i64 (w - 1)) : Value) = nI (w - 1) ∧ (((decide ((0 : Int) ≤ ((Int.tmod c w) + m.dx))) = true → (((!(decide ((((Int.tmod c w) + m.dx) : Int) ≤ (w - 1)))) = true → (nI c : Value) = sp) ∧ ((!(decide ((((Int.tmod c w) + m.dx) : Int) ≤ (w - 1)))) = false → ((nI (IntKind.wrap .i64 (h - 1)) : Value) = nI (h - 1) ∧ (((decide ((0 : Int) ≤ ((Int.tdiv c w) + m.dy))) = true → (((!(decide ((((Int.tdiv c w) + m.dy) : Int) ≤ (h - 1)))) = true → (nI c : Value) = sp) ∧ ((!(decide ((((Int.tdiv c w) + m.dy) : Int) ≤ (h - 1)))) = false → ((nI (IntKind.wrap .i64 (((Int.tdiv c w) + m.dy) * w)) : Value) = nI (((Int.tdiv c w) + m.dy) * w) ∧ ((nI (IntKind.wrap .i64 ((((Int.tdiv c w) + m.dy) * w) + ((Int.tmod c w) + m.dx))) : Value) = nI ((((Int.tdiv c w) + m.dy) * w) + ((Int.tmod c w) + m.dx)) ∧ (∃ y0 : Int, (nI ((((Int.tdiv c w) + m.dy) * w) + ((Int.tmod c w) + m.dx)) : Value) = nI y0 ∧ (((0 : Int) ≤ y0 ∧ (y0 : Int) < ((a.length : Nat) : Int)) ∧ (((a.flatMap boolC)[(0 + Int.toNat y0 * 1)]? = some (.bool (a.getD y0.toNat false))) ∧ (((a.getD y0.toNat false) = true → (nI c : Value) = sp) ∧ ((a.getD y0.toNat false) = false → ((nI (IntKind.wrap .i64 (((Int.tdiv c w) + m.dy) * w)) : Value) = nI (((Int.tdiv c w) + m.dy) * w) ∧ ((nI (IntKind.wrap .i64 ((((Int.tdiv c w) + m.dy) * w) + ((Int.tmod c w) + m.dx))) : Value) = nI ((((Int.tdiv c w) + m.dy) * w) + ((Int.tmod c w) + m.dx)) ∧ (∃ y1 : Int, (nI ((((Int.tdiv c w) + m.dy) * w) + ((Int.tmod c w) + m.dx)) : Value) = nI y1 ∧ (nI y1 : Value) = sp))))))))))))) ∧ ((decide ((0 : Int) ≤ ((Int.tdiv c w) + m.dy))) = false → (nI c : Value) = sp)))))) ∧ ((decide ((0 : Int) ≤ ((Int.tmod c w) + m.dx))) = false → (nI c : Value) = sp))))))))
theorem Etarget (sp : Value) (w h : Int) (a : List Bool) (c : Int) (m : Move) : vF prog msk (dm 0) 100000 true 40 true 63 [.agg #[nI w, nI h, slQ 0 2 a.length], nI c, .agg #[nI m.dx, nI m.dy]] (readsT 0 [a.flatMap boolC]) (some [])
  (.go 6 (.need (.go 2 (.slot 16 (nI ((Int.tmod c w) + m.dx)) (.go 3 (.need (.slot 21 (nI (Int.tdiv c w)) (.go 2 (.slot 24 (nI ((Int.tdiv c w) + m.dy)) (.go 6 (.slot 29 (nI (w - 1)) (.go 5 (.gfork (.go 6 (.gfork (.auto) (.go 4 (.slot 37 (nI (h - 1)) (.go 5 (.gfork (.go 7 (.gfork (.auto) (.go 7 (.slot 49 (nI (((Int.tdiv c w) + m.dy) * w)) (.go 1 (.slot 51 (nI ((((Int.tdiv c w) + m.dy) * w) + ((Int.tmod c w) + m.dx))) (.bind Int (fun y0 => .slot 51 (nI y0) (.need (.val (.bool (a.getD y0.toNat false)) (.go 0 (.fork (.auto) (.go 4 (.slot 60 (nI (((Int.tdiv c w) + m.dy) * w)) (.go 1 (.slot 62 (nI ((((Int.tdiv c w) + m.dy) * w) + ((Int.tmod c w) + m.dx))) (.bind Int (fun y1 => .slot 62 (nI y1) (.auto))))))))))))))))))) (.auto))))))) (.auto))))))))))))))
  (fun v _ _ => v = sp) = Rtarget sp w h a c m := by kernel_rfl
def Ris (sp : Value) (w h : Int) (a : List Bool) (c : Int) : Prop :=
  ((nI (IntKind.wrap .i64 (((a.length : Nat) : Int) - 1)) : Value) = nI (((a.length : Nat) : Int) - 1) ∧ (((decide ((0 : Int) ≤ c)) = true → (((decide ((c : Int) ≤ (((a.length : Nat) : Int) - 1))) = true → (((0 : Int) ≤ c ∧ (c : Int) < ((a.length : Nat) : Int)) ∧ (((a.flatMap boolC)[(0 + Int.toNat c * 1)]? = some (.bool (a.getD c.toNat false))) ∧ (.bool (!(a.getD c.toNat false)) : Value) = sp))) ∧ ((decide ((c : Int) ≤ (((a.length : Nat) : Int) - 1))) = false → (.bool false : Value) = sp))) ∧ ((decide ((0 : Int) ≤ c)) = false → (.bool false : Value) = sp)))
theorem Eis (sp : Value) (w h : Int) (a : List Bool) (c : Int) : vF prog msk (dm 0) 100000 true 40 true 62 [.agg #[nI w, nI h, slQ 0 2 a.length], nI c] (readsT 0 [a.flatMap boolC]) (some [])
  (.go 7 (.slot 10 (nI (((a.length : Nat) : Int) - 1)) (.go 5 (.gfork (.go 5 (.gfork (.go 3 (.need (.val (.bool (a.getD c.toNat false)) (.auto)))) (.auto))) (.auto)))))
  (fun v _ _ => v = sp) = Ris sp w h a c := by kernel_rfl
def Rtargets (w h : Int) (a : List Bool) (c : Int) (f : Flow) : Prop :=
  ((True) ∧ (∀ H' : Heap, H'.length = 3 → (True) → KCall prog 76 [.agg #[nI f.x.lo, nI f.x.hi, nI f.y.lo, nI f.y.hi]] H' [] (Is (slQ 3 1 (movesF f).length) (H' ++ [(.cells true 2 ((movesF f).flatMap moveC) : KObj)]))) ∧ (true = true ∧ (0 ≤ List.length (movesF f)) ∧ (true = true ∧ ((nI 0 : Value) = nI ((0 : Nat) : Int) ∧ wk (.slice none 0 0 : Value) (slQ 0 1 0 : Value) ∧ (nI c : Value) = nI c ∧ (.pointer (some ⟨1, 0, none⟩) : Value) = .pointer (some ⟨1, 0, none⟩) ∧ (.slice none 0 0 : Value) = .slice none 0 0 ∧ wkR (slQ 3 1 (movesF f).length) ∧ (nI (((movesF f).length : Nat) : Int) : Value) = nI (((movesF f).length : Nat) : Int) ∧ True) ∧ ((keptR 4 (.cells true 0 [nI w, nI h, slQ 0 2 a.length])) ∧ (keptR 4 (.cells true 0 [nI f.x.lo, nI f.x.hi, nI f.y.lo, nI f.y.hi])) ∧ True) ∧ (True ∧ True) ∧ (True)) ∧ (∀ x1 : Nat, true = true) ∧ ∀ x1 : Nat, (x1 ≤ List.length (movesF f)) → (((decide (((x1 : Int) : Int) < (((movesF f).length : Nat) : Int))) = true → (((0 : Int) ≤ (x1 : Int) ∧ ((x1 : Int) : Int) < (((movesF f).length : Nat) : Int)) ∧ ((partA 2 ((movesF f).flatMap moveC) (0 + Int.toNat (x1 : Int) * 2) = some (.agg #[nI ((movesF f).getD x1 zeroM).dx, nI ((movesF f).getD x1 zeroM).dy])) ∧ (∃ r2 : Int, (((someR (.cells false 0 (a.flatMap boolC))) ∧ True) ∧ (∀ H' : Heap, H'.length = 6 → (H'[0]? = some (.cells false 0 (a.flatMap boolC) : KObj) ∧ True) → KCall prog 63 [.agg #[nI w, nI h, slQ 0 2 a.length], nI c, .agg #[nI ((movesF f).getD x1 zeroM).dx, nI ((movesF f).getD x1 zeroM).dy]] H' [] (Is (nI r2) H')) ∧ (((x1 + 1) * 8 ≤ 2 ^ 44 ∧ 1 ≠ 0 ∧ (x1 ≤ x1 ∧ 0 + x1 * 1 ≤ List.length (((tgL w h a c f).take x1).flatMap intC)) ∧ (1 ≤ 1 ∧ 0 + 1 * 1 ≤ List.length ([nI r2] : List Value)) ∧ (((([nI r2] : List Value).drop 0).take (1 * 1)) : List Value).all (fun v => one1 v) = true) ∧ true = true ∧ ((nI (IntKind.wrap .i64 ((x1 : Int) + 1)) : Value) = nI ((x1 : Int) + 1) ∧ (∃ x1' : Nat, (x1' ≤ List.length (movesF f)) ∧ (List.length (movesF f) - x1') < (List.length (movesF f) - x1) ∧ true = true ∧ ((nI ((x1 : Int) + 1) : Value) = nI (x1' : Int) ∧ wk (.slice (some ⟨7, 0, none⟩) (x1 + 1) (x1 + 1) : Value) (slQ 7 1 x1' : Value) ∧ (nI c : Value) = nI c ∧ (.pointer (some ⟨1, 0, none⟩) : Value) = .pointer (some ⟨1, 0, none⟩) ∧ (.slice none 0 0 : Value) = .slice none 0 0 ∧ wkR (slQ 3 1 (movesF f).length) ∧ (nI (((movesF f).length : Nat) : Int) : Value) = nI (((movesF f).length : Nat) : Int) ∧ True) ∧ ((keptR 4 (.cells true 0 [nI w, nI h, slQ 0 2 a.length])) ∧ (keptR 4 (.cells true 0 [nI f.x.lo, nI f.x.hi, nI f.y.lo, nI f.y.hi])) ∧ True) ∧ ((some (.cells true 1 ((((((tgL w h a c f).take x1).flatMap intC).drop 0).take (x1 * 1)) ++ ((([nI r2] : List Value).drop 0).take (1 * 1))) : KObj) = some (.cells true 1 (((tgL w h a c f).take x1').flatMap intC) : KObj) ∧ belowO 4 (.cells true 1 (((tgL w h a c f).take x1').flatMap intC) : KObj) = true) ∧ True) ∧ (True))))))))) ∧ ((decide (((x1 : Int) : Int) < (((movesF f).length : Nat) : Int))) = false → (((someR (.cells true 1 (((tgL w h a c f).take x1).flatMap intC))) ∧ True) ∧ (∀ H' : Heap, H'.length = 5 → (H'[4]? = some (.cells true 1 (((tgL w h a c f).take x1).flatMap intC) : KObj) ∧ True) → KCall prog 124 [slQ 4 1 x1] H' [4] (Is (.tuple #[]) (List.set H' 4 (.cells true 1 ((srtI (tgL w h a c f)).flatMap intC) : KObj)))) ∧ (((decide (((x1 : Int) : Int) < 2)) = true → (true = true ∧ wk (slQ 4 1 x1 : Value) (rn (sg 1 [(1, 4)]) 3 (slQ 1 2 (comp (srtI (tgL w h a c f))).length : Value)) ∧ ((some (.cells true 1 ((srtI (tgL w h a c f)).flatMap intC) : KObj) = some (.cells true 1 (((comp (srtI (tgL w h a c f))) ++ padT (tgL w h a c f)).flatMap intC) : KObj) ∧ belowO 1 (.cells true 1 (((comp (srtI (tgL w h a c f))) ++ padT (tgL w h a c f)).flatMap intC) : KObj) = true) ∧ True))) ∧ ((decide (((x1 : Int) : Int) < 2)) = false → (true = true ∧ (1 ≤ 1 ∧ 1 ≤ List.length (srtI (tgL w h a c f)) ∧ comp ((srtI (tgL w h a c f)).take 1) = List.take 1 (srtI (tgL w h a c f))) ∧ (true = true ∧ ((nI 1 : Value) = nI ((1 : Nat) : Int) ∧ wkR (slQ 4 1 x1) ∧ True) ∧ ((keptR 5 (.cells true 1 ((srtI (tgL w h a c f)).flatMap intC))) ∧ True) ∧ (True) ∧ (True)) ∧ (∀ x3 : Nat, true = true) ∧ ∀ x3 : Nat, (1 ≤ x3 ∧ x3 ≤ List.length (srtI (tgL w h a c f)) ∧ comp ((srtI (tgL w h a c f)).take x3) = List.take x3 (srtI (tgL w h a c f))) → (((decide (((x3 : Int) : Int) < (x1 : Int))) = true → (((0 : Int) ≤ (x3 : Int) ∧ ((x3 : Int) : Int) < (x1 : Int)) ∧ ((((srtI (tgL w h a c f)).flatMap intC)[(0 + Int.toNat (x3 : Int) * 1)]? = some (nI ((srtI (tgL w h a c f)).getD x3 0))) ∧ ((nI (IntKind.wrap .i64 ((x3 : Int) - 1)) : Value) = nI ((x3 : Int) - 1) ∧ (((0 : Int) ≤ ((x3 : Int) - 1) ∧ (((x3 : Int) - 1) : Int) < (x1 : Int)) ∧ ((((srtI (tgL w h a c f)).flatMap intC)[(0 + Int.toNat ((x3 : Int) - 1) * 1)]? = some (nI ((srtI (tgL w h a c f)).getD ((x3 : Int) - 1).toNat 0))) ∧ ((((((srtI (tgL w h a c f)).getD x3 0) : Int) == ((srtI (tgL w h a c f)).getD ((x3 : Int) - 1).toNat 0)) = true → ((((true = false ∨ 1 = 0 ∨ 1 = 1) ∧ x1 ≤ x1) ∧ (x1 ≤ x1) ∧ ((0 : Int) ≤ (x3 : Int) ∧ ((x3 : Int) : Int) ≤ (x1 : Int))) ∧ ((.slice (some ⟨4, (0 + (x3 : Int).toNat * 1), some 2⟩) (x1 - (x3 : Int).toNat) (x1 - (x3 : Int).toNat) : Value) = .slice (some ⟨4, (0 + (x3 : Int).toNat * 1), some 2⟩) (x1 - x3) (x1 - x3) ∧ (true = true ∧ (1 ≤ 1 ∧ (x3 + 1) ≤ List.length (srtI (tgL w h a c f)) ∧ cmpN (srtI (tgL w h a c f)) (x3 + 1) < (x3 + 1)) ∧ (true = true ∧ ((nI 1 : Value) = nI ((1 : Nat) : Int) ∧ (nI (x3 : Int) : Value) = nI (((cmpN (srtI (tgL w h a c f)) (x3 + 1)) : Nat) : Int) ∧ wkR (slQ 4 1 x1) ∧ wkR (.slice (some ⟨4, (0 + (x3 : Int).toNat * 1), some 2⟩) (x1 - x3) (x1 - x3)) ∧ True) ∧ ((some (.cells true 1 ((srtI (tgL w h a c f)).flatMap intC) : KObj) = some (.cells true 1 ((cmpTo (srtI (tgL w h a c f)) (x3 + 1)).flatMap intC) : KObj) ∧ belowO 5 (.cells true 1 ((cmpTo (srtI (tgL w h a c f)) (x3 + 1)).flatMap intC) : KObj) = true) ∧ True) ∧ (True) ∧ (True)) ∧ (∀ x4 : Nat, true = true) ∧ ∀ x4 : Nat, (1 ≤ x4 ∧ (x3 + x4) ≤ List.length (srtI (tgL w h a c f)) ∧ cmpN (srtI (tgL w h a c f)) (x3 + x4) < (x3 + x4)) → (((decide (((x4 : Int) : Int) < (((x1 - x3) : Nat) : Int))) = true → (((0 : Int) ≤ (x4 : Int) ∧ ((x4 : Int) : Int) < (((x1 - x3) : Nat) : Int)) ∧ ((((cmpTo (srtI (tgL w h a c f)) (x3 + x4)).flatMap intC)[((0 + (x3 : Int).toNat * 1) + Int.toNat (x4 : Int) * 1)]? = some (nI ((cmpTo (srtI (tgL w h a c f)) (x3 + x4)).getD (x3 + x4) 0))) ∧ ((nI (IntKind.wrap .i64 ((x4 : Int) - 1)) : Value) = nI ((x4 : Int) - 1) ∧ (((0 : Int) ≤ ((x4 : Int) - 1) ∧ (((x4 : Int) - 1) : Int) < (((x1 - x3) : Nat) : Int)) ∧ ((((cmpTo (srtI (tgL w h a c f)) (x3 + x4)).flatMap intC)[((0 + (x3 : Int).toNat * 1) + Int.toNat ((x4 : Int) - 1) * 1)]? = some (nI ((cmpTo (srtI (tgL w h a c f)) (x3 + x4)).getD (x3 + ((x4 : Int) - 1).toNat) 0))) ∧ ((((((cmpTo (srtI (tgL w h a c f)) (x3 + x4)).getD (x3 + x4) 0) : Int) != ((cmpTo (srtI (tgL w h a c f)) (x3 + x4)).getD (x3 + ((x4 : Int) - 1).toNat) 0)) = true → (∃ y5 : Int, (nI (((cmpN (srtI (tgL w h a c f)) (x3 + x4)) : Nat) : Int) : Value) = nI y5 ∧ (((0 : Int) ≤ (x4 : Int) ∧ ((x4 : Int) : Int) < (((x1 - x3) : Nat) : Int)) ∧ ((((cmpTo (srtI (tgL w h a c f)) (x3 + x4)).flatMap intC)[((0 + (x3 : Int).toNat * 1) + Int.toNat (x4 : Int) * 1)]? = some (nI ((cmpTo (srtI (tgL w h a c f)) (x3 + x4)).getD (x3 + x4) 0))) ∧ (((0 : Int) ≤ y5 ∧ (y5 : Int) < (x1 : Int)) ∧ (((0 + Int.toNat y5 * 1) + 1 ≤ List.length ((cmpTo (srtI (tgL w h a c f)) (x3 + x4)).flatMap intC)) ∧ true = true ∧ (∃ y6 : Int, (nI (((cmpN (srtI (tgL w h a c f)) (x3 + x4)) : Nat) : Int) : Value) = nI y6 ∧ ((nI (IntKind.wrap .i64 (y6 + 1)) : Value) = nI (y6 + 1) ∧ ((nI (IntKind.wrap .i64 ((x4 : Int) + 1)) : Value) = nI ((x4 : Int) + 1) ∧ (∃ x4' : Nat, (1 ≤ x4' ∧ (x3 + x4') ≤ List.length (srtI (tgL w h a c f)) ∧ cmpN (srtI (tgL w h a c f)) (x3 + x4') < (x3 + x4')) ∧ (List.length (srtI (tgL w h a c f)) - (x3 + x4')) < (List.length (srtI (tgL w h a c f)) - (x3 + x4)) ∧ true = true ∧ ((nI ((x4 : Int) + 1) : Value) = nI (x4' : Int) ∧ (nI (y6 + 1) : Value) = nI (((cmpN (srtI (tgL w h a c f)) (x3 + x4')) : Nat) : Int) ∧ wkR (slQ 4 1 x1) ∧ wkR (.slice (some ⟨4, (0 + (x3 : Int).toNat * 1), some 2⟩) (x1 - x3) (x1 - x3)) ∧ True) ∧ ((some (.cells true 1 (setl ((cmpTo (srtI (tgL w h a c f)) (x3 + x4)).flatMap intC) (0 + Int.toNat y5 * 1) [nI ((cmpTo (srtI (tgL w h a c f)) (x3 + x4)).getD (x3 + x4) 0)]) : KObj) = some (.cells true 1 ((cmpTo (srtI (tgL w h a c f)) (x3 + x4')).flatMap intC) : KObj) ∧ belowO 5 (.cells true 1 ((cmpTo (srtI (tgL w h a c f)) (x3 + x4')).flatMap intC) : KObj) = true) ∧ True) ∧ (True) ∧ (True))))))))))) ∧ (((((cmpTo (srtI (tgL w h a c f)) (x3 + x4)).getD (x3 + x4) 0) : Int) != ((cmpTo (srtI (tgL w h a c f)) (x3 + x4)).getD (x3 + ((x4 : Int) - 1).toNat) 0)) = false → ((nI (IntKind.wrap .i64 ((x4 : Int) + 1)) : Value) = nI ((x4 : Int) + 1) ∧ (∃ x4' : Nat, (1 ≤ x4' ∧ (x3 + x4') ≤ List.length (srtI (tgL w h a c f)) ∧ cmpN (srtI (tgL w h a c f)) (x3 + x4') < (x3 + x4')) ∧ (List.length (srtI (tgL w h a c f)) - (x3 + x4')) < (List.length (srtI (tgL w h a c f)) - (x3 + x4)) ∧ true = true ∧ ((nI ((x4 : Int) + 1) : Value) = nI (x4' : Int) ∧ (nI (((cmpN (srtI (tgL w h a c f)) (x3 + x4)) : Nat) : Int) : Value) = nI (((cmpN (srtI (tgL w h a c f)) (x3 + x4')) : Nat) : Int) ∧ wkR (slQ 4 1 x1) ∧ wkR (.slice (some ⟨4, (0 + (x3 : Int).toNat * 1), some 2⟩) (x1 - x3) (x1 - x3)) ∧ True) ∧ ((some (.cells true 1 ((cmpTo (srtI (tgL w h a c f)) (x3 + x4)).flatMap intC) : KObj) = some (.cells true 1 ((cmpTo (srtI (tgL w h a c f)) (x3 + x4')).flatMap intC) : KObj) ∧ belowO 5 (.cells true 1 ((cmpTo (srtI (tgL w h a c f)) (x3 + x4')).flatMap intC) : KObj) = true) ∧ True) ∧ (True) ∧ (True))))))))))) ∧ ((decide (((x4 : Int) : Int) < (((x1 - x3) : Nat) : Int))) = false → (∃ y5 : Int, (nI (((cmpN (srtI (tgL w h a c f)) (x3 + x4)) : Nat) : Int) : Value) = nI y5 ∧ ((((true = false ∨ 1 = 0 ∨ 1 = 1) ∧ x1 ≤ x1) ∧ (x1 ≤ x1) ∧ ((0 : Int) ≤ y5 ∧ (y5 : Int) ≤ (x1 : Int))) ∧ (((0 + y5.toNat * 1) + (x1 - y5.toNat) * 1 ≤ List.length ((cmpTo (srtI (tgL w h a c f)) (x3 + x4)).flatMap intC)) ∧ true = true ∧ (∃ y6 : Int, (nI (((cmpN (srtI (tgL w h a c f)) (x3 + x4)) : Nat) : Int) : Value) = nI y6 ∧ ((((true = false ∨ 1 = 0 ∨ 1 = 1) ∧ y6.toNat ≤ x1) ∧ ((0 : Int) ≤ y6 ∧ (y6 : Int) ≤ (x1 : Int)) ∧ (0 ≤ y6.toNat)) ∧ ((slQ 4 2 (y6.toNat - 0) : Value) = slQ 4 2 y6.toNat ∧ (true = true ∧ wk (slQ 4 2 y6.toNat : Value) (rn (sg 1 [(1, 4)]) 3 (slQ 1 2 (comp (srtI (tgL w h a c f))).length : Value)) ∧ ((some (.cells true 1 (setl ((cmpTo (srtI (tgL w h a c f)) (x3 + x4)).flatMap intC) (0 + y5.toNat * 1) (krep [nI 0] (x1 - y5.toNat))) : KObj) = some (.cells true 1 (((comp (srtI (tgL w h a c f))) ++ padT (tgL w h a c f)).flatMap intC) : KObj) ∧ belowO 1 (.cells true 1 (((comp (srtI (tgL w h a c f))) ++ padT (tgL w h a c f)).flatMap intC) : KObj) = true) ∧ True)))))))))))))) ∧ (((((srtI (tgL w h a c f)).getD x3 0) : Int) == ((srtI (tgL w h a c f)).getD ((x3 : Int) - 1).toNat 0)) = false → ((nI (IntKind.wrap .i64 ((x3 : Int) + 1)) : Value) = nI ((x3 : Int) + 1) ∧ (∃ x3' : Nat, (1 ≤ x3' ∧ x3' ≤ List.length (srtI (tgL w h a c f)) ∧ comp ((srtI (tgL w h a c f)).take x3') = List.take x3' (srtI (tgL w h a c f))) ∧ (List.length (srtI (tgL w h a c f)) - x3') < (List.length (srtI (tgL w h a c f)) - x3) ∧ true = true ∧ ((nI ((x3 : Int) + 1) : Value) = nI (x3' : Int) ∧ wkR (slQ 4 1 x1) ∧ True) ∧ ((keptR 5 (.cells true 1 ((srtI (tgL w h a c f)).flatMap intC))) ∧ True) ∧ (True) ∧ (True))))))))))) ∧ ((decide (((x3 : Int) : Int) < (x1 : Int))) = false → (true = true ∧ wk (slQ 4 1 x1 : Value) (rn (sg 1 [(1, 4)]) 3 (slQ 1 2 (comp (srtI (tgL w h a c f))).length : Value)) ∧ ((some (.cells true 1 ((srtI (tgL w h a c f)).flatMap intC) : KObj) = some (.cells true 1 (((comp (srtI (tgL w h a c f))) ++ padT (tgL w h a c f)).flatMap intC) : KObj) ∧ belowO 1 (.cells true 1 (((comp (srtI (tgL w h a c f))) ++ padT (tgL w h a c f)).flatMap intC) : KObj) = true) ∧ True))))))))))))
theorem Etargets (w h : Int) (a : List Bool) (c : Int) (f : Flow) : vF prog msk (dm 0) 100000 true 40 true 78 [.agg #[nI w, nI h, slQ 0 2 a.length], .agg #[nI f.x.lo, nI f.x.hi, nI f.y.lo, nI f.y.hi], nI c] (readsT 0 [a.flatMap boolC]) (some [])
  (.go 4 (.ans [] (slQ 3 1 (movesF f).length) [.cells true 2 ((movesF f).flatMap moveC)] (.go 1 (.inv 3 (Nat) (0) [] [1, 2] (fun x1 => [(13, nI (x1 : Int)), (7, slQ 4 1 x1), (2, nI c), (3, .pointer (some ⟨1, 0, none⟩)), (6, .slice none 0 0), (11, slQ 3 1 (movesF f).length), (12, nI (((movesF f).length : Nat) : Int))]) (fun x1 => [(1, true, .cells true 0 [nI w, nI h, slQ 0 2 a.length]), (2, true, .cells true 0 [nI f.x.lo, nI f.x.hi, nI f.y.lo, nI f.y.hi])]) (fun x1 => [(true, .cells true 1 (((tgL w h a c f).take x1).flatMap intC))]) (fun x1 => []) (fun x1 => (x1 ≤ List.length (movesF f))) (fun x1 => (List.length (movesF f) - x1)) (fun x1 => .go 0 (.fork (.need (.val (.agg #[nI ((movesF f).getD x1 zeroM).dx, nI ((movesF f).getD x1 zeroM).dy]) (.go 5 (.bind (Int) (fun r2 => .ans [(0, .cells false 0 (a.flatMap boolC))] (nI r2) [] (.go 0 (.need (.go 1 (.slot 24 (nI ((x1 : Int) + 1)) (.go 0 (.again [(4, 7)]))))))))))) (.go 0 (.answ [(4, .cells true 1 (((tgL w h a c f).take x1).flatMap intC))] (.tuple #[]) [(4, .cells true 1 ((srtI (tgL w h a c f)).flatMap intC))] [] (.go 0 (.into (some [1, 2, 3, 4]) (.go 3 (.fork (.go 1 (.keep (.go 0 (.again [(1, 4)])))) (.go 0 (.inv 3 (Nat) (1) [] [4] (fun x3 => [(3, nI (x3 : Int)), (0, slQ 4 1 x1)]) (fun x3 => [(4, true, .cells true 1 ((srtI (tgL w h a c f)).flatMap intC))]) (fun x3 => []) (fun x3 => []) (fun x3 => (1 ≤ x3 ∧ x3 ≤ List.length (srtI (tgL w h a c f)) ∧ comp ((srtI (tgL w h a c f)).take x3) = List.take x3 (srtI (tgL w h a c f)))) (fun x3 => (List.length (srtI (tgL w h a c f)) - x3)) (fun x3 => .go 3 (.fork (.go 1 (.need (.val (nI ((srtI (tgL w h a c f)).getD x3 0)) (.go 2 (.slot 22 (nI ((x3 : Int) - 1)) (.need (.val (nI ((srtI (tgL w h a c f)).getD ((x3 : Int) - 1).toNat 0)) (.go 0 (.fork (.go 1 (.need (.slot 28 (.slice (some ⟨4, (0 + (x3 : Int).toNat * 1), some 2⟩) (x1 - x3) (x1 - x3)) (.go 1 (.inv 3 (Nat) (1) [] [4] (fun x4 => [(5, nI (x4 : Int)), (3, nI (((cmpN (srtI (tgL w h a c f)) (x3 + x4)) : Nat) : Int)), (0, slQ 4 1 x1), (4, .slice (some ⟨4, (0 + (x3 : Int).toNat * 1), some 2⟩) (x1 - x3) (x1 - x3))]) (fun x4 => [(4, true, .cells true 1 ((cmpTo (srtI (tgL w h a c f)) (x3 + x4)).flatMap intC))]) (fun x4 => []) (fun x4 => []) (fun x4 => (1 ≤ x4 ∧ (x3 + x4) ≤ List.length (srtI (tgL w h a c f)) ∧ cmpN (srtI (tgL w h a c f)) (x3 + x4) < (x3 + x4))) (fun x4 => (List.length (srtI (tgL w h a c f)) - (x3 + x4))) (fun x4 => .go 3 (.fork (.go 1 (.need (.val (nI ((cmpTo (srtI (tgL w h a c f)) (x3 + x4)).getD (x3 + x4) 0)) (.go 2 (.slot 41 (nI ((x4 : Int) - 1)) (.need (.val (nI ((cmpTo (srtI (tgL w h a c f)) (x3 + x4)).getD (x3 + ((x4 : Int) - 1).toNat) 0)) (.go 0 (.fork (.go 1 (.bind Int (fun y5 => .slot 46 (nI y5) (.go 1 (.need (.val (nI ((cmpTo (srtI (tgL w h a c f)) (x3 + x4)).getD (x3 + x4) 0)) (.need (.need (.go 0 (.bind Int (fun y6 => .slot 52 (nI y6) (.go 0 (.slot 53 (nI (y6 + 1)) (.go 2 (.slot 34 (nI ((x4 : Int) + 1)) (.go 0 (.again []))))))))))))))))) (.go 1 (.slot 34 (nI ((x4 : Int) + 1)) (.go 0 (.again []))))))))))))) (.go 1 (.bind Int (fun y5 => .slot 55 (nI y5) (.need (.need (.go 1 (.bind Int (fun y6 => .slot 58 (nI y6) (.need (.slot 59 (slQ 4 2 y6.toNat) (.go 0 (.keep (.go 0 (.again [(1, 4)]))))))))))))))))))))) (.go 1 (.slot 15 (nI ((x3 : Int) + 1)) (.go 0 (.again []))))))))))))) (.go 1 (.keep (.go 0 (.again [(1, 4)]))))))))))))))))))))
  (newK ((readsT 0 [a.flatMap boolC]) : HT).n 3 (slQ 1 2 (comp (srtI (tgL w h a c f))).length) [(true, .cells true 1 (((comp (srtI (tgL w h a c f))) ++ padT (tgL w h a c f)).flatMap intC))]) = Rtargets w h a c f := by kernel_rfl
end
end Go.Proofs.Ytkkgnalgmebfjaa
/- Drift: the moves of a flow: what they answer. No condition. -/
namespace Go.Proofs.Ytkkgnalgmebfjaa
open Go Go.K
set_option maxRecDepth 100000
set_option linter.unusedVariables false
set_option linter.unusedSimpArgs false
noncomputable section
attribute [local irreducible] vF
theorem flat_le {α : Type} {f : α → List Value} {n : Nat} (hf : ∀ x, (f x).length = n) (xs : List α) : 0 + xs.length * n ≤ (xs.flatMap f).length := by rw [flat_len hf]; omega
theorem wk_snoc {α : Type} {L M : List α} {x : α} {id : Nat} (hM : M = L ++ [x]) : wk (.slice (some ⟨id, 0, none⟩) (L.length + 1) (L.length + 1)) (.slice (some ⟨id, 0, some 1⟩) M.length M.length) := by
  have : M.length = L.length + 1 := by rw [hM, List.length_append]; rfl
  rw [this]; exact wk_Q (by omega)
theorem ob_snoc {α : Type} {f : α → List Value} {n : Nat} (hf : ∀ x, (f x).length = n) {L M : List α} {x : α} {c : List Value} {own : Bool} (hM : M = L ++ [x]) (hc : f x = c) :
    (some (KObj.cells own n (List.take (L.length * n) (List.drop 0 (L.flatMap f)) ++ List.take (1 * n) (List.drop 0 c))) : Option KObj) = some (.cells own n (M.flatMap f)) := by
  subst hc
  rw [hM, ← flat_snoc hf L x rfl, List.drop_zero, List.drop_zero, List.take_of_length_le (l := f x) (by rw [hf]; omega), List.take_of_length_le (by rw [flat_len hf]; omega)]
/-- An answer with one new list; nothing read. -/
theorem valQ0 {f : FuncId} {args : List Value} {h : Hint} (v : Nat → Value) {z : Nat} {cs : List Value}
    (hc : vF prog msk (dm 0) 100000 true 40 true f args ⟨0, .leaf⟩ (some []) h (newK 0 3 (v 0) [(true, .cells true z cs)]))
    (hp : ∀ n, cs.all (belowC n) = true) (h1 : rnOk 3 (v 0) = true) (h2 : rn (sgOnly 0) 3 (v 0) = v 0) (h3 : ∀ j, rn (sgUp 0 j) 3 (v 0) = v j) (ha : ∀ σ, args.map (rn σ 3) = args) (H : Heap) :
    KCall prog f args H [] (Is (v H.length) (H ++ [.cells true z cs])) := by
  have key := valN (css := []) (v := v 0) (new := [(true, .cells true z cs)]) hc (fun c hc => by cases hc) h1 h2
    (by show ((rnoOk 3 (.cells true z cs) && true) && true) = true
        rw [Bool.and_true, Bool.and_true]; exact (rnCl (σ := fun _ => none) (d := 0) (hp 0)).2)
    (congrArg (fun q => [KObj.cells true z q]) (rnCl (d := 0) (hp 0)).1) (H := H) [] rfl (fun k c hk => by cases hk)
  have e2 : (List.map (fun x : Bool × KObj => x.2) [(true, KObj.cells true z cs)]).map (rno (sgUp (0 + ([] : List (List Value)).length) H.length) 3) = [.cells true z cs] :=
    congrArg (fun q => [KObj.cells true z q]) (rnCl (d := 0) (hp 0)).1
  rw [e2, show rn (sgUp (0 + ([] : List (List Value)).length) H.length) 3 (v 0) = v H.length from h3 _, ha] at key
  exact key
theorem moveC_len (m : Move) : (moveC m).length = 2 := rfl
theorem plainML (n : Nat) (l : List Move) : (l.flatMap moveC).all (belowC n) = true := plain_flat (fun _ => rfl) l
theorem mvRow_len (f : Flow) (j n : Nat) : (mvRow f j n).length = n := tabP_len _ _
theorem mvTo_len (f : Flow) : ∀ j, (mvTo f j).length = j * nxF f
  | 0 => by simp [mvTo]
  | j + 1 => by rw [mvTo, List.length_append, mvTo_len f j, mvRow_len, Nat.add_mul, Nat.one_mul]
theorem mvRow_succ (f : Flow) (j n : Nat) : mvRow f j (n + 1) = mvRow f j n ++ [⟨(endA f).dx + (n : Int), (endA f).dy + (j : Int)⟩] := tabP_succ _ _
theorem ends_bd {f : Flow} (hf : rightF f) : (-2 ≤ (endA f).dx ∧ (endA f).dx ≤ (endZ f).dx ∧ (endZ f).dx ≤ 2) ∧ (-2 ≤ (endA f).dy ∧ (endA f).dy ≤ (endZ f).dy ∧ (endZ f).dy ≤ 2) := by
  obtain ⟨⟨a1, a2, a3⟩, a4, a5, a6⟩ := hf
  unfold endA endZ
  dsimp only
  omega
theorem nx_bd {f : Flow} (hf : rightF f) : 1 ≤ nxF f ∧ nxF f ≤ 5 ∧ ((nxF f : Nat) : Int) = (endZ f).dx - (endA f).dx + 1 := by
  have := ends_bd hf
  unfold nxF
  omega
theorem ny_bd {f : Flow} (hf : rightF f) : 1 ≤ nyF f ∧ nyF f ≤ 5 ∧ ((nyF f : Nat) : Int) = (endZ f).dy - (endA f).dy + 1 := by
  have := ends_bd hf
  unfold nyF
  omega
theorem mvTo_bd {f : Flow} (hf : rightF f) {x : Nat} (hx : x ≤ nyF f) : (mvTo f x).length ≤ 25 := by
  have h1 := nx_bd hf
  have h2 := ny_bd hf
  rw [mvTo_len]
  exact Nat.mul_le_mul (show x ≤ 5 by omega) (show nxF f ≤ 5 by omega)
theorem movesF_bd {f : Flow} (hf : rightF f) : 1 ≤ (movesF f).length ∧ (movesF f).length ≤ 25 := by
  have h1 := nx_bd hf
  have h2 := ny_bd hf
  refine ⟨?_, mvTo_bd hf (Nat.le_refl _)⟩
  unfold movesF
  rw [mvTo_len]
  exact Nat.mul_le_mul (show 1 ≤ nyF f by omega) (show 1 ≤ nxF f by omega)
theorem kmoves (f : Flow) (hf : rightF f) {H : Heap} {L : Nat} (hL : H.length = L) : KCall prog F.drift_Flow_moves [flowV f] H [] (Is (.slice (some ⟨L, 0, some 1⟩) (movesF f).length (movesF f).length) (H ++ [.cells true 2 ((movesF f).flatMap moveC)])) := by
  subst hL
  refine valQ0 (fun i => .slice (some ⟨i, 0, some 1⟩) (movesF f).length (movesF f).length) (Eq.mpr (Emoves f) ?_) (fun n => plainML n _) rfl rfl (fun _ => rfl) (fun _ => rfl) H
  unfold Rmoves
  have eb := ends_bd hf
  have xb := nx_bd hf
  have yb := ny_bd hf
  refine ⟨trivial, fun H' _ _ => kends f hf H', rfl, Nat.zero_le _, ?_, fun _ => rfl, ?_⟩
  · repeat' first | (exact iEq (by omega)) | exact trivial | exact rfl | exact wk_refl _ | refine wkO_cells ?_ | refine wks_cons ?_ ?_ | exact wks_nil | exact wk_nil _ _ _ (.inl rfl) | (exact wk_Q (by omega)) | refine wk_tupL ?_ | refine wk_aggL ?_ | refine joinMax ?_ ?_ ?_ | refine joinMin ?_ ?_ ?_ | refine toMax ?_ | refine toMin ?_ | refine ⟨rfl, ?_⟩ | refine ⟨trivial, ?_⟩ | (refine forkD (fun h => ?_) (fun h => ?_)) | (refine forkNe (fun h => ?_) (fun h => ?_)) | (refine forkEq (fun h => ?_) (fun h => ?_)) | refine forkNot ?_ | (refine ⟨vI64 (by omega), ?_⟩) | (refine And.intro (by omega) ?_) | apply And.intro | (exact iEq (by omega)) | (exact vI64 (by omega))
  intro x hx
  refine forkD (fun k => ?_) (fun k => ?_)
  · have hx1 : x < nyF f := by omega
    refine ⟨rfl, Nat.zero_le _, ?_, fun _ => rfl, ?_⟩
    · rw [show mvTo f x ++ mvRow f x 0 = mvTo f x from List.append_nil _]
      repeat' first | (exact iEq (by omega)) | exact plainML _ _ | exact trivial | exact rfl | exact wk_refl _ | refine wkO_cells ?_ | refine wks_cons ?_ ?_ | exact wks_nil | exact wk_nil _ _ _ (.inl rfl) | (exact wk_Q (by omega)) | refine wk_tupL ?_ | refine wk_aggL ?_ | refine joinMax ?_ ?_ ?_ | refine joinMin ?_ ?_ ?_ | refine toMax ?_ | refine toMin ?_ | refine ⟨rfl, ?_⟩ | refine ⟨trivial, ?_⟩ | (refine forkD (fun h => ?_) (fun h => ?_)) | (refine forkNe (fun h => ?_) (fun h => ?_)) | (refine forkEq (fun h => ?_) (fun h => ?_)) | refine forkNot ?_ | (refine ⟨vI64 (by omega), ?_⟩) | (refine And.intro (by omega) ?_) | apply And.intro | (exact iEq (by omega)) | (exact vI64 (by omega))
    intro y hy
    have hlen : (mvTo f x ++ mvRow f x y).length ≤ 30 := by
      rw [List.length_append, mvRow_len]
      have := mvTo_bd hf (Nat.le_of_lt hx1)
      omega
    refine forkD (fun k2 => ?_) (fun k2 => ?_)
    · have hy1 : y < nxF f := by omega
      have hM : mvTo f x ++ mvRow f x (y + 1) = (mvTo f x ++ mvRow f x y) ++ [⟨(endA f).dx + (y : Int), (endA f).dy + (x : Int)⟩] := by rw [mvRow_succ, List.append_assoc]
      repeat' first | (refine ⟨y + 1, by omega, by omega, rfl, ?_⟩) | exact wk_snoc hM | exact ob_snoc moveC_len hM rfl | exact plainML _ _ | exact flat_le moveC_len _ | exact Nat.le_refl _ | exact trivial | exact rfl | exact wk_refl _ | refine wkO_cells ?_ | refine wks_cons ?_ ?_ | exact wks_nil | exact wk_nil _ _ _ (.inl rfl) | (exact wk_Q (by omega)) | refine wk_tupL ?_ | refine wk_aggL ?_ | refine joinMax ?_ ?_ ?_ | refine joinMin ?_ ?_ ?_ | refine toMax ?_ | refine toMin ?_ | refine ⟨rfl, ?_⟩ | refine ⟨trivial, ?_⟩ | (refine forkD (fun h => ?_) (fun h => ?_)) | (refine forkNe (fun h => ?_) (fun h => ?_)) | (refine forkEq (fun h => ?_) (fun h => ?_)) | refine forkNot ?_ | (refine ⟨vI64 (by omega), ?_⟩) | (refine And.intro (by omega) ?_) | apply And.intro | (exact iEq (by omega)) | (exact vI64 (by omega))
    · obtain rfl : y = nxF f := by omega
      repeat' first | (refine ⟨x + 1, by omega, by omega, rfl, ?_⟩) | exact plainML _ _ | exact trivial | exact rfl | exact wk_refl _ | refine wkO_cells ?_ | refine wks_cons ?_ ?_ | exact wks_nil | exact wk_nil _ _ _ (.inl rfl) | (exact wk_Q (by omega)) | refine wk_tupL ?_ | refine wk_aggL ?_ | refine joinMax ?_ ?_ ?_ | refine joinMin ?_ ?_ ?_ | refine toMax ?_ | refine toMin ?_ | refine ⟨rfl, ?_⟩ | refine ⟨trivial, ?_⟩ | (refine forkD (fun h => ?_) (fun h => ?_)) | (refine forkNe (fun h => ?_) (fun h => ?_)) | (refine forkEq (fun h => ?_) (fun h => ?_)) | refine forkNot ?_ | (refine ⟨vI64 (by omega), ?_⟩) | (refine And.intro (by omega) ?_) | apply And.intro | (exact iEq (by omega)) | (exact vI64 (by omega))
  · obtain rfl : x = nyF f := by omega
    repeat' first | exact plainML _ _ | exact trivial | exact rfl | exact wk_refl _ | refine wkO_cells ?_ | refine wks_cons ?_ ?_ | exact wks_nil | exact wk_nil _ _ _ (.inl rfl) | (exact wk_Q (by omega)) | refine wk_tupL ?_ | refine wk_aggL ?_ | refine joinMax ?_ ?_ ?_ | refine joinMin ?_ ?_ ?_ | refine toMax ?_ | refine toMin ?_ | refine ⟨rfl, ?_⟩ | refine ⟨trivial, ?_⟩ | (refine forkD (fun h => ?_) (fun h => ?_)) | (refine forkNe (fun h => ?_) (fun h => ?_)) | (refine forkEq (fun h => ?_) (fun h => ?_)) | refine forkNot ?_ | (refine ⟨vI64 (by omega), ?_⟩) | (refine And.intro (by omega) ?_) | apply And.intro | (exact iEq (by omega)) | (exact vI64 (by omega))
theorem fMoves_0 {f : Flow} (h : rightF f) : fMoves f = (movesF f, 0) := if_pos h
theorem fMoves_1 {f : Flow} (h : ¬ rightF f) : fMoves f = ([], 30) := if_neg h
abbrev mvsV (i : Nat) (r : List Move × Int) : Value := .tuple #[.slice (some ⟨i, 0, some 1⟩) r.1.length r.1.length, .int .i64 r.2]
theorem kMoves (f : Flow) {H : Heap} {L : Nat} (hL : H.length = L) : KCall prog F.drift_Moves [flowV f] H [] (Is (mvsV L (fMoves f)) (H ++ [.cells true 2 ((fMoves f).1.flatMap moveC)])) := by
  subst hL
  refine valQ0 (fun i => mvsV i (fMoves f)) (Eq.mpr (EMoves f) ?_) (fun n => plainML n _) rfl rfl (fun _ => rfl) (fun _ => rfl) H
  unfold RMoves
  by_cases h : rightF f
  · rw [fMoves_0 h]
    have hf := h
    obtain ⟨⟨a1, a2, a3⟩, a4, a5, a6⟩ := h
    repeat' first | (refine ⟨trivial, fun H' hl _ => kmoves f hf hl, ?_⟩) | exact plainML _ _ | omega | exact trivial | exact rfl | exact wk_refl _ | refine wkO_cells ?_ | refine wks_cons ?_ ?_ | exact wks_nil | exact wk_nil _ _ _ (.inl rfl) | (exact wk_Q (by omega)) | refine wk_tupL ?_ | refine wk_aggL ?_ | refine joinMax ?_ ?_ ?_ | refine joinMin ?_ ?_ ?_ | refine toMax ?_ | refine toMin ?_ | refine ⟨rfl, ?_⟩ | refine ⟨trivial, ?_⟩ | (refine forkD (fun h => ?_) (fun h => ?_)) | (refine forkNe (fun h => ?_) (fun h => ?_)) | (refine forkEq (fun h => ?_) (fun h => ?_)) | refine forkNot ?_ | (refine ⟨vI64 (by omega), ?_⟩) | (refine And.intro (by omega) ?_) | apply And.intro | (exact iEq (by omega)) | (exact vI64 (by omega))
  · rw [fMoves_1 h]
    unfold rightF rightS at h
    repeat' first | omega | exact trivial | exact rfl | exact wk_refl _ | refine wkO_cells ?_ | refine wks_cons ?_ ?_ | exact wks_nil | exact wk_nil _ _ _ (.inl rfl) | (exact wk_Q (by omega)) | refine wk_tupL ?_ | refine wk_aggL ?_ | refine joinMax ?_ ?_ ?_ | refine joinMin ?_ ?_ ?_ | refine toMax ?_ | refine toMin ?_ | refine ⟨rfl, ?_⟩ | refine ⟨trivial, ?_⟩ | (refine forkD (fun h => ?_) (fun h => ?_)) | (refine forkNe (fun h => ?_) (fun h => ?_)) | (refine forkEq (fun h => ?_) (fun h => ?_)) | refine forkNot ?_ | (refine ⟨vI64 (by omega), ?_⟩) | (refine And.intro (by omega) ?_) | apply And.intro | (exact iEq (by omega)) | (exact vI64 (by omega))
deriving instance DecidableEq for Move
end
end Go.Proofs.Ytkkgnalgmebfjaa
/- Drift: sorted lists without repeats, as plain Lean. No condition. -/
namespace Go.Proofs.Ytkkgnalgmebfjaa
set_option linter.unusedSimpArgs false
set_option linter.unusedVariables false
open Go Go.K
theorem comp_mem {z : Int} : ∀ l : List Int, z ∈ comp l ↔ z ∈ l
  | [] => Iff.rfl
  | [x] => Iff.rfl
  | x :: y :: r => by
    have ih := comp_mem (z := z) (y :: r)
    unfold comp
    split
    · rename_i h; subst h; rw [ih]; simp
    · rw [List.mem_cons, ih, List.mem_cons (b := x)]
theorem comp_lt : ∀ {l : List Int}, l.Pairwise (· ≤ ·) → (comp l).Pairwise (· < ·)
  | [], _ => List.Pairwise.nil
  | [x], _ => List.pairwise_singleton _ _
  | x :: y :: r, h => by
    have h2 := List.pairwise_cons.1 h
    have ih := comp_lt h2.2
    unfold comp
    split
    · exact ih
    · rename_i hne
      refine List.pairwise_cons.2 ⟨fun z hz => ?_, ih⟩
      have hz2 := (comp_mem (y :: r)).1 hz
      have hxy := h2.1 y List.mem_cons_self
      rcases List.mem_cons.1 hz2 with rfl | hz3
      · omega
      · have := (List.pairwise_cons.1 h2.2).1 z hz3; omega
theorem lt_ext : ∀ {l m : List Int}, l.Pairwise (· < ·) → m.Pairwise (· < ·) → (∀ z, z ∈ l ↔ z ∈ m) → l = m
  | [], [], _, _, _ => rfl
  | [], y :: m, _, _, h => absurd ((h y).2 List.mem_cons_self) List.not_mem_nil
  | x :: l, [], _, _, h => absurd ((h x).1 List.mem_cons_self) List.not_mem_nil
  | x :: l, y :: m, h1, h2, h => by
    have a1 := List.pairwise_cons.1 h1
    have a2 := List.pairwise_cons.1 h2
    have e : x = y := by
      rcases List.mem_cons.1 ((h x).1 List.mem_cons_self) with e | e
      · exact e
      · rcases List.mem_cons.1 ((h y).2 List.mem_cons_self) with f | f
        · exact f.symm
        · have := a2.1 x e; have := a1.1 y f; omega
    subst e
    rw [lt_ext a1.2 a2.2 fun z => ?_]
    constructor
    · intro hz
      rcases List.mem_cons.1 ((h z).1 (List.mem_cons_of_mem _ hz)) with rfl | f
      · exact absurd (a1.1 _ hz) (by omega)
      · exact f
    · intro hz
      rcases List.mem_cons.1 ((h z).2 (List.mem_cons_of_mem _ hz)) with rfl | f
      · exact absurd (a2.1 _ hz) (by omega)
      · exact f
theorem truesTo_lt (l : List Bool) (x : Nat) : (truesTo l x).Pairwise (· < ·) := by
  unfold truesTo
  refine List.pairwise_map.2 ((List.pairwise_lt_range.filter _).imp fun h => ?_)
  omega
theorem truesTo_mem {l : List Bool} {x : Nat} {z : Int} : z ∈ truesTo l x ↔ ∃ i : Nat, i < x ∧ l.getD i false = true ∧ (i : Int) = z := by
  unfold truesTo
  simp only [List.mem_map, List.mem_filter, List.mem_range, and_assoc]
theorem tab_getD (f : Nat → Bool) (n i : Nat) (h : i < n) : (tabP f n).getD i false = f i := by
  rw [List.getD_eq_getElem?_getD]; simp [tabP, h]
theorem srt_le (L : List Int) : (srtI L).Pairwise (· ≤ ·) := by
  have h := List.pairwise_mergeSort (le := fun x y : Int => decide (x ≤ y)) (fun a b c h1 h2 => by simp at *; omega) (fun a b => by simp; omega) L
  exact h.imp fun h => by simpa using h
theorem srt_mem (L : List Int) (z : Int) : z ∈ srtI L ↔ z ∈ L := (List.mergeSort_perm L _).mem_iff
theorem srt_len (L : List Int) : (srtI L).length = L.length := List.length_mergeSort _
/-- The sorted list without repeats: the indices of a table of what is in it. -/
theorem comp_trues {L : List Int} {n : Nat} (h : ∀ z ∈ L, 0 ≤ z ∧ z < (n : Int)) : comp (srtI L) = truesL (tabP (fun i => decide ((i : Int) ∈ L)) n) := by
  refine lt_ext (comp_lt (srt_le L)) (truesTo_lt _ _) fun z => ?_
  rw [comp_mem, srt_mem, truesL, truesTo_mem, tabP_len]
  constructor
  · intro hz
    have := h z hz
    refine ⟨z.toNat, by omega, ?_, by omega⟩
    rw [tab_getD _ _ _ (by omega)]
    exact decide_eq_true (by rw [Int.toNat_of_nonneg this.1]; exact hz)
  · rintro ⟨i, hi, e, rfl⟩
    rw [tab_getD _ _ _ hi] at e
    exact of_decide_eq_true e
theorem comp_snoc (x y : Int) : ∀ T : List Int, comp (T ++ [x, y]) = if x = y then comp (T ++ [x]) else comp (T ++ [x]) ++ [y]
  | [] => by
    show comp [x, y] = _
    unfold comp; split <;> rename_i h
    · subst h; rfl
    · rfl
  | [a] => by
    show comp (a :: x :: [y]) = _
    have ih := comp_snoc x y []
    simp only [List.nil_append] at ih
    show comp (a :: x :: [y]) = if x = y then comp (a :: x :: []) else comp (a :: x :: []) ++ [y]
    rw [show comp (a :: x :: [y]) = if a = x then comp [x, y] else a :: comp [x, y] from by rw [comp], show comp (a :: x :: []) = if a = x then comp [x] else a :: comp [x] from rfl, ih]
    split <;> split <;> rfl
  | a :: b :: T => by
    have ih := comp_snoc x y (b :: T)
    show comp (a :: b :: (T ++ [x, y])) = if x = y then comp (a :: b :: (T ++ [x])) else comp (a :: b :: (T ++ [x])) ++ [y]
    rw [comp, comp]
    rw [show b :: (T ++ [x, y]) = (b :: T) ++ [x, y] from rfl, show b :: (T ++ [x]) = (b :: T) ++ [x] from rfl, ih]
    split <;> split <;> rfl
theorem take_two {S : List Int} {m : Nat} (h1 : 1 ≤ m) (h : m < S.length) : S.take (m + 1) = S.take (m - 1) ++ [S.getD (m - 1) 0, S.getD m 0] ∧ S.take m = S.take (m - 1) ++ [S.getD (m - 1) 0] := by
  obtain ⟨k, rfl⟩ : ∃ k, m = k + 1 := ⟨m - 1, by omega⟩
  have e1 : S.take (k + 1) = S.take k ++ [S.getD k 0] := by
    rw [List.take_add_one, List.getD_eq_getElem?_getD, List.getElem?_eq_getElem (by omega)]; rfl
  have e2 : S.take (k + 1 + 1) = S.take (k + 1) ++ [S.getD (k + 1) 0] := by
    rw [List.take_add_one, List.getD_eq_getElem?_getD, List.getElem?_eq_getElem h]; rfl
  refine ⟨?_, e1⟩
  rw [e2, Nat.add_sub_cancel, e1, List.append_assoc]; rfl
theorem comp_eq {S : List Int} {m : Nat} (h1 : 1 ≤ m) (h : m < S.length) (e : S.getD m 0 = S.getD (m - 1) 0) : comp (S.take (m + 1)) = comp (S.take m) := by
  obtain ⟨a, b⟩ := take_two h1 h
  rw [a, b, comp_snoc, if_pos e.symm]
theorem comp_ne {S : List Int} {m : Nat} (h1 : 1 ≤ m) (h : m < S.length) (e : ¬ S.getD m 0 = S.getD (m - 1) 0) : comp (S.take (m + 1)) = comp (S.take m) ++ [S.getD m 0] := by
  obtain ⟨a, b⟩ := take_two h1 h
  rw [a, b, comp_snoc, if_neg (Ne.symm e)]
theorem comp_len : ∀ l : List Int, (comp l).length ≤ l.length
  | [] => Nat.le_refl _
  | [x] => Nat.le_refl _
  | x :: y :: r => by
    have ih := comp_len (y :: r)
    unfold comp
    split
    · simp only [List.length_cons] at *; omega
    · simp only [List.length_cons] at *; omega
theorem cmpN_le (S : List Int) (m : Nat) (h : m ≤ S.length) : cmpN S m ≤ m := by
  unfold cmpN
  have := comp_len (S.take m)
  rw [List.length_take] at this
  omega
theorem cmpN_eq {S : List Int} {m : Nat} (h1 : 1 ≤ m) (h : m < S.length) (e : S.getD m 0 = S.getD (m - 1) 0) : cmpN S (m + 1) = cmpN S m ∧ cmpTo S (m + 1) = cmpTo S m := by
  unfold cmpTo cmpN
  rw [comp_eq h1 h e]; exact ⟨rfl, rfl⟩
theorem cmpN_ne {S : List Int} {m : Nat} (h1 : 1 ≤ m) (h : m < S.length) (e : ¬ S.getD m 0 = S.getD (m - 1) 0) (hN : cmpN S m < m) : cmpN S (m + 1) = cmpN S m + 1 ∧ (cmpTo S m).set (cmpN S m) (S.getD m 0) = cmpTo S (m + 1) := by
  have e0 := comp_ne h1 h e
  have e1 : cmpN S (m + 1) = cmpN S m + 1 := by unfold cmpN; rw [e0, List.length_append]; rfl
  refine ⟨e1, ?_⟩
  unfold cmpTo
  rw [e1, e0, List.append_assoc]
  have e2 : S.drop (cmpN S m) = S[cmpN S m] :: S.drop (cmpN S m + 1) := List.drop_eq_getElem_cons (by omega)
  rw [e2, show (comp (List.take m S) ++ S[cmpN S m] :: List.drop (cmpN S m + 1) S).set (cmpN S m) (S.getD m 0) = comp (List.take m S) ++ S.getD m 0 :: List.drop (cmpN S m + 1) S from by
    rw [List.set_append, if_neg (by unfold cmpN; omega)]
    unfold cmpN; rw [Nat.sub_self]; rfl]
  rfl
theorem cmpTo_len {S : List Int} {m : Nat} (h : m ≤ S.length) : (cmpTo S m).length = S.length := by
  have := cmpN_le S m h
  unfold cmpTo
  rw [List.length_append, List.length_drop]
  show cmpN S m + _ = _
  omega
theorem cmpTo_get {S : List Int} {m k : Nat} (h : cmpN S m ≤ k) : (cmpTo S m).getD k 0 = S.getD k 0 := by
  unfold cmpTo
  rw [List.getD_eq_getElem?_getD, List.getElem?_append_right (by exact h), List.getElem?_drop, List.getD_eq_getElem?_getD]
  rw [show cmpN S m + (k - (comp (List.take m S)).length) = k from by show cmpN S m + (k - cmpN S m) = k; omega]
theorem cmpTo_0 {S : List Int} {x : Nat} (h1 : 1 ≤ x) (h : x < S.length) (hc : comp (S.take x) = S.take x) (e : S.getD x 0 = S.getD (x - 1) 0) : cmpN S (x + 1) = x ∧ cmpTo S (x + 1) = S := by
  have a := cmpN_eq h1 h e
  have b : cmpN S x = x := by unfold cmpN; rw [hc, List.length_take]; omega
  refine ⟨a.1.trans b, a.2.trans ?_⟩
  unfold cmpTo
  rw [b, hc, List.take_append_drop]
theorem comp_all {S : List Int} {x : Nat} (h1 : 1 ≤ x) (h : x < S.length) (hc : comp (S.take x) = S.take x) (e : ¬ S.getD x 0 = S.getD (x - 1) 0) : comp (S.take (x + 1)) = S.take (x + 1) := by
  rw [comp_ne h1 h e, hc, List.take_add_one, List.getD_eq_getElem?_getD, List.getElem?_eq_getElem h]; rfl
end Go.Proofs.Ytkkgnalgmebfjaa
/- The library's sort of numbers, laid at this program (written by the kit's own tool). No condition. -/
namespace Go.Proofs.Ytkkgnalgmebfjaa
set_option linter.unusedSimpArgs false
set_option linter.unusedVariables false
open Go Go.Shelf
def sortI_ren : Go.Shelf.Ren := ⟨fun | 189 => 124 | 125 => 147 | 257 => 146 | 128 => 159 | 129 => 160 | 294 => 150 | 295 => 151 | 296 => 152 | 297 => 153 | 298 => 154 | 299 => 155 | 216 => 156 | 300 => 157 | 301 => 158 | 328 => 162 | 329 => 163 | 330 => 164 | 331 => 165 | 332 => 166 | 215 => 167 | 343 => 168 | n => n, fun | 28 => 22 | 3 => 3 | 46 => 212 | 0 => 0 | 51 => 224 | 53 => 226 | 4 => 4 | 183 => 216 | 182 => 215 | 131 => 221 | 5 => 5 | 9 => 9 | 218 => 227 | 222 => 231 | 228 => 233 | 229 => 234 | n => n, fun | n => n⟩
theorem sortI : Go.Proofs.Lays.n189 Try.prog sortI_ren := {
  mixed := by kernel_rfl
  f125 := Try.func147.trans (congrArg some (by kernel_rfl))
  f128 := Try.func159.trans (congrArg some (by kernel_rfl))
  f129 := Try.func160.trans (congrArg some (by kernel_rfl))
  f189 := Try.func124.trans (congrArg some (by kernel_rfl))
  f215 := Try.func167.trans (congrArg some (by kernel_rfl))
  f216 := Try.func156.trans (congrArg some (by kernel_rfl))
  f257 := Try.func146.trans (congrArg some (by kernel_rfl))
  f294 := Try.func150.trans (congrArg some (by kernel_rfl))
  f295 := Try.func151.trans (congrArg some (by kernel_rfl))
  f296 := Try.func152.trans (congrArg some (by kernel_rfl))
  f297 := Try.func153.trans (congrArg some (by kernel_rfl))
  f298 := Try.func154.trans (congrArg some (by kernel_rfl))
  f299 := Try.func155.trans (congrArg some (by kernel_rfl))
  f300 := Try.func157.trans (congrArg some (by kernel_rfl))
  f301 := Try.func158.trans (congrArg some (by kernel_rfl))
  f328 := Try.func162.trans (congrArg some (by kernel_rfl))
  f329 := Try.func163.trans (congrArg some (by kernel_rfl))
  f330 := Try.func164.trans (congrArg some (by kernel_rfl))
  f331 := Try.func165.trans (congrArg some (by kernel_rfl))
  f332 := Try.func166.trans (congrArg some (by kernel_rfl))
  f343 := Try.func168.trans (congrArg some (by kernel_rfl))
  t0 := Try.underlying0
  a0 := Try.isAgg0
  z0 := Try.sizeOf0
  v0 := Try.zeroValue0
  t3 := Try.underlying3
  a3 := Try.isAgg3
  z3 := Try.sizeOf3
  v3 := Try.zeroValue3
  t4 := Try.underlying4
  a4 := Try.isAgg4
  z4 := Try.sizeOf4
  v4 := Try.zeroValue4
  t5 := Try.underlying5
  a5 := Try.isAgg5
  z5 := Try.sizeOf5
  v5 := Try.zeroValue5
  t9 := Try.underlying9
  a9 := Try.isAgg9
  z9 := Try.sizeOf9
  v9 := Try.zeroValue9
  t28 := Try.underlying22
  a28 := Try.isAgg22
  z28 := Try.sizeOf22
  v28 := Try.zeroValue22
  t46 := Try.underlying212
  a46 := Try.isAgg212
  z46 := Try.sizeOf212
  v46 := Try.zeroValue212
  t51 := Try.underlying224
  a51 := Try.isAgg224
  z51 := Try.sizeOf224
  v51 := Try.zeroValue224
  t53 := Try.underlying226
  a53 := Try.isAgg226
  z53 := Try.sizeOf226
  v53 := Try.zeroValue226
  t131 := Try.underlying221
  a131 := Try.isAgg221
  z131 := Try.sizeOf221
  v131 := Try.zeroValue221
  t182 := Try.underlying215
  a182 := Try.isAgg215
  z182 := Try.sizeOf215
  v182 := Try.zeroValue215
  t183 := Try.underlying216
  a183 := Try.isAgg216
  z183 := Try.sizeOf216
  v183 := Try.zeroValue216
  t218 := Try.underlying227
  a218 := Try.isAgg227
  z218 := Try.sizeOf227
  v218 := Try.zeroValue227
  t222 := Try.underlying231
  a222 := Try.isAgg231
  z222 := Try.sizeOf231
  v222 := Try.zeroValue231
  t228 := Try.underlying233
  a228 := Try.isAgg233
  z228 := Try.sizeOf233
  v228 := Try.zeroValue233
  t229 := Try.underlying234
  a229 := Try.isAgg234
  z229 := Try.sizeOf234
  v229 := Try.zeroValue234 }
end Go.Proofs.Ytkkgnalgmebfjaa
/- The library's sort, by its contract, over canonical memory. No condition. -/
namespace Go.K
set_option linter.unusedSimpArgs false
open Go
set_option linter.unusedVariables false
variable {P : Program}

/-- The world grows, and turns where nothing is said of it. -/
theorem Rel.world {B : Nat} {ρ : Ren} {H : Heap} {w W : World} (hr : Rel P B ρ H w) (b0 : Nat) (hsz : w.heap.size ≤ W.heap.size) (hsame : ∀ b, b < w.heap.size → b ≠ b0 → W.heap[b]? = w.heap[b]?)
    (hfree : ∀ id r o, ρ id = some r → H[id]? = some o → o.alive = true → r.b ≠ b0) (hmem : ∀ m, ρ.mem b0 = some m → False) (hfb : ¬ FB ρ H b0) : Rel P B ρ H W := by
  refine ⟨Nat.le_trans hr.bsize hsz, hr.glob, hr.dom, fun id r h => Nat.lt_of_lt_of_le (hr.lt id r h) hsz, fun id r o h1 h2 => ?_, hr.base, hr.sep, fun b m hb => ⟨?_, (hr.mem b m hb).2⟩,
    hr.fam.keep (Ren.le_refl _) (fun _ _ _ h => h) (fun _ _ _ _ h => h) (Nat.le_refl _) hsz (fun b hb => by
      rcases Nat.lt_or_ge b w.heap.size with hl | hl
      · exact hsame b hl (fun e => hfb (e ▸ hb))
      · exact absurd hb (hr.fam.freeL hl)) (fun id r o a b c => hr.fam.free a b c) (fun b m h => hr.fam.freeM h)⟩
  · by_cases hal : o.alive = true
    · exact (hr.obj id r o h1 h2).mono (Ren.le_refl _) (hsame _ (hr.lt id r h1) (hfree id r o h1 h2 hal))
    · cases o <;> first | trivial | exact absurd rfl hal
  · obtain ⟨ty, fz, e⟩ := (hr.mem b m hb).1
    have hne : b ≠ b0 := by rintro rfl; exact hmem m hb
    exact ⟨ty, fz, (hsame b (Array.getElem?_eq_some_iff.1 e).1 hne).trans e⟩
theorem Post.grown {B base : Nat} {M : List Nat} {ρ ρ' : Ren} {H H' : Heap} {w w1 w2 : World} (p : Post P B base M ρ H w ρ' H' w1) (hsz : w1.heap.size ≤ w2.heap.size) (hsame : ∀ b, b < w1.heap.size → w2.heap[b]? = w1.heap[b]?)
    (hos : w2.os = w1.os) (ht : w2.tape = w1.tape) (ho : w2.output = w1.output) (hd : w1.drawn ≤ w2.drawn) : Post P B base M ρ H w ρ' H' w2 := by
  have hlt : ∀ id r o, ρ' id = some r → H'[id]? = some o → o.alive = true → r.b ≠ w1.heap.size := fun id r o h1 _ _ => by have := p.rel.lt id r h1; omega
  have hm : ∀ m, ρ'.mem w1.heap.size = some m → False := fun m h => by
    obtain ⟨ty, fz, e⟩ := (p.rel.mem _ m h).1
    have := (Array.getElem?_eq_some_iff.1 e).1; omega
  exact ⟨p.rel.world w1.heap.size hsz (fun b h _ => hsame b h) hlt hm (p.rel.fam.freeL (Nat.le_refl _)), p.ext, p.new, p.len, p.same, Nat.le_trans p.size hsz, fun b h1 h2 => (hsame b (Nat.lt_of_lt_of_le h1 p.size)).trans (p.keep b h1 h2), p.ob, hos.trans p.os, ht.trans p.tape, ho.trans p.output, p.frz, Nat.le_trans p.drawn hd, p.newg⟩
end Go.K
/- The library's sort of numbers, by the kit's contract, over canonical memory. No condition. -/
namespace Go.K
set_option linter.unusedSimpArgs false
open Go Go.Proofs Go.RowKit Go.Lib Go.Sort Go.Shelf
set_option linter.unusedVariables false
variable {P : Program}

theorem kSortInt {R : Go.Shelf.Ren} (L : Lays.n189 P R) (ef : Enters P (R.f 189))
    {H : Heap} {id : Nat} {tag : Option Nat} (htag : tag = none ∨ tag = some 1) {L0 : List Int} (h0 : 0 < L0.length) (hlen : L0.length < 4611686018427387904) (ho : H[id]? = some (.cells true 1 (L0.map (Value.int .i64)))) :
    KCall P (R.f 189) [.slice (some ⟨id, 0, tag⟩) L0.length L0.length] H [id] (Is (.tuple #[]) (H.set id (.cells true 1 ((L0.mergeSort fun x y => decide (x ≤ y)).map (Value.int .i64))))) := by
  refine ⟨ef, fun B ρ w args' hr ha => ?_⟩
  obtain ⟨x', rfl⟩ : ∃ x', args' = #[x'] := by
    have hl := ha.1
    obtain ⟨l⟩ := args'
    match l, hl with
    | [a], _ => exact ⟨a, rfl⟩
  have hx := ha.2 0 _ _ rfl rfl
  obtain ⟨r, cap', hid, hcap, rfl⟩ : ∃ r cap', ρ id = some r ∧ L0.length ≤ cap' ∧ x' = .slice (some ⟨r.b, 0 + r.s, none⟩) L0.length cap' := by
    generalize L0.length = n at hx h0
    rcases htag with rfl | rfl
    · cases hx with
      | slice h hl hc _ => exact ⟨_, _, h, Nat.le_trans hl hc, rfl⟩
      | slice0 h => exact absurd h0 (Nat.lt_irrefl 0)
    · cases hx with
      | sliceQn => exact absurd h0 (Nat.lt_irrefl 0)
      | sliceQe => exact absurd h0 (Nat.lt_irrefl 0)
      | sliceQ h hp hl hc _ => exact ⟨_, _, h, Nat.le_trans hl hc, rfl⟩
  rw [Nat.zero_add]
  have hobj := hr.obj id r _ hid ho
  obtain ⟨ow, zz, cs', ty, fz, hb, hsz, hfz, hcs⟩ := hobj
  obtain rfl := hfz rfl
  have hel : ∀ i (hi : i < L0.length), cs'[i + r.s]? = some (Value.int .i64 L0[i]) := fun i hi => by
    obtain ⟨v', e1, e2⟩ := hcs i (Value.int .i64 L0[i]) (by rw [List.getElem?_map, List.getElem?_eq_getElem hi]; rfl)
    cases e2; exact e1
  have hgd : ∀ (M : List Int) j (hj : j < M.length), M.toArray[j]! = M[j] := fun M j hj => getElem!_pos M.toArray j hj
  have hH : Holds (Value.int .i64) w r.b r.s L0.toArray := fun j hj => by
    have hj' : j < L0.length := by simpa using hj
    have e := hel j hj'
    refine ⟨?_, ?_⟩
    · rw [hgd L0 j hj']
      simp only [World.cell?, hb, Option.isSome_none, Bool.false_eq_true, if_false]
      rw [Nat.add_comm]; exact e
    · simp [World.frozen?, hb]
  have hblk := hr.lt id r hid
  have hcon := Any.slices_Sort_int L r.b r.s cap' L0 w hH hblk hlen
  refine callsIn_wide.2 (hcon.mono ?_)
  rintro e w' ⟨rfl, n1, os, rfl⟩
  have hml : (L0.mergeSort fun x y => decide (x ≤ y)).length = L0.length := List.length_mergeSort _
  generalize (L0.mergeSort fun x y => decide (x ≤ y)) = M at hml ⊢
  have hput : ObjRel ρ r (.cells true 1 (M.map (Value.int .i64))) (w.putObj r.b (.cells (putCells (Value.int .i64) r.s M.toArray cs') ty (0, 0))) := by
    refine ⟨ow, zz, putCells (Value.int .i64) r.s M.toArray cs', ty, (0, 0), World.putObj_heap_same hblk, by simp [putCells, hml] at hsz ⊢; omega, fun _ => rfl, fun i v hv => ?_⟩
    rw [List.getElem?_map] at hv
    obtain ⟨a, ha1, rfl⟩ := Option.map_eq_some_iff.1 hv
    obtain ⟨hi, ha2⟩ := List.getElem?_eq_some_iff.1 ha1
    refine ⟨.int .i64 a, ?_, .int _ _⟩
    simp only [putCells, Array.getElem?_mapIdx, hel i (by omega), Option.map_some]
    rw [if_pos ⟨by omega, by simp; omega⟩, show i + r.s - r.s = i by omega, hgd M i hi, ha2]
  have p1 := Post.put (base := H.length) (M := [id]) hr hid ho rfl (by rw [hb]; rfl) hput (fun _ => List.mem_singleton.2 rfl)
  have hheap : ∀ b, b < w.heap.size → (grow (putRow (Value.int .i64) (Sort.ahead w n1) r.b r.s M.toArray) os).heap[b]? = (w.putObj r.b (.cells (putCells (Value.int .i64) r.s M.toArray cs') ty (0, 0))).heap[b]? := by
    intro b hb1
    simp only [grow, putRow, mapBlock, Sort.ahead]
    rw [Array.getElem?_append_left (by simpa using hb1), Array.getElem?_modify]
    by_cases e : r.b = b
    · subst e
      rw [if_pos rfl, World.putObj_heap_same hblk]
      show Option.map (onCells _) w.heap[r.b]? = _
      rw [hb]; rfl
    · rw [if_neg e, World.putObj_heap_other (Ne.symm e)]
  have p2 := p1.grown (w2 := grow (putRow (Value.int .i64) (Sort.ahead w n1) r.b r.s M.toArray) os) (by simp [grow, putRow, mapBlock, Sort.ahead, World.putObj]) (fun b hb1 => hheap b (by simpa [World.putObj] using hb1)) rfl rfl rfl (by simp [grow, putRow, mapBlock, Sort.ahead, World.putObj])
  exact ⟨.tuple #[], .tuple #[], ρ, _, rfl, .tuple rfl (fun i a b h => by simp at h), p2, rfl, rfl⟩
end Go.K
/- Drift: where moves lead: what is answered. No condition. -/
namespace Go.Proofs.Ytkkgnalgmebfjaa
open Go Go.K
set_option maxRecDepth 100000
set_option linter.unusedVariables false
set_option linter.unusedSimpArgs false
noncomputable section
attribute [local irreducible] vF
theorem boolC_len (b : Bool) : (boolC b).length = 1 := rfl
theorem intC_len (x : Int) : (intC x).length = 1 := rfl
theorem plainIL (n : Nat) (l : List Int) : (l.flatMap intC).all (belowC n) = true := plain_flat (fun _ => rfl) l
theorem boolAt {a : List Bool} {k : Nat} (h : k < a.length) {off : Nat} (ho : off = k) : (a.flatMap boolC)[off]? = some (.bool (a.getD k false)) := cell_at (c := 0) boolC_len h (by omega) rfl
theorem intAt {a : List Int} {k : Nat} (h : k < a.length) {off : Nat} (ho : off = k) : (a.flatMap intC)[off]? = some (.int .i64 (a.getD k 0)) := cell_at (c := 0) intC_len h (by omega) rfl
theorem partMove {l : List Move} {x : Nat} (h : x < l.length) : partA 2 (l.flatMap moveC) (0 + Int.toNat ((x : Nat) : Int) * 2) = some (.agg ⟨moveC (l.getD x zeroM)⟩) :=
  part_at (n := 2) (d := zeroM) (c := 0) moveC_len h (by omega) (by omega)
theorem setl_mid : ∀ (n o A B : List Value), o.length = n.length → setl (A ++ (o ++ B)) A.length n = A ++ (n ++ B)
  | [], [], A, B, _ => rfl
  | v :: n, w :: o, A, B, h => by
    have e : (A ++ (w :: o ++ B)).set A.length v = (A ++ [v]) ++ (o ++ B) := by simp
    have := setl_mid n o (A ++ [v]) B (by simpa using h)
    simp only [setl]
    rw [e]
    simpa using this
theorem flat_set {α : Type} {f : α → List Value} {m : Nat} (hf : ∀ x, (f x).length = m) (xs : List α) (k : Nat) (hk : k < xs.length) (y : α) : setl (xs.flatMap f) (k * m) (f y) = (xs.set k y).flatMap f := by
  have e1 : xs = xs.take k ++ xs[k] :: xs.drop (k + 1) := by rw [← List.drop_eq_getElem_cons hk, List.take_append_drop]
  have e2 : xs.set k y = xs.take k ++ y :: xs.drop (k + 1) := by rw [List.set_eq_take_append_cons_drop, if_pos hk]
  have hl : ((xs.take k).flatMap f).length = k * m := by rw [flat_len hf, List.length_take, Nat.min_eq_left (Nat.le_of_lt hk)]
  rw [e2]
  conv => lhs; rw [e1]
  rw [List.flatMap_append, List.flatMap_cons, List.flatMap_append, List.flatMap_cons, ← hl]
  exact setl_mid _ _ _ _ (by rw [hf, hf])
/-- A basin that is right. -/
structure BasOk (w h : Int) (n : Nat) : Prop where
  w1 : 1 ≤ w ∧ w ≤ 64
  h1 : 1 ≤ h ∧ h ≤ 64
  p1 : w * h ≤ 1024
  n1 : (n : Int) = w * h
theorem basOk {w h : Int} {n : Nat} (e : errBas w h n = 0) : BasOk w h n := by
  obtain ⟨b1, b2, b3, b4⟩ := errBas_0 e
  exact ⟨b1, b2, b3, b4⟩
theorem divmod {w h c : Int} {n : Nat} (b : BasOk w h n) (hc : 0 ≤ c ∧ c < w * h) : (0 ≤ Int.tmod c w ∧ Int.tmod c w < w) ∧ (0 ≤ Int.tdiv c w ∧ Int.tdiv c w < h) := by
  have w1 := b.w1
  have e1 : Int.tdiv c w = c / w := Int.tdiv_eq_ediv_of_nonneg hc.1
  have e2 : Int.tmod c w = c % w := Int.tmod_eq_emod_of_nonneg hc.1
  rw [e1, e2]
  refine ⟨⟨Int.emod_nonneg _ (by omega), Int.emod_lt_of_pos _ (by omega)⟩, Int.ediv_nonneg hc.1 (by omega), Int.ediv_lt_of_lt_mul (by omega) (by rw [Int.mul_comm]; exact hc.2)⟩
theorem cellbd {w h x y : Int} (hx : 0 ≤ x ∧ x < w) (hy : 0 ≤ y ∧ y < h) : 0 ≤ y * w + x ∧ y * w + x < w * h := by
  have h1 : 0 ≤ y * w := Int.mul_nonneg hy.1 (by omega)
  have h2 : (y + 1) * w ≤ h * w := Int.mul_le_mul_of_nonneg_right (by omega) (by omega)
  rw [Int.add_mul, Int.one_mul, Int.mul_comm h w] at h2
  omega
def mvOk (m : Move) : Prop := (-2 ≤ m.dx ∧ m.dx ≤ 2) ∧ (-2 ≤ m.dy ∧ m.dy ≤ 2)
def tgIn (w h : Int) (a : List Bool) (c : Int) (m : Move) : Prop := (0 ≤ Int.tmod c w + m.dx ∧ Int.tmod c w + m.dx < w) ∧ (0 ≤ Int.tdiv c w + m.dy ∧ Int.tdiv c w + m.dy < h) ∧ a.getD (Int.toNat ((Int.tdiv c w + m.dy) * w + (Int.tmod c w + m.dx))) false = false
theorem targ_1 {w h : Int} {a : List Bool} {c : Int} {m : Move} (k : tgIn w h a c m) : targ w h a c m = (Int.tdiv c w + m.dy) * w + (Int.tmod c w + m.dx) := if_pos k
theorem targ_0 {w h : Int} {a : List Bool} {c : Int} {m : Move} (k : ¬ tgIn w h a c m) : targ w h a c m = c := if_neg k
theorem targ_bd {w h : Int} {a : List Bool} {c : Int} (hc : 0 ≤ c ∧ c < w * h) (m : Move) : 0 ≤ targ w h a c m ∧ targ w h a c m < w * h := by
  by_cases k : tgIn w h a c m
  · rw [targ_1 k]; exact cellbd k.1 k.2.1
  · rw [targ_0 k]; exact hc
theorem ktarget {w h : Int} {a : List Bool} {c : Int} {m : Move} (b : BasOk w h a.length) (hc : 0 ≤ c ∧ c < w * h) (hm : mvOk m) {H : Heap} {id : Nat} {own : Bool} {z : Nat} (hid : H[id]? = some (.cells own z (a.flatMap boolC))) :
    KCall prog F.drift_sea_target [basV w h id a.length, .int .i64 c, moveV m] H [] (Is (.int .i64 (targ w h a c m)) H) := by
  refine valR (css := [a.flatMap boolC]) (v := .int .i64 (targ w h a c m)) (Eq.mpr (Etarget _ w h a c m) ?_) (one_cs (plainBL 0 a)) rfl [id] rfl (one_id hid)
  unfold Rtarget
  have e1 := targ_1 (w := w) (h := h) (a := a) (c := c) (m := m)
  have e0 := targ_0 (w := w) (h := h) (a := a) (c := c) (m := m)
  unfold tgIn at e0 e1
  obtain ⟨⟨m1, m2⟩, m3, m4⟩ := hm
  obtain ⟨d1, d2⟩ := divmod b hc
  obtain ⟨b1, b2, b3, b4⟩ := b
  have cb := cellbd (w := w) (h := h) (x := Int.tmod c w + m.dx) (y := Int.tdiv c w + m.dy)
  have hx : -2 ≤ Int.tmod c w + m.dx ∧ Int.tmod c w + m.dx ≤ 66 := by omega
  have hy : -2 ≤ Int.tdiv c w + m.dy ∧ Int.tdiv c w + m.dy ≤ 66 := by omega
  have hy2 : 0 ≤ Int.tdiv c w ∧ Int.tdiv c w ≤ 64 := by omega
  generalize targ w h a c m = T at e0 e1 ⊢
  generalize Int.tmod c w + m.dx = X at *
  generalize Int.tdiv c w + m.dy = Y at *
  generalize Y * w = P at *
  generalize w * h = Q at *
  repeat' first | (exact iEq (e0 (fun k => by omega)).symm) | refine ⟨_, rfl, ?_⟩ | (refine ⟨fun hb => iEq (e0 fun k => Bool.false_ne_true (k.2.2.symm.trans hb)).symm, fun hb => ?_⟩) | (exact boolAt (by omega) (by omega)) | (exact iEq (e1 ⟨by omega, by omega, hb⟩).symm) | omega | exact trivial | exact rfl | exact wk_refl _ | refine wkO_cells ?_ | refine wks_cons ?_ ?_ | exact wks_nil | exact wk_nil _ _ _ (.inl rfl) | (exact wk_Q (by omega)) | refine wk_tupL ?_ | refine wk_aggL ?_ | refine joinMax ?_ ?_ ?_ | refine joinMin ?_ ?_ ?_ | refine toMax ?_ | refine toMin ?_ | refine ⟨rfl, ?_⟩ | refine ⟨trivial, ?_⟩ | (refine forkD (fun h => ?_) (fun h => ?_)) | (refine forkNe (fun h => ?_) (fun h => ?_)) | (refine forkEq (fun h => ?_) (fun h => ?_)) | refine forkNot ?_ | (refine ⟨vI64 (by omega), ?_⟩) | (refine And.intro (by omega) ?_) | apply And.intro | (exact iEq (by omega)) | (exact vI64 (by omega))
theorem seaB_1 {a : List Bool} {c : Int} (k : 0 ≤ c ∧ c < (a.length : Int)) : seaB a c = !(a.getD (Int.toNat c) false) := by unfold seaB; rw [decide_eq_true k]; rfl
theorem seaB_0 {a : List Bool} {c : Int} (k : ¬ (0 ≤ c ∧ c < (a.length : Int))) : seaB a c = false := by unfold seaB; rw [decide_eq_false k]; rfl
theorem kis {w h : Int} {a : List Bool} {c : Int} (b : BasOk w h a.length) {H : Heap} {id : Nat} {own : Bool} {z : Nat} (hid : H[id]? = some (.cells own z (a.flatMap boolC))) :
    KCall prog F.drift_sea_is [basV w h id a.length, .int .i64 c] H [] (Is (.bool (seaB a c)) H) := by
  refine valR (css := [a.flatMap boolC]) (v := .bool (seaB a c)) (Eq.mpr (Eis _ w h a c) ?_) (one_cs (plainBL 0 a)) rfl [id] rfl (one_id hid)
  unfold Ris
  have e1 := seaB_1 (a := a) (c := c)
  have e0 := seaB_0 (a := a) (c := c)
  obtain ⟨b1, b2, b3, b4⟩ := b
  generalize w * h = Q at *
  repeat' first | (exact congrArg Value.bool (e0 (by omega)).symm) | (exact congrArg Value.bool (e1 (by omega)).symm) | (exact boolAt (by omega) (by omega)) | exact trivial | exact rfl | exact wk_refl _ | refine wkO_cells ?_ | refine wks_cons ?_ ?_ | exact wks_nil | exact wk_nil _ _ _ (.inl rfl) | (exact wk_Q (by omega)) | refine wk_tupL ?_ | refine wk_aggL ?_ | refine joinMax ?_ ?_ ?_ | refine joinMin ?_ ?_ ?_ | refine toMax ?_ | refine toMin ?_ | refine ⟨rfl, ?_⟩ | refine ⟨trivial, ?_⟩ | (refine forkD (fun h => ?_) (fun h => ?_)) | (refine forkNe (fun h => ?_) (fun h => ?_)) | (refine forkEq (fun h => ?_) (fun h => ?_)) | refine forkNot ?_ | (refine ⟨vI64 (by omega), ?_⟩) | (refine And.intro (by omega) ?_) | apply And.intro | (exact iEq (by omega)) | (exact vI64 (by omega))
theorem mvTo_ok {f : Flow} (hf : rightF f) : ∀ (j : Nat), j ≤ nyF f → ∀ m ∈ mvTo f j, mvOk m
  | 0, _, m, h => by cases h
  | j + 1, hj, m, h => by
    have eb := ends_bd hf
    have xb := nx_bd hf
    have yb := ny_bd hf
    rcases List.mem_append.1 h with h | h
    · exact mvTo_ok hf j (by omega) m h
    · unfold mvRow tabP at h
      obtain ⟨i, hi, rfl⟩ := List.mem_map.1 h
      have := List.mem_range.1 hi
      exact ⟨⟨by dsimp only; omega, by dsimp only; omega⟩, by dsimp only; omega, by dsimp only; omega⟩
theorem getD_mem {α : Type} {l : List α} {d : α} {x : Nat} (h : x < l.length) : l.getD x d ∈ l := by
  rw [List.getD_eq_getElem?_getD, List.getElem?_eq_getElem h]; exact List.getElem_mem h
theorem moves_ok {f : Flow} (hf : rightF f) {x : Nat} (h : x < (movesF f).length) : mvOk ((movesF f).getD x zeroM) := mvTo_ok hf _ (Nat.le_refl _) _ (getD_mem h)
theorem tgL_len (w h : Int) (a : List Bool) (c : Int) (f : Flow) : (tgL w h a c f).length = (movesF f).length := List.length_map _
theorem tgL_get {w h : Int} {a : List Bool} {c : Int} {f : Flow} {x : Nat} (hx : x < (movesF f).length) : (tgL w h a c f).getD x 0 = targ w h a c ((movesF f).getD x zeroM) := by
  unfold tgL
  rw [List.getD_eq_getElem?_getD, List.getElem?_map, List.getD_eq_getElem?_getD, List.getElem?_eq_getElem hx]; rfl
theorem tgL_bd {w h : Int} {a : List Bool} {c : Int} {f : Flow} (hc : 0 ≤ c ∧ c < w * h) : ∀ z ∈ tgL w h a c f, 0 ≤ z ∧ z < w * h := by
  intro z hz
  obtain ⟨m, _, rfl⟩ := List.mem_map.1 hz
  exact targ_bd hc m
theorem intMap (l : List Int) : l.flatMap intC = l.map (Value.int .i64) := by
  induction l with
  | nil => rfl
  | cons x l ih => rw [List.flatMap_cons, ih]; rfl
theorem enters_some {P : Program} {f : FuncId} {fn : Func} (hf : P.funcs[f]? = some fn) (hname : (fn.name == "runtime.NumGoroutine") = false) (hb : fn.body.isSome = true) : Enters P f := by
  obtain ⟨c, hc⟩ := Option.isSome_iff_exists.1 hb
  exact enters_of hf hname hc
theorem enters124 : Enters prog 124 := enters_some Try.func124 (by kernel_rfl) (by kernel_rfl)
theorem kSort {L0 : List Int} (h0 : 0 < L0.length) (h1 : L0.length < 1000) {H : Heap} {id : Nat} (ho : H[id]? = some (.cells true 1 (L0.flatMap intC))) :
    KCall prog 124 [.slice (some ⟨id, 0, some 1⟩) L0.length L0.length] H [id] (Is (.tuple #[]) (H.set id (.cells true 1 ((srtI L0).flatMap intC)))) := by
  rw [intMap] at ho ⊢
  exact kSortInt sortI enters124 (.inr rfl) h0 (by omega) ho
end
end Go.Proofs.Ytkkgnalgmebfjaa
