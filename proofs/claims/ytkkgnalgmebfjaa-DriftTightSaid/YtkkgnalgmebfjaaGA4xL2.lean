/- Drift: the examples of the chapter (awake), as a contract. No condition. -/
import Derived.Test.YtkkgnalgmebfjaaA4a
import Derived.Test.YtkkgnalgmebfjaaGG2gxH1f
import Derived.Test.YtkkgnalgmebfjaaRows
import Derived.JoinedCond
import Derived.Test.YtkkgnalgmebfjaaGK27xK32
namespace Go.Proofs.Ytkkgnalgmebfjaa
set_option linter.unusedSimpArgs false
set_option linter.unusedVariables false
open Go Go.K
set_option maxRecDepth 100000
noncomputable section
attribute [local irreducible] vF
theorem kAwake (H : Heap) : KCall prog F.polynyalaw02_awake [] H [] (Is (.bool true) H) := by
  have hv : vF prog msk (dm impI) 100000 true 40 true F.polynyalaw02_awake [] ⟨0, .leaf⟩ none .auto (fun v _ _ => isTrueV v) := of_eq_true awakeRun
  have h0 := vc (P := prog) (mask := msk) (dm := dm impI) (rounds := 100000) (mixed := true) mskOk mixed 40 (f := F.polynyalaw02_awake) (args := []) (H := ⟨0, .leaf⟩) (M := none) (h := .auto) (Q := fun v _ => isTrueV v) hv
  have h1 : KCall prog F.polynyalaw02_awake [] [] [] (fun v _ => v = .bool true) := h0.post (fun v H' h => by
      cases v <;> first | exact h.elim | (rename_i b; cases b <;> first | rfl | exact h.elim))
  have h2 : KCall prog F.polynyalaw02_awake [] [] [] (Is (.bool true) []) := KCall.clean h1 rfl
  have h3 := KCall.frame (H := H) (new := []) (d := 3) (σ := fun _ => none) ⟨fun g hg => absurd hg (by rw [glob0]; exact Nat.not_lt_zero _), fun _ _ h => (by cases h), fun id h => absurd h (Nat.not_lt_zero _), fun _ _ _ h => (by cases h), fun _ _ _ h => (by cases h)⟩ h2 rfl rfl
  simpa [rn] using h3
end
end Go.Proofs.Ytkkgnalgmebfjaa
/- DriftKept returns true. No condition. -/
namespace Go.Proofs.Ytkkgnalgmebfjaa
open Go Go.K
set_option maxRecDepth 100000
set_option linter.unusedVariables false
set_option linter.unusedSimpArgs false
noncomputable section
attribute [local irreducible] vF
/-- Numbers' basin, field, flows, moves. -/
theorem k_bd (L : List Int) : ((0 ≤ k1 L ∧ k1 L ≤ 1000) ∧ (0 ≤ k2 L ∧ k2 L ≤ 2000)) ∧ (0 ≤ k3 L ∧ k3 L ≤ 3000) ∧ (kA L).length ≤ 30 := by
  have h1 := watN_bd L 0
  have h2 := watA_len L 0
  have h3 := wat_prod L 0
  obtain ⟨_, h4, _⟩ := fldL_ok L (kA L) (k1 L) (kA L).length
  obtain ⟨_, h5, _⟩ := curL_ok L (k2 L) (k2 L + 1 + 1) (kA L).length
  have e1 : k1 L = watN L 0 := rfl
  have e2 : k2 L = (fldL L (kA L) (k1 L) (kA L).length).2 := rfl
  have e3 : k3 L = (curL L (dN L (k2 L) 3001 - 1500) (dN L (k2 L + 1) 3001 - 1500) (k2 L + 1 + 1) (kA L).length).2 := rfl
  have e4 : ((kA L).length : Int) = watW L 0 * watH L 0 := h2
  rw [← e2] at h4
  rw [← e3] at h5
  omega
theorem kX_ok (L : List Int) : (kX L).length = (kA L).length ∧ ∀ k, k < (kA L).length → rightI ((kX L).getD k zeroI) ∧ ((kA L).getD k false = true → (kX L).getD k zeroI = zeroI) := by
  obtain ⟨h1, _, h3⟩ := fldL_ok L (kA L) (k1 L) (kA L).length
  exact ⟨h1, h3⟩
theorem kB_ok (L : List Int) : BasOk (kW L) (kH L) (kA L).length := basOk (wat_ok L 0)
theorem flows_ok {w h : Int} {n : Nat} {l : List Flow} (b : errBas w h n = 0) (hl : l.length = n) (hf : ∀ f ∈ l, rightF f) : errFlows w h n l = 0 := by
  have key : ∀ l : List Flow, (∀ f ∈ l, rightF f) → errF l = 0 := by
    intro l
    induction l with
    | nil => intro _; rfl
    | cons f l ih => intro h; unfold errF; rw [if_pos (h f (List.mem_cons_self ..))]; exact ih fun g hg => h g (List.mem_cons_of_mem _ hg)
  unfold errFlows
  rw [first2_2 b, if_pos hl]; exact key l hf
/-- Moves of a flow lie between its ends. -/
theorem movesF_in {f : Flow} (hf : rightF f) : ∀ m ∈ movesF f, inMv f m = true := by
  have eb := ends_bd hf
  have key : ∀ j, j ≤ nyF f → ∀ m ∈ mvTo f j, inMv f m = true := by
    intro j
    induction j with
    | zero => intro _ m hm; cases hm
    | succ j ih =>
      intro hj m hm
      rcases List.mem_append.1 hm with h | h
      · exact ih (by omega) m h
      · unfold mvRow tabP at h
        obtain ⟨i, hi, rfl⟩ := List.mem_map.1 h
        rw [List.mem_range] at hi
        unfold nxF at hi
        unfold nyF at hj
        unfold inMv
        simp only [Bool.and_eq_true, decide_eq_true_eq]
        omega
  exact key _ (Nat.le_refl _)
theorem errDr_0 {w h : Int} {a : List Bool} {l : List Flow} {xs : List Ice} {ms : List Move} (o : DrOk w h a xs ms) (hb : errBas w h a.length = 0) (hl : l.length = a.length) (hf : ∀ f ∈ l, rightF f) (hm : ms.length = a.length) (hi : ∀ k, k < a.length → a.getD k false = false → inMv (l.getD k zeroF) (ms.getD k zeroM) = true) : errDr w h a l xs ms = 0 := by
  have hn := o.n
  unfold errDr
  rw [first2_2 (flows_ok hb hl hf), if_pos ⟨by omega, by omega⟩]
  have key : ∀ k, k ≤ xs.length → errUp (mvErr a l xs ms) k = 0 := by
    intro k
    induction k with
    | zero => intro _; rfl
    | succ k ih =>
      intro hk
      have hr := errIce_iff.2 (o.x k (by omega))
      refine errUp_succ (ih (by omega)) ?_
      cases ha : a.getD k false with
      | true => exact mvErr_4 hr ha (by rw [o.z k (by omega) ha]; rfl)
      | false => exact mvErr_5 hr ha (hi k (by omega) ha)
  exact key _ (Nat.le_refl _)
end
end Go.Proofs.Ytkkgnalgmebfjaa
/- DriftTight: what its numbers make. No condition. -/
namespace Go.Proofs.Ytkkgnalgmebfjaa
set_option linter.unusedSimpArgs false
set_option linter.unusedVariables false
open Go Go.K
noncomputable section
def tHr (L : List Int) : Int := dN L (k2 L) 100
def tC (L : List Int) : List Cell := (hldL L (kA L) (kX L) (k2 L + 1) (kX L).length).1
def t3 (L : List Int) : Int := (hldL L (kA L) (kX L) (k2 L + 1) (kX L).length).2
def tF (L : List Int) : List Flow := (curs L (t3 L) (kA L).length).1
def t4 (L : List Int) : Int := (curs L (t3 L) (kA L).length).2
def tT (L : List Int) (x : Int) : Int := x % (((kA L).length : Nat) : Int)
def corI (hi : Bool) (c : Cell) : Ice := if hi = true then hiI c else loI c
def bestTo (w h : Int) (a : List Bool) (i t : Int) (hi : Bool) (ms : List Move) : Nat → Move
  | 0 => ms.getD 0 zeroM
  | j + 1 => if ((targ w h a i (ms.getD j zeroM) == t) == hi) = true then ms.getD j zeroM else bestTo w h a i t hi ms j
def tB (L : List Int) (x : Int) (hi : Bool) (k j : Nat) : Move := bestTo (kW L) (kH L) (kA L) (k : Int) (tT L x) hi (movesF ((tF L).getD k zeroF)) j
def tI (L : List Int) (hi : Bool) (n : Nat) : List Ice := tabP (fun k => corI hi ((tC L).getD k zeroC)) n
def tM (L : List Int) (x : Int) (hi : Bool) (n : Nat) : List Move := tabP (fun k => tB L x hi k (movesF ((tF L).getD k zeroF)).length) n
def tS (L : List Int) : List Cell := stepL (kW L) (kH L) (kA L) (tF L) (tC L)
def tD (L : List Int) (x : Int) (hi : Bool) : List Ice := driftI (kW L) (kH L) (kA L) (tI L hi (tC L).length) (tM L x hi (tC L).length)
def tE (L : List Int) (x : Int) (hi : Bool) : List Int := driftE (kW L) (kH L) (kA L) (tI L hi (tC L).length) (tM L x hi (tC L).length)
end
end Go.Proofs.Ytkkgnalgmebfjaa
/- What is to be shown of functions. Printed by a program. No condition. -/
namespace Go.Proofs.Ytkkgnalgmebfjaa
set_option linter.unusedSimpArgs false
open Go Go.K
set_option maxRecDepth 100000
set_option maxHeartbeats 4000000
set_option linter.unusedVariables false
noncomputable section
def Rcorner (sp : Value) (c : Cell) (hi : Bool) : Prop :=
  ((hi = true → ((.bool hi : Value) = .bool true ∧ ((.bool hi : Value) = .bool true ∧ ((.bool hi : Value) = .bool true ∧ (.agg #[.int .i64 c.conc.hi, .int .i64 c.thick.hi, .int .i64 c.ridge.hi, .int .i64 c.press.hi] : Value) = sp)))) ∧ (hi = false → ((.bool hi : Value) = .bool false ∧ ((.bool hi : Value) = .bool false ∧ ((.bool hi : Value) = .bool false ∧ (.agg #[.int .i64 c.conc.lo, .int .i64 c.thick.lo, .int .i64 c.ridge.lo, .int .i64 c.press.lo] : Value) = sp)))))
theorem Ecorner (sp : Value) (c : Cell) (hi : Bool) : vF prog msk (dm 0) 100000 true 40 true 43 [.agg #[.int .i64 c.conc.lo, .int .i64 c.conc.hi, .int .i64 c.thick.lo, .int .i64 c.thick.hi, .int .i64 c.ridge.lo, .int .i64 c.ridge.hi, .int .i64 c.press.lo, .int .i64 c.press.hi], .bool hi] ⟨0, .leaf⟩ (some [])
  (.go 17 (.fork (.go 6 (.slot 5 (.bool true) (.go 7 (.slot 5 (.bool true) (.go 7 (.slot 5 (.bool true) (.auto))))))) (.go 6 (.slot 5 (.bool false) (.go 7 (.slot 5 (.bool false) (.go 7 (.slot 5 (.bool false) (.auto)))))))))
  (fun v _ _ => v = sp) = Rcorner sp c hi := by kernel_rfl
def RlTarget (sp : Value) (w h : Int) (a : List Bool) (c : Int) (m : Move) : Prop :=
  (((w : Int) ≠ 0) ∧ ((.int .i64 (IntKind.wrap .i64 ((Int.tmod c w) + m.dx)) : Value) = .int .i64 ((Int.tmod c w) + m.dx) ∧ (((w : Int) ≠ 0) ∧ ((.int .i64 (IntKind.wrap .i64 (Int.tdiv c w)) : Value) = .int .i64 (Int.tdiv c w) ∧ ((.int .i64 (IntKind.wrap .i64 ((Int.tdiv c w) + m.dy)) : Value) = .int .i64 ((Int.tdiv c w) + m.dy) ∧ (((decide ((((Int.tmod c w) + m.dx) : Int) < 0)) = true → (.int .i64 c : Value) = sp) ∧ ((decide ((((Int.tmod c w) + m.dx) : Int) < 0)) = false → (((decide ((w : Int) ≤ ((Int.tmod c w) + m.dx))) = true → (.int .i64 c : Value) = sp) ∧ ((decide ((w : Int) ≤ ((Int.tmod c w) + m.dx))) = false → (((decide ((((Int.tdiv c w) + m.dy) : Int) < 0)) = true → (.int .i64 c : Value) = sp) ∧ ((decide ((((Int.tdiv c w) + m.dy) : Int) < 0)) = false → (((decide ((h : Int) ≤ ((Int.tdiv c w) + m.dy))) = true → (.int .i64 c : Value) = sp) ∧ ((decide ((h : Int) ≤ ((Int.tdiv c w) + m.dy))) = false → ((.int .i64 (IntKind.wrap .i64 (((Int.tdiv c w) + m.dy) * w)) : Value) = .int .i64 (((Int.tdiv c w) + m.dy) * w) ∧ ((.int .i64 (IntKind.wrap .i64 ((((Int.tdiv c w) + m.dy) * w) + ((Int.tmod c w) + m.dx))) : Value) = .int .i64 ((((Int.tdiv c w) + m.dy) * w) + ((Int.tmod c w) + m.dx)) ∧ (∃ y0 : Int, (.int .i64 ((((Int.tdiv c w) + m.dy) * w) + ((Int.tmod c w) + m.dx)) : Value) = .int .i64 y0 ∧ (((0 : Int) ≤ y0 ∧ (y0 : Int) < (((List.length a) : Nat) : Int)) ∧ (((List.flatMap boolC a)[(0 + Int.toNat y0 * 1)]? = some (.bool (List.getD a (Int.toNat y0) false))) ∧ (((List.getD a (Int.toNat y0) false) = true → (.int .i64 c : Value) = sp) ∧ ((List.getD a (Int.toNat y0) false) = false → ((.int .i64 (IntKind.wrap .i64 (((Int.tdiv c w) + m.dy) * w)) : Value) = .int .i64 (((Int.tdiv c w) + m.dy) * w) ∧ ((.int .i64 (IntKind.wrap .i64 ((((Int.tdiv c w) + m.dy) * w) + ((Int.tmod c w) + m.dx))) : Value) = .int .i64 ((((Int.tdiv c w) + m.dy) * w) + ((Int.tmod c w) + m.dx)) ∧ (∃ y1 : Int, (.int .i64 ((((Int.tdiv c w) + m.dy) * w) + ((Int.tmod c w) + m.dx)) : Value) = .int .i64 y1 ∧ (.int .i64 y1 : Value) = sp)))))))))))))))))))))))
theorem ElTarget (sp : Value) (w h : Int) (a : List Bool) (c : Int) (m : Move) : vF prog msk (dm 0) 100000 true 40 true 44 [.agg #[.int .i64 w, .int .i64 h, .slice (some ⟨0, 0, some 2⟩) (List.length a) (List.length a)], .int .i64 c, .agg #[.int .i64 m.dx, .int .i64 m.dy]] (readsT 0 [a.flatMap boolC]) (some [])
  (.go 5 (.need (.go 2 (.slot 15 (.int .i64 ((Int.tmod c w) + m.dx)) (.go 2 (.need (.slot 19 (.int .i64 (Int.tdiv c w)) (.go 2 (.slot 22 (.int .i64 ((Int.tdiv c w) + m.dy)) (.go 4 (.gfork (.auto) (.go 5 (.gfork (.auto) (.go 3 (.gfork (.auto) (.go 5 (.gfork (.auto) (.go 5 (.slot 47 (.int .i64 (((Int.tdiv c w) + m.dy) * w)) (.go 1 (.slot 49 (.int .i64 ((((Int.tdiv c w) + m.dy) * w) + ((Int.tmod c w) + m.dx))) (.bind Int (fun y0 => .slot 49 (.int .i64 y0) (.need (.val (.bool (List.getD a (Int.toNat y0) false)) (.go 0 (.fork (.auto) (.go 3 (.slot 57 (.int .i64 (((Int.tdiv c w) + m.dy) * w)) (.go 1 (.slot 59 (.int .i64 ((((Int.tdiv c w) + m.dy) * w) + ((Int.tmod c w) + m.dx))) (.bind Int (fun y1 => .slot 59 (.int .i64 y1) (.auto))))))))))))))))))))))))))))))))))
  (fun v _ _ => v = sp) = RlTarget sp w h a c m := by kernel_rfl
def RTightLaw (sp : Value) (L : List Int) (at_ : Int) (hi : Bool) : Prop :=
  (((some (.cells true 0 [.iface ((List.length L) + 1) (.agg ⟨(List.flatMap intC L)⟩), .int .i64 0] : KObj) = some (.cells true 0 [.iface ((List.length L) + 1) (.agg ⟨(List.flatMap intC L)⟩), .int .i64 0] : KObj)) ∧ True) ∧ (∀ H' : Heap, H'.length = 1 → (H'[0]? = some (.cells true 0 [.iface ((List.length L) + 1) (.agg ⟨(List.flatMap intC L)⟩), .int .i64 0] : KObj) ∧ True) → KCall prog 11 [.pointer (some ⟨0, 0, none⟩)] H' [0] (Is (.agg #[.int .i64 (kW L), .int .i64 (kH L), .slice (some ⟨1, 0, some 1⟩) (List.length (kA L)) (List.length (kA L))]) ((List.set H' 0 (.cells true 0 [.iface ((List.length L) + 1) (.agg ⟨(List.flatMap intC L)⟩), .int .i64 (k1 L)] : KObj)) ++ [(.cells true 1 (List.flatMap boolC (kA L)) : KObj)]))) ∧ (((some (.cells true 0 [.iface ((List.length L) + 1) (.agg ⟨(List.flatMap intC L)⟩), .int .i64 (k1 L)] : KObj) = some (.cells true 0 [.iface ((List.length L) + 1) (.agg ⟨(List.flatMap intC L)⟩), .int .i64 (k1 L)] : KObj)) ∧ (some (.cells true 1 (List.flatMap boolC (kA L)) : KObj) = some (.cells true 1 (List.flatMap boolC (kA L)) : KObj)) ∧ True) ∧ (∀ H' : Heap, H'.length = 4 → (H'[0]? = some (.cells true 0 [.iface ((List.length L) + 1) (.agg ⟨(List.flatMap intC L)⟩), .int .i64 (k1 L)] : KObj) ∧ H'[1]? = some (.cells true 1 (List.flatMap boolC (kA L)) : KObj) ∧ True) → KCall prog 12 [.pointer (some ⟨0, 0, none⟩), .agg #[.int .i64 (kW L), .int .i64 (kH L), .slice (some ⟨1, 0, some 1⟩) (List.length (kA L)) (List.length (kA L))]] H' [0] (Is (.slice (some ⟨4, 0, some 1⟩) (List.length (kX L)) (List.length (kX L))) ((List.set H' 0 (.cells true 0 [.iface ((List.length L) + 1) (.agg ⟨(List.flatMap intC L)⟩), .int .i64 (k2 L)] : KObj)) ++ [(.cells true 4 (List.flatMap iceC (kX L)) : KObj)]))) ∧ (((some (.cells true 0 [.iface ((List.length L) + 1) (.agg ⟨(List.flatMap intC L)⟩), .int .i64 (k2 L)] : KObj) = some (.cells true 0 [.iface ((List.length L) + 1) (.agg ⟨(List.flatMap intC L)⟩), .int .i64 (k2 L)] : KObj)) ∧ (some (.cells true 1 (List.flatMap boolC (kA L)) : KObj) = some (.cells true 1 (List.flatMap boolC (kA L)) : KObj)) ∧ (some (.cells true 4 (List.flatMap iceC (kX L)) : KObj) = some (.cells true 4 (List.flatMap iceC (kX L)) : KObj)) ∧ True) ∧ (∀ H' : Heap, H'.length = 5 → (H'[0]? = some (.cells true 0 [.iface ((List.length L) + 1) (.agg ⟨(List.flatMap intC L)⟩), .int .i64 (k2 L)] : KObj) ∧ H'[1]? = some (.cells true 1 (List.flatMap boolC (kA L)) : KObj) ∧ H'[4]? = some (.cells true 4 (List.flatMap iceC (kX L)) : KObj) ∧ True) → KCall prog 41 [.pointer (some ⟨0, 0, none⟩), .agg #[.int .i64 (kW L), .int .i64 (kH L), .slice (some ⟨1, 0, some 1⟩) (List.length (kA L)) (List.length (kA L))], .slice (some ⟨4, 0, some 1⟩) (List.length (kX L)) (List.length (kX L))] H' [0] (Is (.agg #[.int .i64 (kW L), .int .i64 (kH L), .int .i64 (tHr L), .slice (some ⟨5, 0, some 1⟩) (List.length (tC L)) (List.length (tC L))]) ((List.set H' 0 (.cells true 0 [.iface ((List.length L) + 1) (.agg ⟨(List.flatMap intC L)⟩), .int .i64 (t3 L)] : KObj)) ++ [(.cells true 8 (List.flatMap cellC (tC L)) : KObj)]))) ∧ (((some (.cells true 0 [.iface ((List.length L) + 1) (.agg ⟨(List.flatMap intC L)⟩), .int .i64 (t3 L)] : KObj) = some (.cells true 0 [.iface ((List.length L) + 1) (.agg ⟨(List.flatMap intC L)⟩), .int .i64 (t3 L)] : KObj)) ∧ (some (.cells true 1 (List.flatMap boolC (kA L)) : KObj) = some (.cells true 1 (List.flatMap boolC (kA L)) : KObj)) ∧ True) ∧ (∀ H' : Heap, H'.length = 6 → (H'[0]? = some (.cells true 0 [.iface ((List.length L) + 1) (.agg ⟨(List.flatMap intC L)⟩), .int .i64 (t3 L)] : KObj) ∧ H'[1]? = some (.cells true 1 (List.flatMap boolC (kA L)) : KObj) ∧ True) → KCall prog 13 [.pointer (some ⟨0, 0, none⟩), .agg #[.int .i64 (kW L), .int .i64 (kH L), .slice (some ⟨1, 0, some 1⟩) (List.length (kA L)) (List.length (kA L))]] H' [0] (Is (.slice (some ⟨6, 0, some 1⟩) (List.length (tF L)) (List.length (tF L))) ((List.set H' 0 (.cells true 0 [.iface ((List.length L) + 1) (.agg ⟨(List.flatMap intC L)⟩), .int .i64 (t4 L)] : KObj)) ++ [(.cells true 4 (List.flatMap flowC (tF L)) : KObj)]))) ∧ ((True) ∧ (∀ H' : Heap, H'.length = 7 → (True) → KCall prog 38 [.int .i64 at_, .int .i64 (((List.length (kA L)) : Nat) : Int)] H' [] (Is (.int .i64 (tT L at_)) H')) ∧ (((some (.cells true 1 (List.flatMap boolC (kA L)) : KObj) = some (.cells true 1 (List.flatMap boolC (kA L)) : KObj)) ∧ (some (.cells true 4 (List.flatMap flowC (tF L)) : KObj) = some (.cells true 4 (List.flatMap flowC (tF L)) : KObj)) ∧ (some (.cells true 8 (List.flatMap cellC (tC L)) : KObj) = some (.cells true 8 (List.flatMap cellC (tC L)) : KObj)) ∧ True) ∧ (∀ H' : Heap, H'.length = 7 → (H'[1]? = some (.cells true 1 (List.flatMap boolC (kA L)) : KObj) ∧ H'[6]? = some (.cells true 4 (List.flatMap flowC (tF L)) : KObj) ∧ H'[5]? = some (.cells true 8 (List.flatMap cellC (tC L)) : KObj) ∧ True) → KCall prog 42 [.agg #[.int .i64 (kW L), .int .i64 (kH L), .slice (some ⟨1, 0, some 1⟩) (List.length (kA L)) (List.length (kA L))], .slice (some ⟨6, 0, some 1⟩) (List.length (tF L)) (List.length (tF L)), .agg #[.int .i64 (kW L), .int .i64 (kH L), .int .i64 (tHr L), .slice (some ⟨5, 0, some 1⟩) (List.length (tC L)) (List.length (tC L))]] H' [] (Is (.tuple #[.agg #[.int .i64 (kW L), .int .i64 (kH L), .int .i64 (tHr L + 1), .slice (some ⟨7, 0, some 1⟩) (List.length (tS L)) (List.length (tS L))], .int .i64 0]) (H' ++ [(.cells true 8 (List.flatMap cellC (tS L)) : KObj)]))) ∧ ((((0 : Int) != 0) = true → (.bool false : Value) = sp) ∧ (((0 : Int) != 0) = false → (((((((List.length (tS L)) : Nat) : Int) : Int) != (((List.length (tC L)) : Nat) : Int)) = true → (.bool false : Value) = sp) ∧ ((((((List.length (tS L)) : Nat) : Int) : Int) != (((List.length (tC L)) : Nat) : Int)) = false → (true = true ∧ (0 ≤ List.length (tC L)) ∧ (true = true ∧ ((.int .i64 0 : Value) = .int .i64 ((0 : Nat) : Int) ∧ wk (.slice none 0 0 : Value) (.slice (some ⟨0, 0, some 1⟩) 0 0 : Value) ∧ wk (.slice none 0 0 : Value) (.slice (some ⟨0, 0, some 1⟩) 0 0 : Value) ∧ (.bool hi : Value) = .bool hi ∧ (.pointer (some ⟨2, 0, none⟩) : Value) = .pointer (some ⟨2, 0, none⟩) ∧ (.pointer (some ⟨3, 0, none⟩) : Value) = .pointer (some ⟨3, 0, none⟩) ∧ wk (.slice (some ⟨6, 0, some 1⟩) (List.length (tF L)) (List.length (tF L)) : Value) (.slice (some ⟨6, 0, some 1⟩) (List.length (tF L)) (List.length (tF L)) : Value) ∧ (.int .i64 (tT L at_) : Value) = .int .i64 (tT L at_) ∧ (.pointer (some ⟨8, 0, none⟩) : Value) = .pointer (some ⟨8, 0, none⟩) ∧ (.int .i64 0 : Value) = .int .i64 0 ∧ True) ∧ ((some (.cells true 0 [.int .i64 (kW L), .int .i64 (kH L), .slice (some ⟨1, 0, some 1⟩) (List.length (kA L)) (List.length (kA L))] : KObj) = some (.cells true 0 [.int .i64 (kW L), .int .i64 (kH L), .slice (some ⟨1, 0, some 1⟩) (List.length (kA L)) (List.length (kA L))] : KObj) ∧ belowO 9 (.cells true 0 [.int .i64 (kW L), .int .i64 (kH L), .slice (some ⟨1, 0, some 1⟩) (List.length (kA L)) (List.length (kA L))] : KObj) = true) ∧ (some (.cells true 0 [.int .i64 (kW L), .int .i64 (kH L), .int .i64 (tHr L), .slice (some ⟨5, 0, some 1⟩) (List.length (tC L)) (List.length (tC L))] : KObj) = some (.cells true 0 [.int .i64 (kW L), .int .i64 (kH L), .int .i64 (tHr L), .slice (some ⟨5, 0, some 1⟩) (List.length (tC L)) (List.length (tC L))] : KObj) ∧ belowO 9 (.cells true 0 [.int .i64 (kW L), .int .i64 (kH L), .int .i64 (tHr L), .slice (some ⟨5, 0, some 1⟩) (List.length (tC L)) (List.length (tC L))] : KObj) = true) ∧ True) ∧ (True ∧ True ∧ True) ∧ (True)) ∧ (∀ x6 : Nat, true = true) ∧ ∀ x6 : Nat, (x6 ≤ List.length (tC L)) → (((decide ((((x6 : Nat) : Int) : Int) < (((List.length (tC L)) : Nat) : Int))) = true → (((0 : Int) ≤ ((x6 : Nat) : Int) ∧ (((x6 : Nat) : Int) : Int) < (((List.length (tC L)) : Nat) : Int)) ∧ ((partA 8 (List.flatMap cellC (tC L)) (0 + Int.toNat ((x6 : Nat) : Int) * 8) = some (.agg #[.int .i64 (List.getD (tC L) x6 zeroC).conc.lo, .int .i64 (List.getD (tC L) x6 zeroC).conc.hi, .int .i64 (List.getD (tC L) x6 zeroC).thick.lo, .int .i64 (List.getD (tC L) x6 zeroC).thick.hi, .int .i64 (List.getD (tC L) x6 zeroC).ridge.lo, .int .i64 (List.getD (tC L) x6 zeroC).ridge.hi, .int .i64 (List.getD (tC L) x6 zeroC).press.lo, .int .i64 (List.getD (tC L) x6 zeroC).press.hi])) ∧ ((True) ∧ (∀ H' : Heap, H'.length = 11 → (True) → KCall prog 43 [.agg #[.int .i64 (List.getD (tC L) x6 zeroC).conc.lo, .int .i64 (List.getD (tC L) x6 zeroC).conc.hi, .int .i64 (List.getD (tC L) x6 zeroC).thick.lo, .int .i64 (List.getD (tC L) x6 zeroC).thick.hi, .int .i64 (List.getD (tC L) x6 zeroC).ridge.lo, .int .i64 (List.getD (tC L) x6 zeroC).ridge.hi, .int .i64 (List.getD (tC L) x6 zeroC).press.lo, .int .i64 (List.getD (tC L) x6 zeroC).press.hi], .bool hi] H' [] (Is (.agg #[.int .i64 (corI hi (List.getD (tC L) x6 zeroC)).conc, .int .i64 (corI hi (List.getD (tC L) x6 zeroC)).thick, .int .i64 (corI hi (List.getD (tC L) x6 zeroC)).ridge, .int .i64 (corI hi (List.getD (tC L) x6 zeroC)).press]) H')) ∧ (((x6 + 1) * 32 ≤ 2 ^ 44 ∧ 1 ≠ 0 ∧ (x6 ≤ x6 ∧ 0 + x6 * 4 ≤ List.length (List.flatMap iceC (tI L hi x6))) ∧ (1 ≤ 1 ∧ 0 + 1 * 4 ≤ List.length ([.int .i64 (corI hi (List.getD (tC L) x6 zeroC)).conc, .int .i64 (corI hi (List.getD (tC L) x6 zeroC)).thick, .int .i64 (corI hi (List.getD (tC L) x6 zeroC)).ridge, .int .i64 (corI hi (List.getD (tC L) x6 zeroC)).press] : List Value)) ∧ ((List.take (1 * 4) (List.drop 0 ([.int .i64 (corI hi (List.getD (tC L) x6 zeroC)).conc, .int .i64 (corI hi (List.getD (tC L) x6 zeroC)).thick, .int .i64 (corI hi (List.getD (tC L) x6 zeroC)).ridge, .int .i64 (corI hi (List.getD (tC L) x6 zeroC)).press] : List Value))) : List Value).all (fun v => one1 v) = true) ∧ true = true ∧ (((0 : Int) ≤ ((x6 : Nat) : Int) ∧ (((x6 : Nat) : Int) : Int) < (((List.length (tF L)) : Nat) : Int)) ∧ ((partA 4 (List.flatMap flowC (tF L)) (0 + Int.toNat ((x6 : Nat) : Int) * 4) = some (.agg #[.int .i64 (List.getD (tF L) x6 zeroF).x.lo, .int .i64 (List.getD (tF L) x6 zeroF).x.hi, .int .i64 (List.getD (tF L) x6 zeroF).y.lo, .int .i64 (List.getD (tF L) x6 zeroF).y.hi])) ∧ ((True) ∧ (∀ H' : Heap, H'.length = 13 → (True) → KCall prog 26 [.agg #[.int .i64 (List.getD (tF L) x6 zeroF).x.lo, .int .i64 (List.getD (tF L) x6 zeroF).x.hi, .int .i64 (List.getD (tF L) x6 zeroF).y.lo, .int .i64 (List.getD (tF L) x6 zeroF).y.hi]] H' [] (Is (.tuple #[.slice (some ⟨13, 0, some 1⟩) (List.length (movesF (List.getD (tF L) x6 zeroF))) (List.length (movesF (List.getD (tF L) x6 zeroF))), .int .i64 0]) (H' ++ [(.cells true 2 (List.flatMap moveC (movesF (List.getD (tF L) x6 zeroF))) : KObj)]))) ∧ ((.bool ((0 : Int) != 0) : Value) = .bool false ∧ (((((((List.length (movesF (List.getD (tF L) x6 zeroF))) : Nat) : Int) : Int) == 0) = true → (.bool false : Value) = sp) ∧ ((((((List.length (movesF (List.getD (tF L) x6 zeroF))) : Nat) : Int) : Int) == 0) = false → (((0 : Int) ≤ 0 ∧ (0 : Int) < (((List.length (movesF (List.getD (tF L) x6 zeroF))) : Nat) : Int)) ∧ ((partA 2 (List.flatMap moveC (movesF (List.getD (tF L) x6 zeroF))) 0 = some (.agg #[.int .i64 (List.getD (movesF (List.getD (tF L) x6 zeroF)) 0 zeroM).dx, .int .i64 (List.getD (movesF (List.getD (tF L) x6 zeroF)) 0 zeroM).dy])) ∧ (true = true ∧ (0 ≤ List.length (movesF (List.getD (tF L) x6 zeroF))) ∧ (true = true ∧ ((.int .i64 0 : Value) = .int .i64 ((0 : Nat) : Int) ∧ (.int .i64 0 : Value) = .int .i64 0 ∧ (.pointer (some ⟨8, 0, none⟩) : Value) = .pointer (some ⟨8, 0, none⟩) ∧ (.int .i64 (tT L at_) : Value) = .int .i64 (tT L at_) ∧ wk (.slice (some ⟨6, 0, some 1⟩) (List.length (tF L)) (List.length (tF L)) : Value) (.slice (some ⟨6, 0, some 1⟩) (List.length (tF L)) (List.length (tF L)) : Value) ∧ (.pointer (some ⟨3, 0, none⟩) : Value) = .pointer (some ⟨3, 0, none⟩) ∧ (.pointer (some ⟨2, 0, none⟩) : Value) = .pointer (some ⟨2, 0, none⟩) ∧ (.bool hi : Value) = .bool hi ∧ wk (.slice (some ⟨10, 0, some 1⟩) x6 x6 : Value) (.slice (some ⟨10, 0, some 1⟩) x6 x6 : Value) ∧ (.int .i64 ((x6 : Nat) : Int) : Value) = .int .i64 ((x6 : Nat) : Int) ∧ (.slice (some ⟨12, 0, none⟩) (x6 + 1) (x6 + 1) : Value) = .slice (some ⟨12, 0, none⟩) (x6 + 1) (x6 + 1) ∧ wk (.slice (some ⟨13, 0, some 1⟩) (List.length (movesF (List.getD (tF L) x6 zeroF))) (List.length (movesF (List.getD (tF L) x6 zeroF))) : Value) (.slice (some ⟨13, 0, some 1⟩) (List.length (movesF (List.getD (tF L) x6 zeroF))) (List.length (movesF (List.getD (tF L) x6 zeroF))) : Value) ∧ (.int .i64 0 : Value) = .int .i64 0 ∧ (.pointer (some ⟨14, 0, none⟩) : Value) = .pointer (some ⟨14, 0, none⟩) ∧ True) ∧ ((some (.cells true 0 [.int .i64 (List.getD (movesF (List.getD (tF L) x6 zeroF)) 0 zeroM).dx, .int .i64 (List.getD (movesF (List.getD (tF L) x6 zeroF)) 0 zeroM).dy] : KObj) = some (.cells true 0 [.int .i64 (tB L at_ hi x6 0).dx, .int .i64 (tB L at_ hi x6 0).dy] : KObj) ∧ belowO 15 (.cells true 0 [.int .i64 (tB L at_ hi x6 0).dx, .int .i64 (tB L at_ hi x6 0).dy] : KObj) = true) ∧ (some (.cells true 0 [.int .i64 (kW L), .int .i64 (kH L), .slice (some ⟨1, 0, some 1⟩) (List.length (kA L)) (List.length (kA L))] : KObj) = some (.cells true 0 [.int .i64 (kW L), .int .i64 (kH L), .slice (some ⟨1, 0, some 1⟩) (List.length (kA L)) (List.length (kA L))] : KObj) ∧ belowO 15 (.cells true 0 [.int .i64 (kW L), .int .i64 (kH L), .slice (some ⟨1, 0, some 1⟩) (List.length (kA L)) (List.length (kA L))] : KObj) = true) ∧ True) ∧ (True) ∧ (True)) ∧ (∀ x9 : Nat, true = true) ∧ ∀ x9 : Nat, (x9 ≤ List.length (movesF (List.getD (tF L) x6 zeroF))) → (((decide ((((x9 : Nat) : Int) : Int) < (((List.length (movesF (List.getD (tF L) x6 zeroF))) : Nat) : Int))) = true → (((0 : Int) ≤ ((x9 : Nat) : Int) ∧ (((x9 : Nat) : Int) : Int) < (((List.length (movesF (List.getD (tF L) x6 zeroF))) : Nat) : Int)) ∧ ((partA 2 (List.flatMap moveC (movesF (List.getD (tF L) x6 zeroF))) (0 + Int.toNat ((x9 : Nat) : Int) * 2) = some (.agg #[.int .i64 (List.getD (movesF (List.getD (tF L) x6 zeroF)) x9 zeroM).dx, .int .i64 (List.getD (movesF (List.getD (tF L) x6 zeroF)) x9 zeroM).dy])) ∧ (((some (.cells true 1 (List.flatMap boolC (kA L)) : KObj) = some (.cells true 1 (List.flatMap boolC (kA L)) : KObj)) ∧ True) ∧ (∀ H' : Heap, H'.length = 15 → (H'[1]? = some (.cells true 1 (List.flatMap boolC (kA L)) : KObj) ∧ True) → KCall prog 44 [.agg #[.int .i64 (kW L), .int .i64 (kH L), .slice (some ⟨1, 0, some 1⟩) (List.length (kA L)) (List.length (kA L))], .int .i64 ((x6 : Nat) : Int), .agg #[.int .i64 (List.getD (movesF (List.getD (tF L) x6 zeroF)) x9 zeroM).dx, .int .i64 (List.getD (movesF (List.getD (tF L) x6 zeroF)) x9 zeroM).dy]] H' [] (Is (.int .i64 (targ (kW L) (kH L) (kA L) ((x6 : Nat) : Int) (List.getD (movesF (List.getD (tF L) x6 zeroF)) x9 zeroM))) H')) ∧ ((((((targ (kW L) (kH L) (kA L) ((x6 : Nat) : Int) (List.getD (movesF (List.getD (tF L) x6 zeroF)) x9 zeroM)) : Int) == (tT L at_)) == hi) = true → (((0 : Int) ≤ ((x9 : Nat) : Int) ∧ (((x9 : Nat) : Int) : Int) < (((List.length (movesF (List.getD (tF L) x6 zeroF))) : Nat) : Int)) ∧ ((partA 2 (List.flatMap moveC (movesF (List.getD (tF L) x6 zeroF))) (0 + Int.toNat ((x9 : Nat) : Int) * 2) = some (.agg #[.int .i64 (List.getD (movesF (List.getD (tF L) x6 zeroF)) x9 zeroM).dx, .int .i64 (List.getD (movesF (List.getD (tF L) x6 zeroF)) x9 zeroM).dy])) ∧ ((.int .i64 (IntKind.wrap .i64 (((x9 : Nat) : Int) + 1)) : Value) = .int .i64 (((x9 : Nat) : Int) + 1) ∧ (∃ x9' : Nat, (x9' ≤ List.length (movesF (List.getD (tF L) x6 zeroF))) ∧ (List.length (movesF (List.getD (tF L) x6 zeroF)) - x9') < (List.length (movesF (List.getD (tF L) x6 zeroF)) - x9) ∧ true = true ∧ ((.int .i64 (((x9 : Nat) : Int) + 1) : Value) = .int .i64 ((x9' : Nat) : Int) ∧ (.int .i64 0 : Value) = .int .i64 0 ∧ (.pointer (some ⟨8, 0, none⟩) : Value) = .pointer (some ⟨8, 0, none⟩) ∧ (.int .i64 (tT L at_) : Value) = .int .i64 (tT L at_) ∧ wk (.slice (some ⟨6, 0, some 1⟩) (List.length (tF L)) (List.length (tF L)) : Value) (.slice (some ⟨6, 0, some 1⟩) (List.length (tF L)) (List.length (tF L)) : Value) ∧ (.pointer (some ⟨3, 0, none⟩) : Value) = .pointer (some ⟨3, 0, none⟩) ∧ (.pointer (some ⟨2, 0, none⟩) : Value) = .pointer (some ⟨2, 0, none⟩) ∧ (.bool hi : Value) = .bool hi ∧ wk (.slice (some ⟨10, 0, some 1⟩) x6 x6 : Value) (.slice (some ⟨10, 0, some 1⟩) x6 x6 : Value) ∧ (.int .i64 ((x6 : Nat) : Int) : Value) = .int .i64 ((x6 : Nat) : Int) ∧ (.slice (some ⟨12, 0, none⟩) (x6 + 1) (x6 + 1) : Value) = .slice (some ⟨12, 0, none⟩) (x6 + 1) (x6 + 1) ∧ wk (.slice (some ⟨13, 0, some 1⟩) (List.length (movesF (List.getD (tF L) x6 zeroF))) (List.length (movesF (List.getD (tF L) x6 zeroF))) : Value) (.slice (some ⟨13, 0, some 1⟩) (List.length (movesF (List.getD (tF L) x6 zeroF))) (List.length (movesF (List.getD (tF L) x6 zeroF))) : Value) ∧ (.int .i64 0 : Value) = .int .i64 0 ∧ (.pointer (some ⟨14, 0, none⟩) : Value) = .pointer (some ⟨14, 0, none⟩) ∧ True) ∧ ((some (.cells true 0 [.int .i64 (List.getD (movesF (List.getD (tF L) x6 zeroF)) x9 zeroM).dx, .int .i64 (List.getD (movesF (List.getD (tF L) x6 zeroF)) x9 zeroM).dy] : KObj) = some (.cells true 0 [.int .i64 (tB L at_ hi x6 x9').dx, .int .i64 (tB L at_ hi x6 x9').dy] : KObj) ∧ belowO 15 (.cells true 0 [.int .i64 (tB L at_ hi x6 x9').dx, .int .i64 (tB L at_ hi x6 x9').dy] : KObj) = true) ∧ (some (.cells true 0 [.int .i64 (kW L), .int .i64 (kH L), .slice (some ⟨1, 0, some 1⟩) (List.length (kA L)) (List.length (kA L))] : KObj) = some (.cells true 0 [.int .i64 (kW L), .int .i64 (kH L), .slice (some ⟨1, 0, some 1⟩) (List.length (kA L)) (List.length (kA L))] : KObj) ∧ belowO 15 (.cells true 0 [.int .i64 (kW L), .int .i64 (kH L), .slice (some ⟨1, 0, some 1⟩) (List.length (kA L)) (List.length (kA L))] : KObj) = true) ∧ True) ∧ (True) ∧ (True)))))) ∧ (((((targ (kW L) (kH L) (kA L) ((x6 : Nat) : Int) (List.getD (movesF (List.getD (tF L) x6 zeroF)) x9 zeroM)) : Int) == (tT L at_)) == hi) = false → ((.int .i64 (IntKind.wrap .i64 (((x9 : Nat) : Int) + 1)) : Value) = .int .i64 (((x9 : Nat) : Int) + 1) ∧ (∃ x9' : Nat, (x9' ≤ List.length (movesF (List.getD (tF L) x6 zeroF))) ∧ (List.length (movesF (List.getD (tF L) x6 zeroF)) - x9') < (List.length (movesF (List.getD (tF L) x6 zeroF)) - x9) ∧ true = true ∧ ((.int .i64 (((x9 : Nat) : Int) + 1) : Value) = .int .i64 ((x9' : Nat) : Int) ∧ (.int .i64 0 : Value) = .int .i64 0 ∧ (.pointer (some ⟨8, 0, none⟩) : Value) = .pointer (some ⟨8, 0, none⟩) ∧ (.int .i64 (tT L at_) : Value) = .int .i64 (tT L at_) ∧ wk (.slice (some ⟨6, 0, some 1⟩) (List.length (tF L)) (List.length (tF L)) : Value) (.slice (some ⟨6, 0, some 1⟩) (List.length (tF L)) (List.length (tF L)) : Value) ∧ (.pointer (some ⟨3, 0, none⟩) : Value) = .pointer (some ⟨3, 0, none⟩) ∧ (.pointer (some ⟨2, 0, none⟩) : Value) = .pointer (some ⟨2, 0, none⟩) ∧ (.bool hi : Value) = .bool hi ∧ wk (.slice (some ⟨10, 0, some 1⟩) x6 x6 : Value) (.slice (some ⟨10, 0, some 1⟩) x6 x6 : Value) ∧ (.int .i64 ((x6 : Nat) : Int) : Value) = .int .i64 ((x6 : Nat) : Int) ∧ (.slice (some ⟨12, 0, none⟩) (x6 + 1) (x6 + 1) : Value) = .slice (some ⟨12, 0, none⟩) (x6 + 1) (x6 + 1) ∧ wk (.slice (some ⟨13, 0, some 1⟩) (List.length (movesF (List.getD (tF L) x6 zeroF))) (List.length (movesF (List.getD (tF L) x6 zeroF))) : Value) (.slice (some ⟨13, 0, some 1⟩) (List.length (movesF (List.getD (tF L) x6 zeroF))) (List.length (movesF (List.getD (tF L) x6 zeroF))) : Value) ∧ (.int .i64 0 : Value) = .int .i64 0 ∧ (.pointer (some ⟨14, 0, none⟩) : Value) = .pointer (some ⟨14, 0, none⟩) ∧ True) ∧ ((some (.cells true 0 [.int .i64 (tB L at_ hi x6 x9).dx, .int .i64 (tB L at_ hi x6 x9).dy] : KObj) = some (.cells true 0 [.int .i64 (tB L at_ hi x6 x9').dx, .int .i64 (tB L at_ hi x6 x9').dy] : KObj) ∧ belowO 15 (.cells true 0 [.int .i64 (tB L at_ hi x6 x9').dx, .int .i64 (tB L at_ hi x6 x9').dy] : KObj) = true) ∧ (some (.cells true 0 [.int .i64 (kW L), .int .i64 (kH L), .slice (some ⟨1, 0, some 1⟩) (List.length (kA L)) (List.length (kA L))] : KObj) = some (.cells true 0 [.int .i64 (kW L), .int .i64 (kH L), .slice (some ⟨1, 0, some 1⟩) (List.length (kA L)) (List.length (kA L))] : KObj) ∧ belowO 15 (.cells true 0 [.int .i64 (kW L), .int .i64 (kH L), .slice (some ⟨1, 0, some 1⟩) (List.length (kA L)) (List.length (kA L))] : KObj) = true) ∧ True) ∧ (True) ∧ (True))))))))) ∧ ((decide ((((x9 : Nat) : Int) : Int) < (((List.length (movesF (List.getD (tF L) x6 zeroF))) : Nat) : Int))) = false → (((x6 + 1) * 16 ≤ 2 ^ 44 ∧ 1 ≠ 0 ∧ (x6 ≤ x6 ∧ 0 + x6 * 2 ≤ List.length (List.flatMap moveC (tM L at_ hi x6))) ∧ (1 ≤ 1 ∧ 0 + 1 * 2 ≤ List.length ([.int .i64 (tB L at_ hi x6 x9).dx, .int .i64 (tB L at_ hi x6 x9).dy] : List Value)) ∧ ((List.take (1 * 2) (List.drop 0 ([.int .i64 (tB L at_ hi x6 x9).dx, .int .i64 (tB L at_ hi x6 x9).dy] : List Value))) : List Value).all (fun v => one1 v) = true) ∧ true = true ∧ ((.int .i64 (IntKind.wrap .i64 (((x6 : Nat) : Int) + 1)) : Value) = .int .i64 (((x6 : Nat) : Int) + 1) ∧ (∃ x6' : Nat, (x6' ≤ List.length (tC L)) ∧ (List.length (tC L) - x6') < (List.length (tC L) - x6) ∧ true = true ∧ ((.int .i64 (((x6 : Nat) : Int) + 1) : Value) = .int .i64 ((x6' : Nat) : Int) ∧ wk (.slice (some ⟨12, 0, none⟩) (x6 + 1) (x6 + 1) : Value) (.slice (some ⟨12, 0, some 1⟩) x6' x6' : Value) ∧ wk (.slice (some ⟨16, 0, none⟩) (x6 + 1) (x6 + 1) : Value) (.slice (some ⟨16, 0, some 1⟩) x6' x6' : Value) ∧ (.bool hi : Value) = .bool hi ∧ (.pointer (some ⟨2, 0, none⟩) : Value) = .pointer (some ⟨2, 0, none⟩) ∧ (.pointer (some ⟨3, 0, none⟩) : Value) = .pointer (some ⟨3, 0, none⟩) ∧ wk (.slice (some ⟨6, 0, some 1⟩) (List.length (tF L)) (List.length (tF L)) : Value) (.slice (some ⟨6, 0, some 1⟩) (List.length (tF L)) (List.length (tF L)) : Value) ∧ (.int .i64 (tT L at_) : Value) = .int .i64 (tT L at_) ∧ (.pointer (some ⟨8, 0, none⟩) : Value) = .pointer (some ⟨8, 0, none⟩) ∧ (.int .i64 0 : Value) = .int .i64 0 ∧ True) ∧ ((some (.cells true 0 [.int .i64 (kW L), .int .i64 (kH L), .slice (some ⟨1, 0, some 1⟩) (List.length (kA L)) (List.length (kA L))] : KObj) = some (.cells true 0 [.int .i64 (kW L), .int .i64 (kH L), .slice (some ⟨1, 0, some 1⟩) (List.length (kA L)) (List.length (kA L))] : KObj) ∧ belowO 9 (.cells true 0 [.int .i64 (kW L), .int .i64 (kH L), .slice (some ⟨1, 0, some 1⟩) (List.length (kA L)) (List.length (kA L))] : KObj) = true) ∧ (some (.cells true 0 [.int .i64 (kW L), .int .i64 (kH L), .int .i64 (tHr L), .slice (some ⟨5, 0, some 1⟩) (List.length (tC L)) (List.length (tC L))] : KObj) = some (.cells true 0 [.int .i64 (kW L), .int .i64 (kH L), .int .i64 (tHr L), .slice (some ⟨5, 0, some 1⟩) (List.length (tC L)) (List.length (tC L))] : KObj) ∧ belowO 9 (.cells true 0 [.int .i64 (kW L), .int .i64 (kH L), .int .i64 (tHr L), .slice (some ⟨5, 0, some 1⟩) (List.length (tC L)) (List.length (tC L))] : KObj) = true) ∧ True) ∧ ((some (.cells true 4 ((List.take (x6 * 4) (List.drop 0 (List.flatMap iceC (tI L hi x6)))) ++ (List.take (1 * 4) (List.drop 0 ([.int .i64 (corI hi (List.getD (tC L) x6 zeroC)).conc, .int .i64 (corI hi (List.getD (tC L) x6 zeroC)).thick, .int .i64 (corI hi (List.getD (tC L) x6 zeroC)).ridge, .int .i64 (corI hi (List.getD (tC L) x6 zeroC)).press] : List Value)))) : KObj) = some (.cells true 4 (List.flatMap iceC (tI L hi x6')) : KObj) ∧ belowO 9 (.cells true 4 (List.flatMap iceC (tI L hi x6')) : KObj) = true) ∧ (some (.cells true 2 ((List.take (x6 * 2) (List.drop 0 (List.flatMap moveC (tM L at_ hi x6)))) ++ (List.take (1 * 2) (List.drop 0 ([.int .i64 (tB L at_ hi x6 x9).dx, .int .i64 (tB L at_ hi x6 x9).dy] : List Value)))) : KObj) = some (.cells true 2 (List.flatMap moveC (tM L at_ hi x6')) : KObj) ∧ belowO 9 (.cells true 2 (List.flatMap moveC (tM L at_ hi x6')) : KObj) = true) ∧ True) ∧ (True)))))))))))))))))))) ∧ ((decide ((((x6 : Nat) : Int) : Int) < (((List.length (tC L)) : Nat) : Int))) = false → (((some (.cells true 1 (List.flatMap boolC (kA L)) : KObj) = some (.cells true 1 (List.flatMap boolC (kA L)) : KObj)) ∧ (some (.cells true 4 (List.flatMap flowC (tF L)) : KObj) = some (.cells true 4 (List.flatMap flowC (tF L)) : KObj)) ∧ (some (.cells true 4 (List.flatMap iceC (tI L hi x6)) : KObj) = some (.cells true 4 (List.flatMap iceC (tI L hi x6)) : KObj)) ∧ (some (.cells true 2 (List.flatMap moveC (tM L at_ hi x6)) : KObj) = some (.cells true 2 (List.flatMap moveC (tM L at_ hi x6)) : KObj)) ∧ True) ∧ (∀ H' : Heap, H'.length = 11 → (H'[1]? = some (.cells true 1 (List.flatMap boolC (kA L)) : KObj) ∧ H'[6]? = some (.cells true 4 (List.flatMap flowC (tF L)) : KObj) ∧ H'[9]? = some (.cells true 4 (List.flatMap iceC (tI L hi x6)) : KObj) ∧ H'[10]? = some (.cells true 2 (List.flatMap moveC (tM L at_ hi x6)) : KObj) ∧ True) → KCall prog 15 [.agg #[.int .i64 (kW L), .int .i64 (kH L), .slice (some ⟨1, 0, some 1⟩) (List.length (kA L)) (List.length (kA L))], .slice (some ⟨6, 0, some 1⟩) (List.length (tF L)) (List.length (tF L)), .slice (some ⟨9, 0, some 1⟩) x6 x6, .slice (some ⟨10, 0, some 1⟩) x6 x6] H' [] (Is (.tuple #[.slice (some ⟨11, 0, some 1⟩) (List.length (tD L at_ hi)) (List.length (tD L at_ hi)), .slice (some ⟨12, 0, some 1⟩) (List.length (tE L at_ hi)) (List.length (tE L at_ hi)), .int .i64 0]) (H' ++ [(.cells true 4 (List.flatMap iceC (tD L at_ hi)) : KObj), (.cells true 1 (List.flatMap intC (tE L at_ hi)) : KObj)]))) ∧ ((((0 : Int) == 0) = true → (((((((List.length (tD L at_ hi)) : Nat) : Int) : Int) == (((List.length (tC L)) : Nat) : Int)) = true → (((0 : Int) ≤ (tT L at_) ∧ ((tT L at_) : Int) < (((List.length (tD L at_ hi)) : Nat) : Int)) ∧ ((partA 4 (List.flatMap iceC (tD L at_ hi)) (0 + Int.toNat (tT L at_) * 4) = some (.agg #[.int .i64 (List.getD (tD L at_ hi) (Int.toNat (tT L at_)) zeroI).conc, .int .i64 (List.getD (tD L at_ hi) (Int.toNat (tT L at_)) zeroI).thick, .int .i64 (List.getD (tD L at_ hi) (Int.toNat (tT L at_)) zeroI).ridge, .int .i64 (List.getD (tD L at_ hi) (Int.toNat (tT L at_)) zeroI).press])) ∧ (((0 : Int) ≤ (tT L at_) ∧ ((tT L at_) : Int) < (((List.length (tS L)) : Nat) : Int)) ∧ ((partA 8 (List.flatMap cellC (tS L)) (0 + Int.toNat (tT L at_) * 8) = some (.agg #[.int .i64 (List.getD (tS L) (Int.toNat (tT L at_)) zeroC).conc.lo, .int .i64 (List.getD (tS L) (Int.toNat (tT L at_)) zeroC).conc.hi, .int .i64 (List.getD (tS L) (Int.toNat (tT L at_)) zeroC).thick.lo, .int .i64 (List.getD (tS L) (Int.toNat (tT L at_)) zeroC).thick.hi, .int .i64 (List.getD (tS L) (Int.toNat (tT L at_)) zeroC).ridge.lo, .int .i64 (List.getD (tS L) (Int.toNat (tT L at_)) zeroC).ridge.hi, .int .i64 (List.getD (tS L) (Int.toNat (tT L at_)) zeroC).press.lo, .int .i64 (List.getD (tS L) (Int.toNat (tT L at_)) zeroC).press.hi])) ∧ ((True) ∧ (∀ H' : Heap, H'.length = 13 → (True) → KCall prog 43 [.agg #[.int .i64 (List.getD (tS L) (Int.toNat (tT L at_)) zeroC).conc.lo, .int .i64 (List.getD (tS L) (Int.toNat (tT L at_)) zeroC).conc.hi, .int .i64 (List.getD (tS L) (Int.toNat (tT L at_)) zeroC).thick.lo, .int .i64 (List.getD (tS L) (Int.toNat (tT L at_)) zeroC).thick.hi, .int .i64 (List.getD (tS L) (Int.toNat (tT L at_)) zeroC).ridge.lo, .int .i64 (List.getD (tS L) (Int.toNat (tT L at_)) zeroC).ridge.hi, .int .i64 (List.getD (tS L) (Int.toNat (tT L at_)) zeroC).press.lo, .int .i64 (List.getD (tS L) (Int.toNat (tT L at_)) zeroC).press.hi], .bool hi] H' [] (Is (.agg #[.int .i64 (corI hi (List.getD (tS L) (Int.toNat (tT L at_)) zeroC)).conc, .int .i64 (corI hi (List.getD (tS L) (Int.toNat (tT L at_)) zeroC)).thick, .int .i64 (corI hi (List.getD (tS L) (Int.toNat (tT L at_)) zeroC)).ridge, .int .i64 (corI hi (List.getD (tS L) (Int.toNat (tT L at_)) zeroC)).press]) H')) ∧ ((((((List.getD (tD L at_ hi) (Int.toNat (tT L at_)) zeroI).conc : Int) == (corI hi (List.getD (tS L) (Int.toNat (tT L at_)) zeroC)).conc) && ((((List.getD (tD L at_ hi) (Int.toNat (tT L at_)) zeroI).thick : Int) == (corI hi (List.getD (tS L) (Int.toNat (tT L at_)) zeroC)).thick) && ((((List.getD (tD L at_ hi) (Int.toNat (tT L at_)) zeroI).ridge : Int) == (corI hi (List.getD (tS L) (Int.toNat (tT L at_)) zeroC)).ridge) && ((((List.getD (tD L at_ hi) (Int.toNat (tT L at_)) zeroI).press : Int) == (corI hi (List.getD (tS L) (Int.toNat (tT L at_)) zeroC)).press) && true)))) = true → ((True) ∧ (∀ H' : Heap, H'.length = 13 → (True) → KCall prog 16 [] H' [] (Is (.bool true) H')) ∧ (.bool true : Value) = sp)) ∧ (((((List.getD (tD L at_ hi) (Int.toNat (tT L at_)) zeroI).conc : Int) == (corI hi (List.getD (tS L) (Int.toNat (tT L at_)) zeroC)).conc) && ((((List.getD (tD L at_ hi) (Int.toNat (tT L at_)) zeroI).thick : Int) == (corI hi (List.getD (tS L) (Int.toNat (tT L at_)) zeroC)).thick) && ((((List.getD (tD L at_ hi) (Int.toNat (tT L at_)) zeroI).ridge : Int) == (corI hi (List.getD (tS L) (Int.toNat (tT L at_)) zeroC)).ridge) && ((((List.getD (tD L at_ hi) (Int.toNat (tT L at_)) zeroI).press : Int) == (corI hi (List.getD (tS L) (Int.toNat (tT L at_)) zeroC)).press) && true)))) = false → (.bool false : Value) = sp)))))))) ∧ ((((((List.length (tD L at_ hi)) : Nat) : Int) : Int) == (((List.length (tC L)) : Nat) : Int)) = false → (.bool false : Value) = sp))) ∧ (((0 : Int) == 0) = false → (.bool false : Value) = sp))))))))))))))))
theorem ETightLaw (sp : Value) (L : List Int) (at_ : Int) (hi : Bool) : vF prog msk (dm 0) 100000 true 40 true 7 [.iface ((List.length L) + 1) (.agg ⟨(List.flatMap intC L)⟩), .int .i64 at_, .bool hi] ⟨0, .leaf⟩ (some [])
  (.go 5 (.answ [(0, .cells true 0 [.iface ((List.length L) + 1) (.agg ⟨(List.flatMap intC L)⟩), .int .i64 0])] (.agg #[.int .i64 (kW L), .int .i64 (kH L), .slice (some ⟨1, 0, some 1⟩) (List.length (kA L)) (List.length (kA L))]) [(0, .cells true 0 [.iface ((List.length L) + 1) (.agg ⟨(List.flatMap intC L)⟩), .int .i64 (k1 L)])] [.cells true 1 (List.flatMap boolC (kA L))] (.go 6 (.answ [(0, .cells true 0 [.iface ((List.length L) + 1) (.agg ⟨(List.flatMap intC L)⟩), .int .i64 (k1 L)]), (1, .cells true 1 (List.flatMap boolC (kA L)))] (.slice (some ⟨4, 0, some 1⟩) (List.length (kX L)) (List.length (kX L))) [(0, .cells true 0 [.iface ((List.length L) + 1) (.agg ⟨(List.flatMap intC L)⟩), .int .i64 (k2 L)])] [.cells true 4 (List.flatMap iceC (kX L))] (.answ [(0, .cells true 0 [.iface ((List.length L) + 1) (.agg ⟨(List.flatMap intC L)⟩), .int .i64 (k2 L)]), (1, .cells true 1 (List.flatMap boolC (kA L))), (4, .cells true 4 (List.flatMap iceC (kX L)))] (.agg #[.int .i64 (kW L), .int .i64 (kH L), .int .i64 (tHr L), .slice (some ⟨5, 0, some 1⟩) (List.length (tC L)) (List.length (tC L))]) [(0, .cells true 0 [.iface ((List.length L) + 1) (.agg ⟨(List.flatMap intC L)⟩), .int .i64 (t3 L)])] [.cells true 8 (List.flatMap cellC (tC L))] (.go 2 (.answ [(0, .cells true 0 [.iface ((List.length L) + 1) (.agg ⟨(List.flatMap intC L)⟩), .int .i64 (t3 L)]), (1, .cells true 1 (List.flatMap boolC (kA L)))] (.slice (some ⟨6, 0, some 1⟩) (List.length (tF L)) (List.length (tF L))) [(0, .cells true 0 [.iface ((List.length L) + 1) (.agg ⟨(List.flatMap intC L)⟩), .int .i64 (t4 L)])] [.cells true 4 (List.flatMap flowC (tF L))] (.go 4 (.ans [] (.int .i64 (tT L at_)) [] (.go 3 (.ans [(1, .cells true 1 (List.flatMap boolC (kA L))), (6, .cells true 4 (List.flatMap flowC (tF L))), (5, .cells true 8 (List.flatMap cellC (tC L)))] (.tuple #[.agg #[.int .i64 (kW L), .int .i64 (kH L), .int .i64 (tHr L + 1), .slice (some ⟨7, 0, some 1⟩) (List.length (tS L)) (List.length (tS L))], .int .i64 0]) [.cells true 8 (List.flatMap cellC (tS L))] (.go 8 (.gfork (.auto) (.go 7 (.fork (.auto) (.go 2 (.inv 3 (Nat) (0) [] [2, 3] (fun x6 => [(16, .int .i64 ((x6 : Nat) : Int)), (14, .slice (some ⟨9, 0, some 1⟩) x6 x6), (15, .slice (some ⟨10, 0, some 1⟩) x6 x6), (2, .bool hi), (8, .pointer (some ⟨2, 0, none⟩)), (9, .pointer (some ⟨3, 0, none⟩)), (10, .slice (some ⟨6, 0, some 1⟩) (List.length (tF L)) (List.length (tF L))), (11, .int .i64 (tT L at_)), (12, .pointer (some ⟨8, 0, none⟩)), (13, .int .i64 0)]) (fun x6 => [(2, true, .cells true 0 [.int .i64 (kW L), .int .i64 (kH L), .slice (some ⟨1, 0, some 1⟩) (List.length (kA L)) (List.length (kA L))]), (3, true, .cells true 0 [.int .i64 (kW L), .int .i64 (kH L), .int .i64 (tHr L), .slice (some ⟨5, 0, some 1⟩) (List.length (tC L)) (List.length (tC L))])]) (fun x6 => [(true, .cells true 4 (List.flatMap iceC (tI L hi x6))), (true, .cells true 2 (List.flatMap moveC (tM L at_ hi x6)))]) (fun x6 => []) (fun x6 => (x6 ≤ List.length (tC L))) (fun x6 => (List.length (tC L) - x6)) (fun x6 => .go 4 (.fork (.go 3 (.need (.val (.agg #[.int .i64 (List.getD (tC L) x6 zeroC).conc.lo, .int .i64 (List.getD (tC L) x6 zeroC).conc.hi, .int .i64 (List.getD (tC L) x6 zeroC).thick.lo, .int .i64 (List.getD (tC L) x6 zeroC).thick.hi, .int .i64 (List.getD (tC L) x6 zeroC).ridge.lo, .int .i64 (List.getD (tC L) x6 zeroC).ridge.hi, .int .i64 (List.getD (tC L) x6 zeroC).press.lo, .int .i64 (List.getD (tC L) x6 zeroC).press.hi]) (.go 0 (.ans [] (.agg #[.int .i64 (corI hi (List.getD (tC L) x6 zeroC)).conc, .int .i64 (corI hi (List.getD (tC L) x6 zeroC)).thick, .int .i64 (corI hi (List.getD (tC L) x6 zeroC)).ridge, .int .i64 (corI hi (List.getD (tC L) x6 zeroC)).press]) [] (.go 0 (.need (.go 2 (.need (.val (.agg #[.int .i64 (List.getD (tF L) x6 zeroF).x.lo, .int .i64 (List.getD (tF L) x6 zeroF).x.hi, .int .i64 (List.getD (tF L) x6 zeroF).y.lo, .int .i64 (List.getD (tF L) x6 zeroF).y.hi]) (.ans [] (.tuple #[.slice (some ⟨13, 0, some 1⟩) (List.length (movesF (List.getD (tF L) x6 zeroF))) (List.length (movesF (List.getD (tF L) x6 zeroF))), .int .i64 0]) [.cells true 2 (List.flatMap moveC (movesF (List.getD (tF L) x6 zeroF)))] (.go 7 (.slot 87 (.bool false) (.go 3 (.fork (.auto) (.go 0 (.need (.val (.agg #[.int .i64 (List.getD (movesF (List.getD (tF L) x6 zeroF)) 0 zeroM).dx, .int .i64 (List.getD (movesF (List.getD (tF L) x6 zeroF)) 0 zeroM).dy]) (.go 2 (.inv 3 (Nat) (0) [] [14, 2] (fun x9 => [(20, .int .i64 ((x9 : Nat) : Int)), (13, .int .i64 0), (12, .pointer (some ⟨8, 0, none⟩)), (11, .int .i64 (tT L at_)), (10, .slice (some ⟨6, 0, some 1⟩) (List.length (tF L)) (List.length (tF L))), (9, .pointer (some ⟨3, 0, none⟩)), (8, .pointer (some ⟨2, 0, none⟩)), (2, .bool hi), (15, .slice (some ⟨10, 0, some 1⟩) x6 x6), (16, .int .i64 ((x6 : Nat) : Int)), (14, .slice (some ⟨12, 0, none⟩) (x6 + 1) (x6 + 1)), (17, .slice (some ⟨13, 0, some 1⟩) (List.length (movesF (List.getD (tF L) x6 zeroF))) (List.length (movesF (List.getD (tF L) x6 zeroF)))), (18, .int .i64 0), (19, .pointer (some ⟨14, 0, none⟩))]) (fun x9 => [(14, true, .cells true 0 [.int .i64 (tB L at_ hi x6 x9).dx, .int .i64 (tB L at_ hi x6 x9).dy]), (2, true, .cells true 0 [.int .i64 (kW L), .int .i64 (kH L), .slice (some ⟨1, 0, some 1⟩) (List.length (kA L)) (List.length (kA L))])]) (fun x9 => []) (fun x9 => []) (fun x9 => (x9 ≤ List.length (movesF (List.getD (tF L) x6 zeroF)))) (fun x9 => (List.length (movesF (List.getD (tF L) x6 zeroF)) - x9)) (fun x9 => .go 3 (.fork (.go 3 (.need (.val (.agg #[.int .i64 (List.getD (movesF (List.getD (tF L) x6 zeroF)) x9 zeroM).dx, .int .i64 (List.getD (movesF (List.getD (tF L) x6 zeroF)) x9 zeroM).dy]) (.go 1 (.ans [(1, .cells true 1 (List.flatMap boolC (kA L)))] (.int .i64 (targ (kW L) (kH L) (kA L) ((x6 : Nat) : Int) (List.getD (movesF (List.getD (tF L) x6 zeroF)) x9 zeroM))) [] (.go 1 (.fork (.go 1 (.need (.val (.agg #[.int .i64 (List.getD (movesF (List.getD (tF L) x6 zeroF)) x9 zeroM).dx, .int .i64 (List.getD (movesF (List.getD (tF L) x6 zeroF)) x9 zeroM).dy]) (.go 2 (.slot 100 (.int .i64 (((x9 : Nat) : Int) + 1)) (.go 0 (.again []))))))) (.go 1 (.slot 100 (.int .i64 (((x9 : Nat) : Int) + 1)) (.go 0 (.again []))))))))))) (.go 2 (.need (.go 2 (.slot 66 (.int .i64 (((x6 : Nat) : Int) + 1)) (.go 0 (.again [(9, 12), (10, 16)])))))))))))))))))))))))))))) (.go 3 (.ans [(1, .cells true 1 (List.flatMap boolC (kA L))), (6, .cells true 4 (List.flatMap flowC (tF L))), (9, .cells true 4 (List.flatMap iceC (tI L hi x6))), (10, .cells true 2 (List.flatMap moveC (tM L at_ hi x6)))] (.tuple #[.slice (some ⟨11, 0, some 1⟩) (List.length (tD L at_ hi)) (List.length (tD L at_ hi)), .slice (some ⟨12, 0, some 1⟩) (List.length (tE L at_ hi)) (List.length (tE L at_ hi)), .int .i64 0]) [.cells true 4 (List.flatMap iceC (tD L at_ hi)), .cells true 1 (List.flatMap intC (tE L at_ hi))] (.go 9 (.gfork (.go 7 (.gfork (.go 1 (.need (.val (.agg #[.int .i64 (List.getD (tD L at_ hi) (Int.toNat (tT L at_)) zeroI).conc, .int .i64 (List.getD (tD L at_ hi) (Int.toNat (tT L at_)) zeroI).thick, .int .i64 (List.getD (tD L at_ hi) (Int.toNat (tT L at_)) zeroI).ridge, .int .i64 (List.getD (tD L at_ hi) (Int.toNat (tT L at_)) zeroI).press]) (.go 2 (.need (.val (.agg #[.int .i64 (List.getD (tS L) (Int.toNat (tT L at_)) zeroC).conc.lo, .int .i64 (List.getD (tS L) (Int.toNat (tT L at_)) zeroC).conc.hi, .int .i64 (List.getD (tS L) (Int.toNat (tT L at_)) zeroC).thick.lo, .int .i64 (List.getD (tS L) (Int.toNat (tT L at_)) zeroC).thick.hi, .int .i64 (List.getD (tS L) (Int.toNat (tT L at_)) zeroC).ridge.lo, .int .i64 (List.getD (tS L) (Int.toNat (tT L at_)) zeroC).ridge.hi, .int .i64 (List.getD (tS L) (Int.toNat (tT L at_)) zeroC).press.lo, .int .i64 (List.getD (tS L) (Int.toNat (tT L at_)) zeroC).press.hi]) (.go 0 (.ans [] (.agg #[.int .i64 (corI hi (List.getD (tS L) (Int.toNat (tT L at_)) zeroC)).conc, .int .i64 (corI hi (List.getD (tS L) (Int.toNat (tT L at_)) zeroC)).thick, .int .i64 (corI hi (List.getD (tS L) (Int.toNat (tT L at_)) zeroC)).ridge, .int .i64 (corI hi (List.getD (tS L) (Int.toNat (tT L at_)) zeroC)).press]) [] (.go 2 (.gfork (.ans [] (.bool true) [] (.auto)) (.auto))))))))))) (.auto))) (.auto))))))))))))))))))))))))
  (fun v _ _ => v = sp) = RTightLaw sp L at_ hi := by kernel_rfl
end
end Go.Proofs.Ytkkgnalgmebfjaa
/- DriftTight: the ends of each cell are reached. No condition. -/
namespace Go.Proofs.Ytkkgnalgmebfjaa
open Go Go.K
set_option maxRecDepth 100000
set_option linter.unusedVariables false
set_option linter.unusedSimpArgs false
noncomputable section
theorem tC_ok (L : List Int) : (tC L).length = (kA L).length ∧ ∀ k, k < (kA L).length → rightC ((tC L).getD k zeroC) ∧ hasC ((tC L).getD k zeroC) ((kX L).getD k zeroI) ∧ ((kA L).getD k false = true → (tC L).getD k zeroC = zeroC) := by
  obtain ⟨x1, x2⟩ := kX_ok L
  obtain ⟨h1, _, h3⟩ := hldL_ok L (kA L) (kX L) (k2 L + 1) (fun k hk => x2 k (by omega)) (kX L).length (Nat.le_refl _)
  exact ⟨h1.trans x1, fun k hk => h3 k (by omega)⟩
theorem tF_ok (L : List Int) : (tF L).length = (kA L).length ∧ ∀ f ∈ tF L, rightF f := by
  obtain ⟨h1, _, h3⟩ := curL_ok L (t3 L) (t3 L + 1 + 1) (kA L).length
  exact ⟨h1, h3⟩
theorem t_bd (L : List Int) : (0 ≤ t3 L ∧ t3 L ≤ 3000) ∧ (0 ≤ t4 L ∧ t4 L ≤ 4000) ∧ 0 ≤ tHr L ∧ tHr L < 100 := by
  obtain ⟨x1, x2⟩ := kX_ok L
  obtain ⟨⟨_, b2⟩, _, b4⟩ := k_bd L
  obtain ⟨_, h2, _⟩ := hldL_ok L (kA L) (kX L) (k2 L + 1) (fun k hk => x2 k (by omega)) (kX L).length (Nat.le_refl _)
  obtain ⟨_, h5, _⟩ := curL_ok L (t3 L) (t3 L + 1 + 1) (kA L).length
  have e1 : t3 L = (hldL L (kA L) (kX L) (k2 L + 1) (kX L).length).2 := rfl
  have e2 : t4 L = (curL L (dN L (t3 L) 3001 - 1500) (dN L (t3 L + 1) 3001 - 1500) (t3 L + 1 + 1) (kA L).length).2 := rfl
  have h6 := dN_bd L (k2 L) (m := 100) (by decide)
  rw [← e1] at h2
  rw [← e2] at h5
  have e3 : tHr L = dN L (k2 L) 100 := rfl
  omega
theorem errs_all {α : Type} {e : α → Int} : ∀ {xs : List α}, (∀ x ∈ xs, e x = 0) → errs e xs = 0
  | [], _ => rfl
  | y :: r, h => by
    unfold errs
    rw [if_pos (h y (List.mem_cons_self ..))]
    exact errs_all fun x hx => h x (List.mem_cons_of_mem _ hx)
theorem mem_getD {α : Type} {l : List α} {d x : α} (h : x ∈ l) : ∃ k, k < l.length ∧ l.getD k d = x := by
  obtain ⟨k, hk, rfl⟩ := List.mem_iff_getElem.1 h
  exact ⟨k, hk, by rw [List.getD_eq_getElem?_getD, List.getElem?_eq_getElem hk]; rfl⟩
/-- Charts that fit. -/
theorem fits_0 {w h : Int} {a : List Bool} {t : Int} {cs : List Cell} (hs : sizeOk w h t) (hn : ((a.length : Nat) : Int) = w * h) (hl : cs.length = a.length) (hc : ∀ k, k < a.length → rightC (cs.getD k zeroC) ∧ (a.getD k false = true → cs.getD k zeroC = zeroC)) : errFits w h a w h t cs = 0 := by
  have e1 : errChart w h t cs = 0 := by
    unfold errChart
    rw [first2_2 (errSize_iff.2 hs), if_pos (by omega)]
    refine errs_all fun c hm => ?_
    obtain ⟨k, hk, rfl⟩ := mem_getD (d := zeroC) hm
    exact errCell_iff.2 (hc k (by omega)).1
  have e2 : errSides w h w h t cs = 0 := by
    unfold errSides
    rw [first2_2 e1, if_pos ⟨rfl, rfl⟩]
  unfold errFits
  rw [first2_2 e2]
  have key : ∀ k, k ≤ cs.length → errUp (dryErr a cs) k = 0 := by
    intro k
    induction k with
    | zero => intro _; rfl
    | succ k ih =>
      intro hk
      exact errUp_succ (ih (by omega)) (dry_2 fun q => by rw [(hc k (by omega)).2 q]; rfl)
  exact key _ (Nat.le_refl _)
theorem tFits (L : List Int) : errFits (kW L) (kH L) (kA L) (kW L) (kH L) (tHr L) (tC L) = 0 := by
  obtain ⟨c1, c2⟩ := tC_ok L
  obtain ⟨b1, b2, b3, b4⟩ := kB_ok L
  obtain ⟨_, _, b5⟩ := t_bd L
  exact fits_0 ⟨b1, b2, b3, by omega⟩ b4 c1 fun k hk => ⟨(c2 k hk).1, (c2 k hk).2.2⟩
theorem tStep_0 (L : List Int) : fStep (kW L) (kH L) (kA L) (tF L) (kW L) (kH L) (tHr L) (tC L) = (⟨kW L, kH L, tHr L + 1, tS L⟩, 0) := by
  obtain ⟨f1, f2⟩ := tF_ok L
  obtain ⟨_, _, b5⟩ := t_bd L
  unfold fStep
  rw [if_pos (show errFlows (kW L) (kH L) (kA L).length (tF L) = 0 from flows_ok (wat_ok L 0) f1 f2), if_pos (tFits L), if_neg (by omega)]
  rfl
/-! ## The best moves -/
theorem best_spec {w h : Int} {a : List Bool} {i t : Int} {hi : Bool} {ms : List Move} : ∀ n, (∃ j, j < n ∧ bestTo w h a i t hi ms n = ms.getD j zeroM ∧ ((targ w h a i (ms.getD j zeroM) == t) == hi) = true) ∨
    (bestTo w h a i t hi ms n = ms.getD 0 zeroM ∧ ∀ j, j < n → ((targ w h a i (ms.getD j zeroM) == t) == hi) = false)
  | 0 => .inr ⟨rfl, fun j h => by omega⟩
  | n + 1 => by
    cases hq : ((targ w h a i (ms.getD n zeroM) == t) == hi) with
    | true => exact .inl ⟨n, by omega, if_pos hq, hq⟩
    | false =>
      have e : bestTo w h a i t hi ms (n + 1) = bestTo w h a i t hi ms n := if_neg (by rw [hq]; exact Bool.false_ne_true)
      rw [e]
      rcases best_spec (w := w) (h := h) (a := a) (i := i) (t := t) (hi := hi) (ms := ms) n with ⟨j, h1, h2, h3⟩ | ⟨h1, h2⟩
      · exact .inl ⟨j, by omega, h2, h3⟩
      · exact .inr ⟨h1, fun j hj => by
          rcases Nat.lt_or_ge j n with q | q
          · exact h2 j q
          · rw [show j = n by omega]; exact hq⟩
theorem best_mem {w h : Int} {a : List Bool} {i t : Int} {hi : Bool} {ms : List Move} {n : Nat} (hn : n ≤ ms.length) (h0 : 0 < ms.length) : bestTo w h a i t hi ms n ∈ ms := by
  rcases best_spec (w := w) (h := h) (a := a) (i := i) (t := t) (hi := hi) (ms := ms) n with ⟨j, h1, h2, _⟩ | ⟨h1, _⟩
  · rw [h2]; exact getD_mem (by omega)
  · rw [h1]; exact getD_mem h0
theorem best_hi {w h : Int} {a : List Bool} {i t : Int} {ms : List Move} (h0 : 0 < ms.length) : targ w h a i (bestTo w h a i t true ms ms.length) = t ↔ ∃ m ∈ ms, targ w h a i m = t := by
  constructor
  · intro hq; exact ⟨_, best_mem (Nat.le_refl _) h0, hq⟩
  · rintro ⟨m, hm, ht⟩
    rcases best_spec (w := w) (h := h) (a := a) (i := i) (t := t) (hi := true) (ms := ms) ms.length with ⟨j, h1, h2, h3⟩ | ⟨_, h2⟩
    · rw [h2]; simpa using h3
    · obtain ⟨k, hk, rfl⟩ := mem_getD (d := zeroM) hm
      have := h2 k hk
      rw [ht] at this
      simp at this
theorem best_lo {w h : Int} {a : List Bool} {i t : Int} {ms : List Move} (h0 : 0 < ms.length) : targ w h a i (bestTo w h a i t false ms ms.length) = t ↔ ∀ m ∈ ms, targ w h a i m = t := by
  constructor
  · intro hq m hm
    rcases best_spec (w := w) (h := h) (a := a) (i := i) (t := t) (hi := false) (ms := ms) ms.length with ⟨j, h1, h2, h3⟩ | ⟨_, h2⟩
    · rw [h2] at hq; rw [hq] at h3; simp at h3
    · obtain ⟨k, hk, rfl⟩ := mem_getD (d := zeroM) hm
      simpa using h2 k hk
  · intro hq; exact hq _ (best_mem (Nat.le_refl _) h0)
/-! ## Where ice can go -/
theorem TG_mem {w h : Int} {a : List Bool} {l : List Flow} {k : Nat} (b : BasOk w h a.length) (hc : 0 ≤ (k : Int) ∧ (k : Int) < w * h) {t : Int} : t ∈ TG w h a l k ↔ ∃ m ∈ movesF (l.getD k zeroF), targ w h a (k : Int) m = t := by
  have hn := b.n1
  unfold TG tgts truesL
  rw [truesTo_mem]
  constructor
  · rintro ⟨i, h1, h2, rfl⟩
    unfold goesL at h1 h2
    rw [tabP_len] at h1
    rw [tab_getD _ _ _ h1] at h2
    have := of_decide_eq_true h2
    unfold tgL at this
    obtain ⟨m, hm, e⟩ := List.mem_map.1 this
    exact ⟨m, hm, e⟩
  · rintro ⟨m, hm, rfl⟩
    have hb := targ_bd (a := a) hc m
    refine ⟨Int.toNat (targ w h a (k : Int) m), ?_, ?_, by omega⟩
    · unfold goesL; rw [tabP_len]; omega
    · unfold goesL
      rw [tab_getD _ _ _ (by omega)]
      refine decide_eq_true ?_
      rw [show ((Int.toNat (targ w h a (k : Int) m) : Nat) : Int) = targ w h a (k : Int) m by omega]
      exact List.mem_map.2 ⟨m, hm, rfl⟩
theorem TG_lt {w h : Int} {a : List Bool} {l : List Flow} {k : Nat} : (TG w h a l k).Pairwise (· < ·) := truesTo_lt _ _
theorem addTo_get {x : Ice} : ∀ {ts : List Int} {ps : List Pl} {T : Nat}, ts.Pairwise (· < ·) → (∀ t ∈ ts, 0 ≤ t ∧ t < (ps.length : Int)) → (addTo ps ts x).getD T zeroP = if (T : Int) ∈ ts then addP (ps.getD T zeroP) x else ps.getD T zeroP
  | [], ps, T, _, _ => by rw [if_neg (by simp)]; rfl
  | t :: ts, ps, T, hp, hb => by
    obtain ⟨hp1, hp2⟩ := List.pairwise_cons.1 hp
    have ht := hb t (List.mem_cons_self ..)
    have ih := addTo_get (x := x) (ts := ts) (ps := addAt ps t x) (T := T) hp2 (fun s hs => by rw [addAt_len]; exact hb s (List.mem_cons_of_mem _ hs))
    show (addTo (addAt ps t x) ts x).getD T zeroP = _
    rw [ih]
    have hg : (addAt ps t x).getD T zeroP = if T = Int.toNat t then addP (ps.getD (Int.toNat t) zeroP) x else ps.getD T zeroP := getD_set (by omega)
    rw [hg]
    by_cases h1 : T = Int.toNat t
    · have h2 : ¬ (T : Int) ∈ ts := fun q => by have := hp1 _ q; omega
      rw [if_neg h2, if_pos h1, if_pos (by rw [List.mem_cons]; left; omega), h1]
    · rw [if_neg h1]
      have h3 : (T : Int) ∈ t :: ts ↔ (T : Int) ∈ ts := by
        rw [List.mem_cons]
        constructor
        · rintro (q | q)
          · omega
          · exact q
        · exact .inr
      simp only [h3]
theorem one_TG {ts : List Int} {t : Int} (hp : ts.Pairwise (· < ·)) (h0 : ts ≠ []) : (∀ s ∈ ts, s = t) ↔ ts.length = 1 ∧ ts.getD 0 0 = t := by
  match ts, hp, h0 with
  | [s], _, _ => simp
  | s :: r :: l, hp, _ =>
    constructor
    · intro h
      have h1 := h s (by simp)
      have h2 := h r (by simp)
      have := (List.pairwise_cons.1 hp).1 r (by simp)
      omega
    · intro h; simp at h
theorem tI_get {L : List Int} {hi : Bool} {n k : Nat} (h : k < n) : (tI L hi n).getD k zeroI = corI hi ((tC L).getD k zeroC) := tabP_get h
theorem tM_get {L : List Int} {x : Int} {hi : Bool} {n k : Nat} (h : k < n) : (tM L x hi n).getD k zeroM = tB L x hi k (movesF ((tF L).getD k zeroF)).length := tabP_get h
theorem tDr_ok (L : List Int) (x : Int) (hi : Bool) : DrOk (kW L) (kH L) (kA L) (tI L hi (tC L).length) (tM L x hi (tC L).length) := by
  obtain ⟨c1, c2⟩ := tC_ok L
  have hl : (tI L hi (tC L).length).length = (kA L).length := (tabP_len _ _).trans c1
  refine ⟨kB_ok L, hl, fun k hk => ?_, fun k hk ha => ?_⟩
  · rw [tI_get (by omega)]
    obtain ⟨q, _, _⟩ := c2 k (by omega)
    unfold corI
    split
    · exact rightC_hi q
    · exact rightC_lo q
  · rw [tI_get (by omega), (c2 k (by omega)).2.2 ha]
    unfold corI
    split <;> rfl
theorem tDr_0 (L : List Int) (x : Int) (hi : Bool) : fDrift (kW L) (kH L) (kA L) (tF L) (tI L hi (tC L).length) (tM L x hi (tC L).length) = (tD L x hi, tE L x hi, 0) := by
  obtain ⟨c1, c2⟩ := tC_ok L
  obtain ⟨f1, f2⟩ := tF_ok L
  refine if_pos (errDr_0 (tDr_ok L x hi) (wat_ok L 0) f1 f2 ((tabP_len _ _).trans c1) fun k hk _ => ?_)
  have hr := f2 _ (getD_mem (d := zeroF) (show k < (tF L).length by omega))
  rw [tM_get (by omega)]
  exact movesF_in hr _ (best_mem (Nat.le_refl _) (by have := movesF_bd hr; omega))
/-- At one cell: what has come with the best moves is what may, or must have come. -/
theorem tight_at (L : List Int) (x : Int) (hi : Bool) {T : Nat} (hT : tT L x = (T : Int)) (hTn : T < (kA L).length) : ∀ {k : Nat}, k ≤ (tC L).length →
    (plTo (kW L) (kH L) (kA L) (tI L hi (tC L).length) (tM L x hi (tC L).length) k).getD T zeroP = (if hi = true then mayTo (kW L) (kH L) (kA L) (tF L) (tC L) k else mustTo (kW L) (kH L) (kA L) (tF L) (tC L) k).getD T zeroP
  | 0, _ => by cases hi <;> rfl
  | k + 1, hk => by
    have ih := tight_at L x hi hT hTn (k := k) (by omega)
    obtain ⟨c1, c2⟩ := tC_ok L
    obtain ⟨f1, f2⟩ := tF_ok L
    have hb := kB_ok L
    have hn := hb.n1
    have hr := f2 _ (getD_mem (d := zeroF) (show k < (tF L).length by omega))
    have hmb := movesF_bd hr
    have hc : 0 ≤ (k : Int) ∧ (k : Int) < kW L * kH L := by omega
    cases ha : (kA L).getD k false with
    | true =>
      have e1 : mayTo (kW L) (kH L) (kA L) (tF L) (tC L) (k + 1) = mayTo (kW L) (kH L) (kA L) (tF L) (tC L) k := if_pos ha
      have e2 : mustTo (kW L) (kH L) (kA L) (tF L) (tC L) (k + 1) = mustTo (kW L) (kH L) (kA L) (tF L) (tC L) k := if_pos ha
      rw [plTo_1 ha, e1, e2]; exact ih
    | false =>
      have hna : ¬ (kA L).getD k false = true := by rw [ha]; exact Bool.false_ne_true
      have e1 : mayTo (kW L) (kH L) (kA L) (tF L) (tC L) (k + 1) = addTo (mayTo (kW L) (kH L) (kA L) (tF L) (tC L) k) (TG (kW L) (kH L) (kA L) (tF L) k) (hiI ((tC L).getD k zeroC)) := if_neg hna
      have e2 : mustTo (kW L) (kH L) (kA L) (tF L) (tC L) (k + 1) = if (TG (kW L) (kH L) (kA L) (tF L) k).length = 1 then addAt (mustTo (kW L) (kH L) (kA L) (tF L) (tC L) k) ((TG (kW L) (kH L) (kA L) (tF L) k).getD 0 0) (loI ((tC L).getD k zeroC)) else mustTo (kW L) (kH L) (kA L) (tF L) (tC L) k := if_neg hna
      have hpl := plTo_len (kW L) (kH L) (kA L) (tI L hi (tC L).length) (tM L x hi (tC L).length) k
      rw [plTo_2 ha, tM_get (by omega), tI_get (by omega)]
      have htb := targ_bd (a := kA L) hc (tB L x hi k (movesF ((tF L).getD k zeroF)).length)
      rw [getD_set (by omega)]
      have hiff : T = Int.toNat (targ (kW L) (kH L) (kA L) (k : Int) (tB L x hi k (movesF ((tF L).getD k zeroF)).length)) ↔ targ (kW L) (kH L) (kA L) (k : Int) (tB L x hi k (movesF ((tF L).getD k zeroF)).length) = tT L x := by omega
      cases hi with
      | true =>
        rw [if_pos rfl] at ih ⊢
        have hm : targ (kW L) (kH L) (kA L) (k : Int) (tB L x true k (movesF ((tF L).getD k zeroF)).length) = tT L x ↔ (T : Int) ∈ TG (kW L) (kH L) (kA L) (tF L) k := by
          rw [TG_mem hb hc, ← hT]
          exact best_hi (by omega)
        have hg := addTo_get (x := hiI ((tC L).getD k zeroC)) (ps := mayTo (kW L) (kH L) (kA L) (tF L) (tC L) k) (T := T) (TG_lt (w := kW L) (h := kH L) (a := kA L) (l := tF L) (k := k)) (fun s hs => by rw [mayTo_len]; exact TG_bd hb hs)
        rw [e1, hg]
        by_cases q : (T : Int) ∈ TG (kW L) (kH L) (kA L) (tF L) k
        · have h1 := hiff.2 (hm.2 q)
          rw [if_pos q, if_pos h1, ← h1, ih]; rfl
        · rw [if_neg q, if_neg (fun h => q (hm.1 (hiff.1 h)))]; exact ih
      | false =>
        rw [if_neg Bool.false_ne_true] at ih ⊢
        have hne : TG (kW L) (kH L) (kA L) (tF L) k ≠ [] := fun q => by
          have := (TG_mem (a := kA L) (l := tF L) hb hc (t := targ (kW L) (kH L) (kA L) (k : Int) ((movesF ((tF L).getD k zeroF)).getD 0 zeroM))).2 ⟨_, getD_mem (by omega), rfl⟩
          rw [q] at this; cases this
        have hm : targ (kW L) (kH L) (kA L) (k : Int) (tB L x false k (movesF ((tF L).getD k zeroF)).length) = tT L x ↔ (TG (kW L) (kH L) (kA L) (tF L) k).length = 1 ∧ (TG (kW L) (kH L) (kA L) (tF L) k).getD 0 0 = tT L x := by
          rw [← one_TG TG_lt hne]
          refine (best_lo (by omega)).trans ⟨fun h s hs => ?_, fun h m hm => ?_⟩
          · obtain ⟨m, h1, h2⟩ := (TG_mem hb hc).1 hs
            rw [← h2]; exact h m h1
          · exact h _ ((TG_mem hb hc).2 ⟨m, hm, rfl⟩)
        rw [e2]
        by_cases q : (TG (kW L) (kH L) (kA L) (tF L) k).length = 1
        · rw [if_pos q]
          have hmem : (TG (kW L) (kH L) (kA L) (tF L) k).getD 0 0 ∈ TG (kW L) (kH L) (kA L) (tF L) k := getD_mem (by omega)
          have hbd := TG_bd hb hmem
          have hg : (addAt (mustTo (kW L) (kH L) (kA L) (tF L) (tC L) k) ((TG (kW L) (kH L) (kA L) (tF L) k).getD 0 0) (loI ((tC L).getD k zeroC))).getD T zeroP = if T = Int.toNat ((TG (kW L) (kH L) (kA L) (tF L) k).getD 0 0) then addP ((mustTo (kW L) (kH L) (kA L) (tF L) (tC L) k).getD (Int.toNat ((TG (kW L) (kH L) (kA L) (tF L) k).getD 0 0)) zeroP) (loI ((tC L).getD k zeroC)) else (mustTo (kW L) (kH L) (kA L) (tF L) (tC L) k).getD T zeroP := getD_set (by rw [mustTo_len]; omega)
          rw [hg]
          by_cases q2 : T = Int.toNat ((TG (kW L) (kH L) (kA L) (tF L) k).getD 0 0)
          · have h1 := hiff.2 (hm.2 ⟨q, by omega⟩)
            rw [if_pos q2, if_pos h1, ← h1, ← q2, ih]; rfl
          · rw [if_neg q2, if_neg (fun h => q2 (by have := (hm.1 (hiff.1 h)).2; omega))]; exact ih
        · rw [if_neg q, if_neg (fun h => q (hm.1 (hiff.1 h)).1)]; exact ih
theorem tight (L : List Int) (x : Int) (hi : Bool) {T : Nat} (hT : tT L x = (T : Int)) (hTn : T < (kA L).length) : (tD L x hi).getD T zeroI = corI hi ((tS L).getD T zeroC) := by
  obtain ⟨c1, c2⟩ := tC_ok L
  have hl : (tI L hi (tC L).length).length = (tC L).length := tabP_len _ _
  have e1 : (tD L x hi).getD T zeroI = tellP ((plTo (kW L) (kH L) (kA L) (tI L hi (tC L).length) (tM L x hi (tC L).length) (tC L).length).getD T zeroP) := by
    unfold tD driftI
    rw [hl]; exact getD_map (by rw [plTo_len]; exact hTn)
  have e2 : (tS L).getD T zeroC = stepC (kW L) (kH L) (kA L) (tF L) (tC L) T := tabP_get hTn
  rw [e1, tight_at L x hi hT hTn (Nat.le_refl _), e2]
  cases hi <;> rfl
end
end Go.Proofs.Ytkkgnalgmebfjaa
/- DriftTight returns true. No condition. -/
namespace Go.Proofs.Ytkkgnalgmebfjaa
open Go Go.K
set_option maxRecDepth 100000
set_option linter.unusedVariables false
set_option linter.unusedSimpArgs false
noncomputable section
attribute [local irreducible] vF
theorem kcorner (c : Cell) (hi : Bool) (H : Heap) : KCall prog F.polynyalaw02_corner [cellV c, .bool hi] H [] (Is (iceV (corI hi c)) H) := by
  refine valK 40 (fun _ => rfl) rfl (Eq.mpr (Ecorner _ c hi) ?_) H
  unfold Rcorner
  cases hi <;> simp [corI, hiI, loI]
theorem klTarget {w h : Int} {a : List Bool} {c : Int} {m : Move} (b : BasOk w h a.length) (hc : 0 ≤ c ∧ c < w * h) (hm : mvOk m) {H : Heap} {id : Nat} {own : Bool} {z : Nat} (hid : H[id]? = some (.cells own z (a.flatMap boolC))) :
    KCall prog F.polynyalaw02_target [basV w h id a.length, .int .i64 c, moveV m] H [] (Is (.int .i64 (targ w h a c m)) H) := by
  refine valR (css := [a.flatMap boolC]) (v := .int .i64 (targ w h a c m)) (Eq.mpr (ElTarget _ w h a c m) ?_) (one_cs (plainBL 0 a)) rfl [id] rfl (one_id hid)
  unfold RlTarget
  have e1 := targ_1 (w := w) (h := h) (a := a) (c := c) (m := m)
  have e0 := targ_0 (w := w) (h := h) (a := a) (c := c) (m := m)
  unfold tgIn at e0 e1
  obtain ⟨⟨m1, m2⟩, m3, m4⟩ := hm
  obtain ⟨d1, d2⟩ := divmod b hc
  obtain ⟨b1, b2, b3, b4⟩ := b
  have cb := cellbd (w := w) (h := h) (x := Int.tmod c w + m.dx) (y := Int.tdiv c w + m.dy)
  have hx : -2 ≤ Int.tmod c w + m.dx ∧ Int.tmod c w + m.dx ≤ 66 := by omega
  have hy : -2 ≤ Int.tdiv c w + m.dy ∧ Int.tdiv c w + m.dy ≤ 66 := by omega
  have hy2 : 0 ≤ Int.tdiv c w ∧ Int.tdiv c w ≤ 64 := by omega
  generalize targ w h a c m = T at e0 e1 ⊢
  generalize Int.tmod c w + m.dx = X at *
  generalize Int.tdiv c w + m.dy = Y at *
  generalize Y * w = P at *
  generalize w * h = Q at *
  repeat' first | (exact iEq (e0 (fun k => by omega)).symm) | refine ⟨_, rfl, ?_⟩ | (refine ⟨fun hb => iEq (e0 fun k => Bool.false_ne_true (k.2.2.symm.trans hb)).symm, fun hb => ?_⟩) | (exact boolAt (by omega) (by omega)) | (exact iEq (e1 ⟨by omega, by omega, hb⟩).symm) | omega | exact trivial | exact rfl | exact wk_refl _ | refine wkO_cells ?_ | refine wks_cons ?_ ?_ | exact wks_nil | exact wk_nil _ _ _ (.inl rfl) | (exact wk_Q (by omega)) | refine wk_tupL ?_ | refine wk_aggL ?_ | refine joinMax ?_ ?_ ?_ | refine joinMin ?_ ?_ ?_ | refine toMax ?_ | refine toMin ?_ | refine ⟨rfl, ?_⟩ | refine ⟨trivial, ?_⟩ | (refine forkD (fun h => ?_) (fun h => ?_)) | (refine forkNe (fun h => ?_) (fun h => ?_)) | (refine forkEq (fun h => ?_) (fun h => ?_)) | refine forkNot ?_ | (refine ⟨vI64 (by omega), ?_⟩) | (refine And.intro (by omega) ?_) | apply And.intro | (exact iEq (by omega)) | (exact vI64 (by omega))
theorem partIceN {l : List Ice} {k : Nat} (h : k < l.length) {off : Nat} (ho : off = 0 + k * 4) : partA 4 (l.flatMap iceC) off = some (.agg ⟨iceC (l.getD k zeroI)⟩) := part_at (n := 4) (d := zeroI) (c := 0) iceC_len h (by omega) (by omega)
theorem partCellN {l : List Cell} {k : Nat} (h : k < l.length) {off : Nat} (ho : off = 0 + k * 8) : partA 8 (l.flatMap cellC) off = some (.agg ⟨cellC (l.getD k zeroC)⟩) := part_at (n := 8) (d := zeroC) (c := 0) cellC_len h (by omega) (by omega)
theorem tm_bd (L : List Int) (x : Int) : 0 ≤ tT L x ∧ tT L x < (((kA L).length : Nat) : Int) := by
  have h1 := watA_len L 0
  have h2 := wat_prod L 0
  have e : ((kA L).length : Int) = watW L 0 * watH L 0 := h1
  unfold tT
  exact ⟨Int.emod_nonneg _ (by omega), Int.emod_lt_of_pos _ (by omega)⟩
set_option maxHeartbeats 2000000 in
theorem kTight (L : List Int) (x : Int) (hi : Bool) (H : Heap) : KCall prog F.polynyalaw02_DriftTight [.iface (L.length + 1) (.agg ⟨L.flatMap intC⟩), .int .i64 x, .bool hi] H [] (Is (.bool true) H) := by
  refine valK 40 (fun σ => ?_) rfl (Eq.mpr (ETightLaw (.bool true) L x hi) ?_) H
  · have := (rnCl (σ := σ) (d := 2) (l := [.iface (L.length + 1) (.agg ⟨L.flatMap intC⟩), .int .i64 x, .bool hi]) (by
      show ((L.flatMap intC).all (belowD 0) && (true && (true && true))) = true
      rw [all_belowD]; rfl)).1
    exact this
  unfold RTightLaw
  obtain ⟨⟨b1, b2⟩, b3, b4⟩ := k_bd L
  obtain ⟨u1, u2, u3⟩ := t_bd L
  obtain ⟨x1, x2⟩ := kX_ok L
  obtain ⟨f1, f2⟩ := tF_ok L
  obtain ⟨c1, c2⟩ := tC_ok L
  have hb := kB_ok L
  have hn := hb.n1
  have hp := hb.p1
  have hw := hb.w1
  have hh := hb.h1
  have htm := tm_bd L x
  have hS : (tS L).length = (kA L).length := tabP_len _ _
  have hD : (tD L x hi).length = (kA L).length := by unfold tD driftI; rw [List.length_map, plTo_len]
  have hA1 : 1 ≤ (kA L).length := by omega
  have hS0 := tStep_0 L
  refine ⟨⟨rfl, trivial⟩, fun H' hl hd => kWaters L 0 (by omega) hl hd.1, ⟨rfl, rfl, trivial⟩, fun H' hl hd => (kField L (k1 L) (by omega) (kW L) (kH L) (kA L) (by omega) hl hd.1 hd.2.1 (by decide)).wkA ⟨wk_refl _, wk_aggL ⟨wk_refl _, wk_refl _, wk_QR, trivial⟩, trivial⟩,
    ⟨rfl, rfl, rfl, trivial⟩, fun H' hl hd => (kHolding L (k2 L) (by omega) (kW L) (kH L) (kA L) (kX L) x1 (by omega) (fun k hk => x2 k (by omega)) hl hd.1 hd.2.1 hd.2.2.1 (by decide)).wkA ⟨wk_refl _, wk_aggL ⟨wk_refl _, wk_refl _, wk_QR, trivial⟩, wk_QR, trivial⟩,
    ⟨rfl, rfl, trivial⟩, fun H' hl hd => (kCurrents L (t3 L) (by omega) (kW L) (kH L) (kA L) (by omega) hl hd.1 hd.2.1 (by decide)).wkA ⟨wk_refl _, wk_aggL ⟨wk_refl _, wk_refl _, wk_QR, trivial⟩, trivial⟩,
    trivial, fun H' _ _ => kPick _ _ (by omega) (by omega) H', ⟨rfl, rfl, rfl, trivial⟩, fun H' hl hd => ?_, ?_⟩
  · have := kStep (kW L) (kH L) (kA L) (tF L) (by omega) (kW L) (kH L) (tHr L) (tC L) hl hd.1 hd.2.1 hd.2.2.1
    rw [hS0] at this
    exact this.wkA ⟨wk_aggL ⟨wk_refl _, wk_refl _, wk_QR, trivial⟩, wk_QR, wk_aggL ⟨wk_refl _, wk_refl _, wk_refl _, wk_QR, trivial⟩, trivial⟩
  refine forkNe (fun q => absurd rfl q) (fun _ => forkNe (fun q => absurd (by omega) q) (fun _ => ⟨rfl, Nat.zero_le _, ?_, fun _ => rfl, ?_⟩))
  · repeat' first | exact plainXL _ _ | exact plainML _ _ | exact trivial | exact rfl | exact wk_refl _ | refine wkO_cells ?_ | refine wks_cons ?_ ?_ | exact wks_nil | exact wk_nil _ _ _ (.inl rfl) | (exact wk_Q (by omega)) | refine wk_tupL ?_ | refine wk_aggL ?_ | refine joinMax ?_ ?_ ?_ | refine joinMin ?_ ?_ ?_ | refine toMax ?_ | refine toMin ?_ | refine ⟨rfl, ?_⟩ | refine ⟨trivial, ?_⟩ | (refine forkD (fun h => ?_) (fun h => ?_)) | (refine forkNe (fun h => ?_) (fun h => ?_)) | (refine forkEq (fun h => ?_) (fun h => ?_)) | refine forkNot ?_ | (refine ⟨vI64 (by omega), ?_⟩) | (refine And.intro (by omega) ?_) | apply And.intro | (exact iEq (by omega)) | (exact vI64 (by omega))
  intro y hy
  have l1 : (tI L hi y).length = y := tabP_len _ _
  have l2 : (tM L x hi y).length = y := tabP_len _ _
  refine forkD (fun k => ?_) (fun k => ?_)
  · have hyy : y < (tC L).length := by omega
    have hr := f2 _ (getD_mem (d := zeroF) (show y < (tF L).length by omega))
    have hmb := movesF_bd hr
    have hM0 := fMoves_0 hr
    have c1' := flat_le iceC_len (tI L hi y)
    have c2' := flat_le moveC_len (tM L x hi y)
    have b1 := ob_snoc (own := true) iceC_len (L := tI L hi y) (M := tI L hi (y + 1)) (tabP_succ _ _) rfl
    have b2 := ob_snoc (own := true) moveC_len (L := tM L x hi y) (M := tM L x hi (y + 1)) (tabP_succ _ _) rfl
    rw [l1] at c1' b1
    rw [l2] at c2' b2
    refine ⟨by omega, partCell hyy, trivial, fun H' _ _ => kcorner _ _ H', ⟨by omega, by decide, ⟨Nat.le_refl _, c1'⟩, ⟨Nat.le_refl _, Nat.le_refl _⟩, rfl⟩, rfl, by omega, partFlow (by omega), trivial, fun H' hl _ => ?_, bEq rfl, forkEq (fun q => (show False by omega).elim) (fun _ => ⟨by omega, part_at (n := 2) (d := zeroM) (c := 0) (k := 0) moveC_len (by omega) rfl (by omega), rfl, Nat.zero_le _, ?_, fun _ => rfl, ?_⟩)⟩
    · have := kMoves ((tF L).getD y zeroF) hl
      rw [hM0] at this; exact this
    · repeat' first | exact trivial | exact rfl | exact wk_refl _ | refine wkO_cells ?_ | refine wks_cons ?_ ?_ | exact wks_nil | exact wk_nil _ _ _ (.inl rfl) | (exact wk_Q (by omega)) | refine wk_tupL ?_ | refine wk_aggL ?_ | refine joinMax ?_ ?_ ?_ | refine joinMin ?_ ?_ ?_ | refine toMax ?_ | refine toMin ?_ | refine ⟨rfl, ?_⟩ | refine ⟨trivial, ?_⟩ | (refine forkD (fun h => ?_) (fun h => ?_)) | (refine forkNe (fun h => ?_) (fun h => ?_)) | (refine forkEq (fun h => ?_) (fun h => ?_)) | refine forkNot ?_ | (refine ⟨vI64 (by omega), ?_⟩) | (refine And.intro (by omega) ?_) | apply And.intro | (exact iEq (by omega)) | (exact vI64 (by omega))
    intro j hj
    refine forkD (fun k6 => ?_) (fun k6 => ?_)
    · have hmo := moves_ok hr (x := j) (by omega)
      have hcc : 0 ≤ (y : Int) ∧ (y : Int) < kW L * kH L := by omega
      refine ⟨by omega, partMove (by omega), ⟨rfl, trivial⟩, fun H' _ hd => (klTarget hb hcc hmo hd.1).wkA ⟨wk_aggL ⟨wk_refl _, wk_refl _, wk_QR, trivial⟩, wk_refl _, wk_refl _, trivial⟩, fun q => ⟨by omega, partMove (by omega), vI64 (by omega), j + 1, by omega, by omega, rfl, ?_⟩, fun q => ⟨vI64 (by omega), j + 1, by omega, by omega, rfl, ?_⟩⟩
      · have e : tB L x hi y (j + 1) = (movesF ((tF L).getD y zeroF)).getD j zeroM := if_pos q
        rw [e]
        repeat' first | exact trivial | exact rfl | exact wk_refl _ | refine wkO_cells ?_ | refine wks_cons ?_ ?_ | exact wks_nil | exact wk_nil _ _ _ (.inl rfl) | (exact wk_Q (by omega)) | refine wk_tupL ?_ | refine wk_aggL ?_ | refine joinMax ?_ ?_ ?_ | refine joinMin ?_ ?_ ?_ | refine toMax ?_ | refine toMin ?_ | refine ⟨rfl, ?_⟩ | refine ⟨trivial, ?_⟩ | (refine forkD (fun h => ?_) (fun h => ?_)) | (refine forkNe (fun h => ?_) (fun h => ?_)) | (refine forkEq (fun h => ?_) (fun h => ?_)) | refine forkNot ?_ | (refine ⟨vI64 (by omega), ?_⟩) | (refine And.intro (by omega) ?_) | apply And.intro | (exact iEq (by omega)) | (exact vI64 (by omega))
      · have e : tB L x hi y (j + 1) = tB L x hi y j := if_neg (by rw [q]; exact Bool.false_ne_true)
        rw [e]
        repeat' first | exact trivial | exact rfl | exact wk_refl _ | refine wkO_cells ?_ | refine wks_cons ?_ ?_ | exact wks_nil | exact wk_nil _ _ _ (.inl rfl) | (exact wk_Q (by omega)) | refine wk_tupL ?_ | refine wk_aggL ?_ | refine joinMax ?_ ?_ ?_ | refine joinMin ?_ ?_ ?_ | refine toMax ?_ | refine toMin ?_ | refine ⟨rfl, ?_⟩ | refine ⟨trivial, ?_⟩ | (refine forkD (fun h => ?_) (fun h => ?_)) | (refine forkNe (fun h => ?_) (fun h => ?_)) | (refine forkEq (fun h => ?_) (fun h => ?_)) | refine forkNot ?_ | (refine ⟨vI64 (by omega), ?_⟩) | (refine And.intro (by omega) ?_) | apply And.intro | (exact iEq (by omega)) | (exact vI64 (by omega))
    · obtain rfl : j = (movesF ((tF L).getD y zeroF)).length := by omega
      refine ⟨⟨by omega, by decide, ⟨Nat.le_refl _, c2'⟩, ⟨Nat.le_refl _, Nat.le_refl _⟩, rfl⟩, rfl, vI64 (by omega), y + 1, by omega, by omega, rfl, ?_⟩
      repeat' first | exact b1 | exact b2 | exact plainXL _ _ | exact plainML _ _ | exact c1' | exact c2' | exact Nat.le_refl _ | exact trivial | exact rfl | exact wk_refl _ | refine wkO_cells ?_ | refine wks_cons ?_ ?_ | exact wks_nil | exact wk_nil _ _ _ (.inl rfl) | (exact wk_Q (by omega)) | refine wk_tupL ?_ | refine wk_aggL ?_ | refine joinMax ?_ ?_ ?_ | refine joinMin ?_ ?_ ?_ | refine toMax ?_ | refine toMin ?_ | refine ⟨rfl, ?_⟩ | refine ⟨trivial, ?_⟩ | (refine forkD (fun h => ?_) (fun h => ?_)) | (refine forkNe (fun h => ?_) (fun h => ?_)) | (refine forkEq (fun h => ?_) (fun h => ?_)) | refine forkNot ?_ | (refine ⟨vI64 (by omega), ?_⟩) | (refine And.intro (by omega) ?_) | apply And.intro | (exact iEq (by omega)) | (exact vI64 (by omega))
  · obtain rfl : y = (tC L).length := by omega
    refine ⟨⟨rfl, rfl, rfl, rfl, trivial⟩, fun H' hl hd => ?_, forkEq (fun _ => forkEq (fun _ => ?_) (fun q => (show False by omega).elim)) (fun q => absurd rfl q)⟩
    · have := kDrift (kW L) (kH L) (kA L) (tF L) (tI L hi (tC L).length) (tM L x hi (tC L).length) (by omega) (by omega) hl hd.1 hd.2.1 hd.2.2.1 hd.2.2.2.1
      rw [tDr_0 L x hi, l1, l2] at this
      exact this.wkA ⟨wk_aggL ⟨wk_refl _, wk_refl _, wk_QR, trivial⟩, wk_QR, wk_QR, wk_QR, trivial⟩
    · have ht := tight L x hi (T := Int.toNat (tT L x)) (by omega) (by omega)
      refine ⟨by omega, partIceN (k := Int.toNat (tT L x)) (by omega) rfl, by omega, partCellN (k := Int.toNat (tT L x)) (by omega) rfl, trivial, fun H' _ _ => kcorner _ _ H', ?_⟩
      generalize (tD L x hi).getD (Int.toNat (tT L x)) zeroI = A at ht ⊢
      subst ht
      refine ⟨fun _ => ⟨trivial, fun H' _ _ => kAwake H', rfl⟩, fun q => ?_⟩
      simp at q
end
end Go.Proofs.Ytkkgnalgmebfjaa
/- How laws' arguments are read. No condition. -/
namespace Go.Proofs.Ytkkgnalgmebfjaa
set_option linter.unusedSimpArgs false
open Go Go.K Go.ChangeShapes Go.WideShapes Go.ChangeAt Go.RowKit
set_option maxRecDepth 100000
set_option linter.unusedVariables false
noncomputable section
theorem own : ownKnob Try.prog.godebug = none := by kernel_rfl
theorem sized : slicesSized Try.prog = true := by kernel_rfl
abbrev known (t : TypeId) : Prop := t < Try.prog.types.size
theorem kids : Kids Try.prog known := kids_rows (by kernel_rfl) (by kernel_rfl)
end
end Go.Proofs.Ytkkgnalgmebfjaa
/- Arguments that are read: lists within lists by their values. No condition. -/
namespace Go.K
set_option linter.unusedSimpArgs false
open Go Go.RowKit Go.ChangeAt Go.WideShapes
set_option linter.unusedVariables false
variable {P : Program} {HH : Type} {enc : TypeId × Value → HH}

/-- Plain cells, whose lists are said by their values. -/
def GoodD (P : Program) : Nat → TypeId → List Value → Prop
  | 0, _, _ => False
  | n + 1, t, cs => match P.underlying t with
    | some .bool => ∃ b, cs = [.bool b]
    | some (.int k) => ∃ x, cs = [.int k x] ∧ k.min ≤ x ∧ x ≤ k.max
    | some .string => ∃ s, cs = [.string s]
    | some (.struct fs) => GoodL (GoodD P n) (fs.toList.map (·.type)) cs
    | some (.slice e) => ∃ len ds, cs = [.iface (len + 1) (.agg ⟨ds⟩)] ∧ ds.length = len * P.cellsOf e ∧ len ≤ maxLen ∧ GoodL (GoodD P n) (List.replicate len e) ds
    | _ => False
/-- Plain cells, whose lists lie in blocks, and the lists within these are said by their values. -/
def Good2 (P : Program) (H : Heap) : Nat → TypeId → List Value → Prop
  | 0, _, _ => False
  | n + 1, t, cs => match P.underlying t with
    | some .bool => ∃ b, cs = [.bool b]
    | some (.int k) => ∃ x, cs = [.int k x] ∧ k.min ≤ x ∧ x ≤ k.max
    | some .string => ∃ s, cs = [.string s]
    | some (.struct fs) => GoodL (Good2 P H n) (fs.toList.map (·.type)) cs
    | some (.slice e) => cs = [.slice none 0 0] ∨ cs = [.slice (some ⟨0, 0, some 0⟩) 0 0] ∨
        ∃ id len ds, cs = [.slice (some ⟨id, 0, none⟩) len len] ∧ H[id]? = some (.cells false 0 ds) ∧ ds.length = len * P.cellsOf e ∧ len ≤ maxLen ∧ GoodL (GoodD P n) (List.replicate len e) ds
    | _ => False
theorem Good2.mono {H K : Heap} : ∀ {n : Nat} {t : TypeId} {cs : List Value}, Good2 P H n t cs → Good2 P (H ++ K) n t cs := by
  intro n
  induction n with
  | zero => intro t cs h; exact h
  | succ n ih =>
    intro t cs h
    unfold Good2 at h ⊢
    split at h
    · exact h
    · exact h
    · exact h
    · exact GoodL.mono (fun _ _ => ih) h
    · rcases h with h | h | ⟨id, len, cs', h1, h2, h3, h4, h5⟩
      · exact .inl h
      · exact .inr (.inl h)
      · exact .inr (.inr ⟨id, len, cs', h1, by rw [List.getElem?_append_left (List.getElem?_eq_some_iff.1 h2).1]; exact h2, h3, h4, h5⟩)
    · exact h
/-- Nobody writes below B: what lies there is known. -/
def Low (B : Nat) (ρ : Ren) (W : World) : Prop := (∀ b m ty fz, b < B → W.heap[b]? = some (.cells m ty fz) → ρ.mem b = some m) ∧ ∀ id r, ρ id = some r → r.b < B

theorem deepenL {B : Nat} {ρ : Ren} {H : Heap} {W : World} {n : Nat} (IH : ∀ (t : TypeId) (cs cs' : List Value), Good P H n t cs → VRl ρ cs cs' → ∃ ds, VRl ρ ds cs' ∧ GoodD P n t ds) :
    ∀ (ts : List TypeId) (cs cs' : List Value), GoodL (Good P H n) ts cs → VRl ρ cs cs' → ∃ ds, VRl ρ ds cs' ∧ GoodL (GoodD P n) ts ds := by
  intro ts
  induction ts with
  | nil => intro cs cs' h hv; rw [show cs = [] from h] at hv; exact ⟨[], hv, rfl⟩
  | cons t ts ih =>
    rintro cs cs' ⟨c, rest, rfl, h1, h2⟩ hv
    have hl : (c ++ rest).length = cs'.length := hv.1
    rw [List.length_append] at hl
    have v1 : VRl ρ c (cs'.take c.length) := ⟨by rw [List.length_take]; omega, fun i v v' a b => by
      have hi := (List.getElem?_eq_some_iff.1 a).1
      rw [List.getElem?_take, if_pos hi] at b
      exact hv.2 i v v' (by rw [List.getElem?_append_left hi]; exact a) b⟩
    have v2 : VRl ρ rest (cs'.drop c.length) := ⟨by rw [List.length_drop]; omega, fun i v v' a b => by
      rw [List.getElem?_drop] at b
      exact hv.2 (c.length + i) v v' (by rw [List.getElem?_append_right (by omega), Nat.add_sub_cancel_left]; exact a) b⟩
    obtain ⟨d1, w1, g1⟩ := IH t c _ h1 v1
    obtain ⟨d2, w2, g2⟩ := ih rest _ h2 v2
    refine ⟨d1 ++ d2, ?_, d1, d2, rfl, g1, g2⟩
    have := VRl.append w1 w2
    rw [List.take_append_drop] at this
    exact this
theorem row_reals {ρ : Ren} {r : RI} {cs : List Value} {W : World} (h : ObjRel ρ r (.cells false 0 cs) W) : ∃ m ty fz, W.heap[r.b]? = some (.cells m ty fz) ∧ (cs.length = 0 ∨ cs.length + r.s ≤ m.size) ∧ VRl ρ cs ((m.toList.drop r.s).take cs.length) ∧ m.size = r.n := by
  obtain ⟨_, _, m, ty, fz, hb, hsz, _, hcs⟩ := h
  have hle : cs.length = 0 ∨ cs.length + r.s ≤ m.size := by
    rcases Nat.eq_zero_or_pos cs.length with h0 | h0
    · exact .inl h0
    · right
      obtain ⟨v', g1, _⟩ := hcs (cs.length - 1) _ (List.getElem?_eq_getElem (by omega))
      have := (Array.getElem?_eq_some_iff.1 g1).1
      omega
  refine ⟨m, ty, fz, hb, hle, ⟨?_, fun i v v' a b => ?_⟩, hsz⟩
  · have e : m.toList.length = m.size := Array.length_toList
    rw [List.length_take, List.length_drop, e]
    rcases hle with h | h <;> omega
  · obtain ⟨v2, g1, g2⟩ := hcs i v a
    have hi := (List.getElem?_eq_some_iff.1 a).1
    rw [List.getElem?_take, if_pos hi, List.getElem?_drop, Array.getElem?_toList, Nat.add_comm, g1] at b
    cases b; exact g2
theorem deepen {B : Nat} {ρ : Ren} {H : Heap} {W : World} (hr : Rel P B ρ H W) (hlow : Low B ρ W) : ∀ (n : Nat) (t : TypeId) (cs cs' : List Value), Good P H n t cs → VRl ρ cs cs' → ∃ ds, VRl ρ ds cs' ∧ GoodD P n t ds := by
  intro n
  induction n with
  | zero => intro t cs cs' h; exact h.elim
  | succ n ih =>
    intro t cs cs' h hv
    have single : ∀ v, cs = [v] → ∃ x, cs' = [x] ∧ VR ρ v x := by
      rintro v rfl
      have hl : cs'.length = 1 := hv.1.symm
      obtain ⟨x, rfl⟩ := List.length_eq_one_iff.1 hl
      exact ⟨x, rfl, hv.2 0 v x rfl rfl⟩
    unfold Good at h
    split at h
    · rename_i hu; exact ⟨cs, hv, by unfold GoodD; rw [hu]; exact h⟩
    · rename_i k hu; exact ⟨cs, hv, by unfold GoodD; rw [hu]; exact h⟩
    · rename_i hu; exact ⟨cs, hv, by unfold GoodD; rw [hu]; exact h⟩
    · rename_i fs hu
      obtain ⟨ds, w, g⟩ := deepenL (B := B) (W := W) ih _ cs cs' h hv
      exact ⟨ds, w, by unfold GoodD; rw [hu]; exact g⟩
    · rename_i e hu
      have nilD : ∀ x, (∃ a c, x = .slice a 0 c) → ∃ ds, VRl ρ ds [x] ∧ GoodD P (n + 1) t ds := by
        rintro x ⟨a, c, rfl⟩
        refine ⟨[.iface 1 (.agg ⟨[]⟩)], .cons .deep0 (.nil ρ), ?_⟩
        unfold GoodD
        rw [hu]
        exact ⟨0, [], rfl, by simp, by simp [maxLen], rfl⟩
      rcases h with h | h | ⟨id, len, csi, h1, h2, h3, h4, h5⟩
      · obtain ⟨x, rfl, hx⟩ := single _ h
        cases hx; exact nilD _ ⟨_, _, rfl⟩
      · obtain ⟨x, rfl, hx⟩ := single _ h
        refine nilD _ ?_
        generalize hz : (Value.slice (some ⟨0, 0, some 0⟩) 0 0) = z at hx
        cases hx <;> cases hz
        exact ⟨_, _, rfl⟩
      · obtain ⟨x, rfl, hx⟩ := single _ h1
        rcases Nat.eq_zero_or_pos len with h0 | h0
        · subst h0
          refine nilD _ ?_
          cases hx with
          | slice h hl hc _ => exact ⟨_, _, rfl⟩
          | slice0 h => exact ⟨_, _, rfl⟩
        · obtain ⟨r, cap', hid, hc, rfl⟩ : ∃ r cap', ρ id = some r ∧ len ≤ cap' ∧ x = .slice (some ⟨r.b, 0 + r.s, none⟩) len cap' := by
            generalize hz : (Value.slice (some ⟨id, 0, none⟩) len len) = z at hx
            cases hx <;> cases hz
            · exact ⟨_, _, ‹_›, by omega, rfl⟩
            · exact absurd h0 (Nat.lt_irrefl 0)
          obtain ⟨m, ty, fz, hb, hle, hvr, _⟩ := row_reals (hr.obj id r _ hid h2)
          have hm := hlow.1 r.b m ty fz (hlow.2 id r hid) hb
          obtain ⟨ds, w, g⟩ := deepenL (B := B) (W := W) ih _ csi _ h5 hvr
          have hdl : ds.length = csi.length := by
            have e1 := w.1
            have e2 := hvr.1
            omega
          refine ⟨[.iface (len + 1) (.agg ⟨ds⟩)], .cons ?_ (.nil ρ), ?_⟩
          · rw [Nat.zero_add]
            refine .deep hm h0 hc (by show ds.length = 0 ∨ ds.length + r.s ≤ m.size; rw [hdl]; exact hle) (fun i v v' a b => ?_)
            have hi : i < ds.length := by have := (Array.getElem?_eq_some_iff.1 a).1; simpa using this
            refine w.2 i v v' (by simpa using a) ?_
            rw [List.getElem?_take, if_pos (by omega), List.getElem?_drop, Array.getElem?_toList, Nat.add_comm]; exact b
          · unfold GoodD
            rw [hu]
            exact ⟨len, ds, rfl, by rw [hdl]; exact h3, h4, g⟩
    · exact h.elim
theorem Low.set {B : Nat} {ρ : Ren} {W : World} (h : Low B ρ W) {id : Nat} {ri : RI} (hb : ri.b < B) : Low B (ρ.set id ri) W := by
  refine ⟨h.1, fun i r hi => ?_⟩
  by_cases e : i = id
  · subst e; rw [Ren.set_same] at hi; cases hi; exact hb
  · rw [Ren.set_other e] at hi; exact h.2 i r hi
def GoodV2 (P : Program) (H : Heap) (n : Nat) (t : TypeId) (v : Value) : Prop :=
  match P.underlying t with
  | some (.struct _) => ∃ cs : List Value, v = .agg ⟨cs⟩ ∧ Good2 P H n t cs
  | _ => Good2 P H n t [v]
theorem GoodV2.mono {H K : Heap} {n : Nat} {t : TypeId} {v : Value} (h : GoodV2 P H n t v) : GoodV2 P (H ++ K) n t v := by
  unfold GoodV2 at h ⊢
  split at h
  · obtain ⟨cs, h1, h2⟩ := h; exact ⟨cs, h1, h2.mono⟩
  · exact h.mono
end Go.K
/- Laws whose arguments are said by their values. No condition. -/
namespace Go.K
set_option linter.unusedSimpArgs false
open Go Go.ChangeShapes Go.WideShapes Go.ChangeAt Go.RowKit
set_option linter.unusedVariables false
variable {P : Program} {HH : Type} {enc : TypeId × Value → HH}

def GoodVD (P : Program) (n : Nat) (t : TypeId) (v : Value) : Prop :=
  match P.underlying t with
  | some (.struct _) => ∃ cs : List Value, v = .agg ⟨cs⟩ ∧ GoodD P n t cs
  | _ => GoodD P n t [v]
def GoodAD (P : Program) (n : Nat) : List TypeId → List Value → Prop
  | [], [] => True
  | t :: ts, v :: vs => GoodVD P n t v ∧ GoodAD P n ts vs
  | _, _ => False
theorem bringVD {B : Nat} {W : World} {n : Nat} {t : TypeId} {v v' : Value} {ρ : Ren} {H : Heap} (h : GoodV P H n t v) (hv : VR ρ v v') (hr : Rel P B ρ H W) (hlow : Low B ρ W) : ∃ v2, VR ρ v2 v' ∧ GoodVD P n t v2 := by
  unfold GoodV at h
  split at h
  · rename_i fs hu
    obtain ⟨cs, rfl, h⟩ := h
    cases hv with
    | @agg _ cs' h1 h2 =>
      obtain ⟨ds, w, g⟩ := deepen hr hlow n t cs cs'.toList h ⟨by simpa using h1, fun i a b c d => h2 i a b (by simpa using c) (by simpa using d)⟩
      refine ⟨.agg ⟨ds⟩, .agg (by have := w.1; simpa using this) (fun i a b c d => w.2 i a b (by simpa using c) (by simpa using d)), ?_⟩
      unfold GoodVD; rw [hu]; exact ⟨ds, rfl, g⟩
  · rename_i hns
    obtain ⟨ds, w, g⟩ := deepen hr hlow n t [v] [v'] h (.cons hv (.nil ρ))
    have hl : ds.length = 1 := w.1
    obtain ⟨v2, rfl⟩ := List.length_eq_one_iff.1 hl
    refine ⟨v2, w.2 0 v2 v' rfl rfl, ?_⟩
    unfold GoodVD
    split
    · rename_i fs hu; exact absurd hu (hns fs)
    · exact g
theorem bringAD {B : Nat} {W : World} {n : Nat} {ρ : Ren} {H : Heap} (hr : Rel P B ρ H W) (hlow : Low B ρ W) : ∀ (ts : List TypeId) (vs vs' : List Value), GoodA P H n ts vs → VRl ρ vs vs' → ∃ ws, VRl ρ ws vs' ∧ GoodAD P n ts ws := by
  intro ts
  induction ts with
  | nil =>
    intro vs vs' h hv
    match vs, h with
    | [], _ => exact ⟨[], hv, trivial⟩
  | cons t ts ih =>
    intro vs vs' h hv
    match vs, h with
    | v :: vs, ⟨h1, h2⟩ =>
      match vs', hv with
      | [], hv => exact absurd hv.1 (by simp)
      | v' :: vs', hv =>
        obtain ⟨w1, r1, g1⟩ := bringVD h1 (hv.2 0 v v' rfl rfl) hr hlow
        obtain ⟨ws, r2, g2⟩ := ih vs vs' h2 (show VRl ρ vs vs' from ⟨by have := hv.1; simpa using this, fun i a b c d => hv.2 (i + 1) a b (by simpa using c) (by simpa using d)⟩)
        exact ⟨w1 :: ws, .cons r1 r2, g1, g2⟩
/-- A law's contract in the canonical heap is its contract in every world; arguments are said by their values. -/
theorem law_calls3 {N n b0 : Nat} {ts : List TypeId} {args : Array Value} {W : World} {ds : List (DataW HH)} {ps : List MemPlace} {held : Bool} (hG : P.globals.size ≤ W.heap.size) (hplain : ts.all (plainT P n) = true)
    (hok : ∀ (j : Nat) (t : TypeId) (v : Value), ts[j]? = some t → args.toList[j]? = some v → Value.okWide P W .any b0 t v) (h : DataW.TrodAll enc P W 0 (fun _ => true) held ts args.toList ds ps)
    (hlaw : ∀ (H : Heap) (vs : List Value), GoodAD P n ts vs → KCall P N vs H [] (fun v _ => v = .bool true)) :
    Calls P N args W fun e W' => e = .returned (.bool true) ∧ RowKit.Below W.heap.size W W' := by
  have hr : Rel P W.heap.size ⟨fun g => if g < P.globals.size then some ⟨g, 0, 0, 0, false⟩ else none, fun b => match W.heap[b]? with | some (.cells m _ _) => some m | _ => none, fun _ _ => none⟩ (List.replicate P.globals.size .dead) W := by
    have hdead : ∀ (id : Nat) (o : KObj), (List.replicate P.globals.size KObj.dead)[id]? = some o → o = .dead := fun id o ho => by
      rw [List.getElem?_replicate] at ho
      split at ho
      · cases ho; rfl
      · cases ho
    refine ⟨Nat.le_refl _, fun g hg => ⟨_, if_pos hg, rfl, rfl⟩, fun id r h1 => ?_, fun id r h1 => ?_, fun id r o h1 h2 => ?_, fun id r o h1 h2 h3 => ?_, fun id id' r r' o o' h1 h1' h2 h2' h3 _ _ => ?_, fun b m hm => ⟨?_, fun id r o h1 h2 h3 => ?_⟩, FRel.nofam (fun _ _ _ h => by cases h) (fun _ _ _ h => by cases h) (fun F z cs h => by have := hdead F _ h; cases this)⟩
    · dsimp only at h1
      split at h1
      · simpa using ‹id < _›
      · cases h1
    · dsimp only at h1
      split at h1
      · cases h1; exact Nat.lt_of_lt_of_le ‹id < _› hG
      · cases h1
    · rw [hdead id o h2]; trivial
    · rw [hdead id o h2] at h3; cases h3
    · rw [hdead id o h2] at h3; cases h3
    · dsimp only at hm
      split at hm
      · rename_i m' ty fz e; cases hm; exact ⟨ty, fz, e⟩
      · cases hm
    · rw [hdead id o h2] at h3; cases h3
  have hlow0 : Low W.heap.size ⟨fun g => if g < P.globals.size then some ⟨g, 0, 0, 0, false⟩ else none, fun b => match W.heap[b]? with | some (.cells m _ _) => some m | _ => none, fun _ _ => none⟩ W := by
    refine ⟨fun b m ty fz _ hb => by show (match W.heap[b]? with | some (.cells m _ _) => some m | _ => none) = _; rw [hb], fun id r h1 => ?_⟩
    dsimp only at h1
    split at h1
    · cases h1; exact Nat.lt_of_lt_of_le ‹id < _› hG
    · cases h1
  obtain ⟨ρ', H', vs', e, hv, g⟩ := bring_args rfl ts args.toList ds ps _ _ hplain hok h hr
  have hlow1 : Low W.heap.size ρ' W := ⟨fun b m ty fz h1 h2 => e.le.mem b m (hlow0.1 b m ty fz h1 h2), fun id r h1 => e.rel.lt id r h1⟩
  obtain ⟨ws, hv2, g2⟩ := bringAD e.rel hlow1 ts vs' args.toList g hv
  refine callsIn_wide.1 (((hlaw H' ws g2).2 _ ρ' W args e.rel hv2).mono ?_)
  rintro en w' ⟨v, v', ρ3, H3, rfl, h1, h2, rfl⟩
  cases h1
  exact ⟨rfl, h2.below e.rel⟩
end Go.K
/- How laws' numbers are read. No condition. -/
namespace Go.Proofs.Ytkkgnalgmebfjaa
set_option linter.unusedSimpArgs false
open Go Go.K Go.ChangeShapes Go.WideShapes Go.ChangeAt Go.RowKit
set_option maxRecDepth 100000
set_option linter.unusedVariables false
noncomputable section
theorem goodAD_cons {n : Nat} {t : TypeId} {ts : List TypeId} {vs : List Value} (h : GoodAD Try.prog n (t :: ts) vs) : ∃ v vs', vs = v :: vs' ∧ GoodVD Try.prog n t v ∧ GoodAD Try.prog n ts vs' := by
  cases vs with
  | nil => exact h.elim
  | cons v vs => exact ⟨v, vs, rfl, h.1, h.2⟩
theorem goodAD_nil {n : Nat} {vs : List Value} (h : GoodAD Try.prog n [] vs) : vs = [] := by
  cases vs with
  | nil => rfl
  | cons v vs => exact h.elim
theorem goodD_i64 {n : Nat} {c : List Value} (h : GoodD Try.prog (n + 1) 3 c) : ∃ x : Int, c = [.int .i64 x] ∧ inI x := by
  unfold GoodD at h
  rw [show Try.prog.underlying 3 = some (.int .i64) by kernel_rfl] at h
  obtain ⟨x, rfl, h1, h2⟩ := h
  refine ⟨x, rfl, ?_⟩
  simp only [IntKind.min, IntKind.max, IntKind.signed, IntKind.bits] at h1 h2
  unfold inI
  simp at h1 h2
  omega
theorem goodD_int {v : Value} (h : GoodVD Try.prog 6 3 v) : ∃ x : Int, v = .int .i64 x ∧ inI x := by
  unfold GoodVD at h
  rw [show Try.prog.underlying 3 = some (.int .i64) by kernel_rfl] at h
  obtain ⟨x, h1, h2⟩ := goodD_i64 h
  exact ⟨x, by simpa using h1, h2⟩
theorem goodD_bool {v : Value} (h : GoodVD Try.prog 6 4 v) : ∃ b : Bool, v = .bool b := by
  unfold GoodVD at h
  rw [show Try.prog.underlying 4 = some .bool by kernel_rfl] at h
  unfold GoodD at h
  rw [show Try.prog.underlying 4 = some .bool by kernel_rfl] at h
  obtain ⟨b, h1⟩ := h
  exact ⟨b, by simpa using h1⟩
/-- A list of numbers. -/
theorem goodD_ints {v : Value} (h : GoodVD Try.prog 6 22 v) : ∃ L : List Int, v = .iface (L.length + 1) (.agg ⟨L.flatMap intC⟩) ∧ L.length ≤ maxLen ∧ ∀ x ∈ L, inI x := by
  unfold GoodVD at h
  rw [show Try.prog.underlying 22 = some (.slice 3) by kernel_rfl] at h
  unfold GoodD at h
  rw [show Try.prog.underlying 22 = some (.slice 3) by kernel_rfl] at h
  obtain ⟨len, ds, h1, h2, h3, h4⟩ := h
  obtain ⟨xs, e1, e2, e3⟩ := goodL_list (f := intC) (q := inI) (fun c hc => goodD_i64 (n := 4) hc) len ds h4
  subst e1 e2
  exact ⟨xs, by simpa using h1, h3, e3⟩
end
end Go.Proofs.Ytkkgnalgmebfjaa
