/- Drift: the examples of the chapter (awake), as a contract. No condition. -/
import Derived.Test.YtkkgnalgmebfjaaA4a
import Derived.Test.YtkkgnalgmebfjaaGG1xH1f
import Derived.Test.YtkkgnalgmebfjaaGD0xD4
import Derived.Test.YtkkgnalgmebfjaaGD5xE1a
import Derived.Test.YtkkgnalgmebfjaaGE2xG0
import Derived.Test.YtkkgnalgmebfjaaGV10xV14
import Derived.Test.YtkkgnalgmebfjaaGK27xK40
namespace Go.Proofs.Ytkkgnalgmebfjaa
set_option linter.unusedSimpArgs false
set_option linter.unusedVariables false
open Go Go.K
set_option maxRecDepth 100000
noncomputable section
attribute [local irreducible] vF
theorem kAwake (H : Heap) : KCall prog F.polynyalaw02_awake [] H [] (Is (.bool true) H) := by
  have hv : vF prog msk (dm impI) 100000 true 40 true F.polynyalaw02_awake [] ⟨0, .leaf⟩ none .auto (fun v _ _ => isTrueV v) := of_eq_true awakeRun
  have h0 := vc (P := prog) (mask := msk) (dm := dm impI) (rounds := 100000) (mixed := true) mskOk mixed 40 (f := F.polynyalaw02_awake) (args := []) (H := ⟨0, .leaf⟩) (M := none) (h := .auto) (Q := fun v _ => isTrueV v) hv
  have h1 : KCall prog F.polynyalaw02_awake [] [] [] (fun v _ => v = .bool true) := h0.post (fun v H' h => by
      cases v <;> first | exact h.elim | (rename_i b; cases b <;> first | rfl | exact h.elim))
  have h2 : KCall prog F.polynyalaw02_awake [] [] [] (Is (.bool true) []) := KCall.clean h1 rfl
  have h3 := KCall.frame (H := H) (new := []) (d := 3) (σ := fun _ => none) ⟨fun g hg => absurd hg (by rw [glob0]; exact Nat.not_lt_zero _), fun _ _ h => (by cases h), fun id h => absurd h (Nat.not_lt_zero _), fun _ _ _ h => (by cases h), fun _ _ _ h => (by cases h)⟩ h2 rfl rfl
  simpa [rn] using h3
end
end Go.Proofs.Ytkkgnalgmebfjaa
/- DriftKept returns true. No condition. -/
namespace Go.Proofs.Ytkkgnalgmebfjaa
open Go Go.K
set_option maxRecDepth 100000
set_option linter.unusedVariables false
set_option linter.unusedSimpArgs false
noncomputable section
attribute [local irreducible] vF
/-- Numbers' basin, field, flows, moves. -/
theorem k_bd (L : List Int) : ((0 ≤ k1 L ∧ k1 L ≤ 1000) ∧ (0 ≤ k2 L ∧ k2 L ≤ 2000)) ∧ (0 ≤ k3 L ∧ k3 L ≤ 3000) ∧ (kA L).length ≤ 30 := by
  have h1 := watN_bd L 0
  have h2 := watA_len L 0
  have h3 := wat_prod L 0
  obtain ⟨_, h4, _⟩ := fldL_ok L (kA L) (k1 L) (kA L).length
  obtain ⟨_, h5, _⟩ := curL_ok L (k2 L) (k2 L + 1 + 1) (kA L).length
  have e1 : k1 L = watN L 0 := rfl
  have e2 : k2 L = (fldL L (kA L) (k1 L) (kA L).length).2 := rfl
  have e3 : k3 L = (curL L (dN L (k2 L) 3001 - 1500) (dN L (k2 L + 1) 3001 - 1500) (k2 L + 1 + 1) (kA L).length).2 := rfl
  have e4 : ((kA L).length : Int) = watW L 0 * watH L 0 := h2
  rw [← e2] at h4
  rw [← e3] at h5
  omega
theorem kX_ok (L : List Int) : (kX L).length = (kA L).length ∧ ∀ k, k < (kA L).length → rightI ((kX L).getD k zeroI) ∧ ((kA L).getD k false = true → (kX L).getD k zeroI = zeroI) := by
  obtain ⟨h1, _, h3⟩ := fldL_ok L (kA L) (k1 L) (kA L).length
  exact ⟨h1, h3⟩
theorem kB_ok (L : List Int) : BasOk (kW L) (kH L) (kA L).length := basOk (wat_ok L 0)
theorem flows_ok {w h : Int} {n : Nat} {l : List Flow} (b : errBas w h n = 0) (hl : l.length = n) (hf : ∀ f ∈ l, rightF f) : errFlows w h n l = 0 := by
  have key : ∀ l : List Flow, (∀ f ∈ l, rightF f) → errF l = 0 := by
    intro l
    induction l with
    | nil => intro _; rfl
    | cons f l ih => intro h; unfold errF; rw [if_pos (h f (List.mem_cons_self ..))]; exact ih fun g hg => h g (List.mem_cons_of_mem _ hg)
  unfold errFlows
  rw [first2_2 b, if_pos hl]; exact key l hf
/-- Moves of a flow lie between its ends. -/
theorem movesF_in {f : Flow} (hf : rightF f) : ∀ m ∈ movesF f, inMv f m = true := by
  have eb := ends_bd hf
  have key : ∀ j, j ≤ nyF f → ∀ m ∈ mvTo f j, inMv f m = true := by
    intro j
    induction j with
    | zero => intro _ m hm; cases hm
    | succ j ih =>
      intro hj m hm
      rcases List.mem_append.1 hm with h | h
      · exact ih (by omega) m h
      · unfold mvRow tabP at h
        obtain ⟨i, hi, rfl⟩ := List.mem_map.1 h
        rw [List.mem_range] at hi
        unfold nxF at hi
        unfold nyF at hj
        unfold inMv
        simp only [Bool.and_eq_true, decide_eq_true_eq]
        omega
  exact key _ (Nat.le_refl _)
theorem getD_snoc {α : Type} {l : List α} {y d : α} {x k : Nat} (hl : l.length = x) (hk : k < x + 1) : (l ++ [y]).getD k d = if k < x then l.getD k d else y := by
  rw [List.getD_eq_getElem?_getD]
  by_cases h : k < x
  · rw [if_pos h, List.getElem?_append_left (by omega), List.getD_eq_getElem?_getD]
  · rw [if_neg h, List.getElem?_append_right (by omega), show k - l.length = 0 by omega]; rfl
theorem kM_ok (L : List Int) (l : List Flow) (n : Int) (hf : ∀ f ∈ l, rightF f) : ∀ x, x ≤ l.length → ∀ k, k < x → inMv (l.getD k zeroF) ((mvgL L l n x).1.getD k zeroM) = true
  | 0, _, k, h => by omega
  | x + 1, hx, k, hk => by
    have i1 := (mvgL_len L l n x).1
    have hr := hf _ (getD_mem (d := zeroF) (show x < l.length by omega))
    have e : (mvgL L l n (x + 1)).1.getD k zeroM = if k < x then (mvgL L l n x).1.getD k zeroM else (fMoves (l.getD x zeroF)).1.getD (Int.toNat (dN L (mvgL L l n x).2 (((fMoves (l.getD x zeroF)).1.length : Nat) : Int))) zeroM := by
      show (_ ++ [_]).getD k zeroM = _
      exact getD_snoc i1 hk
    rw [e]
    by_cases h : k < x
    · rw [if_pos h]
      exact kM_ok L l n hf x (by omega) k h
    · obtain rfl : k = x := by omega
      rw [if_neg h, (fMovesR hr).1]
      have mb := movesF_bd hr
      have hp := dN_bd L (mvgL L l n k).2 (m := (((movesF (l.getD k zeroF)).length : Nat) : Int)) (by omega)
      exact movesF_in hr _ (getD_mem (by omega))
theorem errDr_0 {w h : Int} {a : List Bool} {l : List Flow} {xs : List Ice} {ms : List Move} (o : DrOk w h a xs ms) (hb : errBas w h a.length = 0) (hl : l.length = a.length) (hf : ∀ f ∈ l, rightF f) (hm : ms.length = a.length) (hi : ∀ k, k < a.length → a.getD k false = false → inMv (l.getD k zeroF) (ms.getD k zeroM) = true) : errDr w h a l xs ms = 0 := by
  have hn := o.n
  unfold errDr
  rw [first2_2 (flows_ok hb hl hf), if_pos ⟨by omega, by omega⟩]
  have key : ∀ k, k ≤ xs.length → errUp (mvErr a l xs ms) k = 0 := by
    intro k
    induction k with
    | zero => intro _; rfl
    | succ k ih =>
      intro hk
      have hr := errIce_iff.2 (o.x k (by omega))
      refine errUp_succ (ih (by omega)) ?_
      cases ha : a.getD k false with
      | true => exact mvErr_4 hr ha (by rw [o.z k (by omega) ha]; rfl)
      | false => exact mvErr_5 hr ha (hi k (by omega) ha)
  exact key _ (Nat.le_refl _)
end
end Go.Proofs.Ytkkgnalgmebfjaa
/- DriftTight: what its numbers make. No condition. -/
namespace Go.Proofs.Ytkkgnalgmebfjaa
set_option linter.unusedSimpArgs false
set_option linter.unusedVariables false
open Go Go.K
noncomputable section
def tHr (L : List Int) : Int := dN L (k2 L) 100
def tC (L : List Int) : List Cell := (hldL L (kA L) (kX L) (k2 L + 1) (kX L).length).1
def t3 (L : List Int) : Int := (hldL L (kA L) (kX L) (k2 L + 1) (kX L).length).2
def tF (L : List Int) : List Flow := (curs L (t3 L) (kA L).length).1
def t4 (L : List Int) : Int := (curs L (t3 L) (kA L).length).2
def tT (L : List Int) (x : Int) : Int := x % (((kA L).length : Nat) : Int)
def bestTo (w h : Int) (a : List Bool) (i t : Int) (hi : Bool) (ms : List Move) : Nat → Move
  | 0 => ms.getD 0 zeroM
  | j + 1 => if ((targ w h a i (ms.getD j zeroM) == t) == hi) = true then ms.getD j zeroM else bestTo w h a i t hi ms j
def tB (L : List Int) (x : Int) (hi : Bool) (k j : Nat) : Move := bestTo (kW L) (kH L) (kA L) (k : Int) (tT L x) hi (movesF ((tF L).getD k zeroF)) j
end
end Go.Proofs.Ytkkgnalgmebfjaa
/- DriftTight: the ends of each cell are reached. No condition. -/
namespace Go.Proofs.Ytkkgnalgmebfjaa
open Go Go.K
set_option maxRecDepth 100000
set_option linter.unusedVariables false
set_option linter.unusedSimpArgs false
noncomputable section
theorem tC_ok (L : List Int) : (tC L).length = (kA L).length ∧ ∀ k, k < (kA L).length → rightC ((tC L).getD k zeroC) ∧ hasC ((tC L).getD k zeroC) ((kX L).getD k zeroI) ∧ ((kA L).getD k false = true → (tC L).getD k zeroC = zeroC) := by
  obtain ⟨x1, x2⟩ := kX_ok L
  obtain ⟨h1, _, h3⟩ := hldL_ok L (kA L) (kX L) (k2 L + 1) (fun k hk => x2 k (by omega)) (kX L).length (Nat.le_refl _)
  exact ⟨h1.trans x1, fun k hk => h3 k (by omega)⟩
theorem t_bd (L : List Int) : (0 ≤ t3 L ∧ t3 L ≤ 3000) ∧ (0 ≤ t4 L ∧ t4 L ≤ 4000) ∧ 0 ≤ tHr L ∧ tHr L < 100 := by
  obtain ⟨x1, x2⟩ := kX_ok L
  obtain ⟨⟨_, b2⟩, _, b4⟩ := k_bd L
  obtain ⟨_, h2, _⟩ := hldL_ok L (kA L) (kX L) (k2 L + 1) (fun k hk => x2 k (by omega)) (kX L).length (Nat.le_refl _)
  obtain ⟨_, h5, _⟩ := curL_ok L (t3 L) (t3 L + 1 + 1) (kA L).length
  have e1 : t3 L = (hldL L (kA L) (kX L) (k2 L + 1) (kX L).length).2 := rfl
  have e2 : t4 L = (curL L (dN L (t3 L) 3001 - 1500) (dN L (t3 L + 1) 3001 - 1500) (t3 L + 1 + 1) (kA L).length).2 := rfl
  have h6 := dN_bd L (k2 L) (m := 100) (by decide)
  rw [← e1] at h2
  rw [← e2] at h5
  have e3 : tHr L = dN L (k2 L) 100 := rfl
  omega
theorem errs_all {α : Type} {e : α → Int} : ∀ {xs : List α}, (∀ x ∈ xs, e x = 0) → errs e xs = 0
  | [], _ => rfl
  | y :: r, h => by
    unfold errs
    rw [if_pos (h y (List.mem_cons_self ..))]
    exact errs_all fun x hx => h x (List.mem_cons_of_mem _ hx)
theorem mem_getD {α : Type} {l : List α} {d x : α} (h : x ∈ l) : ∃ k, k < l.length ∧ l.getD k d = x := by
  obtain ⟨k, hk, rfl⟩ := List.mem_iff_getElem.1 h
  exact ⟨k, hk, by rw [List.getD_eq_getElem?_getD, List.getElem?_eq_getElem hk]; rfl⟩
/-- Charts that fit. -/
theorem fits_0 {w h : Int} {a : List Bool} {t : Int} {cs : List Cell} (hs : sizeOk w h t) (hn : ((a.length : Nat) : Int) = w * h) (hl : cs.length = a.length) (hc : ∀ k, k < a.length → rightC (cs.getD k zeroC) ∧ (a.getD k false = true → cs.getD k zeroC = zeroC)) : errFits w h a w h t cs = 0 := by
  have e1 : errChart w h t cs = 0 := by
    unfold errChart
    rw [first2_2 (errSize_iff.2 hs), if_pos (by omega)]
    refine errs_all fun c hm => ?_
    obtain ⟨k, hk, rfl⟩ := mem_getD (d := zeroC) hm
    exact errCell_iff.2 (hc k (by omega)).1
  have e2 : errSides w h w h t cs = 0 := by
    unfold errSides
    rw [first2_2 e1, if_pos ⟨rfl, rfl⟩]
  unfold errFits
  rw [first2_2 e2]
  have key : ∀ k, k ≤ cs.length → errUp (dryErr a cs) k = 0 := by
    intro k
    induction k with
    | zero => intro _; rfl
    | succ k ih =>
      intro hk
      exact errUp_succ (ih (by omega)) (dry_2 fun q => by rw [(hc k (by omega)).2 q]; rfl)
  exact key _ (Nat.le_refl _)
/-! ## The best moves -/
/-! ## Where ice can go -/
theorem TG_mem {w h : Int} {a : List Bool} {l : List Flow} {k : Nat} (b : BasOk w h a.length) (hc : 0 ≤ (k : Int) ∧ (k : Int) < w * h) {t : Int} : t ∈ TG w h a l k ↔ ∃ m ∈ movesF (l.getD k zeroF), targ w h a (k : Int) m = t := by
  have hn := b.n1
  unfold TG tgts truesL
  rw [truesTo_mem]
  constructor
  · rintro ⟨i, h1, h2, rfl⟩
    unfold goesL at h1 h2
    rw [tabP_len] at h1
    rw [tab_getD _ _ _ h1] at h2
    have := of_decide_eq_true h2
    unfold tgL at this
    obtain ⟨m, hm, e⟩ := List.mem_map.1 this
    exact ⟨m, hm, e⟩
  · rintro ⟨m, hm, rfl⟩
    have hb := targ_bd (a := a) hc m
    refine ⟨Int.toNat (targ w h a (k : Int) m), ?_, ?_, by omega⟩
    · unfold goesL; rw [tabP_len]; omega
    · unfold goesL
      rw [tab_getD _ _ _ (by omega)]
      refine decide_eq_true ?_
      rw [show ((Int.toNat (targ w h a (k : Int) m) : Nat) : Int) = targ w h a (k : Int) m by omega]
      exact List.mem_map.2 ⟨m, hm, rfl⟩
theorem TG_lt {w h : Int} {a : List Bool} {l : List Flow} {k : Nat} : (TG w h a l k).Pairwise (· < ·) := truesTo_lt _ _
theorem addTo_get {x : Ice} : ∀ {ts : List Int} {ps : List Pl} {T : Nat}, ts.Pairwise (· < ·) → (∀ t ∈ ts, 0 ≤ t ∧ t < (ps.length : Int)) → (addTo ps ts x).getD T zeroP = if (T : Int) ∈ ts then addP (ps.getD T zeroP) x else ps.getD T zeroP
  | [], ps, T, _, _ => by rw [if_neg (by simp)]; rfl
  | t :: ts, ps, T, hp, hb => by
    obtain ⟨hp1, hp2⟩ := List.pairwise_cons.1 hp
    have ht := hb t (List.mem_cons_self ..)
    have ih := addTo_get (x := x) (ts := ts) (ps := addAt ps t x) (T := T) hp2 (fun s hs => by rw [addAt_len]; exact hb s (List.mem_cons_of_mem _ hs))
    show (addTo (addAt ps t x) ts x).getD T zeroP = _
    rw [ih]
    have hg : (addAt ps t x).getD T zeroP = if T = Int.toNat t then addP (ps.getD (Int.toNat t) zeroP) x else ps.getD T zeroP := getD_set (by omega)
    rw [hg]
    by_cases h1 : T = Int.toNat t
    · have h2 : ¬ (T : Int) ∈ ts := fun q => by have := hp1 _ q; omega
      rw [if_neg h2, if_pos h1, if_pos (by rw [List.mem_cons]; left; omega), h1]
    · rw [if_neg h1]
      have h3 : (T : Int) ∈ t :: ts ↔ (T : Int) ∈ ts := by
        rw [List.mem_cons]
        constructor
        · rintro (q | q)
          · omega
          · exact q
        · exact .inr
      simp only [h3]
theorem one_TG {ts : List Int} {t : Int} (hp : ts.Pairwise (· < ·)) (h0 : ts ≠ []) : (∀ s ∈ ts, s = t) ↔ ts.length = 1 ∧ ts.getD 0 0 = t := by
  match ts, hp, h0 with
  | [s], _, _ => simp
  | s :: r :: l, hp, _ =>
    constructor
    · intro h
      have h1 := h s (by simp)
      have h2 := h r (by simp)
      have := (List.pairwise_cons.1 hp).1 r (by simp)
      omega
    · intro h; simp at h
end
end Go.Proofs.Ytkkgnalgmebfjaa
/- DriftHolds: charts of several steps; a field that drifts, grows and shrinks. No condition. -/
namespace Go.Proofs.Ytkkgnalgmebfjaa
set_option linter.unusedSimpArgs false
set_option linter.unusedVariables false
open Go Go.K
noncomputable section
def ceV (cs : List Cell) : Value := .iface (cs.length + 1) (.agg ⟨cs.flatMap cellC⟩)
/-- A chart whose cells are said by their values. -/
def chD (c : Chart) : List Value := [.int .i64 c.w, .int .i64 c.h, .int .i64 c.hour, ceV c.cells]
/-- The first cells of a chart are an hour older. -/
def agL (a : List Bool) (m : Rates) (cs : List Cell) (y : Nat) : List Cell := tabP (fun k => if k < y ∧ a.getD k false = false then (fAge (cs.getD k zeroC) m 1).1 else cs.getD k zeroC) cs.length
def runC (w h : Int) (a : List Bool) (ll : List (List Flow)) (cs : List Cell) (m : Rates) : Nat → List Cell
  | 0 => cs
  | k + 1 => agL a m (stepL w h a (ll.getD k []) (runC w h a ll cs m k)) a.length
def runL (w h : Int) (a : List Bool) (ll : List (List Flow)) (t : Int) (cs : List Cell) (m : Rates) (n : Nat) : List Chart := tabP (fun k => (⟨w, h, t + (k : Int), runC w h a ll cs m k⟩ : Chart)) (n + 1)
/-- Flows of several steps, made of numbers from a place on. -/
def fP (L : List Int) (p : Int) : Nat → List (List Flow) × Int
  | 0 => ([], p)
  | x + 1 => ((fP L p x).1 ++ [(curs L (fP L p x).2 (kA L).length).1], (curs L (fP L p x).2 (kA L).length).2)
def hRt (L : List Int) (p : Int) : Rates := ⟨⟨dN L p 101, dN L (p + 1) 101, dN L (p + 1 + 1) 101, dN L (p + 1 + 1 + 1) 30⟩, ⟨dN L (p + 1 + 1 + 1 + 1) 101, dN L (p + 1 + 1 + 1 + 1 + 1) 101, dN L (p + 1 + 1 + 1 + 1 + 1 + 1) 101, dN L (p + 1 + 1 + 1 + 1 + 1 + 1 + 1) 30⟩⟩
def ptC (x : Ice) : Cell := cellOf x x
/-- Ice that has grown, within what a cell of an hour later has. -/
def grY (L : List Int) (p : Int) (y : Cell) : Ice := ⟨y.conc.lo + dN L p (y.conc.hi - y.conc.lo + 1), y.thick.lo + dN L (p + 1) (y.thick.hi - y.thick.lo + 1), y.ridge.lo + dN L (p + 1 + 1) (y.ridge.hi - y.ridge.lo + 1), y.press.lo + dN L (p + 1 + 1 + 1) (y.press.hi - y.press.lo + 1)⟩
def grI (L : List Int) (m : Rates) (p : Int) (x : Ice) : Ice := grY L p (fAge (ptC x) m 1).1
def grw (L : List Int) (m : Rates) (a : List Bool) (xs : List Ice) (p : Int) : Nat → List Ice × Int
  | 0 => (xs, p)
  | k + 1 => if a.getD k false = true then grw L m a xs p k else ((grw L m a xs p k).1.set k (grI L m (grw L m a xs p k).2 ((grw L m a xs p k).1.getD k zeroI)), (grw L m a xs p k).2 + 1 + 1 + 1 + 1)
/-- Where the numbers of the flows begin; the flows of so many steps, and where their numbers end. -/
def p0 (L : List Int) : Int := t3 L + 1 + 1 + 1 + 1 + 1 + 1 + 1 + 1
def hl (L : List Int) (n : Nat) : List (List Flow) := (fP L (p0 L) n).1
def hp (L : List Int) (n : Nat) : Int := (fP L (p0 L) n).2
def hm (L : List Int) : Rates := hRt L (t3 L)
def hMv (L : List Int) (n i : Nat) (p : Int) : List Move × Int := mvgL L ((hl L n).getD i []) p ((hl L n).getD i []).length
def hDr (L : List Int) (n i : Nat) (q : List Ice × Int) : List Ice × List Int × Int := fDrift (kW L) (kH L) (kA L) ((hl L n).getD i []) q.1 (hMv L n i q.2).1
/-- The field, and how many numbers were asked for, after some steps. -/
def hS (L : List Int) (n : Nat) : Nat → List Ice × Int
  | 0 => (kX L, hp L n)
  | i + 1 => grw L (hm L) (kA L) (hDr L n i (hS L n i)).1 (hMv L n i (hS L n i).2).2 (hDr L n i (hS L n i)).1.length
def hF (L : List Int) (n i : Nat) : List Ice := (hS L n i).1
def hP (L : List Int) (n i : Nat) : Int := (hS L n i).2
def hM (L : List Int) (n i : Nat) : List Move × Int := hMv L n i (hP L n i)
def hD (L : List Int) (n i : Nat) : List Ice × List Int × Int := hDr L n i (hS L n i)
def hG (L : List Int) (n i k : Nat) : List Ice := (grw L (hm L) (kA L) (hD L n i).1 (hM L n i).2 k).1
def hQ (L : List Int) (n i k : Nat) : Int := (grw L (hm L) (kA L) (hD L n i).1 (hM L n i).2 k).2
def hC (L : List Int) (n i : Nat) : List Cell := runC (kW L) (kH L) (kA L) (hl L n) (tC L) (hm L) i
def hR (L : List Int) (n : Nat) : List Chart := runL (kW L) (kH L) (kA L) (hl L n) (tHr L) (tC L) (hm L) (hl L n).length
def hH (L : List Int) (n i : Nat) : Bool × Int := fHolds (kW L) (kH L) (tHr L + (i : Int)) (hC L n i) (hF L n i)
end
end Go.Proofs.Ytkkgnalgmebfjaa
/- Drift: lists of lists; what is wrong with steps. No condition. -/
namespace Go.Proofs.Ytkkgnalgmebfjaa
open Go Go.K
set_option maxRecDepth 100000
set_option linter.unusedVariables false
set_option linter.unusedSimpArgs false
noncomputable section
attribute [local irreducible] vF
theorem flV_b (n : Nat) (l : List Flow) : belowC n (flV l) = true := by
  show (l.flatMap flowC).all (belowD n) = true
  rw [List.all_flatMap, List.all_eq_true]
  intro r _; rfl
theorem inV_b (n : Nat) (l : List Int) : belowC n (inV l) = true := all_belowD n l
theorem flL_b (n : Nat) (ll : List (List Flow)) : (flL ll).all (belowC n) = true := by
  unfold flL
  rw [List.all_map, List.all_eq_true]
  intro l _
  exact flV_b n l
theorem flV_rn (σ : Nat → Option Nat) (d : Nat) (l : List Flow) : rn σ (d + 3) (flV l) = flV l := (rnC (flV_b 0 l)).1
theorem inV_rn (σ : Nat → Option Nat) (d : Nat) (l : List Int) : rn σ (d + 3) (inV l) = inV l := (rnC (inV_b 0 l)).1
theorem flL_len (ll : List (List Flow)) : (flL ll).length = ll.length := List.length_map ..
theorem flL_at {ll : List (List Flow)} {k : Nat} (h : k < ll.length) {off : Nat} (ho : off = k) : (flL ll)[off]? = some (flV (ll.getD k [])) := by
  subst ho
  unfold flL
  rw [List.getElem?_map, List.getElem?_eq_getElem h, List.getD_eq_getElem?_getD, List.getElem?_eq_getElem h]; rfl
end
end Go.Proofs.Ytkkgnalgmebfjaa
/- Drift: contracts over charts and flows that are said by their values. No condition. -/
namespace Go.Proofs.Ytkkgnalgmebfjaa
set_option linter.unusedSimpArgs false
open Go Go.K
set_option maxRecDepth 100000
set_option linter.unusedVariables false
noncomputable section
attribute [local irreducible] vF
theorem ceV_b (n : Nat) (l : List Cell) : belowC n (ceV l) = true := by
  show (l.flatMap cellC).all (belowD n) = true
  rw [List.all_flatMap, List.all_eq_true]
  intro r _; rfl
theorem newAll_mem : ∀ {os : List KObj}, newAll os → ∀ o ∈ os, ∃ z cs, o = KObj.cells true z cs
  | [], _, o, h => by cases h
  | p :: os, ⟨⟨z, cs, e, _⟩, hs⟩, o, h => by
    rcases List.mem_cons.1 h with rfl | h
    · exact ⟨z, cs, e⟩
    · exact newAll_mem hs o h
/-- Lists said by their values are read as blocks. -/
theorem thawN {f : FuncId} {args args2 : List Value} {H gs new : Heap} (v : Nat → Value) (ht : ThawA prog H.length H args args2 gs) (h : KCall prog f args2 (H ++ gs) [] (Is (v (H ++ gs).length) ((H ++ gs) ++ new))) (hn : newAll new)
    (hv : rn (sgDrop H.length gs.length new.length) 3 (v H.length) = v (H.length + gs.length)) : KCall prog f args H [] (Is (v H.length) (H ++ new)) :=
  KCall.drop (d := 3) (KCall.thaw ht h) rfl (fun _ _ _ => rfl) (fun _ _ _ h => by cases h) (by rw [hv, List.length_append]) (newAll_spec hn).2 (newAll_mem hn)
theorem thawV {f : FuncId} {args args2 : List Value} {H gs : Heap} {v : Value} (ht : ThawA prog H.length H args args2 gs) (h : KCall prog f args2 (H ++ gs) [] (Is v (H ++ gs))) (hv : ∀ σ, rn σ 3 v = v) : KCall prog f args H [] (Is v H) := by
  have := thawN (new := []) (fun _ => v) ht (by rw [List.append_nil]; exact h) trivial (hv _)
  rw [List.append_nil] at this; exact this
theorem thawW {f : FuncId} {args args2 : List Value} {H gs new : Heap} {D z : Nat} {c1 : List Value} (v : Nat → Value) (ht : ThawA prog H.length H args args2 gs) (hD : D < H.length) (h : KCall prog f args2 (H ++ gs) [D] (Is (v (H ++ gs).length) ((H ++ gs).set D (.cells true z c1) ++ new))) (hn : newAll new) (hc : c1.all (belowC 0) = true)
    (hv : rn (sgDrop H.length gs.length new.length) 3 (v H.length) = v (H.length + gs.length)) : KCall prog f args H [D] (Is (v H.length) (H.set D (.cells true z c1) ++ new)) := by
  have h1 := KCall.thaw ht h
  rw [List.set_append_left _ _ hD] at h1
  refine KCall.drop (d := 3) h1 List.length_set (fun id _ hne => List.getElem?_set_ne (fun e => hne (by simp [e]))) (fun id o hlt hm ho => ?_) (by rw [hv, List.length_append]) (newAll_spec hn).2 (newAll_mem hn)
  rw [List.mem_singleton.1 hm, List.getElem?_set_self hD] at ho
  cases ho
  exact ⟨⟨_, _, rfl⟩, congrArg (KObj.cells true z) (rnCl (d := 0) hc).1⟩
theorem at_old {H gs : Heap} {id : Nat} {o : KObj} (h : H[id]? = some o) : (H ++ gs)[id]? = some o := by
  rw [List.getElem?_append_left (List.getElem?_eq_some_iff.1 h).1]; exact h
theorem at_new0 {H : Heap} {o : KObj} {gs : Heap} : (H ++ o :: gs)[H.length]? = some o := by simp
theorem at_new1 {H : Heap} {p o : KObj} {gs : Heap} : (H ++ p :: o :: gs)[(H ++ [p]).length]? = some o := by simp
theorem kStepV (w h : Int) (a : List Bool) (l : List Flow) (hl : l.length ≤ 4294967296) (w' h' t : Int) (cs : List Cell) {H : Heap} {L : Nat} (hL : H.length = L) {i0 : Nat} {o0 : Bool} {z0 : Nat} (e0 : H[i0]? = some (.cells o0 z0 (a.flatMap boolC))) :
    KCall prog F.drift_Step [basV w h i0 a.length, flV l, .agg #[.int .i64 w', .int .i64 h', .int .i64 t, ceV cs]] H []
      (Is (.tuple #[chV 1 L (fStep w h a l w' h' t cs).1, .int .i64 (fStep w h a l w' h' t cs).2]) (H ++ [.cells true 8 ((fStep w h a l w' h' t cs).1.cells.flatMap cellC)])) := by
  subst hL
  exact thawN (fun i => .tuple #[chV 1 i (fStep w h a l w' h' t cs).1, .int .i64 (fStep w h a l w' h' t cs).2]) (ThawA.keep (ThawA.deep (ThawA.agg (i := 3) rfl ThawA.nil))) (kStep w h a l hl w' h' t cs rfl (at_old e0) at_new0 at_new1) ⟨⟨_, _, rfl, plainC 0 _⟩, trivial⟩ (by simp [rn, sgDrop])
theorem kHoldsV (w v t : Int) (cs : List Cell) (xs : List Ice) {H : Heap} {id2 : Nat} {own2 : Bool} {z2 : Nat} (hid2 : H[id2]? = some (.cells own2 z2 (xs.flatMap iceC))) :
    KCall prog F.ice_Holds [.agg #[.int .i64 w, .int .i64 v, .int .i64 t, ceV cs], .slice (some ⟨id2, 0, some 2⟩) xs.length xs.length] H [] (Is (.tuple #[.bool (fHolds w v t cs xs).1, .int .i64 (fHolds w v t cs xs).2]) H) :=
  thawV (ThawA.agg (i := 3) rfl (ThawA.keep ThawA.nil)) (kHolds w v t cs xs at_new0 (at_old hid2)) (fun _ => rfl)
theorem kDriftV (w h : Int) (a : List Bool) (l : List Flow) (xs : List Ice) (ms : List Move) (hl : l.length ≤ 4294967296) (hx : xs.length ≤ 4294967296) {H : Heap} {L : Nat} (hL : H.length = L) {i0 i2 i3 : Nat} {o0 o2 o3 : Bool} {z0 z2 z3 : Nat} (e0 : H[i0]? = some (.cells o0 z0 (a.flatMap boolC)))
    (e2 : H[i2]? = some (.cells o2 z2 (xs.flatMap iceC))) (e3 : H[i3]? = some (.cells o3 z3 (ms.flatMap moveC))) :
    KCall prog F.drift_Drift [basV w h i0 a.length, flV l, .slice (some ⟨i2, 0, some 2⟩) xs.length xs.length, .slice (some ⟨i3, 0, some 2⟩) ms.length ms.length] H []
      (Is (drV L (fDrift w h a l xs ms)) (H ++ [.cells true 4 ((fDrift w h a l xs ms).1.flatMap iceC), .cells true 1 ((fDrift w h a l xs ms).2.1.flatMap intC)])) := by
  subst hL
  exact thawN (fun i => drV i (fDrift w h a l xs ms)) (ThawA.keep (ThawA.deep (ThawA.keep (ThawA.keep ThawA.nil)))) (kDrift w h a l xs ms hl hx rfl (at_old e0) at_new0 (at_old e2) (at_old e3)) ⟨⟨_, _, rfl, plainXL 0 _⟩, ⟨_, _, rfl, plainIL 0 _⟩, trivial⟩ (by simp [rn, sgDrop, show ¬ (H.length + 1 < H.length) by omega])
theorem kMovingV (L : List Int) (n : Int) (hn : 0 ≤ n ∧ n ≤ 900000000) (l : List Flow) (hl : l.length ≤ 1024) (hf : ∀ f ∈ l, rightF f) {H : Heap} {K : Nat} (hK : H.length = K) {D : Nat} (hD : H[D]? = some (.cells true 0 (digC L n))) :
    KCall prog F.polynyalaw02_Moving [.pointer (some ⟨D, 0, none⟩), flV l] H [D] (Is (.tuple #[.slice (some ⟨K, 0, some 1⟩) (mvgL L l n l.length).1.length (mvgL L l n l.length).1.length, .bool true]) (H.set D (.cells true 0 (digC L (mvgL L l n l.length).2)) ++ [.cells true 2 ((mvgL L l n l.length).1.flatMap moveC)])) := by
  subst hK
  have hlt := (List.getElem?_eq_some_iff.1 hD).1
  exact thawW (fun i => .tuple #[.slice (some ⟨i, 0, some 1⟩) (mvgL L l n l.length).1.length (mvgL L l n l.length).1.length, .bool true]) (ThawA.keep (ThawA.deep ThawA.nil)) hlt (kMoving L n hn l hl hf rfl (at_old hD) at_new0 (by omega)) ⟨⟨_, _, rfl, plainML 0 _⟩, trivial⟩ (plainDig 0 L _) (by simp [rn, sgDrop])
end
end Go.Proofs.Ytkkgnalgmebfjaa
/- What is to be shown of functions. Printed by a program. No condition. -/
namespace Go.Proofs.Ytkkgnalgmebfjaa
set_option linter.unusedSimpArgs false
open Go Go.K
set_option maxRecDepth 100000
set_option maxHeartbeats 4000000
set_option linter.unusedVariables false
noncomputable section
def RClone (cs : List Cell) : Prop :=
  ((cs.length = 0 → (((0 + cs.length) * 64 ≤ 2 ^ 44 ∧ cs.length = 0) ∧ (true = true ∧ wk (slQ 1 1 0 : Value) (rn (sg 1 [(1, 1)]) 3 (slQ 1 1 cs.length : Value)) ∧ ((some (.cells true 8 [] : KObj) = some (.cells true 8 (cs.flatMap cellC) : KObj) ∧ belowO 1 (.cells true 8 (cs.flatMap cellC) : KObj) = true) ∧ True)))) ∧ (¬ (cs.length = 0) → (((0 + cs.length) * 64 ≤ 2 ^ 44 ∧ cs.length ≠ 0 ∧ (0 ≤ 0 ∧ 0 + 0 * 8 ≤ List.length ([] : List Value)) ∧ (cs.length ≤ cs.length ∧ 0 + cs.length * 8 ≤ List.length (cs.flatMap cellC)) ∧ ((((cs.flatMap cellC).drop 0).take (cs.length * 8)) : List Value).all (fun v => one1 v) = true) ∧ true = true ∧ (true = true ∧ wk (.slice (some ⟨2, 0, none⟩) (0 + cs.length) (0 + cs.length) : Value) (rn (sg 1 [(1, 2)]) 3 (slQ 1 1 cs.length : Value)) ∧ ((some (.cells true 8 (((([] : List Value).drop 0).take (0 * 8)) ++ (((cs.flatMap cellC).drop 0).take (cs.length * 8))) : KObj) = some (.cells true 8 (cs.flatMap cellC) : KObj) ∧ belowO 1 (.cells true 8 (cs.flatMap cellC) : KObj) = true) ∧ True)))))
theorem EClone (cs : List Cell) : vF prog msk (dm 0) 100000 true 40 true 112 [.slice (some ⟨0, 0, none⟩) cs.length cs.length] (readsT 0 [cs.flatMap cellC]) (some [])
  (.go 5 (.cas (cs.length = 0) (.val (.bool true) (.go 0 (.again [(1, 1)]))) (.need (.go 0 (.again [(1, 2)])))))
  (newK ((readsT 0 [cs.flatMap cellC]) : HT).n 3 (slQ 1 1 cs.length) [(true, .cells true 8 (cs.flatMap cellC))]) = RClone cs := by kernel_rfl
def RRun (w h : Int) (a : List Bool) (ll : List (List Flow)) (t : Int) (cs : List Cell) (m : Rates) : Prop :=
  (((someR (.cells false 0 (a.flatMap boolC))) ∧ True) ∧ (∀ H' : Heap, H'.length = 6 → (H'[0]? = some (.cells false 0 (a.flatMap boolC) : KObj) ∧ True) → KCall prog 20 [.agg #[nI w, nI h, slQ 0 2 a.length]] H' [] (Is (nI (errBas w h a.length)) H')) ∧ (((((errBas w h a.length) : Int) != 0) = true → (true = true ∧ wk (.tuple #[.slice none 0 0, nI (errBas w h a.length)] : Value) (rn (sg 3 []) 3 (.tuple #[slQ 3 1 (runL w h a ll t cs m ll.length).length, nI 0] : Value)) ∧ (True ∧ True))) ∧ ((((errBas w h a.length) : Int) != 0) = false → (((decide ((48 : Int) < ((ll.length : Nat) : Int))) = true → (true = true ∧ wk (.tuple #[.slice none 0 0, nI 2] : Value) (rn (sg 3 []) 3 (.tuple #[slQ 3 1 (runL w h a ll t cs m ll.length).length, nI 0] : Value)) ∧ (True ∧ True))) ∧ ((decide ((48 : Int) < ((ll.length : Nat) : Int))) = false → (((someR (.cells false 0 (a.flatMap boolC))) ∧ (someR (.cells false 0 (cs.flatMap cellC))) ∧ True) ∧ (∀ H' : Heap, H'.length = 6 → (H'[0]? = some (.cells false 0 (a.flatMap boolC) : KObj) ∧ H'[2]? = some (.cells false 0 (cs.flatMap cellC) : KObj) ∧ True) → KCall prog 90 [.agg #[nI w, nI h, slQ 0 2 a.length], .agg #[nI w, nI h, nI t, .slice (some ⟨2, 0, none⟩) cs.length cs.length]] H' [] (Is (nI (errFits w h a w h t cs)) H')) ∧ ((True) ∧ (∀ H' : Heap, H'.length = 6 → (True) → KCall prog 105 [.agg #[nI m.up.conc, nI m.up.thick, nI m.up.ridge, nI m.up.press, nI m.down.conc, nI m.down.thick, nI m.down.ridge, nI m.down.press]] H' [] (Is (nI (errRates m)) H')) ∧ (((((errFits w h a w h t cs) : Int) != 0) = true → ((.bool (((errFits w h a w h t cs) : Int) != 0) : Value) = .bool true ∧ (true = true ∧ wk (.tuple #[.slice none 0 0, nI (errFits w h a w h t cs)] : Value) (rn (sg 3 []) 3 (.tuple #[slQ 3 1 (runL w h a ll t cs m ll.length).length, nI 0] : Value)) ∧ (True ∧ True)))) ∧ ((((errFits w h a w h t cs) : Int) != 0) = false → (((((errRates m) : Int) != 0) = true → ((.bool (((errRates m) : Int) != 0) : Value) = .bool true ∧ (true = true ∧ wk (.tuple #[.slice none 0 0, nI (errRates m)] : Value) (rn (sg 3 []) 3 (.tuple #[slQ 3 1 (runL w h a ll t cs m ll.length).length, nI 0] : Value)) ∧ (True ∧ True)))) ∧ ((((errRates m) : Int) != 0) = false → (((someR (.cells false 0 (cs.flatMap cellC))) ∧ True) ∧ (∀ H' : Heap, H'.length = 7 → (H'[2]? = some (.cells false 0 (cs.flatMap cellC) : KObj) ∧ True) → KCall prog 112 [.slice (some ⟨2, 0, none⟩) cs.length cs.length] H' [] (Is (slQ 7 1 cs.length) (H' ++ [(.cells true 8 (cs.flatMap cellC) : KObj)]))) ∧ (true = true ∧ (0 ≤ List.length ll) ∧ (true = true ∧ ((nI 0 : Value) = nI ((0 : Nat) : Int) ∧ wk (.slice (some ⟨8, 0, none⟩) 1 1 : Value) (slQ 8 1 (runL w h a ll t cs m 0).length : Value) ∧ (.pointer (some ⟨3, 0, none⟩) : Value) = .pointer (some ⟨3, 0, none⟩) ∧ (.pointer (some ⟨5, 0, none⟩) : Value) = .pointer (some ⟨5, 0, none⟩) ∧ wkR (slQ 1 2 ll.length) ∧ (nI ((ll.length : Nat) : Int) : Value) = nI ((ll.length : Nat) : Int) ∧ True) ∧ (True ∧ (keptR 9 (.cells true 0 [nI w, nI h, slQ 0 2 a.length])) ∧ (keptR 9 (.cells true 0 [nI w, nI h, nI t, .iface (cs.length + 1) (.agg ⟨(cs.flatMap cellC)⟩)])) ∧ (keptR 9 (.cells true 0 [nI m.up.conc, nI m.up.thick, nI m.up.ridge, nI m.up.press, nI m.down.conc, nI m.down.thick, nI m.down.ridge, nI m.down.press])) ∧ True) ∧ ((some (.cells true 4 [nI w, nI h, nI t, .iface (cs.length + 1) (.agg ⟨(cs.flatMap cellC)⟩)] : KObj) = some (.cells true 4 ((runL w h a ll t cs m 0).flatMap chD) : KObj) ∧ belowO 9 (.cells true 4 ((runL w h a ll t cs m 0).flatMap chD) : KObj) = true) ∧ True) ∧ (True)) ∧ (∀ x4 : Nat, true = true) ∧ ∀ x4 : Nat, (x4 ≤ List.length ll) → (((decide (((x4 : Int) : Int) < ((ll.length : Nat) : Int))) = true → (((0 : Int) ≤ (x4 : Int) ∧ ((x4 : Int) : Int) < ((ll.length : Nat) : Int)) ∧ (((flL ll)[(0 + Int.toNat (x4 : Int) * 1)]? = some (.iface ((ll.getD x4 []).length + 1) (.agg ⟨((ll.getD x4 []).flatMap flowC)⟩))) ∧ ((nI (IntKind.wrap .i64 ((((runL w h a ll t cs m x4).length : Nat) : Int) - 1)) : Value) = nI ((((runL w h a ll t cs m x4).length : Nat) : Int) - 1) ∧ (((0 : Int) ≤ ((((runL w h a ll t cs m x4).length : Nat) : Int) - 1) ∧ (((((runL w h a ll t cs m x4).length : Nat) : Int) - 1) : Int) < (((runL w h a ll t cs m x4).length : Nat) : Int)) ∧ ((partA 4 ((runL w h a ll t cs m x4).flatMap chD) (0 + Int.toNat ((((runL w h a ll t cs m x4).length : Nat) : Int) - 1) * 4) = some (.agg #[nI w, nI h, nI (t + (x4 : Int)), .iface ((runC w h a ll cs m x4).length + 1) (.agg ⟨((runC w h a ll cs m x4).flatMap cellC)⟩)])) ∧ (((someR (.cells false 0 (a.flatMap boolC))) ∧ True) ∧ (∀ H' : Heap, H'.length = 11 → (H'[0]? = some (.cells false 0 (a.flatMap boolC) : KObj) ∧ True) → KCall prog 42 [.agg #[nI w, nI h, slQ 0 2 a.length], .iface ((ll.getD x4 []).length + 1) (.agg ⟨((ll.getD x4 []).flatMap flowC)⟩), .agg #[nI w, nI h, nI (t + (x4 : Int)), .iface ((runC w h a ll cs m x4).length + 1) (.agg ⟨((runC w h a ll cs m x4).flatMap cellC)⟩)]] H' [] (Is (.tuple #[.agg #[nI w, nI h, nI ((t + (x4 : Int)) + 1), slQ 11 1 (stepL w h a (ll.getD x4 []) (runC w h a ll cs m x4)).length], nI 0]) (H' ++ [(.cells true 8 ((stepL w h a (ll.getD x4 []) (runC w h a ll cs m x4)).flatMap cellC) : KObj)]))) ∧ ((((0 : Int) != 0) = true → (true = true ∧ wk (.tuple #[.slice none 0 0, nI 0] : Value) (rn (sg 3 []) 3 (.tuple #[slQ 3 1 (runL w h a ll t cs m ll.length).length, nI 0] : Value)) ∧ (True ∧ True))) ∧ (((0 : Int) != 0) = false → (true = true ∧ (0 ≤ List.length a) ∧ (true = true ∧ ((nI 0 : Value) = nI ((0 : Nat) : Int) ∧ (nI ((ll.length : Nat) : Int) : Value) = nI ((ll.length : Nat) : Int) ∧ wkR (slQ 1 2 ll.length) ∧ (.pointer (some ⟨5, 0, none⟩) : Value) = .pointer (some ⟨5, 0, none⟩) ∧ (.pointer (some ⟨3, 0, none⟩) : Value) = .pointer (some ⟨3, 0, none⟩) ∧ wkR (slQ 9 1 (runL w h a ll t cs m x4).length) ∧ (nI (x4 : Int) : Value) = nI (x4 : Int) ∧ (.iface ((ll.getD x4 []).length + 1) (.agg ⟨((ll.getD x4 []).flatMap flowC)⟩) : Value) = rn (sg 12 []) 3 (.iface ((ll.getD x4 []).length + 1) (.agg ⟨((ll.getD x4 []).flatMap flowC)⟩) : Value) ∧ (.pointer (some ⟨10, 0, none⟩) : Value) = .pointer (some ⟨10, 0, none⟩) ∧ (nI 0 : Value) = nI 0 ∧ wkR (slQ 11 1 (stepL w h a (ll.getD x4 []) (runC w h a ll cs m x4)).length) ∧ (nI (((stepL w h a (ll.getD x4 []) (runC w h a ll cs m x4)).length : Nat) : Int) : Value) = nI (((stepL w h a (ll.getD x4 []) (runC w h a ll cs m x4)).length : Nat) : Int) ∧ True) ∧ ((some (.cells true 8 ((stepL w h a (ll.getD x4 []) (runC w h a ll cs m x4)).flatMap cellC) : KObj) = some (.cells true 8 ((agL a m (stepL w h a (ll.getD x4 []) (runC w h a ll cs m x4)) 0).flatMap cellC) : KObj) ∧ belowO 12 (.cells true 8 ((agL a m (stepL w h a (ll.getD x4 []) (runC w h a ll cs m x4)) 0).flatMap cellC) : KObj) = true) ∧ (keptR 12 (.cells true 0 [nI w, nI h, slQ 0 2 a.length])) ∧ (keptR 12 (.cells true 0 [nI m.up.conc, nI m.up.thick, nI m.up.ridge, nI m.up.press, nI m.down.conc, nI m.down.thick, nI m.down.ridge, nI m.down.press])) ∧ (keptR 12 (.cells true 0 [nI w, nI h, nI ((t + (x4 : Int)) + 1), slQ 11 1 (stepL w h a (ll.getD x4 []) (runC w h a ll cs m x4)).length])) ∧ True) ∧ (True) ∧ (True)) ∧ (∀ x6 : Nat, true = true) ∧ ∀ x6 : Nat, (x6 ≤ List.length a) → (((decide (((x6 : Int) : Int) < (((stepL w h a (ll.getD x4 []) (runC w h a ll cs m x4)).length : Nat) : Int))) = true → (((0 : Int) ≤ (x6 : Int) ∧ ((x6 : Int) : Int) < (((stepL w h a (ll.getD x4 []) (runC w h a ll cs m x4)).length : Nat) : Int)) ∧ ((partA 8 ((agL a m (stepL w h a (ll.getD x4 []) (runC w h a ll cs m x4)) x6).flatMap cellC) (0 + Int.toNat (x6 : Int) * 8) = some (.agg #[nI ((agL a m (stepL w h a (ll.getD x4 []) (runC w h a ll cs m x4)) x6).getD x6 zeroC).conc.lo, nI ((agL a m (stepL w h a (ll.getD x4 []) (runC w h a ll cs m x4)) x6).getD x6 zeroC).conc.hi, nI ((agL a m (stepL w h a (ll.getD x4 []) (runC w h a ll cs m x4)) x6).getD x6 zeroC).thick.lo, nI ((agL a m (stepL w h a (ll.getD x4 []) (runC w h a ll cs m x4)) x6).getD x6 zeroC).thick.hi, nI ((agL a m (stepL w h a (ll.getD x4 []) (runC w h a ll cs m x4)) x6).getD x6 zeroC).ridge.lo, nI ((agL a m (stepL w h a (ll.getD x4 []) (runC w h a ll cs m x4)) x6).getD x6 zeroC).ridge.hi, nI ((agL a m (stepL w h a (ll.getD x4 []) (runC w h a ll cs m x4)) x6).getD x6 zeroC).press.lo, nI ((agL a m (stepL w h a (ll.getD x4 []) (runC w h a ll cs m x4)) x6).getD x6 zeroC).press.hi])) ∧ (((0 : Int) ≤ (x6 : Int) ∧ ((x6 : Int) : Int) < ((a.length : Nat) : Int)) ∧ (((a.flatMap boolC)[(0 + Int.toNat (x6 : Int) * 1)]? = some (.bool (a.getD x6 false))) ∧ (((!(a.getD x6 false)) = true → ((True) ∧ (∀ H' : Heap, H'.length = 13 → (True) → KCall prog 53 [.agg #[nI ((agL a m (stepL w h a (ll.getD x4 []) (runC w h a ll cs m x4)) x6).getD x6 zeroC).conc.lo, nI ((agL a m (stepL w h a (ll.getD x4 []) (runC w h a ll cs m x4)) x6).getD x6 zeroC).conc.hi, nI ((agL a m (stepL w h a (ll.getD x4 []) (runC w h a ll cs m x4)) x6).getD x6 zeroC).thick.lo, nI ((agL a m (stepL w h a (ll.getD x4 []) (runC w h a ll cs m x4)) x6).getD x6 zeroC).thick.hi, nI ((agL a m (stepL w h a (ll.getD x4 []) (runC w h a ll cs m x4)) x6).getD x6 zeroC).ridge.lo, nI ((agL a m (stepL w h a (ll.getD x4 []) (runC w h a ll cs m x4)) x6).getD x6 zeroC).ridge.hi, nI ((agL a m (stepL w h a (ll.getD x4 []) (runC w h a ll cs m x4)) x6).getD x6 zeroC).press.lo, nI ((agL a m (stepL w h a (ll.getD x4 []) (runC w h a ll cs m x4)) x6).getD x6 zeroC).press.hi], .agg #[nI m.up.conc, nI m.up.thick, nI m.up.ridge, nI m.up.press, nI m.down.conc, nI m.down.thick, nI m.down.ridge, nI m.down.press], nI 1] H' [] (Is (.tuple #[.agg #[nI (fAge ((agL a m (stepL w h a (ll.getD x4 []) (runC w h a ll cs m x4)) x6).getD x6 zeroC) m 1).1.conc.lo, nI (fAge ((agL a m (stepL w h a (ll.getD x4 []) (runC w h a ll cs m x4)) x6).getD x6 zeroC) m 1).1.conc.hi, nI (fAge ((agL a m (stepL w h a (ll.getD x4 []) (runC w h a ll cs m x4)) x6).getD x6 zeroC) m 1).1.thick.lo, nI (fAge ((agL a m (stepL w h a (ll.getD x4 []) (runC w h a ll cs m x4)) x6).getD x6 zeroC) m 1).1.thick.hi, nI (fAge ((agL a m (stepL w h a (ll.getD x4 []) (runC w h a ll cs m x4)) x6).getD x6 zeroC) m 1).1.ridge.lo, nI (fAge ((agL a m (stepL w h a (ll.getD x4 []) (runC w h a ll cs m x4)) x6).getD x6 zeroC) m 1).1.ridge.hi, nI (fAge ((agL a m (stepL w h a (ll.getD x4 []) (runC w h a ll cs m x4)) x6).getD x6 zeroC) m 1).1.press.lo, nI (fAge ((agL a m (stepL w h a (ll.getD x4 []) (runC w h a ll cs m x4)) x6).getD x6 zeroC) m 1).1.press.hi], nI (fAge ((agL a m (stepL w h a (ll.getD x4 []) (runC w h a ll cs m x4)) x6).getD x6 zeroC) m 1).2]) H')) ∧ (((0 : Int) ≤ (x6 : Int) ∧ ((x6 : Int) : Int) < (((stepL w h a (ll.getD x4 []) (runC w h a ll cs m x4)).length : Nat) : Int)) ∧ (((0 + Int.toNat (x6 : Int) * 8) + 8 ≤ List.length ((agL a m (stepL w h a (ll.getD x4 []) (runC w h a ll cs m x4)) x6).flatMap cellC)) ∧ true = true ∧ ((nI (IntKind.wrap .i64 ((x6 : Int) + 1)) : Value) = nI ((x6 : Int) + 1) ∧ (∃ x6' : Nat, (x6' ≤ List.length a) ∧ (List.length a - x6') < (List.length a - x6) ∧ true = true ∧ ((nI ((x6 : Int) + 1) : Value) = nI (x6' : Int) ∧ (nI ((ll.length : Nat) : Int) : Value) = nI ((ll.length : Nat) : Int) ∧ wkR (slQ 1 2 ll.length) ∧ (.pointer (some ⟨5, 0, none⟩) : Value) = .pointer (some ⟨5, 0, none⟩) ∧ (.pointer (some ⟨3, 0, none⟩) : Value) = .pointer (some ⟨3, 0, none⟩) ∧ wkR (slQ 9 1 (runL w h a ll t cs m x4).length) ∧ (nI (x4 : Int) : Value) = nI (x4 : Int) ∧ (.iface ((ll.getD x4 []).length + 1) (.agg ⟨((ll.getD x4 []).flatMap flowC)⟩) : Value) = rn (sg 12 []) 3 (.iface ((ll.getD x4 []).length + 1) (.agg ⟨((ll.getD x4 []).flatMap flowC)⟩) : Value) ∧ (.pointer (some ⟨10, 0, none⟩) : Value) = .pointer (some ⟨10, 0, none⟩) ∧ (nI 0 : Value) = nI 0 ∧ wkR (slQ 11 1 (stepL w h a (ll.getD x4 []) (runC w h a ll cs m x4)).length) ∧ (nI (((stepL w h a (ll.getD x4 []) (runC w h a ll cs m x4)).length : Nat) : Int) : Value) = nI (((stepL w h a (ll.getD x4 []) (runC w h a ll cs m x4)).length : Nat) : Int) ∧ True) ∧ ((some (.cells true 8 (setl ((agL a m (stepL w h a (ll.getD x4 []) (runC w h a ll cs m x4)) x6).flatMap cellC) (0 + Int.toNat (x6 : Int) * 8) [nI (fAge ((agL a m (stepL w h a (ll.getD x4 []) (runC w h a ll cs m x4)) x6).getD x6 zeroC) m 1).1.conc.lo, nI (fAge ((agL a m (stepL w h a (ll.getD x4 []) (runC w h a ll cs m x4)) x6).getD x6 zeroC) m 1).1.conc.hi, nI (fAge ((agL a m (stepL w h a (ll.getD x4 []) (runC w h a ll cs m x4)) x6).getD x6 zeroC) m 1).1.thick.lo, nI (fAge ((agL a m (stepL w h a (ll.getD x4 []) (runC w h a ll cs m x4)) x6).getD x6 zeroC) m 1).1.thick.hi, nI (fAge ((agL a m (stepL w h a (ll.getD x4 []) (runC w h a ll cs m x4)) x6).getD x6 zeroC) m 1).1.ridge.lo, nI (fAge ((agL a m (stepL w h a (ll.getD x4 []) (runC w h a ll cs m x4)) x6).getD x6 zeroC) m 1).1.ridge.hi, nI (fAge ((agL a m (stepL w h a (ll.getD x4 []) (runC w h a ll cs m x4)) x6).getD x6 zeroC) m 1).1.press.lo, nI (fAge ((agL a m (stepL w h a (ll.getD x4 []) (runC w h a ll cs m x4)) x6).getD x6 zeroC) m 1).1.press.hi]) : KObj) = some (.cells true 8 ((agL a m (stepL w h a (ll.getD x4 []) (runC w h a ll cs m x4)) x6').flatMap cellC) : KObj) ∧ belowO 12 (.cells true 8 ((agL a m (stepL w h a (ll.getD x4 []) (runC w h a ll cs m x4)) x6').flatMap cellC) : KObj) = true) ∧ (keptR 12 (.cells true 0 [nI w, nI h, slQ 0 2 a.length])) ∧ (keptR 12 (.cells true 0 [nI m.up.conc, nI m.up.thick, nI m.up.ridge, nI m.up.press, nI m.down.conc, nI m.down.thick, nI m.down.ridge, nI m.down.press])) ∧ (keptR 12 (.cells true 0 [nI w, nI h, nI ((t + (x4 : Int)) + 1), slQ 11 1 (stepL w h a (ll.getD x4 []) (runC w h a ll cs m x4)).length])) ∧ True) ∧ (True) ∧ (True))))))) ∧ ((!(a.getD x6 false)) = false → ((nI (IntKind.wrap .i64 ((x6 : Int) + 1)) : Value) = nI ((x6 : Int) + 1) ∧ (∃ x6' : Nat, (x6' ≤ List.length a) ∧ (List.length a - x6') < (List.length a - x6) ∧ true = true ∧ ((nI ((x6 : Int) + 1) : Value) = nI (x6' : Int) ∧ (nI ((ll.length : Nat) : Int) : Value) = nI ((ll.length : Nat) : Int) ∧ wkR (slQ 1 2 ll.length) ∧ (.pointer (some ⟨5, 0, none⟩) : Value) = .pointer (some ⟨5, 0, none⟩) ∧ (.pointer (some ⟨3, 0, none⟩) : Value) = .pointer (some ⟨3, 0, none⟩) ∧ wkR (slQ 9 1 (runL w h a ll t cs m x4).length) ∧ (nI (x4 : Int) : Value) = nI (x4 : Int) ∧ (.iface ((ll.getD x4 []).length + 1) (.agg ⟨((ll.getD x4 []).flatMap flowC)⟩) : Value) = rn (sg 12 []) 3 (.iface ((ll.getD x4 []).length + 1) (.agg ⟨((ll.getD x4 []).flatMap flowC)⟩) : Value) ∧ (.pointer (some ⟨10, 0, none⟩) : Value) = .pointer (some ⟨10, 0, none⟩) ∧ (nI 0 : Value) = nI 0 ∧ wkR (slQ 11 1 (stepL w h a (ll.getD x4 []) (runC w h a ll cs m x4)).length) ∧ (nI (((stepL w h a (ll.getD x4 []) (runC w h a ll cs m x4)).length : Nat) : Int) : Value) = nI (((stepL w h a (ll.getD x4 []) (runC w h a ll cs m x4)).length : Nat) : Int) ∧ True) ∧ ((some (.cells true 8 ((agL a m (stepL w h a (ll.getD x4 []) (runC w h a ll cs m x4)) x6).flatMap cellC) : KObj) = some (.cells true 8 ((agL a m (stepL w h a (ll.getD x4 []) (runC w h a ll cs m x4)) x6').flatMap cellC) : KObj) ∧ belowO 12 (.cells true 8 ((agL a m (stepL w h a (ll.getD x4 []) (runC w h a ll cs m x4)) x6').flatMap cellC) : KObj) = true) ∧ (keptR 12 (.cells true 0 [nI w, nI h, slQ 0 2 a.length])) ∧ (keptR 12 (.cells true 0 [nI m.up.conc, nI m.up.thick, nI m.up.ridge, nI m.up.press, nI m.down.conc, nI m.down.thick, nI m.down.ridge, nI m.down.press])) ∧ (keptR 12 (.cells true 0 [nI w, nI h, nI ((t + (x4 : Int)) + 1), slQ 11 1 (stepL w h a (ll.getD x4 []) (runC w h a ll cs m x4)).length])) ∧ True) ∧ (True) ∧ (True)))))))))) ∧ ((decide (((x6 : Int) : Int) < (((stepL w h a (ll.getD x4 []) (runC w h a ll cs m x4)).length : Nat) : Int))) = false → ((((runL w h a ll t cs m x4).length + 1) * 48 ≤ 2 ^ 44 ∧ 1 ≠ 0 ∧ ((runL w h a ll t cs m x4).length ≤ (runL w h a ll t cs m x4).length ∧ 0 + (runL w h a ll t cs m x4).length * 4 ≤ List.length ((runL w h a ll t cs m x4).flatMap chD)) ∧ (1 ≤ 1 ∧ 0 + 1 * 4 ≤ List.length ([nI w, nI h, nI ((t + (x4 : Int)) + 1), .iface ((stepL w h a (ll.getD x4 []) (runC w h a ll cs m x4)).length + 1) (.agg ⟨((agL a m (stepL w h a (ll.getD x4 []) (runC w h a ll cs m x4)) x6).flatMap cellC)⟩)] : List Value)) ∧ (((([nI w, nI h, nI ((t + (x4 : Int)) + 1), .iface ((stepL w h a (ll.getD x4 []) (runC w h a ll cs m x4)).length + 1) (.agg ⟨((agL a m (stepL w h a (ll.getD x4 []) (runC w h a ll cs m x4)) x6).flatMap cellC)⟩)] : List Value).drop 0).take (1 * 4)) : List Value).all (fun v => one1 v) = true) ∧ true = true ∧ ((nI (IntKind.wrap .i64 ((x4 : Int) + 1)) : Value) = nI ((x4 : Int) + 1) ∧ (∃ x4' : Nat, (x4' ≤ List.length ll) ∧ (List.length ll - x4') < (List.length ll - x4) ∧ true = true ∧ ((nI ((x4 : Int) + 1) : Value) = nI (x4' : Int) ∧ wk (.slice (some ⟨13, 0, none⟩) ((runL w h a ll t cs m x4).length + 1) ((runL w h a ll t cs m x4).length + 1) : Value) (slQ 13 1 (runL w h a ll t cs m x4').length : Value) ∧ (.pointer (some ⟨3, 0, none⟩) : Value) = .pointer (some ⟨3, 0, none⟩) ∧ (.pointer (some ⟨5, 0, none⟩) : Value) = .pointer (some ⟨5, 0, none⟩) ∧ wkR (slQ 1 2 ll.length) ∧ (nI ((ll.length : Nat) : Int) : Value) = nI ((ll.length : Nat) : Int) ∧ True) ∧ (True ∧ (keptR 9 (.cells true 0 [nI w, nI h, slQ 0 2 a.length])) ∧ (keptR 9 (.cells true 0 [nI w, nI h, nI t, .iface (cs.length + 1) (.agg ⟨(cs.flatMap cellC)⟩)])) ∧ (keptR 9 (.cells true 0 [nI m.up.conc, nI m.up.thick, nI m.up.ridge, nI m.up.press, nI m.down.conc, nI m.down.thick, nI m.down.ridge, nI m.down.press])) ∧ True) ∧ ((some (.cells true 4 (((((runL w h a ll t cs m x4).flatMap chD).drop 0).take ((runL w h a ll t cs m x4).length * 4)) ++ ((([nI w, nI h, nI ((t + (x4 : Int)) + 1), .iface ((stepL w h a (ll.getD x4 []) (runC w h a ll cs m x4)).length + 1) (.agg ⟨((agL a m (stepL w h a (ll.getD x4 []) (runC w h a ll cs m x4)) x6).flatMap cellC)⟩)] : List Value).drop 0).take (1 * 4))) : KObj) = some (.cells true 4 ((runL w h a ll t cs m x4').flatMap chD) : KObj) ∧ belowO 9 (.cells true 4 ((runL w h a ll t cs m x4').flatMap chD) : KObj) = true) ∧ True) ∧ (True)))))))))))))))) ∧ ((decide (((x4 : Int) : Int) < ((ll.length : Nat) : Int))) = false → (true = true ∧ wk (.tuple #[slQ 9 1 (runL w h a ll t cs m x4).length, nI 0] : Value) (rn (sg 3 [(3, 9)]) 3 (.tuple #[slQ 3 1 (runL w h a ll t cs m ll.length).length, nI 0] : Value)) ∧ ((some (.cells true 4 ((runL w h a ll t cs m x4).flatMap chD) : KObj) = some (.cells true 4 ((runL w h a ll t cs m ll.length).flatMap chD) : KObj) ∧ belowO 3 (.cells true 4 ((runL w h a ll t cs m ll.length).flatMap chD) : KObj) = true) ∧ True)))))))))))))))))
theorem ERun (w h : Int) (a : List Bool) (ll : List (List Flow)) (t : Int) (cs : List Cell) (m : Rates) : vF prog msk (dm 0) 100000 true 40 true 55 [.agg #[nI w, nI h, slQ 0 2 a.length], slQ 1 2 ll.length, .agg #[nI w, nI h, nI t, .slice (some ⟨2, 0, none⟩) cs.length cs.length], .agg #[nI m.up.conc, nI m.up.thick, nI m.up.ridge, nI m.up.press, nI m.down.conc, nI m.down.thick, nI m.down.ridge, nI m.down.press]] (readsT 0 [a.flatMap boolC, flL ll, cs.flatMap cellC]) (some [])
  (.go 5 (.ans [(0, .cells false 0 (a.flatMap boolC))] (nI (errBas w h a.length)) [] (.go 2 (.fork (.go 2 (.again [])) (.go 2 (.fork (.go 1 (.again [])) (.go 2 (.ans [(0, .cells false 0 (a.flatMap boolC)), (2, .cells false 0 (cs.flatMap cellC))] (nI (errFits w h a w h t cs)) [] (.ans [] (nI (errRates m)) [] (.go 12 (.fork (.go 4 (.slot 35 (.bool true) (.go 3 (.again [])))) (.go 8 (.fork (.go 4 (.slot 35 (.bool true) (.go 3 (.again [])))) (.go 10 (.ans [(2, .cells false 0 (cs.flatMap cellC))] (slQ 7 1 cs.length) [.cells true 8 (cs.flatMap cellC)] (.go 0 (.frz [39] (.go 6 (.inv 3 (Nat) (0) [(9, 8)] [8, 3, 4, 5] (fun x4 => [(45, nI (x4 : Int)), (12, slQ 9 1 (runL w h a ll t cs m x4).length), (4, .pointer (some ⟨3, 0, none⟩)), (7, .pointer (some ⟨5, 0, none⟩)), (43, slQ 1 2 ll.length), (44, nI ((ll.length : Nat) : Int))]) (fun x4 => [(8, false, .dead), (3, true, .cells true 0 [nI w, nI h, slQ 0 2 a.length]), (4, true, .cells true 0 [nI w, nI h, nI t, .iface (cs.length + 1) (.agg ⟨(cs.flatMap cellC)⟩)]), (5, true, .cells true 0 [nI m.up.conc, nI m.up.thick, nI m.up.ridge, nI m.up.press, nI m.down.conc, nI m.down.thick, nI m.down.ridge, nI m.down.press])]) (fun x4 => [(true, .cells true 4 ((runL w h a ll t cs m x4).flatMap chD))]) (fun x4 => []) (fun x4 => (x4 ≤ List.length ll)) (fun x4 => (List.length ll - x4)) (fun x4 => .go 0 (.fork (.need (.val (.iface ((ll.getD x4 []).length + 1) (.agg ⟨((ll.getD x4 []).flatMap flowC)⟩)) (.go 6 (.slot 55 (nI ((((runL w h a ll t cs m x4).length : Nat) : Int) - 1)) (.need (.val (.agg #[nI w, nI h, nI (t + (x4 : Int)), .iface ((runC w h a ll cs m x4).length + 1) (.agg ⟨((runC w h a ll cs m x4).flatMap cellC)⟩)]) (.go 0 (.ans [(0, .cells false 0 (a.flatMap boolC))] (.tuple #[.agg #[nI w, nI h, nI ((t + (x4 : Int)) + 1), slQ 11 1 (stepL w h a (ll.getD x4 []) (runC w h a ll cs m x4)).length], nI 0]) [.cells true 8 ((stepL w h a (ll.getD x4 []) (runC w h a ll cs m x4)).flatMap cellC)] (.go 6 (.fork (.go 2 (.again [])) (.go 3 (.inv 3 (Nat) (0) [] [11, 3, 5, 10] (fun x6 => [(67, nI (x6 : Int)), (44, nI ((ll.length : Nat) : Int)), (43, slQ 1 2 ll.length), (7, .pointer (some ⟨5, 0, none⟩)), (4, .pointer (some ⟨3, 0, none⟩)), (12, slQ 9 1 (runL w h a ll t cs m x4).length), (45, nI (x4 : Int)), (14, .iface ((ll.getD x4 []).length + 1) (.agg ⟨((ll.getD x4 []).flatMap flowC)⟩)), (15, .pointer (some ⟨10, 0, none⟩)), (16, nI 0), (65, slQ 11 1 (stepL w h a (ll.getD x4 []) (runC w h a ll cs m x4)).length), (66, nI (((stepL w h a (ll.getD x4 []) (runC w h a ll cs m x4)).length : Nat) : Int))]) (fun x6 => [(11, true, .cells true 8 ((agL a m (stepL w h a (ll.getD x4 []) (runC w h a ll cs m x4)) x6).flatMap cellC)), (3, true, .cells true 0 [nI w, nI h, slQ 0 2 a.length]), (5, true, .cells true 0 [nI m.up.conc, nI m.up.thick, nI m.up.ridge, nI m.up.press, nI m.down.conc, nI m.down.thick, nI m.down.ridge, nI m.down.press]), (10, true, .cells true 0 [nI w, nI h, nI ((t + (x4 : Int)) + 1), slQ 11 1 (stepL w h a (ll.getD x4 []) (runC w h a ll cs m x4)).length])]) (fun x6 => []) (fun x6 => []) (fun x6 => (x6 ≤ List.length a)) (fun x6 => (List.length a - x6)) (fun x6 => .go 0 (.fork (.go 0 (.need (.val (.agg #[nI ((agL a m (stepL w h a (ll.getD x4 []) (runC w h a ll cs m x4)) x6).getD x6 zeroC).conc.lo, nI ((agL a m (stepL w h a (ll.getD x4 []) (runC w h a ll cs m x4)) x6).getD x6 zeroC).conc.hi, nI ((agL a m (stepL w h a (ll.getD x4 []) (runC w h a ll cs m x4)) x6).getD x6 zeroC).thick.lo, nI ((agL a m (stepL w h a (ll.getD x4 []) (runC w h a ll cs m x4)) x6).getD x6 zeroC).thick.hi, nI ((agL a m (stepL w h a (ll.getD x4 []) (runC w h a ll cs m x4)) x6).getD x6 zeroC).ridge.lo, nI ((agL a m (stepL w h a (ll.getD x4 []) (runC w h a ll cs m x4)) x6).getD x6 zeroC).ridge.hi, nI ((agL a m (stepL w h a (ll.getD x4 []) (runC w h a ll cs m x4)) x6).getD x6 zeroC).press.lo, nI ((agL a m (stepL w h a (ll.getD x4 []) (runC w h a ll cs m x4)) x6).getD x6 zeroC).press.hi]) (.go 5 (.need (.val (.bool (a.getD x6 false)) (.go 0 (.fork (.go 4 (.ans [] (.tuple #[.agg #[nI (fAge ((agL a m (stepL w h a (ll.getD x4 []) (runC w h a ll cs m x4)) x6).getD x6 zeroC) m 1).1.conc.lo, nI (fAge ((agL a m (stepL w h a (ll.getD x4 []) (runC w h a ll cs m x4)) x6).getD x6 zeroC) m 1).1.conc.hi, nI (fAge ((agL a m (stepL w h a (ll.getD x4 []) (runC w h a ll cs m x4)) x6).getD x6 zeroC) m 1).1.thick.lo, nI (fAge ((agL a m (stepL w h a (ll.getD x4 []) (runC w h a ll cs m x4)) x6).getD x6 zeroC) m 1).1.thick.hi, nI (fAge ((agL a m (stepL w h a (ll.getD x4 []) (runC w h a ll cs m x4)) x6).getD x6 zeroC) m 1).1.ridge.lo, nI (fAge ((agL a m (stepL w h a (ll.getD x4 []) (runC w h a ll cs m x4)) x6).getD x6 zeroC) m 1).1.ridge.hi, nI (fAge ((agL a m (stepL w h a (ll.getD x4 []) (runC w h a ll cs m x4)) x6).getD x6 zeroC) m 1).1.press.lo, nI (fAge ((agL a m (stepL w h a (ll.getD x4 []) (runC w h a ll cs m x4)) x6).getD x6 zeroC) m 1).1.press.hi], nI (fAge ((agL a m (stepL w h a (ll.getD x4 []) (runC w h a ll cs m x4)) x6).getD x6 zeroC) m 1).2]) [] (.go 2 (.need (.need (.go 0 (.slot 88 (nI ((x6 : Int) + 1)) (.go 0 (.again []))))))))) (.go 0 (.slot 88 (nI ((x6 : Int) + 1)) (.go 0 (.again [])))))))))))) (.go 1 (.frz [90] (.go 0 (.need (.go 1 (.slot 93 (nI ((x4 : Int) + 1)) (.go 0 (.again [(9, 13)])))))))))))))))))))))) (.go 2 (.again [(3, 9)])))))))))))))))))))))))
  (newK ((readsT 0 [a.flatMap boolC, flL ll, cs.flatMap cellC]) : HT).n 3 (.tuple #[slQ 3 1 (runL w h a ll t cs m ll.length).length, nI 0]) [(true, .cells true 4 ((runL w h a ll t cs m ll.length).flatMap chD))]) = RRun w h a ll t cs m := by kernel_rfl
end
end Go.Proofs.Ytkkgnalgmebfjaa
/- DriftInside: a wider chart, wider flows. No condition. -/
namespace Go.Proofs.Ytkkgnalgmebfjaa
open Go Go.K
set_option maxRecDepth 100000
set_option linter.unusedVariables false
set_option linter.unusedSimpArgs false
noncomputable section
/-! ## Piles -/
def plLe (p q : Pl) : Prop := p.s ≤ q.s ∧ p.t ≤ q.t ∧ p.r ≤ q.r
def icLe (x y : Ice) : Prop := x.conc ≤ y.conc ∧ x.thick ≤ y.thick ∧ x.ridge ≤ y.ridge ∧ x.press ≤ y.press
theorem plLe.refl (p : Pl) : plLe p p := ⟨Int.le_refl _, Int.le_refl _, Int.le_refl _⟩
theorem plLe.trans {p q r : Pl} (h : plLe p q) (k : plLe q r) : plLe p r := ⟨Int.le_trans h.1 k.1, Int.le_trans h.2.1 k.2.1, Int.le_trans h.2.2 k.2.2⟩
theorem addP_up {q : Pl} {y : Ice} (h : 0 ≤ y.conc) : plLe q (addP q y) := by
  unfold addP
  split
  · exact plLe.refl q
  · exact ⟨by show q.s ≤ q.s + y.conc; omega, Int.le_max_left .., Int.le_max_left ..⟩
theorem addP_mono {p q : Pl} {x y : Ice} (h : plLe p q) (hx : 0 ≤ x.conc) (hxy : icLe x y) : plLe (addP p x) (addP q y) := by
  by_cases h0 : x.conc = 0
  · rw [show addP p x = p from if_pos h0]
    exact h.trans (addP_up (by have := hxy.1; omega))
  · have h1 : ¬ y.conc = 0 := by have := hxy.1; omega
    rw [show addP p x = ⟨p.s + x.conc, max p.t x.thick, max p.r x.ridge⟩ from if_neg h0, show addP q y = ⟨q.s + y.conc, max q.t y.thick, max q.r y.ridge⟩ from if_neg h1]
    obtain ⟨a, b, c⟩ := h
    obtain ⟨d, e, f, _⟩ := hxy
    refine ⟨?_, ?_, ?_⟩ <;> dsimp only
    · omega
    · exact Int.max_le.2 ⟨Int.le_trans b (Int.le_max_left ..), Int.le_trans e (Int.le_max_right ..)⟩
    · exact Int.max_le.2 ⟨Int.le_trans c (Int.le_max_left ..), Int.le_trans f (Int.le_max_right ..)⟩
theorem tdiv_mono {a b d : Int} (h : 0 ≤ a) (hab : a ≤ b) (hd : 0 < d) : Int.tdiv a d ≤ Int.tdiv b d := by
  rw [Int.tdiv_eq_ediv_of_nonneg h, Int.tdiv_eq_ediv_of_nonneg (by omega)]
  exact Int.ediv_le_ediv hd hab
theorem tell_mono {p q : Pl} (h : plLe p q) : icLe (tellP p) (tellP q) := by
  obtain ⟨a, b, c⟩ := h
  have ho : overP p ≤ overP q := by unfold overP; omega
  have h0 : 0 ≤ overP p := by unfold overP; omega
  have d1 := tdiv_mono h0 ho (d := 10) (by decide)
  have d2 := tdiv_mono h0 ho (d := 5) (by decide)
  have d3 := tdiv_mono (a := overP p + 25 - 1) (b := overP q + 25 - 1) (d := 25) (by omega) (by omega) (by decide)
  refine ⟨?_, ?_, ?_, ?_⟩
  · show p.s - overP p ≤ q.s - overP q
    unfold overP; omega
  · show min _ 400 ≤ min _ 400
    omega
  · show min _ 100 ≤ min _ 100
    omega
  · show min _ 3 ≤ min _ 3
    omega
theorem tell_right {m : Nat} {p : Pl} (h : plOk m p) : rightI (tellP p) := by
  obtain ⟨⟨a, b⟩, ⟨c, d⟩, e, f⟩ := h
  have h0 : 0 ≤ overP p := by unfold overP; omega
  have d1 := tdiv_bd (d := 10) h0 (by decide)
  have d2 := tdiv_bd (d := 5) h0 (by decide)
  have d3 := tdiv_bd (o := overP p + 25 - 1) (d := 25) (by omega) (by decide)
  refine ⟨⟨?_, ?_⟩, ⟨?_, ?_⟩, ⟨?_, ?_⟩, ?_, ?_⟩
  · show 0 ≤ p.s - overP p; unfold overP; omega
  · show p.s - overP p ≤ 100; unfold overP; omega
  · show 0 ≤ min _ 400; omega
  · show min _ 400 ≤ 400; omega
  · show 0 ≤ min _ 100; omega
  · show min _ 100 ≤ 100; omega
  · show 0 ≤ min _ 3; omega
  · show min _ 3 ≤ 3; omega
/-! ## Flows -/
theorem inMv_mem {f : Flow} (hf : rightF f) {m : Move} (h : inMv f m = true) : m ∈ movesF f := by
  unfold inMv at h
  simp only [Bool.and_eq_true, decide_eq_true_eq] at h
  obtain ⟨⟨h1, h2⟩, h3, h4⟩ := h
  have key : ∀ j : Nat, (m.dy - (endA f).dy).toNat < j → m ∈ mvTo f j := by
    intro j
    induction j with
    | zero => intro h; omega
    | succ j ih =>
      intro h
      rcases Nat.lt_or_ge (m.dy - (endA f).dy).toNat j with q | q
      · exact List.mem_append.2 (.inl (ih q))
      · refine List.mem_append.2 (.inr ?_)
        unfold mvRow tabP
        refine List.mem_map.2 ⟨(m.dx - (endA f).dx).toNat, ?_, ?_⟩
        · rw [List.mem_range]; unfold nxF; omega
        · obtain ⟨dx, dy⟩ := m
          have e1 : (endA f).dx + (((dx - (endA f).dx).toNat : Nat) : Int) = dx := by dsimp only at *; omega
          have e2 : (endA f).dy + ((j : Nat) : Int) = dy := by dsimp only at *; omega
          rw [e1, e2]
  exact key (nyF f) (by unfold nyF; omega)
theorem TG_ne {w h : Int} {a : List Bool} {l : List Flow} {k : Nat} (b : BasOk w h a.length) (hc : 0 ≤ (k : Int) ∧ (k : Int) < w * h) (hf : rightF (l.getD k zeroF)) : TG w h a l k ≠ [] := fun q => by
  have hm := movesF_bd hf
  have := (TG_mem (a := a) (l := l) b hc (t := targ w h a (k : Int) ((movesF (l.getD k zeroF)).getD 0 zeroM))).2 ⟨_, getD_mem (by omega), rfl⟩
  rw [q] at this; cases this
/-! ## Charts -/
theorem may_get {w h : Int} {a : List Bool} {l : List Flow} {cs : List Cell} (b : BasOk w h a.length) {k : Nat} (ha : a.getD k false = false) (T : Nat) :
    (mayTo w h a l cs (k + 1)).getD T zeroP = if (T : Int) ∈ TG w h a l k then addP ((mayTo w h a l cs k).getD T zeroP) (hiI (cs.getD k zeroC)) else (mayTo w h a l cs k).getD T zeroP := by
  have e1 : mayTo w h a l cs (k + 1) = addTo (mayTo w h a l cs k) (TG w h a l k) (hiI (cs.getD k zeroC)) := if_neg (by rw [ha]; exact Bool.false_ne_true)
  rw [e1]
  exact addTo_get TG_lt (fun s hs => by rw [mayTo_len]; exact TG_bd b hs)
theorem must_get {w h : Int} {a : List Bool} {l : List Flow} {cs : List Cell} (b : BasOk w h a.length) {k : Nat} (ha : a.getD k false = false) (hne : TG w h a l k ≠ []) (T : Nat) :
    (mustTo w h a l cs (k + 1)).getD T zeroP = if (TG w h a l k).length = 1 ∧ (TG w h a l k).getD 0 0 = (T : Int) then addP ((mustTo w h a l cs k).getD T zeroP) (loI (cs.getD k zeroC)) else (mustTo w h a l cs k).getD T zeroP := by
  have e1 : mustTo w h a l cs (k + 1) = if (TG w h a l k).length = 1 then addAt (mustTo w h a l cs k) ((TG w h a l k).getD 0 0) (loI (cs.getD k zeroC)) else mustTo w h a l cs k := if_neg (by rw [ha]; exact Bool.false_ne_true)
  rw [e1]
  by_cases q : (TG w h a l k).length = 1
  · have hm : (TG w h a l k).getD 0 0 ∈ TG w h a l k := getD_mem (by omega)
    have hb := TG_bd b hm
    rw [if_pos q]
    unfold addAt
    rw [getD_set (by rw [mustTo_len]; omega)]
    by_cases q2 : T = Int.toNat ((TG w h a l k).getD 0 0)
    · rw [if_pos q2, if_pos ⟨q, by omega⟩, q2]
    · rw [if_neg q2, if_neg (fun h => q2 (by omega))]
  · rw [if_neg q, if_neg (fun h => q h.1)]
theorem lo_ok {c : Cell} (h : rightC c) : 0 ≤ (loI c).conc := h.1.1
theorem hi_ok {c : Cell} (h : rightC c) : 0 ≤ (hiI c).conc := by
  obtain ⟨a1, a2, a3, a4⟩ := h.1
  unfold hiI; dsimp only; omega
theorem must_may {w h : Int} {a : List Bool} {l : List Flow} {cs : List Cell} (o : StepOk w h a l cs) (T : Nat) : ∀ {k : Nat}, k ≤ cs.length → plLe ((mustTo w h a l cs k).getD T zeroP) ((mayTo w h a l cs k).getD T zeroP)
  | 0, _ => plLe.refl _
  | k + 1, hk => by
    have ih := must_may o T (k := k) (by omega)
    have hn := o.b.n1
    have := o.n
    have hc : 0 ≤ (k : Int) ∧ (k : Int) < w * h := by omega
    cases ha : a.getD k false with
    | true => rw [show mustTo w h a l cs (k + 1) = mustTo w h a l cs k from if_pos ha, show mayTo w h a l cs (k + 1) = mayTo w h a l cs k from if_pos ha]; exact ih
    | false =>
      have hce := o.ce (k := k) (by omega)
      rw [may_get o.b ha, must_get o.b ha (TG_ne o.b hc (o.fl (by omega)))]
      by_cases q : (TG w h a l k).length = 1 ∧ (TG w h a l k).getD 0 0 = (T : Int)
      · have hm : (T : Int) ∈ TG w h a l k := by rw [← q.2]; exact getD_mem (by omega)
        rw [if_pos q, if_pos hm]
        obtain ⟨⟨a1, a2, a3, a4⟩, ⟨b1, b2, b3, b4⟩, ⟨c1, c2, c3, c4⟩, ⟨d1, d2, d3, d4⟩⟩ := hce
        exact addP_mono ih a1 ⟨a3, b3, c3, d3⟩
      · rw [if_neg q]
        split
        · exact ih.trans (addP_up (hi_ok hce))
        · exact ih
theorem step_right {w h : Int} {a : List Bool} {l : List Flow} {cs : List Cell} (o : StepOk w h a l cs) (k : Nat) : rightC (stepC w h a l cs k) := by
  have h1 := tell_mono (must_may o k (Nat.le_refl cs.length))
  have h2 := tell_right (mustTo_ok o (Nat.le_refl cs.length) k)
  have h3 := tell_right (mayTo_ok o (Nat.le_refl cs.length) k)
  obtain ⟨a1, a2, a3, a4⟩ := h1
  obtain ⟨b1, b2, b3, b4⟩ := h2
  obtain ⟨c1, c2, c3, c4⟩ := h3
  exact ⟨⟨b1.1, b1.2, a1, c1.2⟩, ⟨b2.1, b2.2, a2, c2.2⟩, ⟨b3.1, b3.2, a3, c3.2⟩, b4.1, b4.2, a4, c4.2⟩
/-! ## What is made wider -/
theorem chg_0 {r h : Int} (hr : 0 ≤ r) (hh : 0 ≤ h) : 0 ≤ chg r h := by
  unfold chg
  have := Int.mul_nonneg hr hh
  omega
theorem ageS_ok {s : Span} {u d h m : Int} (hs : rightSp s m) (hu : 0 ≤ u) (hd : 0 ≤ d) (hh : 0 ≤ h) : rightSp (ageS s u d h m) m ∧ insS s (ageS s u d h m) := by
  have h1 := chg_0 hu hh
  have h2 := chg_0 hd hh
  unfold ageS rightSp insS at *
  dsimp only
  omega
theorem ageC_ok {c : Cell} {m : Rates} {h : Int} (hc : rightC c) (hm : rightR m) (hh : 0 ≤ h) : rightC (ageC c m h) ∧ insC c (ageC c m h) := by
  obtain ⟨c1, c2, c3, c4⟩ := hc
  obtain ⟨⟨u1, u2, u3, u4⟩, d1, d2, d3, d4⟩ := hm
  have r1 := ageS_ok c1 u1.1 d1.1 hh
  have r2 := ageS_ok c2 u2.1 d2.1 hh
  have r3 := ageS_ok c3 u3.1 d3.1 hh
  have r4 := ageS_ok c4 u4.1 d4.1 hh
  exact ⟨⟨r1.1, r2.1, r3.1, r4.1⟩, r1.2, r2.2, r3.2, r4.2⟩
end
end Go.Proofs.Ytkkgnalgmebfjaa
/- Drift: where a floe can be: facts of the lists. No condition. -/
namespace Go.Proofs.Ytkkgnalgmebfjaa
set_option linter.unusedSimpArgs false
open Go Go.K
set_option linter.unusedVariables false
noncomputable section
theorem mem_trues {B : List Bool} {z : Int} : z ∈ truesL B ↔ ∃ i : Nat, i < B.length ∧ B.getD i false = true ∧ (i : Int) = z := truesTo_mem
theorem memL_len (L : List Int) (n : Nat) : (memL L n).length = n := tabP_len _ _
theorem memL_get {L : List Int} {n i : Nat} (h : i < n) : (memL L n).getD i false = decide ((i : Int) ∈ L) := tab_getD _ _ _ h
theorem mem_memL {L : List Int} {n : Nat} {z : Int} : z ∈ truesL (memL L n) ↔ (0 ≤ z ∧ z < (n : Int)) ∧ z ∈ L := by
  rw [mem_trues, memL_len]
  constructor
  · rintro ⟨i, h1, h2, rfl⟩
    rw [memL_get h1] at h2
    exact ⟨⟨by omega, by omega⟩, of_decide_eq_true h2⟩
  · rintro ⟨⟨h1, h2⟩, h3⟩
    refine ⟨Int.toNat z, by omega, ?_, by omega⟩
    rw [memL_get (by omega)]
    exact decide_eq_true (by rw [Int.toNat_of_nonneg h1]; exact h3)
theorem tgts_mem {w h : Int} {a : List Bool} (b : BasOk w h a.length) {c : Int} {f : Flow} {z : Int} : z ∈ tgts w h a c f ↔ (0 ≤ z ∧ z < (a.length : Int)) ∧ z ∈ tgL w h a c f := by
  have hn : Int.toNat (w * h) = a.length := by have := b.n1; omega
  unfold tgts goesL
  rw [hn]
  exact mem_memL
structure FloeOk (w h : Int) (a : List Bool) (ll : List (List Flow)) (o n : Nat) (c : Int) : Prop where
  b : BasOk w h a.length
  n48 : n ≤ 48
  fl : ∀ i, i < n → (ll.getD (o + i) []).length = a.length ∧ ∀ f ∈ ll.getD (o + i) [], rightF f
  sea : seaB a c = true
theorem sea_bd {a : List Bool} {c : Int} (h : seaB a c = true) : 0 ≤ c ∧ c < (a.length : Int) := by
  unfold seaB at h
  rw [Bool.and_eq_true, decide_eq_true_iff] at h
  exact h.1
theorem sea_land {a : List Bool} {c : Int} (h : seaB a c = true) : a.getD (Int.toNat c) false = false := by
  unfold seaB at h
  rw [Bool.and_eq_true] at h
  simpa using h.2
theorem FloeOk.bd {w h : Int} {a : List Bool} {ll : List (List Flow)} {o n : Nat} {c : Int} (k : FloeOk w h a ll o n c) : 0 ≤ c ∧ c < (a.length : Int) := sea_bd k.sea
theorem FloeOk.n1 {w h : Int} {a : List Bool} {ll : List (List Flow)} {o n : Nat} {c : Int} (k : FloeOk w h a ll o n c) : a.length ≤ 1024 ∧ 1 ≤ a.length := by
  have h1 := k.b.n1
  have h2 := k.b.p1
  have := k.bd
  omega
theorem errBas_iff {w h : Int} {n : Nat} (b : BasOk w h n) : errBas w h n = 0 := by
  unfold errBas
  rw [if_pos ⟨b.w1, b.h1, b.p1⟩, if_pos b.n1]
end
end Go.Proofs.Ytkkgnalgmebfjaa
/- Drift: Reach. No condition. -/
namespace Go.Proofs.Ytkkgnalgmebfjaa
open Go Go.K
set_option maxRecDepth 100000
set_option linter.unusedVariables false
set_option linter.unusedSimpArgs false
noncomputable section
attribute [local irreducible] vF
theorem wk_QF {id n m : Nat} (h : m = n) (h0 : 0 < n) : wk (.slice (some ⟨id, 0, none⟩) n n) (.slice (some ⟨id, 0, some 1⟩) m m) := by subst h; exact wk_Q h0
end
end Go.Proofs.Ytkkgnalgmebfjaa
/- Drift: where a floe can have been: the two ways agree. No condition. -/
namespace Go.Proofs.Ytkkgnalgmebfjaa
set_option linter.unusedSimpArgs false
open Go Go.K
set_option linter.unusedVariables false
noncomputable section
/-! ## A list of some cells -/
/-! ## Back and forth -/
theorem targ_seaB {w h : Int} {a : List Bool} (b : BasOk w h a.length) {c : Int} (hs : seaB a c = true) (m : Move) : seaB a (targ w h a c m) = true := by
  have hbd := sea_bd hs
  have hn := b.n1
  have ht := targ_bd (a := a) (w := w) (h := h) (c := c) (by omega) m
  by_cases k : tgIn w h a c m
  · have e := targ_1 k
    rw [seaB_1 (by omega), e]
    have := k.2.2
    rw [this]; rfl
  · rw [targ_0 k]; exact hs
theorem tgts_sea {w h : Int} {a : List Bool} (b : BasOk w h a.length) {c : Int} {f : Flow} (hs : seaB a c = true) {t : Int} (ht : t ∈ tgts w h a c f) : seaB a t = true := by
  have h1 := ((tgts_mem b).1 ht).2
  unfold tgL at h1
  obtain ⟨m, _, rfl⟩ := List.mem_map.1 h1
  exact targ_seaB b hs m
end
end Go.Proofs.Ytkkgnalgmebfjaa
/- DriftHolds: a chart that holds a field holds what becomes of it. No condition. -/
namespace Go.Proofs.Ytkkgnalgmebfjaa
set_option linter.unusedSimpArgs false
open Go Go.K
set_option linter.unusedVariables false
noncomputable section
theorem pl_get {w h : Int} {a : List Bool} {xs : List Ice} {ms : List Move} (b : BasOk w h a.length) {k : Nat} (hk : k < a.length) (ha : a.getD k false = false) (T : Nat) :
    (plTo w h a xs ms (k + 1)).getD T zeroP = if targ w h a (k : Int) (ms.getD k zeroM) = (T : Int) then addP ((plTo w h a xs ms k).getD T zeroP) (xs.getD k zeroI) else (plTo w h a xs ms k).getD T zeroP := by
  have hn := b.n1
  have hb := targ_bd (a := a) (c := (k : Int)) (w := w) (h := h) ⟨by omega, by omega⟩ (ms.getD k zeroM)
  have hl := plTo_len w h a xs ms k
  rw [plTo_2 ha, getD_set (by omega)]
  by_cases q : targ w h a (k : Int) (ms.getD k zeroM) = (T : Int)
  · rw [if_pos q, q, Int.toNat_natCast, if_pos rfl]
  · rw [if_neg q, if_neg (by omega)]
theorem holds_pl {w h : Int} {a : List Bool} {l : List Flow} {cs : List Cell} {xs : List Ice} {ms : List Move} (o : StepOk w h a l cs) (hx : ∀ k, k < a.length → rightI (xs.getD k zeroI) ∧ hasC (cs.getD k zeroC) (xs.getD k zeroI))
    (hm : ∀ k, k < a.length → inMv (l.getD k zeroF) (ms.getD k zeroM) = true) (T : Nat) : ∀ {k : Nat}, k ≤ a.length →
    plLe ((mustTo w h a l cs k).getD T zeroP) ((plTo w h a xs ms k).getD T zeroP) ∧ plLe ((plTo w h a xs ms k).getD T zeroP) ((mayTo w h a l cs k).getD T zeroP)
  | 0, _ => ⟨plLe.refl _, plLe.refl _⟩
  | k + 1, hk => by
    obtain ⟨i1, i2⟩ := holds_pl o hx hm T (k := k) (by omega)
    have hn := o.b.n1
    have hcl := o.n
    have hc : 0 ≤ (k : Int) ∧ (k : Int) < w * h := by omega
    cases ha : a.getD k false with
    | true => rw [show mustTo w h a l cs (k + 1) = mustTo w h a l cs k from if_pos ha, show mayTo w h a l cs (k + 1) = mayTo w h a l cs k from if_pos ha, plTo_1 ha]; exact ⟨i1, i2⟩
    | false =>
      have hfl := o.fl (k := k) (by omega)
      have hne := TG_ne (a := a) (l := l) o.b hc hfl
      obtain ⟨⟨x1, x2, x3, x4⟩, h1, h2, h3, h4⟩ := hx k (by omega)
      have hce := o.ce (k := k) (by omega)
      have htg : targ w h a (k : Int) (ms.getD k zeroM) ∈ TG w h a l k := (TG_mem o.b hc).2 ⟨_, inMv_mem hfl (hm k (by omega)), rfl⟩
      have hlo : icLe (loI (cs.getD k zeroC)) (xs.getD k zeroI) := ⟨h1.1, h2.1, h3.1, h4.1⟩
      have hhi : icLe (xs.getD k zeroI) (hiI (cs.getD k zeroC)) := ⟨h1.2, h2.2, h3.2, h4.2⟩
      rw [may_get o.b ha, must_get o.b ha hne, pl_get o.b (by omega) ha]
      refine ⟨?_, ?_⟩
      · by_cases q : (TG w h a l k).length = 1 ∧ (TG w h a l k).getD 0 0 = (T : Int)
        · have := (one_TG TG_lt hne).2 q _ htg
          rw [if_pos q, if_pos this]
          exact addP_mono i1 (lo_ok hce) hlo
        · rw [if_neg q]
          split
          · exact i1.trans (addP_up x1.1)
          · exact i1
      · by_cases q : targ w h a (k : Int) (ms.getD k zeroM) = (T : Int)
        · rw [if_pos q, if_pos (by rw [← q]; exact htg)]
          exact addP_mono i2 x1.1 hhi
        · rw [if_neg q]
          split
          · exact i2.trans (addP_up (hi_ok hce))
          · exact i2
theorem drift_len (w h : Int) (a : List Bool) (xs : List Ice) (ms : List Move) : (driftI w h a xs ms).length = a.length := by unfold driftI; rw [List.length_map, plTo_len]
theorem drift_get {w h : Int} {a : List Bool} {xs : List Ice} {ms : List Move} {T : Nat} (hT : T < a.length) : (driftI w h a xs ms).getD T zeroI = tellP ((plTo w h a xs ms xs.length).getD T zeroP) := by
  unfold driftI
  exact getD_map (by rw [plTo_len]; exact hT)
/-- A chart after a step holds what becomes of a field that the chart held. -/
theorem drift_has {w h : Int} {a : List Bool} {l : List Flow} {cs : List Cell} {xs : List Ice} {ms : List Move} (o : StepOk w h a l cs) (hxl : xs.length = a.length) (hx : ∀ k, k < a.length → rightI (xs.getD k zeroI) ∧ hasC (cs.getD k zeroC) (xs.getD k zeroI))
    (hm : ∀ k, k < a.length → inMv (l.getD k zeroF) (ms.getD k zeroM) = true) {T : Nat} (hT : T < a.length) : hasC (stepC w h a l cs T) ((driftI w h a xs ms).getD T zeroI) := by
  obtain ⟨h1, h2⟩ := holds_pl o hx hm T (Nat.le_refl _)
  rw [drift_get hT, hxl]
  obtain ⟨a1, a2, a3, a4⟩ := tell_mono h1
  obtain ⟨b1, b2, b3, b4⟩ := tell_mono h2
  have hcl := o.n
  unfold stepC
  rw [hcl]
  exact ⟨⟨a1, b1⟩, ⟨a2, b2⟩, ⟨a3, b3⟩, a4, b4⟩
theorem may_land {w h : Int} {a : List Bool} {l : List Flow} {cs : List Cell} (b : BasOk w h a.length) {T : Nat} (hT : a.getD T false = true) : ∀ {k : Nat}, k ≤ a.length → (mayTo w h a l cs k).getD T zeroP = zeroP
  | 0, _ => by
    show (List.replicate a.length zeroP).getD T zeroP = zeroP
    rw [List.getD_eq_getElem?_getD, List.getElem?_replicate]; split <;> rfl
  | k + 1, hk => by
    have ih := may_land (l := l) (cs := cs) b hT (k := k) (by omega)
    cases ha : a.getD k false with
    | true => rw [show mayTo w h a l cs (k + 1) = mayTo w h a l cs k from if_pos ha]; exact ih
    | false =>
      rw [may_get b ha, if_neg (fun hm => ?_)]
      · exact ih
      · have hs : seaB a (k : Int) = true := by rw [seaB_1 (by omega), Int.toNat_natCast, ha]; rfl
        have h2 := sea_land (tgts_sea b hs hm)
        rw [Int.toNat_natCast, hT] at h2
        cases h2
theorem step_land {w h : Int} {a : List Bool} {l : List Flow} {cs : List Cell} (o : StepOk w h a l cs) {T : Nat} (hT : a.getD T false = true) : stepC w h a l cs T = zeroC := by
  have h1 := may_land (l := l) (cs := cs) o.b hT (k := a.length) (Nat.le_refl _)
  have h2 := must_may o T (k := cs.length) (Nat.le_refl _)
  have h3 := mustTo_ok o (k := cs.length) (Nat.le_refl _) T
  unfold stepC
  rw [o.n] at h2 h3 ⊢
  rw [h1] at h2 ⊢
  obtain ⟨⟨p1, _⟩, ⟨p2, _⟩, p3, _⟩ := h3
  obtain ⟨q1, q2, q3⟩ := h2
  have e : (mustTo w h a l cs a.length).getD T zeroP = zeroP := by
    generalize (mustTo w h a l cs a.length).getD T zeroP = p at *
    obtain ⟨s, t, r⟩ := p
    have z1 : s = 0 := Int.le_antisymm q1 p1
    have z2 : t = 0 := Int.le_antisymm q2 p2
    have z3 : r = 0 := Int.le_antisymm q3 p3
    rw [z1, z2, z3]; rfl
  rw [e]; rfl
/-! ## An hour -/
theorem fAge_h {c : Cell} {m : Rates} (hc : rightC c) (hm : rightR m) : fAge c m 1 = (ageC c m 1, 0) := by
  unfold fAge
  rw [first2_2 (errCell_iff.2 hc), if_pos (errRates_iff.2 hm), if_pos (by decide)]
theorem ptC_ok {x : Ice} (h : rightI x) : rightC (ptC x) := by
  obtain ⟨a, b, c, d⟩ := h
  exact ⟨⟨a.1, a.2, Int.le_refl _, a.2⟩, ⟨b.1, b.2, Int.le_refl _, b.2⟩, ⟨c.1, c.2, Int.le_refl _, c.2⟩, d.1, d.2, Int.le_refl _, d.2⟩
theorem age_has {c : Cell} {x z : Ice} {m : Rates} (hx : hasC c x) (hz : hasC (ageC (ptC x) m 1) z) : hasC (ageC c m 1) z := by
  unfold hasC hasS ageC ageS ptC cellOf at *
  dsimp only at *
  omega
theorem rightC_ok {c : Cell} (h : rightC c) : okC c := by
  obtain ⟨a, b, c, d⟩ := h
  unfold rightSp at *
  unfold okC
  omega
theorem grY_has {L : List Int} {p : Int} {y : Cell} (h : okC y) : hasC y (grY L p y) := by
  unfold okC at h
  have d1 := dN_bd L p (m := y.conc.hi - y.conc.lo + 1) (by omega)
  have d2 := dN_bd L (p + 1) (m := y.thick.hi - y.thick.lo + 1) (by omega)
  have d3 := dN_bd L (p + 1 + 1) (m := y.ridge.hi - y.ridge.lo + 1) (by omega)
  have d4 := dN_bd L (p + 1 + 1 + 1) (m := y.press.hi - y.press.lo + 1) (by omega)
  unfold hasC hasS grY
  dsimp only
  omega
theorem has_right {c : Cell} {x : Ice} (hc : rightC c) (hx : hasC c x) : rightI x := by
  unfold rightC rightSp at hc
  unfold hasC hasS at hx
  unfold rightI
  omega
/-! ## Runs -/
structure RunOk (w h : Int) (a : List Bool) (ll : List (List Flow)) (t : Int) (cs : List Cell) (m : Rates) : Prop where
  b : BasOk w h a.length
  n48 : ll.length ≤ 48
  r : rightR m
  fl : ∀ k, k < ll.length → (ll.getD k []).length = a.length ∧ ∀ f ∈ ll.getD k [], rightF f
  cl : cs.length = a.length
  c : ∀ k, k < a.length → rightC (cs.getD k zeroC) ∧ (a.getD k false = true → cs.getD k zeroC = zeroC)
  t0 : 0 ≤ t
  t1 : t + (ll.length : Int) ≤ 10000
theorem agL_len (a : List Bool) (m : Rates) (cs : List Cell) (y : Nat) : (agL a m cs y).length = cs.length := tabP_len _ _
theorem agL_get {a : List Bool} {m : Rates} {cs : List Cell} {y k : Nat} (hk : k < cs.length) : (agL a m cs y).getD k zeroC = if k < y ∧ a.getD k false = false then (fAge (cs.getD k zeroC) m 1).1 else cs.getD k zeroC := tabP_get hk
theorem stepL_len (w h : Int) (a : List Bool) (l : List Flow) (cs : List Cell) : (stepL w h a l cs).length = a.length := tabP_len _ _
theorem stepL_get {w h : Int} {a : List Bool} {l : List Flow} {cs : List Cell} {k : Nat} (hk : k < a.length) : (stepL w h a l cs).getD k zeroC = stepC w h a l cs k := tabP_get hk
theorem runC_len (w h : Int) (a : List Bool) (ll : List (List Flow)) {cs : List Cell} (m : Rates) (hc : cs.length = a.length) : ∀ k, (runC w h a ll cs m k).length = a.length
  | 0 => hc
  | k + 1 => by show (agL _ _ _ _).length = _; rw [agL_len, stepL_len]
theorem run_ok {w h : Int} {a : List Bool} {ll : List (List Flow)} {t : Int} {cs : List Cell} {m : Rates} (o : RunOk w h a ll t cs m) : ∀ {i : Nat}, i ≤ ll.length →
    (∀ k, k < a.length → rightC ((runC w h a ll cs m i).getD k zeroC) ∧ (a.getD k false = true → (runC w h a ll cs m i).getD k zeroC = zeroC)) ∧ (i < ll.length → StepOk w h a (ll.getD i []) (runC w h a ll cs m i) ∧ errFits w h a w h (t + (i : Int)) (runC w h a ll cs m i) = 0)
  | i, hi => by
    have base : (∀ k, k < a.length → rightC ((runC w h a ll cs m i).getD k zeroC) ∧ (a.getD k false = true → (runC w h a ll cs m i).getD k zeroC = zeroC)) → (i < ll.length → StepOk w h a (ll.getD i []) (runC w h a ll cs m i) ∧ errFits w h a w h (t + (i : Int)) (runC w h a ll cs m i) = 0) := fun hc hlt => by
      have ht := o.t0
      have ht1 := o.t1
      obtain ⟨f1, f2⟩ := o.fl i hlt
      have e2 := fits_0 (t := t + (i : Int)) ⟨o.b.w1, o.b.h1, o.b.p1, by omega⟩ o.b.n1 (runC_len w h a ll m o.cl i) hc
      exact ⟨(stepOk (flows_ok (errBas_iff o.b) f1 f2) e2).1, e2⟩
    match i, hi, base with
    | 0, _, base => exact ⟨o.c, base o.c⟩
    | i + 1, hi, base =>
      obtain ⟨_, h2⟩ := run_ok o (i := i) (by omega)
      obtain ⟨so, _⟩ := h2 (by omega)
      have key : ∀ k, k < a.length → rightC ((runC w h a ll cs m (i + 1)).getD k zeroC) ∧ (a.getD k false = true → (runC w h a ll cs m (i + 1)).getD k zeroC = zeroC) := fun k hk => by
        have e : (runC w h a ll cs m (i + 1)).getD k zeroC = if k < a.length ∧ a.getD k false = false then (fAge (stepC w h a (ll.getD i []) (runC w h a ll cs m i) k) m 1).1 else stepC w h a (ll.getD i []) (runC w h a ll cs m i) k := by
          show (agL _ _ _ _).getD k zeroC = _
          rw [agL_get (by rw [stepL_len]; exact hk), stepL_get hk]
        rw [e]
        have hr := step_right so k
        cases ha : a.getD k false with
        | true =>
          rw [if_neg (fun q => by cases q.2)]
          exact ⟨hr, fun _ => step_land so ha⟩
        | false =>
          rw [if_pos ⟨hk, rfl⟩, fAge_h hr o.r]
          exact ⟨(ageC_ok hr o.r (by decide)).1, fun q => by cases q⟩
      exact ⟨key, base key⟩
theorem runL_len (w h : Int) (a : List Bool) (ll : List (List Flow)) (t : Int) (cs : List Cell) (m : Rates) (n : Nat) : (runL w h a ll t cs m n).length = n + 1 := tabP_len _ _
theorem runL_succ (w h : Int) (a : List Bool) (ll : List (List Flow)) (t : Int) (cs : List Cell) (m : Rates) (n : Nat) : runL w h a ll t cs m (n + 1) = runL w h a ll t cs m n ++ [⟨w, h, t + ((n + 1 : Nat) : Int), runC w h a ll cs m (n + 1)⟩] := tabP_succ _ _
theorem runL_get {w h : Int} {a : List Bool} {ll : List (List Flow)} {t : Int} {cs : List Cell} {m : Rates} {n k : Nat} (hk : k ≤ n) : (runL w h a ll t cs m n).getD k zeroChart = ⟨w, h, t + (k : Int), runC w h a ll cs m k⟩ := tabP_get (by omega)
theorem chD_len (c : Chart) : (chD c).length = 4 := rfl
end
end Go.Proofs.Ytkkgnalgmebfjaa
/- Drift: Run, where all is right. No condition. -/
namespace Go.Proofs.Ytkkgnalgmebfjaa
open Go Go.K
set_option maxRecDepth 100000
set_option linter.unusedVariables false
set_option linter.unusedSimpArgs false
noncomputable section
attribute [local irreducible] vF
theorem one_cells (l : List Cell) (n : Nat) : ((List.take n (List.drop 0 (l.flatMap cellC))).all fun v => one1 v) = true := by
  rw [List.all_eq_true]
  intro v hv
  have h := List.mem_of_mem_take hv
  rw [List.drop_zero] at h
  obtain ⟨c, _, h⟩ := List.mem_flatMap.1 h
  simp only [cellC, List.mem_cons, List.not_mem_nil, or_false, List.mem_append] at h
  rcases h with h | h | h | h | h | h | h | h <;> (subst h; rfl)
theorem kClone (cs : List Cell) (h0 : 0 < cs.length) (h1 : cs.length ≤ 4294967296) {H : Heap} {L : Nat} (hL : H.length = L) {id : Nat} {own : Bool} {z : Nat} (hid : H[id]? = some (.cells own z (cs.flatMap cellC))) :
    KCall prog 112 [.slice (some ⟨id, 0, none⟩) cs.length cs.length] H [] (Is (.slice (some ⟨L, 0, some 1⟩) cs.length cs.length) (H ++ [.cells true 8 (cs.flatMap cellC)])) := by
  subst hL
  refine valQ (fun i => .slice (some ⟨i, 0, some 1⟩) cs.length cs.length) (Eq.mpr (EClone cs) ?_) (plainC 0 cs) (fun n => plainC n _) rfl rfl (fun _ => rfl) hid rfl
  unfold RClone
  refine ⟨fun q => absurd q (by omega), fun _ => ⟨⟨by omega, by omega, ⟨Nat.le_refl _, Nat.le_refl _⟩, ⟨Nat.le_refl _, by rw [flat_len cellC_len]; omega⟩, one_cells _ _⟩, rfl, ?_⟩⟩
  have e : List.take (0 * 8) (List.drop 0 ([] : List Value)) ++ List.take (cs.length * 8) (List.drop 0 (cs.flatMap cellC)) = cs.flatMap cellC := by
    rw [List.drop_zero, List.drop_zero, List.take_of_length_le (l := cs.flatMap cellC) (by rw [flat_len cellC_len]; omega)]; rfl
  rw [e, Nat.zero_add]
  repeat' first | exact plainC _ _ | exact trivial | exact rfl | exact wk_refl _ | refine wkO_cells ?_ | refine wks_cons ?_ ?_ | exact wks_nil | exact wk_nil _ _ _ (.inl rfl) | (exact wk_Q (by omega)) | refine wk_tupL ?_ | refine wk_aggL ?_ | refine joinMax ?_ ?_ ?_ | refine joinMin ?_ ?_ ?_ | refine toMax ?_ | refine toMin ?_ | refine ⟨rfl, ?_⟩ | refine ⟨trivial, ?_⟩ | (refine forkD (fun h => ?_) (fun h => ?_)) | (refine forkNe (fun h => ?_) (fun h => ?_)) | (refine forkEq (fun h => ?_) (fun h => ?_)) | refine forkNot ?_ | (refine ⟨vI64 (by omega), ?_⟩) | (refine And.intro (by omega) ?_) | apply And.intro | (exact iEq (by omega)) | (exact vI64 (by omega))
theorem agL_0 (a : List Bool) (m : Rates) (cs : List Cell) : agL a m cs 0 = cs := by
  refine List.ext_getElem (agL_len ..) fun k h1 h2 => ?_
  have e := agL_get (a := a) (m := m) (y := 0) h2
  rw [if_neg (fun q => by omega), List.getD_eq_getElem?_getD, List.getD_eq_getElem?_getD, List.getElem?_eq_getElem h1, List.getElem?_eq_getElem h2] at e
  exact e
theorem agL_ext {a : List Bool} {m : Rates} {cs ds : List Cell} {y : Nat} (hl : ds.length = cs.length) (h : ∀ k, k < cs.length → ds.getD k zeroC = if k < y ∧ a.getD k false = false then (fAge (cs.getD k zeroC) m 1).1 else cs.getD k zeroC) : ds = agL a m cs y := by
  refine List.ext_getElem (by rw [hl, agL_len]) fun k h1 h2 => ?_
  have e := h k (by omega)
  rw [← agL_get (by omega), List.getD_eq_getElem?_getD, List.getD_eq_getElem?_getD, List.getElem?_eq_getElem h1, List.getElem?_eq_getElem h2] at e
  exact e
theorem agL_set {a : List Bool} {m : Rates} {cs : List Cell} {y : Nat} (hy : y < cs.length) (ha : a.getD y false = false) : (agL a m cs y).set y (fAge (cs.getD y zeroC) m 1).1 = agL a m cs (y + 1) := by
  refine agL_ext (by rw [List.length_set, agL_len]) fun k hk => ?_
  rw [getD_set (by rw [agL_len]; exact hy), agL_get hk]
  by_cases q : k = y
  · subst q; rw [if_pos rfl, if_pos ⟨by omega, ha⟩]
  · rw [if_neg q]
    by_cases q2 : k < y ∧ a.getD k false = false
    · rw [if_pos q2, if_pos ⟨by omega, q2.2⟩]
    · rw [if_neg q2, if_neg (fun q3 => q2 ⟨by omega, q3.2⟩)]
theorem agL_skip {a : List Bool} {m : Rates} {cs : List Cell} {y : Nat} (ha : a.getD y false = true) : agL a m cs y = agL a m cs (y + 1) := by
  refine agL_ext (agL_len ..) fun k hk => ?_
  rw [agL_get hk]
  by_cases q : k = y
  · subst q; rw [if_neg (fun q => by omega), if_neg (fun q => by rw [ha] at q; cases q.2)]
  · by_cases q2 : k < y ∧ a.getD k false = false
    · rw [if_pos q2, if_pos ⟨by omega, q2.2⟩]
    · rw [if_neg q2, if_neg (fun q3 => q2 ⟨by omega, q3.2⟩)]
theorem chD_b (n : Nat) (l : List Chart) : (l.flatMap chD).all (belowC n) = true := plain_flat (fun c => by show (_ && (_ && (_ && (_ && _)))) = true; rw [ceV_b]; rfl) l
theorem box_b (n : Nat) (w h t : Int) (cs : List Cell) : belowO n (.cells true 0 [.int .i64 w, .int .i64 h, .int .i64 t, ceV cs]) = true := by
  show (true && (true && (true && (belowC n (ceV cs) && true)))) = true
  rw [ceV_b]; rfl
set_option maxHeartbeats 2000000 in
theorem kRun {w h : Int} {a : List Bool} {ll : List (List Flow)} {t : Int} {cs : List Cell} {m : Rates} (o : RunOk w h a ll t cs m) {H : Heap} {L : Nat} (hL : H.length = L) {i0 i1 i2 : Nat} {o0 o1 o2 : Bool} {z0 z1 z2 : Nat} (e0 : H[i0]? = some (.cells o0 z0 (a.flatMap boolC))) (e1 : H[i1]? = some (.cells o1 z1 (flL ll))) (e2 : H[i2]? = some (.cells o2 z2 (cs.flatMap cellC))) :
    KCall prog F.drift_Run [basV w h i0 a.length, .slice (some ⟨i1, 0, some 2⟩) ll.length ll.length, .agg #[.int .i64 w, .int .i64 h, .int .i64 t, .slice (some ⟨i2, 0, none⟩) cs.length cs.length], ratesV m] H [] (Is (.tuple #[.slice (some ⟨L, 0, some 1⟩) (runL w h a ll t cs m ll.length).length (runL w h a ll t cs m ll.length).length, .int .i64 0]) (H ++ [.cells true 4 ((runL w h a ll t cs m ll.length).flatMap chD)])) := by
  subst hL
  refine valNs (fun i => .tuple #[.slice (some ⟨i, 0, some 1⟩) (runL w h a ll t cs m ll.length).length (runL w h a ll t cs m ll.length).length, .int .i64 0]) (css := [a.flatMap boolC, flL ll, cs.flatMap cellC]) (new := [.cells true 4 ((runL w h a ll t cs m ll.length).flatMap chD)]) (Eq.mpr (ERun w h a ll t cs m) ?_) ⟨plainBL 0 a, flL_b 0 ll, plainC 0 cs, trivial⟩
    ⟨⟨_, _, rfl, chD_b 0 _⟩, trivial⟩ rfl rfl (fun _ => rfl) (ids := [i0, i1, i2]) ⟨⟨_, _, e0⟩, ⟨_, _, e1⟩, ⟨_, _, e2⟩, trivial⟩ rfl
  unfold RRun
  have hb := o.b
  have hbn := hb.n1
  have hp1 := hb.p1
  have hcl := o.cl
  have h48 := o.n48
  have ht0 := o.t0
  have ht1 := o.t1
  have hwh := mul_bd hb.w1 hb.h1
  have hfit := fits_0 (t := t) ⟨hb.w1, hb.h1, hb.p1, by omega⟩ hbn o.cl o.c
  have hrt := errRates_iff.2 o.r
  have hbas := errBas_iff hb
  rw [hfit, hrt, hbas]
  refine ⟨⟨rfl, trivial⟩, fun H' _ hd => by have := kCheckBasin w h a hd.1; rw [hbas] at this; exact this, forkNe (fun q => absurd rfl q) (fun _ => forkD (fun q => absurd q (by omega)) (fun _ => ⟨⟨rfl, rfl, trivial⟩, fun H' _ hd => ?_, trivial, fun H' _ _ => by have := kCheckRates m H'; rw [hrt] at this; exact this,
    forkNe (fun q => absurd rfl q) (fun _ => forkNe (fun q => absurd rfl q) (fun _ => ⟨⟨rfl, trivial⟩, fun H' hl hd => kClone cs (by omega) (by omega) hl hd.1, rfl, Nat.zero_le _, ?_, fun _ => rfl, ?_⟩))⟩))⟩
  · have := kfits hb w h t cs hd.1 hd.2.1
    rw [hfit] at this
    exact this.wkA ⟨wk_refl _, wk_aggL ⟨wk_refl _, wk_refl _, wk_refl _, wk_R, trivial⟩, trivial⟩
  · have e : (some (KObj.cells true 4 [.int .i64 w, .int .i64 h, .int .i64 t, ceV cs]) : Option KObj) = some (.cells true 4 ((runL w h a ll t cs m 0).flatMap chD)) := by
      have : (runL w h a ll t cs m 0).flatMap chD = [.int .i64 w, .int .i64 h, .int .i64 (t + ((0 : Nat) : Int)), ceV cs] := rfl
      rw [this, show t + ((0 : Nat) : Int) = t by omega]
    repeat' first | (exact wk_QF (runL_len ..) (by omega)) | exact e | exact plainBL _ _ | exact chD_b _ _ | exact plainC _ _ | exact box_b _ _ _ _ _ | exact trivial | exact rfl | exact wk_refl _ | refine wkO_cells ?_ | refine wks_cons ?_ ?_ | exact wks_nil | exact wk_nil _ _ _ (.inl rfl) | (exact wk_Q (by omega)) | refine wk_tupL ?_ | refine wk_aggL ?_ | refine joinMax ?_ ?_ ?_ | refine joinMin ?_ ?_ ?_ | refine toMax ?_ | refine toMin ?_ | refine ⟨rfl, ?_⟩ | refine ⟨trivial, ?_⟩ | (refine forkD (fun h => ?_) (fun h => ?_)) | (refine forkNe (fun h => ?_) (fun h => ?_)) | (refine forkEq (fun h => ?_) (fun h => ?_)) | refine forkNot ?_ | (refine ⟨vI64 (by omega), ?_⟩) | (refine And.intro (by omega) ?_) | apply And.intro | (exact iEq (by omega)) | (exact vI64 (by omega))
  intro x hx
  have hrl := runL_len w h a ll t cs m x
  have hrc := runC_len w h a ll m hcl x
  refine forkD (fun k => ?_) (fun k => ?_)
  · have hlt : x < ll.length := by omega
    obtain ⟨hst, hft⟩ := (run_ok o (i := x) (by omega)).2 hlt
    obtain ⟨f1, f2⟩ := o.fl x hlt
    have hflw := flows_ok hbas f1 f2
    have hfs : fStep w h a (ll.getD x []) w h (t + (x : Int)) (runC w h a ll cs m x) = (⟨w, h, t + (x : Int) + 1, stepL w h a (ll.getD x []) (runC w h a ll cs m x)⟩, 0) := by
      unfold fStep
      rw [if_pos hflw, if_pos hft, if_neg (by omega)]
    have hsl := stepL_len w h a (ll.getD x []) (runC w h a ll cs m x)
    refine ⟨by omega, flL_at hlt (by omega), vI64 (by omega), by omega, ?_, ⟨rfl, trivial⟩, fun H' hl hd => ?_, forkNe (fun q => absurd rfl q) (fun _ => ?_)⟩
    · have := part_at (n := 4) (f := chD) (d := zeroChart) (xs := runL w h a ll t cs m x) (k := x) (c := 0) (m := 4) (off := 0 + Int.toNat ((((runL w h a ll t cs m x).length : Nat) : Int) - 1) * 4) chD_len (by omega) (by omega) (by omega)
      rw [runL_get (Nat.le_refl _)] at this
      exact this
    · have := kStepV w h a (ll.getD x []) (by omega) w h (t + (x : Int)) (runC w h a ll cs m x) hl hd.1
      rw [hfs] at this
      exact this
    have hrun : runC w h a ll cs m (x + 1) = agL a m (stepL w h a (ll.getD x []) (runC w h a ll cs m x)) a.length := rfl
    have hY := runL_succ w h a ll t cs m x
    generalize hS : stepL w h a (ll.getD x []) (runC w h a ll cs m x) = S at *
    refine ⟨rfl, Nat.zero_le _, ?_, fun _ => rfl, ?_⟩
    · rw [agL_0]
      repeat' first | exact (flV_rn _ 0 _).symm | exact (inV_rn _ 0 _).symm | exact plainBL _ _ | exact chD_b _ _ | exact plainC _ _ | exact box_b _ _ _ _ _ | exact trivial | exact rfl | exact wk_refl _ | refine wkO_cells ?_ | refine wks_cons ?_ ?_ | exact wks_nil | exact wk_nil _ _ _ (.inl rfl) | (exact wk_Q (by omega)) | refine wk_tupL ?_ | refine wk_aggL ?_ | refine joinMax ?_ ?_ ?_ | refine joinMin ?_ ?_ ?_ | refine toMax ?_ | refine toMin ?_ | refine ⟨rfl, ?_⟩ | refine ⟨trivial, ?_⟩ | (refine forkD (fun h => ?_) (fun h => ?_)) | (refine forkNe (fun h => ?_) (fun h => ?_)) | (refine forkEq (fun h => ?_) (fun h => ?_)) | refine forkNot ?_ | (refine ⟨vI64 (by omega), ?_⟩) | (refine And.intro (by omega) ?_) | apply And.intro | (exact iEq (by omega)) | (exact vI64 (by omega))
    intro y hy
    have hal := agL_len a m S y
    refine forkD (fun k2 => ?_) (fun k2 => ?_)
    · have hly : y < a.length := by omega
      have hg : (agL a m S y).getD y zeroC = S.getD y zeroC := by rw [agL_get (by omega), if_neg (fun q => by omega)]
      refine ⟨by omega, part_at (n := 8) (d := zeroC) (c := 0) cellC_len (by omega) (by omega) (by omega), by omega, boolAt hly (by omega), ?_⟩
      rw [hg]
      refine forkNot (forkB (fun ha => ?_) (fun ha => ?_))
      · refine ⟨vI64 (by omega), y + 1, by omega, by omega, rfl, ?_⟩
        rw [← agL_skip ha]
        repeat' first | exact (flV_rn _ 0 _).symm | exact (inV_rn _ 0 _).symm | exact plainBL _ _ | exact chD_b _ _ | exact plainC _ _ | exact box_b _ _ _ _ _ | exact trivial | exact rfl | exact wk_refl _ | refine wkO_cells ?_ | refine wks_cons ?_ ?_ | exact wks_nil | exact wk_nil _ _ _ (.inl rfl) | (exact wk_Q (by omega)) | refine wk_tupL ?_ | refine wk_aggL ?_ | refine joinMax ?_ ?_ ?_ | refine joinMin ?_ ?_ ?_ | refine toMax ?_ | refine toMin ?_ | refine ⟨rfl, ?_⟩ | refine ⟨trivial, ?_⟩ | (refine forkD (fun h => ?_) (fun h => ?_)) | (refine forkNe (fun h => ?_) (fun h => ?_)) | (refine forkEq (fun h => ?_) (fun h => ?_)) | refine forkNot ?_ | (refine ⟨vI64 (by omega), ?_⟩) | (refine And.intro (by omega) ?_) | apply And.intro | (exact iEq (by omega)) | (exact vI64 (by omega))
      · refine ⟨trivial, fun H' _ _ => kAge _ m 1 H', by omega, by rw [flat_len cellC_len]; omega, rfl, vI64 (by omega), y + 1, by omega, by omega, rfl, ?_⟩
        have hb1 : setl ((agL a m S y).flatMap cellC) (0 + Int.toNat ((y : Nat) : Int) * 8) (cellC (fAge (S.getD y zeroC) m 1).1) = (agL a m S (y + 1)).flatMap cellC := by
          rw [show 0 + Int.toNat ((y : Nat) : Int) * 8 = y * 8 by omega, flat_set cellC_len _ _ (by omega) _, agL_set (by omega) ha]
        repeat' first | (exact congrArg (fun q => some (KObj.cells true 8 q)) hb1) | exact (flV_rn _ 0 _).symm | exact (inV_rn _ 0 _).symm | exact plainBL _ _ | exact chD_b _ _ | exact plainC _ _ | exact box_b _ _ _ _ _ | exact trivial | exact rfl | exact wk_refl _ | refine wkO_cells ?_ | refine wks_cons ?_ ?_ | exact wks_nil | exact wk_nil _ _ _ (.inl rfl) | (exact wk_Q (by omega)) | refine wk_tupL ?_ | refine wk_aggL ?_ | refine joinMax ?_ ?_ ?_ | refine joinMin ?_ ?_ ?_ | refine toMax ?_ | refine toMin ?_ | refine ⟨rfl, ?_⟩ | refine ⟨trivial, ?_⟩ | (refine forkD (fun h => ?_) (fun h => ?_)) | (refine forkNe (fun h => ?_) (fun h => ?_)) | (refine forkEq (fun h => ?_) (fun h => ?_)) | refine forkNot ?_ | (refine ⟨vI64 (by omega), ?_⟩) | (refine And.intro (by omega) ?_) | apply And.intro | (exact iEq (by omega)) | (exact vI64 (by omega))
    · obtain rfl : y = a.length := by omega
      have hc : chD ⟨w, h, t + ((x + 1 : Nat) : Int), runC w h a ll cs m (x + 1)⟩ = [.int .i64 w, .int .i64 h, .int .i64 (t + (x : Int) + 1), .iface (S.length + 1) (.agg ⟨(agL a m S a.length).flatMap cellC⟩)] := by
        unfold chD ceV
        rw [hrun, agL_len, show t + ((x + 1 : Nat) : Int) = t + (x : Int) + 1 by omega]
      refine ⟨⟨by omega, by decide, ⟨Nat.le_refl _, by rw [flat_len chD_len]; omega⟩, ⟨Nat.le_refl _, Nat.le_refl _⟩, rfl⟩, rfl, vI64 (by omega), x + 1, by omega, by omega, rfl, ?_⟩
      repeat' first | exact wk_snoc hY | exact ob_snoc chD_len hY hc | exact plainBL _ _ | exact chD_b _ _ | exact plainC _ _ | exact box_b _ _ _ _ _ | exact trivial | exact rfl | exact wk_refl _ | refine wkO_cells ?_ | refine wks_cons ?_ ?_ | exact wks_nil | exact wk_nil _ _ _ (.inl rfl) | (exact wk_Q (by omega)) | refine wk_tupL ?_ | refine wk_aggL ?_ | refine joinMax ?_ ?_ ?_ | refine joinMin ?_ ?_ ?_ | refine toMax ?_ | refine toMin ?_ | refine ⟨rfl, ?_⟩ | refine ⟨trivial, ?_⟩ | (refine forkD (fun h => ?_) (fun h => ?_)) | (refine forkNe (fun h => ?_) (fun h => ?_)) | (refine forkEq (fun h => ?_) (fun h => ?_)) | refine forkNot ?_ | (refine ⟨vI64 (by omega), ?_⟩) | (refine And.intro (by omega) ?_) | apply And.intro | (exact iEq (by omega)) | (exact vI64 (by omega))
  · obtain rfl : x = ll.length := by omega
    repeat' first | exact plainBL _ _ | exact chD_b _ _ | exact plainC _ _ | exact box_b _ _ _ _ _ | exact trivial | exact rfl | exact wk_refl _ | refine wkO_cells ?_ | refine wks_cons ?_ ?_ | exact wks_nil | exact wk_nil _ _ _ (.inl rfl) | (exact wk_Q (by omega)) | refine wk_tupL ?_ | refine wk_aggL ?_ | refine joinMax ?_ ?_ ?_ | refine joinMin ?_ ?_ ?_ | refine toMax ?_ | refine toMin ?_ | refine ⟨rfl, ?_⟩ | refine ⟨trivial, ?_⟩ | (refine forkD (fun h => ?_) (fun h => ?_)) | (refine forkNe (fun h => ?_) (fun h => ?_)) | (refine forkEq (fun h => ?_) (fun h => ?_)) | refine forkNot ?_ | (refine ⟨vI64 (by omega), ?_⟩) | (refine And.intro (by omega) ?_) | apply And.intro | (exact iEq (by omega)) | (exact vI64 (by omega))
end
end Go.Proofs.Ytkkgnalgmebfjaa
