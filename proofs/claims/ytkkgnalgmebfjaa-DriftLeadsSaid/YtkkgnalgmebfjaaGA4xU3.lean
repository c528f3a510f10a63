/- Drift: the examples of the chapter (awake), as a contract. No condition. -/
import Derived.Test.YtkkgnalgmebfjaaA4a
import Derived.Test.YtkkgnalgmebfjaaGU2gxH1f
import Derived.Test.YtkkgnalgmebfjaaGE0xU3g
namespace Go.Proofs.Ytkkgnalgmebfjaa
set_option linter.unusedSimpArgs false
set_option linter.unusedVariables false
open Go Go.K
set_option maxRecDepth 100000
noncomputable section
attribute [local irreducible] vF
theorem kAwake (H : Heap) : KCall prog F.polynyalaw02_awake [] H [] (Is (.bool true) H) := by
  have hv : vF prog msk (dm impI) 100000 true 40 true F.polynyalaw02_awake [] ⟨0, .leaf⟩ none .auto (fun v _ _ => isTrueV v) := of_eq_true awakeRun
  have h0 := vc (P := prog) (mask := msk) (dm := dm impI) (rounds := 100000) (mixed := true) mskOk mixed 40 (f := F.polynyalaw02_awake) (args := []) (H := ⟨0, .leaf⟩) (M := none) (h := .auto) (Q := fun v _ => isTrueV v) hv
  have h1 : KCall prog F.polynyalaw02_awake [] [] [] (fun v _ => v = .bool true) := h0.post (fun v H' h => by
      cases v <;> first | exact h.elim | (rename_i b; cases b <;> first | rfl | exact h.elim))
  have h2 : KCall prog F.polynyalaw02_awake [] [] [] (Is (.bool true) []) := KCall.clean h1 rfl
  have h3 := KCall.frame (H := H) (new := []) (d := 3) (σ := fun _ => none) ⟨fun g hg => absurd hg (by rw [glob0]; exact Nat.not_lt_zero _), fun _ _ h => (by cases h), fun id h => absurd h (Nat.not_lt_zero _), fun _ _ _ h => (by cases h), fun _ _ _ h => (by cases h)⟩ h2 rfl rfl
  simpa [rn] using h3
end
end Go.Proofs.Ytkkgnalgmebfjaa
/- DriftTight: what its numbers make. No condition. -/
namespace Go.Proofs.Ytkkgnalgmebfjaa
set_option linter.unusedSimpArgs false
set_option linter.unusedVariables false
open Go Go.K
noncomputable section
def t3 (L : List Int) : Int := (hldL L (kA L) (kX L) (k2 L + 1) (kX L).length).2
def tF (L : List Int) : List Flow := (curs L (t3 L) (kA L).length).1
def tT (L : List Int) (x : Int) : Int := x % (((kA L).length : Nat) : Int)
def bestTo (w h : Int) (a : List Bool) (i t : Int) (hi : Bool) (ms : List Move) : Nat → Move
  | 0 => ms.getD 0 zeroM
  | j + 1 => if ((targ w h a i (ms.getD j zeroM) == t) == hi) = true then ms.getD j zeroM else bestTo w h a i t hi ms j
def tB (L : List Int) (x : Int) (hi : Bool) (k j : Nat) : Move := bestTo (kW L) (kH L) (kA L) (k : Int) (tT L x) hi (movesF ((tF L).getD k zeroF)) j
end
end Go.Proofs.Ytkkgnalgmebfjaa
/- DriftInside: a wider chart, wider flows. No condition. -/
namespace Go.Proofs.Ytkkgnalgmebfjaa
open Go Go.K
set_option maxRecDepth 100000
set_option linter.unusedVariables false
set_option linter.unusedSimpArgs false
noncomputable section
/-! ## Piles -/
def plLe (p q : Pl) : Prop := p.s ≤ q.s ∧ p.t ≤ q.t ∧ p.r ≤ q.r
theorem plLe.refl (p : Pl) : plLe p p := ⟨Int.le_refl _, Int.le_refl _, Int.le_refl _⟩
theorem plLe.trans {p q r : Pl} (h : plLe p q) (k : plLe q r) : plLe p r := ⟨Int.le_trans h.1 k.1, Int.le_trans h.2.1 k.2.1, Int.le_trans h.2.2 k.2.2⟩
/-! ## Flows -/
/-! ## Charts -/
/-! ## What is made wider -/
end
end Go.Proofs.Ytkkgnalgmebfjaa
/- Drift: where a floe can be: facts of the lists. No condition. -/
namespace Go.Proofs.Ytkkgnalgmebfjaa
set_option linter.unusedSimpArgs false
open Go Go.K
set_option linter.unusedVariables false
noncomputable section
structure FloeOk (w h : Int) (a : List Bool) (ll : List (List Flow)) (o n : Nat) (c : Int) : Prop where
  b : BasOk w h a.length
  n48 : n ≤ 48
  fl : ∀ i, i < n → (ll.getD (o + i) []).length = a.length ∧ ∀ f ∈ ll.getD (o + i) [], rightF f
  sea : seaB a c = true
theorem sea_bd {a : List Bool} {c : Int} (h : seaB a c = true) : 0 ≤ c ∧ c < (a.length : Int) := by
  unfold seaB at h
  rw [Bool.and_eq_true, decide_eq_true_iff] at h
  exact h.1
theorem FloeOk.bd {w h : Int} {a : List Bool} {ll : List (List Flow)} {o n : Nat} {c : Int} (k : FloeOk w h a ll o n c) : 0 ≤ c ∧ c < (a.length : Int) := sea_bd k.sea
theorem FloeOk.n1 {w h : Int} {a : List Bool} {ll : List (List Flow)} {o n : Nat} {c : Int} (k : FloeOk w h a ll o n c) : a.length ≤ 1024 ∧ 1 ≤ a.length := by
  have h1 := k.b.n1
  have h2 := k.b.p1
  have := k.bd
  omega
end
end Go.Proofs.Ytkkgnalgmebfjaa
/- Drift: kinds of cells, and those that have changed. No condition. -/
namespace Go.Proofs.Ytkkgnalgmebfjaa
open Go Go.K
set_option maxRecDepth 100000
set_option linter.unusedVariables false
set_option linter.unusedSimpArgs false
noncomputable section
attribute [local irreducible] vF
theorem trnC_len (t : Trn) : (trnC t).length = 3 := rfl
theorem plainTn (n : Nat) (l : List Trn) : (l.flatMap trnC).all (belowC n) = true := by
  rw [List.all_flatMap]
  exact List.all_eq_true.2 fun t _ => rfl
theorem cellC_at {cs : List Cell} {k : Nat} (h : k < cs.length) (c : Nat) (hc : c < 8) {v : Value} (hv : (cellC (cs.getD k zeroC))[c]? = some v) {off : Nat} (ho : off = k * 8 + c) : (cs.flatMap cellC)[off]? = some v := cell_at (c := c) cellC_len h (by omega) hv
theorem kindTo_len (a : List Bool) (cs : List Cell) (n : Nat) : (kindTo a cs n).length = n := tabP_len _ _
theorem kindTo_succ {a : List Bool} {cs : List Cell} {n : Nat} {k : Int} (h : kindC a cs n = k) : kindTo a cs (n + 1) = kindTo a cs n ++ [k] := by subst h; exact tabP_succ _ _
theorem kindL_get {a : List Bool} {cs : List Cell} {k : Nat} (h : k < cs.length) : (kindL a cs).getD k 0 = kindC a cs k := tabP_get h
theorem kindL_len (a : List Bool) (cs : List Cell) : (kindL a cs).length = cs.length := kindTo_len _ _ _
theorem kind_0 {a : List Bool} {cs : List Cell} {k : Nat} (h : a.getD k false = true) : kindC a cs k = 0 := if_pos h
theorem kind_3 {a : List Bool} {cs : List Cell} {k : Nat} (h : a.getD k false = false) (h1 : (cs.getD k zeroC).conc.hi ≤ 10) : kindC a cs k = 3 := by
  unfold kindC; rw [if_neg (by rw [h]; exact Bool.false_ne_true), if_pos h1]
theorem kind_2 {a : List Bool} {cs : List Cell} {k : Nat} (h : a.getD k false = false) (h1 : ¬ (cs.getD k zeroC).conc.hi ≤ 10) (h2 : (cs.getD k zeroC).conc.lo ≤ 10) : kindC a cs k = 2 := by
  unfold kindC; rw [if_neg (by rw [h]; exact Bool.false_ne_true), if_neg h1, if_pos h2]
theorem kind_1 {a : List Bool} {cs : List Cell} {k : Nat} (h : a.getD k false = false) (h1 : ¬ (cs.getD k zeroC).conc.hi ≤ 10) (h2 : ¬ (cs.getD k zeroC).conc.lo ≤ 10) : kindC a cs k = 1 := by
  unfold kindC; rw [if_neg (by rw [h]; exact Bool.false_ne_true), if_neg h1, if_neg h2]
abbrev chaV (w h t : Int) (id n : Nat) : Value := .agg #[.int .i64 w, .int .i64 h, .int .i64 t, .slice (some ⟨id, 0, some 2⟩) n n]
abbrev lisV (L n : Nat) : Value := .slice (some ⟨L, 0, some 1⟩) n n
theorem kkinds (w h : Int) (a : List Bool) (w' h' t : Int) (cs : List Cell) (hn : cs.length = a.length) (h4 : a.length ≤ 4096) {H : Heap} {L : Nat} (hL : H.length = L) {i0 i1 : Nat} {o0 o1 : Bool} {z0 z1 : Nat} (e0 : H[i0]? = some (.cells o0 z0 (a.flatMap boolC))) (e1 : H[i1]? = some (.cells o1 z1 (cs.flatMap cellC))) :
    KCall prog F.drift_sea_kinds [basV w h i0 a.length, chaV w' h' t i1 cs.length] H [] (Is (lisV L (kindL a cs).length) (H ++ [.cells true 1 ((kindL a cs).flatMap intC)])) := by
  subst hL
  refine valQ2 (fun i => lisV i (kindL a cs).length) (Eq.mpr (Ekinds w h a w' h' t cs) ?_) (plainBL 0 a) (plainC 0 cs) (fun n => plainIL n _) rfl rfl (fun _ => rfl) e0 e1 rfl
  unfold Rkinds
  refine ⟨rfl, Nat.zero_le _, ?_, fun _ => rfl, ?_⟩
  · repeat' first | exact trivial | exact rfl | exact wk_refl _ | refine wkO_cells ?_ | refine wks_cons ?_ ?_ | exact wks_nil | exact wk_nil _ _ _ (.inl rfl) | (exact wk_Q (by omega)) | refine wk_tupL ?_ | refine wk_aggL ?_ | refine joinMax ?_ ?_ ?_ | refine joinMin ?_ ?_ ?_ | refine toMax ?_ | refine toMin ?_ | refine ⟨rfl, ?_⟩ | refine ⟨trivial, ?_⟩ | (refine forkD (fun h => ?_) (fun h => ?_)) | (refine forkNe (fun h => ?_) (fun h => ?_)) | (refine forkEq (fun h => ?_) (fun h => ?_)) | refine forkNot ?_ | (refine ⟨vI64 (by omega), ?_⟩) | (refine And.intro (by omega) ?_) | apply And.intro | (exact iEq (by omega)) | (exact vI64 (by omega))
  intro x hx
  have hlen := kindTo_len a cs x
  refine forkD (fun k => ?_) (fun k => ?_)
  · have hlt : x < cs.length := by omega
    refine ⟨by omega, partCell hlt, by omega, boolAt (by omega) (by omega), fun ha => ?_, fun ha => forkD (fun h1 => ?_) (fun h1 => forkD (fun h2 => ?_) (fun h2 => ?_))⟩
    · have hM := kindTo_succ (cs := cs) (kind_0 ha)
      repeat' first | (refine ⟨x + 1, by omega, by omega, rfl, ?_⟩) | exact wk_snoc hM | exact ob_snoc intC_len hM rfl | exact plainIL _ _ | exact flat_le intC_len _ | exact Nat.le_refl _ | exact trivial | exact rfl | exact wk_refl _ | refine wkO_cells ?_ | refine wks_cons ?_ ?_ | exact wks_nil | exact wk_nil _ _ _ (.inl rfl) | (exact wk_Q (by omega)) | refine wk_tupL ?_ | refine wk_aggL ?_ | refine joinMax ?_ ?_ ?_ | refine joinMin ?_ ?_ ?_ | refine toMax ?_ | refine toMin ?_ | refine ⟨rfl, ?_⟩ | refine ⟨trivial, ?_⟩ | (refine forkD (fun h => ?_) (fun h => ?_)) | (refine forkNe (fun h => ?_) (fun h => ?_)) | (refine forkEq (fun h => ?_) (fun h => ?_)) | refine forkNot ?_ | (refine ⟨vI64 (by omega), ?_⟩) | (refine And.intro (by omega) ?_) | apply And.intro | (exact iEq (by omega)) | (exact vI64 (by omega))
    · have hM := kindTo_succ (kind_3 ha h1)
      repeat' first | (refine ⟨x + 1, by omega, by omega, rfl, ?_⟩) | exact wk_snoc hM | exact ob_snoc intC_len hM rfl | exact plainIL _ _ | exact flat_le intC_len _ | exact Nat.le_refl _ | exact trivial | exact rfl | exact wk_refl _ | refine wkO_cells ?_ | refine wks_cons ?_ ?_ | exact wks_nil | exact wk_nil _ _ _ (.inl rfl) | (exact wk_Q (by omega)) | refine wk_tupL ?_ | refine wk_aggL ?_ | refine joinMax ?_ ?_ ?_ | refine joinMin ?_ ?_ ?_ | refine toMax ?_ | refine toMin ?_ | refine ⟨rfl, ?_⟩ | refine ⟨trivial, ?_⟩ | (refine forkD (fun h => ?_) (fun h => ?_)) | (refine forkNe (fun h => ?_) (fun h => ?_)) | (refine forkEq (fun h => ?_) (fun h => ?_)) | refine forkNot ?_ | (refine ⟨vI64 (by omega), ?_⟩) | (refine And.intro (by omega) ?_) | apply And.intro | (exact iEq (by omega)) | (exact vI64 (by omega))
    · have hM := kindTo_succ (kind_2 ha h1 h2)
      repeat' first | (refine ⟨x + 1, by omega, by omega, rfl, ?_⟩) | exact wk_snoc hM | exact ob_snoc intC_len hM rfl | exact plainIL _ _ | exact flat_le intC_len _ | exact Nat.le_refl _ | exact trivial | exact rfl | exact wk_refl _ | refine wkO_cells ?_ | refine wks_cons ?_ ?_ | exact wks_nil | exact wk_nil _ _ _ (.inl rfl) | (exact wk_Q (by omega)) | refine wk_tupL ?_ | refine wk_aggL ?_ | refine joinMax ?_ ?_ ?_ | refine joinMin ?_ ?_ ?_ | refine toMax ?_ | refine toMin ?_ | refine ⟨rfl, ?_⟩ | refine ⟨trivial, ?_⟩ | (refine forkD (fun h => ?_) (fun h => ?_)) | (refine forkNe (fun h => ?_) (fun h => ?_)) | (refine forkEq (fun h => ?_) (fun h => ?_)) | refine forkNot ?_ | (refine ⟨vI64 (by omega), ?_⟩) | (refine And.intro (by omega) ?_) | apply And.intro | (exact iEq (by omega)) | (exact vI64 (by omega))
    · have hM := kindTo_succ (kind_1 ha h1 h2)
      repeat' first | (refine ⟨x + 1, by omega, by omega, rfl, ?_⟩) | exact wk_snoc hM | exact ob_snoc intC_len hM rfl | exact plainIL _ _ | exact flat_le intC_len _ | exact Nat.le_refl _ | exact trivial | exact rfl | exact wk_refl _ | refine wkO_cells ?_ | refine wks_cons ?_ ?_ | exact wks_nil | exact wk_nil _ _ _ (.inl rfl) | (exact wk_Q (by omega)) | refine wk_tupL ?_ | refine wk_aggL ?_ | refine joinMax ?_ ?_ ?_ | refine joinMin ?_ ?_ ?_ | refine toMax ?_ | refine toMin ?_ | refine ⟨rfl, ?_⟩ | refine ⟨trivial, ?_⟩ | (refine forkD (fun h => ?_) (fun h => ?_)) | (refine forkNe (fun h => ?_) (fun h => ?_)) | (refine forkEq (fun h => ?_) (fun h => ?_)) | refine forkNot ?_ | (refine ⟨vI64 (by omega), ?_⟩) | (refine And.intro (by omega) ?_) | apply And.intro | (exact iEq (by omega)) | (exact vI64 (by omega))
  · obtain rfl : x = cs.length := by omega
    repeat' first | exact plainIL _ _ | exact trivial | exact rfl | exact wk_refl _ | refine wkO_cells ?_ | refine wks_cons ?_ ?_ | exact wks_nil | exact wk_nil _ _ _ (.inl rfl) | (exact wk_Q (by omega)) | refine wk_tupL ?_ | refine wk_aggL ?_ | refine joinMax ?_ ?_ ?_ | refine joinMin ?_ ?_ ?_ | refine toMax ?_ | refine toMin ?_ | refine ⟨rfl, ?_⟩ | refine ⟨trivial, ?_⟩ | (refine forkD (fun h => ?_) (fun h => ?_)) | (refine forkNe (fun h => ?_) (fun h => ?_)) | (refine forkEq (fun h => ?_) (fun h => ?_)) | refine forkNot ?_ | (refine ⟨vI64 (by omega), ?_⟩) | (refine And.intro (by omega) ?_) | apply And.intro | (exact iEq (by omega)) | (exact vI64 (by omega))
theorem krKind (w h : Int) (a : List Bool) (w' h' t : Int) (cs : List Cell) (k : Nat) (hk : k < cs.length) (hc : (cs.getD k zeroC).conc.lo ≤ (cs.getD k zeroC).conc.hi) (hn : cs.length = a.length) (h4 : a.length ≤ 4096) {H : Heap} {i0 i1 : Nat} {o0 o1 : Bool} {z0 z1 : Nat} (e0 : H[i0]? = some (.cells o0 z0 (a.flatMap boolC))) (e1 : H[i1]? = some (.cells o1 z1 (cs.flatMap cellC))) :
    KCall prog F.polynyaref02_Kind [basV w h i0 a.length, chaV w' h' t i1 cs.length, .int .i64 (k : Int)] H [] (Is (.int .i64 (kindC a cs k)) H) := by
  refine valR (Eq.mpr (ErKind _ w h a w' h' t cs (k : Int)) ?_) (twoCs (plainBL 0 a) (plainC 0 cs)) rfl [i0, i1] rfl (twoId e0 e1)
  unfold RrKind
  have e : Int.toNat (k : Int) = k := Int.toNat_natCast k
  rw [e]
  refine ⟨by omega, boolAt (by omega) (by omega), fun ha => iEq (kind_0 ha).symm, fun ha => ⟨by omega, cellC_at hk 0 (by omega) rfl (by omega), forkD (fun h1 => ?_) (fun h1 => ⟨by omega, cellC_at hk 1 (by omega) rfl (by omega), forkD (fun h2 => ?_) (fun h2 => ?_)⟩)⟩⟩
  · exact iEq (kind_1 ha (by omega) (by omega)).symm
  · exact iEq (kind_2 ha (by omega) (by omega)).symm
  · exact iEq (kind_3 ha (by omega)).symm
theorem kr2sides (w h : Int) (a : List Bool) (w' h' t : Int) (cs : List Cell) {H : Heap} {i0 i1 : Nat} {o0 o1 : Bool} {z0 z1 : Nat} (e0 : H[i0]? = some (.cells o0 z0 (a.flatMap boolC))) (e1 : H[i1]? = some (.cells o1 z1 (cs.flatMap cellC))) :
    KCall prog F.polynyaref02_sides [basV w h i0 a.length, chaV w' h' t i1 cs.length] H [] (Is (.int .i64 (errSides w h w' h' t cs)) H) := by
  refine valR (Eq.mpr (Er2sides _ w h a w' h' t cs) ?_) (twoCs (plainBL 0 a) (plainC 0 cs)) rfl [i0, i1] rfl (twoId e0 e1)
  unfold Rr2sides
  refine ⟨⟨rfl, trivial⟩, fun H' _ hd => krCheckChart w' h' t cs hd.1, forkNe (fun h0 => ?_) (fun h0 => ?_)⟩
  · exact iEq (first2_1 h0).symm
  have e : errSides w h w' h' t cs = if w' = w ∧ h' = h then 0 else 1 := first2_2 h0
  rw [e]
  refine forkNe (fun h1 => ?_) (fun h1 => forkNe (fun h2 => ?_) (fun h2 => ?_))
  · rw [if_neg (fun q => h1 q.1)]
  · rw [if_neg (fun q => h2 q.2)]
  · rw [if_pos ⟨h1, h2⟩]
theorem krdry (w h : Int) (a : List Bool) (w' h' t : Int) (cs : List Cell) (hn : cs.length = a.length) (h4 : a.length ≤ 4096) {H : Heap} {i0 i1 : Nat} {o0 o1 : Bool} {z0 z1 : Nat} (e0 : H[i0]? = some (.cells o0 z0 (a.flatMap boolC))) (e1 : H[i1]? = some (.cells o1 z1 (cs.flatMap cellC))) :
    KCall prog F.polynyaref02_dry [basV w h i0 a.length, chaV w' h' t i1 cs.length] H [] (Is (.int .i64 (errDry a cs)) H) := by
  refine valR (Eq.mpr (Erdry _ w h a w' h' t cs) ?_) (twoCs (plainBL 0 a) (plainC 0 cs)) rfl [i0, i1] rfl (twoId e0 e1)
  unfold Rrdry
  refine ⟨rfl, ⟨Nat.zero_le _, rfl⟩, ?_, fun _ => rfl, ?_⟩
  · repeat' first | exact trivial | exact rfl | exact wk_refl _ | refine wkO_cells ?_ | refine wks_cons ?_ ?_ | exact wks_nil | exact wk_nil _ _ _ (.inl rfl) | (exact wk_Q (by omega)) | refine wk_tupL ?_ | refine wk_aggL ?_ | refine joinMax ?_ ?_ ?_ | refine joinMin ?_ ?_ ?_ | refine toMax ?_ | refine toMin ?_ | refine ⟨rfl, ?_⟩ | refine ⟨trivial, ?_⟩ | (refine forkD (fun h => ?_) (fun h => ?_)) | (refine forkNe (fun h => ?_) (fun h => ?_)) | (refine forkEq (fun h => ?_) (fun h => ?_)) | refine forkNot ?_ | (refine ⟨vI64 (by omega), ?_⟩) | (refine And.intro (by omega) ?_) | apply And.intro | (exact iEq (by omega)) | (exact vI64 (by omega))
  rintro x ⟨j1, j2⟩
  refine forkD (fun k1 => ?_) (fun k1 => ?_)
  · have hx : x < cs.length := by omega
    refine ⟨by omega, boolAt (by omega) (by omega), fun ha => ⟨by omega, partCell hx, fun q => ?_, fun q => ?_⟩, fun ha => ?_⟩
    · exact iEq (by unfold errDry; rw [errUp_at j2 (by rw [dry_1 ha (notB q)]; decide) hx, dry_1 ha (notB q)])
    · refine ⟨vI64 (by omega), x + 1, ⟨by omega, errUp_succ j2 (dry_2 fun _ => notB2 q)⟩, by omega, rfl, ?_⟩
      repeat' first | exact trivial | exact rfl | exact wk_refl _ | refine wkO_cells ?_ | refine wks_cons ?_ ?_ | exact wks_nil | exact wk_nil _ _ _ (.inl rfl) | (exact wk_Q (by omega)) | refine wk_tupL ?_ | refine wk_aggL ?_ | refine joinMax ?_ ?_ ?_ | refine joinMin ?_ ?_ ?_ | refine toMax ?_ | refine toMin ?_ | refine ⟨rfl, ?_⟩ | refine ⟨trivial, ?_⟩ | (refine forkD (fun h => ?_) (fun h => ?_)) | (refine forkNe (fun h => ?_) (fun h => ?_)) | (refine forkEq (fun h => ?_) (fun h => ?_)) | refine forkNot ?_ | (refine ⟨vI64 (by omega), ?_⟩) | (refine And.intro (by omega) ?_) | apply And.intro | (exact iEq (by omega)) | (exact vI64 (by omega))
    · refine ⟨vI64 (by omega), x + 1, ⟨by omega, errUp_succ j2 (dry_2 fun q => by rw [ha] at q; cases q)⟩, by omega, rfl, ?_⟩
      repeat' first | exact trivial | exact rfl | exact wk_refl _ | refine wkO_cells ?_ | refine wks_cons ?_ ?_ | exact wks_nil | exact wk_nil _ _ _ (.inl rfl) | (exact wk_Q (by omega)) | refine wk_tupL ?_ | refine wk_aggL ?_ | refine joinMax ?_ ?_ ?_ | refine joinMin ?_ ?_ ?_ | refine toMax ?_ | refine toMin ?_ | refine ⟨rfl, ?_⟩ | refine ⟨trivial, ?_⟩ | (refine forkD (fun h => ?_) (fun h => ?_)) | (refine forkNe (fun h => ?_) (fun h => ?_)) | (refine forkEq (fun h => ?_) (fun h => ?_)) | refine forkNot ?_ | (refine ⟨vI64 (by omega), ?_⟩) | (refine And.intro (by omega) ?_) | apply And.intro | (exact iEq (by omega)) | (exact vI64 (by omega))
  · obtain rfl : x = cs.length := by omega
    exact iEq j2.symm
theorem krfits {w h : Int} {a : List Bool} (b : BasOk w h a.length) (w' h' t : Int) (cs : List Cell) {H : Heap} {i0 i1 : Nat} {o0 o1 : Bool} {z0 z1 : Nat} (e0 : H[i0]? = some (.cells o0 z0 (a.flatMap boolC))) (e1 : H[i1]? = some (.cells o1 z1 (cs.flatMap cellC))) :
    KCall prog F.polynyaref02_fits [basV w h i0 a.length, chaV w' h' t i1 cs.length] H [] (Is (.int .i64 (errFits w h a w' h' t cs)) H) := by
  refine valR (Eq.mpr (Erfits _ w h a w' h' t cs) ?_) (twoCs (plainBL 0 a) (plainC 0 cs)) rfl [i0, i1] rfl (twoId e0 e1)
  unfold Rrfits
  refine ⟨⟨rfl, rfl, trivial⟩, fun H' _ hd => kr2sides w h a w' h' t cs hd.1 hd.2.1, forkNe (fun h0 => ?_) (fun h0 => ?_)⟩
  · exact iEq (first2_1 h0).symm
  have e : errFits w h a w' h' t cs = errDry a cs := first2_2 h0
  obtain ⟨s1, s2, s3⟩ := sides_0 h0
  obtain ⟨s4, _⟩ := errChart_len s1
  subst s2 s3
  have hn := b.n1
  have hp := b.p1
  exact ⟨⟨rfl, rfl, trivial⟩, fun H' _ hd => krdry w' h' a w' h' t cs (by omega) (by omega) hd.1 hd.2.1, iEq e.symm⟩
/-- A chart that fits. -/
structure FitOk (w h : Int) (a : List Bool) (w' h' : Int) (cs : List Cell) : Prop where
  w1 : w' = w
  h1 : h' = h
  n : cs.length = a.length
  c : ∀ c ∈ cs, rightC c
theorem sidesOk {w h : Int} {a : List Bool} (b : BasOk w h a.length) {w' h' t : Int} {cs : List Cell} (e : errSides w h w' h' t cs = 0) : FitOk w h a w' h' cs := by
  obtain ⟨s1, s2, s3⟩ := sides_0 e
  obtain ⟨_, s4, _, s5⟩ := errChart_ok s1
  subst s2 s3
  have hn := b.n1
  exact ⟨rfl, rfl, by omega, s5⟩
theorem fitOk {w h : Int} {a : List Bool} (b : BasOk w h a.length) {w' h' t : Int} {cs : List Cell} (e : errFits w h a w' h' t cs = 0) : FitOk w h a w' h' cs := sidesOk b (errFits_0 e).1
theorem FitOk.lo {w h : Int} {a : List Bool} {w' h' : Int} {cs : List Cell} (o : FitOk w h a w' h' cs) {k : Nat} (hk : k < cs.length) : (cs.getD k zeroC).conc.lo ≤ (cs.getD k zeroC).conc.hi := by
  have := (o.c _ (getD_mem (d := zeroC) hk)).1
  unfold rightSp at this
  omega
theorem fK_b {w h : Int} {a : List Bool} {w' h' t : Int} {cs : List Cell} (e : ¬ errBas w h a.length = 0) : fKinds w h a w' h' t cs = ([], errBas w h a.length) := if_neg e
theorem fK_f {w h : Int} {a : List Bool} {w' h' t : Int} {cs : List Cell} (e : errBas w h a.length = 0) (e2 : ¬ errFits w h a w' h' t cs = 0) : fKinds w h a w' h' t cs = ([], errFits w h a w' h' t cs) := by unfold fKinds; rw [if_pos e, if_neg e2]
theorem fK_0 {w h : Int} {a : List Bool} {w' h' t : Int} {cs : List Cell} (e : errBas w h a.length = 0) (e2 : errFits w h a w' h' t cs = 0) : fKinds w h a w' h' t cs = (kindL a cs, 0) := by unfold fKinds; rw [if_pos e, if_pos e2]
abbrev kndV (L : Nat) (g : List Int × Int) : Value := .tuple #[lisV L g.1.length, .int .i64 g.2]
theorem kKinds (w h : Int) (a : List Bool) (w' h' t : Int) (cs : List Cell) {H : Heap} {L : Nat} (hL : H.length = L) {i0 i1 : Nat} {o0 o1 : Bool} {z0 z1 : Nat} (e0 : H[i0]? = some (.cells o0 z0 (a.flatMap boolC))) (e1 : H[i1]? = some (.cells o1 z1 (cs.flatMap cellC))) :
    KCall prog F.drift_Kinds [basV w h i0 a.length, chaV w' h' t i1 cs.length] H [] (Is (kndV L (fKinds w h a w' h' t cs)) (H ++ [.cells true 1 ((fKinds w h a w' h' t cs).1.flatMap intC)])) := by
  subst hL
  refine valQ2 (fun i => kndV i (fKinds w h a w' h' t cs)) (Eq.mpr (EKinds w h a w' h' t cs) ?_) (plainBL 0 a) (plainC 0 cs) (fun n => plainIL n _) rfl rfl (fun _ => rfl) e0 e1 rfl
  unfold RKinds
  refine ⟨⟨rfl, trivial⟩, fun H' _ hd => kCheckBasin w h a hd.1, forkNe (fun h0 => ?_) (fun h0 => ?_)⟩
  · rw [fK_b h0]
    repeat' first | exact trivial | exact rfl | exact wk_refl _ | refine wkO_cells ?_ | refine wks_cons ?_ ?_ | exact wks_nil | exact wk_nil _ _ _ (.inl rfl) | (exact wk_Q (by omega)) | refine wk_tupL ?_ | refine wk_aggL ?_ | refine joinMax ?_ ?_ ?_ | refine joinMin ?_ ?_ ?_ | refine toMax ?_ | refine toMin ?_ | refine ⟨rfl, ?_⟩ | refine ⟨trivial, ?_⟩ | (refine forkD (fun h => ?_) (fun h => ?_)) | (refine forkNe (fun h => ?_) (fun h => ?_)) | (refine forkEq (fun h => ?_) (fun h => ?_)) | refine forkNot ?_ | (refine ⟨vI64 (by omega), ?_⟩) | (refine And.intro (by omega) ?_) | apply And.intro | (exact iEq (by omega)) | (exact vI64 (by omega))
  have b := basOk h0
  refine ⟨⟨rfl, rfl, trivial⟩, fun H' _ hd => kfits b w' h' t cs hd.1 hd.2.1, forkNe (fun h1 => ?_) (fun h1 => ?_)⟩
  · rw [fK_f h0 h1]
    repeat' first | exact trivial | exact rfl | exact wk_refl _ | refine wkO_cells ?_ | refine wks_cons ?_ ?_ | exact wks_nil | exact wk_nil _ _ _ (.inl rfl) | (exact wk_Q (by omega)) | refine wk_tupL ?_ | refine wk_aggL ?_ | refine joinMax ?_ ?_ ?_ | refine joinMin ?_ ?_ ?_ | refine toMax ?_ | refine toMin ?_ | refine ⟨rfl, ?_⟩ | refine ⟨trivial, ?_⟩ | (refine forkD (fun h => ?_) (fun h => ?_)) | (refine forkNe (fun h => ?_) (fun h => ?_)) | (refine forkEq (fun h => ?_) (fun h => ?_)) | refine forkNot ?_ | (refine ⟨vI64 (by omega), ?_⟩) | (refine And.intro (by omega) ?_) | apply And.intro | (exact iEq (by omega)) | (exact vI64 (by omega))
  have o := fitOk b h1
  have hn := b.n1
  have hp := b.p1
  rw [fK_0 h0 h1]
  refine ⟨⟨rfl, rfl, trivial⟩, fun H' hl hd => kkinds w h a w' h' t cs o.n (by omega) hl hd.1 hd.2.1, ?_⟩
  repeat' first | exact plainIL _ _ | exact trivial | exact rfl | exact wk_refl _ | refine wkO_cells ?_ | refine wks_cons ?_ ?_ | exact wks_nil | exact wk_nil _ _ _ (.inl rfl) | (exact wk_Q (by omega)) | refine wk_tupL ?_ | refine wk_aggL ?_ | refine joinMax ?_ ?_ ?_ | refine joinMin ?_ ?_ ?_ | refine toMax ?_ | refine toMin ?_ | refine ⟨rfl, ?_⟩ | refine ⟨trivial, ?_⟩ | (refine forkD (fun h => ?_) (fun h => ?_)) | (refine forkNe (fun h => ?_) (fun h => ?_)) | (refine forkEq (fun h => ?_) (fun h => ?_)) | refine forkNot ?_ | (refine ⟨vI64 (by omega), ?_⟩) | (refine And.intro (by omega) ?_) | apply And.intro | (exact iEq (by omega)) | (exact vI64 (by omega))
theorem krKinds (w h : Int) (a : List Bool) (w' h' t : Int) (cs : List Cell) {H : Heap} {L : Nat} (hL : H.length = L) {i0 i1 : Nat} {o0 o1 : Bool} {z0 z1 : Nat} (e0 : H[i0]? = some (.cells o0 z0 (a.flatMap boolC))) (e1 : H[i1]? = some (.cells o1 z1 (cs.flatMap cellC))) :
    KCall prog F.polynyaref02_Kinds [basV w h i0 a.length, chaV w' h' t i1 cs.length] H [] (Is (kndV L (fKinds w h a w' h' t cs)) (H ++ [.cells true 1 ((fKinds w h a w' h' t cs).1.flatMap intC)])) := by
  subst hL
  refine valQ2 (fun i => kndV i (fKinds w h a w' h' t cs)) (Eq.mpr (ErKinds w h a w' h' t cs) ?_) (plainBL 0 a) (plainC 0 cs) (fun n => plainIL n _) rfl rfl (fun _ => rfl) e0 e1 rfl
  unfold RrKinds
  refine ⟨⟨rfl, trivial⟩, fun H' _ hd => krCheckBasin w h a hd.1, forkNe (fun h0 => ?_) (fun h0 => ?_)⟩
  · rw [fK_b h0]
    repeat' first | exact trivial | exact rfl | exact wk_refl _ | refine wkO_cells ?_ | refine wks_cons ?_ ?_ | exact wks_nil | exact wk_nil _ _ _ (.inl rfl) | (exact wk_Q (by omega)) | refine wk_tupL ?_ | refine wk_aggL ?_ | refine joinMax ?_ ?_ ?_ | refine joinMin ?_ ?_ ?_ | refine toMax ?_ | refine toMin ?_ | refine ⟨rfl, ?_⟩ | refine ⟨trivial, ?_⟩ | (refine forkD (fun h => ?_) (fun h => ?_)) | (refine forkNe (fun h => ?_) (fun h => ?_)) | (refine forkEq (fun h => ?_) (fun h => ?_)) | refine forkNot ?_ | (refine ⟨vI64 (by omega), ?_⟩) | (refine And.intro (by omega) ?_) | apply And.intro | (exact iEq (by omega)) | (exact vI64 (by omega))
  have b := basOk h0
  refine ⟨⟨rfl, rfl, trivial⟩, fun H' _ hd => krfits b w' h' t cs hd.1 hd.2.1, forkNe (fun h1 => ?_) (fun h1 => ?_)⟩
  · rw [fK_f h0 h1]
    repeat' first | exact trivial | exact rfl | exact wk_refl _ | refine wkO_cells ?_ | refine wks_cons ?_ ?_ | exact wks_nil | exact wk_nil _ _ _ (.inl rfl) | (exact wk_Q (by omega)) | refine wk_tupL ?_ | refine wk_aggL ?_ | refine joinMax ?_ ?_ ?_ | refine joinMin ?_ ?_ ?_ | refine toMax ?_ | refine toMin ?_ | refine ⟨rfl, ?_⟩ | refine ⟨trivial, ?_⟩ | (refine forkD (fun h => ?_) (fun h => ?_)) | (refine forkNe (fun h => ?_) (fun h => ?_)) | (refine forkEq (fun h => ?_) (fun h => ?_)) | refine forkNot ?_ | (refine ⟨vI64 (by omega), ?_⟩) | (refine And.intro (by omega) ?_) | apply And.intro | (exact iEq (by omega)) | (exact vI64 (by omega))
  have o := fitOk b h1
  have hn := b.n1
  have hp := b.p1
  have hcn := o.n
  rw [fK_0 h0 h1]
  refine ⟨rfl, Nat.zero_le _, ?_, fun _ => rfl, ?_⟩
  · repeat' first | exact trivial | exact rfl | exact wk_refl _ | refine wkO_cells ?_ | refine wks_cons ?_ ?_ | exact wks_nil | exact wk_nil _ _ _ (.inl rfl) | (exact wk_Q (by omega)) | refine wk_tupL ?_ | refine wk_aggL ?_ | refine joinMax ?_ ?_ ?_ | refine joinMin ?_ ?_ ?_ | refine toMax ?_ | refine toMin ?_ | refine ⟨rfl, ?_⟩ | refine ⟨trivial, ?_⟩ | (refine forkD (fun h => ?_) (fun h => ?_)) | (refine forkNe (fun h => ?_) (fun h => ?_)) | (refine forkEq (fun h => ?_) (fun h => ?_)) | refine forkNot ?_ | (refine ⟨vI64 (by omega), ?_⟩) | (refine And.intro (by omega) ?_) | apply And.intro | (exact iEq (by omega)) | (exact vI64 (by omega))
  intro x hx
  have hlen := kindTo_len a cs x
  refine forkD (fun k => ?_) (fun k => ?_)
  · have hlt : x < cs.length := by omega
    refine ⟨⟨rfl, rfl, trivial⟩, fun H' _ hd => krKind w h a w' h' t cs x hlt (o.lo hlt) hcn (by omega) hd.1 hd.2.1, ?_⟩
    have hM := kindTo_succ (a := a) (cs := cs) (n := x) rfl
    repeat' first | (refine ⟨x + 1, by omega, by omega, rfl, ?_⟩) | exact wk_snoc hM | exact ob_snoc intC_len hM rfl | exact plainIL _ _ | exact flat_le intC_len _ | exact Nat.le_refl _ | exact trivial | exact rfl | exact wk_refl _ | refine wkO_cells ?_ | refine wks_cons ?_ ?_ | exact wks_nil | exact wk_nil _ _ _ (.inl rfl) | (exact wk_Q (by omega)) | refine wk_tupL ?_ | refine wk_aggL ?_ | refine joinMax ?_ ?_ ?_ | refine joinMin ?_ ?_ ?_ | refine toMax ?_ | refine toMin ?_ | refine ⟨rfl, ?_⟩ | refine ⟨trivial, ?_⟩ | (refine forkD (fun h => ?_) (fun h => ?_)) | (refine forkNe (fun h => ?_) (fun h => ?_)) | (refine forkEq (fun h => ?_) (fun h => ?_)) | refine forkNot ?_ | (refine ⟨vI64 (by omega), ?_⟩) | (refine And.intro (by omega) ?_) | apply And.intro | (exact iEq (by omega)) | (exact vI64 (by omega))
  · obtain rfl : x = cs.length := by omega
    repeat' first | exact plainIL _ _ | exact trivial | exact rfl | exact wk_refl _ | refine wkO_cells ?_ | refine wks_cons ?_ ?_ | exact wks_nil | exact wk_nil _ _ _ (.inl rfl) | (exact wk_Q (by omega)) | refine wk_tupL ?_ | refine wk_aggL ?_ | refine joinMax ?_ ?_ ?_ | refine joinMin ?_ ?_ ?_ | refine toMax ?_ | refine toMin ?_ | refine ⟨rfl, ?_⟩ | refine ⟨trivial, ?_⟩ | (refine forkD (fun h => ?_) (fun h => ?_)) | (refine forkNe (fun h => ?_) (fun h => ?_)) | (refine forkEq (fun h => ?_) (fun h => ?_)) | refine forkNot ?_ | (refine ⟨vI64 (by omega), ?_⟩) | (refine And.intro (by omega) ?_) | apply And.intro | (exact iEq (by omega)) | (exact vI64 (by omega))
theorem errUp_30 {a : List Bool} {cs : List Cell} : ∀ n : Nat, errUp (dryErr a cs) n = 0 ∨ errUp (dryErr a cs) n = 30
  | 0 => .inl rfl
  | n + 1 => by
    have hd : dryErr a cs n = 0 ∨ dryErr a cs n = 30 := by
      unfold dryErr
      split
      · split
        · exact .inl rfl
        · exact .inr rfl
      · exact .inl rfl
    rcases errUp_30 n with h | h
    · rcases hd with q | q
      · exact .inl (errUp_succ h q)
      · exact .inr (by rw [errUp_at h (by rw [q]; decide) (Nat.lt_succ_self n), q])
    · right
      unfold errUp
      rw [h]; rfl
theorem errDry_30 {a : List Bool} {cs : List Cell} (h : ¬ errDry a cs = 0) : errDry a cs = 30 := (errUp_30 cs.length).resolve_left h
/-! ## Those that have changed -/
theorem trnTo_1 {a : List Bool} {cs ds : List Cell} {x : Nat} (h : ¬ kindC a cs x = kindC a ds x) : trnTo a cs ds (x + 1) = trnTo a cs ds x ++ [⟨(x : Int), kindC a cs x, kindC a ds x⟩] := by
  unfold trnTo
  rw [List.range_succ, List.filter_append, List.map_append]
  have : List.filter (fun k : Nat => !(kindC a cs k == kindC a ds k)) [x] = [x] := by
    rw [List.filter_cons_of_pos (by simpa using h)]; rfl
  rw [this]; rfl
theorem trnTo_2 {a : List Bool} {cs ds : List Cell} {x : Nat} (h : kindC a cs x = kindC a ds x) : trnTo a cs ds (x + 1) = trnTo a cs ds x := by
  unfold trnTo
  rw [List.range_succ, List.filter_append, List.map_append]
  have : List.filter (fun k : Nat => !(kindC a cs k == kindC a ds k)) [x] = [] := by
    rw [List.filter_cons_of_neg (by simpa using h)]; rfl
  rw [this]; simp
theorem trnTo_le (a : List Bool) (cs ds : List Cell) (x : Nat) : (trnTo a cs ds x).length ≤ x := by
  unfold trnTo
  rw [List.length_map]
  have := List.length_filter_le (fun k : Nat => !(kindC a cs k == kindC a ds k)) (List.range x)
  rw [List.length_range] at this; exact this
theorem fT2_1 {w h : Int} {a : List Bool} {w1 h1 t1 : Int} {cs : List Cell} {w2 h2 t2 : Int} {ds : List Cell} {e : Int} (he : errTrn w h a w1 h1 t1 cs w2 h2 t2 ds = e) (hne : ¬ e = 0) : fTurns w h a w1 h1 t1 cs w2 h2 t2 ds = ([], e) := by
  subst he; exact if_neg hne
theorem fT2_0 {w h : Int} {a : List Bool} {w1 h1 t1 : Int} {cs : List Cell} {w2 h2 t2 : Int} {ds : List Cell} (he : errTrn w h a w1 h1 t1 cs w2 h2 t2 ds = 0) : fTurns w h a w1 h1 t1 cs w2 h2 t2 ds = (trnTo a cs ds cs.length, 0) := if_pos he
abbrev trnsV (L : Nat) (g : List Trn × Int) : Value := .tuple #[lisV L g.1.length, .int .i64 g.2]
abbrev trnsO (g : List Trn × Int) : KObj := .cells true 3 (g.1.flatMap trnC)
theorem neB {e : Int} (h : e ≠ 0) : (Value.bool (e != 0)) = .bool true := bEq (by simpa using h)
theorem sidesV {w h w' h' t : Int} {cs : List Cell} (e : errChart w' h' t cs = 0) : errSides w h w' h' t cs = if w' = w ∧ h' = h then 0 else 1 := first2_2 e
theorem sides_ne {w h w' h' t : Int} {cs : List Cell} (e : errChart w' h' t cs = 0) (e2 : errSides w h w' h' t cs ≠ 0) : ¬ (w' = w ∧ h' = h) ∧ errSides w h w' h' t cs = 1 := by
  rw [sidesV e] at e2 ⊢
  by_cases q : w' = w ∧ h' = h
  · rw [if_pos q] at e2; exact absurd rfl e2
  · exact ⟨q, if_neg q⟩
theorem kTurns (w h : Int) (a : List Bool) (w1 h1 t1 : Int) (cs : List Cell) (w2 h2 t2 : Int) (ds : List Cell) {H : Heap} {L : Nat} (hL : H.length = L) {i0 i1 i2 : Nat} {o0 o1 o2 : Bool} {z0 z1 z2 : Nat} (e0 : H[i0]? = some (.cells o0 z0 (a.flatMap boolC))) (e1 : H[i1]? = some (.cells o1 z1 (cs.flatMap cellC))) (e2 : H[i2]? = some (.cells o2 z2 (ds.flatMap cellC))) :
    KCall prog F.drift_Turns [basV w h i0 a.length, chaV w1 h1 t1 i1 cs.length, chaV w2 h2 t2 i2 ds.length] H [] (Is (trnsV L (fTurns w h a w1 h1 t1 cs w2 h2 t2 ds)) (H ++ [trnsO (fTurns w h a w1 h1 t1 cs w2 h2 t2 ds)])) := by
  subst hL
  refine valNs (fun i => trnsV i (fTurns w h a w1 h1 t1 cs w2 h2 t2 ds)) (css := [a.flatMap boolC, cs.flatMap cellC, ds.flatMap cellC]) (new := [trnsO (fTurns w h a w1 h1 t1 cs w2 h2 t2 ds)]) (Eq.mpr (ETurns w h a w1 h1 t1 cs w2 h2 t2 ds) ?_) ⟨plainBL 0 a, plainC 0 cs, plainC 0 ds, trivial⟩
    ⟨⟨_, _, rfl, plainTn 0 _⟩, trivial⟩ rfl rfl (fun _ => rfl) (ids := [i0, i1, i2]) ⟨⟨_, _, e0⟩, ⟨_, _, e1⟩, ⟨_, _, e2⟩, trivial⟩ rfl
  unfold RTurns
  refine ⟨⟨rfl, trivial⟩, fun H' _ hd => kCheckBasin w h a hd.1, forkNe (fun h0 => ?_) (fun h0 => ?_)⟩
  · rw [fT2_1 (first2_1 h0) h0]
    repeat' first | exact trivial | exact rfl | exact wk_refl _ | refine wkO_cells ?_ | refine wks_cons ?_ ?_ | exact wks_nil | exact wk_nil _ _ _ (.inl rfl) | (exact wk_Q (by omega)) | refine wk_tupL ?_ | refine wk_aggL ?_ | refine joinMax ?_ ?_ ?_ | refine joinMin ?_ ?_ ?_ | refine toMax ?_ | refine toMin ?_ | refine ⟨rfl, ?_⟩ | refine ⟨trivial, ?_⟩ | (refine forkD (fun h => ?_) (fun h => ?_)) | (refine forkNe (fun h => ?_) (fun h => ?_)) | (refine forkEq (fun h => ?_) (fun h => ?_)) | refine forkNot ?_ | (refine ⟨vI64 (by omega), ?_⟩) | (refine And.intro (by omega) ?_) | apply And.intro | (exact iEq (by omega)) | (exact vI64 (by omega))
  have b := basOk h0
  have hn := b.n1
  have hp := b.p1
  refine ⟨⟨rfl, trivial⟩, fun H' _ hd => kCheckChart w1 h1 t1 cs hd.1, ⟨rfl, trivial⟩, fun H' _ hd => kCheckChart w2 h2 t2 ds hd.1, ⟨rfl, rfl, trivial⟩, fun H' _ hd => ksides w h a w1 h1 t1 cs hd.1 hd.2.1, ⟨rfl, rfl, trivial⟩, fun H' _ hd => ksides w h a w2 h2 t2 ds hd.1 hd.2.1,
    ⟨rfl, rfl, trivial⟩, fun H' _ hd => kfits b w1 h1 t1 cs hd.1 hd.2.1, ⟨rfl, rfl, trivial⟩, fun H' _ hd => kfits b w2 h2 t2 ds hd.1 hd.2.1, forkNe (fun g1 => ⟨neB g1, ?_⟩) (fun g1 => forkNe (fun g2 => ⟨neB g2, ?_⟩) (fun g2 => forkNe (fun g3 => ⟨neB g3, ?_⟩) (fun g3 => forkNe (fun g4 => ⟨neB g4, ?_⟩) (fun g4 => forkNe (fun g5 => ⟨neB g5, ?_⟩) (fun g5 => forkNe (fun g6 => ⟨neB g6, ?_⟩) (fun g6 => ?_))))))⟩
  · rw [fT2_1 (e := errChart w1 h1 t1 cs) (by unfold errTrn; rw [first2_2 h0, first2_1 g1]) g1]
    repeat' first | exact trivial | exact rfl | exact wk_refl _ | refine wkO_cells ?_ | refine wks_cons ?_ ?_ | exact wks_nil | exact wk_nil _ _ _ (.inl rfl) | (exact wk_Q (by omega)) | refine wk_tupL ?_ | refine wk_aggL ?_ | refine joinMax ?_ ?_ ?_ | refine joinMin ?_ ?_ ?_ | refine toMax ?_ | refine toMin ?_ | refine ⟨rfl, ?_⟩ | refine ⟨trivial, ?_⟩ | (refine forkD (fun h => ?_) (fun h => ?_)) | (refine forkNe (fun h => ?_) (fun h => ?_)) | (refine forkEq (fun h => ?_) (fun h => ?_)) | refine forkNot ?_ | (refine ⟨vI64 (by omega), ?_⟩) | (refine And.intro (by omega) ?_) | apply And.intro | (exact iEq (by omega)) | (exact vI64 (by omega))
  · rw [fT2_1 (e := errChart w2 h2 t2 ds) (by unfold errTrn; rw [first2_2 h0, first2_2 g1, first2_1 g2]) g2]
    repeat' first | exact trivial | exact rfl | exact wk_refl _ | refine wkO_cells ?_ | refine wks_cons ?_ ?_ | exact wks_nil | exact wk_nil _ _ _ (.inl rfl) | (exact wk_Q (by omega)) | refine wk_tupL ?_ | refine wk_aggL ?_ | refine joinMax ?_ ?_ ?_ | refine joinMin ?_ ?_ ?_ | refine toMax ?_ | refine toMin ?_ | refine ⟨rfl, ?_⟩ | refine ⟨trivial, ?_⟩ | (refine forkD (fun h => ?_) (fun h => ?_)) | (refine forkNe (fun h => ?_) (fun h => ?_)) | (refine forkEq (fun h => ?_) (fun h => ?_)) | refine forkNot ?_ | (refine ⟨vI64 (by omega), ?_⟩) | (refine And.intro (by omega) ?_) | apply And.intro | (exact iEq (by omega)) | (exact vI64 (by omega))
  · obtain ⟨n1, n2⟩ := sides_ne g1 g3
    rw [n2, fT2_1 (e := 1) (by unfold errTrn; rw [first2_2 h0, first2_2 g1, first2_2 g2, if_neg (fun q => n1 q.1)]) (by decide)]
    repeat' first | exact trivial | exact rfl | exact wk_refl _ | refine wkO_cells ?_ | refine wks_cons ?_ ?_ | exact wks_nil | exact wk_nil _ _ _ (.inl rfl) | (exact wk_Q (by omega)) | refine wk_tupL ?_ | refine wk_aggL ?_ | refine joinMax ?_ ?_ ?_ | refine joinMin ?_ ?_ ?_ | refine toMax ?_ | refine toMin ?_ | refine ⟨rfl, ?_⟩ | refine ⟨trivial, ?_⟩ | (refine forkD (fun h => ?_) (fun h => ?_)) | (refine forkNe (fun h => ?_) (fun h => ?_)) | (refine forkEq (fun h => ?_) (fun h => ?_)) | refine forkNot ?_ | (refine ⟨vI64 (by omega), ?_⟩) | (refine And.intro (by omega) ?_) | apply And.intro | (exact iEq (by omega)) | (exact vI64 (by omega))
  · obtain ⟨n1, n2⟩ := sides_ne g2 g4
    rw [n2, fT2_1 (e := 1) (by unfold errTrn; rw [first2_2 h0, first2_2 g1, first2_2 g2, if_neg (fun q => n1 q.2)]) (by decide)]
    repeat' first | exact trivial | exact rfl | exact wk_refl _ | refine wkO_cells ?_ | refine wks_cons ?_ ?_ | exact wks_nil | exact wk_nil _ _ _ (.inl rfl) | (exact wk_Q (by omega)) | refine wk_tupL ?_ | refine wk_aggL ?_ | refine joinMax ?_ ?_ ?_ | refine joinMin ?_ ?_ ?_ | refine toMax ?_ | refine toMin ?_ | refine ⟨rfl, ?_⟩ | refine ⟨trivial, ?_⟩ | (refine forkD (fun h => ?_) (fun h => ?_)) | (refine forkNe (fun h => ?_) (fun h => ?_)) | (refine forkEq (fun h => ?_) (fun h => ?_)) | refine forkNot ?_ | (refine ⟨vI64 (by omega), ?_⟩) | (refine And.intro (by omega) ?_) | apply And.intro | (exact iEq (by omega)) | (exact vI64 (by omega))
  all_goals obtain ⟨q1, q2⟩ := (sides_0 g3).2
  all_goals obtain ⟨q3, q4⟩ := (sides_0 g4).2
  · have n2 : errFits w h a w1 h1 t1 cs = errDry a cs := first2_2 g3
    rw [n2] at g5
    rw [n2, fT2_1 (e := errDry a cs) (by unfold errTrn; rw [first2_2 h0, first2_2 g1, first2_2 g2, if_pos ⟨⟨q1, q2⟩, q3, q4⟩, first2_1 g5]) g5]
    repeat' first | exact trivial | exact rfl | exact wk_refl _ | refine wkO_cells ?_ | refine wks_cons ?_ ?_ | exact wks_nil | exact wk_nil _ _ _ (.inl rfl) | (exact wk_Q (by omega)) | refine wk_tupL ?_ | refine wk_aggL ?_ | refine joinMax ?_ ?_ ?_ | refine joinMin ?_ ?_ ?_ | refine toMax ?_ | refine toMin ?_ | refine ⟨rfl, ?_⟩ | refine ⟨trivial, ?_⟩ | (refine forkD (fun h => ?_) (fun h => ?_)) | (refine forkNe (fun h => ?_) (fun h => ?_)) | (refine forkEq (fun h => ?_) (fun h => ?_)) | refine forkNot ?_ | (refine ⟨vI64 (by omega), ?_⟩) | (refine And.intro (by omega) ?_) | apply And.intro | (exact iEq (by omega)) | (exact vI64 (by omega))
  · have n2 : errFits w h a w2 h2 t2 ds = errDry a ds := first2_2 g4
    rw [n2] at g6
    rw [n2, fT2_1 (e := errDry a ds) (by unfold errTrn; rw [first2_2 h0, first2_2 g1, first2_2 g2, if_pos ⟨⟨q1, q2⟩, q3, q4⟩, first2_2 (errFits_0 g5).2]) g6]
    repeat' first | exact trivial | exact rfl | exact wk_refl _ | refine wkO_cells ?_ | refine wks_cons ?_ ?_ | exact wks_nil | exact wk_nil _ _ _ (.inl rfl) | (exact wk_Q (by omega)) | refine wk_tupL ?_ | refine wk_aggL ?_ | refine joinMax ?_ ?_ ?_ | refine joinMin ?_ ?_ ?_ | refine toMax ?_ | refine toMin ?_ | refine ⟨rfl, ?_⟩ | refine ⟨trivial, ?_⟩ | (refine forkD (fun h => ?_) (fun h => ?_)) | (refine forkNe (fun h => ?_) (fun h => ?_)) | (refine forkEq (fun h => ?_) (fun h => ?_)) | refine forkNot ?_ | (refine ⟨vI64 (by omega), ?_⟩) | (refine And.intro (by omega) ?_) | apply And.intro | (exact iEq (by omega)) | (exact vI64 (by omega))
  have o1 := fitOk b g5
  have o2 := fitOk b g6
  have hc1 := o1.n
  have hc2 := o2.n
  have k1 := kindL_len a cs
  have k2 := kindL_len a ds
  rw [fT2_0 (by unfold errTrn; rw [first2_2 h0, first2_2 g1, first2_2 g2, if_pos ⟨⟨q1, q2⟩, q3, q4⟩, first2_2 (errFits_0 g5).2, (errFits_0 g6).2])]
  refine ⟨⟨rfl, rfl, trivial⟩, fun H' hl hd => kkinds w h a w2 h2 t2 ds hc2 (by omega) hl hd.1 hd.2.1, ⟨rfl, rfl, trivial⟩, fun H' hl hd => kkinds w h a w1 h1 t1 cs hc1 (by omega) hl hd.1 hd.2.1, rfl, Nat.zero_le _, ?_, fun _ => rfl, ?_⟩
  · repeat' first | exact trivial | exact rfl | exact wk_refl _ | refine wkO_cells ?_ | refine wks_cons ?_ ?_ | exact wks_nil | exact wk_nil _ _ _ (.inl rfl) | (exact wk_Q (by omega)) | refine wk_tupL ?_ | refine wk_aggL ?_ | refine joinMax ?_ ?_ ?_ | refine joinMin ?_ ?_ ?_ | refine toMax ?_ | refine toMin ?_ | refine ⟨rfl, ?_⟩ | refine ⟨trivial, ?_⟩ | (refine forkD (fun h => ?_) (fun h => ?_)) | (refine forkNe (fun h => ?_) (fun h => ?_)) | (refine forkEq (fun h => ?_) (fun h => ?_)) | refine forkNot ?_ | (refine ⟨vI64 (by omega), ?_⟩) | (refine And.intro (by omega) ?_) | apply And.intro | (exact iEq (by omega)) | (exact vI64 (by omega))
  intro x hx
  have hlen := trnTo_le a cs ds x
  refine forkD (fun k => ?_) (fun k => ?_)
  · have hlt : x < cs.length := by omega
    refine ⟨by omega, intAt (by omega) (by omega), by omega, intAt (by omega) (by omega), ?_⟩
    rw [kindL_get hlt, kindL_get (show x < ds.length by omega)]
    refine forkNe (fun q => ⟨by omega, ?_, ?_⟩) (fun q => ?_)
    · rw [← kindL_get (a := a) (show x < ds.length by omega)]; exact intAt (by omega) (by omega)
    · have hM := trnTo_1 q
      repeat' first | (refine ⟨x + 1, by omega, by omega, rfl, ?_⟩) | exact wk_snoc hM | exact ob_snoc trnC_len hM rfl | exact plainTn _ _ | exact flat_le trnC_len _ | exact Nat.le_refl _ | exact trivial | exact rfl | exact wk_refl _ | refine wkO_cells ?_ | refine wks_cons ?_ ?_ | exact wks_nil | exact wk_nil _ _ _ (.inl rfl) | (exact wk_Q (by omega)) | refine wk_tupL ?_ | refine wk_aggL ?_ | refine joinMax ?_ ?_ ?_ | refine joinMin ?_ ?_ ?_ | refine toMax ?_ | refine toMin ?_ | refine ⟨rfl, ?_⟩ | refine ⟨trivial, ?_⟩ | (refine forkD (fun h => ?_) (fun h => ?_)) | (refine forkNe (fun h => ?_) (fun h => ?_)) | (refine forkEq (fun h => ?_) (fun h => ?_)) | refine forkNot ?_ | (refine ⟨vI64 (by omega), ?_⟩) | (refine And.intro (by omega) ?_) | apply And.intro | (exact iEq (by omega)) | (exact vI64 (by omega))
    · have hM := trnTo_2 q
      refine ⟨vI64 (by omega), x + 1, by omega, by omega, rfl, ?_⟩
      rw [hM]
      repeat' first | exact plainTn _ _ | exact trivial | exact rfl | exact wk_refl _ | refine wkO_cells ?_ | refine wks_cons ?_ ?_ | exact wks_nil | exact wk_nil _ _ _ (.inl rfl) | (exact wk_Q (by omega)) | refine wk_tupL ?_ | refine wk_aggL ?_ | refine joinMax ?_ ?_ ?_ | refine joinMin ?_ ?_ ?_ | refine toMax ?_ | refine toMin ?_ | refine ⟨rfl, ?_⟩ | refine ⟨trivial, ?_⟩ | (refine forkD (fun h => ?_) (fun h => ?_)) | (refine forkNe (fun h => ?_) (fun h => ?_)) | (refine forkEq (fun h => ?_) (fun h => ?_)) | refine forkNot ?_ | (refine ⟨vI64 (by omega), ?_⟩) | (refine And.intro (by omega) ?_) | apply And.intro | (exact iEq (by omega)) | (exact vI64 (by omega))
  · obtain rfl : x = cs.length := by omega
    repeat' first | exact plainTn _ _ | exact trivial | exact rfl | exact wk_refl _ | refine wkO_cells ?_ | refine wks_cons ?_ ?_ | exact wks_nil | exact wk_nil _ _ _ (.inl rfl) | (exact wk_Q (by omega)) | refine wk_tupL ?_ | refine wk_aggL ?_ | refine joinMax ?_ ?_ ?_ | refine joinMin ?_ ?_ ?_ | refine toMax ?_ | refine toMin ?_ | refine ⟨rfl, ?_⟩ | refine ⟨trivial, ?_⟩ | (refine forkD (fun h => ?_) (fun h => ?_)) | (refine forkNe (fun h => ?_) (fun h => ?_)) | (refine forkEq (fun h => ?_) (fun h => ?_)) | refine forkNot ?_ | (refine ⟨vI64 (by omega), ?_⟩) | (refine And.intro (by omega) ?_) | apply And.intro | (exact iEq (by omega)) | (exact vI64 (by omega))
theorem krTurns (w h : Int) (a : List Bool) (w1 h1 t1 : Int) (cs : List Cell) (w2 h2 t2 : Int) (ds : List Cell) {H : Heap} {L : Nat} (hL : H.length = L) {i0 i1 i2 : Nat} {o0 o1 o2 : Bool} {z0 z1 z2 : Nat} (e0 : H[i0]? = some (.cells o0 z0 (a.flatMap boolC))) (e1 : H[i1]? = some (.cells o1 z1 (cs.flatMap cellC))) (e2 : H[i2]? = some (.cells o2 z2 (ds.flatMap cellC))) :
    KCall prog F.polynyaref02_Turns [basV w h i0 a.length, chaV w1 h1 t1 i1 cs.length, chaV w2 h2 t2 i2 ds.length] H [] (Is (trnsV L (fTurns w h a w1 h1 t1 cs w2 h2 t2 ds)) (H ++ [trnsO (fTurns w h a w1 h1 t1 cs w2 h2 t2 ds)])) := by
  subst hL
  refine valNs (fun i => trnsV i (fTurns w h a w1 h1 t1 cs w2 h2 t2 ds)) (css := [a.flatMap boolC, cs.flatMap cellC, ds.flatMap cellC]) (new := [trnsO (fTurns w h a w1 h1 t1 cs w2 h2 t2 ds)]) (Eq.mpr (ErTurns w h a w1 h1 t1 cs w2 h2 t2 ds) ?_) ⟨plainBL 0 a, plainC 0 cs, plainC 0 ds, trivial⟩
    ⟨⟨_, _, rfl, plainTn 0 _⟩, trivial⟩ rfl rfl (fun _ => rfl) (ids := [i0, i1, i2]) ⟨⟨_, _, e0⟩, ⟨_, _, e1⟩, ⟨_, _, e2⟩, trivial⟩ rfl
  unfold RrTurns
  refine ⟨⟨rfl, trivial⟩, fun H' _ hd => krCheckBasin w h a hd.1, forkNe (fun h0 => ?_) (fun h0 => ?_)⟩
  · rw [fT2_1 (first2_1 h0) h0]
    repeat' first | exact trivial | exact rfl | exact wk_refl _ | refine wkO_cells ?_ | refine wks_cons ?_ ?_ | exact wks_nil | exact wk_nil _ _ _ (.inl rfl) | (exact wk_Q (by omega)) | refine wk_tupL ?_ | refine wk_aggL ?_ | refine joinMax ?_ ?_ ?_ | refine joinMin ?_ ?_ ?_ | refine toMax ?_ | refine toMin ?_ | refine ⟨rfl, ?_⟩ | refine ⟨trivial, ?_⟩ | (refine forkD (fun h => ?_) (fun h => ?_)) | (refine forkNe (fun h => ?_) (fun h => ?_)) | (refine forkEq (fun h => ?_) (fun h => ?_)) | refine forkNot ?_ | (refine ⟨vI64 (by omega), ?_⟩) | (refine And.intro (by omega) ?_) | apply And.intro | (exact iEq (by omega)) | (exact vI64 (by omega))
  have b := basOk h0
  have hn := b.n1
  have hp := b.p1
  refine ⟨⟨rfl, trivial⟩, fun H' _ hd => krCheckChart w1 h1 t1 cs hd.1, forkNe (fun g1 => ?_) (fun g1 => ⟨⟨rfl, trivial⟩, fun H' _ hd => krCheckChart w2 h2 t2 ds hd.1, forkNe (fun g2 => ?_) (fun g2 => forkNe (fun g3 => ?_) (fun q1 => forkNe (fun g3 => ?_) (fun q2 => forkNe (fun g3 => ?_) (fun q3 => forkNe (fun g3 => ?_) (fun q4 => ?_)))))⟩)⟩
  · rw [fT2_1 (e := errChart w1 h1 t1 cs) (by unfold errTrn; rw [first2_2 h0, first2_1 g1]) g1]
    repeat' first | exact trivial | exact rfl | exact wk_refl _ | refine wkO_cells ?_ | refine wks_cons ?_ ?_ | exact wks_nil | exact wk_nil _ _ _ (.inl rfl) | (exact wk_Q (by omega)) | refine wk_tupL ?_ | refine wk_aggL ?_ | refine joinMax ?_ ?_ ?_ | refine joinMin ?_ ?_ ?_ | refine toMax ?_ | refine toMin ?_ | refine ⟨rfl, ?_⟩ | refine ⟨trivial, ?_⟩ | (refine forkD (fun h => ?_) (fun h => ?_)) | (refine forkNe (fun h => ?_) (fun h => ?_)) | (refine forkEq (fun h => ?_) (fun h => ?_)) | refine forkNot ?_ | (refine ⟨vI64 (by omega), ?_⟩) | (refine And.intro (by omega) ?_) | apply And.intro | (exact iEq (by omega)) | (exact vI64 (by omega))
  · rw [fT2_1 (e := errChart w2 h2 t2 ds) (by unfold errTrn; rw [first2_2 h0, first2_2 g1, first2_1 g2]) g2]
    repeat' first | exact trivial | exact rfl | exact wk_refl _ | refine wkO_cells ?_ | refine wks_cons ?_ ?_ | exact wks_nil | exact wk_nil _ _ _ (.inl rfl) | (exact wk_Q (by omega)) | refine wk_tupL ?_ | refine wk_aggL ?_ | refine joinMax ?_ ?_ ?_ | refine joinMin ?_ ?_ ?_ | refine toMax ?_ | refine toMin ?_ | refine ⟨rfl, ?_⟩ | refine ⟨trivial, ?_⟩ | (refine forkD (fun h => ?_) (fun h => ?_)) | (refine forkNe (fun h => ?_) (fun h => ?_)) | (refine forkEq (fun h => ?_) (fun h => ?_)) | refine forkNot ?_ | (refine ⟨vI64 (by omega), ?_⟩) | (refine And.intro (by omega) ?_) | apply And.intro | (exact iEq (by omega)) | (exact vI64 (by omega))
  iterate 4
    · rw [fT2_1 (e := 1) (by unfold errTrn; rw [first2_2 h0, first2_2 g1, first2_2 g2, if_neg (fun q => by first | exact g3 q.1.1 | exact g3 q.1.2 | exact g3 q.2.1 | exact g3 q.2.2)]) (by decide)]
      repeat' first | exact trivial | exact rfl | exact wk_refl _ | refine wkO_cells ?_ | refine wks_cons ?_ ?_ | exact wks_nil | exact wk_nil _ _ _ (.inl rfl) | (exact wk_Q (by omega)) | refine wk_tupL ?_ | refine wk_aggL ?_ | refine joinMax ?_ ?_ ?_ | refine joinMin ?_ ?_ ?_ | refine toMax ?_ | refine toMin ?_ | refine ⟨rfl, ?_⟩ | refine ⟨trivial, ?_⟩ | (refine forkD (fun h => ?_) (fun h => ?_)) | (refine forkNe (fun h => ?_) (fun h => ?_)) | (refine forkEq (fun h => ?_) (fun h => ?_)) | refine forkNot ?_ | (refine ⟨vI64 (by omega), ?_⟩) | (refine And.intro (by omega) ?_) | apply And.intro | (exact iEq (by omega)) | (exact vI64 (by omega))
  have o1 := sidesOk b (by rw [sidesV g1, if_pos ⟨q1, q2⟩] : errSides w h w1 h1 t1 cs = 0)
  have o2 := sidesOk b (by rw [sidesV g2, if_pos ⟨q3, q4⟩] : errSides w h w2 h2 t2 ds = 0)
  have hc1 := o1.n
  have hc2 := o2.n
  have hd30 : ∀ {cs : List Cell}, ¬ errDry a cs = 0 → errDry a cs = 30 := fun {cs} q => errDry_30 q
  refine ⟨⟨rfl, rfl, trivial⟩, fun H' _ hd => krdry w h a w1 h1 t1 cs hc1 (by omega) hd.1 hd.2.1, forkNe (fun g3 => ?_) (fun g3 => ⟨⟨rfl, rfl, trivial⟩, fun H' _ hd => krdry w h a w2 h2 t2 ds hc2 (by omega) hd.1 hd.2.1, forkNe (fun g4 => ?_) (fun g4 => ?_)⟩)⟩
  · rw [fT2_1 (e := 30) (by unfold errTrn; rw [first2_2 h0, first2_2 g1, first2_2 g2, if_pos ⟨⟨q1, q2⟩, q3, q4⟩, first2_1 g3, hd30 g3]) (by decide)]
    repeat' first | exact trivial | exact rfl | exact wk_refl _ | refine wkO_cells ?_ | refine wks_cons ?_ ?_ | exact wks_nil | exact wk_nil _ _ _ (.inl rfl) | (exact wk_Q (by omega)) | refine wk_tupL ?_ | refine wk_aggL ?_ | refine joinMax ?_ ?_ ?_ | refine joinMin ?_ ?_ ?_ | refine toMax ?_ | refine toMin ?_ | refine ⟨rfl, ?_⟩ | refine ⟨trivial, ?_⟩ | (refine forkD (fun h => ?_) (fun h => ?_)) | (refine forkNe (fun h => ?_) (fun h => ?_)) | (refine forkEq (fun h => ?_) (fun h => ?_)) | refine forkNot ?_ | (refine ⟨vI64 (by omega), ?_⟩) | (refine And.intro (by omega) ?_) | apply And.intro | (exact iEq (by omega)) | (exact vI64 (by omega))
  · rw [fT2_1 (e := 30) (by unfold errTrn; rw [first2_2 h0, first2_2 g1, first2_2 g2, if_pos ⟨⟨q1, q2⟩, q3, q4⟩, first2_2 g3, hd30 g4]) (by decide)]
    repeat' first | exact trivial | exact rfl | exact wk_refl _ | refine wkO_cells ?_ | refine wks_cons ?_ ?_ | exact wks_nil | exact wk_nil _ _ _ (.inl rfl) | (exact wk_Q (by omega)) | refine wk_tupL ?_ | refine wk_aggL ?_ | refine joinMax ?_ ?_ ?_ | refine joinMin ?_ ?_ ?_ | refine toMax ?_ | refine toMin ?_ | refine ⟨rfl, ?_⟩ | refine ⟨trivial, ?_⟩ | (refine forkD (fun h => ?_) (fun h => ?_)) | (refine forkNe (fun h => ?_) (fun h => ?_)) | (refine forkEq (fun h => ?_) (fun h => ?_)) | refine forkNot ?_ | (refine ⟨vI64 (by omega), ?_⟩) | (refine And.intro (by omega) ?_) | apply And.intro | (exact iEq (by omega)) | (exact vI64 (by omega))
  rw [fT2_0 (by unfold errTrn; rw [first2_2 h0, first2_2 g1, first2_2 g2, if_pos ⟨⟨q1, q2⟩, q3, q4⟩, first2_2 g3, g4])]
  refine ⟨rfl, Nat.zero_le _, ?_, fun _ => rfl, ?_⟩
  · repeat' first | exact trivial | exact rfl | exact wk_refl _ | refine wkO_cells ?_ | refine wks_cons ?_ ?_ | exact wks_nil | exact wk_nil _ _ _ (.inl rfl) | (exact wk_Q (by omega)) | refine wk_tupL ?_ | refine wk_aggL ?_ | refine joinMax ?_ ?_ ?_ | refine joinMin ?_ ?_ ?_ | refine toMax ?_ | refine toMin ?_ | refine ⟨rfl, ?_⟩ | refine ⟨trivial, ?_⟩ | (refine forkD (fun h => ?_) (fun h => ?_)) | (refine forkNe (fun h => ?_) (fun h => ?_)) | (refine forkEq (fun h => ?_) (fun h => ?_)) | refine forkNot ?_ | (refine ⟨vI64 (by omega), ?_⟩) | (refine And.intro (by omega) ?_) | apply And.intro | (exact iEq (by omega)) | (exact vI64 (by omega))
  intro x hx
  have hlen := trnTo_le a cs ds x
  refine forkD (fun k => ?_) (fun k => ?_)
  · have hlt : x < cs.length := by omega
    have hlt2 : x < ds.length := by omega
    refine ⟨⟨rfl, rfl, trivial⟩, fun H' _ hd => krKind w h a w1 h1 t1 cs x hlt (o1.lo hlt) hc1 (by omega) hd.1 hd.2.1, ⟨rfl, rfl, trivial⟩, fun H' _ hd => krKind w h a w2 h2 t2 ds x hlt2 (o2.lo hlt2) hc2 (by omega) hd.1 hd.2.1, forkNe (fun q => ?_) (fun q => ?_)⟩
    · have hM := trnTo_1 q
      refine ⟨⟨rfl, rfl, trivial⟩, fun H' _ hd => krKind w h a w1 h1 t1 cs x hlt (o1.lo hlt) hc1 (by omega) hd.1 hd.2.1, ⟨rfl, rfl, trivial⟩, fun H' _ hd => krKind w h a w2 h2 t2 ds x hlt2 (o2.lo hlt2) hc2 (by omega) hd.1 hd.2.1, ?_⟩
      repeat' first | (refine ⟨x + 1, by omega, by omega, rfl, ?_⟩) | exact wk_snoc hM | exact ob_snoc trnC_len hM rfl | exact plainTn _ _ | exact flat_le trnC_len _ | exact Nat.le_refl _ | exact trivial | exact rfl | exact wk_refl _ | refine wkO_cells ?_ | refine wks_cons ?_ ?_ | exact wks_nil | exact wk_nil _ _ _ (.inl rfl) | (exact wk_Q (by omega)) | refine wk_tupL ?_ | refine wk_aggL ?_ | refine joinMax ?_ ?_ ?_ | refine joinMin ?_ ?_ ?_ | refine toMax ?_ | refine toMin ?_ | refine ⟨rfl, ?_⟩ | refine ⟨trivial, ?_⟩ | (refine forkD (fun h => ?_) (fun h => ?_)) | (refine forkNe (fun h => ?_) (fun h => ?_)) | (refine forkEq (fun h => ?_) (fun h => ?_)) | refine forkNot ?_ | (refine ⟨vI64 (by omega), ?_⟩) | (refine And.intro (by omega) ?_) | apply And.intro | (exact iEq (by omega)) | (exact vI64 (by omega))
    · have hM := trnTo_2 q
      refine ⟨vI64 (by omega), x + 1, by omega, by omega, rfl, ?_⟩
      rw [hM]
      repeat' first | exact plainTn _ _ | exact trivial | exact rfl | exact wk_refl _ | refine wkO_cells ?_ | refine wks_cons ?_ ?_ | exact wks_nil | exact wk_nil _ _ _ (.inl rfl) | (exact wk_Q (by omega)) | refine wk_tupL ?_ | refine wk_aggL ?_ | refine joinMax ?_ ?_ ?_ | refine joinMin ?_ ?_ ?_ | refine toMax ?_ | refine toMin ?_ | refine ⟨rfl, ?_⟩ | refine ⟨trivial, ?_⟩ | (refine forkD (fun h => ?_) (fun h => ?_)) | (refine forkNe (fun h => ?_) (fun h => ?_)) | (refine forkEq (fun h => ?_) (fun h => ?_)) | refine forkNot ?_ | (refine ⟨vI64 (by omega), ?_⟩) | (refine And.intro (by omega) ?_) | apply And.intro | (exact iEq (by omega)) | (exact vI64 (by omega))
  · obtain rfl : x = cs.length := by omega
    repeat' first | exact plainTn _ _ | exact trivial | exact rfl | exact wk_refl _ | refine wkO_cells ?_ | refine wks_cons ?_ ?_ | exact wks_nil | exact wk_nil _ _ _ (.inl rfl) | (exact wk_Q (by omega)) | refine wk_tupL ?_ | refine wk_aggL ?_ | refine joinMax ?_ ?_ ?_ | refine joinMin ?_ ?_ ?_ | refine toMax ?_ | refine toMin ?_ | refine ⟨rfl, ?_⟩ | refine ⟨trivial, ?_⟩ | (refine forkD (fun h => ?_) (fun h => ?_)) | (refine forkNe (fun h => ?_) (fun h => ?_)) | (refine forkEq (fun h => ?_) (fun h => ?_)) | refine forkNot ?_ | (refine ⟨vI64 (by omega), ?_⟩) | (refine And.intro (by omega) ?_) | apply And.intro | (exact iEq (by omega)) | (exact vI64 (by omega))
end
end Go.Proofs.Ytkkgnalgmebfjaa
/- Drift: neighbours, and ways over them. No condition. -/
namespace Go.Proofs.Ytkkgnalgmebfjaa
set_option linter.unusedSimpArgs false
open Go Go.K
set_option maxRecDepth 100000
set_option linter.unusedVariables false
noncomputable section
theorem sq64 {x : Int} (h : -64 ≤ x ∧ x ≤ 64) : 0 ≤ x * x ∧ x * x ≤ 4096 := by
  rcases Int.le_total 0 x with h0 | h0
  · exact ⟨Int.mul_nonneg h0 h0, by have := Int.mul_le_mul h.2 h.2 h0 (by omega); omega⟩
  · have h1 : (-x) * (-x) = x * x := Int.neg_mul_neg x x
    have h2 := Int.mul_nonneg (show 0 ≤ -x by omega) (show 0 ≤ -x by omega)
    have h3 := Int.mul_le_mul (show -x ≤ 64 by omega) (show -x ≤ 64 by omega) (show 0 ≤ -x by omega) (by omega)
    omega
theorem sq1 {x : Int} (h : x * x ≤ 1) : -1 ≤ x ∧ x ≤ 1 := by
  constructor
  · rcases Int.le_total (-1) x with q | q
    · exact q
    · rcases (show x < -1 ∨ -1 ≤ x by omega) with r | r
      · have h1 : (-x) * (-x) = x * x := Int.neg_mul_neg x x
        have h3 := Int.mul_le_mul (show 2 ≤ -x by omega) (show 2 ≤ -x by omega) (by omega) (show 0 ≤ -x by omega)
        omega
      · exact r
  · rcases (show 1 < x ∨ x ≤ 1 by omega) with r | r
    · have h3 := Int.mul_le_mul (show 2 ≤ x by omega) (show 2 ≤ x by omega) (by omega) (show 0 ≤ x by omega)
      omega
    · exact r
theorem sq_one {x y : Int} (h : x * x + y * y = 1) : (x = 0 ∧ (y = 1 ∨ y = -1)) ∨ (y = 0 ∧ (x = 1 ∨ x = -1)) := by
  have hx : 0 ≤ x * x := by
    rcases Int.le_total 0 x with h0 | h0
    · exact Int.mul_nonneg h0 h0
    · have := Int.mul_nonneg (show 0 ≤ -x by omega) (show 0 ≤ -x by omega); rw [Int.neg_mul_neg] at this; exact this
  have hy : 0 ≤ y * y := by
    rcases Int.le_total 0 y with h0 | h0
    · exact Int.mul_nonneg h0 h0
    · have := Int.mul_nonneg (show 0 ≤ -y by omega) (show 0 ≤ -y by omega); rw [Int.neg_mul_neg] at this; exact this
  obtain ⟨a1, a2⟩ := sq1 (x := x) (by omega)
  obtain ⟨b1, b2⟩ := sq1 (x := y) (by omega)
  have cx : x = -1 ∨ x = 0 ∨ x = 1 := by omega
  have cy : y = -1 ∨ y = 0 ∨ y = 1 := by omega
  rcases cx with rfl | rfl | rfl <;> rcases cy with rfl | rfl | rfl <;> revert h <;> decide
theorem divmod_of {w x y : Int} (hx : 0 ≤ x ∧ x < w) (hy : 0 ≤ y) : Int.tdiv (y * w + x) w = y ∧ Int.tmod (y * w + x) w = x := by
  have h0 : 0 ≤ y * w := Int.mul_nonneg hy (by omega)
  rw [Int.tdiv_eq_ediv_of_nonneg (by omega), Int.tmod_eq_emod_of_nonneg (by omega)]
  constructor
  · rw [Int.add_comm, Int.add_mul_ediv_right _ _ (by omega), Int.ediv_eq_zero_of_lt hx.1 hx.2, Int.zero_add]
  · rw [Int.add_comm, Int.add_mul_emod_self_right, Int.emod_eq_of_lt hx.1 hx.2]
theorem cell_of {w c : Int} (hw : 1 ≤ w) (hc : 0 ≤ c) : Int.tdiv c w * w + Int.tmod c w = c := by
  rw [Int.tdiv_eq_ediv_of_nonneg hc, Int.tmod_eq_emod_of_nonneg hc, Int.mul_comm]
  exact Int.mul_ediv_add_emod c w
theorem four {j : Nat} (h : j < 4) : (bdx j = 0 ∧ bdy j = -1) ∨ (bdx j = -1 ∧ bdy j = 0) ∨ (bdx j = 1 ∧ bdy j = 0) ∨ (bdx j = 0 ∧ bdy j = 1) := by
  have : j = 0 ∨ j = 1 ∨ j = 2 ∨ j = 3 := by omega
  rcases this with rfl | rfl | rfl | rfl
  · exact .inl ⟨rfl, rfl⟩
  · exact .inr (.inl ⟨rfl, rfl⟩)
  · exact .inr (.inr (.inl ⟨rfl, rfl⟩))
  · exact .inr (.inr (.inr ⟨rfl, rfl⟩))
theorem mv4 {j : Nat} (h : j < 4) : mvOk ⟨bdx j, bdy j⟩ := by
  unfold mvOk
  rcases four h with ⟨r1, r2⟩ | ⟨r1, r2⟩ | ⟨r1, r2⟩ | ⟨r1, r2⟩ <;> (dsimp only; rw [r1, r2]; decide)
theorem bs_bd {w h : Int} {a : List Bool} (b : BasOk w h a.length) {i : Int} (hi : 0 ≤ i ∧ i < (a.length : Int)) (j : Nat) : 0 ≤ bsT w h a i j ∧ bsT w h a i j < (a.length : Int) := by
  have hn := b.n1
  have := targ_bd (a := a) (w := w) (h := h) (c := i) ⟨hi.1, by omega⟩ ⟨bdx j, bdy j⟩
  unfold bsT; omega
theorem nbr_bes {w h : Int} {a : List Bool} (b : BasOk w h a.length) {i k : Int} (hi : 0 ≤ i ∧ i < (a.length : Int)) (hn : nbr w h a i k) : (0 ≤ k ∧ k < (a.length : Int)) ∧ besB w i k = true ∧ a.getD (Int.toNat k) false = false := by
  obtain ⟨h1, j, hj, hk⟩ := hn
  have hw := b.w1
  have hnn := b.n1
  have hbd := bs_bd b hi j
  rw [hk] at hbd
  refine ⟨hbd, ?_⟩
  unfold bsT at hk
  by_cases q : tgIn w h a i ⟨bdx j, bdy j⟩
  · rw [targ_1 q] at hk
    obtain ⟨q1, q2, q3⟩ := q
    dsimp only at hk q1 q2 q3
    obtain ⟨d1, d2⟩ := divmod_of q1 q2.1
    rw [hk] at d1 d2 q3
    refine ⟨?_, q3⟩
    unfold besB
    rw [d1, d2]
    have e1 : Int.tmod i w - (Int.tmod i w + bdx j) = - bdx j := by omega
    have e2 : Int.tdiv i w - (Int.tdiv i w + bdy j) = - bdy j := by omega
    rw [e1, e2]
    rcases four hj with ⟨r1, r2⟩ | ⟨r1, r2⟩ | ⟨r1, r2⟩ | ⟨r1, r2⟩ <;> rw [r1, r2] <;> decide
  · rw [targ_0 q] at hk
    exact absurd hk.symm h1
theorem bes_nbr {w h : Int} {a : List Bool} (b : BasOk w h a.length) {i k : Int} (hi : 0 ≤ i ∧ i < (a.length : Int)) (hk : 0 ≤ k ∧ k < (a.length : Int)) (ha : a.getD (Int.toNat k) false = false) (hb : besB w i k = true) : nbr w h a i k := by
  have hw := b.w1
  have hnn := b.n1
  unfold besB at hb
  have hs := sq_one (of_decide_eq_true hb)
  obtain ⟨i1, i2⟩ := divmod b (c := i) ⟨hi.1, by omega⟩
  obtain ⟨k1, k2⟩ := divmod b (c := k) ⟨hk.1, by omega⟩
  have ck := cell_of (w := w) hw.1 hk.1
  have ci := cell_of (w := w) hw.1 hi.1
  have key : ∀ j, Int.tmod k w = Int.tmod i w + bdx j → Int.tdiv k w = Int.tdiv i w + bdy j → bsT w h a i j = k := fun j e1 e2 => by
    unfold bsT
    have e3 : (Int.tdiv i w + bdy j) * w + (Int.tmod i w + bdx j) = k := by rw [← e1, ← e2]; exact ck
    rw [targ_1 ⟨by dsimp only; omega, by dsimp only; omega, by dsimp only; rw [e3]; exact ha⟩]
    exact e3
  have hne : k ≠ i := fun e => by
    subst e
    rcases hs with ⟨_, q | q⟩ | ⟨_, q | q⟩ <;> omega
  refine ⟨hne, ?_⟩
  rcases hs with ⟨q1, q2 | q2⟩ | ⟨q1, q2 | q2⟩
  · exact ⟨0, by omega, key 0 (by show _ = _ + 0; omega) (by show _ = _ + -1; omega)⟩
  · exact ⟨3, by omega, key 3 (by show _ = _ + 0; omega) (by show _ = _ + 1; omega)⟩
  · exact ⟨1, by omega, key 1 (by show _ = _ + -1; omega) (by show _ = _ + 0; omega)⟩
  · exact ⟨2, by omega, key 2 (by show _ = _ + 1; omega) (by show _ = _ + 0; omega)⟩
theorem kind_sea {a : List Bool} {cs : List Cell} {k : Nat} {κ : Int} (h : κ ≤ kindC a cs k) (hκ : 2 ≤ κ) : a.getD k false = false := by
  cases q : a.getD k false
  · rfl
  · rw [kind_0 q] at h; omega
theorem Rc.range {w h : Int} {a : List Bool} {cs : List Cell} {κ f : Int} (b : BasOk w h a.length) (hf : 0 ≤ f ∧ f < (a.length : Int)) {i : Int} (r : Rc w h a cs κ f i) : 0 ≤ i ∧ i < (a.length : Int) := by
  induction r with
  | base => exact hf
  | step h1 h2 h3 ih => exact (nbr_bes b ih h2).1
theorem nat_cast {i : Int} (h : 0 ≤ i) : ((Int.toNat i : Nat) : Int) = i := Int.toNat_of_nonneg h
theorem joinB_iff {w h : Int} {a : List Bool} {cs : List Cell} {κ f t : Int} : joinB w h a cs κ f t = true ↔ Rc w h a cs κ f t := by
  unfold joinB
  exact ⟨fun q => @of_decide_eq_true _ (Classical.propDecidable _) q, fun q => @decide_eq_true _ (Classical.propDecidable _) q⟩
theorem join_eq {w h : Int} {a : List Bool} {cs : List Cell} {κ f t : Int} {B : Bool} (h1 : B = true → Rc w h a cs κ f t) (h2 : Rc w h a cs κ f t → B = true) : B = joinB w h a cs κ f t := by
  cases hB : B
  · cases hJ : joinB w h a cs κ f t
    · rfl
    · have := h2 (joinB_iff.1 hJ); rw [hB] at this; cases this
  · exact (joinB_iff.2 (h1 hB)).symm
theorem over_end {w h : Int} {a : List Bool} {cs : List Cell} {κ f g : Int} (b : BasOk w h a.length) (hκ : 2 ≤ κ) (hf : 0 ≤ f ∧ f < (a.length : Int)) (hg : 0 ≤ g ∧ g < (a.length : Int)) {M : List Bool} (o : OvI w h a cs κ f M)
    (hd : ∀ i k, i < a.length → k < a.length → ovAt w a cs κ M i k) : M.getD (Int.toNat g) false = joinB w h a cs κ f g := by
  refine join_eq (fun q => ?_) (fun r => ?_)
  · have := o.rc (Int.toNat g) (by omega) (by unfold mTrue; rw [Int.toNat_natCast]; exact q)
    rw [nat_cast hg.1] at this; exact this
  · have key : ∀ i, Rc w h a cs κ f i → (0 ≤ i ∧ i < (a.length : Int)) ∧ mTrue M i := fun i r => by
      induction r with
      | base h0 => exact ⟨hf, o.f0 h0⟩
      | @step i k h1 h2 h3 ih =>
        obtain ⟨n1, n2, n3⟩ := nbr_bes b ih.1 h2
        refine ⟨n1, ?_⟩
        have := hd (Int.toNat i) (Int.toNat k) (by omega) (by omega)
        unfold ovAt at this
        rw [nat_cast ih.1.1, nat_cast n1.1] at this
        exact this ih.2 n2 h3
    exact (key g r).2
/-! ## Sets that grow -/
theorem unmet_set {M : List Bool} {k : Nat} (h : k < M.length) (hk : M.getD k false = false) : unmet (M.set k true) + 1 = unmet M := by
  induction M generalizing k with
  | nil => cases h
  | cons m M ih =>
    cases k with
    | zero =>
      have : m = false := hk
      subst this
      simp [unmet]
    | succ k =>
      have := ih (k := k) (by simpa using h) hk
      simp only [unmet, List.set_cons_succ, List.countP_cons] at this ⊢
      omega
theorem mTrue_set {M : List Bool} {k : Int} (h : 0 ≤ k ∧ k < (M.length : Int)) {i : Int} (hi : mTrue M i) : mTrue (M.set (Int.toNat k) true) i := by
  unfold mTrue at *
  rw [getD_set (by omega)]
  split
  · rfl
  · exact hi
theorem mTrue_self {M : List Bool} {k : Int} (h : 0 ≤ k ∧ k < (M.length : Int)) : mTrue (M.set (Int.toNat k) true) k := by
  unfold mTrue
  rw [getD_set (by omega), if_pos rfl]
theorem mTrue_back {M : List Bool} {k : Int} (h : 0 ≤ k ∧ k < (M.length : Int)) {i : Nat} (hi : mTrue (M.set (Int.toNat k) true) (i : Int)) : (i : Int) = k ∨ mTrue M (i : Int) := by
  unfold mTrue at *
  rw [Int.toNat_natCast] at *
  rw [getD_set (by omega)] at hi
  split at hi
  · left; omega
  · exact .inr hi
theorem OvI.add {w h : Int} {a : List Bool} {cs : List Cell} {κ f : Int} {M : List Bool} (o : OvI w h a cs κ f M) {i k : Nat} (hi : i < a.length) (hk : k < a.length) (b : BasOk w h a.length) (hκ : 2 ≤ κ) (h1 : mTrue M (i : Int)) (h2 : besB w (i : Int) (k : Int) = true) (h3 : κ ≤ kindC a cs k) : OvI w h a cs κ f (M.set k true) := by
  have hl := o.len
  have hk2 : (0 : Int) ≤ (k : Int) ∧ (k : Int) < (M.length : Int) := by omega
  refine ⟨by rw [List.length_set]; exact o.len, fun j hj hm => ?_, fun h0 => mTrue_set (k := (k : Int)) hk2 (o.f0 h0)⟩
  rcases mTrue_back (k := (k : Int)) hk2 hm with e | e
  · have : j = k := by omega
    subst this
    exact .step (o.rc i hi h1) (bes_nbr b ⟨by omega, by omega⟩ ⟨by omega, by omega⟩ (by rw [Int.toNat_natCast]; exact kind_sea h3 hκ) h2) (by unfold kindI; rw [Int.toNat_natCast]; exact h3)
  · exact o.rc j hj e
theorem ovM_len (a : List Bool) (cs : List Cell) (κ f : Int) : (ovM a cs κ f).length = cs.length := by unfold ovM; rw [List.length_set, List.length_replicate]
theorem rep_false {n k : Nat} : (List.replicate n false).getD k false = false := by
  rw [List.getD_eq_getElem?_getD, List.getElem?_replicate]; split <;> rfl
theorem ovM_ok {w h : Int} {a : List Bool} {cs : List Cell} {κ f : Int} (hn : cs.length = a.length) (hf : 0 ≤ f ∧ f < (a.length : Int)) : OvI w h a cs κ f (ovM a cs κ f) := by
  refine ⟨by rw [ovM_len, hn], fun i hi hm => ?_, fun h0 => ?_⟩
  · unfold mTrue ovM at hm
    rw [Int.toNat_natCast, getD_set (by rw [List.length_replicate]; omega)] at hm
    split at hm
    · rename_i e
      have : (i : Int) = f := by omega
      rw [this]
      exact .base (of_decide_eq_true hm)
    · rw [rep_false] at hm; cases hm
  · unfold mTrue ovM
    rw [getD_set (by rw [List.length_replicate]; omega), if_pos rfl]
    exact decide_eq_true h0
/-! ## The program's search -/
theorem metF_ok {w h : Int} {a : List Bool} {cs : List Cell} {κ f : Int} (hn : cs.length = a.length) (hf : 0 ≤ f ∧ f < (a.length : Int)) (h0 : κ ≤ kindI a cs f) : Bfs w h a cs κ f [f] (metF cs f) := by
  have hl : (metF cs f).length = a.length := by unfold metF; rw [List.length_set, List.length_replicate, hn]
  have hff : mTrue (metF cs f) f := by unfold metF; exact mTrue_self (by rw [List.length_replicate, hn]; exact hf)
  have hback : ∀ i : Nat, mTrue (metF cs f) (i : Int) → (i : Int) = f := fun i hm => by
    unfold metF at hm
    rcases mTrue_back (by rw [List.length_replicate, hn]; exact hf) hm with e | e
    · exact e
    · unfold mTrue at e; rw [rep_false] at e; cases e
  have hu : unmet (metF cs f) + 1 = a.length := by
    unfold metF
    rw [unmet_set (by rw [List.length_replicate]; omega) rep_false]
    unfold unmet
    rw [List.countP_replicate, if_pos (show (!false) = true from rfl), hn]
  exact ⟨hl, hff, fun i hi hm => by rw [hback i hm]; exact .base h0, fun i hi => by rw [List.mem_singleton.1 hi]; exact ⟨hf, hff⟩, by show 1 + _ ≤ _; omega, fun i hi hm => .inl (by rw [hback i hm]; exact List.mem_singleton.2 rfl)⟩
theorem Bfs.pop {w h : Int} {a : List Bool} {cs : List Cell} {κ f i : Int} {Q : List Int} {M : List Bool} (o : Bfs w h a cs κ f (i :: Q) M) : BfsJ w h a cs κ f i 0 Q M :=
  ⟨o.len, o.f0, o.rc, fun k hk => o.q k (List.mem_cons_of_mem _ hk), o.q i (List.mem_cons_self ..), fun j hj => absurd hj (Nat.not_lt_zero j), by have := o.sz; rw [List.length_cons] at this; omega, fun k hk hm => by
    rcases o.done k hk hm with e | e
    · rcases List.mem_cons.1 e with e | e
      · exact .inl e
      · exact .inr (.inl e)
    · exact .inr (.inr e)⟩
theorem BfsJ.skip {w h : Int} {a : List Bool} {cs : List Cell} {κ f i : Int} {x : Nat} {Q : List Int} {M : List Bool} (o : BfsJ w h a cs κ f i x Q M) (hs : bsT w h a i x ≠ i → κ ≤ kindI a cs (bsT w h a i x) → mTrue M (bsT w h a i x)) : BfsJ w h a cs κ f i (x + 1) Q M :=
  ⟨o.len, o.f0, o.rc, o.q, o.ii, fun j hj => by
    by_cases e : j = x
    · subst e; exact hs
    · exact o.seen j (by omega), o.sz, o.done⟩
theorem BfsJ.add {w h : Int} {a : List Bool} {cs : List Cell} {κ f i : Int} {x : Nat} {Q : List Int} {M : List Bool} (b : BasOk w h a.length) (o : BfsJ w h a cs κ f i x Q M) (hx : x < 4) (h1 : bsT w h a i x ≠ i) (h2 : κ ≤ kindI a cs (bsT w h a i x)) (h0 : M.getD (Int.toNat (bsT w h a i x)) false = false) :
    BfsJ w h a cs κ f i (x + 1) (Q ++ [bsT w h a i x]) (M.set (Int.toNat (bsT w h a i x)) true) := by
  have hl := o.len
  have hb := bs_bd b o.ii.1 x
  have hk : 0 ≤ bsT w h a i x ∧ bsT w h a i x < (M.length : Int) := by omega
  refine ⟨by rw [List.length_set]; exact o.len, mTrue_set hk o.f0, fun k hk2 hm => ?_, fun k hk2 => ?_, ⟨o.ii.1, mTrue_set hk o.ii.2⟩, fun j hj q1 q2 => ?_, by have := unmet_set (M := M) (k := Int.toNat (bsT w h a i x)) (by omega) h0; have := o.sz; rw [List.length_append, List.length_singleton]; omega, fun k hk2 hm => ?_⟩
  · rcases mTrue_back hk hm with e | e
    · rw [e]
      have hi := o.ii
      have : Rc w h a cs κ f i := by
        have := o.rc (Int.toNat i) (by omega) (by rw [nat_cast hi.1.1]; exact hi.2)
        rw [nat_cast hi.1.1] at this; exact this
      exact .step this ⟨h1, x, hx, rfl⟩ h2
    · exact o.rc k hk2 e
  · rcases List.mem_append.1 hk2 with e | e
    · obtain ⟨e1, e2⟩ := o.q k e; exact ⟨e1, mTrue_set hk e2⟩
    · rw [List.mem_singleton.1 e]; exact ⟨hb, mTrue_self hk⟩
  · by_cases e : j = x
    · subst e; exact mTrue_self hk
    · exact mTrue_set hk (o.seen j (by omega) q1 q2)
  · rcases mTrue_back hk hm with e | e
    · exact .inr (.inl (List.mem_append_right _ (List.mem_singleton.2 e)))
    · rcases o.done k hk2 e with e2 | e2 | e2
      · exact .inl e2
      · exact .inr (.inl (List.mem_append_left _ e2))
      · exact .inr (.inr fun k2 n1 n2 => mTrue_set hk (e2 k2 n1 n2))
theorem BfsJ.fin {w h : Int} {a : List Bool} {cs : List Cell} {κ f i : Int} {Q : List Int} {M : List Bool} (o : BfsJ w h a cs κ f i 4 Q M) : Bfs w h a cs κ f Q M :=
  ⟨o.len, o.f0, o.rc, o.q, o.sz, fun k hk hm => by
    rcases o.done k hk hm with e | e | e
    · right
      rw [e]
      rintro k2 ⟨n1, j, hj, rfl⟩ n2
      exact o.seen j hj n1 n2
    · exact .inl e
    · exact .inr e⟩
theorem Bfs.eq {w h : Int} {a : List Bool} {cs : List Cell} {κ f g : Int} {M : List Bool} (b : BasOk w h a.length) (hf : 0 ≤ f ∧ f < (a.length : Int)) (hg : 0 ≤ g ∧ g < (a.length : Int)) (o : Bfs w h a cs κ f [] M) : M.getD (Int.toNat g) false = joinB w h a cs κ f g := by
  refine join_eq (fun q => ?_) (fun r => ?_)
  · have := o.rc (Int.toNat g) (by omega) (by unfold mTrue; rw [Int.toNat_natCast]; exact q)
    rw [nat_cast hg.1] at this; exact this
  · have key : ∀ i, Rc w h a cs κ f i → (0 ≤ i ∧ i < (a.length : Int)) ∧ mTrue M i := fun i r => by
      induction r with
      | base h0 => exact ⟨hf, o.f0⟩
      | @step i k h1 h2 h3 ih =>
        obtain ⟨n1, n2, n3⟩ := nbr_bes b ih.1 h2
        refine ⟨n1, ?_⟩
        have := o.done (Int.toNat i) (by omega) (by rw [nat_cast ih.1.1]; exact ih.2)
        rw [nat_cast ih.1.1] at this
        rcases this with e | e
        · cases e
        · exact e k h2 h3
    exact (key g r).2
theorem Bfs.hit {w h : Int} {a : List Bool} {cs : List Cell} {κ f g : Int} {Q : List Int} {M : List Bool} (o : Bfs w h a cs κ f (g :: Q) M) : M.getD (Int.toNat g) false = true ∧ joinB w h a cs κ f g = true := by
  obtain ⟨q1, q2⟩ := o.q g (List.mem_cons_self ..)
  refine ⟨q2, joinB_iff.2 ?_⟩
  have := o.rc (Int.toNat g) (by omega) (by rw [nat_cast q1.1]; exact q2)
  rw [nat_cast q1.1] at this; exact this
end
end Go.Proofs.Ytkkgnalgmebfjaa
/- Drift: the reference's ways over leads. No condition. -/
namespace Go.Proofs.Ytkkgnalgmebfjaa
open Go Go.K
set_option maxRecDepth 100000
set_option linter.unusedVariables false
set_option linter.unusedSimpArgs false
noncomputable section
attribute [local irreducible] vF
theorem krbeside {w h : Int} {a : List Bool} (b : BasOk w h a.length) {i k : Int} (hi : 0 ≤ i ∧ i < w * h) (hk : 0 ≤ k ∧ k < w * h) {H : Heap} {id : Nat} {own : Bool} {z : Nat} (hid : H[id]? = some (.cells own z (a.flatMap boolC))) :
    KCall prog F.polynyaref02_beside [basV w h id a.length, .int .i64 i, .int .i64 k] H [] (Is (.bool (besB w i k)) H) := by
  refine valR (css := [a.flatMap boolC]) (v := .bool (besB w i k)) (Eq.mpr (Erbeside _ w h a i k) ?_) (one_cs (plainBL 0 a)) rfl [id] rfl (one_id hid)
  unfold Rrbeside
  obtain ⟨i1, i2⟩ := divmod b hi
  obtain ⟨k1, k2⟩ := divmod b hk
  have hw := b.w1
  have hh := b.h1
  have s1 := sq64 (x := Int.tmod i w - Int.tmod k w) (by omega)
  have s2 := sq64 (x := Int.tdiv i w - Int.tdiv k w) (by omega)
  have hw0 : w ≠ 0 := by omega
  refine ⟨hw0, hw0, vI64 (by omega), hw0, vI64 (by omega), hw0, vI64 (by omega), vI64 (by omega), vI64 (by omega), _, rfl, vI64 (by omega), _, rfl, vI64 (by omega), bEq ?_⟩
  unfold besB
  rfl
theorem krep_bool (n : Nat) : krep [.bool false] n = (List.replicate n false).flatMap boolC := by
  induction n with
  | zero => rfl
  | succ n ih => rw [List.replicate_succ, List.flatMap_cons, ← ih]; rfl
theorem ovM_flat {a : List Bool} {cs : List Cell} {κ f : Int} (hf : 0 ≤ f ∧ f < (cs.length : Int)) : setl (krep [.bool false] cs.length) (0 + Int.toNat f * 1) [.bool (decide (κ ≤ kindC a cs (Int.toNat f)))] = (ovM a cs κ f).flatMap boolC := by
  rw [krep_bool, Nat.zero_add]
  exact flat_set boolC_len _ _ (by rw [List.length_replicate]; omega) _
theorem set_flat {M : List Bool} {y : Nat} (hy : y < M.length) : setl (M.flatMap boolC) (0 + Int.toNat ((y : Nat) : Int) * 1) [.bool true] = (M.set y true).flatMap boolC := by
  rw [Int.toNat_natCast, Nat.zero_add]
  exact flat_set boolC_len _ _ hy true
theorem ov_step {w : Int} {a : List Bool} {cs : List Cell} {κ : Int} {M : List Bool} {x y : Nat} (h : ∀ k, k < y → ovAt w a cs κ M x k) (h1 : ovAt w a cs κ M x y) : ∀ k, k < y + 1 → ovAt w a cs κ M x k := fun k hk => by
  by_cases e : k = y
  · subst e; exact h1
  · exact h k (by omega)
theorem mT_cast {M : List Bool} {y : Nat} : mTrue M (y : Int) ↔ M.getD y false = true := by unfold mTrue; rw [Int.toNat_natCast]
set_option maxHeartbeats 2000000 in
theorem krover {w h : Int} {a : List Bool} (b : BasOk w h a.length) (w' h' t : Int) {cs : List Cell} (hn : cs.length = a.length) (hc : ∀ k, k < cs.length → (cs.getD k zeroC).conc.lo ≤ (cs.getD k zeroC).conc.hi) {f g κ : Int} (hκ : 2 ≤ κ) (hf : 0 ≤ f ∧ f < (a.length : Int)) (hg : 0 ≤ g ∧ g < (a.length : Int))
    {H : Heap} {i0 i1 : Nat} {o0 o1 : Bool} {z0 z1 : Nat} (e0 : H[i0]? = some (.cells o0 z0 (a.flatMap boolC))) (e1 : H[i1]? = some (.cells o1 z1 (cs.flatMap cellC))) :
    KCall prog F.polynyaref02_over [basV w h i0 a.length, chaV w' h' t i1 cs.length, .int .i64 f, .int .i64 g, .int .i64 κ] H [] (Is (.bool (joinB w h a cs κ f g)) H) := by
  refine valR (Eq.mpr (Erover _ w h a w' h' t cs f g κ) ?_) (twoCs (plainBL 0 a) (plainC 0 cs)) rfl [i0, i1] rfl (twoId e0 e1)
  unfold Rrover
  have hnn := b.n1
  have hp := b.p1
  have hT1 : Bool.toNat true = 1 := rfl
  have hT0 : Bool.toNat false = 0 := rfl
  refine ⟨by omega, ⟨rfl, rfl, trivial⟩, fun H' _ hd => ?_, by omega, by rw [krep_length]; show _ ≤ _ * 1; omega, rfl, rfl, ⟨ovM_ok hn hf, fun q => by cases q⟩, ?_, fun _ => rfl, ?_⟩
  · have := krKind w h a w' h' t cs (Int.toNat f) (by omega) (hc _ (by omega)) hn (by omega) hd.1 hd.2.1
    rw [nat_cast hf.1] at this; exact this
  · rw [ovM_flat (by omega)]
    repeat' first | exact plainBL _ _ | exact trivial | exact rfl | exact wk_refl _ | refine wkO_cells ?_ | refine wks_cons ?_ ?_ | exact wks_nil | exact wk_nil _ _ _ (.inl rfl) | (exact wk_Q (by omega)) | refine wk_tupL ?_ | refine wk_aggL ?_ | refine joinMax ?_ ?_ ?_ | refine joinMin ?_ ?_ ?_ | refine toMax ?_ | refine toMin ?_ | refine ⟨rfl, ?_⟩ | refine ⟨trivial, ?_⟩ | (refine forkD (fun h => ?_) (fun h => ?_)) | (refine forkNe (fun h => ?_) (fun h => ?_)) | (refine forkEq (fun h => ?_) (fun h => ?_)) | refine forkNot ?_ | (refine ⟨vI64 (by omega), ?_⟩) | (refine And.intro (by omega) ?_) | apply And.intro | (exact iEq (by omega)) | (exact vI64 (by omega))
  rintro ⟨M, m⟩ ⟨o, hd⟩
  dsimp only at o hd ⊢
  have hML := o.len
  refine ⟨fun hm => ?_, fun hm => ⟨by omega, boolAt (by omega) (by omega), bEq (over_end b hκ hf hg o (hd hm))⟩⟩
  subst hm
  refine ⟨rfl, ⟨Nat.zero_le _, o, by omega, fun _ i k hi => absurd hi (Nat.not_lt_zero _)⟩, ?_, fun _ => rfl, ?_⟩
  · repeat' first | exact plainBL _ _ | exact trivial | exact rfl | exact wk_refl _ | refine wkO_cells ?_ | refine wks_cons ?_ ?_ | exact wks_nil | exact wk_nil _ _ _ (.inl rfl) | (exact wk_Q (by omega)) | refine wk_tupL ?_ | refine wk_aggL ?_ | refine joinMax ?_ ?_ ?_ | refine joinMin ?_ ?_ ?_ | refine toMax ?_ | refine toMin ?_ | refine ⟨rfl, ?_⟩ | refine ⟨trivial, ?_⟩ | (refine forkD (fun h => ?_) (fun h => ?_)) | (refine forkNe (fun h => ?_) (fun h => ?_)) | (refine forkEq (fun h => ?_) (fun h => ?_)) | refine forkNot ?_ | (refine ⟨vI64 (by omega), ?_⟩) | (refine And.intro (by omega) ?_) | apply And.intro | (exact iEq (by omega)) | (exact vI64 (by omega))
  rintro ⟨x, M2, m2⟩ ⟨hx, o2, hu2, hd2⟩
  dsimp only at hx o2 hu2 hd2 ⊢
  have hML2 := o2.len
  refine forkD (fun k => ?_) (fun k => ?_)
  · refine ⟨rfl, ⟨Nat.zero_le _, o2, Nat.le_refl _, fun q => ⟨⟨rfl, q⟩, fun k hk => absurd hk (Nat.not_lt_zero _)⟩⟩, ?_, fun _ => rfl, ?_⟩
    · repeat' first | exact plainBL _ _ | exact trivial | exact rfl | exact wk_refl _ | refine wkO_cells ?_ | refine wks_cons ?_ ?_ | exact wks_nil | exact wk_nil _ _ _ (.inl rfl) | (exact wk_Q (by omega)) | refine wk_tupL ?_ | refine wk_aggL ?_ | refine joinMax ?_ ?_ ?_ | refine joinMin ?_ ?_ ?_ | refine toMax ?_ | refine toMin ?_ | refine ⟨rfl, ?_⟩ | refine ⟨trivial, ?_⟩ | (refine forkD (fun h => ?_) (fun h => ?_)) | (refine forkNe (fun h => ?_) (fun h => ?_)) | (refine forkEq (fun h => ?_) (fun h => ?_)) | refine forkNot ?_ | (refine ⟨vI64 (by omega), ?_⟩) | (refine And.intro (by omega) ?_) | apply And.intro | (exact iEq (by omega)) | (exact vI64 (by omega))
    rintro ⟨y, M3, m3⟩ ⟨hy, o3, hu3, hd3⟩
    dsimp only at hy o3 hu3 hd3 ⊢
    have hML3 := o3.len
    refine forkD (fun k2 => ?_) (fun k2 => ?_)
    · have hyl : y < a.length := by omega
      have hxl : x < a.length := by omega
      have again : ovAt w a cs κ M3 x y → (y + 1 ≤ a.length ∧ OvI w h a cs κ f M3 ∧ (unmet M3 + Bool.toNat m3 ≤ unmet M2 + Bool.toNat m2) ∧ (m3 = false → (M3 = M2 ∧ m2 = false) ∧ ∀ k, k < y + 1 → ovAt w a cs κ M3 x k)) := fun q =>
        ⟨by omega, o3, hu3, fun r => ⟨(hd3 r).1, ov_step (hd3 r).2 q⟩⟩
      refine ⟨by omega, boolAt (by omega) (by omega), forkB (fun h1 => ⟨by omega, boolAt (by omega) (by omega), forkNot (forkB (fun h2 => ?_) (fun h2 => ⟨⟨rfl, trivial⟩, fun H' _ hd => krbeside b (by omega) (by omega) hd.1, forkB (fun h3 => ⟨⟨rfl, rfl, trivial⟩, fun H' _ hd => krKind w h a w' h' t cs y (by omega) (hc _ (by omega)) hn (by omega) hd.1 hd.2.1, forkD (fun h4 => ?_) (fun h4 => ?_)⟩) (fun h3 => ?_)⟩))⟩) (fun h1 => ?_)⟩
      · refine ⟨vI64 (by omega), (y + 1, M3, m3), again (fun _ _ _ => mT_cast.2 h2), by dsimp only; omega, rfl, ?_⟩
        repeat' first | exact plainBL _ _ | exact trivial | exact rfl | exact wk_refl _ | refine wkO_cells ?_ | refine wks_cons ?_ ?_ | exact wks_nil | exact wk_nil _ _ _ (.inl rfl) | (exact wk_Q (by omega)) | refine wk_tupL ?_ | refine wk_aggL ?_ | refine joinMax ?_ ?_ ?_ | refine joinMin ?_ ?_ ?_ | refine toMax ?_ | refine toMin ?_ | refine ⟨rfl, ?_⟩ | refine ⟨trivial, ?_⟩ | (refine forkD (fun h => ?_) (fun h => ?_)) | (refine forkNe (fun h => ?_) (fun h => ?_)) | (refine forkEq (fun h => ?_) (fun h => ?_)) | refine forkNot ?_ | (refine ⟨vI64 (by omega), ?_⟩) | (refine And.intro (by omega) ?_) | apply And.intro | (exact iEq (by omega)) | (exact vI64 (by omega))
      · have hus := unmet_set (M := M3) (k := y) (by omega) h2
        refine ⟨by omega, by rw [flat_len boolC_len]; omega, rfl, vI64 (by omega), (y + 1, M3.set y true, true), ⟨by dsimp only; omega, o3.add hxl hyl b hκ (mT_cast.2 h1) h3 h4, by dsimp only; omega, fun q => by cases q⟩, by dsimp only; omega, rfl, ?_⟩
        rw [set_flat (by omega)]
        repeat' first | exact plainBL _ _ | exact trivial | exact rfl | exact wk_refl _ | refine wkO_cells ?_ | refine wks_cons ?_ ?_ | exact wks_nil | exact wk_nil _ _ _ (.inl rfl) | (exact wk_Q (by omega)) | refine wk_tupL ?_ | refine wk_aggL ?_ | refine joinMax ?_ ?_ ?_ | refine joinMin ?_ ?_ ?_ | refine toMax ?_ | refine toMin ?_ | refine ⟨rfl, ?_⟩ | refine ⟨trivial, ?_⟩ | (refine forkD (fun h => ?_) (fun h => ?_)) | (refine forkNe (fun h => ?_) (fun h => ?_)) | (refine forkEq (fun h => ?_) (fun h => ?_)) | refine forkNot ?_ | (refine ⟨vI64 (by omega), ?_⟩) | (refine And.intro (by omega) ?_) | apply And.intro | (exact iEq (by omega)) | (exact vI64 (by omega))
      · refine ⟨vI64 (by omega), (y + 1, M3, m3), again (fun _ _ q => absurd q h4), by dsimp only; omega, rfl, ?_⟩
        repeat' first | exact plainBL _ _ | exact trivial | exact rfl | exact wk_refl _ | refine wkO_cells ?_ | refine wks_cons ?_ ?_ | exact wks_nil | exact wk_nil _ _ _ (.inl rfl) | (exact wk_Q (by omega)) | refine wk_tupL ?_ | refine wk_aggL ?_ | refine joinMax ?_ ?_ ?_ | refine joinMin ?_ ?_ ?_ | refine toMax ?_ | refine toMin ?_ | refine ⟨rfl, ?_⟩ | refine ⟨trivial, ?_⟩ | (refine forkD (fun h => ?_) (fun h => ?_)) | (refine forkNe (fun h => ?_) (fun h => ?_)) | (refine forkEq (fun h => ?_) (fun h => ?_)) | refine forkNot ?_ | (refine ⟨vI64 (by omega), ?_⟩) | (refine And.intro (by omega) ?_) | apply And.intro | (exact iEq (by omega)) | (exact vI64 (by omega))
      · refine ⟨vI64 (by omega), (y + 1, M3, m3), again (fun _ q _ => by rw [h3] at q; cases q), by dsimp only; omega, rfl, ?_⟩
        repeat' first | exact plainBL _ _ | exact trivial | exact rfl | exact wk_refl _ | refine wkO_cells ?_ | refine wks_cons ?_ ?_ | exact wks_nil | exact wk_nil _ _ _ (.inl rfl) | (exact wk_Q (by omega)) | refine wk_tupL ?_ | refine wk_aggL ?_ | refine joinMax ?_ ?_ ?_ | refine joinMin ?_ ?_ ?_ | refine toMax ?_ | refine toMin ?_ | refine ⟨rfl, ?_⟩ | refine ⟨trivial, ?_⟩ | (refine forkD (fun h => ?_) (fun h => ?_)) | (refine forkNe (fun h => ?_) (fun h => ?_)) | (refine forkEq (fun h => ?_) (fun h => ?_)) | refine forkNot ?_ | (refine ⟨vI64 (by omega), ?_⟩) | (refine And.intro (by omega) ?_) | apply And.intro | (exact iEq (by omega)) | (exact vI64 (by omega))
      · refine ⟨vI64 (by omega), (y + 1, M3, m3), again (fun q _ _ => by rw [mT_cast, h1] at q; cases q), by dsimp only; omega, rfl, ?_⟩
        repeat' first | exact plainBL _ _ | exact trivial | exact rfl | exact wk_refl _ | refine wkO_cells ?_ | refine wks_cons ?_ ?_ | exact wks_nil | exact wk_nil _ _ _ (.inl rfl) | (exact wk_Q (by omega)) | refine wk_tupL ?_ | refine wk_aggL ?_ | refine joinMax ?_ ?_ ?_ | refine joinMin ?_ ?_ ?_ | refine toMax ?_ | refine toMin ?_ | refine ⟨rfl, ?_⟩ | refine ⟨trivial, ?_⟩ | (refine forkD (fun h => ?_) (fun h => ?_)) | (refine forkNe (fun h => ?_) (fun h => ?_)) | (refine forkEq (fun h => ?_) (fun h => ?_)) | refine forkNot ?_ | (refine ⟨vI64 (by omega), ?_⟩) | (refine And.intro (by omega) ?_) | apply And.intro | (exact iEq (by omega)) | (exact vI64 (by omega))
    · have hyl : y = a.length := by omega
      refine ⟨vI64 (by omega), (x + 1, M3, m3), ⟨by dsimp only; omega, o3, by dsimp only; omega, fun q i j hi hk => ?_⟩, by dsimp only; omega, rfl, ?_⟩
      · obtain ⟨⟨r1, r2⟩, r3⟩ := hd3 q
        dsimp only at hi ⊢
        by_cases e : i = x
        · rw [e]; exact r3 j (by omega)
        · rw [r1]; exact hd2 r2 i j (by omega) hk
      · repeat' first | exact plainBL _ _ | exact trivial | exact rfl | exact wk_refl _ | refine wkO_cells ?_ | refine wks_cons ?_ ?_ | exact wks_nil | exact wk_nil _ _ _ (.inl rfl) | (exact wk_Q (by omega)) | refine wk_tupL ?_ | refine wk_aggL ?_ | refine joinMax ?_ ?_ ?_ | refine joinMin ?_ ?_ ?_ | refine toMax ?_ | refine toMin ?_ | refine ⟨rfl, ?_⟩ | refine ⟨trivial, ?_⟩ | (refine forkD (fun h => ?_) (fun h => ?_)) | (refine forkNe (fun h => ?_) (fun h => ?_)) | (refine forkEq (fun h => ?_) (fun h => ?_)) | refine forkNot ?_ | (refine ⟨vI64 (by omega), ?_⟩) | (refine And.intro (by omega) ?_) | apply And.intro | (exact iEq (by omega)) | (exact vI64 (by omega))
  · have hxl : x = a.length := by omega
    refine ⟨(M2, m2), ⟨o2, fun q i k hi hk => hd2 q i k (by omega) hk⟩, by dsimp only; omega, rfl, ?_⟩
    repeat' first | exact plainBL _ _ | exact trivial | exact rfl | exact wk_refl _ | refine wkO_cells ?_ | refine wks_cons ?_ ?_ | exact wks_nil | exact wk_nil _ _ _ (.inl rfl) | (exact wk_Q (by omega)) | refine wk_tupL ?_ | refine wk_aggL ?_ | refine joinMax ?_ ?_ ?_ | refine joinMin ?_ ?_ ?_ | refine toMax ?_ | refine toMin ?_ | refine ⟨rfl, ?_⟩ | refine ⟨trivial, ?_⟩ | (refine forkD (fun h => ?_) (fun h => ?_)) | (refine forkNe (fun h => ?_) (fun h => ?_)) | (refine forkEq (fun h => ?_) (fun h => ?_)) | refine forkNot ?_ | (refine ⟨vI64 (by omega), ?_⟩) | (refine And.intro (by omega) ?_) | apply And.intro | (exact iEq (by omega)) | (exact vI64 (by omega))
theorem fJ_1 {w h : Int} {a : List Bool} {w' h' t : Int} {cs : List Cell} {f g : Int} (e : ¬ (fKinds w h a w' h' t cs).2 = 0) : fJoin w h a w' h' t cs f g = (0, (fKinds w h a w' h' t cs).2) := if_neg e
theorem fJ_2 {w h : Int} {a : List Bool} {w' h' t : Int} {cs : List Cell} {f g : Int} (e : (fKinds w h a w' h' t cs).2 = 0) (s : ¬ (seaB a f && seaB a g) = true) : fJoin w h a w' h' t cs f g = (0, 1) := by unfold fJoin; rw [if_pos e, if_neg s]
theorem fJ_3 {w h : Int} {a : List Bool} {w' h' t : Int} {cs : List Cell} {f g : Int} (e : (fKinds w h a w' h' t cs).2 = 0) (s : seaB a f = true) (s2 : seaB a g = true) : fJoin w h a w' h' t cs f g = if joinB w h a cs 3 f g = true then (2, 0) else if joinB w h a cs 2 f g = true then (1, 0) else (0, 0) := by
  unfold fJoin; rw [if_pos e, if_pos (by rw [s, s2]; rfl)]
theorem fK_ok {w h : Int} {a : List Bool} {w' h' t : Int} {cs : List Cell} (e : (fKinds w h a w' h' t cs).2 = 0) : BasOk w h a.length ∧ FitOk w h a w' h' cs ∧ fKinds w h a w' h' t cs = (kindL a cs, 0) := by
  by_cases h0 : errBas w h a.length = 0
  · by_cases h1 : errFits w h a w' h' t cs = 0
    · exact ⟨basOk h0, fitOk (basOk h0) h1, fK_0 h0 h1⟩
    · rw [fK_f h0 h1] at e; exact absurd e h1
  · rw [fK_b h0] at e; exact absurd e h0
abbrev twoV (g : Int × Int) : Value := .tuple #[.int .i64 g.1, .int .i64 g.2]
theorem krJoined (w h : Int) (a : List Bool) (w' h' t : Int) (cs : List Cell) (f g : Int) {H : Heap} {i0 i1 : Nat} {o0 o1 : Bool} {z0 z1 : Nat} (e0 : H[i0]? = some (.cells o0 z0 (a.flatMap boolC))) (e1 : H[i1]? = some (.cells o1 z1 (cs.flatMap cellC))) :
    KCall prog F.polynyaref02_Joined [basV w h i0 a.length, chaV w' h' t i1 cs.length, .int .i64 f, .int .i64 g] H [] (Is (twoV (fJoin w h a w' h' t cs f g)) H) := by
  refine valR (Eq.mpr (ErJoined _ w h a w' h' t cs f g) ?_) (twoCs (plainBL 0 a) (plainC 0 cs)) rfl [i0, i1] rfl (twoId e0 e1)
  unfold RrJoined
  refine ⟨⟨rfl, rfl, trivial⟩, fun H' hl hd => krKinds w h a w' h' t cs hl hd.1 hd.2.1, forkNe (fun h0 => ?_) (fun h0 => ?_)⟩
  · rw [fJ_1 h0]
  obtain ⟨b, o, hK⟩ := fK_ok h0
  refine ⟨⟨rfl, trivial⟩, fun H' _ hd => krisSea b hd.1, forkNot (forkB (fun s1 => ⟨⟨rfl, trivial⟩, fun H' _ hd => krisSea b hd.1, forkNot (forkB (fun s2 => ?_) (fun s2 => ?_))⟩) (fun s1 => ?_))⟩
  · have hf := seaB_t s1
    have hg := seaB_t s2
    rw [fJ_3 h0 s1 s2]
    refine ⟨⟨rfl, rfl, trivial⟩, fun H' _ hd => krover b w' h' t o.n (fun k hk => o.lo hk) (by decide) hf hg hd.1 hd.2.1, forkB (fun q => ?_) (fun q => ⟨⟨rfl, rfl, trivial⟩, fun H' _ hd => krover b w' h' t o.n (fun k hk => o.lo hk) (by decide) hf hg hd.1 hd.2.1, forkB (fun q2 => ?_) (fun q2 => ?_)⟩)⟩
    · rw [if_pos q]
    · rw [if_neg (by rw [q]; decide), if_pos q2]
    · rw [if_neg (by rw [q]; decide), if_neg (by rw [q2]; decide)]
  · rw [fJ_2 h0 (by rw [s1, s2]; decide)]
  · rw [fJ_2 h0 (by rw [s1]; exact Bool.false_ne_true)]
end
end Go.Proofs.Ytkkgnalgmebfjaa
/- Drift: the program's ways over leads. No condition. -/
namespace Go.Proofs.Ytkkgnalgmebfjaa
open Go Go.K
set_option maxRecDepth 100000
set_option linter.unusedVariables false
set_option linter.unusedSimpArgs false
noncomputable section
attribute [local irreducible] vF
theorem Rc.first {w h : Int} {a : List Bool} {cs : List Cell} {κ f t : Int} (r : Rc w h a cs κ f t) : κ ≤ kindI a cs f := by
  induction r with
  | base h0 => exact h0
  | step _ _ _ ih => exact ih
theorem drop_get {C : List Int} {o : Nat} (h : o < C.length) : C.drop o = C.getD o 0 :: C.drop (o + 1) := by
  rw [List.drop_eq_getElem_cons h, List.getD_eq_getElem?_getD, List.getElem?_eq_getElem h]; rfl
theorem meas_cons (i : Int) (Q : List Int) (M : List Bool) : meas (i :: Q) M = meas Q M + 1 := by unfold meas; rw [List.length_cons]; omega
theorem meas_add {M : List Bool} {k : Nat} (h : k < M.length) (hk : M.getD k false = false) (Q : List Int) (t : Int) : meas (Q ++ [t]) (M.set k true) + 1 = meas Q M := by
  have := unmet_set h hk
  unfold meas; rw [List.length_append, List.length_singleton]; omega
theorem wk_SF {id o n m : Nat} (h : m = n) : wk (.slice (some ⟨id, o, none⟩) n n) (.slice (some ⟨id, o, none⟩) m m) := by subst h; exact wk_refl _
theorem metF_flat {cs : List Cell} {f : Int} (hf : 0 ≤ f ∧ f < (cs.length : Int)) : setl (krep [.bool false] cs.length) (0 + Int.toNat f * 1) [.bool true] = (metF cs f).flatMap boolC := by
  rw [krep_bool, Nat.zero_add]
  exact flat_set boolC_len _ _ (by rw [List.length_replicate]; omega) _
theorem metI_flat {M : List Bool} {t : Int} (hy : 0 ≤ t ∧ t < (M.length : Int)) : setl (M.flatMap boolC) (0 + Int.toNat t * 1) [.bool true] = (M.set (Int.toNat t) true).flatMap boolC := by
  rw [Nat.zero_add]
  exact flat_set boolC_len _ _ (by omega) true
theorem kix {j : Nat} (h : j < 4) : kindex prog 206 (.agg #[nI 0, nI (-1), nI (-1), nI 0, nI 1, nI 0, nI 0, nI 1]) (nI ((j : Nat) : Int)) = some (.agg #[nI (List.getD [0, (-1), 1, 0] j 0), nI (List.getD [(-1), 0, 0, 1] j 0)]) := by
  have : j = 0 ∨ j = 1 ∨ j = 2 ∨ j = 3 := by omega
  rcases this with rfl | rfl | rfl | rfl
  · exact (by kernel_rfl : kindex prog 206 (.agg #[nI 0, nI (-1), nI (-1), nI 0, nI 1, nI 0, nI 0, nI 1]) (nI 0) = some (.agg #[nI 0, nI (-1)]))
  · exact (by kernel_rfl : kindex prog 206 (.agg #[nI 0, nI (-1), nI (-1), nI 0, nI 1, nI 0, nI 0, nI 1]) (nI 1) = some (.agg #[nI (-1), nI 0]))
  · exact (by kernel_rfl : kindex prog 206 (.agg #[nI 0, nI (-1), nI (-1), nI 0, nI 1, nI 0, nI 0, nI 1]) (nI 2) = some (.agg #[nI 1, nI 0]))
  · exact (by kernel_rfl : kindex prog 206 (.agg #[nI 0, nI (-1), nI (-1), nI 0, nI 1, nI 0, nI 0, nI 1]) (nI 3) = some (.agg #[nI 0, nI 1]))
theorem flat_drop1 (C : List Int) (o : Nat) : (C.flatMap intC).drop o = (C.drop o).flatMap intC := by
  induction C generalizing o with
  | nil => simp
  | cons c C ih =>
    cases o with
    | zero => rfl
    | succ o => exact ih o
theorem snoc_flat {C : List Int} {o : Nat} (ho : o ≤ C.length) (t : Int) : ((C.flatMap intC).drop o).take ((C.length - o) * 1) ++ (([nI t] : List Value).drop 0).take (1 * 1) = (C.drop o ++ [t]).flatMap intC := by
  rw [flat_drop1, Nat.mul_one, List.take_of_length_le (by rw [flat_len intC_len, List.length_drop]; omega), List.flatMap_append]; rfl
set_option maxHeartbeats 4000000 in
theorem kJoined (w h : Int) (a : List Bool) (w' h' t : Int) (cs : List Cell) (f g : Int) {H : Heap} {i0 i1 : Nat} {o0 o1 : Bool} {z0 z1 : Nat} (e0 : H[i0]? = some (.cells o0 z0 (a.flatMap boolC))) (e1 : H[i1]? = some (.cells o1 z1 (cs.flatMap cellC))) :
    KCall prog F.drift_Joined [basV w h i0 a.length, chaV w' h' t i1 cs.length, .int .i64 f, .int .i64 g] H [] (Is (twoV (fJoin w h a w' h' t cs f g)) H) := by
  refine valR (Eq.mpr (EJoined _ w h a w' h' t cs f g) ?_) (twoCs (plainBL 0 a) (plainC 0 cs)) rfl [i0, i1] rfl (twoId e0 e1)
  unfold RJoined
  refine ⟨⟨rfl, rfl, trivial⟩, fun H' hl hd => kKinds w h a w' h' t cs hl hd.1 hd.2.1, forkNe (fun h0 => ?_) (fun h0 => ?_)⟩
  · rw [fJ_1 h0]
  obtain ⟨b, o, hK⟩ := fK_ok h0
  refine ⟨⟨rfl, trivial⟩, fun H' _ hd => kis b hd.1, forkNot (forkB (fun s1 => ⟨⟨rfl, trivial⟩, fun H' _ hd => kis b hd.1, forkNot (forkB (fun s2 => ?_) (fun s2 => ?_))⟩) (fun s1 => ?_))⟩
  rotate_left
  · rw [fJ_2 h0 (by rw [s1, s2]; decide)]
  · rw [fJ_2 h0 (by rw [s1]; exact Bool.false_ne_true)]
  have hf := seaB_t s1
  have hg := seaB_t s2
  have hcn := o.n
  have hkl := kindL_len a cs
  have hnn := b.n1
  have hp := b.p1
  rw [fJ_3 h0 s1 s2, hK]
  dsimp only
  refine ⟨rfl, ⟨Nat.zero_le _, fun j hj => absurd hj (Nat.not_lt_zero _)⟩, ?_, fun _ => rfl, ?_⟩
  · repeat' first | exact trivial | exact rfl | exact wk_refl _ | refine wkO_cells ?_ | refine wks_cons ?_ ?_ | exact wks_nil | exact wk_nil _ _ _ (.inl rfl) | (exact wk_Q (by omega)) | refine wk_tupL ?_ | refine wk_aggL ?_ | refine joinMax ?_ ?_ ?_ | refine joinMin ?_ ?_ ?_ | refine toMax ?_ | refine toMin ?_ | refine ⟨rfl, ?_⟩ | refine ⟨trivial, ?_⟩ | (refine forkD (fun h => ?_) (fun h => ?_)) | (refine forkNe (fun h => ?_) (fun h => ?_)) | (refine forkEq (fun h => ?_) (fun h => ?_)) | refine forkNot ?_ | (refine ⟨vI64 (by omega), ?_⟩) | (refine And.intro (by omega) ?_) | apply And.intro | (exact iEq (by omega)) | (exact vI64 (by omega))
  rintro x ⟨hx, hj⟩
  refine forkD (fun k => ?_) (fun k => ?_)
  · have hx2 : x = 0 ∨ x = 1 := by omega
    obtain ⟨hκ2, hκ3⟩ : 2 ≤ List.getD [(3 : Int), 2] x 0 ∧ List.getD [(3 : Int), 2] x 0 ≤ 3 := by rcases hx2 with rfl | rfl <;> decide
    have hkf : (kindL a cs).getD (Int.toNat f) 0 = kindI a cs f := kindL_get (by omega)
    have fin : joinB w h a cs (List.getD [3, 2] x 0) f g = true → (if joinB w h a cs 3 f g = true then ((2 : Int), (0 : Int)) else if joinB w h a cs 2 f g = true then (1, 0) else (0, 0)) = (List.getD [3, 2] x 0 - 1, 0) := fun q => by
      rcases hx2 with rfl | rfl
      · rw [if_pos (show joinB w h a cs 3 f g = true from q)]; rfl
      · have j0 : joinB w h a cs 3 f g = false := hj 0 (by omega)
        rw [if_neg (by rw [j0]; decide), if_pos (show joinB w h a cs 2 f g = true from q)]; rfl
    have next : joinB w h a cs (List.getD [3, 2] x 0) f g = false → ∀ j, j < x + 1 → joinB w h a cs (List.getD [3, 2] j 0) f g = false := fun q j hj2 => by
      by_cases e : j = x
      · subst e; exact q
      · exact hj j (by omega)
    refine ⟨by omega, intAt (a := [3, 2]) (by show x < 2; omega) (by omega), by omega, intAt (by omega) (by omega), ?_⟩
    rw [hkf]
    generalize hκ : List.getD [(3 : Int), 2] x 0 = κ at *
    refine forkD (fun kl => ?_) (fun kl => ?_)
    · refine ⟨vI64 (by omega), x + 1, ⟨by omega, next ?_⟩, by omega, rfl, ?_⟩
      · cases q : joinB w h a cs κ f g
        · rfl
        · have := (joinB_iff.1 q).first; omega
      · repeat' first | exact trivial | exact rfl | exact wk_refl _ | refine wkO_cells ?_ | refine wks_cons ?_ ?_ | exact wks_nil | exact wk_nil _ _ _ (.inl rfl) | (exact wk_Q (by omega)) | refine wk_tupL ?_ | refine wk_aggL ?_ | refine joinMax ?_ ?_ ?_ | refine joinMin ?_ ?_ ?_ | refine toMax ?_ | refine toMin ?_ | refine ⟨rfl, ?_⟩ | refine ⟨trivial, ?_⟩ | (refine forkD (fun h => ?_) (fun h => ?_)) | (refine forkNe (fun h => ?_) (fun h => ?_)) | (refine forkEq (fun h => ?_) (fun h => ?_)) | refine forkNot ?_ | (refine ⟨vI64 (by omega), ?_⟩) | (refine And.intro (by omega) ?_) | apply And.intro | (exact iEq (by omega)) | (exact vI64 (by omega))
    refine ⟨by omega, by omega, by rw [krep_length]; show _ ≤ _ * 1; omega, rfl, rfl, ⟨Nat.zero_le _, metF_ok hcn hf (by omega)⟩, ?_, fun _ => rfl, ?_⟩
    · rw [hkl, metF_flat (by omega)]
      repeat' first | exact plainBL _ _ | exact plainIL _ _ | exact trivial | exact rfl | exact wk_refl _ | refine wkO_cells ?_ | refine wks_cons ?_ ?_ | exact wks_nil | exact wk_nil _ _ _ (.inl rfl) | (exact wk_Q (by omega)) | refine wk_tupL ?_ | refine wk_aggL ?_ | refine joinMax ?_ ?_ ?_ | refine joinMin ?_ ?_ ?_ | refine toMax ?_ | refine toMin ?_ | refine ⟨rfl, ?_⟩ | refine ⟨trivial, ?_⟩ | (refine forkD (fun h => ?_) (fun h => ?_)) | (refine forkNe (fun h => ?_) (fun h => ?_)) | (refine forkEq (fun h => ?_) (fun h => ?_)) | refine forkNot ?_ | (refine ⟨vI64 (by omega), ?_⟩) | (refine And.intro (by omega) ?_) | apply And.intro | (exact iEq (by omega)) | (exact vI64 (by omega))
    rintro ⟨C, p, M⟩ ⟨ho, hb⟩
    dsimp only at ho hb ⊢
    have hML := hb.len
    refine forkD (fun kq => ?_) (fun kq => ?_)
    · have hlt : p < C.length := by omega
      have hdr := drop_get hlt
      have hb2 := hb
      rw [hdr] at hb2
      refine ⟨by omega, intAt (by omega) (by omega), ⟨.inr (.inr rfl), Nat.le_refl _, by omega⟩, ?_⟩
      rw [Nat.add_zero]
      have hbi := (hb2.q _ (List.mem_cons_self ..)).1
      generalize hi : C.getD p 0 = i at *
      refine forkEq (fun q => ?_) (fun q => ?_)
      · subst q
        obtain ⟨m1, m2⟩ := hb2.hit
        refine ⟨by omega, boolAt (by omega) (by omega), fun _ => ⟨vI64 (by omega), ?_⟩, fun m3 => by rw [m1] at m3; cases m3⟩
        rw [fin m2]
      · refine ⟨rfl, ⟨Nat.zero_le _, by omega, hb2.pop, Nat.le_refl _⟩, ?_, fun _ => rfl, ?_⟩
        · repeat' first | exact plainBL _ _ | exact plainIL _ _ | (exact wk_SF (by omega)) | (exact lrecOkS_of (by kernel_rfl)) | exact trivial | exact rfl | exact wk_refl _ | refine wkO_cells ?_ | refine wks_cons ?_ ?_ | exact wks_nil | exact wk_nil _ _ _ (.inl rfl) | (exact wk_Q (by omega)) | refine wk_tupL ?_ | refine wk_aggL ?_ | refine joinMax ?_ ?_ ?_ | refine joinMin ?_ ?_ ?_ | refine toMax ?_ | refine toMin ?_ | refine ⟨rfl, ?_⟩ | refine ⟨trivial, ?_⟩ | (refine forkD (fun h => ?_) (fun h => ?_)) | (refine forkNe (fun h => ?_) (fun h => ?_)) | (refine forkEq (fun h => ?_) (fun h => ?_)) | refine forkNot ?_ | (refine ⟨vI64 (by omega), ?_⟩) | (refine And.intro (by omega) ?_) | apply And.intro | (exact iEq (by omega)) | (exact vI64 (by omega))
        rintro ⟨j, C2, p2, M2⟩ ⟨hj4, ho2, hbj, hme⟩
        dsimp only at hj4 ho2 hbj hme ⊢
        have hML2 := hbj.len
        have hsz := hbj.sz
        rw [List.length_drop] at hsz
        refine forkD (fun kj => ?_) (fun kj => ?_)
        · have hj5 : j < 4 := by omega
          have hbs := bs_bd (w := w) (h := h) b hbi j
          refine ⟨kix hj5, ⟨rfl, trivial⟩, fun H' _ hd => ktarget b (by omega) (mv4 hj5) hd.1, forkNe (fun ne => ⟨by omega, boolAt (by omega) (by omega), forkNot (forkB (fun m1 => ?_) (fun m1 => ⟨by omega, intAt (by omega) (by omega), ?_⟩))⟩) (fun eq => ?_)⟩
          · refine ⟨vI64 (by omega), (j + 1, C2, p2, M2), ⟨by dsimp only; omega, ho2, hbj.skip (fun _ _ => m1), hme⟩, by dsimp only; omega, rfl, ?_⟩
            repeat' first | exact plainBL _ _ | exact plainIL _ _ | (exact wk_SF (by omega)) | (exact lrecOkS_of (by kernel_rfl)) | exact trivial | exact rfl | exact wk_refl _ | refine wkO_cells ?_ | refine wks_cons ?_ ?_ | exact wks_nil | exact wk_nil _ _ _ (.inl rfl) | (exact wk_Q (by omega)) | refine wk_tupL ?_ | refine wk_aggL ?_ | refine joinMax ?_ ?_ ?_ | refine joinMin ?_ ?_ ?_ | refine toMax ?_ | refine toMin ?_ | refine ⟨rfl, ?_⟩ | refine ⟨trivial, ?_⟩ | (refine forkD (fun h => ?_) (fun h => ?_)) | (refine forkNe (fun h => ?_) (fun h => ?_)) | (refine forkEq (fun h => ?_) (fun h => ?_)) | refine forkNot ?_ | (refine ⟨vI64 (by omega), ?_⟩) | (refine And.intro (by omega) ?_) | apply And.intro | (exact iEq (by omega)) | (exact vI64 (by omega))
          · have hkt : (kindL a cs).getD (Int.toNat (bsT w h a i j)) 0 = kindI a cs (bsT w h a i j) := kindL_get (by omega)
            rw [hkt]
            refine forkD (fun kk => ?_) (fun kk => ?_)
            · have hma := meas_add (M := M2) (k := Int.toNat (bsT w h a i j)) (by omega) m1 (C2.drop p2) (bsT w h a i j)
              refine ⟨by omega, by rw [flat_len boolC_len]; omega, rfl, ⟨by omega, by decide, ⟨Nat.le_refl _, by rw [flat_len intC_len]; omega⟩, ⟨Nat.le_refl _, Nat.le_refl _⟩, rfl⟩, rfl, vI64 (by omega), (j + 1, C2.drop p2 ++ [bsT w h a i j], 0, M2.set (Int.toNat (bsT w h a i j)) true), ⟨by dsimp only; omega, Nat.zero_le _, hbj.add b hj5 ne kk m1, by dsimp only; rw [List.drop_zero]; omega⟩, by dsimp only; omega, rfl, ?_⟩
              rw [metI_flat (by omega), snoc_flat ho2]
              repeat' first | exact plainBL _ _ | exact plainIL _ _ | (exact wk_SF (by dsimp only; rw [List.length_append, List.length_drop, List.length_singleton]; omega)) | (exact lrecOkS_of (by kernel_rfl)) | exact trivial | exact rfl | exact wk_refl _ | refine wkO_cells ?_ | refine wks_cons ?_ ?_ | exact wks_nil | exact wk_nil _ _ _ (.inl rfl) | (exact wk_Q (by omega)) | refine wk_tupL ?_ | refine wk_aggL ?_ | refine joinMax ?_ ?_ ?_ | refine joinMin ?_ ?_ ?_ | refine toMax ?_ | refine toMin ?_ | refine ⟨rfl, ?_⟩ | refine ⟨trivial, ?_⟩ | (refine forkD (fun h => ?_) (fun h => ?_)) | (refine forkNe (fun h => ?_) (fun h => ?_)) | (refine forkEq (fun h => ?_) (fun h => ?_)) | refine forkNot ?_ | (refine ⟨vI64 (by omega), ?_⟩) | (refine And.intro (by omega) ?_) | apply And.intro | (exact iEq (by omega)) | (exact vI64 (by omega))
            · refine ⟨vI64 (by omega), (j + 1, C2, p2, M2), ⟨by dsimp only; omega, ho2, hbj.skip (fun _ q => absurd q kk), hme⟩, by dsimp only; omega, rfl, ?_⟩
              repeat' first | exact plainBL _ _ | exact plainIL _ _ | (exact wk_SF (by omega)) | (exact lrecOkS_of (by kernel_rfl)) | exact trivial | exact rfl | exact wk_refl _ | refine wkO_cells ?_ | refine wks_cons ?_ ?_ | exact wks_nil | exact wk_nil _ _ _ (.inl rfl) | (exact wk_Q (by omega)) | refine wk_tupL ?_ | refine wk_aggL ?_ | refine joinMax ?_ ?_ ?_ | refine joinMin ?_ ?_ ?_ | refine toMax ?_ | refine toMin ?_ | refine ⟨rfl, ?_⟩ | refine ⟨trivial, ?_⟩ | (refine forkD (fun h => ?_) (fun h => ?_)) | (refine forkNe (fun h => ?_) (fun h => ?_)) | (refine forkEq (fun h => ?_) (fun h => ?_)) | refine forkNot ?_ | (refine ⟨vI64 (by omega), ?_⟩) | (refine And.intro (by omega) ?_) | apply And.intro | (exact iEq (by omega)) | (exact vI64 (by omega))
          · refine ⟨vI64 (by omega), (j + 1, C2, p2, M2), ⟨by dsimp only; omega, ho2, hbj.skip (fun q _ => absurd eq q), hme⟩, by dsimp only; omega, rfl, ?_⟩
            repeat' first | exact plainBL _ _ | exact plainIL _ _ | (exact wk_SF (by omega)) | (exact lrecOkS_of (by kernel_rfl)) | exact trivial | exact rfl | exact wk_refl _ | refine wkO_cells ?_ | refine wks_cons ?_ ?_ | exact wks_nil | exact wk_nil _ _ _ (.inl rfl) | (exact wk_Q (by omega)) | refine wk_tupL ?_ | refine wk_aggL ?_ | refine joinMax ?_ ?_ ?_ | refine joinMin ?_ ?_ ?_ | refine toMax ?_ | refine toMin ?_ | refine ⟨rfl, ?_⟩ | refine ⟨trivial, ?_⟩ | (refine forkD (fun h => ?_) (fun h => ?_)) | (refine forkNe (fun h => ?_) (fun h => ?_)) | (refine forkEq (fun h => ?_) (fun h => ?_)) | refine forkNot ?_ | (refine ⟨vI64 (by omega), ?_⟩) | (refine And.intro (by omega) ?_) | apply And.intro | (exact iEq (by omega)) | (exact vI64 (by omega))
        · obtain rfl : j = 4 := by omega
          rw [Nat.mul_one] at hme
          refine ⟨(C2, p2, M2), ⟨ho2, hbj.fin⟩, by dsimp only; rw [hdr, meas_cons]; omega, rfl, ?_⟩
          repeat' first | exact plainBL _ _ | exact plainIL _ _ | (exact wk_SF (by omega)) | exact trivial | exact rfl | exact wk_refl _ | refine wkO_cells ?_ | refine wks_cons ?_ ?_ | exact wks_nil | exact wk_nil _ _ _ (.inl rfl) | (exact wk_Q (by omega)) | refine wk_tupL ?_ | refine wk_aggL ?_ | refine joinMax ?_ ?_ ?_ | refine joinMin ?_ ?_ ?_ | refine toMax ?_ | refine toMin ?_ | refine ⟨rfl, ?_⟩ | refine ⟨trivial, ?_⟩ | (refine forkD (fun h => ?_) (fun h => ?_)) | (refine forkNe (fun h => ?_) (fun h => ?_)) | (refine forkEq (fun h => ?_) (fun h => ?_)) | refine forkNot ?_ | (refine ⟨vI64 (by omega), ?_⟩) | (refine And.intro (by omega) ?_) | apply And.intro | (exact iEq (by omega)) | (exact vI64 (by omega))
    · have hq : C.drop p = [] := List.drop_eq_nil_of_le (by omega)
      rw [hq] at hb
      have hE := hb.eq b hf hg
      refine ⟨by omega, boolAt (by omega) (by omega), forkB (fun m1 => ⟨vI64 (by omega), ?_⟩) (fun m1 => ⟨vI64 (by omega), x + 1, ⟨by omega, next (by rw [← hE]; exact m1)⟩, by omega, rfl, ?_⟩)⟩
      · rw [fin (by rw [← hE]; exact m1)]
      · repeat' first | exact trivial | exact rfl | exact wk_refl _ | refine wkO_cells ?_ | refine wks_cons ?_ ?_ | exact wks_nil | exact wk_nil _ _ _ (.inl rfl) | (exact wk_Q (by omega)) | refine wk_tupL ?_ | refine wk_aggL ?_ | refine joinMax ?_ ?_ ?_ | refine joinMin ?_ ?_ ?_ | refine toMax ?_ | refine toMin ?_ | refine ⟨rfl, ?_⟩ | refine ⟨trivial, ?_⟩ | (refine forkD (fun h => ?_) (fun h => ?_)) | (refine forkNe (fun h => ?_) (fun h => ?_)) | (refine forkEq (fun h => ?_) (fun h => ?_)) | refine forkNot ?_ | (refine ⟨vI64 (by omega), ?_⟩) | (refine And.intro (by omega) ?_) | apply And.intro | (exact iEq (by omega)) | (exact vI64 (by omega))
  · obtain rfl : x = 2 := by omega
    have j0 : joinB w h a cs 3 f g = false := hj 0 (by omega)
    have j1 : joinB w h a cs 2 f g = false := hj 1 (by omega)
    rw [if_neg (by rw [j0]; decide), if_neg (by rw [j1]; decide)]
end
end Go.Proofs.Ytkkgnalgmebfjaa
