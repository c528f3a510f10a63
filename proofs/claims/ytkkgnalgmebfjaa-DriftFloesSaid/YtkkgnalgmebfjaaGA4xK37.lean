/- Drift: the examples of the chapter (awake), as a contract. No condition. -/
import Derived.Test.YtkkgnalgmebfjaaA4a
import Derived.Test.YtkkgnalgmebfjaaGG1axH1f
import Derived.Test.YtkkgnalgmebfjaaGF2gxK34
import Derived.Test.YtkkgnalgmebfjaaGF4gxF3g
import Derived.Test.YtkkgnalgmebfjaaGS8gxF5g
import Derived.Test.YtkkgnalgmebfjaaRows
import Derived.JoinedCond
import Derived.Test.YtkkgnalgmebfjaaGK27xD3g
namespace Go.Proofs.Ytkkgnalgmebfjaa
set_option linter.unusedSimpArgs false
set_option linter.unusedVariables false
open Go Go.K
set_option maxRecDepth 100000
noncomputable section
attribute [local irreducible] vF
theorem kAwake (H : Heap) : KCall prog F.polynyalaw02_awake [] H [] (Is (.bool true) H) := by
  have hv : vF prog msk (dm impI) 100000 true 40 true F.polynyalaw02_awake [] ⟨0, .leaf⟩ none .auto (fun v _ _ => isTrueV v) := of_eq_true awakeRun
  have h0 := vc (P := prog) (mask := msk) (dm := dm impI) (rounds := 100000) (mixed := true) mskOk mixed 40 (f := F.polynyalaw02_awake) (args := []) (H := ⟨0, .leaf⟩) (M := none) (h := .auto) (Q := fun v _ => isTrueV v) hv
  have h1 : KCall prog F.polynyalaw02_awake [] [] [] (fun v _ => v = .bool true) := h0.post (fun v H' h => by
      cases v <;> first | exact h.elim | (rename_i b; cases b <;> first | rfl | exact h.elim))
  have h2 : KCall prog F.polynyalaw02_awake [] [] [] (Is (.bool true) []) := KCall.clean h1 rfl
  have h3 := KCall.frame (H := H) (new := []) (d := 3) (σ := fun _ => none) ⟨fun g hg => absurd hg (by rw [glob0]; exact Nat.not_lt_zero _), fun _ _ h => (by cases h), fun id h => absurd h (Nat.not_lt_zero _), fun _ _ _ h => (by cases h), fun _ _ _ h => (by cases h)⟩ h2 rfl rfl
  simpa [rn] using h3
end
end Go.Proofs.Ytkkgnalgmebfjaa
/- DriftTight: what its numbers make. No condition. -/
namespace Go.Proofs.Ytkkgnalgmebfjaa
set_option linter.unusedSimpArgs false
set_option linter.unusedVariables false
open Go Go.K
noncomputable section
def t3 (L : List Int) : Int := (hldL L (kA L) (kX L) (k2 L + 1) (kX L).length).2
def tF (L : List Int) : List Flow := (curs L (t3 L) (kA L).length).1
def t4 (L : List Int) : Int := (curs L (t3 L) (kA L).length).2
def tT (L : List Int) (x : Int) : Int := x % (((kA L).length : Nat) : Int)
def bestTo (w h : Int) (a : List Bool) (i t : Int) (hi : Bool) (ms : List Move) : Nat → Move
  | 0 => ms.getD 0 zeroM
  | j + 1 => if ((targ w h a i (ms.getD j zeroM) == t) == hi) = true then ms.getD j zeroM else bestTo w h a i t hi ms j
def tB (L : List Int) (x : Int) (hi : Bool) (k j : Nat) : Move := bestTo (kW L) (kH L) (kA L) (k : Int) (tT L x) hi (movesF ((tF L).getD k zeroF)) j
end
end Go.Proofs.Ytkkgnalgmebfjaa
/- DriftInside: a wider chart, wider flows. No condition. -/
namespace Go.Proofs.Ytkkgnalgmebfjaa
open Go Go.K
set_option maxRecDepth 100000
set_option linter.unusedVariables false
set_option linter.unusedSimpArgs false
noncomputable section
/-! ## Piles -/
def plLe (p q : Pl) : Prop := p.s ≤ q.s ∧ p.t ≤ q.t ∧ p.r ≤ q.r
theorem plLe.refl (p : Pl) : plLe p p := ⟨Int.le_refl _, Int.le_refl _, Int.le_refl _⟩
theorem plLe.trans {p q r : Pl} (h : plLe p q) (k : plLe q r) : plLe p r := ⟨Int.le_trans h.1 k.1, Int.le_trans h.2.1 k.2.1, Int.le_trans h.2.2 k.2.2⟩
/-! ## Flows -/
/-! ## Charts -/
/-! ## What is made wider -/
end
end Go.Proofs.Ytkkgnalgmebfjaa
/- Drift: where a floe can be: facts of the lists. No condition. -/
namespace Go.Proofs.Ytkkgnalgmebfjaa
set_option linter.unusedSimpArgs false
open Go Go.K
set_option linter.unusedVariables false
noncomputable section
theorem mem_trues {B : List Bool} {z : Int} : z ∈ truesL B ↔ ∃ i : Nat, i < B.length ∧ B.getD i false = true ∧ (i : Int) = z := truesTo_mem
theorem memL_len (L : List Int) (n : Nat) : (memL L n).length = n := tabP_len _ _
theorem memL_get {L : List Int} {n i : Nat} (h : i < n) : (memL L n).getD i false = decide ((i : Int) ∈ L) := tab_getD _ _ _ h
theorem mem_memL {L : List Int} {n : Nat} {z : Int} : z ∈ truesL (memL L n) ↔ (0 ≤ z ∧ z < (n : Int)) ∧ z ∈ L := by
  rw [mem_trues, memL_len]
  constructor
  · rintro ⟨i, h1, h2, rfl⟩
    rw [memL_get h1] at h2
    exact ⟨⟨by omega, by omega⟩, of_decide_eq_true h2⟩
  · rintro ⟨⟨h1, h2⟩, h3⟩
    refine ⟨Int.toNat z, by omega, ?_, by omega⟩
    rw [memL_get (by omega)]
    exact decide_eq_true (by rw [Int.toNat_of_nonneg h1]; exact h3)
theorem trues_len (B : List Bool) : (truesL B).length ≤ B.length := truesTo_len _ _
theorem trues_lt (B : List Bool) : (truesL B).Pairwise (· < ·) := truesTo_lt _ _
theorem tabB_ext {f g : Nat → Bool} {n : Nat} (h : ∀ i, i < n → f i = g i) : tabP f n = tabP g n := by
  unfold tabP
  exact List.map_congr_left fun i hi => h i (List.mem_range.1 hi)
theorem memL_ext {L M : List Int} {n : Nat} (h : ∀ i : Nat, i < n → ((i : Int) ∈ L ↔ (i : Int) ∈ M)) : memL L n = memL M n := tabB_ext fun i hi => decide_eq_decide.2 (h i hi)
theorem tabB_set {f : Nat → Bool} {n k : Nat} {b : Bool} (hk : k < n) : (tabP f n).set k b = tabP (fun i => if i = k then b else f i) n := by
  refine List.ext_getElem (by rw [List.length_set, tabP_len, tabP_len]) fun i h1 h2 => ?_
  rw [List.getElem_set]
  simp only [tabP, List.getElem_map, List.getElem_range]
  by_cases q : k = i
  · rw [if_pos q, if_pos q.symm]
  · rw [if_neg q, if_neg (fun e => q e.symm)]
theorem memL_set {L : List Int} {n : Nat} {t : Int} (h : 0 ≤ t ∧ t < (n : Int)) : (memL L n).set (Int.toNat t) true = memL (L ++ [t]) n := by
  unfold memL
  rw [tabB_set (by omega)]
  refine tabB_ext fun i hi => ?_
  by_cases q : i = Int.toNat t
  · rw [if_pos q, decide_eq_true (List.mem_append_right _ (List.mem_singleton.2 (by omega)))]
  · rw [if_neg q]
    refine decide_eq_decide.2 ⟨List.mem_append_left _, fun hm => ?_⟩
    rcases List.mem_append.1 hm with hm | hm
    · exact hm
    · have := List.mem_singleton.1 hm; omega
theorem memL_nil (n : Nat) : (memL [] n).flatMap boolC = krep [.bool false] n := goesTo_0 [] n
theorem tgts_mem {w h : Int} {a : List Bool} (b : BasOk w h a.length) {c : Int} {f : Flow} {z : Int} : z ∈ tgts w h a c f ↔ (0 ≤ z ∧ z < (a.length : Int)) ∧ z ∈ tgL w h a c f := by
  have hn : Int.toNat (w * h) = a.length := by have := b.n1; omega
  unfold tgts goesL
  rw [hn]
  exact mem_memL
theorem tgts_bd {w h : Int} {a : List Bool} (b : BasOk w h a.length) {c : Int} {f : Flow} {z : Int} (hz : z ∈ tgts w h a c f) : 0 ≤ z ∧ z < (a.length : Int) := ((tgts_mem b).1 hz).1
theorem goes_mem {w h : Int} {a : List Bool} (b : BasOk w h a.length) {c : Int} {f : Flow} {i : Nat} (hi : i < a.length) : (goesL w h a c f).getD i false = decide ((i : Int) ∈ tgts w h a c f) := by
  have hn : Int.toNat (w * h) = a.length := by have := b.n1; omega
  have e1 : (goesL w h a c f).getD i false = decide ((i : Int) ∈ tgL w h a c f) := by unfold goesL; rw [hn]; exact tab_getD _ _ _ hi
  rw [e1]
  exact decide_eq_decide.2 ⟨fun hm => (tgts_mem b).2 ⟨by omega, hm⟩, fun hm => ((tgts_mem b).1 hm).2⟩
structure FloeOk (w h : Int) (a : List Bool) (ll : List (List Flow)) (o n : Nat) (c : Int) : Prop where
  b : BasOk w h a.length
  n48 : n ≤ 48
  fl : ∀ i, i < n → (ll.getD (o + i) []).length = a.length ∧ ∀ f ∈ ll.getD (o + i) [], rightF f
  sea : seaB a c = true
theorem sea_bd {a : List Bool} {c : Int} (h : seaB a c = true) : 0 ≤ c ∧ c < (a.length : Int) := by
  unfold seaB at h
  rw [Bool.and_eq_true, decide_eq_true_iff] at h
  exact h.1
theorem FloeOk.bd {w h : Int} {a : List Bool} {ll : List (List Flow)} {o n : Nat} {c : Int} (k : FloeOk w h a ll o n c) : 0 ≤ c ∧ c < (a.length : Int) := sea_bd k.sea
theorem FloeOk.n1 {w h : Int} {a : List Bool} {ll : List (List Flow)} {o n : Nat} {c : Int} (k : FloeOk w h a ll o n c) : a.length ≤ 1024 ∧ 1 ≤ a.length := by
  have h1 := k.b.n1
  have h2 := k.b.p1
  have := k.bd
  omega
theorem errF_iff : ∀ {l : List Flow}, (∀ f ∈ l, rightF f) → errF l = 0
  | [], _ => rfl
  | f :: l, h => by
    have h1 : errF (f :: l) = if rightF f then errF l else 30 := rfl
    rw [h1, if_pos (h f List.mem_cons_self)]
    exact errF_iff fun g hg => h g (List.mem_cons_of_mem _ hg)
theorem errUp_0 {e : Nat → Int} : ∀ {n : Nat}, (∀ k, k < n → e k = 0) → errUp e n = 0
  | 0, _ => rfl
  | n + 1, h => errUp_succ (errUp_0 fun k hk => h k (by omega)) (h n (by omega))
theorem errBas_iff {w h : Int} {n : Nat} (b : BasOk w h n) : errBas w h n = 0 := by
  unfold errBas
  rw [if_pos ⟨b.w1, b.h1, b.p1⟩, if_pos b.n1]
theorem floeOk {w h : Int} {a : List Bool} {ll : List (List Flow)} {o n : Nat} {c : Int} (e : errFloe w h a ll o n c = 0) : FloeOk w h a ll o n c := by
  unfold errFloe at e
  by_cases h0 : errBas w h a.length = 0
  · rw [first2_2 h0] at e
    by_cases h1 : n ≤ 48
    · rw [if_pos h1] at e
      by_cases h2 : errUp (flErr w h a ll o) n = 0
      · rw [first2_2 h2] at e
        by_cases h3 : seaB a c = true
        · refine ⟨basOk h0, h1, fun i hi => ?_, h3⟩
          have h4 := errFlows_0 (errUp_all h2 i hi)
          exact ⟨h4.2.1, errF_all h4.2.2⟩
        · rw [if_neg h3] at e; omega
      · rw [first2_1 h2] at e; exact absurd e h2
    · rw [if_neg h1] at e; omega
  · rw [first2_1 h0] at e; exact absurd e h0
theorem floe_0 {w h : Int} {a : List Bool} {ll : List (List Flow)} {o n : Nat} {c : Int} (k : FloeOk w h a ll o n c) : errFloe w h a ll o n c = 0 := by
  unfold errFloe
  rw [first2_2 (errBas_iff k.b), if_pos k.n48, first2_2 (errUp_0 fun i hi => ?_), if_pos k.sea]
  unfold flErr errFlows
  rw [first2_2 (errBas_iff k.b), if_pos (k.fl i hi).1, errF_iff (k.fl i hi).2]
theorem fReach_1 {w h : Int} {a : List Bool} {ll : List (List Flow)} {o n : Nat} {c : Int} (e : errFloe w h a ll o n c = 0) : fReach w h a ll o n c = (reR w h a ll o c n, 0) := if_pos e
theorem fReach_0 {w h : Int} {a : List Bool} {ll : List (List Flow)} {o n : Nat} {c : Int} (e : ¬ errFloe w h a ll o n c = 0) : fReach w h a ll o n c = ([], errFloe w h a ll o n c) := if_neg e
theorem reS_succ (w h : Int) (a : List Bool) (ll : List (List Flow)) (o : Nat) (c : Int) (i : Nat) : reS w h a ll o c (i + 1) = truesL (memL ((reS w h a ll o c i).flatMap (tgF w h a (ll.getD (o + i) []))) a.length) := rfl
theorem reS_bd {w h : Int} {a : List Bool} {ll : List (List Flow)} {o : Nat} {c : Int} (hc : 0 ≤ c ∧ c < (a.length : Int)) : ∀ i, ∀ z ∈ reS w h a ll o c i, 0 ≤ z ∧ z < (a.length : Int)
  | 0, z, hz => by rw [List.mem_singleton.1 hz]; exact hc
  | i + 1, z, hz => (mem_memL.1 hz).1
theorem reS_len (w h : Int) (a : List Bool) (ll : List (List Flow)) (o : Nat) (c : Int) : ∀ i, (reS w h a ll o c i).length ≤ 1 + a.length
  | 0 => by show 1 ≤ _; omega
  | i + 1 => by
    have := trues_len (memL ((reS w h a ll o c i).flatMap (tgF w h a (ll.getD (o + i) []))) a.length)
    rw [memL_len] at this
    rw [reS_succ]; omega
theorem reR_len (w h : Int) (a : List Bool) (ll : List (List Flow)) (o : Nat) (c : Int) (n : Nat) : (reR w h a ll o c n).length = n + 1 := tabP_len _ _
theorem reR_succ (w h : Int) (a : List Bool) (ll : List (List Flow)) (o : Nat) (c : Int) (n : Nat) : reR w h a ll o c (n + 1) = reR w h a ll o c n ++ [reS w h a ll o c (n + 1)] := tabP_succ _ _
theorem reR_get {w h : Int} {a : List Bool} {ll : List (List Flow)} {o : Nat} {c : Int} {n k : Nat} (hk : k ≤ n) : (reR w h a ll o c n).getD k [] = reS w h a ll o c k := tabP_get (by omega)
theorem flat_snoc_take {S : List Int} {T : Int → List Int} {y : Nat} (hy : y < S.length) : (S.take (y + 1)).flatMap T = (S.take y).flatMap T ++ T (S.getD y 0) := by
  rw [take_snoc (d := (0 : Int)) hy, List.flatMap_append, List.flatMap_cons, List.flatMap_nil, List.append_nil]
theorem inL_snoc (X : List (List Int)) (S : List Int) : inL (X ++ [S]) = inL X ++ [inV S] := List.map_append ..
theorem inL_take (X : List (List Int)) : List.take (X.length * 1) (List.drop 0 (inL X)) = inL X := by rw [List.drop_zero, List.take_of_length_le (by rw [inL_len]; omega)]
/-- A list is put at the end of lists. -/
theorem ob_in {X Y : List (List Int)} {S : List Int} {v : Value} (hY : Y = X ++ [S]) (hv : v = inV S) : (some (KObj.cells true 1 (List.take (X.length * 1) (List.drop 0 (inL X)) ++ List.take (1 * 1) (List.drop 0 [v]))) : Option KObj) = some (.cells true 1 (inL Y)) := by
  subst hv hY
  rw [inL_snoc, inL_take]; rfl
end
end Go.Proofs.Ytkkgnalgmebfjaa
/- Drift: Reach. No condition. -/
namespace Go.Proofs.Ytkkgnalgmebfjaa
open Go Go.K
set_option maxRecDepth 100000
set_option linter.unusedVariables false
set_option linter.unusedSimpArgs false
noncomputable section
attribute [local irreducible] vF
abbrev rchV (i : Nat) (r : List (List Int) × Int) : Value := .tuple #[.slice (some ⟨i, 0, some 1⟩) r.1.length r.1.length, .int .i64 r.2]
theorem wk_QF {id n m : Nat} (h : m = n) (h0 : 0 < n) : wk (.slice (some ⟨id, 0, none⟩) n n) (.slice (some ⟨id, 0, some 1⟩) m m) := by subst h; exact wk_Q h0
theorem wk_RF {id n m : Nat} (h : m = n) : wk (.slice (some ⟨id, 0, none⟩) n n) (.slice (some ⟨id, 0, some 2⟩) m m) := by subst h; exact wk_R
set_option maxHeartbeats 2000000 in
theorem kReach {w h : Int} {a : List Bool} (ll : List (List Flow)) (c : Int) (hl : ll.length ≤ 4294967296) (hs : shortF ll) {H : Heap} {L : Nat} (hL : H.length = L) {id id2 : Nat} {own own2 : Bool} {z z2 : Nat} (hid : H[id]? = some (.cells own z (a.flatMap boolC))) (hid2 : H[id2]? = some (.cells own2 z2 (flL ll))) :
    KCall prog F.drift_Reach [basV w h id a.length, .slice (some ⟨id2, 0, some 2⟩) ll.length ll.length, .int .i64 c] H [] (Is (rchV L (fReach w h a ll 0 ll.length c)) (H ++ [.cells true 1 (inL (fReach w h a ll 0 ll.length c).1)])) := by
  subst hL
  refine valQ2 (fun i => rchV i (fReach w h a ll 0 ll.length c)) (Eq.mpr (EReach w h a ll c) ?_) (plainBL 0 a) (flL_b 0 ll) (fun n => inL_b n _) rfl rfl (fun _ => rfl) hid hid2 rfl
  unfold RReach
  refine ⟨⟨rfl, rfl, trivial⟩, fun H' _ hd => kfloe ll c hl hs hd.1 hd.2.1, forkNe (fun h0 => ?_) (fun h0 => ?_)⟩
  · rw [fReach_0 h0]
    repeat' first | exact trivial | exact rfl | exact wk_refl _ | refine wkO_cells ?_ | refine wks_cons ?_ ?_ | exact wks_nil | exact wk_nil _ _ _ (.inl rfl) | (exact wk_Q (by omega)) | refine wk_tupL ?_ | refine wk_aggL ?_ | refine joinMax ?_ ?_ ?_ | refine joinMin ?_ ?_ ?_ | refine toMax ?_ | refine toMin ?_ | refine ⟨rfl, ?_⟩ | refine ⟨trivial, ?_⟩ | (refine forkD (fun h => ?_) (fun h => ?_)) | (refine forkNe (fun h => ?_) (fun h => ?_)) | (refine forkEq (fun h => ?_) (fun h => ?_)) | refine forkNot ?_ | (refine ⟨vI64 (by omega), ?_⟩) | (refine And.intro (by omega) ?_) | apply And.intro | (exact iEq (by omega)) | (exact vI64 (by omega))
  rw [fReach_1 h0]
  have ok := floeOk h0
  have hb := ok.b
  have hn := ok.n1
  have hc := ok.bd
  have hbn := hb.n1
  refine ⟨rfl, Nat.zero_le _, ?_, fun _ => rfl, ?_⟩
  · repeat' first | (exact wk_QF (reR_len ..) (by omega)) | exact inL_b _ _ | exact trivial | exact rfl | exact wk_refl _ | refine wkO_cells ?_ | refine wks_cons ?_ ?_ | exact wks_nil | exact wk_nil _ _ _ (.inl rfl) | (exact wk_Q (by omega)) | refine wk_tupL ?_ | refine wk_aggL ?_ | refine joinMax ?_ ?_ ?_ | refine joinMin ?_ ?_ ?_ | refine toMax ?_ | refine toMin ?_ | refine ⟨rfl, ?_⟩ | refine ⟨trivial, ?_⟩ | (refine forkD (fun h => ?_) (fun h => ?_)) | (refine forkNe (fun h => ?_) (fun h => ?_)) | (refine forkEq (fun h => ?_) (fun h => ?_)) | refine forkNot ?_ | (refine ⟨vI64 (by omega), ?_⟩) | (refine And.intro (by omega) ?_) | apply And.intro | (exact iEq (by omega)) | (exact vI64 (by omega))
  intro x hx
  have hrl := reR_len w h a ll 0 c x
  refine forkD (fun k => ?_) (fun k => ?_)
  · have hlt : x < ll.length := by omega
    obtain ⟨hfl, hff⟩ := ok.fl x hlt
    rw [Nat.zero_add] at hfl hff
    have hsl := reS_len w h a ll 0 c x
    refine ⟨by omega, flL_at hlt (by omega), by omega, vI64 (by omega), by omega, ?_, ?_⟩
    · have hg : (reR w h a ll 0 c x).getD x [] = reS w h a ll 0 c x := reR_get (Nat.le_refl _)
      have := inL_at (ll := reR w h a ll 0 c x) (k := x) (by omega) (off := 0 + Int.toNat ((((reR w h a ll 0 c x).length : Nat) : Int) - 1) * 1) (by omega)
      rw [hg] at this; exact this
    refine ⟨rfl, Nat.zero_le _, ?_, fun _ => rfl, ?_⟩
    · rw [← memL_nil]
      repeat' first | exact (flV_rn _ 0 _).symm | exact (inV_rn _ 0 _).symm | exact plainBL _ _ | exact inL_b _ _ | exact plainIL _ _ | exact trivial | exact rfl | exact wk_refl _ | refine wkO_cells ?_ | refine wks_cons ?_ ?_ | exact wks_nil | exact wk_nil _ _ _ (.inl rfl) | (exact wk_Q (by omega)) | refine wk_tupL ?_ | refine wk_aggL ?_ | refine joinMax ?_ ?_ ?_ | refine joinMin ?_ ?_ ?_ | refine toMax ?_ | refine toMin ?_ | refine ⟨rfl, ?_⟩ | refine ⟨trivial, ?_⟩ | (refine forkD (fun h => ?_) (fun h => ?_)) | (refine forkNe (fun h => ?_) (fun h => ?_)) | (refine forkEq (fun h => ?_) (fun h => ?_)) | refine forkNot ?_ | (refine ⟨vI64 (by omega), ?_⟩) | (refine And.intro (by omega) ?_) | apply And.intro | (exact iEq (by omega)) | (exact vI64 (by omega))
    intro y hy
    refine forkD (fun k2 => ?_) (fun k2 => ?_)
    · have hly : y < (reS w h a ll 0 c x).length := by omega
      have hyb := reS_bd hc x _ (getD_mem (d := 0) hly)
      have hsn := flat_snoc_take (T := tgF w h a (ll.getD x [])) hly
      have hat : ((reS w h a ll 0 c x).flatMap intC)[Int.toNat ((y : Nat) : Int) * 1]? = some (.int .i64 ((reS w h a ll 0 c x).getD y 0)) := intAt hly (by omega)
      generalize (reS w h a ll 0 c x).getD y 0 = cy at *
      have hcl : Int.toNat cy < (ll.getD x []).length := by omega
      have hT : tgF w h a (ll.getD x []) cy = tgts w h a cy ((ll.getD x []).getD (Int.toNat cy) zeroF) := rfl
      have hfr := hff _ (getD_mem (d := zeroF) hcl)
      have htl : (tgts w h a cy ((ll.getD x []).getD (Int.toNat cy) zeroF)).length ≤ 4096 := by
        have h1 := trues_len (goesL w h a cy ((ll.getD x []).getD (Int.toNat cy) zeroF))
        rw [goesL_len] at h1
        unfold tgts; omega
      refine ⟨by omega, hat, by omega, partF hcl (by omega), ⟨rfl, trivial⟩, fun H' hl' hd => kTGs hb (by omega) hfr hl' hd.1, ?_⟩
      refine ⟨rfl, Nat.zero_le _, ?_, fun _ => rfl, ?_⟩
      · rw [List.take_zero, List.append_nil]
        repeat' first | exact (flV_rn _ 0 _).symm | exact (inV_rn _ 0 _).symm | exact plainBL _ _ | exact inL_b _ _ | exact plainIL _ _ | exact trivial | exact rfl | exact wk_refl _ | refine wkO_cells ?_ | refine wks_cons ?_ ?_ | exact wks_nil | exact wk_nil _ _ _ (.inl rfl) | (exact wk_Q (by omega)) | refine wk_tupL ?_ | refine wk_aggL ?_ | refine joinMax ?_ ?_ ?_ | refine joinMin ?_ ?_ ?_ | refine toMax ?_ | refine toMin ?_ | refine ⟨rfl, ?_⟩ | refine ⟨trivial, ?_⟩ | (refine forkD (fun h => ?_) (fun h => ?_)) | (refine forkNe (fun h => ?_) (fun h => ?_)) | (refine forkEq (fun h => ?_) (fun h => ?_)) | refine forkNot ?_ | (refine ⟨vI64 (by omega), ?_⟩) | (refine And.intro (by omega) ?_) | apply And.intro | (exact iEq (by omega)) | (exact vI64 (by omega))
      intro t ht
      refine forkD (fun k3 => ?_) (fun k3 => ?_)
      · have hlt3 : t < (tgts w h a cy ((ll.getD x []).getD (Int.toNat cy) zeroF)).length := by omega
        have htb := tgts_bd hb (getD_mem (d := (0 : Int)) hlt3)
        refine ⟨by omega, intAtL hlt3 (by omega), by omega, ?_, rfl, vI64 (by omega), t + 1, by omega, by omega, rfl, ?_⟩
        · rw [flat_len boolC_len, memL_len]; omega
        rw [take_snoc (d := (0 : Int)) hlt3, ← List.append_assoc, ← memL_set htb, Nat.zero_add]
        rw [flat_set boolC_len _ _ (by rw [memL_len]; omega) true]
        repeat' first | exact (flV_rn _ 0 _).symm | exact (inV_rn _ 0 _).symm | exact plainBL _ _ | exact inL_b _ _ | exact plainIL _ _ | exact trivial | exact rfl | exact wk_refl _ | refine wkO_cells ?_ | refine wks_cons ?_ ?_ | exact wks_nil | exact wk_nil _ _ _ (.inl rfl) | (exact wk_Q (by omega)) | refine wk_tupL ?_ | refine wk_aggL ?_ | refine joinMax ?_ ?_ ?_ | refine joinMin ?_ ?_ ?_ | refine toMax ?_ | refine toMin ?_ | refine ⟨rfl, ?_⟩ | refine ⟨trivial, ?_⟩ | (refine forkD (fun h => ?_) (fun h => ?_)) | (refine forkNe (fun h => ?_) (fun h => ?_)) | (refine forkEq (fun h => ?_) (fun h => ?_)) | refine forkNot ?_ | (refine ⟨vI64 (by omega), ?_⟩) | (refine And.intro (by omega) ?_) | apply And.intro | (exact iEq (by omega)) | (exact vI64 (by omega))
      · obtain rfl : t = (tgts w h a cy ((ll.getD x []).getD (Int.toNat cy) zeroF)).length := by omega
        rw [List.take_length, ← hT, ← hsn]
        refine ⟨vI64 (by omega), y + 1, by omega, by omega, rfl, ?_⟩
        repeat' first | exact (flV_rn _ 0 _).symm | exact (inV_rn _ 0 _).symm | exact plainBL _ _ | exact inL_b _ _ | exact plainIL _ _ | exact trivial | exact rfl | exact wk_refl _ | refine wkO_cells ?_ | refine wks_cons ?_ ?_ | exact wks_nil | exact wk_nil _ _ _ (.inl rfl) | (exact wk_Q (by omega)) | refine wk_tupL ?_ | refine wk_aggL ?_ | refine joinMax ?_ ?_ ?_ | refine joinMin ?_ ?_ ?_ | refine toMax ?_ | refine toMin ?_ | refine ⟨rfl, ?_⟩ | refine ⟨trivial, ?_⟩ | (refine forkD (fun h => ?_) (fun h => ?_)) | (refine forkNe (fun h => ?_) (fun h => ?_)) | (refine forkEq (fun h => ?_) (fun h => ?_)) | refine forkNot ?_ | (refine ⟨vI64 (by omega), ?_⟩) | (refine And.intro (by omega) ?_) | apply And.intro | (exact iEq (by omega)) | (exact vI64 (by omega))
    · obtain rfl : y = (reS w h a ll 0 c x).length := by omega
      have hS : truesL (memL (List.flatMap (tgF w h a (ll.getD x [])) (reS w h a ll 0 c x)) a.length) = reS w h a ll 0 c (x + 1) := by rw [reS_succ, Nat.zero_add]
      rw [List.take_length, hS]
      refine ⟨⟨rfl, trivial⟩, fun H' hl' hd => ?_, ⟨by omega, by decide, ⟨Nat.le_refl _, by rw [inL_len]; omega⟩, ⟨Nat.le_refl _, Nat.le_refl _⟩, rfl⟩, rfl, vI64 (by omega), x + 1, by omega, by omega, rfl, ?_⟩
      · have := knumbers (memL (List.flatMap (tgF w h a (ll.getD x [])) (reS w h a ll 0 c x)) a.length) (by rw [memL_len]; omega) hl' hd.1
        rw [hS] at this
        exact this.wkA ⟨wk_RF (memL_len ..), trivial⟩
      have hY := reR_succ w h a ll 0 c x
      repeat' first | (exact wk_QF (by rw [reR_len, reR_len]) (by omega)) | exact ob_in hY rfl | exact plainBL _ _ | exact inL_b _ _ | exact plainIL _ _ | exact trivial | exact rfl | exact wk_refl _ | refine wkO_cells ?_ | refine wks_cons ?_ ?_ | exact wks_nil | exact wk_nil _ _ _ (.inl rfl) | (exact wk_Q (by omega)) | refine wk_tupL ?_ | refine wk_aggL ?_ | refine joinMax ?_ ?_ ?_ | refine joinMin ?_ ?_ ?_ | refine toMax ?_ | refine toMin ?_ | refine ⟨rfl, ?_⟩ | refine ⟨trivial, ?_⟩ | (refine forkD (fun h => ?_) (fun h => ?_)) | (refine forkNe (fun h => ?_) (fun h => ?_)) | (refine forkEq (fun h => ?_) (fun h => ?_)) | refine forkNot ?_ | (refine ⟨vI64 (by omega), ?_⟩) | (refine And.intro (by omega) ?_) | apply And.intro | (exact iEq (by omega)) | (exact vI64 (by omega))
  · obtain rfl : x = ll.length := by omega
    repeat' first | exact plainBL _ _ | exact inL_b _ _ | exact plainIL _ _ | exact trivial | exact rfl | exact wk_refl _ | refine wkO_cells ?_ | refine wks_cons ?_ ?_ | exact wks_nil | exact wk_nil _ _ _ (.inl rfl) | (exact wk_Q (by omega)) | refine wk_tupL ?_ | refine wk_aggL ?_ | refine joinMax ?_ ?_ ?_ | refine joinMin ?_ ?_ ?_ | refine toMax ?_ | refine toMin ?_ | refine ⟨rfl, ?_⟩ | refine ⟨trivial, ?_⟩ | (refine forkD (fun h => ?_) (fun h => ?_)) | (refine forkNe (fun h => ?_) (fun h => ?_)) | (refine forkEq (fun h => ?_) (fun h => ?_)) | refine forkNot ?_ | (refine ⟨vI64 (by omega), ?_⟩) | (refine And.intro (by omega) ?_) | apply And.intro | (exact iEq (by omega)) | (exact vI64 (by omega))
end
end Go.Proofs.Ytkkgnalgmebfjaa
/- Drift: the reference's Reach. No condition. -/
namespace Go.Proofs.Ytkkgnalgmebfjaa
open Go Go.K
set_option maxRecDepth 100000
set_option linter.unusedVariables false
set_option linter.unusedSimpArgs false
noncomputable section
attribute [local irreducible] vF
theorem mem_one {c : Int} {n : Nat} (h : 0 ≤ c ∧ c < (n : Int)) : setl (krep [.bool false] n) (0 + Int.toNat c * 1) [.bool true] = (memL [c] n).flatMap boolC := by
  rw [← memL_nil, Nat.zero_add, ← List.nil_append [c], ← memL_set h]
  exact flat_set boolC_len _ _ (by rw [memL_len]; omega) true
theorem orTo_len (P : List Int) (G : List Bool) (z n : Nat) : (orTo P G z n).length = n := tabP_len _ _
theorem orTo_0 (P : List Int) (G : List Bool) (n : Nat) : orTo P G 0 n = memL P n := tabB_ext fun i hi => by rw [decide_eq_false (show ¬ i < 0 by omega), Bool.false_and, Bool.or_false]
theorem orTo_get {P : List Int} {G : List Bool} {z n i : Nat} (hi : i < n) : (orTo P G z n).getD i false = (decide ((i : Int) ∈ P) || (decide (i < z) && G.getD i false)) := tab_getD _ _ _ hi
theorem orTo_set {P : List Int} {G : List Bool} {z n : Nat} (hz : z < n) {b : Bool} (hb : b = (decide ((z : Int) ∈ P) || G.getD z false)) : (orTo P G z n).set z b = orTo P G (z + 1) n := by
  unfold orTo
  rw [tabB_set hz]
  refine tabB_ext fun i hi => ?_
  by_cases q : i = z
  · subst q
    rw [if_pos rfl, hb, decide_eq_true (show i < i + 1 by omega), Bool.true_and]
  · rw [if_neg q]
    have : decide (i < z) = decide (i < z + 1) := decide_eq_decide.2 ⟨fun _ => by omega, fun _ => by omega⟩
    rw [this]
theorem orTo_1 {P : List Int} {G : List Bool} {z n : Nat} (hz : z < n) (h : (orTo P G z n).getD z false = true) : (orTo P G z n).set z true = orTo P G (z + 1) n := by
  refine orTo_set hz ?_
  rw [orTo_get hz, decide_eq_false (show ¬ z < z by omega), Bool.false_and, Bool.or_false] at h
  rw [h]; rfl
theorem orTo_2 {P : List Int} {G : List Bool} {z n : Nat} (hz : z < n) (h : (orTo P G z n).getD z false = false) : (orTo P G z n).set z (G.getD z false) = orTo P G (z + 1) n := by
  refine orTo_set hz ?_
  rw [orTo_get hz, decide_eq_false (show ¬ z < z by omega), Bool.false_and, Bool.or_false] at h
  rw [h]; rfl
theorem orTo_all {w h : Int} {a : List Bool} (b : BasOk w h a.length) {P : List Int} {c : Int} {f : Flow} : orTo P (goesL w h a c f) a.length a.length = memL (P ++ tgts w h a c f) a.length := by
  refine tabB_ext fun i hi => ?_
  rw [decide_eq_true hi, Bool.true_and, goes_mem b hi, ← Bool.decide_or]
  exact decide_eq_decide.2 List.mem_append.symm
theorem memL_memL {L : List Int} {n : Nat} : memL (truesL (memL L n)) n = memL L n := memL_ext fun i hi => by
  rw [mem_memL]
  exact ⟨fun h => h.2, fun h => ⟨by omega, h⟩⟩
theorem memL_flat {S : List Int} {n : Nat} {T : Int → List Int} (h : ∀ z ∈ S, 0 ≤ z ∧ z < (n : Int)) : memL ((truesL (memL S n)).flatMap T) n = memL (S.flatMap T) n := memL_ext fun i hi => by
  rw [List.mem_flatMap, List.mem_flatMap]
  constructor
  · rintro ⟨x, hx, hi⟩; exact ⟨x, (mem_memL.1 hx).2, hi⟩
  · rintro ⟨x, hx, hi⟩; exact ⟨x, mem_memL.2 ⟨h x hx, hx⟩, hi⟩
set_option maxHeartbeats 2000000 in
theorem krReach {w h : Int} {a : List Bool} (ll : List (List Flow)) (o n : Nat) (c : Int) (hl : ll.length ≤ 4294967296) (ho : o + n = ll.length) (hs : shortF ll) {H : Heap} {L : Nat} (hL : H.length = L) {id id2 : Nat} {own own2 : Bool} {z z2 : Nat} (hid : H[id]? = some (.cells own z (a.flatMap boolC))) (hid2 : H[id2]? = some (.cells own2 z2 (flL ll))) :
    KCall prog F.polynyaref02_Reach [basV w h id a.length, .slice (some ⟨id2, o, some 2⟩) n n, .int .i64 c] H [] (Is (rchV L (fReach w h a ll o n c)) (H ++ [.cells true 1 (inL (fReach w h a ll o n c).1)])) := by
  subst hL
  refine valQ2 (fun i => rchV i (fReach w h a ll o n c)) (Eq.mpr (ErReach w h a ll o n c) ?_) (plainBL 0 a) (flL_b 0 ll) (fun n => inL_b n _) rfl rfl (fun _ => rfl) hid hid2 rfl
  unfold RrReach
  refine ⟨⟨rfl, rfl, trivial⟩, fun H' _ hd => krfloe ll o n c hl ho hs hd.1 hd.2.1, forkNe (fun h0 => ?_) (fun h0 => ?_)⟩
  · rw [fReach_0 h0]
    repeat' first | exact trivial | exact rfl | exact wk_refl _ | refine wkO_cells ?_ | refine wks_cons ?_ ?_ | exact wks_nil | exact wk_nil _ _ _ (.inl rfl) | (exact wk_Q (by omega)) | refine wk_tupL ?_ | refine wk_aggL ?_ | refine joinMax ?_ ?_ ?_ | refine joinMin ?_ ?_ ?_ | refine toMax ?_ | refine toMin ?_ | refine ⟨rfl, ?_⟩ | refine ⟨trivial, ?_⟩ | (refine forkD (fun h => ?_) (fun h => ?_)) | (refine forkNe (fun h => ?_) (fun h => ?_)) | (refine forkEq (fun h => ?_) (fun h => ?_)) | refine forkNot ?_ | (refine ⟨vI64 (by omega), ?_⟩) | (refine And.intro (by omega) ?_) | apply And.intro | (exact iEq (by omega)) | (exact vI64 (by omega))
  rw [fReach_1 h0]
  have ok := floeOk h0
  have hb := ok.b
  have hn := ok.n1
  have hc := ok.bd
  have hbn := hb.n1
  have hwn : Int.toNat (w * h) = a.length := by omega
  rw [hwn]
  refine ⟨vI64 (by omega), by omega, by omega, by rw [krep_length]; show _ ≤ _ * 1; omega, rfl, rfl, Nat.zero_le _, ?_, fun _ => rfl, ?_⟩
  · rw [mem_one hc]
    repeat' first | (exact wk_QF (reR_len ..) (by omega)) | (exact wk_QF (memL_len ..) (by omega)) | exact inL_b _ _ | exact plainBL _ _ | exact trivial | exact rfl | exact wk_refl _ | refine wkO_cells ?_ | refine wks_cons ?_ ?_ | exact wks_nil | exact wk_nil _ _ _ (.inl rfl) | (exact wk_Q (by omega)) | refine wk_tupL ?_ | refine wk_aggL ?_ | refine joinMax ?_ ?_ ?_ | refine joinMin ?_ ?_ ?_ | refine toMax ?_ | refine toMin ?_ | refine ⟨rfl, ?_⟩ | refine ⟨trivial, ?_⟩ | (refine forkD (fun h => ?_) (fun h => ?_)) | (refine forkNe (fun h => ?_) (fun h => ?_)) | (refine forkEq (fun h => ?_) (fun h => ?_)) | refine forkNot ?_ | (refine ⟨vI64 (by omega), ?_⟩) | (refine And.intro (by omega) ?_) | apply And.intro | (exact iEq (by omega)) | (exact vI64 (by omega))
  intro x hx
  have hrl := reR_len w h a ll o c x
  refine forkD (fun k => ?_) (fun k => ?_)
  · have hlt : x < n := by omega
    have hlo : o + x < ll.length := by omega
    obtain ⟨hfl, hff⟩ := ok.fl x hlt
    have hsl := reS_len w h a ll o c x
    have hSb := reS_bd (w := w) (h := h) (ll := ll) (o := o) hc x
    have hmf := memL_flat (T := tgF w h a (ll.getD (o + x) [])) hSb
    have hre := reS_succ w h a ll o c x
    generalize hS : reS w h a ll o c x = S at *
    have hml := memL_len S a.length
    refine ⟨vI64 (by omega), by omega, rfl, Nat.zero_le _, ?_, fun _ => rfl, ?_⟩
    · rw [← memL_nil]
      repeat' first | exact (flV_rn _ 0 _).symm | exact (inV_rn _ 0 _).symm | exact plainBL _ _ | exact inL_b _ _ | exact plainIL _ _ | exact trivial | exact rfl | exact wk_refl _ | refine wkO_cells ?_ | refine wks_cons ?_ ?_ | exact wks_nil | exact wk_nil _ _ _ (.inl rfl) | (exact wk_Q (by omega)) | refine wk_tupL ?_ | refine wk_aggL ?_ | refine joinMax ?_ ?_ ?_ | refine joinMin ?_ ?_ ?_ | refine toMax ?_ | refine toMin ?_ | refine ⟨rfl, ?_⟩ | refine ⟨trivial, ?_⟩ | (refine forkD (fun h => ?_) (fun h => ?_)) | (refine forkNe (fun h => ?_) (fun h => ?_)) | (refine forkEq (fun h => ?_) (fun h => ?_)) | refine forkNot ?_ | (refine ⟨vI64 (by omega), ?_⟩) | (refine And.intro (by omega) ?_) | apply And.intro | (exact iEq (by omega)) | (exact vI64 (by omega))
    intro y hy
    refine forkD (fun k2 => ?_) (fun k2 => ?_)
    · have hly : y < a.length := by omega
      refine ⟨by omega, boolAt (by omega) (by omega), forkNot (forkB (fun hB => ?_) (fun hB => ?_))⟩
      · have hT : tgF w h a (ll.getD (o + x) []) (y : Int) = tgts w h a (y : Int) ((ll.getD (o + x) []).getD y zeroF) := by unfold tgF; rw [Int.toNat_natCast]
        have hsn : List.flatMap (tgF w h a (ll.getD (o + x) [])) (truesTo (memL S a.length) (y + 1)) = List.flatMap (tgF w h a (ll.getD (o + x) [])) (truesTo (memL S a.length) y) ++ tgts w h a (y : Int) ((ll.getD (o + x) []).getD y zeroF) := by
          rw [truesTo_1 hB, List.flatMap_append, List.flatMap_cons, List.flatMap_nil, List.append_nil, hT]
        generalize hP : List.flatMap (tgF w h a (ll.getD (o + x) [])) (truesTo (memL S a.length) y) = P at *
        have hfr := hff _ (getD_mem (d := zeroF) (show y < _ by omega))
        have hgl : (goesL w h a (y : Int) ((ll.getD (o + x) []).getD y zeroF)).length = a.length := by rw [goesL_len, hwn]
        refine ⟨by omega, flL_at hlo (by omega), by omega, partF (by omega) (by omega), ⟨rfl, trivial⟩, fun H' hl' hd => krgoes hb (by omega) hfr hl' hd.1, rfl, Nat.zero_le _, ?_, fun _ => rfl, ?_⟩
        · rw [orTo_0]
          repeat' first | exact (flV_rn _ 0 _).symm | exact (inV_rn _ 0 _).symm | exact plainBL _ _ | exact inL_b _ _ | exact plainIL _ _ | exact trivial | exact rfl | exact wk_refl _ | refine wkO_cells ?_ | refine wks_cons ?_ ?_ | exact wks_nil | exact wk_nil _ _ _ (.inl rfl) | (exact wk_Q (by omega)) | refine wk_tupL ?_ | refine wk_aggL ?_ | refine joinMax ?_ ?_ ?_ | refine joinMin ?_ ?_ ?_ | refine toMax ?_ | refine toMin ?_ | refine ⟨rfl, ?_⟩ | refine ⟨trivial, ?_⟩ | (refine forkD (fun h => ?_) (fun h => ?_)) | (refine forkNe (fun h => ?_) (fun h => ?_)) | (refine forkEq (fun h => ?_) (fun h => ?_)) | refine forkNot ?_ | (refine ⟨vI64 (by omega), ?_⟩) | (refine And.intro (by omega) ?_) | apply And.intro | (exact iEq (by omega)) | (exact vI64 (by omega))
        intro t ht
        have hol := orTo_len P (goesL w h a (y : Int) ((ll.getD (o + x) []).getD y zeroF)) t a.length
        refine forkD (fun k3 => ?_) (fun k3 => ?_)
        · have hlt3 : t < a.length := by omega
          refine ⟨by omega, boolAt (by omega) (by omega), forkB (fun hq => ?_) (fun hq => ?_)⟩
          · refine ⟨by omega, by rw [flat_len boolC_len]; omega, rfl, vI64 (by omega), t + 1, by omega, by omega, rfl, ?_⟩
            rw [← orTo_1 hlt3 hq, show 0 + Int.toNat ((t : Nat) : Int) * 1 = t * 1 by omega, flat_set boolC_len _ _ (by omega) true]
            repeat' first | exact (flV_rn _ 0 _).symm | exact (inV_rn _ 0 _).symm | exact plainBL _ _ | exact inL_b _ _ | exact plainIL _ _ | exact trivial | exact rfl | exact wk_refl _ | refine wkO_cells ?_ | refine wks_cons ?_ ?_ | exact wks_nil | exact wk_nil _ _ _ (.inl rfl) | (exact wk_Q (by omega)) | refine wk_tupL ?_ | refine wk_aggL ?_ | refine joinMax ?_ ?_ ?_ | refine joinMin ?_ ?_ ?_ | refine toMax ?_ | refine toMin ?_ | refine ⟨rfl, ?_⟩ | refine ⟨trivial, ?_⟩ | (refine forkD (fun h => ?_) (fun h => ?_)) | (refine forkNe (fun h => ?_) (fun h => ?_)) | (refine forkEq (fun h => ?_) (fun h => ?_)) | refine forkNot ?_ | (refine ⟨vI64 (by omega), ?_⟩) | (refine And.intro (by omega) ?_) | apply And.intro | (exact iEq (by omega)) | (exact vI64 (by omega))
          · refine ⟨by omega, boolAt (by omega) (by omega), by omega, by rw [flat_len boolC_len]; omega, rfl, vI64 (by omega), t + 1, by omega, by omega, rfl, ?_⟩
            rw [← orTo_2 hlt3 hq, show 0 + Int.toNat ((t : Nat) : Int) * 1 = t * 1 by omega, flat_set boolC_len _ _ (by omega) _]
            repeat' first | exact (flV_rn _ 0 _).symm | exact (inV_rn _ 0 _).symm | exact plainBL _ _ | exact inL_b _ _ | exact plainIL _ _ | exact trivial | exact rfl | exact wk_refl _ | refine wkO_cells ?_ | refine wks_cons ?_ ?_ | exact wks_nil | exact wk_nil _ _ _ (.inl rfl) | (exact wk_Q (by omega)) | refine wk_tupL ?_ | refine wk_aggL ?_ | refine joinMax ?_ ?_ ?_ | refine joinMin ?_ ?_ ?_ | refine toMax ?_ | refine toMin ?_ | refine ⟨rfl, ?_⟩ | refine ⟨trivial, ?_⟩ | (refine forkD (fun h => ?_) (fun h => ?_)) | (refine forkNe (fun h => ?_) (fun h => ?_)) | (refine forkEq (fun h => ?_) (fun h => ?_)) | refine forkNot ?_ | (refine ⟨vI64 (by omega), ?_⟩) | (refine And.intro (by omega) ?_) | apply And.intro | (exact iEq (by omega)) | (exact vI64 (by omega))
        · obtain rfl : t = a.length := by omega
          rw [orTo_all hb, ← hsn]
          refine ⟨vI64 (by omega), y + 1, by omega, by omega, rfl, ?_⟩
          repeat' first | exact (flV_rn _ 0 _).symm | exact (inV_rn _ 0 _).symm | exact plainBL _ _ | exact inL_b _ _ | exact plainIL _ _ | exact trivial | exact rfl | exact wk_refl _ | refine wkO_cells ?_ | refine wks_cons ?_ ?_ | exact wks_nil | exact wk_nil _ _ _ (.inl rfl) | (exact wk_Q (by omega)) | refine wk_tupL ?_ | refine wk_aggL ?_ | refine joinMax ?_ ?_ ?_ | refine joinMin ?_ ?_ ?_ | refine toMax ?_ | refine toMin ?_ | refine ⟨rfl, ?_⟩ | refine ⟨trivial, ?_⟩ | (refine forkD (fun h => ?_) (fun h => ?_)) | (refine forkNe (fun h => ?_) (fun h => ?_)) | (refine forkEq (fun h => ?_) (fun h => ?_)) | refine forkNot ?_ | (refine ⟨vI64 (by omega), ?_⟩) | (refine And.intro (by omega) ?_) | apply And.intro | (exact iEq (by omega)) | (exact vI64 (by omega))
      · refine ⟨vI64 (by omega), y + 1, by omega, by omega, rfl, ?_⟩
        rw [truesTo_2 hB]
        repeat' first | exact (flV_rn _ 0 _).symm | exact (inV_rn _ 0 _).symm | exact plainBL _ _ | exact inL_b _ _ | exact plainIL _ _ | exact trivial | exact rfl | exact wk_refl _ | refine wkO_cells ?_ | refine wks_cons ?_ ?_ | exact wks_nil | exact wk_nil _ _ _ (.inl rfl) | (exact wk_Q (by omega)) | refine wk_tupL ?_ | refine wk_aggL ?_ | refine joinMax ?_ ?_ ?_ | refine joinMin ?_ ?_ ?_ | refine toMax ?_ | refine toMin ?_ | refine ⟨rfl, ?_⟩ | refine ⟨trivial, ?_⟩ | (refine forkD (fun h => ?_) (fun h => ?_)) | (refine forkNe (fun h => ?_) (fun h => ?_)) | (refine forkEq (fun h => ?_) (fun h => ?_)) | refine forkNot ?_ | (refine ⟨vI64 (by omega), ?_⟩) | (refine And.intro (by omega) ?_) | apply And.intro | (exact iEq (by omega)) | (exact vI64 (by omega))
    · obtain rfl : y = a.length := by omega
      have e2 : truesTo (memL S a.length) a.length = truesL (memL S a.length) := by unfold truesL; rw [memL_len]
      rw [e2, hmf, ← hre]
      refine ⟨⟨rfl, trivial⟩, fun H' hl' hd => ?_, ⟨by omega, by decide, ⟨Nat.le_refl _, by rw [inL_len]; omega⟩, ⟨Nat.le_refl _, Nat.le_refl _⟩, rfl⟩, rfl, vI64 (by omega), x + 1, by omega, by omega, rfl, ?_⟩
      · have := krlist (memL (List.flatMap (tgF w h a (ll.getD (o + x) [])) S) a.length) (by rw [memL_len]; omega) hl' hd.1
        rw [← hre] at this
        exact this.wkA ⟨wk_RF (memL_len ..), trivial⟩
      have hY := reR_succ w h a ll o c x
      have hM : memL (List.flatMap (tgF w h a (ll.getD (o + x) [])) S) a.length = memL (reS w h a ll o c (x + 1)) a.length := by rw [hre, memL_memL]
      rw [hM]
      repeat' first | (exact wk_QF (by rw [reR_len, reR_len]) (by omega)) | (exact wk_QF (memL_len ..) (by omega)) | exact ob_in hY rfl | exact plainBL _ _ | exact inL_b _ _ | exact plainIL _ _ | exact trivial | exact rfl | exact wk_refl _ | refine wkO_cells ?_ | refine wks_cons ?_ ?_ | exact wks_nil | exact wk_nil _ _ _ (.inl rfl) | (exact wk_Q (by omega)) | refine wk_tupL ?_ | refine wk_aggL ?_ | refine joinMax ?_ ?_ ?_ | refine joinMin ?_ ?_ ?_ | refine toMax ?_ | refine toMin ?_ | refine ⟨rfl, ?_⟩ | refine ⟨trivial, ?_⟩ | (refine forkD (fun h => ?_) (fun h => ?_)) | (refine forkNe (fun h => ?_) (fun h => ?_)) | (refine forkEq (fun h => ?_) (fun h => ?_)) | refine forkNot ?_ | (refine ⟨vI64 (by omega), ?_⟩) | (refine And.intro (by omega) ?_) | apply And.intro | (exact iEq (by omega)) | (exact vI64 (by omega))
  · obtain rfl : x = n := by omega
    repeat' first | exact plainBL _ _ | exact inL_b _ _ | exact plainIL _ _ | exact trivial | exact rfl | exact wk_refl _ | refine wkO_cells ?_ | refine wks_cons ?_ ?_ | exact wks_nil | exact wk_nil _ _ _ (.inl rfl) | (exact wk_Q (by omega)) | refine wk_tupL ?_ | refine wk_aggL ?_ | refine joinMax ?_ ?_ ?_ | refine joinMin ?_ ?_ ?_ | refine toMax ?_ | refine toMin ?_ | refine ⟨rfl, ?_⟩ | refine ⟨trivial, ?_⟩ | (refine forkD (fun h => ?_) (fun h => ?_)) | (refine forkNe (fun h => ?_) (fun h => ?_)) | (refine forkEq (fun h => ?_) (fun h => ?_)) | refine forkNot ?_ | (refine ⟨vI64 (by omega), ?_⟩) | (refine And.intro (by omega) ?_) | apply And.intro | (exact iEq (by omega)) | (exact vI64 (by omega))
end
end Go.Proofs.Ytkkgnalgmebfjaa
/- Drift: where a floe can have been: the two ways agree. No condition. -/
namespace Go.Proofs.Ytkkgnalgmebfjaa
set_option linter.unusedSimpArgs false
open Go Go.K
set_option linter.unusedVariables false
noncomputable section
theorem prT_len (w h : Int) (a : List Bool) (fl : List Flow) (S : List Int) (y : Nat) : (prT w h a fl S y).length = a.length := tabP_len _ _
theorem prT_0 (w h : Int) (a : List Bool) (fl : List Flow) (S : List Int) : (prT w h a fl S 0).flatMap boolC = krep [.bool false] a.length := by
  have : prT w h a fl S 0 = memL [] a.length := tabB_ext fun i hi => by
    rw [decide_eq_false (show ¬ i < 0 by omega), Bool.false_and, decide_eq_false (by simp)]
  rw [this, memL_nil]
theorem prT_set {w h : Int} {a : List Bool} {fl : List Flow} {S : List Int} {y : Nat} (hy : y < a.length) {b : Bool} (hb : b = orP w h a fl S y) : (prT w h a fl S y).set y b = prT w h a fl S (y + 1) := by
  unfold prT
  rw [tabB_set hy]
  refine tabB_ext fun i hi => ?_
  by_cases q : i = y
  · subst q
    rw [if_pos rfl, hb, decide_eq_true (show i < i + 1 by omega), Bool.true_and]
  · rw [if_neg q]
    have : decide (i < y) = decide (i < y + 1) := decide_eq_decide.2 ⟨fun _ => by omega, fun _ => by omega⟩
    rw [this]
theorem prT_all (w h : Int) (a : List Bool) (fl : List Flow) (S : List Int) : prT w h a fl S a.length = tabP (orP w h a fl S) a.length := tabB_ext fun i hi => by
  rw [decide_eq_true hi, Bool.true_and]
theorem orP_1 {w h : Int} {a : List Bool} {fl : List Flow} {S : List Int} {y : Nat} (hs : seaB a (y : Int) = true) : orP w h a fl S y = (tgts w h a (y : Int) (fl.getD y zeroF)).any fun t => decide (t ∈ S) := by
  unfold orP tgF
  rw [hs, Bool.true_and, Int.toNat_natCast]
theorem orP_0 {w h : Int} {a : List Bool} {fl : List Flow} {S : List Int} {y : Nat} (hs : seaB a (y : Int) = false) : orP w h a fl S y = false := by
  unfold orP
  rw [hs, Bool.false_and]
theorem orS_succ (w h : Int) (a : List Bool) (ll : List (List Flow)) (c : Int) (m : Nat) : orS w h a ll c (m + 1) = truesL (tabP (orP w h a (ll.getD (ll.length - 1 - m) []) (orS w h a ll c m)) a.length) := rfl
theorem orS_len (w h : Int) (a : List Bool) (ll : List (List Flow)) (c : Int) : ∀ i, (orS w h a ll c i).length ≤ 1 + a.length
  | 0 => by show 1 ≤ _; omega
  | i + 1 => by
    have := trues_len (tabP (orP w h a (ll.getD (ll.length - 1 - i) []) (orS w h a ll c i)) a.length)
    rw [tabP_len] at this
    rw [orS_succ]; omega
theorem orR_len (w h : Int) (a : List Bool) (ll : List (List Flow)) (c : Int) (n : Nat) : (orR w h a ll c n).length = n + 1 := tabP_len _ _
theorem orR_succ (w h : Int) (a : List Bool) (ll : List (List Flow)) (c : Int) (n : Nat) : orR w h a ll c (n + 1) = orR w h a ll c n ++ [orS w h a ll c (n + 1)] := tabP_succ _ _
theorem orR_get {w h : Int} {a : List Bool} {ll : List (List Flow)} {c : Int} {n k : Nat} (hk : k ≤ n) : (orR w h a ll c n).getD k [] = orS w h a ll c k := tabP_get (by omega)
theorem fOrigin_1 {w h : Int} {a : List Bool} {ll : List (List Flow)} {c : Int} (e : errFloe w h a ll 0 ll.length c = 0) : fOrigin w h a ll c = (orR w h a ll c ll.length, 0) := if_pos e
theorem fOrigin_0 {w h : Int} {a : List Bool} {ll : List (List Flow)} {c : Int} (e : ¬ errFloe w h a ll 0 ll.length c = 0) : fOrigin w h a ll c = ([], errFloe w h a ll 0 ll.length c) := if_neg e
/-! ## A list of some cells -/
theorem orN_len (w h : Int) (a : List Bool) (ll : List (List Flow)) (c : Int) (m y : Nat) : (orN w h a ll c m y).length ≤ y := by
  unfold orN
  rw [List.length_map]
  have := List.length_filter_le (fun k : Nat => !(a.getD k false) && decide (c ∈ reS w h a ll (ll.length - m) (k : Int) m)) (List.range y)
  rw [List.length_range] at this; exact this
theorem oneIf_0 (c : Int) (S : List Int) (y : Nat) : oneIf c S 0 y = [] := if_neg (by simp)
theorem orN_1 {w h : Int} {a : List Bool} {ll : List (List Flow)} {c : Int} {m y : Nat} (hl : a.getD y false = false) : orN w h a ll c m (y + 1) = orN w h a ll c m y ++ oneIf c (reS w h a ll (ll.length - m) (y : Int) m) (reS w h a ll (ll.length - m) (y : Int) m).length y := by
  unfold orN oneIf
  rw [List.range_succ, List.filter_append, List.map_append, List.take_length]
  congr 1
  by_cases q : c ∈ reS w h a ll (ll.length - m) (y : Int) m
  · rw [if_pos q, List.filter_cons_of_pos (by rw [hl, decide_eq_true q]; rfl)]; rfl
  · rw [if_neg q, List.filter_cons_of_neg (by rw [hl, decide_eq_false q]; decide)]; rfl
theorem orN_2 {w h : Int} {a : List Bool} {ll : List (List Flow)} {c : Int} {m y : Nat} (hl : a.getD y false = true) : orN w h a ll c m (y + 1) = orN w h a ll c m y := by
  unfold orN
  rw [List.range_succ, List.filter_append, List.map_append, List.filter_cons_of_neg (by rw [hl, Bool.not_true, Bool.false_and]; decide)]
  simp
theorem oneIf_1 {c : Int} {S : List Int} {z y : Nat} (hz : z < S.length) (hp : S.Pairwise (· < ·)) (h : S.getD z 0 = c) : oneIf c S z y = [] ∧ oneIf c S (z + 1) y = [(y : Int)] := by
  have e : S.take (z + 1) = S.take z ++ [S.getD z 0] := take_snoc hz
  refine ⟨if_neg fun hm => ?_, if_pos (by rw [e, h]; simp)⟩
  obtain ⟨i, hi, hc⟩ := List.getElem_of_mem hm
  rw [List.length_take] at hi
  rw [List.getElem_take] at hc
  have h2 := List.pairwise_iff_getElem.1 hp i z (by omega) hz (by omega)
  rw [List.getD_eq_getElem?_getD, List.getElem?_eq_getElem hz] at h
  simp only [Option.getD_some] at h
  omega
theorem oneIf_2 {c : Int} {S : List Int} {z y : Nat} (hz : z < S.length) (h : ¬ S.getD z 0 = c) : oneIf c S (z + 1) y = oneIf c S z y := by
  unfold oneIf
  rw [take_snoc (d := (0 : Int)) hz]
  by_cases q : c ∈ S.take z
  · rw [if_pos q, if_pos (List.mem_append_left _ q)]
  · rw [if_neg q, if_neg fun hm => ?_]
    rcases List.mem_append.1 hm with hm | hm
    · exact q hm
    · exact h (List.mem_singleton.1 hm).symm
theorem reS_lt (w h : Int) (a : List Bool) (ll : List (List Flow)) (o : Nat) (c : Int) (i : Nat) : (reS w h a ll o c (i + 1)).Pairwise (· < ·) := trues_lt _
/-! ## Back and forth -/
theorem targ_seaB {w h : Int} {a : List Bool} (b : BasOk w h a.length) {c : Int} (hs : seaB a c = true) (m : Move) : seaB a (targ w h a c m) = true := by
  have hbd := sea_bd hs
  have hn := b.n1
  have ht := targ_bd (a := a) (w := w) (h := h) (c := c) (by omega) m
  by_cases k : tgIn w h a c m
  · have e := targ_1 k
    rw [seaB_1 (by omega), e]
    have := k.2.2
    rw [this]; rfl
  · rw [targ_0 k]; exact hs
theorem tgts_sea {w h : Int} {a : List Bool} (b : BasOk w h a.length) {c : Int} {f : Flow} (hs : seaB a c = true) {t : Int} (ht : t ∈ tgts w h a c f) : seaB a t = true := by
  have h1 := ((tgts_mem b).1 ht).2
  unfold tgL at h1
  obtain ⟨m, _, rfl⟩ := List.mem_map.1 h1
  exact targ_seaB b hs m
theorem reS_front {w h : Int} {a : List Bool} (b : BasOk w h a.length) {ll : List (List Flow)} {o : Nat} {k z : Int} : ∀ i, z ∈ reS w h a ll o k (i + 1) ↔ ∃ t ∈ tgF w h a (ll.getD o []) k, z ∈ reS w h a ll (o + 1) t i := by
  intro i
  induction i generalizing z with
  | zero =>
    rw [reS_succ, mem_memL]
    show _ ∧ z ∈ List.flatMap _ [k] ↔ ∃ t ∈ _, z ∈ [t]
    rw [List.flatMap_cons, List.flatMap_nil, List.append_nil, Nat.add_zero]
    constructor
    · rintro ⟨h1, h2⟩; exact ⟨z, h2, List.mem_singleton.2 rfl⟩
    · rintro ⟨t, h1, h2⟩
      rw [List.mem_singleton.1 h2]
      exact ⟨tgts_bd b h1, h1⟩
  | succ i ih =>
    rw [reS_succ, mem_memL, List.mem_flatMap]
    constructor
    · rintro ⟨h1, s, h2, h3⟩
      obtain ⟨t, h4, h5⟩ := ih.1 h2
      refine ⟨t, h4, ?_⟩
      rw [reS_succ, mem_memL, List.mem_flatMap]
      exact ⟨h1, s, h5, by rw [show o + 1 + i = o + (i + 1) by omega]; exact h3⟩
    · rintro ⟨t, h4, h5⟩
      rw [reS_succ, mem_memL, List.mem_flatMap] at h5
      obtain ⟨h1, s, h6, h7⟩ := h5
      exact ⟨h1, s, ih.2 ⟨t, h4, h6⟩, by rw [show o + 1 + i = o + (i + 1) by omega] at h7; exact h7⟩
theorem back_iff {w h : Int} {a : List Bool} (b : BasOk w h a.length) {ll : List (List Flow)} {c : Int} : ∀ (m : Nat), m ≤ ll.length → ∀ k : Int, seaB a k = true → (c ∈ reS w h a ll (ll.length - m) k m ↔ k ∈ orS w h a ll c m)
  | 0, _, k, _ => by
    show c ∈ [k] ↔ k ∈ [c]
    rw [List.mem_singleton, List.mem_singleton]
    exact eq_comm
  | m + 1, hm, k, hk => by
    have hkb := sea_bd hk
    rw [reS_front b, orS_succ, mem_trues, tabP_len]
    rw [show ll.length - (m + 1) + 1 = ll.length - m by omega, show ll.length - (m + 1) = ll.length - 1 - m by omega]
    have e : ∀ t, t ∈ tgF w h a (ll.getD (ll.length - 1 - m) []) k → (c ∈ reS w h a ll (ll.length - m) t m ↔ t ∈ orS w h a ll c m) := fun t ht => back_iff b m (by omega) t (tgts_sea b hk ht)
    constructor
    · rintro ⟨t, h1, h2⟩
      refine ⟨Int.toNat k, by omega, ?_, by omega⟩
      rw [tab_getD _ _ _ (by omega)]
      unfold orP
      rw [Int.toNat_of_nonneg hkb.1, hk, Bool.true_and, List.any_eq_true]
      exact ⟨t, h1, decide_eq_true ((e t h1).1 h2)⟩
    · rintro ⟨i, h1, h2, rfl⟩
      rw [tab_getD _ _ _ h1] at h2
      unfold orP at h2
      rw [hk, Bool.true_and, List.any_eq_true] at h2
      obtain ⟨t, h3, h4⟩ := h2
      exact ⟨t, h3, (e t h3).2 (of_decide_eq_true h4)⟩
theorem orN_all {w h : Int} {a : List Bool} (b : BasOk w h a.length) {ll : List (List Flow)} {c : Int} {m : Nat} (hm : m + 1 ≤ ll.length) : orN w h a ll c (m + 1) a.length = orS w h a ll c (m + 1) := by
  have hsucc := orS_succ w h a ll c m
  have key : ∀ k : Nat, k < a.length → (!(a.getD k false) && decide (c ∈ reS w h a ll (ll.length - (m + 1)) (k : Int) (m + 1))) = (tabP (orP w h a (ll.getD (ll.length - 1 - m) []) (orS w h a ll c m)) a.length).getD k false := by
    intro k hk
    have hsea : seaB a (k : Int) = !(a.getD k false) := by rw [seaB_1 (by omega), Int.toNat_natCast]
    cases ha : a.getD k false with
    | true =>
      rw [tab_getD _ _ _ hk, orP_0 (by rw [hsea, ha]; rfl)]; rfl
    | false =>
      rw [ha] at hsea
      have hb := back_iff b (c := c) (m + 1) hm (k : Int) hsea
      rw [hsucc, mem_trues, tabP_len] at hb
      rw [Bool.not_false, Bool.true_and]
      cases hq : (tabP (orP w h a (ll.getD (ll.length - 1 - m) []) (orS w h a ll c m)) a.length).getD k false with
      | true => exact decide_eq_true (hb.2 ⟨k, hk, hq, rfl⟩)
      | false =>
        refine decide_eq_false fun hm => ?_
        obtain ⟨i, h1, h2, h3⟩ := hb.1 hm
        have : i = k := by omega
        subst this
        rw [hq] at h2; cases h2
  rw [hsucc]
  unfold orN truesL truesTo
  rw [tabP_len]
  congr 1
  exact List.filter_congr fun k hk => key k (List.mem_range.1 hk)
end
end Go.Proofs.Ytkkgnalgmebfjaa
/- Drift: Origin. No condition. -/
namespace Go.Proofs.Ytkkgnalgmebfjaa
open Go Go.K
set_option maxRecDepth 100000
set_option linter.unusedVariables false
set_option linter.unusedSimpArgs false
noncomputable section
attribute [local irreducible] vF
theorem one_in (n : Nat) (S : List Int) : belowO n (.cells true 0 [inV S]) = true := by
  show (belowC n (inV S) && true) = true
  rw [inV_b]; rfl
set_option maxHeartbeats 2000000 in
theorem kOrigin {w h : Int} {a : List Bool} (ll : List (List Flow)) (c : Int) (hl : ll.length ≤ 4294967296) (hs : shortF ll) {H : Heap} {L : Nat} (hL : H.length = L) {id id2 : Nat} {own own2 : Bool} {z z2 : Nat} (hid : H[id]? = some (.cells own z (a.flatMap boolC))) (hid2 : H[id2]? = some (.cells own2 z2 (flL ll))) :
    KCall prog F.drift_Origin [basV w h id a.length, .slice (some ⟨id2, 0, some 2⟩) ll.length ll.length, .int .i64 c] H [] (Is (rchV L (fOrigin w h a ll c)) (H ++ [.cells true 1 (inL (fOrigin w h a ll c).1)])) := by
  subst hL
  refine valQ2 (fun i => rchV i (fOrigin w h a ll c)) (Eq.mpr (EOrigin w h a ll c) ?_) (plainBL 0 a) (flL_b 0 ll) (fun n => inL_b n _) rfl rfl (fun _ => rfl) hid hid2 rfl
  unfold ROrigin
  refine ⟨⟨rfl, rfl, trivial⟩, fun H' _ hd => kfloe ll c hl hs hd.1 hd.2.1, forkNe (fun h0 => ?_) (fun h0 => ?_)⟩
  · rw [fOrigin_0 h0]
    repeat' first | exact trivial | exact rfl | exact wk_refl _ | refine wkO_cells ?_ | refine wks_cons ?_ ?_ | exact wks_nil | exact wk_nil _ _ _ (.inl rfl) | (exact wk_Q (by omega)) | refine wk_tupL ?_ | refine wk_aggL ?_ | refine joinMax ?_ ?_ ?_ | refine joinMin ?_ ?_ ?_ | refine toMax ?_ | refine toMin ?_ | refine ⟨rfl, ?_⟩ | refine ⟨trivial, ?_⟩ | (refine forkD (fun h => ?_) (fun h => ?_)) | (refine forkNe (fun h => ?_) (fun h => ?_)) | (refine forkEq (fun h => ?_) (fun h => ?_)) | refine forkNot ?_ | (refine ⟨vI64 (by omega), ?_⟩) | (refine And.intro (by omega) ?_) | apply And.intro | (exact iEq (by omega)) | (exact vI64 (by omega))
  rw [fOrigin_1 h0]
  have ok := floeOk h0
  have hb := ok.b
  have hn := ok.n1
  have hc := ok.bd
  have hbn := hb.n1
  have h48 := ok.n48
  refine ⟨vI64 (by omega), rfl, Nat.zero_le _, ?_, fun _ => rfl, ?_⟩
  · repeat' first | (exact wk_QF (orR_len ..) (by omega)) | exact plainBL _ _ | exact inL_b _ _ | exact plainIL _ _ | exact one_in _ _ | exact trivial | exact rfl | exact wk_refl _ | refine wkO_cells ?_ | refine wks_cons ?_ ?_ | exact wks_nil | exact wk_nil _ _ _ (.inl rfl) | (exact wk_Q (by omega)) | refine wk_tupL ?_ | refine wk_aggL ?_ | refine joinMax ?_ ?_ ?_ | refine joinMin ?_ ?_ ?_ | refine toMax ?_ | refine toMin ?_ | refine ⟨rfl, ?_⟩ | refine ⟨trivial, ?_⟩ | (refine forkD (fun h => ?_) (fun h => ?_)) | (refine forkNe (fun h => ?_) (fun h => ?_)) | (refine forkEq (fun h => ?_) (fun h => ?_)) | refine forkNot ?_ | (refine ⟨vI64 (by omega), ?_⟩) | (refine And.intro (by omega) ?_) | apply And.intro | (exact iEq (by omega)) | (exact vI64 (by omega))
  intro x hx
  have hrl := orR_len w h a ll c x
  refine forkD (fun k => ?_) (fun k => ?_)
  · have hlt : x < ll.length := by omega
    have hx0 : Int.toNat (((ll.length : Nat) : Int) - 1 - ((x : Nat) : Int)) = ll.length - 1 - x := by omega
    rw [hx0]
    have hlo : ll.length - 1 - x < ll.length := by omega
    obtain ⟨hfl, hff⟩ := ok.fl _ hlo
    rw [Nat.zero_add] at hfl hff
    have hsl := orS_len w h a ll c x
    refine ⟨vI64 (by omega), by omega, ?_, by omega, ?_⟩
    · have hg : (orR w h a ll c x).getD x [] = orS w h a ll c x := orR_get (Nat.le_refl _)
      have := inL_at (ll := orR w h a ll c x) (k := x) (by omega) (off := 0 + Int.toNat ((((orR w h a ll c x).length : Nat) : Int) - 1) * 1) (by omega)
      rw [hg] at this; exact this
    have hsucc := orS_succ w h a ll c x
    have hpa := prT_all w h a (ll.getD (ll.length - 1 - x) []) (orS w h a ll c x)
    rw [← hpa] at hsucc
    generalize hS : orS w h a ll c x = S at *
    refine ⟨rfl, Nat.zero_le _, ?_, fun _ => rfl, ?_⟩
    · rw [← prT_0 w h a (ll.getD (ll.length - 1 - x) []) S]
      repeat' first | exact (flV_rn _ 0 _).symm | exact (inV_rn _ 0 _).symm | exact plainBL _ _ | exact inL_b _ _ | exact plainIL _ _ | exact one_in _ _ | exact trivial | exact rfl | exact wk_refl _ | refine wkO_cells ?_ | refine wks_cons ?_ ?_ | exact wks_nil | exact wk_nil _ _ _ (.inl rfl) | (exact wk_Q (by omega)) | refine wk_tupL ?_ | refine wk_aggL ?_ | refine joinMax ?_ ?_ ?_ | refine joinMin ?_ ?_ ?_ | refine toMax ?_ | refine toMin ?_ | refine ⟨rfl, ?_⟩ | refine ⟨trivial, ?_⟩ | (refine forkD (fun h => ?_) (fun h => ?_)) | (refine forkNe (fun h => ?_) (fun h => ?_)) | (refine forkEq (fun h => ?_) (fun h => ?_)) | refine forkNot ?_ | (refine ⟨vI64 (by omega), ?_⟩) | (refine And.intro (by omega) ?_) | apply And.intro | (exact iEq (by omega)) | (exact vI64 (by omega))
    intro y hy
    have hpl := prT_len w h a (ll.getD (ll.length - 1 - x) []) S y
    refine forkD (fun k2 => ?_) (fun k2 => ?_)
    · have hly : y < a.length := by omega
      have hfr := hff _ (getD_mem (d := zeroF) (show y < _ by omega))
      refine ⟨⟨rfl, trivial⟩, fun H' _ hd => kis hb hd.1, forkB (fun hsea => ?_) (fun hsea => ?_)⟩
      · have hP := orP_1 (w := w) (h := h) (fl := ll.getD (ll.length - 1 - x) []) (S := S) hsea
        have htl : (tgts w h a (y : Int) ((ll.getD (ll.length - 1 - x) []).getD y zeroF)).length ≤ 4096 := by
          have h1 := trues_len (goesL w h a (y : Int) ((ll.getD (ll.length - 1 - x) []).getD y zeroF))
          rw [goesL_len] at h1
          unfold tgts; omega
        refine ⟨by omega, flL_at hlo (by omega), by omega, partF (by omega) (by omega), ⟨rfl, trivial⟩, fun H' hl' hd => kTGs hb (by omega) hfr hl' hd.1, ⟨rfl, rfl, trivial⟩, fun H' hl' hd => kContainsFunc _ _ S (by omega) (by omega) hd.1 hd.2.1, by omega, by rw [flat_len boolC_len]; omega, rfl, vI64 (by omega), y + 1, by omega, by omega, rfl, ?_⟩
        rw [← prT_set hly hP.symm, show 0 + Int.toNat ((y : Nat) : Int) * 1 = y * 1 by omega, flat_set boolC_len _ _ (by omega) _]
        repeat' first | exact (flV_rn _ 0 _).symm | exact (inV_rn _ 0 _).symm | exact plainBL _ _ | exact inL_b _ _ | exact plainIL _ _ | exact one_in _ _ | exact trivial | exact rfl | exact wk_refl _ | refine wkO_cells ?_ | refine wks_cons ?_ ?_ | exact wks_nil | exact wk_nil _ _ _ (.inl rfl) | (exact wk_Q (by omega)) | refine wk_tupL ?_ | refine wk_aggL ?_ | refine joinMax ?_ ?_ ?_ | refine joinMin ?_ ?_ ?_ | refine toMax ?_ | refine toMin ?_ | refine ⟨rfl, ?_⟩ | refine ⟨trivial, ?_⟩ | (refine forkD (fun h => ?_) (fun h => ?_)) | (refine forkNe (fun h => ?_) (fun h => ?_)) | (refine forkEq (fun h => ?_) (fun h => ?_)) | refine forkNot ?_ | (refine ⟨vI64 (by omega), ?_⟩) | (refine And.intro (by omega) ?_) | apply And.intro | (exact iEq (by omega)) | (exact vI64 (by omega))
      · have hP := orP_0 (w := w) (h := h) (fl := ll.getD (ll.length - 1 - x) []) (S := S) hsea
        refine ⟨by omega, by rw [flat_len boolC_len]; omega, rfl, vI64 (by omega), y + 1, by omega, by omega, rfl, ?_⟩
        rw [← prT_set hly hP.symm, show 0 + Int.toNat ((y : Nat) : Int) * 1 = y * 1 by omega, flat_set boolC_len _ _ (by omega) _]
        repeat' first | exact (flV_rn _ 0 _).symm | exact (inV_rn _ 0 _).symm | exact plainBL _ _ | exact inL_b _ _ | exact plainIL _ _ | exact one_in _ _ | exact trivial | exact rfl | exact wk_refl _ | refine wkO_cells ?_ | refine wks_cons ?_ ?_ | exact wks_nil | exact wk_nil _ _ _ (.inl rfl) | (exact wk_Q (by omega)) | refine wk_tupL ?_ | refine wk_aggL ?_ | refine joinMax ?_ ?_ ?_ | refine joinMin ?_ ?_ ?_ | refine toMax ?_ | refine toMin ?_ | refine ⟨rfl, ?_⟩ | refine ⟨trivial, ?_⟩ | (refine forkD (fun h => ?_) (fun h => ?_)) | (refine forkNe (fun h => ?_) (fun h => ?_)) | (refine forkEq (fun h => ?_) (fun h => ?_)) | refine forkNot ?_ | (refine ⟨vI64 (by omega), ?_⟩) | (refine And.intro (by omega) ?_) | apply And.intro | (exact iEq (by omega)) | (exact vI64 (by omega))
    · obtain rfl : y = a.length := by omega
      rw [← hsucc]
      refine ⟨⟨rfl, trivial⟩, fun H' hl' hd => ?_, ⟨by omega, by decide, ⟨Nat.le_refl _, by rw [inL_len]; omega⟩, ⟨Nat.le_refl _, Nat.le_refl _⟩, rfl⟩, rfl, vI64 (by omega), x + 1, by omega, by omega, rfl, ?_⟩
      · have := knumbers (prT w h a (ll.getD (ll.length - 1 - x) []) S a.length) (by omega) hl' hd.1
        rw [← hsucc] at this
        exact this.wkA ⟨wk_RF hpl, trivial⟩
      have hY := orR_succ w h a ll c x
      repeat' first | (exact wk_QF (by rw [orR_len, orR_len]) (by omega)) | exact ob_in hY rfl | exact plainBL _ _ | exact inL_b _ _ | exact plainIL _ _ | exact one_in _ _ | exact trivial | exact rfl | exact wk_refl _ | refine wkO_cells ?_ | refine wks_cons ?_ ?_ | exact wks_nil | exact wk_nil _ _ _ (.inl rfl) | (exact wk_Q (by omega)) | refine wk_tupL ?_ | refine wk_aggL ?_ | refine joinMax ?_ ?_ ?_ | refine joinMin ?_ ?_ ?_ | refine toMax ?_ | refine toMin ?_ | refine ⟨rfl, ?_⟩ | refine ⟨trivial, ?_⟩ | (refine forkD (fun h => ?_) (fun h => ?_)) | (refine forkNe (fun h => ?_) (fun h => ?_)) | (refine forkEq (fun h => ?_) (fun h => ?_)) | refine forkNot ?_ | (refine ⟨vI64 (by omega), ?_⟩) | (refine And.intro (by omega) ?_) | apply And.intro | (exact iEq (by omega)) | (exact vI64 (by omega))
  · obtain rfl : x = ll.length := by omega
    repeat' first | exact plainBL _ _ | exact inL_b _ _ | exact plainIL _ _ | exact one_in _ _ | exact trivial | exact rfl | exact wk_refl _ | refine wkO_cells ?_ | refine wks_cons ?_ ?_ | exact wks_nil | exact wk_nil _ _ _ (.inl rfl) | (exact wk_Q (by omega)) | refine wk_tupL ?_ | refine wk_aggL ?_ | refine joinMax ?_ ?_ ?_ | refine joinMin ?_ ?_ ?_ | refine toMax ?_ | refine toMin ?_ | refine ⟨rfl, ?_⟩ | refine ⟨trivial, ?_⟩ | (refine forkD (fun h => ?_) (fun h => ?_)) | (refine forkNe (fun h => ?_) (fun h => ?_)) | (refine forkEq (fun h => ?_) (fun h => ?_)) | refine forkNot ?_ | (refine ⟨vI64 (by omega), ?_⟩) | (refine And.intro (by omega) ?_) | apply And.intro | (exact iEq (by omega)) | (exact vI64 (by omega))
end
end Go.Proofs.Ytkkgnalgmebfjaa
/- Drift: the reference's Origin. No condition. -/
namespace Go.Proofs.Ytkkgnalgmebfjaa
open Go Go.K
set_option maxRecDepth 100000
set_option linter.unusedVariables false
set_option linter.unusedSimpArgs false
noncomputable section
attribute [local irreducible] vF
set_option maxHeartbeats 2000000 in
theorem krOrigin {w h : Int} {a : List Bool} (ll : List (List Flow)) (c : Int) (hl : ll.length ≤ 4294967296) (hs : shortF ll) {H : Heap} {L : Nat} (hL : H.length = L) {id id2 : Nat} {own own2 : Bool} {z z2 : Nat} (hid : H[id]? = some (.cells own z (a.flatMap boolC))) (hid2 : H[id2]? = some (.cells own2 z2 (flL ll))) :
    KCall prog F.polynyaref02_Origin [basV w h id a.length, .slice (some ⟨id2, 0, some 2⟩) ll.length ll.length, .int .i64 c] H [] (Is (rchV L (fOrigin w h a ll c)) (H ++ [.cells true 1 (inL (fOrigin w h a ll c).1)])) := by
  subst hL
  refine valQ2 (fun i => rchV i (fOrigin w h a ll c)) (Eq.mpr (ErOrigin w h a ll c) ?_) (plainBL 0 a) (flL_b 0 ll) (fun n => inL_b n _) rfl rfl (fun _ => rfl) hid hid2 rfl
  unfold RrOrigin
  refine ⟨⟨rfl, rfl, trivial⟩, fun H' _ hd => krfloe ll 0 ll.length c hl (by omega) hs hd.1 hd.2.1, forkNe (fun h0 => ?_) (fun h0 => ?_)⟩
  · rw [fOrigin_0 h0]
    repeat' first | exact trivial | exact rfl | exact wk_refl _ | refine wkO_cells ?_ | refine wks_cons ?_ ?_ | exact wks_nil | exact wk_nil _ _ _ (.inl rfl) | (exact wk_Q (by omega)) | refine wk_tupL ?_ | refine wk_aggL ?_ | refine joinMax ?_ ?_ ?_ | refine joinMin ?_ ?_ ?_ | refine toMax ?_ | refine toMin ?_ | refine ⟨rfl, ?_⟩ | refine ⟨trivial, ?_⟩ | (refine forkD (fun h => ?_) (fun h => ?_)) | (refine forkNe (fun h => ?_) (fun h => ?_)) | (refine forkEq (fun h => ?_) (fun h => ?_)) | refine forkNot ?_ | (refine ⟨vI64 (by omega), ?_⟩) | (refine And.intro (by omega) ?_) | apply And.intro | (exact iEq (by omega)) | (exact vI64 (by omega))
  rw [fOrigin_1 h0]
  have ok := floeOk h0
  have hb := ok.b
  have hn := ok.n1
  have hc := ok.bd
  have hbn := hb.n1
  have h48 := ok.n48
  refine ⟨rfl, Nat.zero_le _, ?_, fun _ => rfl, ?_⟩
  · repeat' first | (exact wk_QF (orR_len ..) (by omega)) | exact plainBL _ _ | exact inL_b _ _ | exact plainIL _ _ | exact one_in _ _ | exact trivial | exact rfl | exact wk_refl _ | refine wkO_cells ?_ | refine wks_cons ?_ ?_ | exact wks_nil | exact wk_nil _ _ _ (.inl rfl) | (exact wk_Q (by omega)) | refine wk_tupL ?_ | refine wk_aggL ?_ | refine joinMax ?_ ?_ ?_ | refine joinMin ?_ ?_ ?_ | refine toMax ?_ | refine toMin ?_ | refine ⟨rfl, ?_⟩ | refine ⟨trivial, ?_⟩ | (refine forkD (fun h => ?_) (fun h => ?_)) | (refine forkNe (fun h => ?_) (fun h => ?_)) | (refine forkEq (fun h => ?_) (fun h => ?_)) | refine forkNot ?_ | (refine ⟨vI64 (by omega), ?_⟩) | (refine And.intro (by omega) ?_) | apply And.intro | (exact iEq (by omega)) | (exact vI64 (by omega))
  intro x hx
  have hrl := orR_len w h a ll c x
  refine forkD (fun k => ?_) (fun k => ?_)
  · have hlt : x < ll.length := by omega
    have e1 : 0 + Int.toNat (((ll.length : Nat) : Int) - ((x + 1 : Nat) : Int)) * 1 = ll.length - (x + 1) := by omega
    have e2 : ll.length - Int.toNat (((ll.length : Nat) : Int) - ((x + 1 : Nat) : Int)) = x + 1 := by omega
    rw [e1, e2]
    have hall := orN_all hb (c := c) (ll := ll) (m := x) (by omega)
    refine ⟨rfl, Nat.zero_le _, ?_, fun _ => rfl, ?_⟩
    · repeat' first | exact plainBL _ _ | exact inL_b _ _ | exact plainIL _ _ | exact one_in _ _ | exact wk_nil _ _ _ (.inl rfl) | exact trivial | exact rfl | exact wk_refl _ | refine wkO_cells ?_ | refine wks_cons ?_ ?_ | exact wks_nil | exact wk_nil _ _ _ (.inl rfl) | (exact wk_Q (by omega)) | refine wk_tupL ?_ | refine wk_aggL ?_ | refine joinMax ?_ ?_ ?_ | refine joinMin ?_ ?_ ?_ | refine toMax ?_ | refine toMin ?_ | refine ⟨rfl, ?_⟩ | refine ⟨trivial, ?_⟩ | (refine forkD (fun h => ?_) (fun h => ?_)) | (refine forkNe (fun h => ?_) (fun h => ?_)) | (refine forkEq (fun h => ?_) (fun h => ?_)) | refine forkNot ?_ | (refine ⟨vI64 (by omega), ?_⟩) | (refine And.intro (by omega) ?_) | apply And.intro | (exact iEq (by omega)) | (exact vI64 (by omega))
    intro y hy
    have hol := orN_len w h a ll c (x + 1) y
    refine ⟨vI64 (by omega), forkD (fun k2 => ?_) (fun k2 => ?_)⟩
    · have hly : y < a.length := by omega
      refine ⟨by omega, boolAt hly (by omega), forkB (fun hland => ?_) (fun hland => ?_)⟩
      · refine ⟨vI64 (by omega), y + 1, by omega, by omega, rfl, ?_⟩
        rw [orN_2 hland]
        repeat' first | exact plainBL _ _ | exact inL_b _ _ | exact plainIL _ _ | exact one_in _ _ | exact trivial | exact rfl | exact wk_refl _ | refine wkO_cells ?_ | refine wks_cons ?_ ?_ | exact wks_nil | exact wk_nil _ _ _ (.inl rfl) | (exact wk_Q (by omega)) | refine wk_tupL ?_ | refine wk_aggL ?_ | refine joinMax ?_ ?_ ?_ | refine joinMin ?_ ?_ ?_ | refine toMax ?_ | refine toMin ?_ | refine ⟨rfl, ?_⟩ | refine ⟨trivial, ?_⟩ | (refine forkD (fun h => ?_) (fun h => ?_)) | (refine forkNe (fun h => ?_) (fun h => ?_)) | (refine forkEq (fun h => ?_) (fun h => ?_)) | refine forkNot ?_ | (refine ⟨vI64 (by omega), ?_⟩) | (refine And.intro (by omega) ?_) | apply And.intro | (exact iEq (by omega)) | (exact vI64 (by omega))
      have hsea : seaB a (y : Int) = true := by rw [seaB_1 (by omega), Int.toNat_natCast, hland]; rfl
      have ok2 : FloeOk w h a ll (ll.length - (x + 1)) (x + 1) (y : Int) := ⟨hb, by omega, fun i hi => by have := ok.fl (ll.length - (x + 1) + i) (by omega); rw [Nat.zero_add] at this; exact this, hsea⟩
      have hF := fReach_1 (floe_0 ok2)
      refine ⟨vI64 (by omega), ⟨⟨.inl rfl, Nat.le_refl _⟩, Nat.le_refl _, by omega, by omega⟩, ⟨rfl, rfl, trivial⟩, fun H' hl' hd => krReach ll _ _ _ hl (by omega) hs hl' hd.1 hd.2.1, ?_⟩
      rw [hF]
      dsimp only
      have hrr := reR_len w h a ll (ll.length - (x + 1)) (y : Int) (x + 1)
      have hat : (inL (reR w h a ll (ll.length - (x + 1)) (y : Int) (x + 1)))[0 + Int.toNat ((x + 1 : Nat) : Int) * 1]? = some (inV (reS w h a ll (ll.length - (x + 1)) (y : Int) (x + 1))) := by
        have := inL_at (ll := reR w h a ll (ll.length - (x + 1)) (y : Int) (x + 1)) (k := x + 1) (by omega) (off := 0 + Int.toNat ((x + 1 : Nat) : Int) * 1) (by omega)
        rw [reR_get (Nat.le_refl _)] at this; exact this
      have hWl := reS_len w h a ll (ll.length - (x + 1)) (y : Int) (x + 1)
      have hWp := reS_lt w h a ll (ll.length - (x + 1)) (y : Int) x
      have hsn := orN_1 (w := w) (h := h) (ll := ll) (c := c) (m := x + 1) hland
      generalize reS w h a ll (ll.length - (x + 1)) (y : Int) (x + 1) = W at *
      refine ⟨_, rfl, rfl, Nat.zero_le _, ?_, fun _ => rfl, ?_⟩
      · rw [oneIf_0, List.append_nil]
        repeat' first | exact plainBL _ _ | exact inL_b _ _ | exact plainIL _ _ | exact one_in _ _ | exact trivial | exact rfl | exact wk_refl _ | refine wkO_cells ?_ | refine wks_cons ?_ ?_ | exact wks_nil | exact wk_nil _ _ _ (.inl rfl) | (exact wk_Q (by omega)) | refine wk_tupL ?_ | refine wk_aggL ?_ | refine joinMax ?_ ?_ ?_ | refine joinMin ?_ ?_ ?_ | refine toMax ?_ | refine toMin ?_ | refine ⟨rfl, ?_⟩ | refine ⟨trivial, ?_⟩ | (refine forkD (fun h => ?_) (fun h => ?_)) | (refine forkNe (fun h => ?_) (fun h => ?_)) | (refine forkEq (fun h => ?_) (fun h => ?_)) | refine forkNot ?_ | (refine ⟨vI64 (by omega), ?_⟩) | (refine And.intro (by omega) ?_) | apply And.intro | (exact iEq (by omega)) | (exact vI64 (by omega))
      intro t ht
      refine ⟨by omega, hat, forkD (fun k3 => ?_) (fun k3 => ?_)⟩
      · have hlt3 : t < W.length := by omega
        refine ⟨by omega, hat, by omega, intAt hlt3 (by omega), forkEq (fun hq => ?_) (fun hq => ?_)⟩
        · obtain ⟨o1, o2⟩ := oneIf_1 (y := y) hlt3 hWp hq
          rw [o1, List.append_nil]
          refine ⟨⟨by omega, by decide, ⟨Nat.le_refl _, flat_le intC_len _⟩, ⟨Nat.le_refl _, Nat.le_refl _⟩, rfl⟩, rfl, vI64 (by omega), t + 1, by omega, by omega, rfl, ?_⟩
          rw [o2]
          repeat' first | exact wk_snoc rfl | exact ob_snoc intC_len rfl rfl | exact plainBL _ _ | exact inL_b _ _ | exact plainIL _ _ | exact one_in _ _ | exact trivial | exact rfl | exact wk_refl _ | refine wkO_cells ?_ | refine wks_cons ?_ ?_ | exact wks_nil | exact wk_nil _ _ _ (.inl rfl) | (exact wk_Q (by omega)) | refine wk_tupL ?_ | refine wk_aggL ?_ | refine joinMax ?_ ?_ ?_ | refine joinMin ?_ ?_ ?_ | refine toMax ?_ | refine toMin ?_ | refine ⟨rfl, ?_⟩ | refine ⟨trivial, ?_⟩ | (refine forkD (fun h => ?_) (fun h => ?_)) | (refine forkNe (fun h => ?_) (fun h => ?_)) | (refine forkEq (fun h => ?_) (fun h => ?_)) | refine forkNot ?_ | (refine ⟨vI64 (by omega), ?_⟩) | (refine And.intro (by omega) ?_) | apply And.intro | (exact iEq (by omega)) | (exact vI64 (by omega))
        · have o2 := oneIf_2 (y := y) hlt3 hq
          refine ⟨vI64 (by omega), t + 1, by omega, by omega, rfl, ?_⟩
          rw [o2]
          repeat' first | exact plainBL _ _ | exact inL_b _ _ | exact plainIL _ _ | exact one_in _ _ | exact trivial | exact rfl | exact wk_refl _ | refine wkO_cells ?_ | refine wks_cons ?_ ?_ | exact wks_nil | exact wk_nil _ _ _ (.inl rfl) | (exact wk_Q (by omega)) | refine wk_tupL ?_ | refine wk_aggL ?_ | refine joinMax ?_ ?_ ?_ | refine joinMin ?_ ?_ ?_ | refine toMax ?_ | refine toMin ?_ | refine ⟨rfl, ?_⟩ | refine ⟨trivial, ?_⟩ | (refine forkD (fun h => ?_) (fun h => ?_)) | (refine forkNe (fun h => ?_) (fun h => ?_)) | (refine forkEq (fun h => ?_) (fun h => ?_)) | refine forkNot ?_ | (refine ⟨vI64 (by omega), ?_⟩) | (refine And.intro (by omega) ?_) | apply And.intro | (exact iEq (by omega)) | (exact vI64 (by omega))
      · obtain rfl : t = W.length := by omega
        rw [← hsn]
        refine ⟨vI64 (by omega), y + 1, by omega, by omega, rfl, ?_⟩
        repeat' first | exact plainBL _ _ | exact inL_b _ _ | exact plainIL _ _ | exact one_in _ _ | exact trivial | exact rfl | exact wk_refl _ | refine wkO_cells ?_ | refine wks_cons ?_ ?_ | exact wks_nil | exact wk_nil _ _ _ (.inl rfl) | (exact wk_Q (by omega)) | refine wk_tupL ?_ | refine wk_aggL ?_ | refine joinMax ?_ ?_ ?_ | refine joinMin ?_ ?_ ?_ | refine toMax ?_ | refine toMin ?_ | refine ⟨rfl, ?_⟩ | refine ⟨trivial, ?_⟩ | (refine forkD (fun h => ?_) (fun h => ?_)) | (refine forkNe (fun h => ?_) (fun h => ?_)) | (refine forkEq (fun h => ?_) (fun h => ?_)) | refine forkNot ?_ | (refine ⟨vI64 (by omega), ?_⟩) | (refine And.intro (by omega) ?_) | apply And.intro | (exact iEq (by omega)) | (exact vI64 (by omega))
    · obtain rfl : y = a.length := by omega
      rw [hall]
      have hsl := orS_len w h a ll c (x + 1)
      refine ⟨⟨by omega, by decide, ⟨Nat.le_refl _, by rw [inL_len]; omega⟩, ⟨Nat.le_refl _, Nat.le_refl _⟩, rfl⟩, rfl, vI64 (by omega), x + 1, by omega, by omega, rfl, ?_⟩
      have hY := orR_succ w h a ll c x
      repeat' first | (exact wk_QF (by rw [orR_len, orR_len]) (by omega)) | exact ob_in hY rfl | exact plainBL _ _ | exact inL_b _ _ | exact plainIL _ _ | exact one_in _ _ | exact trivial | exact rfl | exact wk_refl _ | refine wkO_cells ?_ | refine wks_cons ?_ ?_ | exact wks_nil | exact wk_nil _ _ _ (.inl rfl) | (exact wk_Q (by omega)) | refine wk_tupL ?_ | refine wk_aggL ?_ | refine joinMax ?_ ?_ ?_ | refine joinMin ?_ ?_ ?_ | refine toMax ?_ | refine toMin ?_ | refine ⟨rfl, ?_⟩ | refine ⟨trivial, ?_⟩ | (refine forkD (fun h => ?_) (fun h => ?_)) | (refine forkNe (fun h => ?_) (fun h => ?_)) | (refine forkEq (fun h => ?_) (fun h => ?_)) | refine forkNot ?_ | (refine ⟨vI64 (by omega), ?_⟩) | (refine And.intro (by omega) ?_) | apply And.intro | (exact iEq (by omega)) | (exact vI64 (by omega))
  · obtain rfl : x = ll.length := by omega
    repeat' first | exact plainBL _ _ | exact inL_b _ _ | exact plainIL _ _ | exact one_in _ _ | exact trivial | exact rfl | exact wk_refl _ | refine wkO_cells ?_ | refine wks_cons ?_ ?_ | exact wks_nil | exact wk_nil _ _ _ (.inl rfl) | (exact wk_Q (by omega)) | refine wk_tupL ?_ | refine wk_aggL ?_ | refine joinMax ?_ ?_ ?_ | refine joinMin ?_ ?_ ?_ | refine toMax ?_ | refine toMin ?_ | refine ⟨rfl, ?_⟩ | refine ⟨trivial, ?_⟩ | (refine forkD (fun h => ?_) (fun h => ?_)) | (refine forkNe (fun h => ?_) (fun h => ?_)) | (refine forkEq (fun h => ?_) (fun h => ?_)) | refine forkNot ?_ | (refine ⟨vI64 (by omega), ?_⟩) | (refine And.intro (by omega) ?_) | apply And.intro | (exact iEq (by omega)) | (exact vI64 (by omega))
end
end Go.Proofs.Ytkkgnalgmebfjaa
/- Drift: DriftFloes returns true. No condition. -/
namespace Go.Proofs.Ytkkgnalgmebfjaa
open Go Go.K
set_option maxRecDepth 100000
set_option linter.unusedVariables false
set_option linter.unusedSimpArgs false
noncomputable section
attribute [local irreducible] vF
theorem fReach_short {w h : Int} {a : List Bool} {ll : List (List Flow)} {o n : Nat} {c : Int} (ha : a.length ≤ 60) (hn : n ≤ 60) : (fReach w h a ll o n c).1.length ≤ 4294967296 ∧ shortI (fReach w h a ll o n c).1 := by
  by_cases h0 : errFloe w h a ll o n c = 0
  · rw [fReach_1 h0]
    have hl := reR_len w h a ll o c n
    refine ⟨by dsimp only; omega, fun k hk => ?_⟩
    dsimp only at hk ⊢
    rw [reR_get (by omega)]
    have := reS_len w h a ll o c k
    omega
  · rw [fReach_0 h0]
    exact ⟨Nat.zero_le _, fun k hk => by cases hk⟩
theorem fOrigin_short {w h : Int} {a : List Bool} {ll : List (List Flow)} {c : Int} (ha : a.length ≤ 60) (hn : ll.length ≤ 60) : (fOrigin w h a ll c).1.length ≤ 4294967296 ∧ shortI (fOrigin w h a ll c).1 := by
  by_cases h0 : errFloe w h a ll 0 ll.length c = 0
  · rw [fOrigin_1 h0]
    have hl := orR_len w h a ll c ll.length
    refine ⟨by dsimp only; omega, fun k hk => ?_⟩
    dsimp only at hk ⊢
    rw [orR_get (by omega)]
    have := orS_len w h a ll c k
    omega
  · rw [fOrigin_0 h0]
    exact ⟨Nat.zero_le _, fun k hk => by cases hk⟩
set_option maxHeartbeats 2000000 in
theorem kFloesLaw (w h : Int) (a : List Bool) (ll : List (List Flow)) (c : Int) {H : Heap} {id id2 : Nat} {own own2 : Bool} {z z2 : Nat} (hid : H[id]? = some (.cells own z (a.flatMap boolC))) (hid2 : H[id2]? = some (.cells own2 z2 (flL ll))) :
    KCall prog F.polynyalaw02_DriftFloes [basV w h id a.length, .slice (some ⟨id2, 0, some 2⟩) ll.length ll.length, .int .i64 c] H [] (Is (.bool true) H) := by
  refine valRx (Eq.mpr (EFloesLaw _ w h a ll c) ?_) ⟨plainBL 0 a, flL_b 0 ll, trivial⟩ rfl (ids := [id, id2]) ⟨⟨_, _, hid⟩, ⟨_, _, hid2⟩, trivial⟩ rfl
  unfold RFloesLaw
  refine forkD (fun _ => ⟨trivial, fun H' _ _ => kAwake H', rfl⟩) (fun ha => ?_)
  replace ha : a.length ≤ 60 := by omega
  refine forkD (fun h5 => forkD (fun _ => ⟨trivial, fun H' _ _ => kAwake H', rfl⟩) (fun h48 => forkD (fun _ => ⟨trivial, fun H' _ _ => kAwake H', rfl⟩) (fun h60 => ?_))) (fun h5 => forkD (fun _ => ⟨trivial, fun H' _ _ => kAwake H', rfl⟩) (fun h60 => ?_))
  · refine ⟨rfl, ⟨Nat.zero_le _, fun k hk => by omega⟩, ?_, fun _ => rfl, ?_⟩
    · repeat' first | exact trivial | exact rfl | exact wk_refl _ | refine wkO_cells ?_ | refine wks_cons ?_ ?_ | exact wks_nil | exact wk_nil _ _ _ (.inl rfl) | (exact wk_Q (by omega)) | refine wk_tupL ?_ | refine wk_aggL ?_ | refine joinMax ?_ ?_ ?_ | refine joinMin ?_ ?_ ?_ | refine toMax ?_ | refine toMin ?_ | refine ⟨rfl, ?_⟩ | refine ⟨trivial, ?_⟩ | (refine forkD (fun h => ?_) (fun h => ?_)) | (refine forkNe (fun h => ?_) (fun h => ?_)) | (refine forkEq (fun h => ?_) (fun h => ?_)) | refine forkNot ?_ | (refine ⟨vI64 (by omega), ?_⟩) | (refine And.intro (by omega) ?_) | apply And.intro | (exact iEq (by omega)) | (exact vI64 (by omega))
    rintro x ⟨hx, hi⟩
    refine forkD (fun k2 => ?_) (fun k2 => ?_)
    · have hlt : x < ll.length := by omega
      refine ⟨by omega, flL_at hlt (by omega), forkD (fun q => ⟨trivial, fun H' _ _ => kAwake H', rfl⟩) (fun q => ⟨vI64 (by omega), x + 1, ⟨by omega, fun k hk => ?_⟩, by omega, rfl, ?_⟩)⟩
      · rcases Nat.lt_or_ge k x with hk2 | hk2
        · exact hi k hk2
        · obtain rfl : k = x := by omega
          omega
      · repeat' first | exact trivial | exact rfl | exact wk_refl _ | refine wkO_cells ?_ | refine wks_cons ?_ ?_ | exact wks_nil | exact wk_nil _ _ _ (.inl rfl) | (exact wk_Q (by omega)) | refine wk_tupL ?_ | refine wk_aggL ?_ | refine joinMax ?_ ?_ ?_ | refine joinMin ?_ ?_ ?_ | refine toMax ?_ | refine toMin ?_ | refine ⟨rfl, ?_⟩ | refine ⟨trivial, ?_⟩ | (refine forkD (fun h => ?_) (fun h => ?_)) | (refine forkNe (fun h => ?_) (fun h => ?_)) | (refine forkEq (fun h => ?_) (fun h => ?_)) | refine forkNot ?_ | (refine ⟨vI64 (by omega), ?_⟩) | (refine And.intro (by omega) ?_) | apply And.intro | (exact iEq (by omega)) | (exact vI64 (by omega))
    · obtain rfl : x = ll.length := by omega
      have hs : shortF ll := fun k hk => by have := hi k hk; omega
      obtain ⟨r1, r2⟩ := fReach_short (w := w) (h := h) (ll := ll) (o := 0) (n := ll.length) (c := c) ha (by omega)
      obtain ⟨o1, o2⟩ := fOrigin_short (w := w) (h := h) (ll := ll) (c := c) ha (by omega)
      refine ⟨⟨rfl, trivial⟩, fun H' hl' hd => kBasin w h a (by omega) hl' hd.1, ⟨rfl, trivial⟩, fun H' hl' hd => ksteps ll (by omega) hs hl' hd.1,
        ⟨rfl, rfl, trivial⟩, fun H' hl' hd => (kReach ll c (by omega) hs hl' hd.1 hd.2.1).wkA ⟨wk_aggL ⟨wk_refl _, wk_refl _, wk_QR, trivial⟩, wk_QR, wk_refl _, trivial⟩,
        ⟨rfl, rfl, trivial⟩, fun H' hl' hd => krReach ll 0 ll.length c (by omega) (by omega) hs hl' hd.1 hd.2.1,
        ⟨rfl, rfl, trivial⟩, fun H' hl' hd => (klists _ r1 r2 hd.1 hd.2.1).wkA ⟨wk_QR, wk_QR, trivial⟩,
        forkF (bne_self_eq_false _) ⟨⟨rfl, rfl, trivial⟩, fun H' hl' hd => (kOrigin ll c (by omega) hs hl' hd.1 hd.2.1).wkA ⟨wk_aggL ⟨wk_refl _, wk_refl _, wk_QR, trivial⟩, wk_QR, wk_refl _, trivial⟩,
        ⟨rfl, rfl, trivial⟩, fun H' hl' hd => krOrigin ll c (by omega) hs hl' hd.1 hd.2.1,
        ⟨rfl, rfl, trivial⟩, fun H' hl' hd => (klists _ o1 o2 hd.1 hd.2.1).wkA ⟨wk_QR, wk_QR, trivial⟩,
        forkEq (fun _ => ⟨⟨rfl, rfl, rfl, rfl, trivial⟩, fun H' hl' hd => (kkept w h a (by omega) ll (by omega) hs hd.1 hd.2.1 hd.2.2.1 hd.2.2.2.1).wkA ⟨wk_aggL ⟨wk_refl _, wk_refl _, wk_QR, trivial⟩, wk_refl _, wk_QR, wk_refl _, trivial⟩, trivial, fun H' _ _ => kAwake H', rfl⟩) (fun q => absurd rfl q)⟩⟩
  · refine ⟨rfl, ⟨Nat.zero_le _, fun k hk => by omega⟩, ?_, fun _ => rfl, ?_⟩
    · repeat' first | exact trivial | exact rfl | exact wk_refl _ | refine wkO_cells ?_ | refine wks_cons ?_ ?_ | exact wks_nil | exact wk_nil _ _ _ (.inl rfl) | (exact wk_Q (by omega)) | refine wk_tupL ?_ | refine wk_aggL ?_ | refine joinMax ?_ ?_ ?_ | refine joinMin ?_ ?_ ?_ | refine toMax ?_ | refine toMin ?_ | refine ⟨rfl, ?_⟩ | refine ⟨trivial, ?_⟩ | (refine forkD (fun h => ?_) (fun h => ?_)) | (refine forkNe (fun h => ?_) (fun h => ?_)) | (refine forkEq (fun h => ?_) (fun h => ?_)) | refine forkNot ?_ | (refine ⟨vI64 (by omega), ?_⟩) | (refine And.intro (by omega) ?_) | apply And.intro | (exact iEq (by omega)) | (exact vI64 (by omega))
    rintro x ⟨hx, hi⟩
    refine forkD (fun k2 => ?_) (fun k2 => ?_)
    · have hlt : x < ll.length := by omega
      refine ⟨by omega, flL_at hlt (by omega), forkD (fun q => ⟨trivial, fun H' _ _ => kAwake H', rfl⟩) (fun q => ⟨vI64 (by omega), x + 1, ⟨by omega, fun k hk => ?_⟩, by omega, rfl, ?_⟩)⟩
      · rcases Nat.lt_or_ge k x with hk2 | hk2
        · exact hi k hk2
        · obtain rfl : k = x := by omega
          omega
      · repeat' first | exact trivial | exact rfl | exact wk_refl _ | refine wkO_cells ?_ | refine wks_cons ?_ ?_ | exact wks_nil | exact wk_nil _ _ _ (.inl rfl) | (exact wk_Q (by omega)) | refine wk_tupL ?_ | refine wk_aggL ?_ | refine joinMax ?_ ?_ ?_ | refine joinMin ?_ ?_ ?_ | refine toMax ?_ | refine toMin ?_ | refine ⟨rfl, ?_⟩ | refine ⟨trivial, ?_⟩ | (refine forkD (fun h => ?_) (fun h => ?_)) | (refine forkNe (fun h => ?_) (fun h => ?_)) | (refine forkEq (fun h => ?_) (fun h => ?_)) | refine forkNot ?_ | (refine ⟨vI64 (by omega), ?_⟩) | (refine And.intro (by omega) ?_) | apply And.intro | (exact iEq (by omega)) | (exact vI64 (by omega))
    · obtain rfl : x = ll.length := by omega
      have hs : shortF ll := fun k hk => by have := hi k hk; omega
      obtain ⟨r1, r2⟩ := fReach_short (w := w) (h := h) (ll := ll) (o := 0) (n := ll.length) (c := c) ha (by omega)
      obtain ⟨o1, o2⟩ := fOrigin_short (w := w) (h := h) (ll := ll) (c := c) ha (by omega)
      refine ⟨⟨rfl, trivial⟩, fun H' hl' hd => kBasin w h a (by omega) hl' hd.1, ⟨rfl, trivial⟩, fun H' hl' hd => ksteps ll (by omega) hs hl' hd.1,
        ⟨rfl, rfl, trivial⟩, fun H' hl' hd => (kReach ll c (by omega) hs hl' hd.1 hd.2.1).wkA ⟨wk_aggL ⟨wk_refl _, wk_refl _, wk_QR, trivial⟩, wk_QR, wk_refl _, trivial⟩,
        ⟨rfl, rfl, trivial⟩, fun H' hl' hd => krReach ll 0 ll.length c (by omega) (by omega) hs hl' hd.1 hd.2.1,
        ⟨rfl, rfl, trivial⟩, fun H' hl' hd => (klists _ r1 r2 hd.1 hd.2.1).wkA ⟨wk_QR, wk_QR, trivial⟩,
        forkF (bne_self_eq_false _) ⟨⟨rfl, rfl, trivial⟩, fun H' hl' hd => (kOrigin ll c (by omega) hs hl' hd.1 hd.2.1).wkA ⟨wk_aggL ⟨wk_refl _, wk_refl _, wk_QR, trivial⟩, wk_QR, wk_refl _, trivial⟩,
        ⟨rfl, rfl, trivial⟩, fun H' hl' hd => krOrigin ll c (by omega) hs hl' hd.1 hd.2.1,
        ⟨rfl, rfl, trivial⟩, fun H' hl' hd => (klists _ o1 o2 hd.1 hd.2.1).wkA ⟨wk_QR, wk_QR, trivial⟩,
        forkEq (fun _ => ⟨⟨rfl, rfl, rfl, rfl, trivial⟩, fun H' hl' hd => (kkept w h a (by omega) ll (by omega) hs hd.1 hd.2.1 hd.2.2.1 hd.2.2.2.1).wkA ⟨wk_aggL ⟨wk_refl _, wk_refl _, wk_QR, trivial⟩, wk_refl _, wk_QR, wk_refl _, trivial⟩, trivial, fun H' _ _ => kAwake H', rfl⟩) (fun q => absurd rfl q)⟩⟩
end
end Go.Proofs.Ytkkgnalgmebfjaa
/- How laws' arguments are read. No condition. -/
namespace Go.Proofs.Ytkkgnalgmebfjaa
set_option linter.unusedSimpArgs false
open Go Go.K Go.ChangeShapes Go.WideShapes Go.ChangeAt Go.RowKit
set_option maxRecDepth 100000
set_option linter.unusedVariables false
noncomputable section
theorem own : ownKnob Try.prog.godebug = none := by kernel_rfl
theorem sized : slicesSized Try.prog = true := by kernel_rfl
abbrev known (t : TypeId) : Prop := t < Try.prog.types.size
theorem kids : Kids Try.prog known := kids_rows (by kernel_rfl) (by kernel_rfl)
end
end Go.Proofs.Ytkkgnalgmebfjaa
/- Arguments that are read: lists within lists by their values. No condition. -/
namespace Go.K
set_option linter.unusedSimpArgs false
open Go Go.RowKit Go.ChangeAt Go.WideShapes
set_option linter.unusedVariables false
variable {P : Program} {HH : Type} {enc : TypeId × Value → HH}

/-- Plain cells, whose lists are said by their values. -/
def GoodD (P : Program) : Nat → TypeId → List Value → Prop
  | 0, _, _ => False
  | n + 1, t, cs => match P.underlying t with
    | some .bool => ∃ b, cs = [.bool b]
    | some (.int k) => ∃ x, cs = [.int k x] ∧ k.min ≤ x ∧ x ≤ k.max
    | some .string => ∃ s, cs = [.string s]
    | some (.struct fs) => GoodL (GoodD P n) (fs.toList.map (·.type)) cs
    | some (.slice e) => ∃ len ds, cs = [.iface (len + 1) (.agg ⟨ds⟩)] ∧ ds.length = len * P.cellsOf e ∧ len ≤ maxLen ∧ GoodL (GoodD P n) (List.replicate len e) ds
    | _ => False
/-- Plain cells, whose lists lie in blocks, and the lists within these are said by their values. -/
def Good2 (P : Program) (H : Heap) : Nat → TypeId → List Value → Prop
  | 0, _, _ => False
  | n + 1, t, cs => match P.underlying t with
    | some .bool => ∃ b, cs = [.bool b]
    | some (.int k) => ∃ x, cs = [.int k x] ∧ k.min ≤ x ∧ x ≤ k.max
    | some .string => ∃ s, cs = [.string s]
    | some (.struct fs) => GoodL (Good2 P H n) (fs.toList.map (·.type)) cs
    | some (.slice e) => cs = [.slice none 0 0] ∨ cs = [.slice (some ⟨0, 0, some 0⟩) 0 0] ∨
        ∃ id len ds, cs = [.slice (some ⟨id, 0, none⟩) len len] ∧ H[id]? = some (.cells false 0 ds) ∧ ds.length = len * P.cellsOf e ∧ len ≤ maxLen ∧ GoodL (GoodD P n) (List.replicate len e) ds
    | _ => False
theorem Good2.mono {H K : Heap} : ∀ {n : Nat} {t : TypeId} {cs : List Value}, Good2 P H n t cs → Good2 P (H ++ K) n t cs := by
  intro n
  induction n with
  | zero => intro t cs h; exact h
  | succ n ih =>
    intro t cs h
    unfold Good2 at h ⊢
    split at h
    · exact h
    · exact h
    · exact h
    · exact GoodL.mono (fun _ _ => ih) h
    · rcases h with h | h | ⟨id, len, cs', h1, h2, h3, h4, h5⟩
      · exact .inl h
      · exact .inr (.inl h)
      · exact .inr (.inr ⟨id, len, cs', h1, by rw [List.getElem?_append_left (List.getElem?_eq_some_iff.1 h2).1]; exact h2, h3, h4, h5⟩)
    · exact h
/-- Nobody writes below B: what lies there is known. -/
def Low (B : Nat) (ρ : Ren) (W : World) : Prop := (∀ b m ty fz, b < B → W.heap[b]? = some (.cells m ty fz) → ρ.mem b = some m) ∧ ∀ id r, ρ id = some r → r.b < B

theorem deepenL {B : Nat} {ρ : Ren} {H : Heap} {W : World} {n : Nat} (IH : ∀ (t : TypeId) (cs cs' : List Value), Good P H n t cs → VRl ρ cs cs' → ∃ ds, VRl ρ ds cs' ∧ GoodD P n t ds) :
    ∀ (ts : List TypeId) (cs cs' : List Value), GoodL (Good P H n) ts cs → VRl ρ cs cs' → ∃ ds, VRl ρ ds cs' ∧ GoodL (GoodD P n) ts ds := by
  intro ts
  induction ts with
  | nil => intro cs cs' h hv; rw [show cs = [] from h] at hv; exact ⟨[], hv, rfl⟩
  | cons t ts ih =>
    rintro cs cs' ⟨c, rest, rfl, h1, h2⟩ hv
    have hl : (c ++ rest).length = cs'.length := hv.1
    rw [List.length_append] at hl
    have v1 : VRl ρ c (cs'.take c.length) := ⟨by rw [List.length_take]; omega, fun i v v' a b => by
      have hi := (List.getElem?_eq_some_iff.1 a).1
      rw [List.getElem?_take, if_pos hi] at b
      exact hv.2 i v v' (by rw [List.getElem?_append_left hi]; exact a) b⟩
    have v2 : VRl ρ rest (cs'.drop c.length) := ⟨by rw [List.length_drop]; omega, fun i v v' a b => by
      rw [List.getElem?_drop] at b
      exact hv.2 (c.length + i) v v' (by rw [List.getElem?_append_right (by omega), Nat.add_sub_cancel_left]; exact a) b⟩
    obtain ⟨d1, w1, g1⟩ := IH t c _ h1 v1
    obtain ⟨d2, w2, g2⟩ := ih rest _ h2 v2
    refine ⟨d1 ++ d2, ?_, d1, d2, rfl, g1, g2⟩
    have := VRl.append w1 w2
    rw [List.take_append_drop] at this
    exact this
theorem row_reals {ρ : Ren} {r : RI} {cs : List Value} {W : World} (h : ObjRel ρ r (.cells false 0 cs) W) : ∃ m ty fz, W.heap[r.b]? = some (.cells m ty fz) ∧ (cs.length = 0 ∨ cs.length + r.s ≤ m.size) ∧ VRl ρ cs ((m.toList.drop r.s).take cs.length) ∧ m.size = r.n := by
  obtain ⟨_, _, m, ty, fz, hb, hsz, _, hcs⟩ := h
  have hle : cs.length = 0 ∨ cs.length + r.s ≤ m.size := by
    rcases Nat.eq_zero_or_pos cs.length with h0 | h0
    · exact .inl h0
    · right
      obtain ⟨v', g1, _⟩ := hcs (cs.length - 1) _ (List.getElem?_eq_getElem (by omega))
      have := (Array.getElem?_eq_some_iff.1 g1).1
      omega
  refine ⟨m, ty, fz, hb, hle, ⟨?_, fun i v v' a b => ?_⟩, hsz⟩
  · have e : m.toList.length = m.size := Array.length_toList
    rw [List.length_take, List.length_drop, e]
    rcases hle with h | h <;> omega
  · obtain ⟨v2, g1, g2⟩ := hcs i v a
    have hi := (List.getElem?_eq_some_iff.1 a).1
    rw [List.getElem?_take, if_pos hi, List.getElem?_drop, Array.getElem?_toList, Nat.add_comm, g1] at b
    cases b; exact g2
theorem deepen {B : Nat} {ρ : Ren} {H : Heap} {W : World} (hr : Rel P B ρ H W) (hlow : Low B ρ W) : ∀ (n : Nat) (t : TypeId) (cs cs' : List Value), Good P H n t cs → VRl ρ cs cs' → ∃ ds, VRl ρ ds cs' ∧ GoodD P n t ds := by
  intro n
  induction n with
  | zero => intro t cs cs' h; exact h.elim
  | succ n ih =>
    intro t cs cs' h hv
    have single : ∀ v, cs = [v] → ∃ x, cs' = [x] ∧ VR ρ v x := by
      rintro v rfl
      have hl : cs'.length = 1 := hv.1.symm
      obtain ⟨x, rfl⟩ := List.length_eq_one_iff.1 hl
      exact ⟨x, rfl, hv.2 0 v x rfl rfl⟩
    unfold Good at h
    split at h
    · rename_i hu; exact ⟨cs, hv, by unfold GoodD; rw [hu]; exact h⟩
    · rename_i k hu; exact ⟨cs, hv, by unfold GoodD; rw [hu]; exact h⟩
    · rename_i hu; exact ⟨cs, hv, by unfold GoodD; rw [hu]; exact h⟩
    · rename_i fs hu
      obtain ⟨ds, w, g⟩ := deepenL (B := B) (W := W) ih _ cs cs' h hv
      exact ⟨ds, w, by unfold GoodD; rw [hu]; exact g⟩
    · rename_i e hu
      have nilD : ∀ x, (∃ a c, x = .slice a 0 c) → ∃ ds, VRl ρ ds [x] ∧ GoodD P (n + 1) t ds := by
        rintro x ⟨a, c, rfl⟩
        refine ⟨[.iface 1 (.agg ⟨[]⟩)], .cons .deep0 (.nil ρ), ?_⟩
        unfold GoodD
        rw [hu]
        exact ⟨0, [], rfl, by simp, by simp [maxLen], rfl⟩
      rcases h with h | h | ⟨id, len, csi, h1, h2, h3, h4, h5⟩
      · obtain ⟨x, rfl, hx⟩ := single _ h
        cases hx; exact nilD _ ⟨_, _, rfl⟩
      · obtain ⟨x, rfl, hx⟩ := single _ h
        refine nilD _ ?_
        generalize hz : (Value.slice (some ⟨0, 0, some 0⟩) 0 0) = z at hx
        cases hx <;> cases hz
        exact ⟨_, _, rfl⟩
      · obtain ⟨x, rfl, hx⟩ := single _ h1
        rcases Nat.eq_zero_or_pos len with h0 | h0
        · subst h0
          refine nilD _ ?_
          cases hx with
          | slice h hl hc _ => exact ⟨_, _, rfl⟩
          | slice0 h => exact ⟨_, _, rfl⟩
        · obtain ⟨r, cap', hid, hc, rfl⟩ : ∃ r cap', ρ id = some r ∧ len ≤ cap' ∧ x = .slice (some ⟨r.b, 0 + r.s, none⟩) len cap' := by
            generalize hz : (Value.slice (some ⟨id, 0, none⟩) len len) = z at hx
            cases hx <;> cases hz
            · exact ⟨_, _, ‹_›, by omega, rfl⟩
            · exact absurd h0 (Nat.lt_irrefl 0)
          obtain ⟨m, ty, fz, hb, hle, hvr, _⟩ := row_reals (hr.obj id r _ hid h2)
          have hm := hlow.1 r.b m ty fz (hlow.2 id r hid) hb
          obtain ⟨ds, w, g⟩ := deepenL (B := B) (W := W) ih _ csi _ h5 hvr
          have hdl : ds.length = csi.length := by
            have e1 := w.1
            have e2 := hvr.1
            omega
          refine ⟨[.iface (len + 1) (.agg ⟨ds⟩)], .cons ?_ (.nil ρ), ?_⟩
          · rw [Nat.zero_add]
            refine .deep hm h0 hc (by show ds.length = 0 ∨ ds.length + r.s ≤ m.size; rw [hdl]; exact hle) (fun i v v' a b => ?_)
            have hi : i < ds.length := by have := (Array.getElem?_eq_some_iff.1 a).1; simpa using this
            refine w.2 i v v' (by simpa using a) ?_
            rw [List.getElem?_take, if_pos (by omega), List.getElem?_drop, Array.getElem?_toList, Nat.add_comm]; exact b
          · unfold GoodD
            rw [hu]
            exact ⟨len, ds, rfl, by rw [hdl]; exact h3, h4, g⟩
    · exact h.elim
theorem Low.set {B : Nat} {ρ : Ren} {W : World} (h : Low B ρ W) {id : Nat} {ri : RI} (hb : ri.b < B) : Low B (ρ.set id ri) W := by
  refine ⟨h.1, fun i r hi => ?_⟩
  by_cases e : i = id
  · subst e; rw [Ren.set_same] at hi; cases hi; exact hb
  · rw [Ren.set_other e] at hi; exact h.2 i r hi
theorem bring2L {B : Nat} {W : World} {n : Nat} {H0 : Heap} (IH : ∀ (t : TypeId) (cs cs' : List Value) (ρ : Ren) (H : Heap), Good P H n t cs → VRl ρ cs cs' → Rel P B ρ H W → Low B ρ W → ∃ ρ' H' ds, Ext P B W ρ H ρ' H' ∧ Low B ρ' W ∧ VRl ρ' ds cs' ∧ Good2 P H' n t ds) :
    ∀ (ts : List TypeId) (cs cs' : List Value) (ρ : Ren) (H : Heap), GoodL (Good P H n) ts cs → VRl ρ cs cs' → Rel P B ρ H W → Low B ρ W → ∃ ρ' H' ds, Ext P B W ρ H ρ' H' ∧ Low B ρ' W ∧ VRl ρ' ds cs' ∧ GoodL (Good2 P H' n) ts ds := by
  intro ts
  induction ts with
  | nil => intro cs cs' ρ H h hv hr hl; rw [show cs = [] from h] at hv; exact ⟨ρ, H, [], Ext.refl hr, hl, hv, rfl⟩
  | cons t ts ih =>
    rintro cs cs' ρ H ⟨c, rest, rfl, h1, h2⟩ hv hr hlow
    have hl : (c ++ rest).length = cs'.length := hv.1
    rw [List.length_append] at hl
    have v1 : VRl ρ c (cs'.take c.length) := ⟨by rw [List.length_take]; omega, fun i v v' a b => by
      have hi := (List.getElem?_eq_some_iff.1 a).1
      rw [List.getElem?_take, if_pos hi] at b
      exact hv.2 i v v' (by rw [List.getElem?_append_left hi]; exact a) b⟩
    have v2 : VRl ρ rest (cs'.drop c.length) := ⟨by rw [List.length_drop]; omega, fun i v v' a b => by
      rw [List.getElem?_drop] at b
      exact hv.2 (c.length + i) v v' (by rw [List.getElem?_append_right (by omega), Nat.add_sub_cancel_left]; exact a) b⟩
    obtain ⟨ρ1, H1, d1, x1, l1, w1, g1⟩ := IH t c _ ρ H h1 v1 hr hlow
    obtain ⟨K1, rfl⟩ := x1.pre
    obtain ⟨ρ2, H2, d2, x2, l2, w2, g2⟩ := ih rest _ ρ1 _ (GoodL.mono (fun _ _ => Good.mono) h2) (v2.mono x1.le) x1.rel l1
    refine ⟨ρ2, H2, d1 ++ d2, x1.trans x2, l2, ?_, d1, d2, rfl, ?_, g2⟩
    · have := VRl.append (w1.mono x2.le) w2
      rw [List.take_append_drop] at this
      exact this
    · obtain ⟨K2, rfl⟩ := x2.pre
      exact g1.mono
theorem bring2 {B : Nat} {W : World} (hbase : B = W.heap.size) : ∀ (n : Nat) (t : TypeId) (cs cs' : List Value) (ρ : Ren) (H : Heap), Good P H n t cs → VRl ρ cs cs' → Rel P B ρ H W → Low B ρ W → ∃ ρ' H' ds, Ext P B W ρ H ρ' H' ∧ Low B ρ' W ∧ VRl ρ' ds cs' ∧ Good2 P H' n t ds := by
  intro n
  induction n with
  | zero => intro t cs cs' ρ H h; exact h.elim
  | succ n ih =>
    intro t cs cs' ρ H h hv hr hlow
    unfold Good at h
    split at h
    · rename_i hu; exact ⟨ρ, H, cs, Ext.refl hr, hlow, hv, by unfold Good2; rw [hu]; exact h⟩
    · rename_i k hu; exact ⟨ρ, H, cs, Ext.refl hr, hlow, hv, by unfold Good2; rw [hu]; exact h⟩
    · rename_i hu; exact ⟨ρ, H, cs, Ext.refl hr, hlow, hv, by unfold Good2; rw [hu]; exact h⟩
    · rename_i fs hu
      obtain ⟨ρ', H', ds, x, l, w, g⟩ := bring2L (H0 := H) ih _ cs cs' ρ H h hv hr hlow
      exact ⟨ρ', H', ds, x, l, w, by unfold Good2; rw [hu]; exact g⟩
    · rename_i e hu
      rcases h with h | h | ⟨id, len, csi, h1, h2, h3, h4, h5⟩
      · exact ⟨ρ, H, cs, Ext.refl hr, hlow, hv, by unfold Good2; rw [hu]; exact .inl h⟩
      · exact ⟨ρ, H, cs, Ext.refl hr, hlow, hv, by unfold Good2; rw [hu]; exact .inr (.inl h)⟩
      · subst h1
        have hl1 : cs'.length = 1 := hv.1.symm
        obtain ⟨x, rfl⟩ := List.length_eq_one_iff.1 hl1
        have hx := hv.2 0 _ x rfl rfl
        have hid : ∃ r, ρ id = some r := by
          generalize hz : (Value.slice (some ⟨id, 0, none⟩) len len) = z at hx
          cases hx <;> cases hz <;> exact ⟨_, ‹_›⟩
        obtain ⟨r, hid⟩ := hid
        obtain ⟨m, ty, fz, hb, hle, hvr, hsz⟩ := row_reals (hr.obj id r _ hid h2)
        obtain ⟨ds, w, g⟩ := deepenL (B := B) (W := W) (deepen hr hlow n) _ csi _ h5 hvr
        have hdl : ds.length = csi.length := by
          have e1 := w.1
          have e2 := hvr.1
          omega
        have hrb := hlow.2 id r hid
        have x2 := Ext.row (P := P) hr (ri := ⟨r.b, r.s, m.size, 0, false⟩) (cs := ds) rfl rfl (by rw [← hbase]; exact hrb) hrb ⟨m, ty, fz, hb, rfl, fun i v hv => by
          have hi := (List.getElem?_eq_some_iff.1 hv).1
          have hlen : i < ((m.toList.drop r.s).take csi.length).length := by rw [← w.1]; exact hi
          have hg := List.getElem?_eq_getElem hlen
          refine ⟨_, ?_, w.2 i v _ hv hg⟩
          rw [← hg, List.getElem?_take, if_pos (by omega), List.getElem?_drop, Array.getElem?_toList, Nat.add_comm]⟩
        refine ⟨_, _, [.slice (some ⟨H.length, 0, none⟩) len len], x2, hlow.set hrb, .cons ?_ (.nil _), ?_⟩
        · generalize hz : (Value.slice (some ⟨id, 0, none⟩) len len) = z at hx
          cases hx <;> cases hz
          · rename_i r' cap' h' _ hc _
            rw [hid] at h'; cases h'
            exact VR.slice (ρ := ρ.set H.length ⟨r.b, r.s, m.size, 0, false⟩) (id := H.length) (o := 0) (r := ⟨r.b, r.s, m.size, 0, false⟩) (Ren.set_same ..) (Nat.le_refl _) hc (fun h => by cases h)
          · rename_i r' o' h'
            rw [hid] at h'; cases h'
            exact VR.slice0 (r := ⟨r.b, r.s, m.size, 0, false⟩) (Ren.set_same ..)
        · unfold Good2
          rw [hu]
          exact .inr (.inr ⟨H.length, len, ds, rfl, by simp, by rw [hdl]; exact h3, h4, g⟩)
    · exact h.elim
def GoodV2 (P : Program) (H : Heap) (n : Nat) (t : TypeId) (v : Value) : Prop :=
  match P.underlying t with
  | some (.struct _) => ∃ cs : List Value, v = .agg ⟨cs⟩ ∧ Good2 P H n t cs
  | _ => Good2 P H n t [v]
def GoodA2 (P : Program) (H : Heap) (n : Nat) : List TypeId → List Value → Prop
  | [], [] => True
  | t :: ts, v :: vs => GoodV2 P H n t v ∧ GoodA2 P H n ts vs
  | _, _ => False
theorem GoodV2.mono {H K : Heap} {n : Nat} {t : TypeId} {v : Value} (h : GoodV2 P H n t v) : GoodV2 P (H ++ K) n t v := by
  unfold GoodV2 at h ⊢
  split at h
  · obtain ⟨cs, h1, h2⟩ := h; exact ⟨cs, h1, h2.mono⟩
  · exact h.mono
theorem bringV2 {B : Nat} {W : World} (hbase : B = W.heap.size) {n : Nat} {t : TypeId} {v v' : Value} {ρ : Ren} {H : Heap} (h : GoodV P H n t v) (hv : VR ρ v v') (hr : Rel P B ρ H W) (hlow : Low B ρ W) :
    ∃ ρ' H' v2, Ext P B W ρ H ρ' H' ∧ Low B ρ' W ∧ VR ρ' v2 v' ∧ GoodV2 P H' n t v2 := by
  unfold GoodV at h
  split at h
  · rename_i fs hu
    obtain ⟨cs, rfl, h⟩ := h
    cases hv with
    | @agg _ cs' h1 h2 =>
      obtain ⟨ρ', H', ds, x, l, w, g⟩ := bring2 hbase n t cs cs'.toList ρ H h ⟨by simpa using h1, fun i a b c d => h2 i a b (by simpa using c) (by simpa using d)⟩ hr hlow
      refine ⟨ρ', H', .agg ⟨ds⟩, x, l, .agg (by have := w.1; simpa using this) (fun i a b c d => w.2 i a b (by simpa using c) (by simpa using d)), ?_⟩
      unfold GoodV2; rw [hu]; exact ⟨ds, rfl, g⟩
  · rename_i hns
    obtain ⟨ρ', H', ds, x, l, w, g⟩ := bring2 hbase n t [v] [v'] ρ H h (.cons hv (.nil ρ)) hr hlow
    have hl : ds.length = 1 := w.1
    obtain ⟨v2, rfl⟩ := List.length_eq_one_iff.1 hl
    refine ⟨ρ', H', v2, x, l, w.2 0 v2 v' rfl rfl, ?_⟩
    unfold GoodV2
    split
    · rename_i fs hu; exact absurd hu (hns fs)
    · exact g
theorem bringA2 {B : Nat} {W : World} (hbase : B = W.heap.size) {n : Nat} : ∀ (ts : List TypeId) (vs vs' : List Value) (ρ : Ren) (H : Heap), GoodA P H n ts vs → VRl ρ vs vs' → Rel P B ρ H W → Low B ρ W →
    ∃ ρ' H' ws, Ext P B W ρ H ρ' H' ∧ Low B ρ' W ∧ VRl ρ' ws vs' ∧ GoodA2 P H' n ts ws := by
  intro ts
  induction ts with
  | nil =>
    intro vs vs' ρ H h hv hr hl
    match vs, h with
    | [], _ => exact ⟨ρ, H, [], Ext.refl hr, hl, hv, trivial⟩
  | cons t ts ih =>
    intro vs vs' ρ H h hv hr hl
    match vs, h with
    | v :: vs, ⟨h1, h2⟩ =>
      match vs', hv with
      | [], hv => exact absurd hv.1 (by simp)
      | v' :: vs', hv =>
        obtain ⟨ρ1, H1, w1, x1, l1, r1, g1⟩ := bringV2 hbase h1 (hv.2 0 v v' rfl rfl) hr hl
        obtain ⟨K1, rfl⟩ := x1.pre
        have hA : ∀ {ts : List TypeId} {vs : List Value}, GoodA P H n ts vs → GoodA P (H ++ K1) n ts vs := by
          intro ts
          induction ts with
          | nil => intro vs h; match vs, h with | [], _ => trivial
          | cons t ts ih => intro vs h; match vs, h with | v :: vs, ⟨a, b⟩ => exact ⟨a.mono, ih b⟩
        obtain ⟨ρ2, H2, ws, x2, l2, r2, g2⟩ := ih vs vs' ρ1 _ (hA h2) ((show VRl ρ vs vs' from ⟨by have := hv.1; simpa using this, fun i a b c d => hv.2 (i + 1) a b (by simpa using c) (by simpa using d)⟩).mono x1.le) x1.rel l1
        obtain ⟨K2, rfl⟩ := x2.pre
        exact ⟨ρ2, _, w1 :: ws, x1.trans x2, l2, .cons (r1.mono x2.le) r2, g1.mono, g2⟩
/-- A law's contract in the canonical heap is its contract in every world; lists within lists are said by their values. -/
theorem law_calls2 {N n b0 : Nat} {ts : List TypeId} {args : Array Value} {W : World} {ds : List (DataW HH)} {ps : List MemPlace} {held : Bool} (hG : P.globals.size ≤ W.heap.size) (hplain : ts.all (plainT P n) = true)
    (hok : ∀ (j : Nat) (t : TypeId) (v : Value), ts[j]? = some t → args.toList[j]? = some v → Value.okWide P W .any b0 t v) (h : DataW.TrodAll enc P W 0 (fun _ => true) held ts args.toList ds ps)
    (hlaw : ∀ (H : Heap) (vs : List Value), GoodA2 P H n ts vs → KCall P N vs H [] (fun v _ => v = .bool true)) :
    Calls P N args W fun e W' => e = .returned (.bool true) ∧ RowKit.Below W.heap.size W W' := by
  have hr : Rel P W.heap.size ⟨fun g => if g < P.globals.size then some ⟨g, 0, 0, 0, false⟩ else none, fun b => match W.heap[b]? with | some (.cells m _ _) => some m | _ => none, fun _ _ => none⟩ (List.replicate P.globals.size .dead) W := by
    have hdead : ∀ (id : Nat) (o : KObj), (List.replicate P.globals.size KObj.dead)[id]? = some o → o = .dead := fun id o ho => by
      rw [List.getElem?_replicate] at ho
      split at ho
      · cases ho; rfl
      · cases ho
    refine ⟨Nat.le_refl _, fun g hg => ⟨_, if_pos hg, rfl, rfl⟩, fun id r h1 => ?_, fun id r h1 => ?_, fun id r o h1 h2 => ?_, fun id r o h1 h2 h3 => ?_, fun id id' r r' o o' h1 h1' h2 h2' h3 _ _ => ?_, fun b m hm => ⟨?_, fun id r o h1 h2 h3 => ?_⟩, FRel.nofam (fun _ _ _ h => by cases h) (fun _ _ _ h => by cases h) (fun F z cs h => by have := hdead F _ h; cases this)⟩
    · dsimp only at h1
      split at h1
      · simpa using ‹id < _›
      · cases h1
    · dsimp only at h1
      split at h1
      · cases h1; exact Nat.lt_of_lt_of_le ‹id < _› hG
      · cases h1
    · rw [hdead id o h2]; trivial
    · rw [hdead id o h2] at h3; cases h3
    · rw [hdead id o h2] at h3; cases h3
    · dsimp only at hm
      split at hm
      · rename_i m' ty fz e; cases hm; exact ⟨ty, fz, e⟩
      · cases hm
    · rw [hdead id o h2] at h3; cases h3
  have hlow0 : Low W.heap.size ⟨fun g => if g < P.globals.size then some ⟨g, 0, 0, 0, false⟩ else none, fun b => match W.heap[b]? with | some (.cells m _ _) => some m | _ => none, fun _ _ => none⟩ W := by
    refine ⟨fun b m ty fz _ hb => by show (match W.heap[b]? with | some (.cells m _ _) => some m | _ => none) = _; rw [hb], fun id r h1 => ?_⟩
    dsimp only at h1
    split at h1
    · cases h1; exact Nat.lt_of_lt_of_le ‹id < _› hG
    · cases h1
  obtain ⟨ρ', H', vs', e, hv, g⟩ := bring_args rfl ts args.toList ds ps _ _ hplain hok h hr
  have hlow1 : Low W.heap.size ρ' W := ⟨fun b m ty fz h1 h2 => e.le.mem b m (hlow0.1 b m ty fz h1 h2), fun id r h1 => e.rel.lt id r h1⟩
  obtain ⟨ρ2, H2, ws, e2, _, hv2, g2⟩ := bringA2 rfl ts vs' args.toList ρ' H' g hv e.rel hlow1
  refine callsIn_wide.1 (((hlaw H2 ws g2).2 _ ρ2 W args e2.rel hv2).mono ?_)
  rintro en w' ⟨v, v', ρ3, H3, rfl, h1, h2, rfl⟩
  cases h1
  exact ⟨rfl, h2.below e2.rel⟩
end Go.K
/- Flat arguments among those whose lists are said by their values. No condition. -/
namespace Go.K
set_option linter.unusedSimpArgs false
open Go Go.ChangeShapes Go.WideShapes Go.ChangeAt Go.RowKit
set_option linter.unusedVariables false
variable {P : Program}
theorem flatI_goodD : ∀ (n : Nat) (t : TypeId) (k : Nat) (cs : List Value), flatI P n t = some k → GoodD P n t cs → ∃ ns : List Int, cs = ns.map (.int .i64) ∧ ns.length = k ∧ ∀ x ∈ ns, inI x := by
  intro n
  induction n with
  | zero => intro t k cs h; cases h
  | succ n ih =>
    intro t k cs h g
    unfold flatI at h
    unfold GoodD at g
    cases hu : P.underlying t with
    | none => rw [hu] at h; cases h
    | some d =>
      rw [hu] at h g
      cases d <;> try (cases h; done)
      · rename_i ik
        cases ik <;> try (cases h; done)
        cases h
        obtain ⟨x, rfl, h1, h2⟩ := g
        refine ⟨[x], rfl, rfl, fun y hy => ?_⟩
        rw [List.mem_singleton] at hy; subst hy
        simp only [IntKind.min, IntKind.max, IntKind.signed, IntKind.bits] at h1 h2
        unfold inI
        simp at h1 h2
        omega
      · rename_i fs
        simp only at h g
        have key : ∀ (fs : List Field) (k : Nat) (cs : List Value), fs.foldr (fun f r => match flatI P n f.type, r with | some a, some b => some (a + b) | _, _ => none) (some 0) = some k →
            GoodL (GoodD P n) (fs.map (·.type)) cs → ∃ ns : List Int, cs = ns.map (.int .i64) ∧ ns.length = k ∧ ∀ x ∈ ns, inI x := by
          intro fs
          induction fs with
          | nil => intro k cs h g; cases h; exact ⟨[], g, rfl, fun _ h => by cases h⟩
          | cons f fs ihf =>
            intro k cs h g
            rw [List.foldr_cons] at h
            obtain ⟨c, rest, rfl, g1, g2⟩ := g
            cases ha : flatI P n f.type with
            | none => rw [ha] at h; cases h
            | some a =>
              cases hb : fs.foldr (fun f r => match flatI P n f.type, r with | some a, some b => some (a + b) | _, _ => none) (some 0) with
              | none => rw [ha, hb] at h; cases h
              | some b =>
                rw [ha, hb] at h
                cases h
                obtain ⟨n1, rfl, l1, m1⟩ := ih _ _ _ ha g1
                obtain ⟨n2, rfl, l2, m2⟩ := ihf _ _ hb g2
                exact ⟨n1 ++ n2, by simp, by simp [l1, l2], fun x hx => by rcases List.mem_append.1 hx with h | h; exact m1 x h; exact m2 x h⟩
        exact key _ _ _ h g
theorem flatI_good2 {H : Heap} : ∀ (n : Nat) (t : TypeId) (k : Nat) (cs : List Value), flatI P n t = some k → Good2 P H n t cs → ∃ ns : List Int, cs = ns.map (.int .i64) ∧ ns.length = k ∧ ∀ x ∈ ns, inI x := by
  intro n
  induction n with
  | zero => intro t k cs h; cases h
  | succ n ih =>
    intro t k cs h g
    unfold flatI at h
    unfold Good2 at g
    cases hu : P.underlying t with
    | none => rw [hu] at h; cases h
    | some d =>
      rw [hu] at h g
      cases d <;> try (cases h; done)
      · rename_i ik
        cases ik <;> try (cases h; done)
        cases h
        obtain ⟨x, rfl, h1, h2⟩ := g
        refine ⟨[x], rfl, rfl, fun y hy => ?_⟩
        rw [List.mem_singleton] at hy; subst hy
        simp only [IntKind.min, IntKind.max, IntKind.signed, IntKind.bits] at h1 h2
        unfold inI
        simp at h1 h2
        omega
      · rename_i fs
        simp only at h g
        have key : ∀ (fs : List Field) (k : Nat) (cs : List Value), fs.foldr (fun f r => match flatI P n f.type, r with | some a, some b => some (a + b) | _, _ => none) (some 0) = some k →
            GoodL (Good2 P H n) (fs.map (·.type)) cs → ∃ ns : List Int, cs = ns.map (.int .i64) ∧ ns.length = k ∧ ∀ x ∈ ns, inI x := by
          intro fs
          induction fs with
          | nil => intro k cs h g; cases h; exact ⟨[], g, rfl, fun _ h => by cases h⟩
          | cons f fs ihf =>
            intro k cs h g
            rw [List.foldr_cons] at h
            obtain ⟨c, rest, rfl, g1, g2⟩ := g
            cases ha : flatI P n f.type with
            | none => rw [ha] at h; cases h
            | some a =>
              cases hb : fs.foldr (fun f r => match flatI P n f.type, r with | some a, some b => some (a + b) | _, _ => none) (some 0) with
              | none => rw [ha, hb] at h; cases h
              | some b =>
                rw [ha, hb] at h
                cases h
                obtain ⟨n1, rfl, l1, m1⟩ := ih _ _ _ ha g1
                obtain ⟨n2, rfl, l2, m2⟩ := ihf _ _ hb g2
                exact ⟨n1 ++ n2, by simp, by simp [l1, l2], fun x hx => by rcases List.mem_append.1 hx with h | h; exact m1 x h; exact m2 x h⟩
        exact key _ _ _ h g
end Go.K
