/- Drift: the moves of a flow: what they answer. No condition. -/
import Derived.Test.YtkkgnalgmebfjaaGK27xD3g
import Derived.Shelf.Sort.Plain
import Derived.Ground.Names2Prog
import Derived.Test.YtkkgnalgmebfjaaChecked
import Derived.Sort.Grow
import Derived.Deep.Draws
import Derived.IntWalk
namespace Go.Proofs.Ytkkgnalgmebfjaa
open Go Go.K
set_option maxRecDepth 100000
set_option linter.unusedVariables false
set_option linter.unusedSimpArgs false
noncomputable section
attribute [local irreducible] vF
theorem flat_le {α : Type} {f : α → List Value} {n : Nat} (hf : ∀ x, (f x).length = n) (xs : List α) : 0 + xs.length * n ≤ (xs.flatMap f).length := by rw [flat_len hf]; omega
theorem wk_snoc {α : Type} {L M : List α} {x : α} {id : Nat} (hM : M = L ++ [x]) : wk (.slice (some ⟨id, 0, none⟩) (L.length + 1) (L.length + 1)) (.slice (some ⟨id, 0, some 1⟩) M.length M.length) := by
  have : M.length = L.length + 1 := by rw [hM, List.length_append]; rfl
  rw [this]; exact wk_Q (by omega)
theorem ob_snoc {α : Type} {f : α → List Value} {n : Nat} (hf : ∀ x, (f x).length = n) {L M : List α} {x : α} {c : List Value} {own : Bool} (hM : M = L ++ [x]) (hc : f x = c) :
    (some (KObj.cells own n (List.take (L.length * n) (List.drop 0 (L.flatMap f)) ++ List.take (1 * n) (List.drop 0 c))) : Option KObj) = some (.cells own n (M.flatMap f)) := by
  subst hc
  rw [hM, ← flat_snoc hf L x rfl, List.drop_zero, List.drop_zero, List.take_of_length_le (l := f x) (by rw [hf]; omega), List.take_of_length_le (by rw [flat_len hf]; omega)]
/-- An answer with one new list; nothing read. -/
theorem valQ0 {f : FuncId} {args : List Value} {h : Hint} (v : Nat → Value) {z : Nat} {cs : List Value}
    (hc : vF prog msk (dm 0) 100000 true 40 true f args ⟨0, .leaf⟩ (some []) h (newK 0 3 (v 0) [(true, .cells true z cs)]))
    (hp : ∀ n, cs.all (belowC n) = true) (h1 : rnOk 3 (v 0) = true) (h2 : rn (sgOnly 0) 3 (v 0) = v 0) (h3 : ∀ j, rn (sgUp 0 j) 3 (v 0) = v j) (ha : ∀ σ, args.map (rn σ 3) = args) (H : Heap) :
    KCall prog f args H [] (Is (v H.length) (H ++ [.cells true z cs])) := by
  have key := valN (css := []) (v := v 0) (new := [(true, .cells true z cs)]) hc (fun c hc => by cases hc) h1 h2
    (by show ((rnoOk 3 (.cells true z cs) && true) && true) = true
        rw [Bool.and_true, Bool.and_true]; exact (rnCl (σ := fun _ => none) (d := 0) (hp 0)).2)
    (congrArg (fun q => [KObj.cells true z q]) (rnCl (d := 0) (hp 0)).1) (H := H) [] rfl (fun k c hk => by cases hk)
  have e2 : (List.map (fun x : Bool × KObj => x.2) [(true, KObj.cells true z cs)]).map (rno (sgUp (0 + ([] : List (List Value)).length) H.length) 3) = [.cells true z cs] :=
    congrArg (fun q => [KObj.cells true z q]) (rnCl (d := 0) (hp 0)).1
  rw [e2, show rn (sgUp (0 + ([] : List (List Value)).length) H.length) 3 (v 0) = v H.length from h3 _, ha] at key
  exact key
theorem moveC_len (m : Move) : (moveC m).length = 2 := rfl
theorem plainML (n : Nat) (l : List Move) : (l.flatMap moveC).all (belowC n) = true := plain_flat (fun _ => rfl) l
theorem mvRow_len (f : Flow) (j n : Nat) : (mvRow f j n).length = n := tabP_len _ _
theorem mvTo_len (f : Flow) : ∀ j, (mvTo f j).length = j * nxF f
  | 0 => by simp [mvTo]
  | j + 1 => by rw [mvTo, List.length_append, mvTo_len f j, mvRow_len, Nat.add_mul, Nat.one_mul]
theorem mvRow_succ (f : Flow) (j n : Nat) : mvRow f j (n + 1) = mvRow f j n ++ [⟨(endA f).dx + (n : Int), (endA f).dy + (j : Int)⟩] := tabP_succ _ _
theorem ends_bd {f : Flow} (hf : rightF f) : (-2 ≤ (endA f).dx ∧ (endA f).dx ≤ (endZ f).dx ∧ (endZ f).dx ≤ 2) ∧ (-2 ≤ (endA f).dy ∧ (endA f).dy ≤ (endZ f).dy ∧ (endZ f).dy ≤ 2) := by
  obtain ⟨⟨a1, a2, a3⟩, a4, a5, a6⟩ := hf
  unfold endA endZ
  dsimp only
  omega
theorem nx_bd {f : Flow} (hf : rightF f) : 1 ≤ nxF f ∧ nxF f ≤ 5 ∧ ((nxF f : Nat) : Int) = (endZ f).dx - (endA f).dx + 1 := by
  have := ends_bd hf
  unfold nxF
  omega
theorem ny_bd {f : Flow} (hf : rightF f) : 1 ≤ nyF f ∧ nyF f ≤ 5 ∧ ((nyF f : Nat) : Int) = (endZ f).dy - (endA f).dy + 1 := by
  have := ends_bd hf
  unfold nyF
  omega
theorem mvTo_bd {f : Flow} (hf : rightF f) {x : Nat} (hx : x ≤ nyF f) : (mvTo f x).length ≤ 25 := by
  have h1 := nx_bd hf
  have h2 := ny_bd hf
  rw [mvTo_len]
  exact Nat.mul_le_mul (show x ≤ 5 by omega) (show nxF f ≤ 5 by omega)
theorem movesF_bd {f : Flow} (hf : rightF f) : 1 ≤ (movesF f).length ∧ (movesF f).length ≤ 25 := by
  have h1 := nx_bd hf
  have h2 := ny_bd hf
  refine ⟨?_, mvTo_bd hf (Nat.le_refl _)⟩
  unfold movesF
  rw [mvTo_len]
  exact Nat.mul_le_mul (show 1 ≤ nyF f by omega) (show 1 ≤ nxF f by omega)
theorem kmoves (f : Flow) (hf : rightF f) {H : Heap} {L : Nat} (hL : H.length = L) : KCall prog F.drift_Flow_moves [flowV f] H [] (Is (.slice (some ⟨L, 0, some 1⟩) (movesF f).length (movesF f).length) (H ++ [.cells true 2 ((movesF f).flatMap moveC)])) := by
  subst hL
  refine valQ0 (fun i => .slice (some ⟨i, 0, some 1⟩) (movesF f).length (movesF f).length) (Eq.mpr (Emoves f) ?_) (fun n => plainML n _) rfl rfl (fun _ => rfl) (fun _ => rfl) H
  unfold Rmoves
  have eb := ends_bd hf
  have xb := nx_bd hf
  have yb := ny_bd hf
  refine ⟨trivial, fun H' _ _ => kends f hf H', rfl, Nat.zero_le _, ?_, fun _ => rfl, ?_⟩
  · repeat' first | (exact iEq (by omega)) | exact trivial | exact rfl | exact wk_refl _ | refine wkO_cells ?_ | refine wks_cons ?_ ?_ | exact wks_nil | exact wk_nil _ _ _ (.inl rfl) | (exact wk_Q (by omega)) | refine wk_tupL ?_ | refine wk_aggL ?_ | refine joinMax ?_ ?_ ?_ | refine joinMin ?_ ?_ ?_ | refine toMax ?_ | refine toMin ?_ | refine ⟨rfl, ?_⟩ | refine ⟨trivial, ?_⟩ | (refine forkD (fun h => ?_) (fun h => ?_)) | (refine forkNe (fun h => ?_) (fun h => ?_)) | (refine forkEq (fun h => ?_) (fun h => ?_)) | refine forkNot ?_ | (refine ⟨vI64 (by omega), ?_⟩) | (refine And.intro (by omega) ?_) | apply And.intro | (exact iEq (by omega)) | (exact vI64 (by omega))
  intro x hx
  refine forkD (fun k => ?_) (fun k => ?_)
  · have hx1 : x < nyF f := by omega
    refine ⟨rfl, Nat.zero_le _, ?_, fun _ => rfl, ?_⟩
    · rw [show mvTo f x ++ mvRow f x 0 = mvTo f x from List.append_nil _]
      repeat' first | (exact iEq (by omega)) | exact plainML _ _ | exact trivial | exact rfl | exact wk_refl _ | refine wkO_cells ?_ | refine wks_cons ?_ ?_ | exact wks_nil | exact wk_nil _ _ _ (.inl rfl) | (exact wk_Q (by omega)) | refine wk_tupL ?_ | refine wk_aggL ?_ | refine joinMax ?_ ?_ ?_ | refine joinMin ?_ ?_ ?_ | refine toMax ?_ | refine toMin ?_ | refine ⟨rfl, ?_⟩ | refine ⟨trivial, ?_⟩ | (refine forkD (fun h => ?_) (fun h => ?_)) | (refine forkNe (fun h => ?_) (fun h => ?_)) | (refine forkEq (fun h => ?_) (fun h => ?_)) | refine forkNot ?_ | (refine ⟨vI64 (by omega), ?_⟩) | (refine And.intro (by omega) ?_) | apply And.intro | (exact iEq (by omega)) | (exact vI64 (by omega))
    intro y hy
    have hlen : (mvTo f x ++ mvRow f x y).length ≤ 30 := by
      rw [List.length_append, mvRow_len]
      have := mvTo_bd hf (Nat.le_of_lt hx1)
      omega
    refine forkD (fun k2 => ?_) (fun k2 => ?_)
    · have hy1 : y < nxF f := by omega
      have hM : mvTo f x ++ mvRow f x (y + 1) = (mvTo f x ++ mvRow f x y) ++ [⟨(endA f).dx + (y : Int), (endA f).dy + (x : Int)⟩] := by rw [mvRow_succ, List.append_assoc]
      repeat' first | (refine ⟨y + 1, by omega, by omega, rfl, ?_⟩) | exact wk_snoc hM | exact ob_snoc moveC_len hM rfl | exact plainML _ _ | exact flat_le moveC_len _ | exact Nat.le_refl _ | exact trivial | exact rfl | exact wk_refl _ | refine wkO_cells ?_ | refine wks_cons ?_ ?_ | exact wks_nil | exact wk_nil _ _ _ (.inl rfl) | (exact wk_Q (by omega)) | refine wk_tupL ?_ | refine wk_aggL ?_ | refine joinMax ?_ ?_ ?_ | refine joinMin ?_ ?_ ?_ | refine toMax ?_ | refine toMin ?_ | refine ⟨rfl, ?_⟩ | refine ⟨trivial, ?_⟩ | (refine forkD (fun h => ?_) (fun h => ?_)) | (refine forkNe (fun h => ?_) (fun h => ?_)) | (refine forkEq (fun h => ?_) (fun h => ?_)) | refine forkNot ?_ | (refine ⟨vI64 (by omega), ?_⟩) | (refine And.intro (by omega) ?_) | apply And.intro | (exact iEq (by omega)) | (exact vI64 (by omega))
    · obtain rfl : y = nxF f := by omega
      repeat' first | (refine ⟨x + 1, by omega, by omega, rfl, ?_⟩) | exact plainML _ _ | exact trivial | exact rfl | exact wk_refl _ | refine wkO_cells ?_ | refine wks_cons ?_ ?_ | exact wks_nil | exact wk_nil _ _ _ (.inl rfl) | (exact wk_Q (by omega)) | refine wk_tupL ?_ | refine wk_aggL ?_ | refine joinMax ?_ ?_ ?_ | refine joinMin ?_ ?_ ?_ | refine toMax ?_ | refine toMin ?_ | refine ⟨rfl, ?_⟩ | refine ⟨trivial, ?_⟩ | (refine forkD (fun h => ?_) (fun h => ?_)) | (refine forkNe (fun h => ?_) (fun h => ?_)) | (refine forkEq (fun h => ?_) (fun h => ?_)) | refine forkNot ?_ | (refine ⟨vI64 (by omega), ?_⟩) | (refine And.intro (by omega) ?_) | apply And.intro | (exact iEq (by omega)) | (exact vI64 (by omega))
  · obtain rfl : x = nyF f := by omega
    repeat' first | exact plainML _ _ | exact trivial | exact rfl | exact wk_refl _ | refine wkO_cells ?_ | refine wks_cons ?_ ?_ | exact wks_nil | exact wk_nil _ _ _ (.inl rfl) | (exact wk_Q (by omega)) | refine wk_tupL ?_ | refine wk_aggL ?_ | refine joinMax ?_ ?_ ?_ | refine joinMin ?_ ?_ ?_ | refine toMax ?_ | refine toMin ?_ | refine ⟨rfl, ?_⟩ | refine ⟨trivial, ?_⟩ | (refine forkD (fun h => ?_) (fun h => ?_)) | (refine forkNe (fun h => ?_) (fun h => ?_)) | (refine forkEq (fun h => ?_) (fun h => ?_)) | refine forkNot ?_ | (refine ⟨vI64 (by omega), ?_⟩) | (refine And.intro (by omega) ?_) | apply And.intro | (exact iEq (by omega)) | (exact vI64 (by omega))
theorem fMoves_0 {f : Flow} (h : rightF f) : fMoves f = (movesF f, 0) := if_pos h
theorem fMoves_1 {f : Flow} (h : ¬ rightF f) : fMoves f = ([], 30) := if_neg h
abbrev mvsV (i : Nat) (r : List Move × Int) : Value := .tuple #[.slice (some ⟨i, 0, some 1⟩) r.1.length r.1.length, .int .i64 r.2]
theorem rvRow_1 {f : Flow} {j n : Nat} (h : (mayB f.x (-2 + (n : Int)) && mayB f.y (-2 + (j : Int))) = true) : rvRow f j (n + 1) = rvRow f j n ++ [⟨-2 + (n : Int), -2 + (j : Int)⟩] := by
  unfold rvRow; rw [List.range_succ, List.filter_append, List.map_append, List.filter_cons, if_pos h]; rfl
theorem rvRow_2 {f : Flow} {j n : Nat} (h : (mayB f.x (-2 + (n : Int)) && mayB f.y (-2 + (j : Int))) = false) : rvRow f j (n + 1) = rvRow f j n := by
  unfold rvRow; rw [List.range_succ, List.filter_append, List.map_append, List.filter_cons, if_neg (by rw [h]; exact Bool.false_ne_true)]; simp
deriving instance DecidableEq for Move
def gMv (ax ay : Int) (nx : Nat) : Nat → List Move
  | 0 => []
  | j + 1 => gMv ax ay nx j ++ (List.range nx).map fun i : Nat => (⟨ax + (i : Int), ay + (j : Int)⟩ : Move)
def gRv (ax bx ay bz : Int) : Nat → List Move
  | 0 => []
  | j + 1 => gRv ax bx ay bz j ++ ((List.range 5).filter fun i : Nat => decide (ax ≤ -2 + (i : Int) ∧ -2 + (i : Int) ≤ bx) && decide (ay ≤ -2 + (j : Int) ∧ -2 + (j : Int) ≤ bz)).map fun i : Nat => (⟨-2 + (i : Int), -2 + (j : Int)⟩ : Move)
theorem gall : ∀ i i2 j j2 : Fin 5, i ≤ i2 → j ≤ j2 → gRv (-2 + (i.val : Int)) (-2 + (i2.val : Int)) (-2 + (j.val : Int)) (-2 + (j2.val : Int)) 5 = gMv (-2 + (i.val : Int)) (-2 + (j.val : Int)) (i2.val - i.val + 1) (j2.val - j.val + 1) := by decide +kernel
theorem gMv_eq (f : Flow) : ∀ j, mvTo f j = gMv (endA f).dx (endA f).dy (nxF f) j
  | 0 => rfl
  | j + 1 => by rw [mvTo, gMv, gMv_eq f j]; rfl
theorem mayB_eq (s : Span) (c : Int) : mayB s c = decide (s.lo / 1000 ≤ c ∧ c ≤ (s.hi + 999) / 1000) := by
  unfold mayB
  rw [← Bool.decide_and]
  exact decide_eq_decide.2 (by omega)
theorem gRv_eq (f : Flow) : ∀ j, rvTo f j = gRv (endA f).dx (endZ f).dx (endA f).dy (endZ f).dy j
  | 0 => rfl
  | j + 1 => by
    rw [rvTo, gRv, gRv_eq f j]
    unfold rvRow
    congr 2
    exact congrArg (fun p => List.filter p (List.range 5)) (funext fun i => by rw [mayB_eq, mayB_eq]; rfl)
theorem rv_mv {f : Flow} (hf : rightF f) : rvTo f 5 = movesF f := by
  have eb := ends_bd hf
  unfold movesF
  rw [gRv_eq, gMv_eq]
  obtain ⟨i, hi, ei⟩ : ∃ i : Nat, i < 5 ∧ (endA f).dx = -2 + (i : Int) := ⟨Int.toNat ((endA f).dx + 2), by omega, by omega⟩
  obtain ⟨i2, hi2, ei2⟩ : ∃ i : Nat, i < 5 ∧ (endZ f).dx = -2 + (i : Int) := ⟨Int.toNat ((endZ f).dx + 2), by omega, by omega⟩
  obtain ⟨j, hj, ej⟩ : ∃ i : Nat, i < 5 ∧ (endA f).dy = -2 + (i : Int) := ⟨Int.toNat ((endA f).dy + 2), by omega, by omega⟩
  obtain ⟨j2, hj2, ej2⟩ : ∃ i : Nat, i < 5 ∧ (endZ f).dy = -2 + (i : Int) := ⟨Int.toNat ((endZ f).dy + 2), by omega, by omega⟩
  have hx : nxF f = i2 - i + 1 := by unfold nxF; omega
  have hy : nyF f = j2 - j + 1 := by unfold nyF; omega
  rw [hx, hy, ei, ei2, ej, ej2]
  exact gall ⟨i, hi⟩ ⟨i2, hi2⟩ ⟨j, hj⟩ ⟨j2, hj2⟩ (show i ≤ i2 by omega) (show j ≤ j2 by omega)
theorem rvRow_len (f : Flow) (j n : Nat) : (rvRow f j n).length ≤ n := by
  unfold rvRow; rw [List.length_map]; exact Nat.le_trans (List.length_filter_le _ _) (by rw [List.length_range]; exact Nat.le_refl _)
theorem rvTo_len (f : Flow) : ∀ j, (rvTo f j).length ≤ j * 5
  | 0 => by simp [rvTo]
  | j + 1 => by rw [rvTo, List.length_append]; have := rvTo_len f j; have := rvRow_len f j 5; omega
theorem may2 (s t : Span) (c d : Int) : (mayB s c && mayB t d) = decide ((1000 * c - 999 ≤ s.hi ∧ s.lo ≤ 1000 * c + 999) ∧ (1000 * d - 999 ≤ t.hi ∧ t.lo ≤ 1000 * d + 999)) := by
  unfold mayB
  rw [Bool.decide_and, Bool.decide_and, Bool.decide_and]
theorem krMoves (f : Flow) {H : Heap} {L : Nat} (hL : H.length = L) : KCall prog F.polynyaref02_Moves [flowV f] H [] (Is (mvsV L (fMoves f)) (H ++ [.cells true 2 ((fMoves f).1.flatMap moveC)])) := by
  subst hL
  refine valQ0 (fun i => mvsV i (fMoves f)) (Eq.mpr (ErMoves f) ?_) (fun n => plainML n _) rfl rfl (fun _ => rfl) (fun _ => rfl) H
  unfold RrMoves
  by_cases h : rightF f
  · rw [fMoves_0 h, ← rv_mv h]
    have hf := h
    obtain ⟨⟨a1, a2, a3⟩, a4, a5, a6⟩ := h
    refine forkD (fun k => by omega) (fun k => forkD (fun k => by omega) (fun k => forkD (fun k => by omega) (fun k => forkD (fun k => by omega) (fun k => forkD (fun k => by omega) (fun k => forkD (fun k => by omega) (fun k => ⟨rfl, Nat.zero_le _, ?_, fun _ => rfl, ?_⟩))))))
    · repeat' first | exact plainML _ _ | exact trivial | exact rfl | exact wk_refl _ | refine wkO_cells ?_ | refine wks_cons ?_ ?_ | exact wks_nil | exact wk_nil _ _ _ (.inl rfl) | (exact wk_Q (by omega)) | refine wk_tupL ?_ | refine wk_aggL ?_ | refine joinMax ?_ ?_ ?_ | refine joinMin ?_ ?_ ?_ | refine toMax ?_ | refine toMin ?_ | refine ⟨rfl, ?_⟩ | refine ⟨trivial, ?_⟩ | (refine forkD (fun h => ?_) (fun h => ?_)) | (refine forkNe (fun h => ?_) (fun h => ?_)) | (refine forkEq (fun h => ?_) (fun h => ?_)) | refine forkNot ?_ | (refine ⟨vI64 (by omega), ?_⟩) | (refine And.intro (by omega) ?_) | apply And.intro | (exact iEq (by omega)) | (exact vI64 (by omega))
    intro x hx
    have hxl := rvTo_len f x
    refine forkD (fun k => ?_) (fun k => ?_)
    · refine ⟨rfl, Nat.zero_le _, ?_, fun _ => rfl, ?_⟩
      · rw [show rvTo f x ++ rvRow f x 0 = rvTo f x from List.append_nil _]
        repeat' first | exact plainML _ _ | exact trivial | exact rfl | exact wk_refl _ | refine wkO_cells ?_ | refine wks_cons ?_ ?_ | exact wks_nil | exact wk_nil _ _ _ (.inl rfl) | (exact wk_Q (by omega)) | refine wk_tupL ?_ | refine wk_aggL ?_ | refine joinMax ?_ ?_ ?_ | refine joinMin ?_ ?_ ?_ | refine toMax ?_ | refine toMin ?_ | refine ⟨rfl, ?_⟩ | refine ⟨trivial, ?_⟩ | (refine forkD (fun h => ?_) (fun h => ?_)) | (refine forkNe (fun h => ?_) (fun h => ?_)) | (refine forkEq (fun h => ?_) (fun h => ?_)) | refine forkNot ?_ | (refine ⟨vI64 (by omega), ?_⟩) | (refine And.intro (by omega) ?_) | apply And.intro | (exact iEq (by omega)) | (exact vI64 (by omega))
      intro y hy
      have hlen : (rvTo f x ++ rvRow f x y).length ≤ 30 := by
        rw [List.length_append]
        have := rvRow_len f x y
        omega
      refine forkD (fun k2 => ?_) (fun k2 => ?_)
      · by_cases hb : (1000 * (-2 + (y : Int)) - 999 ≤ f.x.hi ∧ f.x.lo ≤ 1000 * (-2 + (y : Int)) + 999) ∧ (1000 * (-2 + (x : Int)) - 999 ≤ f.y.hi ∧ f.y.lo ≤ 1000 * (-2 + (x : Int)) + 999)
        · have hM : rvTo f x ++ rvRow f x (y + 1) = (rvTo f x ++ rvRow f x y) ++ [⟨-2 + (y : Int), -2 + (x : Int)⟩] := by rw [rvRow_1 (by rw [may2]; exact decide_eq_true hb), List.append_assoc]
          repeat' first | (refine ⟨y + 1, by omega, by omega, rfl, ?_⟩) | exact wk_snoc hM | exact ob_snoc moveC_len hM rfl | exact plainML _ _ | exact flat_le moveC_len _ | exact Nat.le_refl _ | exact trivial | exact rfl | exact wk_refl _ | refine wkO_cells ?_ | refine wks_cons ?_ ?_ | exact wks_nil | exact wk_nil _ _ _ (.inl rfl) | (exact wk_Q (by omega)) | refine wk_tupL ?_ | refine wk_aggL ?_ | refine joinMax ?_ ?_ ?_ | refine joinMin ?_ ?_ ?_ | refine toMax ?_ | refine toMin ?_ | refine ⟨rfl, ?_⟩ | refine ⟨trivial, ?_⟩ | (refine forkD (fun h => ?_) (fun h => ?_)) | (refine forkNe (fun h => ?_) (fun h => ?_)) | (refine forkEq (fun h => ?_) (fun h => ?_)) | refine forkNot ?_ | (refine ⟨vI64 (by omega), ?_⟩) | (refine And.intro (by omega) ?_) | apply And.intro | (exact iEq (by omega)) | (exact vI64 (by omega)) | omega
        · have hM : rvTo f x ++ rvRow f x (y + 1) = rvTo f x ++ rvRow f x y := by rw [rvRow_2 (by rw [may2]; exact decide_eq_false hb)]
          repeat' first | (refine ⟨y + 1, by omega, by omega, rfl, ?_⟩) | rw [hM] | exact plainML _ _ | exact trivial | exact rfl | exact wk_refl _ | refine wkO_cells ?_ | refine wks_cons ?_ ?_ | exact wks_nil | exact wk_nil _ _ _ (.inl rfl) | (exact wk_Q (by omega)) | refine wk_tupL ?_ | refine wk_aggL ?_ | refine joinMax ?_ ?_ ?_ | refine joinMin ?_ ?_ ?_ | refine toMax ?_ | refine toMin ?_ | refine ⟨rfl, ?_⟩ | refine ⟨trivial, ?_⟩ | (refine forkD (fun h => ?_) (fun h => ?_)) | (refine forkNe (fun h => ?_) (fun h => ?_)) | (refine forkEq (fun h => ?_) (fun h => ?_)) | refine forkNot ?_ | (refine ⟨vI64 (by omega), ?_⟩) | (refine And.intro (by omega) ?_) | apply And.intro | (exact iEq (by omega)) | (exact vI64 (by omega)) | omega
      · obtain rfl : y = 5 := by omega
        repeat' first | (refine ⟨x + 1, by omega, by omega, rfl, ?_⟩) | exact plainML _ _ | exact trivial | exact rfl | exact wk_refl _ | refine wkO_cells ?_ | refine wks_cons ?_ ?_ | exact wks_nil | exact wk_nil _ _ _ (.inl rfl) | (exact wk_Q (by omega)) | refine wk_tupL ?_ | refine wk_aggL ?_ | refine joinMax ?_ ?_ ?_ | refine joinMin ?_ ?_ ?_ | refine toMax ?_ | refine toMin ?_ | refine ⟨rfl, ?_⟩ | refine ⟨trivial, ?_⟩ | (refine forkD (fun h => ?_) (fun h => ?_)) | (refine forkNe (fun h => ?_) (fun h => ?_)) | (refine forkEq (fun h => ?_) (fun h => ?_)) | refine forkNot ?_ | (refine ⟨vI64 (by omega), ?_⟩) | (refine And.intro (by omega) ?_) | apply And.intro | (exact iEq (by omega)) | (exact vI64 (by omega))
    · obtain rfl : x = 5 := by omega
      repeat' first | exact plainML _ _ | exact trivial | exact rfl | exact wk_refl _ | refine wkO_cells ?_ | refine wks_cons ?_ ?_ | exact wks_nil | exact wk_nil _ _ _ (.inl rfl) | (exact wk_Q (by omega)) | refine wk_tupL ?_ | refine wk_aggL ?_ | refine joinMax ?_ ?_ ?_ | refine joinMin ?_ ?_ ?_ | refine toMax ?_ | refine toMin ?_ | refine ⟨rfl, ?_⟩ | refine ⟨trivial, ?_⟩ | (refine forkD (fun h => ?_) (fun h => ?_)) | (refine forkNe (fun h => ?_) (fun h => ?_)) | (refine forkEq (fun h => ?_) (fun h => ?_)) | refine forkNot ?_ | (refine ⟨vI64 (by omega), ?_⟩) | (refine And.intro (by omega) ?_) | apply And.intro | (exact iEq (by omega)) | (exact vI64 (by omega))
  · rw [fMoves_1 h]
    unfold rightF rightS at h
    repeat' first | exact trivial | exact rfl | exact wk_refl _ | refine wkO_cells ?_ | refine wks_cons ?_ ?_ | exact wks_nil | exact wk_nil _ _ _ (.inl rfl) | (exact wk_Q (by omega)) | refine wk_tupL ?_ | refine wk_aggL ?_ | refine joinMax ?_ ?_ ?_ | refine joinMin ?_ ?_ ?_ | refine toMax ?_ | refine toMin ?_ | refine ⟨rfl, ?_⟩ | refine ⟨trivial, ?_⟩ | (refine forkD (fun h => ?_) (fun h => ?_)) | (refine forkNe (fun h => ?_) (fun h => ?_)) | (refine forkEq (fun h => ?_) (fun h => ?_)) | refine forkNot ?_ | (refine ⟨vI64 (by omega), ?_⟩) | (refine And.intro (by omega) ?_) | apply And.intro | (exact iEq (by omega)) | (exact vI64 (by omega)) | omega
end
end Go.Proofs.Ytkkgnalgmebfjaa
/- Drift: sorted lists without repeats, as plain Lean. No condition. -/
namespace Go.Proofs.Ytkkgnalgmebfjaa
set_option linter.unusedSimpArgs false
set_option linter.unusedVariables false
open Go Go.K
theorem comp_mem {z : Int} : ∀ l : List Int, z ∈ comp l ↔ z ∈ l
  | [] => Iff.rfl
  | [x] => Iff.rfl
  | x :: y :: r => by
    have ih := comp_mem (z := z) (y :: r)
    unfold comp
    split
    · rename_i h; subst h; rw [ih]; simp
    · rw [List.mem_cons, ih, List.mem_cons (b := x)]
theorem comp_lt : ∀ {l : List Int}, l.Pairwise (· ≤ ·) → (comp l).Pairwise (· < ·)
  | [], _ => List.Pairwise.nil
  | [x], _ => List.pairwise_singleton _ _
  | x :: y :: r, h => by
    have h2 := List.pairwise_cons.1 h
    have ih := comp_lt h2.2
    unfold comp
    split
    · exact ih
    · rename_i hne
      refine List.pairwise_cons.2 ⟨fun z hz => ?_, ih⟩
      have hz2 := (comp_mem (y :: r)).1 hz
      have hxy := h2.1 y List.mem_cons_self
      rcases List.mem_cons.1 hz2 with rfl | hz3
      · omega
      · have := (List.pairwise_cons.1 h2.2).1 z hz3; omega
theorem lt_ext : ∀ {l m : List Int}, l.Pairwise (· < ·) → m.Pairwise (· < ·) → (∀ z, z ∈ l ↔ z ∈ m) → l = m
  | [], [], _, _, _ => rfl
  | [], y :: m, _, _, h => absurd ((h y).2 List.mem_cons_self) List.not_mem_nil
  | x :: l, [], _, _, h => absurd ((h x).1 List.mem_cons_self) List.not_mem_nil
  | x :: l, y :: m, h1, h2, h => by
    have a1 := List.pairwise_cons.1 h1
    have a2 := List.pairwise_cons.1 h2
    have e : x = y := by
      rcases List.mem_cons.1 ((h x).1 List.mem_cons_self) with e | e
      · exact e
      · rcases List.mem_cons.1 ((h y).2 List.mem_cons_self) with f | f
        · exact f.symm
        · have := a2.1 x e; have := a1.1 y f; omega
    subst e
    rw [lt_ext a1.2 a2.2 fun z => ?_]
    constructor
    · intro hz
      rcases List.mem_cons.1 ((h z).1 (List.mem_cons_of_mem _ hz)) with rfl | f
      · exact absurd (a1.1 _ hz) (by omega)
      · exact f
    · intro hz
      rcases List.mem_cons.1 ((h z).2 (List.mem_cons_of_mem _ hz)) with rfl | f
      · exact absurd (a2.1 _ hz) (by omega)
      · exact f
theorem truesTo_lt (l : List Bool) (x : Nat) : (truesTo l x).Pairwise (· < ·) := by
  unfold truesTo
  refine List.pairwise_map.2 ((List.pairwise_lt_range.filter _).imp fun h => ?_)
  omega
theorem truesTo_mem {l : List Bool} {x : Nat} {z : Int} : z ∈ truesTo l x ↔ ∃ i : Nat, i < x ∧ l.getD i false = true ∧ (i : Int) = z := by
  unfold truesTo
  simp only [List.mem_map, List.mem_filter, List.mem_range, and_assoc]
theorem tab_getD (f : Nat → Bool) (n i : Nat) (h : i < n) : (tabP f n).getD i false = f i := by
  rw [List.getD_eq_getElem?_getD]; simp [tabP, h]
theorem srt_le (L : List Int) : (srtI L).Pairwise (· ≤ ·) := by
  have h := List.pairwise_mergeSort (le := fun x y : Int => decide (x ≤ y)) (fun a b c h1 h2 => by simp at *; omega) (fun a b => by simp; omega) L
  exact h.imp fun h => by simpa using h
theorem srt_mem (L : List Int) (z : Int) : z ∈ srtI L ↔ z ∈ L := (List.mergeSort_perm L _).mem_iff
theorem srt_len (L : List Int) : (srtI L).length = L.length := List.length_mergeSort _
/-- The sorted list without repeats: the indices of a table of what is in it. -/
theorem comp_trues {L : List Int} {n : Nat} (h : ∀ z ∈ L, 0 ≤ z ∧ z < (n : Int)) : comp (srtI L) = truesL (tabP (fun i => decide ((i : Int) ∈ L)) n) := by
  refine lt_ext (comp_lt (srt_le L)) (truesTo_lt _ _) fun z => ?_
  rw [comp_mem, srt_mem, truesL, truesTo_mem, tabP_len]
  constructor
  · intro hz
    have := h z hz
    refine ⟨z.toNat, by omega, ?_, by omega⟩
    rw [tab_getD _ _ _ (by omega)]
    exact decide_eq_true (by rw [Int.toNat_of_nonneg this.1]; exact hz)
  · rintro ⟨i, hi, e, rfl⟩
    rw [tab_getD _ _ _ hi] at e
    exact of_decide_eq_true e
theorem comp_snoc (x y : Int) : ∀ T : List Int, comp (T ++ [x, y]) = if x = y then comp (T ++ [x]) else comp (T ++ [x]) ++ [y]
  | [] => by
    show comp [x, y] = _
    unfold comp; split <;> rename_i h
    · subst h; rfl
    · rfl
  | [a] => by
    show comp (a :: x :: [y]) = _
    have ih := comp_snoc x y []
    simp only [List.nil_append] at ih
    show comp (a :: x :: [y]) = if x = y then comp (a :: x :: []) else comp (a :: x :: []) ++ [y]
    rw [show comp (a :: x :: [y]) = if a = x then comp [x, y] else a :: comp [x, y] from by rw [comp], show comp (a :: x :: []) = if a = x then comp [x] else a :: comp [x] from rfl, ih]
    split <;> split <;> rfl
  | a :: b :: T => by
    have ih := comp_snoc x y (b :: T)
    show comp (a :: b :: (T ++ [x, y])) = if x = y then comp (a :: b :: (T ++ [x])) else comp (a :: b :: (T ++ [x])) ++ [y]
    rw [comp, comp]
    rw [show b :: (T ++ [x, y]) = (b :: T) ++ [x, y] from rfl, show b :: (T ++ [x]) = (b :: T) ++ [x] from rfl, ih]
    split <;> split <;> rfl
theorem take_two {S : List Int} {m : Nat} (h1 : 1 ≤ m) (h : m < S.length) : S.take (m + 1) = S.take (m - 1) ++ [S.getD (m - 1) 0, S.getD m 0] ∧ S.take m = S.take (m - 1) ++ [S.getD (m - 1) 0] := by
  obtain ⟨k, rfl⟩ : ∃ k, m = k + 1 := ⟨m - 1, by omega⟩
  have e1 : S.take (k + 1) = S.take k ++ [S.getD k 0] := by
    rw [List.take_add_one, List.getD_eq_getElem?_getD, List.getElem?_eq_getElem (by omega)]; rfl
  have e2 : S.take (k + 1 + 1) = S.take (k + 1) ++ [S.getD (k + 1) 0] := by
    rw [List.take_add_one, List.getD_eq_getElem?_getD, List.getElem?_eq_getElem h]; rfl
  refine ⟨?_, e1⟩
  rw [e2, Nat.add_sub_cancel, e1, List.append_assoc]; rfl
theorem comp_eq {S : List Int} {m : Nat} (h1 : 1 ≤ m) (h : m < S.length) (e : S.getD m 0 = S.getD (m - 1) 0) : comp (S.take (m + 1)) = comp (S.take m) := by
  obtain ⟨a, b⟩ := take_two h1 h
  rw [a, b, comp_snoc, if_pos e.symm]
theorem comp_ne {S : List Int} {m : Nat} (h1 : 1 ≤ m) (h : m < S.length) (e : ¬ S.getD m 0 = S.getD (m - 1) 0) : comp (S.take (m + 1)) = comp (S.take m) ++ [S.getD m 0] := by
  obtain ⟨a, b⟩ := take_two h1 h
  rw [a, b, comp_snoc, if_neg (Ne.symm e)]
theorem comp_len : ∀ l : List Int, (comp l).length ≤ l.length
  | [] => Nat.le_refl _
  | [x] => Nat.le_refl _
  | x :: y :: r => by
    have ih := comp_len (y :: r)
    unfold comp
    split
    · simp only [List.length_cons] at *; omega
    · simp only [List.length_cons] at *; omega
theorem cmpN_le (S : List Int) (m : Nat) (h : m ≤ S.length) : cmpN S m ≤ m := by
  unfold cmpN
  have := comp_len (S.take m)
  rw [List.length_take] at this
  omega
theorem cmpN_eq {S : List Int} {m : Nat} (h1 : 1 ≤ m) (h : m < S.length) (e : S.getD m 0 = S.getD (m - 1) 0) : cmpN S (m + 1) = cmpN S m ∧ cmpTo S (m + 1) = cmpTo S m := by
  unfold cmpTo cmpN
  rw [comp_eq h1 h e]; exact ⟨rfl, rfl⟩
theorem cmpN_ne {S : List Int} {m : Nat} (h1 : 1 ≤ m) (h : m < S.length) (e : ¬ S.getD m 0 = S.getD (m - 1) 0) (hN : cmpN S m < m) : cmpN S (m + 1) = cmpN S m + 1 ∧ (cmpTo S m).set (cmpN S m) (S.getD m 0) = cmpTo S (m + 1) := by
  have e0 := comp_ne h1 h e
  have e1 : cmpN S (m + 1) = cmpN S m + 1 := by unfold cmpN; rw [e0, List.length_append]; rfl
  refine ⟨e1, ?_⟩
  unfold cmpTo
  rw [e1, e0, List.append_assoc]
  have e2 : S.drop (cmpN S m) = S[cmpN S m] :: S.drop (cmpN S m + 1) := List.drop_eq_getElem_cons (by omega)
  rw [e2, show (comp (List.take m S) ++ S[cmpN S m] :: List.drop (cmpN S m + 1) S).set (cmpN S m) (S.getD m 0) = comp (List.take m S) ++ S.getD m 0 :: List.drop (cmpN S m + 1) S from by
    rw [List.set_append, if_neg (by unfold cmpN; omega)]
    unfold cmpN; rw [Nat.sub_self]; rfl]
  rfl
theorem cmpTo_len {S : List Int} {m : Nat} (h : m ≤ S.length) : (cmpTo S m).length = S.length := by
  have := cmpN_le S m h
  unfold cmpTo
  rw [List.length_append, List.length_drop]
  show cmpN S m + _ = _
  omega
theorem cmpTo_get {S : List Int} {m k : Nat} (h : cmpN S m ≤ k) : (cmpTo S m).getD k 0 = S.getD k 0 := by
  unfold cmpTo
  rw [List.getD_eq_getElem?_getD, List.getElem?_append_right (by exact h), List.getElem?_drop, List.getD_eq_getElem?_getD]
  rw [show cmpN S m + (k - (comp (List.take m S)).length) = k from by show cmpN S m + (k - cmpN S m) = k; omega]
theorem cmpTo_0 {S : List Int} {x : Nat} (h1 : 1 ≤ x) (h : x < S.length) (hc : comp (S.take x) = S.take x) (e : S.getD x 0 = S.getD (x - 1) 0) : cmpN S (x + 1) = x ∧ cmpTo S (x + 1) = S := by
  have a := cmpN_eq h1 h e
  have b : cmpN S x = x := by unfold cmpN; rw [hc, List.length_take]; omega
  refine ⟨a.1.trans b, a.2.trans ?_⟩
  unfold cmpTo
  rw [b, hc, List.take_append_drop]
theorem comp_all {S : List Int} {x : Nat} (h1 : 1 ≤ x) (h : x < S.length) (hc : comp (S.take x) = S.take x) (e : ¬ S.getD x 0 = S.getD (x - 1) 0) : comp (S.take (x + 1)) = S.take (x + 1) := by
  rw [comp_ne h1 h e, hc, List.take_add_one, List.getD_eq_getElem?_getD, List.getElem?_eq_getElem h]; rfl
theorem truesTo_1 {l : List Bool} {x : Nat} (h : l.getD x false = true) : truesTo l (x + 1) = truesTo l x ++ [(x : Int)] := by
  unfold truesTo; rw [List.range_succ, List.filter_append, List.map_append, List.filter_cons, if_pos h]; rfl
theorem truesTo_2 {l : List Bool} {x : Nat} (h : l.getD x false = false) : truesTo l (x + 1) = truesTo l x := by
  unfold truesTo; rw [List.range_succ, List.filter_append, List.map_append, List.filter_cons, if_neg (by rw [h]; exact Bool.false_ne_true)]; simp
theorem truesTo_len (l : List Bool) (x : Nat) : (truesTo l x).length ≤ x := by
  unfold truesTo; rw [List.length_map]; exact Nat.le_trans (List.length_filter_le _ _) (by rw [List.length_range]; exact Nat.le_refl _)
end Go.Proofs.Ytkkgnalgmebfjaa
/- The library's sort of numbers, laid at this program (written by the kit's own tool). No condition. -/
namespace Go.Proofs.Ytkkgnalgmebfjaa
set_option linter.unusedSimpArgs false
set_option linter.unusedVariables false
open Go Go.Shelf
def sortI_ren : Go.Shelf.Ren := ⟨fun | 189 => 124 | 125 => 147 | 257 => 146 | 128 => 159 | 129 => 160 | 294 => 150 | 295 => 151 | 296 => 152 | 297 => 153 | 298 => 154 | 299 => 155 | 216 => 156 | 300 => 157 | 301 => 158 | 328 => 162 | 329 => 163 | 330 => 164 | 331 => 165 | 332 => 166 | 215 => 167 | 343 => 168 | n => n, fun | 28 => 22 | 3 => 3 | 46 => 212 | 0 => 0 | 51 => 224 | 53 => 226 | 4 => 4 | 183 => 216 | 182 => 215 | 131 => 221 | 5 => 5 | 9 => 9 | 218 => 227 | 222 => 231 | 228 => 233 | 229 => 234 | n => n, fun | n => n⟩
theorem sortI : Go.Proofs.Lays.n189 Try.prog sortI_ren := {
  mixed := by kernel_rfl
  f125 := Try.func147.trans (congrArg some (by kernel_rfl))
  f128 := Try.func159.trans (congrArg some (by kernel_rfl))
  f129 := Try.func160.trans (congrArg some (by kernel_rfl))
  f189 := Try.func124.trans (congrArg some (by kernel_rfl))
  f215 := Try.func167.trans (congrArg some (by kernel_rfl))
  f216 := Try.func156.trans (congrArg some (by kernel_rfl))
  f257 := Try.func146.trans (congrArg some (by kernel_rfl))
  f294 := Try.func150.trans (congrArg some (by kernel_rfl))
  f295 := Try.func151.trans (congrArg some (by kernel_rfl))
  f296 := Try.func152.trans (congrArg some (by kernel_rfl))
  f297 := Try.func153.trans (congrArg some (by kernel_rfl))
  f298 := Try.func154.trans (congrArg some (by kernel_rfl))
  f299 := Try.func155.trans (congrArg some (by kernel_rfl))
  f300 := Try.func157.trans (congrArg some (by kernel_rfl))
  f301 := Try.func158.trans (congrArg some (by kernel_rfl))
  f328 := Try.func162.trans (congrArg some (by kernel_rfl))
  f329 := Try.func163.trans (congrArg some (by kernel_rfl))
  f330 := Try.func164.trans (congrArg some (by kernel_rfl))
  f331 := Try.func165.trans (congrArg some (by kernel_rfl))
  f332 := Try.func166.trans (congrArg some (by kernel_rfl))
  f343 := Try.func168.trans (congrArg some (by kernel_rfl))
  t0 := Try.underlying0
  a0 := Try.isAgg0
  z0 := Try.sizeOf0
  v0 := Try.zeroValue0
  t3 := Try.underlying3
  a3 := Try.isAgg3
  z3 := Try.sizeOf3
  v3 := Try.zeroValue3
  t4 := Try.underlying4
  a4 := Try.isAgg4
  z4 := Try.sizeOf4
  v4 := Try.zeroValue4
  t5 := Try.underlying5
  a5 := Try.isAgg5
  z5 := Try.sizeOf5
  v5 := Try.zeroValue5
  t9 := Try.underlying9
  a9 := Try.isAgg9
  z9 := Try.sizeOf9
  v9 := Try.zeroValue9
  t28 := Try.underlying22
  a28 := Try.isAgg22
  z28 := Try.sizeOf22
  v28 := Try.zeroValue22
  t46 := Try.underlying212
  a46 := Try.isAgg212
  z46 := Try.sizeOf212
  v46 := Try.zeroValue212
  t51 := Try.underlying224
  a51 := Try.isAgg224
  z51 := Try.sizeOf224
  v51 := Try.zeroValue224
  t53 := Try.underlying226
  a53 := Try.isAgg226
  z53 := Try.sizeOf226
  v53 := Try.zeroValue226
  t131 := Try.underlying221
  a131 := Try.isAgg221
  z131 := Try.sizeOf221
  v131 := Try.zeroValue221
  t182 := Try.underlying215
  a182 := Try.isAgg215
  z182 := Try.sizeOf215
  v182 := Try.zeroValue215
  t183 := Try.underlying216
  a183 := Try.isAgg216
  z183 := Try.sizeOf216
  v183 := Try.zeroValue216
  t218 := Try.underlying227
  a218 := Try.isAgg227
  z218 := Try.sizeOf227
  v218 := Try.zeroValue227
  t222 := Try.underlying231
  a222 := Try.isAgg231
  z222 := Try.sizeOf231
  v222 := Try.zeroValue231
  t228 := Try.underlying233
  a228 := Try.isAgg233
  z228 := Try.sizeOf233
  v228 := Try.zeroValue233
  t229 := Try.underlying234
  a229 := Try.isAgg234
  z229 := Try.sizeOf234
  v229 := Try.zeroValue234 }
end Go.Proofs.Ytkkgnalgmebfjaa
/- The library's sort, by its contract, over canonical memory. No condition. -/
namespace Go.K
set_option linter.unusedSimpArgs false
open Go
set_option linter.unusedVariables false
variable {P : Program}

/-- The world grows, and turns where nothing is said of it. -/
theorem Rel.world {B : Nat} {ρ : Ren} {H : Heap} {w W : World} (hr : Rel P B ρ H w) (b0 : Nat) (hsz : w.heap.size ≤ W.heap.size) (hsame : ∀ b, b < w.heap.size → b ≠ b0 → W.heap[b]? = w.heap[b]?)
    (hfree : ∀ id r o, ρ id = some r → H[id]? = some o → o.alive = true → r.b ≠ b0) (hmem : ∀ m, ρ.mem b0 = some m → False) (hfb : ¬ FB ρ H b0) : Rel P B ρ H W := by
  refine ⟨Nat.le_trans hr.bsize hsz, hr.glob, hr.dom, fun id r h => Nat.lt_of_lt_of_le (hr.lt id r h) hsz, fun id r o h1 h2 => ?_, hr.base, hr.sep, fun b m hb => ⟨?_, (hr.mem b m hb).2⟩,
    hr.fam.keep (Ren.le_refl _) (fun _ _ _ h => h) (fun _ _ _ _ h => h) (Nat.le_refl _) hsz (fun b hb => by
      rcases Nat.lt_or_ge b w.heap.size with hl | hl
      · exact hsame b hl (fun e => hfb (e ▸ hb))
      · exact absurd hb (hr.fam.freeL hl)) (fun id r o a b c => hr.fam.free a b c) (fun b m h => hr.fam.freeM h)⟩
  · by_cases hal : o.alive = true
    · exact (hr.obj id r o h1 h2).mono (Ren.le_refl _) (hsame _ (hr.lt id r h1) (hfree id r o h1 h2 hal))
    · cases o <;> first | trivial | exact absurd rfl hal
  · obtain ⟨ty, fz, e⟩ := (hr.mem b m hb).1
    have hne : b ≠ b0 := by rintro rfl; exact hmem m hb
    exact ⟨ty, fz, (hsame b (Array.getElem?_eq_some_iff.1 e).1 hne).trans e⟩
theorem Post.grown {B base : Nat} {M : List Nat} {ρ ρ' : Ren} {H H' : Heap} {w w1 w2 : World} (p : Post P B base M ρ H w ρ' H' w1) (hsz : w1.heap.size ≤ w2.heap.size) (hsame : ∀ b, b < w1.heap.size → w2.heap[b]? = w1.heap[b]?)
    (hos : w2.os = w1.os) (ht : w2.tape = w1.tape) (ho : w2.output = w1.output) (hd : w1.drawn ≤ w2.drawn) : Post P B base M ρ H w ρ' H' w2 := by
  have hlt : ∀ id r o, ρ' id = some r → H'[id]? = some o → o.alive = true → r.b ≠ w1.heap.size := fun id r o h1 _ _ => by have := p.rel.lt id r h1; omega
  have hm : ∀ m, ρ'.mem w1.heap.size = some m → False := fun m h => by
    obtain ⟨ty, fz, e⟩ := (p.rel.mem _ m h).1
    have := (Array.getElem?_eq_some_iff.1 e).1; omega
  exact ⟨p.rel.world w1.heap.size hsz (fun b h _ => hsame b h) hlt hm (p.rel.fam.freeL (Nat.le_refl _)), p.ext, p.new, p.len, p.same, Nat.le_trans p.size hsz, fun b h1 h2 => (hsame b (Nat.lt_of_lt_of_le h1 p.size)).trans (p.keep b h1 h2), p.ob, hos.trans p.os, ht.trans p.tape, ho.trans p.output, p.frz, Nat.le_trans p.drawn hd, p.newg⟩
end Go.K
/- The library's sort of numbers, by the kit's contract, over canonical memory. No condition. -/
namespace Go.K
set_option linter.unusedSimpArgs false
open Go Go.Proofs Go.RowKit Go.Lib Go.Sort Go.Shelf
set_option linter.unusedVariables false
variable {P : Program}

theorem kSortInt {R : Go.Shelf.Ren} (L : Lays.n189 P R) (ef : Enters P (R.f 189))
    {H : Heap} {id : Nat} {tag : Option Nat} (htag : tag = none ∨ tag = some 1) {L0 : List Int} (h0 : 0 < L0.length) (hlen : L0.length < 4611686018427387904) (ho : H[id]? = some (.cells true 1 (L0.map (Value.int .i64)))) :
    KCall P (R.f 189) [.slice (some ⟨id, 0, tag⟩) L0.length L0.length] H [id] (Is (.tuple #[]) (H.set id (.cells true 1 ((L0.mergeSort fun x y => decide (x ≤ y)).map (Value.int .i64))))) := by
  refine ⟨ef, fun B ρ w args' hr ha => ?_⟩
  obtain ⟨x', rfl⟩ : ∃ x', args' = #[x'] := by
    have hl := ha.1
    obtain ⟨l⟩ := args'
    match l, hl with
    | [a], _ => exact ⟨a, rfl⟩
  have hx := ha.2 0 _ _ rfl rfl
  obtain ⟨r, cap', hid, hcap, rfl⟩ : ∃ r cap', ρ id = some r ∧ L0.length ≤ cap' ∧ x' = .slice (some ⟨r.b, 0 + r.s, none⟩) L0.length cap' := by
    generalize L0.length = n at hx h0
    rcases htag with rfl | rfl
    · cases hx with
      | slice h hl hc _ => exact ⟨_, _, h, Nat.le_trans hl hc, rfl⟩
      | slice0 h => exact absurd h0 (Nat.lt_irrefl 0)
    · cases hx with
      | sliceQn => exact absurd h0 (Nat.lt_irrefl 0)
      | sliceQe => exact absurd h0 (Nat.lt_irrefl 0)
      | sliceQ h hp hl hc _ => exact ⟨_, _, h, Nat.le_trans hl hc, rfl⟩
  rw [Nat.zero_add]
  have hobj := hr.obj id r _ hid ho
  obtain ⟨ow, zz, cs', ty, fz, hb, hsz, hfz, hcs⟩ := hobj
  obtain rfl := hfz rfl
  have hel : ∀ i (hi : i < L0.length), cs'[i + r.s]? = some (Value.int .i64 L0[i]) := fun i hi => by
    obtain ⟨v', e1, e2⟩ := hcs i (Value.int .i64 L0[i]) (by rw [List.getElem?_map, List.getElem?_eq_getElem hi]; rfl)
    cases e2; exact e1
  have hgd : ∀ (M : List Int) j (hj : j < M.length), M.toArray[j]! = M[j] := fun M j hj => getElem!_pos M.toArray j hj
  have hH : Holds (Value.int .i64) w r.b r.s L0.toArray := fun j hj => by
    have hj' : j < L0.length := by simpa using hj
    have e := hel j hj'
    refine ⟨?_, ?_⟩
    · rw [hgd L0 j hj']
      simp only [World.cell?, hb, Option.isSome_none, Bool.false_eq_true, if_false]
      rw [Nat.add_comm]; exact e
    · simp [World.frozen?, hb]
  have hblk := hr.lt id r hid
  have hcon := Any.slices_Sort_int L r.b r.s cap' L0 w hH hblk hlen
  refine callsIn_wide.2 (hcon.mono ?_)
  rintro e w' ⟨rfl, n1, os, rfl⟩
  have hml : (L0.mergeSort fun x y => decide (x ≤ y)).length = L0.length := List.length_mergeSort _
  generalize (L0.mergeSort fun x y => decide (x ≤ y)) = M at hml ⊢
  have hput : ObjRel ρ r (.cells true 1 (M.map (Value.int .i64))) (w.putObj r.b (.cells (putCells (Value.int .i64) r.s M.toArray cs') ty (0, 0))) := by
    refine ⟨ow, zz, putCells (Value.int .i64) r.s M.toArray cs', ty, (0, 0), World.putObj_heap_same hblk, by simp [putCells, hml] at hsz ⊢; omega, fun _ => rfl, fun i v hv => ?_⟩
    rw [List.getElem?_map] at hv
    obtain ⟨a, ha1, rfl⟩ := Option.map_eq_some_iff.1 hv
    obtain ⟨hi, ha2⟩ := List.getElem?_eq_some_iff.1 ha1
    refine ⟨.int .i64 a, ?_, .int _ _⟩
    simp only [putCells, Array.getElem?_mapIdx, hel i (by omega), Option.map_some]
    rw [if_pos ⟨by omega, by simp; omega⟩, show i + r.s - r.s = i by omega, hgd M i hi, ha2]
  have p1 := Post.put (base := H.length) (M := [id]) hr hid ho rfl (by rw [hb]; rfl) hput (fun _ => List.mem_singleton.2 rfl)
  have hheap : ∀ b, b < w.heap.size → (grow (putRow (Value.int .i64) (Sort.ahead w n1) r.b r.s M.toArray) os).heap[b]? = (w.putObj r.b (.cells (putCells (Value.int .i64) r.s M.toArray cs') ty (0, 0))).heap[b]? := by
    intro b hb1
    simp only [grow, putRow, mapBlock, Sort.ahead]
    rw [Array.getElem?_append_left (by simpa using hb1), Array.getElem?_modify]
    by_cases e : r.b = b
    · subst e
      rw [if_pos rfl, World.putObj_heap_same hblk]
      show Option.map (onCells _) w.heap[r.b]? = _
      rw [hb]; rfl
    · rw [if_neg e, World.putObj_heap_other (Ne.symm e)]
  have p2 := p1.grown (w2 := grow (putRow (Value.int .i64) (Sort.ahead w n1) r.b r.s M.toArray) os) (by simp [grow, putRow, mapBlock, Sort.ahead, World.putObj]) (fun b hb1 => hheap b (by simpa [World.putObj] using hb1)) rfl rfl rfl (by simp [grow, putRow, mapBlock, Sort.ahead, World.putObj])
  exact ⟨.tuple #[], .tuple #[], ρ, _, rfl, .tuple rfl (fun i a b h => by simp at h), p2, rfl, rfl⟩
end Go.K
/- Drift: where moves lead: what is answered. No condition. -/
namespace Go.Proofs.Ytkkgnalgmebfjaa
open Go Go.K
set_option maxRecDepth 100000
set_option linter.unusedVariables false
set_option linter.unusedSimpArgs false
noncomputable section
attribute [local irreducible] vF
theorem boolC_len (b : Bool) : (boolC b).length = 1 := rfl
theorem intC_len (x : Int) : (intC x).length = 1 := rfl
theorem plainIL (n : Nat) (l : List Int) : (l.flatMap intC).all (belowC n) = true := plain_flat (fun _ => rfl) l
theorem boolAt {a : List Bool} {k : Nat} (h : k < a.length) {off : Nat} (ho : off = k) : (a.flatMap boolC)[off]? = some (.bool (a.getD k false)) := cell_at (c := 0) boolC_len h (by omega) rfl
theorem intAt {a : List Int} {k : Nat} (h : k < a.length) {off : Nat} (ho : off = k) : (a.flatMap intC)[off]? = some (.int .i64 (a.getD k 0)) := cell_at (c := 0) intC_len h (by omega) rfl
theorem partMove {l : List Move} {x : Nat} (h : x < l.length) : partA 2 (l.flatMap moveC) (0 + Int.toNat ((x : Nat) : Int) * 2) = some (.agg ⟨moveC (l.getD x zeroM)⟩) :=
  part_at (n := 2) (d := zeroM) (c := 0) moveC_len h (by omega) (by omega)
theorem setl_mid : ∀ (n o A B : List Value), o.length = n.length → setl (A ++ (o ++ B)) A.length n = A ++ (n ++ B)
  | [], [], A, B, _ => rfl
  | v :: n, w :: o, A, B, h => by
    have e : (A ++ (w :: o ++ B)).set A.length v = (A ++ [v]) ++ (o ++ B) := by simp
    have := setl_mid n o (A ++ [v]) B (by simpa using h)
    simp only [setl]
    rw [e]
    simpa using this
theorem flat_set {α : Type} {f : α → List Value} {m : Nat} (hf : ∀ x, (f x).length = m) (xs : List α) (k : Nat) (hk : k < xs.length) (y : α) : setl (xs.flatMap f) (k * m) (f y) = (xs.set k y).flatMap f := by
  have e1 : xs = xs.take k ++ xs[k] :: xs.drop (k + 1) := by rw [← List.drop_eq_getElem_cons hk, List.take_append_drop]
  have e2 : xs.set k y = xs.take k ++ y :: xs.drop (k + 1) := by rw [List.set_eq_take_append_cons_drop, if_pos hk]
  have hl : ((xs.take k).flatMap f).length = k * m := by rw [flat_len hf, List.length_take, Nat.min_eq_left (Nat.le_of_lt hk)]
  rw [e2]
  conv => lhs; rw [e1]
  rw [List.flatMap_append, List.flatMap_cons, List.flatMap_append, List.flatMap_cons, ← hl]
  exact setl_mid _ _ _ _ (by rw [hf, hf])
/-- A basin that is right. -/
structure BasOk (w h : Int) (n : Nat) : Prop where
  w1 : 1 ≤ w ∧ w ≤ 64
  h1 : 1 ≤ h ∧ h ≤ 64
  p1 : w * h ≤ 1024
  n1 : (n : Int) = w * h
theorem basOk {w h : Int} {n : Nat} (e : errBas w h n = 0) : BasOk w h n := by
  obtain ⟨b1, b2, b3, b4⟩ := errBas_0 e
  exact ⟨b1, b2, b3, b4⟩
theorem divmod {w h c : Int} {n : Nat} (b : BasOk w h n) (hc : 0 ≤ c ∧ c < w * h) : (0 ≤ Int.tmod c w ∧ Int.tmod c w < w) ∧ (0 ≤ Int.tdiv c w ∧ Int.tdiv c w < h) := by
  have w1 := b.w1
  have e1 : Int.tdiv c w = c / w := Int.tdiv_eq_ediv_of_nonneg hc.1
  have e2 : Int.tmod c w = c % w := Int.tmod_eq_emod_of_nonneg hc.1
  rw [e1, e2]
  refine ⟨⟨Int.emod_nonneg _ (by omega), Int.emod_lt_of_pos _ (by omega)⟩, Int.ediv_nonneg hc.1 (by omega), Int.ediv_lt_of_lt_mul (by omega) (by rw [Int.mul_comm]; exact hc.2)⟩
theorem cellbd {w h x y : Int} (hx : 0 ≤ x ∧ x < w) (hy : 0 ≤ y ∧ y < h) : 0 ≤ y * w + x ∧ y * w + x < w * h := by
  have h1 : 0 ≤ y * w := Int.mul_nonneg hy.1 (by omega)
  have h2 : (y + 1) * w ≤ h * w := Int.mul_le_mul_of_nonneg_right (by omega) (by omega)
  rw [Int.add_mul, Int.one_mul, Int.mul_comm h w] at h2
  omega
def mvOk (m : Move) : Prop := (-2 ≤ m.dx ∧ m.dx ≤ 2) ∧ (-2 ≤ m.dy ∧ m.dy ≤ 2)
def tgIn (w h : Int) (a : List Bool) (c : Int) (m : Move) : Prop := (0 ≤ Int.tmod c w + m.dx ∧ Int.tmod c w + m.dx < w) ∧ (0 ≤ Int.tdiv c w + m.dy ∧ Int.tdiv c w + m.dy < h) ∧ a.getD (Int.toNat ((Int.tdiv c w + m.dy) * w + (Int.tmod c w + m.dx))) false = false
theorem targ_1 {w h : Int} {a : List Bool} {c : Int} {m : Move} (k : tgIn w h a c m) : targ w h a c m = (Int.tdiv c w + m.dy) * w + (Int.tmod c w + m.dx) := if_pos k
theorem targ_0 {w h : Int} {a : List Bool} {c : Int} {m : Move} (k : ¬ tgIn w h a c m) : targ w h a c m = c := if_neg k
theorem targ_bd {w h : Int} {a : List Bool} {c : Int} (hc : 0 ≤ c ∧ c < w * h) (m : Move) : 0 ≤ targ w h a c m ∧ targ w h a c m < w * h := by
  by_cases k : tgIn w h a c m
  · rw [targ_1 k]; exact cellbd k.1 k.2.1
  · rw [targ_0 k]; exact hc
theorem ktarget {w h : Int} {a : List Bool} {c : Int} {m : Move} (b : BasOk w h a.length) (hc : 0 ≤ c ∧ c < w * h) (hm : mvOk m) {H : Heap} {id : Nat} {own : Bool} {z : Nat} (hid : H[id]? = some (.cells own z (a.flatMap boolC))) :
    KCall prog F.drift_sea_target [basV w h id a.length, .int .i64 c, moveV m] H [] (Is (.int .i64 (targ w h a c m)) H) := by
  refine valR (css := [a.flatMap boolC]) (v := .int .i64 (targ w h a c m)) (Eq.mpr (Etarget _ w h a c m) ?_) (one_cs (plainBL 0 a)) rfl [id] rfl (one_id hid)
  unfold Rtarget
  have e1 := targ_1 (w := w) (h := h) (a := a) (c := c) (m := m)
  have e0 := targ_0 (w := w) (h := h) (a := a) (c := c) (m := m)
  unfold tgIn at e0 e1
  obtain ⟨⟨m1, m2⟩, m3, m4⟩ := hm
  obtain ⟨d1, d2⟩ := divmod b hc
  obtain ⟨b1, b2, b3, b4⟩ := b
  have cb := cellbd (w := w) (h := h) (x := Int.tmod c w + m.dx) (y := Int.tdiv c w + m.dy)
  have hx : -2 ≤ Int.tmod c w + m.dx ∧ Int.tmod c w + m.dx ≤ 66 := by omega
  have hy : -2 ≤ Int.tdiv c w + m.dy ∧ Int.tdiv c w + m.dy ≤ 66 := by omega
  have hy2 : 0 ≤ Int.tdiv c w ∧ Int.tdiv c w ≤ 64 := by omega
  generalize targ w h a c m = T at e0 e1 ⊢
  generalize Int.tmod c w + m.dx = X at *
  generalize Int.tdiv c w + m.dy = Y at *
  generalize Y * w = P at *
  generalize w * h = Q at *
  repeat' first | (exact iEq (e0 (fun k => by omega)).symm) | refine ⟨_, rfl, ?_⟩ | (refine ⟨fun hb => iEq (e0 fun k => Bool.false_ne_true (k.2.2.symm.trans hb)).symm, fun hb => ?_⟩) | (exact boolAt (by omega) (by omega)) | (exact iEq (e1 ⟨by omega, by omega, hb⟩).symm) | omega | exact trivial | exact rfl | exact wk_refl _ | refine wkO_cells ?_ | refine wks_cons ?_ ?_ | exact wks_nil | exact wk_nil _ _ _ (.inl rfl) | (exact wk_Q (by omega)) | refine wk_tupL ?_ | refine wk_aggL ?_ | refine joinMax ?_ ?_ ?_ | refine joinMin ?_ ?_ ?_ | refine toMax ?_ | refine toMin ?_ | refine ⟨rfl, ?_⟩ | refine ⟨trivial, ?_⟩ | (refine forkD (fun h => ?_) (fun h => ?_)) | (refine forkNe (fun h => ?_) (fun h => ?_)) | (refine forkEq (fun h => ?_) (fun h => ?_)) | refine forkNot ?_ | (refine ⟨vI64 (by omega), ?_⟩) | (refine And.intro (by omega) ?_) | apply And.intro | (exact iEq (by omega)) | (exact vI64 (by omega))
theorem krTarget {w h : Int} {a : List Bool} {c : Int} {m : Move} (b : BasOk w h a.length) (hc : 0 ≤ c ∧ c < w * h) (hm : mvOk m) {H : Heap} {id : Nat} {own : Bool} {z : Nat} (hid : H[id]? = some (.cells own z (a.flatMap boolC))) :
    KCall prog F.polynyaref02_Target [basV w h id a.length, .int .i64 c, moveV m] H [] (Is (.int .i64 (targ w h a c m)) H) := by
  refine valR (css := [a.flatMap boolC]) (v := .int .i64 (targ w h a c m)) (Eq.mpr (ErTarget _ w h a c m) ?_) (one_cs (plainBL 0 a)) rfl [id] rfl (one_id hid)
  unfold RrTarget
  have e1 := targ_1 (w := w) (h := h) (a := a) (c := c) (m := m)
  have e0 := targ_0 (w := w) (h := h) (a := a) (c := c) (m := m)
  unfold tgIn at e0 e1
  obtain ⟨⟨m1, m2⟩, m3, m4⟩ := hm
  obtain ⟨d1, d2⟩ := divmod b hc
  obtain ⟨b1, b2, b3, b4⟩ := b
  have cb := cellbd (w := w) (h := h) (x := Int.tmod c w + m.dx) (y := Int.tdiv c w + m.dy)
  have hx : -2 ≤ Int.tmod c w + m.dx ∧ Int.tmod c w + m.dx ≤ 66 := by omega
  have hy : -2 ≤ Int.tdiv c w + m.dy ∧ Int.tdiv c w + m.dy ≤ 66 := by omega
  have hy2 : 0 ≤ Int.tdiv c w ∧ Int.tdiv c w ≤ 64 := by omega
  generalize targ w h a c m = T at e0 e1 ⊢
  generalize Int.tmod c w + m.dx = X at *
  generalize Int.tdiv c w + m.dy = Y at *
  generalize Y * w = P at *
  generalize w * h = Q at *
  repeat' first | (exact iEq (e0 (fun k => by omega)).symm) | refine ⟨_, rfl, ?_⟩ | (refine ⟨fun hb => iEq (e0 fun k => Bool.false_ne_true (k.2.2.symm.trans hb)).symm, fun hb => ?_⟩) | (exact boolAt (by omega) (by omega)) | (exact iEq (e1 ⟨by omega, by omega, hb⟩).symm) | omega | exact trivial | exact rfl | exact wk_refl _ | refine wkO_cells ?_ | refine wks_cons ?_ ?_ | exact wks_nil | exact wk_nil _ _ _ (.inl rfl) | (exact wk_Q (by omega)) | refine wk_tupL ?_ | refine wk_aggL ?_ | refine joinMax ?_ ?_ ?_ | refine joinMin ?_ ?_ ?_ | refine toMax ?_ | refine toMin ?_ | refine ⟨rfl, ?_⟩ | refine ⟨trivial, ?_⟩ | (refine forkD (fun h => ?_) (fun h => ?_)) | (refine forkNe (fun h => ?_) (fun h => ?_)) | (refine forkEq (fun h => ?_) (fun h => ?_)) | refine forkNot ?_ | (refine ⟨vI64 (by omega), ?_⟩) | (refine And.intro (by omega) ?_) | apply And.intro | (exact iEq (by omega)) | (exact vI64 (by omega))
theorem seaB_1 {a : List Bool} {c : Int} (k : 0 ≤ c ∧ c < (a.length : Int)) : seaB a c = !(a.getD (Int.toNat c) false) := by unfold seaB; rw [decide_eq_true k]; rfl
theorem seaB_0 {a : List Bool} {c : Int} (k : ¬ (0 ≤ c ∧ c < (a.length : Int))) : seaB a c = false := by unfold seaB; rw [decide_eq_false k]; rfl
theorem kis {w h : Int} {a : List Bool} {c : Int} (b : BasOk w h a.length) {H : Heap} {id : Nat} {own : Bool} {z : Nat} (hid : H[id]? = some (.cells own z (a.flatMap boolC))) :
    KCall prog F.drift_sea_is [basV w h id a.length, .int .i64 c] H [] (Is (.bool (seaB a c)) H) := by
  refine valR (css := [a.flatMap boolC]) (v := .bool (seaB a c)) (Eq.mpr (Eis _ w h a c) ?_) (one_cs (plainBL 0 a)) rfl [id] rfl (one_id hid)
  unfold Ris
  have e1 := seaB_1 (a := a) (c := c)
  have e0 := seaB_0 (a := a) (c := c)
  obtain ⟨b1, b2, b3, b4⟩ := b
  generalize w * h = Q at *
  repeat' first | (exact congrArg Value.bool (e0 (by omega)).symm) | (exact congrArg Value.bool (e1 (by omega)).symm) | (exact boolAt (by omega) (by omega)) | exact trivial | exact rfl | exact wk_refl _ | refine wkO_cells ?_ | refine wks_cons ?_ ?_ | exact wks_nil | exact wk_nil _ _ _ (.inl rfl) | (exact wk_Q (by omega)) | refine wk_tupL ?_ | refine wk_aggL ?_ | refine joinMax ?_ ?_ ?_ | refine joinMin ?_ ?_ ?_ | refine toMax ?_ | refine toMin ?_ | refine ⟨rfl, ?_⟩ | refine ⟨trivial, ?_⟩ | (refine forkD (fun h => ?_) (fun h => ?_)) | (refine forkNe (fun h => ?_) (fun h => ?_)) | (refine forkEq (fun h => ?_) (fun h => ?_)) | refine forkNot ?_ | (refine ⟨vI64 (by omega), ?_⟩) | (refine And.intro (by omega) ?_) | apply And.intro | (exact iEq (by omega)) | (exact vI64 (by omega))
theorem krisSea {w h : Int} {a : List Bool} {c : Int} (b : BasOk w h a.length) {H : Heap} {id : Nat} {own : Bool} {z : Nat} (hid : H[id]? = some (.cells own z (a.flatMap boolC))) :
    KCall prog F.polynyaref02_isSea [basV w h id a.length, .int .i64 c] H [] (Is (.bool (seaB a c)) H) := by
  refine valR (css := [a.flatMap boolC]) (v := .bool (seaB a c)) (Eq.mpr (ErisSea _ w h a c) ?_) (one_cs (plainBL 0 a)) rfl [id] rfl (one_id hid)
  unfold RrisSea
  have e1 := seaB_1 (a := a) (c := c)
  have e0 := seaB_0 (a := a) (c := c)
  obtain ⟨b1, b2, b3, b4⟩ := b
  generalize w * h = Q at *
  repeat' first | (exact congrArg Value.bool (e0 (by omega)).symm) | (exact congrArg Value.bool (e1 (by omega)).symm) | (exact boolAt (by omega) (by omega)) | exact trivial | exact rfl | exact wk_refl _ | refine wkO_cells ?_ | refine wks_cons ?_ ?_ | exact wks_nil | exact wk_nil _ _ _ (.inl rfl) | (exact wk_Q (by omega)) | refine wk_tupL ?_ | refine wk_aggL ?_ | refine joinMax ?_ ?_ ?_ | refine joinMin ?_ ?_ ?_ | refine toMax ?_ | refine toMin ?_ | refine ⟨rfl, ?_⟩ | refine ⟨trivial, ?_⟩ | (refine forkD (fun h => ?_) (fun h => ?_)) | (refine forkNe (fun h => ?_) (fun h => ?_)) | (refine forkEq (fun h => ?_) (fun h => ?_)) | refine forkNot ?_ | (refine ⟨vI64 (by omega), ?_⟩) | (refine And.intro (by omega) ?_) | apply And.intro | (exact iEq (by omega)) | (exact vI64 (by omega))
theorem krlist (l : List Bool) (hl : l.length ≤ 4096) {H : Heap} {L : Nat} (hL : H.length = L) {id : Nat} {own : Bool} {z : Nat} (hid : H[id]? = some (.cells own z (l.flatMap boolC))) :
    KCall prog F.polynyaref02_list [.slice (some ⟨id, 0, some 2⟩) l.length l.length] H [] (Is (.slice (some ⟨L, 0, some 1⟩) (truesL l).length (truesL l).length) (H ++ [.cells true 1 ((truesL l).flatMap intC)])) := by
  subst hL
  refine valQ (fun i => .slice (some ⟨i, 0, some 1⟩) (truesL l).length (truesL l).length) (Eq.mpr (Erlist l) ?_) (plainBL 0 l) (fun n => plainIL n _) rfl rfl (fun _ => rfl) hid rfl
  unfold Rrlist
  refine ⟨rfl, Nat.zero_le _, ?_, fun _ => rfl, ?_⟩
  · repeat' first | exact plainIL _ _ | exact trivial | exact rfl | exact wk_refl _ | refine wkO_cells ?_ | refine wks_cons ?_ ?_ | exact wks_nil | exact wk_nil _ _ _ (.inl rfl) | (exact wk_Q (by omega)) | refine wk_tupL ?_ | refine wk_aggL ?_ | refine joinMax ?_ ?_ ?_ | refine joinMin ?_ ?_ ?_ | refine toMax ?_ | refine toMin ?_ | refine ⟨rfl, ?_⟩ | refine ⟨trivial, ?_⟩ | (refine forkD (fun h => ?_) (fun h => ?_)) | (refine forkNe (fun h => ?_) (fun h => ?_)) | (refine forkEq (fun h => ?_) (fun h => ?_)) | refine forkNot ?_ | (refine ⟨vI64 (by omega), ?_⟩) | (refine And.intro (by omega) ?_) | apply And.intro | (exact iEq (by omega)) | (exact vI64 (by omega))
  intro x hx
  have hlen := truesTo_len l x
  refine forkD (fun k => ?_) (fun k => ?_)
  · refine ⟨by omega, boolAt (by omega) (by omega), fun k2 => ?_, fun k2 => ?_⟩
    · have hM := truesTo_1 k2
      repeat' first | (refine ⟨x + 1, by omega, by omega, rfl, ?_⟩) | exact wk_snoc hM | exact ob_snoc intC_len hM rfl | exact plainIL _ _ | exact flat_le intC_len _ | exact Nat.le_refl _ | exact trivial | exact rfl | exact wk_refl _ | refine wkO_cells ?_ | refine wks_cons ?_ ?_ | exact wks_nil | exact wk_nil _ _ _ (.inl rfl) | (exact wk_Q (by omega)) | refine wk_tupL ?_ | refine wk_aggL ?_ | refine joinMax ?_ ?_ ?_ | refine joinMin ?_ ?_ ?_ | refine toMax ?_ | refine toMin ?_ | refine ⟨rfl, ?_⟩ | refine ⟨trivial, ?_⟩ | (refine forkD (fun h => ?_) (fun h => ?_)) | (refine forkNe (fun h => ?_) (fun h => ?_)) | (refine forkEq (fun h => ?_) (fun h => ?_)) | refine forkNot ?_ | (refine ⟨vI64 (by omega), ?_⟩) | (refine And.intro (by omega) ?_) | apply And.intro | (exact iEq (by omega)) | (exact vI64 (by omega))
    · have hM := truesTo_2 k2
      refine ⟨vI64 (by omega), x + 1, by omega, by omega, rfl, ?_⟩
      rw [hM]
      repeat' first | exact plainIL _ _ | exact trivial | exact rfl | exact wk_refl _ | refine wkO_cells ?_ | refine wks_cons ?_ ?_ | exact wks_nil | exact wk_nil _ _ _ (.inl rfl) | (exact wk_Q (by omega)) | refine wk_tupL ?_ | refine wk_aggL ?_ | refine joinMax ?_ ?_ ?_ | refine joinMin ?_ ?_ ?_ | refine toMax ?_ | refine toMin ?_ | refine ⟨rfl, ?_⟩ | refine ⟨trivial, ?_⟩ | (refine forkD (fun h => ?_) (fun h => ?_)) | (refine forkNe (fun h => ?_) (fun h => ?_)) | (refine forkEq (fun h => ?_) (fun h => ?_)) | refine forkNot ?_ | (refine ⟨vI64 (by omega), ?_⟩) | (refine And.intro (by omega) ?_) | apply And.intro | (exact iEq (by omega)) | (exact vI64 (by omega))
  · obtain rfl : x = l.length := by omega
    repeat' first | exact plainIL _ _ | exact trivial | exact rfl | exact wk_refl _ | refine wkO_cells ?_ | refine wks_cons ?_ ?_ | exact wks_nil | exact wk_nil _ _ _ (.inl rfl) | (exact wk_Q (by omega)) | refine wk_tupL ?_ | refine wk_aggL ?_ | refine joinMax ?_ ?_ ?_ | refine joinMin ?_ ?_ ?_ | refine toMax ?_ | refine toMin ?_ | refine ⟨rfl, ?_⟩ | refine ⟨trivial, ?_⟩ | (refine forkD (fun h => ?_) (fun h => ?_)) | (refine forkNe (fun h => ?_) (fun h => ?_)) | (refine forkEq (fun h => ?_) (fun h => ?_)) | refine forkNot ?_ | (refine ⟨vI64 (by omega), ?_⟩) | (refine And.intro (by omega) ?_) | apply And.intro | (exact iEq (by omega)) | (exact vI64 (by omega))
theorem goesTo_len (L : List Int) (n x : Nat) : (goesTo L n x).length = n := tabP_len ..
theorem goesTo_0 (L : List Int) (n : Nat) : (goesTo L n 0).flatMap boolC = krep [.bool false] n := by
  induction n with
  | zero => rfl
  | succ n ih =>
    unfold goesTo at ih ⊢
    rw [tabP_succ, List.flatMap_append, ih]
    have : ∀ k, krep [Value.bool false] k ++ [.bool false] = .bool false :: krep [.bool false] k := by
      intro k
      induction k with
      | zero => rfl
      | succ k ih => show .bool false :: (krep _ k ++ _) = _; rw [ih]; rfl
    exact this n
theorem goesTo_get {L : List Int} {n x i : Nat} (h : i < (goesTo L n x).length) : (goesTo L n x)[i] = decide ((i : Int) ∈ L.take x) := by
  simp only [goesTo, tabP, List.getElem_map, List.getElem_range]
theorem goesTo_succ {L : List Int} {n x : Nat} (hx : x < L.length) (hr : 0 ≤ L.getD x 0 ∧ L.getD x 0 < (n : Int)) : (goesTo L n x).set (Int.toNat (L.getD x 0)) true = goesTo L n (x + 1) := by
  have e : L.take (x + 1) = L.take x ++ [L.getD x 0] := by rw [List.take_add_one, List.getD_eq_getElem?_getD, List.getElem?_eq_getElem hx]; rfl
  refine List.ext_getElem (by rw [List.length_set, goesTo_len, goesTo_len]) fun i h1 h2 => ?_
  rw [List.getElem_set, goesTo_get, goesTo_get, e]
  rw [goesTo_len] at h2
  by_cases k : Int.toNat (L.getD x 0) = i
  · rw [if_pos k]
    refine (decide_eq_true ?_).symm
    rw [List.mem_append]
    exact .inr (List.mem_singleton.2 (by omega))
  · rw [if_neg k]
    refine decide_eq_decide.2 ?_
    rw [List.mem_append, List.mem_singleton]
    constructor
    · exact .inl
    · rintro (h | h)
      · exact h
      · exact absurd h (by omega)
theorem mvTo_ok {f : Flow} (hf : rightF f) : ∀ (j : Nat), j ≤ nyF f → ∀ m ∈ mvTo f j, mvOk m
  | 0, _, m, h => by cases h
  | j + 1, hj, m, h => by
    have eb := ends_bd hf
    have xb := nx_bd hf
    have yb := ny_bd hf
    rcases List.mem_append.1 h with h | h
    · exact mvTo_ok hf j (by omega) m h
    · unfold mvRow tabP at h
      obtain ⟨i, hi, rfl⟩ := List.mem_map.1 h
      have := List.mem_range.1 hi
      exact ⟨⟨by dsimp only; omega, by dsimp only; omega⟩, by dsimp only; omega, by dsimp only; omega⟩
theorem getD_mem {α : Type} {l : List α} {d : α} {x : Nat} (h : x < l.length) : l.getD x d ∈ l := by
  rw [List.getD_eq_getElem?_getD, List.getElem?_eq_getElem h]; exact List.getElem_mem h
theorem moves_ok {f : Flow} (hf : rightF f) {x : Nat} (h : x < (movesF f).length) : mvOk ((movesF f).getD x zeroM) := mvTo_ok hf _ (Nat.le_refl _) _ (getD_mem h)
theorem tgL_len (w h : Int) (a : List Bool) (c : Int) (f : Flow) : (tgL w h a c f).length = (movesF f).length := List.length_map _
theorem tgL_get {w h : Int} {a : List Bool} {c : Int} {f : Flow} {x : Nat} (hx : x < (movesF f).length) : (tgL w h a c f).getD x 0 = targ w h a c ((movesF f).getD x zeroM) := by
  unfold tgL
  rw [List.getD_eq_getElem?_getD, List.getElem?_map, List.getD_eq_getElem?_getD, List.getElem?_eq_getElem hx]; rfl
theorem tgL_bd {w h : Int} {a : List Bool} {c : Int} {f : Flow} (hc : 0 ≤ c ∧ c < w * h) : ∀ z ∈ tgL w h a c f, 0 ≤ z ∧ z < w * h := by
  intro z hz
  obtain ⟨m, _, rfl⟩ := List.mem_map.1 hz
  exact targ_bd hc m
theorem goesL_len (w h : Int) (a : List Bool) (c : Int) (f : Flow) : (goesL w h a c f).length = Int.toNat (w * h) := tabP_len ..
theorem goesL_eq (w h : Int) (a : List Bool) (c : Int) (f : Flow) : goesTo (tgL w h a c f) (Int.toNat (w * h)) (movesF f).length = goesL w h a c f := by
  unfold goesTo goesL
  rw [← tgL_len w h a c f, List.take_length]
theorem krgoes {w h : Int} {a : List Bool} {c : Int} {f : Flow} (b : BasOk w h a.length) (hc : 0 ≤ c ∧ c < w * h) (hf : rightF f) {H : Heap} {L : Nat} (hL : H.length = L) {id : Nat} {own : Bool} {z : Nat} (hid : H[id]? = some (.cells own z (a.flatMap boolC))) :
    KCall prog F.polynyaref02_goes [basV w h id a.length, flowV f, .int .i64 c] H [] (Is (.slice (some ⟨L, 0, some 1⟩) (goesL w h a c f).length (goesL w h a c f).length) (H ++ [.cells true 1 ((goesL w h a c f).flatMap boolC)])) := by
  subst hL
  refine valQ (fun i => .slice (some ⟨i, 0, some 1⟩) (goesL w h a c f).length (goesL w h a c f).length) (Eq.mpr (Ergoes w h a c f) ?_) (plainBL 0 a) (fun n => plainBL n _) rfl rfl (fun _ => rfl) hid rfl
  unfold Rrgoes
  have mb := movesF_bd hf
  have tb := tgL_bd (f := f) (a := a) hc
  have b0 := b
  obtain ⟨b1, b2, b3, b4⟩ := b
  have km : ∀ H' : Heap, H'.length = 4 → KCall prog F.polynyaref02_Moves [flowV f] H' [] (Is (mvsV 4 (movesF f, 0)) (H' ++ [.cells true 2 ((movesF f).flatMap moveC)])) := fun H' hl => by
    have := krMoves f hl
    rw [fMoves_0 hf] at this; exact this
  refine ⟨vI64 (by omega), by omega, trivial, fun H' hl _ => km H' hl, rfl, Nat.zero_le _, ?_, fun _ => rfl, ?_⟩
  · rw [goesTo_0]
    repeat' first | ((rw [← goesTo_0 (tgL w h a c f)]; exact plainBL _ _)) | exact trivial | exact rfl | exact wk_refl _ | refine wkO_cells ?_ | refine wks_cons ?_ ?_ | exact wks_nil | exact wk_nil _ _ _ (.inl rfl) | (exact wk_Q (by omega)) | refine wk_tupL ?_ | refine wk_aggL ?_ | refine joinMax ?_ ?_ ?_ | refine joinMin ?_ ?_ ?_ | refine toMax ?_ | refine toMin ?_ | refine ⟨rfl, ?_⟩ | refine ⟨trivial, ?_⟩ | (refine forkD (fun h => ?_) (fun h => ?_)) | (refine forkNe (fun h => ?_) (fun h => ?_)) | (refine forkEq (fun h => ?_) (fun h => ?_)) | refine forkNot ?_ | (refine ⟨vI64 (by omega), ?_⟩) | (refine And.intro (by omega) ?_) | apply And.intro | (exact iEq (by omega)) | (exact vI64 (by omega))
  intro x hx
  refine forkD (fun k => ?_) (fun k => ?_)
  · have hlt : x < (movesF f).length := by omega
    have hr := targ_bd (a := a) hc ((movesF f).getD x zeroM)
    have hs := goesTo_succ (L := tgL w h a c f) (n := Int.toNat (w * h)) (x := x) (by rw [tgL_len]; exact hlt) (by rw [tgL_get hlt]; omega)
    rw [tgL_get hlt] at hs
    refine ⟨by omega, partMove hlt, targ w h a c ((movesF f).getD x zeroM), ⟨rfl, trivial⟩, fun H' hl hd => krTarget b0 hc (moves_ok hf hlt) hd.1, by omega, ?_, rfl, vI64 (by omega), x + 1, by omega, by omega, rfl, ?_⟩
    · rw [flat_len boolC_len, goesTo_len]; omega
    · rw [show 0 + Int.toNat (targ w h a c ((movesF f).getD x zeroM)) * 1 = Int.toNat (targ w h a c ((movesF f).getD x zeroM)) * 1 by omega, flat_set boolC_len _ _ (by rw [goesTo_len]; omega) true, hs]
      repeat' first | exact plainBL _ _ | exact trivial | exact rfl | exact wk_refl _ | refine wkO_cells ?_ | refine wks_cons ?_ ?_ | exact wks_nil | exact wk_nil _ _ _ (.inl rfl) | (exact wk_Q (by omega)) | refine wk_tupL ?_ | refine wk_aggL ?_ | refine joinMax ?_ ?_ ?_ | refine joinMin ?_ ?_ ?_ | refine toMax ?_ | refine toMin ?_ | refine ⟨rfl, ?_⟩ | refine ⟨trivial, ?_⟩ | (refine forkD (fun h => ?_) (fun h => ?_)) | (refine forkNe (fun h => ?_) (fun h => ?_)) | (refine forkEq (fun h => ?_) (fun h => ?_)) | refine forkNot ?_ | (refine ⟨vI64 (by omega), ?_⟩) | (refine And.intro (by omega) ?_) | apply And.intro | (exact iEq (by omega)) | (exact vI64 (by omega))
  · obtain rfl : x = (movesF f).length := by omega
    rw [goesL_eq, goesL_len]
    repeat' first | exact plainBL _ _ | exact trivial | exact rfl | exact wk_refl _ | refine wkO_cells ?_ | refine wks_cons ?_ ?_ | exact wks_nil | exact wk_nil _ _ _ (.inl rfl) | (exact wk_Q (by omega)) | refine wk_tupL ?_ | refine wk_aggL ?_ | refine joinMax ?_ ?_ ?_ | refine joinMin ?_ ?_ ?_ | refine toMax ?_ | refine toMin ?_ | refine ⟨rfl, ?_⟩ | refine ⟨trivial, ?_⟩ | (refine forkD (fun h => ?_) (fun h => ?_)) | (refine forkNe (fun h => ?_) (fun h => ?_)) | (refine forkEq (fun h => ?_) (fun h => ?_)) | refine forkNot ?_ | (refine ⟨vI64 (by omega), ?_⟩) | (refine And.intro (by omega) ?_) | apply And.intro | (exact iEq (by omega)) | (exact vI64 (by omega))
theorem intMap (l : List Int) : l.flatMap intC = l.map (Value.int .i64) := by
  induction l with
  | nil => rfl
  | cons x l ih => rw [List.flatMap_cons, ih]; rfl
theorem enters_some {P : Program} {f : FuncId} {fn : Func} (hf : P.funcs[f]? = some fn) (hname : (fn.name == "runtime.NumGoroutine") = false) (hb : fn.body.isSome = true) : Enters P f := by
  obtain ⟨c, hc⟩ := Option.isSome_iff_exists.1 hb
  exact enters_of hf hname hc
theorem enters124 : Enters prog 124 := enters_some Try.func124 (by kernel_rfl) (by kernel_rfl)
theorem kSort {L0 : List Int} (h0 : 0 < L0.length) (h1 : L0.length < 1000) {H : Heap} {id : Nat} (ho : H[id]? = some (.cells true 1 (L0.flatMap intC))) :
    KCall prog 124 [.slice (some ⟨id, 0, some 1⟩) L0.length L0.length] H [id] (Is (.tuple #[]) (H.set id (.cells true 1 ((srtI L0).flatMap intC)))) := by
  rw [intMap] at ho ⊢
  exact kSortInt sortI enters124 (.inr rfl) h0 (by omega) ho
end
end Go.Proofs.Ytkkgnalgmebfjaa
/- Drift: the places a flow leads to, sorted and without repeats. No condition. -/
namespace Go.Proofs.Ytkkgnalgmebfjaa
open Go Go.K
set_option maxRecDepth 100000
set_option linter.unusedVariables false
set_option linter.unusedSimpArgs false
noncomputable section
attribute [local irreducible] vF
theorem fin_same {L : List Int} (h : comp (srtI L) = srtI L) : comp (srtI L) ++ padT L = srtI L := by
  unfold padT
  rw [h, srt_len, Nat.sub_self]; exact List.append_nil _
theorem krep_int (n : Nat) : krep [.int .i64 0] n = (List.replicate n (0 : Int)).flatMap intC := by
  induction n with
  | zero => rfl
  | succ n ih => show .int .i64 0 :: krep [.int .i64 0] n = _; rw [ih]; rfl
theorem setl_tail {A B : List Int} {k n : Nat} (hk : k = A.length) (hn : n = B.length) : setl ((A ++ B).flatMap intC) (0 + k * 1) (krep [.int .i64 0] n) = (A ++ List.replicate n 0).flatMap intC := by
  subst hk hn
  rw [krep_int, List.flatMap_append, List.flatMap_append, show 0 + A.length * 1 = (A.flatMap intC).length from by rw [flat_len intC_len]; omega]
  have := setl_mid ((List.replicate B.length (0 : Int)).flatMap intC) (B.flatMap intC) (A.flatMap intC) [] (by rw [flat_len intC_len, flat_len intC_len, List.length_replicate])
  simpa using this
theorem ktargets {w h : Int} {a : List Bool} {c : Int} {f : Flow} (b : BasOk w h a.length) (hc : 0 ≤ c ∧ c < w * h) (hf : rightF f) {H : Heap} {L : Nat} (hL : H.length = L) {id : Nat} {own : Bool} {z : Nat} (hid : H[id]? = some (.cells own z (a.flatMap boolC))) :
    KCall prog F.drift_sea_targets [basV w h id a.length, flowV f, .int .i64 c] H [] (Is (.slice (some ⟨L, 0, some 2⟩) (comp (srtI (tgL w h a c f))).length (comp (srtI (tgL w h a c f))).length) (H ++ [.cells true 1 ((comp (srtI (tgL w h a c f)) ++ padT (tgL w h a c f)).flatMap intC)])) := by
  subst hL
  refine valQ (fun i => .slice (some ⟨i, 0, some 2⟩) (comp (srtI (tgL w h a c f))).length (comp (srtI (tgL w h a c f))).length) (Eq.mpr (Etargets w h a c f) ?_) (plainBL 0 a) (fun n => plainIL n _) rfl rfl (fun _ => rfl) hid rfl
  unfold Rtargets
  have mb := movesF_bd hf
  have hTl := tgL_len w h a c f
  have hSl := (srt_len (tgL w h a c f)).trans hTl
  have hfin := fin_same (L := tgL w h a c f)
  have hpad : padT (tgL w h a c f) = List.replicate ((tgL w h a c f).length - (comp (srtI (tgL w h a c f))).length) 0 := rfl
  refine ⟨trivial, fun H' hl _ => kmoves f hf hl, rfl, Nat.zero_le _, ?_, fun _ => rfl, ?_⟩
  · repeat' first | exact plainIL _ _ | exact trivial | exact rfl | exact wk_refl _ | refine wkO_cells ?_ | refine wks_cons ?_ ?_ | exact wks_nil | exact wk_nil _ _ _ (.inl rfl) | (exact wk_Q (by omega)) | refine wk_tupL ?_ | refine wk_aggL ?_ | refine joinMax ?_ ?_ ?_ | refine joinMin ?_ ?_ ?_ | refine toMax ?_ | refine toMin ?_ | refine ⟨rfl, ?_⟩ | refine ⟨trivial, ?_⟩ | (refine forkD (fun h => ?_) (fun h => ?_)) | (refine forkNe (fun h => ?_) (fun h => ?_)) | (refine forkEq (fun h => ?_) (fun h => ?_)) | refine forkNot ?_ | (refine ⟨vI64 (by omega), ?_⟩) | (refine And.intro (by omega) ?_) | apply And.intro | (exact iEq (by omega)) | (exact vI64 (by omega))
  intro x hx
  refine forkD (fun k => ?_) (fun k => ?_)
  · have hlt : x < (movesF f).length := by omega
    have hM : (tgL w h a c f).take (x + 1) = (tgL w h a c f).take x ++ [targ w h a c ((movesF f).getD x zeroM)] := by
      rw [List.take_add_one, ← tgL_get hlt, List.getD_eq_getElem?_getD, List.getElem?_eq_getElem (by omega)]; rfl
    have hlx : ((tgL w h a c f).take x).length = x := by rw [List.length_take]; omega
    have hob := ob_snoc (own := true) intC_len hM rfl
    have hfl := flat_le intC_len ((tgL w h a c f).take x)
    rw [hlx] at hob hfl
    refine ⟨by omega, partMove hlt, targ w h a c ((movesF f).getD x zeroM), ⟨rfl, trivial⟩, fun H' hl hd => ktarget b hc (moves_ok hf hlt) hd.1, ?_⟩
    repeat' first | (refine ⟨x + 1, by omega, by omega, rfl, ?_⟩) | exact hob | exact plainIL _ _ | exact hfl | exact Nat.le_refl _ | exact trivial | exact rfl | exact wk_refl _ | refine wkO_cells ?_ | refine wks_cons ?_ ?_ | exact wks_nil | exact wk_nil _ _ _ (.inl rfl) | (exact wk_Q (by omega)) | refine wk_tupL ?_ | refine wk_aggL ?_ | refine joinMax ?_ ?_ ?_ | refine joinMin ?_ ?_ ?_ | refine toMax ?_ | refine toMin ?_ | refine ⟨rfl, ?_⟩ | refine ⟨trivial, ?_⟩ | (refine forkD (fun h => ?_) (fun h => ?_)) | (refine forkNe (fun h => ?_) (fun h => ?_)) | (refine forkEq (fun h => ?_) (fun h => ?_)) | refine forkNot ?_ | (refine ⟨vI64 (by omega), ?_⟩) | (refine And.intro (by omega) ?_) | apply And.intro | (exact iEq (by omega)) | (exact vI64 (by omega))
  · obtain rfl : x = (movesF f).length := by omega
    have hkS : ∀ H' : Heap, H'[4]? = some (.cells true 1 ((tgL w h a c f).flatMap intC)) → KCall prog 124 [.slice (some ⟨4, 0, some 1⟩) (movesF f).length (movesF f).length] H' [4] (Is (.tuple #[]) (H'.set 4 (.cells true 1 ((srtI (tgL w h a c f)).flatMap intC)))) := fun H' ho => by
      have := kSort (L0 := tgL w h a c f) (by omega) (by omega) ho
      rw [hTl] at this; exact this
    rw [show (tgL w h a c f).take (movesF f).length = tgL w h a c f from by rw [← hTl]; exact List.take_length]
    obtain ⟨S, hS⟩ : ∃ S, srtI (tgL w h a c f) = S := ⟨_, rfl⟩
    rw [hS] at hSl hfin hpad hkS
    rw [hS]
    have hdone : comp S = S → (comp S).length = (movesF f).length := fun e => by rw [e, hSl]
    generalize (movesF f).length = n at *
    rw [hTl] at hpad
    refine ⟨⟨rfl, trivial⟩, fun H' hl hd => hkS H' hd.1, forkD (fun k2 => ?_) (fun k2 => ?_)⟩
    · have hc1 : comp S = S := by
        match S, hSl with
        | [s], _ => rfl
        | [], e => exact absurd e (by simp only [List.length_nil]; omega)
        | _ :: _ :: _, e => exact absurd e (by simp only [List.length_cons]; omega)
      rw [hdone hc1, hfin hc1]
      exact ⟨rfl, wk_QR, ⟨rfl, plainIL _ _⟩, trivial⟩
    · have hc1 : comp (S.take 1) = S.take 1 := by
        match S, hSl with
        | s :: r, _ => rfl
        | [], e => exact absurd e (by simp only [List.length_nil]; omega)
      refine ⟨rfl, ⟨Nat.le_refl _, by omega, hc1⟩, ?_, fun _ => rfl, ?_⟩
      · repeat' first | exact plainIL _ _ | exact trivial | exact rfl | exact wk_refl _ | refine wkO_cells ?_ | refine wks_cons ?_ ?_ | exact wks_nil | exact wk_nil _ _ _ (.inl rfl) | (exact wk_Q (by omega)) | refine wk_tupL ?_ | refine wk_aggL ?_ | refine joinMax ?_ ?_ ?_ | refine joinMin ?_ ?_ ?_ | refine toMax ?_ | refine toMin ?_ | refine ⟨rfl, ?_⟩ | refine ⟨trivial, ?_⟩ | (refine forkD (fun h => ?_) (fun h => ?_)) | (refine forkNe (fun h => ?_) (fun h => ?_)) | (refine forkEq (fun h => ?_) (fun h => ?_)) | refine forkNot ?_ | (refine ⟨vI64 (by omega), ?_⟩) | (refine And.intro (by omega) ?_) | apply And.intro | (exact iEq (by omega)) | (exact vI64 (by omega))
      rintro x3 ⟨j1, j2, j3⟩
      refine forkD (fun k3 => ?_) (fun k3 => ?_)
      · have hx3 : x3 < S.length := by omega
        rw [show Int.toNat ((x3 : Int) - 1) = x3 - 1 by omega]
        refine ⟨by omega, intAt hx3 (by omega), vI64 (by omega), by omega, intAt (by omega) (by omega), forkEq (fun q => ?_) (fun q => ?_)⟩
        · obtain ⟨q1, q2⟩ := cmpTo_0 j1 hx3 j3 q
          refine ⟨⟨⟨.inr (.inr rfl), Nat.le_refl _⟩, Nat.le_refl _, by omega⟩, rfl, rfl, ⟨Nat.le_refl _, by omega, by omega⟩, ?_, fun _ => rfl, ?_⟩
          · rw [q1, q2]
            repeat' first | exact plainIL _ _ | exact trivial | exact rfl | exact wk_refl _ | refine wkO_cells ?_ | refine wks_cons ?_ ?_ | exact wks_nil | exact wk_nil _ _ _ (.inl rfl) | (exact wk_Q (by omega)) | refine wk_tupL ?_ | refine wk_aggL ?_ | refine joinMax ?_ ?_ ?_ | refine joinMin ?_ ?_ ?_ | refine toMax ?_ | refine toMin ?_ | refine ⟨rfl, ?_⟩ | refine ⟨trivial, ?_⟩ | (refine forkD (fun h => ?_) (fun h => ?_)) | (refine forkNe (fun h => ?_) (fun h => ?_)) | (refine forkEq (fun h => ?_) (fun h => ?_)) | refine forkNot ?_ | (refine ⟨vI64 (by omega), ?_⟩) | (refine And.intro (by omega) ?_) | apply And.intro | (exact iEq (by omega)) | (exact vI64 (by omega))
          rintro x4 ⟨i1, i2, i3⟩
          have hcl := cmpTo_len i2
          refine forkD (fun k4 => ?_) (fun k4 => ?_)
          · have hm : x3 + x4 < S.length := by omega
            have g1 := cmpTo_get (S := S) (m := x3 + x4) (k := x3 + x4) (by omega)
            have g2 := cmpTo_get (S := S) (m := x3 + x4) (k := x3 + x4 - 1) (by omega)
            have a1 : ∀ off, off = x3 + x4 → ((cmpTo S (x3 + x4)).flatMap intC)[off]? = some (.int .i64 ((cmpTo S (x3 + x4)).getD (x3 + x4) 0)) := fun off ho => intAt (by omega) ho
            rw [show x3 + Int.toNat ((x4 : Int) - 1) = x3 + x4 - 1 by omega]
            refine ⟨by omega, a1 _ (by omega), vI64 (by omega), by omega, intAt (by omega) (by omega), ?_⟩
            rw [g1, g2]
            rw [g1] at a1
            refine forkNe (fun q => ?_) (fun q => ?_)
            · obtain ⟨e1, e2⟩ := cmpN_ne (by omega) hm q i3
              have hset := flat_set intC_len (cmpTo S (x3 + x4)) (cmpN S (x3 + x4)) (by rw [hcl]; omega) (S.getD (x3 + x4) 0)
              refine ⟨((cmpN S (x3 + x4) : Nat) : Int), rfl, by omega, a1 _ (by omega), by omega, ?_, rfl, _, rfl, vI64 (by omega), vI64 (by omega), x4 + 1, ⟨by omega, by omega, ?_⟩, by omega, rfl, ?_⟩
              · rw [flat_len intC_len, hcl]; omega
              · rw [← Nat.add_assoc, e1]; omega
              · rw [← Nat.add_assoc, e1, show 0 + Int.toNat ((cmpN S (x3 + x4) : Nat) : Int) * 1 = cmpN S (x3 + x4) * 1 by omega, hset, e2]
                repeat' first | exact plainIL _ _ | exact trivial | exact rfl | exact wk_refl _ | refine wkO_cells ?_ | refine wks_cons ?_ ?_ | exact wks_nil | exact wk_nil _ _ _ (.inl rfl) | (exact wk_Q (by omega)) | refine wk_tupL ?_ | refine wk_aggL ?_ | refine joinMax ?_ ?_ ?_ | refine joinMin ?_ ?_ ?_ | refine toMax ?_ | refine toMin ?_ | refine ⟨rfl, ?_⟩ | refine ⟨trivial, ?_⟩ | (refine forkD (fun h => ?_) (fun h => ?_)) | (refine forkNe (fun h => ?_) (fun h => ?_)) | (refine forkEq (fun h => ?_) (fun h => ?_)) | refine forkNot ?_ | (refine ⟨vI64 (by omega), ?_⟩) | (refine And.intro (by omega) ?_) | apply And.intro | (exact iEq (by omega)) | (exact vI64 (by omega))
            · obtain ⟨e1, e2⟩ := cmpN_eq (by omega) hm q
              refine ⟨vI64 (by omega), x4 + 1, ⟨by omega, by omega, by rw [← Nat.add_assoc, e1]; omega⟩, by omega, rfl, ?_⟩
              rw [← Nat.add_assoc, e1, e2]
              repeat' first | exact plainIL _ _ | exact trivial | exact rfl | exact wk_refl _ | refine wkO_cells ?_ | refine wks_cons ?_ ?_ | exact wks_nil | exact wk_nil _ _ _ (.inl rfl) | (exact wk_Q (by omega)) | refine wk_tupL ?_ | refine wk_aggL ?_ | refine joinMax ?_ ?_ ?_ | refine joinMin ?_ ?_ ?_ | refine toMax ?_ | refine toMin ?_ | refine ⟨rfl, ?_⟩ | refine ⟨trivial, ?_⟩ | (refine forkD (fun h => ?_) (fun h => ?_)) | (refine forkNe (fun h => ?_) (fun h => ?_)) | (refine forkEq (fun h => ?_) (fun h => ?_)) | refine forkNot ?_ | (refine ⟨vI64 (by omega), ?_⟩) | (refine And.intro (by omega) ?_) | apply And.intro | (exact iEq (by omega)) | (exact vI64 (by omega))
          · have hm : x3 + x4 = S.length := by omega
            have hn : cmpN S (x3 + x4) = (comp S).length := by unfold cmpN; rw [hm, List.take_length]
            have hto : cmpTo S (x3 + x4) = comp S ++ S.drop (comp S).length := by unfold cmpTo; rw [hn, hm, List.take_length]
            have hle := comp_len S
            rw [hn, hto]
            refine ⟨_, rfl, ⟨⟨.inr (.inr rfl), Nat.le_refl _⟩, Nat.le_refl _, by omega, by omega⟩, ?_, rfl, _, rfl, ⟨⟨.inr (.inr rfl), by omega⟩, by omega, Nat.zero_le _⟩, by rw [Nat.sub_zero], rfl, ?_⟩
            · rw [flat_len intC_len, List.length_append, List.length_drop]; omega
            · rw [Int.toNat_natCast, setl_tail rfl (by rw [List.length_drop]; omega), hpad]
              repeat' first | exact plainIL _ _ | exact trivial | exact rfl | exact wk_refl _ | refine wkO_cells ?_ | refine wks_cons ?_ ?_ | exact wks_nil | exact wk_nil _ _ _ (.inl rfl) | (exact wk_Q (by omega)) | refine wk_tupL ?_ | refine wk_aggL ?_ | refine joinMax ?_ ?_ ?_ | refine joinMin ?_ ?_ ?_ | refine toMax ?_ | refine toMin ?_ | refine ⟨rfl, ?_⟩ | refine ⟨trivial, ?_⟩ | (refine forkD (fun h => ?_) (fun h => ?_)) | (refine forkNe (fun h => ?_) (fun h => ?_)) | (refine forkEq (fun h => ?_) (fun h => ?_)) | refine forkNot ?_ | (refine ⟨vI64 (by omega), ?_⟩) | (refine And.intro (by omega) ?_) | apply And.intro | (exact iEq (by omega)) | (exact vI64 (by omega))
        · refine ⟨vI64 (by omega), x3 + 1, ⟨by omega, by omega, comp_all j1 hx3 j3 q⟩, by omega, rfl, ?_⟩
          repeat' first | exact plainIL _ _ | exact trivial | exact rfl | exact wk_refl _ | refine wkO_cells ?_ | refine wks_cons ?_ ?_ | exact wks_nil | exact wk_nil _ _ _ (.inl rfl) | (exact wk_Q (by omega)) | refine wk_tupL ?_ | refine wk_aggL ?_ | refine joinMax ?_ ?_ ?_ | refine joinMin ?_ ?_ ?_ | refine toMax ?_ | refine toMin ?_ | refine ⟨rfl, ?_⟩ | refine ⟨trivial, ?_⟩ | (refine forkD (fun h => ?_) (fun h => ?_)) | (refine forkNe (fun h => ?_) (fun h => ?_)) | (refine forkEq (fun h => ?_) (fun h => ?_)) | refine forkNot ?_ | (refine ⟨vI64 (by omega), ?_⟩) | (refine And.intro (by omega) ?_) | apply And.intro | (exact iEq (by omega)) | (exact vI64 (by omega))
      · obtain rfl : x3 = S.length := by omega
        rw [List.take_length] at j3
        rw [hdone j3, hfin j3]
        exact ⟨rfl, wk_QR, ⟨rfl, plainIL _ _⟩, trivial⟩
end
end Go.Proofs.Ytkkgnalgmebfjaa
/- What is to be shown of functions. Printed by a program. No condition. -/
namespace Go.Proofs.Ytkkgnalgmebfjaa
set_option linter.unusedSimpArgs false
open Go Go.K
set_option maxRecDepth 100000
set_option maxHeartbeats 4000000
set_option linter.unusedVariables false
noncomputable section
def RSameTruths (sp : Value) (a : List Bool) : Prop :=
  (((((((List.length a) : Nat) : Int) : Int) != (((List.length a) : Nat) : Int)) = true → (.bool false : Value) = sp) ∧ ((((((List.length a) : Nat) : Int) : Int) != (((List.length a) : Nat) : Int)) = false → (true = true ∧ (0 ≤ List.length a) ∧ (true = true ∧ ((.int .i64 0 : Value) = .int .i64 ((0 : Nat) : Int) ∧ wk (.slice (some ⟨1, 0, some 2⟩) (List.length a) (List.length a) : Value) (.slice (some ⟨1, 0, some 2⟩) (List.length a) (List.length a) : Value) ∧ wk (.slice (some ⟨0, 0, some 2⟩) (List.length a) (List.length a) : Value) (.slice (some ⟨0, 0, some 2⟩) (List.length a) (List.length a) : Value) ∧ True) ∧ (True) ∧ (True) ∧ (True)) ∧ (∀ x0 : Nat, true = true) ∧ ∀ x0 : Nat, (x0 ≤ List.length a) → (((decide ((((x0 : Nat) : Int) : Int) < (((List.length a) : Nat) : Int))) = true → (((0 : Int) ≤ ((x0 : Nat) : Int) ∧ (((x0 : Nat) : Int) : Int) < (((List.length a) : Nat) : Int)) ∧ (((List.flatMap boolC a)[(0 + Int.toNat ((x0 : Nat) : Int) * 1)]? = some (.bool (List.getD a x0 false))) ∧ (((0 : Int) ≤ ((x0 : Nat) : Int) ∧ (((x0 : Nat) : Int) : Int) < (((List.length a) : Nat) : Int)) ∧ (((List.flatMap boolC a)[(0 + Int.toNat ((x0 : Nat) : Int) * 1)]? = some (.bool (List.getD a x0 false))) ∧ (((!((List.getD a x0 false) == (List.getD a x0 false))) = true → (.bool false : Value) = sp) ∧ ((!((List.getD a x0 false) == (List.getD a x0 false))) = false → ((.int .i64 (IntKind.wrap .i64 (((x0 : Nat) : Int) + 1)) : Value) = .int .i64 (((x0 : Nat) : Int) + 1) ∧ (∃ x0' : Nat, (x0' ≤ List.length a) ∧ (List.length a - x0') < (List.length a - x0) ∧ true = true ∧ ((.int .i64 (((x0 : Nat) : Int) + 1) : Value) = .int .i64 ((x0' : Nat) : Int) ∧ wk (.slice (some ⟨1, 0, some 2⟩) (List.length a) (List.length a) : Value) (.slice (some ⟨1, 0, some 2⟩) (List.length a) (List.length a) : Value) ∧ wk (.slice (some ⟨0, 0, some 2⟩) (List.length a) (List.length a) : Value) (.slice (some ⟨0, 0, some 2⟩) (List.length a) (List.length a) : Value) ∧ True) ∧ (True) ∧ (True) ∧ (True)))))))))) ∧ ((decide ((((x0 : Nat) : Int) : Int) < (((List.length a) : Nat) : Int))) = false → (.bool true : Value) = sp)))))
theorem ESameTruths (sp : Value) (a : List Bool) : vF prog msk (dm 0) 100000 true 40 true 82 [.slice (some ⟨0, 0, some 2⟩) (List.length a) (List.length a), .slice (some ⟨1, 0, some 2⟩) (List.length a) (List.length a)] (readsT 0 [a.flatMap boolC, a.flatMap boolC]) (some [])
  (.go 5 (.fork (.auto) (.go 0 (.inv 3 (Nat) (0) [] [] (fun x0 => [(5, .int .i64 ((x0 : Nat) : Int)), (1, .slice (some ⟨1, 0, some 2⟩) (List.length a) (List.length a)), (0, .slice (some ⟨0, 0, some 2⟩) (List.length a) (List.length a))]) (fun x0 => []) (fun x0 => []) (fun x0 => []) (fun x0 => (x0 ≤ List.length a)) (fun x0 => (List.length a - x0)) (fun x0 => .go 3 (.fork (.go 1 (.need (.val (.bool (List.getD a x0 false)) (.go 1 (.need (.val (.bool (List.getD a x0 false)) (.go 0 (.fork (.auto) (.go 1 (.slot 16 (.int .i64 (((x0 : Nat) : Int) + 1)) (.go 0 (.again [])))))))))))) (.auto)))))))
  (fun v _ _ => v = sp) = RSameTruths sp a := by kernel_rfl
def RBasin (w h : Int) (a : List Bool) : Prop :=
  (((List.length a) = 0 → (((0 + (List.length a)) * 1 ≤ 2 ^ 44 ∧ (List.length a) = 0) ∧ (true = true ∧ wk (.agg #[.int .i64 w, .int .i64 h, .slice none 0 0] : Value) (rn (sg 1 []) 3 (.agg #[.int .i64 w, .int .i64 h, .slice (some ⟨1, 0, some 1⟩) (List.length a) (List.length a)] : Value)) ∧ (True ∧ True)))) ∧ (¬ ((List.length a) = 0) → (((0 + (List.length a)) * 1 ≤ 2 ^ 44 ∧ (List.length a) ≠ 0 ∧ (0 = 0) ∧ ((List.length a) ≤ (List.length a) ∧ 0 + (List.length a) * 1 ≤ List.length (List.flatMap boolC a)) ∧ ((List.take ((List.length a) * 1) (List.drop 0 (List.flatMap boolC a))) : List Value).all (fun v => one1 v) = true) ∧ true = true ∧ (true = true ∧ wk (.agg #[.int .i64 w, .int .i64 h, .slice (some ⟨3, 0, none⟩) (0 + (List.length a)) (0 + (List.length a))] : Value) (rn (sg 1 [(1, 3)]) 3 (.agg #[.int .i64 w, .int .i64 h, .slice (some ⟨1, 0, some 1⟩) (List.length a) (List.length a)] : Value)) ∧ ((some (.cells true 1 ([] ++ (List.take ((List.length a) * 1) (List.drop 0 (List.flatMap boolC a)))) : KObj) = some (.cells true 1 (List.flatMap boolC a) : KObj) ∧ belowO 1 (.cells true 1 (List.flatMap boolC a) : KObj) = true) ∧ True)))))
theorem EBasin (w h : Int) (a : List Bool) : vF prog msk (dm 0) 100000 true 40 true 18 [.agg #[.int .i64 w, .int .i64 h, .slice (some ⟨0, 0, some 2⟩) (List.length a) (List.length a)]] (readsT 0 [a.flatMap boolC]) (some [])
  (.go 12 (.cas ((List.length a) = 0) (.val (.bool true) (.go 2 (.again []))) (.need (.go 2 (.again [(1, 3)])))))
  (newK ((readsT 0 [a.flatMap boolC]) : HT).n 3 (.agg #[.int .i64 w, .int .i64 h, .slice (some ⟨1, 0, some 1⟩) (List.length a) (List.length a)]) [(true, .cells true 1 (List.flatMap boolC a))]) = RBasin w h a := by kernel_rfl
end
end Go.Proofs.Ytkkgnalgmebfjaa
/- Drift: targets, and how the law compares. No condition. -/
namespace Go.Proofs.Ytkkgnalgmebfjaa
open Go Go.K
set_option maxRecDepth 100000
set_option linter.unusedVariables false
set_option linter.unusedSimpArgs false
noncomputable section
attribute [local irreducible] vF
/-- An answer with one new list, of a function that reads two. -/
theorem valQ2 {f : FuncId} {args : List Value} {c d : List Value} {h : Hint} (v : Nat → Value) {z : Nat} {cs : List Value}
    (hc : vF prog msk (dm 0) 100000 true 40 true f args (readsT 0 [c, d]) (some []) h (newK (readsT 0 [c, d]).n 3 (v 2) [(true, .cells true z cs)]))
    (hp0 : c.all (belowC 0) = true) (hp1 : d.all (belowC 0) = true) (hp : ∀ n, cs.all (belowC n) = true) (h1 : rnOk 3 (v 2) = true) (h2 : rn (sgOnly (0 + 2)) 3 (v 2) = v 2) (h3 : ∀ j, rn (sgUp (0 + 2) j) 3 (v 2) = v j)
    {H : Heap} {id id2 : Nat} {own own2 : Bool} {z2 z3 : Nat} (hid : H[id]? = some (.cells own z2 c)) (hid2 : H[id2]? = some (.cells own2 z3 d)) {args' : List Value} (ha : args.map (rn (sgR 0 [id, id2]) 3) = args') :
    KCall prog f args' H [] (Is (v H.length) (H ++ [.cells true z cs])) := by
  subst ha
  have key := valN (css := [c, d]) (v := v 2) (new := [(true, .cells true z cs)]) hc (twoCs hp0 hp1) h1 h2
    (by show ((rnoOk 3 (.cells true z cs) && true) && true) = true
        rw [Bool.and_true, Bool.and_true]; exact (rnCl (σ := fun _ => none) (d := 0) (hp 0)).2)
    (congrArg (fun q => [KObj.cells true z q]) (rnCl (d := 0) (hp 0)).1) (H := H) [id, id2] rfl (twoId hid hid2)
  have e2 : (List.map (fun x : Bool × KObj => x.2) [(true, KObj.cells true z cs)]).map (rno (sgUp (0 + [c, d].length) H.length) 3) = [.cells true z cs] :=
    congrArg (fun q => [KObj.cells true z q]) (rnCl (d := 0) (hp 0)).1
  rw [e2, show rn (sgUp (0 + [c, d].length) H.length) 3 (v 2) = v H.length from h3 _] at key
  exact key
theorem errFlows_0 {w h : Int} {n : Nat} {l : List Flow} (e : errFlows w h n l = 0) : errBas w h n = 0 ∧ l.length = n ∧ errF l = 0 := by
  unfold errFlows first2 at e
  split at e
  · rename_i h0
    split at e
    · rename_i h1; exact ⟨h0, h1, e⟩
    · omega
  · rename_i h0; exact absurd e h0
theorem errF_all : ∀ {l : List Flow}, errF l = 0 → ∀ f ∈ l, rightF f
  | [], _, f, hf => by cases hf
  | g :: r, e, f, hf => by
    unfold errF at e
    split at e
    · rename_i hg
      rcases List.mem_cons.1 hf with rfl | hf
      · exact hg
      · exact errF_all e f hf
    · omega
theorem tgts_comp {w h : Int} {a : List Bool} {c : Int} {f : Flow} (b : BasOk w h a.length) (hc : 0 ≤ c ∧ c < w * h) : comp (srtI (tgL w h a c f)) = tgts w h a c f :=
  comp_trues (n := Int.toNat (w * h)) fun z hz => by
    have := tgL_bd (a := a) (f := f) hc z hz
    have := b.n1
    omega
theorem notB {b : Bool} (h : (!b) = true) : b = false := by cases b <;> first | rfl | cases h
theorem notB2 {b : Bool} (h : (!b) = false) : b = true := by cases b <;> first | rfl | cases h
theorem kSameTruths (a : List Bool) (ha : a.length ≤ 4294967296) {H : Heap} {id id2 : Nat} {own own2 : Bool} {z z2 : Nat} (hid : H[id]? = some (.cells own z (a.flatMap boolC))) (hid2 : H[id2]? = some (.cells own2 z2 (a.flatMap boolC))) :
    KCall prog F.polynyakit_SameTruths [.slice (some ⟨id, 0, some 2⟩) a.length a.length, .slice (some ⟨id2, 0, some 2⟩) a.length a.length] H [] (Is (.bool true) H) := by
  refine valR (Eq.mpr (ESameTruths _ a) ?_) (twoCs (plainBL 0 _) (plainBL 0 _)) rfl [id, id2] rfl (twoId hid hid2)
  unfold RSameTruths
  refine forkF (by simp only [bne_self_eq_false, beq_self_eq_true, Bool.and_self, Bool.not_true, Bool.not_false]) ⟨rfl, Nat.zero_le _, ?_, fun _ => rfl, ?_⟩
  · repeat' first | exact trivial | exact rfl | exact wk_refl _ | refine wkO_cells ?_ | refine wks_cons ?_ ?_ | exact wks_nil | exact wk_nil _ _ _ (.inl rfl) | (exact wk_Q (by omega)) | refine wk_tupL ?_ | refine wk_aggL ?_ | refine joinMax ?_ ?_ ?_ | refine joinMin ?_ ?_ ?_ | refine toMax ?_ | refine toMin ?_ | refine ⟨rfl, ?_⟩ | refine ⟨trivial, ?_⟩ | (refine forkD (fun h => ?_) (fun h => ?_)) | (refine forkNe (fun h => ?_) (fun h => ?_)) | (refine forkEq (fun h => ?_) (fun h => ?_)) | refine forkNot ?_ | (refine ⟨vI64 (by omega), ?_⟩) | (refine And.intro (by omega) ?_) | apply And.intro | (exact iEq (by omega)) | (exact vI64 (by omega))
  intro k hk
  refine forkD (fun h => ?_) (fun h => rfl)
  have hlt : k < a.length := by omega
  refine ⟨by omega, boolAt hlt (by omega), by omega, boolAt hlt (by omega), forkF (by simp only [bne_self_eq_false, beq_self_eq_true, Bool.and_self, Bool.not_true, Bool.not_false]) ⟨vI64 (by omega), k + 1, by omega, by omega, rfl, ?_⟩⟩
  repeat' first | exact trivial | exact rfl | exact wk_refl _ | refine wkO_cells ?_ | refine wks_cons ?_ ?_ | exact wks_nil | exact wk_nil _ _ _ (.inl rfl) | (exact wk_Q (by omega)) | refine wk_tupL ?_ | refine wk_aggL ?_ | refine joinMax ?_ ?_ ?_ | refine joinMin ?_ ?_ ?_ | refine toMax ?_ | refine toMin ?_ | refine ⟨rfl, ?_⟩ | refine ⟨trivial, ?_⟩ | (refine forkD (fun h => ?_) (fun h => ?_)) | (refine forkNe (fun h => ?_) (fun h => ?_)) | (refine forkEq (fun h => ?_) (fun h => ?_)) | refine forkNot ?_ | (refine ⟨vI64 (by omega), ?_⟩) | (refine And.intro (by omega) ?_) | apply And.intro | (exact iEq (by omega)) | (exact vI64 (by omega))
theorem kBasin (w h : Int) (a : List Bool) (ha : a.length ≤ 4294967296) {H : Heap} {L : Nat} (hL : H.length = L) {id : Nat} {own : Bool} {z : Nat} (hid : H[id]? = some (.cells own z (a.flatMap boolC))) :
    KCall prog F.polynyalaw02_Basin [basV w h id a.length] H [] (Is (.agg #[.int .i64 w, .int .i64 h, .slice (some ⟨L, 0, some 1⟩) a.length a.length]) (H ++ [.cells true 1 (a.flatMap boolC)])) := by
  subst hL
  refine valQ (fun i => .agg #[.int .i64 w, .int .i64 h, .slice (some ⟨i, 0, some 1⟩) a.length a.length]) (Eq.mpr (EBasin w h a) ?_) (plainBL 0 a) (fun n => plainBL n _) rfl rfl (fun _ => rfl) hid rfl
  unfold RBasin
  have hfl : (a.flatMap boolC).length = a.length * 1 := flat_len boolC_len a
  refine ⟨fun h0 => ⟨⟨by omega, h0⟩, ?_⟩, fun h0 => ⟨⟨by omega, h0, rfl, ⟨Nat.le_refl _, by omega⟩, ?_⟩, rfl, ?_⟩⟩
  · rw [h0]
    repeat' first | exact trivial | exact rfl | exact wk_refl _ | refine wkO_cells ?_ | refine wks_cons ?_ ?_ | exact wks_nil | exact wk_nil _ _ _ (.inl rfl) | (exact wk_Q (by omega)) | refine wk_tupL ?_ | refine wk_aggL ?_ | refine joinMax ?_ ?_ ?_ | refine joinMin ?_ ?_ ?_ | refine toMax ?_ | refine toMin ?_ | refine ⟨rfl, ?_⟩ | refine ⟨trivial, ?_⟩ | (refine forkD (fun h => ?_) (fun h => ?_)) | (refine forkNe (fun h => ?_) (fun h => ?_)) | (refine forkEq (fun h => ?_) (fun h => ?_)) | refine forkNot ?_ | (refine ⟨vI64 (by omega), ?_⟩) | (refine And.intro (by omega) ?_) | apply And.intro | (exact iEq (by omega)) | (exact vI64 (by omega))
  · rw [List.drop_zero, ← hfl, List.take_length]
    exact List.all_eq_true.2 fun v hv => by obtain ⟨b, _, hb⟩ := List.mem_flatMap.1 hv; rw [List.mem_singleton.1 hb]; rfl
  · rw [List.drop_zero, ← hfl, List.take_length, List.nil_append, Nat.zero_add]
    repeat' first | exact plainBL _ _ | exact trivial | exact rfl | exact wk_refl _ | refine wkO_cells ?_ | refine wks_cons ?_ ?_ | exact wks_nil | exact wk_nil _ _ _ (.inl rfl) | (exact wk_Q (by omega)) | refine wk_tupL ?_ | refine wk_aggL ?_ | refine joinMax ?_ ?_ ?_ | refine joinMin ?_ ?_ ?_ | refine toMax ?_ | refine toMin ?_ | refine ⟨rfl, ?_⟩ | refine ⟨trivial, ?_⟩ | (refine forkD (fun h => ?_) (fun h => ?_)) | (refine forkNe (fun h => ?_) (fun h => ?_)) | (refine forkEq (fun h => ?_) (fun h => ?_)) | refine forkNot ?_ | (refine ⟨vI64 (by omega), ?_⟩) | (refine And.intro (by omega) ?_) | apply And.intro | (exact iEq (by omega)) | (exact vI64 (by omega))
end
end Go.Proofs.Ytkkgnalgmebfjaa
/- Ice: what all texts share. No condition. -/
namespace Go.Proofs.Ytkkgnalgmebfjaa
set_option linter.unusedSimpArgs false
open Go Go.K
set_option maxRecDepth 100000
set_option linter.unusedVariables false
noncomputable section
theorem i64_eq {a b : Int} (h : a = b) : (Value.int .i64 a) = .int .i64 b := by rw [h]
structure Cell where
  conc : Span
  thick : Span
  ridge : Span
  press : Span
structure Ice where
  conc : Int
  thick : Int
  ridge : Int
  press : Int
structure Rates where
  up : Ice
  down : Ice
structure Report where
  id : Int
  source : Int
  at_ : Int
  x : Int
  y : Int
  has : Int
  cell : Cell
abbrev cellC (c : Cell) : List Value := [.int .i64 c.conc.lo, .int .i64 c.conc.hi, .int .i64 c.thick.lo, .int .i64 c.thick.hi, .int .i64 c.ridge.lo, .int .i64 c.ridge.hi, .int .i64 c.press.lo, .int .i64 c.press.hi]
abbrev cellV (c : Cell) : Value := .agg ⟨cellC c⟩
end
end Go.Proofs.Ytkkgnalgmebfjaa
/- What is to be shown of functions. Printed by a program. No condition. -/
namespace Go.Proofs.Ytkkgnalgmebfjaa
set_option linter.unusedSimpArgs false
open Go Go.K
set_option maxRecDepth 100000
set_option maxHeartbeats 4000000
set_option linter.unusedVariables false
noncomputable section
def RCheckCell (sp : Value) (c : Cell) : Prop :=
  (((decide ((0 : Int) ≤ c.conc.lo)) = true → (((decide ((c.conc.lo : Int) ≤ 100)) = true → (((decide ((c.conc.lo : Int) ≤ c.conc.hi)) = true → (((!(decide ((c.conc.hi : Int) ≤ 100))) = true → (.int .i64 20 : Value) = sp) ∧ ((!(decide ((c.conc.hi : Int) ≤ 100))) = false → (((decide ((0 : Int) ≤ c.thick.lo)) = true → (((decide ((c.thick.lo : Int) ≤ 400)) = true → (((decide ((c.thick.lo : Int) ≤ c.thick.hi)) = true → (((!(decide ((c.thick.hi : Int) ≤ 400))) = true → (.int .i64 20 : Value) = sp) ∧ ((!(decide ((c.thick.hi : Int) ≤ 400))) = false → (((decide ((0 : Int) ≤ c.ridge.lo)) = true → (((decide ((c.ridge.lo : Int) ≤ 100)) = true → (((decide ((c.ridge.lo : Int) ≤ c.ridge.hi)) = true → (((!(decide ((c.ridge.hi : Int) ≤ 100))) = true → (.int .i64 20 : Value) = sp) ∧ ((!(decide ((c.ridge.hi : Int) ≤ 100))) = false → (((decide ((0 : Int) ≤ c.press.lo)) = true → (((decide ((c.press.lo : Int) ≤ 3)) = true → (((decide ((c.press.lo : Int) ≤ c.press.hi)) = true → (((!(decide ((c.press.hi : Int) ≤ 3))) = true → (.int .i64 20 : Value) = sp) ∧ ((!(decide ((c.press.hi : Int) ≤ 3))) = false → (.int .i64 0 : Value) = sp))) ∧ ((decide ((c.press.lo : Int) ≤ c.press.hi)) = false → (.int .i64 20 : Value) = sp))) ∧ ((decide ((c.press.lo : Int) ≤ 3)) = false → (.int .i64 20 : Value) = sp))) ∧ ((decide ((0 : Int) ≤ c.press.lo)) = false → (.int .i64 20 : Value) = sp))))) ∧ ((decide ((c.ridge.lo : Int) ≤ c.ridge.hi)) = false → (.int .i64 20 : Value) = sp))) ∧ ((decide ((c.ridge.lo : Int) ≤ 100)) = false → (.int .i64 20 : Value) = sp))) ∧ ((decide ((0 : Int) ≤ c.ridge.lo)) = false → (.int .i64 20 : Value) = sp))))) ∧ ((decide ((c.thick.lo : Int) ≤ c.thick.hi)) = false → (.int .i64 20 : Value) = sp))) ∧ ((decide ((c.thick.lo : Int) ≤ 400)) = false → (.int .i64 20 : Value) = sp))) ∧ ((decide ((0 : Int) ≤ c.thick.lo)) = false → (.int .i64 20 : Value) = sp))))) ∧ ((decide ((c.conc.lo : Int) ≤ c.conc.hi)) = false → (.int .i64 20 : Value) = sp))) ∧ ((decide ((c.conc.lo : Int) ≤ 100)) = false → (.int .i64 20 : Value) = sp))) ∧ ((decide ((0 : Int) ≤ c.conc.lo)) = false → (.int .i64 20 : Value) = sp))
theorem ECheckCell (sp : Value) (c : Cell) : vF prog msk (dm 0) 100000 true 40 true 104 [.agg #[.int .i64 c.conc.lo, .int .i64 c.conc.hi, .int .i64 c.thick.lo, .int .i64 c.thick.hi, .int .i64 c.ridge.lo, .int .i64 c.ridge.hi, .int .i64 c.press.lo, .int .i64 c.press.hi]] ⟨0, .leaf⟩ (some [])
  (.go 54 (.gfork (.go 5 (.gfork (.go 15 (.gfork (.go 8 (.fork (.auto) (.go 30 (.gfork (.go 5 (.gfork (.go 15 (.gfork (.go 8 (.fork (.auto) (.go 30 (.gfork (.go 5 (.gfork (.go 15 (.gfork (.go 8 (.fork (.auto) (.go 30 (.gfork (.go 5 (.gfork (.go 15 (.gfork (.go 8 (.fork (.auto) (.auto))) (.auto))) (.auto))) (.auto))))) (.auto))) (.auto))) (.auto))))) (.auto))) (.auto))) (.auto))))) (.auto))) (.auto))) (.auto)))
  (fun v _ _ => v = sp) = RCheckCell sp c := by kernel_rfl
end
end Go.Proofs.Ytkkgnalgmebfjaa
/- Ice: the contracts of the functions of values alone. No condition. -/
namespace Go.Proofs.Ytkkgnalgmebfjaa
open Go Go.K
set_option maxRecDepth 100000
set_option linter.unusedVariables false
set_option linter.unusedSimpArgs false
noncomputable section
/-! ## What they compute -/
def rightSp (s : Span) (m : Int) : Prop := 0 ≤ s.lo ∧ s.lo ≤ m ∧ s.lo ≤ s.hi ∧ s.hi ≤ m
def rightC (c : Cell) : Prop := rightSp c.conc 100 ∧ rightSp c.thick 400 ∧ rightSp c.ridge 100 ∧ rightSp c.press 3
def rightI (x : Ice) : Prop := (0 ≤ x.conc ∧ x.conc ≤ 100) ∧ (0 ≤ x.thick ∧ x.thick ≤ 400) ∧ (0 ≤ x.ridge ∧ x.ridge ≤ 100) ∧ 0 ≤ x.press ∧ x.press ≤ 3
def rateI (x : Ice) : Prop := (0 ≤ x.conc ∧ x.conc ≤ 1000) ∧ (0 ≤ x.thick ∧ x.thick ≤ 1000) ∧ (0 ≤ x.ridge ∧ x.ridge ≤ 1000) ∧ 0 ≤ x.press ∧ x.press ≤ 1000
def rightR (m : Rates) : Prop := rateI m.up ∧ rateI m.down
instance (s : Span) (m : Int) : Decidable (rightSp s m) := by unfold rightSp; infer_instance
instance (c : Cell) : Decidable (rightC c) := by unfold rightC; infer_instance
instance (x : Ice) : Decidable (rightI x) := by unfold rightI; infer_instance
instance (x : Ice) : Decidable (rateI x) := by unfold rateI; infer_instance
instance (m : Rates) : Decidable (rightR m) := by unfold rightR; infer_instance
def errCell (c : Cell) : Int := if rightC c then 0 else 20
def zeroC : Cell := ⟨⟨0, 0⟩, ⟨0, 0⟩, ⟨0, 0⟩, ⟨0, 0⟩⟩
def hasS (s : Span) (n : Int) : Prop := s.lo ≤ n ∧ n ≤ s.hi
def hasC (c : Cell) (x : Ice) : Prop := hasS c.conc x.conc ∧ hasS c.thick x.thick ∧ hasS c.ridge x.ridge ∧ hasS c.press x.press
def insS (s t : Span) : Prop := t.lo ≤ s.lo ∧ s.hi ≤ t.hi
def insC (a b : Cell) : Prop := insS a.conc b.conc ∧ insS a.thick b.thick ∧ insS a.ridge b.ridge ∧ insS a.press b.press
def okC (c : Cell) : Prop := c.conc.lo ≤ c.conc.hi ∧ c.thick.lo ≤ c.thick.hi ∧ c.ridge.lo ≤ c.ridge.hi ∧ c.press.lo ≤ c.press.hi
instance (s : Span) (n : Int) : Decidable (hasS s n) := by unfold hasS; infer_instance
instance (c : Cell) (x : Ice) : Decidable (hasC c x) := by unfold hasC; infer_instance
instance (s t : Span) : Decidable (insS s t) := by unfold insS; infer_instance
instance (a b : Cell) : Decidable (insC a b) := by unfold insC; infer_instance
instance (c : Cell) : Decidable (okC c) := by unfold okC; infer_instance
def chg (rate hours : Int) : Int := (rate * hours + 23) / 24
/-! ## Numbers -/
theorem mulb {a b A B : Int} (h1 : 0 ≤ a) (h2 : a ≤ A) (h3 : 0 ≤ b) (h4 : b ≤ B) : 0 ≤ a * b ∧ a * b ≤ A * B :=
  ⟨Int.mul_nonneg h1 h3, Int.mul_le_mul h2 h4 h3 (Int.le_trans h1 h2)⟩

/-! ## Contracts -/
theorem errCell_pos {c : Cell} (h : rightC c) : errCell c = 0 := if_pos h
theorem errCell_neg {c : Cell} (h : ¬ rightC c) : errCell c = 20 := if_neg h
theorem kCheckCell (c : Cell) (H : Heap) : KCall prog F.ice_CheckCell [cellV c] H [] (Is (.int .i64 (errCell c)) H) := by
  refine valK 40 (fun _ => rfl) rfl (Eq.mpr (ECheckCell _ c) ?_) H
  unfold RCheckCell
  simp only [decide_eq_true_eq, decide_eq_false_iff_not, Bool.not_eq_true', Bool.not_eq_false']
  repeat' (first | apply And.intro | intro _)
  all_goals first
    | exact i64_eq (errCell_neg (by unfold rightC rightSp; omega)).symm
    | exact i64_eq (errCell_pos (by unfold rightC rightSp; omega)).symm
/-! ## Two errors, then an answer -/
end
end Go.Proofs.Ytkkgnalgmebfjaa
/- Ice: lists of errors; the first cell, ice, report. No condition. -/
namespace Go.Proofs.Ytkkgnalgmebfjaa
set_option linter.unusedSimpArgs false
set_option linter.unusedVariables false
open Go Go.K
noncomputable section
def zeroI : Ice := ⟨0, 0, 0, 0⟩
def errs {α : Type} (e : α → Int) : List α → Int
  | [] => 0
  | x :: r => if e x = 0 then errs e r else e x
end
end Go.Proofs.Ytkkgnalgmebfjaa
/- Ice: the reference's functions of values; lists of errors. No condition. -/
namespace Go.Proofs.Ytkkgnalgmebfjaa
open Go Go.K
set_option maxRecDepth 100000
set_option linter.unusedVariables false
set_option linter.unusedSimpArgs false
noncomputable section
attribute [local irreducible] vF
/-! ## Lists -/
theorem drop_at {α : Type} {xs : List α} {d : α} {k : Nat} (hk : k < xs.length) : xs.drop k = xs.getD k d :: xs.drop (k + 1) := by
  rw [List.drop_eq_getElem_cons hk, List.getD_eq_getElem?_getD, List.getElem?_eq_getElem hk]; rfl
theorem errs_at {α : Type} {e : α → Int} {xs : List α} {d : α} {k : Nat} (hk : k < xs.length) : errs e (xs.drop k) = if e (xs.getD k d) = 0 then errs e (xs.drop (k + 1)) else e (xs.getD k d) := by
  rw [drop_at (d := d) hk]; rfl
end
end Go.Proofs.Ytkkgnalgmebfjaa
/- What is to be shown of functions. Printed by a program. No condition. -/
namespace Go.Proofs.Ytkkgnalgmebfjaa
set_option linter.unusedSimpArgs false
open Go Go.K
set_option maxRecDepth 100000
set_option maxHeartbeats 4000000
set_option linter.unusedVariables false
noncomputable section
def Rsize (sp : Value) (w h t : Int) : Prop :=
  (((decide ((1 : Int) ≤ w)) = true → (((!(decide ((w : Int) ≤ 64))) = true → (.int .i64 6 : Value) = sp) ∧ ((!(decide ((w : Int) ≤ 64))) = false → (((decide ((1 : Int) ≤ h)) = true → (((!(decide ((h : Int) ≤ 64))) = true → (.int .i64 6 : Value) = sp) ∧ ((!(decide ((h : Int) ≤ 64))) = false → ((.int .i64 (IntKind.wrap .i64 (w * h)) : Value) = .int .i64 (w * h) ∧ (((decide ((1024 : Int) < (w * h))) = true → (.int .i64 6 : Value) = sp) ∧ ((decide ((1024 : Int) < (w * h))) = false → (((decide ((0 : Int) ≤ t)) = true → (((!(decide ((t : Int) ≤ 10000))) = true → (.int .i64 6 : Value) = sp) ∧ ((!(decide ((t : Int) ≤ 10000))) = false → (.int .i64 0 : Value) = sp))) ∧ ((decide ((0 : Int) ≤ t)) = false → (.int .i64 6 : Value) = sp)))))))) ∧ ((decide ((1 : Int) ≤ h)) = false → (.int .i64 6 : Value) = sp))))) ∧ ((decide ((1 : Int) ≤ w)) = false → (.int .i64 6 : Value) = sp))
theorem Esize (sp : Value) (w h t : Int) : vF prog msk (dm 0) 100000 true 40 true 132 [.int .i64 w, .int .i64 h, .int .i64 t] ⟨0, .leaf⟩ (some [])
  (.go 7 (.gfork (.go 6 (.gfork (.auto) (.go 6 (.gfork (.go 7 (.gfork (.auto) (.go 2 (.slot 18 (.int .i64 (w * h)) (.go 2 (.gfork (.auto) (.go 6 (.gfork (.go 6 (.fork (.auto) (.auto))) (.auto))))))))) (.auto))))) (.auto)))
  (fun v _ _ => v = sp) = Rsize sp w h t := by kernel_rfl
end
end Go.Proofs.Ytkkgnalgmebfjaa
/- Ice: functions of cells that charts and reports use. No condition. -/
namespace Go.Proofs.Ytkkgnalgmebfjaa
open Go Go.K
set_option maxRecDepth 100000
set_option linter.unusedVariables false
set_option linter.unusedSimpArgs false
noncomputable section
attribute [local irreducible] vF
def sizeOk (w h t : Int) : Prop := (1 ≤ w ∧ w ≤ 64) ∧ (1 ≤ h ∧ h ≤ 64) ∧ w * h ≤ 1024 ∧ (0 ≤ t ∧ t ≤ 10000)
instance (w h t : Int) : Decidable (sizeOk w h t) := by unfold sizeOk; infer_instance
def errSize (w h t : Int) : Int := if sizeOk w h t then 0 else 6
theorem errSize_iff {w h t : Int} : errSize w h t = 0 ↔ sizeOk w h t := by unfold errSize; split <;> simp_all
theorem ksize (w h t : Int) (H : Heap) : KCall prog F.ice_size [.int .i64 w, .int .i64 h, .int .i64 t] H [] (Is (.int .i64 (errSize w h t)) H) := by
  refine valK 40 (fun _ => rfl) rfl (Eq.mpr (Esize _ w h t) ?_) H
  unfold Rsize
  have mb : (1 ≤ w ∧ w ≤ 64) → (1 ≤ h ∧ h ≤ 64) → 0 ≤ w * h ∧ w * h ≤ 64 * 64 := fun h1 h2 => mulb (by omega) h1.2 (by omega) h2.2
  repeat' first | (refine ⟨vI64 (by have := mb ⟨‹_›, ‹_›⟩ ⟨‹_›, ‹_›⟩; omega), ?_⟩) | (exact iEq (if_pos (by unfold sizeOk; omega)).symm) | (exact iEq (if_neg (by unfold sizeOk; omega)).symm) | exact trivial | exact rfl | refine joinMax ?_ ?_ ?_ | refine joinMin ?_ ?_ ?_ | refine toMax ?_ | refine toMin ?_ | refine ⟨rfl, ?_⟩ | refine ⟨trivial, ?_⟩ | (refine forkD (fun h => ?_) (fun h => ?_)) | (refine forkNe (fun h => ?_) (fun h => ?_)) | (refine forkEq (fun h => ?_) (fun h => ?_)) | refine forkNot ?_ | (refine ⟨vI64 (by omega), ?_⟩) | (refine And.intro (by omega) ?_) | apply And.intro | exact wk_refl _ | (exact iEq (by omega)) | (exact vI64 (by omega))
end
end Go.Proofs.Ytkkgnalgmebfjaa
/- Ice: charts: what functions of charts answer. No condition. -/
namespace Go.Proofs.Ytkkgnalgmebfjaa
set_option linter.unusedSimpArgs false
set_option linter.unusedVariables false
open Go Go.K
noncomputable section
structure Chart where
  w : Int
  h : Int
  hour : Int
  cells : List Cell
def errChart (w h t : Int) (cs : List Cell) : Int := first2 (errSize w h t) (if (cs.length : Int) = w * h then errs errCell cs else 1)
end
end Go.Proofs.Ytkkgnalgmebfjaa
