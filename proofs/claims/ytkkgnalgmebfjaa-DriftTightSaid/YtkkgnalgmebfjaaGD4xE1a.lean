/- Drift: where moves lead: what is answered. No condition. -/
import Derived.Test.YtkkgnalgmebfjaaGK27xK32
import Derived.IntWalk
namespace Go.Proofs.Ytkkgnalgmebfjaa
open Go Go.K
set_option maxRecDepth 100000
set_option linter.unusedVariables false
set_option linter.unusedSimpArgs false
noncomputable section
attribute [local irreducible] vF
theorem boolC_len (b : Bool) : (boolC b).length = 1 := rfl
theorem intC_len (x : Int) : (intC x).length = 1 := rfl
theorem plainIL (n : Nat) (l : List Int) : (l.flatMap intC).all (belowC n) = true := plain_flat (fun _ => rfl) l
theorem boolAt {a : List Bool} {k : Nat} (h : k < a.length) {off : Nat} (ho : off = k) : (a.flatMap boolC)[off]? = some (.bool (a.getD k false)) := cell_at (c := 0) boolC_len h (by omega) rfl
theorem intAt {a : List Int} {k : Nat} (h : k < a.length) {off : Nat} (ho : off = k) : (a.flatMap intC)[off]? = some (.int .i64 (a.getD k 0)) := cell_at (c := 0) intC_len h (by omega) rfl
theorem partMove {l : List Move} {x : Nat} (h : x < l.length) : partA 2 (l.flatMap moveC) (0 + Int.toNat ((x : Nat) : Int) * 2) = some (.agg ⟨moveC (l.getD x zeroM)⟩) :=
  part_at (n := 2) (d := zeroM) (c := 0) moveC_len h (by omega) (by omega)
theorem setl_mid : ∀ (n o A B : List Value), o.length = n.length → setl (A ++ (o ++ B)) A.length n = A ++ (n ++ B)
  | [], [], A, B, _ => rfl
  | v :: n, w :: o, A, B, h => by
    have e : (A ++ (w :: o ++ B)).set A.length v = (A ++ [v]) ++ (o ++ B) := by simp
    have := setl_mid n o (A ++ [v]) B (by simpa using h)
    simp only [setl]
    rw [e]
    simpa using this
theorem flat_set {α : Type} {f : α → List Value} {m : Nat} (hf : ∀ x, (f x).length = m) (xs : List α) (k : Nat) (hk : k < xs.length) (y : α) : setl (xs.flatMap f) (k * m) (f y) = (xs.set k y).flatMap f := by
  have e1 : xs = xs.take k ++ xs[k] :: xs.drop (k + 1) := by rw [← List.drop_eq_getElem_cons hk, List.take_append_drop]
  have e2 : xs.set k y = xs.take k ++ y :: xs.drop (k + 1) := by rw [List.set_eq_take_append_cons_drop, if_pos hk]
  have hl : ((xs.take k).flatMap f).length = k * m := by rw [flat_len hf, List.length_take, Nat.min_eq_left (Nat.le_of_lt hk)]
  rw [e2]
  conv => lhs; rw [e1]
  rw [List.flatMap_append, List.flatMap_cons, List.flatMap_append, List.flatMap_cons, ← hl]
  exact setl_mid _ _ _ _ (by rw [hf, hf])
/-- A basin that is right. -/
structure BasOk (w h : Int) (n : Nat) : Prop where
  w1 : 1 ≤ w ∧ w ≤ 64
  h1 : 1 ≤ h ∧ h ≤ 64
  p1 : w * h ≤ 1024
  n1 : (n : Int) = w * h
theorem basOk {w h : Int} {n : Nat} (e : errBas w h n = 0) : BasOk w h n := by
  obtain ⟨b1, b2, b3, b4⟩ := errBas_0 e
  exact ⟨b1, b2, b3, b4⟩
theorem divmod {w h c : Int} {n : Nat} (b : BasOk w h n) (hc : 0 ≤ c ∧ c < w * h) : (0 ≤ Int.tmod c w ∧ Int.tmod c w < w) ∧ (0 ≤ Int.tdiv c w ∧ Int.tdiv c w < h) := by
  have w1 := b.w1
  have e1 : Int.tdiv c w = c / w := Int.tdiv_eq_ediv_of_nonneg hc.1
  have e2 : Int.tmod c w = c % w := Int.tmod_eq_emod_of_nonneg hc.1
  rw [e1, e2]
  refine ⟨⟨Int.emod_nonneg _ (by omega), Int.emod_lt_of_pos _ (by omega)⟩, Int.ediv_nonneg hc.1 (by omega), Int.ediv_lt_of_lt_mul (by omega) (by rw [Int.mul_comm]; exact hc.2)⟩
theorem cellbd {w h x y : Int} (hx : 0 ≤ x ∧ x < w) (hy : 0 ≤ y ∧ y < h) : 0 ≤ y * w + x ∧ y * w + x < w * h := by
  have h1 : 0 ≤ y * w := Int.mul_nonneg hy.1 (by omega)
  have h2 : (y + 1) * w ≤ h * w := Int.mul_le_mul_of_nonneg_right (by omega) (by omega)
  rw [Int.add_mul, Int.one_mul, Int.mul_comm h w] at h2
  omega
def mvOk (m : Move) : Prop := (-2 ≤ m.dx ∧ m.dx ≤ 2) ∧ (-2 ≤ m.dy ∧ m.dy ≤ 2)
def tgIn (w h : Int) (a : List Bool) (c : Int) (m : Move) : Prop := (0 ≤ Int.tmod c w + m.dx ∧ Int.tmod c w + m.dx < w) ∧ (0 ≤ Int.tdiv c w + m.dy ∧ Int.tdiv c w + m.dy < h) ∧ a.getD (Int.toNat ((Int.tdiv c w + m.dy) * w + (Int.tmod c w + m.dx))) false = false
theorem targ_1 {w h : Int} {a : List Bool} {c : Int} {m : Move} (k : tgIn w h a c m) : targ w h a c m = (Int.tdiv c w + m.dy) * w + (Int.tmod c w + m.dx) := if_pos k
theorem targ_0 {w h : Int} {a : List Bool} {c : Int} {m : Move} (k : ¬ tgIn w h a c m) : targ w h a c m = c := if_neg k
theorem targ_bd {w h : Int} {a : List Bool} {c : Int} (hc : 0 ≤ c ∧ c < w * h) (m : Move) : 0 ≤ targ w h a c m ∧ targ w h a c m < w * h := by
  by_cases k : tgIn w h a c m
  · rw [targ_1 k]; exact cellbd k.1 k.2.1
  · rw [targ_0 k]; exact hc
theorem ktarget {w h : Int} {a : List Bool} {c : Int} {m : Move} (b : BasOk w h a.length) (hc : 0 ≤ c ∧ c < w * h) (hm : mvOk m) {H : Heap} {id : Nat} {own : Bool} {z : Nat} (hid : H[id]? = some (.cells own z (a.flatMap boolC))) :
    KCall prog F.drift_sea_target [basV w h id a.length, .int .i64 c, moveV m] H [] (Is (.int .i64 (targ w h a c m)) H) := by
  refine valR (css := [a.flatMap boolC]) (v := .int .i64 (targ w h a c m)) (Eq.mpr (Etarget _ w h a c m) ?_) (one_cs (plainBL 0 a)) rfl [id] rfl (one_id hid)
  unfold Rtarget
  have e1 := targ_1 (w := w) (h := h) (a := a) (c := c) (m := m)
  have e0 := targ_0 (w := w) (h := h) (a := a) (c := c) (m := m)
  unfold tgIn at e0 e1
  obtain ⟨⟨m1, m2⟩, m3, m4⟩ := hm
  obtain ⟨d1, d2⟩ := divmod b hc
  obtain ⟨b1, b2, b3, b4⟩ := b
  have cb := cellbd (w := w) (h := h) (x := Int.tmod c w + m.dx) (y := Int.tdiv c w + m.dy)
  have hx : -2 ≤ Int.tmod c w + m.dx ∧ Int.tmod c w + m.dx ≤ 66 := by omega
  have hy : -2 ≤ Int.tdiv c w + m.dy ∧ Int.tdiv c w + m.dy ≤ 66 := by omega
  have hy2 : 0 ≤ Int.tdiv c w ∧ Int.tdiv c w ≤ 64 := by omega
  generalize targ w h a c m = T at e0 e1 ⊢
  generalize Int.tmod c w + m.dx = X at *
  generalize Int.tdiv c w + m.dy = Y at *
  generalize Y * w = P at *
  generalize w * h = Q at *
  repeat' first | (exact iEq (e0 (fun k => by omega)).symm) | refine ⟨_, rfl, ?_⟩ | (refine ⟨fun hb => iEq (e0 fun k => Bool.false_ne_true (k.2.2.symm.trans hb)).symm, fun hb => ?_⟩) | (exact boolAt (by omega) (by omega)) | (exact iEq (e1 ⟨by omega, by omega, hb⟩).symm) | omega | exact trivial | exact rfl | exact wk_refl _ | refine wkO_cells ?_ | refine wks_cons ?_ ?_ | exact wks_nil | exact wk_nil _ _ _ (.inl rfl) | (exact wk_Q (by omega)) | refine wk_tupL ?_ | refine wk_aggL ?_ | refine joinMax ?_ ?_ ?_ | refine joinMin ?_ ?_ ?_ | refine toMax ?_ | refine toMin ?_ | refine ⟨rfl, ?_⟩ | refine ⟨trivial, ?_⟩ | (refine forkD (fun h => ?_) (fun h => ?_)) | (refine forkNe (fun h => ?_) (fun h => ?_)) | (refine forkEq (fun h => ?_) (fun h => ?_)) | refine forkNot ?_ | (refine ⟨vI64 (by omega), ?_⟩) | (refine And.intro (by omega) ?_) | apply And.intro | (exact iEq (by omega)) | (exact vI64 (by omega))
theorem seaB_1 {a : List Bool} {c : Int} (k : 0 ≤ c ∧ c < (a.length : Int)) : seaB a c = !(a.getD (Int.toNat c) false) := by unfold seaB; rw [decide_eq_true k]; rfl
theorem seaB_0 {a : List Bool} {c : Int} (k : ¬ (0 ≤ c ∧ c < (a.length : Int))) : seaB a c = false := by unfold seaB; rw [decide_eq_false k]; rfl
theorem kis {w h : Int} {a : List Bool} {c : Int} (b : BasOk w h a.length) {H : Heap} {id : Nat} {own : Bool} {z : Nat} (hid : H[id]? = some (.cells own z (a.flatMap boolC))) :
    KCall prog F.drift_sea_is [basV w h id a.length, .int .i64 c] H [] (Is (.bool (seaB a c)) H) := by
  refine valR (css := [a.flatMap boolC]) (v := .bool (seaB a c)) (Eq.mpr (Eis _ w h a c) ?_) (one_cs (plainBL 0 a)) rfl [id] rfl (one_id hid)
  unfold Ris
  have e1 := seaB_1 (a := a) (c := c)
  have e0 := seaB_0 (a := a) (c := c)
  obtain ⟨b1, b2, b3, b4⟩ := b
  generalize w * h = Q at *
  repeat' first | (exact congrArg Value.bool (e0 (by omega)).symm) | (exact congrArg Value.bool (e1 (by omega)).symm) | (exact boolAt (by omega) (by omega)) | exact trivial | exact rfl | exact wk_refl _ | refine wkO_cells ?_ | refine wks_cons ?_ ?_ | exact wks_nil | exact wk_nil _ _ _ (.inl rfl) | (exact wk_Q (by omega)) | refine wk_tupL ?_ | refine wk_aggL ?_ | refine joinMax ?_ ?_ ?_ | refine joinMin ?_ ?_ ?_ | refine toMax ?_ | refine toMin ?_ | refine ⟨rfl, ?_⟩ | refine ⟨trivial, ?_⟩ | (refine forkD (fun h => ?_) (fun h => ?_)) | (refine forkNe (fun h => ?_) (fun h => ?_)) | (refine forkEq (fun h => ?_) (fun h => ?_)) | refine forkNot ?_ | (refine ⟨vI64 (by omega), ?_⟩) | (refine And.intro (by omega) ?_) | apply And.intro | (exact iEq (by omega)) | (exact vI64 (by omega))
theorem mvTo_ok {f : Flow} (hf : rightF f) : ∀ (j : Nat), j ≤ nyF f → ∀ m ∈ mvTo f j, mvOk m
  | 0, _, m, h => by cases h
  | j + 1, hj, m, h => by
    have eb := ends_bd hf
    have xb := nx_bd hf
    have yb := ny_bd hf
    rcases List.mem_append.1 h with h | h
    · exact mvTo_ok hf j (by omega) m h
    · unfold mvRow tabP at h
      obtain ⟨i, hi, rfl⟩ := List.mem_map.1 h
      have := List.mem_range.1 hi
      exact ⟨⟨by dsimp only; omega, by dsimp only; omega⟩, by dsimp only; omega, by dsimp only; omega⟩
theorem getD_mem {α : Type} {l : List α} {d : α} {x : Nat} (h : x < l.length) : l.getD x d ∈ l := by
  rw [List.getD_eq_getElem?_getD, List.getElem?_eq_getElem h]; exact List.getElem_mem h
theorem moves_ok {f : Flow} (hf : rightF f) {x : Nat} (h : x < (movesF f).length) : mvOk ((movesF f).getD x zeroM) := mvTo_ok hf _ (Nat.le_refl _) _ (getD_mem h)
theorem tgL_len (w h : Int) (a : List Bool) (c : Int) (f : Flow) : (tgL w h a c f).length = (movesF f).length := List.length_map _
theorem tgL_get {w h : Int} {a : List Bool} {c : Int} {f : Flow} {x : Nat} (hx : x < (movesF f).length) : (tgL w h a c f).getD x 0 = targ w h a c ((movesF f).getD x zeroM) := by
  unfold tgL
  rw [List.getD_eq_getElem?_getD, List.getElem?_map, List.getD_eq_getElem?_getD, List.getElem?_eq_getElem hx]; rfl
theorem tgL_bd {w h : Int} {a : List Bool} {c : Int} {f : Flow} (hc : 0 ≤ c ∧ c < w * h) : ∀ z ∈ tgL w h a c f, 0 ≤ z ∧ z < w * h := by
  intro z hz
  obtain ⟨m, _, rfl⟩ := List.mem_map.1 hz
  exact targ_bd hc m
theorem intMap (l : List Int) : l.flatMap intC = l.map (Value.int .i64) := by
  induction l with
  | nil => rfl
  | cons x l ih => rw [List.flatMap_cons, ih]; rfl
theorem enters_some {P : Program} {f : FuncId} {fn : Func} (hf : P.funcs[f]? = some fn) (hname : (fn.name == "runtime.NumGoroutine") = false) (hb : fn.body.isSome = true) : Enters P f := by
  obtain ⟨c, hc⟩ := Option.isSome_iff_exists.1 hb
  exact enters_of hf hname hc
theorem enters124 : Enters prog 124 := enters_some Try.func124 (by kernel_rfl) (by kernel_rfl)
theorem kSort {L0 : List Int} (h0 : 0 < L0.length) (h1 : L0.length < 1000) {H : Heap} {id : Nat} (ho : H[id]? = some (.cells true 1 (L0.flatMap intC))) :
    KCall prog 124 [.slice (some ⟨id, 0, some 1⟩) L0.length L0.length] H [id] (Is (.tuple #[]) (H.set id (.cells true 1 ((srtI L0).flatMap intC)))) := by
  rw [intMap] at ho ⊢
  exact kSortInt sortI enters124 (.inr rfl) h0 (by omega) ho
end
end Go.Proofs.Ytkkgnalgmebfjaa
/- Drift: the places a flow leads to, sorted and without repeats. No condition. -/
namespace Go.Proofs.Ytkkgnalgmebfjaa
open Go Go.K
set_option maxRecDepth 100000
set_option linter.unusedVariables false
set_option linter.unusedSimpArgs false
noncomputable section
attribute [local irreducible] vF
theorem fin_same {L : List Int} (h : comp (srtI L) = srtI L) : comp (srtI L) ++ padT L = srtI L := by
  unfold padT
  rw [h, srt_len, Nat.sub_self]; exact List.append_nil _
theorem krep_int (n : Nat) : krep [.int .i64 0] n = (List.replicate n (0 : Int)).flatMap intC := by
  induction n with
  | zero => rfl
  | succ n ih => show .int .i64 0 :: krep [.int .i64 0] n = _; rw [ih]; rfl
theorem setl_tail {A B : List Int} {k n : Nat} (hk : k = A.length) (hn : n = B.length) : setl ((A ++ B).flatMap intC) (0 + k * 1) (krep [.int .i64 0] n) = (A ++ List.replicate n 0).flatMap intC := by
  subst hk hn
  rw [krep_int, List.flatMap_append, List.flatMap_append, show 0 + A.length * 1 = (A.flatMap intC).length from by rw [flat_len intC_len]; omega]
  have := setl_mid ((List.replicate B.length (0 : Int)).flatMap intC) (B.flatMap intC) (A.flatMap intC) [] (by rw [flat_len intC_len, flat_len intC_len, List.length_replicate])
  simpa using this
theorem ktargets {w h : Int} {a : List Bool} {c : Int} {f : Flow} (b : BasOk w h a.length) (hc : 0 ≤ c ∧ c < w * h) (hf : rightF f) {H : Heap} {L : Nat} (hL : H.length = L) {id : Nat} {own : Bool} {z : Nat} (hid : H[id]? = some (.cells own z (a.flatMap boolC))) :
    KCall prog F.drift_sea_targets [basV w h id a.length, flowV f, .int .i64 c] H [] (Is (.slice (some ⟨L, 0, some 2⟩) (comp (srtI (tgL w h a c f))).length (comp (srtI (tgL w h a c f))).length) (H ++ [.cells true 1 ((comp (srtI (tgL w h a c f)) ++ padT (tgL w h a c f)).flatMap intC)])) := by
  subst hL
  refine valQ (fun i => .slice (some ⟨i, 0, some 2⟩) (comp (srtI (tgL w h a c f))).length (comp (srtI (tgL w h a c f))).length) (Eq.mpr (Etargets w h a c f) ?_) (plainBL 0 a) (fun n => plainIL n _) rfl rfl (fun _ => rfl) hid rfl
  unfold Rtargets
  have mb := movesF_bd hf
  have hTl := tgL_len w h a c f
  have hSl := (srt_len (tgL w h a c f)).trans hTl
  have hfin := fin_same (L := tgL w h a c f)
  have hpad : padT (tgL w h a c f) = List.replicate ((tgL w h a c f).length - (comp (srtI (tgL w h a c f))).length) 0 := rfl
  refine ⟨trivial, fun H' hl _ => kmoves f hf hl, rfl, Nat.zero_le _, ?_, fun _ => rfl, ?_⟩
  · repeat' first | exact plainIL _ _ | exact trivial | exact rfl | exact wk_refl _ | refine wkO_cells ?_ | refine wks_cons ?_ ?_ | exact wks_nil | exact wk_nil _ _ _ (.inl rfl) | (exact wk_Q (by omega)) | refine wk_tupL ?_ | refine wk_aggL ?_ | refine joinMax ?_ ?_ ?_ | refine joinMin ?_ ?_ ?_ | refine toMax ?_ | refine toMin ?_ | refine ⟨rfl, ?_⟩ | refine ⟨trivial, ?_⟩ | (refine forkD (fun h => ?_) (fun h => ?_)) | (refine forkNe (fun h => ?_) (fun h => ?_)) | (refine forkEq (fun h => ?_) (fun h => ?_)) | refine forkNot ?_ | (refine ⟨vI64 (by omega), ?_⟩) | (refine And.intro (by omega) ?_) | apply And.intro | (exact iEq (by omega)) | (exact vI64 (by omega))
  intro x hx
  refine forkD (fun k => ?_) (fun k => ?_)
  · have hlt : x < (movesF f).length := by omega
    have hM : (tgL w h a c f).take (x + 1) = (tgL w h a c f).take x ++ [targ w h a c ((movesF f).getD x zeroM)] := by
      rw [List.take_add_one, ← tgL_get hlt, List.getD_eq_getElem?_getD, List.getElem?_eq_getElem (by omega)]; rfl
    have hlx : ((tgL w h a c f).take x).length = x := by rw [List.length_take]; omega
    have hob := ob_snoc (own := true) intC_len hM rfl
    have hfl := flat_le intC_len ((tgL w h a c f).take x)
    rw [hlx] at hob hfl
    refine ⟨by omega, partMove hlt, targ w h a c ((movesF f).getD x zeroM), ⟨rfl, trivial⟩, fun H' hl hd => ktarget b hc (moves_ok hf hlt) hd.1, ?_⟩
    repeat' first | (refine ⟨x + 1, by omega, by omega, rfl, ?_⟩) | exact hob | exact plainIL _ _ | exact hfl | exact Nat.le_refl _ | exact trivial | exact rfl | exact wk_refl _ | refine wkO_cells ?_ | refine wks_cons ?_ ?_ | exact wks_nil | exact wk_nil _ _ _ (.inl rfl) | (exact wk_Q (by omega)) | refine wk_tupL ?_ | refine wk_aggL ?_ | refine joinMax ?_ ?_ ?_ | refine joinMin ?_ ?_ ?_ | refine toMax ?_ | refine toMin ?_ | refine ⟨rfl, ?_⟩ | refine ⟨trivial, ?_⟩ | (refine forkD (fun h => ?_) (fun h => ?_)) | (refine forkNe (fun h => ?_) (fun h => ?_)) | (refine forkEq (fun h => ?_) (fun h => ?_)) | refine forkNot ?_ | (refine ⟨vI64 (by omega), ?_⟩) | (refine And.intro (by omega) ?_) | apply And.intro | (exact iEq (by omega)) | (exact vI64 (by omega))
  · obtain rfl : x = (movesF f).length := by omega
    have hkS : ∀ H' : Heap, H'[4]? = some (.cells true 1 ((tgL w h a c f).flatMap intC)) → KCall prog 124 [.slice (some ⟨4, 0, some 1⟩) (movesF f).length (movesF f).length] H' [4] (Is (.tuple #[]) (H'.set 4 (.cells true 1 ((srtI (tgL w h a c f)).flatMap intC)))) := fun H' ho => by
      have := kSort (L0 := tgL w h a c f) (by omega) (by omega) ho
      rw [hTl] at this; exact this
    rw [show (tgL w h a c f).take (movesF f).length = tgL w h a c f from by rw [← hTl]; exact List.take_length]
    obtain ⟨S, hS⟩ : ∃ S, srtI (tgL w h a c f) = S := ⟨_, rfl⟩
    rw [hS] at hSl hfin hpad hkS
    rw [hS]
    have hdone : comp S = S → (comp S).length = (movesF f).length := fun e => by rw [e, hSl]
    generalize (movesF f).length = n at *
    rw [hTl] at hpad
    refine ⟨⟨rfl, trivial⟩, fun H' hl hd => hkS H' hd.1, forkD (fun k2 => ?_) (fun k2 => ?_)⟩
    · have hc1 : comp S = S := by
        match S, hSl with
        | [s], _ => rfl
        | [], e => exact absurd e (by simp only [List.length_nil]; omega)
        | _ :: _ :: _, e => exact absurd e (by simp only [List.length_cons]; omega)
      rw [hdone hc1, hfin hc1]
      exact ⟨rfl, wk_QR, ⟨rfl, plainIL _ _⟩, trivial⟩
    · have hc1 : comp (S.take 1) = S.take 1 := by
        match S, hSl with
        | s :: r, _ => rfl
        | [], e => exact absurd e (by simp only [List.length_nil]; omega)
      refine ⟨rfl, ⟨Nat.le_refl _, by omega, hc1⟩, ?_, fun _ => rfl, ?_⟩
      · repeat' first | exact plainIL _ _ | exact trivial | exact rfl | exact wk_refl _ | refine wkO_cells ?_ | refine wks_cons ?_ ?_ | exact wks_nil | exact wk_nil _ _ _ (.inl rfl) | (exact wk_Q (by omega)) | refine wk_tupL ?_ | refine wk_aggL ?_ | refine joinMax ?_ ?_ ?_ | refine joinMin ?_ ?_ ?_ | refine toMax ?_ | refine toMin ?_ | refine ⟨rfl, ?_⟩ | refine ⟨trivial, ?_⟩ | (refine forkD (fun h => ?_) (fun h => ?_)) | (refine forkNe (fun h => ?_) (fun h => ?_)) | (refine forkEq (fun h => ?_) (fun h => ?_)) | refine forkNot ?_ | (refine ⟨vI64 (by omega), ?_⟩) | (refine And.intro (by omega) ?_) | apply And.intro | (exact iEq (by omega)) | (exact vI64 (by omega))
      rintro x3 ⟨j1, j2, j3⟩
      refine forkD (fun k3 => ?_) (fun k3 => ?_)
      · have hx3 : x3 < S.length := by omega
        rw [show Int.toNat ((x3 : Int) - 1) = x3 - 1 by omega]
        refine ⟨by omega, intAt hx3 (by omega), vI64 (by omega), by omega, intAt (by omega) (by omega), forkEq (fun q => ?_) (fun q => ?_)⟩
        · obtain ⟨q1, q2⟩ := cmpTo_0 j1 hx3 j3 q
          refine ⟨⟨⟨.inr (.inr rfl), Nat.le_refl _⟩, Nat.le_refl _, by omega⟩, rfl, rfl, ⟨Nat.le_refl _, by omega, by omega⟩, ?_, fun _ => rfl, ?_⟩
          · rw [q1, q2]
            repeat' first | exact plainIL _ _ | exact trivial | exact rfl | exact wk_refl _ | refine wkO_cells ?_ | refine wks_cons ?_ ?_ | exact wks_nil | exact wk_nil _ _ _ (.inl rfl) | (exact wk_Q (by omega)) | refine wk_tupL ?_ | refine wk_aggL ?_ | refine joinMax ?_ ?_ ?_ | refine joinMin ?_ ?_ ?_ | refine toMax ?_ | refine toMin ?_ | refine ⟨rfl, ?_⟩ | refine ⟨trivial, ?_⟩ | (refine forkD (fun h => ?_) (fun h => ?_)) | (refine forkNe (fun h => ?_) (fun h => ?_)) | (refine forkEq (fun h => ?_) (fun h => ?_)) | refine forkNot ?_ | (refine ⟨vI64 (by omega), ?_⟩) | (refine And.intro (by omega) ?_) | apply And.intro | (exact iEq (by omega)) | (exact vI64 (by omega))
          rintro x4 ⟨i1, i2, i3⟩
          have hcl := cmpTo_len i2
          refine forkD (fun k4 => ?_) (fun k4 => ?_)
          · have hm : x3 + x4 < S.length := by omega
            have g1 := cmpTo_get (S := S) (m := x3 + x4) (k := x3 + x4) (by omega)
            have g2 := cmpTo_get (S := S) (m := x3 + x4) (k := x3 + x4 - 1) (by omega)
            have a1 : ∀ off, off = x3 + x4 → ((cmpTo S (x3 + x4)).flatMap intC)[off]? = some (.int .i64 ((cmpTo S (x3 + x4)).getD (x3 + x4) 0)) := fun off ho => intAt (by omega) ho
            rw [show x3 + Int.toNat ((x4 : Int) - 1) = x3 + x4 - 1 by omega]
            refine ⟨by omega, a1 _ (by omega), vI64 (by omega), by omega, intAt (by omega) (by omega), ?_⟩
            rw [g1, g2]
            rw [g1] at a1
            refine forkNe (fun q => ?_) (fun q => ?_)
            · obtain ⟨e1, e2⟩ := cmpN_ne (by omega) hm q i3
              have hset := flat_set intC_len (cmpTo S (x3 + x4)) (cmpN S (x3 + x4)) (by rw [hcl]; omega) (S.getD (x3 + x4) 0)
              refine ⟨((cmpN S (x3 + x4) : Nat) : Int), rfl, by omega, a1 _ (by omega), by omega, ?_, rfl, _, rfl, vI64 (by omega), vI64 (by omega), x4 + 1, ⟨by omega, by omega, ?_⟩, by omega, rfl, ?_⟩
              · rw [flat_len intC_len, hcl]; omega
              · rw [← Nat.add_assoc, e1]; omega
              · rw [← Nat.add_assoc, e1, show 0 + Int.toNat ((cmpN S (x3 + x4) : Nat) : Int) * 1 = cmpN S (x3 + x4) * 1 by omega, hset, e2]
                repeat' first | exact plainIL _ _ | exact trivial | exact rfl | exact wk_refl _ | refine wkO_cells ?_ | refine wks_cons ?_ ?_ | exact wks_nil | exact wk_nil _ _ _ (.inl rfl) | (exact wk_Q (by omega)) | refine wk_tupL ?_ | refine wk_aggL ?_ | refine joinMax ?_ ?_ ?_ | refine joinMin ?_ ?_ ?_ | refine toMax ?_ | refine toMin ?_ | refine ⟨rfl, ?_⟩ | refine ⟨trivial, ?_⟩ | (refine forkD (fun h => ?_) (fun h => ?_)) | (refine forkNe (fun h => ?_) (fun h => ?_)) | (refine forkEq (fun h => ?_) (fun h => ?_)) | refine forkNot ?_ | (refine ⟨vI64 (by omega), ?_⟩) | (refine And.intro (by omega) ?_) | apply And.intro | (exact iEq (by omega)) | (exact vI64 (by omega))
            · obtain ⟨e1, e2⟩ := cmpN_eq (by omega) hm q
              refine ⟨vI64 (by omega), x4 + 1, ⟨by omega, by omega, by rw [← Nat.add_assoc, e1]; omega⟩, by omega, rfl, ?_⟩
              rw [← Nat.add_assoc, e1, e2]
              repeat' first | exact plainIL _ _ | exact trivial | exact rfl | exact wk_refl _ | refine wkO_cells ?_ | refine wks_cons ?_ ?_ | exact wks_nil | exact wk_nil _ _ _ (.inl rfl) | (exact wk_Q (by omega)) | refine wk_tupL ?_ | refine wk_aggL ?_ | refine joinMax ?_ ?_ ?_ | refine joinMin ?_ ?_ ?_ | refine toMax ?_ | refine toMin ?_ | refine ⟨rfl, ?_⟩ | refine ⟨trivial, ?_⟩ | (refine forkD (fun h => ?_) (fun h => ?_)) | (refine forkNe (fun h => ?_) (fun h => ?_)) | (refine forkEq (fun h => ?_) (fun h => ?_)) | refine forkNot ?_ | (refine ⟨vI64 (by omega), ?_⟩) | (refine And.intro (by omega) ?_) | apply And.intro | (exact iEq (by omega)) | (exact vI64 (by omega))
          · have hm : x3 + x4 = S.length := by omega
            have hn : cmpN S (x3 + x4) = (comp S).length := by unfold cmpN; rw [hm, List.take_length]
            have hto : cmpTo S (x3 + x4) = comp S ++ S.drop (comp S).length := by unfold cmpTo; rw [hn, hm, List.take_length]
            have hle := comp_len S
            rw [hn, hto]
            refine ⟨_, rfl, ⟨⟨.inr (.inr rfl), Nat.le_refl _⟩, Nat.le_refl _, by omega, by omega⟩, ?_, rfl, _, rfl, ⟨⟨.inr (.inr rfl), by omega⟩, by omega, Nat.zero_le _⟩, by rw [Nat.sub_zero], rfl, ?_⟩
            · rw [flat_len intC_len, List.length_append, List.length_drop]; omega
            · rw [Int.toNat_natCast, setl_tail rfl (by rw [List.length_drop]; omega), hpad]
              repeat' first | exact plainIL _ _ | exact trivial | exact rfl | exact wk_refl _ | refine wkO_cells ?_ | refine wks_cons ?_ ?_ | exact wks_nil | exact wk_nil _ _ _ (.inl rfl) | (exact wk_Q (by omega)) | refine wk_tupL ?_ | refine wk_aggL ?_ | refine joinMax ?_ ?_ ?_ | refine joinMin ?_ ?_ ?_ | refine toMax ?_ | refine toMin ?_ | refine ⟨rfl, ?_⟩ | refine ⟨trivial, ?_⟩ | (refine forkD (fun h => ?_) (fun h => ?_)) | (refine forkNe (fun h => ?_) (fun h => ?_)) | (refine forkEq (fun h => ?_) (fun h => ?_)) | refine forkNot ?_ | (refine ⟨vI64 (by omega), ?_⟩) | (refine And.intro (by omega) ?_) | apply And.intro | (exact iEq (by omega)) | (exact vI64 (by omega))
        · refine ⟨vI64 (by omega), x3 + 1, ⟨by omega, by omega, comp_all j1 hx3 j3 q⟩, by omega, rfl, ?_⟩
          repeat' first | exact plainIL _ _ | exact trivial | exact rfl | exact wk_refl _ | refine wkO_cells ?_ | refine wks_cons ?_ ?_ | exact wks_nil | exact wk_nil _ _ _ (.inl rfl) | (exact wk_Q (by omega)) | refine wk_tupL ?_ | refine wk_aggL ?_ | refine joinMax ?_ ?_ ?_ | refine joinMin ?_ ?_ ?_ | refine toMax ?_ | refine toMin ?_ | refine ⟨rfl, ?_⟩ | refine ⟨trivial, ?_⟩ | (refine forkD (fun h => ?_) (fun h => ?_)) | (refine forkNe (fun h => ?_) (fun h => ?_)) | (refine forkEq (fun h => ?_) (fun h => ?_)) | refine forkNot ?_ | (refine ⟨vI64 (by omega), ?_⟩) | (refine And.intro (by omega) ?_) | apply And.intro | (exact iEq (by omega)) | (exact vI64 (by omega))
      · obtain rfl : x3 = S.length := by omega
        rw [List.take_length] at j3
        rw [hdone j3, hfin j3]
        exact ⟨rfl, wk_QR, ⟨rfl, plainIL _ _⟩, trivial⟩
end
end Go.Proofs.Ytkkgnalgmebfjaa
/- Drift: targets, and how the law compares. No condition. -/
namespace Go.Proofs.Ytkkgnalgmebfjaa
open Go Go.K
set_option maxRecDepth 100000
set_option linter.unusedVariables false
set_option linter.unusedSimpArgs false
noncomputable section
attribute [local irreducible] vF
theorem errFlows_0 {w h : Int} {n : Nat} {l : List Flow} (e : errFlows w h n l = 0) : errBas w h n = 0 ∧ l.length = n ∧ errF l = 0 := by
  unfold errFlows first2 at e
  split at e
  · rename_i h0
    split at e
    · rename_i h1; exact ⟨h0, h1, e⟩
    · omega
  · rename_i h0; exact absurd e h0
theorem errF_all : ∀ {l : List Flow}, errF l = 0 → ∀ f ∈ l, rightF f
  | [], _, f, hf => by cases hf
  | g :: r, e, f, hf => by
    unfold errF at e
    split at e
    · rename_i hg
      rcases List.mem_cons.1 hf with rfl | hf
      · exact hg
      · exact errF_all e f hf
    · omega
theorem tgts_comp {w h : Int} {a : List Bool} {c : Int} {f : Flow} (b : BasOk w h a.length) (hc : 0 ≤ c ∧ c < w * h) : comp (srtI (tgL w h a c f)) = tgts w h a c f :=
  comp_trues (n := Int.toNat (w * h)) fun z hz => by
    have := tgL_bd (a := a) (f := f) hc z hz
    have := b.n1
    omega
theorem notB {b : Bool} (h : (!b) = true) : b = false := by cases b <;> first | rfl | cases h
theorem notB2 {b : Bool} (h : (!b) = false) : b = true := by cases b <;> first | rfl | cases h
end
end Go.Proofs.Ytkkgnalgmebfjaa
/- Ice: what all texts share. No condition. -/
namespace Go.Proofs.Ytkkgnalgmebfjaa
set_option linter.unusedSimpArgs false
open Go Go.K
set_option maxRecDepth 100000
set_option linter.unusedVariables false
noncomputable section
theorem i64_eq {a b : Int} (h : a = b) : (Value.int .i64 a) = .int .i64 b := by rw [h]
structure Cell where
  conc : Span
  thick : Span
  ridge : Span
  press : Span
structure Ice where
  conc : Int
  thick : Int
  ridge : Int
  press : Int
structure Rates where
  up : Ice
  down : Ice
structure Report where
  id : Int
  source : Int
  at_ : Int
  x : Int
  y : Int
  has : Int
  cell : Cell
abbrev iceC (x : Ice) : List Value := [.int .i64 x.conc, .int .i64 x.thick, .int .i64 x.ridge, .int .i64 x.press]
abbrev cellC (c : Cell) : List Value := [.int .i64 c.conc.lo, .int .i64 c.conc.hi, .int .i64 c.thick.lo, .int .i64 c.thick.hi, .int .i64 c.ridge.lo, .int .i64 c.ridge.hi, .int .i64 c.press.lo, .int .i64 c.press.hi]
abbrev iceV (x : Ice) : Value := .agg ⟨iceC x⟩
abbrev cellV (c : Cell) : Value := .agg ⟨cellC c⟩
end
end Go.Proofs.Ytkkgnalgmebfjaa
/- What is to be shown of functions. Printed by a program. No condition. -/
namespace Go.Proofs.Ytkkgnalgmebfjaa
set_option linter.unusedSimpArgs false
open Go Go.K
set_option maxRecDepth 100000
set_option maxHeartbeats 4000000
set_option linter.unusedVariables false
noncomputable section
def RCheckCell (sp : Value) (c : Cell) : Prop :=
  (((decide ((0 : Int) ≤ c.conc.lo)) = true → (((decide ((c.conc.lo : Int) ≤ 100)) = true → (((decide ((c.conc.lo : Int) ≤ c.conc.hi)) = true → (((!(decide ((c.conc.hi : Int) ≤ 100))) = true → (.int .i64 20 : Value) = sp) ∧ ((!(decide ((c.conc.hi : Int) ≤ 100))) = false → (((decide ((0 : Int) ≤ c.thick.lo)) = true → (((decide ((c.thick.lo : Int) ≤ 400)) = true → (((decide ((c.thick.lo : Int) ≤ c.thick.hi)) = true → (((!(decide ((c.thick.hi : Int) ≤ 400))) = true → (.int .i64 20 : Value) = sp) ∧ ((!(decide ((c.thick.hi : Int) ≤ 400))) = false → (((decide ((0 : Int) ≤ c.ridge.lo)) = true → (((decide ((c.ridge.lo : Int) ≤ 100)) = true → (((decide ((c.ridge.lo : Int) ≤ c.ridge.hi)) = true → (((!(decide ((c.ridge.hi : Int) ≤ 100))) = true → (.int .i64 20 : Value) = sp) ∧ ((!(decide ((c.ridge.hi : Int) ≤ 100))) = false → (((decide ((0 : Int) ≤ c.press.lo)) = true → (((decide ((c.press.lo : Int) ≤ 3)) = true → (((decide ((c.press.lo : Int) ≤ c.press.hi)) = true → (((!(decide ((c.press.hi : Int) ≤ 3))) = true → (.int .i64 20 : Value) = sp) ∧ ((!(decide ((c.press.hi : Int) ≤ 3))) = false → (.int .i64 0 : Value) = sp))) ∧ ((decide ((c.press.lo : Int) ≤ c.press.hi)) = false → (.int .i64 20 : Value) = sp))) ∧ ((decide ((c.press.lo : Int) ≤ 3)) = false → (.int .i64 20 : Value) = sp))) ∧ ((decide ((0 : Int) ≤ c.press.lo)) = false → (.int .i64 20 : Value) = sp))))) ∧ ((decide ((c.ridge.lo : Int) ≤ c.ridge.hi)) = false → (.int .i64 20 : Value) = sp))) ∧ ((decide ((c.ridge.lo : Int) ≤ 100)) = false → (.int .i64 20 : Value) = sp))) ∧ ((decide ((0 : Int) ≤ c.ridge.lo)) = false → (.int .i64 20 : Value) = sp))))) ∧ ((decide ((c.thick.lo : Int) ≤ c.thick.hi)) = false → (.int .i64 20 : Value) = sp))) ∧ ((decide ((c.thick.lo : Int) ≤ 400)) = false → (.int .i64 20 : Value) = sp))) ∧ ((decide ((0 : Int) ≤ c.thick.lo)) = false → (.int .i64 20 : Value) = sp))))) ∧ ((decide ((c.conc.lo : Int) ≤ c.conc.hi)) = false → (.int .i64 20 : Value) = sp))) ∧ ((decide ((c.conc.lo : Int) ≤ 100)) = false → (.int .i64 20 : Value) = sp))) ∧ ((decide ((0 : Int) ≤ c.conc.lo)) = false → (.int .i64 20 : Value) = sp))
theorem ECheckCell (sp : Value) (c : Cell) : vF prog msk (dm 0) 100000 true 40 true 104 [.agg #[.int .i64 c.conc.lo, .int .i64 c.conc.hi, .int .i64 c.thick.lo, .int .i64 c.thick.hi, .int .i64 c.ridge.lo, .int .i64 c.ridge.hi, .int .i64 c.press.lo, .int .i64 c.press.hi]] ⟨0, .leaf⟩ (some [])
  (.go 54 (.gfork (.go 5 (.gfork (.go 15 (.gfork (.go 8 (.fork (.auto) (.go 30 (.gfork (.go 5 (.gfork (.go 15 (.gfork (.go 8 (.fork (.auto) (.go 30 (.gfork (.go 5 (.gfork (.go 15 (.gfork (.go 8 (.fork (.auto) (.go 30 (.gfork (.go 5 (.gfork (.go 15 (.gfork (.go 8 (.fork (.auto) (.auto))) (.auto))) (.auto))) (.auto))))) (.auto))) (.auto))) (.auto))))) (.auto))) (.auto))) (.auto))))) (.auto))) (.auto))) (.auto)))
  (fun v _ _ => v = sp) = RCheckCell sp c := by kernel_rfl
def RCheckIce (sp : Value) (x : Ice) : Prop :=
  (((decide ((0 : Int) ≤ x.conc)) = true → (((!(decide ((x.conc : Int) ≤ 100))) = true → (.int .i64 20 : Value) = sp) ∧ ((!(decide ((x.conc : Int) ≤ 100))) = false → (((decide ((0 : Int) ≤ x.thick)) = true → (((!(decide ((x.thick : Int) ≤ 400))) = true → (.int .i64 20 : Value) = sp) ∧ ((!(decide ((x.thick : Int) ≤ 400))) = false → (((decide ((0 : Int) ≤ x.ridge)) = true → (((!(decide ((x.ridge : Int) ≤ 100))) = true → (.int .i64 20 : Value) = sp) ∧ ((!(decide ((x.ridge : Int) ≤ 100))) = false → (((decide ((0 : Int) ≤ x.press)) = true → (((!(decide ((x.press : Int) ≤ 3))) = true → (.int .i64 20 : Value) = sp) ∧ ((!(decide ((x.press : Int) ≤ 3))) = false → (.int .i64 0 : Value) = sp))) ∧ ((decide ((0 : Int) ≤ x.press)) = false → (.int .i64 20 : Value) = sp))))) ∧ ((decide ((0 : Int) ≤ x.ridge)) = false → (.int .i64 20 : Value) = sp))))) ∧ ((decide ((0 : Int) ≤ x.thick)) = false → (.int .i64 20 : Value) = sp))))) ∧ ((decide ((0 : Int) ≤ x.conc)) = false → (.int .i64 20 : Value) = sp))
theorem ECheckIce (sp : Value) (x : Ice) : vF prog msk (dm 0) 100000 true 40 true 59 [.agg #[.int .i64 x.conc, .int .i64 x.thick, .int .i64 x.ridge, .int .i64 x.press]] ⟨0, .leaf⟩ (some [])
  (.go 48 (.gfork (.go 6 (.fork (.auto) (.go 24 (.gfork (.go 6 (.fork (.auto) (.go 24 (.gfork (.go 6 (.fork (.auto) (.go 24 (.gfork (.go 6 (.fork (.auto) (.auto))) (.auto))))) (.auto))))) (.auto))))) (.auto)))
  (fun v _ _ => v = sp) = RCheckIce sp x := by kernel_rfl
def RPick (sp : Value) (x n : Int) : Prop :=
  (((decide ((n : Int) < 1)) = true → (.int .i64 0 : Value) = sp) ∧ ((decide ((n : Int) < 1)) = false → (((n : Int) ≠ 0) ∧ (((decide (((Int.tmod x n) : Int) < 0)) = true → ((.int .i64 (IntKind.wrap .i64 ((Int.tmod x n) + n)) : Value) = .int .i64 ((Int.tmod x n) + n) ∧ (.int .i64 ((Int.tmod x n) + n) : Value) = sp)) ∧ ((decide (((Int.tmod x n) : Int) < 0)) = false → (.int .i64 (Int.tmod x n) : Value) = sp)))))
theorem EPick (sp : Value) (x n : Int) : vF prog msk (dm 0) 100000 true 40 true 38 [.int .i64 x, .int .i64 n] ⟨0, .leaf⟩ (some [])
  (.go 2 (.fork (.auto) (.go 1 (.need (.go 2 (.fork (.go 2 (.slot 15 (.int .i64 ((Int.tmod x n) + n)) (.auto))) (.auto)))))))
  (fun v _ _ => v = sp) = RPick sp x n := by kernel_rfl
end
end Go.Proofs.Ytkkgnalgmebfjaa
/- Ice: the contracts of the functions of values alone. No condition. -/
namespace Go.Proofs.Ytkkgnalgmebfjaa
open Go Go.K
set_option maxRecDepth 100000
set_option linter.unusedVariables false
set_option linter.unusedSimpArgs false
noncomputable section
/-! ## What they compute -/
def rightSp (s : Span) (m : Int) : Prop := 0 ≤ s.lo ∧ s.lo ≤ m ∧ s.lo ≤ s.hi ∧ s.hi ≤ m
def rightC (c : Cell) : Prop := rightSp c.conc 100 ∧ rightSp c.thick 400 ∧ rightSp c.ridge 100 ∧ rightSp c.press 3
def rightI (x : Ice) : Prop := (0 ≤ x.conc ∧ x.conc ≤ 100) ∧ (0 ≤ x.thick ∧ x.thick ≤ 400) ∧ (0 ≤ x.ridge ∧ x.ridge ≤ 100) ∧ 0 ≤ x.press ∧ x.press ≤ 3
def rateI (x : Ice) : Prop := (0 ≤ x.conc ∧ x.conc ≤ 1000) ∧ (0 ≤ x.thick ∧ x.thick ≤ 1000) ∧ (0 ≤ x.ridge ∧ x.ridge ≤ 1000) ∧ 0 ≤ x.press ∧ x.press ≤ 1000
def rightR (m : Rates) : Prop := rateI m.up ∧ rateI m.down
instance (s : Span) (m : Int) : Decidable (rightSp s m) := by unfold rightSp; infer_instance
instance (c : Cell) : Decidable (rightC c) := by unfold rightC; infer_instance
instance (x : Ice) : Decidable (rightI x) := by unfold rightI; infer_instance
instance (x : Ice) : Decidable (rateI x) := by unfold rateI; infer_instance
instance (m : Rates) : Decidable (rightR m) := by unfold rightR; infer_instance
def errCell (c : Cell) : Int := if rightC c then 0 else 20
def errIce (x : Ice) : Int := if rightI x then 0 else 20
def zeroC : Cell := ⟨⟨0, 0⟩, ⟨0, 0⟩, ⟨0, 0⟩, ⟨0, 0⟩⟩
def hasS (s : Span) (n : Int) : Prop := s.lo ≤ n ∧ n ≤ s.hi
def hasC (c : Cell) (x : Ice) : Prop := hasS c.conc x.conc ∧ hasS c.thick x.thick ∧ hasS c.ridge x.ridge ∧ hasS c.press x.press
def insS (s t : Span) : Prop := t.lo ≤ s.lo ∧ s.hi ≤ t.hi
def insC (a b : Cell) : Prop := insS a.conc b.conc ∧ insS a.thick b.thick ∧ insS a.ridge b.ridge ∧ insS a.press b.press
def okC (c : Cell) : Prop := c.conc.lo ≤ c.conc.hi ∧ c.thick.lo ≤ c.thick.hi ∧ c.ridge.lo ≤ c.ridge.hi ∧ c.press.lo ≤ c.press.hi
instance (s : Span) (n : Int) : Decidable (hasS s n) := by unfold hasS; infer_instance
instance (c : Cell) (x : Ice) : Decidable (hasC c x) := by unfold hasC; infer_instance
instance (s t : Span) : Decidable (insS s t) := by unfold insS; infer_instance
instance (a b : Cell) : Decidable (insC a b) := by unfold insC; infer_instance
instance (c : Cell) : Decidable (okC c) := by unfold okC; infer_instance
def chg (rate hours : Int) : Int := (rate * hours + 23) / 24
/-! ## Numbers -/
theorem w64 {n : Int} (h : -9223372036854775808 ≤ n ∧ n ≤ 9223372036854775807) : IntKind.wrap .i64 n = n := IntWalk.i64_in n h
theorem v64 {n : Int} (h : -9223372036854775808 ≤ n ∧ n ≤ 9223372036854775807) : (Value.int .i64 (IntKind.wrap .i64 n)) = .int .i64 n := by rw [w64 h]
theorem mulb {a b A B : Int} (h1 : 0 ≤ a) (h2 : a ≤ A) (h3 : 0 ≤ b) (h4 : b ≤ B) : 0 ≤ a * b ∧ a * b ≤ A * B :=
  ⟨Int.mul_nonneg h1 h3, Int.mul_le_mul h2 h4 h3 (Int.le_trans h1 h2)⟩

/-! ## Contracts -/
theorem errCell_pos {c : Cell} (h : rightC c) : errCell c = 0 := if_pos h
theorem errCell_neg {c : Cell} (h : ¬ rightC c) : errCell c = 20 := if_neg h
theorem errIce_pos {c : Ice} (h : rightI c) : errIce c = 0 := if_pos h
theorem errIce_neg {c : Ice} (h : ¬ rightI c) : errIce c = 20 := if_neg h
theorem errCell_iff {c : Cell} : errCell c = 0 ↔ rightC c := by unfold errCell; split <;> simp_all
theorem errIce_iff {c : Ice} : errIce c = 0 ↔ rightI c := by unfold errIce; split <;> simp_all
theorem kCheckCell (c : Cell) (H : Heap) : KCall prog F.ice_CheckCell [cellV c] H [] (Is (.int .i64 (errCell c)) H) := by
  refine valK 40 (fun _ => rfl) rfl (Eq.mpr (ECheckCell _ c) ?_) H
  unfold RCheckCell
  simp only [decide_eq_true_eq, decide_eq_false_iff_not, Bool.not_eq_true', Bool.not_eq_false']
  repeat' (first | apply And.intro | intro _)
  all_goals first
    | exact i64_eq (errCell_neg (by unfold rightC rightSp; omega)).symm
    | exact i64_eq (errCell_pos (by unfold rightC rightSp; omega)).symm
theorem kCheckIce (x : Ice) (H : Heap) : KCall prog F.ice_CheckIce [iceV x] H [] (Is (.int .i64 (errIce x)) H) := by
  refine valK 40 (fun _ => rfl) rfl (Eq.mpr (ECheckIce _ x) ?_) H
  unfold RCheckIce
  simp only [decide_eq_true_eq, decide_eq_false_iff_not, Bool.not_eq_true', Bool.not_eq_false']
  repeat' (first | apply And.intro | intro _)
  all_goals first
    | exact i64_eq (errIce_neg (by unfold rightI; omega)).symm
    | exact i64_eq (errIce_pos (by unfold rightI; omega)).symm
theorem tmod_emod {x n : Int} (hn : 1 ≤ n) : (Int.tmod x n < 0 → Int.tmod x n + n = x % n) ∧ (¬ Int.tmod x n < 0 → Int.tmod x n = x % n) ∧ -n < Int.tmod x n ∧ Int.tmod x n < n := by
  have h1 := Int.mul_tdiv_add_tmod x n
  have h2 := Int.lt_tmod_of_pos x (by omega : 0 < n)
  have h3 := Int.tmod_lt_of_pos x (by omega : 0 < n)
  refine ⟨fun h => ?_, fun h => ?_, h2, h3⟩
  · have : x = (Int.tmod x n + n) + n * (x.tdiv n - 1) := by rw [Int.mul_sub]; omega
    rw [this, Int.add_mul_emod_self_left, ← this]
    exact (Int.emod_eq_of_lt (by omega) (by omega)).symm
  · have : x = Int.tmod x n + n * x.tdiv n := by omega
    conv => rhs; rw [this, Int.add_mul_emod_self_left]
    exact (Int.emod_eq_of_lt (by omega) (by omega)).symm
theorem kPick (x n : Int) (h1 : 1 ≤ n) (h2 : n ≤ 9223372036854775807) (H : Heap) : KCall prog F.polynyakit_Pick [.int .i64 x, .int .i64 n] H [] (Is (.int .i64 (x % n)) H) := by
  refine valK 40 (fun _ => rfl) rfl (Eq.mpr (EPick _ x n) ?_) H
  obtain ⟨t1, t2, t3, t4⟩ := tmod_emod (x := x) h1
  unfold RPick
  simp only [decide_eq_true_eq, decide_eq_false_iff_not]
  refine ⟨fun h => by omega, fun _ => ⟨by omega, fun h => ⟨v64 (by omega), i64_eq (t1 h)⟩, fun h => i64_eq (t2 h)⟩⟩
/-! ## Two errors, then an answer -/
end
end Go.Proofs.Ytkkgnalgmebfjaa
/- Ice: lists of errors; the first cell, ice, report. No condition. -/
namespace Go.Proofs.Ytkkgnalgmebfjaa
set_option linter.unusedSimpArgs false
set_option linter.unusedVariables false
open Go Go.K
noncomputable section
def zeroI : Ice := ⟨0, 0, 0, 0⟩
def errs {α : Type} (e : α → Int) : List α → Int
  | [] => 0
  | x :: r => if e x = 0 then errs e r else e x
end
end Go.Proofs.Ytkkgnalgmebfjaa
/- Ice: the reference's functions of values; lists of errors. No condition. -/
namespace Go.Proofs.Ytkkgnalgmebfjaa
open Go Go.K
set_option maxRecDepth 100000
set_option linter.unusedVariables false
set_option linter.unusedSimpArgs false
noncomputable section
attribute [local irreducible] vF
/-! ## Lists -/
theorem iceC_len (x : Ice) : (iceC x).length = 4 := rfl
theorem partIce {xs : List Ice} {x : Nat} (h : x < xs.length) : partA 4 (List.flatMap iceC xs) (0 + Int.toNat ((x : Nat) : Int) * 4) = some (.agg #[.int .i64 (List.getD xs x zeroI).conc, .int .i64 (List.getD xs x zeroI).thick, .int .i64 (List.getD xs x zeroI).ridge, .int .i64 (List.getD xs x zeroI).press]) :=
  (part_at (f := iceC) (d := zeroI) (c := 0) (m := 4) iceC_len h (by rw [Int.toNat_natCast]; omega) (by decide)).trans rfl
theorem drop_at {α : Type} {xs : List α} {d : α} {k : Nat} (hk : k < xs.length) : xs.drop k = xs.getD k d :: xs.drop (k + 1) := by
  rw [List.drop_eq_getElem_cons hk, List.getD_eq_getElem?_getD, List.getElem?_eq_getElem hk]; rfl
theorem errs_at {α : Type} {e : α → Int} {xs : List α} {d : α} {k : Nat} (hk : k < xs.length) : errs e (xs.drop k) = if e (xs.getD k d) = 0 then errs e (xs.drop (k + 1)) else e (xs.getD k d) := by
  rw [drop_at (d := d) hk]; rfl
theorem errs_zero {α : Type} {e : α → Int} : ∀ {xs : List α}, errs e xs = 0 → ∀ x ∈ xs, e x = 0
  | [], _, x, h => by cases h
  | y :: r, he, x, h => by
    unfold errs at he
    split at he
    · rename_i h0
      rcases List.mem_cons.1 h with rfl | h
      · exact h0
      · exact errs_zero he x h
    · rename_i h0; exact absurd he h0
end
end Go.Proofs.Ytkkgnalgmebfjaa
/- What is to be shown of functions. Printed by a program. No condition. -/
namespace Go.Proofs.Ytkkgnalgmebfjaa
set_option linter.unusedSimpArgs false
open Go Go.K
set_option maxRecDepth 100000
set_option maxHeartbeats 4000000
set_option linter.unusedVariables false
noncomputable section
def Rsize (sp : Value) (w h t : Int) : Prop :=
  (((decide ((1 : Int) ≤ w)) = true → (((!(decide ((w : Int) ≤ 64))) = true → (.int .i64 6 : Value) = sp) ∧ ((!(decide ((w : Int) ≤ 64))) = false → (((decide ((1 : Int) ≤ h)) = true → (((!(decide ((h : Int) ≤ 64))) = true → (.int .i64 6 : Value) = sp) ∧ ((!(decide ((h : Int) ≤ 64))) = false → ((.int .i64 (IntKind.wrap .i64 (w * h)) : Value) = .int .i64 (w * h) ∧ (((decide ((1024 : Int) < (w * h))) = true → (.int .i64 6 : Value) = sp) ∧ ((decide ((1024 : Int) < (w * h))) = false → (((decide ((0 : Int) ≤ t)) = true → (((!(decide ((t : Int) ≤ 10000))) = true → (.int .i64 6 : Value) = sp) ∧ ((!(decide ((t : Int) ≤ 10000))) = false → (.int .i64 0 : Value) = sp))) ∧ ((decide ((0 : Int) ≤ t)) = false → (.int .i64 6 : Value) = sp)))))))) ∧ ((decide ((1 : Int) ≤ h)) = false → (.int .i64 6 : Value) = sp))))) ∧ ((decide ((1 : Int) ≤ w)) = false → (.int .i64 6 : Value) = sp))
theorem Esize (sp : Value) (w h t : Int) : vF prog msk (dm 0) 100000 true 40 true 132 [.int .i64 w, .int .i64 h, .int .i64 t] ⟨0, .leaf⟩ (some [])
  (.go 7 (.gfork (.go 6 (.gfork (.auto) (.go 6 (.gfork (.go 7 (.gfork (.auto) (.go 2 (.slot 18 (.int .i64 (w * h)) (.go 2 (.gfork (.auto) (.go 6 (.gfork (.go 6 (.fork (.auto) (.auto))) (.auto))))))))) (.auto))))) (.auto)))
  (fun v _ _ => v = sp) = Rsize sp w h t := by kernel_rfl
end
end Go.Proofs.Ytkkgnalgmebfjaa
/- Ice: functions of cells that charts and reports use. No condition. -/
namespace Go.Proofs.Ytkkgnalgmebfjaa
open Go Go.K
set_option maxRecDepth 100000
set_option linter.unusedVariables false
set_option linter.unusedSimpArgs false
noncomputable section
attribute [local irreducible] vF
def sizeOk (w h t : Int) : Prop := (1 ≤ w ∧ w ≤ 64) ∧ (1 ≤ h ∧ h ≤ 64) ∧ w * h ≤ 1024 ∧ (0 ≤ t ∧ t ≤ 10000)
instance (w h t : Int) : Decidable (sizeOk w h t) := by unfold sizeOk; infer_instance
def errSize (w h t : Int) : Int := if sizeOk w h t then 0 else 6
theorem errSize_iff {w h t : Int} : errSize w h t = 0 ↔ sizeOk w h t := by unfold errSize; split <;> simp_all
theorem ksize (w h t : Int) (H : Heap) : KCall prog F.ice_size [.int .i64 w, .int .i64 h, .int .i64 t] H [] (Is (.int .i64 (errSize w h t)) H) := by
  refine valK 40 (fun _ => rfl) rfl (Eq.mpr (Esize _ w h t) ?_) H
  unfold Rsize
  have mb : (1 ≤ w ∧ w ≤ 64) → (1 ≤ h ∧ h ≤ 64) → 0 ≤ w * h ∧ w * h ≤ 64 * 64 := fun h1 h2 => mulb (by omega) h1.2 (by omega) h2.2
  repeat' first | (refine ⟨vI64 (by have := mb ⟨‹_›, ‹_›⟩ ⟨‹_›, ‹_›⟩; omega), ?_⟩) | (exact iEq (if_pos (by unfold sizeOk; omega)).symm) | (exact iEq (if_neg (by unfold sizeOk; omega)).symm) | exact trivial | exact rfl | refine joinMax ?_ ?_ ?_ | refine joinMin ?_ ?_ ?_ | refine toMax ?_ | refine toMin ?_ | refine ⟨rfl, ?_⟩ | refine ⟨trivial, ?_⟩ | (refine forkD (fun h => ?_) (fun h => ?_)) | (refine forkNe (fun h => ?_) (fun h => ?_)) | (refine forkEq (fun h => ?_) (fun h => ?_)) | refine forkNot ?_ | (refine ⟨vI64 (by omega), ?_⟩) | (refine And.intro (by omega) ?_) | apply And.intro | exact wk_refl _ | (exact iEq (by omega)) | (exact vI64 (by omega))
end
end Go.Proofs.Ytkkgnalgmebfjaa
/- Ice: charts: what functions of charts answer. No condition. -/
namespace Go.Proofs.Ytkkgnalgmebfjaa
set_option linter.unusedSimpArgs false
set_option linter.unusedVariables false
open Go Go.K
noncomputable section
structure Chart where
  w : Int
  h : Int
  hour : Int
  cells : List Cell
def zeroChart : Chart := ⟨0, 0, 0, []⟩
def errChart (w h t : Int) (cs : List Cell) : Int := first2 (errSize w h t) (if (cs.length : Int) = w * h then errs errCell cs else 1)
end
end Go.Proofs.Ytkkgnalgmebfjaa
/- What is to be shown of functions. Printed by a program. No condition. -/
namespace Go.Proofs.Ytkkgnalgmebfjaa
set_option linter.unusedSimpArgs false
open Go Go.K
set_option maxRecDepth 100000
set_option maxHeartbeats 4000000
set_option linter.unusedVariables false
noncomputable section
def RwrongC (sp : Value) (cs : List Cell) : Prop :=
  (true = true ∧ (0 ≤ List.length cs ∧ sp = .int .i64 (errs errCell (List.drop 0 cs))) ∧ (true = true ∧ ((.int .i64 0 : Value) = .int .i64 ((0 : Nat) : Int) ∧ (.func (.func 104) #[] #[] : Value) = .func (.func 104) #[] #[] ∧ wk (.slice (some ⟨0, 0, some 2⟩) (List.length cs) (List.length cs) : Value) (.slice (some ⟨0, 0, some 2⟩) (List.length cs) (List.length cs) : Value) ∧ (.int .i64 (((List.length cs) : Nat) : Int) : Value) = .int .i64 (((List.length cs) : Nat) : Int) ∧ True) ∧ (True) ∧ (True) ∧ (True)) ∧ (∀ x0 : Nat, true = true) ∧ ∀ x0 : Nat, (x0 ≤ List.length cs ∧ sp = .int .i64 (errs errCell (List.drop x0 cs))) → (((decide ((((x0 : Nat) : Int) : Int) < (((List.length cs) : Nat) : Int))) = true → (((0 : Int) ≤ ((x0 : Nat) : Int) ∧ (((x0 : Nat) : Int) : Int) < (((List.length cs) : Nat) : Int)) ∧ ((partA 8 (List.flatMap cellC cs) (0 + Int.toNat ((x0 : Nat) : Int) * 8) = some (.agg #[.int .i64 (List.getD cs x0 zeroC).conc.lo, .int .i64 (List.getD cs x0 zeroC).conc.hi, .int .i64 (List.getD cs x0 zeroC).thick.lo, .int .i64 (List.getD cs x0 zeroC).thick.hi, .int .i64 (List.getD cs x0 zeroC).ridge.lo, .int .i64 (List.getD cs x0 zeroC).ridge.hi, .int .i64 (List.getD cs x0 zeroC).press.lo, .int .i64 (List.getD cs x0 zeroC).press.hi])) ∧ (∃ r1 : Int, ((True) ∧ (∀ H' : Heap, H'.length = 2 → (True) → KCall prog 104 [.agg #[.int .i64 (List.getD cs x0 zeroC).conc.lo, .int .i64 (List.getD cs x0 zeroC).conc.hi, .int .i64 (List.getD cs x0 zeroC).thick.lo, .int .i64 (List.getD cs x0 zeroC).thick.hi, .int .i64 (List.getD cs x0 zeroC).ridge.lo, .int .i64 (List.getD cs x0 zeroC).ridge.hi, .int .i64 (List.getD cs x0 zeroC).press.lo, .int .i64 (List.getD cs x0 zeroC).press.hi]] H' [] (Is (.int .i64 r1) H')) ∧ ((((r1 : Int) != 0) = true → (.int .i64 r1 : Value) = sp) ∧ (((r1 : Int) != 0) = false → ((.int .i64 (IntKind.wrap .i64 (((x0 : Nat) : Int) + 1)) : Value) = .int .i64 (((x0 : Nat) : Int) + 1) ∧ (∃ x0' : Nat, (x0' ≤ List.length cs ∧ sp = .int .i64 (errs errCell (List.drop x0' cs))) ∧ (List.length cs - x0') < (List.length cs - x0) ∧ true = true ∧ ((.int .i64 (((x0 : Nat) : Int) + 1) : Value) = .int .i64 ((x0' : Nat) : Int) ∧ (.func (.func 104) #[] #[] : Value) = .func (.func 104) #[] #[] ∧ wk (.slice (some ⟨0, 0, some 2⟩) (List.length cs) (List.length cs) : Value) (.slice (some ⟨0, 0, some 2⟩) (List.length cs) (List.length cs) : Value) ∧ (.int .i64 (((List.length cs) : Nat) : Int) : Value) = .int .i64 (((List.length cs) : Nat) : Int) ∧ True) ∧ (True) ∧ (True) ∧ (True)))))))))) ∧ ((decide ((((x0 : Nat) : Int) : Int) < (((List.length cs) : Nat) : Int))) = false → (.int .i64 0 : Value) = sp)))
theorem EwrongC (sp : Value) (cs : List Cell) : vF prog msk (dm 0) 100000 true 40 true 133 [.slice (some ⟨0, 0, some 2⟩) (List.length cs) (List.length cs), .func (.func 104) #[] #[]] (readsT 0 [cs.flatMap cellC]) (some [])
  (.go 3 (.inv 3 (Nat) (0) [] [] (fun x0 => [(10, .int .i64 ((x0 : Nat) : Int)), (1, .func (.func 104) #[] #[]), (8, .slice (some ⟨0, 0, some 2⟩) (List.length cs) (List.length cs)), (9, .int .i64 (((List.length cs) : Nat) : Int))]) (fun x0 => []) (fun x0 => []) (fun x0 => []) (fun x0 => (x0 ≤ List.length cs ∧ sp = .int .i64 (errs errCell (List.drop x0 cs)))) (fun x0 => (List.length cs - x0)) (fun x0 => .go 0 (.fork (.need (.val (.agg #[.int .i64 (List.getD cs x0 zeroC).conc.lo, .int .i64 (List.getD cs x0 zeroC).conc.hi, .int .i64 (List.getD cs x0 zeroC).thick.lo, .int .i64 (List.getD cs x0 zeroC).thick.hi, .int .i64 (List.getD cs x0 zeroC).ridge.lo, .int .i64 (List.getD cs x0 zeroC).ridge.hi, .int .i64 (List.getD cs x0 zeroC).press.lo, .int .i64 (List.getD cs x0 zeroC).press.hi]) (.go 3 (.bind (Int) (fun r1 => .ans [] (.int .i64 r1) [] (.go 2 (.fork (.auto) (.go 0 (.slot 20 (.int .i64 (((x0 : Nat) : Int) + 1)) (.go 0 (.again []))))))))))) (.auto)))))
  (fun v _ _ => v = sp) = RwrongC sp cs := by kernel_rfl
def RCheckChart (sp : Value) (w h t : Int) (cs : List Cell) : Prop :=
  (∃ r0 : Int, ((True) ∧ (∀ H' : Heap, H'.length = 2 → (True) → KCall prog 132 [.int .i64 w, .int .i64 h, .int .i64 t] H' [] (Is (.int .i64 r0) H')) ∧ ((((r0 : Int) != 0) = true → (.int .i64 r0 : Value) = sp) ∧ (((r0 : Int) != 0) = false → ((.int .i64 (IntKind.wrap .i64 (w * h)) : Value) = .int .i64 (w * h) ∧ (((((((List.length cs) : Nat) : Int) : Int) != (w * h)) = true → (.int .i64 1 : Value) = sp) ∧ ((((((List.length cs) : Nat) : Int) : Int) != (w * h)) = false → (∃ r1 : Int, (((some (.cells false 0 (List.flatMap cellC cs) : KObj) = some (.cells false 0 (List.flatMap cellC cs) : KObj)) ∧ True) ∧ (∀ H' : Heap, H'.length = 2 → (H'[0]? = some (.cells false 0 (List.flatMap cellC cs) : KObj) ∧ True) → KCall prog 133 [.slice (some ⟨0, 0, some 2⟩) (List.length cs) (List.length cs), .func (.func 104) #[] #[]] H' [] (Is (.int .i64 r1) H')) ∧ (.int .i64 r1 : Value) = sp)))))))))
theorem ECheckChart (sp : Value) (w h t : Int) (cs : List Cell) : vF prog msk (dm 0) 100000 true 40 true 97 [.agg #[.int .i64 w, .int .i64 h, .int .i64 t, .slice (some ⟨0, 0, some 2⟩) (List.length cs) (List.length cs)]] (readsT 0 [cs.flatMap cellC]) (some [])
  (.go 7 (.bind (Int) (fun r0 => .ans [] (.int .i64 r0) [] (.go 2 (.fork (.auto) (.go 7 (.slot 21 (.int .i64 (w * h)) (.go 0 (.fork (.auto) (.go 1 (.bind (Int) (fun r1 => .ans [(0, .cells false 0 (List.flatMap cellC cs))] (.int .i64 r1) [] (.auto)))))))))))))
  (fun v _ _ => v = sp) = RCheckChart sp w h t cs := by kernel_rfl
end
end Go.Proofs.Ytkkgnalgmebfjaa
/- Ice: functions of charts. No condition. -/
namespace Go.Proofs.Ytkkgnalgmebfjaa
open Go Go.K
set_option maxRecDepth 100000
set_option linter.unusedVariables false
set_option linter.unusedSimpArgs false
noncomputable section
attribute [local irreducible] vF
theorem cellC_len (c : Cell) : (cellC c).length = 8 := rfl
theorem partCell {xs : List Cell} {x : Nat} (h : x < xs.length) : partA 8 (List.flatMap cellC xs) (0 + Int.toNat ((x : Nat) : Int) * 8) = some (.agg ⟨cellC (List.getD xs x zeroC)⟩) :=
  part_at (f := cellC) (d := zeroC) (c := 0) (m := 8) cellC_len h (by rw [Int.toNat_natCast]; omega) (by decide)
theorem plainC (n : Nat) (l : List Cell) : (l.flatMap cellC).all (belowC n) = true := plain_flat (fun _ => rfl) l
theorem kwrongC (xs : List Cell) (hn : xs.length ≤ 2 ^ 30) {H : Heap} {id : Nat} {own : Bool} {z : Nat} (hid : H[id]? = some (.cells own z (xs.flatMap cellC))) :
    KCall prog F.ice_wrong_ice_Cell_ [.slice (some ⟨id, 0, some 2⟩) xs.length xs.length, .func (.func F.ice_CheckCell) #[] #[]] H [] (Is (.int .i64 (errs errCell xs)) H) := by
  refine valR (Eq.mpr (EwrongC _ xs) ?_) (one_cs (plainC 0 xs)) rfl [id] rfl (one_id hid)
  unfold RwrongC
  refine ⟨rfl, ⟨Nat.zero_le _, rfl⟩, ?_, fun _ => rfl, ?_⟩
  · repeat' first | exact trivial | exact rfl | exact wk_refl _ | refine wkO_cells ?_ | refine wks_cons ?_ ?_ | exact wks_nil | exact wk_nil _ _ _ (.inl rfl) | (exact wk_Q (by omega)) | refine wk_tupL ?_ | refine wk_aggL ?_ | refine joinMax ?_ ?_ ?_ | refine joinMin ?_ ?_ ?_ | refine toMax ?_ | refine toMin ?_ | refine ⟨rfl, ?_⟩ | refine ⟨trivial, ?_⟩ | (refine forkD (fun h => ?_) (fun h => ?_)) | (refine forkNe (fun h => ?_) (fun h => ?_)) | (refine forkEq (fun h => ?_) (fun h => ?_)) | refine forkNot ?_ | (refine ⟨vI64 (by omega), ?_⟩) | (refine And.intro (by omega) ?_) | apply And.intro | (exact iEq (by omega)) | (exact vI64 (by omega))
  rintro x ⟨hx, hsp⟩
  refine forkD (fun h => ?_) (fun h => ?_)
  · have hlt : x < xs.length := by omega
    rw [errs_at (d := zeroC) hlt] at hsp
    refine ⟨by omega, partCell hlt, _, trivial, fun H' _ _ => kCheckCell _ H', ?_⟩
    refine forkNe (fun h1 => ?_) (fun h1 => ?_)
    · rw [hsp, if_neg h1]
    · repeat' first | (refine ⟨x + 1, ⟨by omega, by rw [hsp, if_pos h1]⟩, by omega, ?_⟩) | exact trivial | exact rfl | exact wk_refl _ | refine wkO_cells ?_ | refine wks_cons ?_ ?_ | exact wks_nil | exact wk_nil _ _ _ (.inl rfl) | (exact wk_Q (by omega)) | refine wk_tupL ?_ | refine wk_aggL ?_ | refine joinMax ?_ ?_ ?_ | refine joinMin ?_ ?_ ?_ | refine toMax ?_ | refine toMin ?_ | refine ⟨rfl, ?_⟩ | refine ⟨trivial, ?_⟩ | (refine forkD (fun h => ?_) (fun h => ?_)) | (refine forkNe (fun h => ?_) (fun h => ?_)) | (refine forkEq (fun h => ?_) (fun h => ?_)) | refine forkNot ?_ | (refine ⟨vI64 (by omega), ?_⟩) | (refine And.intro (by omega) ?_) | apply And.intro | (exact iEq (by omega)) | (exact vI64 (by omega))
  · rw [hsp, show x = xs.length by omega, List.drop_length]; rfl
theorem errChart_1 {w h t : Int} {cs : List Cell} (h0 : ¬ errSize w h t = 0) : errChart w h t cs = errSize w h t := first2_1 h0
theorem errChart_2 {w h t : Int} {cs : List Cell} (h0 : errSize w h t = 0) (h1 : (cs.length : Int) ≠ w * h) : errChart w h t cs = 1 := (first2_2 h0).trans (if_neg h1)
theorem errChart_3 {w h t : Int} {cs : List Cell} (h0 : errSize w h t = 0) (h1 : (cs.length : Int) = w * h) : errChart w h t cs = errs errCell cs := (first2_2 h0).trans (if_pos h1)
theorem size_mul {w h t : Int} (h0 : errSize w h t = 0) : 1 ≤ w * h ∧ w * h ≤ 1024 := by
  obtain ⟨h1, h2, h3, _⟩ := errSize_iff.1 h0
  refine ⟨?_, h3⟩
  have : 1 * 1 ≤ w * h := Int.mul_le_mul h1.1 h2.1 (by omega) (by omega)
  omega
theorem kCheckChart (w h t : Int) (cs : List Cell) {H : Heap} {id : Nat} {own : Bool} {z : Nat} (hid : H[id]? = some (.cells own z (cs.flatMap cellC))) :
    KCall prog F.ice_CheckChart [.agg #[.int .i64 w, .int .i64 h, .int .i64 t, .slice (some ⟨id, 0, some 2⟩) cs.length cs.length]] H [] (Is (.int .i64 (errChart w h t cs)) H) := by
  refine valR (Eq.mpr (ECheckChart _ w h t cs) ?_) (one_cs (plainC 0 cs)) rfl [id] rfl (one_id hid)
  unfold RCheckChart
  refine ⟨_, trivial, fun H' _ _ => ksize _ _ _ H', ?_⟩
  refine forkNe (fun h0 => iEq (errChart_1 h0).symm) (fun h0 => ?_)
  have hm := size_mul h0
  repeat' first | (refine ⟨_, ⟨rfl, trivial⟩, fun H' _ hd => kwrongC _ (by omega) hd.1, ?_⟩) | exact iEq (errChart_2 h0 h).symm | exact iEq (errChart_3 h0 h).symm | exact trivial | exact rfl | exact wk_refl _ | refine wkO_cells ?_ | refine wks_cons ?_ ?_ | exact wks_nil | exact wk_nil _ _ _ (.inl rfl) | (exact wk_Q (by omega)) | refine wk_tupL ?_ | refine wk_aggL ?_ | refine joinMax ?_ ?_ ?_ | refine joinMin ?_ ?_ ?_ | refine toMax ?_ | refine toMin ?_ | refine ⟨rfl, ?_⟩ | refine ⟨trivial, ?_⟩ | (refine forkD (fun h => ?_) (fun h => ?_)) | (refine forkNe (fun h => ?_) (fun h => ?_)) | (refine forkEq (fun h => ?_) (fun h => ?_)) | refine forkNot ?_ | (refine ⟨vI64 (by omega), ?_⟩) | (refine And.intro (by omega) ?_) | apply And.intro | (exact iEq (by omega)) | (exact vI64 (by omega))
theorem errChart_ok {w h t : Int} {cs : List Cell} (h0 : errChart w h t cs = 0) : sizeOk w h t ∧ (cs.length : Int) = w * h ∧ cs.length ≤ 1024 ∧ ∀ c ∈ cs, rightC c := by
  have h1 : errSize w h t = 0 := by
    rcases Classical.em (errSize w h t = 0) with h1 | h1
    · exact h1
    · rw [errChart_1 h1] at h0; exact h0
  have h2 : (cs.length : Int) = w * h := by
    rcases Classical.em ((cs.length : Int) = w * h) with h2 | h2
    · exact h2
    · rw [errChart_2 h1 h2] at h0; cases h0
  rw [errChart_3 h1 h2] at h0
  have hm := size_mul h1
  exact ⟨errSize_iff.1 h1, h2, by omega, fun c hc => errCell_iff.1 (errs_zero h0 c hc)⟩
end
end Go.Proofs.Ytkkgnalgmebfjaa
/- Drift: what comes together in a cell, and what a step makes of a field. No condition. -/
namespace Go.Proofs.Ytkkgnalgmebfjaa
set_option linter.unusedSimpArgs false
set_option linter.unusedVariables false
open Go Go.K
noncomputable section
/-- What has come to a cell: all Conc, and the greatest Thick and Ridge. -/
structure Pl where
  s : Int
  t : Int
  r : Int
def zeroP : Pl := ⟨0, 0, 0⟩
abbrev plC1 (p : Pl) : List Value := [.int .i64 p.s]
abbrev plC2 (p : Pl) : List Value := [.int .i64 0, .int .i64 p.t, .int .i64 p.r, .int .i64 0]
def addP (p : Pl) (x : Ice) : Pl := if x.conc = 0 then p else ⟨p.s + x.conc, max p.t x.thick, max p.r x.ridge⟩
def overP (p : Pl) : Int := max (p.s - 100) 0
def tellP (p : Pl) : Ice := ⟨p.s - overP p, min (p.t + Int.tdiv (overP p) 10) 400, min (p.r + Int.tdiv (overP p) 5) 100, min (Int.tdiv (overP p + 25 - 1) 25) 3⟩
/-- The closures of member j of two families; those of the first x of n. -/
def clos (f F1 F2 j : Nat) : Value := .func (.func f) #[] #[.pointer (some ⟨F1, 0, some (j + 3)⟩), .pointer (some ⟨F2, 0, some (j + 3)⟩)]
def closL (f F1 F2 x n : Nat) : List Value := (List.range n).map fun j => if j < x then clos f F1 F2 j else .nilFunc
/-- The first error of those at the first indices. -/
def errUp (e : Nat → Int) : Nat → Int
  | 0 => 0
  | k + 1 => first2 (errUp e k) (e k)
def isZ (x : Ice) : Bool := (x.conc == 0) && ((x.thick == 0) && ((x.ridge == 0) && ((x.press == 0) && true)))
def inMv (f : Flow) (m : Move) : Bool := (decide ((endA f).dx ≤ m.dx) && decide (m.dx ≤ (endZ f).dx)) && (decide ((endA f).dy ≤ m.dy) && decide (m.dy ≤ (endZ f).dy))
def mvErr (a : List Bool) (l : List Flow) (xs : List Ice) (ms : List Move) (k : Nat) : Int :=
  first2 (errIce (xs.getD k zeroI)) (if a.getD k false = true then (if isZ (xs.getD k zeroI) = true then 0 else 30) else (if inMv (l.getD k zeroF) (ms.getD k zeroM) = true then 0 else 30))
def errDr (w h : Int) (a : List Bool) (l : List Flow) (xs : List Ice) (ms : List Move) : Int :=
  first2 (errFlows w h a.length l) (if xs.length = l.length ∧ ms.length = l.length then errUp (mvErr a l xs ms) xs.length else 1)
/-- What has come to each cell from the first ones. -/
def plTo (w h : Int) (a : List Bool) (xs : List Ice) (ms : List Move) : Nat → List Pl
  | 0 => List.replicate a.length zeroP
  | k + 1 => if a.getD k false = true then plTo w h a xs ms k else
      (plTo w h a xs ms k).set (Int.toNat (targ w h a (k : Int) (ms.getD k zeroM))) (addP ((plTo w h a xs ms k).getD (Int.toNat (targ w h a (k : Int) (ms.getD k zeroM))) zeroP) (xs.getD k zeroI))
def driftI (w h : Int) (a : List Bool) (xs : List Ice) (ms : List Move) : List Ice := (plTo w h a xs ms xs.length).map tellP
def driftE (w h : Int) (a : List Bool) (xs : List Ice) (ms : List Move) : List Int := (plTo w h a xs ms xs.length).map overP
def fDrift (w h : Int) (a : List Bool) (l : List Flow) (xs : List Ice) (ms : List Move) : List Ice × List Int × Int :=
  if errDr w h a l xs ms = 0 then (driftI w h a xs ms, driftE w h a xs ms, 0) else ([], [], errDr w h a l xs ms)
end
end Go.Proofs.Ytkkgnalgmebfjaa
