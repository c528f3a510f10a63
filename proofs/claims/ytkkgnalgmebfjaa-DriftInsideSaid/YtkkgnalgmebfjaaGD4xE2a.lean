/- Drift: where moves lead: what is answered. No condition. -/
import Derived.Test.YtkkgnalgmebfjaaGK27xK32
import Derived.IntWalk
namespace Go.Proofs.Ytkkgnalgmebfjaa
open Go Go.K
set_option maxRecDepth 100000
set_option linter.unusedVariables false
set_option linter.unusedSimpArgs false
noncomputable section
attribute [local irreducible] vF
theorem boolC_len (b : Bool) : (boolC b).length = 1 := rfl
theorem intC_len (x : Int) : (intC x).length = 1 := rfl
theorem plainIL (n : Nat) (l : List Int) : (l.flatMap intC).all (belowC n) = true := plain_flat (fun _ => rfl) l
theorem boolAt {a : List Bool} {k : Nat} (h : k < a.length) {off : Nat} (ho : off = k) : (a.flatMap boolC)[off]? = some (.bool (a.getD k false)) := cell_at (c := 0) boolC_len h (by omega) rfl
theorem intAt {a : List Int} {k : Nat} (h : k < a.length) {off : Nat} (ho : off = k) : (a.flatMap intC)[off]? = some (.int .i64 (a.getD k 0)) := cell_at (c := 0) intC_len h (by omega) rfl
theorem partMove {l : List Move} {x : Nat} (h : x < l.length) : partA 2 (l.flatMap moveC) (0 + Int.toNat ((x : Nat) : Int) * 2) = some (.agg ⟨moveC (l.getD x zeroM)⟩) :=
  part_at (n := 2) (d := zeroM) (c := 0) moveC_len h (by omega) (by omega)
theorem setl_mid : ∀ (n o A B : List Value), o.length = n.length → setl (A ++ (o ++ B)) A.length n = A ++ (n ++ B)
  | [], [], A, B, _ => rfl
  | v :: n, w :: o, A, B, h => by
    have e : (A ++ (w :: o ++ B)).set A.length v = (A ++ [v]) ++ (o ++ B) := by simp
    have := setl_mid n o (A ++ [v]) B (by simpa using h)
    simp only [setl]
    rw [e]
    simpa using this
theorem flat_set {α : Type} {f : α → List Value} {m : Nat} (hf : ∀ x, (f x).length = m) (xs : List α) (k : Nat) (hk : k < xs.length) (y : α) : setl (xs.flatMap f) (k * m) (f y) = (xs.set k y).flatMap f := by
  have e1 : xs = xs.take k ++ xs[k] :: xs.drop (k + 1) := by rw [← List.drop_eq_getElem_cons hk, List.take_append_drop]
  have e2 : xs.set k y = xs.take k ++ y :: xs.drop (k + 1) := by rw [List.set_eq_take_append_cons_drop, if_pos hk]
  have hl : ((xs.take k).flatMap f).length = k * m := by rw [flat_len hf, List.length_take, Nat.min_eq_left (Nat.le_of_lt hk)]
  rw [e2]
  conv => lhs; rw [e1]
  rw [List.flatMap_append, List.flatMap_cons, List.flatMap_append, List.flatMap_cons, ← hl]
  exact setl_mid _ _ _ _ (by rw [hf, hf])
/-- A basin that is right. -/
structure BasOk (w h : Int) (n : Nat) : Prop where
  w1 : 1 ≤ w ∧ w ≤ 64
  h1 : 1 ≤ h ∧ h ≤ 64
  p1 : w * h ≤ 1024
  n1 : (n : Int) = w * h
theorem basOk {w h : Int} {n : Nat} (e : errBas w h n = 0) : BasOk w h n := by
  obtain ⟨b1, b2, b3, b4⟩ := errBas_0 e
  exact ⟨b1, b2, b3, b4⟩
theorem divmod {w h c : Int} {n : Nat} (b : BasOk w h n) (hc : 0 ≤ c ∧ c < w * h) : (0 ≤ Int.tmod c w ∧ Int.tmod c w < w) ∧ (0 ≤ Int.tdiv c w ∧ Int.tdiv c w < h) := by
  have w1 := b.w1
  have e1 : Int.tdiv c w = c / w := Int.tdiv_eq_ediv_of_nonneg hc.1
  have e2 : Int.tmod c w = c % w := Int.tmod_eq_emod_of_nonneg hc.1
  rw [e1, e2]
  refine ⟨⟨Int.emod_nonneg _ (by omega), Int.emod_lt_of_pos _ (by omega)⟩, Int.ediv_nonneg hc.1 (by omega), Int.ediv_lt_of_lt_mul (by omega) (by rw [Int.mul_comm]; exact hc.2)⟩
theorem cellbd {w h x y : Int} (hx : 0 ≤ x ∧ x < w) (hy : 0 ≤ y ∧ y < h) : 0 ≤ y * w + x ∧ y * w + x < w * h := by
  have h1 : 0 ≤ y * w := Int.mul_nonneg hy.1 (by omega)
  have h2 : (y + 1) * w ≤ h * w := Int.mul_le_mul_of_nonneg_right (by omega) (by omega)
  rw [Int.add_mul, Int.one_mul, Int.mul_comm h w] at h2
  omega
def mvOk (m : Move) : Prop := (-2 ≤ m.dx ∧ m.dx ≤ 2) ∧ (-2 ≤ m.dy ∧ m.dy ≤ 2)
def tgIn (w h : Int) (a : List Bool) (c : Int) (m : Move) : Prop := (0 ≤ Int.tmod c w + m.dx ∧ Int.tmod c w + m.dx < w) ∧ (0 ≤ Int.tdiv c w + m.dy ∧ Int.tdiv c w + m.dy < h) ∧ a.getD (Int.toNat ((Int.tdiv c w + m.dy) * w + (Int.tmod c w + m.dx))) false = false
theorem targ_1 {w h : Int} {a : List Bool} {c : Int} {m : Move} (k : tgIn w h a c m) : targ w h a c m = (Int.tdiv c w + m.dy) * w + (Int.tmod c w + m.dx) := if_pos k
theorem targ_0 {w h : Int} {a : List Bool} {c : Int} {m : Move} (k : ¬ tgIn w h a c m) : targ w h a c m = c := if_neg k
theorem targ_bd {w h : Int} {a : List Bool} {c : Int} (hc : 0 ≤ c ∧ c < w * h) (m : Move) : 0 ≤ targ w h a c m ∧ targ w h a c m < w * h := by
  by_cases k : tgIn w h a c m
  · rw [targ_1 k]; exact cellbd k.1 k.2.1
  · rw [targ_0 k]; exact hc
theorem ktarget {w h : Int} {a : List Bool} {c : Int} {m : Move} (b : BasOk w h a.length) (hc : 0 ≤ c ∧ c < w * h) (hm : mvOk m) {H : Heap} {id : Nat} {own : Bool} {z : Nat} (hid : H[id]? = some (.cells own z (a.flatMap boolC))) :
    KCall prog F.drift_sea_target [basV w h id a.length, .int .i64 c, moveV m] H [] (Is (.int .i64 (targ w h a c m)) H) := by
  refine valR (css := [a.flatMap boolC]) (v := .int .i64 (targ w h a c m)) (Eq.mpr (Etarget _ w h a c m) ?_) (one_cs (plainBL 0 a)) rfl [id] rfl (one_id hid)
  unfold Rtarget
  have e1 := targ_1 (w := w) (h := h) (a := a) (c := c) (m := m)
  have e0 := targ_0 (w := w) (h := h) (a := a) (c := c) (m := m)
  unfold tgIn at e0 e1
  obtain ⟨⟨m1, m2⟩, m3, m4⟩ := hm
  obtain ⟨d1, d2⟩ := divmod b hc
  obtain ⟨b1, b2, b3, b4⟩ := b
  have cb := cellbd (w := w) (h := h) (x := Int.tmod c w + m.dx) (y := Int.tdiv c w + m.dy)
  have hx : -2 ≤ Int.tmod c w + m.dx ∧ Int.tmod c w + m.dx ≤ 66 := by omega
  have hy : -2 ≤ Int.tdiv c w + m.dy ∧ Int.tdiv c w + m.dy ≤ 66 := by omega
  have hy2 : 0 ≤ Int.tdiv c w ∧ Int.tdiv c w ≤ 64 := by omega
  generalize targ w h a c m = T at e0 e1 ⊢
  generalize Int.tmod c w + m.dx = X at *
  generalize Int.tdiv c w + m.dy = Y at *
  generalize Y * w = P at *
  generalize w * h = Q at *
  repeat' first | (exact iEq (e0 (fun k => by omega)).symm) | refine ⟨_, rfl, ?_⟩ | (refine ⟨fun hb => iEq (e0 fun k => Bool.false_ne_true (k.2.2.symm.trans hb)).symm, fun hb => ?_⟩) | (exact boolAt (by omega) (by omega)) | (exact iEq (e1 ⟨by omega, by omega, hb⟩).symm) | omega | exact trivial | exact rfl | exact wk_refl _ | refine wkO_cells ?_ | refine wks_cons ?_ ?_ | exact wks_nil | exact wk_nil _ _ _ (.inl rfl) | (exact wk_Q (by omega)) | refine wk_tupL ?_ | refine wk_aggL ?_ | refine joinMax ?_ ?_ ?_ | refine joinMin ?_ ?_ ?_ | refine toMax ?_ | refine toMin ?_ | refine ⟨rfl, ?_⟩ | refine ⟨trivial, ?_⟩ | (refine forkD (fun h => ?_) (fun h => ?_)) | (refine forkNe (fun h => ?_) (fun h => ?_)) | (refine forkEq (fun h => ?_) (fun h => ?_)) | refine forkNot ?_ | (refine ⟨vI64 (by omega), ?_⟩) | (refine And.intro (by omega) ?_) | apply And.intro | (exact iEq (by omega)) | (exact vI64 (by omega))
theorem mvTo_ok {f : Flow} (hf : rightF f) : ∀ (j : Nat), j ≤ nyF f → ∀ m ∈ mvTo f j, mvOk m
  | 0, _, m, h => by cases h
  | j + 1, hj, m, h => by
    have eb := ends_bd hf
    have xb := nx_bd hf
    have yb := ny_bd hf
    rcases List.mem_append.1 h with h | h
    · exact mvTo_ok hf j (by omega) m h
    · unfold mvRow tabP at h
      obtain ⟨i, hi, rfl⟩ := List.mem_map.1 h
      have := List.mem_range.1 hi
      exact ⟨⟨by dsimp only; omega, by dsimp only; omega⟩, by dsimp only; omega, by dsimp only; omega⟩
theorem getD_mem {α : Type} {l : List α} {d : α} {x : Nat} (h : x < l.length) : l.getD x d ∈ l := by
  rw [List.getD_eq_getElem?_getD, List.getElem?_eq_getElem h]; exact List.getElem_mem h
theorem moves_ok {f : Flow} (hf : rightF f) {x : Nat} (h : x < (movesF f).length) : mvOk ((movesF f).getD x zeroM) := mvTo_ok hf _ (Nat.le_refl _) _ (getD_mem h)
theorem tgL_len (w h : Int) (a : List Bool) (c : Int) (f : Flow) : (tgL w h a c f).length = (movesF f).length := List.length_map _
theorem tgL_get {w h : Int} {a : List Bool} {c : Int} {f : Flow} {x : Nat} (hx : x < (movesF f).length) : (tgL w h a c f).getD x 0 = targ w h a c ((movesF f).getD x zeroM) := by
  unfold tgL
  rw [List.getD_eq_getElem?_getD, List.getElem?_map, List.getD_eq_getElem?_getD, List.getElem?_eq_getElem hx]; rfl
theorem tgL_bd {w h : Int} {a : List Bool} {c : Int} {f : Flow} (hc : 0 ≤ c ∧ c < w * h) : ∀ z ∈ tgL w h a c f, 0 ≤ z ∧ z < w * h := by
  intro z hz
  obtain ⟨m, _, rfl⟩ := List.mem_map.1 hz
  exact targ_bd hc m
theorem intMap (l : List Int) : l.flatMap intC = l.map (Value.int .i64) := by
  induction l with
  | nil => rfl
  | cons x l ih => rw [List.flatMap_cons, ih]; rfl
theorem enters_some {P : Program} {f : FuncId} {fn : Func} (hf : P.funcs[f]? = some fn) (hname : (fn.name == "runtime.NumGoroutine") = false) (hb : fn.body.isSome = true) : Enters P f := by
  obtain ⟨c, hc⟩ := Option.isSome_iff_exists.1 hb
  exact enters_of hf hname hc
theorem enters124 : Enters prog 124 := enters_some Try.func124 (by kernel_rfl) (by kernel_rfl)
theorem kSort {L0 : List Int} (h0 : 0 < L0.length) (h1 : L0.length < 1000) {H : Heap} {id : Nat} (ho : H[id]? = some (.cells true 1 (L0.flatMap intC))) :
    KCall prog 124 [.slice (some ⟨id, 0, some 1⟩) L0.length L0.length] H [id] (Is (.tuple #[]) (H.set id (.cells true 1 ((srtI L0).flatMap intC)))) := by
  rw [intMap] at ho ⊢
  exact kSortInt sortI enters124 (.inr rfl) h0 (by omega) ho
end
end Go.Proofs.Ytkkgnalgmebfjaa
/- Drift: the places a flow leads to, sorted and without repeats. No condition. -/
namespace Go.Proofs.Ytkkgnalgmebfjaa
open Go Go.K
set_option maxRecDepth 100000
set_option linter.unusedVariables false
set_option linter.unusedSimpArgs false
noncomputable section
attribute [local irreducible] vF
theorem fin_same {L : List Int} (h : comp (srtI L) = srtI L) : comp (srtI L) ++ padT L = srtI L := by
  unfold padT
  rw [h, srt_len, Nat.sub_self]; exact List.append_nil _
theorem krep_int (n : Nat) : krep [.int .i64 0] n = (List.replicate n (0 : Int)).flatMap intC := by
  induction n with
  | zero => rfl
  | succ n ih => show .int .i64 0 :: krep [.int .i64 0] n = _; rw [ih]; rfl
theorem setl_tail {A B : List Int} {k n : Nat} (hk : k = A.length) (hn : n = B.length) : setl ((A ++ B).flatMap intC) (0 + k * 1) (krep [.int .i64 0] n) = (A ++ List.replicate n 0).flatMap intC := by
  subst hk hn
  rw [krep_int, List.flatMap_append, List.flatMap_append, show 0 + A.length * 1 = (A.flatMap intC).length from by rw [flat_len intC_len]; omega]
  have := setl_mid ((List.replicate B.length (0 : Int)).flatMap intC) (B.flatMap intC) (A.flatMap intC) [] (by rw [flat_len intC_len, flat_len intC_len, List.length_replicate])
  simpa using this
theorem ktargets {w h : Int} {a : List Bool} {c : Int} {f : Flow} (b : BasOk w h a.length) (hc : 0 ≤ c ∧ c < w * h) (hf : rightF f) {H : Heap} {L : Nat} (hL : H.length = L) {id : Nat} {own : Bool} {z : Nat} (hid : H[id]? = some (.cells own z (a.flatMap boolC))) :
    KCall prog F.drift_sea_targets [basV w h id a.length, flowV f, .int .i64 c] H [] (Is (.slice (some ⟨L, 0, some 2⟩) (comp (srtI (tgL w h a c f))).length (comp (srtI (tgL w h a c f))).length) (H ++ [.cells true 1 ((comp (srtI (tgL w h a c f)) ++ padT (tgL w h a c f)).flatMap intC)])) := by
  subst hL
  refine valQ (fun i => .slice (some ⟨i, 0, some 2⟩) (comp (srtI (tgL w h a c f))).length (comp (srtI (tgL w h a c f))).length) (Eq.mpr (Etargets w h a c f) ?_) (plainBL 0 a) (fun n => plainIL n _) rfl rfl (fun _ => rfl) hid rfl
  unfold Rtargets
  have mb := movesF_bd hf
  have hTl := tgL_len w h a c f
  have hSl := (srt_len (tgL w h a c f)).trans hTl
  have hfin := fin_same (L := tgL w h a c f)
  have hpad : padT (tgL w h a c f) = List.replicate ((tgL w h a c f).length - (comp (srtI (tgL w h a c f))).length) 0 := rfl
  refine ⟨trivial, fun H' hl _ => kmoves f hf hl, rfl, Nat.zero_le _, ?_, fun _ => rfl, ?_⟩
  · repeat' first | exact plainIL _ _ | exact trivial | exact rfl | exact wk_refl _ | refine wkO_cells ?_ | refine wks_cons ?_ ?_ | exact wks_nil | exact wk_nil _ _ _ (.inl rfl) | (exact wk_Q (by omega)) | refine wk_tupL ?_ | refine wk_aggL ?_ | refine joinMax ?_ ?_ ?_ | refine joinMin ?_ ?_ ?_ | refine toMax ?_ | refine toMin ?_ | refine ⟨rfl, ?_⟩ | refine ⟨trivial, ?_⟩ | (refine forkD (fun h => ?_) (fun h => ?_)) | (refine forkNe (fun h => ?_) (fun h => ?_)) | (refine forkEq (fun h => ?_) (fun h => ?_)) | refine forkNot ?_ | (refine ⟨vI64 (by omega), ?_⟩) | (refine And.intro (by omega) ?_) | apply And.intro | (exact iEq (by omega)) | (exact vI64 (by omega))
  intro x hx
  refine forkD (fun k => ?_) (fun k => ?_)
  · have hlt : x < (movesF f).length := by omega
    have hM : (tgL w h a c f).take (x + 1) = (tgL w h a c f).take x ++ [targ w h a c ((movesF f).getD x zeroM)] := by
      rw [List.take_add_one, ← tgL_get hlt, List.getD_eq_getElem?_getD, List.getElem?_eq_getElem (by omega)]; rfl
    have hlx : ((tgL w h a c f).take x).length = x := by rw [List.length_take]; omega
    have hob := ob_snoc (own := true) intC_len hM rfl
    have hfl := flat_le intC_len ((tgL w h a c f).take x)
    rw [hlx] at hob hfl
    refine ⟨by omega, partMove hlt, targ w h a c ((movesF f).getD x zeroM), ⟨rfl, trivial⟩, fun H' hl hd => ktarget b hc (moves_ok hf hlt) hd.1, ?_⟩
    repeat' first | (refine ⟨x + 1, by omega, by omega, rfl, ?_⟩) | exact hob | exact plainIL _ _ | exact hfl | exact Nat.le_refl _ | exact trivial | exact rfl | exact wk_refl _ | refine wkO_cells ?_ | refine wks_cons ?_ ?_ | exact wks_nil | exact wk_nil _ _ _ (.inl rfl) | (exact wk_Q (by omega)) | refine wk_tupL ?_ | refine wk_aggL ?_ | refine joinMax ?_ ?_ ?_ | refine joinMin ?_ ?_ ?_ | refine toMax ?_ | refine toMin ?_ | refine ⟨rfl, ?_⟩ | refine ⟨trivial, ?_⟩ | (refine forkD (fun h => ?_) (fun h => ?_)) | (refine forkNe (fun h => ?_) (fun h => ?_)) | (refine forkEq (fun h => ?_) (fun h => ?_)) | refine forkNot ?_ | (refine ⟨vI64 (by omega), ?_⟩) | (refine And.intro (by omega) ?_) | apply And.intro | (exact iEq (by omega)) | (exact vI64 (by omega))
  · obtain rfl : x = (movesF f).length := by omega
    have hkS : ∀ H' : Heap, H'[4]? = some (.cells true 1 ((tgL w h a c f).flatMap intC)) → KCall prog 124 [.slice (some ⟨4, 0, some 1⟩) (movesF f).length (movesF f).length] H' [4] (Is (.tuple #[]) (H'.set 4 (.cells true 1 ((srtI (tgL w h a c f)).flatMap intC)))) := fun H' ho => by
      have := kSort (L0 := tgL w h a c f) (by omega) (by omega) ho
      rw [hTl] at this; exact this
    rw [show (tgL w h a c f).take (movesF f).length = tgL w h a c f from by rw [← hTl]; exact List.take_length]
    obtain ⟨S, hS⟩ : ∃ S, srtI (tgL w h a c f) = S := ⟨_, rfl⟩
    rw [hS] at hSl hfin hpad hkS
    rw [hS]
    have hdone : comp S = S → (comp S).length = (movesF f).length := fun e => by rw [e, hSl]
    generalize (movesF f).length = n at *
    rw [hTl] at hpad
    refine ⟨⟨rfl, trivial⟩, fun H' hl hd => hkS H' hd.1, forkD (fun k2 => ?_) (fun k2 => ?_)⟩
    · have hc1 : comp S = S := by
        match S, hSl with
        | [s], _ => rfl
        | [], e => exact absurd e (by simp only [List.length_nil]; omega)
        | _ :: _ :: _, e => exact absurd e (by simp only [List.length_cons]; omega)
      rw [hdone hc1, hfin hc1]
      exact ⟨rfl, wk_QR, ⟨rfl, plainIL _ _⟩, trivial⟩
    · have hc1 : comp (S.take 1) = S.take 1 := by
        match S, hSl with
        | s :: r, _ => rfl
        | [], e => exact absurd e (by simp only [List.length_nil]; omega)
      refine ⟨rfl, ⟨Nat.le_refl _, by omega, hc1⟩, ?_, fun _ => rfl, ?_⟩
      · repeat' first | exact plainIL _ _ | exact trivial | exact rfl | exact wk_refl _ | refine wkO_cells ?_ | refine wks_cons ?_ ?_ | exact wks_nil | exact wk_nil _ _ _ (.inl rfl) | (exact wk_Q (by omega)) | refine wk_tupL ?_ | refine wk_aggL ?_ | refine joinMax ?_ ?_ ?_ | refine joinMin ?_ ?_ ?_ | refine toMax ?_ | refine toMin ?_ | refine ⟨rfl, ?_⟩ | refine ⟨trivial, ?_⟩ | (refine forkD (fun h => ?_) (fun h => ?_)) | (refine forkNe (fun h => ?_) (fun h => ?_)) | (refine forkEq (fun h => ?_) (fun h => ?_)) | refine forkNot ?_ | (refine ⟨vI64 (by omega), ?_⟩) | (refine And.intro (by omega) ?_) | apply And.intro | (exact iEq (by omega)) | (exact vI64 (by omega))
      rintro x3 ⟨j1, j2, j3⟩
      refine forkD (fun k3 => ?_) (fun k3 => ?_)
      · have hx3 : x3 < S.length := by omega
        rw [show Int.toNat ((x3 : Int) - 1) = x3 - 1 by omega]
        refine ⟨by omega, intAt hx3 (by omega), vI64 (by omega), by omega, intAt (by omega) (by omega), forkEq (fun q => ?_) (fun q => ?_)⟩
        · obtain ⟨q1, q2⟩ := cmpTo_0 j1 hx3 j3 q
          refine ⟨⟨⟨.inr (.inr rfl), Nat.le_refl _⟩, Nat.le_refl _, by omega⟩, rfl, rfl, ⟨Nat.le_refl _, by omega, by omega⟩, ?_, fun _ => rfl, ?_⟩
          · rw [q1, q2]
            repeat' first | exact plainIL _ _ | exact trivial | exact rfl | exact wk_refl _ | refine wkO_cells ?_ | refine wks_cons ?_ ?_ | exact wks_nil | exact wk_nil _ _ _ (.inl rfl) | (exact wk_Q (by omega)) | refine wk_tupL ?_ | refine wk_aggL ?_ | refine joinMax ?_ ?_ ?_ | refine joinMin ?_ ?_ ?_ | refine toMax ?_ | refine toMin ?_ | refine ⟨rfl, ?_⟩ | refine ⟨trivial, ?_⟩ | (refine forkD (fun h => ?_) (fun h => ?_)) | (refine forkNe (fun h => ?_) (fun h => ?_)) | (refine forkEq (fun h => ?_) (fun h => ?_)) | refine forkNot ?_ | (refine ⟨vI64 (by omega), ?_⟩) | (refine And.intro (by omega) ?_) | apply And.intro | (exact iEq (by omega)) | (exact vI64 (by omega))
          rintro x4 ⟨i1, i2, i3⟩
          have hcl := cmpTo_len i2
          refine forkD (fun k4 => ?_) (fun k4 => ?_)
          · have hm : x3 + x4 < S.length := by omega
            have g1 := cmpTo_get (S := S) (m := x3 + x4) (k := x3 + x4) (by omega)
            have g2 := cmpTo_get (S := S) (m := x3 + x4) (k := x3 + x4 - 1) (by omega)
            have a1 : ∀ off, off = x3 + x4 → ((cmpTo S (x3 + x4)).flatMap intC)[off]? = some (.int .i64 ((cmpTo S (x3 + x4)).getD (x3 + x4) 0)) := fun off ho => intAt (by omega) ho
            rw [show x3 + Int.toNat ((x4 : Int) - 1) = x3 + x4 - 1 by omega]
            refine ⟨by omega, a1 _ (by omega), vI64 (by omega), by omega, intAt (by omega) (by omega), ?_⟩
            rw [g1, g2]
            rw [g1] at a1
            refine forkNe (fun q => ?_) (fun q => ?_)
            · obtain ⟨e1, e2⟩ := cmpN_ne (by omega) hm q i3
              have hset := flat_set intC_len (cmpTo S (x3 + x4)) (cmpN S (x3 + x4)) (by rw [hcl]; omega) (S.getD (x3 + x4) 0)
              refine ⟨((cmpN S (x3 + x4) : Nat) : Int), rfl, by omega, a1 _ (by omega), by omega, ?_, rfl, _, rfl, vI64 (by omega), vI64 (by omega), x4 + 1, ⟨by omega, by omega, ?_⟩, by omega, rfl, ?_⟩
              · rw [flat_len intC_len, hcl]; omega
              · rw [← Nat.add_assoc, e1]; omega
              · rw [← Nat.add_assoc, e1, show 0 + Int.toNat ((cmpN S (x3 + x4) : Nat) : Int) * 1 = cmpN S (x3 + x4) * 1 by omega, hset, e2]
                repeat' first | exact plainIL _ _ | exact trivial | exact rfl | exact wk_refl _ | refine wkO_cells ?_ | refine wks_cons ?_ ?_ | exact wks_nil | exact wk_nil _ _ _ (.inl rfl) | (exact wk_Q (by omega)) | refine wk_tupL ?_ | refine wk_aggL ?_ | refine joinMax ?_ ?_ ?_ | refine joinMin ?_ ?_ ?_ | refine toMax ?_ | refine toMin ?_ | refine ⟨rfl, ?_⟩ | refine ⟨trivial, ?_⟩ | (refine forkD (fun h => ?_) (fun h => ?_)) | (refine forkNe (fun h => ?_) (fun h => ?_)) | (refine forkEq (fun h => ?_) (fun h => ?_)) | refine forkNot ?_ | (refine ⟨vI64 (by omega), ?_⟩) | (refine And.intro (by omega) ?_) | apply And.intro | (exact iEq (by omega)) | (exact vI64 (by omega))
            · obtain ⟨e1, e2⟩ := cmpN_eq (by omega) hm q
              refine ⟨vI64 (by omega), x4 + 1, ⟨by omega, by omega, by rw [← Nat.add_assoc, e1]; omega⟩, by omega, rfl, ?_⟩
              rw [← Nat.add_assoc, e1, e2]
              repeat' first | exact plainIL _ _ | exact trivial | exact rfl | exact wk_refl _ | refine wkO_cells ?_ | refine wks_cons ?_ ?_ | exact wks_nil | exact wk_nil _ _ _ (.inl rfl) | (exact wk_Q (by omega)) | refine wk_tupL ?_ | refine wk_aggL ?_ | refine joinMax ?_ ?_ ?_ | refine joinMin ?_ ?_ ?_ | refine toMax ?_ | refine toMin ?_ | refine ⟨rfl, ?_⟩ | refine ⟨trivial, ?_⟩ | (refine forkD (fun h => ?_) (fun h => ?_)) | (refine forkNe (fun h => ?_) (fun h => ?_)) | (refine forkEq (fun h => ?_) (fun h => ?_)) | refine forkNot ?_ | (refine ⟨vI64 (by omega), ?_⟩) | (refine And.intro (by omega) ?_) | apply And.intro | (exact iEq (by omega)) | (exact vI64 (by omega))
          · have hm : x3 + x4 = S.length := by omega
            have hn : cmpN S (x3 + x4) = (comp S).length := by unfold cmpN; rw [hm, List.take_length]
            have hto : cmpTo S (x3 + x4) = comp S ++ S.drop (comp S).length := by unfold cmpTo; rw [hn, hm, List.take_length]
            have hle := comp_len S
            rw [hn, hto]
            refine ⟨_, rfl, ⟨⟨.inr (.inr rfl), Nat.le_refl _⟩, Nat.le_refl _, by omega, by omega⟩, ?_, rfl, _, rfl, ⟨⟨.inr (.inr rfl), by omega⟩, by omega, Nat.zero_le _⟩, by rw [Nat.sub_zero], rfl, ?_⟩
            · rw [flat_len intC_len, List.length_append, List.length_drop]; omega
            · rw [Int.toNat_natCast, setl_tail rfl (by rw [List.length_drop]; omega), hpad]
              repeat' first | exact plainIL _ _ | exact trivial | exact rfl | exact wk_refl _ | refine wkO_cells ?_ | refine wks_cons ?_ ?_ | exact wks_nil | exact wk_nil _ _ _ (.inl rfl) | (exact wk_Q (by omega)) | refine wk_tupL ?_ | refine wk_aggL ?_ | refine joinMax ?_ ?_ ?_ | refine joinMin ?_ ?_ ?_ | refine toMax ?_ | refine toMin ?_ | refine ⟨rfl, ?_⟩ | refine ⟨trivial, ?_⟩ | (refine forkD (fun h => ?_) (fun h => ?_)) | (refine forkNe (fun h => ?_) (fun h => ?_)) | (refine forkEq (fun h => ?_) (fun h => ?_)) | refine forkNot ?_ | (refine ⟨vI64 (by omega), ?_⟩) | (refine And.intro (by omega) ?_) | apply And.intro | (exact iEq (by omega)) | (exact vI64 (by omega))
        · refine ⟨vI64 (by omega), x3 + 1, ⟨by omega, by omega, comp_all j1 hx3 j3 q⟩, by omega, rfl, ?_⟩
          repeat' first | exact plainIL _ _ | exact trivial | exact rfl | exact wk_refl _ | refine wkO_cells ?_ | refine wks_cons ?_ ?_ | exact wks_nil | exact wk_nil _ _ _ (.inl rfl) | (exact wk_Q (by omega)) | refine wk_tupL ?_ | refine wk_aggL ?_ | refine joinMax ?_ ?_ ?_ | refine joinMin ?_ ?_ ?_ | refine toMax ?_ | refine toMin ?_ | refine ⟨rfl, ?_⟩ | refine ⟨trivial, ?_⟩ | (refine forkD (fun h => ?_) (fun h => ?_)) | (refine forkNe (fun h => ?_) (fun h => ?_)) | (refine forkEq (fun h => ?_) (fun h => ?_)) | refine forkNot ?_ | (refine ⟨vI64 (by omega), ?_⟩) | (refine And.intro (by omega) ?_) | apply And.intro | (exact iEq (by omega)) | (exact vI64 (by omega))
      · obtain rfl : x3 = S.length := by omega
        rw [List.take_length] at j3
        rw [hdone j3, hfin j3]
        exact ⟨rfl, wk_QR, ⟨rfl, plainIL _ _⟩, trivial⟩
end
end Go.Proofs.Ytkkgnalgmebfjaa
/- Drift: targets, and how the law compares. No condition. -/
namespace Go.Proofs.Ytkkgnalgmebfjaa
open Go Go.K
set_option maxRecDepth 100000
set_option linter.unusedVariables false
set_option linter.unusedSimpArgs false
noncomputable section
attribute [local irreducible] vF
theorem errFlows_0 {w h : Int} {n : Nat} {l : List Flow} (e : errFlows w h n l = 0) : errBas w h n = 0 ∧ l.length = n ∧ errF l = 0 := by
  unfold errFlows first2 at e
  split at e
  · rename_i h0
    split at e
    · rename_i h1; exact ⟨h0, h1, e⟩
    · omega
  · rename_i h0; exact absurd e h0
theorem errF_all : ∀ {l : List Flow}, errF l = 0 → ∀ f ∈ l, rightF f
  | [], _, f, hf => by cases hf
  | g :: r, e, f, hf => by
    unfold errF at e
    split at e
    · rename_i hg
      rcases List.mem_cons.1 hf with rfl | hf
      · exact hg
      · exact errF_all e f hf
    · omega
theorem tgts_comp {w h : Int} {a : List Bool} {c : Int} {f : Flow} (b : BasOk w h a.length) (hc : 0 ≤ c ∧ c < w * h) : comp (srtI (tgL w h a c f)) = tgts w h a c f :=
  comp_trues (n := Int.toNat (w * h)) fun z hz => by
    have := tgL_bd (a := a) (f := f) hc z hz
    have := b.n1
    omega
theorem notB {b : Bool} (h : (!b) = true) : b = false := by cases b <;> first | rfl | cases h
theorem notB2 {b : Bool} (h : (!b) = false) : b = true := by cases b <;> first | rfl | cases h
end
end Go.Proofs.Ytkkgnalgmebfjaa
/- Ice: what all texts share. No condition. -/
namespace Go.Proofs.Ytkkgnalgmebfjaa
set_option linter.unusedSimpArgs false
open Go Go.K
set_option maxRecDepth 100000
set_option linter.unusedVariables false
noncomputable section
theorem i64_eq {a b : Int} (h : a = b) : (Value.int .i64 a) = .int .i64 b := by rw [h]
structure Cell where
  conc : Span
  thick : Span
  ridge : Span
  press : Span
structure Ice where
  conc : Int
  thick : Int
  ridge : Int
  press : Int
structure Rates where
  up : Ice
  down : Ice
structure Report where
  id : Int
  source : Int
  at_ : Int
  x : Int
  y : Int
  has : Int
  cell : Cell
abbrev iceC (x : Ice) : List Value := [.int .i64 x.conc, .int .i64 x.thick, .int .i64 x.ridge, .int .i64 x.press]
abbrev cellC (c : Cell) : List Value := [.int .i64 c.conc.lo, .int .i64 c.conc.hi, .int .i64 c.thick.lo, .int .i64 c.thick.hi, .int .i64 c.ridge.lo, .int .i64 c.ridge.hi, .int .i64 c.press.lo, .int .i64 c.press.hi]
abbrev ratesC (m : Rates) : List Value := [.int .i64 m.up.conc, .int .i64 m.up.thick, .int .i64 m.up.ridge, .int .i64 m.up.press, .int .i64 m.down.conc, .int .i64 m.down.thick, .int .i64 m.down.ridge, .int .i64 m.down.press]
abbrev iceV (x : Ice) : Value := .agg ⟨iceC x⟩
abbrev cellV (c : Cell) : Value := .agg ⟨cellC c⟩
abbrev ratesV (m : Rates) : Value := .agg ⟨ratesC m⟩
end
end Go.Proofs.Ytkkgnalgmebfjaa
/- What is to be shown of functions. Printed by a program. No condition. -/
namespace Go.Proofs.Ytkkgnalgmebfjaa
set_option linter.unusedSimpArgs false
open Go Go.K
set_option maxRecDepth 100000
set_option maxHeartbeats 4000000
set_option linter.unusedVariables false
noncomputable section
def RCheckCell (sp : Value) (c : Cell) : Prop :=
  (((decide ((0 : Int) ≤ c.conc.lo)) = true → (((decide ((c.conc.lo : Int) ≤ 100)) = true → (((decide ((c.conc.lo : Int) ≤ c.conc.hi)) = true → (((!(decide ((c.conc.hi : Int) ≤ 100))) = true → (.int .i64 20 : Value) = sp) ∧ ((!(decide ((c.conc.hi : Int) ≤ 100))) = false → (((decide ((0 : Int) ≤ c.thick.lo)) = true → (((decide ((c.thick.lo : Int) ≤ 400)) = true → (((decide ((c.thick.lo : Int) ≤ c.thick.hi)) = true → (((!(decide ((c.thick.hi : Int) ≤ 400))) = true → (.int .i64 20 : Value) = sp) ∧ ((!(decide ((c.thick.hi : Int) ≤ 400))) = false → (((decide ((0 : Int) ≤ c.ridge.lo)) = true → (((decide ((c.ridge.lo : Int) ≤ 100)) = true → (((decide ((c.ridge.lo : Int) ≤ c.ridge.hi)) = true → (((!(decide ((c.ridge.hi : Int) ≤ 100))) = true → (.int .i64 20 : Value) = sp) ∧ ((!(decide ((c.ridge.hi : Int) ≤ 100))) = false → (((decide ((0 : Int) ≤ c.press.lo)) = true → (((decide ((c.press.lo : Int) ≤ 3)) = true → (((decide ((c.press.lo : Int) ≤ c.press.hi)) = true → (((!(decide ((c.press.hi : Int) ≤ 3))) = true → (.int .i64 20 : Value) = sp) ∧ ((!(decide ((c.press.hi : Int) ≤ 3))) = false → (.int .i64 0 : Value) = sp))) ∧ ((decide ((c.press.lo : Int) ≤ c.press.hi)) = false → (.int .i64 20 : Value) = sp))) ∧ ((decide ((c.press.lo : Int) ≤ 3)) = false → (.int .i64 20 : Value) = sp))) ∧ ((decide ((0 : Int) ≤ c.press.lo)) = false → (.int .i64 20 : Value) = sp))))) ∧ ((decide ((c.ridge.lo : Int) ≤ c.ridge.hi)) = false → (.int .i64 20 : Value) = sp))) ∧ ((decide ((c.ridge.lo : Int) ≤ 100)) = false → (.int .i64 20 : Value) = sp))) ∧ ((decide ((0 : Int) ≤ c.ridge.lo)) = false → (.int .i64 20 : Value) = sp))))) ∧ ((decide ((c.thick.lo : Int) ≤ c.thick.hi)) = false → (.int .i64 20 : Value) = sp))) ∧ ((decide ((c.thick.lo : Int) ≤ 400)) = false → (.int .i64 20 : Value) = sp))) ∧ ((decide ((0 : Int) ≤ c.thick.lo)) = false → (.int .i64 20 : Value) = sp))))) ∧ ((decide ((c.conc.lo : Int) ≤ c.conc.hi)) = false → (.int .i64 20 : Value) = sp))) ∧ ((decide ((c.conc.lo : Int) ≤ 100)) = false → (.int .i64 20 : Value) = sp))) ∧ ((decide ((0 : Int) ≤ c.conc.lo)) = false → (.int .i64 20 : Value) = sp))
theorem ECheckCell (sp : Value) (c : Cell) : vF prog msk (dm 0) 100000 true 40 true 104 [.agg #[.int .i64 c.conc.lo, .int .i64 c.conc.hi, .int .i64 c.thick.lo, .int .i64 c.thick.hi, .int .i64 c.ridge.lo, .int .i64 c.ridge.hi, .int .i64 c.press.lo, .int .i64 c.press.hi]] ⟨0, .leaf⟩ (some [])
  (.go 54 (.gfork (.go 5 (.gfork (.go 15 (.gfork (.go 8 (.fork (.auto) (.go 30 (.gfork (.go 5 (.gfork (.go 15 (.gfork (.go 8 (.fork (.auto) (.go 30 (.gfork (.go 5 (.gfork (.go 15 (.gfork (.go 8 (.fork (.auto) (.go 30 (.gfork (.go 5 (.gfork (.go 15 (.gfork (.go 8 (.fork (.auto) (.auto))) (.auto))) (.auto))) (.auto))))) (.auto))) (.auto))) (.auto))))) (.auto))) (.auto))) (.auto))))) (.auto))) (.auto))) (.auto)))
  (fun v _ _ => v = sp) = RCheckCell sp c := by kernel_rfl
def RCheckRates (sp : Value) (m : Rates) : Prop :=
  (((decide ((0 : Int) ≤ m.up.conc)) = true → (((decide ((m.up.conc : Int) ≤ 1000)) = true → (((decide ((0 : Int) ≤ m.down.conc)) = true → (((!(decide ((m.down.conc : Int) ≤ 1000))) = true → (.int .i64 6 : Value) = sp) ∧ ((!(decide ((m.down.conc : Int) ≤ 1000))) = false → (((decide ((0 : Int) ≤ m.up.thick)) = true → (((decide ((m.up.thick : Int) ≤ 1000)) = true → (((decide ((0 : Int) ≤ m.down.thick)) = true → (((!(decide ((m.down.thick : Int) ≤ 1000))) = true → (.int .i64 6 : Value) = sp) ∧ ((!(decide ((m.down.thick : Int) ≤ 1000))) = false → (((decide ((0 : Int) ≤ m.up.ridge)) = true → (((decide ((m.up.ridge : Int) ≤ 1000)) = true → (((decide ((0 : Int) ≤ m.down.ridge)) = true → (((!(decide ((m.down.ridge : Int) ≤ 1000))) = true → (.int .i64 6 : Value) = sp) ∧ ((!(decide ((m.down.ridge : Int) ≤ 1000))) = false → (((decide ((0 : Int) ≤ m.up.press)) = true → (((decide ((m.up.press : Int) ≤ 1000)) = true → (((decide ((0 : Int) ≤ m.down.press)) = true → (((!(decide ((m.down.press : Int) ≤ 1000))) = true → (.int .i64 6 : Value) = sp) ∧ ((!(decide ((m.down.press : Int) ≤ 1000))) = false → (.int .i64 0 : Value) = sp))) ∧ ((decide ((0 : Int) ≤ m.down.press)) = false → (.int .i64 6 : Value) = sp))) ∧ ((decide ((m.up.press : Int) ≤ 1000)) = false → (.int .i64 6 : Value) = sp))) ∧ ((decide ((0 : Int) ≤ m.up.press)) = false → (.int .i64 6 : Value) = sp))))) ∧ ((decide ((0 : Int) ≤ m.down.ridge)) = false → (.int .i64 6 : Value) = sp))) ∧ ((decide ((m.up.ridge : Int) ≤ 1000)) = false → (.int .i64 6 : Value) = sp))) ∧ ((decide ((0 : Int) ≤ m.up.ridge)) = false → (.int .i64 6 : Value) = sp))))) ∧ ((decide ((0 : Int) ≤ m.down.thick)) = false → (.int .i64 6 : Value) = sp))) ∧ ((decide ((m.up.thick : Int) ≤ 1000)) = false → (.int .i64 6 : Value) = sp))) ∧ ((decide ((0 : Int) ≤ m.up.thick)) = false → (.int .i64 6 : Value) = sp))))) ∧ ((decide ((0 : Int) ≤ m.down.conc)) = false → (.int .i64 6 : Value) = sp))) ∧ ((decide ((m.up.conc : Int) ≤ 1000)) = false → (.int .i64 6 : Value) = sp))) ∧ ((decide ((0 : Int) ≤ m.up.conc)) = false → (.int .i64 6 : Value) = sp))
theorem ECheckRates (sp : Value) (m : Rates) : vF prog msk (dm 0) 100000 true 40 true 105 [.agg #[.int .i64 m.up.conc, .int .i64 m.up.thick, .int .i64 m.up.ridge, .int .i64 m.up.press, .int .i64 m.down.conc, .int .i64 m.down.thick, .int .i64 m.down.ridge, .int .i64 m.down.press]] ⟨0, .leaf⟩ (some [])
  (.go 60 (.gfork (.go 5 (.gfork (.go 8 (.gfork (.go 7 (.fork (.auto) (.go 18 (.gfork (.go 5 (.gfork (.go 8 (.gfork (.go 7 (.fork (.auto) (.go 18 (.gfork (.go 5 (.gfork (.go 8 (.gfork (.go 7 (.fork (.auto) (.go 18 (.gfork (.go 5 (.gfork (.go 8 (.gfork (.go 7 (.fork (.auto) (.auto))) (.auto))) (.auto))) (.auto))))) (.auto))) (.auto))) (.auto))))) (.auto))) (.auto))) (.auto))))) (.auto))) (.auto))) (.auto)))
  (fun v _ _ => v = sp) = RCheckRates sp m := by kernel_rfl
def RPick (sp : Value) (x n : Int) : Prop :=
  (((decide ((n : Int) < 1)) = true → (.int .i64 0 : Value) = sp) ∧ ((decide ((n : Int) < 1)) = false → (((n : Int) ≠ 0) ∧ (((decide (((Int.tmod x n) : Int) < 0)) = true → ((.int .i64 (IntKind.wrap .i64 ((Int.tmod x n) + n)) : Value) = .int .i64 ((Int.tmod x n) + n) ∧ (.int .i64 ((Int.tmod x n) + n) : Value) = sp)) ∧ ((decide (((Int.tmod x n) : Int) < 0)) = false → (.int .i64 (Int.tmod x n) : Value) = sp)))))
theorem EPick (sp : Value) (x n : Int) : vF prog msk (dm 0) 100000 true 40 true 38 [.int .i64 x, .int .i64 n] ⟨0, .leaf⟩ (some [])
  (.go 2 (.fork (.auto) (.go 1 (.need (.go 2 (.fork (.go 2 (.slot 15 (.int .i64 ((Int.tmod x n) + n)) (.auto))) (.auto)))))))
  (fun v _ _ => v = sp) = RPick sp x n := by kernel_rfl
def Rchange (sp : Value) (rate hours : Int) : Prop :=
  ((.int .i64 (IntKind.wrap .i64 (rate * hours)) : Value) = .int .i64 (rate * hours) ∧ ((.int .i64 (IntKind.wrap .i64 ((rate * hours) + 24)) : Value) = .int .i64 ((rate * hours) + 24) ∧ ((.int .i64 (IntKind.wrap .i64 (((rate * hours) + 24) - 1)) : Value) = .int .i64 (((rate * hours) + 24) - 1) ∧ ((.int .i64 (IntKind.wrap .i64 (Int.tdiv (((rate * hours) + 24) - 1) 24)) : Value) = .int .i64 (Int.tdiv (((rate * hours) + 24) - 1) 24) ∧ (.int .i64 (Int.tdiv (((rate * hours) + 24) - 1) 24) : Value) = sp))))
theorem Echange (sp : Value) (rate hours : Int) : vF prog msk (dm 0) 100000 true 40 true 143 [.int .i64 rate, .int .i64 hours] ⟨0, .leaf⟩ (some [])
  (.go 3 (.slot 7 (.int .i64 (rate * hours)) (.go 0 (.slot 8 (.int .i64 ((rate * hours) + 24)) (.go 0 (.slot 9 (.int .i64 (((rate * hours) + 24) - 1)) (.go 0 (.slot 10 (.int .i64 (Int.tdiv (((rate * hours) + 24) - 1) 24)) (.auto)))))))))
  (fun v _ _ => v = sp) = Rchange sp rate hours := by kernel_rfl
def RAge (sp : Value) (c : Cell) (m : Rates) (hours : Int) : Prop :=
  (∃ r0 : Int, ((True) ∧ (∀ H' : Heap, H'.length = 3 → (True) → KCall prog 104 [.agg #[.int .i64 c.conc.lo, .int .i64 c.conc.hi, .int .i64 c.thick.lo, .int .i64 c.thick.hi, .int .i64 c.ridge.lo, .int .i64 c.ridge.hi, .int .i64 c.press.lo, .int .i64 c.press.hi]] H' [] (Is (.int .i64 r0) H')) ∧ (∃ r1 : Int, ((True) ∧ (∀ H' : Heap, H'.length = 3 → (True) → KCall prog 105 [.agg #[.int .i64 m.up.conc, .int .i64 m.up.thick, .int .i64 m.up.ridge, .int .i64 m.up.press, .int .i64 m.down.conc, .int .i64 m.down.thick, .int .i64 m.down.ridge, .int .i64 m.down.press]] H' [] (Is (.int .i64 r1) H')) ∧ ((((r0 : Int) != 0) = true → ((.bool ((r0 : Int) != 0) : Value) = .bool true ∧ (.tuple #[.agg #[.int .i64 0, .int .i64 0, .int .i64 0, .int .i64 0, .int .i64 0, .int .i64 0, .int .i64 0, .int .i64 0], .int .i64 r0] : Value) = sp)) ∧ (((r0 : Int) != 0) = false → ((((r1 : Int) != 0) = true → ((.bool ((r1 : Int) != 0) : Value) = .bool true ∧ (.tuple #[.agg #[.int .i64 0, .int .i64 0, .int .i64 0, .int .i64 0, .int .i64 0, .int .i64 0, .int .i64 0, .int .i64 0], .int .i64 r1] : Value) = sp)) ∧ (((r1 : Int) != 0) = false → (((decide ((0 : Int) ≤ hours)) = true → (((!(decide ((hours : Int) ≤ 10000))) = true → (.tuple #[.agg #[.int .i64 0, .int .i64 0, .int .i64 0, .int .i64 0, .int .i64 0, .int .i64 0, .int .i64 0, .int .i64 0], .int .i64 6] : Value) = sp) ∧ ((!(decide ((hours : Int) ≤ 10000))) = false → (∃ r2 : Int, ((True) ∧ (∀ H' : Heap, H'.length = 13 → (True) → KCall prog 143 [.int .i64 m.down.conc, .int .i64 hours] H' [] (Is (.int .i64 r2) H')) ∧ ((.int .i64 (IntKind.wrap .i64 (c.conc.lo - r2)) : Value) = .int .i64 (c.conc.lo - r2) ∧ (∃ y3 : Int, (.int .i64 (if (0 : Int) > (c.conc.lo - r2) then (0 : Int) else (c.conc.lo - r2)) : Value) = .int .i64 y3 ∧ (∃ r4 : Int, ((True) ∧ (∀ H' : Heap, H'.length = 13 → (True) → KCall prog 143 [.int .i64 m.up.conc, .int .i64 hours] H' [] (Is (.int .i64 r4) H')) ∧ ((.int .i64 (IntKind.wrap .i64 (c.conc.hi + r4)) : Value) = .int .i64 (c.conc.hi + r4) ∧ (∃ y5 : Int, (.int .i64 (if (100 : Int) < (c.conc.hi + r4) then (100 : Int) else (c.conc.hi + r4)) : Value) = .int .i64 y5 ∧ (∃ r6 : Int, ((True) ∧ (∀ H' : Heap, H'.length = 13 → (True) → KCall prog 143 [.int .i64 m.down.thick, .int .i64 hours] H' [] (Is (.int .i64 r6) H')) ∧ ((.int .i64 (IntKind.wrap .i64 (c.thick.lo - r6)) : Value) = .int .i64 (c.thick.lo - r6) ∧ (∃ y7 : Int, (.int .i64 (if (0 : Int) > (c.thick.lo - r6) then (0 : Int) else (c.thick.lo - r6)) : Value) = .int .i64 y7 ∧ (∃ r8 : Int, ((True) ∧ (∀ H' : Heap, H'.length = 13 → (True) → KCall prog 143 [.int .i64 m.up.thick, .int .i64 hours] H' [] (Is (.int .i64 r8) H')) ∧ ((.int .i64 (IntKind.wrap .i64 (c.thick.hi + r8)) : Value) = .int .i64 (c.thick.hi + r8) ∧ (∃ y9 : Int, (.int .i64 (if (400 : Int) < (c.thick.hi + r8) then (400 : Int) else (c.thick.hi + r8)) : Value) = .int .i64 y9 ∧ (∃ r10 : Int, ((True) ∧ (∀ H' : Heap, H'.length = 13 → (True) → KCall prog 143 [.int .i64 m.down.ridge, .int .i64 hours] H' [] (Is (.int .i64 r10) H')) ∧ ((.int .i64 (IntKind.wrap .i64 (c.ridge.lo - r10)) : Value) = .int .i64 (c.ridge.lo - r10) ∧ (∃ y11 : Int, (.int .i64 (if (0 : Int) > (c.ridge.lo - r10) then (0 : Int) else (c.ridge.lo - r10)) : Value) = .int .i64 y11 ∧ (∃ r12 : Int, ((True) ∧ (∀ H' : Heap, H'.length = 13 → (True) → KCall prog 143 [.int .i64 m.up.ridge, .int .i64 hours] H' [] (Is (.int .i64 r12) H')) ∧ ((.int .i64 (IntKind.wrap .i64 (c.ridge.hi + r12)) : Value) = .int .i64 (c.ridge.hi + r12) ∧ (∃ y13 : Int, (.int .i64 (if (100 : Int) < (c.ridge.hi + r12) then (100 : Int) else (c.ridge.hi + r12)) : Value) = .int .i64 y13 ∧ (∃ r14 : Int, ((True) ∧ (∀ H' : Heap, H'.length = 13 → (True) → KCall prog 143 [.int .i64 m.down.press, .int .i64 hours] H' [] (Is (.int .i64 r14) H')) ∧ ((.int .i64 (IntKind.wrap .i64 (c.press.lo - r14)) : Value) = .int .i64 (c.press.lo - r14) ∧ (∃ y15 : Int, (.int .i64 (if (0 : Int) > (c.press.lo - r14) then (0 : Int) else (c.press.lo - r14)) : Value) = .int .i64 y15 ∧ (∃ r16 : Int, ((True) ∧ (∀ H' : Heap, H'.length = 13 → (True) → KCall prog 143 [.int .i64 m.up.press, .int .i64 hours] H' [] (Is (.int .i64 r16) H')) ∧ ((.int .i64 (IntKind.wrap .i64 (c.press.hi + r16)) : Value) = .int .i64 (c.press.hi + r16) ∧ (∃ y17 : Int, (.int .i64 (if (3 : Int) < (c.press.hi + r16) then (3 : Int) else (c.press.hi + r16)) : Value) = .int .i64 y17 ∧ (.tuple #[.agg #[.int .i64 y3, .int .i64 y5, .int .i64 y7, .int .i64 y9, .int .i64 y11, .int .i64 y13, .int .i64 y15, .int .i64 y17], .int .i64 0] : Value) = sp))))))))))))))))))))))))))))))))))) ∧ ((decide ((0 : Int) ≤ hours)) = false → (.tuple #[.agg #[.int .i64 0, .int .i64 0, .int .i64 0, .int .i64 0, .int .i64 0, .int .i64 0, .int .i64 0, .int .i64 0], .int .i64 6] : Value) = sp))))))))))
theorem EAge (sp : Value) (c : Cell) (m : Rates) (hours : Int) : vF prog msk (dm 0) 100000 true 40 true 53 [.agg #[.int .i64 c.conc.lo, .int .i64 c.conc.hi, .int .i64 c.thick.lo, .int .i64 c.thick.hi, .int .i64 c.ridge.lo, .int .i64 c.ridge.hi, .int .i64 c.press.lo, .int .i64 c.press.hi], .agg #[.int .i64 m.up.conc, .int .i64 m.up.thick, .int .i64 m.up.ridge, .int .i64 m.up.press, .int .i64 m.down.conc, .int .i64 m.down.thick, .int .i64 m.down.ridge, .int .i64 m.down.press], .int .i64 hours] ⟨0, .leaf⟩ (some [])
  (.go 5 (.bind (Int) (fun r0 => .ans [] (.int .i64 r0) [] (.bind (Int) (fun r1 => .ans [] (.int .i64 r1) [] (.go 12 (.fork (.go 4 (.slot 16 (.bool true) (.auto))) (.go 8 (.fork (.go 4 (.slot 16 (.bool true) (.auto))) (.go 15 (.gfork (.go 5 (.fork (.auto) (.go 85 (.bind (Int) (fun r2 => .ans [] (.int .i64 r2) [] (.go 0 (.slot 16 (.int .i64 (c.conc.lo - r2)) (.go 0 (.bind Int (fun y3 => .slot 17 (.int .i64 y3) (.bind (Int) (fun r4 => .ans [] (.int .i64 r4) [] (.go 0 (.slot 27 (.int .i64 (c.conc.hi + r4)) (.go 5 (.bind Int (fun y5 => .slot 31 (.int .i64 y5) (.go 31 (.bind (Int) (fun r6 => .ans [] (.int .i64 r6) [] (.go 0 (.slot 16 (.int .i64 (c.thick.lo - r6)) (.go 0 (.bind Int (fun y7 => .slot 17 (.int .i64 y7) (.bind (Int) (fun r8 => .ans [] (.int .i64 r8) [] (.go 0 (.slot 27 (.int .i64 (c.thick.hi + r8)) (.go 5 (.bind Int (fun y9 => .slot 31 (.int .i64 y9) (.go 31 (.bind (Int) (fun r10 => .ans [] (.int .i64 r10) [] (.go 0 (.slot 16 (.int .i64 (c.ridge.lo - r10)) (.go 0 (.bind Int (fun y11 => .slot 17 (.int .i64 y11) (.bind (Int) (fun r12 => .ans [] (.int .i64 r12) [] (.go 0 (.slot 27 (.int .i64 (c.ridge.hi + r12)) (.go 5 (.bind Int (fun y13 => .slot 31 (.int .i64 y13) (.go 31 (.bind (Int) (fun r14 => .ans [] (.int .i64 r14) [] (.go 0 (.slot 16 (.int .i64 (c.press.lo - r14)) (.go 0 (.bind Int (fun y15 => .slot 17 (.int .i64 y15) (.bind (Int) (fun r16 => .ans [] (.int .i64 r16) [] (.go 0 (.slot 27 (.int .i64 (c.press.hi + r16)) (.go 5 (.bind Int (fun y17 => .slot 31 (.int .i64 y17) (.auto))))))))))))))))))))))))))))))))))))))))))))))))))))))))))))))) (.auto))))))))))))
  (fun v _ _ => v = sp) = RAge sp c m hours := by kernel_rfl
end
end Go.Proofs.Ytkkgnalgmebfjaa
/- Ice: the contracts of the functions of values alone. No condition. -/
namespace Go.Proofs.Ytkkgnalgmebfjaa
open Go Go.K
set_option maxRecDepth 100000
set_option linter.unusedVariables false
set_option linter.unusedSimpArgs false
noncomputable section
/-! ## What they compute -/
def rightSp (s : Span) (m : Int) : Prop := 0 ≤ s.lo ∧ s.lo ≤ m ∧ s.lo ≤ s.hi ∧ s.hi ≤ m
def rightC (c : Cell) : Prop := rightSp c.conc 100 ∧ rightSp c.thick 400 ∧ rightSp c.ridge 100 ∧ rightSp c.press 3
def rightI (x : Ice) : Prop := (0 ≤ x.conc ∧ x.conc ≤ 100) ∧ (0 ≤ x.thick ∧ x.thick ≤ 400) ∧ (0 ≤ x.ridge ∧ x.ridge ≤ 100) ∧ 0 ≤ x.press ∧ x.press ≤ 3
def rateI (x : Ice) : Prop := (0 ≤ x.conc ∧ x.conc ≤ 1000) ∧ (0 ≤ x.thick ∧ x.thick ≤ 1000) ∧ (0 ≤ x.ridge ∧ x.ridge ≤ 1000) ∧ 0 ≤ x.press ∧ x.press ≤ 1000
def rightR (m : Rates) : Prop := rateI m.up ∧ rateI m.down
instance (s : Span) (m : Int) : Decidable (rightSp s m) := by unfold rightSp; infer_instance
instance (c : Cell) : Decidable (rightC c) := by unfold rightC; infer_instance
instance (x : Ice) : Decidable (rightI x) := by unfold rightI; infer_instance
instance (x : Ice) : Decidable (rateI x) := by unfold rateI; infer_instance
instance (m : Rates) : Decidable (rightR m) := by unfold rightR; infer_instance
def errCell (c : Cell) : Int := if rightC c then 0 else 20
def errRates (m : Rates) : Int := if rightR m then 0 else 6
def zeroC : Cell := ⟨⟨0, 0⟩, ⟨0, 0⟩, ⟨0, 0⟩, ⟨0, 0⟩⟩
def hasS (s : Span) (n : Int) : Prop := s.lo ≤ n ∧ n ≤ s.hi
def hasC (c : Cell) (x : Ice) : Prop := hasS c.conc x.conc ∧ hasS c.thick x.thick ∧ hasS c.ridge x.ridge ∧ hasS c.press x.press
def insS (s t : Span) : Prop := t.lo ≤ s.lo ∧ s.hi ≤ t.hi
def insC (a b : Cell) : Prop := insS a.conc b.conc ∧ insS a.thick b.thick ∧ insS a.ridge b.ridge ∧ insS a.press b.press
def okC (c : Cell) : Prop := c.conc.lo ≤ c.conc.hi ∧ c.thick.lo ≤ c.thick.hi ∧ c.ridge.lo ≤ c.ridge.hi ∧ c.press.lo ≤ c.press.hi
instance (s : Span) (n : Int) : Decidable (hasS s n) := by unfold hasS; infer_instance
instance (c : Cell) (x : Ice) : Decidable (hasC c x) := by unfold hasC; infer_instance
instance (s t : Span) : Decidable (insS s t) := by unfold insS; infer_instance
instance (a b : Cell) : Decidable (insC a b) := by unfold insC; infer_instance
instance (c : Cell) : Decidable (okC c) := by unfold okC; infer_instance
def chg (rate hours : Int) : Int := (rate * hours + 23) / 24
def ageS (s : Span) (u d h m : Int) : Span := ⟨max (s.lo - chg d h) 0, min (s.hi + chg u h) m⟩
def ageC (c : Cell) (m : Rates) (h : Int) : Cell := ⟨ageS c.conc m.up.conc m.down.conc h 100, ageS c.thick m.up.thick m.down.thick h 400, ageS c.ridge m.up.ridge m.down.ridge h 100, ageS c.press m.up.press m.down.press h 3⟩
def fAge (c : Cell) (m : Rates) (h : Int) : Cell × Int :=
  if first2 (errCell c) (errRates m) = 0 then (if 0 ≤ h ∧ h ≤ 10000 then (ageC c m h, 0) else (zeroC, 6)) else (zeroC, first2 (errCell c) (errRates m))

/-! ## Numbers -/
theorem w64 {n : Int} (h : -9223372036854775808 ≤ n ∧ n ≤ 9223372036854775807) : IntKind.wrap .i64 n = n := IntWalk.i64_in n h
theorem v64 {n : Int} (h : -9223372036854775808 ≤ n ∧ n ≤ 9223372036854775807) : (Value.int .i64 (IntKind.wrap .i64 n)) = .int .i64 n := by rw [w64 h]
theorem mulb {a b A B : Int} (h1 : 0 ≤ a) (h2 : a ≤ A) (h3 : 0 ≤ b) (h4 : b ≤ B) : 0 ≤ a * b ∧ a * b ≤ A * B :=
  ⟨Int.mul_nonneg h1 h3, Int.mul_le_mul h2 h4 h3 (Int.le_trans h1 h2)⟩

/-! ## Contracts -/
theorem errCell_pos {c : Cell} (h : rightC c) : errCell c = 0 := if_pos h
theorem errCell_neg {c : Cell} (h : ¬ rightC c) : errCell c = 20 := if_neg h
theorem errRates_pos {c : Rates} (h : rightR c) : errRates c = 0 := if_pos h
theorem errRates_neg {c : Rates} (h : ¬ rightR c) : errRates c = 6 := if_neg h
theorem errCell_iff {c : Cell} : errCell c = 0 ↔ rightC c := by unfold errCell; split <;> simp_all
theorem errRates_iff {c : Rates} : errRates c = 0 ↔ rightR c := by unfold errRates; split <;> simp_all
theorem kCheckCell (c : Cell) (H : Heap) : KCall prog F.ice_CheckCell [cellV c] H [] (Is (.int .i64 (errCell c)) H) := by
  refine valK 40 (fun _ => rfl) rfl (Eq.mpr (ECheckCell _ c) ?_) H
  unfold RCheckCell
  simp only [decide_eq_true_eq, decide_eq_false_iff_not, Bool.not_eq_true', Bool.not_eq_false']
  repeat' (first | apply And.intro | intro _)
  all_goals first
    | exact i64_eq (errCell_neg (by unfold rightC rightSp; omega)).symm
    | exact i64_eq (errCell_pos (by unfold rightC rightSp; omega)).symm
theorem kCheckRates (m : Rates) (H : Heap) : KCall prog F.ice_CheckRates [ratesV m] H [] (Is (.int .i64 (errRates m)) H) := by
  refine valK 40 (fun _ => rfl) rfl (Eq.mpr (ECheckRates _ m) ?_) H
  unfold RCheckRates
  simp only [decide_eq_true_eq, decide_eq_false_iff_not, Bool.not_eq_true', Bool.not_eq_false']
  repeat' (first | apply And.intro | intro _)
  all_goals first
    | exact i64_eq (errRates_neg (by unfold rightR rateI; omega)).symm
    | exact i64_eq (errRates_pos (by unfold rightR rateI; omega)).symm
theorem tmod_emod {x n : Int} (hn : 1 ≤ n) : (Int.tmod x n < 0 → Int.tmod x n + n = x % n) ∧ (¬ Int.tmod x n < 0 → Int.tmod x n = x % n) ∧ -n < Int.tmod x n ∧ Int.tmod x n < n := by
  have h1 := Int.mul_tdiv_add_tmod x n
  have h2 := Int.lt_tmod_of_pos x (by omega : 0 < n)
  have h3 := Int.tmod_lt_of_pos x (by omega : 0 < n)
  refine ⟨fun h => ?_, fun h => ?_, h2, h3⟩
  · have : x = (Int.tmod x n + n) + n * (x.tdiv n - 1) := by rw [Int.mul_sub]; omega
    rw [this, Int.add_mul_emod_self_left, ← this]
    exact (Int.emod_eq_of_lt (by omega) (by omega)).symm
  · have : x = Int.tmod x n + n * x.tdiv n := by omega
    conv => rhs; rw [this, Int.add_mul_emod_self_left]
    exact (Int.emod_eq_of_lt (by omega) (by omega)).symm
theorem kPick (x n : Int) (h1 : 1 ≤ n) (h2 : n ≤ 9223372036854775807) (H : Heap) : KCall prog F.polynyakit_Pick [.int .i64 x, .int .i64 n] H [] (Is (.int .i64 (x % n)) H) := by
  refine valK 40 (fun _ => rfl) rfl (Eq.mpr (EPick _ x n) ?_) H
  obtain ⟨t1, t2, t3, t4⟩ := tmod_emod (x := x) h1
  unfold RPick
  simp only [decide_eq_true_eq, decide_eq_false_iff_not]
  refine ⟨fun h => by omega, fun _ => ⟨by omega, fun h => ⟨v64 (by omega), i64_eq (t1 h)⟩, fun h => i64_eq (t2 h)⟩⟩
theorem kchange (rate hours : Int) (h1 : 0 ≤ rate ∧ rate ≤ 1000) (h2 : 0 ≤ hours ∧ hours ≤ 10000) (H : Heap) : KCall prog F.ice_change [.int .i64 rate, .int .i64 hours] H [] (Is (.int .i64 (chg rate hours)) H) := by
  refine valK 40 (fun _ => rfl) rfl (Eq.mpr (Echange _ rate hours) ?_) H
  have hb := mulb h1.1 h1.2 h2.1 h2.2
  have ht : Int.tdiv (rate * hours + 24 - 1) 24 = (rate * hours + 24 - 1) / 24 := Int.tdiv_eq_ediv_of_nonneg (by omega)
  unfold Rchange
  refine ⟨v64 (by omega), v64 (by omega), v64 (by omega), v64 (by rw [ht]; omega), i64_eq ?_⟩
  rw [ht]; unfold chg; congr 1; omega

/-! ## Two errors, then an answer -/
theorem vbool {b : Bool} (h : b = true) : (Value.bool b) = .bool true := by rw [h]
theorem vne {e : Int} (h : ¬ e = 0) : (Value.bool (e != 0)) = .bool true := vbool (by simp [h])
theorem tupB {b : Bool} {e : Int} {r : Bool × Int} (h : r = (b, e)) : (Value.tuple #[.bool b, .int .i64 e]) = .tuple #[.bool r.1, .int .i64 r.2] := by rw [h]
theorem tupC {a b c d e f g i n : Int} {r : Cell × Int} (h : r = (⟨⟨a, b⟩, ⟨c, d⟩, ⟨e, f⟩, ⟨g, i⟩⟩, n)) :
    (Value.tuple #[.agg #[.int .i64 a, .int .i64 b, .int .i64 c, .int .i64 d, .int .i64 e, .int .i64 f, .int .i64 g, .int .i64 i], .int .i64 n]) = .tuple #[cellV r.1, .int .i64 r.2] := by rw [h]
theorem fAge_1 {c : Cell} {m : Rates} {h : Int} (k : ¬ errCell c = 0) : fAge c m h = (zeroC, errCell c) := by unfold fAge; rw [first2_1 k, if_neg k]
theorem fAge_2 {c : Cell} {m : Rates} {h : Int} (k : errCell c = 0) (l : ¬ errRates m = 0) : fAge c m h = (zeroC, errRates m) := by unfold fAge; rw [first2_2 k, if_neg l]
theorem fAge_3 {c : Cell} {m : Rates} {h : Int} (k : errCell c = 0) (l : errRates m = 0) (q : ¬ (0 ≤ h ∧ h ≤ 10000)) : fAge c m h = (zeroC, 6) := by unfold fAge; rw [first2_2 k, if_pos l, if_neg q]
theorem fAge_4 {c : Cell} {m : Rates} {h : Int} (k : errCell c = 0) (l : errRates m = 0) (q : 0 ≤ h ∧ h ≤ 10000) : fAge c m h = (ageC c m h, 0) := by unfold fAge; rw [first2_2 k, if_pos l, if_pos q]
theorem chg_bd {r h : Int} (h1 : 0 ≤ r ∧ r ≤ 1000) (h2 : 0 ≤ h ∧ h ≤ 10000) : 0 ≤ chg r h ∧ chg r h ≤ 500000 := by
  have := mulb h1.1 h1.2 h2.1 h2.2
  unfold chg; omega
theorem kAge (c : Cell) (m : Rates) (h : Int) (H : Heap) : KCall prog F.ice_Age [cellV c, ratesV m, .int .i64 h] H [] (Is (.tuple #[cellV (fAge c m h).1, .int .i64 (fAge c m h).2]) H) := by
  refine valK 40 (fun _ => rfl) rfl (Eq.mpr (EAge _ c m h) ?_) H
  unfold RAge
  refine ⟨_, trivial, fun H' _ _ => kCheckCell c H', _, trivial, fun H' _ _ => kCheckRates m H', ?_⟩
  simp only [decide_eq_true_eq, decide_eq_false_iff_not, Bool.not_eq_true', Bool.not_eq_false', bne_iff_ne, ne_eq, bne_eq_false_iff_eq]
  refine ⟨fun h => ⟨vne h, tupC (fAge_1 h)⟩, fun h0 => ⟨fun h => ⟨vne h, tupC (fAge_2 h0 h)⟩, fun h1 => ⟨fun h2 => ⟨fun h3 => tupC (fAge_3 h0 h1 (by omega)), fun h3 => ?_⟩, fun h2 => tupC (fAge_3 h0 h1 (by omega))⟩⟩⟩
  obtain ⟨⟨u1, u2, u3, u4⟩, d1, d2, d3, d4⟩ := errRates_iff.1 h1
  obtain ⟨c1, c2, c3, c4⟩ := errCell_iff.1 h0
  unfold rightSp at c1 c2 c3 c4
  have bd := fun (r : Int) (hr : 0 ≤ r ∧ r ≤ 1000) => chg_bd hr ⟨h2, h3⟩
  have b1 := bd _ u1; have b2 := bd _ u2; have b3 := bd _ u3; have b4 := bd _ u4
  have e1 := bd _ d1; have e2 := bd _ d2; have e3 := bd _ d3; have e4 := bd _ d4
  refine ⟨_, trivial, fun H' _ _ => kchange _ _ d1 ⟨h2, h3⟩ H', v64 (by omega), max (c.conc.lo - chg m.down.conc h) 0, i64_eq (by split <;> omega), _, trivial, fun H' _ _ => kchange _ _ u1 ⟨h2, h3⟩ H', v64 (by omega), min (c.conc.hi + chg m.up.conc h) 100, i64_eq (by split <;> omega),
    _, trivial, fun H' _ _ => kchange _ _ d2 ⟨h2, h3⟩ H', v64 (by omega), max (c.thick.lo - chg m.down.thick h) 0, i64_eq (by split <;> omega), _, trivial, fun H' _ _ => kchange _ _ u2 ⟨h2, h3⟩ H', v64 (by omega), min (c.thick.hi + chg m.up.thick h) 400, i64_eq (by split <;> omega),
    _, trivial, fun H' _ _ => kchange _ _ d3 ⟨h2, h3⟩ H', v64 (by omega), max (c.ridge.lo - chg m.down.ridge h) 0, i64_eq (by split <;> omega), _, trivial, fun H' _ _ => kchange _ _ u3 ⟨h2, h3⟩ H', v64 (by omega), min (c.ridge.hi + chg m.up.ridge h) 100, i64_eq (by split <;> omega),
    _, trivial, fun H' _ _ => kchange _ _ d4 ⟨h2, h3⟩ H', v64 (by omega), max (c.press.lo - chg m.down.press h) 0, i64_eq (by split <;> omega), _, trivial, fun H' _ _ => kchange _ _ u4 ⟨h2, h3⟩ H', v64 (by omega), min (c.press.hi + chg m.up.press h) 3, i64_eq (by split <;> omega), ?_⟩
  exact tupC (fAge_4 h0 h1 ⟨h2, h3⟩)
end
end Go.Proofs.Ytkkgnalgmebfjaa
/- Ice: lists of errors; the first cell, ice, report. No condition. -/
namespace Go.Proofs.Ytkkgnalgmebfjaa
set_option linter.unusedSimpArgs false
set_option linter.unusedVariables false
open Go Go.K
noncomputable section
def zeroI : Ice := ⟨0, 0, 0, 0⟩
def errs {α : Type} (e : α → Int) : List α → Int
  | [] => 0
  | x :: r => if e x = 0 then errs e r else e x
end
end Go.Proofs.Ytkkgnalgmebfjaa
/- Ice: the reference's functions of values; lists of errors. No condition. -/
namespace Go.Proofs.Ytkkgnalgmebfjaa
open Go Go.K
set_option maxRecDepth 100000
set_option linter.unusedVariables false
set_option linter.unusedSimpArgs false
noncomputable section
attribute [local irreducible] vF
/-! ## Lists -/
theorem iceC_len (x : Ice) : (iceC x).length = 4 := rfl
theorem drop_at {α : Type} {xs : List α} {d : α} {k : Nat} (hk : k < xs.length) : xs.drop k = xs.getD k d :: xs.drop (k + 1) := by
  rw [List.drop_eq_getElem_cons hk, List.getD_eq_getElem?_getD, List.getElem?_eq_getElem hk]; rfl
theorem errs_at {α : Type} {e : α → Int} {xs : List α} {d : α} {k : Nat} (hk : k < xs.length) : errs e (xs.drop k) = if e (xs.getD k d) = 0 then errs e (xs.drop (k + 1)) else e (xs.getD k d) := by
  rw [drop_at (d := d) hk]; rfl
theorem errs_zero {α : Type} {e : α → Int} : ∀ {xs : List α}, errs e xs = 0 → ∀ x ∈ xs, e x = 0
  | [], _, x, h => by cases h
  | y :: r, he, x, h => by
    unfold errs at he
    split at he
    · rename_i h0
      rcases List.mem_cons.1 h with rfl | h
      · exact h0
      · exact errs_zero he x h
    · rename_i h0; exact absurd he h0
end
end Go.Proofs.Ytkkgnalgmebfjaa
/- What is to be shown of functions. Printed by a program. No condition. -/
namespace Go.Proofs.Ytkkgnalgmebfjaa
set_option linter.unusedSimpArgs false
open Go Go.K
set_option maxRecDepth 100000
set_option maxHeartbeats 4000000
set_option linter.unusedVariables false
noncomputable section
def RspIns (sp : Value) (a b : Cell) : Prop :=
  (((decide ((b.conc.lo : Int) ≤ a.conc.lo)) = true → (((!(decide ((a.conc.hi : Int) ≤ b.conc.hi))) = true → (.bool false : Value) = sp) ∧ ((!(decide ((a.conc.hi : Int) ≤ b.conc.hi))) = false → (((decide ((b.thick.lo : Int) ≤ a.thick.lo)) = true → (((!(decide ((a.thick.hi : Int) ≤ b.thick.hi))) = true → (.bool false : Value) = sp) ∧ ((!(decide ((a.thick.hi : Int) ≤ b.thick.hi))) = false → (((decide ((b.ridge.lo : Int) ≤ a.ridge.lo)) = true → (((!(decide ((a.ridge.hi : Int) ≤ b.ridge.hi))) = true → (.bool false : Value) = sp) ∧ ((!(decide ((a.ridge.hi : Int) ≤ b.ridge.hi))) = false → (((decide ((b.press.lo : Int) ≤ a.press.lo)) = true → (((!(decide ((a.press.hi : Int) ≤ b.press.hi))) = true → (.bool false : Value) = sp) ∧ ((!(decide ((a.press.hi : Int) ≤ b.press.hi))) = false → (.bool true : Value) = sp))) ∧ ((decide ((b.press.lo : Int) ≤ a.press.lo)) = false → (.bool false : Value) = sp))))) ∧ ((decide ((b.ridge.lo : Int) ≤ a.ridge.lo)) = false → (.bool false : Value) = sp))))) ∧ ((decide ((b.thick.lo : Int) ≤ a.thick.lo)) = false → (.bool false : Value) = sp))))) ∧ ((decide ((b.conc.lo : Int) ≤ a.conc.lo)) = false → (.bool false : Value) = sp))
theorem EspIns (sp : Value) (a b : Cell) : vF prog msk (dm 0) 100000 true 40 true 111 [.agg #[.int .i64 a.conc.lo, .int .i64 a.conc.hi, .int .i64 a.thick.lo, .int .i64 a.thick.hi, .int .i64 a.ridge.lo, .int .i64 a.ridge.hi, .int .i64 a.press.lo, .int .i64 a.press.hi], .agg #[.int .i64 b.conc.lo, .int .i64 b.conc.hi, .int .i64 b.thick.lo, .int .i64 b.thick.hi, .int .i64 b.ridge.lo, .int .i64 b.ridge.hi, .int .i64 b.press.lo, .int .i64 b.press.hi]] ⟨0, .leaf⟩ (some [])
  (.go 28 (.gfork (.go 11 (.fork (.auto) (.go 19 (.gfork (.go 11 (.fork (.auto) (.go 19 (.gfork (.go 11 (.fork (.auto) (.go 19 (.gfork (.go 11 (.fork (.auto) (.auto))) (.auto))))) (.auto))))) (.auto))))) (.auto)))
  (fun v _ _ => v = sp) = RspIns sp a b := by kernel_rfl
def Rsize (sp : Value) (w h t : Int) : Prop :=
  (((decide ((1 : Int) ≤ w)) = true → (((!(decide ((w : Int) ≤ 64))) = true → (.int .i64 6 : Value) = sp) ∧ ((!(decide ((w : Int) ≤ 64))) = false → (((decide ((1 : Int) ≤ h)) = true → (((!(decide ((h : Int) ≤ 64))) = true → (.int .i64 6 : Value) = sp) ∧ ((!(decide ((h : Int) ≤ 64))) = false → ((.int .i64 (IntKind.wrap .i64 (w * h)) : Value) = .int .i64 (w * h) ∧ (((decide ((1024 : Int) < (w * h))) = true → (.int .i64 6 : Value) = sp) ∧ ((decide ((1024 : Int) < (w * h))) = false → (((decide ((0 : Int) ≤ t)) = true → (((!(decide ((t : Int) ≤ 10000))) = true → (.int .i64 6 : Value) = sp) ∧ ((!(decide ((t : Int) ≤ 10000))) = false → (.int .i64 0 : Value) = sp))) ∧ ((decide ((0 : Int) ≤ t)) = false → (.int .i64 6 : Value) = sp)))))))) ∧ ((decide ((1 : Int) ≤ h)) = false → (.int .i64 6 : Value) = sp))))) ∧ ((decide ((1 : Int) ≤ w)) = false → (.int .i64 6 : Value) = sp))
theorem Esize (sp : Value) (w h t : Int) : vF prog msk (dm 0) 100000 true 40 true 132 [.int .i64 w, .int .i64 h, .int .i64 t] ⟨0, .leaf⟩ (some [])
  (.go 7 (.gfork (.go 6 (.gfork (.auto) (.go 6 (.gfork (.go 7 (.gfork (.auto) (.go 2 (.slot 18 (.int .i64 (w * h)) (.go 2 (.gfork (.auto) (.go 6 (.gfork (.go 6 (.fork (.auto) (.auto))) (.auto))))))))) (.auto))))) (.auto)))
  (fun v _ _ => v = sp) = Rsize sp w h t := by kernel_rfl
end
end Go.Proofs.Ytkkgnalgmebfjaa
/- Ice: functions of cells that charts and reports use. No condition. -/
namespace Go.Proofs.Ytkkgnalgmebfjaa
open Go Go.K
set_option maxRecDepth 100000
set_option linter.unusedVariables false
set_option linter.unusedSimpArgs false
noncomputable section
attribute [local irreducible] vF
theorem kspIns (a b : Cell) (H : Heap) : KCall prog F.ice_spans_inside [cellV a, cellV b] H [] (Is (.bool (decide (insC a b))) H) := by
  refine valK 40 (fun _ => rfl) rfl (Eq.mpr (EspIns _ a b) ?_) H
  unfold RspIns
  repeat' first | exact trivial | exact rfl | refine joinMax ?_ ?_ ?_ | refine joinMin ?_ ?_ ?_ | refine toMax ?_ | refine toMin ?_ | refine ⟨rfl, ?_⟩ | refine ⟨trivial, ?_⟩ | (refine forkD (fun h => ?_) (fun h => ?_)) | (refine forkNe (fun h => ?_) (fun h => ?_)) | (refine forkEq (fun h => ?_) (fun h => ?_)) | refine forkNot ?_ | (refine ⟨vI64 (by omega), ?_⟩) | (refine And.intro (by omega) ?_) | apply And.intro | exact wk_refl _ | (exact iEq (by omega)) | (exact vI64 (by omega))
  all_goals first | exact bEq (decide_eq_true (by unfold insC insS; omega)).symm | exact bEq (decide_eq_false (by unfold insC insS; omega)).symm
def sizeOk (w h t : Int) : Prop := (1 ≤ w ∧ w ≤ 64) ∧ (1 ≤ h ∧ h ≤ 64) ∧ w * h ≤ 1024 ∧ (0 ≤ t ∧ t ≤ 10000)
instance (w h t : Int) : Decidable (sizeOk w h t) := by unfold sizeOk; infer_instance
def errSize (w h t : Int) : Int := if sizeOk w h t then 0 else 6
theorem errSize_iff {w h t : Int} : errSize w h t = 0 ↔ sizeOk w h t := by unfold errSize; split <;> simp_all
theorem ksize (w h t : Int) (H : Heap) : KCall prog F.ice_size [.int .i64 w, .int .i64 h, .int .i64 t] H [] (Is (.int .i64 (errSize w h t)) H) := by
  refine valK 40 (fun _ => rfl) rfl (Eq.mpr (Esize _ w h t) ?_) H
  unfold Rsize
  have mb : (1 ≤ w ∧ w ≤ 64) → (1 ≤ h ∧ h ≤ 64) → 0 ≤ w * h ∧ w * h ≤ 64 * 64 := fun h1 h2 => mulb (by omega) h1.2 (by omega) h2.2
  repeat' first | (refine ⟨vI64 (by have := mb ⟨‹_›, ‹_›⟩ ⟨‹_›, ‹_›⟩; omega), ?_⟩) | (exact iEq (if_pos (by unfold sizeOk; omega)).symm) | (exact iEq (if_neg (by unfold sizeOk; omega)).symm) | exact trivial | exact rfl | refine joinMax ?_ ?_ ?_ | refine joinMin ?_ ?_ ?_ | refine toMax ?_ | refine toMin ?_ | refine ⟨rfl, ?_⟩ | refine ⟨trivial, ?_⟩ | (refine forkD (fun h => ?_) (fun h => ?_)) | (refine forkNe (fun h => ?_) (fun h => ?_)) | (refine forkEq (fun h => ?_) (fun h => ?_)) | refine forkNot ?_ | (refine ⟨vI64 (by omega), ?_⟩) | (refine And.intro (by omega) ?_) | apply And.intro | exact wk_refl _ | (exact iEq (by omega)) | (exact vI64 (by omega))
end
end Go.Proofs.Ytkkgnalgmebfjaa
/- Ice: charts: what functions of charts answer. No condition. -/
namespace Go.Proofs.Ytkkgnalgmebfjaa
set_option linter.unusedSimpArgs false
set_option linter.unusedVariables false
open Go Go.K
noncomputable section
structure Chart where
  w : Int
  h : Int
  hour : Int
  cells : List Cell
def zeroChart : Chart := ⟨0, 0, 0, []⟩
def errChart (w h t : Int) (cs : List Cell) : Int := first2 (errSize w h t) (if (cs.length : Int) = w * h then errs errCell cs else 1)
def errPair (w h t : Int) (cs : List Cell) (w' h' t' : Int) (ds : List Cell) : Int :=
  if first2 (errChart w h t cs) (errChart w' h' t' ds) = 0 then (if w = w' ∧ h = h' ∧ t = t' then 0 else 1) else first2 (errChart w h t cs) (errChart w' h' t' ds)
def insTo (cs ds : List Cell) (n : Nat) : Prop := ∀ k, k < n → insC (cs.getD k zeroC) (ds.getD k zeroC)
open Classical in
def fInsC (w h t : Int) (cs : List Cell) (w' h' t' : Int) (ds : List Cell) : Bool × Int :=
  if errPair w h t cs w' h' t' ds = 0 then (decide (insTo cs ds cs.length), 0) else (false, errPair w h t cs w' h' t' ds)
end
end Go.Proofs.Ytkkgnalgmebfjaa
/- What is to be shown of functions. Printed by a program. No condition. -/
namespace Go.Proofs.Ytkkgnalgmebfjaa
set_option linter.unusedSimpArgs false
open Go Go.K
set_option maxRecDepth 100000
set_option maxHeartbeats 4000000
set_option linter.unusedVariables false
noncomputable section
def RwrongC (sp : Value) (cs : List Cell) : Prop :=
  (true = true ∧ (0 ≤ List.length cs ∧ sp = .int .i64 (errs errCell (List.drop 0 cs))) ∧ (true = true ∧ ((.int .i64 0 : Value) = .int .i64 ((0 : Nat) : Int) ∧ (.func (.func 104) #[] #[] : Value) = .func (.func 104) #[] #[] ∧ wk (.slice (some ⟨0, 0, some 2⟩) (List.length cs) (List.length cs) : Value) (.slice (some ⟨0, 0, some 2⟩) (List.length cs) (List.length cs) : Value) ∧ (.int .i64 (((List.length cs) : Nat) : Int) : Value) = .int .i64 (((List.length cs) : Nat) : Int) ∧ True) ∧ (True) ∧ (True) ∧ (True)) ∧ (∀ x0 : Nat, true = true) ∧ ∀ x0 : Nat, (x0 ≤ List.length cs ∧ sp = .int .i64 (errs errCell (List.drop x0 cs))) → (((decide ((((x0 : Nat) : Int) : Int) < (((List.length cs) : Nat) : Int))) = true → (((0 : Int) ≤ ((x0 : Nat) : Int) ∧ (((x0 : Nat) : Int) : Int) < (((List.length cs) : Nat) : Int)) ∧ ((partA 8 (List.flatMap cellC cs) (0 + Int.toNat ((x0 : Nat) : Int) * 8) = some (.agg #[.int .i64 (List.getD cs x0 zeroC).conc.lo, .int .i64 (List.getD cs x0 zeroC).conc.hi, .int .i64 (List.getD cs x0 zeroC).thick.lo, .int .i64 (List.getD cs x0 zeroC).thick.hi, .int .i64 (List.getD cs x0 zeroC).ridge.lo, .int .i64 (List.getD cs x0 zeroC).ridge.hi, .int .i64 (List.getD cs x0 zeroC).press.lo, .int .i64 (List.getD cs x0 zeroC).press.hi])) ∧ (∃ r1 : Int, ((True) ∧ (∀ H' : Heap, H'.length = 2 → (True) → KCall prog 104 [.agg #[.int .i64 (List.getD cs x0 zeroC).conc.lo, .int .i64 (List.getD cs x0 zeroC).conc.hi, .int .i64 (List.getD cs x0 zeroC).thick.lo, .int .i64 (List.getD cs x0 zeroC).thick.hi, .int .i64 (List.getD cs x0 zeroC).ridge.lo, .int .i64 (List.getD cs x0 zeroC).ridge.hi, .int .i64 (List.getD cs x0 zeroC).press.lo, .int .i64 (List.getD cs x0 zeroC).press.hi]] H' [] (Is (.int .i64 r1) H')) ∧ ((((r1 : Int) != 0) = true → (.int .i64 r1 : Value) = sp) ∧ (((r1 : Int) != 0) = false → ((.int .i64 (IntKind.wrap .i64 (((x0 : Nat) : Int) + 1)) : Value) = .int .i64 (((x0 : Nat) : Int) + 1) ∧ (∃ x0' : Nat, (x0' ≤ List.length cs ∧ sp = .int .i64 (errs errCell (List.drop x0' cs))) ∧ (List.length cs - x0') < (List.length cs - x0) ∧ true = true ∧ ((.int .i64 (((x0 : Nat) : Int) + 1) : Value) = .int .i64 ((x0' : Nat) : Int) ∧ (.func (.func 104) #[] #[] : Value) = .func (.func 104) #[] #[] ∧ wk (.slice (some ⟨0, 0, some 2⟩) (List.length cs) (List.length cs) : Value) (.slice (some ⟨0, 0, some 2⟩) (List.length cs) (List.length cs) : Value) ∧ (.int .i64 (((List.length cs) : Nat) : Int) : Value) = .int .i64 (((List.length cs) : Nat) : Int) ∧ True) ∧ (True) ∧ (True) ∧ (True)))))))))) ∧ ((decide ((((x0 : Nat) : Int) : Int) < (((List.length cs) : Nat) : Int))) = false → (.int .i64 0 : Value) = sp)))
theorem EwrongC (sp : Value) (cs : List Cell) : vF prog msk (dm 0) 100000 true 40 true 133 [.slice (some ⟨0, 0, some 2⟩) (List.length cs) (List.length cs), .func (.func 104) #[] #[]] (readsT 0 [cs.flatMap cellC]) (some [])
  (.go 3 (.inv 3 (Nat) (0) [] [] (fun x0 => [(10, .int .i64 ((x0 : Nat) : Int)), (1, .func (.func 104) #[] #[]), (8, .slice (some ⟨0, 0, some 2⟩) (List.length cs) (List.length cs)), (9, .int .i64 (((List.length cs) : Nat) : Int))]) (fun x0 => []) (fun x0 => []) (fun x0 => []) (fun x0 => (x0 ≤ List.length cs ∧ sp = .int .i64 (errs errCell (List.drop x0 cs)))) (fun x0 => (List.length cs - x0)) (fun x0 => .go 0 (.fork (.need (.val (.agg #[.int .i64 (List.getD cs x0 zeroC).conc.lo, .int .i64 (List.getD cs x0 zeroC).conc.hi, .int .i64 (List.getD cs x0 zeroC).thick.lo, .int .i64 (List.getD cs x0 zeroC).thick.hi, .int .i64 (List.getD cs x0 zeroC).ridge.lo, .int .i64 (List.getD cs x0 zeroC).ridge.hi, .int .i64 (List.getD cs x0 zeroC).press.lo, .int .i64 (List.getD cs x0 zeroC).press.hi]) (.go 3 (.bind (Int) (fun r1 => .ans [] (.int .i64 r1) [] (.go 2 (.fork (.auto) (.go 0 (.slot 20 (.int .i64 (((x0 : Nat) : Int) + 1)) (.go 0 (.again []))))))))))) (.auto)))))
  (fun v _ _ => v = sp) = RwrongC sp cs := by kernel_rfl
def RCheckChart (sp : Value) (w h t : Int) (cs : List Cell) : Prop :=
  (∃ r0 : Int, ((True) ∧ (∀ H' : Heap, H'.length = 2 → (True) → KCall prog 132 [.int .i64 w, .int .i64 h, .int .i64 t] H' [] (Is (.int .i64 r0) H')) ∧ ((((r0 : Int) != 0) = true → (.int .i64 r0 : Value) = sp) ∧ (((r0 : Int) != 0) = false → ((.int .i64 (IntKind.wrap .i64 (w * h)) : Value) = .int .i64 (w * h) ∧ (((((((List.length cs) : Nat) : Int) : Int) != (w * h)) = true → (.int .i64 1 : Value) = sp) ∧ ((((((List.length cs) : Nat) : Int) : Int) != (w * h)) = false → (∃ r1 : Int, (((some (.cells false 0 (List.flatMap cellC cs) : KObj) = some (.cells false 0 (List.flatMap cellC cs) : KObj)) ∧ True) ∧ (∀ H' : Heap, H'.length = 2 → (H'[0]? = some (.cells false 0 (List.flatMap cellC cs) : KObj) ∧ True) → KCall prog 133 [.slice (some ⟨0, 0, some 2⟩) (List.length cs) (List.length cs), .func (.func 104) #[] #[]] H' [] (Is (.int .i64 r1) H')) ∧ (.int .i64 r1 : Value) = sp)))))))))
theorem ECheckChart (sp : Value) (w h t : Int) (cs : List Cell) : vF prog msk (dm 0) 100000 true 40 true 97 [.agg #[.int .i64 w, .int .i64 h, .int .i64 t, .slice (some ⟨0, 0, some 2⟩) (List.length cs) (List.length cs)]] (readsT 0 [cs.flatMap cellC]) (some [])
  (.go 7 (.bind (Int) (fun r0 => .ans [] (.int .i64 r0) [] (.go 2 (.fork (.auto) (.go 7 (.slot 21 (.int .i64 (w * h)) (.go 0 (.fork (.auto) (.go 1 (.bind (Int) (fun r1 => .ans [(0, .cells false 0 (List.flatMap cellC cs))] (.int .i64 r1) [] (.auto)))))))))))))
  (fun v _ _ => v = sp) = RCheckChart sp w h t cs := by kernel_rfl
def Rpair (sp : Value) (w h t : Int) (cs : List Cell) (w' h' t' : Int) (ds : List Cell) : Prop :=
  (∃ r0 : Int, (((some (.cells false 0 (List.flatMap cellC cs) : KObj) = some (.cells false 0 (List.flatMap cellC cs) : KObj)) ∧ True) ∧ (∀ H' : Heap, H'.length = 4 → (H'[0]? = some (.cells false 0 (List.flatMap cellC cs) : KObj) ∧ True) → KCall prog 97 [.agg #[.int .i64 w, .int .i64 h, .int .i64 t, .slice (some ⟨0, 0, some 2⟩) (List.length cs) (List.length cs)]] H' [] (Is (.int .i64 r0) H')) ∧ (∃ r1 : Int, (((some (.cells false 0 (List.flatMap cellC ds) : KObj) = some (.cells false 0 (List.flatMap cellC ds) : KObj)) ∧ True) ∧ (∀ H' : Heap, H'.length = 4 → (H'[1]? = some (.cells false 0 (List.flatMap cellC ds) : KObj) ∧ True) → KCall prog 97 [.agg #[.int .i64 w', .int .i64 h', .int .i64 t', .slice (some ⟨1, 0, some 2⟩) (List.length ds) (List.length ds)]] H' [] (Is (.int .i64 r1) H')) ∧ ((((r0 : Int) != 0) = true → ((.bool ((r0 : Int) != 0) : Value) = .bool true ∧ (.int .i64 r0 : Value) = sp)) ∧ (((r0 : Int) != 0) = false → ((((r1 : Int) != 0) = true → ((.bool ((r1 : Int) != 0) : Value) = .bool true ∧ (.int .i64 r1 : Value) = sp)) ∧ (((r1 : Int) != 0) = false → ((((w : Int) != w') = true → (.int .i64 1 : Value) = sp) ∧ (((w : Int) != w') = false → ((((h : Int) != h') = true → (.int .i64 1 : Value) = sp) ∧ (((h : Int) != h') = false → ((((t : Int) != t') = true → (.int .i64 1 : Value) = sp) ∧ (((t : Int) != t') = false → (.int .i64 0 : Value) = sp))))))))))))))
theorem Epair (sp : Value) (w h t : Int) (cs : List Cell) (w' h' t' : Int) (ds : List Cell) : vF prog msk (dm 0) 100000 true 40 true 110 [.agg #[.int .i64 w, .int .i64 h, .int .i64 t, .slice (some ⟨0, 0, some 2⟩) (List.length cs) (List.length cs)], .agg #[.int .i64 w', .int .i64 h', .int .i64 t', .slice (some ⟨1, 0, some 2⟩) (List.length ds) (List.length ds)]] (readsT 0 [cs.flatMap cellC, ds.flatMap cellC]) (some [])
  (.go 4 (.bind (Int) (fun r0 => .ans [(0, .cells false 0 (List.flatMap cellC cs))] (.int .i64 r0) [] (.bind (Int) (fun r1 => .ans [(1, .cells false 0 (List.flatMap cellC ds))] (.int .i64 r1) [] (.go 12 (.fork (.go 4 (.slot 13 (.bool true) (.auto))) (.go 8 (.fork (.go 4 (.slot 13 (.bool true) (.auto))) (.go 14 (.gfork (.auto) (.go 6 (.gfork (.auto) (.go 5 (.fork (.auto) (.auto))))))))))))))))
  (fun v _ _ => v = sp) = Rpair sp w h t cs w' h' t' ds := by kernel_rfl
def RInsideChart (sp : Value) (w h t : Int) (cs : List Cell) (w' h' t' : Int) (ds : List Cell) : Prop :=
  (∃ r0 : Int, (((some (.cells false 0 (List.flatMap cellC cs) : KObj) = some (.cells false 0 (List.flatMap cellC cs) : KObj)) ∧ (some (.cells false 0 (List.flatMap cellC ds) : KObj) = some (.cells false 0 (List.flatMap cellC ds) : KObj)) ∧ True) ∧ (∀ H' : Heap, H'.length = 4 → (H'[0]? = some (.cells false 0 (List.flatMap cellC cs) : KObj) ∧ H'[1]? = some (.cells false 0 (List.flatMap cellC ds) : KObj) ∧ True) → KCall prog 110 [.agg #[.int .i64 w, .int .i64 h, .int .i64 t, .slice (some ⟨0, 0, some 2⟩) (List.length cs) (List.length cs)], .agg #[.int .i64 w', .int .i64 h', .int .i64 t', .slice (some ⟨1, 0, some 2⟩) (List.length ds) (List.length ds)]] H' [] (Is (.int .i64 r0) H')) ∧ ((((r0 : Int) != 0) = true → (.tuple #[.bool false, .int .i64 r0] : Value) = sp) ∧ (((r0 : Int) != 0) = false → (true = true ∧ (0 ≤ List.length cs ∧ insTo cs ds 0) ∧ (true = true ∧ ((.int .i64 0 : Value) = .int .i64 ((0 : Nat) : Int) ∧ (.pointer (some ⟨3, 0, none⟩) : Value) = .pointer (some ⟨3, 0, none⟩) ∧ wk (.slice (some ⟨0, 0, some 2⟩) (List.length cs) (List.length cs) : Value) (.slice (some ⟨0, 0, some 2⟩) (List.length cs) (List.length cs) : Value) ∧ (.int .i64 (((List.length cs) : Nat) : Int) : Value) = .int .i64 (((List.length cs) : Nat) : Int) ∧ True) ∧ (True) ∧ (True) ∧ (True)) ∧ (∀ x1 : Nat, true = true) ∧ ∀ x1 : Nat, (x1 ≤ List.length cs ∧ insTo cs ds x1) → (((decide ((((x1 : Nat) : Int) : Int) < (((List.length cs) : Nat) : Int))) = true → (((0 : Int) ≤ ((x1 : Nat) : Int) ∧ (((x1 : Nat) : Int) : Int) < (((List.length cs) : Nat) : Int)) ∧ ((partA 8 (List.flatMap cellC cs) (0 + Int.toNat ((x1 : Nat) : Int) * 8) = some (.agg #[.int .i64 (List.getD cs x1 zeroC).conc.lo, .int .i64 (List.getD cs x1 zeroC).conc.hi, .int .i64 (List.getD cs x1 zeroC).thick.lo, .int .i64 (List.getD cs x1 zeroC).thick.hi, .int .i64 (List.getD cs x1 zeroC).ridge.lo, .int .i64 (List.getD cs x1 zeroC).ridge.hi, .int .i64 (List.getD cs x1 zeroC).press.lo, .int .i64 (List.getD cs x1 zeroC).press.hi])) ∧ (((0 : Int) ≤ ((x1 : Nat) : Int) ∧ (((x1 : Nat) : Int) : Int) < (((List.length ds) : Nat) : Int)) ∧ ((partA 8 (List.flatMap cellC ds) (0 + Int.toNat ((x1 : Nat) : Int) * 8) = some (.agg #[.int .i64 (List.getD ds x1 zeroC).conc.lo, .int .i64 (List.getD ds x1 zeroC).conc.hi, .int .i64 (List.getD ds x1 zeroC).thick.lo, .int .i64 (List.getD ds x1 zeroC).thick.hi, .int .i64 (List.getD ds x1 zeroC).ridge.lo, .int .i64 (List.getD ds x1 zeroC).ridge.hi, .int .i64 (List.getD ds x1 zeroC).press.lo, .int .i64 (List.getD ds x1 zeroC).press.hi])) ∧ (∃ r2 : Bool, ((True) ∧ (∀ H' : Heap, H'.length = 5 → (True) → KCall prog 111 [.agg #[.int .i64 (List.getD cs x1 zeroC).conc.lo, .int .i64 (List.getD cs x1 zeroC).conc.hi, .int .i64 (List.getD cs x1 zeroC).thick.lo, .int .i64 (List.getD cs x1 zeroC).thick.hi, .int .i64 (List.getD cs x1 zeroC).ridge.lo, .int .i64 (List.getD cs x1 zeroC).ridge.hi, .int .i64 (List.getD cs x1 zeroC).press.lo, .int .i64 (List.getD cs x1 zeroC).press.hi], .agg #[.int .i64 (List.getD ds x1 zeroC).conc.lo, .int .i64 (List.getD ds x1 zeroC).conc.hi, .int .i64 (List.getD ds x1 zeroC).thick.lo, .int .i64 (List.getD ds x1 zeroC).thick.hi, .int .i64 (List.getD ds x1 zeroC).ridge.lo, .int .i64 (List.getD ds x1 zeroC).ridge.hi, .int .i64 (List.getD ds x1 zeroC).press.lo, .int .i64 (List.getD ds x1 zeroC).press.hi]] H' [] (Is (.bool r2) H')) ∧ (((!r2) = true → (.tuple #[.bool false, .int .i64 0] : Value) = sp) ∧ ((!r2) = false → ((.int .i64 (IntKind.wrap .i64 (((x1 : Nat) : Int) + 1)) : Value) = .int .i64 (((x1 : Nat) : Int) + 1) ∧ (∃ x1' : Nat, (x1' ≤ List.length cs ∧ insTo cs ds x1') ∧ (List.length cs - x1') < (List.length cs - x1) ∧ true = true ∧ ((.int .i64 (((x1 : Nat) : Int) + 1) : Value) = .int .i64 ((x1' : Nat) : Int) ∧ (.pointer (some ⟨3, 0, none⟩) : Value) = .pointer (some ⟨3, 0, none⟩) ∧ wk (.slice (some ⟨0, 0, some 2⟩) (List.length cs) (List.length cs) : Value) (.slice (some ⟨0, 0, some 2⟩) (List.length cs) (List.length cs) : Value) ∧ (.int .i64 (((List.length cs) : Nat) : Int) : Value) = .int .i64 (((List.length cs) : Nat) : Int) ∧ True) ∧ (True) ∧ (True) ∧ (True)))))))))))) ∧ ((decide ((((x1 : Nat) : Int) : Int) < (((List.length cs) : Nat) : Int))) = false → (.tuple #[.bool true, .int .i64 0] : Value) = sp)))))))
theorem EInsideChart (sp : Value) (w h t : Int) (cs : List Cell) (w' h' t' : Int) (ds : List Cell) : vF prog msk (dm 0) 100000 true 40 true 54 [.agg #[.int .i64 w, .int .i64 h, .int .i64 t, .slice (some ⟨0, 0, some 2⟩) (List.length cs) (List.length cs)], .agg #[.int .i64 w', .int .i64 h', .int .i64 t', .slice (some ⟨1, 0, some 2⟩) (List.length ds) (List.length ds)]] (readsT 0 [cs.flatMap cellC, ds.flatMap cellC]) (some [])
  (.go 5 (.bind (Int) (fun r0 => .ans [(0, .cells false 0 (List.flatMap cellC cs)), (1, .cells false 0 (List.flatMap cellC ds))] (.int .i64 r0) [] (.go 2 (.fork (.auto) (.go 3 (.inv 3 (Nat) (0) [] [] (fun x1 => [(18, .int .i64 ((x1 : Nat) : Int)), (3, .pointer (some ⟨3, 0, none⟩)), (16, .slice (some ⟨0, 0, some 2⟩) (List.length cs) (List.length cs)), (17, .int .i64 (((List.length cs) : Nat) : Int))]) (fun x1 => []) (fun x1 => []) (fun x1 => []) (fun x1 => (x1 ≤ List.length cs ∧ insTo cs ds x1)) (fun x1 => (List.length cs - x1)) (fun x1 => .go 0 (.fork (.go 0 (.need (.val (.agg #[.int .i64 (List.getD cs x1 zeroC).conc.lo, .int .i64 (List.getD cs x1 zeroC).conc.hi, .int .i64 (List.getD cs x1 zeroC).thick.lo, .int .i64 (List.getD cs x1 zeroC).thick.hi, .int .i64 (List.getD cs x1 zeroC).ridge.lo, .int .i64 (List.getD cs x1 zeroC).ridge.hi, .int .i64 (List.getD cs x1 zeroC).press.lo, .int .i64 (List.getD cs x1 zeroC).press.hi]) (.go 6 (.need (.val (.agg #[.int .i64 (List.getD ds x1 zeroC).conc.lo, .int .i64 (List.getD ds x1 zeroC).conc.hi, .int .i64 (List.getD ds x1 zeroC).thick.lo, .int .i64 (List.getD ds x1 zeroC).thick.hi, .int .i64 (List.getD ds x1 zeroC).ridge.lo, .int .i64 (List.getD ds x1 zeroC).ridge.hi, .int .i64 (List.getD ds x1 zeroC).press.lo, .int .i64 (List.getD ds x1 zeroC).press.hi]) (.go 25 (.bind (Bool) (fun r2 => .ans [] (.bool r2) [] (.go 0 (.fork (.auto) (.go 0 (.slot 33 (.int .i64 (((x1 : Nat) : Int) + 1)) (.go 0 (.again []))))))))))))))) (.auto))))))))))
  (fun v _ _ => v = sp) = RInsideChart sp w h t cs w' h' t' ds := by kernel_rfl
end
end Go.Proofs.Ytkkgnalgmebfjaa
/- Ice: functions of charts. No condition. -/
namespace Go.Proofs.Ytkkgnalgmebfjaa
open Go Go.K
set_option maxRecDepth 100000
set_option linter.unusedVariables false
set_option linter.unusedSimpArgs false
noncomputable section
attribute [local irreducible] vF
theorem cellC_len (c : Cell) : (cellC c).length = 8 := rfl
theorem partCell {xs : List Cell} {x : Nat} (h : x < xs.length) : partA 8 (List.flatMap cellC xs) (0 + Int.toNat ((x : Nat) : Int) * 8) = some (.agg ⟨cellC (List.getD xs x zeroC)⟩) :=
  part_at (f := cellC) (d := zeroC) (c := 0) (m := 8) cellC_len h (by rw [Int.toNat_natCast]; omega) (by decide)
theorem plainC (n : Nat) (l : List Cell) : (l.flatMap cellC).all (belowC n) = true := plain_flat (fun _ => rfl) l
theorem two_id {H : Heap} {id id2 : Nat} {own own2 : Bool} {z z2 : Nat} {cs ds : List Value} (h1 : H[id]? = some (.cells own z cs)) (h2 : H[id2]? = some (.cells own2 z2 ds)) : ∀ (k : Nat) (c : List Value), [cs, ds][k]? = some c → ∃ id' own z, [id, id2][k]? = some id' ∧ H[id']? = some (KObj.cells own z c) := by
  intro k c h
  match k with
  | 0 => cases h; exact ⟨id, own, z, rfl, h1⟩
  | 1 => cases h; exact ⟨id2, own2, z2, rfl, h2⟩
theorem two_cs {cs ds : List Value} (h1 : cs.all (belowC 0) = true) (h2 : ds.all (belowC 0) = true) : ∀ c ∈ [cs, ds], c.all (belowC 0) = true := by
  intro c hc
  rcases List.mem_cons.1 hc with rfl | hc
  · exact h1
  · rw [List.mem_singleton.1 hc]; exact h2
theorem kwrongC (xs : List Cell) (hn : xs.length ≤ 2 ^ 30) {H : Heap} {id : Nat} {own : Bool} {z : Nat} (hid : H[id]? = some (.cells own z (xs.flatMap cellC))) :
    KCall prog F.ice_wrong_ice_Cell_ [.slice (some ⟨id, 0, some 2⟩) xs.length xs.length, .func (.func F.ice_CheckCell) #[] #[]] H [] (Is (.int .i64 (errs errCell xs)) H) := by
  refine valR (Eq.mpr (EwrongC _ xs) ?_) (one_cs (plainC 0 xs)) rfl [id] rfl (one_id hid)
  unfold RwrongC
  refine ⟨rfl, ⟨Nat.zero_le _, rfl⟩, ?_, fun _ => rfl, ?_⟩
  · repeat' first | exact trivial | exact rfl | exact wk_refl _ | refine wkO_cells ?_ | refine wks_cons ?_ ?_ | exact wks_nil | exact wk_nil _ _ _ (.inl rfl) | (exact wk_Q (by omega)) | refine wk_tupL ?_ | refine wk_aggL ?_ | refine joinMax ?_ ?_ ?_ | refine joinMin ?_ ?_ ?_ | refine toMax ?_ | refine toMin ?_ | refine ⟨rfl, ?_⟩ | refine ⟨trivial, ?_⟩ | (refine forkD (fun h => ?_) (fun h => ?_)) | (refine forkNe (fun h => ?_) (fun h => ?_)) | (refine forkEq (fun h => ?_) (fun h => ?_)) | refine forkNot ?_ | (refine ⟨vI64 (by omega), ?_⟩) | (refine And.intro (by omega) ?_) | apply And.intro | (exact iEq (by omega)) | (exact vI64 (by omega))
  rintro x ⟨hx, hsp⟩
  refine forkD (fun h => ?_) (fun h => ?_)
  · have hlt : x < xs.length := by omega
    rw [errs_at (d := zeroC) hlt] at hsp
    refine ⟨by omega, partCell hlt, _, trivial, fun H' _ _ => kCheckCell _ H', ?_⟩
    refine forkNe (fun h1 => ?_) (fun h1 => ?_)
    · rw [hsp, if_neg h1]
    · repeat' first | (refine ⟨x + 1, ⟨by omega, by rw [hsp, if_pos h1]⟩, by omega, ?_⟩) | exact trivial | exact rfl | exact wk_refl _ | refine wkO_cells ?_ | refine wks_cons ?_ ?_ | exact wks_nil | exact wk_nil _ _ _ (.inl rfl) | (exact wk_Q (by omega)) | refine wk_tupL ?_ | refine wk_aggL ?_ | refine joinMax ?_ ?_ ?_ | refine joinMin ?_ ?_ ?_ | refine toMax ?_ | refine toMin ?_ | refine ⟨rfl, ?_⟩ | refine ⟨trivial, ?_⟩ | (refine forkD (fun h => ?_) (fun h => ?_)) | (refine forkNe (fun h => ?_) (fun h => ?_)) | (refine forkEq (fun h => ?_) (fun h => ?_)) | refine forkNot ?_ | (refine ⟨vI64 (by omega), ?_⟩) | (refine And.intro (by omega) ?_) | apply And.intro | (exact iEq (by omega)) | (exact vI64 (by omega))
  · rw [hsp, show x = xs.length by omega, List.drop_length]; rfl
theorem errChart_1 {w h t : Int} {cs : List Cell} (h0 : ¬ errSize w h t = 0) : errChart w h t cs = errSize w h t := first2_1 h0
theorem errChart_2 {w h t : Int} {cs : List Cell} (h0 : errSize w h t = 0) (h1 : (cs.length : Int) ≠ w * h) : errChart w h t cs = 1 := (first2_2 h0).trans (if_neg h1)
theorem errChart_3 {w h t : Int} {cs : List Cell} (h0 : errSize w h t = 0) (h1 : (cs.length : Int) = w * h) : errChart w h t cs = errs errCell cs := (first2_2 h0).trans (if_pos h1)
theorem size_mul {w h t : Int} (h0 : errSize w h t = 0) : 1 ≤ w * h ∧ w * h ≤ 1024 := by
  obtain ⟨h1, h2, h3, _⟩ := errSize_iff.1 h0
  refine ⟨?_, h3⟩
  have : 1 * 1 ≤ w * h := Int.mul_le_mul h1.1 h2.1 (by omega) (by omega)
  omega
theorem kCheckChart (w h t : Int) (cs : List Cell) {H : Heap} {id : Nat} {own : Bool} {z : Nat} (hid : H[id]? = some (.cells own z (cs.flatMap cellC))) :
    KCall prog F.ice_CheckChart [.agg #[.int .i64 w, .int .i64 h, .int .i64 t, .slice (some ⟨id, 0, some 2⟩) cs.length cs.length]] H [] (Is (.int .i64 (errChart w h t cs)) H) := by
  refine valR (Eq.mpr (ECheckChart _ w h t cs) ?_) (one_cs (plainC 0 cs)) rfl [id] rfl (one_id hid)
  unfold RCheckChart
  refine ⟨_, trivial, fun H' _ _ => ksize _ _ _ H', ?_⟩
  refine forkNe (fun h0 => iEq (errChart_1 h0).symm) (fun h0 => ?_)
  have hm := size_mul h0
  repeat' first | (refine ⟨_, ⟨rfl, trivial⟩, fun H' _ hd => kwrongC _ (by omega) hd.1, ?_⟩) | exact iEq (errChart_2 h0 h).symm | exact iEq (errChart_3 h0 h).symm | exact trivial | exact rfl | exact wk_refl _ | refine wkO_cells ?_ | refine wks_cons ?_ ?_ | exact wks_nil | exact wk_nil _ _ _ (.inl rfl) | (exact wk_Q (by omega)) | refine wk_tupL ?_ | refine wk_aggL ?_ | refine joinMax ?_ ?_ ?_ | refine joinMin ?_ ?_ ?_ | refine toMax ?_ | refine toMin ?_ | refine ⟨rfl, ?_⟩ | refine ⟨trivial, ?_⟩ | (refine forkD (fun h => ?_) (fun h => ?_)) | (refine forkNe (fun h => ?_) (fun h => ?_)) | (refine forkEq (fun h => ?_) (fun h => ?_)) | refine forkNot ?_ | (refine ⟨vI64 (by omega), ?_⟩) | (refine And.intro (by omega) ?_) | apply And.intro | (exact iEq (by omega)) | (exact vI64 (by omega))
theorem errChart_ok {w h t : Int} {cs : List Cell} (h0 : errChart w h t cs = 0) : sizeOk w h t ∧ (cs.length : Int) = w * h ∧ cs.length ≤ 1024 ∧ ∀ c ∈ cs, rightC c := by
  have h1 : errSize w h t = 0 := by
    rcases Classical.em (errSize w h t = 0) with h1 | h1
    · exact h1
    · rw [errChart_1 h1] at h0; exact h0
  have h2 : (cs.length : Int) = w * h := by
    rcases Classical.em ((cs.length : Int) = w * h) with h2 | h2
    · exact h2
    · rw [errChart_2 h1 h2] at h0; cases h0
  rw [errChart_3 h1 h2] at h0
  have hm := size_mul h1
  exact ⟨errSize_iff.1 h1, h2, by omega, fun c hc => errCell_iff.1 (errs_zero h0 c hc)⟩
theorem right_at {cs : List Cell} (h : ∀ c ∈ cs, rightC c) {k : Nat} (hk : k < cs.length) : rightC (cs.getD k zeroC) := h _ (getD_mem hk)
end
end Go.Proofs.Ytkkgnalgmebfjaa
/- Ice: functions of two charts; fields in charts. No condition. -/
namespace Go.Proofs.Ytkkgnalgmebfjaa
open Go Go.K
set_option maxRecDepth 100000
set_option linter.unusedVariables false
set_option linter.unusedSimpArgs false
noncomputable section
attribute [local irreducible] vF
section
variable {w v t w' v' t' : Int} {cs ds : List Cell}
theorem errPair_1 (h : ¬ errChart w v t cs = 0) : errPair w v t cs w' v' t' ds = errChart w v t cs := by unfold errPair; rw [first2_1 h, if_neg h]
theorem errPair_2 (h : errChart w v t cs = 0) (k : ¬ errChart w' v' t' ds = 0) : errPair w v t cs w' v' t' ds = errChart w' v' t' ds := by unfold errPair; rw [first2_2 h, if_neg k]
theorem errPair_3 (h : errChart w v t cs = 0) (k : errChart w' v' t' ds = 0) (q : ¬ (w = w' ∧ v = v' ∧ t = t')) : errPair w v t cs w' v' t' ds = 1 := by unfold errPair; rw [first2_2 h, if_pos k, if_neg q]
theorem errPair_4 (h : errChart w v t cs = 0) (k : errChart w' v' t' ds = 0) (q : w = w' ∧ v = v' ∧ t = t') : errPair w v t cs w' v' t' ds = 0 := by unfold errPair; rw [first2_2 h, if_pos k, if_pos q]
theorem errPair_ok (h : errPair w v t cs w' v' t' ds = 0) : cs.length = ds.length ∧ cs.length ≤ 1024 ∧ (∀ c ∈ cs, rightC c) ∧ ∀ c ∈ ds, rightC c := by
  rcases Classical.em (errChart w v t cs = 0) with h1 | h1
  · rcases Classical.em (errChart w' v' t' ds = 0) with h2 | h2
    · rcases Classical.em (w = w' ∧ v = v' ∧ t = t') with h3 | h3
      · obtain ⟨a1, a2, a3, a4⟩ := errChart_ok h1
        obtain ⟨b1, b2, b3, b4⟩ := errChart_ok h2
        obtain ⟨rfl, rfl, rfl⟩ := h3
        exact ⟨by omega, a3, a4, b4⟩
      · rw [errPair_3 h1 h2 h3] at h; cases h
    · rw [errPair_2 h1 h2] at h; exact absurd h h2
  · rw [errPair_1 h1] at h; exact absurd h h1
theorem fInsC_1 (h : ¬ errPair w v t cs w' v' t' ds = 0) : fInsC w v t cs w' v' t' ds = (false, errPair w v t cs w' v' t' ds) := by unfold fInsC; rw [if_neg h]
theorem fInsC_2 (h : errPair w v t cs w' v' t' ds = 0) (k : ¬ insTo cs ds cs.length) : fInsC w v t cs w' v' t' ds = (false, 0) := by unfold fInsC; rw [if_pos h]; simp [k]
theorem fInsC_3 (h : errPair w v t cs w' v' t' ds = 0) (k : insTo cs ds cs.length) : fInsC w v t cs w' v' t' ds = (true, 0) := by unfold fInsC; rw [if_pos h]; simp [k]
theorem to_zero {p : Nat → Prop} : ∀ k, k < 0 → p k := fun k h => absurd h (Nat.not_lt_zero k)
theorem to_succ {p : Nat → Prop} {n : Nat} (h : ∀ k, k < n → p k) (hn : p n) : ∀ k, k < n + 1 → p k := by
  intro k hk
  rcases Nat.lt_or_ge k n with h1 | h1
  · exact h k h1
  · obtain rfl : k = n := by omega
    exact hn
end
theorem kpair (w v t : Int) (cs : List Cell) (w' v' t' : Int) (ds : List Cell) {H : Heap} {id id2 : Nat} {own own2 : Bool} {z z2 : Nat} (hid : H[id]? = some (.cells own z (cs.flatMap cellC))) (hid2 : H[id2]? = some (.cells own2 z2 (ds.flatMap cellC))) :
    KCall prog F.ice_pair [.agg #[.int .i64 w, .int .i64 v, .int .i64 t, .slice (some ⟨id, 0, some 2⟩) cs.length cs.length], .agg #[.int .i64 w', .int .i64 v', .int .i64 t', .slice (some ⟨id2, 0, some 2⟩) ds.length ds.length]] H [] (Is (.int .i64 (errPair w v t cs w' v' t' ds)) H) := by
  refine valR (Eq.mpr (Epair _ w v t cs w' v' t' ds) ?_) (two_cs (plainC 0 cs) (plainC 0 ds)) rfl [id, id2] rfl (two_id hid hid2)
  unfold Rpair
  repeat' first | (refine ⟨_, ⟨rfl, trivial⟩, fun H' _ hd => kCheckChart _ _ _ _ hd.1, ?_⟩) | (refine forkNe (fun h => ?_) (fun h => ?_)) | refine ⟨vbT (bne_iff_ne.2 h), ?_⟩ | exact iEq (errPair_1 h).symm | exact iEq (errPair_2 ‹_› h).symm | (exact iEq (errPair_3 ‹_› ‹_› (fun q => by omega)).symm) | exact iEq (errPair_4 ‹_› ‹_› ⟨‹_›, ‹_›, ‹_›⟩).symm
theorem kInsideChart (w v t : Int) (cs : List Cell) (w' v' t' : Int) (ds : List Cell) {H : Heap} {id id2 : Nat} {own own2 : Bool} {z z2 : Nat} (hid : H[id]? = some (.cells own z (cs.flatMap cellC))) (hid2 : H[id2]? = some (.cells own2 z2 (ds.flatMap cellC))) :
    KCall prog F.ice_InsideChart [.agg #[.int .i64 w, .int .i64 v, .int .i64 t, .slice (some ⟨id, 0, some 2⟩) cs.length cs.length], .agg #[.int .i64 w', .int .i64 v', .int .i64 t', .slice (some ⟨id2, 0, some 2⟩) ds.length ds.length]] H [] (Is (.tuple #[.bool (fInsC w v t cs w' v' t' ds).1, .int .i64 (fInsC w v t cs w' v' t' ds).2]) H) := by
  refine valR (Eq.mpr (EInsideChart _ w v t cs w' v' t' ds) ?_) (two_cs (plainC 0 cs) (plainC 0 ds)) rfl [id, id2] rfl (two_id hid hid2)
  unfold RInsideChart
  refine ⟨_, ⟨rfl, rfl, trivial⟩, fun H' _ hd => kpair _ _ _ _ _ _ _ _ hd.1 hd.2.1, ?_⟩
  refine forkNe (fun h0 => tupB (fInsC_1 h0)) (fun h0 => ?_)
  obtain ⟨hle, hb, hr, hr2⟩ := errPair_ok h0
  repeat' first | (refine ⟨rfl, ⟨Nat.zero_le _, to_zero⟩, ?_, fun _ => rfl, ?_⟩) | exact trivial | exact rfl | exact wk_refl _ | refine wkO_cells ?_ | refine wks_cons ?_ ?_ | exact wks_nil | exact wk_nil _ _ _ (.inl rfl) | (exact wk_Q (by omega)) | refine wk_tupL ?_ | refine wk_aggL ?_ | refine joinMax ?_ ?_ ?_ | refine joinMin ?_ ?_ ?_ | refine toMax ?_ | refine toMin ?_ | refine ⟨rfl, ?_⟩ | refine ⟨trivial, ?_⟩ | (refine forkD (fun h => ?_) (fun h => ?_)) | (refine forkNe (fun h => ?_) (fun h => ?_)) | (refine forkEq (fun h => ?_) (fun h => ?_)) | refine forkNot ?_ | (refine ⟨vI64 (by omega), ?_⟩) | (refine And.intro (by omega) ?_) | apply And.intro | (exact iEq (by omega)) | (exact vI64 (by omega))
  rintro x ⟨hx, ho⟩
  refine forkD (fun hl => ?_) (fun hl => ?_)
  · have hlt : x < cs.length := by omega
    have hlt2 : x < ds.length := by omega
    have hc := right_at hr hlt
    repeat' first | refine ⟨partCell hlt, ?_⟩ | refine ⟨partCell hlt2, ?_⟩ | (refine ⟨_, trivial, fun H' _ _ => kspIns _ _ H', ?_⟩) | (refine forkNot (forkD (fun hk => ?_) (fun hk => ?_))) | (exact tupB (fInsC_2 h0 (fun q => hk (q _ hlt)))) | (refine ⟨x + 1, ⟨by omega, to_succ ho hk⟩, by omega, ?_⟩) | exact trivial | exact rfl | exact wk_refl _ | refine wkO_cells ?_ | refine wks_cons ?_ ?_ | exact wks_nil | exact wk_nil _ _ _ (.inl rfl) | (exact wk_Q (by omega)) | refine wk_tupL ?_ | refine wk_aggL ?_ | refine joinMax ?_ ?_ ?_ | refine joinMin ?_ ?_ ?_ | refine toMax ?_ | refine toMin ?_ | refine ⟨rfl, ?_⟩ | refine ⟨trivial, ?_⟩ | (refine forkD (fun h => ?_) (fun h => ?_)) | (refine forkNe (fun h => ?_) (fun h => ?_)) | (refine forkEq (fun h => ?_) (fun h => ?_)) | refine forkNot ?_ | (refine ⟨vI64 (by omega), ?_⟩) | (refine And.intro (by omega) ?_) | apply And.intro | (exact iEq (by omega)) | (exact vI64 (by omega))
  · obtain rfl : x = cs.length := by omega
    exact tupB (fInsC_3 h0 ho)
end
end Go.Proofs.Ytkkgnalgmebfjaa
/- Drift: what comes together in a cell, and what a step makes of a field. No condition. -/
namespace Go.Proofs.Ytkkgnalgmebfjaa
set_option linter.unusedSimpArgs false
set_option linter.unusedVariables false
open Go Go.K
noncomputable section
/-- What has come to a cell: all Conc, and the greatest Thick and Ridge. -/
structure Pl where
  s : Int
  t : Int
  r : Int
def zeroP : Pl := ⟨0, 0, 0⟩
abbrev plC1 (p : Pl) : List Value := [.int .i64 p.s]
abbrev plC2 (p : Pl) : List Value := [.int .i64 0, .int .i64 p.t, .int .i64 p.r, .int .i64 0]
def addP (p : Pl) (x : Ice) : Pl := if x.conc = 0 then p else ⟨p.s + x.conc, max p.t x.thick, max p.r x.ridge⟩
def overP (p : Pl) : Int := max (p.s - 100) 0
def tellP (p : Pl) : Ice := ⟨p.s - overP p, min (p.t + Int.tdiv (overP p) 10) 400, min (p.r + Int.tdiv (overP p) 5) 100, min (Int.tdiv (overP p + 25 - 1) 25) 3⟩
/-- The closures of member j of two families; those of the first x of n. -/
def clos (f F1 F2 j : Nat) : Value := .func (.func f) #[] #[.pointer (some ⟨F1, 0, some (j + 3)⟩), .pointer (some ⟨F2, 0, some (j + 3)⟩)]
def closL (f F1 F2 x n : Nat) : List Value := (List.range n).map fun j => if j < x then clos f F1 F2 j else .nilFunc
/-- The first error of those at the first indices. -/
def errUp (e : Nat → Int) : Nat → Int
  | 0 => 0
  | k + 1 => first2 (errUp e k) (e k)
def isZ (x : Ice) : Bool := (x.conc == 0) && ((x.thick == 0) && ((x.ridge == 0) && ((x.press == 0) && true)))
def inMv (f : Flow) (m : Move) : Bool := (decide ((endA f).dx ≤ m.dx) && decide (m.dx ≤ (endZ f).dx)) && (decide ((endA f).dy ≤ m.dy) && decide (m.dy ≤ (endZ f).dy))
end
end Go.Proofs.Ytkkgnalgmebfjaa
/- Drift: helper lemmas: answers with new lists; families of closures. No condition. -/
namespace Go.Proofs.Ytkkgnalgmebfjaa
open Go Go.K
set_option maxRecDepth 100000
set_option linter.unusedVariables false
set_option linter.unusedSimpArgs false
noncomputable section
attribute [local irreducible] vF
/-- Where lists lie. -/
def idsOk (H : Heap) : List Nat → List (List Value) → Prop
  | [], [] => True
  | id :: ids, c :: css => (∃ own z, H[id]? = some (.cells own z c)) ∧ idsOk H ids css
  | _, _ => False
theorem idsOk_len {H : Heap} : ∀ {ids : List Nat} {css : List (List Value)}, idsOk H ids css → ids.length = css.length
  | [], [], _ => rfl
  | _ :: ids, _ :: css, h => by rw [List.length_cons, List.length_cons, idsOk_len h.2]
  | [], _ :: _, h => h.elim
  | _ :: _, [], h => h.elim
theorem idsOk_spec {H : Heap} : ∀ {ids : List Nat} {css : List (List Value)}, idsOk H ids css → ∀ (k : Nat) (c : List Value), css[k]? = some c → ∃ id own z, ids[k]? = some id ∧ H[id]? = some (KObj.cells own z c)
  | [], [], _, k, c, hk => by simp at hk
  | i :: ids, d :: css, h, 0, c, hk => by
    obtain ⟨⟨own, z, e⟩, _⟩ := h
    cases hk
    exact ⟨i, own, z, rfl, e⟩
  | i :: ids, d :: css, h, k + 1, c, hk => by
    obtain ⟨id, own, z, a, b⟩ := idsOk_spec h.2 k c (by simpa using hk)
    exact ⟨id, own, z, by simpa using a, b⟩
  | [], _ :: _, h, _, _, _ => h.elim
  | _ :: _, [], h, _, _, _ => h.elim
def plainAll : List (List Value) → Prop
  | [] => True
  | c :: css => c.all (belowC 0) = true ∧ plainAll css
theorem plainAll_spec : ∀ {css : List (List Value)}, plainAll css → ∀ c ∈ css, c.all (belowC 0) = true
  | [], _, c, h => by cases h
  | d :: css, hp, c, h => by
    rcases List.mem_cons.1 h with rfl | h
    · exact hp.1
    · exact plainAll_spec hp.2 c h
def newAll : List KObj → Prop
  | [] => True
  | o :: os => (∃ z cs, o = .cells true z cs ∧ cs.all (belowC 0) = true) ∧ newAll os
theorem newAll_spec {σ : Nat → Option Nat} : ∀ {os : List KObj}, newAll os → (os.all fun o => rnoOk 3 o && o.owned) = true ∧ os.map (rno σ 3) = os
  | [], _ => ⟨rfl, rfl⟩
  | o :: os, ⟨⟨z, cs, e, h⟩, hs⟩ => by
    subst e
    obtain ⟨a, b⟩ := newAll_spec (σ := σ) hs
    obtain ⟨c, d⟩ := rnCl (σ := σ) (d := 0) h
    refine ⟨?_, ?_⟩
    · rw [List.all_cons, a, Bool.and_true]
      show (rnoOk 3 (.cells true z cs) && true) = true
      rw [Bool.and_true]; exact d
    · rw [List.map_cons, b]
      show KObj.cells true z (cs.map (rn σ 3)) :: os = _
      rw [c]
/-- An answer with new lists. -/
theorem valNs {f : FuncId} {args : List Value} {css : List (List Value)} {h : Hint} (v : Nat → Value) {new : List KObj}
    (hc : vF prog msk (dm 0) 100000 true 40 true f args (readsT 0 css) (some []) h (newK (readsT 0 css).n 3 (v css.length) (new.map fun o => (true, o))))
    (hp : plainAll css) (hn : newAll new) (h1 : rnOk 3 (v css.length) = true) (h2 : rn (sgOnly (0 + css.length)) 3 (v css.length) = v css.length) (h3 : ∀ j, rn (sgUp (0 + css.length) j) 3 (v css.length) = v j)
    {H : Heap} {ids : List Nat} (hi : idsOk H ids css) {args' : List Value} (ha : args.map (rn (sgR 0 ids) 3) = args') :
    KCall prog f args' H [] (Is (v H.length) (H ++ new)) := by
  subst ha
  have e0 : (new.map fun o => (true, o)).map (·.2) = new := by rw [List.map_map]; exact List.map_id _
  have key := valN (css := css) (v := v css.length) (new := new.map fun o => (true, o)) hc (plainAll_spec hp) h1 h2 (by rw [e0]; exact (newAll_spec (σ := fun _ => none) hn).1) (by rw [e0]; exact (newAll_spec hn).2) (H := H) ids (idsOk_len hi) (idsOk_spec hi)
  rw [e0, (newAll_spec hn).2, h3] at key
  exact key
/-! ## Lists within cells -/
theorem setl_app : ∀ (n A B : List Value) (k : Nat), setl (A ++ B) (A.length + k) n = A ++ setl B k n
  | [], A, B, k => rfl
  | v :: n, A, B, k => by
    simp only [setl]
    rw [List.set_append_right _ _ (by omega), show A.length + k - A.length = k by omega, Nat.add_assoc, setl_app n A _ (k + 1)]
theorem setl_appL : ∀ (n A B : List Value) (k : Nat), k + n.length ≤ A.length → setl (A ++ B) k n = setl A k n ++ B
  | [], A, B, k, _ => rfl
  | v :: n, A, B, k, h => by
    simp only [List.length_cons] at h
    simp only [setl]
    rw [List.set_append_left _ _ (by omega), setl_appL n (A.set k v) B (k + 1) (by rw [List.length_set]; omega)]
/-- A part of an element is written. -/
theorem flat_setIn {α : Type} {f : α → List Value} {m c : Nat} {d y : α} {vs : List Value} (hf : ∀ x, (f x).length = m) (xs : List α) (k : Nat) (hk : k < xs.length) (hc : c + vs.length ≤ m) (hy : f y = setl (f (xs.getD k d)) c vs) :
    setl (xs.flatMap f) (k * m + c) vs = (xs.set k y).flatMap f := by
  have e1 : xs = xs.take k ++ xs.getD k d :: xs.drop (k + 1) := by
    rw [show xs.getD k d = xs[k] from by rw [List.getD_eq_getElem?_getD, List.getElem?_eq_getElem hk]; rfl, ← List.drop_eq_getElem_cons hk, List.take_append_drop]
  have e2 : xs.set k y = xs.take k ++ y :: xs.drop (k + 1) := by rw [List.set_eq_take_append_cons_drop, if_pos hk]
  have hl : ((xs.take k).flatMap f).length = k * m := by rw [flat_len hf, List.length_take, Nat.min_eq_left (Nat.le_of_lt hk)]
  rw [e2]
  conv => lhs; rw [e1]
  rw [List.flatMap_append, List.flatMap_cons, List.flatMap_append, List.flatMap_cons, ← hl, setl_app, setl_appL _ _ _ _ (by rw [hf]; exact hc), ← hy]
theorem plC1_len (p : Pl) : (plC1 p).length = 1 := rfl
theorem plC2_len (p : Pl) : (plC2 p).length = 4 := rfl
theorem plainP1 (n : Nat) (l : List Pl) : (l.flatMap plC1).all (belowC n) = true := plain_flat (fun _ => rfl) l
theorem plainP2 (n : Nat) (l : List Pl) : (l.flatMap plC2).all (belowC n) = true := plain_flat (fun _ => rfl) l
theorem plainXL (n : Nat) (l : List Ice) : (l.flatMap iceC).all (belowC n) = true := plain_flat (fun _ => rfl) l
theorem pl1At {l : List Pl} {x : Nat} (h : x < l.length) : (l.flatMap plC1)[x * 1 + 0]? = some (.int .i64 (l.getD x zeroP).s) := cell_at (n := 1) (c := 0) (d := zeroP) plC1_len h rfl rfl
theorem pl2At {l : List Pl} {x : Nat} (h : x < l.length) : (l.flatMap plC2)[x * 4 + 1]? = some (.int .i64 (l.getD x zeroP).t) ∧ (l.flatMap plC2)[x * 4 + 2]? = some (.int .i64 (l.getD x zeroP).r) :=
  ⟨cell_at (n := 4) (c := 1) (d := zeroP) plC2_len h rfl rfl, cell_at (n := 4) (c := 2) (d := zeroP) plC2_len h rfl rfl⟩
theorem pl1Set {l : List Pl} {x : Nat} (h : x < l.length) (p : Pl) : setl (l.flatMap plC1) (x * 1 + 0) [.int .i64 p.s] = (l.set x p).flatMap plC1 :=
  flat_setIn (d := zeroP) plC1_len l x h (Nat.le_refl _) rfl
theorem pl2Set {l : List Pl} {x : Nat} (h : x < l.length) (p : Pl) : setl (setl (l.flatMap plC2) (x * 4 + 1) [.int .i64 p.t]) (x * 4 + 2) [.int .i64 p.r] = (l.set x p).flatMap plC2 := by
  rw [flat_setIn (d := zeroP) (y := (⟨0, p.t, (l.getD x zeroP).r⟩ : Pl)) plC2_len l x h (show 1 + 1 ≤ 4 by decide) rfl]
  rw [flat_setIn (d := zeroP) (y := p) plC2_len (l.set x _) x (by rw [List.length_set]; exact h) (show 2 + 1 ≤ 4 by decide) ?_, List.set_set]
  rw [show (l.set x (⟨0, p.t, (l.getD x zeroP).r⟩ : Pl)).getD x zeroP = ⟨0, p.t, (l.getD x zeroP).r⟩ from by rw [List.getD_eq_getElem?_getD, List.getElem?_set_self h]; rfl]
  rfl
theorem rep_snoc {α : Type} (x : α) (n : Nat) : List.replicate (n + 1) x = List.replicate n x ++ [x] := by rw [List.replicate_succ']
/-! ## Closures -/
theorem closL_len (f F1 F2 x n : Nat) : (closL f F1 F2 x n).length = n := by simp [closL]
theorem closL_0 (f F1 F2 n : Nat) : closL f F1 F2 0 n = krep [.nilFunc] n := by
  have key : ∀ n, krep [Value.nilFunc] n = List.replicate n .nilFunc := by
    intro n
    induction n with
    | zero => rfl
    | succ n ih => show Value.nilFunc :: krep [.nilFunc] n = _; rw [ih]; rfl
  rw [key]
  refine List.ext_getElem? fun i => ?_
  unfold closL
  rw [List.getElem?_map, List.getElem?_replicate]
  by_cases h : i < n
  · rw [List.getElem?_range h, if_pos h]; rfl
  · rw [List.getElem?_eq_none (by simp; omega), if_neg h]; rfl
theorem closL_get {f F1 F2 x n j : Nat} (h : j < x) (hn : j < n) {off : Nat} (ho : off = j) : (closL f F1 F2 x n)[off]? = some (clos f F1 F2 j) := by
  subst ho
  unfold closL
  rw [List.getElem?_map, List.getElem?_range hn]
  show some (if off < x then _ else _) = _
  rw [if_pos h]
theorem closL_set {f F1 F2 x n : Nat} (h : x < n) {off : Nat} (ho : off = x) : setl (closL f F1 F2 x n) off [clos f F1 F2 x] = closL f F1 F2 (x + 1) n := by
  subst ho
  simp only [setl]
  refine List.ext_getElem? fun i => ?_
  unfold closL
  rw [List.getElem?_set]
  by_cases h1 : off = i
  · subst h1
    rw [if_pos rfl, if_pos (by simpa using h), List.getElem?_map, List.getElem?_range h]
    show _ = some (if off < off + 1 then _ else _)
    rw [if_pos (Nat.lt_succ_self _)]
  · rw [if_neg h1, List.getElem?_map, List.getElem?_map]
    by_cases h2 : i < n
    · rw [List.getElem?_range h2]
      show some (if i < off then _ else _) = some (if i < off + 1 then _ else _)
      by_cases h3 : i < off
      · rw [if_pos h3, if_pos (by omega)]
      · rw [if_neg h3, if_neg (by omega)]
    · rw [List.getElem?_eq_none (by simp; omega)]; rfl
theorem closL_rn {σ : Nat → Option Nat} {f F1 F2 x n : Nat} (h1 : σ F1 = some F1) (h2 : σ F2 = some F2) : (closL f F1 F2 x n).map (rn σ 3) = closL f F1 F2 x n := by
  unfold closL
  rw [List.map_map]
  refine List.map_congr_left fun j _ => ?_
  show rn σ 3 (if j < x then _ else _) = if j < x then _ else _
  by_cases h : j < x
  · rw [if_pos h]
    show Value.func (.func f) ⟨[]⟩ ⟨[rn σ 2 (.pointer (some ⟨F1, 0, some (j + 3)⟩)), rn σ 2 (.pointer (some ⟨F2, 0, some (j + 3)⟩))]⟩ = _
    have e : ∀ F, σ F = some F → rn σ 2 (.pointer (some ⟨F, 0, some (j + 3)⟩)) = .pointer (some ⟨F, 0, some (j + 3)⟩) := fun F hF => by
      show (match σ F with | some id' => Value.pointer (some ⟨id', 0, some (j + 3)⟩) | none => bad) = _
      rw [hF]
    rw [e _ h1, e _ h2]; rfl
  · rw [if_neg h]; rfl
theorem closO {n0 : Nat} {σ : List (Nat × Nat)} {f F1 F2 x n : Nat} {cs : List Value} (h1 : sg n0 σ F1 = some F1) (h2 : sg n0 σ F2 = some F2) (e : cs = closL f F1 F2 x n) : wkO (.cells true 1 cs) (rno (sg n0 σ) 3 (.cells true 1 (closL f F1 F2 x n))) := by
  refine wkO_of_eq ?_
  show _ = KObj.cells true 1 ((closL f F1 F2 x n).map (rn (sg n0 σ) 3))
  rw [closL_rn h1 h2, e]
/-! ## First errors -/
theorem errUp_at {e : Nat → Int} {k : Nat} (h0 : errUp e k = 0) (hk : e k ≠ 0) : ∀ {n : Nat}, k < n → errUp e n = e k
  | 0, h => by omega
  | n + 1, h => by
    show first2 (errUp e n) (e n) = e k
    rcases Nat.lt_or_ge k n with h2 | h2
    · rw [errUp_at h0 hk h2, first2_1 hk]
    · obtain rfl : k = n := by omega
      rw [h0, first2_2 rfl]
theorem errUp_succ {e : Nat → Int} {k : Nat} (h0 : errUp e k = 0) (h1 : e k = 0) : errUp e (k + 1) = 0 := by
  show first2 (errUp e k) (e k) = 0
  rw [h0, first2_2 rfl, h1]
end
end Go.Proofs.Ytkkgnalgmebfjaa
/- Drift: a field after a step. No condition. -/
namespace Go.Proofs.Ytkkgnalgmebfjaa
open Go Go.K
set_option maxRecDepth 100000
set_option linter.unusedVariables false
set_option linter.unusedSimpArgs false
noncomputable section
attribute [local irreducible] vF
/-! ## Piles -/
def plOk (k : Nat) (p : Pl) : Prop := (0 ≤ p.s ∧ p.s ≤ 100 * (k : Int)) ∧ (0 ≤ p.t ∧ p.t ≤ 400) ∧ 0 ≤ p.r ∧ p.r ≤ 100
theorem plOk_mono {k m : Nat} (h : k ≤ m) {p : Pl} (hp : plOk k p) : plOk m p := by
  obtain ⟨⟨a, b⟩, c⟩ := hp
  exact ⟨⟨a, by omega⟩, c⟩
theorem plOk_add {k : Nat} {p : Pl} {x : Ice} (hp : plOk k p) (hx : rightI x) : plOk (k + 1) (addP p x) := by
  unfold addP
  split
  · exact plOk_mono (by omega) hp
  · obtain ⟨⟨a, b⟩, c, d⟩ := hp
    obtain ⟨x1, x2, x3, x4⟩ := hx
    refine ⟨⟨?_, ?_⟩, ⟨?_, ?_⟩, ?_, ?_⟩ <;> dsimp only <;> omega
theorem getD_set {α : Type} {l : List α} {d y : α} {i j : Nat} (hi : i < l.length) : (l.set i y).getD j d = if j = i then y else l.getD j d := by
  rw [List.getD_eq_getElem?_getD, List.getElem?_set, List.getD_eq_getElem?_getD]
  by_cases h : i = j
  · rw [if_pos h, if_pos (h ▸ hi), if_pos h.symm]; rfl
  · rw [if_neg h, if_neg (fun e => h e.symm)]
theorem set_same {α : Type} {l : List α} {d : α} {i : Nat} : l.set i (l.getD i d) = l := by
  refine List.ext_getElem? fun j => ?_
  rw [List.getElem?_set]
  by_cases h : i = j
  · subst h
    rw [if_pos rfl, List.getD_eq_getElem?_getD]
    by_cases h2 : i < l.length
    · rw [if_pos h2, List.getElem?_eq_getElem h2]; rfl
    · rw [if_neg h2, List.getElem?_eq_none (by omega)]
  · rw [if_neg h]
theorem map_take {α β : Type} {f : α → β} {l : List α} {d : α} {k : Nat} (h : k < l.length) : (l.map f).take (k + 1) = (l.map f).take k ++ [f (l.getD k d)] := by
  rw [List.take_add_one, List.getElem?_map, List.getElem?_eq_getElem h, List.getD_eq_getElem?_getD, List.getElem?_eq_getElem h]; rfl
theorem tdiv_bd {o d : Int} (h : 0 ≤ o) (hd : 1 ≤ d) : 0 ≤ Int.tdiv o d ∧ Int.tdiv o d ≤ o := by
  rw [Int.tdiv_eq_ediv_of_nonneg h]
  exact ⟨Int.ediv_nonneg h (by omega), Int.ediv_le_self d h⟩
end
end Go.Proofs.Ytkkgnalgmebfjaa
/- Drift: what becomes of a chart after a step. No condition. -/
namespace Go.Proofs.Ytkkgnalgmebfjaa
set_option linter.unusedSimpArgs false
set_option linter.unusedVariables false
open Go Go.K
noncomputable section
def loI (c : Cell) : Ice := ⟨c.conc.lo, c.thick.lo, c.ridge.lo, c.press.lo⟩
def hiI (c : Cell) : Ice := ⟨c.conc.hi, c.thick.hi, c.ridge.hi, c.press.hi⟩
def cellOf (a z : Ice) : Cell := ⟨⟨a.conc, z.conc⟩, ⟨a.thick, z.thick⟩, ⟨a.ridge, z.ridge⟩, ⟨a.press, z.press⟩⟩
def addAt (ps : List Pl) (t : Int) (x : Ice) : List Pl := ps.set (Int.toNat t) (addP (ps.getD (Int.toNat t) zeroP) x)
def addTo (ps : List Pl) (ts : List Int) (x : Ice) : List Pl := ts.foldl (fun ps t => addAt ps t x) ps
/-- Where the ice of a cell can go. -/
def TG (w h : Int) (a : List Bool) (l : List Flow) (k : Nat) : List Int := tgts w h a (k : Int) (l.getD k zeroF)
/-- What may, and what must have come to each cell from the first ones. -/
def mayTo (w h : Int) (a : List Bool) (l : List Flow) (cs : List Cell) : Nat → List Pl
  | 0 => List.replicate a.length zeroP
  | k + 1 => if a.getD k false = true then mayTo w h a l cs k else addTo (mayTo w h a l cs k) (TG w h a l k) (hiI (cs.getD k zeroC))
def mustTo (w h : Int) (a : List Bool) (l : List Flow) (cs : List Cell) : Nat → List Pl
  | 0 => List.replicate a.length zeroP
  | k + 1 => if a.getD k false = true then mustTo w h a l cs k else if (TG w h a l k).length = 1 then addAt (mustTo w h a l cs k) ((TG w h a l k).getD 0 0) (loI (cs.getD k zeroC)) else mustTo w h a l cs k
def stepC (w h : Int) (a : List Bool) (l : List Flow) (cs : List Cell) (k : Nat) : Cell := cellOf (tellP ((mustTo w h a l cs cs.length).getD k zeroP)) (tellP ((mayTo w h a l cs cs.length).getD k zeroP))
def stepL (w h : Int) (a : List Bool) (l : List Flow) (cs : List Cell) : List Cell := tabP (stepC w h a l cs) a.length
def isZC (c : Cell) : Bool := (c.conc.lo == 0 && (c.conc.hi == 0 && true)) && ((c.thick.lo == 0 && (c.thick.hi == 0 && true)) && ((c.ridge.lo == 0 && (c.ridge.hi == 0 && true)) && ((c.press.lo == 0 && (c.press.hi == 0 && true)) && true)))
def errSides (w h w' h' t : Int) (cs : List Cell) : Int := first2 (errChart w' h' t cs) (if w' = w ∧ h' = h then 0 else 1)
def dryErr (a : List Bool) (cs : List Cell) (k : Nat) : Int := if a.getD k false = true then (if isZC (cs.getD k zeroC) = true then 0 else 30) else 0
def errDry (a : List Bool) (cs : List Cell) : Int := errUp (dryErr a cs) cs.length
def errFits (w h : Int) (a : List Bool) (w' h' t : Int) (cs : List Cell) : Int := first2 (errSides w h w' h' t cs) (errDry a cs)
def fStep (w h : Int) (a : List Bool) (l : List Flow) (w' h' t : Int) (cs : List Cell) : Chart × Int :=
  if errFlows w h a.length l = 0 then (if errFits w h a w' h' t cs = 0 then (if t = 10000 then (zeroChart, 6) else (⟨w', h', t + 1, stepL w h a l cs⟩, 0)) else (zeroChart, errFits w h a w' h' t cs)) else (zeroChart, errFlows w h a.length l)
end
end Go.Proofs.Ytkkgnalgmebfjaa
