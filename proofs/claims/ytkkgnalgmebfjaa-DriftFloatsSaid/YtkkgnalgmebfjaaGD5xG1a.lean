/- Drift: the places a flow leads to, sorted and without repeats. No condition. -/
import Derived.Test.YtkkgnalgmebfjaaGK27xD4
import Derived.IntWalk
namespace Go.Proofs.Ytkkgnalgmebfjaa
open Go Go.K
set_option maxRecDepth 100000
set_option linter.unusedVariables false
set_option linter.unusedSimpArgs false
noncomputable section
attribute [local irreducible] vF
theorem fin_same {L : List Int} (h : comp (srtI L) = srtI L) : comp (srtI L) ++ padT L = srtI L := by
  unfold padT
  rw [h, srt_len, Nat.sub_self]; exact List.append_nil _
theorem krep_int (n : Nat) : krep [.int .i64 0] n = (List.replicate n (0 : Int)).flatMap intC := by
  induction n with
  | zero => rfl
  | succ n ih => show .int .i64 0 :: krep [.int .i64 0] n = _; rw [ih]; rfl
theorem setl_tail {A B : List Int} {k n : Nat} (hk : k = A.length) (hn : n = B.length) : setl ((A ++ B).flatMap intC) (0 + k * 1) (krep [.int .i64 0] n) = (A ++ List.replicate n 0).flatMap intC := by
  subst hk hn
  rw [krep_int, List.flatMap_append, List.flatMap_append, show 0 + A.length * 1 = (A.flatMap intC).length from by rw [flat_len intC_len]; omega]
  have := setl_mid ((List.replicate B.length (0 : Int)).flatMap intC) (B.flatMap intC) (A.flatMap intC) [] (by rw [flat_len intC_len, flat_len intC_len, List.length_replicate])
  simpa using this
theorem ktargets {w h : Int} {a : List Bool} {c : Int} {f : Flow} (b : BasOk w h a.length) (hc : 0 ≤ c ∧ c < w * h) (hf : rightF f) {H : Heap} {L : Nat} (hL : H.length = L) {id : Nat} {own : Bool} {z : Nat} (hid : H[id]? = some (.cells own z (a.flatMap boolC))) :
    KCall prog F.drift_sea_targets [basV w h id a.length, flowV f, .int .i64 c] H [] (Is (.slice (some ⟨L, 0, some 2⟩) (comp (srtI (tgL w h a c f))).length (comp (srtI (tgL w h a c f))).length) (H ++ [.cells true 1 ((comp (srtI (tgL w h a c f)) ++ padT (tgL w h a c f)).flatMap intC)])) := by
  subst hL
  refine valQ (fun i => .slice (some ⟨i, 0, some 2⟩) (comp (srtI (tgL w h a c f))).length (comp (srtI (tgL w h a c f))).length) (Eq.mpr (Etargets w h a c f) ?_) (plainBL 0 a) (fun n => plainIL n _) rfl rfl (fun _ => rfl) hid rfl
  unfold Rtargets
  have mb := movesF_bd hf
  have hTl := tgL_len w h a c f
  have hSl := (srt_len (tgL w h a c f)).trans hTl
  have hfin := fin_same (L := tgL w h a c f)
  have hpad : padT (tgL w h a c f) = List.replicate ((tgL w h a c f).length - (comp (srtI (tgL w h a c f))).length) 0 := rfl
  refine ⟨trivial, fun H' hl _ => kmoves f hf hl, rfl, Nat.zero_le _, ?_, fun _ => rfl, ?_⟩
  · repeat' first | exact plainIL _ _ | exact trivial | exact rfl | exact wk_refl _ | refine wkO_cells ?_ | refine wks_cons ?_ ?_ | exact wks_nil | exact wk_nil _ _ _ (.inl rfl) | (exact wk_Q (by omega)) | refine wk_tupL ?_ | refine wk_aggL ?_ | refine joinMax ?_ ?_ ?_ | refine joinMin ?_ ?_ ?_ | refine toMax ?_ | refine toMin ?_ | refine ⟨rfl, ?_⟩ | refine ⟨trivial, ?_⟩ | (refine forkD (fun h => ?_) (fun h => ?_)) | (refine forkNe (fun h => ?_) (fun h => ?_)) | (refine forkEq (fun h => ?_) (fun h => ?_)) | refine forkNot ?_ | (refine ⟨vI64 (by omega), ?_⟩) | (refine And.intro (by omega) ?_) | apply And.intro | (exact iEq (by omega)) | (exact vI64 (by omega))
  intro x hx
  refine forkD (fun k => ?_) (fun k => ?_)
  · have hlt : x < (movesF f).length := by omega
    have hM : (tgL w h a c f).take (x + 1) = (tgL w h a c f).take x ++ [targ w h a c ((movesF f).getD x zeroM)] := by
      rw [List.take_add_one, ← tgL_get hlt, List.getD_eq_getElem?_getD, List.getElem?_eq_getElem (by omega)]; rfl
    have hlx : ((tgL w h a c f).take x).length = x := by rw [List.length_take]; omega
    have hob := ob_snoc (own := true) intC_len hM rfl
    have hfl := flat_le intC_len ((tgL w h a c f).take x)
    rw [hlx] at hob hfl
    refine ⟨by omega, partMove hlt, targ w h a c ((movesF f).getD x zeroM), ⟨rfl, trivial⟩, fun H' hl hd => ktarget b hc (moves_ok hf hlt) hd.1, ?_⟩
    repeat' first | (refine ⟨x + 1, by omega, by omega, rfl, ?_⟩) | exact hob | exact plainIL _ _ | exact hfl | exact Nat.le_refl _ | exact trivial | exact rfl | exact wk_refl _ | refine wkO_cells ?_ | refine wks_cons ?_ ?_ | exact wks_nil | exact wk_nil _ _ _ (.inl rfl) | (exact wk_Q (by omega)) | refine wk_tupL ?_ | refine wk_aggL ?_ | refine joinMax ?_ ?_ ?_ | refine joinMin ?_ ?_ ?_ | refine toMax ?_ | refine toMin ?_ | refine ⟨rfl, ?_⟩ | refine ⟨trivial, ?_⟩ | (refine forkD (fun h => ?_) (fun h => ?_)) | (refine forkNe (fun h => ?_) (fun h => ?_)) | (refine forkEq (fun h => ?_) (fun h => ?_)) | refine forkNot ?_ | (refine ⟨vI64 (by omega), ?_⟩) | (refine And.intro (by omega) ?_) | apply And.intro | (exact iEq (by omega)) | (exact vI64 (by omega))
  · obtain rfl : x = (movesF f).length := by omega
    have hkS : ∀ H' : Heap, H'[4]? = some (.cells true 1 ((tgL w h a c f).flatMap intC)) → KCall prog 124 [.slice (some ⟨4, 0, some 1⟩) (movesF f).length (movesF f).length] H' [4] (Is (.tuple #[]) (H'.set 4 (.cells true 1 ((srtI (tgL w h a c f)).flatMap intC)))) := fun H' ho => by
      have := kSort (L0 := tgL w h a c f) (by omega) (by omega) ho
      rw [hTl] at this; exact this
    rw [show (tgL w h a c f).take (movesF f).length = tgL w h a c f from by rw [← hTl]; exact List.take_length]
    obtain ⟨S, hS⟩ : ∃ S, srtI (tgL w h a c f) = S := ⟨_, rfl⟩
    rw [hS] at hSl hfin hpad hkS
    rw [hS]
    have hdone : comp S = S → (comp S).length = (movesF f).length := fun e => by rw [e, hSl]
    generalize (movesF f).length = n at *
    rw [hTl] at hpad
    refine ⟨⟨rfl, trivial⟩, fun H' hl hd => hkS H' hd.1, forkD (fun k2 => ?_) (fun k2 => ?_)⟩
    · have hc1 : comp S = S := by
        match S, hSl with
        | [s], _ => rfl
        | [], e => exact absurd e (by simp only [List.length_nil]; omega)
        | _ :: _ :: _, e => exact absurd e (by simp only [List.length_cons]; omega)
      rw [hdone hc1, hfin hc1]
      exact ⟨rfl, wk_QR, ⟨rfl, plainIL _ _⟩, trivial⟩
    · have hc1 : comp (S.take 1) = S.take 1 := by
        match S, hSl with
        | s :: r, _ => rfl
        | [], e => exact absurd e (by simp only [List.length_nil]; omega)
      refine ⟨rfl, ⟨Nat.le_refl _, by omega, hc1⟩, ?_, fun _ => rfl, ?_⟩
      · repeat' first | exact plainIL _ _ | exact trivial | exact rfl | exact wk_refl _ | refine wkO_cells ?_ | refine wks_cons ?_ ?_ | exact wks_nil | exact wk_nil _ _ _ (.inl rfl) | (exact wk_Q (by omega)) | refine wk_tupL ?_ | refine wk_aggL ?_ | refine joinMax ?_ ?_ ?_ | refine joinMin ?_ ?_ ?_ | refine toMax ?_ | refine toMin ?_ | refine ⟨rfl, ?_⟩ | refine ⟨trivial, ?_⟩ | (refine forkD (fun h => ?_) (fun h => ?_)) | (refine forkNe (fun h => ?_) (fun h => ?_)) | (refine forkEq (fun h => ?_) (fun h => ?_)) | refine forkNot ?_ | (refine ⟨vI64 (by omega), ?_⟩) | (refine And.intro (by omega) ?_) | apply And.intro | (exact iEq (by omega)) | (exact vI64 (by omega))
      rintro x3 ⟨j1, j2, j3⟩
      refine forkD (fun k3 => ?_) (fun k3 => ?_)
      · have hx3 : x3 < S.length := by omega
        rw [show Int.toNat ((x3 : Int) - 1) = x3 - 1 by omega]
        refine ⟨by omega, intAt hx3 (by omega), vI64 (by omega), by omega, intAt (by omega) (by omega), forkEq (fun q => ?_) (fun q => ?_)⟩
        · obtain ⟨q1, q2⟩ := cmpTo_0 j1 hx3 j3 q
          refine ⟨⟨⟨.inr (.inr rfl), Nat.le_refl _⟩, Nat.le_refl _, by omega⟩, rfl, rfl, ⟨Nat.le_refl _, by omega, by omega⟩, ?_, fun _ => rfl, ?_⟩
          · rw [q1, q2]
            repeat' first | exact plainIL _ _ | exact trivial | exact rfl | exact wk_refl _ | refine wkO_cells ?_ | refine wks_cons ?_ ?_ | exact wks_nil | exact wk_nil _ _ _ (.inl rfl) | (exact wk_Q (by omega)) | refine wk_tupL ?_ | refine wk_aggL ?_ | refine joinMax ?_ ?_ ?_ | refine joinMin ?_ ?_ ?_ | refine toMax ?_ | refine toMin ?_ | refine ⟨rfl, ?_⟩ | refine ⟨trivial, ?_⟩ | (refine forkD (fun h => ?_) (fun h => ?_)) | (refine forkNe (fun h => ?_) (fun h => ?_)) | (refine forkEq (fun h => ?_) (fun h => ?_)) | refine forkNot ?_ | (refine ⟨vI64 (by omega), ?_⟩) | (refine And.intro (by omega) ?_) | apply And.intro | (exact iEq (by omega)) | (exact vI64 (by omega))
          rintro x4 ⟨i1, i2, i3⟩
          have hcl := cmpTo_len i2
          refine forkD (fun k4 => ?_) (fun k4 => ?_)
          · have hm : x3 + x4 < S.length := by omega
            have g1 := cmpTo_get (S := S) (m := x3 + x4) (k := x3 + x4) (by omega)
            have g2 := cmpTo_get (S := S) (m := x3 + x4) (k := x3 + x4 - 1) (by omega)
            have a1 : ∀ off, off = x3 + x4 → ((cmpTo S (x3 + x4)).flatMap intC)[off]? = some (.int .i64 ((cmpTo S (x3 + x4)).getD (x3 + x4) 0)) := fun off ho => intAt (by omega) ho
            rw [show x3 + Int.toNat ((x4 : Int) - 1) = x3 + x4 - 1 by omega]
            refine ⟨by omega, a1 _ (by omega), vI64 (by omega), by omega, intAt (by omega) (by omega), ?_⟩
            rw [g1, g2]
            rw [g1] at a1
            refine forkNe (fun q => ?_) (fun q => ?_)
            · obtain ⟨e1, e2⟩ := cmpN_ne (by omega) hm q i3
              have hset := flat_set intC_len (cmpTo S (x3 + x4)) (cmpN S (x3 + x4)) (by rw [hcl]; omega) (S.getD (x3 + x4) 0)
              refine ⟨((cmpN S (x3 + x4) : Nat) : Int), rfl, by omega, a1 _ (by omega), by omega, ?_, rfl, _, rfl, vI64 (by omega), vI64 (by omega), x4 + 1, ⟨by omega, by omega, ?_⟩, by omega, rfl, ?_⟩
              · rw [flat_len intC_len, hcl]; omega
              · rw [← Nat.add_assoc, e1]; omega
              · rw [← Nat.add_assoc, e1, show 0 + Int.toNat ((cmpN S (x3 + x4) : Nat) : Int) * 1 = cmpN S (x3 + x4) * 1 by omega, hset, e2]
                repeat' first | exact plainIL _ _ | exact trivial | exact rfl | exact wk_refl _ | refine wkO_cells ?_ | refine wks_cons ?_ ?_ | exact wks_nil | exact wk_nil _ _ _ (.inl rfl) | (exact wk_Q (by omega)) | refine wk_tupL ?_ | refine wk_aggL ?_ | refine joinMax ?_ ?_ ?_ | refine joinMin ?_ ?_ ?_ | refine toMax ?_ | refine toMin ?_ | refine ⟨rfl, ?_⟩ | refine ⟨trivial, ?_⟩ | (refine forkD (fun h => ?_) (fun h => ?_)) | (refine forkNe (fun h => ?_) (fun h => ?_)) | (refine forkEq (fun h => ?_) (fun h => ?_)) | refine forkNot ?_ | (refine ⟨vI64 (by omega), ?_⟩) | (refine And.intro (by omega) ?_) | apply And.intro | (exact iEq (by omega)) | (exact vI64 (by omega))
            · obtain ⟨e1, e2⟩ := cmpN_eq (by omega) hm q
              refine ⟨vI64 (by omega), x4 + 1, ⟨by omega, by omega, by rw [← Nat.add_assoc, e1]; omega⟩, by omega, rfl, ?_⟩
              rw [← Nat.add_assoc, e1, e2]
              repeat' first | exact plainIL _ _ | exact trivial | exact rfl | exact wk_refl _ | refine wkO_cells ?_ | refine wks_cons ?_ ?_ | exact wks_nil | exact wk_nil _ _ _ (.inl rfl) | (exact wk_Q (by omega)) | refine wk_tupL ?_ | refine wk_aggL ?_ | refine joinMax ?_ ?_ ?_ | refine joinMin ?_ ?_ ?_ | refine toMax ?_ | refine toMin ?_ | refine ⟨rfl, ?_⟩ | refine ⟨trivial, ?_⟩ | (refine forkD (fun h => ?_) (fun h => ?_)) | (refine forkNe (fun h => ?_) (fun h => ?_)) | (refine forkEq (fun h => ?_) (fun h => ?_)) | refine forkNot ?_ | (refine ⟨vI64 (by omega), ?_⟩) | (refine And.intro (by omega) ?_) | apply And.intro | (exact iEq (by omega)) | (exact vI64 (by omega))
          · have hm : x3 + x4 = S.length := by omega
            have hn : cmpN S (x3 + x4) = (comp S).length := by unfold cmpN; rw [hm, List.take_length]
            have hto : cmpTo S (x3 + x4) = comp S ++ S.drop (comp S).length := by unfold cmpTo; rw [hn, hm, List.take_length]
            have hle := comp_len S
            rw [hn, hto]
            refine ⟨_, rfl, ⟨⟨.inr (.inr rfl), Nat.le_refl _⟩, Nat.le_refl _, by omega, by omega⟩, ?_, rfl, _, rfl, ⟨⟨.inr (.inr rfl), by omega⟩, by omega, Nat.zero_le _⟩, by rw [Nat.sub_zero], rfl, ?_⟩
            · rw [flat_len intC_len, List.length_append, List.length_drop]; omega
            · rw [Int.toNat_natCast, setl_tail rfl (by rw [List.length_drop]; omega), hpad]
              repeat' first | exact plainIL _ _ | exact trivial | exact rfl | exact wk_refl _ | refine wkO_cells ?_ | refine wks_cons ?_ ?_ | exact wks_nil | exact wk_nil _ _ _ (.inl rfl) | (exact wk_Q (by omega)) | refine wk_tupL ?_ | refine wk_aggL ?_ | refine joinMax ?_ ?_ ?_ | refine joinMin ?_ ?_ ?_ | refine toMax ?_ | refine toMin ?_ | refine ⟨rfl, ?_⟩ | refine ⟨trivial, ?_⟩ | (refine forkD (fun h => ?_) (fun h => ?_)) | (refine forkNe (fun h => ?_) (fun h => ?_)) | (refine forkEq (fun h => ?_) (fun h => ?_)) | refine forkNot ?_ | (refine ⟨vI64 (by omega), ?_⟩) | (refine And.intro (by omega) ?_) | apply And.intro | (exact iEq (by omega)) | (exact vI64 (by omega))
        · refine ⟨vI64 (by omega), x3 + 1, ⟨by omega, by omega, comp_all j1 hx3 j3 q⟩, by omega, rfl, ?_⟩
          repeat' first | exact plainIL _ _ | exact trivial | exact rfl | exact wk_refl _ | refine wkO_cells ?_ | refine wks_cons ?_ ?_ | exact wks_nil | exact wk_nil _ _ _ (.inl rfl) | (exact wk_Q (by omega)) | refine wk_tupL ?_ | refine wk_aggL ?_ | refine joinMax ?_ ?_ ?_ | refine joinMin ?_ ?_ ?_ | refine toMax ?_ | refine toMin ?_ | refine ⟨rfl, ?_⟩ | refine ⟨trivial, ?_⟩ | (refine forkD (fun h => ?_) (fun h => ?_)) | (refine forkNe (fun h => ?_) (fun h => ?_)) | (refine forkEq (fun h => ?_) (fun h => ?_)) | refine forkNot ?_ | (refine ⟨vI64 (by omega), ?_⟩) | (refine And.intro (by omega) ?_) | apply And.intro | (exact iEq (by omega)) | (exact vI64 (by omega))
      · obtain rfl : x3 = S.length := by omega
        rw [List.take_length] at j3
        rw [hdone j3, hfin j3]
        exact ⟨rfl, wk_QR, ⟨rfl, plainIL _ _⟩, trivial⟩
end
end Go.Proofs.Ytkkgnalgmebfjaa
/- Drift: targets and the law, what is answered. No condition. -/
namespace Go.Proofs.Ytkkgnalgmebfjaa
set_option linter.unusedSimpArgs false
set_option linter.unusedVariables false
open Go Go.K
noncomputable section
/-- What lies in the block of the answer. -/
def tgPad (w h : Int) (a : List Bool) (l : List Flow) (c : Int) : List Int :=
  (fTargets w h a l c).1 ++ (if errFlows w h a.length l = 0 then (if seaB a c = true then padT (tgL w h a c (l.getD (Int.toNat c) zeroF)) else []) else [])
end
end Go.Proofs.Ytkkgnalgmebfjaa
/- Drift: targets, and how the law compares. No condition. -/
namespace Go.Proofs.Ytkkgnalgmebfjaa
open Go Go.K
set_option maxRecDepth 100000
set_option linter.unusedVariables false
set_option linter.unusedSimpArgs false
noncomputable section
attribute [local irreducible] vF
/-- An answer with one new list, of a function that reads two. -/
theorem valQ2 {f : FuncId} {args : List Value} {c d : List Value} {h : Hint} (v : Nat → Value) {z : Nat} {cs : List Value}
    (hc : vF prog msk (dm 0) 100000 true 40 true f args (readsT 0 [c, d]) (some []) h (newK (readsT 0 [c, d]).n 3 (v 2) [(true, .cells true z cs)]))
    (hp0 : c.all (belowC 0) = true) (hp1 : d.all (belowC 0) = true) (hp : ∀ n, cs.all (belowC n) = true) (h1 : rnOk 3 (v 2) = true) (h2 : rn (sgOnly (0 + 2)) 3 (v 2) = v 2) (h3 : ∀ j, rn (sgUp (0 + 2) j) 3 (v 2) = v j)
    {H : Heap} {id id2 : Nat} {own own2 : Bool} {z2 z3 : Nat} (hid : H[id]? = some (.cells own z2 c)) (hid2 : H[id2]? = some (.cells own2 z3 d)) {args' : List Value} (ha : args.map (rn (sgR 0 [id, id2]) 3) = args') :
    KCall prog f args' H [] (Is (v H.length) (H ++ [.cells true z cs])) := by
  subst ha
  have key := valN (css := [c, d]) (v := v 2) (new := [(true, .cells true z cs)]) hc (twoCs hp0 hp1) h1 h2
    (by show ((rnoOk 3 (.cells true z cs) && true) && true) = true
        rw [Bool.and_true, Bool.and_true]; exact (rnCl (σ := fun _ => none) (d := 0) (hp 0)).2)
    (congrArg (fun q => [KObj.cells true z q]) (rnCl (d := 0) (hp 0)).1) (H := H) [id, id2] rfl (twoId hid hid2)
  have e2 : (List.map (fun x : Bool × KObj => x.2) [(true, KObj.cells true z cs)]).map (rno (sgUp (0 + [c, d].length) H.length) 3) = [.cells true z cs] :=
    congrArg (fun q => [KObj.cells true z q]) (rnCl (d := 0) (hp 0)).1
  rw [e2, show rn (sgUp (0 + [c, d].length) H.length) 3 (v 2) = v H.length from h3 _] at key
  exact key
theorem errFlows_0 {w h : Int} {n : Nat} {l : List Flow} (e : errFlows w h n l = 0) : errBas w h n = 0 ∧ l.length = n ∧ errF l = 0 := by
  unfold errFlows first2 at e
  split at e
  · rename_i h0
    split at e
    · rename_i h1; exact ⟨h0, h1, e⟩
    · omega
  · rename_i h0; exact absurd e h0
theorem errF_all : ∀ {l : List Flow}, errF l = 0 → ∀ f ∈ l, rightF f
  | [], _, f, hf => by cases hf
  | g :: r, e, f, hf => by
    unfold errF at e
    split at e
    · rename_i hg
      rcases List.mem_cons.1 hf with rfl | hf
      · exact hg
      · exact errF_all e f hf
    · omega
theorem fT_e {w h : Int} {a : List Bool} {l : List Flow} {c : Int} (e : ¬ errFlows w h a.length l = 0) : fTargets w h a l c = ([], errFlows w h a.length l) ∧ tgPad w h a l c = [] := by
  have : fTargets w h a l c = ([], errFlows w h a.length l) := if_neg e
  refine ⟨this, ?_⟩
  unfold tgPad
  rw [this, if_neg e]; rfl
theorem fT_1 {w h : Int} {a : List Bool} {l : List Flow} {c : Int} (e : errFlows w h a.length l = 0) (s : seaB a c = false) : fTargets w h a l c = ([], 1) ∧ tgPad w h a l c = [] := by
  have : fTargets w h a l c = ([], 1) := by unfold fTargets; rw [if_pos e, if_neg (by rw [s]; exact Bool.false_ne_true)]
  refine ⟨this, ?_⟩
  unfold tgPad
  rw [this, if_pos e, if_neg (by rw [s]; exact Bool.false_ne_true)]; rfl
theorem fT_0 {w h : Int} {a : List Bool} {l : List Flow} {c : Int} (e : errFlows w h a.length l = 0) (s : seaB a c = true) : fTargets w h a l c = (tgts w h a c (l.getD (Int.toNat c) zeroF), 0) ∧ tgPad w h a l c = tgts w h a c (l.getD (Int.toNat c) zeroF) ++ padT (tgL w h a c (l.getD (Int.toNat c) zeroF)) := by
  have : fTargets w h a l c = (tgts w h a c (l.getD (Int.toNat c) zeroF), 0) := by unfold fTargets; rw [if_pos e, if_pos s]
  refine ⟨this, ?_⟩
  unfold tgPad
  rw [this, if_pos e, if_pos s]
theorem seaB_t {a : List Bool} {c : Int} (s : seaB a c = true) : 0 ≤ c ∧ c < (a.length : Int) := by
  unfold seaB at s
  rw [Bool.and_eq_true] at s
  exact of_decide_eq_true s.1
theorem tgts_comp {w h : Int} {a : List Bool} {c : Int} {f : Flow} (b : BasOk w h a.length) (hc : 0 ≤ c ∧ c < w * h) : comp (srtI (tgL w h a c f)) = tgts w h a c f :=
  comp_trues (n := Int.toNat (w * h)) fun z hz => by
    have := tgL_bd (a := a) (f := f) hc z hz
    have := b.n1
    omega
theorem notB {b : Bool} (h : (!b) = true) : b = false := by cases b <;> first | rfl | cases h
theorem notB2 {b : Bool} (h : (!b) = false) : b = true := by cases b <;> first | rfl | cases h
abbrev tgV (k : Nat) (i : Nat) (r : List Int × Int) : Value := .tuple #[.slice (some ⟨i, 0, some k⟩) r.1.length r.1.length, .int .i64 r.2]
end
end Go.Proofs.Ytkkgnalgmebfjaa
/- Ice: what all texts share. No condition. -/
namespace Go.Proofs.Ytkkgnalgmebfjaa
set_option linter.unusedSimpArgs false
open Go Go.K
set_option maxRecDepth 100000
set_option linter.unusedVariables false
noncomputable section
theorem i64_eq {a b : Int} (h : a = b) : (Value.int .i64 a) = .int .i64 b := by rw [h]
structure Cell where
  conc : Span
  thick : Span
  ridge : Span
  press : Span
structure Ice where
  conc : Int
  thick : Int
  ridge : Int
  press : Int
structure Rates where
  up : Ice
  down : Ice
structure Report where
  id : Int
  source : Int
  at_ : Int
  x : Int
  y : Int
  has : Int
  cell : Cell
abbrev iceC (x : Ice) : List Value := [.int .i64 x.conc, .int .i64 x.thick, .int .i64 x.ridge, .int .i64 x.press]
abbrev cellC (c : Cell) : List Value := [.int .i64 c.conc.lo, .int .i64 c.conc.hi, .int .i64 c.thick.lo, .int .i64 c.thick.hi, .int .i64 c.ridge.lo, .int .i64 c.ridge.hi, .int .i64 c.press.lo, .int .i64 c.press.hi]
abbrev cellV (c : Cell) : Value := .agg ⟨cellC c⟩
end
end Go.Proofs.Ytkkgnalgmebfjaa
/- What is to be shown of functions. Printed by a program. No condition. -/
namespace Go.Proofs.Ytkkgnalgmebfjaa
set_option linter.unusedSimpArgs false
open Go Go.K
set_option maxRecDepth 100000
set_option maxHeartbeats 4000000
set_option linter.unusedVariables false
noncomputable section
def RCheckCell (sp : Value) (c : Cell) : Prop :=
  (((decide ((0 : Int) ≤ c.conc.lo)) = true → (((decide ((c.conc.lo : Int) ≤ 100)) = true → (((decide ((c.conc.lo : Int) ≤ c.conc.hi)) = true → (((!(decide ((c.conc.hi : Int) ≤ 100))) = true → (.int .i64 20 : Value) = sp) ∧ ((!(decide ((c.conc.hi : Int) ≤ 100))) = false → (((decide ((0 : Int) ≤ c.thick.lo)) = true → (((decide ((c.thick.lo : Int) ≤ 400)) = true → (((decide ((c.thick.lo : Int) ≤ c.thick.hi)) = true → (((!(decide ((c.thick.hi : Int) ≤ 400))) = true → (.int .i64 20 : Value) = sp) ∧ ((!(decide ((c.thick.hi : Int) ≤ 400))) = false → (((decide ((0 : Int) ≤ c.ridge.lo)) = true → (((decide ((c.ridge.lo : Int) ≤ 100)) = true → (((decide ((c.ridge.lo : Int) ≤ c.ridge.hi)) = true → (((!(decide ((c.ridge.hi : Int) ≤ 100))) = true → (.int .i64 20 : Value) = sp) ∧ ((!(decide ((c.ridge.hi : Int) ≤ 100))) = false → (((decide ((0 : Int) ≤ c.press.lo)) = true → (((decide ((c.press.lo : Int) ≤ 3)) = true → (((decide ((c.press.lo : Int) ≤ c.press.hi)) = true → (((!(decide ((c.press.hi : Int) ≤ 3))) = true → (.int .i64 20 : Value) = sp) ∧ ((!(decide ((c.press.hi : Int) ≤ 3))) = false → (.int .i64 0 : Value) = sp))) ∧ ((decide ((c.press.lo : Int) ≤ c.press.hi)) = false → (.int .i64 20 : Value) = sp))) ∧ ((decide ((c.press.lo : Int) ≤ 3)) = false → (.int .i64 20 : Value) = sp))) ∧ ((decide ((0 : Int) ≤ c.press.lo)) = false → (.int .i64 20 : Value) = sp))))) ∧ ((decide ((c.ridge.lo : Int) ≤ c.ridge.hi)) = false → (.int .i64 20 : Value) = sp))) ∧ ((decide ((c.ridge.lo : Int) ≤ 100)) = false → (.int .i64 20 : Value) = sp))) ∧ ((decide ((0 : Int) ≤ c.ridge.lo)) = false → (.int .i64 20 : Value) = sp))))) ∧ ((decide ((c.thick.lo : Int) ≤ c.thick.hi)) = false → (.int .i64 20 : Value) = sp))) ∧ ((decide ((c.thick.lo : Int) ≤ 400)) = false → (.int .i64 20 : Value) = sp))) ∧ ((decide ((0 : Int) ≤ c.thick.lo)) = false → (.int .i64 20 : Value) = sp))))) ∧ ((decide ((c.conc.lo : Int) ≤ c.conc.hi)) = false → (.int .i64 20 : Value) = sp))) ∧ ((decide ((c.conc.lo : Int) ≤ 100)) = false → (.int .i64 20 : Value) = sp))) ∧ ((decide ((0 : Int) ≤ c.conc.lo)) = false → (.int .i64 20 : Value) = sp))
theorem ECheckCell (sp : Value) (c : Cell) : vF prog msk (dm 0) 100000 true 40 true 104 [.agg #[.int .i64 c.conc.lo, .int .i64 c.conc.hi, .int .i64 c.thick.lo, .int .i64 c.thick.hi, .int .i64 c.ridge.lo, .int .i64 c.ridge.hi, .int .i64 c.press.lo, .int .i64 c.press.hi]] ⟨0, .leaf⟩ (some [])
  (.go 54 (.gfork (.go 5 (.gfork (.go 15 (.gfork (.go 8 (.fork (.auto) (.go 30 (.gfork (.go 5 (.gfork (.go 15 (.gfork (.go 8 (.fork (.auto) (.go 30 (.gfork (.go 5 (.gfork (.go 15 (.gfork (.go 8 (.fork (.auto) (.go 30 (.gfork (.go 5 (.gfork (.go 15 (.gfork (.go 8 (.fork (.auto) (.auto))) (.auto))) (.auto))) (.auto))))) (.auto))) (.auto))) (.auto))))) (.auto))) (.auto))) (.auto))))) (.auto))) (.auto))) (.auto)))
  (fun v _ _ => v = sp) = RCheckCell sp c := by kernel_rfl
def RPick (sp : Value) (x n : Int) : Prop :=
  (((decide ((n : Int) < 1)) = true → (.int .i64 0 : Value) = sp) ∧ ((decide ((n : Int) < 1)) = false → (((n : Int) ≠ 0) ∧ (((decide (((Int.tmod x n) : Int) < 0)) = true → ((.int .i64 (IntKind.wrap .i64 ((Int.tmod x n) + n)) : Value) = .int .i64 ((Int.tmod x n) + n) ∧ (.int .i64 ((Int.tmod x n) + n) : Value) = sp)) ∧ ((decide (((Int.tmod x n) : Int) < 0)) = false → (.int .i64 (Int.tmod x n) : Value) = sp)))))
theorem EPick (sp : Value) (x n : Int) : vF prog msk (dm 0) 100000 true 40 true 38 [.int .i64 x, .int .i64 n] ⟨0, .leaf⟩ (some [])
  (.go 2 (.fork (.auto) (.go 1 (.need (.go 2 (.fork (.go 2 (.slot 15 (.int .i64 ((Int.tmod x n) + n)) (.auto))) (.auto)))))))
  (fun v _ _ => v = sp) = RPick sp x n := by kernel_rfl
end
end Go.Proofs.Ytkkgnalgmebfjaa
/- Ice: the contracts of the functions of values alone. No condition. -/
namespace Go.Proofs.Ytkkgnalgmebfjaa
open Go Go.K
set_option maxRecDepth 100000
set_option linter.unusedVariables false
set_option linter.unusedSimpArgs false
noncomputable section
/-! ## What they compute -/
def rightSp (s : Span) (m : Int) : Prop := 0 ≤ s.lo ∧ s.lo ≤ m ∧ s.lo ≤ s.hi ∧ s.hi ≤ m
def rightC (c : Cell) : Prop := rightSp c.conc 100 ∧ rightSp c.thick 400 ∧ rightSp c.ridge 100 ∧ rightSp c.press 3
def rightI (x : Ice) : Prop := (0 ≤ x.conc ∧ x.conc ≤ 100) ∧ (0 ≤ x.thick ∧ x.thick ≤ 400) ∧ (0 ≤ x.ridge ∧ x.ridge ≤ 100) ∧ 0 ≤ x.press ∧ x.press ≤ 3
def rateI (x : Ice) : Prop := (0 ≤ x.conc ∧ x.conc ≤ 1000) ∧ (0 ≤ x.thick ∧ x.thick ≤ 1000) ∧ (0 ≤ x.ridge ∧ x.ridge ≤ 1000) ∧ 0 ≤ x.press ∧ x.press ≤ 1000
def rightR (m : Rates) : Prop := rateI m.up ∧ rateI m.down
instance (s : Span) (m : Int) : Decidable (rightSp s m) := by unfold rightSp; infer_instance
instance (c : Cell) : Decidable (rightC c) := by unfold rightC; infer_instance
instance (x : Ice) : Decidable (rightI x) := by unfold rightI; infer_instance
instance (x : Ice) : Decidable (rateI x) := by unfold rateI; infer_instance
instance (m : Rates) : Decidable (rightR m) := by unfold rightR; infer_instance
def errCell (c : Cell) : Int := if rightC c then 0 else 20
def zeroC : Cell := ⟨⟨0, 0⟩, ⟨0, 0⟩, ⟨0, 0⟩, ⟨0, 0⟩⟩
def hasS (s : Span) (n : Int) : Prop := s.lo ≤ n ∧ n ≤ s.hi
def hasC (c : Cell) (x : Ice) : Prop := hasS c.conc x.conc ∧ hasS c.thick x.thick ∧ hasS c.ridge x.ridge ∧ hasS c.press x.press
def insS (s t : Span) : Prop := t.lo ≤ s.lo ∧ s.hi ≤ t.hi
def insC (a b : Cell) : Prop := insS a.conc b.conc ∧ insS a.thick b.thick ∧ insS a.ridge b.ridge ∧ insS a.press b.press
def okC (c : Cell) : Prop := c.conc.lo ≤ c.conc.hi ∧ c.thick.lo ≤ c.thick.hi ∧ c.ridge.lo ≤ c.ridge.hi ∧ c.press.lo ≤ c.press.hi
instance (s : Span) (n : Int) : Decidable (hasS s n) := by unfold hasS; infer_instance
instance (c : Cell) (x : Ice) : Decidable (hasC c x) := by unfold hasC; infer_instance
instance (s t : Span) : Decidable (insS s t) := by unfold insS; infer_instance
instance (a b : Cell) : Decidable (insC a b) := by unfold insC; infer_instance
instance (c : Cell) : Decidable (okC c) := by unfold okC; infer_instance
def chg (rate hours : Int) : Int := (rate * hours + 23) / 24
/-! ## Numbers -/
theorem w64 {n : Int} (h : -9223372036854775808 ≤ n ∧ n ≤ 9223372036854775807) : IntKind.wrap .i64 n = n := IntWalk.i64_in n h
theorem v64 {n : Int} (h : -9223372036854775808 ≤ n ∧ n ≤ 9223372036854775807) : (Value.int .i64 (IntKind.wrap .i64 n)) = .int .i64 n := by rw [w64 h]
theorem mulb {a b A B : Int} (h1 : 0 ≤ a) (h2 : a ≤ A) (h3 : 0 ≤ b) (h4 : b ≤ B) : 0 ≤ a * b ∧ a * b ≤ A * B :=
  ⟨Int.mul_nonneg h1 h3, Int.mul_le_mul h2 h4 h3 (Int.le_trans h1 h2)⟩

/-! ## Contracts -/
theorem errCell_pos {c : Cell} (h : rightC c) : errCell c = 0 := if_pos h
theorem errCell_neg {c : Cell} (h : ¬ rightC c) : errCell c = 20 := if_neg h
theorem kCheckCell (c : Cell) (H : Heap) : KCall prog F.ice_CheckCell [cellV c] H [] (Is (.int .i64 (errCell c)) H) := by
  refine valK 40 (fun _ => rfl) rfl (Eq.mpr (ECheckCell _ c) ?_) H
  unfold RCheckCell
  simp only [decide_eq_true_eq, decide_eq_false_iff_not, Bool.not_eq_true', Bool.not_eq_false']
  repeat' (first | apply And.intro | intro _)
  all_goals first
    | exact i64_eq (errCell_neg (by unfold rightC rightSp; omega)).symm
    | exact i64_eq (errCell_pos (by unfold rightC rightSp; omega)).symm
theorem tmod_emod {x n : Int} (hn : 1 ≤ n) : (Int.tmod x n < 0 → Int.tmod x n + n = x % n) ∧ (¬ Int.tmod x n < 0 → Int.tmod x n = x % n) ∧ -n < Int.tmod x n ∧ Int.tmod x n < n := by
  have h1 := Int.mul_tdiv_add_tmod x n
  have h2 := Int.lt_tmod_of_pos x (by omega : 0 < n)
  have h3 := Int.tmod_lt_of_pos x (by omega : 0 < n)
  refine ⟨fun h => ?_, fun h => ?_, h2, h3⟩
  · have : x = (Int.tmod x n + n) + n * (x.tdiv n - 1) := by rw [Int.mul_sub]; omega
    rw [this, Int.add_mul_emod_self_left, ← this]
    exact (Int.emod_eq_of_lt (by omega) (by omega)).symm
  · have : x = Int.tmod x n + n * x.tdiv n := by omega
    conv => rhs; rw [this, Int.add_mul_emod_self_left]
    exact (Int.emod_eq_of_lt (by omega) (by omega)).symm
theorem kPick (x n : Int) (h1 : 1 ≤ n) (h2 : n ≤ 9223372036854775807) (H : Heap) : KCall prog F.polynyakit_Pick [.int .i64 x, .int .i64 n] H [] (Is (.int .i64 (x % n)) H) := by
  refine valK 40 (fun _ => rfl) rfl (Eq.mpr (EPick _ x n) ?_) H
  obtain ⟨t1, t2, t3, t4⟩ := tmod_emod (x := x) h1
  unfold RPick
  simp only [decide_eq_true_eq, decide_eq_false_iff_not]
  refine ⟨fun h => by omega, fun _ => ⟨by omega, fun h => ⟨v64 (by omega), i64_eq (t1 h)⟩, fun h => i64_eq (t2 h)⟩⟩
/-! ## Two errors, then an answer -/
end
end Go.Proofs.Ytkkgnalgmebfjaa
/- Ice: lists of errors; the first cell, ice, report. No condition. -/
namespace Go.Proofs.Ytkkgnalgmebfjaa
set_option linter.unusedSimpArgs false
set_option linter.unusedVariables false
open Go Go.K
noncomputable section
def zeroI : Ice := ⟨0, 0, 0, 0⟩
def errs {α : Type} (e : α → Int) : List α → Int
  | [] => 0
  | x :: r => if e x = 0 then errs e r else e x
end
end Go.Proofs.Ytkkgnalgmebfjaa
/- Ice: the reference's functions of values; lists of errors. No condition. -/
namespace Go.Proofs.Ytkkgnalgmebfjaa
open Go Go.K
set_option maxRecDepth 100000
set_option linter.unusedVariables false
set_option linter.unusedSimpArgs false
noncomputable section
attribute [local irreducible] vF
/-! ## Lists -/
theorem drop_at {α : Type} {xs : List α} {d : α} {k : Nat} (hk : k < xs.length) : xs.drop k = xs.getD k d :: xs.drop (k + 1) := by
  rw [List.drop_eq_getElem_cons hk, List.getD_eq_getElem?_getD, List.getElem?_eq_getElem hk]; rfl
theorem errs_at {α : Type} {e : α → Int} {xs : List α} {d : α} {k : Nat} (hk : k < xs.length) : errs e (xs.drop k) = if e (xs.getD k d) = 0 then errs e (xs.drop (k + 1)) else e (xs.getD k d) := by
  rw [drop_at (d := d) hk]; rfl
end
end Go.Proofs.Ytkkgnalgmebfjaa
/- What is to be shown of functions. Printed by a program. No condition. -/
namespace Go.Proofs.Ytkkgnalgmebfjaa
set_option linter.unusedSimpArgs false
open Go Go.K
set_option maxRecDepth 100000
set_option maxHeartbeats 4000000
set_option linter.unusedVariables false
noncomputable section
def Rsize (sp : Value) (w h t : Int) : Prop :=
  (((decide ((1 : Int) ≤ w)) = true → (((!(decide ((w : Int) ≤ 64))) = true → (.int .i64 6 : Value) = sp) ∧ ((!(decide ((w : Int) ≤ 64))) = false → (((decide ((1 : Int) ≤ h)) = true → (((!(decide ((h : Int) ≤ 64))) = true → (.int .i64 6 : Value) = sp) ∧ ((!(decide ((h : Int) ≤ 64))) = false → ((.int .i64 (IntKind.wrap .i64 (w * h)) : Value) = .int .i64 (w * h) ∧ (((decide ((1024 : Int) < (w * h))) = true → (.int .i64 6 : Value) = sp) ∧ ((decide ((1024 : Int) < (w * h))) = false → (((decide ((0 : Int) ≤ t)) = true → (((!(decide ((t : Int) ≤ 10000))) = true → (.int .i64 6 : Value) = sp) ∧ ((!(decide ((t : Int) ≤ 10000))) = false → (.int .i64 0 : Value) = sp))) ∧ ((decide ((0 : Int) ≤ t)) = false → (.int .i64 6 : Value) = sp)))))))) ∧ ((decide ((1 : Int) ≤ h)) = false → (.int .i64 6 : Value) = sp))))) ∧ ((decide ((1 : Int) ≤ w)) = false → (.int .i64 6 : Value) = sp))
theorem Esize (sp : Value) (w h t : Int) : vF prog msk (dm 0) 100000 true 40 true 132 [.int .i64 w, .int .i64 h, .int .i64 t] ⟨0, .leaf⟩ (some [])
  (.go 7 (.gfork (.go 6 (.gfork (.auto) (.go 6 (.gfork (.go 7 (.gfork (.auto) (.go 2 (.slot 18 (.int .i64 (w * h)) (.go 2 (.gfork (.auto) (.go 6 (.gfork (.go 6 (.fork (.auto) (.auto))) (.auto))))))))) (.auto))))) (.auto)))
  (fun v _ _ => v = sp) = Rsize sp w h t := by kernel_rfl
end
end Go.Proofs.Ytkkgnalgmebfjaa
/- Ice: functions of cells that charts and reports use. No condition. -/
namespace Go.Proofs.Ytkkgnalgmebfjaa
open Go Go.K
set_option maxRecDepth 100000
set_option linter.unusedVariables false
set_option linter.unusedSimpArgs false
noncomputable section
attribute [local irreducible] vF
def sizeOk (w h t : Int) : Prop := (1 ≤ w ∧ w ≤ 64) ∧ (1 ≤ h ∧ h ≤ 64) ∧ w * h ≤ 1024 ∧ (0 ≤ t ∧ t ≤ 10000)
instance (w h t : Int) : Decidable (sizeOk w h t) := by unfold sizeOk; infer_instance
def errSize (w h t : Int) : Int := if sizeOk w h t then 0 else 6
theorem errSize_iff {w h t : Int} : errSize w h t = 0 ↔ sizeOk w h t := by unfold errSize; split <;> simp_all
theorem ksize (w h t : Int) (H : Heap) : KCall prog F.ice_size [.int .i64 w, .int .i64 h, .int .i64 t] H [] (Is (.int .i64 (errSize w h t)) H) := by
  refine valK 40 (fun _ => rfl) rfl (Eq.mpr (Esize _ w h t) ?_) H
  unfold Rsize
  have mb : (1 ≤ w ∧ w ≤ 64) → (1 ≤ h ∧ h ≤ 64) → 0 ≤ w * h ∧ w * h ≤ 64 * 64 := fun h1 h2 => mulb (by omega) h1.2 (by omega) h2.2
  repeat' first | (refine ⟨vI64 (by have := mb ⟨‹_›, ‹_›⟩ ⟨‹_›, ‹_›⟩; omega), ?_⟩) | (exact iEq (if_pos (by unfold sizeOk; omega)).symm) | (exact iEq (if_neg (by unfold sizeOk; omega)).symm) | exact trivial | exact rfl | refine joinMax ?_ ?_ ?_ | refine joinMin ?_ ?_ ?_ | refine toMax ?_ | refine toMin ?_ | refine ⟨rfl, ?_⟩ | refine ⟨trivial, ?_⟩ | (refine forkD (fun h => ?_) (fun h => ?_)) | (refine forkNe (fun h => ?_) (fun h => ?_)) | (refine forkEq (fun h => ?_) (fun h => ?_)) | refine forkNot ?_ | (refine ⟨vI64 (by omega), ?_⟩) | (refine And.intro (by omega) ?_) | apply And.intro | exact wk_refl _ | (exact iEq (by omega)) | (exact vI64 (by omega))
end
end Go.Proofs.Ytkkgnalgmebfjaa
/- Ice: charts: what functions of charts answer. No condition. -/
namespace Go.Proofs.Ytkkgnalgmebfjaa
set_option linter.unusedSimpArgs false
set_option linter.unusedVariables false
open Go Go.K
noncomputable section
structure Chart where
  w : Int
  h : Int
  hour : Int
  cells : List Cell
def errChart (w h t : Int) (cs : List Cell) : Int := first2 (errSize w h t) (if (cs.length : Int) = w * h then errs errCell cs else 1)
end
end Go.Proofs.Ytkkgnalgmebfjaa
/- What is to be shown of functions. Printed by a program. No condition. -/
namespace Go.Proofs.Ytkkgnalgmebfjaa
set_option linter.unusedSimpArgs false
open Go Go.K
set_option maxRecDepth 100000
set_option maxHeartbeats 4000000
set_option linter.unusedVariables false
noncomputable section
def RwrongC (sp : Value) (cs : List Cell) : Prop :=
  (true = true ∧ (0 ≤ List.length cs ∧ sp = .int .i64 (errs errCell (List.drop 0 cs))) ∧ (true = true ∧ ((.int .i64 0 : Value) = .int .i64 ((0 : Nat) : Int) ∧ (.func (.func 104) #[] #[] : Value) = .func (.func 104) #[] #[] ∧ wk (.slice (some ⟨0, 0, some 2⟩) (List.length cs) (List.length cs) : Value) (.slice (some ⟨0, 0, some 2⟩) (List.length cs) (List.length cs) : Value) ∧ (.int .i64 (((List.length cs) : Nat) : Int) : Value) = .int .i64 (((List.length cs) : Nat) : Int) ∧ True) ∧ (True) ∧ (True) ∧ (True)) ∧ (∀ x0 : Nat, true = true) ∧ ∀ x0 : Nat, (x0 ≤ List.length cs ∧ sp = .int .i64 (errs errCell (List.drop x0 cs))) → (((decide ((((x0 : Nat) : Int) : Int) < (((List.length cs) : Nat) : Int))) = true → (((0 : Int) ≤ ((x0 : Nat) : Int) ∧ (((x0 : Nat) : Int) : Int) < (((List.length cs) : Nat) : Int)) ∧ ((partA 8 (List.flatMap cellC cs) (0 + Int.toNat ((x0 : Nat) : Int) * 8) = some (.agg #[.int .i64 (List.getD cs x0 zeroC).conc.lo, .int .i64 (List.getD cs x0 zeroC).conc.hi, .int .i64 (List.getD cs x0 zeroC).thick.lo, .int .i64 (List.getD cs x0 zeroC).thick.hi, .int .i64 (List.getD cs x0 zeroC).ridge.lo, .int .i64 (List.getD cs x0 zeroC).ridge.hi, .int .i64 (List.getD cs x0 zeroC).press.lo, .int .i64 (List.getD cs x0 zeroC).press.hi])) ∧ (∃ r1 : Int, ((True) ∧ (∀ H' : Heap, H'.length = 2 → (True) → KCall prog 104 [.agg #[.int .i64 (List.getD cs x0 zeroC).conc.lo, .int .i64 (List.getD cs x0 zeroC).conc.hi, .int .i64 (List.getD cs x0 zeroC).thick.lo, .int .i64 (List.getD cs x0 zeroC).thick.hi, .int .i64 (List.getD cs x0 zeroC).ridge.lo, .int .i64 (List.getD cs x0 zeroC).ridge.hi, .int .i64 (List.getD cs x0 zeroC).press.lo, .int .i64 (List.getD cs x0 zeroC).press.hi]] H' [] (Is (.int .i64 r1) H')) ∧ ((((r1 : Int) != 0) = true → (.int .i64 r1 : Value) = sp) ∧ (((r1 : Int) != 0) = false → ((.int .i64 (IntKind.wrap .i64 (((x0 : Nat) : Int) + 1)) : Value) = .int .i64 (((x0 : Nat) : Int) + 1) ∧ (∃ x0' : Nat, (x0' ≤ List.length cs ∧ sp = .int .i64 (errs errCell (List.drop x0' cs))) ∧ (List.length cs - x0') < (List.length cs - x0) ∧ true = true ∧ ((.int .i64 (((x0 : Nat) : Int) + 1) : Value) = .int .i64 ((x0' : Nat) : Int) ∧ (.func (.func 104) #[] #[] : Value) = .func (.func 104) #[] #[] ∧ wk (.slice (some ⟨0, 0, some 2⟩) (List.length cs) (List.length cs) : Value) (.slice (some ⟨0, 0, some 2⟩) (List.length cs) (List.length cs) : Value) ∧ (.int .i64 (((List.length cs) : Nat) : Int) : Value) = .int .i64 (((List.length cs) : Nat) : Int) ∧ True) ∧ (True) ∧ (True) ∧ (True)))))))))) ∧ ((decide ((((x0 : Nat) : Int) : Int) < (((List.length cs) : Nat) : Int))) = false → (.int .i64 0 : Value) = sp)))
theorem EwrongC (sp : Value) (cs : List Cell) : vF prog msk (dm 0) 100000 true 40 true 133 [.slice (some ⟨0, 0, some 2⟩) (List.length cs) (List.length cs), .func (.func 104) #[] #[]] (readsT 0 [cs.flatMap cellC]) (some [])
  (.go 3 (.inv 3 (Nat) (0) [] [] (fun x0 => [(10, .int .i64 ((x0 : Nat) : Int)), (1, .func (.func 104) #[] #[]), (8, .slice (some ⟨0, 0, some 2⟩) (List.length cs) (List.length cs)), (9, .int .i64 (((List.length cs) : Nat) : Int))]) (fun x0 => []) (fun x0 => []) (fun x0 => []) (fun x0 => (x0 ≤ List.length cs ∧ sp = .int .i64 (errs errCell (List.drop x0 cs)))) (fun x0 => (List.length cs - x0)) (fun x0 => .go 0 (.fork (.need (.val (.agg #[.int .i64 (List.getD cs x0 zeroC).conc.lo, .int .i64 (List.getD cs x0 zeroC).conc.hi, .int .i64 (List.getD cs x0 zeroC).thick.lo, .int .i64 (List.getD cs x0 zeroC).thick.hi, .int .i64 (List.getD cs x0 zeroC).ridge.lo, .int .i64 (List.getD cs x0 zeroC).ridge.hi, .int .i64 (List.getD cs x0 zeroC).press.lo, .int .i64 (List.getD cs x0 zeroC).press.hi]) (.go 3 (.bind (Int) (fun r1 => .ans [] (.int .i64 r1) [] (.go 2 (.fork (.auto) (.go 0 (.slot 20 (.int .i64 (((x0 : Nat) : Int) + 1)) (.go 0 (.again []))))))))))) (.auto)))))
  (fun v _ _ => v = sp) = RwrongC sp cs := by kernel_rfl
def RCheckChart (sp : Value) (w h t : Int) (cs : List Cell) : Prop :=
  (∃ r0 : Int, ((True) ∧ (∀ H' : Heap, H'.length = 2 → (True) → KCall prog 132 [.int .i64 w, .int .i64 h, .int .i64 t] H' [] (Is (.int .i64 r0) H')) ∧ ((((r0 : Int) != 0) = true → (.int .i64 r0 : Value) = sp) ∧ (((r0 : Int) != 0) = false → ((.int .i64 (IntKind.wrap .i64 (w * h)) : Value) = .int .i64 (w * h) ∧ (((((((List.length cs) : Nat) : Int) : Int) != (w * h)) = true → (.int .i64 1 : Value) = sp) ∧ ((((((List.length cs) : Nat) : Int) : Int) != (w * h)) = false → (∃ r1 : Int, (((some (.cells false 0 (List.flatMap cellC cs) : KObj) = some (.cells false 0 (List.flatMap cellC cs) : KObj)) ∧ True) ∧ (∀ H' : Heap, H'.length = 2 → (H'[0]? = some (.cells false 0 (List.flatMap cellC cs) : KObj) ∧ True) → KCall prog 133 [.slice (some ⟨0, 0, some 2⟩) (List.length cs) (List.length cs), .func (.func 104) #[] #[]] H' [] (Is (.int .i64 r1) H')) ∧ (.int .i64 r1 : Value) = sp)))))))))
theorem ECheckChart (sp : Value) (w h t : Int) (cs : List Cell) : vF prog msk (dm 0) 100000 true 40 true 97 [.agg #[.int .i64 w, .int .i64 h, .int .i64 t, .slice (some ⟨0, 0, some 2⟩) (List.length cs) (List.length cs)]] (readsT 0 [cs.flatMap cellC]) (some [])
  (.go 7 (.bind (Int) (fun r0 => .ans [] (.int .i64 r0) [] (.go 2 (.fork (.auto) (.go 7 (.slot 21 (.int .i64 (w * h)) (.go 0 (.fork (.auto) (.go 1 (.bind (Int) (fun r1 => .ans [(0, .cells false 0 (List.flatMap cellC cs))] (.int .i64 r1) [] (.auto)))))))))))))
  (fun v _ _ => v = sp) = RCheckChart sp w h t cs := by kernel_rfl
end
end Go.Proofs.Ytkkgnalgmebfjaa
/- Ice: functions of charts. No condition. -/
namespace Go.Proofs.Ytkkgnalgmebfjaa
open Go Go.K
set_option maxRecDepth 100000
set_option linter.unusedVariables false
set_option linter.unusedSimpArgs false
noncomputable section
attribute [local irreducible] vF
theorem cellC_len (c : Cell) : (cellC c).length = 8 := rfl
theorem partCell {xs : List Cell} {x : Nat} (h : x < xs.length) : partA 8 (List.flatMap cellC xs) (0 + Int.toNat ((x : Nat) : Int) * 8) = some (.agg ⟨cellC (List.getD xs x zeroC)⟩) :=
  part_at (f := cellC) (d := zeroC) (c := 0) (m := 8) cellC_len h (by rw [Int.toNat_natCast]; omega) (by decide)
theorem plainC (n : Nat) (l : List Cell) : (l.flatMap cellC).all (belowC n) = true := plain_flat (fun _ => rfl) l
theorem kwrongC (xs : List Cell) (hn : xs.length ≤ 2 ^ 30) {H : Heap} {id : Nat} {own : Bool} {z : Nat} (hid : H[id]? = some (.cells own z (xs.flatMap cellC))) :
    KCall prog F.ice_wrong_ice_Cell_ [.slice (some ⟨id, 0, some 2⟩) xs.length xs.length, .func (.func F.ice_CheckCell) #[] #[]] H [] (Is (.int .i64 (errs errCell xs)) H) := by
  refine valR (Eq.mpr (EwrongC _ xs) ?_) (one_cs (plainC 0 xs)) rfl [id] rfl (one_id hid)
  unfold RwrongC
  refine ⟨rfl, ⟨Nat.zero_le _, rfl⟩, ?_, fun _ => rfl, ?_⟩
  · repeat' first | exact trivial | exact rfl | exact wk_refl _ | refine wkO_cells ?_ | refine wks_cons ?_ ?_ | exact wks_nil | exact wk_nil _ _ _ (.inl rfl) | (exact wk_Q (by omega)) | refine wk_tupL ?_ | refine wk_aggL ?_ | refine joinMax ?_ ?_ ?_ | refine joinMin ?_ ?_ ?_ | refine toMax ?_ | refine toMin ?_ | refine ⟨rfl, ?_⟩ | refine ⟨trivial, ?_⟩ | (refine forkD (fun h => ?_) (fun h => ?_)) | (refine forkNe (fun h => ?_) (fun h => ?_)) | (refine forkEq (fun h => ?_) (fun h => ?_)) | refine forkNot ?_ | (refine ⟨vI64 (by omega), ?_⟩) | (refine And.intro (by omega) ?_) | apply And.intro | (exact iEq (by omega)) | (exact vI64 (by omega))
  rintro x ⟨hx, hsp⟩
  refine forkD (fun h => ?_) (fun h => ?_)
  · have hlt : x < xs.length := by omega
    rw [errs_at (d := zeroC) hlt] at hsp
    refine ⟨by omega, partCell hlt, _, trivial, fun H' _ _ => kCheckCell _ H', ?_⟩
    refine forkNe (fun h1 => ?_) (fun h1 => ?_)
    · rw [hsp, if_neg h1]
    · repeat' first | (refine ⟨x + 1, ⟨by omega, by rw [hsp, if_pos h1]⟩, by omega, ?_⟩) | exact trivial | exact rfl | exact wk_refl _ | refine wkO_cells ?_ | refine wks_cons ?_ ?_ | exact wks_nil | exact wk_nil _ _ _ (.inl rfl) | (exact wk_Q (by omega)) | refine wk_tupL ?_ | refine wk_aggL ?_ | refine joinMax ?_ ?_ ?_ | refine joinMin ?_ ?_ ?_ | refine toMax ?_ | refine toMin ?_ | refine ⟨rfl, ?_⟩ | refine ⟨trivial, ?_⟩ | (refine forkD (fun h => ?_) (fun h => ?_)) | (refine forkNe (fun h => ?_) (fun h => ?_)) | (refine forkEq (fun h => ?_) (fun h => ?_)) | refine forkNot ?_ | (refine ⟨vI64 (by omega), ?_⟩) | (refine And.intro (by omega) ?_) | apply And.intro | (exact iEq (by omega)) | (exact vI64 (by omega))
  · rw [hsp, show x = xs.length by omega, List.drop_length]; rfl
theorem errChart_1 {w h t : Int} {cs : List Cell} (h0 : ¬ errSize w h t = 0) : errChart w h t cs = errSize w h t := first2_1 h0
theorem errChart_2 {w h t : Int} {cs : List Cell} (h0 : errSize w h t = 0) (h1 : (cs.length : Int) ≠ w * h) : errChart w h t cs = 1 := (first2_2 h0).trans (if_neg h1)
theorem errChart_3 {w h t : Int} {cs : List Cell} (h0 : errSize w h t = 0) (h1 : (cs.length : Int) = w * h) : errChart w h t cs = errs errCell cs := (first2_2 h0).trans (if_pos h1)
theorem size_mul {w h t : Int} (h0 : errSize w h t = 0) : 1 ≤ w * h ∧ w * h ≤ 1024 := by
  obtain ⟨h1, h2, h3, _⟩ := errSize_iff.1 h0
  refine ⟨?_, h3⟩
  have : 1 * 1 ≤ w * h := Int.mul_le_mul h1.1 h2.1 (by omega) (by omega)
  omega
theorem kCheckChart (w h t : Int) (cs : List Cell) {H : Heap} {id : Nat} {own : Bool} {z : Nat} (hid : H[id]? = some (.cells own z (cs.flatMap cellC))) :
    KCall prog F.ice_CheckChart [.agg #[.int .i64 w, .int .i64 h, .int .i64 t, .slice (some ⟨id, 0, some 2⟩) cs.length cs.length]] H [] (Is (.int .i64 (errChart w h t cs)) H) := by
  refine valR (Eq.mpr (ECheckChart _ w h t cs) ?_) (one_cs (plainC 0 cs)) rfl [id] rfl (one_id hid)
  unfold RCheckChart
  refine ⟨_, trivial, fun H' _ _ => ksize _ _ _ H', ?_⟩
  refine forkNe (fun h0 => iEq (errChart_1 h0).symm) (fun h0 => ?_)
  have hm := size_mul h0
  repeat' first | (refine ⟨_, ⟨rfl, trivial⟩, fun H' _ hd => kwrongC _ (by omega) hd.1, ?_⟩) | exact iEq (errChart_2 h0 h).symm | exact iEq (errChart_3 h0 h).symm | exact trivial | exact rfl | exact wk_refl _ | refine wkO_cells ?_ | refine wks_cons ?_ ?_ | exact wks_nil | exact wk_nil _ _ _ (.inl rfl) | (exact wk_Q (by omega)) | refine wk_tupL ?_ | refine wk_aggL ?_ | refine joinMax ?_ ?_ ?_ | refine joinMin ?_ ?_ ?_ | refine toMax ?_ | refine toMin ?_ | refine ⟨rfl, ?_⟩ | refine ⟨trivial, ?_⟩ | (refine forkD (fun h => ?_) (fun h => ?_)) | (refine forkNe (fun h => ?_) (fun h => ?_)) | (refine forkEq (fun h => ?_) (fun h => ?_)) | refine forkNot ?_ | (refine ⟨vI64 (by omega), ?_⟩) | (refine And.intro (by omega) ?_) | apply And.intro | (exact iEq (by omega)) | (exact vI64 (by omega))
end
end Go.Proofs.Ytkkgnalgmebfjaa
/- Drift: what comes together in a cell, and what a step makes of a field. No condition. -/
namespace Go.Proofs.Ytkkgnalgmebfjaa
set_option linter.unusedSimpArgs false
set_option linter.unusedVariables false
open Go Go.K
noncomputable section
/-- What has come to a cell: all Conc, and the greatest Thick and Ridge. -/
structure Pl where
  s : Int
  t : Int
  r : Int
/-- The first error of those at the first indices. -/
def errUp (e : Nat → Int) : Nat → Int
  | 0 => 0
  | k + 1 => first2 (errUp e k) (e k)
def isZ (x : Ice) : Bool := (x.conc == 0) && ((x.thick == 0) && ((x.ridge == 0) && ((x.press == 0) && true)))
end
end Go.Proofs.Ytkkgnalgmebfjaa
/- Drift: helper lemmas: answers with new lists; families of closures. No condition. -/
namespace Go.Proofs.Ytkkgnalgmebfjaa
open Go Go.K
set_option maxRecDepth 100000
set_option linter.unusedVariables false
set_option linter.unusedSimpArgs false
noncomputable section
attribute [local irreducible] vF
/-- Where lists lie. -/
def idsOk (H : Heap) : List Nat → List (List Value) → Prop
  | [], [] => True
  | id :: ids, c :: css => (∃ own z, H[id]? = some (.cells own z c)) ∧ idsOk H ids css
  | _, _ => False
theorem idsOk_len {H : Heap} : ∀ {ids : List Nat} {css : List (List Value)}, idsOk H ids css → ids.length = css.length
  | [], [], _ => rfl
  | _ :: ids, _ :: css, h => by rw [List.length_cons, List.length_cons, idsOk_len h.2]
  | [], _ :: _, h => h.elim
  | _ :: _, [], h => h.elim
theorem idsOk_spec {H : Heap} : ∀ {ids : List Nat} {css : List (List Value)}, idsOk H ids css → ∀ (k : Nat) (c : List Value), css[k]? = some c → ∃ id own z, ids[k]? = some id ∧ H[id]? = some (KObj.cells own z c)
  | [], [], _, k, c, hk => by simp at hk
  | i :: ids, d :: css, h, 0, c, hk => by
    obtain ⟨⟨own, z, e⟩, _⟩ := h
    cases hk
    exact ⟨i, own, z, rfl, e⟩
  | i :: ids, d :: css, h, k + 1, c, hk => by
    obtain ⟨id, own, z, a, b⟩ := idsOk_spec h.2 k c (by simpa using hk)
    exact ⟨id, own, z, by simpa using a, b⟩
  | [], _ :: _, h, _, _, _ => h.elim
  | _ :: _, [], h, _, _, _ => h.elim
def plainAll : List (List Value) → Prop
  | [] => True
  | c :: css => c.all (belowC 0) = true ∧ plainAll css
theorem plainAll_spec : ∀ {css : List (List Value)}, plainAll css → ∀ c ∈ css, c.all (belowC 0) = true
  | [], _, c, h => by cases h
  | d :: css, hp, c, h => by
    rcases List.mem_cons.1 h with rfl | h
    · exact hp.1
    · exact plainAll_spec hp.2 c h
def newAll : List KObj → Prop
  | [] => True
  | o :: os => (∃ z cs, o = .cells true z cs ∧ cs.all (belowC 0) = true) ∧ newAll os
theorem newAll_spec {σ : Nat → Option Nat} : ∀ {os : List KObj}, newAll os → (os.all fun o => rnoOk 3 o && o.owned) = true ∧ os.map (rno σ 3) = os
  | [], _ => ⟨rfl, rfl⟩
  | o :: os, ⟨⟨z, cs, e, h⟩, hs⟩ => by
    subst e
    obtain ⟨a, b⟩ := newAll_spec (σ := σ) hs
    obtain ⟨c, d⟩ := rnCl (σ := σ) (d := 0) h
    refine ⟨?_, ?_⟩
    · rw [List.all_cons, a, Bool.and_true]
      show (rnoOk 3 (.cells true z cs) && true) = true
      rw [Bool.and_true]; exact d
    · rw [List.map_cons, b]
      show KObj.cells true z (cs.map (rn σ 3)) :: os = _
      rw [c]
/-! ## Lists within cells -/
theorem plainXL (n : Nat) (l : List Ice) : (l.flatMap iceC).all (belowC n) = true := plain_flat (fun _ => rfl) l
/-! ## Closures -/
/-! ## First errors -/
theorem errUp_all {e : Nat → Int} : ∀ {n : Nat}, errUp e n = 0 → ∀ k, k < n → e k = 0
  | 0, _, k, h => by omega
  | n + 1, h0, k, h => by
    have h0 : first2 (errUp e n) (e n) = 0 := h0
    unfold first2 at h0
    split at h0
    · rename_i h1
      rcases Nat.lt_or_ge k n with h2 | h2
      · exact errUp_all h1 k h2
      · obtain rfl : k = n := by omega
        exact h0
    · rename_i h1; exact absurd h0 h1
theorem errUp_at {e : Nat → Int} {k : Nat} (h0 : errUp e k = 0) (hk : e k ≠ 0) : ∀ {n : Nat}, k < n → errUp e n = e k
  | 0, h => by omega
  | n + 1, h => by
    show first2 (errUp e n) (e n) = e k
    rcases Nat.lt_or_ge k n with h2 | h2
    · rw [errUp_at h0 hk h2, first2_1 hk]
    · obtain rfl : k = n := by omega
      rw [h0, first2_2 rfl]
theorem errUp_succ {e : Nat → Int} {k : Nat} (h0 : errUp e k = 0) (h1 : e k = 0) : errUp e (k + 1) = 0 := by
  show first2 (errUp e k) (e k) = 0
  rw [h0, first2_2 rfl, h1]
end
end Go.Proofs.Ytkkgnalgmebfjaa
/- Drift: a field after a step. No condition. -/
namespace Go.Proofs.Ytkkgnalgmebfjaa
open Go Go.K
set_option maxRecDepth 100000
set_option linter.unusedVariables false
set_option linter.unusedSimpArgs false
noncomputable section
attribute [local irreducible] vF
/-! ## Piles -/
theorem set_same {α : Type} {l : List α} {d : α} {i : Nat} : l.set i (l.getD i d) = l := by
  refine List.ext_getElem? fun j => ?_
  rw [List.getElem?_set]
  by_cases h : i = j
  · subst h
    rw [if_pos rfl, List.getD_eq_getElem?_getD]
    by_cases h2 : i < l.length
    · rw [if_pos h2, List.getElem?_eq_getElem h2]; rfl
    · rw [if_neg h2, List.getElem?_eq_none (by omega)]
  · rw [if_neg h]
theorem map_take {α β : Type} {f : α → β} {l : List α} {d : α} {k : Nat} (h : k < l.length) : (l.map f).take (k + 1) = (l.map f).take k ++ [f (l.getD k d)] := by
  rw [List.take_add_one, List.getElem?_map, List.getElem?_eq_getElem h, List.getD_eq_getElem?_getD, List.getElem?_eq_getElem h]; rfl
end
end Go.Proofs.Ytkkgnalgmebfjaa
/- Drift: what becomes of a chart after a step. No condition. -/
namespace Go.Proofs.Ytkkgnalgmebfjaa
set_option linter.unusedSimpArgs false
set_option linter.unusedVariables false
open Go Go.K
noncomputable section
def isZC (c : Cell) : Bool := (c.conc.lo == 0 && (c.conc.hi == 0 && true)) && ((c.thick.lo == 0 && (c.thick.hi == 0 && true)) && ((c.ridge.lo == 0 && (c.ridge.hi == 0 && true)) && ((c.press.lo == 0 && (c.press.hi == 0 && true)) && true)))
def errSides (w h w' h' t : Int) (cs : List Cell) : Int := first2 (errChart w' h' t cs) (if w' = w ∧ h' = h then 0 else 1)
def dryErr (a : List Bool) (cs : List Cell) (k : Nat) : Int := if a.getD k false = true then (if isZC (cs.getD k zeroC) = true then 0 else 30) else 0
def errDry (a : List Bool) (cs : List Cell) : Int := errUp (dryErr a cs) cs.length
def errFits (w h : Int) (a : List Bool) (w' h' t : Int) (cs : List Cell) : Int := first2 (errSides w h w' h' t cs) (errDry a cs)
end
end Go.Proofs.Ytkkgnalgmebfjaa
/- What is to be shown of functions. Printed by a program. No condition. -/
namespace Go.Proofs.Ytkkgnalgmebfjaa
set_option linter.unusedSimpArgs false
open Go Go.K
set_option maxRecDepth 100000
set_option maxHeartbeats 4000000
set_option linter.unusedVariables false
noncomputable section
def Rsides (sp : Value) (w h : Int) (a : List Bool) (w' h' t : Int) (cs : List Cell) : Prop :=
  (((some (.cells false 0 (List.flatMap cellC cs) : KObj) = some (.cells false 0 (List.flatMap cellC cs) : KObj)) ∧ True) ∧ (∀ H' : Heap, H'.length = 4 → (H'[1]? = some (.cells false 0 (List.flatMap cellC cs) : KObj) ∧ True) → KCall prog 97 [.agg #[.int .i64 w', .int .i64 h', .int .i64 t, .slice (some ⟨1, 0, some 2⟩) (List.length cs) (List.length cs)]] H' [] (Is (.int .i64 (errChart w' h' t cs)) H')) ∧ (((((errChart w' h' t cs) : Int) != 0) = true → (.int .i64 (errChart w' h' t cs) : Value) = sp) ∧ ((((errChart w' h' t cs) : Int) != 0) = false → ((((w' : Int) != w) = true → (.int .i64 1 : Value) = sp) ∧ (((w' : Int) != w) = false → ((((h' : Int) != h) = true → (.int .i64 1 : Value) = sp) ∧ (((h' : Int) != h) = false → (.int .i64 0 : Value) = sp)))))))
theorem Esides (sp : Value) (w h : Int) (a : List Bool) (w' h' t : Int) (cs : List Cell) : vF prog msk (dm 0) 100000 true 40 true 98 [.agg #[.int .i64 w, .int .i64 h, .slice (some ⟨0, 0, some 2⟩) (List.length a) (List.length a)], .agg #[.int .i64 w', .int .i64 h', .int .i64 t, .slice (some ⟨1, 0, some 2⟩) (List.length cs) (List.length cs)]] (readsT 0 [a.flatMap boolC, cs.flatMap cellC]) (some [])
  (.go 3 (.ans [(1, .cells false 0 (List.flatMap cellC cs))] (.int .i64 (errChart w' h' t cs)) [] (.go 3 (.fork (.auto) (.go 5 (.gfork (.auto) (.go 6 (.fork (.auto) (.auto)))))))))
  (fun v _ _ => v = sp) = Rsides sp w h a w' h' t cs := by kernel_rfl
def Rfits (sp : Value) (w h : Int) (a : List Bool) (w' h' t : Int) (cs : List Cell) : Prop :=
  (((some (.cells false 0 (List.flatMap boolC a) : KObj) = some (.cells false 0 (List.flatMap boolC a) : KObj)) ∧ (some (.cells false 0 (List.flatMap cellC cs) : KObj) = some (.cells false 0 (List.flatMap cellC cs) : KObj)) ∧ True) ∧ (∀ H' : Heap, H'.length = 4 → (H'[0]? = some (.cells false 0 (List.flatMap boolC a) : KObj) ∧ H'[1]? = some (.cells false 0 (List.flatMap cellC cs) : KObj) ∧ True) → KCall prog 98 [.agg #[.int .i64 w, .int .i64 h, .slice (some ⟨0, 0, some 2⟩) (List.length a) (List.length a)], .agg #[.int .i64 w', .int .i64 h', .int .i64 t, .slice (some ⟨1, 0, some 2⟩) (List.length cs) (List.length cs)]] H' [] (Is (.int .i64 (errSides w h w' h' t cs)) H')) ∧ (((((errSides w h w' h' t cs) : Int) != 0) = true → (.int .i64 (errSides w h w' h' t cs) : Value) = sp) ∧ ((((errSides w h w' h' t cs) : Int) != 0) = false → (true = true ∧ (0 ≤ List.length cs ∧ errUp (dryErr a cs) 0 = 0) ∧ (true = true ∧ ((.int .i64 0 : Value) = .int .i64 ((0 : Nat) : Int) ∧ (.pointer (some ⟨2, 0, none⟩) : Value) = .pointer (some ⟨2, 0, none⟩) ∧ wk (.slice (some ⟨1, 0, some 2⟩) (List.length cs) (List.length cs) : Value) (.slice (some ⟨1, 0, some 2⟩) (List.length cs) (List.length cs) : Value) ∧ (.int .i64 (((List.length cs) : Nat) : Int) : Value) = .int .i64 (((List.length cs) : Nat) : Int) ∧ True) ∧ (True) ∧ (True) ∧ (True)) ∧ (∀ x1 : Nat, true = true) ∧ ∀ x1 : Nat, (x1 ≤ List.length cs ∧ errUp (dryErr a cs) x1 = 0) → (((decide ((((x1 : Nat) : Int) : Int) < (((List.length cs) : Nat) : Int))) = true → (((0 : Int) ≤ ((x1 : Nat) : Int) ∧ (((x1 : Nat) : Int) : Int) < (((List.length cs) : Nat) : Int)) ∧ ((partA 8 (List.flatMap cellC cs) (0 + Int.toNat ((x1 : Nat) : Int) * 8) = some (.agg #[.int .i64 (List.getD cs x1 zeroC).conc.lo, .int .i64 (List.getD cs x1 zeroC).conc.hi, .int .i64 (List.getD cs x1 zeroC).thick.lo, .int .i64 (List.getD cs x1 zeroC).thick.hi, .int .i64 (List.getD cs x1 zeroC).ridge.lo, .int .i64 (List.getD cs x1 zeroC).ridge.hi, .int .i64 (List.getD cs x1 zeroC).press.lo, .int .i64 (List.getD cs x1 zeroC).press.hi])) ∧ (((0 : Int) ≤ ((x1 : Nat) : Int) ∧ (((x1 : Nat) : Int) : Int) < (((List.length a) : Nat) : Int)) ∧ (((List.flatMap boolC a)[(0 + Int.toNat ((x1 : Nat) : Int) * 1)]? = some (.bool (List.getD a x1 false))) ∧ (((List.getD a x1 false) = true → (((!(((((List.getD cs x1 zeroC).conc.lo : Int) == 0) && ((((List.getD cs x1 zeroC).conc.hi : Int) == 0) && true)) && (((((List.getD cs x1 zeroC).thick.lo : Int) == 0) && ((((List.getD cs x1 zeroC).thick.hi : Int) == 0) && true)) && (((((List.getD cs x1 zeroC).ridge.lo : Int) == 0) && ((((List.getD cs x1 zeroC).ridge.hi : Int) == 0) && true)) && (((((List.getD cs x1 zeroC).press.lo : Int) == 0) && ((((List.getD cs x1 zeroC).press.hi : Int) == 0) && true)) && true))))) = true → (.int .i64 30 : Value) = sp) ∧ ((!(((((List.getD cs x1 zeroC).conc.lo : Int) == 0) && ((((List.getD cs x1 zeroC).conc.hi : Int) == 0) && true)) && (((((List.getD cs x1 zeroC).thick.lo : Int) == 0) && ((((List.getD cs x1 zeroC).thick.hi : Int) == 0) && true)) && (((((List.getD cs x1 zeroC).ridge.lo : Int) == 0) && ((((List.getD cs x1 zeroC).ridge.hi : Int) == 0) && true)) && (((((List.getD cs x1 zeroC).press.lo : Int) == 0) && ((((List.getD cs x1 zeroC).press.hi : Int) == 0) && true)) && true))))) = false → ((.int .i64 (IntKind.wrap .i64 (((x1 : Nat) : Int) + 1)) : Value) = .int .i64 (((x1 : Nat) : Int) + 1) ∧ (∃ x1' : Nat, (x1' ≤ List.length cs ∧ errUp (dryErr a cs) x1' = 0) ∧ (List.length cs - x1') < (List.length cs - x1) ∧ true = true ∧ ((.int .i64 (((x1 : Nat) : Int) + 1) : Value) = .int .i64 ((x1' : Nat) : Int) ∧ (.pointer (some ⟨2, 0, none⟩) : Value) = .pointer (some ⟨2, 0, none⟩) ∧ wk (.slice (some ⟨1, 0, some 2⟩) (List.length cs) (List.length cs) : Value) (.slice (some ⟨1, 0, some 2⟩) (List.length cs) (List.length cs) : Value) ∧ (.int .i64 (((List.length cs) : Nat) : Int) : Value) = .int .i64 (((List.length cs) : Nat) : Int) ∧ True) ∧ (True) ∧ (True) ∧ (True)))))) ∧ ((List.getD a x1 false) = false → ((.int .i64 (IntKind.wrap .i64 (((x1 : Nat) : Int) + 1)) : Value) = .int .i64 (((x1 : Nat) : Int) + 1) ∧ (∃ x1' : Nat, (x1' ≤ List.length cs ∧ errUp (dryErr a cs) x1' = 0) ∧ (List.length cs - x1') < (List.length cs - x1) ∧ true = true ∧ ((.int .i64 (((x1 : Nat) : Int) + 1) : Value) = .int .i64 ((x1' : Nat) : Int) ∧ (.pointer (some ⟨2, 0, none⟩) : Value) = .pointer (some ⟨2, 0, none⟩) ∧ wk (.slice (some ⟨1, 0, some 2⟩) (List.length cs) (List.length cs) : Value) (.slice (some ⟨1, 0, some 2⟩) (List.length cs) (List.length cs) : Value) ∧ (.int .i64 (((List.length cs) : Nat) : Int) : Value) = .int .i64 (((List.length cs) : Nat) : Int) ∧ True) ∧ (True) ∧ (True) ∧ (True)))))))))) ∧ ((decide ((((x1 : Nat) : Int) : Int) < (((List.length cs) : Nat) : Int))) = false → (.int .i64 0 : Value) = sp))))))
theorem Efits (sp : Value) (w h : Int) (a : List Bool) (w' h' t : Int) (cs : List Cell) : vF prog msk (dm 0) 100000 true 40 true 90 [.agg #[.int .i64 w, .int .i64 h, .slice (some ⟨0, 0, some 2⟩) (List.length a) (List.length a)], .agg #[.int .i64 w', .int .i64 h', .int .i64 t, .slice (some ⟨1, 0, some 2⟩) (List.length cs) (List.length cs)]] (readsT 0 [a.flatMap boolC, cs.flatMap cellC]) (some [])
  (.go 4 (.ans [(0, .cells false 0 (List.flatMap boolC a)), (1, .cells false 0 (List.flatMap cellC cs))] (.int .i64 (errSides w h w' h' t cs)) [] (.go 2 (.fork (.auto) (.go 3 (.inv 3 (Nat) (0) [] [] (fun x1 => [(17, .int .i64 ((x1 : Nat) : Int)), (2, .pointer (some ⟨2, 0, none⟩)), (15, .slice (some ⟨1, 0, some 2⟩) (List.length cs) (List.length cs)), (16, .int .i64 (((List.length cs) : Nat) : Int))]) (fun x1 => []) (fun x1 => []) (fun x1 => []) (fun x1 => (x1 ≤ List.length cs ∧ errUp (dryErr a cs) x1 = 0)) (fun x1 => (List.length cs - x1)) (fun x1 => .go 0 (.fork (.go 0 (.need (.val (.agg #[.int .i64 (List.getD cs x1 zeroC).conc.lo, .int .i64 (List.getD cs x1 zeroC).conc.hi, .int .i64 (List.getD cs x1 zeroC).thick.lo, .int .i64 (List.getD cs x1 zeroC).thick.hi, .int .i64 (List.getD cs x1 zeroC).ridge.lo, .int .i64 (List.getD cs x1 zeroC).ridge.hi, .int .i64 (List.getD cs x1 zeroC).press.lo, .int .i64 (List.getD cs x1 zeroC).press.hi]) (.go 5 (.need (.val (.bool (List.getD a x1 false)) (.go 0 (.gfork (.go 3 (.fork (.auto) (.go 0 (.slot 32 (.int .i64 (((x1 : Nat) : Int) + 1)) (.go 0 (.again [])))))) (.go 2 (.slot 32 (.int .i64 (((x1 : Nat) : Int) + 1)) (.go 0 (.again [])))))))))))) (.auto)))))))))
  (fun v _ _ => v = sp) = Rfits sp w h a w' h' t cs := by kernel_rfl
end
end Go.Proofs.Ytkkgnalgmebfjaa
/- Drift: charts that fit a basin; a cell's ends. No condition. -/
namespace Go.Proofs.Ytkkgnalgmebfjaa
open Go Go.K
set_option maxRecDepth 100000
set_option linter.unusedVariables false
set_option linter.unusedSimpArgs false
noncomputable section
attribute [local irreducible] vF
theorem ksides (w h : Int) (a : List Bool) (w' h' t : Int) (cs : List Cell) {H : Heap} {i0 i1 : Nat} {o0 o1 : Bool} {z0 z1 : Nat} (e0 : H[i0]? = some (.cells o0 z0 (a.flatMap boolC))) (e1 : H[i1]? = some (.cells o1 z1 (cs.flatMap cellC))) :
    KCall prog F.drift_sides [basV w h i0 a.length, .agg #[.int .i64 w', .int .i64 h', .int .i64 t, .slice (some ⟨i1, 0, some 2⟩) cs.length cs.length]] H [] (Is (.int .i64 (errSides w h w' h' t cs)) H) := by
  refine valR (Eq.mpr (Esides _ w h a w' h' t cs) ?_) (twoCs (plainBL 0 a) (plainC 0 cs)) rfl [i0, i1] rfl (twoId e0 e1)
  unfold Rsides
  refine ⟨⟨rfl, trivial⟩, fun H' _ hd => kCheckChart w' h' t cs hd.1, forkNe (fun h0 => ?_) (fun h0 => ?_)⟩
  · exact iEq (first2_1 h0).symm
  have e : errSides w h w' h' t cs = if w' = w ∧ h' = h then 0 else 1 := first2_2 h0
  rw [e]
  refine forkNe (fun h1 => ?_) (fun h1 => forkNe (fun h2 => ?_) (fun h2 => ?_))
  · rw [if_neg (fun q => h1 q.1)]
  · rw [if_neg (fun q => h2 q.2)]
  · rw [if_pos ⟨h1, h2⟩]
theorem errChart_len {w h t : Int} {cs : List Cell} (e : errChart w h t cs = 0) : (cs.length : Int) = w * h ∧ errs errCell cs = 0 := by
  unfold errChart first2 at e
  split at e
  · split at e
    · rename_i h1; exact ⟨h1, e⟩
    · omega
  · rename_i h0; exact absurd e h0
theorem dry_1 {a : List Bool} {cs : List Cell} {k : Nat} (h : a.getD k false = true) (h2 : isZC (cs.getD k zeroC) = false) : dryErr a cs k = 30 := by
  unfold dryErr
  rw [if_pos h, if_neg (by rw [h2]; exact Bool.false_ne_true)]
theorem dry_2 {a : List Bool} {cs : List Cell} {k : Nat} (h : a.getD k false = true → isZC (cs.getD k zeroC) = true) : dryErr a cs k = 0 := by
  unfold dryErr
  by_cases q : a.getD k false = true
  · rw [if_pos q, if_pos (h q)]
  · rw [if_neg q]
theorem sides_0 {w h w' h' t : Int} {cs : List Cell} (e : errSides w h w' h' t cs = 0) : errChart w' h' t cs = 0 ∧ w' = w ∧ h' = h := by
  unfold errSides first2 at e
  split at e
  · rename_i h0
    split at e
    · rename_i h1; exact ⟨h0, h1⟩
    · omega
  · rename_i h0; exact absurd e h0
theorem kfits {w h : Int} {a : List Bool} (b : BasOk w h a.length) (w' h' t : Int) (cs : List Cell) {H : Heap} {i0 i1 : Nat} {o0 o1 : Bool} {z0 z1 : Nat} (e0 : H[i0]? = some (.cells o0 z0 (a.flatMap boolC))) (e1 : H[i1]? = some (.cells o1 z1 (cs.flatMap cellC))) :
    KCall prog F.drift_fits [basV w h i0 a.length, .agg #[.int .i64 w', .int .i64 h', .int .i64 t, .slice (some ⟨i1, 0, some 2⟩) cs.length cs.length]] H [] (Is (.int .i64 (errFits w h a w' h' t cs)) H) := by
  refine valR (Eq.mpr (Efits _ w h a w' h' t cs) ?_) (twoCs (plainBL 0 a) (plainC 0 cs)) rfl [i0, i1] rfl (twoId e0 e1)
  unfold Rfits
  refine ⟨⟨rfl, rfl, trivial⟩, fun H' _ hd => ksides w h a w' h' t cs hd.1 hd.2.1, forkNe (fun h0 => ?_) (fun h0 => ?_)⟩
  · exact iEq (first2_1 h0).symm
  have e : errFits w h a w' h' t cs = errDry a cs := first2_2 h0
  obtain ⟨s1, s2, s3⟩ := sides_0 h0
  obtain ⟨s4, _⟩ := errChart_len s1
  subst s2 s3
  have hn := b.n1
  have hp := b.p1
  rw [e]
  refine ⟨rfl, ⟨Nat.zero_le _, rfl⟩, ?_, fun _ => rfl, ?_⟩
  · repeat' first | exact trivial | exact rfl | exact wk_refl _ | refine wkO_cells ?_ | refine wks_cons ?_ ?_ | exact wks_nil | exact wk_nil _ _ _ (.inl rfl) | (exact wk_Q (by omega)) | refine wk_tupL ?_ | refine wk_aggL ?_ | refine joinMax ?_ ?_ ?_ | refine joinMin ?_ ?_ ?_ | refine toMax ?_ | refine toMin ?_ | refine ⟨rfl, ?_⟩ | refine ⟨trivial, ?_⟩ | (refine forkD (fun h => ?_) (fun h => ?_)) | (refine forkNe (fun h => ?_) (fun h => ?_)) | (refine forkEq (fun h => ?_) (fun h => ?_)) | refine forkNot ?_ | (refine ⟨vI64 (by omega), ?_⟩) | (refine And.intro (by omega) ?_) | apply And.intro | (exact iEq (by omega)) | (exact vI64 (by omega))
  rintro x ⟨j1, j2⟩
  refine forkD (fun k1 => ?_) (fun k1 => ?_)
  · have hx : x < cs.length := by omega
    refine ⟨by omega, partCell hx, by omega, boolAt (by omega) (by omega), fun ha => ⟨fun q => ?_, fun q => ?_⟩, fun ha => ?_⟩
    · exact iEq (by unfold errDry; rw [errUp_at j2 (by rw [dry_1 ha (notB q)]; decide) hx, dry_1 ha (notB q)])
    · refine ⟨vI64 (by omega), x + 1, ⟨by omega, errUp_succ j2 (dry_2 fun _ => notB2 q)⟩, by omega, rfl, ?_⟩
      repeat' first | exact trivial | exact rfl | exact wk_refl _ | refine wkO_cells ?_ | refine wks_cons ?_ ?_ | exact wks_nil | exact wk_nil _ _ _ (.inl rfl) | (exact wk_Q (by omega)) | refine wk_tupL ?_ | refine wk_aggL ?_ | refine joinMax ?_ ?_ ?_ | refine joinMin ?_ ?_ ?_ | refine toMax ?_ | refine toMin ?_ | refine ⟨rfl, ?_⟩ | refine ⟨trivial, ?_⟩ | (refine forkD (fun h => ?_) (fun h => ?_)) | (refine forkNe (fun h => ?_) (fun h => ?_)) | (refine forkEq (fun h => ?_) (fun h => ?_)) | refine forkNot ?_ | (refine ⟨vI64 (by omega), ?_⟩) | (refine And.intro (by omega) ?_) | apply And.intro | (exact iEq (by omega)) | (exact vI64 (by omega))
    · refine ⟨vI64 (by omega), x + 1, ⟨by omega, errUp_succ j2 (dry_2 fun q => by rw [ha] at q; cases q)⟩, by omega, rfl, ?_⟩
      repeat' first | exact trivial | exact rfl | exact wk_refl _ | refine wkO_cells ?_ | refine wks_cons ?_ ?_ | exact wks_nil | exact wk_nil _ _ _ (.inl rfl) | (exact wk_Q (by omega)) | refine wk_tupL ?_ | refine wk_aggL ?_ | refine joinMax ?_ ?_ ?_ | refine joinMin ?_ ?_ ?_ | refine toMax ?_ | refine toMin ?_ | refine ⟨rfl, ?_⟩ | refine ⟨trivial, ?_⟩ | (refine forkD (fun h => ?_) (fun h => ?_)) | (refine forkNe (fun h => ?_) (fun h => ?_)) | (refine forkEq (fun h => ?_) (fun h => ?_)) | refine forkNot ?_ | (refine ⟨vI64 (by omega), ?_⟩) | (refine And.intro (by omega) ?_) | apply And.intro | (exact iEq (by omega)) | (exact vI64 (by omega))
  · obtain rfl : x = cs.length := by omega
    exact iEq j2.symm
end
end Go.Proofs.Ytkkgnalgmebfjaa
/- Drift: a chart after a step. No condition. -/
namespace Go.Proofs.Ytkkgnalgmebfjaa
open Go Go.K
set_option maxRecDepth 100000
set_option linter.unusedVariables false
set_option linter.unusedSimpArgs false
noncomputable section
attribute [local irreducible] vF
/-- What a step needs. -/
structure StepOk (w h : Int) (a : List Bool) (l : List Flow) (cs : List Cell) : Prop where
  b : BasOk w h a.length
  l1 : l.length = a.length
  f : ∀ f ∈ l, rightF f
  n : cs.length = a.length
  c : ∀ c ∈ cs, rightC c
theorem StepOk.fl {w h : Int} {a : List Bool} {l : List Flow} {cs : List Cell} (o : StepOk w h a l cs) {k : Nat} (hk : k < cs.length) : rightF (l.getD k zeroF) := o.f _ (getD_mem (by have := o.l1; have := o.n; omega))
theorem kTGs {w h : Int} {a : List Bool} {c : Int} {f : Flow} (b : BasOk w h a.length) (hc : 0 ≤ c ∧ c < w * h) (hf : rightF f) {H : Heap} {L : Nat} (hL : H.length = L) {id : Nat} {own : Bool} {z : Nat} (hid : H[id]? = some (.cells own z (a.flatMap boolC))) :
    KCall prog F.drift_sea_targets [basV w h id a.length, flowV f, .int .i64 c] H [] (Is (.slice (some ⟨L, 0, some 2⟩) (tgts w h a c f).length (tgts w h a c f).length) (H ++ [.cells true 1 ((tgts w h a c f ++ padT (tgL w h a c f)).flatMap intC)])) := by
  have := ktargets b hc hf hL hid
  rw [tgts_comp b hc] at this; exact this
theorem intAtL {a p : List Int} {k : Nat} (h : k < a.length) {off : Nat} (ho : off = k) : ((a ++ p).flatMap intC)[off]? = some (.int .i64 (a.getD k 0)) := by
  have := intAt (a := a ++ p) (k := k) (by rw [List.length_append]; omega) ho
  rw [this, List.getD_eq_getElem?_getD, List.getElem?_append_left h, ← List.getD_eq_getElem?_getD]
theorem take_snoc {α : Type} {l : List α} {d : α} {k : Nat} (h : k < l.length) : l.take (k + 1) = l.take k ++ [l.getD k d] := by
  rw [List.take_add_one, List.getElem?_eq_getElem h, List.getD_eq_getElem?_getD, List.getElem?_eq_getElem h]; rfl
end
end Go.Proofs.Ytkkgnalgmebfjaa
/- Functions that write one block that holds numbers and values alone, and read others: their contracts in every memory. No condition. -/
namespace Go.K
set_option linter.unusedSimpArgs false
open Go
set_option linter.unusedVariables false
noncomputable section
variable {P : Program}

theorem rn_VRw {ρ ρ' : Ren} {σ : Nat → Option Nat} (hσ : ∀ id id' r, σ id = some id' → ρ' id' = some r → ∃ r', ρ id = some r' ∧ r'.b = r.b ∧ r'.s = r.s ∧ (r'.own = false ∨ r' = r)) (hm : ∀ b m, ρ'.mem b = some m → ρ.mem b = some m) (hg : ∀ F F' k r, σ F = some F' → ρ'.g F' k = some r → ρ.g F k = some r) : ∀ (d : Nat) {v r : Value}, VR ρ' (rn σ d v) r → VR ρ v r := by
  intro d
  induction d with
  | zero => intro v r h; exact (VR.bad h).elim
  | succ d ih =>
    have ptr : ∀ {id id' off : Nat} {r : RI}, σ id = some id' → ρ' id' = some r → VR ρ (.pointer (some ⟨id, off, none⟩)) (.pointer (some ⟨r.b, off + r.s, none⟩)) := by
      intro id id' off r g k
      obtain ⟨r', a1, a2, a3, _⟩ := hσ _ _ _ g k
      rw [← a2, ← a3]; exact .ptr a1
    have slc : ∀ {id id' off len cap cap' : Nat} {r : RI}, σ id = some id' → ρ' id' = some r → len ≤ cap → cap ≤ cap' → (r.own = true → r.z ≠ 0 → off + r.s + cap' * r.z ≤ r.n) → VR ρ (.slice (some ⟨id, off, none⟩) len cap) (.slice (some ⟨r.b, off + r.s, none⟩) len cap') := by
      intro id id' off len cap cap' r g k hl hc ho
      obtain ⟨r', a1, a2, a3, a4⟩ := hσ _ _ _ g k
      rcases a4 with a4 | rfl
      · rw [← a2, ← a3]; exact .slice a1 hl hc (fun h => by rw [a4] at h; cases h)
      · exact .slice a1 hl hc ho
    have slQ : ∀ {id id' off len cap cap' : Nat} {r : RI}, σ id = some id' → ρ' id' = some r → 0 < len → len ≤ cap → cap ≤ cap' → (r.own = true → r.z ≠ 0 → off + r.s + cap' * r.z ≤ r.n) → VR ρ (.slice (some ⟨id, off, some 1⟩) len cap) (.slice (some ⟨r.b, off + r.s, none⟩) len cap') := by
      intro id id' off len cap cap' r g k hp hl hc ho
      obtain ⟨r', a1, a2, a3, a4⟩ := hσ _ _ _ g k
      rcases a4 with a4 | rfl
      · rw [← a2, ← a3]; exact .sliceQ a1 hp hl hc (fun h => by rw [a4] at h; cases h)
      · exact .sliceQ a1 hp hl hc ho
    have slR : ∀ {id id' off len cap cap' : Nat} {r : RI}, σ id = some id' → ρ' id' = some r → 0 < len → len ≤ cap → cap ≤ cap' → (r.own = true → r.z ≠ 0 → off + r.s + cap' * r.z ≤ r.n) → VR ρ (.slice (some ⟨id, off, some 2⟩) len cap) (.slice (some ⟨r.b, off + r.s, none⟩) len cap') := by
      intro id id' off len cap cap' r g k hp hl hc ho
      obtain ⟨r', a1, a2, a3, a4⟩ := hσ _ _ _ g k
      rcases a4 with a4 | rfl
      · rw [← a2, ← a3]; exact .sliceR a1 hp hl hc (fun h => by rw [a4] at h; cases h)
      · exact .sliceR a1 hp hl hc ho
    intro v r h
    unfold rn at h
    split at h
    · split at h
      · rename_i g; cases h with | ptr k => exact ptr g k
      · exact (VR.bad h).elim
    · split at h
      · rename_i g; cases h with | fptr k => exact .fptr (hg _ _ _ _ g k)
      · exact (VR.bad h).elim
    · split at h
      · rename_i g
        cases h with
        | slice k hl hc ho => exact slc g k hl hc ho
        | slice0 k => obtain ⟨r', a1, a2, a3, _⟩ := hσ _ _ _ g k; rw [← a2]; exact .slice0 a1
      · exact (VR.bad h).elim
    · split at h
      · rename_i g
        cases h with
        | sliceQn => exact .sliceQn
        | sliceQe => exact .sliceQe
        | sliceQ k hp hl hc ho => exact slQ g k hp hl hc ho
        | sliceRe => exact .sliceRe
        | sliceR k hp hl hc ho => exact slR g k hp hl hc ho
      · split at h
        · cases h with
          | sliceQn => exact .sliceQn
          | sliceQe => exact .sliceQe
          | sliceQ k hp hl hc ho => exact absurd hp (Nat.lt_irrefl 0)
          | sliceRe => exact .sliceRe
          | sliceR k hp hl hc ho => exact absurd hp (Nat.lt_irrefl 0)
        · exact (VR.bad h).elim
    · split at h
      · rename_i g; cases h with | map k => obtain ⟨r', a1, a2, _⟩ := hσ _ _ _ g k; rw [← a2]; exact .map a1
      · exact (VR.bad h).elim
    · split at h
      · rename_i g; cases h with | yield k => obtain ⟨r', a1, a2, _⟩ := hσ _ _ _ g k; rw [← a2]; exact .yield a1
      · exact (VR.bad h).elim
    · cases h with
      | func h1 h2 h3 h4 =>
        obtain ⟨a1, a2⟩ := arr_map ih h1 h2
        obtain ⟨b1, b2⟩ := arr_map ih h3 h4
        exact .func a1 a2 b1 b2
    · exact (VR.bad h).elim
    · cases h with | agg h1 h2 => obtain ⟨a1, a2⟩ := arr_map ih h1 h2; exact .agg a1 a2
    · cases h with | tuple h1 h2 => obtain ⟨a1, a2⟩ := arr_map ih h1 h2; exact .tuple a1 a2
    · cases h with
      | deep g1 g2 g3 g4 g5 => obtain ⟨a1, a2⟩ := deep_map ih g4 g5; exact .deep (hm _ _ g1) g2 g3 a1 a2
      | deep0 => exact .deep0
    · cases h with | deepP g1 g2 g3 => obtain ⟨a1, a2⟩ := deep_map ih g2 g3; exact .deepP (hm _ _ g1) a1 a2
    · rename_i n1 n1f n2 n2q n3 n4 n5 n6 n7 n8 n9 n10
      cases h with
      | junk => exact .junk _
      | bool b => exact .bool b
      | int k n => exact .int k n
      | float k n => exact .float k n
      | string s => exact .string s
      | ptrNil => exact .ptrNil
      | ptr k => exact absurd rfl (n1 _ _)
      | fptr k => exact absurd rfl (n1f _ _ _)
      | sliceNil => exact .sliceNil
      | slice k hl hc ho => exact absurd rfl (n2 _ _ _ _)
      | slice0 k => exact absurd rfl (n2 _ _ _ _)
      | sliceE => exact .sliceE
      | sliceQn => exact .sliceQn
      | sliceQe => exact .sliceQe
      | sliceQ => exact absurd rfl (n2q _ _ _ _ _)
      | sliceRe => exact .sliceRe
      | sliceR => exact absurd rfl (n2q _ _ _ _ _)
      | mapNil => exact .mapNil
      | map k => exact absurd rfl (n3 _)
      | nilFunc => exact .nilFunc
      | nilIface => exact .nilIface
      | func h1 h2 h3 h4 => exact absurd rfl (n5 _ _ _)
      | yield k => exact absurd rfl (n4 _)
      | agg h1 h2 => exact absurd rfl (n7 _)
      | tuple h1 h2 => exact absurd rfl (n8 _)
      | deep => exact absurd rfl (n9 _ _)
      | deep0 => exact absurd rfl (n9 _ _)
      | deepP => exact absurd rfl (n10 _ _)

/-- Blocks that are read; one that is written. -/
structure ReadsW (P : Program) (H0 H : Heap) (σ : Nat → Option Nat) (d k D z : Nat) (c0 : List Value) : Prop where
  glob : ∀ g, g < P.globals.size → σ g = some g
  dom : ∀ id id', σ id = some id' → id < H0.length
  len : P.globals.size ≤ H0.length
  k0 : H0[k]? = some (.cells true z c0)
  hk : σ k = some D
  hD : H[D]? = some (.cells true z c0)
  pl : c0.all (belowC 0) = true
  obj : ∀ (id : Nat) (o : KObj), id ≠ k → H0[id]? = some o → o = .dead ∨ ∃ cs, o = .cells false 0 cs
  ne : ∀ (id : Nat) (cs : List Value), H0[id]? = some (.cells false 0 cs) → σ id ≠ some D
  rd : ∀ (id id' : Nat) (cs : List Value), σ id = some id' → H0[id]? = some (.cells false 0 cs) → ∃ own z, H[id']? = some (.cells own z (cs.map (rn σ d)))
theorem plain_obj {ρ ρ' : Ren} {r : RI} {own : Bool} {z : Nat} {cs : List Value} {w : World} (hm : ∀ b m, ρ.mem b = some m → ρ'.mem b = some m) (hp : cs.all (belowC 0) = true) (h : ObjRel ρ r (.cells own z cs) w) : ObjRel ρ' r (.cells own z cs) w := by
  obtain ⟨h1, h2, cs', ty, fz, h3, h4, h5, h6⟩ := h
  refine ⟨h1, h2, cs', ty, fz, h3, h4, h5, fun i v hv => ?_⟩
  obtain ⟨v', g1, g2⟩ := h6 i v hv
  rw [List.all_eq_true] at hp
  exact ⟨v', g1, belowC_VR (ρ := ρ') (ρ' := ρ) (fun i r hi => absurd hi (Nat.not_lt_zero _)) hm (hp v (List.mem_of_getElem? hv)) g2⟩
theorem KCall.writes {f : FuncId} {args : List Value} {H0 H new : Heap} {v : Value} {σ : Nat → Option Nat} {d k D z : Nat} {c0 c1 : List Value} (hp : ReadsW P H0 H σ d k D z c0) (h : KCall P f args H0 [k] (Is v (H0.set k (.cells true z c1) ++ new)))
    (h1p : c1.all (belowC 0) = true) (hv : rnOk d v = true) (hv2 : rn (sgOnly H0.length) d v = v) (hn : new.all (fun o => rnoOk d o && o.owned) = true) (hn2 : new.map (rno (sgOnly H0.length) d) = new) :
    KCall P f (args.map (rn σ d)) H [D] (Is (rn (sgUp H0.length H.length) d v) (H.set D (.cells true z c1) ++ new.map (rno (sgUp H0.length H.length) d))) := by
  refine ⟨h.1, fun B ρ w args' hr ha => ?_⟩
  let ρs : Ren := ⟨fun id => (σ id).bind fun id' => (ρ id').map fun r => if id = k then r else ⟨r.b, r.s, r.n, 0, false⟩, ρ.mem, fun F k => (σ F).bind fun F' => ρ.g F' k⟩
  have hσ : ∀ id id' r, σ id = some id' → ρ id' = some r → ρs id = some (if id = k then r else ⟨r.b, r.s, r.n, 0, false⟩) := by
    intro id id' r h1 h2; show Option.bind _ _ = _; rw [h1]; show Option.map _ _ = _; rw [h2]; rfl
  have hσd : ∀ id id' r, σ id = some id' → ρ id' = some r → ∃ r', ρs id = some r' ∧ r'.b = r.b ∧ r'.s = r.s ∧ (r'.own = false ∨ r' = r) := fun id id' r h1 h2 => by
    refine ⟨_, hσ _ _ _ h1 h2, ?_⟩
    split
    · exact ⟨rfl, rfl, .inr rfl⟩
    · exact ⟨rfl, rfl, .inl rfl⟩
  have hσg : ∀ F F' k r, σ F = some F' → ρ.g F' k = some r → ρs.g F k = some r := by intro F F' k r h1 h2; show Option.bind _ _ = _; rw [h1]; exact h2
  have hsomeg : ∀ {F k r}, ρs.g F k = some r → ∃ F', σ F = some F' ∧ ρ.g F' k = some r := fun h => Option.bind_eq_some_iff.1 h
  have hnf : ∀ {F k r z cs}, FM ρs H0 F k r z cs → False := fun {F k' r z' cs} m => by
    by_cases e : F = k
    · have := m.h; rw [e, hp.k0] at this; cases this
    · rcases hp.obj F _ e m.h with h | ⟨_, h⟩ <;> cases h
  have hsome : ∀ {id r}, ρs id = some r → ∃ id' r0, σ id = some id' ∧ ρ id' = some r0 ∧ r = if id = k then r0 else ⟨r0.b, r0.s, r0.n, 0, false⟩ := by
    intro id r h
    obtain ⟨id', h1, h2⟩ := Option.bind_eq_some_iff.1 h
    obtain ⟨r0, h3, h4⟩ := Option.map_eq_some_iff.1 h2
    exact ⟨id', r0, h1, h3, h4.symm⟩
  have hsk : ∀ {r}, ρs k = some r → ρ D = some r := fun {r} h => by
    obtain ⟨id', r0, h1, h2, h3⟩ := hsome h
    rw [if_pos rfl] at h3
    subst h3
    rw [hp.hk] at h1; cases h1; exact h2
  have hown : ∀ (id : Nat) (o : KObj), H0[id]? = some o → o.owned = true → id = k := by
    intro id o h1 h2
    by_cases e : id = k
    · exact e
    · rcases hp.obj id o e h1 with rfl | ⟨cs, rfl⟩ <;> cases h2
  have hDo : (KObj.cells true z c0).owned = true := rfl
  -- other names lie elsewhere
  have hoth : ∀ {id r o rD}, id ≠ k → ρs id = some r → H0[id]? = some o → o.alive = true → ρ D = some rD → rD.b ≠ r.b := fun {id r o rD} e h1 h2 h3 h4 => by
    rcases hp.obj id o e h2 with rfl | ⟨cs, rfl⟩
    · cases h3
    · obtain ⟨id', r0, k1, k2, rfl⟩ := hsome h1
      obtain ⟨own, z', g⟩ := hp.rd id id' cs k1 h2
      rw [if_neg e]
      exact hr.sep D id' rD r0 _ _ h4 k2 hp.hD g hDo rfl (fun q => hp.ne id cs h2 (by rw [k1, q]))
  have hr0 : Rel P B ρs H0 w := by
    refine ⟨hr.bsize, fun g hg => ?_, fun id r h => ?_, fun id r h => ?_, fun id r o h1 h2 => ?_, fun id r o h1 h2 h3 => ?_, fun id1 id2 r1 r2 o1 o2 h1 h2 g1 g2 k1 k2 hne => ?_, fun b m hb => ⟨(hr.mem b m hb).1, fun id r o h1 h2 h3 => ?_⟩,
      ⟨fun F k r h => by obtain ⟨F', k1, _⟩ := hsomeg h; exact hp.dom _ _ k1, fun F k r h => by obtain ⟨F', _, k2⟩ := hsomeg h; exact hr.fam.lt _ _ _ k2, fun _ _ _ _ _ m => (hnf m).elim, fun _ _ _ _ _ m => (hnf m).elim, fun _ _ _ _ _ _ _ _ _ _ m => (hnf m).elim, fun _ _ _ _ _ _ _ _ m => (hnf m).elim, fun _ _ _ _ _ _ _ m => (hnf m).elim⟩⟩
    · obtain ⟨r, k1, k2, k3⟩ := hr.glob g hg
      refine ⟨_, hσ g g r (hp.glob g hg) k1, ?_⟩
      split
      · exact ⟨k2, k3⟩
      · exact ⟨k2, k3⟩
    · obtain ⟨id', r0, h1, _, _⟩ := hsome h; exact hp.dom _ _ h1
    · obtain ⟨id', r0, _, h2, rfl⟩ := hsome h
      have := hr.lt id' r0 h2
      split <;> exact this
    · by_cases e : id = k
      · subst e
        rw [hp.k0] at h2; cases h2
        exact plain_obj (ρ := ρ) (ρ' := ρs) (fun _ _ h => h) hp.pl (hr.obj D r _ (hsk h1) hp.hD)
      · obtain ⟨id', r0, k1, k2, rfl⟩ := hsome h1
        rw [if_neg e]
        rcases hp.obj id o e h2 with rfl | ⟨cs, rfl⟩
        · trivial
        · obtain ⟨own, z, g⟩ := hp.rd id id' cs k1 h2
          obtain ⟨e1, e2, cs', ty, fz, hb, hnz, hfz, hcs⟩ := hr.obj _ _ _ k2 g
          refine ⟨rfl, rfl, cs', ty, fz, hb, hnz, fun h => (by cases h), fun i x hx => ?_⟩
          obtain ⟨x', y1, y2⟩ := hcs i (rn σ d x) (by rw [List.getElem?_map, hx]; rfl)
          exact ⟨x', y1, rn_VRw hσd (fun _ _ h => h) hσg d y2⟩
    · obtain rfl := hown id o h2 h3
      exact hr.base D r _ (hsk h1) hp.hD hDo
    · obtain rfl := hown id1 o1 g1 k1
      exact hoth (Ne.symm hne) h2 g2 k2 (hsk h1)
    · obtain rfl := hown id o h2 h3
      exact (hr.mem b m hb).2 D r _ (hsk h1) hp.hD hDo
  have ha0 : VRl ρs args args'.toList := ⟨by have := ha.1; simpa using this, fun i x x' a b => rn_VRw hσd (fun _ _ h => h) hσg d (ha.2 i (rn σ d x) x' (by rw [List.getElem?_map, a]; rfl) b)⟩
  refine (h.2 B ρs w args' hr0 ha0).mono ?_
  rintro e w' ⟨v1, v', ρ1, H1, rfl, hv', hpost, rfl, rfl⟩
  have hkl : k < H0.length := (List.getElem?_eq_some_iff.1 hp.k0).1
  have hDl : D < H.length := (List.getElem?_eq_some_iff.1 hp.hD).1
  have h1k : (H0.set k (.cells true z c1) ++ new)[k]? = some (.cells true z c1) := by
    rw [List.getElem?_append_left (by simpa using hkl), List.getElem?_set_self hkl]
  have h1o : ∀ i, i < H0.length → i ≠ k → (H0.set k (.cells true z c1) ++ new)[i]? = H0[i]? := fun i hi e => by
    rw [List.getElem?_append_left (by simpa using hi), List.getElem?_set_ne (Ne.symm e)]
  have h1n : ∀ i, H0.length ≤ i → (H0.set k (.cells true z c1) ++ new)[i]? = new[i - H0.length]? := fun i hi => by
    rw [List.getElem?_append_right (by simpa using hi)]; simp
  have hOBk : ∀ b, OB ρs H0 b → ∃ rD, ρ D = some rD ∧ ρs k = some rD ∧ rD.b = b := fun b h => h.elim (fun ⟨id, r, o, h1, h2, h3, h4⟩ => by
      obtain rfl := hown id o h2 h3
      exact ⟨r, hsk h1, h1, h4⟩) (fun ⟨_, _, _, _, _, m, _⟩ => (hnf m).elim)
  have hOB : ∀ b, OB ρs H0 b → OB ρ H b := fun b h => by
    obtain ⟨rD, h1, _, h2⟩ := hOBk b h
    exact .inl ⟨D, rD, _, h1, hp.hD, hDo, h2⟩
  let ρ2 : Ren := ⟨fun id => if id < H.length then ρ id else ρ1 (H0.length + (id - H.length)), ρ1.mem, fun F k => if F < H.length then ρ.g F k else ρ1.g (H0.length + (F - H.length)) k⟩
  let ρn : Ren := ⟨fun id => if id < H0.length then none else ρ1 id, ρ1.mem, fun F k => if F < H0.length then none else ρ1.g F k⟩
  have hn1 : ∀ id id' r, sgOnly H0.length id = some id' → ρ1 id' = some r → ρn id = some r := by
    intro id id' r h1 h2
    unfold sgOnly at h1
    split at h1
    · cases h1
    · rename_i hlt; cases h1; show (if _ then _ else _) = _; rw [if_neg hlt]; exact h2
  have hn1g : ∀ F F' k r, sgOnly H0.length F = some F' → ρ1.g F' k = some r → ρn.g F k = some r := by
    intro F F' k r h1 h2
    unfold sgOnly at h1
    split at h1
    · cases h1
    · rename_i hlt; cases h1; show (if _ then _ else _) = _; rw [if_neg hlt]; exact h2
  have hfwdg : ∀ F k r, ρn.g F k = some r → ∃ F', sgUp H0.length H.length F = some F' ∧ ρ2.g F' k = some r := by
    intro F k r h1
    have h1' : (if F < H0.length then none else ρ1.g F k) = some r := h1
    split at h1'
    · cases h1'
    · rename_i hlt
      refine ⟨_, if_neg hlt, ?_⟩
      show (if _ then _ else _) = _
      rw [if_neg (by omega), show H0.length + (H.length + (F - H0.length) - H.length) = F by omega]; exact h1'
  have hfwd : ∀ id r, ρn id = some r → ∃ id', sgUp H0.length H.length id = some id' ∧ ρ2 id' = some r := by
    intro id r h1
    have h1' : (if id < H0.length then none else ρ1 id) = some r := h1
    split at h1'
    · cases h1'
    · rename_i hlt
      refine ⟨_, if_neg hlt, ?_⟩
      show (if _ then _ else _) = _
      rw [if_neg (by omega), show H0.length + (H.length + (id - H0.length) - H.length) = id by omega]; exact h1'
  have hext : Ren.le ρ ρ2 := ⟨fun id r h1 => by
    show (if _ then _ else _) = _
    rw [if_pos (hr.dom _ _ h1)]; exact h1, hpost.ext.mem, fun F k r h1 => by
    show (if _ then _ else _) = _
    rw [if_pos (hr.fam.dom _ _ _ h1)]; exact h1⟩
  have hnew : ∀ (k : Nat) (o : KObj), new[k]? = some o → rnoOk d o = true ∧ o.owned = true ∧ rno (sgOnly H0.length) d o = o := by
    intro k o hk
    rw [List.all_eq_true] at hn
    have := hn o (List.mem_of_getElem? hk)
    simp only [Bool.and_eq_true] at this
    refine ⟨this.1, this.2, ?_⟩
    have h3 : (new.map (rno (sgOnly H0.length) d))[k]? = some o := by rw [hn2]; exact hk
    rw [List.getElem?_map, hk] at h3
    exact Option.some.inj h3
  have hoa : ∀ o : KObj, o.owned = true → o.alive = true := by intro o ho; cases o <;> first | rfl | cases ho
  have hfresh : ∀ id r o, H0.length ≤ id → ρ1 id = some r → new[id - H0.length]? = some o → w.heap.size ≤ r.b := by
    intro id r o hid h1 h2
    have ho : o.owned = true := (hnew _ _ h2).2.1
    rcases Nat.lt_or_ge r.b w.heap.size with hlt | hge
    · obtain ⟨rD, k1, k2, k3⟩ := hOBk _ (hpost.ob r.b hlt (.inl ⟨id, r, o, h1, by rw [h1n id hid]; exact h2, ho, rfl⟩))
      exact absurd k3 (hpost.rel.sep k id rD r _ o (hpost.ext _ _ k2) h1 h1k (by rw [h1n id hid]; exact h2) rfl (hoa _ ho) (by omega))
    · exact hge
  have hgetD : (H.set D (.cells true z c1) ++ new.map (rno (sgUp H0.length H.length) d))[D]? = some (.cells true z c1) := by
    rw [List.getElem?_append_left (by simpa using hDl), List.getElem?_set_self hDl]
  have hgeto : ∀ id, id < H.length → id ≠ D → (H.set D (.cells true z c1) ++ new.map (rno (sgUp H0.length H.length) d))[id]? = H[id]? := fun id hid e => by
    rw [List.getElem?_append_left (by simpa using hid), List.getElem?_set_ne (Ne.symm e)]
  have hback : ∀ id o, id < H.length → (H.set D (.cells true z c1) ++ new.map (rno (sgUp H0.length H.length) d))[id]? = some o → ∃ o', H[id]? = some o' ∧ o'.owned = o.owned ∧ o'.alive = o.alive := fun id o hid h2 => by
    by_cases e : id = D
    · subst e
      rw [hgetD] at h2; cases h2
      exact ⟨_, hp.hD, rfl, rfl⟩
    · rw [hgeto id hid e] at h2; exact ⟨o, h2, rfl, rfl⟩
  have hgetn : ∀ id o', H.length ≤ id → (H.set D (.cells true z c1) ++ new.map (rno (sgUp H0.length H.length) d))[id]? = some o' → ∃ o, new[id - H.length]? = some o ∧ o' = rno (sgUp H0.length H.length) d o ∧ rnoOk d o = true ∧ o.owned = true ∧ rno (sgOnly H0.length) d o = o := by
    intro id o' hid h2
    rw [List.getElem?_append_right (by simpa using hid), List.getElem?_map, List.length_set] at h2
    obtain ⟨o, a1, rfl⟩ := Option.map_eq_some_iff.1 h2
    obtain ⟨x1, x2, x3⟩ := hnew _ _ a1
    exact ⟨o, a1, rfl, x1, x2, x3⟩
  have hvn : VR ρn v1 v' := by
    have : VR ρ1 (rn (sgOnly H0.length) d v1) v' := by rw [hv2]; exact hv'
    exact rn_VR hn1 (fun _ _ h => h) hn1g d this
  refine ⟨_, v', ρ2, _, rfl, VR_rn hfwd (fun _ _ h => h) hfwdg d hv hvn, ?_, rfl, rfl⟩
  have fr : ∀ id r o, ¬ id < H.length → ρ1 (H0.length + (id - H.length)) = some r → (H.set D (.cells true z c1) ++ new.map (rno (sgUp H0.length H.length) d))[id]? = some o → w.heap.size ≤ r.b := by
    intro id r o hid a b
    obtain ⟨o0, a1, _, _, _, _⟩ := hgetn id o (by omega) b
    exact hfresh _ r o0 (by omega) a (by rw [show H0.length + (id - H.length) - H0.length = id - H.length by omega]; exact a1)
  have u : ∀ id, ρ2 id = if id < H.length then ρ id else ρ1 (H0.length + (id - H.length)) := fun _ => rfl
  have hnob : ∀ id r o, ρ id = some r → H[id]? = some o → o.alive = true → id ≠ D → ¬ OB ρs H0 r.b := fun id r o a b c e q => by
    obtain ⟨rD, k1, _, k3⟩ := hOBk _ q
    exact hr.sep D id rD r _ o k1 a hp.hD b hDo c (Ne.symm e) k3
  have hfm : ∀ {F k r z' cs}, FM ρ2 (H.set D (.cells true z c1) ++ new.map (rno (sgUp H0.length H.length) d)) F k r z' cs → FM ρ H F k r z' cs := fun {F k r z' cs} m => by
    have h1 : (if F < H.length then ρ.g F k else ρ1.g (H0.length + (F - H.length)) k) = some r := m.g
    rcases Nat.lt_or_ge F H.length with h | h
    · rw [if_pos h] at h1
      refine ⟨h1, ?_⟩
      by_cases e : F = D
      · have := m.h; rw [e, hgetD] at this; cases this
      · rw [← hgeto F h e]; exact m.h
    · obtain ⟨o, _, e, g1, g2, _⟩ := hgetn F _ h m.h
      cases o <;> first | (cases g1; done) | (cases g2; done) | (cases e; done)
  have hfam : FRel B ρ2 (H.set D (.cells true z c1) ++ new.map (rno (sgUp H0.length H.length) d)) w' := by
    refine ⟨fun F k r h1 => ?_, fun F k r h1 => ?_, fun F k r z cs m => hr.fam.base _ _ _ _ _ (hfm m), fun F k r z cs m => (hr.fam.obj _ _ _ _ _ (hfm m)).mono hext (hpost.keep _ (hr.fam.lt _ _ _ (hfm m).g) (fun q => ?_)),
      fun F k r z cs F' k' r' z' cs' m m' => hr.fam.sep _ _ _ _ _ _ _ _ _ _ (hfm m) (hfm m'), fun F k r z cs id r' o m h1 h2 h3 => ?_, fun F k r z cs b m' m hb => ?_⟩
    · have h1 : (if F < H.length then ρ.g F k else ρ1.g (H0.length + (F - H.length)) k) = some r := h1
      rcases Nat.lt_or_ge F H.length with h | h
      · simp; omega
      · rw [if_neg (by omega)] at h1
        have := hpost.rel.fam.dom _ _ _ h1
        simp at this ⊢; omega
    · have h1 : (if F < H.length then ρ.g F k else ρ1.g (H0.length + (F - H.length)) k) = some r := h1
      rcases Nat.lt_or_ge F H.length with h | h
      · rw [if_pos h] at h1
        exact Nat.lt_of_lt_of_le (hr.fam.lt _ _ _ h1) hpost.size
      · rw [if_neg (by omega)] at h1
        exact hpost.rel.fam.lt _ _ _ h1
    · obtain ⟨rD, k1, _, k3⟩ := hOBk _ q
      exact hr.fam.sep2 _ _ _ _ _ D rD _ (hfm m) k1 hp.hD rfl k3
    · rw [u] at h1
      rcases Nat.lt_or_ge id H.length with h | h
      · rw [if_pos h] at h1
        obtain ⟨o', b1, _, b3⟩ := hback id o h h2
        exact hr.fam.sep2 _ _ _ _ _ id r' o' (hfm m) h1 b1 (by rw [b3]; exact h3)
      · rw [if_neg (by omega)] at h1
        have := fr id r' o (by omega) h1 h2
        have := hr.fam.lt _ _ _ (hfm m).g
        omega
    · have hb : ρ1.mem b = some m' := hb
      rcases hpost.frz b m' hb with g | g | g
      · exact hr.fam.mem _ _ _ _ _ b m' (hfm m) g
      · have := hr.fam.lt _ _ _ (hfm m).g; omega
      · obtain ⟨rD, k1, _, k3⟩ := hOBk _ g
        exact fun q => hr.fam.sep2 _ _ _ _ _ D rD _ (hfm m) k1 hp.hD rfl (k3.trans q.symm)
  refine ⟨⟨Nat.le_trans hr.bsize hpost.size, fun g hg => ?_, fun id r h1 => ?_, fun id r h1 => ?_, fun id r o h1 h2 => ?_, fun id r o h1 h2 h3 => ?_, fun id1 id2 r1 r2 o1 o2 h1 h2 g1 g2 k1 k2 hne => ?_, fun b m hb => ⟨(hpost.rel.mem b m hb).1, fun id r o h1 h2 h3 => ?_⟩, hfam⟩, hext, fun id r h1 h2 => ?_, by simp, fun id h1 h2 => hgeto id h1 (fun e => h2 (by rw [e]; exact List.mem_singleton.2 rfl)), hpost.size, fun b h1 h2 => hpost.keep b h1 (fun q => h2 (hOB b q)), fun b h1 h2 => ?_, hpost.os, hpost.tape, hpost.output, fun b m hb => (hpost.frz b m hb).imp id fun h => h.imp id (hOB b), hpost.drawn, fun F k r h1 h2 => .inl (by
    have h1 : (if F < H.length then ρ.g F k else ρ1.g (H0.length + (F - H.length)) k) = some r := h1
    rcases Nat.lt_or_ge F H.length with h | h
    · rw [if_pos h, h2] at h1; cases h1
    · exact h)⟩
  · obtain ⟨r, k1, k2, k3⟩ := hr.glob g hg; exact ⟨r, hext _ _ k1, k2, k3⟩
  · rw [u] at h1
    split at h1
    · rw [List.length_append, List.length_set]; omega
    · rename_i hid
      have := hpost.rel.dom _ _ h1
      rw [List.length_append, List.length_set] at this
      rw [List.length_append, List.length_map, List.length_set]; omega
  · rw [u] at h1
    split at h1
    · exact Nat.lt_of_lt_of_le (hr.lt _ _ h1) hpost.size
    · exact hpost.rel.lt _ _ h1
  · rw [u] at h1
    split at h1
    · rename_i hid
      by_cases e : id = D
      · subst e
        rw [hgetD] at h2; cases h2
        have hk1 : ρs k = some r := by have := hσ _ _ _ hp.hk h1; rw [if_pos rfl] at this; exact this
        exact plain_obj (ρ := ρ1) (ρ' := ρ2) (fun _ _ h => h) h1p (hpost.rel.obj k r _ (hpost.ext _ _ hk1) h1k)
      · rw [hgeto id hid e] at h2
        cases hal : o.alive with
        | true => exact (hr.obj _ _ _ h1 h2).mono hext (hpost.keep _ (hr.lt _ _ h1) (hnob id r o h1 h2 hal e))
        | false => cases o <;> first | trivial | cases hal
    · rename_i hid
      obtain ⟨o0, a1, rfl, a3, a4, a5⟩ := hgetn id o (by omega) h2
      have h6 := hpost.rel.obj _ _ _ h1 (show _ = some o0 by rw [h1n _ (by omega), show H0.length + (id - H.length) - H0.length = id - H.length by omega]; exact a1)
      rw [← a5] at h6
      have hd : rno (sgOnly H0.length) d o0 = .dead → o0 = .dead := fun he => by rw [a5] at he; exact he
      exact rel_rno hfwd (fun _ _ h => h) hfwdg a3 (rno_rel hn1 (fun _ _ h => h) hn1g h6 hd)
  · rw [u] at h1
    split at h1
    · rename_i hid
      obtain ⟨o', b1, b2, _⟩ := hback id o hid h2
      exact hr.base _ _ _ h1 b1 (by rw [b2]; exact h3)
    · rename_i hid
      obtain ⟨o0, a1, _, a3, a4, _⟩ := hgetn id o (by omega) h2
      exact hpost.rel.base _ _ _ h1 (show _ = some o0 by rw [h1n _ (by omega), show H0.length + (id - H.length) - H0.length = id - H.length by omega]; exact a1) a4
  · rw [u] at h1 h2
    by_cases c1' : id1 < H.length
    · rw [if_pos c1'] at h1
      obtain ⟨p1, b1, b2, _⟩ := hback id1 o1 c1' g1
      by_cases c2 : id2 < H.length
      · rw [if_pos c2] at h2
        obtain ⟨p2, d1, _, d3⟩ := hback id2 o2 c2 g2
        exact hr.sep id1 id2 r1 r2 p1 p2 h1 h2 b1 d1 (by rw [b2]; exact k1) (by rw [d3]; exact k2) hne
      · rw [if_neg c2] at h2
        have := hr.lt _ _ h1
        have := fr id2 r2 o2 c2 h2 g2
        omega
    · rw [if_neg c1'] at h1
      have f1 := fr id1 r1 o1 c1' h1 g1
      by_cases c2 : id2 < H.length
      · rw [if_pos c2] at h2
        have := hr.lt _ _ h2
        omega
      · rw [if_neg c2] at h2
        obtain ⟨p1, a1, _, _, a4, _⟩ := hgetn id1 o1 (by omega) g1
        obtain ⟨p2, b1, _, _, b4, _⟩ := hgetn id2 o2 (by omega) g2
        exact hpost.rel.sep _ _ r1 r2 p1 p2 h1 h2 (by rw [h1n _ (by omega), show H0.length + (id1 - H.length) - H0.length = id1 - H.length by omega]; exact a1) (by rw [h1n _ (by omega), show H0.length + (id2 - H.length) - H0.length = id2 - H.length by omega]; exact b1) a4 (hoa _ b4) (by omega)
  · rw [u] at h1
    split at h1
    · rename_i hid
      obtain ⟨o', b1, b2, _⟩ := hback id o hid h2
      intro he
      rcases hpost.frz b m hb with g | g | g
      · exact (hr.mem b m g).2 id r o' h1 b1 (by rw [b2]; exact h3) he
      · have := hr.lt _ _ h1; omega
      · obtain ⟨rD, k1, k2, k3⟩ := hOBk _ g
        exact (hpost.rel.mem b m hb).2 k rD _ (hpost.ext _ _ k2) h1k rfl k3
    · rename_i hid
      obtain ⟨o0, a1, _, a3, a4, _⟩ := hgetn id o (by omega) h2
      exact (hpost.rel.mem b m hb).2 _ r o0 h1 (by rw [h1n _ (by omega), show H0.length + (id - H.length) - H0.length = id - H.length by omega]; exact a1) a4
  · rw [u] at h1
    split at h1
    · rw [h2] at h1; cases h1
    · omega
  · rcases h2 with ⟨id, r, o, k1, k2, k3, k4⟩ | ⟨F, k, r, z, cs, m, e⟩
    · rw [u] at k1
      split at k1
      · rename_i hid
        obtain ⟨o', b1, b2, _⟩ := hback id o hid k2
        exact .inl ⟨id, r, o', k1, b1, by rw [b2]; exact k3, k4⟩
      · rename_i hid
        have := fr id r o hid k1 k2
        omega
    · exact .inr ⟨F, k, r, z, cs, hfm m, e⟩
end
end Go.K
/- Functions that write one block, run by the kernel. No condition. -/
namespace Go.K
set_option linter.unusedSimpArgs false
open Go
set_option linter.unusedVariables false
noncomputable section
attribute [local irreducible] vF
variable {P : Program}
/-- A function that writes block k and answers with new blocks. -/
def newKW (n0 d k : Nat) (o : KObj) (v : Value) (new : List (Bool × KObj)) : KV := fun v' H' h' =>
  match h' with
  | .again σ => sgOk n0 (n0 + new.length) [(k, true, o)] σ = true ∧ wk v' (rn (sg n0 σ) d v) ∧ chgOk H' n0 (sg n0 σ) d [(k, true, o)] ∧ newOk H' n0 (sg n0 σ) d n0 new
  | _ => False
theorem KCall.packW {f : FuncId} {args : List Value} {H0 : HT} {v : Value} {new : List (Bool × KObj)} {d k : Nat} {o : KObj} (hk : k < H0.n)
    (h : KCall P f args H0.list [k] (fun v' H' => ∃ (H2 : HT) (σ : List (Nat × Nat)), H' = H2.list ∧ sgOk H0.n (H0.n + new.length) [(k, true, o)] σ = true ∧ wk v' (rn (sg H0.n σ) d v) ∧ chgOk H2 H0.n (sg H0.n σ) d [(k, true, o)] ∧ newOk H2 H0.n (sg H0.n σ) d H0.n new)) :
    KCall P f args H0.list [k] (Is v (H0.list.set k o ++ new.map (·.2))) := by
  refine ⟨h.1, fun B ρ w args' hr ha => (h.2 B ρ w args' hr ha).mono ?_⟩
  rintro e w' ⟨v', r, ρ', H', rfl, hv, hp, H2, σ, rfl, hs, hw, hc, hn⟩
  have hm : memB k [k] = true := by unfold memB; rw [Nat.beq_refl]; rfl
  have hb : Nat.blt k H0.n = true := Nat.ble_eq_true_of_le hk
  have hh : headOk 0 ⟨fun _ => junk, .leaf⟩ H2 H0 d [k] σ [] [(k, true, o)] new [] := by
    refine ⟨?_, trivial, hc, hn, trivial⟩
    simp only [Bool.and_eq_true]
    refine ⟨hs, ?_, rfl, ?_⟩
    · show cond (memB k [k]) (cond (Nat.blt k H0.n) true false) false = true
      rw [hm, hb]; rfl
    · show cond (cond (Nat.beq k k || false) true (List.any [] _)) true false = true
      rw [Nat.beq_refl]; rfl
  have he := headOk_emb hh
  have hlist : (headH H0 [(k, true, o)] new []).list = H0.list.set k o ++ new.map (·.2) := by
    have key : ∀ (l : List (Bool × KObj)) (H : HT), (l.foldl (fun H p => H.push p.2) H).list = H.list ++ l.map (·.2) := by
      intro l
      induction l with
      | nil => intro H; simp
      | cons p l ih => intro H; rw [List.foldl_cons, ih, HT.list_push]; simp
    have := key new (H0.set k o)
    rw [HT.list_set] at this
    exact this
  rw [hlist] at he
  obtain ⟨q1, _⟩ := he.post hr hp
  refine ⟨v, r, renBy ρ' (sg H0.n σ), _, rfl, ?_, q1, rfl, rfl⟩
  have hσ : ∀ id id' r, sg H0.n σ id = some id' → ρ' id' = some r → (renBy ρ' (sg H0.n σ)) id = some r := fun id id' r h1 h2 => by show Option.bind _ _ = _; rw [h1]; exact h2
  exact rn_VR (ρ' := ρ') (ρ := renBy ρ' (sg H0.n σ)) hσ (fun _ _ h => h) (fun F F' k r h1 h2 => by show Option.bind _ _ = _; rw [h1]; exact h2) d (hw _ _ hv)
/-- A memory of one block that is written, and some that are read. -/
def readsW (G z : Nat) (c0 : List Value) (css : List (List Value)) : HT := css.foldl (fun H cs => H.push (.cells false 0 cs)) (HT.push ⟨G, .leaf⟩ (.cells true z c0))
def sgRW (G D : Nat) (ids : List Nat) (i : Nat) : Option Nat := if i < G then some i else if i = G then some D else ids[i - G - 1]?
theorem readsW_n (G z : Nat) (c0 : List Value) (css : List (List Value)) : (readsW G z c0 css).n = G + 1 + css.length := (readsT_get G css (HT.push ⟨G, .leaf⟩ (.cells true z c0)) 0).1
theorem readsW_list (G z : Nat) (c0 : List Value) (css : List (List Value)) (id : Nat) : (readsW G z c0 css).list[id]? = if id < G then some .dead else if id = G then some (.cells true z c0) else (css[id - G - 1]?).map (fun cs => KObj.cells false 0 cs) := by
  rw [show (readsW G z c0 css).list[id]? = _ from (readsT_get G css (HT.push ⟨G, .leaf⟩ (.cells true z c0)) id).2]
  show (if id < G + 1 then _ else _) = _
  have hl : (HT.list ⟨G, .leaf⟩).length = G := HT.length _
  have h0 : ∀ i, i < G → (HT.list ⟨G, .leaf⟩)[i]? = some .dead := fun i hi => by
    have := readsT_list G [] i
    rw [if_pos hi] at this
    exact this
  rw [HT.list_push]
  by_cases h : id < G
  · rw [if_pos (by omega), if_pos h, List.getElem?_append_left (by omega)]
    exact h0 id h
  · rw [if_neg h]
    by_cases e : id = G
    · subst e
      rw [if_pos (by omega), if_pos rfl, List.getElem?_append_right (by omega), hl, Nat.sub_self]; rfl
    · rw [if_neg (by omega), if_neg e]
      show Option.map _ css[id - (G + 1)]? = _
      rw [show id - (G + 1) = id - G - 1 by omega]
theorem vcW {mixed : Bool} {mask : Nat} {dm : Value → MS} {rounds : Nat} (hmask : MaskOk P mixed mask) (hmix : mixed = true → P.follows .mixedOrders = true) (n : Nat) {f : FuncId} {args : List Value} {css : List (List Value)} {h : Hint} {v : Value} {new : List (Bool × KObj)} {z : Nat} {c0 c1 : List Value}
    (hc : vF P mask dm rounds mixed n true f args (readsW P.globals.size z c0 css) (some [P.globals.size]) h (newKW (readsW P.globals.size z c0 css).n 3 P.globals.size (.cells true z c1) v new))
    (hp0 : c0.all (belowC 0) = true) (hp1 : c1.all (belowC 0) = true) (hcss : ∀ cs ∈ css, cs.all (belowC 0) = true)
    (hv : rnOk 3 v = true) (hv2 : rn (sgOnly (P.globals.size + 1 + css.length)) 3 v = v) (hn : (new.map (·.2)).all (fun o => rnoOk 3 o && o.owned) = true) (hn2 : (new.map (·.2)).map (rno (sgOnly (P.globals.size + 1 + css.length)) 3) = new.map (·.2))
    {H : Heap} {D : Nat} (hD : H[D]? = some (.cells true z c0)) (ids : List Nat) (hl : ids.length = css.length) (hids : ∀ (k : Nat) (cs : List Value), css[k]? = some cs → ∃ id own z, ids[k]? = some id ∧ H[id]? = some (KObj.cells own z cs)) (hne : D ∉ ids) :
    KCall P f (args.map (rn (sgRW P.globals.size D ids) 3)) H [D] (Is (rn (sgUp (P.globals.size + 1 + css.length) H.length) 3 v) (H.set D (.cells true z c1) ++ (new.map (·.2)).map (rno (sgUp (P.globals.size + 1 + css.length) H.length) 3))) := by
  have e : (readsW P.globals.size z c0 css).list.length = P.globals.size + 1 + css.length := by rw [HT.length, readsW_n]
  have hkn : P.globals.size < (readsW P.globals.size z c0 css).n := by rw [readsW_n]; omega
  have h1 : KCall P f args (readsW P.globals.size z c0 css).list [P.globals.size] (Is v ((readsW P.globals.size z c0 css).list.set P.globals.size (.cells true z c1) ++ new.map (·.2))) := by
    refine KCall.packW (d := 3) hkn (((vF_sound hmask hmix n).1 f args _ (some [P.globals.size]) h _ hc).post ?_)
    rintro v' H' ⟨H2, h2, e, hk⟩
    cases h2 with
    | again σ => exact ⟨H2, σ, e, hk⟩
    | _ => exact hk.elim
  have hp : ReadsW P (readsW P.globals.size z c0 css).list H (sgRW P.globals.size D ids) 3 P.globals.size D z c0 := by
    refine ⟨fun g hg => if_pos hg, fun id id' h => ?_, by rw [e]; omega, ?_, ?_, hD, hp0, fun id o hne h => ?_, fun id cs h => ?_, fun id id' cs h1 h2 => ?_⟩
    · rw [e]
      unfold sgRW at h
      split at h
      · omega
      · split at h
        · omega
        · have := (List.getElem?_eq_some_iff.1 h).1; omega
    · rw [readsW_list, if_neg (Nat.lt_irrefl _), if_pos rfl]
    · show (if _ then _ else _) = _
      rw [if_neg (Nat.lt_irrefl _), if_pos rfl]
    · rw [readsW_list] at h
      split at h
      · cases h; exact .inl rfl
      · try rw [if_neg hne] at h
        obtain ⟨cs, _, rfl⟩ := Option.map_eq_some_iff.1 h; exact .inr ⟨cs, rfl⟩
    · rw [readsW_list] at h
      split at h
      · cases h
      · rename_i h5
        split at h
        · cases h
        · rename_i h6
          unfold sgRW
          rw [if_neg h5, if_neg h6]
          exact fun q => hne (List.mem_of_getElem? q)
    · rw [readsW_list] at h2
      split at h2
      · cases h2
      · rename_i h5
        split at h2
        · cases h2
        · rename_i h6
          obtain ⟨cs', a1, a2⟩ := Option.map_eq_some_iff.1 h2
          cases a2
          unfold sgRW at h1
          rw [if_neg h5, if_neg h6] at h1
          obtain ⟨id2, own, z2, b1, b2⟩ := hids _ _ a1
          rw [h1] at b1; cases b1
          exact ⟨own, z2, by rw [(rnCl (d := 0) (hcss _ (List.mem_of_getElem? a1))).1]; exact b2⟩
  have := KCall.writes hp h1 hp1 hv (by rw [e]; exact hv2) hn (by rw [e]; exact hn2)
  rw [e] at this
  exact this
end
end Go.K
/- Drift: what is made of numbers: basins, flows, fields, charts, moves. No condition. -/
namespace Go.Proofs.Ytkkgnalgmebfjaa
set_option linter.unusedSimpArgs false
set_option linter.unusedVariables false
open Go Go.K
noncomputable section
/-- Numbers, and how many were asked for. -/
abbrev digC (L : List Int) (n : Int) : List Value := [.iface (L.length + 1) (.agg ⟨L.flatMap intC⟩), .int .i64 n]
def dVal (L : List Int) (n : Int) : Int := if 0 < L.length then IntKind.wrap .i64 (L.getD (Int.toNat (Int.tmod n ((L.length : Nat) : Int))) 0 + IntKind.wrap .i64 (Int.tdiv n ((L.length : Nat) : Int))) else 0
def dN (L : List Int) (n m : Int) : Int := dVal L n % m
def watW (L : List Int) (n : Int) : Int := 2 + dN L n 5
def watH (L : List Int) (n : Int) : Int := 2 + dN L (n + 1) 4
def watL (L : List Int) (n : Int) : Nat → List Bool × Int
  | 0 => ([], n)
  | x + 1 => if 0 < x then ((watL L n x).1 ++ [dN L (watL L n x).2 7 == 0], (watL L n x).2 + 1) else ((watL L n x).1 ++ [false], (watL L n x).2)
def watA (L : List Int) (n : Int) : List Bool := (watL L (n + 1 + 1) (Int.toNat (watW L n * watH L n))).1
def watN (L : List Int) (n : Int) : Int := (watL L (n + 1 + 1) (Int.toNat (watW L n * watH L n))).2
def fldI (L : List Int) (n : Int) : Ice := ⟨dN L n 2 * dN L (n + 1) 101, dN L (n + 1 + 1) 401, dN L (n + 1 + 1 + 1) 101, dN L (n + 1 + 1 + 1 + 1) 4⟩
def fldL (L : List Int) (a : List Bool) (n : Int) : Nat → List Ice × Int
  | 0 => ([], n)
  | x + 1 => if a.getD x false = true then ((fldL L a n x).1 ++ [zeroI], (fldL L a n x).2) else ((fldL L a n x).1 ++ [fldI L (fldL L a n x).2], (fldL L a n x).2 + 1 + 1 + 1 + 1 + 1)
def curF (L : List Int) (X Y n : Int) : Flow :=
  ⟨⟨X + dN L n 400 - 200, min (X + dN L n 400 - 200 + dN L (n + 1 + 1) 3 * dN L (n + 1 + 1 + 1) 250) 2000⟩, ⟨Y + dN L (n + 1) 400 - 200, min (Y + dN L (n + 1) 400 - 200 + dN L (n + 1 + 1 + 1 + 1) 3 * dN L (n + 1 + 1 + 1 + 1 + 1) 250) 2000⟩⟩
def curL (L : List Int) (X Y n : Int) : Nat → List Flow × Int
  | 0 => ([], n)
  | x + 1 => ((curL L X Y n x).1 ++ [curF L X Y (curL L X Y n x).2], (curL L X Y n x).2 + 1 + 1 + 1 + 1 + 1 + 1)
def curs (L : List Int) (n : Int) (k : Nat) : List Flow × Int := curL L (dN L n 3001 - 1500) (dN L (n + 1) 3001 - 1500) (n + 1 + 1) k
def hldS (L : List Int) (n x most : Int) : Span := ⟨max (x - dN L n 4 * dN L (n + 1) 9) 0, min (x + dN L (n + 1 + 1) 4 * dN L (n + 1 + 1 + 1) 9) most⟩
def hldC (L : List Int) (n : Int) (x : Ice) : Cell :=
  ⟨hldS L n x.conc 100, hldS L (n + 1 + 1 + 1 + 1) x.thick 400, hldS L (n + 1 + 1 + 1 + 1 + 1 + 1 + 1 + 1) x.ridge 100, hldS L (n + 1 + 1 + 1 + 1 + 1 + 1 + 1 + 1 + 1 + 1 + 1 + 1) x.press 3⟩
def hldL (L : List Int) (a : List Bool) (xs : List Ice) (n : Int) : Nat → List Cell × Int
  | 0 => ([], n)
  | x + 1 => if a.getD x false = true then ((hldL L a xs n x).1 ++ [zeroC], (hldL L a xs n x).2) else ((hldL L a xs n x).1 ++ [hldC L (hldL L a xs n x).2 (xs.getD x zeroI)], (hldL L a xs n x).2 + 1 + 1 + 1 + 1 + 1 + 1 + 1 + 1 + 1 + 1 + 1 + 1 + 1 + 1 + 1 + 1)
def mvgL (L : List Int) (l : List Flow) (n : Int) : Nat → List Move × Int
  | 0 => ([], n)
  | x + 1 => ((mvgL L l n x).1 ++ [(fMoves (l.getD x zeroF)).1.getD (Int.toNat (dN L (mvgL L l n x).2 (((fMoves (l.getD x zeroF)).1.length : Nat) : Int))) zeroM], (mvgL L l n x).2 + 1)
end
end Go.Proofs.Ytkkgnalgmebfjaa
