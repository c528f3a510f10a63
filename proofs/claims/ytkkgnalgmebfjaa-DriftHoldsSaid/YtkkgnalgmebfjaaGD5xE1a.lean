/- Drift: the places a flow leads to, sorted and without repeats. No condition. -/
import Derived.Test.YtkkgnalgmebfjaaGD0xD4
import Derived.IntWalk
import Derived.Test.YtkkgnalgmebfjaaGK27xK40
namespace Go.Proofs.Ytkkgnalgmebfjaa
open Go Go.K
set_option maxRecDepth 100000
set_option linter.unusedVariables false
set_option linter.unusedSimpArgs false
noncomputable section
attribute [local irreducible] vF
theorem fin_same {L : List Int} (h : comp (srtI L) = srtI L) : comp (srtI L) ++ padT L = srtI L := by
  unfold padT
  rw [h, srt_len, Nat.sub_self]; exact List.append_nil _
theorem krep_int (n : Nat) : krep [.int .i64 0] n = (List.replicate n (0 : Int)).flatMap intC := by
  induction n with
  | zero => rfl
  | succ n ih => show .int .i64 0 :: krep [.int .i64 0] n = _; rw [ih]; rfl
theorem setl_tail {A B : List Int} {k n : Nat} (hk : k = A.length) (hn : n = B.length) : setl ((A ++ B).flatMap intC) (0 + k * 1) (krep [.int .i64 0] n) = (A ++ List.replicate n 0).flatMap intC := by
  subst hk hn
  rw [krep_int, List.flatMap_append, List.flatMap_append, show 0 + A.length * 1 = (A.flatMap intC).length from by rw [flat_len intC_len]; omega]
  have := setl_mid ((List.replicate B.length (0 : Int)).flatMap intC) (B.flatMap intC) (A.flatMap intC) [] (by rw [flat_len intC_len, flat_len intC_len, List.length_replicate])
  simpa using this
theorem ktargets {w h : Int} {a : List Bool} {c : Int} {f : Flow} (b : BasOk w h a.length) (hc : 0 ≤ c ∧ c < w * h) (hf : rightF f) {H : Heap} {L : Nat} (hL : H.length = L) {id : Nat} {own : Bool} {z : Nat} (hid : H[id]? = some (.cells own z (a.flatMap boolC))) :
    KCall prog F.drift_sea_targets [basV w h id a.length, flowV f, .int .i64 c] H [] (Is (.slice (some ⟨L, 0, some 2⟩) (comp (srtI (tgL w h a c f))).length (comp (srtI (tgL w h a c f))).length) (H ++ [.cells true 1 ((comp (srtI (tgL w h a c f)) ++ padT (tgL w h a c f)).flatMap intC)])) := by
  subst hL
  refine valQ (fun i => .slice (some ⟨i, 0, some 2⟩) (comp (srtI (tgL w h a c f))).length (comp (srtI (tgL w h a c f))).length) (Eq.mpr (Etargets w h a c f) ?_) (plainBL 0 a) (fun n => plainIL n _) rfl rfl (fun _ => rfl) hid rfl
  unfold Rtargets
  have mb := movesF_bd hf
  have hTl := tgL_len w h a c f
  have hSl := (srt_len (tgL w h a c f)).trans hTl
  have hfin := fin_same (L := tgL w h a c f)
  have hpad : padT (tgL w h a c f) = List.replicate ((tgL w h a c f).length - (comp (srtI (tgL w h a c f))).length) 0 := rfl
  refine ⟨trivial, fun H' hl _ => kmoves f hf hl, rfl, Nat.zero_le _, ?_, fun _ => rfl, ?_⟩
  · repeat' first | exact plainIL _ _ | exact trivial | exact rfl | exact wk_refl _ | refine wkO_cells ?_ | refine wks_cons ?_ ?_ | exact wks_nil | exact wk_nil _ _ _ (.inl rfl) | (exact wk_Q (by omega)) | refine wk_tupL ?_ | refine wk_aggL ?_ | refine joinMax ?_ ?_ ?_ | refine joinMin ?_ ?_ ?_ | refine toMax ?_ | refine toMin ?_ | refine ⟨rfl, ?_⟩ | refine ⟨trivial, ?_⟩ | (refine forkD (fun h => ?_) (fun h => ?_)) | (refine forkNe (fun h => ?_) (fun h => ?_)) | (refine forkEq (fun h => ?_) (fun h => ?_)) | refine forkNot ?_ | (refine ⟨vI64 (by omega), ?_⟩) | (refine And.intro (by omega) ?_) | apply And.intro | (exact iEq (by omega)) | (exact vI64 (by omega))
  intro x hx
  refine forkD (fun k => ?_) (fun k => ?_)
  · have hlt : x < (movesF f).length := by omega
    have hM : (tgL w h a c f).take (x + 1) = (tgL w h a c f).take x ++ [targ w h a c ((movesF f).getD x zeroM)] := by
      rw [List.take_add_one, ← tgL_get hlt, List.getD_eq_getElem?_getD, List.getElem?_eq_getElem (by omega)]; rfl
    have hlx : ((tgL w h a c f).take x).length = x := by rw [List.length_take]; omega
    have hob := ob_snoc (own := true) intC_len hM rfl
    have hfl := flat_le intC_len ((tgL w h a c f).take x)
    rw [hlx] at hob hfl
    refine ⟨by omega, partMove hlt, targ w h a c ((movesF f).getD x zeroM), ⟨rfl, trivial⟩, fun H' hl hd => ktarget b hc (moves_ok hf hlt) hd.1, ?_⟩
    repeat' first | (refine ⟨x + 1, by omega, by omega, rfl, ?_⟩) | exact hob | exact plainIL _ _ | exact hfl | exact Nat.le_refl _ | exact trivial | exact rfl | exact wk_refl _ | refine wkO_cells ?_ | refine wks_cons ?_ ?_ | exact wks_nil | exact wk_nil _ _ _ (.inl rfl) | (exact wk_Q (by omega)) | refine wk_tupL ?_ | refine wk_aggL ?_ | refine joinMax ?_ ?_ ?_ | refine joinMin ?_ ?_ ?_ | refine toMax ?_ | refine toMin ?_ | refine ⟨rfl, ?_⟩ | refine ⟨trivial, ?_⟩ | (refine forkD (fun h => ?_) (fun h => ?_)) | (refine forkNe (fun h => ?_) (fun h => ?_)) | (refine forkEq (fun h => ?_) (fun h => ?_)) | refine forkNot ?_ | (refine ⟨vI64 (by omega), ?_⟩) | (refine And.intro (by omega) ?_) | apply And.intro | (exact iEq (by omega)) | (exact vI64 (by omega))
  · obtain rfl : x = (movesF f).length := by omega
    have hkS : ∀ H' : Heap, H'[4]? = some (.cells true 1 ((tgL w h a c f).flatMap intC)) → KCall prog 124 [.slice (some ⟨4, 0, some 1⟩) (movesF f).length (movesF f).length] H' [4] (Is (.tuple #[]) (H'.set 4 (.cells true 1 ((srtI (tgL w h a c f)).flatMap intC)))) := fun H' ho => by
      have := kSort (L0 := tgL w h a c f) (by omega) (by omega) ho
      rw [hTl] at this; exact this
    rw [show (tgL w h a c f).take (movesF f).length = tgL w h a c f from by rw [← hTl]; exact List.take_length]
    obtain ⟨S, hS⟩ : ∃ S, srtI (tgL w h a c f) = S := ⟨_, rfl⟩
    rw [hS] at hSl hfin hpad hkS
    rw [hS]
    have hdone : comp S = S → (comp S).length = (movesF f).length := fun e => by rw [e, hSl]
    generalize (movesF f).length = n at *
    rw [hTl] at hpad
    refine ⟨⟨rfl, trivial⟩, fun H' hl hd => hkS H' hd.1, forkD (fun k2 => ?_) (fun k2 => ?_)⟩
    · have hc1 : comp S = S := by
        match S, hSl with
        | [s], _ => rfl
        | [], e => exact absurd e (by simp only [List.length_nil]; omega)
        | _ :: _ :: _, e => exact absurd e (by simp only [List.length_cons]; omega)
      rw [hdone hc1, hfin hc1]
      exact ⟨rfl, wk_QR, ⟨rfl, plainIL _ _⟩, trivial⟩
    · have hc1 : comp (S.take 1) = S.take 1 := by
        match S, hSl with
        | s :: r, _ => rfl
        | [], e => exact absurd e (by simp only [List.length_nil]; omega)
      refine ⟨rfl, ⟨Nat.le_refl _, by omega, hc1⟩, ?_, fun _ => rfl, ?_⟩
      · repeat' first | exact plainIL _ _ | exact trivial | exact rfl | exact wk_refl _ | refine wkO_cells ?_ | refine wks_cons ?_ ?_ | exact wks_nil | exact wk_nil _ _ _ (.inl rfl) | (exact wk_Q (by omega)) | refine wk_tupL ?_ | refine wk_aggL ?_ | refine joinMax ?_ ?_ ?_ | refine joinMin ?_ ?_ ?_ | refine toMax ?_ | refine toMin ?_ | refine ⟨rfl, ?_⟩ | refine ⟨trivial, ?_⟩ | (refine forkD (fun h => ?_) (fun h => ?_)) | (refine forkNe (fun h => ?_) (fun h => ?_)) | (refine forkEq (fun h => ?_) (fun h => ?_)) | refine forkNot ?_ | (refine ⟨vI64 (by omega), ?_⟩) | (refine And.intro (by omega) ?_) | apply And.intro | (exact iEq (by omega)) | (exact vI64 (by omega))
      rintro x3 ⟨j1, j2, j3⟩
      refine forkD (fun k3 => ?_) (fun k3 => ?_)
      · have hx3 : x3 < S.length := by omega
        rw [show Int.toNat ((x3 : Int) - 1) = x3 - 1 by omega]
        refine ⟨by omega, intAt hx3 (by omega), vI64 (by omega), by omega, intAt (by omega) (by omega), forkEq (fun q => ?_) (fun q => ?_)⟩
        · obtain ⟨q1, q2⟩ := cmpTo_0 j1 hx3 j3 q
          refine ⟨⟨⟨.inr (.inr rfl), Nat.le_refl _⟩, Nat.le_refl _, by omega⟩, rfl, rfl, ⟨Nat.le_refl _, by omega, by omega⟩, ?_, fun _ => rfl, ?_⟩
          · rw [q1, q2]
            repeat' first | exact plainIL _ _ | exact trivial | exact rfl | exact wk_refl _ | refine wkO_cells ?_ | refine wks_cons ?_ ?_ | exact wks_nil | exact wk_nil _ _ _ (.inl rfl) | (exact wk_Q (by omega)) | refine wk_tupL ?_ | refine wk_aggL ?_ | refine joinMax ?_ ?_ ?_ | refine joinMin ?_ ?_ ?_ | refine toMax ?_ | refine toMin ?_ | refine ⟨rfl, ?_⟩ | refine ⟨trivial, ?_⟩ | (refine forkD (fun h => ?_) (fun h => ?_)) | (refine forkNe (fun h => ?_) (fun h => ?_)) | (refine forkEq (fun h => ?_) (fun h => ?_)) | refine forkNot ?_ | (refine ⟨vI64 (by omega), ?_⟩) | (refine And.intro (by omega) ?_) | apply And.intro | (exact iEq (by omega)) | (exact vI64 (by omega))
          rintro x4 ⟨i1, i2, i3⟩
          have hcl := cmpTo_len i2
          refine forkD (fun k4 => ?_) (fun k4 => ?_)
          · have hm : x3 + x4 < S.length := by omega
            have g1 := cmpTo_get (S := S) (m := x3 + x4) (k := x3 + x4) (by omega)
            have g2 := cmpTo_get (S := S) (m := x3 + x4) (k := x3 + x4 - 1) (by omega)
            have a1 : ∀ off, off = x3 + x4 → ((cmpTo S (x3 + x4)).flatMap intC)[off]? = some (.int .i64 ((cmpTo S (x3 + x4)).getD (x3 + x4) 0)) := fun off ho => intAt (by omega) ho
            rw [show x3 + Int.toNat ((x4 : Int) - 1) = x3 + x4 - 1 by omega]
            refine ⟨by omega, a1 _ (by omega), vI64 (by omega), by omega, intAt (by omega) (by omega), ?_⟩
            rw [g1, g2]
            rw [g1] at a1
            refine forkNe (fun q => ?_) (fun q => ?_)
            · obtain ⟨e1, e2⟩ := cmpN_ne (by omega) hm q i3
              have hset := flat_set intC_len (cmpTo S (x3 + x4)) (cmpN S (x3 + x4)) (by rw [hcl]; omega) (S.getD (x3 + x4) 0)
              refine ⟨((cmpN S (x3 + x4) : Nat) : Int), rfl, by omega, a1 _ (by omega), by omega, ?_, rfl, _, rfl, vI64 (by omega), vI64 (by omega), x4 + 1, ⟨by omega, by omega, ?_⟩, by omega, rfl, ?_⟩
              · rw [flat_len intC_len, hcl]; omega
              · rw [← Nat.add_assoc, e1]; omega
              · rw [← Nat.add_assoc, e1, show 0 + Int.toNat ((cmpN S (x3 + x4) : Nat) : Int) * 1 = cmpN S (x3 + x4) * 1 by omega, hset, e2]
                repeat' first | exact plainIL _ _ | exact trivial | exact rfl | exact wk_refl _ | refine wkO_cells ?_ | refine wks_cons ?_ ?_ | exact wks_nil | exact wk_nil _ _ _ (.inl rfl) | (exact wk_Q (by omega)) | refine wk_tupL ?_ | refine wk_aggL ?_ | refine joinMax ?_ ?_ ?_ | refine joinMin ?_ ?_ ?_ | refine toMax ?_ | refine toMin ?_ | refine ⟨rfl, ?_⟩ | refine ⟨trivial, ?_⟩ | (refine forkD (fun h => ?_) (fun h => ?_)) | (refine forkNe (fun h => ?_) (fun h => ?_)) | (refine forkEq (fun h => ?_) (fun h => ?_)) | refine forkNot ?_ | (refine ⟨vI64 (by omega), ?_⟩) | (refine And.intro (by omega) ?_) | apply And.intro | (exact iEq (by omega)) | (exact vI64 (by omega))
            · obtain ⟨e1, e2⟩ := cmpN_eq (by omega) hm q
              refine ⟨vI64 (by omega), x4 + 1, ⟨by omega, by omega, by rw [← Nat.add_assoc, e1]; omega⟩, by omega, rfl, ?_⟩
              rw [← Nat.add_assoc, e1, e2]
              repeat' first | exact plainIL _ _ | exact trivial | exact rfl | exact wk_refl _ | refine wkO_cells ?_ | refine wks_cons ?_ ?_ | exact wks_nil | exact wk_nil _ _ _ (.inl rfl) | (exact wk_Q (by omega)) | refine wk_tupL ?_ | refine wk_aggL ?_ | refine joinMax ?_ ?_ ?_ | refine joinMin ?_ ?_ ?_ | refine toMax ?_ | refine toMin ?_ | refine ⟨rfl, ?_⟩ | refine ⟨trivial, ?_⟩ | (refine forkD (fun h => ?_) (fun h => ?_)) | (refine forkNe (fun h => ?_) (fun h => ?_)) | (refine forkEq (fun h => ?_) (fun h => ?_)) | refine forkNot ?_ | (refine ⟨vI64 (by omega), ?_⟩) | (refine And.intro (by omega) ?_) | apply And.intro | (exact iEq (by omega)) | (exact vI64 (by omega))
          · have hm : x3 + x4 = S.length := by omega
            have hn : cmpN S (x3 + x4) = (comp S).length := by unfold cmpN; rw [hm, List.take_length]
            have hto : cmpTo S (x3 + x4) = comp S ++ S.drop (comp S).length := by unfold cmpTo; rw [hn, hm, List.take_length]
            have hle := comp_len S
            rw [hn, hto]
            refine ⟨_, rfl, ⟨⟨.inr (.inr rfl), Nat.le_refl _⟩, Nat.le_refl _, by omega, by omega⟩, ?_, rfl, _, rfl, ⟨⟨.inr (.inr rfl), by omega⟩, by omega, Nat.zero_le _⟩, by rw [Nat.sub_zero], rfl, ?_⟩
            · rw [flat_len intC_len, List.length_append, List.length_drop]; omega
            · rw [Int.toNat_natCast, setl_tail rfl (by rw [List.length_drop]; omega), hpad]
              repeat' first | exact plainIL _ _ | exact trivial | exact rfl | exact wk_refl _ | refine wkO_cells ?_ | refine wks_cons ?_ ?_ | exact wks_nil | exact wk_nil _ _ _ (.inl rfl) | (exact wk_Q (by omega)) | refine wk_tupL ?_ | refine wk_aggL ?_ | refine joinMax ?_ ?_ ?_ | refine joinMin ?_ ?_ ?_ | refine toMax ?_ | refine toMin ?_ | refine ⟨rfl, ?_⟩ | refine ⟨trivial, ?_⟩ | (refine forkD (fun h => ?_) (fun h => ?_)) | (refine forkNe (fun h => ?_) (fun h => ?_)) | (refine forkEq (fun h => ?_) (fun h => ?_)) | refine forkNot ?_ | (refine ⟨vI64 (by omega), ?_⟩) | (refine And.intro (by omega) ?_) | apply And.intro | (exact iEq (by omega)) | (exact vI64 (by omega))
        · refine ⟨vI64 (by omega), x3 + 1, ⟨by omega, by omega, comp_all j1 hx3 j3 q⟩, by omega, rfl, ?_⟩
          repeat' first | exact plainIL _ _ | exact trivial | exact rfl | exact wk_refl _ | refine wkO_cells ?_ | refine wks_cons ?_ ?_ | exact wks_nil | exact wk_nil _ _ _ (.inl rfl) | (exact wk_Q (by omega)) | refine wk_tupL ?_ | refine wk_aggL ?_ | refine joinMax ?_ ?_ ?_ | refine joinMin ?_ ?_ ?_ | refine toMax ?_ | refine toMin ?_ | refine ⟨rfl, ?_⟩ | refine ⟨trivial, ?_⟩ | (refine forkD (fun h => ?_) (fun h => ?_)) | (refine forkNe (fun h => ?_) (fun h => ?_)) | (refine forkEq (fun h => ?_) (fun h => ?_)) | refine forkNot ?_ | (refine ⟨vI64 (by omega), ?_⟩) | (refine And.intro (by omega) ?_) | apply And.intro | (exact iEq (by omega)) | (exact vI64 (by omega))
      · obtain rfl : x3 = S.length := by omega
        rw [List.take_length] at j3
        rw [hdone j3, hfin j3]
        exact ⟨rfl, wk_QR, ⟨rfl, plainIL _ _⟩, trivial⟩
end
end Go.Proofs.Ytkkgnalgmebfjaa
/- Drift: targets, and how the law compares. No condition. -/
namespace Go.Proofs.Ytkkgnalgmebfjaa
open Go Go.K
set_option maxRecDepth 100000
set_option linter.unusedVariables false
set_option linter.unusedSimpArgs false
noncomputable section
attribute [local irreducible] vF
theorem errFlows_0 {w h : Int} {n : Nat} {l : List Flow} (e : errFlows w h n l = 0) : errBas w h n = 0 ∧ l.length = n ∧ errF l = 0 := by
  unfold errFlows first2 at e
  split at e
  · rename_i h0
    split at e
    · rename_i h1; exact ⟨h0, h1, e⟩
    · omega
  · rename_i h0; exact absurd e h0
theorem errF_all : ∀ {l : List Flow}, errF l = 0 → ∀ f ∈ l, rightF f
  | [], _, f, hf => by cases hf
  | g :: r, e, f, hf => by
    unfold errF at e
    split at e
    · rename_i hg
      rcases List.mem_cons.1 hf with rfl | hf
      · exact hg
      · exact errF_all e f hf
    · omega
theorem tgts_comp {w h : Int} {a : List Bool} {c : Int} {f : Flow} (b : BasOk w h a.length) (hc : 0 ≤ c ∧ c < w * h) : comp (srtI (tgL w h a c f)) = tgts w h a c f :=
  comp_trues (n := Int.toNat (w * h)) fun z hz => by
    have := tgL_bd (a := a) (f := f) hc z hz
    have := b.n1
    omega
theorem notB {b : Bool} (h : (!b) = true) : b = false := by cases b <;> first | rfl | cases h
theorem notB2 {b : Bool} (h : (!b) = false) : b = true := by cases b <;> first | rfl | cases h
end
end Go.Proofs.Ytkkgnalgmebfjaa
/- Ice: what all texts share. No condition. -/
namespace Go.Proofs.Ytkkgnalgmebfjaa
set_option linter.unusedSimpArgs false
open Go Go.K
set_option maxRecDepth 100000
set_option linter.unusedVariables false
noncomputable section
theorem i64_eq {a b : Int} (h : a = b) : (Value.int .i64 a) = .int .i64 b := by rw [h]
structure Cell where
  conc : Span
  thick : Span
  ridge : Span
  press : Span
structure Ice where
  conc : Int
  thick : Int
  ridge : Int
  press : Int
structure Rates where
  up : Ice
  down : Ice
structure Report where
  id : Int
  source : Int
  at_ : Int
  x : Int
  y : Int
  has : Int
  cell : Cell
abbrev iceC (x : Ice) : List Value := [.int .i64 x.conc, .int .i64 x.thick, .int .i64 x.ridge, .int .i64 x.press]
abbrev cellC (c : Cell) : List Value := [.int .i64 c.conc.lo, .int .i64 c.conc.hi, .int .i64 c.thick.lo, .int .i64 c.thick.hi, .int .i64 c.ridge.lo, .int .i64 c.ridge.hi, .int .i64 c.press.lo, .int .i64 c.press.hi]
abbrev ratesC (m : Rates) : List Value := [.int .i64 m.up.conc, .int .i64 m.up.thick, .int .i64 m.up.ridge, .int .i64 m.up.press, .int .i64 m.down.conc, .int .i64 m.down.thick, .int .i64 m.down.ridge, .int .i64 m.down.press]
abbrev iceV (x : Ice) : Value := .agg ⟨iceC x⟩
abbrev cellV (c : Cell) : Value := .agg ⟨cellC c⟩
abbrev ratesV (m : Rates) : Value := .agg ⟨ratesC m⟩
end
end Go.Proofs.Ytkkgnalgmebfjaa
/- What is to be shown of functions. Printed by a program. No condition. -/
namespace Go.Proofs.Ytkkgnalgmebfjaa
set_option linter.unusedSimpArgs false
open Go Go.K
set_option maxRecDepth 100000
set_option maxHeartbeats 4000000
set_option linter.unusedVariables false
noncomputable section
def RCheckCell (sp : Value) (c : Cell) : Prop :=
  (((decide ((0 : Int) ≤ c.conc.lo)) = true → (((decide ((c.conc.lo : Int) ≤ 100)) = true → (((decide ((c.conc.lo : Int) ≤ c.conc.hi)) = true → (((!(decide ((c.conc.hi : Int) ≤ 100))) = true → (nI 20 : Value) = sp) ∧ ((!(decide ((c.conc.hi : Int) ≤ 100))) = false → (((decide ((0 : Int) ≤ c.thick.lo)) = true → (((decide ((c.thick.lo : Int) ≤ 400)) = true → (((decide ((c.thick.lo : Int) ≤ c.thick.hi)) = true → (((!(decide ((c.thick.hi : Int) ≤ 400))) = true → (nI 20 : Value) = sp) ∧ ((!(decide ((c.thick.hi : Int) ≤ 400))) = false → (((decide ((0 : Int) ≤ c.ridge.lo)) = true → (((decide ((c.ridge.lo : Int) ≤ 100)) = true → (((decide ((c.ridge.lo : Int) ≤ c.ridge.hi)) = true → (((!(decide ((c.ridge.hi : Int) ≤ 100))) = true → (nI 20 : Value) = sp) ∧ ((!(decide ((c.ridge.hi : Int) ≤ 100))) = false → (((decide ((0 : Int) ≤ c.press.lo)) = true → (((decide ((c.press.lo : Int) ≤ 3)) = true → (((decide ((c.press.lo : Int) ≤ c.press.hi)) = true → (((!(decide ((c.press.hi : Int) ≤ 3))) = true → (nI 20 : Value) = sp) ∧ ((!(decide ((c.press.hi : Int) ≤ 3))) = false → (nI 0 : Value) = sp))) ∧ ((decide ((c.press.lo : Int) ≤ c.press.hi)) = false → (nI 20 : Value) = sp))) ∧ ((decide ((c.press.lo : Int) ≤ 3)) = false → (nI 20 : Value) = sp))) ∧ ((decide ((0 : Int) ≤ c.press.lo)) = false → (nI 20 : Value) = sp))))) ∧ ((decide ((c.ridge.lo : Int) ≤ c.ridge.hi)) = false → (nI 20 : Value) = sp))) ∧ ((decide ((c.ridge.lo : Int) ≤ 100)) = false → (nI 20 : Value) = sp))) ∧ ((decide ((0 : Int) ≤ c.ridge.lo)) = false → (nI 20 : Value) = sp))))) ∧ ((decide ((c.thick.lo : Int) ≤ c.thick.hi)) = false → (nI 20 : Value) = sp))) ∧ ((decide ((c.thick.lo : Int) ≤ 400)) = false → (nI 20 : Value) = sp))) ∧ ((decide ((0 : Int) ≤ c.thick.lo)) = false → (nI 20 : Value) = sp))))) ∧ ((decide ((c.conc.lo : Int) ≤ c.conc.hi)) = false → (nI 20 : Value) = sp))) ∧ ((decide ((c.conc.lo : Int) ≤ 100)) = false → (nI 20 : Value) = sp))) ∧ ((decide ((0 : Int) ≤ c.conc.lo)) = false → (nI 20 : Value) = sp))
theorem ECheckCell (sp : Value) (c : Cell) : vF prog msk (dm 0) 100000 true 40 true 104 [.agg #[nI c.conc.lo, nI c.conc.hi, nI c.thick.lo, nI c.thick.hi, nI c.ridge.lo, nI c.ridge.hi, nI c.press.lo, nI c.press.hi]] ⟨0, .leaf⟩ (some [])
  (.go 54 (.gfork (.go 5 (.gfork (.go 15 (.gfork (.go 8 (.fork (.auto) (.go 30 (.gfork (.go 5 (.gfork (.go 15 (.gfork (.go 8 (.fork (.auto) (.go 30 (.gfork (.go 5 (.gfork (.go 15 (.gfork (.go 8 (.fork (.auto) (.go 30 (.gfork (.go 5 (.gfork (.go 15 (.gfork (.go 8 (.fork (.auto) (.auto))) (.auto))) (.auto))) (.auto))))) (.auto))) (.auto))) (.auto))))) (.auto))) (.auto))) (.auto))))) (.auto))) (.auto))) (.auto)))
  (fun v _ _ => v = sp) = RCheckCell sp c := by kernel_rfl
def RCheckIce (sp : Value) (x : Ice) : Prop :=
  (((decide ((0 : Int) ≤ x.conc)) = true → (((!(decide ((x.conc : Int) ≤ 100))) = true → (nI 20 : Value) = sp) ∧ ((!(decide ((x.conc : Int) ≤ 100))) = false → (((decide ((0 : Int) ≤ x.thick)) = true → (((!(decide ((x.thick : Int) ≤ 400))) = true → (nI 20 : Value) = sp) ∧ ((!(decide ((x.thick : Int) ≤ 400))) = false → (((decide ((0 : Int) ≤ x.ridge)) = true → (((!(decide ((x.ridge : Int) ≤ 100))) = true → (nI 20 : Value) = sp) ∧ ((!(decide ((x.ridge : Int) ≤ 100))) = false → (((decide ((0 : Int) ≤ x.press)) = true → (((!(decide ((x.press : Int) ≤ 3))) = true → (nI 20 : Value) = sp) ∧ ((!(decide ((x.press : Int) ≤ 3))) = false → (nI 0 : Value) = sp))) ∧ ((decide ((0 : Int) ≤ x.press)) = false → (nI 20 : Value) = sp))))) ∧ ((decide ((0 : Int) ≤ x.ridge)) = false → (nI 20 : Value) = sp))))) ∧ ((decide ((0 : Int) ≤ x.thick)) = false → (nI 20 : Value) = sp))))) ∧ ((decide ((0 : Int) ≤ x.conc)) = false → (nI 20 : Value) = sp))
theorem ECheckIce (sp : Value) (x : Ice) : vF prog msk (dm 0) 100000 true 40 true 59 [.agg #[nI x.conc, nI x.thick, nI x.ridge, nI x.press]] ⟨0, .leaf⟩ (some [])
  (.go 48 (.gfork (.go 6 (.fork (.auto) (.go 24 (.gfork (.go 6 (.fork (.auto) (.go 24 (.gfork (.go 6 (.fork (.auto) (.go 24 (.gfork (.go 6 (.fork (.auto) (.auto))) (.auto))))) (.auto))))) (.auto))))) (.auto)))
  (fun v _ _ => v = sp) = RCheckIce sp x := by kernel_rfl
def RCheckRates (sp : Value) (m : Rates) : Prop :=
  (((decide ((0 : Int) ≤ m.up.conc)) = true → (((decide ((m.up.conc : Int) ≤ 1000)) = true → (((decide ((0 : Int) ≤ m.down.conc)) = true → (((!(decide ((m.down.conc : Int) ≤ 1000))) = true → (nI 6 : Value) = sp) ∧ ((!(decide ((m.down.conc : Int) ≤ 1000))) = false → (((decide ((0 : Int) ≤ m.up.thick)) = true → (((decide ((m.up.thick : Int) ≤ 1000)) = true → (((decide ((0 : Int) ≤ m.down.thick)) = true → (((!(decide ((m.down.thick : Int) ≤ 1000))) = true → (nI 6 : Value) = sp) ∧ ((!(decide ((m.down.thick : Int) ≤ 1000))) = false → (((decide ((0 : Int) ≤ m.up.ridge)) = true → (((decide ((m.up.ridge : Int) ≤ 1000)) = true → (((decide ((0 : Int) ≤ m.down.ridge)) = true → (((!(decide ((m.down.ridge : Int) ≤ 1000))) = true → (nI 6 : Value) = sp) ∧ ((!(decide ((m.down.ridge : Int) ≤ 1000))) = false → (((decide ((0 : Int) ≤ m.up.press)) = true → (((decide ((m.up.press : Int) ≤ 1000)) = true → (((decide ((0 : Int) ≤ m.down.press)) = true → (((!(decide ((m.down.press : Int) ≤ 1000))) = true → (nI 6 : Value) = sp) ∧ ((!(decide ((m.down.press : Int) ≤ 1000))) = false → (nI 0 : Value) = sp))) ∧ ((decide ((0 : Int) ≤ m.down.press)) = false → (nI 6 : Value) = sp))) ∧ ((decide ((m.up.press : Int) ≤ 1000)) = false → (nI 6 : Value) = sp))) ∧ ((decide ((0 : Int) ≤ m.up.press)) = false → (nI 6 : Value) = sp))))) ∧ ((decide ((0 : Int) ≤ m.down.ridge)) = false → (nI 6 : Value) = sp))) ∧ ((decide ((m.up.ridge : Int) ≤ 1000)) = false → (nI 6 : Value) = sp))) ∧ ((decide ((0 : Int) ≤ m.up.ridge)) = false → (nI 6 : Value) = sp))))) ∧ ((decide ((0 : Int) ≤ m.down.thick)) = false → (nI 6 : Value) = sp))) ∧ ((decide ((m.up.thick : Int) ≤ 1000)) = false → (nI 6 : Value) = sp))) ∧ ((decide ((0 : Int) ≤ m.up.thick)) = false → (nI 6 : Value) = sp))))) ∧ ((decide ((0 : Int) ≤ m.down.conc)) = false → (nI 6 : Value) = sp))) ∧ ((decide ((m.up.conc : Int) ≤ 1000)) = false → (nI 6 : Value) = sp))) ∧ ((decide ((0 : Int) ≤ m.up.conc)) = false → (nI 6 : Value) = sp))
theorem ECheckRates (sp : Value) (m : Rates) : vF prog msk (dm 0) 100000 true 40 true 105 [.agg #[nI m.up.conc, nI m.up.thick, nI m.up.ridge, nI m.up.press, nI m.down.conc, nI m.down.thick, nI m.down.ridge, nI m.down.press]] ⟨0, .leaf⟩ (some [])
  (.go 60 (.gfork (.go 5 (.gfork (.go 8 (.gfork (.go 7 (.fork (.auto) (.go 18 (.gfork (.go 5 (.gfork (.go 8 (.gfork (.go 7 (.fork (.auto) (.go 18 (.gfork (.go 5 (.gfork (.go 8 (.gfork (.go 7 (.fork (.auto) (.go 18 (.gfork (.go 5 (.gfork (.go 8 (.gfork (.go 7 (.fork (.auto) (.auto))) (.auto))) (.auto))) (.auto))))) (.auto))) (.auto))) (.auto))))) (.auto))) (.auto))) (.auto))))) (.auto))) (.auto))) (.auto)))
  (fun v _ _ => v = sp) = RCheckRates sp m := by kernel_rfl
def RPick (sp : Value) (x n : Int) : Prop :=
  (((decide ((n : Int) < 1)) = true → (nI 0 : Value) = sp) ∧ ((decide ((n : Int) < 1)) = false → (((n : Int) ≠ 0) ∧ (((decide (((Int.tmod x n) : Int) < 0)) = true → ((nI (IntKind.wrap .i64 ((Int.tmod x n) + n)) : Value) = nI ((Int.tmod x n) + n) ∧ (nI ((Int.tmod x n) + n) : Value) = sp)) ∧ ((decide (((Int.tmod x n) : Int) < 0)) = false → (nI (Int.tmod x n) : Value) = sp)))))
theorem EPick (sp : Value) (x n : Int) : vF prog msk (dm 0) 100000 true 40 true 38 [nI x, nI n] ⟨0, .leaf⟩ (some [])
  (.go 2 (.fork (.auto) (.go 1 (.need (.go 2 (.fork (.go 2 (.slot 15 (nI ((Int.tmod x n) + n)) (.auto))) (.auto)))))))
  (fun v _ _ => v = sp) = RPick sp x n := by kernel_rfl
def Rchange (sp : Value) (rate hours : Int) : Prop :=
  ((nI (IntKind.wrap .i64 (rate * hours)) : Value) = nI (rate * hours) ∧ ((nI (IntKind.wrap .i64 ((rate * hours) + 24)) : Value) = nI ((rate * hours) + 24) ∧ ((nI (IntKind.wrap .i64 (((rate * hours) + 24) - 1)) : Value) = nI (((rate * hours) + 24) - 1) ∧ ((nI (IntKind.wrap .i64 (Int.tdiv (((rate * hours) + 24) - 1) 24)) : Value) = nI (Int.tdiv (((rate * hours) + 24) - 1) 24) ∧ (nI (Int.tdiv (((rate * hours) + 24) - 1) 24) : Value) = sp))))
theorem Echange (sp : Value) (rate hours : Int) : vF prog msk (dm 0) 100000 true 40 true 143 [nI rate, nI hours] ⟨0, .leaf⟩ (some [])
  (.go 3 (.slot 7 (nI (rate * hours)) (.go 0 (.slot 8 (nI ((rate * hours) + 24)) (.go 0 (.slot 9 (nI (((rate * hours) + 24) - 1)) (.go 0 (.slot 10 (nI (Int.tdiv (((rate * hours) + 24) - 1) 24)) (.auto)))))))))
  (fun v _ _ => v = sp) = Rchange sp rate hours := by kernel_rfl
def RAge (sp : Value) (c : Cell) (m : Rates) (hours : Int) : Prop :=
  (∃ r0 : Int, ((True) ∧ (∀ H' : Heap, H'.length = 3 → (True) → KCall prog 104 [.agg #[nI c.conc.lo, nI c.conc.hi, nI c.thick.lo, nI c.thick.hi, nI c.ridge.lo, nI c.ridge.hi, nI c.press.lo, nI c.press.hi]] H' [] (Is (nI r0) H')) ∧ (∃ r1 : Int, ((True) ∧ (∀ H' : Heap, H'.length = 3 → (True) → KCall prog 105 [.agg #[nI m.up.conc, nI m.up.thick, nI m.up.ridge, nI m.up.press, nI m.down.conc, nI m.down.thick, nI m.down.ridge, nI m.down.press]] H' [] (Is (nI r1) H')) ∧ ((((r0 : Int) != 0) = true → ((.bool ((r0 : Int) != 0) : Value) = .bool true ∧ (.tuple #[.agg #[nI 0, nI 0, nI 0, nI 0, nI 0, nI 0, nI 0, nI 0], nI r0] : Value) = sp)) ∧ (((r0 : Int) != 0) = false → ((((r1 : Int) != 0) = true → ((.bool ((r1 : Int) != 0) : Value) = .bool true ∧ (.tuple #[.agg #[nI 0, nI 0, nI 0, nI 0, nI 0, nI 0, nI 0, nI 0], nI r1] : Value) = sp)) ∧ (((r1 : Int) != 0) = false → (((decide ((0 : Int) ≤ hours)) = true → (((!(decide ((hours : Int) ≤ 10000))) = true → (.tuple #[.agg #[nI 0, nI 0, nI 0, nI 0, nI 0, nI 0, nI 0, nI 0], nI 6] : Value) = sp) ∧ ((!(decide ((hours : Int) ≤ 10000))) = false → (∃ r2 : Int, ((True) ∧ (∀ H' : Heap, H'.length = 13 → (True) → KCall prog 143 [nI m.down.conc, nI hours] H' [] (Is (nI r2) H')) ∧ ((nI (IntKind.wrap .i64 (c.conc.lo - r2)) : Value) = nI (c.conc.lo - r2) ∧ (∃ y3 : Int, (nI (if (0 : Int) > (c.conc.lo - r2) then (0 : Int) else (c.conc.lo - r2)) : Value) = nI y3 ∧ (∃ r4 : Int, ((True) ∧ (∀ H' : Heap, H'.length = 13 → (True) → KCall prog 143 [nI m.up.conc, nI hours] H' [] (Is (nI r4) H')) ∧ ((nI (IntKind.wrap .i64 (c.conc.hi + r4)) : Value) = nI (c.conc.hi + r4) ∧ (∃ y5 : Int, (nI (if (100 : Int) < (c.conc.hi + r4) then (100 : Int) else (c.conc.hi + r4)) : Value) = nI y5 ∧ (∃ r6 : Int, ((True) ∧ (∀ H' : Heap, H'.length = 13 → (True) → KCall prog 143 [nI m.down.thick, nI hours] H' [] (Is (nI r6) H')) ∧ ((nI (IntKind.wrap .i64 (c.thick.lo - r6)) : Value) = nI (c.thick.lo - r6) ∧ (∃ y7 : Int, (nI (if (0 : Int) > (c.thick.lo - r6) then (0 : Int) else (c.thick.lo - r6)) : Value) = nI y7 ∧ (∃ r8 : Int, ((True) ∧ (∀ H' : Heap, H'.length = 13 → (True) → KCall prog 143 [nI m.up.thick, nI hours] H' [] (Is (nI r8) H')) ∧ ((nI (IntKind.wrap .i64 (c.thick.hi + r8)) : Value) = nI (c.thick.hi + r8) ∧ (∃ y9 : Int, (nI (if (400 : Int) < (c.thick.hi + r8) then (400 : Int) else (c.thick.hi + r8)) : Value) = nI y9 ∧ (∃ r10 : Int, ((True) ∧ (∀ H' : Heap, H'.length = 13 → (True) → KCall prog 143 [nI m.down.ridge, nI hours] H' [] (Is (nI r10) H')) ∧ ((nI (IntKind.wrap .i64 (c.ridge.lo - r10)) : Value) = nI (c.ridge.lo - r10) ∧ (∃ y11 : Int, (nI (if (0 : Int) > (c.ridge.lo - r10) then (0 : Int) else (c.ridge.lo - r10)) : Value) = nI y11 ∧ (∃ r12 : Int, ((True) ∧ (∀ H' : Heap, H'.length = 13 → (True) → KCall prog 143 [nI m.up.ridge, nI hours] H' [] (Is (nI r12) H')) ∧ ((nI (IntKind.wrap .i64 (c.ridge.hi + r12)) : Value) = nI (c.ridge.hi + r12) ∧ (∃ y13 : Int, (nI (if (100 : Int) < (c.ridge.hi + r12) then (100 : Int) else (c.ridge.hi + r12)) : Value) = nI y13 ∧ (∃ r14 : Int, ((True) ∧ (∀ H' : Heap, H'.length = 13 → (True) → KCall prog 143 [nI m.down.press, nI hours] H' [] (Is (nI r14) H')) ∧ ((nI (IntKind.wrap .i64 (c.press.lo - r14)) : Value) = nI (c.press.lo - r14) ∧ (∃ y15 : Int, (nI (if (0 : Int) > (c.press.lo - r14) then (0 : Int) else (c.press.lo - r14)) : Value) = nI y15 ∧ (∃ r16 : Int, ((True) ∧ (∀ H' : Heap, H'.length = 13 → (True) → KCall prog 143 [nI m.up.press, nI hours] H' [] (Is (nI r16) H')) ∧ ((nI (IntKind.wrap .i64 (c.press.hi + r16)) : Value) = nI (c.press.hi + r16) ∧ (∃ y17 : Int, (nI (if (3 : Int) < (c.press.hi + r16) then (3 : Int) else (c.press.hi + r16)) : Value) = nI y17 ∧ (.tuple #[.agg #[nI y3, nI y5, nI y7, nI y9, nI y11, nI y13, nI y15, nI y17], nI 0] : Value) = sp))))))))))))))))))))))))))))))))))) ∧ ((decide ((0 : Int) ≤ hours)) = false → (.tuple #[.agg #[nI 0, nI 0, nI 0, nI 0, nI 0, nI 0, nI 0, nI 0], nI 6] : Value) = sp))))))))))
theorem EAge (sp : Value) (c : Cell) (m : Rates) (hours : Int) : vF prog msk (dm 0) 100000 true 40 true 53 [.agg #[nI c.conc.lo, nI c.conc.hi, nI c.thick.lo, nI c.thick.hi, nI c.ridge.lo, nI c.ridge.hi, nI c.press.lo, nI c.press.hi], .agg #[nI m.up.conc, nI m.up.thick, nI m.up.ridge, nI m.up.press, nI m.down.conc, nI m.down.thick, nI m.down.ridge, nI m.down.press], nI hours] ⟨0, .leaf⟩ (some [])
  (.go 5 (.bind (Int) (fun r0 => .ans [] (nI r0) [] (.bind (Int) (fun r1 => .ans [] (nI r1) [] (.go 12 (.fork (.go 4 (.slot 16 (.bool true) (.auto))) (.go 8 (.fork (.go 4 (.slot 16 (.bool true) (.auto))) (.go 15 (.gfork (.go 5 (.fork (.auto) (.go 85 (.bind (Int) (fun r2 => .ans [] (nI r2) [] (.go 0 (.slot 16 (nI (c.conc.lo - r2)) (.go 0 (.bind Int (fun y3 => .slot 17 (nI y3) (.bind (Int) (fun r4 => .ans [] (nI r4) [] (.go 0 (.slot 27 (nI (c.conc.hi + r4)) (.go 5 (.bind Int (fun y5 => .slot 31 (nI y5) (.go 31 (.bind (Int) (fun r6 => .ans [] (nI r6) [] (.go 0 (.slot 16 (nI (c.thick.lo - r6)) (.go 0 (.bind Int (fun y7 => .slot 17 (nI y7) (.bind (Int) (fun r8 => .ans [] (nI r8) [] (.go 0 (.slot 27 (nI (c.thick.hi + r8)) (.go 5 (.bind Int (fun y9 => .slot 31 (nI y9) (.go 31 (.bind (Int) (fun r10 => .ans [] (nI r10) [] (.go 0 (.slot 16 (nI (c.ridge.lo - r10)) (.go 0 (.bind Int (fun y11 => .slot 17 (nI y11) (.bind (Int) (fun r12 => .ans [] (nI r12) [] (.go 0 (.slot 27 (nI (c.ridge.hi + r12)) (.go 5 (.bind Int (fun y13 => .slot 31 (nI y13) (.go 31 (.bind (Int) (fun r14 => .ans [] (nI r14) [] (.go 0 (.slot 16 (nI (c.press.lo - r14)) (.go 0 (.bind Int (fun y15 => .slot 17 (nI y15) (.bind (Int) (fun r16 => .ans [] (nI r16) [] (.go 0 (.slot 27 (nI (c.press.hi + r16)) (.go 5 (.bind Int (fun y17 => .slot 31 (nI y17) (.auto))))))))))))))))))))))))))))))))))))))))))))))))))))))))))))))) (.auto))))))))))))
  (fun v _ _ => v = sp) = RAge sp c m hours := by kernel_rfl
end
end Go.Proofs.Ytkkgnalgmebfjaa
/- Ice: the contracts of the functions of values alone. No condition. -/
namespace Go.Proofs.Ytkkgnalgmebfjaa
open Go Go.K
set_option maxRecDepth 100000
set_option linter.unusedVariables false
set_option linter.unusedSimpArgs false
noncomputable section
/-! ## What they compute -/
def rightSp (s : Span) (m : Int) : Prop := 0 ≤ s.lo ∧ s.lo ≤ m ∧ s.lo ≤ s.hi ∧ s.hi ≤ m
def rightC (c : Cell) : Prop := rightSp c.conc 100 ∧ rightSp c.thick 400 ∧ rightSp c.ridge 100 ∧ rightSp c.press 3
def rightI (x : Ice) : Prop := (0 ≤ x.conc ∧ x.conc ≤ 100) ∧ (0 ≤ x.thick ∧ x.thick ≤ 400) ∧ (0 ≤ x.ridge ∧ x.ridge ≤ 100) ∧ 0 ≤ x.press ∧ x.press ≤ 3
def rateI (x : Ice) : Prop := (0 ≤ x.conc ∧ x.conc ≤ 1000) ∧ (0 ≤ x.thick ∧ x.thick ≤ 1000) ∧ (0 ≤ x.ridge ∧ x.ridge ≤ 1000) ∧ 0 ≤ x.press ∧ x.press ≤ 1000
def rightR (m : Rates) : Prop := rateI m.up ∧ rateI m.down
instance (s : Span) (m : Int) : Decidable (rightSp s m) := by unfold rightSp; infer_instance
instance (c : Cell) : Decidable (rightC c) := by unfold rightC; infer_instance
instance (x : Ice) : Decidable (rightI x) := by unfold rightI; infer_instance
instance (x : Ice) : Decidable (rateI x) := by unfold rateI; infer_instance
instance (m : Rates) : Decidable (rightR m) := by unfold rightR; infer_instance
def errCell (c : Cell) : Int := if rightC c then 0 else 20
def errIce (x : Ice) : Int := if rightI x then 0 else 20
def errRates (m : Rates) : Int := if rightR m then 0 else 6
def zeroC : Cell := ⟨⟨0, 0⟩, ⟨0, 0⟩, ⟨0, 0⟩, ⟨0, 0⟩⟩
def hasS (s : Span) (n : Int) : Prop := s.lo ≤ n ∧ n ≤ s.hi
def hasC (c : Cell) (x : Ice) : Prop := hasS c.conc x.conc ∧ hasS c.thick x.thick ∧ hasS c.ridge x.ridge ∧ hasS c.press x.press
def insS (s t : Span) : Prop := t.lo ≤ s.lo ∧ s.hi ≤ t.hi
def insC (a b : Cell) : Prop := insS a.conc b.conc ∧ insS a.thick b.thick ∧ insS a.ridge b.ridge ∧ insS a.press b.press
def okC (c : Cell) : Prop := c.conc.lo ≤ c.conc.hi ∧ c.thick.lo ≤ c.thick.hi ∧ c.ridge.lo ≤ c.ridge.hi ∧ c.press.lo ≤ c.press.hi
instance (s : Span) (n : Int) : Decidable (hasS s n) := by unfold hasS; infer_instance
instance (c : Cell) (x : Ice) : Decidable (hasC c x) := by unfold hasC; infer_instance
instance (s t : Span) : Decidable (insS s t) := by unfold insS; infer_instance
instance (a b : Cell) : Decidable (insC a b) := by unfold insC; infer_instance
instance (c : Cell) : Decidable (okC c) := by unfold okC; infer_instance
def chg (rate hours : Int) : Int := (rate * hours + 23) / 24
def ageS (s : Span) (u d h m : Int) : Span := ⟨max (s.lo - chg d h) 0, min (s.hi + chg u h) m⟩
def ageC (c : Cell) (m : Rates) (h : Int) : Cell := ⟨ageS c.conc m.up.conc m.down.conc h 100, ageS c.thick m.up.thick m.down.thick h 400, ageS c.ridge m.up.ridge m.down.ridge h 100, ageS c.press m.up.press m.down.press h 3⟩
def fAge (c : Cell) (m : Rates) (h : Int) : Cell × Int :=
  if first2 (errCell c) (errRates m) = 0 then (if 0 ≤ h ∧ h ≤ 10000 then (ageC c m h, 0) else (zeroC, 6)) else (zeroC, first2 (errCell c) (errRates m))

/-! ## Numbers -/
theorem w64 {n : Int} (h : -9223372036854775808 ≤ n ∧ n ≤ 9223372036854775807) : IntKind.wrap .i64 n = n := IntWalk.i64_in n h
theorem v64 {n : Int} (h : -9223372036854775808 ≤ n ∧ n ≤ 9223372036854775807) : (Value.int .i64 (IntKind.wrap .i64 n)) = .int .i64 n := by rw [w64 h]
theorem mulb {a b A B : Int} (h1 : 0 ≤ a) (h2 : a ≤ A) (h3 : 0 ≤ b) (h4 : b ≤ B) : 0 ≤ a * b ∧ a * b ≤ A * B :=
  ⟨Int.mul_nonneg h1 h3, Int.mul_le_mul h2 h4 h3 (Int.le_trans h1 h2)⟩

/-! ## Contracts -/
theorem errCell_pos {c : Cell} (h : rightC c) : errCell c = 0 := if_pos h
theorem errCell_neg {c : Cell} (h : ¬ rightC c) : errCell c = 20 := if_neg h
theorem errIce_pos {c : Ice} (h : rightI c) : errIce c = 0 := if_pos h
theorem errIce_neg {c : Ice} (h : ¬ rightI c) : errIce c = 20 := if_neg h
theorem errRates_pos {c : Rates} (h : rightR c) : errRates c = 0 := if_pos h
theorem errRates_neg {c : Rates} (h : ¬ rightR c) : errRates c = 6 := if_neg h
theorem errCell_iff {c : Cell} : errCell c = 0 ↔ rightC c := by unfold errCell; split <;> simp_all
theorem errIce_iff {c : Ice} : errIce c = 0 ↔ rightI c := by unfold errIce; split <;> simp_all
theorem errRates_iff {c : Rates} : errRates c = 0 ↔ rightR c := by unfold errRates; split <;> simp_all
theorem kCheckCell (c : Cell) (H : Heap) : KCall prog F.ice_CheckCell [cellV c] H [] (Is (.int .i64 (errCell c)) H) := by
  refine valK 40 (fun _ => rfl) rfl (Eq.mpr (ECheckCell _ c) ?_) H
  unfold RCheckCell
  simp only [decide_eq_true_eq, decide_eq_false_iff_not, Bool.not_eq_true', Bool.not_eq_false']
  repeat' (first | apply And.intro | intro _)
  all_goals first
    | exact i64_eq (errCell_neg (by unfold rightC rightSp; omega)).symm
    | exact i64_eq (errCell_pos (by unfold rightC rightSp; omega)).symm
theorem kCheckIce (x : Ice) (H : Heap) : KCall prog F.ice_CheckIce [iceV x] H [] (Is (.int .i64 (errIce x)) H) := by
  refine valK 40 (fun _ => rfl) rfl (Eq.mpr (ECheckIce _ x) ?_) H
  unfold RCheckIce
  simp only [decide_eq_true_eq, decide_eq_false_iff_not, Bool.not_eq_true', Bool.not_eq_false']
  repeat' (first | apply And.intro | intro _)
  all_goals first
    | exact i64_eq (errIce_neg (by unfold rightI; omega)).symm
    | exact i64_eq (errIce_pos (by unfold rightI; omega)).symm
theorem kCheckRates (m : Rates) (H : Heap) : KCall prog F.ice_CheckRates [ratesV m] H [] (Is (.int .i64 (errRates m)) H) := by
  refine valK 40 (fun _ => rfl) rfl (Eq.mpr (ECheckRates _ m) ?_) H
  unfold RCheckRates
  simp only [decide_eq_true_eq, decide_eq_false_iff_not, Bool.not_eq_true', Bool.not_eq_false']
  repeat' (first | apply And.intro | intro _)
  all_goals first
    | exact i64_eq (errRates_neg (by unfold rightR rateI; omega)).symm
    | exact i64_eq (errRates_pos (by unfold rightR rateI; omega)).symm
theorem tmod_emod {x n : Int} (hn : 1 ≤ n) : (Int.tmod x n < 0 → Int.tmod x n + n = x % n) ∧ (¬ Int.tmod x n < 0 → Int.tmod x n = x % n) ∧ -n < Int.tmod x n ∧ Int.tmod x n < n := by
  have h1 := Int.mul_tdiv_add_tmod x n
  have h2 := Int.lt_tmod_of_pos x (by omega : 0 < n)
  have h3 := Int.tmod_lt_of_pos x (by omega : 0 < n)
  refine ⟨fun h => ?_, fun h => ?_, h2, h3⟩
  · have : x = (Int.tmod x n + n) + n * (x.tdiv n - 1) := by rw [Int.mul_sub]; omega
    rw [this, Int.add_mul_emod_self_left, ← this]
    exact (Int.emod_eq_of_lt (by omega) (by omega)).symm
  · have : x = Int.tmod x n + n * x.tdiv n := by omega
    conv => rhs; rw [this, Int.add_mul_emod_self_left]
    exact (Int.emod_eq_of_lt (by omega) (by omega)).symm
theorem kPick (x n : Int) (h1 : 1 ≤ n) (h2 : n ≤ 9223372036854775807) (H : Heap) : KCall prog F.polynyakit_Pick [.int .i64 x, .int .i64 n] H [] (Is (.int .i64 (x % n)) H) := by
  refine valK 40 (fun _ => rfl) rfl (Eq.mpr (EPick _ x n) ?_) H
  obtain ⟨t1, t2, t3, t4⟩ := tmod_emod (x := x) h1
  unfold RPick
  simp only [decide_eq_true_eq, decide_eq_false_iff_not]
  refine ⟨fun h => by omega, fun _ => ⟨by omega, fun h => ⟨v64 (by omega), i64_eq (t1 h)⟩, fun h => i64_eq (t2 h)⟩⟩
theorem kchange (rate hours : Int) (h1 : 0 ≤ rate ∧ rate ≤ 1000) (h2 : 0 ≤ hours ∧ hours ≤ 10000) (H : Heap) : KCall prog F.ice_change [.int .i64 rate, .int .i64 hours] H [] (Is (.int .i64 (chg rate hours)) H) := by
  refine valK 40 (fun _ => rfl) rfl (Eq.mpr (Echange _ rate hours) ?_) H
  have hb := mulb h1.1 h1.2 h2.1 h2.2
  have ht : Int.tdiv (rate * hours + 24 - 1) 24 = (rate * hours + 24 - 1) / 24 := Int.tdiv_eq_ediv_of_nonneg (by omega)
  unfold Rchange
  refine ⟨v64 (by omega), v64 (by omega), v64 (by omega), v64 (by rw [ht]; omega), i64_eq ?_⟩
  rw [ht]; unfold chg; congr 1; omega

/-! ## Two errors, then an answer -/
theorem vbool {b : Bool} (h : b = true) : (Value.bool b) = .bool true := by rw [h]
theorem vne {e : Int} (h : ¬ e = 0) : (Value.bool (e != 0)) = .bool true := vbool (by simp [h])
theorem tupB {b : Bool} {e : Int} {r : Bool × Int} (h : r = (b, e)) : (Value.tuple #[.bool b, .int .i64 e]) = .tuple #[.bool r.1, .int .i64 r.2] := by rw [h]
theorem tupC {a b c d e f g i n : Int} {r : Cell × Int} (h : r = (⟨⟨a, b⟩, ⟨c, d⟩, ⟨e, f⟩, ⟨g, i⟩⟩, n)) :
    (Value.tuple #[.agg #[.int .i64 a, .int .i64 b, .int .i64 c, .int .i64 d, .int .i64 e, .int .i64 f, .int .i64 g, .int .i64 i], .int .i64 n]) = .tuple #[cellV r.1, .int .i64 r.2] := by rw [h]
theorem fAge_1 {c : Cell} {m : Rates} {h : Int} (k : ¬ errCell c = 0) : fAge c m h = (zeroC, errCell c) := by unfold fAge; rw [first2_1 k, if_neg k]
theorem fAge_2 {c : Cell} {m : Rates} {h : Int} (k : errCell c = 0) (l : ¬ errRates m = 0) : fAge c m h = (zeroC, errRates m) := by unfold fAge; rw [first2_2 k, if_neg l]
theorem fAge_3 {c : Cell} {m : Rates} {h : Int} (k : errCell c = 0) (l : errRates m = 0) (q : ¬ (0 ≤ h ∧ h ≤ 10000)) : fAge c m h = (zeroC, 6) := by unfold fAge; rw [first2_2 k, if_pos l, if_neg q]
theorem fAge_4 {c : Cell} {m : Rates} {h : Int} (k : errCell c = 0) (l : errRates m = 0) (q : 0 ≤ h ∧ h ≤ 10000) : fAge c m h = (ageC c m h, 0) := by unfold fAge; rw [first2_2 k, if_pos l, if_pos q]
theorem chg_bd {r h : Int} (h1 : 0 ≤ r ∧ r ≤ 1000) (h2 : 0 ≤ h ∧ h ≤ 10000) : 0 ≤ chg r h ∧ chg r h ≤ 500000 := by
  have := mulb h1.1 h1.2 h2.1 h2.2
  unfold chg; omega
theorem kAge (c : Cell) (m : Rates) (h : Int) (H : Heap) : KCall prog F.ice_Age [cellV c, ratesV m, .int .i64 h] H [] (Is (.tuple #[cellV (fAge c m h).1, .int .i64 (fAge c m h).2]) H) := by
  refine valK 40 (fun _ => rfl) rfl (Eq.mpr (EAge _ c m h) ?_) H
  unfold RAge
  refine ⟨_, trivial, fun H' _ _ => kCheckCell c H', _, trivial, fun H' _ _ => kCheckRates m H', ?_⟩
  simp only [decide_eq_true_eq, decide_eq_false_iff_not, Bool.not_eq_true', Bool.not_eq_false', bne_iff_ne, ne_eq, bne_eq_false_iff_eq]
  refine ⟨fun h => ⟨vne h, tupC (fAge_1 h)⟩, fun h0 => ⟨fun h => ⟨vne h, tupC (fAge_2 h0 h)⟩, fun h1 => ⟨fun h2 => ⟨fun h3 => tupC (fAge_3 h0 h1 (by omega)), fun h3 => ?_⟩, fun h2 => tupC (fAge_3 h0 h1 (by omega))⟩⟩⟩
  obtain ⟨⟨u1, u2, u3, u4⟩, d1, d2, d3, d4⟩ := errRates_iff.1 h1
  obtain ⟨c1, c2, c3, c4⟩ := errCell_iff.1 h0
  unfold rightSp at c1 c2 c3 c4
  have bd := fun (r : Int) (hr : 0 ≤ r ∧ r ≤ 1000) => chg_bd hr ⟨h2, h3⟩
  have b1 := bd _ u1; have b2 := bd _ u2; have b3 := bd _ u3; have b4 := bd _ u4
  have e1 := bd _ d1; have e2 := bd _ d2; have e3 := bd _ d3; have e4 := bd _ d4
  refine ⟨_, trivial, fun H' _ _ => kchange _ _ d1 ⟨h2, h3⟩ H', v64 (by omega), max (c.conc.lo - chg m.down.conc h) 0, i64_eq (by split <;> omega), _, trivial, fun H' _ _ => kchange _ _ u1 ⟨h2, h3⟩ H', v64 (by omega), min (c.conc.hi + chg m.up.conc h) 100, i64_eq (by split <;> omega),
    _, trivial, fun H' _ _ => kchange _ _ d2 ⟨h2, h3⟩ H', v64 (by omega), max (c.thick.lo - chg m.down.thick h) 0, i64_eq (by split <;> omega), _, trivial, fun H' _ _ => kchange _ _ u2 ⟨h2, h3⟩ H', v64 (by omega), min (c.thick.hi + chg m.up.thick h) 400, i64_eq (by split <;> omega),
    _, trivial, fun H' _ _ => kchange _ _ d3 ⟨h2, h3⟩ H', v64 (by omega), max (c.ridge.lo - chg m.down.ridge h) 0, i64_eq (by split <;> omega), _, trivial, fun H' _ _ => kchange _ _ u3 ⟨h2, h3⟩ H', v64 (by omega), min (c.ridge.hi + chg m.up.ridge h) 100, i64_eq (by split <;> omega),
    _, trivial, fun H' _ _ => kchange _ _ d4 ⟨h2, h3⟩ H', v64 (by omega), max (c.press.lo - chg m.down.press h) 0, i64_eq (by split <;> omega), _, trivial, fun H' _ _ => kchange _ _ u4 ⟨h2, h3⟩ H', v64 (by omega), min (c.press.hi + chg m.up.press h) 3, i64_eq (by split <;> omega), ?_⟩
  exact tupC (fAge_4 h0 h1 ⟨h2, h3⟩)
end
end Go.Proofs.Ytkkgnalgmebfjaa
/- Ice: lists of errors; the first cell, ice, report. No condition. -/
namespace Go.Proofs.Ytkkgnalgmebfjaa
set_option linter.unusedSimpArgs false
set_option linter.unusedVariables false
open Go Go.K
noncomputable section
def zeroI : Ice := ⟨0, 0, 0, 0⟩
def errs {α : Type} (e : α → Int) : List α → Int
  | [] => 0
  | x :: r => if e x = 0 then errs e r else e x
end
end Go.Proofs.Ytkkgnalgmebfjaa
/- What is to be shown of functions. Printed by a program. No condition. -/
namespace Go.Proofs.Ytkkgnalgmebfjaa
set_option linter.unusedSimpArgs false
open Go Go.K
set_option maxRecDepth 100000
set_option maxHeartbeats 4000000
set_option linter.unusedVariables false
noncomputable section
def RwrongI (sp : Value) (xs : List Ice) : Prop :=
  (true = true ∧ (0 ≤ List.length xs ∧ sp = nI (errs errIce (xs.drop 0))) ∧ (true = true ∧ ((nI 0 : Value) = nI ((0 : Nat) : Int) ∧ (.func (.func 59) #[] #[] : Value) = .func (.func 59) #[] #[] ∧ wkR (slQ 0 2 xs.length) ∧ (nI ((xs.length : Nat) : Int) : Value) = nI ((xs.length : Nat) : Int) ∧ True) ∧ (True) ∧ (True) ∧ (True)) ∧ (∀ x0 : Nat, true = true) ∧ ∀ x0 : Nat, (x0 ≤ List.length xs ∧ sp = nI (errs errIce (xs.drop x0))) → (((decide (((x0 : Int) : Int) < ((xs.length : Nat) : Int))) = true → (((0 : Int) ≤ (x0 : Int) ∧ ((x0 : Int) : Int) < ((xs.length : Nat) : Int)) ∧ ((partA 4 (xs.flatMap iceC) (0 + Int.toNat (x0 : Int) * 4) = some (.agg #[nI (xs.getD x0 zeroI).conc, nI (xs.getD x0 zeroI).thick, nI (xs.getD x0 zeroI).ridge, nI (xs.getD x0 zeroI).press])) ∧ (∃ r1 : Int, ((True) ∧ (∀ H' : Heap, H'.length = 2 → (True) → KCall prog 59 [.agg #[nI (xs.getD x0 zeroI).conc, nI (xs.getD x0 zeroI).thick, nI (xs.getD x0 zeroI).ridge, nI (xs.getD x0 zeroI).press]] H' [] (Is (nI r1) H')) ∧ ((((r1 : Int) != 0) = true → (nI r1 : Value) = sp) ∧ (((r1 : Int) != 0) = false → ((nI (IntKind.wrap .i64 ((x0 : Int) + 1)) : Value) = nI ((x0 : Int) + 1) ∧ (∃ x0' : Nat, (x0' ≤ List.length xs ∧ sp = nI (errs errIce (xs.drop x0'))) ∧ (List.length xs - x0') < (List.length xs - x0) ∧ true = true ∧ ((nI ((x0 : Int) + 1) : Value) = nI (x0' : Int) ∧ (.func (.func 59) #[] #[] : Value) = .func (.func 59) #[] #[] ∧ wkR (slQ 0 2 xs.length) ∧ (nI ((xs.length : Nat) : Int) : Value) = nI ((xs.length : Nat) : Int) ∧ True) ∧ (True) ∧ (True) ∧ (True)))))))))) ∧ ((decide (((x0 : Int) : Int) < ((xs.length : Nat) : Int))) = false → (nI 0 : Value) = sp)))
theorem EwrongI (sp : Value) (xs : List Ice) : vF prog msk (dm 0) 100000 true 40 true 113 [slQ 0 2 xs.length, .func (.func 59) #[] #[]] (readsT 0 [xs.flatMap iceC]) (some [])
  (.go 3 (.inv 3 (Nat) (0) [] [] (fun x0 => [(10, nI (x0 : Int)), (1, .func (.func 59) #[] #[]), (8, slQ 0 2 xs.length), (9, nI ((xs.length : Nat) : Int))]) (fun x0 => []) (fun x0 => []) (fun x0 => []) (fun x0 => (x0 ≤ List.length xs ∧ sp = nI (errs errIce (xs.drop x0)))) (fun x0 => (List.length xs - x0)) (fun x0 => .go 0 (.fork (.need (.val (.agg #[nI (xs.getD x0 zeroI).conc, nI (xs.getD x0 zeroI).thick, nI (xs.getD x0 zeroI).ridge, nI (xs.getD x0 zeroI).press]) (.go 3 (.bind (Int) (fun r1 => .ans [] (nI r1) [] (.go 2 (.fork (.auto) (.go 0 (.slot 20 (nI ((x0 : Int) + 1)) (.go 0 (.again []))))))))))) (.auto)))))
  (fun v _ _ => v = sp) = RwrongI sp xs := by kernel_rfl
end
end Go.Proofs.Ytkkgnalgmebfjaa
/- Ice: the reference's functions of values; lists of errors. No condition. -/
namespace Go.Proofs.Ytkkgnalgmebfjaa
open Go Go.K
set_option maxRecDepth 100000
set_option linter.unusedVariables false
set_option linter.unusedSimpArgs false
noncomputable section
attribute [local irreducible] vF
/-! ## Lists -/
theorem iceC_len (x : Ice) : (iceC x).length = 4 := rfl
theorem partIce {xs : List Ice} {x : Nat} (h : x < xs.length) : partA 4 (List.flatMap iceC xs) (0 + Int.toNat ((x : Nat) : Int) * 4) = some (.agg #[.int .i64 (List.getD xs x zeroI).conc, .int .i64 (List.getD xs x zeroI).thick, .int .i64 (List.getD xs x zeroI).ridge, .int .i64 (List.getD xs x zeroI).press]) :=
  (part_at (f := iceC) (d := zeroI) (c := 0) (m := 4) iceC_len h (by rw [Int.toNat_natCast]; omega) (by decide)).trans rfl
theorem drop_at {α : Type} {xs : List α} {d : α} {k : Nat} (hk : k < xs.length) : xs.drop k = xs.getD k d :: xs.drop (k + 1) := by
  rw [List.drop_eq_getElem_cons hk, List.getD_eq_getElem?_getD, List.getElem?_eq_getElem hk]; rfl
theorem errs_at {α : Type} {e : α → Int} {xs : List α} {d : α} {k : Nat} (hk : k < xs.length) : errs e (xs.drop k) = if e (xs.getD k d) = 0 then errs e (xs.drop (k + 1)) else e (xs.getD k d) := by
  rw [drop_at (d := d) hk]; rfl
theorem kwrongI (xs : List Ice) (hn : xs.length ≤ 2 ^ 30) {H : Heap} {id : Nat} {own : Bool} {z : Nat} (hid : H[id]? = some (.cells own z (xs.flatMap iceC))) :
    KCall prog F.ice_wrong_ice_Ice_ [.slice (some ⟨id, 0, some 2⟩) xs.length xs.length, .func (.func F.ice_CheckIce) #[] #[]] H [] (Is (.int .i64 (errs errIce xs)) H) := by
  refine valR (Eq.mpr (EwrongI _ xs) ?_) (one_cs (plain_flat (fun _ => rfl) xs)) rfl [id] rfl (one_id hid)
  unfold RwrongI
  refine ⟨rfl, ⟨Nat.zero_le _, rfl⟩, ⟨rfl, ⟨rfl, rfl, wk_refl _, rfl, trivial⟩, trivial, trivial, trivial⟩, fun _ => rfl, ?_⟩
  rintro x ⟨hx, hsp⟩
  refine ⟨fun h => ?_, fun h => ?_⟩
  · have hlt : x < xs.length := by have := of_decide_eq_true h; omega
    refine ⟨⟨by omega, by omega⟩, partIce hlt, _, trivial, fun H' _ _ => kCheckIce _ H', fun h1 => ?_, fun h1 => ?_⟩
    · rw [hsp, errs_at (d := zeroI) hlt, if_neg (by simpa using h1)]
    · refine ⟨v64 (by omega), x + 1, ⟨hlt, ?_⟩, by omega, rfl, ⟨i64_eq (by omega), rfl, wk_refl _, rfl, trivial⟩, trivial, trivial, trivial⟩
      rw [hsp, errs_at (d := zeroI) hlt, if_pos (by simpa using h1)]
  · have hge : x = xs.length := by have := of_decide_eq_false h; omega
    rw [hsp, hge, List.drop_length]; rfl
theorem errs_zero {α : Type} {e : α → Int} : ∀ {xs : List α}, errs e xs = 0 → ∀ x ∈ xs, e x = 0
  | [], _, x, h => by cases h
  | y :: r, he, x, h => by
    unfold errs at he
    split at he
    · rename_i h0
      rcases List.mem_cons.1 h with rfl | h
      · exact h0
      · exact errs_zero he x h
    · rename_i h0; exact absurd he h0
end
end Go.Proofs.Ytkkgnalgmebfjaa
/- What is to be shown of functions. Printed by a program. No condition. -/
namespace Go.Proofs.Ytkkgnalgmebfjaa
set_option linter.unusedSimpArgs false
open Go Go.K
set_option maxRecDepth 100000
set_option maxHeartbeats 4000000
set_option linter.unusedVariables false
noncomputable section
def RspHas (sp : Value) (c : Cell) (x : Ice) : Prop :=
  (((decide ((c.conc.lo : Int) ≤ x.conc)) = true → (((!(decide ((x.conc : Int) ≤ c.conc.hi))) = true → (.bool false : Value) = sp) ∧ ((!(decide ((x.conc : Int) ≤ c.conc.hi))) = false → (((decide ((c.thick.lo : Int) ≤ x.thick)) = true → (((!(decide ((x.thick : Int) ≤ c.thick.hi))) = true → (.bool false : Value) = sp) ∧ ((!(decide ((x.thick : Int) ≤ c.thick.hi))) = false → (((decide ((c.ridge.lo : Int) ≤ x.ridge)) = true → (((!(decide ((x.ridge : Int) ≤ c.ridge.hi))) = true → (.bool false : Value) = sp) ∧ ((!(decide ((x.ridge : Int) ≤ c.ridge.hi))) = false → (((decide ((c.press.lo : Int) ≤ x.press)) = true → (((!(decide ((x.press : Int) ≤ c.press.hi))) = true → (.bool false : Value) = sp) ∧ ((!(decide ((x.press : Int) ≤ c.press.hi))) = false → (.bool true : Value) = sp))) ∧ ((decide ((c.press.lo : Int) ≤ x.press)) = false → (.bool false : Value) = sp))))) ∧ ((decide ((c.ridge.lo : Int) ≤ x.ridge)) = false → (.bool false : Value) = sp))))) ∧ ((decide ((c.thick.lo : Int) ≤ x.thick)) = false → (.bool false : Value) = sp))))) ∧ ((decide ((c.conc.lo : Int) ≤ x.conc)) = false → (.bool false : Value) = sp))
theorem EspHas (sp : Value) (c : Cell) (x : Ice) : vF prog msk (dm 0) 100000 true 40 true 114 [.agg #[nI c.conc.lo, nI c.conc.hi, nI c.thick.lo, nI c.thick.hi, nI c.ridge.lo, nI c.ridge.hi, nI c.press.lo, nI c.press.hi], .agg #[nI x.conc, nI x.thick, nI x.ridge, nI x.press]] ⟨0, .leaf⟩ (some [])
  (.go 51 (.gfork (.go 6 (.fork (.auto) (.go 26 (.gfork (.go 6 (.fork (.auto) (.go 26 (.gfork (.go 6 (.fork (.auto) (.go 26 (.gfork (.go 6 (.fork (.auto) (.auto))) (.auto))))) (.auto))))) (.auto))))) (.auto)))
  (fun v _ _ => v = sp) = RspHas sp c x := by kernel_rfl
def Rsize (sp : Value) (w h t : Int) : Prop :=
  (((decide ((1 : Int) ≤ w)) = true → (((!(decide ((w : Int) ≤ 64))) = true → (nI 6 : Value) = sp) ∧ ((!(decide ((w : Int) ≤ 64))) = false → (((decide ((1 : Int) ≤ h)) = true → (((!(decide ((h : Int) ≤ 64))) = true → (nI 6 : Value) = sp) ∧ ((!(decide ((h : Int) ≤ 64))) = false → ((nI (IntKind.wrap .i64 (w * h)) : Value) = nI (w * h) ∧ (((decide ((1024 : Int) < (w * h))) = true → (nI 6 : Value) = sp) ∧ ((decide ((1024 : Int) < (w * h))) = false → (((decide ((0 : Int) ≤ t)) = true → (((!(decide ((t : Int) ≤ 10000))) = true → (nI 6 : Value) = sp) ∧ ((!(decide ((t : Int) ≤ 10000))) = false → (nI 0 : Value) = sp))) ∧ ((decide ((0 : Int) ≤ t)) = false → (nI 6 : Value) = sp)))))))) ∧ ((decide ((1 : Int) ≤ h)) = false → (nI 6 : Value) = sp))))) ∧ ((decide ((1 : Int) ≤ w)) = false → (nI 6 : Value) = sp))
theorem Esize (sp : Value) (w h t : Int) : vF prog msk (dm 0) 100000 true 40 true 132 [nI w, nI h, nI t] ⟨0, .leaf⟩ (some [])
  (.go 7 (.gfork (.go 6 (.gfork (.auto) (.go 6 (.gfork (.go 7 (.gfork (.auto) (.go 2 (.slot 18 (nI (w * h)) (.go 2 (.gfork (.auto) (.go 6 (.gfork (.go 6 (.fork (.auto) (.auto))) (.auto))))))))) (.auto))))) (.auto)))
  (fun v _ _ => v = sp) = Rsize sp w h t := by kernel_rfl
end
end Go.Proofs.Ytkkgnalgmebfjaa
/- Ice: functions of cells that charts and reports use. No condition. -/
namespace Go.Proofs.Ytkkgnalgmebfjaa
open Go Go.K
set_option maxRecDepth 100000
set_option linter.unusedVariables false
set_option linter.unusedSimpArgs false
noncomputable section
attribute [local irreducible] vF
theorem kspHas (c : Cell) (x : Ice) (H : Heap) : KCall prog F.ice_spans_has [cellV c, iceV x] H [] (Is (.bool (decide (hasC c x))) H) := by
  refine valK 40 (fun _ => rfl) rfl (Eq.mpr (EspHas _ c x) ?_) H
  unfold RspHas
  repeat' first | exact trivial | exact rfl | refine joinMax ?_ ?_ ?_ | refine joinMin ?_ ?_ ?_ | refine toMax ?_ | refine toMin ?_ | refine ⟨rfl, ?_⟩ | refine ⟨trivial, ?_⟩ | (refine forkD (fun h => ?_) (fun h => ?_)) | (refine forkNe (fun h => ?_) (fun h => ?_)) | (refine forkEq (fun h => ?_) (fun h => ?_)) | refine forkNot ?_ | (refine ⟨vI64 (by omega), ?_⟩) | (refine And.intro (by omega) ?_) | apply And.intro | exact wk_refl _ | (exact iEq (by omega)) | (exact vI64 (by omega))
  all_goals first | exact bEq (decide_eq_true (by unfold hasC hasS; omega)).symm | exact bEq (decide_eq_false (by unfold hasC hasS; omega)).symm
def sizeOk (w h t : Int) : Prop := (1 ≤ w ∧ w ≤ 64) ∧ (1 ≤ h ∧ h ≤ 64) ∧ w * h ≤ 1024 ∧ (0 ≤ t ∧ t ≤ 10000)
instance (w h t : Int) : Decidable (sizeOk w h t) := by unfold sizeOk; infer_instance
def errSize (w h t : Int) : Int := if sizeOk w h t then 0 else 6
theorem errSize_iff {w h t : Int} : errSize w h t = 0 ↔ sizeOk w h t := by unfold errSize; split <;> simp_all
theorem ksize (w h t : Int) (H : Heap) : KCall prog F.ice_size [.int .i64 w, .int .i64 h, .int .i64 t] H [] (Is (.int .i64 (errSize w h t)) H) := by
  refine valK 40 (fun _ => rfl) rfl (Eq.mpr (Esize _ w h t) ?_) H
  unfold Rsize
  have mb : (1 ≤ w ∧ w ≤ 64) → (1 ≤ h ∧ h ≤ 64) → 0 ≤ w * h ∧ w * h ≤ 64 * 64 := fun h1 h2 => mulb (by omega) h1.2 (by omega) h2.2
  repeat' first | (refine ⟨vI64 (by have := mb ⟨‹_›, ‹_›⟩ ⟨‹_›, ‹_›⟩; omega), ?_⟩) | (exact iEq (if_pos (by unfold sizeOk; omega)).symm) | (exact iEq (if_neg (by unfold sizeOk; omega)).symm) | exact trivial | exact rfl | refine joinMax ?_ ?_ ?_ | refine joinMin ?_ ?_ ?_ | refine toMax ?_ | refine toMin ?_ | refine ⟨rfl, ?_⟩ | refine ⟨trivial, ?_⟩ | (refine forkD (fun h => ?_) (fun h => ?_)) | (refine forkNe (fun h => ?_) (fun h => ?_)) | (refine forkEq (fun h => ?_) (fun h => ?_)) | refine forkNot ?_ | (refine ⟨vI64 (by omega), ?_⟩) | (refine And.intro (by omega) ?_) | apply And.intro | exact wk_refl _ | (exact iEq (by omega)) | (exact vI64 (by omega))
end
end Go.Proofs.Ytkkgnalgmebfjaa
/- Ice: charts: what functions of charts answer. No condition. -/
namespace Go.Proofs.Ytkkgnalgmebfjaa
set_option linter.unusedSimpArgs false
set_option linter.unusedVariables false
open Go Go.K
noncomputable section
structure Chart where
  w : Int
  h : Int
  hour : Int
  cells : List Cell
def zeroChart : Chart := ⟨0, 0, 0, []⟩
def errChart (w h t : Int) (cs : List Cell) : Int := first2 (errSize w h t) (if (cs.length : Int) = w * h then errs errCell cs else 1)
def hasTo (cs : List Cell) (xs : List Ice) (n : Nat) : Prop := ∀ k, k < n → hasC (cs.getD k zeroC) (xs.getD k zeroI)
open Classical in
def fHolds (w h t : Int) (cs : List Cell) (xs : List Ice) : Bool × Int :=
  if errChart w h t cs = 0 then (if xs.length = cs.length then (if errs errIce xs = 0 then (decide (hasTo cs xs xs.length), 0) else (false, errs errIce xs)) else (false, 1)) else (false, errChart w h t cs)
end
end Go.Proofs.Ytkkgnalgmebfjaa
/- What is to be shown of functions. Printed by a program. No condition. -/
namespace Go.Proofs.Ytkkgnalgmebfjaa
set_option linter.unusedSimpArgs false
open Go Go.K
set_option maxRecDepth 100000
set_option maxHeartbeats 4000000
set_option linter.unusedVariables false
noncomputable section
def RwrongC (sp : Value) (cs : List Cell) : Prop :=
  (true = true ∧ (0 ≤ List.length cs ∧ sp = nI (errs errCell (cs.drop 0))) ∧ (true = true ∧ ((nI 0 : Value) = nI ((0 : Nat) : Int) ∧ (.func (.func 104) #[] #[] : Value) = .func (.func 104) #[] #[] ∧ wkR (slQ 0 2 cs.length) ∧ (nI ((cs.length : Nat) : Int) : Value) = nI ((cs.length : Nat) : Int) ∧ True) ∧ (True) ∧ (True) ∧ (True)) ∧ (∀ x0 : Nat, true = true) ∧ ∀ x0 : Nat, (x0 ≤ List.length cs ∧ sp = nI (errs errCell (cs.drop x0))) → (((decide (((x0 : Int) : Int) < ((cs.length : Nat) : Int))) = true → (((0 : Int) ≤ (x0 : Int) ∧ ((x0 : Int) : Int) < ((cs.length : Nat) : Int)) ∧ ((partA 8 (cs.flatMap cellC) (0 + Int.toNat (x0 : Int) * 8) = some (.agg #[nI (cs.getD x0 zeroC).conc.lo, nI (cs.getD x0 zeroC).conc.hi, nI (cs.getD x0 zeroC).thick.lo, nI (cs.getD x0 zeroC).thick.hi, nI (cs.getD x0 zeroC).ridge.lo, nI (cs.getD x0 zeroC).ridge.hi, nI (cs.getD x0 zeroC).press.lo, nI (cs.getD x0 zeroC).press.hi])) ∧ (∃ r1 : Int, ((True) ∧ (∀ H' : Heap, H'.length = 2 → (True) → KCall prog 104 [.agg #[nI (cs.getD x0 zeroC).conc.lo, nI (cs.getD x0 zeroC).conc.hi, nI (cs.getD x0 zeroC).thick.lo, nI (cs.getD x0 zeroC).thick.hi, nI (cs.getD x0 zeroC).ridge.lo, nI (cs.getD x0 zeroC).ridge.hi, nI (cs.getD x0 zeroC).press.lo, nI (cs.getD x0 zeroC).press.hi]] H' [] (Is (nI r1) H')) ∧ ((((r1 : Int) != 0) = true → (nI r1 : Value) = sp) ∧ (((r1 : Int) != 0) = false → ((nI (IntKind.wrap .i64 ((x0 : Int) + 1)) : Value) = nI ((x0 : Int) + 1) ∧ (∃ x0' : Nat, (x0' ≤ List.length cs ∧ sp = nI (errs errCell (cs.drop x0'))) ∧ (List.length cs - x0') < (List.length cs - x0) ∧ true = true ∧ ((nI ((x0 : Int) + 1) : Value) = nI (x0' : Int) ∧ (.func (.func 104) #[] #[] : Value) = .func (.func 104) #[] #[] ∧ wkR (slQ 0 2 cs.length) ∧ (nI ((cs.length : Nat) : Int) : Value) = nI ((cs.length : Nat) : Int) ∧ True) ∧ (True) ∧ (True) ∧ (True)))))))))) ∧ ((decide (((x0 : Int) : Int) < ((cs.length : Nat) : Int))) = false → (nI 0 : Value) = sp)))
theorem EwrongC (sp : Value) (cs : List Cell) : vF prog msk (dm 0) 100000 true 40 true 133 [slQ 0 2 cs.length, .func (.func 104) #[] #[]] (readsT 0 [cs.flatMap cellC]) (some [])
  (.go 3 (.inv 3 (Nat) (0) [] [] (fun x0 => [(10, nI (x0 : Int)), (1, .func (.func 104) #[] #[]), (8, slQ 0 2 cs.length), (9, nI ((cs.length : Nat) : Int))]) (fun x0 => []) (fun x0 => []) (fun x0 => []) (fun x0 => (x0 ≤ List.length cs ∧ sp = nI (errs errCell (cs.drop x0)))) (fun x0 => (List.length cs - x0)) (fun x0 => .go 0 (.fork (.need (.val (.agg #[nI (cs.getD x0 zeroC).conc.lo, nI (cs.getD x0 zeroC).conc.hi, nI (cs.getD x0 zeroC).thick.lo, nI (cs.getD x0 zeroC).thick.hi, nI (cs.getD x0 zeroC).ridge.lo, nI (cs.getD x0 zeroC).ridge.hi, nI (cs.getD x0 zeroC).press.lo, nI (cs.getD x0 zeroC).press.hi]) (.go 3 (.bind (Int) (fun r1 => .ans [] (nI r1) [] (.go 2 (.fork (.auto) (.go 0 (.slot 20 (nI ((x0 : Int) + 1)) (.go 0 (.again []))))))))))) (.auto)))))
  (fun v _ _ => v = sp) = RwrongC sp cs := by kernel_rfl
def RCheckChart (sp : Value) (w h t : Int) (cs : List Cell) : Prop :=
  (∃ r0 : Int, ((True) ∧ (∀ H' : Heap, H'.length = 2 → (True) → KCall prog 132 [nI w, nI h, nI t] H' [] (Is (nI r0) H')) ∧ ((((r0 : Int) != 0) = true → (nI r0 : Value) = sp) ∧ (((r0 : Int) != 0) = false → ((nI (IntKind.wrap .i64 (w * h)) : Value) = nI (w * h) ∧ ((((((cs.length : Nat) : Int) : Int) != (w * h)) = true → (nI 1 : Value) = sp) ∧ (((((cs.length : Nat) : Int) : Int) != (w * h)) = false → (∃ r1 : Int, (((someR (.cells false 0 (cs.flatMap cellC))) ∧ True) ∧ (∀ H' : Heap, H'.length = 2 → (H'[0]? = some (.cells false 0 (cs.flatMap cellC) : KObj) ∧ True) → KCall prog 133 [slQ 0 2 cs.length, .func (.func 104) #[] #[]] H' [] (Is (nI r1) H')) ∧ (nI r1 : Value) = sp)))))))))
theorem ECheckChart (sp : Value) (w h t : Int) (cs : List Cell) : vF prog msk (dm 0) 100000 true 40 true 97 [.agg #[nI w, nI h, nI t, slQ 0 2 cs.length]] (readsT 0 [cs.flatMap cellC]) (some [])
  (.go 7 (.bind (Int) (fun r0 => .ans [] (nI r0) [] (.go 2 (.fork (.auto) (.go 7 (.slot 21 (nI (w * h)) (.go 0 (.fork (.auto) (.go 1 (.bind (Int) (fun r1 => .ans [(0, .cells false 0 (cs.flatMap cellC))] (nI r1) [] (.auto)))))))))))))
  (fun v _ _ => v = sp) = RCheckChart sp w h t cs := by kernel_rfl
def RHolds (sp : Value) (w h t : Int) (cs : List Cell) (xs : List Ice) : Prop :=
  (∃ r0 : Int, (((someR (.cells false 0 (cs.flatMap cellC))) ∧ True) ∧ (∀ H' : Heap, H'.length = 3 → (H'[0]? = some (.cells false 0 (cs.flatMap cellC) : KObj) ∧ True) → KCall prog 97 [.agg #[nI w, nI h, nI t, slQ 0 2 cs.length]] H' [] (Is (nI r0) H')) ∧ ((((r0 : Int) != 0) = true → (.tuple #[.bool false, nI r0] : Value) = sp) ∧ (((r0 : Int) != 0) = false → ((((((xs.length : Nat) : Int) : Int) != ((cs.length : Nat) : Int)) = true → (.tuple #[.bool false, nI 1] : Value) = sp) ∧ (((((xs.length : Nat) : Int) : Int) != ((cs.length : Nat) : Int)) = false → (∃ r1 : Int, (((someR (.cells false 0 (xs.flatMap iceC))) ∧ True) ∧ (∀ H' : Heap, H'.length = 3 → (H'[1]? = some (.cells false 0 (xs.flatMap iceC) : KObj) ∧ True) → KCall prog 113 [slQ 1 2 xs.length, .func (.func 59) #[] #[]] H' [] (Is (nI r1) H')) ∧ ((((r1 : Int) != 0) = true → (.tuple #[.bool false, nI r1] : Value) = sp) ∧ (((r1 : Int) != 0) = false → (true = true ∧ (0 ≤ List.length xs ∧ hasTo cs xs 0) ∧ (true = true ∧ ((nI 0 : Value) = nI ((0 : Nat) : Int) ∧ (.pointer (some ⟨2, 0, none⟩) : Value) = .pointer (some ⟨2, 0, none⟩) ∧ wkR (slQ 1 2 xs.length) ∧ (nI ((xs.length : Nat) : Int) : Value) = nI ((xs.length : Nat) : Int) ∧ True) ∧ (True) ∧ (True) ∧ (True)) ∧ (∀ x2 : Nat, true = true) ∧ ∀ x2 : Nat, (x2 ≤ List.length xs ∧ hasTo cs xs x2) → (((decide (((x2 : Int) : Int) < ((xs.length : Nat) : Int))) = true → (((0 : Int) ≤ (x2 : Int) ∧ ((x2 : Int) : Int) < ((xs.length : Nat) : Int)) ∧ ((partA 4 (xs.flatMap iceC) (0 + Int.toNat (x2 : Int) * 4) = some (.agg #[nI (xs.getD x2 zeroI).conc, nI (xs.getD x2 zeroI).thick, nI (xs.getD x2 zeroI).ridge, nI (xs.getD x2 zeroI).press])) ∧ (((0 : Int) ≤ (x2 : Int) ∧ ((x2 : Int) : Int) < ((cs.length : Nat) : Int)) ∧ ((partA 8 (cs.flatMap cellC) (0 + Int.toNat (x2 : Int) * 8) = some (.agg #[nI (cs.getD x2 zeroC).conc.lo, nI (cs.getD x2 zeroC).conc.hi, nI (cs.getD x2 zeroC).thick.lo, nI (cs.getD x2 zeroC).thick.hi, nI (cs.getD x2 zeroC).ridge.lo, nI (cs.getD x2 zeroC).ridge.hi, nI (cs.getD x2 zeroC).press.lo, nI (cs.getD x2 zeroC).press.hi])) ∧ (∃ r3 : Bool, ((True) ∧ (∀ H' : Heap, H'.length = 4 → (True) → KCall prog 114 [.agg #[nI (cs.getD x2 zeroC).conc.lo, nI (cs.getD x2 zeroC).conc.hi, nI (cs.getD x2 zeroC).thick.lo, nI (cs.getD x2 zeroC).thick.hi, nI (cs.getD x2 zeroC).ridge.lo, nI (cs.getD x2 zeroC).ridge.hi, nI (cs.getD x2 zeroC).press.lo, nI (cs.getD x2 zeroC).press.hi], .agg #[nI (xs.getD x2 zeroI).conc, nI (xs.getD x2 zeroI).thick, nI (xs.getD x2 zeroI).ridge, nI (xs.getD x2 zeroI).press]] H' [] (Is (.bool r3) H')) ∧ (((!r3) = true → (.tuple #[.bool false, nI 0] : Value) = sp) ∧ ((!r3) = false → ((nI (IntKind.wrap .i64 ((x2 : Int) + 1)) : Value) = nI ((x2 : Int) + 1) ∧ (∃ x2' : Nat, (x2' ≤ List.length xs ∧ hasTo cs xs x2') ∧ (List.length xs - x2') < (List.length xs - x2) ∧ true = true ∧ ((nI ((x2 : Int) + 1) : Value) = nI (x2' : Int) ∧ (.pointer (some ⟨2, 0, none⟩) : Value) = .pointer (some ⟨2, 0, none⟩) ∧ wkR (slQ 1 2 xs.length) ∧ (nI ((xs.length : Nat) : Int) : Value) = nI ((xs.length : Nat) : Int) ∧ True) ∧ (True) ∧ (True) ∧ (True)))))))))))) ∧ ((decide (((x2 : Int) : Int) < ((xs.length : Nat) : Int))) = false → (.tuple #[.bool true, nI 0] : Value) = sp)))))))))))))
theorem EHolds (sp : Value) (w h t : Int) (cs : List Cell) (xs : List Ice) : vF prog msk (dm 0) 100000 true 40 true 56 [.agg #[nI w, nI h, nI t, slQ 0 2 cs.length], slQ 1 2 xs.length] (readsT 0 [cs.flatMap cellC, xs.flatMap iceC]) (some [])
  (.go 3 (.bind (Int) (fun r0 => .ans [(0, .cells false 0 (cs.flatMap cellC))] (nI r0) [] (.go 2 (.fork (.auto) (.go 5 (.fork (.auto) (.go 0 (.bind (Int) (fun r1 => .ans [(1, .cells false 0 (xs.flatMap iceC))] (nI r1) [] (.go 2 (.fork (.auto) (.go 2 (.inv 3 (Nat) (0) [] [] (fun x2 => [(28, nI (x2 : Int)), (2, .pointer (some ⟨2, 0, none⟩)), (26, slQ 1 2 xs.length), (27, nI ((xs.length : Nat) : Int))]) (fun x2 => []) (fun x2 => []) (fun x2 => []) (fun x2 => (x2 ≤ List.length xs ∧ hasTo cs xs x2)) (fun x2 => (List.length xs - x2)) (fun x2 => .go 0 (.fork (.go 0 (.need (.val (.agg #[nI (xs.getD x2 zeroI).conc, nI (xs.getD x2 zeroI).thick, nI (xs.getD x2 zeroI).ridge, nI (xs.getD x2 zeroI).press]) (.go 5 (.need (.val (.agg #[nI (cs.getD x2 zeroC).conc.lo, nI (cs.getD x2 zeroC).conc.hi, nI (cs.getD x2 zeroC).thick.lo, nI (cs.getD x2 zeroC).thick.hi, nI (cs.getD x2 zeroC).ridge.lo, nI (cs.getD x2 zeroC).ridge.hi, nI (cs.getD x2 zeroC).press.lo, nI (cs.getD x2 zeroC).press.hi]) (.go 13 (.bind (Bool) (fun r3 => .ans [] (.bool r3) [] (.go 0 (.fork (.auto) (.go 0 (.slot 42 (nI ((x2 : Int) + 1)) (.go 0 (.again []))))))))))))))) (.auto)))))))))))))))))
  (fun v _ _ => v = sp) = RHolds sp w h t cs xs := by kernel_rfl
end
end Go.Proofs.Ytkkgnalgmebfjaa
/- Ice: functions of charts. No condition. -/
namespace Go.Proofs.Ytkkgnalgmebfjaa
open Go Go.K
set_option maxRecDepth 100000
set_option linter.unusedVariables false
set_option linter.unusedSimpArgs false
noncomputable section
attribute [local irreducible] vF
theorem cellC_len (c : Cell) : (cellC c).length = 8 := rfl
theorem partCell {xs : List Cell} {x : Nat} (h : x < xs.length) : partA 8 (List.flatMap cellC xs) (0 + Int.toNat ((x : Nat) : Int) * 8) = some (.agg ⟨cellC (List.getD xs x zeroC)⟩) :=
  part_at (f := cellC) (d := zeroC) (c := 0) (m := 8) cellC_len h (by rw [Int.toNat_natCast]; omega) (by decide)
theorem plainC (n : Nat) (l : List Cell) : (l.flatMap cellC).all (belowC n) = true := plain_flat (fun _ => rfl) l
theorem plainI (n : Nat) (l : List Ice) : (l.flatMap iceC).all (belowC n) = true := plain_flat (fun _ => rfl) l
theorem two_id {H : Heap} {id id2 : Nat} {own own2 : Bool} {z z2 : Nat} {cs ds : List Value} (h1 : H[id]? = some (.cells own z cs)) (h2 : H[id2]? = some (.cells own2 z2 ds)) : ∀ (k : Nat) (c : List Value), [cs, ds][k]? = some c → ∃ id' own z, [id, id2][k]? = some id' ∧ H[id']? = some (KObj.cells own z c) := by
  intro k c h
  match k with
  | 0 => cases h; exact ⟨id, own, z, rfl, h1⟩
  | 1 => cases h; exact ⟨id2, own2, z2, rfl, h2⟩
theorem two_cs {cs ds : List Value} (h1 : cs.all (belowC 0) = true) (h2 : ds.all (belowC 0) = true) : ∀ c ∈ [cs, ds], c.all (belowC 0) = true := by
  intro c hc
  rcases List.mem_cons.1 hc with rfl | hc
  · exact h1
  · rw [List.mem_singleton.1 hc]; exact h2
theorem kwrongC (xs : List Cell) (hn : xs.length ≤ 2 ^ 30) {H : Heap} {id : Nat} {own : Bool} {z : Nat} (hid : H[id]? = some (.cells own z (xs.flatMap cellC))) :
    KCall prog F.ice_wrong_ice_Cell_ [.slice (some ⟨id, 0, some 2⟩) xs.length xs.length, .func (.func F.ice_CheckCell) #[] #[]] H [] (Is (.int .i64 (errs errCell xs)) H) := by
  refine valR (Eq.mpr (EwrongC _ xs) ?_) (one_cs (plainC 0 xs)) rfl [id] rfl (one_id hid)
  unfold RwrongC
  refine ⟨rfl, ⟨Nat.zero_le _, rfl⟩, ?_, fun _ => rfl, ?_⟩
  · repeat' first | exact trivial | exact rfl | exact wk_refl _ | refine wkO_cells ?_ | refine wks_cons ?_ ?_ | exact wks_nil | exact wk_nil _ _ _ (.inl rfl) | (exact wk_Q (by omega)) | refine wk_tupL ?_ | refine wk_aggL ?_ | refine joinMax ?_ ?_ ?_ | refine joinMin ?_ ?_ ?_ | refine toMax ?_ | refine toMin ?_ | refine ⟨rfl, ?_⟩ | refine ⟨trivial, ?_⟩ | (refine forkD (fun h => ?_) (fun h => ?_)) | (refine forkNe (fun h => ?_) (fun h => ?_)) | (refine forkEq (fun h => ?_) (fun h => ?_)) | refine forkNot ?_ | (refine ⟨vI64 (by omega), ?_⟩) | (refine And.intro (by omega) ?_) | apply And.intro | (exact iEq (by omega)) | (exact vI64 (by omega))
  rintro x ⟨hx, hsp⟩
  refine forkD (fun h => ?_) (fun h => ?_)
  · have hlt : x < xs.length := by omega
    rw [errs_at (d := zeroC) hlt] at hsp
    refine ⟨by omega, partCell hlt, _, trivial, fun H' _ _ => kCheckCell _ H', ?_⟩
    refine forkNe (fun h1 => ?_) (fun h1 => ?_)
    · rw [hsp, if_neg h1]
    · repeat' first | (refine ⟨x + 1, ⟨by omega, by rw [hsp, if_pos h1]⟩, by omega, ?_⟩) | exact trivial | exact rfl | exact wk_refl _ | refine wkO_cells ?_ | refine wks_cons ?_ ?_ | exact wks_nil | exact wk_nil _ _ _ (.inl rfl) | (exact wk_Q (by omega)) | refine wk_tupL ?_ | refine wk_aggL ?_ | refine joinMax ?_ ?_ ?_ | refine joinMin ?_ ?_ ?_ | refine toMax ?_ | refine toMin ?_ | refine ⟨rfl, ?_⟩ | refine ⟨trivial, ?_⟩ | (refine forkD (fun h => ?_) (fun h => ?_)) | (refine forkNe (fun h => ?_) (fun h => ?_)) | (refine forkEq (fun h => ?_) (fun h => ?_)) | refine forkNot ?_ | (refine ⟨vI64 (by omega), ?_⟩) | (refine And.intro (by omega) ?_) | apply And.intro | (exact iEq (by omega)) | (exact vI64 (by omega))
  · rw [hsp, show x = xs.length by omega, List.drop_length]; rfl
theorem errChart_1 {w h t : Int} {cs : List Cell} (h0 : ¬ errSize w h t = 0) : errChart w h t cs = errSize w h t := first2_1 h0
theorem errChart_2 {w h t : Int} {cs : List Cell} (h0 : errSize w h t = 0) (h1 : (cs.length : Int) ≠ w * h) : errChart w h t cs = 1 := (first2_2 h0).trans (if_neg h1)
theorem errChart_3 {w h t : Int} {cs : List Cell} (h0 : errSize w h t = 0) (h1 : (cs.length : Int) = w * h) : errChart w h t cs = errs errCell cs := (first2_2 h0).trans (if_pos h1)
theorem size_mul {w h t : Int} (h0 : errSize w h t = 0) : 1 ≤ w * h ∧ w * h ≤ 1024 := by
  obtain ⟨h1, h2, h3, _⟩ := errSize_iff.1 h0
  refine ⟨?_, h3⟩
  have : 1 * 1 ≤ w * h := Int.mul_le_mul h1.1 h2.1 (by omega) (by omega)
  omega
theorem kCheckChart (w h t : Int) (cs : List Cell) {H : Heap} {id : Nat} {own : Bool} {z : Nat} (hid : H[id]? = some (.cells own z (cs.flatMap cellC))) :
    KCall prog F.ice_CheckChart [.agg #[.int .i64 w, .int .i64 h, .int .i64 t, .slice (some ⟨id, 0, some 2⟩) cs.length cs.length]] H [] (Is (.int .i64 (errChart w h t cs)) H) := by
  refine valR (Eq.mpr (ECheckChart _ w h t cs) ?_) (one_cs (plainC 0 cs)) rfl [id] rfl (one_id hid)
  unfold RCheckChart
  refine ⟨_, trivial, fun H' _ _ => ksize _ _ _ H', ?_⟩
  refine forkNe (fun h0 => iEq (errChart_1 h0).symm) (fun h0 => ?_)
  have hm := size_mul h0
  repeat' first | (refine ⟨_, ⟨rfl, trivial⟩, fun H' _ hd => kwrongC _ (by omega) hd.1, ?_⟩) | exact iEq (errChart_2 h0 h).symm | exact iEq (errChart_3 h0 h).symm | exact trivial | exact rfl | exact wk_refl _ | refine wkO_cells ?_ | refine wks_cons ?_ ?_ | exact wks_nil | exact wk_nil _ _ _ (.inl rfl) | (exact wk_Q (by omega)) | refine wk_tupL ?_ | refine wk_aggL ?_ | refine joinMax ?_ ?_ ?_ | refine joinMin ?_ ?_ ?_ | refine toMax ?_ | refine toMin ?_ | refine ⟨rfl, ?_⟩ | refine ⟨trivial, ?_⟩ | (refine forkD (fun h => ?_) (fun h => ?_)) | (refine forkNe (fun h => ?_) (fun h => ?_)) | (refine forkEq (fun h => ?_) (fun h => ?_)) | refine forkNot ?_ | (refine ⟨vI64 (by omega), ?_⟩) | (refine And.intro (by omega) ?_) | apply And.intro | (exact iEq (by omega)) | (exact vI64 (by omega))
theorem errChart_ok {w h t : Int} {cs : List Cell} (h0 : errChart w h t cs = 0) : sizeOk w h t ∧ (cs.length : Int) = w * h ∧ cs.length ≤ 1024 ∧ ∀ c ∈ cs, rightC c := by
  have h1 : errSize w h t = 0 := by
    rcases Classical.em (errSize w h t = 0) with h1 | h1
    · exact h1
    · rw [errChart_1 h1] at h0; exact h0
  have h2 : (cs.length : Int) = w * h := by
    rcases Classical.em ((cs.length : Int) = w * h) with h2 | h2
    · exact h2
    · rw [errChart_2 h1 h2] at h0; cases h0
  rw [errChart_3 h1 h2] at h0
  have hm := size_mul h1
  exact ⟨errSize_iff.1 h1, h2, by omega, fun c hc => errCell_iff.1 (errs_zero h0 c hc)⟩
end
end Go.Proofs.Ytkkgnalgmebfjaa
/- Ice: functions of two charts; fields in charts. No condition. -/
namespace Go.Proofs.Ytkkgnalgmebfjaa
open Go Go.K
set_option maxRecDepth 100000
set_option linter.unusedVariables false
set_option linter.unusedSimpArgs false
noncomputable section
attribute [local irreducible] vF
section
variable {w v t w' v' t' : Int} {cs ds : List Cell}
theorem fHolds_1 {xs : List Ice} (h : ¬ errChart w v t cs = 0) : fHolds w v t cs xs = (false, errChart w v t cs) := by unfold fHolds; rw [if_neg h]
theorem fHolds_2 {xs : List Ice} (h : errChart w v t cs = 0) (k : ¬ xs.length = cs.length) : fHolds w v t cs xs = (false, 1) := by unfold fHolds; rw [if_pos h, if_neg k]
theorem fHolds_3 {xs : List Ice} (h : errChart w v t cs = 0) (k : xs.length = cs.length) (q : ¬ errs errIce xs = 0) : fHolds w v t cs xs = (false, errs errIce xs) := by unfold fHolds; rw [if_pos h, if_pos k, if_neg q]
theorem fHolds_4 {xs : List Ice} (h : errChart w v t cs = 0) (k : xs.length = cs.length) (q : errs errIce xs = 0) (r : ¬ hasTo cs xs xs.length) : fHolds w v t cs xs = (false, 0) := by unfold fHolds; rw [if_pos h, if_pos k, if_pos q]; simp [r]
theorem fHolds_5 {xs : List Ice} (h : errChart w v t cs = 0) (k : xs.length = cs.length) (q : errs errIce xs = 0) (r : hasTo cs xs xs.length) : fHolds w v t cs xs = (true, 0) := by unfold fHolds; rw [if_pos h, if_pos k, if_pos q]; simp [r]
theorem to_zero {p : Nat → Prop} : ∀ k, k < 0 → p k := fun k h => absurd h (Nat.not_lt_zero k)
theorem to_succ {p : Nat → Prop} {n : Nat} (h : ∀ k, k < n → p k) (hn : p n) : ∀ k, k < n + 1 → p k := by
  intro k hk
  rcases Nat.lt_or_ge k n with h1 | h1
  · exact h k h1
  · obtain rfl : k = n := by omega
    exact hn
end
theorem kHolds (w v t : Int) (cs : List Cell) (xs : List Ice) {H : Heap} {id id2 : Nat} {own own2 : Bool} {z z2 : Nat} (hid : H[id]? = some (.cells own z (cs.flatMap cellC))) (hid2 : H[id2]? = some (.cells own2 z2 (xs.flatMap iceC))) :
    KCall prog F.ice_Holds [.agg #[.int .i64 w, .int .i64 v, .int .i64 t, .slice (some ⟨id, 0, some 2⟩) cs.length cs.length], .slice (some ⟨id2, 0, some 2⟩) xs.length xs.length] H [] (Is (.tuple #[.bool (fHolds w v t cs xs).1, .int .i64 (fHolds w v t cs xs).2]) H) := by
  refine valR (Eq.mpr (EHolds _ w v t cs xs) ?_) (two_cs (plainC 0 cs) (plainI 0 xs)) rfl [id, id2] rfl (two_id hid hid2)
  unfold RHolds
  refine ⟨_, ⟨rfl, trivial⟩, fun H' _ hd => kCheckChart _ _ _ _ hd.1, ?_⟩
  refine forkNe (fun h0 => tupB (fHolds_1 h0)) (fun h0 => ?_)
  refine forkNe (fun h1 => tupB (fHolds_2 h0 (by omega))) (fun h1 => ?_)
  replace h1 : xs.length = cs.length := by omega
  obtain ⟨hs, hle, hb, hr⟩ := errChart_ok h0
  refine ⟨_, ⟨rfl, trivial⟩, fun H' _ hd => kwrongI _ (by omega) hd.1, ?_⟩
  refine forkNe (fun h2 => tupB (fHolds_3 h0 h1 h2)) (fun h2 => ?_)
  repeat' first | (refine ⟨rfl, ⟨Nat.zero_le _, to_zero⟩, ?_, fun _ => rfl, ?_⟩) | exact trivial | exact rfl | exact wk_refl _ | refine wkO_cells ?_ | refine wks_cons ?_ ?_ | exact wks_nil | exact wk_nil _ _ _ (.inl rfl) | (exact wk_Q (by omega)) | refine wk_tupL ?_ | refine wk_aggL ?_ | refine joinMax ?_ ?_ ?_ | refine joinMin ?_ ?_ ?_ | refine toMax ?_ | refine toMin ?_ | refine ⟨rfl, ?_⟩ | refine ⟨trivial, ?_⟩ | (refine forkD (fun h => ?_) (fun h => ?_)) | (refine forkNe (fun h => ?_) (fun h => ?_)) | (refine forkEq (fun h => ?_) (fun h => ?_)) | refine forkNot ?_ | (refine ⟨vI64 (by omega), ?_⟩) | (refine And.intro (by omega) ?_) | apply And.intro | (exact iEq (by omega)) | (exact vI64 (by omega))
  rintro x ⟨hx, ho⟩
  refine forkD (fun hl => ?_) (fun hl => ?_)
  · have hlt : x < xs.length := by omega
    have hlt2 : x < cs.length := by omega
    repeat' first | refine ⟨partIce hlt, ?_⟩ | refine ⟨partCell hlt2, ?_⟩ | (refine ⟨_, trivial, fun H' _ _ => kspHas _ _ H', ?_⟩) | (refine forkNot (forkD (fun hk => ?_) (fun hk => ?_))) | (exact tupB (fHolds_4 h0 h1 h2 (fun q => hk (q _ hlt)))) | (refine ⟨x + 1, ⟨by omega, to_succ ho hk⟩, by omega, ?_⟩) | exact trivial | exact rfl | exact wk_refl _ | refine wkO_cells ?_ | refine wks_cons ?_ ?_ | exact wks_nil | exact wk_nil _ _ _ (.inl rfl) | (exact wk_Q (by omega)) | refine wk_tupL ?_ | refine wk_aggL ?_ | refine joinMax ?_ ?_ ?_ | refine joinMin ?_ ?_ ?_ | refine toMax ?_ | refine toMin ?_ | refine ⟨rfl, ?_⟩ | refine ⟨trivial, ?_⟩ | (refine forkD (fun h => ?_) (fun h => ?_)) | (refine forkNe (fun h => ?_) (fun h => ?_)) | (refine forkEq (fun h => ?_) (fun h => ?_)) | refine forkNot ?_ | (refine ⟨vI64 (by omega), ?_⟩) | (refine And.intro (by omega) ?_) | apply And.intro | (exact iEq (by omega)) | (exact vI64 (by omega))
  · obtain rfl : x = xs.length := by omega
    exact tupB (fHolds_5 h0 h1 h2 ho)
end
end Go.Proofs.Ytkkgnalgmebfjaa
/- Drift: what comes together in a cell, and what a step makes of a field. No condition. -/
namespace Go.Proofs.Ytkkgnalgmebfjaa
set_option linter.unusedSimpArgs false
set_option linter.unusedVariables false
open Go Go.K
noncomputable section
/-- What has come to a cell: all Conc, and the greatest Thick and Ridge. -/
structure Pl where
  s : Int
  t : Int
  r : Int
def zeroP : Pl := ⟨0, 0, 0⟩
abbrev plC1 (p : Pl) : List Value := [.int .i64 p.s]
abbrev plC2 (p : Pl) : List Value := [.int .i64 0, .int .i64 p.t, .int .i64 p.r, .int .i64 0]
def addP (p : Pl) (x : Ice) : Pl := if x.conc = 0 then p else ⟨p.s + x.conc, max p.t x.thick, max p.r x.ridge⟩
def overP (p : Pl) : Int := max (p.s - 100) 0
def tellP (p : Pl) : Ice := ⟨p.s - overP p, min (p.t + Int.tdiv (overP p) 10) 400, min (p.r + Int.tdiv (overP p) 5) 100, min (Int.tdiv (overP p + 25 - 1) 25) 3⟩
/-- The closures of member j of two families; those of the first x of n. -/
def clos (f F1 F2 j : Nat) : Value := .func (.func f) #[] #[.pointer (some ⟨F1, 0, some (j + 3)⟩), .pointer (some ⟨F2, 0, some (j + 3)⟩)]
def closL (f F1 F2 x n : Nat) : List Value := (List.range n).map fun j => if j < x then clos f F1 F2 j else .nilFunc
/-- The first error of those at the first indices. -/
def errUp (e : Nat → Int) : Nat → Int
  | 0 => 0
  | k + 1 => first2 (errUp e k) (e k)
def isZ (x : Ice) : Bool := (x.conc == 0) && ((x.thick == 0) && ((x.ridge == 0) && ((x.press == 0) && true)))
def inMv (f : Flow) (m : Move) : Bool := (decide ((endA f).dx ≤ m.dx) && decide (m.dx ≤ (endZ f).dx)) && (decide ((endA f).dy ≤ m.dy) && decide (m.dy ≤ (endZ f).dy))
def mvErr (a : List Bool) (l : List Flow) (xs : List Ice) (ms : List Move) (k : Nat) : Int :=
  first2 (errIce (xs.getD k zeroI)) (if a.getD k false = true then (if isZ (xs.getD k zeroI) = true then 0 else 30) else (if inMv (l.getD k zeroF) (ms.getD k zeroM) = true then 0 else 30))
def errDr (w h : Int) (a : List Bool) (l : List Flow) (xs : List Ice) (ms : List Move) : Int :=
  first2 (errFlows w h a.length l) (if xs.length = l.length ∧ ms.length = l.length then errUp (mvErr a l xs ms) xs.length else 1)
/-- What has come to each cell from the first ones. -/
def plTo (w h : Int) (a : List Bool) (xs : List Ice) (ms : List Move) : Nat → List Pl
  | 0 => List.replicate a.length zeroP
  | k + 1 => if a.getD k false = true then plTo w h a xs ms k else
      (plTo w h a xs ms k).set (Int.toNat (targ w h a (k : Int) (ms.getD k zeroM))) (addP ((plTo w h a xs ms k).getD (Int.toNat (targ w h a (k : Int) (ms.getD k zeroM))) zeroP) (xs.getD k zeroI))
def driftI (w h : Int) (a : List Bool) (xs : List Ice) (ms : List Move) : List Ice := (plTo w h a xs ms xs.length).map tellP
def driftE (w h : Int) (a : List Bool) (xs : List Ice) (ms : List Move) : List Int := (plTo w h a xs ms xs.length).map overP
def fDrift (w h : Int) (a : List Bool) (l : List Flow) (xs : List Ice) (ms : List Move) : List Ice × List Int × Int :=
  if errDr w h a l xs ms = 0 then (driftI w h a xs ms, driftE w h a xs ms, 0) else ([], [], errDr w h a l xs ms)
end
end Go.Proofs.Ytkkgnalgmebfjaa
