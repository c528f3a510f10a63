/- Drift: targets, and how the law compares. No condition. -/
import Derived.Test.YtkkgnalgmebfjaaGD4pxD6g
namespace Go.Proofs.Ytkkgnalgmebfjaa
open Go Go.K
set_option maxRecDepth 100000
set_option linter.unusedVariables false
set_option linter.unusedSimpArgs false
noncomputable section
attribute [local irreducible] vF
/-- An answer with one new list, of a function that reads two. -/
theorem valQ2 {f : FuncId} {args : List Value} {c d : List Value} {h : Hint} (v : Nat → Value) {z : Nat} {cs : List Value}
    (hc : vF prog msk (dm 0) 100000 true 40 true f args (readsT 0 [c, d]) (some []) h (newK (readsT 0 [c, d]).n 3 (v 2) [(true, .cells true z cs)]))
    (hp0 : c.all (belowC 0) = true) (hp1 : d.all (belowC 0) = true) (hp : ∀ n, cs.all (belowC n) = true) (h1 : rnOk 3 (v 2) = true) (h2 : rn (sgOnly (0 + 2)) 3 (v 2) = v 2) (h3 : ∀ j, rn (sgUp (0 + 2) j) 3 (v 2) = v j)
    {H : Heap} {id id2 : Nat} {own own2 : Bool} {z2 z3 : Nat} (hid : H[id]? = some (.cells own z2 c)) (hid2 : H[id2]? = some (.cells own2 z3 d)) {args' : List Value} (ha : args.map (rn (sgR 0 [id, id2]) 3) = args') :
    KCall prog f args' H [] (Is (v H.length) (H ++ [.cells true z cs])) := by
  subst ha
  have key := valN (css := [c, d]) (v := v 2) (new := [(true, .cells true z cs)]) hc (twoCs hp0 hp1) h1 h2
    (by show ((rnoOk 3 (.cells true z cs) && true) && true) = true
        rw [Bool.and_true, Bool.and_true]; exact (rnCl (σ := fun _ => none) (d := 0) (hp 0)).2)
    (congrArg (fun q => [KObj.cells true z q]) (rnCl (d := 0) (hp 0)).1) (H := H) [id, id2] rfl (twoId hid hid2)
  have e2 : (List.map (fun x : Bool × KObj => x.2) [(true, KObj.cells true z cs)]).map (rno (sgUp (0 + [c, d].length) H.length) 3) = [.cells true z cs] :=
    congrArg (fun q => [KObj.cells true z q]) (rnCl (d := 0) (hp 0)).1
  rw [e2, show rn (sgUp (0 + [c, d].length) H.length) 3 (v 2) = v H.length from h3 _] at key
  exact key
theorem errFlows_0 {w h : Int} {n : Nat} {l : List Flow} (e : errFlows w h n l = 0) : errBas w h n = 0 ∧ l.length = n ∧ errF l = 0 := by
  unfold errFlows first2 at e
  split at e
  · rename_i h0
    split at e
    · rename_i h1; exact ⟨h0, h1, e⟩
    · omega
  · rename_i h0; exact absurd e h0
theorem errF_all : ∀ {l : List Flow}, errF l = 0 → ∀ f ∈ l, rightF f
  | [], _, f, hf => by cases hf
  | g :: r, e, f, hf => by
    unfold errF at e
    split at e
    · rename_i hg
      rcases List.mem_cons.1 hf with rfl | hf
      · exact hg
      · exact errF_all e f hf
    · omega
theorem fT_e {w h : Int} {a : List Bool} {l : List Flow} {c : Int} (e : ¬ errFlows w h a.length l = 0) : fTargets w h a l c = ([], errFlows w h a.length l) ∧ tgPad w h a l c = [] := by
  have : fTargets w h a l c = ([], errFlows w h a.length l) := if_neg e
  refine ⟨this, ?_⟩
  unfold tgPad
  rw [this, if_neg e]; rfl
theorem fT_1 {w h : Int} {a : List Bool} {l : List Flow} {c : Int} (e : errFlows w h a.length l = 0) (s : seaB a c = false) : fTargets w h a l c = ([], 1) ∧ tgPad w h a l c = [] := by
  have : fTargets w h a l c = ([], 1) := by unfold fTargets; rw [if_pos e, if_neg (by rw [s]; exact Bool.false_ne_true)]
  refine ⟨this, ?_⟩
  unfold tgPad
  rw [this, if_pos e, if_neg (by rw [s]; exact Bool.false_ne_true)]; rfl
theorem fT_0 {w h : Int} {a : List Bool} {l : List Flow} {c : Int} (e : errFlows w h a.length l = 0) (s : seaB a c = true) : fTargets w h a l c = (tgts w h a c (l.getD (Int.toNat c) zeroF), 0) ∧ tgPad w h a l c = tgts w h a c (l.getD (Int.toNat c) zeroF) ++ padT (tgL w h a c (l.getD (Int.toNat c) zeroF)) := by
  have : fTargets w h a l c = (tgts w h a c (l.getD (Int.toNat c) zeroF), 0) := by unfold fTargets; rw [if_pos e, if_pos s]
  refine ⟨this, ?_⟩
  unfold tgPad
  rw [this, if_pos e, if_pos s]
theorem seaB_t {a : List Bool} {c : Int} (s : seaB a c = true) : 0 ≤ c ∧ c < (a.length : Int) := by
  unfold seaB at s
  rw [Bool.and_eq_true] at s
  exact of_decide_eq_true s.1
theorem tgts_comp {w h : Int} {a : List Bool} {c : Int} {f : Flow} (b : BasOk w h a.length) (hc : 0 ≤ c ∧ c < w * h) : comp (srtI (tgL w h a c f)) = tgts w h a c f :=
  comp_trues (n := Int.toNat (w * h)) fun z hz => by
    have := tgL_bd (a := a) (f := f) hc z hz
    have := b.n1
    omega
theorem notB {b : Bool} (h : (!b) = true) : b = false := by cases b <;> first | rfl | cases h
theorem notB2 {b : Bool} (h : (!b) = false) : b = true := by cases b <;> first | rfl | cases h
theorem partFlowC {l : List Flow} {c : Int} (h0 : 0 ≤ c) (h : c < (l.length : Int)) : partA 4 (l.flatMap flowC) (0 + Int.toNat c * 4) = some (.agg ⟨flowC (l.getD (Int.toNat c) zeroF)⟩) :=
  part_at (n := 4) (d := zeroF) (c := 0) flowC_len (by omega) (by omega) (by omega)
abbrev tgV (k : Nat) (i : Nat) (r : List Int × Int) : Value := .tuple #[.slice (some ⟨i, 0, some k⟩) r.1.length r.1.length, .int .i64 r.2]
theorem kTargets (w h : Int) (a : List Bool) (l : List Flow) (c : Int) (hl : l.length ≤ 4294967296) {H : Heap} {L : Nat} (hL : H.length = L) {id id2 : Nat} {own own2 : Bool} {z z2 : Nat} (hid : H[id]? = some (.cells own z (a.flatMap boolC))) (hid2 : H[id2]? = some (.cells own2 z2 (l.flatMap flowC))) :
    KCall prog F.drift_Targets [basV w h id a.length, .slice (some ⟨id2, 0, some 2⟩) l.length l.length, .int .i64 c] H [] (Is (tgV 2 L (fTargets w h a l c)) (H ++ [.cells true 1 ((tgPad w h a l c).flatMap intC)])) := by
  subst hL
  refine valQ2 (fun i => tgV 2 i (fTargets w h a l c)) (Eq.mpr (ETargets w h a l c) ?_) (plainBL 0 a) (plainFL 0 l) (fun n => plainIL n _) rfl rfl (fun _ => rfl) hid hid2 rfl
  unfold RTargets
  refine ⟨⟨rfl, rfl, trivial⟩, fun H' _ hd => kCheckFlows w h a l hl hd.1 hd.2.1, forkNe (fun h0 => ?_) (fun h0 => ⟨⟨rfl, trivial⟩, fun H' _ hd => ?_, fun s => ?_, fun s => ?_⟩)⟩
  · rw [(fT_e h0).1]
    repeat' first
      | exact wk_nil _ _ _ (.inr rfl)
      | exact trivial
      | exact rfl
      | exact wk_refl _
      | refine wkO_cells ?_
      | refine wks_cons ?_ ?_
      | exact wks_nil
      | exact wk_nil _ _ _ (.inl rfl)
      | exact wk_Q (by omega)
      | refine wk_tupL ?_
      | refine wk_aggL ?_
      | refine joinMax ?_ ?_ ?_
      | refine joinMin ?_ ?_ ?_
      | refine toMax ?_
      | refine toMin ?_
      | refine ⟨rfl, ?_⟩
      | refine ⟨trivial, ?_⟩
      | refine forkD (fun h => ?_) (fun h => ?_)
      | refine forkNe (fun h => ?_) (fun h => ?_)
      | refine forkEq (fun h => ?_) (fun h => ?_)
      | refine forkNot ?_
      | refine ⟨vI64 (by omega), ?_⟩
      | refine And.intro (by omega) ?_
      | apply And.intro
      | exact iEq (by omega)
      | exact vI64 (by omega)
      | fail
  · exact kis (basOk (errFlows_0 h0).1) hd.1
  · rw [(fT_1 h0 (notB s)).1]
    repeat' first
      | exact wk_nil _ _ _ (.inr rfl)
      | exact trivial
      | exact rfl
      | exact wk_refl _
      | refine wkO_cells ?_
      | refine wks_cons ?_ ?_
      | exact wks_nil
      | exact wk_nil _ _ _ (.inl rfl)
      | exact wk_Q (by omega)
      | refine wk_tupL ?_
      | refine wk_aggL ?_
      | refine joinMax ?_ ?_ ?_
      | refine joinMin ?_ ?_ ?_
      | refine toMax ?_
      | refine toMin ?_
      | refine ⟨rfl, ?_⟩
      | refine ⟨trivial, ?_⟩
      | refine forkD (fun h => ?_) (fun h => ?_)
      | refine forkNe (fun h => ?_) (fun h => ?_)
      | refine forkEq (fun h => ?_) (fun h => ?_)
      | refine forkNot ?_
      | refine ⟨vI64 (by omega), ?_⟩
      | refine And.intro (by omega) ?_
      | apply And.intro
      | exact iEq (by omega)
      | exact vI64 (by omega)
      | fail
  · have s1 := notB2 s
    have hc := seaB_t s1
    obtain ⟨e1, e2, e3⟩ := errFlows_0 h0
    have b := basOk e1
    have hc2 : 0 ≤ c ∧ c < w * h := by have := b.n1; omega
    have hr := errF_all e3 _ (getD_mem (d := zeroF) (l := l) (x := Int.toNat c) (by omega))
    refine ⟨by omega, partFlowC hc.1 (by omega), ⟨rfl, trivial⟩, fun H' hl hd => ktargets b hc2 hr hl hd.1, ?_⟩
    rw [(fT_0 h0 s1).1, (fT_0 h0 s1).2, tgts_comp b hc2]
    repeat' first
      | exact plainIL _ _
      | exact trivial
      | exact rfl
      | exact wk_refl _
      | refine wkO_cells ?_
      | refine wks_cons ?_ ?_
      | exact wks_nil
      | exact wk_nil _ _ _ (.inl rfl)
      | exact wk_Q (by omega)
      | refine wk_tupL ?_
      | refine wk_aggL ?_
      | refine joinMax ?_ ?_ ?_
      | refine joinMin ?_ ?_ ?_
      | refine toMax ?_
      | refine toMin ?_
      | refine ⟨rfl, ?_⟩
      | refine ⟨trivial, ?_⟩
      | refine forkD (fun h => ?_) (fun h => ?_)
      | refine forkNe (fun h => ?_) (fun h => ?_)
      | refine forkEq (fun h => ?_) (fun h => ?_)
      | refine forkNot ?_
      | refine ⟨vI64 (by omega), ?_⟩
      | refine And.intro (by omega) ?_
      | apply And.intro
      | exact iEq (by omega)
      | exact vI64 (by omega)
      | fail
theorem krTargets (w h : Int) (a : List Bool) (l : List Flow) (c : Int) (hl : l.length ≤ 4294967296) {H : Heap} {L : Nat} (hL : H.length = L) {id id2 : Nat} {own own2 : Bool} {z z2 : Nat} (hid : H[id]? = some (.cells own z (a.flatMap boolC))) (hid2 : H[id2]? = some (.cells own2 z2 (l.flatMap flowC))) :
    KCall prog F.polynyaref02_Targets [basV w h id a.length, .slice (some ⟨id2, 0, some 2⟩) l.length l.length, .int .i64 c] H [] (Is (tgV 1 L (fTargets w h a l c)) (H ++ [.cells true 1 ((fTargets w h a l c).1.flatMap intC)])) := by
  subst hL
  refine valQ2 (fun i => tgV 1 i (fTargets w h a l c)) (Eq.mpr (ErTargets w h a l c) ?_) (plainBL 0 a) (plainFL 0 l) (fun n => plainIL n _) rfl rfl (fun _ => rfl) hid hid2 rfl
  unfold RrTargets
  refine ⟨⟨rfl, rfl, trivial⟩, fun H' _ hd => krCheckFlows w h a l hl hd.1 hd.2.1, forkNe (fun h0 => ?_) (fun h0 => ⟨⟨rfl, trivial⟩, fun H' _ hd => ?_, fun s => ?_, fun s => ?_⟩)⟩
  · rw [(fT_e h0).1]
    repeat' first
      | exact wk_nil _ _ _ (.inl rfl)
      | exact trivial
      | exact rfl
      | exact wk_refl _
      | refine wkO_cells ?_
      | refine wks_cons ?_ ?_
      | exact wks_nil
      | exact wk_nil _ _ _ (.inl rfl)
      | exact wk_Q (by omega)
      | refine wk_tupL ?_
      | refine wk_aggL ?_
      | refine joinMax ?_ ?_ ?_
      | refine joinMin ?_ ?_ ?_
      | refine toMax ?_
      | refine toMin ?_
      | refine ⟨rfl, ?_⟩
      | refine ⟨trivial, ?_⟩
      | refine forkD (fun h => ?_) (fun h => ?_)
      | refine forkNe (fun h => ?_) (fun h => ?_)
      | refine forkEq (fun h => ?_) (fun h => ?_)
      | refine forkNot ?_
      | refine ⟨vI64 (by omega), ?_⟩
      | refine And.intro (by omega) ?_
      | apply And.intro
      | exact iEq (by omega)
      | exact vI64 (by omega)
      | fail
  · exact krisSea (basOk (errFlows_0 h0).1) hd.1
  · rw [(fT_1 h0 (notB s)).1]
    repeat' first
      | exact wk_nil _ _ _ (.inl rfl)
      | exact trivial
      | exact rfl
      | exact wk_refl _
      | refine wkO_cells ?_
      | refine wks_cons ?_ ?_
      | exact wks_nil
      | exact wk_nil _ _ _ (.inl rfl)
      | exact wk_Q (by omega)
      | refine wk_tupL ?_
      | refine wk_aggL ?_
      | refine joinMax ?_ ?_ ?_
      | refine joinMin ?_ ?_ ?_
      | refine toMax ?_
      | refine toMin ?_
      | refine ⟨rfl, ?_⟩
      | refine ⟨trivial, ?_⟩
      | refine forkD (fun h => ?_) (fun h => ?_)
      | refine forkNe (fun h => ?_) (fun h => ?_)
      | refine forkEq (fun h => ?_) (fun h => ?_)
      | refine forkNot ?_
      | refine ⟨vI64 (by omega), ?_⟩
      | refine And.intro (by omega) ?_
      | apply And.intro
      | exact iEq (by omega)
      | exact vI64 (by omega)
      | fail
  · have s1 := notB2 s
    have hc := seaB_t s1
    obtain ⟨e1, e2, e3⟩ := errFlows_0 h0
    have b := basOk e1
    have hc2 : 0 ≤ c ∧ c < w * h := by have := b.n1; omega
    have hr := errF_all e3 _ (getD_mem (d := zeroF) (l := l) (x := Int.toNat c) (by omega))
    refine ⟨by omega, partFlowC hc.1 (by omega), ⟨rfl, trivial⟩, fun H' hl hd => krgoes b hc2 hr hl hd.1, ⟨rfl, trivial⟩, fun H' hl hd => (krlist _ (by rw [goesL_len]; have := b.p1; omega) hl hd.1).wkA ⟨wk_QR, trivial⟩, ?_⟩
    rw [(fT_0 h0 s1).1]
    repeat' first
      | exact plainIL _ _
      | exact trivial
      | exact rfl
      | exact wk_refl _
      | refine wkO_cells ?_
      | refine wks_cons ?_ ?_
      | exact wks_nil
      | exact wk_nil _ _ _ (.inl rfl)
      | exact wk_Q (by omega)
      | refine wk_tupL ?_
      | refine wk_aggL ?_
      | refine joinMax ?_ ?_ ?_
      | refine joinMin ?_ ?_ ?_
      | refine toMax ?_
      | refine toMin ?_
      | refine ⟨rfl, ?_⟩
      | refine ⟨trivial, ?_⟩
      | refine forkD (fun h => ?_) (fun h => ?_)
      | refine forkNe (fun h => ?_) (fun h => ?_)
      | refine forkEq (fun h => ?_) (fun h => ?_)
      | refine forkNot ?_
      | refine ⟨vI64 (by omega), ?_⟩
      | refine And.intro (by omega) ?_
      | apply And.intro
      | exact iEq (by omega)
      | exact vI64 (by omega)
      | fail
theorem cell_x {x p : List Int} {k : Nat} (h : k < x.length) : ((x ++ p).flatMap intC)[0 + Int.toNat ((k : Nat) : Int) * 1]? = some (.int .i64 (x.getD k 0)) := by
  have := intAt (a := x ++ p) (k := k) (by rw [List.length_append]; omega) (off := 0 + Int.toNat ((k : Nat) : Int) * 1) (by omega)
  rw [this, List.getD_eq_getElem?_getD, List.getElem?_append_left h, ← List.getD_eq_getElem?_getD]
theorem kSameInts (x p q : List Int) (hx : x.length ≤ 4294967296) {H : Heap} {id id2 : Nat} {own own2 : Bool} {z z2 : Nat} (hid : H[id]? = some (.cells own z ((x ++ p).flatMap intC))) (hid2 : H[id2]? = some (.cells own2 z2 ((x ++ q).flatMap intC))) :
    KCall prog F.polynyakit_SameInts [.slice (some ⟨id, 0, some 2⟩) x.length x.length, .slice (some ⟨id2, 0, some 2⟩) x.length x.length] H [] (Is (.bool true) H) := by
  refine valR (Eq.mpr (ESameInts _ x p q) ?_) (twoCs (plainIL 0 _) (plainIL 0 _)) rfl [id, id2] rfl (twoId hid hid2)
  unfold RSameInts
  refine forkF (by simp only [bne_self_eq_false, beq_self_eq_true, Bool.and_self, Bool.not_true, Bool.not_false]) ⟨rfl, Nat.zero_le _, ?_, fun _ => rfl, ?_⟩
  · repeat' first
      | exact trivial
      | exact rfl
      | exact wk_refl _
      | refine wkO_cells ?_
      | refine wks_cons ?_ ?_
      | exact wks_nil
      | exact wk_nil _ _ _ (.inl rfl)
      | exact wk_Q (by omega)
      | refine wk_tupL ?_
      | refine wk_aggL ?_
      | refine joinMax ?_ ?_ ?_
      | refine joinMin ?_ ?_ ?_
      | refine toMax ?_
      | refine toMin ?_
      | refine ⟨rfl, ?_⟩
      | refine ⟨trivial, ?_⟩
      | refine forkD (fun h => ?_) (fun h => ?_)
      | refine forkNe (fun h => ?_) (fun h => ?_)
      | refine forkEq (fun h => ?_) (fun h => ?_)
      | refine forkNot ?_
      | refine ⟨vI64 (by omega), ?_⟩
      | refine And.intro (by omega) ?_
      | apply And.intro
      | exact iEq (by omega)
      | exact vI64 (by omega)
      | fail
  intro k hk
  refine forkD (fun h => ?_) (fun h => rfl)
  have hlt : k < x.length := by omega
  refine ⟨by omega, cell_x hlt, by omega, cell_x hlt, forkF (by simp only [bne_self_eq_false, beq_self_eq_true, Bool.and_self, Bool.not_true, Bool.not_false]) ⟨vI64 (by omega), k + 1, by omega, by omega, rfl, ?_⟩⟩
  repeat' first
    | exact trivial
    | exact rfl
    | exact wk_refl _
    | refine wkO_cells ?_
    | refine wks_cons ?_ ?_
    | exact wks_nil
    | exact wk_nil _ _ _ (.inl rfl)
    | exact wk_Q (by omega)
    | refine wk_tupL ?_
    | refine wk_aggL ?_
    | refine joinMax ?_ ?_ ?_
    | refine joinMin ?_ ?_ ?_
    | refine toMax ?_
    | refine toMin ?_
    | refine ⟨rfl, ?_⟩
    | refine ⟨trivial, ?_⟩
    | refine forkD (fun h => ?_) (fun h => ?_)
    | refine forkNe (fun h => ?_) (fun h => ?_)
    | refine forkEq (fun h => ?_) (fun h => ?_)
    | refine forkNot ?_
    | refine ⟨vI64 (by omega), ?_⟩
    | refine And.intro (by omega) ?_
    | apply And.intro
    | exact iEq (by omega)
    | exact vI64 (by omega)
    | fail
theorem kSameTruths (a : List Bool) (ha : a.length ≤ 4294967296) {H : Heap} {id id2 : Nat} {own own2 : Bool} {z z2 : Nat} (hid : H[id]? = some (.cells own z (a.flatMap boolC))) (hid2 : H[id2]? = some (.cells own2 z2 (a.flatMap boolC))) :
    KCall prog F.polynyakit_SameTruths [.slice (some ⟨id, 0, some 2⟩) a.length a.length, .slice (some ⟨id2, 0, some 2⟩) a.length a.length] H [] (Is (.bool true) H) := by
  refine valR (Eq.mpr (ESameTruths _ a) ?_) (twoCs (plainBL 0 _) (plainBL 0 _)) rfl [id, id2] rfl (twoId hid hid2)
  unfold RSameTruths
  refine forkF (by simp only [bne_self_eq_false, beq_self_eq_true, Bool.and_self, Bool.not_true, Bool.not_false]) ⟨rfl, Nat.zero_le _, ?_, fun _ => rfl, ?_⟩
  · repeat' first
      | exact trivial
      | exact rfl
      | exact wk_refl _
      | refine wkO_cells ?_
      | refine wks_cons ?_ ?_
      | exact wks_nil
      | exact wk_nil _ _ _ (.inl rfl)
      | exact wk_Q (by omega)
      | refine wk_tupL ?_
      | refine wk_aggL ?_
      | refine joinMax ?_ ?_ ?_
      | refine joinMin ?_ ?_ ?_
      | refine toMax ?_
      | refine toMin ?_
      | refine ⟨rfl, ?_⟩
      | refine ⟨trivial, ?_⟩
      | refine forkD (fun h => ?_) (fun h => ?_)
      | refine forkNe (fun h => ?_) (fun h => ?_)
      | refine forkEq (fun h => ?_) (fun h => ?_)
      | refine forkNot ?_
      | refine ⟨vI64 (by omega), ?_⟩
      | refine And.intro (by omega) ?_
      | apply And.intro
      | exact iEq (by omega)
      | exact vI64 (by omega)
      | fail
  intro k hk
  refine forkD (fun h => ?_) (fun h => rfl)
  have hlt : k < a.length := by omega
  refine ⟨by omega, boolAt hlt (by omega), by omega, boolAt hlt (by omega), forkF (by simp only [bne_self_eq_false, beq_self_eq_true, Bool.and_self, Bool.not_true, Bool.not_false]) ⟨vI64 (by omega), k + 1, by omega, by omega, rfl, ?_⟩⟩
  repeat' first
    | exact trivial
    | exact rfl
    | exact wk_refl _
    | refine wkO_cells ?_
    | refine wks_cons ?_ ?_
    | exact wks_nil
    | exact wk_nil _ _ _ (.inl rfl)
    | exact wk_Q (by omega)
    | refine wk_tupL ?_
    | refine wk_aggL ?_
    | refine joinMax ?_ ?_ ?_
    | refine joinMin ?_ ?_ ?_
    | refine toMax ?_
    | refine toMin ?_
    | refine ⟨rfl, ?_⟩
    | refine ⟨trivial, ?_⟩
    | refine forkD (fun h => ?_) (fun h => ?_)
    | refine forkNe (fun h => ?_) (fun h => ?_)
    | refine forkEq (fun h => ?_) (fun h => ?_)
    | refine forkNot ?_
    | refine ⟨vI64 (by omega), ?_⟩
    | refine And.intro (by omega) ?_
    | apply And.intro
    | exact iEq (by omega)
    | exact vI64 (by omega)
    | fail
theorem kBasin (w h : Int) (a : List Bool) (ha : a.length ≤ 4294967296) {H : Heap} {L : Nat} (hL : H.length = L) {id : Nat} {own : Bool} {z : Nat} (hid : H[id]? = some (.cells own z (a.flatMap boolC))) :
    KCall prog F.polynyalaw02_Basin [basV w h id a.length] H [] (Is (.agg #[.int .i64 w, .int .i64 h, .slice (some ⟨L, 0, some 1⟩) a.length a.length]) (H ++ [.cells true 1 (a.flatMap boolC)])) := by
  subst hL
  refine valQ (fun i => .agg #[.int .i64 w, .int .i64 h, .slice (some ⟨i, 0, some 1⟩) a.length a.length]) (Eq.mpr (EBasin w h a) ?_) (plainBL 0 a) (fun n => plainBL n _) rfl rfl (fun _ => rfl) hid rfl
  unfold RBasin
  have hfl : (a.flatMap boolC).length = a.length * 1 := flat_len boolC_len a
  refine ⟨fun h0 => ⟨⟨by omega, h0⟩, ?_⟩, fun h0 => ⟨⟨by omega, h0, rfl, ⟨Nat.le_refl _, by omega⟩, ?_⟩, rfl, ?_⟩⟩
  · rw [h0]
    repeat' first
      | exact trivial
      | exact rfl
      | exact wk_refl _
      | refine wkO_cells ?_
      | refine wks_cons ?_ ?_
      | exact wks_nil
      | exact wk_nil _ _ _ (.inl rfl)
      | exact wk_Q (by omega)
      | refine wk_tupL ?_
      | refine wk_aggL ?_
      | refine joinMax ?_ ?_ ?_
      | refine joinMin ?_ ?_ ?_
      | refine toMax ?_
      | refine toMin ?_
      | refine ⟨rfl, ?_⟩
      | refine ⟨trivial, ?_⟩
      | refine forkD (fun h => ?_) (fun h => ?_)
      | refine forkNe (fun h => ?_) (fun h => ?_)
      | refine forkEq (fun h => ?_) (fun h => ?_)
      | refine forkNot ?_
      | refine ⟨vI64 (by omega), ?_⟩
      | refine And.intro (by omega) ?_
      | apply And.intro
      | exact iEq (by omega)
      | exact vI64 (by omega)
      | fail
  · rw [List.drop_zero, ← hfl, List.take_length]
    exact List.all_eq_true.2 fun v hv => by obtain ⟨b, _, hb⟩ := List.mem_flatMap.1 hv; rw [List.mem_singleton.1 hb]; rfl
  · rw [List.drop_zero, ← hfl, List.take_length, List.nil_append, Nat.zero_add]
    repeat' first
      | exact plainBL _ _
      | exact trivial
      | exact rfl
      | exact wk_refl _
      | refine wkO_cells ?_
      | refine wks_cons ?_ ?_
      | exact wks_nil
      | exact wk_nil _ _ _ (.inl rfl)
      | exact wk_Q (by omega)
      | refine wk_tupL ?_
      | refine wk_aggL ?_
      | refine joinMax ?_ ?_ ?_
      | refine joinMin ?_ ?_ ?_
      | refine toMax ?_
      | refine toMin ?_
      | refine ⟨rfl, ?_⟩
      | refine ⟨trivial, ?_⟩
      | refine forkD (fun h => ?_) (fun h => ?_)
      | refine forkNe (fun h => ?_) (fun h => ?_)
      | refine forkEq (fun h => ?_) (fun h => ?_)
      | refine forkNot ?_
      | refine ⟨vI64 (by omega), ?_⟩
      | refine And.intro (by omega) ?_
      | apply And.intro
      | exact iEq (by omega)
      | exact vI64 (by omega)
      | fail
theorem kFlows (l : List Flow) (hl : l.length ≤ 4294967296) {H : Heap} {L : Nat} (hL : H.length = L) {id : Nat} {own : Bool} {z : Nat} (hid : H[id]? = some (.cells own z (l.flatMap flowC))) :
    KCall prog F.polynyalaw02_Flows [.slice (some ⟨id, 0, some 2⟩) l.length l.length] H [] (Is (.slice (some ⟨L, 0, some 1⟩) l.length l.length) (H ++ [.cells true 4 (l.flatMap flowC)])) := by
  subst hL
  refine valQ (fun i => .slice (some ⟨i, 0, some 1⟩) l.length l.length) (Eq.mpr (EFlows l) ?_) (plainFL 0 l) (fun n => plainFL n _) rfl rfl (fun _ => rfl) hid rfl
  unfold RFlows
  refine ⟨rfl, Nat.zero_le _, ?_, fun _ => rfl, ?_⟩
  · repeat' first
      | exact trivial
      | exact rfl
      | exact wk_refl _
      | refine wkO_cells ?_
      | refine wks_cons ?_ ?_
      | exact wks_nil
      | exact wk_nil _ _ _ (.inl rfl)
      | exact wk_Q (by omega)
      | refine wk_tupL ?_
      | refine wk_aggL ?_
      | refine joinMax ?_ ?_ ?_
      | refine joinMin ?_ ?_ ?_
      | refine toMax ?_
      | refine toMin ?_
      | refine ⟨rfl, ?_⟩
      | refine ⟨trivial, ?_⟩
      | refine forkD (fun h => ?_) (fun h => ?_)
      | refine forkNe (fun h => ?_) (fun h => ?_)
      | refine forkEq (fun h => ?_) (fun h => ?_)
      | refine forkNot ?_
      | refine ⟨vI64 (by omega), ?_⟩
      | refine And.intro (by omega) ?_
      | apply And.intro
      | exact iEq (by omega)
      | exact vI64 (by omega)
      | fail
  intro x hx
  have htl : (List.take x l).length = x := by rw [List.length_take]; omega
  refine forkD (fun h => ?_) (fun h => ?_)
  · have hlt : x < l.length := by omega
    have hs : List.take (x + 1) l = List.take x l ++ [l.getD x zeroF] := by
      rw [List.take_add_one, List.getElem?_eq_getElem hlt, List.getD_eq_getElem?_getD, List.getElem?_eq_getElem hlt]; rfl
    refine ⟨by omega, partFlow hlt, ⟨by omega, by decide, ⟨Nat.le_refl _, by rw [flat_len flowC_len, htl]; omega⟩, ⟨by decide, Nat.le_refl _⟩, rfl⟩, rfl, vI64 (by omega), x + 1, by omega, by omega, rfl, ?_⟩
    repeat' first
      | exact plainFL _ _
      | exact congrArg (fun l => some (KObj.cells true 4 l)) (by rw [hs]; exact flat_snoc flowC_len _ (l.getD x zeroF) htl.symm)
      | exact trivial
      | exact rfl
      | exact wk_refl _
      | refine wkO_cells ?_
      | refine wks_cons ?_ ?_
      | exact wks_nil
      | exact wk_nil _ _ _ (.inl rfl)
      | exact wk_Q (by omega)
      | refine wk_tupL ?_
      | refine wk_aggL ?_
      | refine joinMax ?_ ?_ ?_
      | refine joinMin ?_ ?_ ?_
      | refine toMax ?_
      | refine toMin ?_
      | refine ⟨rfl, ?_⟩
      | refine ⟨trivial, ?_⟩
      | refine forkD (fun h => ?_) (fun h => ?_)
      | refine forkNe (fun h => ?_) (fun h => ?_)
      | refine forkEq (fun h => ?_) (fun h => ?_)
      | refine forkNot ?_
      | refine ⟨vI64 (by omega), ?_⟩
      | refine And.intro (by omega) ?_
      | apply And.intro
      | exact iEq (by omega)
      | exact vI64 (by omega)
      | fail
  · obtain rfl : x = l.length := by omega
    rw [List.take_length]
    repeat' first
      | exact plainFL _ _
      | exact trivial
      | exact rfl
      | exact wk_refl _
      | refine wkO_cells ?_
      | refine wks_cons ?_ ?_
      | exact wks_nil
      | exact wk_nil _ _ _ (.inl rfl)
      | exact wk_Q (by omega)
      | refine wk_tupL ?_
      | refine wk_aggL ?_
      | refine joinMax ?_ ?_ ?_
      | refine joinMin ?_ ?_ ?_
      | refine toMax ?_
      | refine toMin ?_
      | refine ⟨rfl, ?_⟩
      | refine ⟨trivial, ?_⟩
      | refine forkD (fun h => ?_) (fun h => ?_)
      | refine forkNe (fun h => ?_) (fun h => ?_)
      | refine forkEq (fun h => ?_) (fun h => ?_)
      | refine forkNot ?_
      | refine ⟨vI64 (by omega), ?_⟩
      | refine And.intro (by omega) ?_
      | apply And.intro
      | exact iEq (by omega)
      | exact vI64 (by omega)
      | fail
end
end Go.Proofs.Ytkkgnalgmebfjaa
/- What is to be shown of functions. Printed by a program. No condition. -/
namespace Go.Proofs.Ytkkgnalgmebfjaa
set_option linter.unusedSimpArgs false
open Go Go.K
set_option maxRecDepth 100000
set_option maxHeartbeats 4000000
set_option linter.unusedVariables false
noncomputable section
def RDriftFlows (sp : Value) (w h : Int) (a : List Bool) (l : List Flow) (p q : Flow) (size c : Int) : Prop :=
  (((decide ((60 : Int) < (((List.length a) : Nat) : Int))) = true → ((True) ∧ (∀ H' : Heap, H'.length = 5 → (True) → KCall prog 16 [] H' [] (Is (.bool true) H')) ∧ (.bool true : Value) = sp)) ∧ ((decide ((60 : Int) < (((List.length a) : Nat) : Int))) = false → (((decide ((100 : Int) < (((List.length l) : Nat) : Int))) = true → ((True) ∧ (∀ H' : Heap, H'.length = 5 → (True) → KCall prog 16 [] H' [] (Is (.bool true) H')) ∧ (.bool true : Value) = sp)) ∧ ((decide ((100 : Int) < (((List.length l) : Nat) : Int))) = false → (((some (.cells false 0 (List.flatMap boolC a) : KObj) = some (.cells false 0 (List.flatMap boolC a) : KObj)) ∧ True) ∧ (∀ H' : Heap, H'.length = 5 → (H'[0]? = some (.cells false 0 (List.flatMap boolC a) : KObj) ∧ True) → KCall prog 18 [.agg #[.int .i64 w, .int .i64 h, .slice (some ⟨0, 0, some 2⟩) (List.length a) (List.length a)]] H' [] (Is (.agg #[.int .i64 w, .int .i64 h, .slice (some ⟨5, 0, some 1⟩) (List.length a) (List.length a)]) (H' ++ [(.cells true 1 (List.flatMap boolC a) : KObj)]))) ∧ (((some (.cells false 0 (List.flatMap flowC l) : KObj) = some (.cells false 0 (List.flatMap flowC l) : KObj)) ∧ True) ∧ (∀ H' : Heap, H'.length = 6 → (H'[1]? = some (.cells false 0 (List.flatMap flowC l) : KObj) ∧ True) → KCall prog 19 [.slice (some ⟨1, 0, some 2⟩) (List.length l) (List.length l)] H' [] (Is (.slice (some ⟨6, 0, some 1⟩) (List.length l) (List.length l)) (H' ++ [(.cells true 4 (List.flatMap flowC l) : KObj)]))) ∧ (((some (.cells true 1 (List.flatMap boolC a) : KObj) = some (.cells true 1 (List.flatMap boolC a) : KObj)) ∧ True) ∧ (∀ H' : Heap, H'.length = 8 → (H'[5]? = some (.cells true 1 (List.flatMap boolC a) : KObj) ∧ True) → KCall prog 20 [.agg #[.int .i64 w, .int .i64 h, .slice (some ⟨5, 0, some 1⟩) (List.length a) (List.length a)]] H' [] (Is (.int .i64 (errBas w h (List.length a))) H')) ∧ (((some (.cells false 0 (List.flatMap boolC a) : KObj) = some (.cells false 0 (List.flatMap boolC a) : KObj)) ∧ True) ∧ (∀ H' : Heap, H'.length = 8 → (H'[0]? = some (.cells false 0 (List.flatMap boolC a) : KObj) ∧ True) → KCall prog 21 [.agg #[.int .i64 w, .int .i64 h, .slice (some ⟨0, 0, some 2⟩) (List.length a) (List.length a)]] H' [] (Is (.int .i64 (errBas w h (List.length a))) H')) ∧ (((((errBas w h (List.length a)) : Int) != (errBas w h (List.length a))) = true → (.bool false : Value) = sp) ∧ ((((errBas w h (List.length a)) : Int) != (errBas w h (List.length a))) = false → (((some (.cells true 1 (List.flatMap boolC a) : KObj) = some (.cells true 1 (List.flatMap boolC a) : KObj)) ∧ (some (.cells true 4 (List.flatMap flowC l) : KObj) = some (.cells true 4 (List.flatMap flowC l) : KObj)) ∧ True) ∧ (∀ H' : Heap, H'.length = 8 → (H'[5]? = some (.cells true 1 (List.flatMap boolC a) : KObj) ∧ H'[6]? = some (.cells true 4 (List.flatMap flowC l) : KObj) ∧ True) → KCall prog 22 [.agg #[.int .i64 w, .int .i64 h, .slice (some ⟨5, 0, some 1⟩) (List.length a) (List.length a)], .slice (some ⟨6, 0, some 1⟩) (List.length l) (List.length l)] H' [] (Is (.int .i64 (errFlows w h (List.length a) l)) H')) ∧ (((some (.cells false 0 (List.flatMap boolC a) : KObj) = some (.cells false 0 (List.flatMap boolC a) : KObj)) ∧ (some (.cells false 0 (List.flatMap flowC l) : KObj) = some (.cells false 0 (List.flatMap flowC l) : KObj)) ∧ True) ∧ (∀ H' : Heap, H'.length = 8 → (H'[0]? = some (.cells false 0 (List.flatMap boolC a) : KObj) ∧ H'[1]? = some (.cells false 0 (List.flatMap flowC l) : KObj) ∧ True) → KCall prog 23 [.agg #[.int .i64 w, .int .i64 h, .slice (some ⟨0, 0, some 2⟩) (List.length a) (List.length a)], .slice (some ⟨1, 0, some 2⟩) (List.length l) (List.length l)] H' [] (Is (.int .i64 (errFlows w h (List.length a) l)) H')) ∧ (((((errFlows w h (List.length a) l) : Int) != (errFlows w h (List.length a) l)) = true → (.bool false : Value) = sp) ∧ ((((errFlows w h (List.length a) l) : Int) != (errFlows w h (List.length a) l)) = false → ((True) ∧ (∀ H' : Heap, H'.length = 8 → (True) → KCall prog 24 [.agg #[.int .i64 p.x.lo, .int .i64 p.x.hi, .int .i64 p.y.lo, .int .i64 p.y.hi], .agg #[.int .i64 q.x.lo, .int .i64 q.x.hi, .int .i64 q.y.lo, .int .i64 q.y.hi], .int .i64 size] H' [] (Is (.tuple #[.agg #[.int .i64 (weather p q size).1.x.lo, .int .i64 (weather p q size).1.x.hi, .int .i64 (weather p q size).1.y.lo, .int .i64 (weather p q size).1.y.hi], .int .i64 (weather p q size).2]) H')) ∧ ((True) ∧ (∀ H' : Heap, H'.length = 9 → (True) → KCall prog 25 [.agg #[.int .i64 p.x.lo, .int .i64 p.x.hi, .int .i64 p.y.lo, .int .i64 p.y.hi], .agg #[.int .i64 q.x.lo, .int .i64 q.x.hi, .int .i64 q.y.lo, .int .i64 q.y.hi], .int .i64 size] H' [] (Is (.tuple #[.agg #[.int .i64 (weather p q size).1.x.lo, .int .i64 (weather p q size).1.x.hi, .int .i64 (weather p q size).1.y.lo, .int .i64 (weather p q size).1.y.hi], .int .i64 (weather p q size).2]) H')) ∧ (((!(((((weather p q size).1.x.lo : Int) == (weather p q size).1.x.lo) && ((((weather p q size).1.x.hi : Int) == (weather p q size).1.x.hi) && true)) && (((((weather p q size).1.y.lo : Int) == (weather p q size).1.y.lo) && ((((weather p q size).1.y.hi : Int) == (weather p q size).1.y.hi) && true)) && true))) = true → (.bool false : Value) = sp) ∧ ((!(((((weather p q size).1.x.lo : Int) == (weather p q size).1.x.lo) && ((((weather p q size).1.x.hi : Int) == (weather p q size).1.x.hi) && true)) && (((((weather p q size).1.y.lo : Int) == (weather p q size).1.y.lo) && ((((weather p q size).1.y.hi : Int) == (weather p q size).1.y.hi) && true)) && true))) = false → (((((weather p q size).2 : Int) != (weather p q size).2) = true → (.bool false : Value) = sp) ∧ ((((weather p q size).2 : Int) != (weather p q size).2) = false → ((True) ∧ (∀ H' : Heap, H'.length = 12 → (True) → KCall prog 26 [.agg #[.int .i64 p.x.lo, .int .i64 p.x.hi, .int .i64 p.y.lo, .int .i64 p.y.hi]] H' [] (Is (.tuple #[.slice (some ⟨12, 0, some 1⟩) (List.length (fMoves p).1) (List.length (fMoves p).1), .int .i64 (fMoves p).2]) (H' ++ [(.cells true 2 (List.flatMap moveC (fMoves p).1) : KObj)]))) ∧ ((True) ∧ (∀ H' : Heap, H'.length = 13 → (True) → KCall prog 27 [.agg #[.int .i64 p.x.lo, .int .i64 p.x.hi, .int .i64 p.y.lo, .int .i64 p.y.hi]] H' [] (Is (.tuple #[.slice (some ⟨13, 0, some 1⟩) (List.length (fMoves p).1) (List.length (fMoves p).1), .int .i64 (fMoves p).2]) (H' ++ [(.cells true 2 (List.flatMap moveC (fMoves p).1) : KObj)]))) ∧ (((((fMoves p).2 : Int) != (fMoves p).2) = true → (.bool false : Value) = sp) ∧ ((((fMoves p).2 : Int) != (fMoves p).2) = false → (((((((List.length (fMoves p).1) : Nat) : Int) : Int) != (((List.length (fMoves p).1) : Nat) : Int)) = true → (.bool false : Value) = sp) ∧ ((((((List.length (fMoves p).1) : Nat) : Int) : Int) != (((List.length (fMoves p).1) : Nat) : Int)) = false → (true = true ∧ (0 ≤ List.length (fMoves p).1) ∧ (true = true ∧ ((.int .i64 0 : Value) = .int .i64 ((0 : Nat) : Int) ∧ (.int .i64 c : Value) = .int .i64 c ∧ wk (.slice (some ⟨1, 0, some 2⟩) (List.length l) (List.length l) : Value) (.slice (some ⟨1, 0, some 2⟩) (List.length l) (List.length l) : Value) ∧ (.pointer (some ⟨2, 0, none⟩) : Value) = .pointer (some ⟨2, 0, none⟩) ∧ (.pointer (some ⟨7, 0, none⟩) : Value) = .pointer (some ⟨7, 0, none⟩) ∧ wk (.slice (some ⟨6, 0, some 1⟩) (List.length l) (List.length l) : Value) (.slice (some ⟨6, 0, some 1⟩) (List.length l) (List.length l) : Value) ∧ (.int .i64 (weather p q size).2 : Value) = .int .i64 (weather p q size).2 ∧ (.int .i64 (weather p q size).2 : Value) = .int .i64 (weather p q size).2 ∧ (.slice (some ⟨10, 0, none⟩) 3 3 : Value) = .slice (some ⟨10, 0, none⟩) 3 3 ∧ (.int .i64 3 : Value) = .int .i64 3 ∧ (.int .i64 0 : Value) = .int .i64 0 ∧ (.pointer (some ⟨11, 0, none⟩) : Value) = .pointer (some ⟨11, 0, none⟩) ∧ wk (.slice (some ⟨12, 0, some 1⟩) (List.length (fMoves p).1) (List.length (fMoves p).1) : Value) (.slice (some ⟨12, 0, some 1⟩) (List.length (fMoves p).1) (List.length (fMoves p).1) : Value) ∧ (.int .i64 (fMoves p).2 : Value) = .int .i64 (fMoves p).2 ∧ wk (.slice (some ⟨13, 0, some 1⟩) (List.length (fMoves p).1) (List.length (fMoves p).1) : Value) (.slice (some ⟨13, 0, some 1⟩) (List.length (fMoves p).1) (List.length (fMoves p).1) : Value) ∧ (.int .i64 (fMoves p).2 : Value) = .int .i64 (fMoves p).2 ∧ True) ∧ (True) ∧ (True) ∧ (True)) ∧ (∀ x10 : Nat, true = true) ∧ ∀ x10 : Nat, (x10 ≤ List.length (fMoves p).1) → (((decide ((((x10 : Nat) : Int) : Int) < (((List.length (fMoves p).1) : Nat) : Int))) = true → (((0 : Int) ≤ ((x10 : Nat) : Int) ∧ (((x10 : Nat) : Int) : Int) < (((List.length (fMoves p).1) : Nat) : Int)) ∧ ((partA 2 (List.flatMap moveC (fMoves p).1) (0 + Int.toNat ((x10 : Nat) : Int) * 2) = some (.agg #[.int .i64 (List.getD (fMoves p).1 x10 zeroM).dx, .int .i64 (List.getD (fMoves p).1 x10 zeroM).dy])) ∧ (((0 : Int) ≤ ((x10 : Nat) : Int) ∧ (((x10 : Nat) : Int) : Int) < (((List.length (fMoves p).1) : Nat) : Int)) ∧ ((partA 2 (List.flatMap moveC (fMoves p).1) (0 + Int.toNat ((x10 : Nat) : Int) * 2) = some (.agg #[.int .i64 (List.getD (fMoves p).1 x10 zeroM).dx, .int .i64 (List.getD (fMoves p).1 x10 zeroM).dy])) ∧ (((!((((List.getD (fMoves p).1 x10 zeroM).dx : Int) == (List.getD (fMoves p).1 x10 zeroM).dx) && ((((List.getD (fMoves p).1 x10 zeroM).dy : Int) == (List.getD (fMoves p).1 x10 zeroM).dy) && true))) = true → (.bool false : Value) = sp) ∧ ((!((((List.getD (fMoves p).1 x10 zeroM).dx : Int) == (List.getD (fMoves p).1 x10 zeroM).dx) && ((((List.getD (fMoves p).1 x10 zeroM).dy : Int) == (List.getD (fMoves p).1 x10 zeroM).dy) && true))) = false → ((.int .i64 (IntKind.wrap .i64 (((x10 : Nat) : Int) + 1)) : Value) = .int .i64 (((x10 : Nat) : Int) + 1) ∧ (∃ x10' : Nat, (x10' ≤ List.length (fMoves p).1) ∧ (List.length (fMoves p).1 - x10') < (List.length (fMoves p).1 - x10) ∧ true = true ∧ ((.int .i64 (((x10 : Nat) : Int) + 1) : Value) = .int .i64 ((x10' : Nat) : Int) ∧ (.int .i64 c : Value) = .int .i64 c ∧ wk (.slice (some ⟨1, 0, some 2⟩) (List.length l) (List.length l) : Value) (.slice (some ⟨1, 0, some 2⟩) (List.length l) (List.length l) : Value) ∧ (.pointer (some ⟨2, 0, none⟩) : Value) = .pointer (some ⟨2, 0, none⟩) ∧ (.pointer (some ⟨7, 0, none⟩) : Value) = .pointer (some ⟨7, 0, none⟩) ∧ wk (.slice (some ⟨6, 0, some 1⟩) (List.length l) (List.length l) : Value) (.slice (some ⟨6, 0, some 1⟩) (List.length l) (List.length l) : Value) ∧ (.int .i64 (weather p q size).2 : Value) = .int .i64 (weather p q size).2 ∧ (.int .i64 (weather p q size).2 : Value) = .int .i64 (weather p q size).2 ∧ (.slice (some ⟨10, 0, none⟩) 3 3 : Value) = .slice (some ⟨10, 0, none⟩) 3 3 ∧ (.int .i64 3 : Value) = .int .i64 3 ∧ (.int .i64 0 : Value) = .int .i64 0 ∧ (.pointer (some ⟨11, 0, none⟩) : Value) = .pointer (some ⟨11, 0, none⟩) ∧ wk (.slice (some ⟨12, 0, some 1⟩) (List.length (fMoves p).1) (List.length (fMoves p).1) : Value) (.slice (some ⟨12, 0, some 1⟩) (List.length (fMoves p).1) (List.length (fMoves p).1) : Value) ∧ (.int .i64 (fMoves p).2 : Value) = .int .i64 (fMoves p).2 ∧ wk (.slice (some ⟨13, 0, some 1⟩) (List.length (fMoves p).1) (List.length (fMoves p).1) : Value) (.slice (some ⟨13, 0, some 1⟩) (List.length (fMoves p).1) (List.length (fMoves p).1) : Value) ∧ (.int .i64 (fMoves p).2 : Value) = .int .i64 (fMoves p).2 ∧ True) ∧ (True) ∧ (True) ∧ (True)))))))))) ∧ ((decide ((((x10 : Nat) : Int) : Int) < (((List.length (fMoves p).1) : Nat) : Int))) = false → ((True) ∧ (∀ H' : Heap, H'.length = 15 → (True) → KCall prog 26 [.agg #[.int .i64 q.x.lo, .int .i64 q.x.hi, .int .i64 q.y.lo, .int .i64 q.y.hi]] H' [] (Is (.tuple #[.slice (some ⟨15, 0, some 1⟩) (List.length (fMoves q).1) (List.length (fMoves q).1), .int .i64 (fMoves q).2]) (H' ++ [(.cells true 2 (List.flatMap moveC (fMoves q).1) : KObj)]))) ∧ ((True) ∧ (∀ H' : Heap, H'.length = 16 → (True) → KCall prog 27 [.agg #[.int .i64 q.x.lo, .int .i64 q.x.hi, .int .i64 q.y.lo, .int .i64 q.y.hi]] H' [] (Is (.tuple #[.slice (some ⟨16, 0, some 1⟩) (List.length (fMoves q).1) (List.length (fMoves q).1), .int .i64 (fMoves q).2]) (H' ++ [(.cells true 2 (List.flatMap moveC (fMoves q).1) : KObj)]))) ∧ (((((fMoves q).2 : Int) != (fMoves q).2) = true → (.bool false : Value) = sp) ∧ ((((fMoves q).2 : Int) != (fMoves q).2) = false → (((((((List.length (fMoves q).1) : Nat) : Int) : Int) != (((List.length (fMoves q).1) : Nat) : Int)) = true → (.bool false : Value) = sp) ∧ ((((((List.length (fMoves q).1) : Nat) : Int) : Int) != (((List.length (fMoves q).1) : Nat) : Int)) = false → (true = true ∧ (0 ≤ List.length (fMoves q).1) ∧ (true = true ∧ ((.int .i64 0 : Value) = .int .i64 ((0 : Nat) : Int) ∧ (.int .i64 3 : Value) = .int .i64 3 ∧ (.slice (some ⟨10, 0, none⟩) 3 3 : Value) = .slice (some ⟨10, 0, none⟩) 3 3 ∧ (.int .i64 (weather p q size).2 : Value) = .int .i64 (weather p q size).2 ∧ (.int .i64 (weather p q size).2 : Value) = .int .i64 (weather p q size).2 ∧ wk (.slice (some ⟨6, 0, some 1⟩) (List.length l) (List.length l) : Value) (.slice (some ⟨6, 0, some 1⟩) (List.length l) (List.length l) : Value) ∧ (.pointer (some ⟨7, 0, none⟩) : Value) = .pointer (some ⟨7, 0, none⟩) ∧ (.pointer (some ⟨2, 0, none⟩) : Value) = .pointer (some ⟨2, 0, none⟩) ∧ wk (.slice (some ⟨1, 0, some 2⟩) (List.length l) (List.length l) : Value) (.slice (some ⟨1, 0, some 2⟩) (List.length l) (List.length l) : Value) ∧ (.int .i64 c : Value) = .int .i64 c ∧ (.int .i64 1 : Value) = .int .i64 1 ∧ (.pointer (some ⟨14, 0, none⟩) : Value) = .pointer (some ⟨14, 0, none⟩) ∧ wk (.slice (some ⟨15, 0, some 1⟩) (List.length (fMoves q).1) (List.length (fMoves q).1) : Value) (.slice (some ⟨15, 0, some 1⟩) (List.length (fMoves q).1) (List.length (fMoves q).1) : Value) ∧ (.int .i64 (fMoves q).2 : Value) = .int .i64 (fMoves q).2 ∧ wk (.slice (some ⟨16, 0, some 1⟩) (List.length (fMoves q).1) (List.length (fMoves q).1) : Value) (.slice (some ⟨16, 0, some 1⟩) (List.length (fMoves q).1) (List.length (fMoves q).1) : Value) ∧ (.int .i64 (fMoves q).2 : Value) = .int .i64 (fMoves q).2 ∧ True) ∧ (True) ∧ (True) ∧ (True)) ∧ (∀ x13 : Nat, true = true) ∧ ∀ x13 : Nat, (x13 ≤ List.length (fMoves q).1) → (((decide ((((x13 : Nat) : Int) : Int) < (((List.length (fMoves q).1) : Nat) : Int))) = true → (((0 : Int) ≤ ((x13 : Nat) : Int) ∧ (((x13 : Nat) : Int) : Int) < (((List.length (fMoves q).1) : Nat) : Int)) ∧ ((partA 2 (List.flatMap moveC (fMoves q).1) (0 + Int.toNat ((x13 : Nat) : Int) * 2) = some (.agg #[.int .i64 (List.getD (fMoves q).1 x13 zeroM).dx, .int .i64 (List.getD (fMoves q).1 x13 zeroM).dy])) ∧ (((0 : Int) ≤ ((x13 : Nat) : Int) ∧ (((x13 : Nat) : Int) : Int) < (((List.length (fMoves q).1) : Nat) : Int)) ∧ ((partA 2 (List.flatMap moveC (fMoves q).1) (0 + Int.toNat ((x13 : Nat) : Int) * 2) = some (.agg #[.int .i64 (List.getD (fMoves q).1 x13 zeroM).dx, .int .i64 (List.getD (fMoves q).1 x13 zeroM).dy])) ∧ (((!((((List.getD (fMoves q).1 x13 zeroM).dx : Int) == (List.getD (fMoves q).1 x13 zeroM).dx) && ((((List.getD (fMoves q).1 x13 zeroM).dy : Int) == (List.getD (fMoves q).1 x13 zeroM).dy) && true))) = true → (.bool false : Value) = sp) ∧ ((!((((List.getD (fMoves q).1 x13 zeroM).dx : Int) == (List.getD (fMoves q).1 x13 zeroM).dx) && ((((List.getD (fMoves q).1 x13 zeroM).dy : Int) == (List.getD (fMoves q).1 x13 zeroM).dy) && true))) = false → ((.int .i64 (IntKind.wrap .i64 (((x13 : Nat) : Int) + 1)) : Value) = .int .i64 (((x13 : Nat) : Int) + 1) ∧ (∃ x13' : Nat, (x13' ≤ List.length (fMoves q).1) ∧ (List.length (fMoves q).1 - x13') < (List.length (fMoves q).1 - x13) ∧ true = true ∧ ((.int .i64 (((x13 : Nat) : Int) + 1) : Value) = .int .i64 ((x13' : Nat) : Int) ∧ (.int .i64 3 : Value) = .int .i64 3 ∧ (.slice (some ⟨10, 0, none⟩) 3 3 : Value) = .slice (some ⟨10, 0, none⟩) 3 3 ∧ (.int .i64 (weather p q size).2 : Value) = .int .i64 (weather p q size).2 ∧ (.int .i64 (weather p q size).2 : Value) = .int .i64 (weather p q size).2 ∧ wk (.slice (some ⟨6, 0, some 1⟩) (List.length l) (List.length l) : Value) (.slice (some ⟨6, 0, some 1⟩) (List.length l) (List.length l) : Value) ∧ (.pointer (some ⟨7, 0, none⟩) : Value) = .pointer (some ⟨7, 0, none⟩) ∧ (.pointer (some ⟨2, 0, none⟩) : Value) = .pointer (some ⟨2, 0, none⟩) ∧ wk (.slice (some ⟨1, 0, some 2⟩) (List.length l) (List.length l) : Value) (.slice (some ⟨1, 0, some 2⟩) (List.length l) (List.length l) : Value) ∧ (.int .i64 c : Value) = .int .i64 c ∧ (.int .i64 1 : Value) = .int .i64 1 ∧ (.pointer (some ⟨14, 0, none⟩) : Value) = .pointer (some ⟨14, 0, none⟩) ∧ wk (.slice (some ⟨15, 0, some 1⟩) (List.length (fMoves q).1) (List.length (fMoves q).1) : Value) (.slice (some ⟨15, 0, some 1⟩) (List.length (fMoves q).1) (List.length (fMoves q).1) : Value) ∧ (.int .i64 (fMoves q).2 : Value) = .int .i64 (fMoves q).2 ∧ wk (.slice (some ⟨16, 0, some 1⟩) (List.length (fMoves q).1) (List.length (fMoves q).1) : Value) (.slice (some ⟨16, 0, some 1⟩) (List.length (fMoves q).1) (List.length (fMoves q).1) : Value) ∧ (.int .i64 (fMoves q).2 : Value) = .int .i64 (fMoves q).2 ∧ True) ∧ (True) ∧ (True) ∧ (True)))))))))) ∧ ((decide ((((x13 : Nat) : Int) : Int) < (((List.length (fMoves q).1) : Nat) : Int))) = false → ((True) ∧ (∀ H' : Heap, H'.length = 18 → (True) → KCall prog 26 [.agg #[.int .i64 (weather p q size).1.x.lo, .int .i64 (weather p q size).1.x.hi, .int .i64 (weather p q size).1.y.lo, .int .i64 (weather p q size).1.y.hi]] H' [] (Is (.tuple #[.slice (some ⟨18, 0, some 1⟩) (List.length (fMoves (weather p q size).1).1) (List.length (fMoves (weather p q size).1).1), .int .i64 (fMoves (weather p q size).1).2]) (H' ++ [(.cells true 2 (List.flatMap moveC (fMoves (weather p q size).1).1) : KObj)]))) ∧ ((True) ∧ (∀ H' : Heap, H'.length = 19 → (True) → KCall prog 27 [.agg #[.int .i64 (weather p q size).1.x.lo, .int .i64 (weather p q size).1.x.hi, .int .i64 (weather p q size).1.y.lo, .int .i64 (weather p q size).1.y.hi]] H' [] (Is (.tuple #[.slice (some ⟨19, 0, some 1⟩) (List.length (fMoves (weather p q size).1).1) (List.length (fMoves (weather p q size).1).1), .int .i64 (fMoves (weather p q size).1).2]) (H' ++ [(.cells true 2 (List.flatMap moveC (fMoves (weather p q size).1).1) : KObj)]))) ∧ (((((fMoves (weather p q size).1).2 : Int) != (fMoves (weather p q size).1).2) = true → (.bool false : Value) = sp) ∧ ((((fMoves (weather p q size).1).2 : Int) != (fMoves (weather p q size).1).2) = false → (((((((List.length (fMoves (weather p q size).1).1) : Nat) : Int) : Int) != (((List.length (fMoves (weather p q size).1).1) : Nat) : Int)) = true → (.bool false : Value) = sp) ∧ ((((((List.length (fMoves (weather p q size).1).1) : Nat) : Int) : Int) != (((List.length (fMoves (weather p q size).1).1) : Nat) : Int)) = false → (true = true ∧ (0 ≤ List.length (fMoves (weather p q size).1).1) ∧ (true = true ∧ ((.int .i64 0 : Value) = .int .i64 ((0 : Nat) : Int) ∧ (.int .i64 c : Value) = .int .i64 c ∧ wk (.slice (some ⟨1, 0, some 2⟩) (List.length l) (List.length l) : Value) (.slice (some ⟨1, 0, some 2⟩) (List.length l) (List.length l) : Value) ∧ (.pointer (some ⟨2, 0, none⟩) : Value) = .pointer (some ⟨2, 0, none⟩) ∧ (.pointer (some ⟨7, 0, none⟩) : Value) = .pointer (some ⟨7, 0, none⟩) ∧ wk (.slice (some ⟨6, 0, some 1⟩) (List.length l) (List.length l) : Value) (.slice (some ⟨6, 0, some 1⟩) (List.length l) (List.length l) : Value) ∧ (.int .i64 (weather p q size).2 : Value) = .int .i64 (weather p q size).2 ∧ (.int .i64 (weather p q size).2 : Value) = .int .i64 (weather p q size).2 ∧ (.slice (some ⟨10, 0, none⟩) 3 3 : Value) = .slice (some ⟨10, 0, none⟩) 3 3 ∧ (.int .i64 3 : Value) = .int .i64 3 ∧ (.int .i64 2 : Value) = .int .i64 2 ∧ (.pointer (some ⟨17, 0, none⟩) : Value) = .pointer (some ⟨17, 0, none⟩) ∧ wk (.slice (some ⟨18, 0, some 1⟩) (List.length (fMoves (weather p q size).1).1) (List.length (fMoves (weather p q size).1).1) : Value) (.slice (some ⟨18, 0, some 1⟩) (List.length (fMoves (weather p q size).1).1) (List.length (fMoves (weather p q size).1).1) : Value) ∧ (.int .i64 (fMoves (weather p q size).1).2 : Value) = .int .i64 (fMoves (weather p q size).1).2 ∧ wk (.slice (some ⟨19, 0, some 1⟩) (List.length (fMoves (weather p q size).1).1) (List.length (fMoves (weather p q size).1).1) : Value) (.slice (some ⟨19, 0, some 1⟩) (List.length (fMoves (weather p q size).1).1) (List.length (fMoves (weather p q size).1).1) : Value) ∧ (.int .i64 (fMoves (weather p q size).1).2 : Value) = .int .i64 (fMoves (weather p q size).1).2 ∧ True) ∧ (True) ∧ (True) ∧ (True)) ∧ (∀ x16 : Nat, true = true) ∧ ∀ x16 : Nat, (x16 ≤ List.length (fMoves (weather p q size).1).1) → (((decide ((((x16 : Nat) : Int) : Int) < (((List.length (fMoves (weather p q size).1).1) : Nat) : Int))) = true → (((0 : Int) ≤ ((x16 : Nat) : Int) ∧ (((x16 : Nat) : Int) : Int) < (((List.length (fMoves (weather p q size).1).1) : Nat) : Int)) ∧ ((partA 2 (List.flatMap moveC (fMoves (weather p q size).1).1) (0 + Int.toNat ((x16 : Nat) : Int) * 2) = some (.agg #[.int .i64 (List.getD (fMoves (weather p q size).1).1 x16 zeroM).dx, .int .i64 (List.getD (fMoves (weather p q size).1).1 x16 zeroM).dy])) ∧ (((0 : Int) ≤ ((x16 : Nat) : Int) ∧ (((x16 : Nat) : Int) : Int) < (((List.length (fMoves (weather p q size).1).1) : Nat) : Int)) ∧ ((partA 2 (List.flatMap moveC (fMoves (weather p q size).1).1) (0 + Int.toNat ((x16 : Nat) : Int) * 2) = some (.agg #[.int .i64 (List.getD (fMoves (weather p q size).1).1 x16 zeroM).dx, .int .i64 (List.getD (fMoves (weather p q size).1).1 x16 zeroM).dy])) ∧ (((!((((List.getD (fMoves (weather p q size).1).1 x16 zeroM).dx : Int) == (List.getD (fMoves (weather p q size).1).1 x16 zeroM).dx) && ((((List.getD (fMoves (weather p q size).1).1 x16 zeroM).dy : Int) == (List.getD (fMoves (weather p q size).1).1 x16 zeroM).dy) && true))) = true → (.bool false : Value) = sp) ∧ ((!((((List.getD (fMoves (weather p q size).1).1 x16 zeroM).dx : Int) == (List.getD (fMoves (weather p q size).1).1 x16 zeroM).dx) && ((((List.getD (fMoves (weather p q size).1).1 x16 zeroM).dy : Int) == (List.getD (fMoves (weather p q size).1).1 x16 zeroM).dy) && true))) = false → ((.int .i64 (IntKind.wrap .i64 (((x16 : Nat) : Int) + 1)) : Value) = .int .i64 (((x16 : Nat) : Int) + 1) ∧ (∃ x16' : Nat, (x16' ≤ List.length (fMoves (weather p q size).1).1) ∧ (List.length (fMoves (weather p q size).1).1 - x16') < (List.length (fMoves (weather p q size).1).1 - x16) ∧ true = true ∧ ((.int .i64 (((x16 : Nat) : Int) + 1) : Value) = .int .i64 ((x16' : Nat) : Int) ∧ (.int .i64 c : Value) = .int .i64 c ∧ wk (.slice (some ⟨1, 0, some 2⟩) (List.length l) (List.length l) : Value) (.slice (some ⟨1, 0, some 2⟩) (List.length l) (List.length l) : Value) ∧ (.pointer (some ⟨2, 0, none⟩) : Value) = .pointer (some ⟨2, 0, none⟩) ∧ (.pointer (some ⟨7, 0, none⟩) : Value) = .pointer (some ⟨7, 0, none⟩) ∧ wk (.slice (some ⟨6, 0, some 1⟩) (List.length l) (List.length l) : Value) (.slice (some ⟨6, 0, some 1⟩) (List.length l) (List.length l) : Value) ∧ (.int .i64 (weather p q size).2 : Value) = .int .i64 (weather p q size).2 ∧ (.int .i64 (weather p q size).2 : Value) = .int .i64 (weather p q size).2 ∧ (.slice (some ⟨10, 0, none⟩) 3 3 : Value) = .slice (some ⟨10, 0, none⟩) 3 3 ∧ (.int .i64 3 : Value) = .int .i64 3 ∧ (.int .i64 2 : Value) = .int .i64 2 ∧ (.pointer (some ⟨17, 0, none⟩) : Value) = .pointer (some ⟨17, 0, none⟩) ∧ wk (.slice (some ⟨18, 0, some 1⟩) (List.length (fMoves (weather p q size).1).1) (List.length (fMoves (weather p q size).1).1) : Value) (.slice (some ⟨18, 0, some 1⟩) (List.length (fMoves (weather p q size).1).1) (List.length (fMoves (weather p q size).1).1) : Value) ∧ (.int .i64 (fMoves (weather p q size).1).2 : Value) = .int .i64 (fMoves (weather p q size).1).2 ∧ wk (.slice (some ⟨19, 0, some 1⟩) (List.length (fMoves (weather p q size).1).1) (List.length (fMoves (weather p q size).1).1) : Value) (.slice (some ⟨19, 0, some 1⟩) (List.length (fMoves (weather p q size).1).1) (List.length (fMoves (weather p q size).1).1) : Value) ∧ (.int .i64 (fMoves (weather p q size).1).2 : Value) = .int .i64 (fMoves (weather p q size).1).2 ∧ True) ∧ (True) ∧ (True) ∧ (True)))))))))) ∧ ((decide ((((x16 : Nat) : Int) : Int) < (((List.length (fMoves (weather p q size).1).1) : Nat) : Int))) = false → (((some (.cells true 1 (List.flatMap boolC a) : KObj) = some (.cells true 1 (List.flatMap boolC a) : KObj)) ∧ (some (.cells true 4 (List.flatMap flowC l) : KObj) = some (.cells true 4 (List.flatMap flowC l) : KObj)) ∧ True) ∧ (∀ H' : Heap, H'.length = 20 → (H'[5]? = some (.cells true 1 (List.flatMap boolC a) : KObj) ∧ H'[6]? = some (.cells true 4 (List.flatMap flowC l) : KObj) ∧ True) → KCall prog 28 [.agg #[.int .i64 w, .int .i64 h, .slice (some ⟨5, 0, some 1⟩) (List.length a) (List.length a)], .slice (some ⟨6, 0, some 1⟩) (List.length l) (List.length l), .int .i64 c] H' [] (Is (.tuple #[.slice (some ⟨20, 0, some 2⟩) (List.length (fTargets w h a l c).1) (List.length (fTargets w h a l c).1), .int .i64 (fTargets w h a l c).2]) (H' ++ [(.cells true 1 (List.flatMap intC (tgPad w h a l c)) : KObj)]))) ∧ (((some (.cells false 0 (List.flatMap boolC a) : KObj) = some (.cells false 0 (List.flatMap boolC a) : KObj)) ∧ (some (.cells false 0 (List.flatMap flowC l) : KObj) = some (.cells false 0 (List.flatMap flowC l) : KObj)) ∧ True) ∧ (∀ H' : Heap, H'.length = 21 → (H'[0]? = some (.cells false 0 (List.flatMap boolC a) : KObj) ∧ H'[1]? = some (.cells false 0 (List.flatMap flowC l) : KObj) ∧ True) → KCall prog 29 [.agg #[.int .i64 w, .int .i64 h, .slice (some ⟨0, 0, some 2⟩) (List.length a) (List.length a)], .slice (some ⟨1, 0, some 2⟩) (List.length l) (List.length l), .int .i64 c] H' [] (Is (.tuple #[.slice (some ⟨21, 0, some 1⟩) (List.length (fTargets w h a l c).1) (List.length (fTargets w h a l c).1), .int .i64 (fTargets w h a l c).2]) (H' ++ [(.cells true 1 (List.flatMap intC (fTargets w h a l c).1) : KObj)]))) ∧ (((some (.cells true 1 (List.flatMap intC (tgPad w h a l c)) : KObj) = some (.cells true 1 (List.flatMap intC (tgPad w h a l c)) : KObj)) ∧ (some (.cells true 1 (List.flatMap intC (fTargets w h a l c).1) : KObj) = some (.cells true 1 (List.flatMap intC (fTargets w h a l c).1) : KObj)) ∧ True) ∧ (∀ H' : Heap, H'.length = 22 → (H'[20]? = some (.cells true 1 (List.flatMap intC (tgPad w h a l c)) : KObj) ∧ H'[21]? = some (.cells true 1 (List.flatMap intC (fTargets w h a l c).1) : KObj) ∧ True) → KCall prog 30 [.slice (some ⟨20, 0, some 2⟩) (List.length (fTargets w h a l c).1) (List.length (fTargets w h a l c).1), .slice (some ⟨21, 0, some 1⟩) (List.length (fTargets w h a l c).1) (List.length (fTargets w h a l c).1)] H' [] (Is (.bool true) H')) ∧ (((((fTargets w h a l c).2 : Int) == (fTargets w h a l c).2) = true → ((((w : Int) != w) = true → (.bool false : Value) = sp) ∧ (((w : Int) != w) = false → ((((h : Int) != h) = true → (.bool false : Value) = sp) ∧ (((h : Int) != h) = false → (((some (.cells true 1 (List.flatMap boolC a) : KObj) = some (.cells true 1 (List.flatMap boolC a) : KObj)) ∧ (some (.cells false 0 (List.flatMap boolC a) : KObj) = some (.cells false 0 (List.flatMap boolC a) : KObj)) ∧ True) ∧ (∀ H' : Heap, H'.length = 26 → (H'[5]? = some (.cells true 1 (List.flatMap boolC a) : KObj) ∧ H'[0]? = some (.cells false 0 (List.flatMap boolC a) : KObj) ∧ True) → KCall prog 82 [.slice (some ⟨5, 0, some 1⟩) (List.length a) (List.length a), .slice (some ⟨0, 0, some 2⟩) (List.length a) (List.length a)] H' [] (Is (.bool true) H')) ∧ (((((((List.length l) : Nat) : Int) : Int) != (((List.length l) : Nat) : Int)) = true → (.bool false : Value) = sp) ∧ ((((((List.length l) : Nat) : Int) : Int) != (((List.length l) : Nat) : Int)) = false → (true = true ∧ (0 ≤ List.length l) ∧ (true = true ∧ ((.int .i64 0 : Value) = .int .i64 ((0 : Nat) : Int) ∧ (.slice (some ⟨23, 0, none⟩) 1 1 : Value) = .slice (some ⟨23, 0, none⟩) 1 1 ∧ (.slice (some ⟨22, 0, none⟩) 1 1 : Value) = .slice (some ⟨22, 0, none⟩) 1 1 ∧ (.int .i64 0 : Value) = .int .i64 0 ∧ True) ∧ (True) ∧ (True) ∧ (True)) ∧ (∀ x21 : Nat, true = true) ∧ ∀ x21 : Nat, (x21 ≤ List.length l) → (((decide ((((x21 : Nat) : Int) : Int) < (((List.length l) : Nat) : Int))) = true → (((0 : Int) ≤ ((x21 : Nat) : Int) ∧ (((x21 : Nat) : Int) : Int) < (((List.length l) : Nat) : Int)) ∧ ((partA 4 (List.flatMap flowC l) (0 + Int.toNat ((x21 : Nat) : Int) * 4) = some (.agg #[.int .i64 (List.getD l x21 zeroF).x.lo, .int .i64 (List.getD l x21 zeroF).x.hi, .int .i64 (List.getD l x21 zeroF).y.lo, .int .i64 (List.getD l x21 zeroF).y.hi])) ∧ (((0 : Int) ≤ ((x21 : Nat) : Int) ∧ (((x21 : Nat) : Int) : Int) < (((List.length l) : Nat) : Int)) ∧ ((partA 4 (List.flatMap flowC l) (0 + Int.toNat ((x21 : Nat) : Int) * 4) = some (.agg #[.int .i64 (List.getD l x21 zeroF).x.lo, .int .i64 (List.getD l x21 zeroF).x.hi, .int .i64 (List.getD l x21 zeroF).y.lo, .int .i64 (List.getD l x21 zeroF).y.hi])) ∧ (((!(((((List.getD l x21 zeroF).x.lo : Int) == (List.getD l x21 zeroF).x.lo) && ((((List.getD l x21 zeroF).x.hi : Int) == (List.getD l x21 zeroF).x.hi) && true)) && (((((List.getD l x21 zeroF).y.lo : Int) == (List.getD l x21 zeroF).y.lo) && ((((List.getD l x21 zeroF).y.hi : Int) == (List.getD l x21 zeroF).y.hi) && true)) && true))) = true → (.bool false : Value) = sp) ∧ ((!(((((List.getD l x21 zeroF).x.lo : Int) == (List.getD l x21 zeroF).x.lo) && ((((List.getD l x21 zeroF).x.hi : Int) == (List.getD l x21 zeroF).x.hi) && true)) && (((((List.getD l x21 zeroF).y.lo : Int) == (List.getD l x21 zeroF).y.lo) && ((((List.getD l x21 zeroF).y.hi : Int) == (List.getD l x21 zeroF).y.hi) && true)) && true))) = false → ((.int .i64 (IntKind.wrap .i64 (((x21 : Nat) : Int) + 1)) : Value) = .int .i64 (((x21 : Nat) : Int) + 1) ∧ (∃ x21' : Nat, (x21' ≤ List.length l) ∧ (List.length l - x21') < (List.length l - x21) ∧ true = true ∧ ((.int .i64 (((x21 : Nat) : Int) + 1) : Value) = .int .i64 ((x21' : Nat) : Int) ∧ (.slice (some ⟨23, 0, none⟩) 1 1 : Value) = .slice (some ⟨23, 0, none⟩) 1 1 ∧ (.slice (some ⟨22, 0, none⟩) 1 1 : Value) = .slice (some ⟨22, 0, none⟩) 1 1 ∧ (.int .i64 0 : Value) = .int .i64 0 ∧ True) ∧ (True) ∧ (True) ∧ (True)))))))))) ∧ ((decide ((((x21 : Nat) : Int) : Int) < (((List.length l) : Nat) : Int))) = false → ((True) ∧ (∀ H' : Heap, H'.length = 24 → (True) → KCall prog 16 [] H' [] (Is (.bool true) H')) ∧ (.bool true : Value) = sp)))))))))))) ∧ ((((fTargets w h a l c).2 : Int) == (fTargets w h a l c).2) = false → (.bool false : Value) = sp))))))))))))))))))))))))))))))))))))))))))))))))))))
theorem EDriftFlows (sp : Value) (w h : Int) (a : List Bool) (l : List Flow) (p q : Flow) (size c : Int) : vF prog msk (dm 0) 100000 true 40 true 4 [.agg #[.int .i64 w, .int .i64 h, .slice (some ⟨0, 0, some 2⟩) (List.length a) (List.length a)], .slice (some ⟨1, 0, some 2⟩) (List.length l) (List.length l), .agg #[.int .i64 p.x.lo, .int .i64 p.x.hi, .int .i64 p.y.lo, .int .i64 p.y.hi], .agg #[.int .i64 q.x.lo, .int .i64 q.x.hi, .int .i64 q.y.lo, .int .i64 q.y.hi], .int .i64 size, .int .i64 c] (readsT 0 [a.flatMap boolC, l.flatMap flowC]) (some [])
  (.go 13 (.gfork (.go 1 (.ans [] (.bool true) [] (.auto))) (.go 3 (.fork (.ans [] (.bool true) [] (.auto)) (.go 0 (.ans [(0, .cells false 0 (List.flatMap boolC a))] (.agg #[.int .i64 w, .int .i64 h, .slice (some ⟨5, 0, some 1⟩) (List.length a) (List.length a)]) [.cells true 1 (List.flatMap boolC a)] (.go 0 (.ans [(1, .cells false 0 (List.flatMap flowC l))] (.slice (some ⟨6, 0, some 1⟩) (List.length l) (List.length l)) [.cells true 4 (List.flatMap flowC l)] (.go 4 (.ans [(5, .cells true 1 (List.flatMap boolC a))] (.int .i64 (errBas w h (List.length a))) [] (.ans [(0, .cells false 0 (List.flatMap boolC a))] (.int .i64 (errBas w h (List.length a))) [] (.go 1 (.gfork (.auto) (.go 3 (.ans [(5, .cells true 1 (List.flatMap boolC a)), (6, .cells true 4 (List.flatMap flowC l))] (.int .i64 (errFlows w h (List.length a) l)) [] (.ans [(0, .cells false 0 (List.flatMap boolC a)), (1, .cells false 0 (List.flatMap flowC l))] (.int .i64 (errFlows w h (List.length a) l)) [] (.go 1 (.fork (.auto) (.go 2 (.ans [] (.tuple #[.agg #[.int .i64 (weather p q size).1.x.lo, .int .i64 (weather p q size).1.x.hi, .int .i64 (weather p q size).1.y.lo, .int .i64 (weather p q size).1.y.hi], .int .i64 (weather p q size).2]) [] (.go 8 (.ans [] (.tuple #[.agg #[.int .i64 (weather p q size).1.x.lo, .int .i64 (weather p q size).1.x.hi, .int .i64 (weather p q size).1.y.lo, .int .i64 (weather p q size).1.y.hi], .int .i64 (weather p q size).2]) [] (.go 9 (.gfork (.auto) (.go 3 (.fork (.auto) (.go 12 (.ans [] (.tuple #[.slice (some ⟨12, 0, some 1⟩) (List.length (fMoves p).1) (List.length (fMoves p).1), .int .i64 (fMoves p).2]) [.cells true 2 (List.flatMap moveC (fMoves p).1)] (.go 5 (.ans [] (.tuple #[.slice (some ⟨13, 0, some 1⟩) (List.length (fMoves p).1) (List.length (fMoves p).1), .int .i64 (fMoves p).2]) [.cells true 2 (List.flatMap moveC (fMoves p).1)] (.go 8 (.gfork (.auto) (.go 5 (.fork (.auto) (.go 0 (.inv 3 (Nat) (0) [] [] (fun x10 => [(25, .int .i64 ((x10 : Nat) : Int)), (5, .int .i64 c), (1, .slice (some ⟨1, 0, some 2⟩) (List.length l) (List.length l)), (6, .pointer (some ⟨2, 0, none⟩)), (13, .pointer (some ⟨7, 0, none⟩)), (14, .slice (some ⟨6, 0, some 1⟩) (List.length l) (List.length l)), (16, .int .i64 (weather p q size).2), (18, .int .i64 (weather p q size).2), (79, .slice (some ⟨10, 0, none⟩) 3 3), (80, .int .i64 3), (81, .int .i64 0), (20, .pointer (some ⟨11, 0, none⟩)), (21, .slice (some ⟨12, 0, some 1⟩) (List.length (fMoves p).1) (List.length (fMoves p).1)), (22, .int .i64 (fMoves p).2), (23, .slice (some ⟨13, 0, some 1⟩) (List.length (fMoves p).1) (List.length (fMoves p).1)), (24, .int .i64 (fMoves p).2)]) (fun x10 => []) (fun x10 => []) (fun x10 => []) (fun x10 => (x10 ≤ List.length (fMoves p).1)) (fun x10 => (List.length (fMoves p).1 - x10)) (fun x10 => .go 3 (.fork (.go 1 (.need (.val (.agg #[.int .i64 (List.getD (fMoves p).1 x10 zeroM).dx, .int .i64 (List.getD (fMoves p).1 x10 zeroM).dy]) (.go 1 (.need (.val (.agg #[.int .i64 (List.getD (fMoves p).1 x10 zeroM).dx, .int .i64 (List.getD (fMoves p).1 x10 zeroM).dy]) (.go 0 (.fork (.auto) (.go 1 (.slot 110 (.int .i64 (((x10 : Nat) : Int) + 1)) (.go 0 (.again [])))))))))))) (.go 8 (.ans [] (.tuple #[.slice (some ⟨15, 0, some 1⟩) (List.length (fMoves q).1) (List.length (fMoves q).1), .int .i64 (fMoves q).2]) [.cells true 2 (List.flatMap moveC (fMoves q).1)] (.go 5 (.ans [] (.tuple #[.slice (some ⟨16, 0, some 1⟩) (List.length (fMoves q).1) (List.length (fMoves q).1), .int .i64 (fMoves q).2]) [.cells true 2 (List.flatMap moveC (fMoves q).1)] (.go 8 (.gfork (.auto) (.go 5 (.fork (.auto) (.go 0 (.inv 3 (Nat) (0) [] [] (fun x13 => [(25, .int .i64 ((x13 : Nat) : Int)), (80, .int .i64 3), (79, .slice (some ⟨10, 0, none⟩) 3 3), (18, .int .i64 (weather p q size).2), (16, .int .i64 (weather p q size).2), (14, .slice (some ⟨6, 0, some 1⟩) (List.length l) (List.length l)), (13, .pointer (some ⟨7, 0, none⟩)), (6, .pointer (some ⟨2, 0, none⟩)), (1, .slice (some ⟨1, 0, some 2⟩) (List.length l) (List.length l)), (5, .int .i64 c), (81, .int .i64 1), (20, .pointer (some ⟨14, 0, none⟩)), (21, .slice (some ⟨15, 0, some 1⟩) (List.length (fMoves q).1) (List.length (fMoves q).1)), (22, .int .i64 (fMoves q).2), (23, .slice (some ⟨16, 0, some 1⟩) (List.length (fMoves q).1) (List.length (fMoves q).1)), (24, .int .i64 (fMoves q).2)]) (fun x13 => []) (fun x13 => []) (fun x13 => []) (fun x13 => (x13 ≤ List.length (fMoves q).1)) (fun x13 => (List.length (fMoves q).1 - x13)) (fun x13 => .go 3 (.fork (.go 1 (.need (.val (.agg #[.int .i64 (List.getD (fMoves q).1 x13 zeroM).dx, .int .i64 (List.getD (fMoves q).1 x13 zeroM).dy]) (.go 1 (.need (.val (.agg #[.int .i64 (List.getD (fMoves q).1 x13 zeroM).dx, .int .i64 (List.getD (fMoves q).1 x13 zeroM).dy]) (.go 0 (.fork (.auto) (.go 1 (.slot 110 (.int .i64 (((x13 : Nat) : Int) + 1)) (.go 0 (.again [])))))))))))) (.go 8 (.ans [] (.tuple #[.slice (some ⟨18, 0, some 1⟩) (List.length (fMoves (weather p q size).1).1) (List.length (fMoves (weather p q size).1).1), .int .i64 (fMoves (weather p q size).1).2]) [.cells true 2 (List.flatMap moveC (fMoves (weather p q size).1).1)] (.go 5 (.ans [] (.tuple #[.slice (some ⟨19, 0, some 1⟩) (List.length (fMoves (weather p q size).1).1) (List.length (fMoves (weather p q size).1).1), .int .i64 (fMoves (weather p q size).1).2]) [.cells true 2 (List.flatMap moveC (fMoves (weather p q size).1).1)] (.go 8 (.gfork (.auto) (.go 5 (.fork (.auto) (.go 0 (.inv 3 (Nat) (0) [] [] (fun x16 => [(25, .int .i64 ((x16 : Nat) : Int)), (5, .int .i64 c), (1, .slice (some ⟨1, 0, some 2⟩) (List.length l) (List.length l)), (6, .pointer (some ⟨2, 0, none⟩)), (13, .pointer (some ⟨7, 0, none⟩)), (14, .slice (some ⟨6, 0, some 1⟩) (List.length l) (List.length l)), (16, .int .i64 (weather p q size).2), (18, .int .i64 (weather p q size).2), (79, .slice (some ⟨10, 0, none⟩) 3 3), (80, .int .i64 3), (81, .int .i64 2), (20, .pointer (some ⟨17, 0, none⟩)), (21, .slice (some ⟨18, 0, some 1⟩) (List.length (fMoves (weather p q size).1).1) (List.length (fMoves (weather p q size).1).1)), (22, .int .i64 (fMoves (weather p q size).1).2), (23, .slice (some ⟨19, 0, some 1⟩) (List.length (fMoves (weather p q size).1).1) (List.length (fMoves (weather p q size).1).1)), (24, .int .i64 (fMoves (weather p q size).1).2)]) (fun x16 => []) (fun x16 => []) (fun x16 => []) (fun x16 => (x16 ≤ List.length (fMoves (weather p q size).1).1)) (fun x16 => (List.length (fMoves (weather p q size).1).1 - x16)) (fun x16 => .go 3 (.fork (.go 1 (.need (.val (.agg #[.int .i64 (List.getD (fMoves (weather p q size).1).1 x16 zeroM).dx, .int .i64 (List.getD (fMoves (weather p q size).1).1 x16 zeroM).dy]) (.go 1 (.need (.val (.agg #[.int .i64 (List.getD (fMoves (weather p q size).1).1 x16 zeroM).dx, .int .i64 (List.getD (fMoves (weather p q size).1).1 x16 zeroM).dy]) (.go 0 (.fork (.auto) (.go 1 (.slot 110 (.int .i64 (((x16 : Nat) : Int) + 1)) (.go 0 (.again [])))))))))))) (.go 6 (.ans [(5, .cells true 1 (List.flatMap boolC a)), (6, .cells true 4 (List.flatMap flowC l))] (.tuple #[.slice (some ⟨20, 0, some 2⟩) (List.length (fTargets w h a l c).1) (List.length (fTargets w h a l c).1), .int .i64 (fTargets w h a l c).2]) [.cells true 1 (List.flatMap intC (tgPad w h a l c))] (.go 7 (.ans [(0, .cells false 0 (List.flatMap boolC a)), (1, .cells false 0 (List.flatMap flowC l))] (.tuple #[.slice (some ⟨21, 0, some 1⟩) (List.length (fTargets w h a l c).1) (List.length (fTargets w h a l c).1), .int .i64 (fTargets w h a l c).2]) [.cells true 1 (List.flatMap intC (fTargets w h a l c).1)] (.go 6 (.ans [(20, .cells true 1 (List.flatMap intC (tgPad w h a l c))), (21, .cells true 1 (List.flatMap intC (fTargets w h a l c).1))] (.bool true) [] (.go 5 (.gfork (.go 15 (.gfork (.auto) (.go 6 (.gfork (.auto) (.go 3 (.ans [(5, .cells true 1 (List.flatMap boolC a)), (0, .cells false 0 (List.flatMap boolC a))] (.bool true) [] (.go 26 (.fork (.auto) (.go 0 (.inv 3 (Nat) (0) [] [] (fun x21 => [(10, .int .i64 ((x21 : Nat) : Int)), (3, .slice (some ⟨23, 0, none⟩) 1 1), (2, .slice (some ⟨22, 0, none⟩) 1 1), (9, .int .i64 0)]) (fun x21 => []) (fun x21 => []) (fun x21 => []) (fun x21 => (x21 ≤ List.length l)) (fun x21 => (List.length l - x21)) (fun x21 => .go 6 (.fork (.go 4 (.need (.val (.agg #[.int .i64 (List.getD l x21 zeroF).x.lo, .int .i64 (List.getD l x21 zeroF).x.hi, .int .i64 (List.getD l x21 zeroF).y.lo, .int .i64 (List.getD l x21 zeroF).y.hi]) (.go 4 (.need (.val (.agg #[.int .i64 (List.getD l x21 zeroF).x.lo, .int .i64 (List.getD l x21 zeroF).x.hi, .int .i64 (List.getD l x21 zeroF).y.lo, .int .i64 (List.getD l x21 zeroF).y.hi]) (.go 0 (.fork (.auto) (.go 1 (.slot 63 (.int .i64 (((x21 : Nat) : Int) + 1)) (.go 0 (.again [])))))))))))) (.go 10 (.ans [] (.bool true) [] (.auto))))))))))))))) (.auto)))))))))))))))))))))))))))))))))))))))))))))))))))))))))))))))))))))))
  (fun v _ _ => v = sp) = RDriftFlows sp w h a l p q size c := by kernel_rfl
end
end Go.Proofs.Ytkkgnalgmebfjaa
