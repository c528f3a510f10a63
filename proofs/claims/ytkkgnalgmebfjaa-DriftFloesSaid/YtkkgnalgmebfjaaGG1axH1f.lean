/- Drift: what is made of numbers: basins, flows, fields, charts, moves. No condition. -/
import Derived.Test.YtkkgnalgmebfjaaGS8gxF5g
import Derived.Test.YtkkgnalgmebfjaaGF2gxK34
import Derived.Test.YtkkgnalgmebfjaaGD3xS8a
namespace Go.Proofs.Ytkkgnalgmebfjaa
set_option linter.unusedSimpArgs false
set_option linter.unusedVariables false
open Go Go.K
noncomputable section
def dVal (L : List Int) (n : Int) : Int := if 0 < L.length then IntKind.wrap .i64 (L.getD (Int.toNat (Int.tmod n ((L.length : Nat) : Int))) 0 + IntKind.wrap .i64 (Int.tdiv n ((L.length : Nat) : Int))) else 0
def dN (L : List Int) (n m : Int) : Int := dVal L n % m
def watW (L : List Int) (n : Int) : Int := 2 + dN L n 5
def watH (L : List Int) (n : Int) : Int := 2 + dN L (n + 1) 4
def watL (L : List Int) (n : Int) : Nat → List Bool × Int
  | 0 => ([], n)
  | x + 1 => if 0 < x then ((watL L n x).1 ++ [dN L (watL L n x).2 7 == 0], (watL L n x).2 + 1) else ((watL L n x).1 ++ [false], (watL L n x).2)
def watA (L : List Int) (n : Int) : List Bool := (watL L (n + 1 + 1) (Int.toNat (watW L n * watH L n))).1
def watN (L : List Int) (n : Int) : Int := (watL L (n + 1 + 1) (Int.toNat (watW L n * watH L n))).2
def fldI (L : List Int) (n : Int) : Ice := ⟨dN L n 2 * dN L (n + 1) 101, dN L (n + 1 + 1) 401, dN L (n + 1 + 1 + 1) 101, dN L (n + 1 + 1 + 1 + 1) 4⟩
def fldL (L : List Int) (a : List Bool) (n : Int) : Nat → List Ice × Int
  | 0 => ([], n)
  | x + 1 => if a.getD x false = true then ((fldL L a n x).1 ++ [zeroI], (fldL L a n x).2) else ((fldL L a n x).1 ++ [fldI L (fldL L a n x).2], (fldL L a n x).2 + 1 + 1 + 1 + 1 + 1)
def curF (L : List Int) (X Y n : Int) : Flow :=
  ⟨⟨X + dN L n 400 - 200, min (X + dN L n 400 - 200 + dN L (n + 1 + 1) 3 * dN L (n + 1 + 1 + 1) 250) 2000⟩, ⟨Y + dN L (n + 1) 400 - 200, min (Y + dN L (n + 1) 400 - 200 + dN L (n + 1 + 1 + 1 + 1) 3 * dN L (n + 1 + 1 + 1 + 1 + 1) 250) 2000⟩⟩
def curL (L : List Int) (X Y n : Int) : Nat → List Flow × Int
  | 0 => ([], n)
  | x + 1 => ((curL L X Y n x).1 ++ [curF L X Y (curL L X Y n x).2], (curL L X Y n x).2 + 1 + 1 + 1 + 1 + 1 + 1)
def curs (L : List Int) (n : Int) (k : Nat) : List Flow × Int := curL L (dN L n 3001 - 1500) (dN L (n + 1) 3001 - 1500) (n + 1 + 1) k
def hldS (L : List Int) (n x most : Int) : Span := ⟨max (x - dN L n 4 * dN L (n + 1) 9) 0, min (x + dN L (n + 1 + 1) 4 * dN L (n + 1 + 1 + 1) 9) most⟩
def hldC (L : List Int) (n : Int) (x : Ice) : Cell :=
  ⟨hldS L n x.conc 100, hldS L (n + 1 + 1 + 1 + 1) x.thick 400, hldS L (n + 1 + 1 + 1 + 1 + 1 + 1 + 1 + 1) x.ridge 100, hldS L (n + 1 + 1 + 1 + 1 + 1 + 1 + 1 + 1 + 1 + 1 + 1 + 1) x.press 3⟩
def hldL (L : List Int) (a : List Bool) (xs : List Ice) (n : Int) : Nat → List Cell × Int
  | 0 => ([], n)
  | x + 1 => if a.getD x false = true then ((hldL L a xs n x).1 ++ [zeroC], (hldL L a xs n x).2) else ((hldL L a xs n x).1 ++ [hldC L (hldL L a xs n x).2 (xs.getD x zeroI)], (hldL L a xs n x).2 + 1 + 1 + 1 + 1 + 1 + 1 + 1 + 1 + 1 + 1 + 1 + 1 + 1 + 1 + 1 + 1)
def mvgL (L : List Int) (l : List Flow) (n : Int) : Nat → List Move × Int
  | 0 => ([], n)
  | x + 1 => ((mvgL L l n x).1 ++ [(fMoves (l.getD x zeroF)).1.getD (Int.toNat (dN L (mvgL L l n x).2 (((fMoves (l.getD x zeroF)).1.length : Nat) : Int))) zeroM], (mvgL L l n x).2 + 1)
end
end Go.Proofs.Ytkkgnalgmebfjaa
/- Drift: functions that write the numbers' block. No condition. -/
namespace Go.Proofs.Ytkkgnalgmebfjaa
open Go Go.K
set_option maxRecDepth 100000
set_option linter.unusedVariables false
set_option linter.unusedSimpArgs false
noncomputable section
attribute [local irreducible] vF
theorem all_belowD (n : Nat) (L : List Int) : (L.flatMap intC).all (belowD n) = true := by
  rw [List.all_flatMap, List.all_eq_true]
  intro r _; rfl
end
end Go.Proofs.Ytkkgnalgmebfjaa
/- Drift: lists of lists; what is wrong with steps. No condition. -/
namespace Go.Proofs.Ytkkgnalgmebfjaa
open Go Go.K
set_option maxRecDepth 100000
set_option linter.unusedVariables false
set_option linter.unusedSimpArgs false
noncomputable section
attribute [local irreducible] vF
theorem valRx {f : FuncId} {args : List Value} {css : List (List Value)} {h : Hint} {v : Value} (hc : vF prog msk (dm 0) 100000 true 40 true f args (readsT 0 css) (some []) h (fun v' _ _ => v' = v)) (hp : plainAll css) (hv : belowV 0 v = true)
    {H : Heap} {ids : List Nat} (hi : idsOk H ids css) {args' : List Value} (ha : args.map (rn (sgR 0 ids) 5) = args') : KCall prog f args' H [] (Is v H) := by
  subst ha
  exact valR hc (plainAll_spec hp) hv ids (idsOk_len hi) (idsOk_spec hi)
theorem flV_b (n : Nat) (l : List Flow) : belowC n (flV l) = true := by
  show (l.flatMap flowC).all (belowD n) = true
  rw [List.all_flatMap, List.all_eq_true]
  intro r _; rfl
theorem inV_b (n : Nat) (l : List Int) : belowC n (inV l) = true := all_belowD n l
theorem flL_b (n : Nat) (ll : List (List Flow)) : (flL ll).all (belowC n) = true := by
  unfold flL
  rw [List.all_map, List.all_eq_true]
  intro l _
  exact flV_b n l
theorem inL_b (n : Nat) (ll : List (List Int)) : (inL ll).all (belowC n) = true := by
  unfold inL
  rw [List.all_map, List.all_eq_true]
  intro l _
  exact inV_b n l
theorem flV_rn (σ : Nat → Option Nat) (d : Nat) (l : List Flow) : rn σ (d + 3) (flV l) = flV l := (rnC (flV_b 0 l)).1
theorem inV_rn (σ : Nat → Option Nat) (d : Nat) (l : List Int) : rn σ (d + 3) (inV l) = inV l := (rnC (inV_b 0 l)).1
theorem flL_len (ll : List (List Flow)) : (flL ll).length = ll.length := List.length_map ..
theorem inL_len (ll : List (List Int)) : (inL ll).length = ll.length := List.length_map ..
theorem flL_at {ll : List (List Flow)} {k : Nat} (h : k < ll.length) {off : Nat} (ho : off = k) : (flL ll)[off]? = some (flV (ll.getD k [])) := by
  subst ho
  unfold flL
  rw [List.getElem?_map, List.getElem?_eq_getElem h, List.getD_eq_getElem?_getD, List.getElem?_eq_getElem h]; rfl
theorem inL_at {ll : List (List Int)} {k : Nat} (h : k < ll.length) {off : Nat} (ho : off = k) : (inL ll)[off]? = some (inV (ll.getD k [])) := by
  subst ho
  unfold inL
  rw [List.getElem?_map, List.getElem?_eq_getElem h, List.getD_eq_getElem?_getD, List.getElem?_eq_getElem h]; rfl
theorem partF {l : List Flow} {k : Nat} (h : k < l.length) {off : Nat} (ho : off = k * 4) : partA 4 (l.flatMap flowC) off = some (.agg ⟨flowC (l.getD k zeroF)⟩) :=
  part_at (n := 4) (d := zeroF) (c := 0) flowC_len h (by omega) (by omega)
theorem partFX {l : List Flow} {k : Nat} (h : k < l.length) {off : Nat} (ho : off = k * 4) : partA 2 (l.flatMap flowC) off = some (.agg ⟨spanC (l.getD k zeroF).x⟩) :=
  part_at (n := 4) (d := zeroF) (c := 0) flowC_len h (by omega) (by omega)
theorem partFY {l : List Flow} {k : Nat} (h : k < l.length) {off : Nat} (ho : off = k * 4 + 2) : partA 2 (l.flatMap flowC) off = some (.agg ⟨spanC (l.getD k zeroF).y⟩) :=
  part_at (n := 4) (d := zeroF) (c := 2) flowC_len h (by omega) (by omega)
theorem kCheckFlowsV (w h : Int) (a : List Bool) (l : List Flow) (hl : l.length ≤ 4294967296) {H : Heap} {id : Nat} {own : Bool} {z : Nat} (hid : H[id]? = some (.cells own z (a.flatMap boolC))) :
    KCall prog F.drift_CheckFlows [basV w h id a.length, flV l] H [] (Is (.int .i64 (errFlows w h a.length l)) H) := by
  refine valRx (v := .int .i64 (errFlows w h a.length l)) (Eq.mpr (ECheckFlowsV _ w h a l) ?_) ⟨plainBL 0 a, trivial⟩ rfl (ids := [id]) ⟨⟨_, _, hid⟩, trivial⟩ (congrArg (fun q => [basV w h id a.length, q]) (flV_rn _ 2 l))
  unfold RCheckFlowsV
  refine ⟨⟨rfl, trivial⟩, fun H' _ hd => kCheckBasin w h a hd.1, forkNe (fun h0 => iEq (first2_1 h0).symm) (fun h0 => forkNe (fun h1 => iEq ((first2_2 h0).trans (if_neg (by omega))).symm) (fun h1 => ?_))⟩
  refine ⟨rfl, ⟨Nat.zero_le _, iEq ((first2_2 h0).trans (if_pos (by omega)))⟩, ?_, fun _ => rfl, ?_⟩
  · repeat' first | exact (flV_rn _ 0 _).symm | exact (inV_rn _ 0 _).symm | exact trivial | exact rfl | exact wk_refl _ | refine wkO_cells ?_ | refine wks_cons ?_ ?_ | exact wks_nil | exact wk_nil _ _ _ (.inl rfl) | (exact wk_Q (by omega)) | refine wk_tupL ?_ | refine wk_aggL ?_ | refine joinMax ?_ ?_ ?_ | refine joinMin ?_ ?_ ?_ | refine toMax ?_ | refine toMin ?_ | refine ⟨rfl, ?_⟩ | refine ⟨trivial, ?_⟩ | (refine forkD (fun h => ?_) (fun h => ?_)) | (refine forkNe (fun h => ?_) (fun h => ?_)) | (refine forkEq (fun h => ?_) (fun h => ?_)) | refine forkNot ?_ | (refine ⟨vI64 (by omega), ?_⟩) | (refine And.intro (by omega) ?_) | apply And.intro | (exact iEq (by omega)) | (exact vI64 (by omega))
  rintro x ⟨hx, hs⟩
  refine forkD (fun k => ?_) (fun k => ?_)
  · have hlt : x < l.length := by omega
    refine ⟨by omega, partF hlt (by omega), ?_⟩
    have e1 := errF_1 hlt
    have e2 := errF_2 hlt
    unfold rightF rightS at e1 e2
    repeat' first | (exact (iEq (e2 (by omega)).symm).trans hs.symm) | (refine ⟨x + 1, ⟨by omega, hs.trans (iEq (e1 (by omega)))⟩, by omega, rfl, ?_⟩) | exact (flV_rn _ 0 _).symm | exact (inV_rn _ 0 _).symm | exact trivial | exact rfl | exact wk_refl _ | refine wkO_cells ?_ | refine wks_cons ?_ ?_ | exact wks_nil | exact wk_nil _ _ _ (.inl rfl) | (exact wk_Q (by omega)) | refine wk_tupL ?_ | refine wk_aggL ?_ | refine joinMax ?_ ?_ ?_ | refine joinMin ?_ ?_ ?_ | refine toMax ?_ | refine toMin ?_ | refine ⟨rfl, ?_⟩ | refine ⟨trivial, ?_⟩ | (refine forkD (fun h => ?_) (fun h => ?_)) | (refine forkNe (fun h => ?_) (fun h => ?_)) | (refine forkEq (fun h => ?_) (fun h => ?_)) | refine forkNot ?_ | (refine ⟨vI64 (by omega), ?_⟩) | (refine And.intro (by omega) ?_) | apply And.intro | (exact iEq (by omega)) | (exact vI64 (by omega))
  · obtain rfl : x = l.length := by omega
    rw [hs, List.drop_length]; rfl
theorem krCheckFlowsV (w h : Int) (a : List Bool) (l : List Flow) (hl : l.length ≤ 4294967296) {H : Heap} {id : Nat} {own : Bool} {z : Nat} (hid : H[id]? = some (.cells own z (a.flatMap boolC))) :
    KCall prog F.polynyaref02_CheckFlows [basV w h id a.length, flV l] H [] (Is (.int .i64 (errFlows w h a.length l)) H) := by
  refine valRx (v := .int .i64 (errFlows w h a.length l)) (Eq.mpr (ErCheckFlowsV _ w h a l) ?_) ⟨plainBL 0 a, trivial⟩ rfl (ids := [id]) ⟨⟨_, _, hid⟩, trivial⟩ (congrArg (fun q => [basV w h id a.length, q]) (flV_rn _ 2 l))
  unfold RrCheckFlowsV
  refine ⟨⟨rfl, trivial⟩, fun H' _ hd => krCheckBasin w h a hd.1, forkNe (fun h0 => iEq (first2_1 h0).symm) (fun h0 => ?_)⟩
  obtain ⟨b1, b2, b3, b4⟩ := errBas_0 h0
  have b5 := mul_bd b1 b2
  refine ⟨vI64 (by omega), forkNe (fun h1 => iEq ((first2_2 h0).trans (if_neg (by omega))).symm) (fun h1 => ?_)⟩
  refine ⟨rfl, ⟨Nat.zero_le _, iEq ((first2_2 h0).trans (if_pos (by omega)))⟩, ?_, fun _ => rfl, ?_⟩
  · repeat' first | exact (flV_rn _ 0 _).symm | exact (inV_rn _ 0 _).symm | exact trivial | exact rfl | exact wk_refl _ | refine wkO_cells ?_ | refine wks_cons ?_ ?_ | exact wks_nil | exact wk_nil _ _ _ (.inl rfl) | (exact wk_Q (by omega)) | refine wk_tupL ?_ | refine wk_aggL ?_ | refine joinMax ?_ ?_ ?_ | refine joinMin ?_ ?_ ?_ | refine toMax ?_ | refine toMin ?_ | refine ⟨rfl, ?_⟩ | refine ⟨trivial, ?_⟩ | (refine forkD (fun h => ?_) (fun h => ?_)) | (refine forkNe (fun h => ?_) (fun h => ?_)) | (refine forkEq (fun h => ?_) (fun h => ?_)) | refine forkNot ?_ | (refine ⟨vI64 (by omega), ?_⟩) | (refine And.intro (by omega) ?_) | apply And.intro | (exact iEq (by omega)) | (exact vI64 (by omega))
  rintro x ⟨hx, hs⟩
  refine forkD (fun k => ?_) (fun k => ?_)
  · have hlt : x < l.length := by omega
    refine ⟨by omega, partFX hlt (by omega), ?_⟩
    have e1 := errF_1 hlt
    have e2 := errF_2 hlt
    unfold rightF rightS at e1 e2
    repeat' first | (exact (iEq (e2 (by omega)).symm).trans hs.symm) | (refine ⟨x + 1, ⟨by omega, hs.trans (iEq (e1 (by omega)))⟩, by omega, rfl, ?_⟩) | (exact partFY hlt (by omega)) | exact (flV_rn _ 0 _).symm | exact (inV_rn _ 0 _).symm | exact trivial | exact rfl | exact wk_refl _ | refine wkO_cells ?_ | refine wks_cons ?_ ?_ | exact wks_nil | exact wk_nil _ _ _ (.inl rfl) | (exact wk_Q (by omega)) | refine wk_tupL ?_ | refine wk_aggL ?_ | refine joinMax ?_ ?_ ?_ | refine joinMin ?_ ?_ ?_ | refine toMax ?_ | refine toMin ?_ | refine ⟨rfl, ?_⟩ | refine ⟨trivial, ?_⟩ | (refine forkD (fun h => ?_) (fun h => ?_)) | (refine forkNe (fun h => ?_) (fun h => ?_)) | (refine forkEq (fun h => ?_) (fun h => ?_)) | refine forkNot ?_ | (refine ⟨vI64 (by omega), ?_⟩) | (refine And.intro (by omega) ?_) | apply And.intro | (exact iEq (by omega)) | (exact vI64 (by omega))
  · obtain rfl : x = l.length := by omega
    rw [hs, List.drop_length]; rfl
theorem kFlowsV (l : List Flow) (hl : l.length ≤ 4294967296) {H : Heap} {L : Nat} (hL : H.length = L) :
    KCall prog F.polynyalaw02_Flows [flV l] H [] (Is (.slice (some ⟨L, 0, some 1⟩) l.length l.length) (H ++ [.cells true 4 (l.flatMap flowC)])) := by
  subst hL
  refine valQ0 (fun i => .slice (some ⟨i, 0, some 1⟩) l.length l.length) (Eq.mpr (EFlowsV l) ?_) (fun n => plainFL n _) rfl rfl (fun _ => rfl) (fun σ => congrArg (fun q => [q]) (flV_rn σ 0 l)) H
  unfold RFlowsV
  refine ⟨rfl, Nat.zero_le _, ?_, fun _ => rfl, ?_⟩
  · repeat' first | exact (flV_rn _ 0 _).symm | exact (inV_rn _ 0 _).symm | exact trivial | exact rfl | exact wk_refl _ | refine wkO_cells ?_ | refine wks_cons ?_ ?_ | exact wks_nil | exact wk_nil _ _ _ (.inl rfl) | (exact wk_Q (by omega)) | refine wk_tupL ?_ | refine wk_aggL ?_ | refine joinMax ?_ ?_ ?_ | refine joinMin ?_ ?_ ?_ | refine toMax ?_ | refine toMin ?_ | refine ⟨rfl, ?_⟩ | refine ⟨trivial, ?_⟩ | (refine forkD (fun h => ?_) (fun h => ?_)) | (refine forkNe (fun h => ?_) (fun h => ?_)) | (refine forkEq (fun h => ?_) (fun h => ?_)) | refine forkNot ?_ | (refine ⟨vI64 (by omega), ?_⟩) | (refine And.intro (by omega) ?_) | apply And.intro | (exact iEq (by omega)) | (exact vI64 (by omega))
  intro x hx
  have htl : (List.take x l).length = x := by rw [List.length_take]; omega
  refine forkD (fun h => ?_) (fun h => ?_)
  · have hlt : x < l.length := by omega
    have hs := take_snoc (d := zeroF) hlt
    refine ⟨by omega, partF hlt (by omega), ⟨by omega, by decide, ⟨Nat.le_refl _, by rw [flat_len flowC_len, htl]; omega⟩, ⟨by decide, Nat.le_refl _⟩, rfl⟩, rfl, vI64 (by omega), x + 1, by omega, by omega, rfl, ?_⟩
    repeat' first | exact plainFL _ _ | (exact congrArg (fun l => some (KObj.cells true 4 l)) (by rw [hs]; exact flat_snoc flowC_len _ (l.getD x zeroF) htl.symm)) | exact (flV_rn _ 0 _).symm | exact (inV_rn _ 0 _).symm | exact trivial | exact rfl | exact wk_refl _ | refine wkO_cells ?_ | refine wks_cons ?_ ?_ | exact wks_nil | exact wk_nil _ _ _ (.inl rfl) | (exact wk_Q (by omega)) | refine wk_tupL ?_ | refine wk_aggL ?_ | refine joinMax ?_ ?_ ?_ | refine joinMin ?_ ?_ ?_ | refine toMax ?_ | refine toMin ?_ | refine ⟨rfl, ?_⟩ | refine ⟨trivial, ?_⟩ | (refine forkD (fun h => ?_) (fun h => ?_)) | (refine forkNe (fun h => ?_) (fun h => ?_)) | (refine forkEq (fun h => ?_) (fun h => ?_)) | refine forkNot ?_ | (refine ⟨vI64 (by omega), ?_⟩) | (refine And.intro (by omega) ?_) | apply And.intro | (exact iEq (by omega)) | (exact vI64 (by omega))
  · obtain rfl : x = l.length := by omega
    rw [List.take_length]
    repeat' first | exact plainFL _ _ | exact trivial | exact rfl | exact wk_refl _ | refine wkO_cells ?_ | refine wks_cons ?_ ?_ | exact wks_nil | exact wk_nil _ _ _ (.inl rfl) | (exact wk_Q (by omega)) | refine wk_tupL ?_ | refine wk_aggL ?_ | refine joinMax ?_ ?_ ?_ | refine joinMin ?_ ?_ ?_ | refine toMax ?_ | refine toMin ?_ | refine ⟨rfl, ?_⟩ | refine ⟨trivial, ?_⟩ | (refine forkD (fun h => ?_) (fun h => ?_)) | (refine forkNe (fun h => ?_) (fun h => ?_)) | (refine forkEq (fun h => ?_) (fun h => ?_)) | refine forkNot ?_ | (refine ⟨vI64 (by omega), ?_⟩) | (refine And.intro (by omega) ?_) | apply And.intro | (exact iEq (by omega)) | (exact vI64 (by omega))
theorem kSameIntsV (x : List Int) (hx : x.length ≤ 4294967296) (H : Heap) : KCall prog F.polynyakit_SameInts [inV x, inV x] H [] (Is (.bool true) H) := by
  refine valK 40 (fun σ => by have := inV_rn σ 2 x; show [rn σ (2 + 3) (inV x), rn σ (2 + 3) (inV x)] = _; rw [this]; rfl) rfl (Eq.mpr (ESameIntsV _ x) ?_) H
  unfold RSameIntsV
  refine forkF (by simp only [bne_self_eq_false, beq_self_eq_true, Bool.and_self, Bool.not_true, Bool.not_false]) ⟨rfl, Nat.zero_le _, ?_, fun _ => rfl, ?_⟩
  · repeat' first | exact (flV_rn _ 0 _).symm | exact (inV_rn _ 0 _).symm | exact trivial | exact rfl | exact wk_refl _ | refine wkO_cells ?_ | refine wks_cons ?_ ?_ | exact wks_nil | exact wk_nil _ _ _ (.inl rfl) | (exact wk_Q (by omega)) | refine wk_tupL ?_ | refine wk_aggL ?_ | refine joinMax ?_ ?_ ?_ | refine joinMin ?_ ?_ ?_ | refine toMax ?_ | refine toMin ?_ | refine ⟨rfl, ?_⟩ | refine ⟨trivial, ?_⟩ | (refine forkD (fun h => ?_) (fun h => ?_)) | (refine forkNe (fun h => ?_) (fun h => ?_)) | (refine forkEq (fun h => ?_) (fun h => ?_)) | refine forkNot ?_ | (refine ⟨vI64 (by omega), ?_⟩) | (refine And.intro (by omega) ?_) | apply And.intro | (exact iEq (by omega)) | (exact vI64 (by omega))
  intro k hk
  refine forkD (fun h => ?_) (fun h => rfl)
  have hlt : k < x.length := by omega
  refine ⟨by omega, intAt hlt (by omega), by omega, intAt hlt (by omega), forkF (by simp only [bne_self_eq_false, beq_self_eq_true, Bool.and_self, Bool.not_true, Bool.not_false]) ⟨vI64 (by omega), k + 1, by omega, by omega, rfl, ?_⟩⟩
  repeat' first | exact (flV_rn _ 0 _).symm | exact (inV_rn _ 0 _).symm | exact trivial | exact rfl | exact wk_refl _ | refine wkO_cells ?_ | refine wks_cons ?_ ?_ | exact wks_nil | exact wk_nil _ _ _ (.inl rfl) | (exact wk_Q (by omega)) | refine wk_tupL ?_ | refine wk_aggL ?_ | refine joinMax ?_ ?_ ?_ | refine joinMin ?_ ?_ ?_ | refine toMax ?_ | refine toMin ?_ | refine ⟨rfl, ?_⟩ | refine ⟨trivial, ?_⟩ | (refine forkD (fun h => ?_) (fun h => ?_)) | (refine forkNe (fun h => ?_) (fun h => ?_)) | (refine forkEq (fun h => ?_) (fun h => ?_)) | refine forkNot ?_ | (refine ⟨vI64 (by omega), ?_⟩) | (refine And.intro (by omega) ?_) | apply And.intro | (exact iEq (by omega)) | (exact vI64 (by omega))
def shortF (ll : List (List Flow)) : Prop := ∀ k, k < ll.length → (ll.getD k []).length ≤ 4294967296
def shortI (X : List (List Int)) : Prop := ∀ k, k < X.length → (X.getD k []).length ≤ 4294967296
theorem ksteps (ll : List (List Flow)) (hl : ll.length ≤ 4294967296) (hs : shortF ll) {H : Heap} {L : Nat} (hL : H.length = L) {id : Nat} {own : Bool} {z : Nat} (hid : H[id]? = some (.cells own z (flL ll))) :
    KCall prog F.polynyalaw02_steps [.slice (some ⟨id, 0, some 2⟩) ll.length ll.length] H [] (Is (.slice (some ⟨L, 0, some 1⟩) ll.length ll.length) (H ++ [.cells true 1 (flL ll)])) := by
  subst hL
  refine valQ (fun i => .slice (some ⟨i, 0, some 1⟩) ll.length ll.length) (Eq.mpr (Esteps ll) ?_) (flL_b 0 ll) (fun n => flL_b n _) rfl rfl (fun _ => rfl) hid rfl
  unfold Rsteps
  refine ⟨rfl, Nat.zero_le _, ?_, fun _ => rfl, ?_⟩
  · repeat' first | exact trivial | exact rfl | exact wk_refl _ | refine wkO_cells ?_ | refine wks_cons ?_ ?_ | exact wks_nil | exact wk_nil _ _ _ (.inl rfl) | (exact wk_Q (by omega)) | refine wk_tupL ?_ | refine wk_aggL ?_ | refine joinMax ?_ ?_ ?_ | refine joinMin ?_ ?_ ?_ | refine toMax ?_ | refine toMin ?_ | refine ⟨rfl, ?_⟩ | refine ⟨trivial, ?_⟩ | (refine forkD (fun h => ?_) (fun h => ?_)) | (refine forkNe (fun h => ?_) (fun h => ?_)) | (refine forkEq (fun h => ?_) (fun h => ?_)) | refine forkNot ?_ | (refine ⟨vI64 (by omega), ?_⟩) | (refine And.intro (by omega) ?_) | apply And.intro | (exact iEq (by omega)) | (exact vI64 (by omega))
  intro x hx
  have htl : (List.take x ll).length = x := by rw [List.length_take]; omega
  refine forkD (fun h => ?_) (fun h => ?_)
  · have hlt : x < ll.length := by omega
    have hsn := take_snoc (d := []) hlt
    have hb : flL (List.take (x + 1) ll) = flL (List.take x ll) ++ [flV (ll.getD x [])] := by rw [hsn]; exact List.map_append ..
    have hk : List.take (x * 1) (List.drop 0 (flL (List.take x ll))) = flL (List.take x ll) := by rw [List.drop_zero, List.take_of_length_le (by rw [flL_len, htl]; omega)]
    refine ⟨by omega, flL_at hlt (by omega), trivial, fun H' hl' _ => kFlowsV _ (hs x hlt) hl', ⟨by omega, by decide, ⟨Nat.le_refl _, by rw [flL_len, htl]; omega⟩, ⟨Nat.le_refl _, Nat.le_refl _⟩, rfl⟩, rfl, vI64 (by omega), x + 1, by omega, by omega, rfl, ?_⟩
    repeat' first | exact flL_b _ _ | (exact congrArg (fun l => some (KObj.cells true 1 l)) (by rw [hb, hk]; rfl)) | exact trivial | exact rfl | exact wk_refl _ | refine wkO_cells ?_ | refine wks_cons ?_ ?_ | exact wks_nil | exact wk_nil _ _ _ (.inl rfl) | (exact wk_Q (by omega)) | refine wk_tupL ?_ | refine wk_aggL ?_ | refine joinMax ?_ ?_ ?_ | refine joinMin ?_ ?_ ?_ | refine toMax ?_ | refine toMin ?_ | refine ⟨rfl, ?_⟩ | refine ⟨trivial, ?_⟩ | (refine forkD (fun h => ?_) (fun h => ?_)) | (refine forkNe (fun h => ?_) (fun h => ?_)) | (refine forkEq (fun h => ?_) (fun h => ?_)) | refine forkNot ?_ | (refine ⟨vI64 (by omega), ?_⟩) | (refine And.intro (by omega) ?_) | apply And.intro | (exact iEq (by omega)) | (exact vI64 (by omega))
  · obtain rfl : x = ll.length := by omega
    rw [List.take_length]
    repeat' first | exact flL_b _ _ | exact trivial | exact rfl | exact wk_refl _ | refine wkO_cells ?_ | refine wks_cons ?_ ?_ | exact wks_nil | exact wk_nil _ _ _ (.inl rfl) | (exact wk_Q (by omega)) | refine wk_tupL ?_ | refine wk_aggL ?_ | refine joinMax ?_ ?_ ?_ | refine joinMin ?_ ?_ ?_ | refine toMax ?_ | refine toMin ?_ | refine ⟨rfl, ?_⟩ | refine ⟨trivial, ?_⟩ | (refine forkD (fun h => ?_) (fun h => ?_)) | (refine forkNe (fun h => ?_) (fun h => ?_)) | (refine forkEq (fun h => ?_) (fun h => ?_)) | refine forkNot ?_ | (refine ⟨vI64 (by omega), ?_⟩) | (refine And.intro (by omega) ?_) | apply And.intro | (exact iEq (by omega)) | (exact vI64 (by omega))
theorem klists (X : List (List Int)) (hX : X.length ≤ 4294967296) (hs : shortI X) {H : Heap} {i0 i1 : Nat} {o0 o1 : Bool} {z0 z1 : Nat} (e0 : H[i0]? = some (.cells o0 z0 (inL X))) (e1 : H[i1]? = some (.cells o1 z1 (inL X))) :
    KCall prog F.polynyalaw02_lists [.slice (some ⟨i0, 0, some 2⟩) X.length X.length, .slice (some ⟨i1, 0, some 2⟩) X.length X.length] H [] (Is (.bool true) H) := by
  refine valRx (Eq.mpr (Elists _ X) ?_) ⟨inL_b 0 X, inL_b 0 X, trivial⟩ rfl (ids := [i0, i1]) ⟨⟨_, _, e0⟩, ⟨_, _, e1⟩, trivial⟩ rfl
  unfold Rlists
  refine forkF (by simp only [bne_self_eq_false, beq_self_eq_true, Bool.and_self, Bool.not_true, Bool.not_false]) ⟨rfl, Nat.zero_le _, ?_, fun _ => rfl, ?_⟩
  · repeat' first | exact trivial | exact rfl | exact wk_refl _ | refine wkO_cells ?_ | refine wks_cons ?_ ?_ | exact wks_nil | exact wk_nil _ _ _ (.inl rfl) | (exact wk_Q (by omega)) | refine wk_tupL ?_ | refine wk_aggL ?_ | refine joinMax ?_ ?_ ?_ | refine joinMin ?_ ?_ ?_ | refine toMax ?_ | refine toMin ?_ | refine ⟨rfl, ?_⟩ | refine ⟨trivial, ?_⟩ | (refine forkD (fun h => ?_) (fun h => ?_)) | (refine forkNe (fun h => ?_) (fun h => ?_)) | (refine forkEq (fun h => ?_) (fun h => ?_)) | refine forkNot ?_ | (refine ⟨vI64 (by omega), ?_⟩) | (refine And.intro (by omega) ?_) | apply And.intro | (exact iEq (by omega)) | (exact vI64 (by omega))
  intro k hk
  refine forkD (fun h => ?_) (fun h => rfl)
  have hlt : k < X.length := by omega
  repeat' first | (exact inL_at hlt (by omega)) | (refine ⟨inL_at hlt (by omega), ?_⟩) | (refine ⟨trivial, fun H' _ _ => kSameIntsV _ (hs k hlt) H', ?_⟩) | refine forkF rfl ?_ | (refine ⟨k + 1, by omega, by omega, rfl, ?_⟩) | exact (flV_rn _ 0 _).symm | exact (inV_rn _ 0 _).symm | exact trivial | exact rfl | exact wk_refl _ | refine wkO_cells ?_ | refine wks_cons ?_ ?_ | exact wks_nil | exact wk_nil _ _ _ (.inl rfl) | (exact wk_Q (by omega)) | refine wk_tupL ?_ | refine wk_aggL ?_ | refine joinMax ?_ ?_ ?_ | refine joinMin ?_ ?_ ?_ | refine toMax ?_ | refine toMin ?_ | refine ⟨rfl, ?_⟩ | refine ⟨trivial, ?_⟩ | (refine forkD (fun h => ?_) (fun h => ?_)) | (refine forkNe (fun h => ?_) (fun h => ?_)) | (refine forkEq (fun h => ?_) (fun h => ?_)) | refine forkNot ?_ | (refine ⟨vI64 (by omega), ?_⟩) | (refine And.intro (by omega) ?_) | apply And.intro | (exact iEq (by omega)) | (exact vI64 (by omega))
theorem kkept (w h : Int) (a : List Bool) (ha : a.length ≤ 4294967296) (ll : List (List Flow)) (hl : ll.length ≤ 4294967296) (hs : shortF ll) {H : Heap} {i0 i1 i2 i3 : Nat} {o0 o1 o2 o3 : Bool} {z0 z1 z2 z3 : Nat} (e0 : H[i0]? = some (.cells o0 z0 (a.flatMap boolC))) (e1 : H[i1]? = some (.cells o1 z1 (a.flatMap boolC))) (e2 : H[i2]? = some (.cells o2 z2 (flL ll))) (e3 : H[i3]? = some (.cells o3 z3 (flL ll))) :
    KCall prog F.polynyalaw02_kept [basV w h i0 a.length, basV w h i1 a.length, .slice (some ⟨i2, 0, some 2⟩) ll.length ll.length, .slice (some ⟨i3, 0, some 2⟩) ll.length ll.length] H [] (Is (.bool true) H) := by
  refine valRx (Eq.mpr (Ekept _ w h a ll) ?_) ⟨plainBL 0 a, plainBL 0 a, flL_b 0 ll, flL_b 0 ll, trivial⟩ rfl (ids := [i0, i1, i2, i3]) ⟨⟨_, _, e0⟩, ⟨_, _, e1⟩, ⟨_, _, e2⟩, ⟨_, _, e3⟩, trivial⟩ rfl
  unfold Rkept
  refine forkF (bne_self_eq_false _) (forkF (bne_self_eq_false _) ⟨⟨rfl, rfl, trivial⟩, fun H' _ hd => kSameTruths a ha hd.1 hd.2.1, forkF (bne_self_eq_false _) ⟨rfl, Nat.zero_le _, ?_, fun _ => rfl, ?_⟩⟩)
  · repeat' first | exact trivial | exact rfl | exact wk_refl _ | refine wkO_cells ?_ | refine wks_cons ?_ ?_ | exact wks_nil | exact wk_nil _ _ _ (.inl rfl) | (exact wk_Q (by omega)) | refine wk_tupL ?_ | refine wk_aggL ?_ | refine joinMax ?_ ?_ ?_ | refine joinMin ?_ ?_ ?_ | refine toMax ?_ | refine toMin ?_ | refine ⟨rfl, ?_⟩ | refine ⟨trivial, ?_⟩ | (refine forkD (fun h => ?_) (fun h => ?_)) | (refine forkNe (fun h => ?_) (fun h => ?_)) | (refine forkEq (fun h => ?_) (fun h => ?_)) | refine forkNot ?_ | (refine ⟨vI64 (by omega), ?_⟩) | (refine And.intro (by omega) ?_) | apply And.intro | (exact iEq (by omega)) | (exact vI64 (by omega))
  intro x hx
  refine forkD (fun h => ?_) (fun h => rfl)
  have hlt : x < ll.length := by omega
  refine ⟨by omega, flL_at hlt (by omega), _, rfl, by omega, flL_at hlt (by omega), _, rfl, forkF (bne_self_eq_false _) ⟨rfl, Nat.zero_le _, ?_, fun _ => rfl, ?_⟩⟩
  · repeat' first | exact trivial | exact rfl | exact wk_refl _ | refine wkO_cells ?_ | refine wks_cons ?_ ?_ | exact wks_nil | exact wk_nil _ _ _ (.inl rfl) | (exact wk_Q (by omega)) | refine wk_tupL ?_ | refine wk_aggL ?_ | refine joinMax ?_ ?_ ?_ | refine joinMin ?_ ?_ ?_ | refine toMax ?_ | refine toMin ?_ | refine ⟨rfl, ?_⟩ | refine ⟨trivial, ?_⟩ | (refine forkD (fun h => ?_) (fun h => ?_)) | (refine forkNe (fun h => ?_) (fun h => ?_)) | (refine forkEq (fun h => ?_) (fun h => ?_)) | refine forkNot ?_ | (refine ⟨vI64 (by omega), ?_⟩) | (refine And.intro (by omega) ?_) | apply And.intro | (exact iEq (by omega)) | (exact vI64 (by omega))
  intro y hy
  refine ⟨by omega, flL_at hlt (by omega), _, rfl, forkD (fun h => ?_) (fun h => ?_)⟩
  · have hly : y < (ll.getD x []).length := by omega
    refine ⟨by omega, flL_at hlt (by omega), by omega, partF hly (by omega), by omega, flL_at hlt (by omega), by omega, partF hly (by omega), forkF (by simp only [beq_self_eq_true, Bool.and_self, Bool.not_true]) ⟨vI64 (by have := hs x hlt; omega), y + 1, by omega, by omega, rfl, ?_⟩⟩
    repeat' first | exact trivial | exact rfl | exact wk_refl _ | refine wkO_cells ?_ | refine wks_cons ?_ ?_ | exact wks_nil | exact wk_nil _ _ _ (.inl rfl) | (exact wk_Q (by omega)) | refine wk_tupL ?_ | refine wk_aggL ?_ | refine joinMax ?_ ?_ ?_ | refine joinMin ?_ ?_ ?_ | refine toMax ?_ | refine toMin ?_ | refine ⟨rfl, ?_⟩ | refine ⟨trivial, ?_⟩ | (refine forkD (fun h => ?_) (fun h => ?_)) | (refine forkNe (fun h => ?_) (fun h => ?_)) | (refine forkEq (fun h => ?_) (fun h => ?_)) | refine forkNot ?_ | (refine ⟨vI64 (by omega), ?_⟩) | (refine And.intro (by omega) ?_) | apply And.intro | (exact iEq (by omega)) | (exact vI64 (by omega))
  · refine ⟨vI64 (by omega), x + 1, by omega, by omega, rfl, ?_⟩
    repeat' first | exact trivial | exact rfl | exact wk_refl _ | refine wkO_cells ?_ | refine wks_cons ?_ ?_ | exact wks_nil | exact wk_nil _ _ _ (.inl rfl) | (exact wk_Q (by omega)) | refine wk_tupL ?_ | refine wk_aggL ?_ | refine joinMax ?_ ?_ ?_ | refine joinMin ?_ ?_ ?_ | refine toMax ?_ | refine toMin ?_ | refine ⟨rfl, ?_⟩ | refine ⟨trivial, ?_⟩ | (refine forkD (fun h => ?_) (fun h => ?_)) | (refine forkNe (fun h => ?_) (fun h => ?_)) | (refine forkEq (fun h => ?_) (fun h => ?_)) | refine forkNot ?_ | (refine ⟨vI64 (by omega), ?_⟩) | (refine And.intro (by omega) ?_) | apply And.intro | (exact iEq (by omega)) | (exact vI64 (by omega))
theorem knumbers (l : List Bool) (hl : l.length ≤ 4096) {H : Heap} {L : Nat} (hL : H.length = L) {id : Nat} {own : Bool} {z : Nat} (hid : H[id]? = some (.cells own z (l.flatMap boolC))) :
    KCall prog F.drift_numbers [.slice (some ⟨id, 0, some 2⟩) l.length l.length] H [] (Is (.slice (some ⟨L, 0, some 1⟩) (truesL l).length (truesL l).length) (H ++ [.cells true 1 ((truesL l).flatMap intC)])) := by
  subst hL
  refine valQ (fun i => .slice (some ⟨i, 0, some 1⟩) (truesL l).length (truesL l).length) (Eq.mpr (Enumbers l) ?_) (plainBL 0 l) (fun n => plainIL n _) rfl rfl (fun _ => rfl) hid rfl
  unfold Rnumbers
  refine ⟨rfl, Nat.zero_le _, ?_, fun _ => rfl, ?_⟩
  · repeat' first | exact plainIL _ _ | exact trivial | exact rfl | exact wk_refl _ | refine wkO_cells ?_ | refine wks_cons ?_ ?_ | exact wks_nil | exact wk_nil _ _ _ (.inl rfl) | (exact wk_Q (by omega)) | refine wk_tupL ?_ | refine wk_aggL ?_ | refine joinMax ?_ ?_ ?_ | refine joinMin ?_ ?_ ?_ | refine toMax ?_ | refine toMin ?_ | refine ⟨rfl, ?_⟩ | refine ⟨trivial, ?_⟩ | (refine forkD (fun h => ?_) (fun h => ?_)) | (refine forkNe (fun h => ?_) (fun h => ?_)) | (refine forkEq (fun h => ?_) (fun h => ?_)) | refine forkNot ?_ | (refine ⟨vI64 (by omega), ?_⟩) | (refine And.intro (by omega) ?_) | apply And.intro | (exact iEq (by omega)) | (exact vI64 (by omega))
  intro x hx
  have hlen := truesTo_len l x
  refine forkD (fun k => ?_) (fun k => ?_)
  · refine ⟨by omega, boolAt (by omega) (by omega), fun k2 => ?_, fun k2 => ?_⟩
    · have hM := truesTo_1 k2
      repeat' first | (refine ⟨x + 1, by omega, by omega, rfl, ?_⟩) | exact wk_snoc hM | exact ob_snoc intC_len hM rfl | exact plainIL _ _ | exact flat_le intC_len _ | exact Nat.le_refl _ | exact trivial | exact rfl | exact wk_refl _ | refine wkO_cells ?_ | refine wks_cons ?_ ?_ | exact wks_nil | exact wk_nil _ _ _ (.inl rfl) | (exact wk_Q (by omega)) | refine wk_tupL ?_ | refine wk_aggL ?_ | refine joinMax ?_ ?_ ?_ | refine joinMin ?_ ?_ ?_ | refine toMax ?_ | refine toMin ?_ | refine ⟨rfl, ?_⟩ | refine ⟨trivial, ?_⟩ | (refine forkD (fun h => ?_) (fun h => ?_)) | (refine forkNe (fun h => ?_) (fun h => ?_)) | (refine forkEq (fun h => ?_) (fun h => ?_)) | refine forkNot ?_ | (refine ⟨vI64 (by omega), ?_⟩) | (refine And.intro (by omega) ?_) | apply And.intro | (exact iEq (by omega)) | (exact vI64 (by omega))
    · have hM := truesTo_2 k2
      refine ⟨vI64 (by omega), x + 1, by omega, by omega, rfl, ?_⟩
      rw [hM]
      repeat' first | exact plainIL _ _ | exact trivial | exact rfl | exact wk_refl _ | refine wkO_cells ?_ | refine wks_cons ?_ ?_ | exact wks_nil | exact wk_nil _ _ _ (.inl rfl) | (exact wk_Q (by omega)) | refine wk_tupL ?_ | refine wk_aggL ?_ | refine joinMax ?_ ?_ ?_ | refine joinMin ?_ ?_ ?_ | refine toMax ?_ | refine toMin ?_ | refine ⟨rfl, ?_⟩ | refine ⟨trivial, ?_⟩ | (refine forkD (fun h => ?_) (fun h => ?_)) | (refine forkNe (fun h => ?_) (fun h => ?_)) | (refine forkEq (fun h => ?_) (fun h => ?_)) | refine forkNot ?_ | (refine ⟨vI64 (by omega), ?_⟩) | (refine And.intro (by omega) ?_) | apply And.intro | (exact iEq (by omega)) | (exact vI64 (by omega))
  · obtain rfl : x = l.length := by omega
    repeat' first | exact plainIL _ _ | exact trivial | exact rfl | exact wk_refl _ | refine wkO_cells ?_ | refine wks_cons ?_ ?_ | exact wks_nil | exact wk_nil _ _ _ (.inl rfl) | (exact wk_Q (by omega)) | refine wk_tupL ?_ | refine wk_aggL ?_ | refine joinMax ?_ ?_ ?_ | refine joinMin ?_ ?_ ?_ | refine toMax ?_ | refine toMin ?_ | refine ⟨rfl, ?_⟩ | refine ⟨trivial, ?_⟩ | (refine forkD (fun h => ?_) (fun h => ?_)) | (refine forkNe (fun h => ?_) (fun h => ?_)) | (refine forkEq (fun h => ?_) (fun h => ?_)) | refine forkNot ?_ | (refine ⟨vI64 (by omega), ?_⟩) | (refine And.intro (by omega) ?_) | apply And.intro | (exact iEq (by omega)) | (exact vI64 (by omega))
theorem any_snoc {l : List Int} {p : Int → Bool} {k : Nat} (h : k < l.length) : (l.take (k + 1)).any p = ((l.take k).any p || p (l.getD k 0)) := by
  rw [take_snoc (d := (0 : Int)) h, List.any_append]; simp
theorem kContains (S : List Int) (hS : S.length ≤ 4294967296) (t : Int) (H : Heap) : KCall prog F.slices_Contains___int_int_ [inV S, .int .i64 t] H [] (Is (.bool (decide (t ∈ S))) H) := by
  refine valK 40 (fun σ => by have := inV_rn σ 2 S; show [rn σ (2 + 3) (inV S), Value.int .i64 t] = _; rw [this]; rfl) rfl (Eq.mpr (EContains _ S t) ?_) H
  unfold RContains
  refine ⟨rfl, ⟨Nat.zero_le _, fun h => by cases h⟩, ?_, fun _ => rfl, ?_⟩
  · repeat' first | exact (flV_rn _ 0 _).symm | exact (inV_rn _ 0 _).symm | exact trivial | exact rfl | exact wk_refl _ | refine wkO_cells ?_ | refine wks_cons ?_ ?_ | exact wks_nil | exact wk_nil _ _ _ (.inl rfl) | (exact wk_Q (by omega)) | refine wk_tupL ?_ | refine wk_aggL ?_ | refine joinMax ?_ ?_ ?_ | refine joinMin ?_ ?_ ?_ | refine toMax ?_ | refine toMin ?_ | refine ⟨rfl, ?_⟩ | refine ⟨trivial, ?_⟩ | (refine forkD (fun h => ?_) (fun h => ?_)) | (refine forkNe (fun h => ?_) (fun h => ?_)) | (refine forkEq (fun h => ?_) (fun h => ?_)) | refine forkNot ?_ | (refine ⟨vI64 (by omega), ?_⟩) | (refine And.intro (by omega) ?_) | apply And.intro | (exact iEq (by omega)) | (exact vI64 (by omega))
  rintro x ⟨hx, hn⟩
  refine forkD (fun h => ?_) (fun h => ?_)
  · have hlt : x < S.length := by omega
    refine ⟨by omega, intAt hlt (by omega), forkEq (fun q => ?_) (fun q => ⟨vI64 (by omega), x + 1, ⟨by omega, ?_⟩, by omega, rfl, ?_⟩)⟩
    · have hm : t ∈ S := by rw [q]; exact getD_mem hlt
      rw [decide_eq_true hm, decide_eq_true (by omega)]
    · rw [take_snoc (d := 0) hlt]
      intro hm
      rcases List.mem_append.1 hm with hm | hm
      · exact hn hm
      · exact q (List.mem_singleton.1 hm)
    · repeat' first | exact (flV_rn _ 0 _).symm | exact (inV_rn _ 0 _).symm | exact trivial | exact rfl | exact wk_refl _ | refine wkO_cells ?_ | refine wks_cons ?_ ?_ | exact wks_nil | exact wk_nil _ _ _ (.inl rfl) | (exact wk_Q (by omega)) | refine wk_tupL ?_ | refine wk_aggL ?_ | refine joinMax ?_ ?_ ?_ | refine joinMin ?_ ?_ ?_ | refine toMax ?_ | refine toMin ?_ | refine ⟨rfl, ?_⟩ | refine ⟨trivial, ?_⟩ | (refine forkD (fun h => ?_) (fun h => ?_)) | (refine forkNe (fun h => ?_) (fun h => ?_)) | (refine forkEq (fun h => ?_) (fun h => ?_)) | refine forkNot ?_ | (refine ⟨vI64 (by omega), ?_⟩) | (refine And.intro (by omega) ?_) | apply And.intro | (exact iEq (by omega)) | (exact vI64 (by omega))
  · obtain rfl : x = S.length := by omega
    rw [List.take_length] at hn
    rw [decide_eq_false hn]
theorem kContainsFunc (x p S : List Int) (hx : x.length ≤ 4294967296) (hS : S.length ≤ 4294967296) {H : Heap} {id id2 : Nat} {own own2 : Bool} {z z2 : Nat} (hid : H[id]? = some (.cells own z ((x ++ p).flatMap intC))) (hid2 : H[id2]? = some (.cells own2 z2 [inV S])) :
    KCall prog F.slices_ContainsFunc___int_int_ [.slice (some ⟨id, 0, some 2⟩) x.length x.length, .func (.func 87) #[] #[.pointer (some ⟨id2, 0, none⟩)]] H [] (Is (.bool (x.any fun t => decide (t ∈ S))) H) := by
  refine valRx (Eq.mpr (EContainsFunc _ x p S) ?_) ⟨plainIL 0 _, by show (belowC 0 (inV S) && true) = true; rw [inV_b]; rfl, trivial⟩ rfl (ids := [id, id2]) ⟨⟨_, _, hid⟩, ⟨_, _, hid2⟩, trivial⟩ rfl
  unfold RContainsFunc
  refine ⟨rfl, ⟨Nat.zero_le _, rfl⟩, ?_, fun _ => rfl, ?_⟩
  · repeat' first | exact trivial | exact rfl | exact wk_refl _ | refine wkO_cells ?_ | refine wks_cons ?_ ?_ | exact wks_nil | exact wk_nil _ _ _ (.inl rfl) | (exact wk_Q (by omega)) | refine wk_tupL ?_ | refine wk_aggL ?_ | refine joinMax ?_ ?_ ?_ | refine joinMin ?_ ?_ ?_ | refine toMax ?_ | refine toMin ?_ | refine ⟨rfl, ?_⟩ | refine ⟨trivial, ?_⟩ | (refine forkD (fun h => ?_) (fun h => ?_)) | (refine forkNe (fun h => ?_) (fun h => ?_)) | (refine forkEq (fun h => ?_) (fun h => ?_)) | refine forkNot ?_ | (refine ⟨vI64 (by omega), ?_⟩) | (refine And.intro (by omega) ?_) | apply And.intro | (exact iEq (by omega)) | (exact vI64 (by omega))
  rintro k ⟨hk, hn⟩
  refine forkD (fun h => ?_) (fun h => ?_)
  · have hlt : k < x.length := by omega
    have hs := any_snoc (p := fun t => decide (t ∈ S)) hlt
    refine ⟨by omega, intAtL hlt (by omega), trivial, fun H' _ _ => kContains S hS _ H', forkB (fun q => ?_) (fun q => ⟨vI64 (by omega), k + 1, ⟨by omega, by rw [hs, hn, q]; rfl⟩, by omega, rfl, ?_⟩)⟩
    · have : (x.any fun t => decide (t ∈ S)) = true := List.any_eq_true.2 ⟨_, getD_mem hlt, q⟩
      rw [this, decide_eq_true (by omega)]
    · repeat' first | exact trivial | exact rfl | exact wk_refl _ | refine wkO_cells ?_ | refine wks_cons ?_ ?_ | exact wks_nil | exact wk_nil _ _ _ (.inl rfl) | (exact wk_Q (by omega)) | refine wk_tupL ?_ | refine wk_aggL ?_ | refine joinMax ?_ ?_ ?_ | refine joinMin ?_ ?_ ?_ | refine toMax ?_ | refine toMin ?_ | refine ⟨rfl, ?_⟩ | refine ⟨trivial, ?_⟩ | (refine forkD (fun h => ?_) (fun h => ?_)) | (refine forkNe (fun h => ?_) (fun h => ?_)) | (refine forkEq (fun h => ?_) (fun h => ?_)) | refine forkNot ?_ | (refine ⟨vI64 (by omega), ?_⟩) | (refine And.intro (by omega) ?_) | apply And.intro | (exact iEq (by omega)) | (exact vI64 (by omega))
  · obtain rfl : k = x.length := by omega
    rw [List.take_length] at hn
    rw [hn]
theorem flErr_0 {w h : Int} {a : List Bool} {ll : List (List Flow)} {x : Nat} : errFlows w h a.length (ll.getD x []) = flErr w h a ll 0 x := by unfold flErr; rw [Nat.zero_add]
theorem kfloe {w h : Int} {a : List Bool} (ll : List (List Flow)) (c : Int) (hl : ll.length ≤ 4294967296) (hs : shortF ll) {H : Heap} {id id2 : Nat} {own own2 : Bool} {z z2 : Nat} (hid : H[id]? = some (.cells own z (a.flatMap boolC))) (hid2 : H[id2]? = some (.cells own2 z2 (flL ll))) :
    KCall prog F.drift_floe [basV w h id a.length, .slice (some ⟨id2, 0, some 2⟩) ll.length ll.length, .int .i64 c] H [] (Is (.int .i64 (errFloe w h a ll 0 ll.length c)) H) := by
  refine valRx (Eq.mpr (Efloe _ w h a ll c) ?_) ⟨plainBL 0 a, flL_b 0 ll, trivial⟩ rfl (ids := [id, id2]) ⟨⟨_, _, hid⟩, ⟨_, _, hid2⟩, trivial⟩ rfl
  unfold Rfloe
  refine ⟨⟨rfl, trivial⟩, fun H' _ hd => kCheckBasin w h a hd.1, forkNe (fun h0 => iEq (first2_1 h0).symm) (fun h0 => ?_)⟩
  have b := basOk h0
  have e1 : errFloe w h a ll 0 ll.length c = if ll.length ≤ 48 then first2 (errUp (flErr w h a ll 0) ll.length) (if seaB a c = true then 0 else 1) else 2 := first2_2 h0
  rw [e1]
  refine forkD (fun k => ?_) (fun k => ?_)
  · rw [if_neg (by omega)]
  rw [if_pos (by omega)]
  refine ⟨rfl, ⟨Nat.zero_le _, rfl⟩, ?_, fun _ => rfl, ?_⟩
  · repeat' first | exact trivial | exact rfl | exact wk_refl _ | refine wkO_cells ?_ | refine wks_cons ?_ ?_ | exact wks_nil | exact wk_nil _ _ _ (.inl rfl) | (exact wk_Q (by omega)) | refine wk_tupL ?_ | refine wk_aggL ?_ | refine joinMax ?_ ?_ ?_ | refine joinMin ?_ ?_ ?_ | refine toMax ?_ | refine toMin ?_ | refine ⟨rfl, ?_⟩ | refine ⟨trivial, ?_⟩ | (refine forkD (fun h => ?_) (fun h => ?_)) | (refine forkNe (fun h => ?_) (fun h => ?_)) | (refine forkEq (fun h => ?_) (fun h => ?_)) | refine forkNot ?_ | (refine ⟨vI64 (by omega), ?_⟩) | (refine And.intro (by omega) ?_) | apply And.intro | (exact iEq (by omega)) | (exact vI64 (by omega))
  rintro x ⟨hx, hu⟩
  refine forkD (fun k2 => ?_) (fun k2 => ?_)
  · have hlt : x < ll.length := by omega
    refine ⟨by omega, flL_at hlt (by omega), ⟨rfl, trivial⟩, fun H' _ hd => kCheckFlowsV w h a _ (hs x hlt) hd.1, ?_⟩
    rw [flErr_0]
    refine forkNe (fun h1 => ?_) (fun h1 => ⟨vI64 (by omega), x + 1, ⟨by omega, errUp_succ hu h1⟩, by omega, rfl, ?_⟩)
    · rw [errUp_at hu h1 hlt, first2_1 h1]
    · repeat' first | exact trivial | exact rfl | exact wk_refl _ | refine wkO_cells ?_ | refine wks_cons ?_ ?_ | exact wks_nil | exact wk_nil _ _ _ (.inl rfl) | (exact wk_Q (by omega)) | refine wk_tupL ?_ | refine wk_aggL ?_ | refine joinMax ?_ ?_ ?_ | refine joinMin ?_ ?_ ?_ | refine toMax ?_ | refine toMin ?_ | refine ⟨rfl, ?_⟩ | refine ⟨trivial, ?_⟩ | (refine forkD (fun h => ?_) (fun h => ?_)) | (refine forkNe (fun h => ?_) (fun h => ?_)) | (refine forkEq (fun h => ?_) (fun h => ?_)) | refine forkNot ?_ | (refine ⟨vI64 (by omega), ?_⟩) | (refine And.intro (by omega) ?_) | apply And.intro | (exact iEq (by omega)) | (exact vI64 (by omega))
  · obtain rfl : x = ll.length := by omega
    rw [hu, first2_2 rfl]
    refine ⟨⟨rfl, trivial⟩, fun H' _ hd => kis b hd.1, forkNot (forkB (fun q => ?_) (fun q => ?_))⟩
    · rw [q]; rfl
    · rw [q]; rfl
theorem krfloe {w h : Int} {a : List Bool} (ll : List (List Flow)) (o n : Nat) (c : Int) (hl : ll.length ≤ 4294967296) (ho : o + n = ll.length) (hs : shortF ll) {H : Heap} {id id2 : Nat} {own own2 : Bool} {z z2 : Nat} (hid : H[id]? = some (.cells own z (a.flatMap boolC))) (hid2 : H[id2]? = some (.cells own2 z2 (flL ll))) :
    KCall prog F.polynyaref02_floe [basV w h id a.length, .slice (some ⟨id2, o, some 2⟩) n n, .int .i64 c] H [] (Is (.int .i64 (errFloe w h a ll o n c)) H) := by
  refine valRx (Eq.mpr (Erfloe _ w h a ll o n c) ?_) ⟨plainBL 0 a, flL_b 0 ll, trivial⟩ rfl (ids := [id, id2]) ⟨⟨_, _, hid⟩, ⟨_, _, hid2⟩, trivial⟩ rfl
  unfold Rrfloe
  refine ⟨⟨rfl, trivial⟩, fun H' _ hd => krCheckBasin w h a hd.1, forkNe (fun h0 => iEq (first2_1 h0).symm) (fun h0 => ?_)⟩
  have b := basOk h0
  have e1 : errFloe w h a ll o n c = if n ≤ 48 then first2 (errUp (flErr w h a ll o) n) (if seaB a c = true then 0 else 1) else 2 := first2_2 h0
  rw [e1]
  refine forkD (fun k => ?_) (fun k => ?_)
  · rw [if_neg (by omega)]
  rw [if_pos (by omega)]
  refine ⟨rfl, ⟨Nat.zero_le _, rfl⟩, ?_, fun _ => rfl, ?_⟩
  · repeat' first | exact trivial | exact rfl | exact wk_refl _ | refine wkO_cells ?_ | refine wks_cons ?_ ?_ | exact wks_nil | exact wk_nil _ _ _ (.inl rfl) | (exact wk_Q (by omega)) | refine wk_tupL ?_ | refine wk_aggL ?_ | refine joinMax ?_ ?_ ?_ | refine joinMin ?_ ?_ ?_ | refine toMax ?_ | refine toMin ?_ | refine ⟨rfl, ?_⟩ | refine ⟨trivial, ?_⟩ | (refine forkD (fun h => ?_) (fun h => ?_)) | (refine forkNe (fun h => ?_) (fun h => ?_)) | (refine forkEq (fun h => ?_) (fun h => ?_)) | refine forkNot ?_ | (refine ⟨vI64 (by omega), ?_⟩) | (refine And.intro (by omega) ?_) | apply And.intro | (exact iEq (by omega)) | (exact vI64 (by omega))
  rintro x ⟨hx, hu⟩
  refine forkD (fun k2 => ?_) (fun k2 => ?_)
  · have hlt : x < n := by omega
    have hlo : o + x < ll.length := by omega
    refine ⟨by omega, flL_at hlo (by omega), ⟨rfl, trivial⟩, fun H' _ hd => krCheckFlowsV w h a _ (hs _ hlo) hd.1, ?_⟩
    have e2 : errFlows w h a.length (ll.getD (o + x) []) = flErr w h a ll o x := rfl
    rw [e2]
    refine forkNe (fun h1 => ?_) (fun h1 => ⟨vI64 (by omega), x + 1, ⟨by omega, errUp_succ hu h1⟩, by omega, rfl, ?_⟩)
    · rw [errUp_at hu h1 hlt, first2_1 h1]
    · repeat' first | exact trivial | exact rfl | exact wk_refl _ | refine wkO_cells ?_ | refine wks_cons ?_ ?_ | exact wks_nil | exact wk_nil _ _ _ (.inl rfl) | (exact wk_Q (by omega)) | refine wk_tupL ?_ | refine wk_aggL ?_ | refine joinMax ?_ ?_ ?_ | refine joinMin ?_ ?_ ?_ | refine toMax ?_ | refine toMin ?_ | refine ⟨rfl, ?_⟩ | refine ⟨trivial, ?_⟩ | (refine forkD (fun h => ?_) (fun h => ?_)) | (refine forkNe (fun h => ?_) (fun h => ?_)) | (refine forkEq (fun h => ?_) (fun h => ?_)) | refine forkNot ?_ | (refine ⟨vI64 (by omega), ?_⟩) | (refine And.intro (by omega) ?_) | apply And.intro | (exact iEq (by omega)) | (exact vI64 (by omega))
  · obtain rfl : x = n := by omega
    rw [hu, first2_2 rfl]
    refine ⟨⟨rfl, trivial⟩, fun H' _ hd => krisSea b hd.1, forkNot (forkB (fun q => ?_) (fun q => ?_))⟩
    · rw [q]; rfl
    · rw [q]; rfl
end
end Go.Proofs.Ytkkgnalgmebfjaa
/- DriftKept: what its numbers make. No condition. -/
namespace Go.Proofs.Ytkkgnalgmebfjaa
set_option linter.unusedSimpArgs false
set_option linter.unusedVariables false
open Go Go.K
noncomputable section
def kW (L : List Int) : Int := watW L 0
def kH (L : List Int) : Int := watH L 0
def kA (L : List Int) : List Bool := watA L 0
def k1 (L : List Int) : Int := watN L 0
def kX (L : List Int) : List Ice := (fldL L (kA L) (k1 L) (kA L).length).1
def k2 (L : List Int) : Int := (fldL L (kA L) (k1 L) (kA L).length).2
def kF (L : List Int) : List Flow := (curs L (k2 L) (kA L).length).1
def k3 (L : List Int) : Int := (curs L (k2 L) (kA L).length).2
def k4 (L : List Int) : Int := (mvgL L (kF L) (k3 L) (kF L).length).2
end
end Go.Proofs.Ytkkgnalgmebfjaa
/- DriftKept: what a step keeps. No condition. -/
namespace Go.Proofs.Ytkkgnalgmebfjaa
open Go Go.K
set_option maxRecDepth 100000
set_option linter.unusedVariables false
set_option linter.unusedSimpArgs false
noncomputable section
/-- Ice, and where it moves. -/
structure DrOk (w h : Int) (a : List Bool) (xs : List Ice) (ms : List Move) : Prop where
  b : BasOk w h a.length
  n : xs.length = a.length
  x : ∀ k, k < xs.length → rightI (xs.getD k zeroI)
  z : ∀ k, k < xs.length → a.getD k false = true → xs.getD k zeroI = zeroI
/-- What is so of each cell after a step. -/
structure KeptC (t : Int) (land : Bool) (x : Ice) (e : Int) : Prop where
  e0 : 0 ≤ e
  b : (0 ≤ x.conc ∧ x.conc ≤ 100) ∧ e ≤ 200000
  ex : 0 < e → x.conc = 100 ∧ 1 ≤ x.press
  ld : land = true → isZ x = true
  th : x.thick ≤ t + Int.tdiv e 10
  z : x.conc = 0 → isZ x = true
end
end Go.Proofs.Ytkkgnalgmebfjaa
