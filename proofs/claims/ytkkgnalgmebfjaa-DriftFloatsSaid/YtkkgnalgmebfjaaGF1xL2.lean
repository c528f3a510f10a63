/- Drift: lists of lists; what is wrong with steps. No condition. -/
import Derived.Test.YtkkgnalgmebfjaaGA4xF1g
import Derived.Test.YtkkgnalgmebfjaaGD5xG1a
import Derived.Test.YtkkgnalgmebfjaaGG1gxJ1g
import Derived.Test.YtkkgnalgmebfjaaGJ2gxH1f
import Derived.Test.YtkkgnalgmebfjaaRows
import Derived.JoinedCond
import Derived.Test.YtkkgnalgmebfjaaGK27xD4
namespace Go.Proofs.Ytkkgnalgmebfjaa
open Go Go.K
set_option maxRecDepth 100000
set_option linter.unusedVariables false
set_option linter.unusedSimpArgs false
noncomputable section
attribute [local irreducible] vF
theorem valRx {f : FuncId} {args : List Value} {css : List (List Value)} {h : Hint} {v : Value} (hc : vF prog msk (dm 0) 100000 true 40 true f args (readsT 0 css) (some []) h (fun v' _ _ => v' = v)) (hp : plainAll css) (hv : belowV 0 v = true)
    {H : Heap} {ids : List Nat} (hi : idsOk H ids css) {args' : List Value} (ha : args.map (rn (sgR 0 ids) 5) = args') : KCall prog f args' H [] (Is v H) := by
  subst ha
  exact valR hc (plainAll_spec hp) hv ids (idsOk_len hi) (idsOk_spec hi)
theorem flV_b (n : Nat) (l : List Flow) : belowC n (flV l) = true := by
  show (l.flatMap flowC).all (belowD n) = true
  rw [List.all_flatMap, List.all_eq_true]
  intro r _; rfl
theorem inV_b (n : Nat) (l : List Int) : belowC n (inV l) = true := all_belowD n l
theorem flL_b (n : Nat) (ll : List (List Flow)) : (flL ll).all (belowC n) = true := by
  unfold flL
  rw [List.all_map, List.all_eq_true]
  intro l _
  exact flV_b n l
theorem inL_b (n : Nat) (ll : List (List Int)) : (inL ll).all (belowC n) = true := by
  unfold inL
  rw [List.all_map, List.all_eq_true]
  intro l _
  exact inV_b n l
theorem flV_rn (σ : Nat → Option Nat) (d : Nat) (l : List Flow) : rn σ (d + 3) (flV l) = flV l := (rnC (flV_b 0 l)).1
theorem inV_rn (σ : Nat → Option Nat) (d : Nat) (l : List Int) : rn σ (d + 3) (inV l) = inV l := (rnC (inV_b 0 l)).1
theorem flL_len (ll : List (List Flow)) : (flL ll).length = ll.length := List.length_map ..
theorem inL_len (ll : List (List Int)) : (inL ll).length = ll.length := List.length_map ..
theorem flL_at {ll : List (List Flow)} {k : Nat} (h : k < ll.length) {off : Nat} (ho : off = k) : (flL ll)[off]? = some (flV (ll.getD k [])) := by
  subst ho
  unfold flL
  rw [List.getElem?_map, List.getElem?_eq_getElem h, List.getD_eq_getElem?_getD, List.getElem?_eq_getElem h]; rfl
theorem inL_at {ll : List (List Int)} {k : Nat} (h : k < ll.length) {off : Nat} (ho : off = k) : (inL ll)[off]? = some (inV (ll.getD k [])) := by
  subst ho
  unfold inL
  rw [List.getElem?_map, List.getElem?_eq_getElem h, List.getD_eq_getElem?_getD, List.getElem?_eq_getElem h]; rfl
theorem partF {l : List Flow} {k : Nat} (h : k < l.length) {off : Nat} (ho : off = k * 4) : partA 4 (l.flatMap flowC) off = some (.agg ⟨flowC (l.getD k zeroF)⟩) :=
  part_at (n := 4) (d := zeroF) (c := 0) flowC_len h (by omega) (by omega)
theorem kCheckFlowsV (w h : Int) (a : List Bool) (l : List Flow) (hl : l.length ≤ 4294967296) {H : Heap} {id : Nat} {own : Bool} {z : Nat} (hid : H[id]? = some (.cells own z (a.flatMap boolC))) :
    KCall prog F.drift_CheckFlows [basV w h id a.length, flV l] H [] (Is (.int .i64 (errFlows w h a.length l)) H) := by
  refine valRx (v := .int .i64 (errFlows w h a.length l)) (Eq.mpr (ECheckFlowsV _ w h a l) ?_) ⟨plainBL 0 a, trivial⟩ rfl (ids := [id]) ⟨⟨_, _, hid⟩, trivial⟩ (congrArg (fun q => [basV w h id a.length, q]) (flV_rn _ 2 l))
  unfold RCheckFlowsV
  refine ⟨⟨rfl, trivial⟩, fun H' _ hd => kCheckBasin w h a hd.1, forkNe (fun h0 => iEq (first2_1 h0).symm) (fun h0 => forkNe (fun h1 => iEq ((first2_2 h0).trans (if_neg (by omega))).symm) (fun h1 => ?_))⟩
  refine ⟨rfl, ⟨Nat.zero_le _, iEq ((first2_2 h0).trans (if_pos (by omega)))⟩, ?_, fun _ => rfl, ?_⟩
  · repeat' first | exact (flV_rn _ 0 _).symm | exact (inV_rn _ 0 _).symm | exact trivial | exact rfl | exact wk_refl _ | refine wkO_cells ?_ | refine wks_cons ?_ ?_ | exact wks_nil | exact wk_nil _ _ _ (.inl rfl) | (exact wk_Q (by omega)) | refine wk_tupL ?_ | refine wk_aggL ?_ | refine joinMax ?_ ?_ ?_ | refine joinMin ?_ ?_ ?_ | refine toMax ?_ | refine toMin ?_ | refine ⟨rfl, ?_⟩ | refine ⟨trivial, ?_⟩ | (refine forkD (fun h => ?_) (fun h => ?_)) | (refine forkNe (fun h => ?_) (fun h => ?_)) | (refine forkEq (fun h => ?_) (fun h => ?_)) | refine forkNot ?_ | (refine ⟨vI64 (by omega), ?_⟩) | (refine And.intro (by omega) ?_) | apply And.intro | (exact iEq (by omega)) | (exact vI64 (by omega))
  rintro x ⟨hx, hs⟩
  refine forkD (fun k => ?_) (fun k => ?_)
  · have hlt : x < l.length := by omega
    refine ⟨by omega, partF hlt (by omega), ?_⟩
    have e1 := errF_1 hlt
    have e2 := errF_2 hlt
    unfold rightF rightS at e1 e2
    repeat' first | (exact (iEq (e2 (by omega)).symm).trans hs.symm) | (refine ⟨x + 1, ⟨by omega, hs.trans (iEq (e1 (by omega)))⟩, by omega, rfl, ?_⟩) | exact (flV_rn _ 0 _).symm | exact (inV_rn _ 0 _).symm | exact trivial | exact rfl | exact wk_refl _ | refine wkO_cells ?_ | refine wks_cons ?_ ?_ | exact wks_nil | exact wk_nil _ _ _ (.inl rfl) | (exact wk_Q (by omega)) | refine wk_tupL ?_ | refine wk_aggL ?_ | refine joinMax ?_ ?_ ?_ | refine joinMin ?_ ?_ ?_ | refine toMax ?_ | refine toMin ?_ | refine ⟨rfl, ?_⟩ | refine ⟨trivial, ?_⟩ | (refine forkD (fun h => ?_) (fun h => ?_)) | (refine forkNe (fun h => ?_) (fun h => ?_)) | (refine forkEq (fun h => ?_) (fun h => ?_)) | refine forkNot ?_ | (refine ⟨vI64 (by omega), ?_⟩) | (refine And.intro (by omega) ?_) | apply And.intro | (exact iEq (by omega)) | (exact vI64 (by omega))
  · obtain rfl : x = l.length := by omega
    rw [hs, List.drop_length]; rfl
def shortF (ll : List (List Flow)) : Prop := ∀ k, k < ll.length → (ll.getD k []).length ≤ 4294967296
theorem knumbers (l : List Bool) (hl : l.length ≤ 4096) {H : Heap} {L : Nat} (hL : H.length = L) {id : Nat} {own : Bool} {z : Nat} (hid : H[id]? = some (.cells own z (l.flatMap boolC))) :
    KCall prog F.drift_numbers [.slice (some ⟨id, 0, some 2⟩) l.length l.length] H [] (Is (.slice (some ⟨L, 0, some 1⟩) (truesL l).length (truesL l).length) (H ++ [.cells true 1 ((truesL l).flatMap intC)])) := by
  subst hL
  refine valQ (fun i => .slice (some ⟨i, 0, some 1⟩) (truesL l).length (truesL l).length) (Eq.mpr (Enumbers l) ?_) (plainBL 0 l) (fun n => plainIL n _) rfl rfl (fun _ => rfl) hid rfl
  unfold Rnumbers
  refine ⟨rfl, Nat.zero_le _, ?_, fun _ => rfl, ?_⟩
  · repeat' first | exact plainIL _ _ | exact trivial | exact rfl | exact wk_refl _ | refine wkO_cells ?_ | refine wks_cons ?_ ?_ | exact wks_nil | exact wk_nil _ _ _ (.inl rfl) | (exact wk_Q (by omega)) | refine wk_tupL ?_ | refine wk_aggL ?_ | refine joinMax ?_ ?_ ?_ | refine joinMin ?_ ?_ ?_ | refine toMax ?_ | refine toMin ?_ | refine ⟨rfl, ?_⟩ | refine ⟨trivial, ?_⟩ | (refine forkD (fun h => ?_) (fun h => ?_)) | (refine forkNe (fun h => ?_) (fun h => ?_)) | (refine forkEq (fun h => ?_) (fun h => ?_)) | refine forkNot ?_ | (refine ⟨vI64 (by omega), ?_⟩) | (refine And.intro (by omega) ?_) | apply And.intro | (exact iEq (by omega)) | (exact vI64 (by omega))
  intro x hx
  have hlen := truesTo_len l x
  refine forkD (fun k => ?_) (fun k => ?_)
  · refine ⟨by omega, boolAt (by omega) (by omega), fun k2 => ?_, fun k2 => ?_⟩
    · have hM := truesTo_1 k2
      repeat' first | (refine ⟨x + 1, by omega, by omega, rfl, ?_⟩) | exact wk_snoc hM | exact ob_snoc intC_len hM rfl | exact plainIL _ _ | exact flat_le intC_len _ | exact Nat.le_refl _ | exact trivial | exact rfl | exact wk_refl _ | refine wkO_cells ?_ | refine wks_cons ?_ ?_ | exact wks_nil | exact wk_nil _ _ _ (.inl rfl) | (exact wk_Q (by omega)) | refine wk_tupL ?_ | refine wk_aggL ?_ | refine joinMax ?_ ?_ ?_ | refine joinMin ?_ ?_ ?_ | refine toMax ?_ | refine toMin ?_ | refine ⟨rfl, ?_⟩ | refine ⟨trivial, ?_⟩ | (refine forkD (fun h => ?_) (fun h => ?_)) | (refine forkNe (fun h => ?_) (fun h => ?_)) | (refine forkEq (fun h => ?_) (fun h => ?_)) | refine forkNot ?_ | (refine ⟨vI64 (by omega), ?_⟩) | (refine And.intro (by omega) ?_) | apply And.intro | (exact iEq (by omega)) | (exact vI64 (by omega))
    · have hM := truesTo_2 k2
      refine ⟨vI64 (by omega), x + 1, by omega, by omega, rfl, ?_⟩
      rw [hM]
      repeat' first | exact plainIL _ _ | exact trivial | exact rfl | exact wk_refl _ | refine wkO_cells ?_ | refine wks_cons ?_ ?_ | exact wks_nil | exact wk_nil _ _ _ (.inl rfl) | (exact wk_Q (by omega)) | refine wk_tupL ?_ | refine wk_aggL ?_ | refine joinMax ?_ ?_ ?_ | refine joinMin ?_ ?_ ?_ | refine toMax ?_ | refine toMin ?_ | refine ⟨rfl, ?_⟩ | refine ⟨trivial, ?_⟩ | (refine forkD (fun h => ?_) (fun h => ?_)) | (refine forkNe (fun h => ?_) (fun h => ?_)) | (refine forkEq (fun h => ?_) (fun h => ?_)) | refine forkNot ?_ | (refine ⟨vI64 (by omega), ?_⟩) | (refine And.intro (by omega) ?_) | apply And.intro | (exact iEq (by omega)) | (exact vI64 (by omega))
  · obtain rfl : x = l.length := by omega
    repeat' first | exact plainIL _ _ | exact trivial | exact rfl | exact wk_refl _ | refine wkO_cells ?_ | refine wks_cons ?_ ?_ | exact wks_nil | exact wk_nil _ _ _ (.inl rfl) | (exact wk_Q (by omega)) | refine wk_tupL ?_ | refine wk_aggL ?_ | refine joinMax ?_ ?_ ?_ | refine joinMin ?_ ?_ ?_ | refine toMax ?_ | refine toMin ?_ | refine ⟨rfl, ?_⟩ | refine ⟨trivial, ?_⟩ | (refine forkD (fun h => ?_) (fun h => ?_)) | (refine forkNe (fun h => ?_) (fun h => ?_)) | (refine forkEq (fun h => ?_) (fun h => ?_)) | refine forkNot ?_ | (refine ⟨vI64 (by omega), ?_⟩) | (refine And.intro (by omega) ?_) | apply And.intro | (exact iEq (by omega)) | (exact vI64 (by omega))
theorem any_snoc {l : List Int} {p : Int → Bool} {k : Nat} (h : k < l.length) : (l.take (k + 1)).any p = ((l.take k).any p || p (l.getD k 0)) := by
  rw [take_snoc (d := (0 : Int)) h, List.any_append]; simp
theorem kContains (S : List Int) (hS : S.length ≤ 4294967296) (t : Int) (H : Heap) : KCall prog F.slices_Contains___int_int_ [inV S, .int .i64 t] H [] (Is (.bool (decide (t ∈ S))) H) := by
  refine valK 40 (fun σ => by have := inV_rn σ 2 S; show [rn σ (2 + 3) (inV S), Value.int .i64 t] = _; rw [this]; rfl) rfl (Eq.mpr (EContains _ S t) ?_) H
  unfold RContains
  refine ⟨rfl, ⟨Nat.zero_le _, fun h => by cases h⟩, ?_, fun _ => rfl, ?_⟩
  · repeat' first | exact (flV_rn _ 0 _).symm | exact (inV_rn _ 0 _).symm | exact trivial | exact rfl | exact wk_refl _ | refine wkO_cells ?_ | refine wks_cons ?_ ?_ | exact wks_nil | exact wk_nil _ _ _ (.inl rfl) | (exact wk_Q (by omega)) | refine wk_tupL ?_ | refine wk_aggL ?_ | refine joinMax ?_ ?_ ?_ | refine joinMin ?_ ?_ ?_ | refine toMax ?_ | refine toMin ?_ | refine ⟨rfl, ?_⟩ | refine ⟨trivial, ?_⟩ | (refine forkD (fun h => ?_) (fun h => ?_)) | (refine forkNe (fun h => ?_) (fun h => ?_)) | (refine forkEq (fun h => ?_) (fun h => ?_)) | refine forkNot ?_ | (refine ⟨vI64 (by omega), ?_⟩) | (refine And.intro (by omega) ?_) | apply And.intro | (exact iEq (by omega)) | (exact vI64 (by omega))
  rintro x ⟨hx, hn⟩
  refine forkD (fun h => ?_) (fun h => ?_)
  · have hlt : x < S.length := by omega
    refine ⟨by omega, intAt hlt (by omega), forkEq (fun q => ?_) (fun q => ⟨vI64 (by omega), x + 1, ⟨by omega, ?_⟩, by omega, rfl, ?_⟩)⟩
    · have hm : t ∈ S := by rw [q]; exact getD_mem hlt
      rw [decide_eq_true hm, decide_eq_true (by omega)]
    · rw [take_snoc (d := 0) hlt]
      intro hm
      rcases List.mem_append.1 hm with hm | hm
      · exact hn hm
      · exact q (List.mem_singleton.1 hm)
    · repeat' first | exact (flV_rn _ 0 _).symm | exact (inV_rn _ 0 _).symm | exact trivial | exact rfl | exact wk_refl _ | refine wkO_cells ?_ | refine wks_cons ?_ ?_ | exact wks_nil | exact wk_nil _ _ _ (.inl rfl) | (exact wk_Q (by omega)) | refine wk_tupL ?_ | refine wk_aggL ?_ | refine joinMax ?_ ?_ ?_ | refine joinMin ?_ ?_ ?_ | refine toMax ?_ | refine toMin ?_ | refine ⟨rfl, ?_⟩ | refine ⟨trivial, ?_⟩ | (refine forkD (fun h => ?_) (fun h => ?_)) | (refine forkNe (fun h => ?_) (fun h => ?_)) | (refine forkEq (fun h => ?_) (fun h => ?_)) | refine forkNot ?_ | (refine ⟨vI64 (by omega), ?_⟩) | (refine And.intro (by omega) ?_) | apply And.intro | (exact iEq (by omega)) | (exact vI64 (by omega))
  · obtain rfl : x = S.length := by omega
    rw [List.take_length] at hn
    rw [decide_eq_false hn]
theorem kContainsFunc (x p S : List Int) (hx : x.length ≤ 4294967296) (hS : S.length ≤ 4294967296) {H : Heap} {id id2 : Nat} {own own2 : Bool} {z z2 : Nat} (hid : H[id]? = some (.cells own z ((x ++ p).flatMap intC))) (hid2 : H[id2]? = some (.cells own2 z2 [inV S])) :
    KCall prog F.slices_ContainsFunc___int_int_ [.slice (some ⟨id, 0, some 2⟩) x.length x.length, .func (.func 87) #[] #[.pointer (some ⟨id2, 0, none⟩)]] H [] (Is (.bool (x.any fun t => decide (t ∈ S))) H) := by
  refine valRx (Eq.mpr (EContainsFunc _ x p S) ?_) ⟨plainIL 0 _, by show (belowC 0 (inV S) && true) = true; rw [inV_b]; rfl, trivial⟩ rfl (ids := [id, id2]) ⟨⟨_, _, hid⟩, ⟨_, _, hid2⟩, trivial⟩ rfl
  unfold RContainsFunc
  refine ⟨rfl, ⟨Nat.zero_le _, rfl⟩, ?_, fun _ => rfl, ?_⟩
  · repeat' first | exact trivial | exact rfl | exact wk_refl _ | refine wkO_cells ?_ | refine wks_cons ?_ ?_ | exact wks_nil | exact wk_nil _ _ _ (.inl rfl) | (exact wk_Q (by omega)) | refine wk_tupL ?_ | refine wk_aggL ?_ | refine joinMax ?_ ?_ ?_ | refine joinMin ?_ ?_ ?_ | refine toMax ?_ | refine toMin ?_ | refine ⟨rfl, ?_⟩ | refine ⟨trivial, ?_⟩ | (refine forkD (fun h => ?_) (fun h => ?_)) | (refine forkNe (fun h => ?_) (fun h => ?_)) | (refine forkEq (fun h => ?_) (fun h => ?_)) | refine forkNot ?_ | (refine ⟨vI64 (by omega), ?_⟩) | (refine And.intro (by omega) ?_) | apply And.intro | (exact iEq (by omega)) | (exact vI64 (by omega))
  rintro k ⟨hk, hn⟩
  refine forkD (fun h => ?_) (fun h => ?_)
  · have hlt : k < x.length := by omega
    have hs := any_snoc (p := fun t => decide (t ∈ S)) hlt
    refine ⟨by omega, intAtL hlt (by omega), trivial, fun H' _ _ => kContains S hS _ H', forkB (fun q => ?_) (fun q => ⟨vI64 (by omega), k + 1, ⟨by omega, by rw [hs, hn, q]; rfl⟩, by omega, rfl, ?_⟩)⟩
    · have : (x.any fun t => decide (t ∈ S)) = true := List.any_eq_true.2 ⟨_, getD_mem hlt, q⟩
      rw [this, decide_eq_true (by omega)]
    · repeat' first | exact trivial | exact rfl | exact wk_refl _ | refine wkO_cells ?_ | refine wks_cons ?_ ?_ | exact wks_nil | exact wk_nil _ _ _ (.inl rfl) | (exact wk_Q (by omega)) | refine wk_tupL ?_ | refine wk_aggL ?_ | refine joinMax ?_ ?_ ?_ | refine joinMin ?_ ?_ ?_ | refine toMax ?_ | refine toMin ?_ | refine ⟨rfl, ?_⟩ | refine ⟨trivial, ?_⟩ | (refine forkD (fun h => ?_) (fun h => ?_)) | (refine forkNe (fun h => ?_) (fun h => ?_)) | (refine forkEq (fun h => ?_) (fun h => ?_)) | refine forkNot ?_ | (refine ⟨vI64 (by omega), ?_⟩) | (refine And.intro (by omega) ?_) | apply And.intro | (exact iEq (by omega)) | (exact vI64 (by omega))
  · obtain rfl : k = x.length := by omega
    rw [List.take_length] at hn
    rw [hn]
theorem flErr_0 {w h : Int} {a : List Bool} {ll : List (List Flow)} {x : Nat} : errFlows w h a.length (ll.getD x []) = flErr w h a ll 0 x := by unfold flErr; rw [Nat.zero_add]
theorem kfloe {w h : Int} {a : List Bool} (ll : List (List Flow)) (c : Int) (hl : ll.length ≤ 4294967296) (hs : shortF ll) {H : Heap} {id id2 : Nat} {own own2 : Bool} {z z2 : Nat} (hid : H[id]? = some (.cells own z (a.flatMap boolC))) (hid2 : H[id2]? = some (.cells own2 z2 (flL ll))) :
    KCall prog F.drift_floe [basV w h id a.length, .slice (some ⟨id2, 0, some 2⟩) ll.length ll.length, .int .i64 c] H [] (Is (.int .i64 (errFloe w h a ll 0 ll.length c)) H) := by
  refine valRx (Eq.mpr (Efloe _ w h a ll c) ?_) ⟨plainBL 0 a, flL_b 0 ll, trivial⟩ rfl (ids := [id, id2]) ⟨⟨_, _, hid⟩, ⟨_, _, hid2⟩, trivial⟩ rfl
  unfold Rfloe
  refine ⟨⟨rfl, trivial⟩, fun H' _ hd => kCheckBasin w h a hd.1, forkNe (fun h0 => iEq (first2_1 h0).symm) (fun h0 => ?_)⟩
  have b := basOk h0
  have e1 : errFloe w h a ll 0 ll.length c = if ll.length ≤ 48 then first2 (errUp (flErr w h a ll 0) ll.length) (if seaB a c = true then 0 else 1) else 2 := first2_2 h0
  rw [e1]
  refine forkD (fun k => ?_) (fun k => ?_)
  · rw [if_neg (by omega)]
  rw [if_pos (by omega)]
  refine ⟨rfl, ⟨Nat.zero_le _, rfl⟩, ?_, fun _ => rfl, ?_⟩
  · repeat' first | exact trivial | exact rfl | exact wk_refl _ | refine wkO_cells ?_ | refine wks_cons ?_ ?_ | exact wks_nil | exact wk_nil _ _ _ (.inl rfl) | (exact wk_Q (by omega)) | refine wk_tupL ?_ | refine wk_aggL ?_ | refine joinMax ?_ ?_ ?_ | refine joinMin ?_ ?_ ?_ | refine toMax ?_ | refine toMin ?_ | refine ⟨rfl, ?_⟩ | refine ⟨trivial, ?_⟩ | (refine forkD (fun h => ?_) (fun h => ?_)) | (refine forkNe (fun h => ?_) (fun h => ?_)) | (refine forkEq (fun h => ?_) (fun h => ?_)) | refine forkNot ?_ | (refine ⟨vI64 (by omega), ?_⟩) | (refine And.intro (by omega) ?_) | apply And.intro | (exact iEq (by omega)) | (exact vI64 (by omega))
  rintro x ⟨hx, hu⟩
  refine forkD (fun k2 => ?_) (fun k2 => ?_)
  · have hlt : x < ll.length := by omega
    refine ⟨by omega, flL_at hlt (by omega), ⟨rfl, trivial⟩, fun H' _ hd => kCheckFlowsV w h a _ (hs x hlt) hd.1, ?_⟩
    rw [flErr_0]
    refine forkNe (fun h1 => ?_) (fun h1 => ⟨vI64 (by omega), x + 1, ⟨by omega, errUp_succ hu h1⟩, by omega, rfl, ?_⟩)
    · rw [errUp_at hu h1 hlt, first2_1 h1]
    · repeat' first | exact trivial | exact rfl | exact wk_refl _ | refine wkO_cells ?_ | refine wks_cons ?_ ?_ | exact wks_nil | exact wk_nil _ _ _ (.inl rfl) | (exact wk_Q (by omega)) | refine wk_tupL ?_ | refine wk_aggL ?_ | refine joinMax ?_ ?_ ?_ | refine joinMin ?_ ?_ ?_ | refine toMax ?_ | refine toMin ?_ | refine ⟨rfl, ?_⟩ | refine ⟨trivial, ?_⟩ | (refine forkD (fun h => ?_) (fun h => ?_)) | (refine forkNe (fun h => ?_) (fun h => ?_)) | (refine forkEq (fun h => ?_) (fun h => ?_)) | refine forkNot ?_ | (refine ⟨vI64 (by omega), ?_⟩) | (refine And.intro (by omega) ?_) | apply And.intro | (exact iEq (by omega)) | (exact vI64 (by omega))
  · obtain rfl : x = ll.length := by omega
    rw [hu, first2_2 rfl]
    refine ⟨⟨rfl, trivial⟩, fun H' _ hd => kis b hd.1, forkNot (forkB (fun q => ?_) (fun q => ?_))⟩
    · rw [q]; rfl
    · rw [q]; rfl
end
end Go.Proofs.Ytkkgnalgmebfjaa
/- DriftTight: what its numbers make. No condition. -/
namespace Go.Proofs.Ytkkgnalgmebfjaa
set_option linter.unusedSimpArgs false
set_option linter.unusedVariables false
open Go Go.K
noncomputable section
def t3 (L : List Int) : Int := (hldL L (kA L) (kX L) (k2 L + 1) (kX L).length).2
def tF (L : List Int) : List Flow := (curs L (t3 L) (kA L).length).1
def t4 (L : List Int) : Int := (curs L (t3 L) (kA L).length).2
def tT (L : List Int) (x : Int) : Int := x % (((kA L).length : Nat) : Int)
def bestTo (w h : Int) (a : List Bool) (i t : Int) (hi : Bool) (ms : List Move) : Nat → Move
  | 0 => ms.getD 0 zeroM
  | j + 1 => if ((targ w h a i (ms.getD j zeroM) == t) == hi) = true then ms.getD j zeroM else bestTo w h a i t hi ms j
def tB (L : List Int) (x : Int) (hi : Bool) (k j : Nat) : Move := bestTo (kW L) (kH L) (kA L) (k : Int) (tT L x) hi (movesF ((tF L).getD k zeroF)) j
end
end Go.Proofs.Ytkkgnalgmebfjaa
/- DriftInside: a wider chart, wider flows. No condition. -/
namespace Go.Proofs.Ytkkgnalgmebfjaa
open Go Go.K
set_option maxRecDepth 100000
set_option linter.unusedVariables false
set_option linter.unusedSimpArgs false
noncomputable section
/-! ## Piles -/
def plLe (p q : Pl) : Prop := p.s ≤ q.s ∧ p.t ≤ q.t ∧ p.r ≤ q.r
theorem plLe.refl (p : Pl) : plLe p p := ⟨Int.le_refl _, Int.le_refl _, Int.le_refl _⟩
theorem plLe.trans {p q r : Pl} (h : plLe p q) (k : plLe q r) : plLe p r := ⟨Int.le_trans h.1 k.1, Int.le_trans h.2.1 k.2.1, Int.le_trans h.2.2 k.2.2⟩
/-! ## Flows -/
/-! ## Charts -/
/-! ## What is made wider -/
end
end Go.Proofs.Ytkkgnalgmebfjaa
/- Drift: where a floe can be: facts of the lists. No condition. -/
namespace Go.Proofs.Ytkkgnalgmebfjaa
set_option linter.unusedSimpArgs false
open Go Go.K
set_option linter.unusedVariables false
noncomputable section
theorem mem_trues {B : List Bool} {z : Int} : z ∈ truesL B ↔ ∃ i : Nat, i < B.length ∧ B.getD i false = true ∧ (i : Int) = z := truesTo_mem
theorem memL_len (L : List Int) (n : Nat) : (memL L n).length = n := tabP_len _ _
theorem memL_get {L : List Int} {n i : Nat} (h : i < n) : (memL L n).getD i false = decide ((i : Int) ∈ L) := tab_getD _ _ _ h
theorem mem_memL {L : List Int} {n : Nat} {z : Int} : z ∈ truesL (memL L n) ↔ (0 ≤ z ∧ z < (n : Int)) ∧ z ∈ L := by
  rw [mem_trues, memL_len]
  constructor
  · rintro ⟨i, h1, h2, rfl⟩
    rw [memL_get h1] at h2
    exact ⟨⟨by omega, by omega⟩, of_decide_eq_true h2⟩
  · rintro ⟨⟨h1, h2⟩, h3⟩
    refine ⟨Int.toNat z, by omega, ?_, by omega⟩
    rw [memL_get (by omega)]
    exact decide_eq_true (by rw [Int.toNat_of_nonneg h1]; exact h3)
theorem trues_len (B : List Bool) : (truesL B).length ≤ B.length := truesTo_len _ _
theorem tabB_ext {f g : Nat → Bool} {n : Nat} (h : ∀ i, i < n → f i = g i) : tabP f n = tabP g n := by
  unfold tabP
  exact List.map_congr_left fun i hi => h i (List.mem_range.1 hi)
theorem tabB_set {f : Nat → Bool} {n k : Nat} {b : Bool} (hk : k < n) : (tabP f n).set k b = tabP (fun i => if i = k then b else f i) n := by
  refine List.ext_getElem (by rw [List.length_set, tabP_len, tabP_len]) fun i h1 h2 => ?_
  rw [List.getElem_set]
  simp only [tabP, List.getElem_map, List.getElem_range]
  by_cases q : k = i
  · rw [if_pos q, if_pos q.symm]
  · rw [if_neg q, if_neg (fun e => q e.symm)]
theorem memL_set {L : List Int} {n : Nat} {t : Int} (h : 0 ≤ t ∧ t < (n : Int)) : (memL L n).set (Int.toNat t) true = memL (L ++ [t]) n := by
  unfold memL
  rw [tabB_set (by omega)]
  refine tabB_ext fun i hi => ?_
  by_cases q : i = Int.toNat t
  · rw [if_pos q, decide_eq_true (List.mem_append_right _ (List.mem_singleton.2 (by omega)))]
  · rw [if_neg q]
    refine decide_eq_decide.2 ⟨List.mem_append_left _, fun hm => ?_⟩
    rcases List.mem_append.1 hm with hm | hm
    · exact hm
    · have := List.mem_singleton.1 hm; omega
theorem memL_nil (n : Nat) : (memL [] n).flatMap boolC = krep [.bool false] n := goesTo_0 [] n
theorem tgts_mem {w h : Int} {a : List Bool} (b : BasOk w h a.length) {c : Int} {f : Flow} {z : Int} : z ∈ tgts w h a c f ↔ (0 ≤ z ∧ z < (a.length : Int)) ∧ z ∈ tgL w h a c f := by
  have hn : Int.toNat (w * h) = a.length := by have := b.n1; omega
  unfold tgts goesL
  rw [hn]
  exact mem_memL
theorem tgts_bd {w h : Int} {a : List Bool} (b : BasOk w h a.length) {c : Int} {f : Flow} {z : Int} (hz : z ∈ tgts w h a c f) : 0 ≤ z ∧ z < (a.length : Int) := ((tgts_mem b).1 hz).1
structure FloeOk (w h : Int) (a : List Bool) (ll : List (List Flow)) (o n : Nat) (c : Int) : Prop where
  b : BasOk w h a.length
  n48 : n ≤ 48
  fl : ∀ i, i < n → (ll.getD (o + i) []).length = a.length ∧ ∀ f ∈ ll.getD (o + i) [], rightF f
  sea : seaB a c = true
theorem sea_bd {a : List Bool} {c : Int} (h : seaB a c = true) : 0 ≤ c ∧ c < (a.length : Int) := by
  unfold seaB at h
  rw [Bool.and_eq_true, decide_eq_true_iff] at h
  exact h.1
theorem sea_land {a : List Bool} {c : Int} (h : seaB a c = true) : a.getD (Int.toNat c) false = false := by
  unfold seaB at h
  rw [Bool.and_eq_true] at h
  simpa using h.2
theorem FloeOk.bd {w h : Int} {a : List Bool} {ll : List (List Flow)} {o n : Nat} {c : Int} (k : FloeOk w h a ll o n c) : 0 ≤ c ∧ c < (a.length : Int) := sea_bd k.sea
theorem FloeOk.n1 {w h : Int} {a : List Bool} {ll : List (List Flow)} {o n : Nat} {c : Int} (k : FloeOk w h a ll o n c) : a.length ≤ 1024 ∧ 1 ≤ a.length := by
  have h1 := k.b.n1
  have h2 := k.b.p1
  have := k.bd
  omega
theorem errF_iff : ∀ {l : List Flow}, (∀ f ∈ l, rightF f) → errF l = 0
  | [], _ => rfl
  | f :: l, h => by
    have h1 : errF (f :: l) = if rightF f then errF l else 30 := rfl
    rw [h1, if_pos (h f List.mem_cons_self)]
    exact errF_iff fun g hg => h g (List.mem_cons_of_mem _ hg)
theorem errUp_0 {e : Nat → Int} : ∀ {n : Nat}, (∀ k, k < n → e k = 0) → errUp e n = 0
  | 0, _ => rfl
  | n + 1, h => errUp_succ (errUp_0 fun k hk => h k (by omega)) (h n (by omega))
theorem errBas_iff {w h : Int} {n : Nat} (b : BasOk w h n) : errBas w h n = 0 := by
  unfold errBas
  rw [if_pos ⟨b.w1, b.h1, b.p1⟩, if_pos b.n1]
theorem floeOk {w h : Int} {a : List Bool} {ll : List (List Flow)} {o n : Nat} {c : Int} (e : errFloe w h a ll o n c = 0) : FloeOk w h a ll o n c := by
  unfold errFloe at e
  by_cases h0 : errBas w h a.length = 0
  · rw [first2_2 h0] at e
    by_cases h1 : n ≤ 48
    · rw [if_pos h1] at e
      by_cases h2 : errUp (flErr w h a ll o) n = 0
      · rw [first2_2 h2] at e
        by_cases h3 : seaB a c = true
        · refine ⟨basOk h0, h1, fun i hi => ?_, h3⟩
          have h4 := errFlows_0 (errUp_all h2 i hi)
          exact ⟨h4.2.1, errF_all h4.2.2⟩
        · rw [if_neg h3] at e; omega
      · rw [first2_1 h2] at e; exact absurd e h2
    · rw [if_neg h1] at e; omega
  · rw [first2_1 h0] at e; exact absurd e h0
theorem floe_0 {w h : Int} {a : List Bool} {ll : List (List Flow)} {o n : Nat} {c : Int} (k : FloeOk w h a ll o n c) : errFloe w h a ll o n c = 0 := by
  unfold errFloe
  rw [first2_2 (errBas_iff k.b), if_pos k.n48, first2_2 (errUp_0 fun i hi => ?_), if_pos k.sea]
  unfold flErr errFlows
  rw [first2_2 (errBas_iff k.b), if_pos (k.fl i hi).1, errF_iff (k.fl i hi).2]
theorem fReach_1 {w h : Int} {a : List Bool} {ll : List (List Flow)} {o n : Nat} {c : Int} (e : errFloe w h a ll o n c = 0) : fReach w h a ll o n c = (reR w h a ll o c n, 0) := if_pos e
theorem fReach_0 {w h : Int} {a : List Bool} {ll : List (List Flow)} {o n : Nat} {c : Int} (e : ¬ errFloe w h a ll o n c = 0) : fReach w h a ll o n c = ([], errFloe w h a ll o n c) := if_neg e
theorem reS_succ (w h : Int) (a : List Bool) (ll : List (List Flow)) (o : Nat) (c : Int) (i : Nat) : reS w h a ll o c (i + 1) = truesL (memL ((reS w h a ll o c i).flatMap (tgF w h a (ll.getD (o + i) []))) a.length) := rfl
theorem reS_bd {w h : Int} {a : List Bool} {ll : List (List Flow)} {o : Nat} {c : Int} (hc : 0 ≤ c ∧ c < (a.length : Int)) : ∀ i, ∀ z ∈ reS w h a ll o c i, 0 ≤ z ∧ z < (a.length : Int)
  | 0, z, hz => by rw [List.mem_singleton.1 hz]; exact hc
  | i + 1, z, hz => (mem_memL.1 hz).1
theorem reS_len (w h : Int) (a : List Bool) (ll : List (List Flow)) (o : Nat) (c : Int) : ∀ i, (reS w h a ll o c i).length ≤ 1 + a.length
  | 0 => by show 1 ≤ _; omega
  | i + 1 => by
    have := trues_len (memL ((reS w h a ll o c i).flatMap (tgF w h a (ll.getD (o + i) []))) a.length)
    rw [memL_len] at this
    rw [reS_succ]; omega
theorem reR_len (w h : Int) (a : List Bool) (ll : List (List Flow)) (o : Nat) (c : Int) (n : Nat) : (reR w h a ll o c n).length = n + 1 := tabP_len _ _
theorem reR_succ (w h : Int) (a : List Bool) (ll : List (List Flow)) (o : Nat) (c : Int) (n : Nat) : reR w h a ll o c (n + 1) = reR w h a ll o c n ++ [reS w h a ll o c (n + 1)] := tabP_succ _ _
theorem reR_get {w h : Int} {a : List Bool} {ll : List (List Flow)} {o : Nat} {c : Int} {n k : Nat} (hk : k ≤ n) : (reR w h a ll o c n).getD k [] = reS w h a ll o c k := tabP_get (by omega)
theorem flat_snoc_take {S : List Int} {T : Int → List Int} {y : Nat} (hy : y < S.length) : (S.take (y + 1)).flatMap T = (S.take y).flatMap T ++ T (S.getD y 0) := by
  rw [take_snoc (d := (0 : Int)) hy, List.flatMap_append, List.flatMap_cons, List.flatMap_nil, List.append_nil]
theorem inL_snoc (X : List (List Int)) (S : List Int) : inL (X ++ [S]) = inL X ++ [inV S] := List.map_append ..
theorem inL_take (X : List (List Int)) : List.take (X.length * 1) (List.drop 0 (inL X)) = inL X := by rw [List.drop_zero, List.take_of_length_le (by rw [inL_len]; omega)]
/-- A list is put at the end of lists. -/
theorem ob_in {X Y : List (List Int)} {S : List Int} {v : Value} (hY : Y = X ++ [S]) (hv : v = inV S) : (some (KObj.cells true 1 (List.take (X.length * 1) (List.drop 0 (inL X)) ++ List.take (1 * 1) (List.drop 0 [v]))) : Option KObj) = some (.cells true 1 (inL Y)) := by
  subst hv hY
  rw [inL_snoc, inL_take]; rfl
end
end Go.Proofs.Ytkkgnalgmebfjaa
/- Drift: Reach. No condition. -/
namespace Go.Proofs.Ytkkgnalgmebfjaa
open Go Go.K
set_option maxRecDepth 100000
set_option linter.unusedVariables false
set_option linter.unusedSimpArgs false
noncomputable section
attribute [local irreducible] vF
abbrev rchV (i : Nat) (r : List (List Int) × Int) : Value := .tuple #[.slice (some ⟨i, 0, some 1⟩) r.1.length r.1.length, .int .i64 r.2]
theorem wk_QF {id n m : Nat} (h : m = n) (h0 : 0 < n) : wk (.slice (some ⟨id, 0, none⟩) n n) (.slice (some ⟨id, 0, some 1⟩) m m) := by subst h; exact wk_Q h0
theorem wk_RF {id n m : Nat} (h : m = n) : wk (.slice (some ⟨id, 0, none⟩) n n) (.slice (some ⟨id, 0, some 2⟩) m m) := by subst h; exact wk_R
set_option maxHeartbeats 2000000 in
theorem kReach {w h : Int} {a : List Bool} (ll : List (List Flow)) (c : Int) (hl : ll.length ≤ 4294967296) (hs : shortF ll) {H : Heap} {L : Nat} (hL : H.length = L) {id id2 : Nat} {own own2 : Bool} {z z2 : Nat} (hid : H[id]? = some (.cells own z (a.flatMap boolC))) (hid2 : H[id2]? = some (.cells own2 z2 (flL ll))) :
    KCall prog F.drift_Reach [basV w h id a.length, .slice (some ⟨id2, 0, some 2⟩) ll.length ll.length, .int .i64 c] H [] (Is (rchV L (fReach w h a ll 0 ll.length c)) (H ++ [.cells true 1 (inL (fReach w h a ll 0 ll.length c).1)])) := by
  subst hL
  refine valQ2 (fun i => rchV i (fReach w h a ll 0 ll.length c)) (Eq.mpr (EReach w h a ll c) ?_) (plainBL 0 a) (flL_b 0 ll) (fun n => inL_b n _) rfl rfl (fun _ => rfl) hid hid2 rfl
  unfold RReach
  refine ⟨⟨rfl, rfl, trivial⟩, fun H' _ hd => kfloe ll c hl hs hd.1 hd.2.1, forkNe (fun h0 => ?_) (fun h0 => ?_)⟩
  · rw [fReach_0 h0]
    repeat' first | exact trivial | exact rfl | exact wk_refl _ | refine wkO_cells ?_ | refine wks_cons ?_ ?_ | exact wks_nil | exact wk_nil _ _ _ (.inl rfl) | (exact wk_Q (by omega)) | refine wk_tupL ?_ | refine wk_aggL ?_ | refine joinMax ?_ ?_ ?_ | refine joinMin ?_ ?_ ?_ | refine toMax ?_ | refine toMin ?_ | refine ⟨rfl, ?_⟩ | refine ⟨trivial, ?_⟩ | (refine forkD (fun h => ?_) (fun h => ?_)) | (refine forkNe (fun h => ?_) (fun h => ?_)) | (refine forkEq (fun h => ?_) (fun h => ?_)) | refine forkNot ?_ | (refine ⟨vI64 (by omega), ?_⟩) | (refine And.intro (by omega) ?_) | apply And.intro | (exact iEq (by omega)) | (exact vI64 (by omega))
  rw [fReach_1 h0]
  have ok := floeOk h0
  have hb := ok.b
  have hn := ok.n1
  have hc := ok.bd
  have hbn := hb.n1
  refine ⟨rfl, Nat.zero_le _, ?_, fun _ => rfl, ?_⟩
  · repeat' first | (exact wk_QF (reR_len ..) (by omega)) | exact inL_b _ _ | exact trivial | exact rfl | exact wk_refl _ | refine wkO_cells ?_ | refine wks_cons ?_ ?_ | exact wks_nil | exact wk_nil _ _ _ (.inl rfl) | (exact wk_Q (by omega)) | refine wk_tupL ?_ | refine wk_aggL ?_ | refine joinMax ?_ ?_ ?_ | refine joinMin ?_ ?_ ?_ | refine toMax ?_ | refine toMin ?_ | refine ⟨rfl, ?_⟩ | refine ⟨trivial, ?_⟩ | (refine forkD (fun h => ?_) (fun h => ?_)) | (refine forkNe (fun h => ?_) (fun h => ?_)) | (refine forkEq (fun h => ?_) (fun h => ?_)) | refine forkNot ?_ | (refine ⟨vI64 (by omega), ?_⟩) | (refine And.intro (by omega) ?_) | apply And.intro | (exact iEq (by omega)) | (exact vI64 (by omega))
  intro x hx
  have hrl := reR_len w h a ll 0 c x
  refine forkD (fun k => ?_) (fun k => ?_)
  · have hlt : x < ll.length := by omega
    obtain ⟨hfl, hff⟩ := ok.fl x hlt
    rw [Nat.zero_add] at hfl hff
    have hsl := reS_len w h a ll 0 c x
    refine ⟨by omega, flL_at hlt (by omega), by omega, vI64 (by omega), by omega, ?_, ?_⟩
    · have hg : (reR w h a ll 0 c x).getD x [] = reS w h a ll 0 c x := reR_get (Nat.le_refl _)
      have := inL_at (ll := reR w h a ll 0 c x) (k := x) (by omega) (off := 0 + Int.toNat ((((reR w h a ll 0 c x).length : Nat) : Int) - 1) * 1) (by omega)
      rw [hg] at this; exact this
    refine ⟨rfl, Nat.zero_le _, ?_, fun _ => rfl, ?_⟩
    · rw [← memL_nil]
      repeat' first | exact (flV_rn _ 0 _).symm | exact (inV_rn _ 0 _).symm | exact plainBL _ _ | exact inL_b _ _ | exact plainIL _ _ | exact trivial | exact rfl | exact wk_refl _ | refine wkO_cells ?_ | refine wks_cons ?_ ?_ | exact wks_nil | exact wk_nil _ _ _ (.inl rfl) | (exact wk_Q (by omega)) | refine wk_tupL ?_ | refine wk_aggL ?_ | refine joinMax ?_ ?_ ?_ | refine joinMin ?_ ?_ ?_ | refine toMax ?_ | refine toMin ?_ | refine ⟨rfl, ?_⟩ | refine ⟨trivial, ?_⟩ | (refine forkD (fun h => ?_) (fun h => ?_)) | (refine forkNe (fun h => ?_) (fun h => ?_)) | (refine forkEq (fun h => ?_) (fun h => ?_)) | refine forkNot ?_ | (refine ⟨vI64 (by omega), ?_⟩) | (refine And.intro (by omega) ?_) | apply And.intro | (exact iEq (by omega)) | (exact vI64 (by omega))
    intro y hy
    refine forkD (fun k2 => ?_) (fun k2 => ?_)
    · have hly : y < (reS w h a ll 0 c x).length := by omega
      have hyb := reS_bd hc x _ (getD_mem (d := 0) hly)
      have hsn := flat_snoc_take (T := tgF w h a (ll.getD x [])) hly
      have hat : ((reS w h a ll 0 c x).flatMap intC)[Int.toNat ((y : Nat) : Int) * 1]? = some (.int .i64 ((reS w h a ll 0 c x).getD y 0)) := intAt hly (by omega)
      generalize (reS w h a ll 0 c x).getD y 0 = cy at *
      have hcl : Int.toNat cy < (ll.getD x []).length := by omega
      have hT : tgF w h a (ll.getD x []) cy = tgts w h a cy ((ll.getD x []).getD (Int.toNat cy) zeroF) := rfl
      have hfr := hff _ (getD_mem (d := zeroF) hcl)
      have htl : (tgts w h a cy ((ll.getD x []).getD (Int.toNat cy) zeroF)).length ≤ 4096 := by
        have h1 := trues_len (goesL w h a cy ((ll.getD x []).getD (Int.toNat cy) zeroF))
        rw [goesL_len] at h1
        unfold tgts; omega
      refine ⟨by omega, hat, by omega, partF hcl (by omega), ⟨rfl, trivial⟩, fun H' hl' hd => kTGs hb (by omega) hfr hl' hd.1, ?_⟩
      refine ⟨rfl, Nat.zero_le _, ?_, fun _ => rfl, ?_⟩
      · rw [List.take_zero, List.append_nil]
        repeat' first | exact (flV_rn _ 0 _).symm | exact (inV_rn _ 0 _).symm | exact plainBL _ _ | exact inL_b _ _ | exact plainIL _ _ | exact trivial | exact rfl | exact wk_refl _ | refine wkO_cells ?_ | refine wks_cons ?_ ?_ | exact wks_nil | exact wk_nil _ _ _ (.inl rfl) | (exact wk_Q (by omega)) | refine wk_tupL ?_ | refine wk_aggL ?_ | refine joinMax ?_ ?_ ?_ | refine joinMin ?_ ?_ ?_ | refine toMax ?_ | refine toMin ?_ | refine ⟨rfl, ?_⟩ | refine ⟨trivial, ?_⟩ | (refine forkD (fun h => ?_) (fun h => ?_)) | (refine forkNe (fun h => ?_) (fun h => ?_)) | (refine forkEq (fun h => ?_) (fun h => ?_)) | refine forkNot ?_ | (refine ⟨vI64 (by omega), ?_⟩) | (refine And.intro (by omega) ?_) | apply And.intro | (exact iEq (by omega)) | (exact vI64 (by omega))
      intro t ht
      refine forkD (fun k3 => ?_) (fun k3 => ?_)
      · have hlt3 : t < (tgts w h a cy ((ll.getD x []).getD (Int.toNat cy) zeroF)).length := by omega
        have htb := tgts_bd hb (getD_mem (d := (0 : Int)) hlt3)
        refine ⟨by omega, intAtL hlt3 (by omega), by omega, ?_, rfl, vI64 (by omega), t + 1, by omega, by omega, rfl, ?_⟩
        · rw [flat_len boolC_len, memL_len]; omega
        rw [take_snoc (d := (0 : Int)) hlt3, ← List.append_assoc, ← memL_set htb, Nat.zero_add]
        rw [flat_set boolC_len _ _ (by rw [memL_len]; omega) true]
        repeat' first | exact (flV_rn _ 0 _).symm | exact (inV_rn _ 0 _).symm | exact plainBL _ _ | exact inL_b _ _ | exact plainIL _ _ | exact trivial | exact rfl | exact wk_refl _ | refine wkO_cells ?_ | refine wks_cons ?_ ?_ | exact wks_nil | exact wk_nil _ _ _ (.inl rfl) | (exact wk_Q (by omega)) | refine wk_tupL ?_ | refine wk_aggL ?_ | refine joinMax ?_ ?_ ?_ | refine joinMin ?_ ?_ ?_ | refine toMax ?_ | refine toMin ?_ | refine ⟨rfl, ?_⟩ | refine ⟨trivial, ?_⟩ | (refine forkD (fun h => ?_) (fun h => ?_)) | (refine forkNe (fun h => ?_) (fun h => ?_)) | (refine forkEq (fun h => ?_) (fun h => ?_)) | refine forkNot ?_ | (refine ⟨vI64 (by omega), ?_⟩) | (refine And.intro (by omega) ?_) | apply And.intro | (exact iEq (by omega)) | (exact vI64 (by omega))
      · obtain rfl : t = (tgts w h a cy ((ll.getD x []).getD (Int.toNat cy) zeroF)).length := by omega
        rw [List.take_length, ← hT, ← hsn]
        refine ⟨vI64 (by omega), y + 1, by omega, by omega, rfl, ?_⟩
        repeat' first | exact (flV_rn _ 0 _).symm | exact (inV_rn _ 0 _).symm | exact plainBL _ _ | exact inL_b _ _ | exact plainIL _ _ | exact trivial | exact rfl | exact wk_refl _ | refine wkO_cells ?_ | refine wks_cons ?_ ?_ | exact wks_nil | exact wk_nil _ _ _ (.inl rfl) | (exact wk_Q (by omega)) | refine wk_tupL ?_ | refine wk_aggL ?_ | refine joinMax ?_ ?_ ?_ | refine joinMin ?_ ?_ ?_ | refine toMax ?_ | refine toMin ?_ | refine ⟨rfl, ?_⟩ | refine ⟨trivial, ?_⟩ | (refine forkD (fun h => ?_) (fun h => ?_)) | (refine forkNe (fun h => ?_) (fun h => ?_)) | (refine forkEq (fun h => ?_) (fun h => ?_)) | refine forkNot ?_ | (refine ⟨vI64 (by omega), ?_⟩) | (refine And.intro (by omega) ?_) | apply And.intro | (exact iEq (by omega)) | (exact vI64 (by omega))
    · obtain rfl : y = (reS w h a ll 0 c x).length := by omega
      have hS : truesL (memL (List.flatMap (tgF w h a (ll.getD x [])) (reS w h a ll 0 c x)) a.length) = reS w h a ll 0 c (x + 1) := by rw [reS_succ, Nat.zero_add]
      rw [List.take_length, hS]
      refine ⟨⟨rfl, trivial⟩, fun H' hl' hd => ?_, ⟨by omega, by decide, ⟨Nat.le_refl _, by rw [inL_len]; omega⟩, ⟨Nat.le_refl _, Nat.le_refl _⟩, rfl⟩, rfl, vI64 (by omega), x + 1, by omega, by omega, rfl, ?_⟩
      · have := knumbers (memL (List.flatMap (tgF w h a (ll.getD x [])) (reS w h a ll 0 c x)) a.length) (by rw [memL_len]; omega) hl' hd.1
        rw [hS] at this
        exact this.wkA ⟨wk_RF (memL_len ..), trivial⟩
      have hY := reR_succ w h a ll 0 c x
      repeat' first | (exact wk_QF (by rw [reR_len, reR_len]) (by omega)) | exact ob_in hY rfl | exact plainBL _ _ | exact inL_b _ _ | exact plainIL _ _ | exact trivial | exact rfl | exact wk_refl _ | refine wkO_cells ?_ | refine wks_cons ?_ ?_ | exact wks_nil | exact wk_nil _ _ _ (.inl rfl) | (exact wk_Q (by omega)) | refine wk_tupL ?_ | refine wk_aggL ?_ | refine joinMax ?_ ?_ ?_ | refine joinMin ?_ ?_ ?_ | refine toMax ?_ | refine toMin ?_ | refine ⟨rfl, ?_⟩ | refine ⟨trivial, ?_⟩ | (refine forkD (fun h => ?_) (fun h => ?_)) | (refine forkNe (fun h => ?_) (fun h => ?_)) | (refine forkEq (fun h => ?_) (fun h => ?_)) | refine forkNot ?_ | (refine ⟨vI64 (by omega), ?_⟩) | (refine And.intro (by omega) ?_) | apply And.intro | (exact iEq (by omega)) | (exact vI64 (by omega))
  · obtain rfl : x = ll.length := by omega
    repeat' first | exact plainBL _ _ | exact inL_b _ _ | exact plainIL _ _ | exact trivial | exact rfl | exact wk_refl _ | refine wkO_cells ?_ | refine wks_cons ?_ ?_ | exact wks_nil | exact wk_nil _ _ _ (.inl rfl) | (exact wk_Q (by omega)) | refine wk_tupL ?_ | refine wk_aggL ?_ | refine joinMax ?_ ?_ ?_ | refine joinMin ?_ ?_ ?_ | refine toMax ?_ | refine toMin ?_ | refine ⟨rfl, ?_⟩ | refine ⟨trivial, ?_⟩ | (refine forkD (fun h => ?_) (fun h => ?_)) | (refine forkNe (fun h => ?_) (fun h => ?_)) | (refine forkEq (fun h => ?_) (fun h => ?_)) | refine forkNot ?_ | (refine ⟨vI64 (by omega), ?_⟩) | (refine And.intro (by omega) ?_) | apply And.intro | (exact iEq (by omega)) | (exact vI64 (by omega))
end
end Go.Proofs.Ytkkgnalgmebfjaa
/- Drift: where a floe can have been: the two ways agree. No condition. -/
namespace Go.Proofs.Ytkkgnalgmebfjaa
set_option linter.unusedSimpArgs false
open Go Go.K
set_option linter.unusedVariables false
noncomputable section
theorem prT_len (w h : Int) (a : List Bool) (fl : List Flow) (S : List Int) (y : Nat) : (prT w h a fl S y).length = a.length := tabP_len _ _
theorem prT_0 (w h : Int) (a : List Bool) (fl : List Flow) (S : List Int) : (prT w h a fl S 0).flatMap boolC = krep [.bool false] a.length := by
  have : prT w h a fl S 0 = memL [] a.length := tabB_ext fun i hi => by
    rw [decide_eq_false (show ¬ i < 0 by omega), Bool.false_and, decide_eq_false (by simp)]
  rw [this, memL_nil]
theorem prT_set {w h : Int} {a : List Bool} {fl : List Flow} {S : List Int} {y : Nat} (hy : y < a.length) {b : Bool} (hb : b = orP w h a fl S y) : (prT w h a fl S y).set y b = prT w h a fl S (y + 1) := by
  unfold prT
  rw [tabB_set hy]
  refine tabB_ext fun i hi => ?_
  by_cases q : i = y
  · subst q
    rw [if_pos rfl, hb, decide_eq_true (show i < i + 1 by omega), Bool.true_and]
  · rw [if_neg q]
    have : decide (i < y) = decide (i < y + 1) := decide_eq_decide.2 ⟨fun _ => by omega, fun _ => by omega⟩
    rw [this]
theorem prT_all (w h : Int) (a : List Bool) (fl : List Flow) (S : List Int) : prT w h a fl S a.length = tabP (orP w h a fl S) a.length := tabB_ext fun i hi => by
  rw [decide_eq_true hi, Bool.true_and]
theorem orP_1 {w h : Int} {a : List Bool} {fl : List Flow} {S : List Int} {y : Nat} (hs : seaB a (y : Int) = true) : orP w h a fl S y = (tgts w h a (y : Int) (fl.getD y zeroF)).any fun t => decide (t ∈ S) := by
  unfold orP tgF
  rw [hs, Bool.true_and, Int.toNat_natCast]
theorem orP_0 {w h : Int} {a : List Bool} {fl : List Flow} {S : List Int} {y : Nat} (hs : seaB a (y : Int) = false) : orP w h a fl S y = false := by
  unfold orP
  rw [hs, Bool.false_and]
theorem orS_succ (w h : Int) (a : List Bool) (ll : List (List Flow)) (c : Int) (m : Nat) : orS w h a ll c (m + 1) = truesL (tabP (orP w h a (ll.getD (ll.length - 1 - m) []) (orS w h a ll c m)) a.length) := rfl
theorem orS_len (w h : Int) (a : List Bool) (ll : List (List Flow)) (c : Int) : ∀ i, (orS w h a ll c i).length ≤ 1 + a.length
  | 0 => by show 1 ≤ _; omega
  | i + 1 => by
    have := trues_len (tabP (orP w h a (ll.getD (ll.length - 1 - i) []) (orS w h a ll c i)) a.length)
    rw [tabP_len] at this
    rw [orS_succ]; omega
theorem orR_len (w h : Int) (a : List Bool) (ll : List (List Flow)) (c : Int) (n : Nat) : (orR w h a ll c n).length = n + 1 := tabP_len _ _
theorem orR_succ (w h : Int) (a : List Bool) (ll : List (List Flow)) (c : Int) (n : Nat) : orR w h a ll c (n + 1) = orR w h a ll c n ++ [orS w h a ll c (n + 1)] := tabP_succ _ _
theorem orR_get {w h : Int} {a : List Bool} {ll : List (List Flow)} {c : Int} {n k : Nat} (hk : k ≤ n) : (orR w h a ll c n).getD k [] = orS w h a ll c k := tabP_get (by omega)
theorem fOrigin_1 {w h : Int} {a : List Bool} {ll : List (List Flow)} {c : Int} (e : errFloe w h a ll 0 ll.length c = 0) : fOrigin w h a ll c = (orR w h a ll c ll.length, 0) := if_pos e
theorem fOrigin_0 {w h : Int} {a : List Bool} {ll : List (List Flow)} {c : Int} (e : ¬ errFloe w h a ll 0 ll.length c = 0) : fOrigin w h a ll c = ([], errFloe w h a ll 0 ll.length c) := if_neg e
/-! ## A list of some cells -/
/-! ## Back and forth -/
theorem targ_seaB {w h : Int} {a : List Bool} (b : BasOk w h a.length) {c : Int} (hs : seaB a c = true) (m : Move) : seaB a (targ w h a c m) = true := by
  have hbd := sea_bd hs
  have hn := b.n1
  have ht := targ_bd (a := a) (w := w) (h := h) (c := c) (by omega) m
  by_cases k : tgIn w h a c m
  · have e := targ_1 k
    rw [seaB_1 (by omega), e]
    have := k.2.2
    rw [this]; rfl
  · rw [targ_0 k]; exact hs
theorem tgts_sea {w h : Int} {a : List Bool} (b : BasOk w h a.length) {c : Int} {f : Flow} (hs : seaB a c = true) {t : Int} (ht : t ∈ tgts w h a c f) : seaB a t = true := by
  have h1 := ((tgts_mem b).1 ht).2
  unfold tgL at h1
  obtain ⟨m, _, rfl⟩ := List.mem_map.1 h1
  exact targ_seaB b hs m
theorem reS_front {w h : Int} {a : List Bool} (b : BasOk w h a.length) {ll : List (List Flow)} {o : Nat} {k z : Int} : ∀ i, z ∈ reS w h a ll o k (i + 1) ↔ ∃ t ∈ tgF w h a (ll.getD o []) k, z ∈ reS w h a ll (o + 1) t i := by
  intro i
  induction i generalizing z with
  | zero =>
    rw [reS_succ, mem_memL]
    show _ ∧ z ∈ List.flatMap _ [k] ↔ ∃ t ∈ _, z ∈ [t]
    rw [List.flatMap_cons, List.flatMap_nil, List.append_nil, Nat.add_zero]
    constructor
    · rintro ⟨h1, h2⟩; exact ⟨z, h2, List.mem_singleton.2 rfl⟩
    · rintro ⟨t, h1, h2⟩
      rw [List.mem_singleton.1 h2]
      exact ⟨tgts_bd b h1, h1⟩
  | succ i ih =>
    rw [reS_succ, mem_memL, List.mem_flatMap]
    constructor
    · rintro ⟨h1, s, h2, h3⟩
      obtain ⟨t, h4, h5⟩ := ih.1 h2
      refine ⟨t, h4, ?_⟩
      rw [reS_succ, mem_memL, List.mem_flatMap]
      exact ⟨h1, s, h5, by rw [show o + 1 + i = o + (i + 1) by omega]; exact h3⟩
    · rintro ⟨t, h4, h5⟩
      rw [reS_succ, mem_memL, List.mem_flatMap] at h5
      obtain ⟨h1, s, h6, h7⟩ := h5
      exact ⟨h1, s, ih.2 ⟨t, h4, h6⟩, by rw [show o + 1 + i = o + (i + 1) by omega] at h7; exact h7⟩
theorem back_iff {w h : Int} {a : List Bool} (b : BasOk w h a.length) {ll : List (List Flow)} {c : Int} : ∀ (m : Nat), m ≤ ll.length → ∀ k : Int, seaB a k = true → (c ∈ reS w h a ll (ll.length - m) k m ↔ k ∈ orS w h a ll c m)
  | 0, _, k, _ => by
    show c ∈ [k] ↔ k ∈ [c]
    rw [List.mem_singleton, List.mem_singleton]
    exact eq_comm
  | m + 1, hm, k, hk => by
    have hkb := sea_bd hk
    rw [reS_front b, orS_succ, mem_trues, tabP_len]
    rw [show ll.length - (m + 1) + 1 = ll.length - m by omega, show ll.length - (m + 1) = ll.length - 1 - m by omega]
    have e : ∀ t, t ∈ tgF w h a (ll.getD (ll.length - 1 - m) []) k → (c ∈ reS w h a ll (ll.length - m) t m ↔ t ∈ orS w h a ll c m) := fun t ht => back_iff b m (by omega) t (tgts_sea b hk ht)
    constructor
    · rintro ⟨t, h1, h2⟩
      refine ⟨Int.toNat k, by omega, ?_, by omega⟩
      rw [tab_getD _ _ _ (by omega)]
      unfold orP
      rw [Int.toNat_of_nonneg hkb.1, hk, Bool.true_and, List.any_eq_true]
      exact ⟨t, h1, decide_eq_true ((e t h1).1 h2)⟩
    · rintro ⟨i, h1, h2, rfl⟩
      rw [tab_getD _ _ _ h1] at h2
      unfold orP at h2
      rw [hk, Bool.true_and, List.any_eq_true] at h2
      obtain ⟨t, h3, h4⟩ := h2
      exact ⟨t, h3, (e t h3).2 (of_decide_eq_true h4)⟩
end
end Go.Proofs.Ytkkgnalgmebfjaa
/- Drift: Origin. No condition. -/
namespace Go.Proofs.Ytkkgnalgmebfjaa
open Go Go.K
set_option maxRecDepth 100000
set_option linter.unusedVariables false
set_option linter.unusedSimpArgs false
noncomputable section
attribute [local irreducible] vF
theorem one_in (n : Nat) (S : List Int) : belowO n (.cells true 0 [inV S]) = true := by
  show (belowC n (inV S) && true) = true
  rw [inV_b]; rfl
set_option maxHeartbeats 2000000 in
theorem kOrigin {w h : Int} {a : List Bool} (ll : List (List Flow)) (c : Int) (hl : ll.length ≤ 4294967296) (hs : shortF ll) {H : Heap} {L : Nat} (hL : H.length = L) {id id2 : Nat} {own own2 : Bool} {z z2 : Nat} (hid : H[id]? = some (.cells own z (a.flatMap boolC))) (hid2 : H[id2]? = some (.cells own2 z2 (flL ll))) :
    KCall prog F.drift_Origin [basV w h id a.length, .slice (some ⟨id2, 0, some 2⟩) ll.length ll.length, .int .i64 c] H [] (Is (rchV L (fOrigin w h a ll c)) (H ++ [.cells true 1 (inL (fOrigin w h a ll c).1)])) := by
  subst hL
  refine valQ2 (fun i => rchV i (fOrigin w h a ll c)) (Eq.mpr (EOrigin w h a ll c) ?_) (plainBL 0 a) (flL_b 0 ll) (fun n => inL_b n _) rfl rfl (fun _ => rfl) hid hid2 rfl
  unfold ROrigin
  refine ⟨⟨rfl, rfl, trivial⟩, fun H' _ hd => kfloe ll c hl hs hd.1 hd.2.1, forkNe (fun h0 => ?_) (fun h0 => ?_)⟩
  · rw [fOrigin_0 h0]
    repeat' first | exact trivial | exact rfl | exact wk_refl _ | refine wkO_cells ?_ | refine wks_cons ?_ ?_ | exact wks_nil | exact wk_nil _ _ _ (.inl rfl) | (exact wk_Q (by omega)) | refine wk_tupL ?_ | refine wk_aggL ?_ | refine joinMax ?_ ?_ ?_ | refine joinMin ?_ ?_ ?_ | refine toMax ?_ | refine toMin ?_ | refine ⟨rfl, ?_⟩ | refine ⟨trivial, ?_⟩ | (refine forkD (fun h => ?_) (fun h => ?_)) | (refine forkNe (fun h => ?_) (fun h => ?_)) | (refine forkEq (fun h => ?_) (fun h => ?_)) | refine forkNot ?_ | (refine ⟨vI64 (by omega), ?_⟩) | (refine And.intro (by omega) ?_) | apply And.intro | (exact iEq (by omega)) | (exact vI64 (by omega))
  rw [fOrigin_1 h0]
  have ok := floeOk h0
  have hb := ok.b
  have hn := ok.n1
  have hc := ok.bd
  have hbn := hb.n1
  have h48 := ok.n48
  refine ⟨vI64 (by omega), rfl, Nat.zero_le _, ?_, fun _ => rfl, ?_⟩
  · repeat' first | (exact wk_QF (orR_len ..) (by omega)) | exact plainBL _ _ | exact inL_b _ _ | exact plainIL _ _ | exact one_in _ _ | exact trivial | exact rfl | exact wk_refl _ | refine wkO_cells ?_ | refine wks_cons ?_ ?_ | exact wks_nil | exact wk_nil _ _ _ (.inl rfl) | (exact wk_Q (by omega)) | refine wk_tupL ?_ | refine wk_aggL ?_ | refine joinMax ?_ ?_ ?_ | refine joinMin ?_ ?_ ?_ | refine toMax ?_ | refine toMin ?_ | refine ⟨rfl, ?_⟩ | refine ⟨trivial, ?_⟩ | (refine forkD (fun h => ?_) (fun h => ?_)) | (refine forkNe (fun h => ?_) (fun h => ?_)) | (refine forkEq (fun h => ?_) (fun h => ?_)) | refine forkNot ?_ | (refine ⟨vI64 (by omega), ?_⟩) | (refine And.intro (by omega) ?_) | apply And.intro | (exact iEq (by omega)) | (exact vI64 (by omega))
  intro x hx
  have hrl := orR_len w h a ll c x
  refine forkD (fun k => ?_) (fun k => ?_)
  · have hlt : x < ll.length := by omega
    have hx0 : Int.toNat (((ll.length : Nat) : Int) - 1 - ((x : Nat) : Int)) = ll.length - 1 - x := by omega
    rw [hx0]
    have hlo : ll.length - 1 - x < ll.length := by omega
    obtain ⟨hfl, hff⟩ := ok.fl _ hlo
    rw [Nat.zero_add] at hfl hff
    have hsl := orS_len w h a ll c x
    refine ⟨vI64 (by omega), by omega, ?_, by omega, ?_⟩
    · have hg : (orR w h a ll c x).getD x [] = orS w h a ll c x := orR_get (Nat.le_refl _)
      have := inL_at (ll := orR w h a ll c x) (k := x) (by omega) (off := 0 + Int.toNat ((((orR w h a ll c x).length : Nat) : Int) - 1) * 1) (by omega)
      rw [hg] at this; exact this
    have hsucc := orS_succ w h a ll c x
    have hpa := prT_all w h a (ll.getD (ll.length - 1 - x) []) (orS w h a ll c x)
    rw [← hpa] at hsucc
    generalize hS : orS w h a ll c x = S at *
    refine ⟨rfl, Nat.zero_le _, ?_, fun _ => rfl, ?_⟩
    · rw [← prT_0 w h a (ll.getD (ll.length - 1 - x) []) S]
      repeat' first | exact (flV_rn _ 0 _).symm | exact (inV_rn _ 0 _).symm | exact plainBL _ _ | exact inL_b _ _ | exact plainIL _ _ | exact one_in _ _ | exact trivial | exact rfl | exact wk_refl _ | refine wkO_cells ?_ | refine wks_cons ?_ ?_ | exact wks_nil | exact wk_nil _ _ _ (.inl rfl) | (exact wk_Q (by omega)) | refine wk_tupL ?_ | refine wk_aggL ?_ | refine joinMax ?_ ?_ ?_ | refine joinMin ?_ ?_ ?_ | refine toMax ?_ | refine toMin ?_ | refine ⟨rfl, ?_⟩ | refine ⟨trivial, ?_⟩ | (refine forkD (fun h => ?_) (fun h => ?_)) | (refine forkNe (fun h => ?_) (fun h => ?_)) | (refine forkEq (fun h => ?_) (fun h => ?_)) | refine forkNot ?_ | (refine ⟨vI64 (by omega), ?_⟩) | (refine And.intro (by omega) ?_) | apply And.intro | (exact iEq (by omega)) | (exact vI64 (by omega))
    intro y hy
    have hpl := prT_len w h a (ll.getD (ll.length - 1 - x) []) S y
    refine forkD (fun k2 => ?_) (fun k2 => ?_)
    · have hly : y < a.length := by omega
      have hfr := hff _ (getD_mem (d := zeroF) (show y < _ by omega))
      refine ⟨⟨rfl, trivial⟩, fun H' _ hd => kis hb hd.1, forkB (fun hsea => ?_) (fun hsea => ?_)⟩
      · have hP := orP_1 (w := w) (h := h) (fl := ll.getD (ll.length - 1 - x) []) (S := S) hsea
        have htl : (tgts w h a (y : Int) ((ll.getD (ll.length - 1 - x) []).getD y zeroF)).length ≤ 4096 := by
          have h1 := trues_len (goesL w h a (y : Int) ((ll.getD (ll.length - 1 - x) []).getD y zeroF))
          rw [goesL_len] at h1
          unfold tgts; omega
        refine ⟨by omega, flL_at hlo (by omega), by omega, partF (by omega) (by omega), ⟨rfl, trivial⟩, fun H' hl' hd => kTGs hb (by omega) hfr hl' hd.1, ⟨rfl, rfl, trivial⟩, fun H' hl' hd => kContainsFunc _ _ S (by omega) (by omega) hd.1 hd.2.1, by omega, by rw [flat_len boolC_len]; omega, rfl, vI64 (by omega), y + 1, by omega, by omega, rfl, ?_⟩
        rw [← prT_set hly hP.symm, show 0 + Int.toNat ((y : Nat) : Int) * 1 = y * 1 by omega, flat_set boolC_len _ _ (by omega) _]
        repeat' first | exact (flV_rn _ 0 _).symm | exact (inV_rn _ 0 _).symm | exact plainBL _ _ | exact inL_b _ _ | exact plainIL _ _ | exact one_in _ _ | exact trivial | exact rfl | exact wk_refl _ | refine wkO_cells ?_ | refine wks_cons ?_ ?_ | exact wks_nil | exact wk_nil _ _ _ (.inl rfl) | (exact wk_Q (by omega)) | refine wk_tupL ?_ | refine wk_aggL ?_ | refine joinMax ?_ ?_ ?_ | refine joinMin ?_ ?_ ?_ | refine toMax ?_ | refine toMin ?_ | refine ⟨rfl, ?_⟩ | refine ⟨trivial, ?_⟩ | (refine forkD (fun h => ?_) (fun h => ?_)) | (refine forkNe (fun h => ?_) (fun h => ?_)) | (refine forkEq (fun h => ?_) (fun h => ?_)) | refine forkNot ?_ | (refine ⟨vI64 (by omega), ?_⟩) | (refine And.intro (by omega) ?_) | apply And.intro | (exact iEq (by omega)) | (exact vI64 (by omega))
      · have hP := orP_0 (w := w) (h := h) (fl := ll.getD (ll.length - 1 - x) []) (S := S) hsea
        refine ⟨by omega, by rw [flat_len boolC_len]; omega, rfl, vI64 (by omega), y + 1, by omega, by omega, rfl, ?_⟩
        rw [← prT_set hly hP.symm, show 0 + Int.toNat ((y : Nat) : Int) * 1 = y * 1 by omega, flat_set boolC_len _ _ (by omega) _]
        repeat' first | exact (flV_rn _ 0 _).symm | exact (inV_rn _ 0 _).symm | exact plainBL _ _ | exact inL_b _ _ | exact plainIL _ _ | exact one_in _ _ | exact trivial | exact rfl | exact wk_refl _ | refine wkO_cells ?_ | refine wks_cons ?_ ?_ | exact wks_nil | exact wk_nil _ _ _ (.inl rfl) | (exact wk_Q (by omega)) | refine wk_tupL ?_ | refine wk_aggL ?_ | refine joinMax ?_ ?_ ?_ | refine joinMin ?_ ?_ ?_ | refine toMax ?_ | refine toMin ?_ | refine ⟨rfl, ?_⟩ | refine ⟨trivial, ?_⟩ | (refine forkD (fun h => ?_) (fun h => ?_)) | (refine forkNe (fun h => ?_) (fun h => ?_)) | (refine forkEq (fun h => ?_) (fun h => ?_)) | refine forkNot ?_ | (refine ⟨vI64 (by omega), ?_⟩) | (refine And.intro (by omega) ?_) | apply And.intro | (exact iEq (by omega)) | (exact vI64 (by omega))
    · obtain rfl : y = a.length := by omega
      rw [← hsucc]
      refine ⟨⟨rfl, trivial⟩, fun H' hl' hd => ?_, ⟨by omega, by decide, ⟨Nat.le_refl _, by rw [inL_len]; omega⟩, ⟨Nat.le_refl _, Nat.le_refl _⟩, rfl⟩, rfl, vI64 (by omega), x + 1, by omega, by omega, rfl, ?_⟩
      · have := knumbers (prT w h a (ll.getD (ll.length - 1 - x) []) S a.length) (by omega) hl' hd.1
        rw [← hsucc] at this
        exact this.wkA ⟨wk_RF hpl, trivial⟩
      have hY := orR_succ w h a ll c x
      repeat' first | (exact wk_QF (by rw [orR_len, orR_len]) (by omega)) | exact ob_in hY rfl | exact plainBL _ _ | exact inL_b _ _ | exact plainIL _ _ | exact one_in _ _ | exact trivial | exact rfl | exact wk_refl _ | refine wkO_cells ?_ | refine wks_cons ?_ ?_ | exact wks_nil | exact wk_nil _ _ _ (.inl rfl) | (exact wk_Q (by omega)) | refine wk_tupL ?_ | refine wk_aggL ?_ | refine joinMax ?_ ?_ ?_ | refine joinMin ?_ ?_ ?_ | refine toMax ?_ | refine toMin ?_ | refine ⟨rfl, ?_⟩ | refine ⟨trivial, ?_⟩ | (refine forkD (fun h => ?_) (fun h => ?_)) | (refine forkNe (fun h => ?_) (fun h => ?_)) | (refine forkEq (fun h => ?_) (fun h => ?_)) | refine forkNot ?_ | (refine ⟨vI64 (by omega), ?_⟩) | (refine And.intro (by omega) ?_) | apply And.intro | (exact iEq (by omega)) | (exact vI64 (by omega))
  · obtain rfl : x = ll.length := by omega
    repeat' first | exact plainBL _ _ | exact inL_b _ _ | exact plainIL _ _ | exact one_in _ _ | exact trivial | exact rfl | exact wk_refl _ | refine wkO_cells ?_ | refine wks_cons ?_ ?_ | exact wks_nil | exact wk_nil _ _ _ (.inl rfl) | (exact wk_Q (by omega)) | refine wk_tupL ?_ | refine wk_aggL ?_ | refine joinMax ?_ ?_ ?_ | refine joinMin ?_ ?_ ?_ | refine toMax ?_ | refine toMin ?_ | refine ⟨rfl, ?_⟩ | refine ⟨trivial, ?_⟩ | (refine forkD (fun h => ?_) (fun h => ?_)) | (refine forkNe (fun h => ?_) (fun h => ?_)) | (refine forkEq (fun h => ?_) (fun h => ?_)) | refine forkNot ?_ | (refine ⟨vI64 (by omega), ?_⟩) | (refine And.intro (by omega) ?_) | apply And.intro | (exact iEq (by omega)) | (exact vI64 (by omega))
end
end Go.Proofs.Ytkkgnalgmebfjaa
/- DriftFloats: facts of what its numbers make. No condition. -/
namespace Go.Proofs.Ytkkgnalgmebfjaa
set_option linter.unusedSimpArgs false
open Go Go.K
set_option linter.unusedVariables false
noncomputable section
theorem fS_ok (L : List Int) : ∀ x, (fS L x).1.length = x ∧ (0 ≤ (fS L x).2 ∧ (fS L x).2 ≤ 1000 + 200 * (x : Int)) ∧ ∀ k, k < x → ((fS L x).1.getD k []).length = (kA L).length ∧ ∀ f ∈ (fS L x).1.getD k [], rightF f
  | 0 => ⟨rfl, by show 0 ≤ k1 L ∧ k1 L ≤ _; have := (k_bd L).1.1; omega, fun k hk => by omega⟩
  | x + 1 => by
    obtain ⟨i1, i2, i3⟩ := fS_ok L x
    obtain ⟨c1, c2, c3⟩ := curL_ok L (fS L x).2 ((fS L x).2 + 1 + 1) (kA L).length
    have c4 : (curs L (fS L x).2 (kA L).length).2 = (fS L x).2 + 1 + 1 + 6 * ((kA L).length : Int) := c2
    have hk := (k_bd L).2.2
    refine ⟨by show (_ ++ [_]).length = _; rw [List.length_append, i1]; rfl, ?_, fun k hk => ?_⟩
    · show 0 ≤ (curs L (fS L x).2 (kA L).length).2 ∧ (curs L (fS L x).2 (kA L).length).2 ≤ _
      rw [c4]; omega
    show ((_ ++ [_] : List (List Flow)).getD k []).length = _ ∧ ∀ f ∈ (_ ++ [_] : List (List Flow)).getD k [], rightF f
    rw [List.getD_eq_getElem?_getD]
    by_cases q : k < x
    · rw [List.getElem?_append_left (by omega), ← List.getD_eq_getElem?_getD]
      exact i3 k q
    · obtain rfl : k = x := by omega
      rw [List.getElem?_append_right (by omega), i1, Nat.sub_self]
      exact ⟨c1, c3⟩
theorem watL_head (L : List Int) (n : Int) : ∀ x, (watL L n (x + 1)).1.getD 0 false = false
  | 0 => by rw [watL_2]; rfl
  | x + 1 => by
    rw [watL_1 (by omega), List.getD_eq_getElem?_getD, List.getElem?_append_left (by rw [(watL_ok L n (x + 1)).1]; omega), ← List.getD_eq_getElem?_getD]
    exact watL_head L n x
theorem kA_head (L : List Int) : (kA L).getD 0 false = false := by
  have h := wat_prod L 0
  have e : (kA L) = (watL L (0 + 1 + 1) ((Int.toNat (watW L 0 * watH L 0) - 1) + 1)).1 := by
    show (watL L (0 + 1 + 1) (Int.toNat (watW L 0 * watH L 0))).1 = _
    congr 2; omega
  rw [e]
  exact watL_head L _ _
theorem kA_pos (L : List Int) : 4 ≤ (kA L).length := by
  have h := wat_prod L 0
  have h2 := watA_len L 0
  show 4 ≤ (watA L 0).length
  omega
/-- A sea cell, whatever is drawn. -/
theorem beg_sea (L : List Int) {d b : Int} (hd : 0 ≤ d ∧ d < ((kA L).length : Int)) (hb : ((kA L).getD (Int.toNat d) false = true ∧ b = 0 ∧ True) ∨ ((kA L).getD (Int.toNat d) false = false ∧ b = d ∧ True)) : seaB (kA L) b = true := by
  have hp := kA_pos L
  rcases hb with ⟨_, rfl, _⟩ | ⟨h, rfl, _⟩
  · rw [seaB_1 (by omega)]
    show (!(kA L).getD 0 false) = true
    rw [kA_head]; rfl
  · rw [seaB_1 hd, h]; rfl
theorem flOk (L : List Int) {n : Nat} (hn : n ≤ 5) {b : Int} (hb : seaB (kA L) b = true) : FloeOk (kW L) (kH L) (kA L) (fS L n).1 0 n b :=
  ⟨kB_ok L, by omega, fun i hi => by rw [Nat.zero_add]; exact (fS_ok L n).2.2 i hi, hb⟩
theorem comp_some : ∀ {l : List Int}, l ≠ [] → comp l ≠ []
  | [], h => absurd rfl h
  | [x], _ => by simp [comp]
  | x :: y :: r, _ => by
    unfold comp
    split
    · exact comp_some (by simp)
    · simp
theorem tgts_pos {w h : Int} {a : List Bool} (b : BasOk w h a.length) {c : Int} (hc : 0 ≤ c ∧ c < (a.length : Int)) {f : Flow} (hf : rightF f) : 0 < (tgts w h a c f).length := by
  have hn := b.n1
  rw [← tgts_comp b (by omega)]
  have h1 := (movesF_bd hf).1
  have h2 : srtI (tgL w h a c f) ≠ [] := fun e => by
    have e1 := srt_len (tgL w h a c f)
    rw [e, tgL_len] at e1
    have : ([] : List Int).length = 0 := rfl
    omega
  exact List.length_pos_iff.2 (comp_some h2)
structure AtOk (L : List Int) (n : Nat) (b : Int) (x : Nat) (c : Int) : Prop where
  sea : seaB (kA L) c = true
  mem : c ∈ reS (kW L) (kH L) (kA L) (fS L n).1 0 b x
theorem at_row (L : List Int) {n x : Nat} (hx : x < n) {c : Int} (hs : seaB (kA L) c = true) : 0 < (tgF (kW L) (kH L) (kA L) ((fS L n).1.getD x []) c).length ∧ rightF (((fS L n).1.getD x []).getD (Int.toNat c) zeroF) := by
  obtain ⟨h1, h2⟩ := (fS_ok L n).2.2 x hx
  have hb := sea_bd hs
  have hf := h2 _ (getD_mem (d := zeroF) (show Int.toNat c < _ by omega))
  exact ⟨tgts_pos (kB_ok L) hb hf, hf⟩
theorem at_mem (L : List Int) {n x : Nat} (hx : x < n) {p b : Int} (hs : seaB (kA L) (atS L (fS L n).1 p b x) = true) : atS L (fS L n).1 p b (x + 1) ∈ tgF (kW L) (kH L) (kA L) ((fS L n).1.getD x []) (atS L (fS L n).1 p b x) := by
  have h := (at_row L hx hs).1
  refine getD_mem ?_
  have := dN_bd L (posN p x) (m := ((tgF (kW L) (kH L) (kA L) ((fS L n).1.getD x []) (atS L (fS L n).1 p b x)).length : Nat)) (by omega)
  omega
theorem at_ok (L : List Int) {n : Nat} {p b : Int} (hb : seaB (kA L) b = true) : ∀ {x : Nat}, x ≤ n → AtOk L n b x (atS L (fS L n).1 p b x)
  | 0, _ => ⟨hb, List.mem_singleton.2 rfl⟩
  | x + 1, hx => by
    obtain ⟨h1, h2⟩ := at_ok L (n := n) (p := p) hb (x := x) (by omega)
    have hm := at_mem L (p := p) (b := b) (show x < n by omega) h1
    refine ⟨tgts_sea (kB_ok L) h1 hm, ?_⟩
    rw [reS_succ, mem_memL, List.mem_flatMap]
    exact ⟨tgts_bd (kB_ok L) hm, _, h2, by rw [Nat.zero_add]; exact hm⟩
theorem at_back (L : List Int) {n : Nat} {p b : Int} (hb : seaB (kA L) b = true) : ∀ {x : Nat}, x ≤ n → atS L (fS L n).1 p b (n - x) ∈ orS (kW L) (kH L) (kA L) (fS L n).1 (atS L (fS L n).1 p b n) x
  | 0, _ => List.mem_singleton.2 rfl
  | x + 1, hx => by
    have ih := at_back L (n := n) (p := p) hb (x := x) (by omega)
    have ho := (at_ok L (p := p) hb (n := n) (x := n - (x + 1)) (by omega)).sea
    have hm := at_mem L (p := p) (b := b) (show n - (x + 1) < n by omega) ho
    rw [show n - (x + 1) + 1 = n - x by omega] at hm
    have hbd := sea_bd ho
    rw [orS_succ, mem_trues, tabP_len]
    refine ⟨Int.toNat (atS L (fS L n).1 p b (n - (x + 1))), by omega, ?_, by omega⟩
    rw [tab_getD _ _ _ (by omega)]
    unfold orP
    rw [Int.toNat_of_nonneg hbd.1, ho, Bool.true_and, List.any_eq_true, (fS_ok L n).1]
    rw [show n - 1 - x = n - (x + 1) by omega]
    exact ⟨_, hm, decide_eq_true ih⟩
theorem way_len (L : List Int) (ll : List (List Flow)) (p b : Int) (x : Nat) : (wayL L ll p b x).length = x + 1 := tabP_len _ _
theorem way_succ (L : List Int) (ll : List (List Flow)) (p b : Int) (x : Nat) : wayL L ll p b (x + 1) = wayL L ll p b x ++ [atS L ll p b (x + 1)] := tabP_succ _ _
theorem way_get {L : List Int} {ll : List (List Flow)} {p b : Int} {x k : Nat} (hk : k ≤ x) : (wayL L ll p b x).getD k 0 = atS L ll p b k := tabP_get (by omega)
theorem posN_eq (p : Int) : ∀ x, posN p x = p + (x : Int)
  | 0 => by show p = p + 0; omega
  | x + 1 => by show posN p x + 1 = _; rw [posN_eq p x]; omega
end
end Go.Proofs.Ytkkgnalgmebfjaa
/- DriftFloats returns true. No condition. -/
namespace Go.Proofs.Ytkkgnalgmebfjaa
open Go Go.K
set_option maxRecDepth 100000
set_option linter.unusedVariables false
set_option linter.unusedSimpArgs false
noncomputable section
attribute [local irreducible] vF
theorem kTargetsV (w h : Int) (a : List Bool) (l : List Flow) (c : Int) (hl : l.length ≤ 4294967296) {H : Heap} {L : Nat} (hL : H.length = L) {id : Nat} {own : Bool} {z : Nat} (hid : H[id]? = some (.cells own z (a.flatMap boolC))) :
    KCall prog F.drift_Targets [basV w h id a.length, flV l, .int .i64 c] H [] (Is (tgV 2 L (fTargets w h a l c)) (H ++ [.cells true 1 ((tgPad w h a l c).flatMap intC)])) := by
  subst hL
  refine valQ (fun i => tgV 2 i (fTargets w h a l c)) (Eq.mpr (ETargetsV w h a l c) ?_) (plainBL 0 a) (fun n => plainIL n _) rfl rfl (fun _ => rfl) hid (congrArg (fun q => [basV w h id a.length, q, .int .i64 c]) (flV_rn _ 0 l))
  unfold RTargetsV
  refine ⟨⟨rfl, trivial⟩, fun H' _ hd => kCheckFlowsV w h a l hl hd.1, forkNe (fun h0 => ?_) (fun h0 => ⟨⟨rfl, trivial⟩, fun H' _ hd => kis (basOk (errFlows_0 h0).1) hd.1, fun s => ?_, fun s => ?_⟩)⟩
  · rw [(fT_e h0).1]
    repeat' first | exact wk_nil _ _ _ (.inr rfl) | exact trivial | exact rfl | exact wk_refl _ | refine wkO_cells ?_ | refine wks_cons ?_ ?_ | exact wks_nil | exact wk_nil _ _ _ (.inl rfl) | (exact wk_Q (by omega)) | refine wk_tupL ?_ | refine wk_aggL ?_ | refine joinMax ?_ ?_ ?_ | refine joinMin ?_ ?_ ?_ | refine toMax ?_ | refine toMin ?_ | refine ⟨rfl, ?_⟩ | refine ⟨trivial, ?_⟩ | (refine forkD (fun h => ?_) (fun h => ?_)) | (refine forkNe (fun h => ?_) (fun h => ?_)) | (refine forkEq (fun h => ?_) (fun h => ?_)) | refine forkNot ?_ | (refine ⟨vI64 (by omega), ?_⟩) | (refine And.intro (by omega) ?_) | apply And.intro | (exact iEq (by omega)) | (exact vI64 (by omega))
  · rw [(fT_1 h0 (notB s)).1]
    repeat' first | exact wk_nil _ _ _ (.inr rfl) | exact trivial | exact rfl | exact wk_refl _ | refine wkO_cells ?_ | refine wks_cons ?_ ?_ | exact wks_nil | exact wk_nil _ _ _ (.inl rfl) | (exact wk_Q (by omega)) | refine wk_tupL ?_ | refine wk_aggL ?_ | refine joinMax ?_ ?_ ?_ | refine joinMin ?_ ?_ ?_ | refine toMax ?_ | refine toMin ?_ | refine ⟨rfl, ?_⟩ | refine ⟨trivial, ?_⟩ | (refine forkD (fun h => ?_) (fun h => ?_)) | (refine forkNe (fun h => ?_) (fun h => ?_)) | (refine forkEq (fun h => ?_) (fun h => ?_)) | refine forkNot ?_ | (refine ⟨vI64 (by omega), ?_⟩) | (refine And.intro (by omega) ?_) | apply And.intro | (exact iEq (by omega)) | (exact vI64 (by omega))
  · have s1 := notB2 s
    have hc := seaB_t s1
    obtain ⟨e1, e2, e3⟩ := errFlows_0 h0
    have b := basOk e1
    have hc2 : 0 ≤ c ∧ c < w * h := by have := b.n1; omega
    have hr := errF_all e3 _ (getD_mem (d := zeroF) (l := l) (x := Int.toNat c) (by omega))
    refine ⟨by omega, partF (by omega) (by omega), ⟨rfl, trivial⟩, fun H' hl hd => kTGs b hc2 hr hl hd.1, ?_⟩
    rw [(fT_0 h0 s1).1, (fT_0 h0 s1).2]
    repeat' first | exact plainIL _ _ | exact trivial | exact rfl | exact wk_refl _ | refine wkO_cells ?_ | refine wks_cons ?_ ?_ | exact wks_nil | exact wk_nil _ _ _ (.inl rfl) | (exact wk_Q (by omega)) | refine wk_tupL ?_ | refine wk_aggL ?_ | refine joinMax ?_ ?_ ?_ | refine joinMin ?_ ?_ ?_ | refine toMax ?_ | refine toMin ?_ | refine ⟨rfl, ?_⟩ | refine ⟨trivial, ?_⟩ | (refine forkD (fun h => ?_) (fun h => ?_)) | (refine forkNe (fun h => ?_) (fun h => ?_)) | (refine forkEq (fun h => ?_) (fun h => ?_)) | refine forkNot ?_ | (refine ⟨vI64 (by omega), ?_⟩) | (refine And.intro (by omega) ?_) | apply And.intro | (exact iEq (by omega)) | (exact vI64 (by omega))
theorem kfhas (S : List Int) (hS : S.length ≤ 4294967296) (t : Int) (H : Heap) : KCall prog 39 [inV S, .int .i64 t] H [] (Is (.bool (decide (t ∈ S))) H) := by
  refine valK 40 (fun σ => by have := inV_rn σ 2 S; show [rn σ (2 + 3) (inV S), Value.int .i64 t] = _; rw [this]; rfl) rfl (Eq.mpr (Efhas _ S t) ?_) H
  unfold Rfhas
  refine ⟨rfl, ⟨Nat.zero_le _, fun h => by cases h⟩, ?_, fun _ => rfl, ?_⟩
  · repeat' first | exact (flV_rn _ 0 _).symm | exact (inV_rn _ 0 _).symm | exact trivial | exact rfl | exact wk_refl _ | refine wkO_cells ?_ | refine wks_cons ?_ ?_ | exact wks_nil | exact wk_nil _ _ _ (.inl rfl) | (exact wk_Q (by omega)) | refine wk_tupL ?_ | refine wk_aggL ?_ | refine joinMax ?_ ?_ ?_ | refine joinMin ?_ ?_ ?_ | refine toMax ?_ | refine toMin ?_ | refine ⟨rfl, ?_⟩ | refine ⟨trivial, ?_⟩ | (refine forkD (fun h => ?_) (fun h => ?_)) | (refine forkNe (fun h => ?_) (fun h => ?_)) | (refine forkEq (fun h => ?_) (fun h => ?_)) | refine forkNot ?_ | (refine ⟨vI64 (by omega), ?_⟩) | (refine And.intro (by omega) ?_) | apply And.intro | (exact iEq (by omega)) | (exact vI64 (by omega))
  rintro x ⟨hx, hn⟩
  refine forkD (fun h => ?_) (fun h => ?_)
  · have hlt : x < S.length := by omega
    refine ⟨by omega, intAt hlt (by omega), forkEq (fun q => ?_) (fun q => ⟨vI64 (by omega), x + 1, ⟨by omega, ?_⟩, by omega, rfl, ?_⟩)⟩
    · have hm : t ∈ S := by rw [← q]; exact getD_mem hlt
      rw [decide_eq_true hm]
    · rw [take_snoc (d := 0) hlt]
      intro hm
      rcases List.mem_append.1 hm with hm | hm
      · exact hn hm
      · exact q (List.mem_singleton.1 hm).symm
    · repeat' first | exact (flV_rn _ 0 _).symm | exact (inV_rn _ 0 _).symm | exact trivial | exact rfl | exact wk_refl _ | refine wkO_cells ?_ | refine wks_cons ?_ ?_ | exact wks_nil | exact wk_nil _ _ _ (.inl rfl) | (exact wk_Q (by omega)) | refine wk_tupL ?_ | refine wk_aggL ?_ | refine joinMax ?_ ?_ ?_ | refine joinMin ?_ ?_ ?_ | refine toMax ?_ | refine toMin ?_ | refine ⟨rfl, ?_⟩ | refine ⟨trivial, ?_⟩ | (refine forkD (fun h => ?_) (fun h => ?_)) | (refine forkNe (fun h => ?_) (fun h => ?_)) | (refine forkEq (fun h => ?_) (fun h => ?_)) | refine forkNot ?_ | (refine ⟨vI64 (by omega), ?_⟩) | (refine And.intro (by omega) ?_) | apply And.intro | (exact iEq (by omega)) | (exact vI64 (by omega))
  · obtain rfl : x = S.length := by omega
    rw [List.take_length] at hn
    rw [decide_eq_false hn]
theorem ob_fl {X Y : List (List Flow)} {S : List Flow} {v : Value} (hY : Y = X ++ [S]) (hv : v = flV S) : (some (KObj.cells true 1 (List.take (X.length * 1) (List.drop 0 (flL X)) ++ List.take (1 * 1) (List.drop 0 [v]))) : Option KObj) = some (.cells true 1 (flL Y)) := by
  subst hv hY
  have e1 : flL (X ++ [S]) = flL X ++ [flV S] := List.map_append ..
  have e2 : List.take (X.length * 1) (List.drop 0 (flL X)) = flL X := by rw [List.drop_zero, List.take_of_length_le (by rw [flL_len]; omega)]
  rw [e1, e2]; rfl
theorem inL_atV {X : List (List Int)} {k : Nat} {S : List Int} (h : k < X.length) (hg : X.getD k [] = S) {off : Nat} (ho : off = k) : (inL X)[off]? = some (inV S) := by
  rw [← hg]; exact inL_at h ho
theorem intAtV {X : List Int} {k : Nat} {v : Int} (h : k < X.length) (hg : X.getD k 0 = v) {off : Nat} (ho : off = k) : (X.flatMap intC)[off]? = some (.int .i64 v) := by
  rw [← hg]; exact intAt h ho
set_option maxHeartbeats 4000000 in
theorem kFloatsLaw (L : List Int) (hours : Int) (H : Heap) : KCall prog F.polynyalaw02_DriftFloats [.iface (L.length + 1) (.agg ⟨L.flatMap intC⟩), .int .i64 hours] H [] (Is (.bool true) H) := by
  refine valK 40 (fun σ => ?_) rfl (Eq.mpr (EFloatsLaw (.bool true) L hours) ?_) H
  · have := inV_rn σ 2 L; show [rn σ (2 + 3) (inV L), Value.int .i64 hours] = _; rw [this]; rfl
  unfold RFloatsLaw
  obtain ⟨n, hn⟩ : ∃ n : Nat, hours % 6 = (n : Int) := ⟨Int.toNat (hours % 6), by omega⟩
  have hn5 : n ≤ 5 := by omega
  have hpk : ∀ H', KCall prog F.polynyakit_Pick [.int .i64 hours, .int .i64 6] H' [] (Is (.int .i64 (n : Int)) H') := fun H' => by
    have := kPick hours 6 (by decide) (by decide) H'
    rw [hn] at this; exact this
  rw [hn, show Int.toNat ((n : Nat) : Int) = n from rfl]
  clear hn
  obtain ⟨⟨b1, b2⟩, b3, b4⟩ := k_bd L
  have hb := kB_ok L
  have hkp := kA_pos L
  have hbn := hb.n1
  refine ⟨⟨rfl, trivial⟩, fun H' hl hd => kWaters L 0 (by omega) hl hd.1, trivial, fun H' _ _ => hpk H', rfl, by omega, ?_, fun _ => rfl, ?_⟩
  · repeat' first | exact plainBL _ _ | exact inL_b _ _ | exact flL_b _ _ | exact plainIL _ _ | exact digO _ _ _ | exact trivial | exact rfl | exact wk_refl _ | refine wkO_cells ?_ | refine wks_cons ?_ ?_ | exact wks_nil | exact wk_nil _ _ _ (.inl rfl) | (exact wk_Q (by omega)) | refine wk_tupL ?_ | refine wk_aggL ?_ | refine joinMax ?_ ?_ ?_ | refine joinMin ?_ ?_ ?_ | refine toMax ?_ | refine toMin ?_ | refine ⟨rfl, ?_⟩ | refine ⟨trivial, ?_⟩ | (refine forkD (fun h => ?_) (fun h => ?_)) | (refine forkNe (fun h => ?_) (fun h => ?_)) | (refine forkEq (fun h => ?_) (fun h => ?_)) | refine forkNot ?_ | (refine ⟨vI64 (by omega), ?_⟩) | (refine And.intro (by omega) ?_) | apply And.intro | (exact iEq (by omega)) | (exact vI64 (by omega))
  intro x hx
  obtain ⟨f1, f2, f3⟩ := fS_ok L x
  refine forkD (fun k => ?_) (fun k => ?_)
  · refine ⟨⟨rfl, rfl, trivial⟩, fun H' hl hd => (kCurrents L (fS L x).2 (by omega) (kW L) (kH L) (kA L) (by omega) hl hd.1 hd.2.1 (by decide)).wkA ⟨wk_refl _, wk_aggL ⟨wk_refl _, wk_refl _, wk_QR, trivial⟩, trivial⟩, ⟨by omega, by decide, ⟨Nat.le_refl _, by rw [flL_len]; omega⟩, ⟨Nat.le_refl _, Nat.le_refl _⟩, rfl⟩, rfl, vI64 (by omega), x + 1, by omega, by omega, rfl, ?_⟩
    repeat' first | (exact wk_QF (by rw [(fS_ok L (x + 1)).1, f1]) (by omega)) | exact ob_fl rfl rfl | exact plainBL _ _ | exact inL_b _ _ | exact flL_b _ _ | exact plainIL _ _ | exact digO _ _ _ | exact trivial | exact rfl | exact wk_refl _ | refine wkO_cells ?_ | refine wks_cons ?_ ?_ | exact wks_nil | exact wk_nil _ _ _ (.inl rfl) | (exact wk_Q (by omega)) | refine wk_tupL ?_ | refine wk_aggL ?_ | refine joinMax ?_ ?_ ?_ | refine joinMin ?_ ?_ ?_ | refine toMax ?_ | refine toMin ?_ | refine ⟨rfl, ?_⟩ | refine ⟨trivial, ?_⟩ | (refine forkD (fun h => ?_) (fun h => ?_)) | (refine forkNe (fun h => ?_) (fun h => ?_)) | (refine forkEq (fun h => ?_) (fun h => ?_)) | refine forkNot ?_ | (refine ⟨vI64 (by omega), ?_⟩) | (refine And.intro (by omega) ?_) | apply And.intro | (exact iEq (by omega)) | (exact vI64 (by omega))
  obtain rfl : x = n := by omega
  clear k hx hpk
  generalize hd0 : dN L (fS L x).2 (((kA L).length : Nat) : Int) = d at *
  have hd : 0 ≤ d ∧ d < ((kA L).length : Int) := by rw [← hd0]; exact dN_bd L _ (by omega)
  refine ⟨⟨rfl, trivial⟩, fun H' _ hh => by rw [← hd0]; exact kNext _ _ _ (by omega) (by omega) hh.1, hd, boolAt (by omega) (by omega), rfl, fun q => ⟨0, .inl ⟨q, rfl, trivial⟩, rfl, ?_⟩, fun q => ⟨_, .inr ⟨q, rfl, trivial⟩, rfl, ?_⟩, fun b hb0 => ?_⟩
  · repeat' first | exact plainBL _ _ | exact inL_b _ _ | exact flL_b _ _ | exact plainIL _ _ | exact digO _ _ _ | exact trivial | exact rfl | exact wk_refl _ | refine wkO_cells ?_ | refine wks_cons ?_ ?_ | exact wks_nil | exact wk_nil _ _ _ (.inl rfl) | (exact wk_Q (by omega)) | refine wk_tupL ?_ | refine wk_aggL ?_ | refine joinMax ?_ ?_ ?_ | refine joinMin ?_ ?_ ?_ | refine toMax ?_ | refine toMin ?_ | refine ⟨rfl, ?_⟩ | refine ⟨trivial, ?_⟩ | (refine forkD (fun h => ?_) (fun h => ?_)) | (refine forkNe (fun h => ?_) (fun h => ?_)) | (refine forkEq (fun h => ?_) (fun h => ?_)) | refine forkNot ?_ | (refine ⟨vI64 (by omega), ?_⟩) | (refine And.intro (by omega) ?_) | apply And.intro | (exact iEq (by omega)) | (exact vI64 (by omega))
  · repeat' first | exact plainBL _ _ | exact inL_b _ _ | exact flL_b _ _ | exact plainIL _ _ | exact digO _ _ _ | exact trivial | exact rfl | exact wk_refl _ | refine wkO_cells ?_ | refine wks_cons ?_ ?_ | exact wks_nil | exact wk_nil _ _ _ (.inl rfl) | (exact wk_Q (by omega)) | refine wk_tupL ?_ | refine wk_aggL ?_ | refine joinMax ?_ ?_ ?_ | refine joinMin ?_ ?_ ?_ | refine toMax ?_ | refine toMin ?_ | refine ⟨rfl, ?_⟩ | refine ⟨trivial, ?_⟩ | (refine forkD (fun h => ?_) (fun h => ?_)) | (refine forkNe (fun h => ?_) (fun h => ?_)) | (refine forkEq (fun h => ?_) (fun h => ?_)) | refine forkNot ?_ | (refine ⟨vI64 (by omega), ?_⟩) | (refine And.intro (by omega) ?_) | apply And.intro | (exact iEq (by omega)) | (exact vI64 (by omega))
  have hsea := beg_sea L hd hb0
  clear hb0 hd hd0 d
  have ok : FloeOk (kW L) (kH L) (kA L) (fS L x).1 0 (fS L x).1.length b := by rw [f1]; exact flOk L hn5 hsea
  have hF := fReach_1 (floe_0 ok)
  have hF1 : (fReach (kW L) (kH L) (kA L) (fS L x).1 0 (fS L x).1.length b).1 = reR (kW L) (kH L) (kA L) (fS L x).1 0 b x := by rw [hF, f1]
  have hF2 : (fReach (kW L) (kH L) (kA L) (fS L x).1 0 (fS L x).1.length b).2 = 0 := by rw [hF]
  have hsh : shortF (fS L x).1 := fun k hk => by rw [(f3 k (by omega)).1]; omega
  have hrl := reR_len (kW L) (kH L) (kA L) (fS L x).1 0 b x
  have hRc : ∀ {H' : Heap} {K : Nat} (hl : H'.length = K) {i1 i2 : Nat} {o1 o2 : Bool} {z1 z2 : Nat}, H'[i1]? = some (.cells o1 z1 ((kA L).flatMap boolC)) → H'[i2]? = some (.cells o2 z2 (flL (fS L x).1)) → ∀ c : Int, KCall prog 33 [.agg #[.int .i64 (kW L), .int .i64 (kH L), .slice (some ⟨i1, 0, some 1⟩) (kA L).length (kA L).length], .slice (some ⟨i2, 0, some 1⟩) (fS L x).1.length (fS L x).1.length, .int .i64 c] H' [] (Is (rchV K (fReach (kW L) (kH L) (kA L) (fS L x).1 0 (fS L x).1.length c)) (H' ++ [.cells true 1 (inL (fReach (kW L) (kH L) (kA L) (fS L x).1 0 (fS L x).1.length c).1)])) :=
    fun {_ _} hl {_ _ _ _ _ _} h1 h2 c => (kReach (fS L x).1 c (by omega) hsh hl h1 h2).wkA ⟨wk_aggL ⟨wk_refl _, wk_refl _, wk_QR, trivial⟩, wk_QR, wk_refl _, trivial⟩
  refine ⟨⟨rfl, rfl, trivial⟩, fun H' hl hh => hRc hl hh.1 hh.2.1 b, ?_⟩
  rw [hF1, hF2]
  refine forkNe (fun q => absurd rfl q) (fun _ => ⟨vI64 (by omega), forkNe (fun q => absurd (by omega) q) (fun _ => ⟨rfl, by omega, ?_, fun _ => rfl, ?_⟩)⟩)
  · repeat' first | (exact wk_QF (way_len ..) (by omega)) | exact plainBL _ _ | exact inL_b _ _ | exact flL_b _ _ | exact plainIL _ _ | exact digO _ _ _ | exact trivial | exact rfl | exact wk_refl _ | refine wkO_cells ?_ | refine wks_cons ?_ ?_ | exact wks_nil | exact wk_nil _ _ _ (.inl rfl) | (exact wk_Q (by omega)) | refine wk_tupL ?_ | refine wk_aggL ?_ | refine joinMax ?_ ?_ ?_ | refine joinMin ?_ ?_ ?_ | refine toMax ?_ | refine toMin ?_ | refine ⟨rfl, ?_⟩ | refine ⟨trivial, ?_⟩ | (refine forkD (fun h => ?_) (fun h => ?_)) | (refine forkNe (fun h => ?_) (fun h => ?_)) | (refine forkEq (fun h => ?_) (fun h => ?_)) | refine forkNot ?_ | (refine ⟨vI64 (by omega), ?_⟩) | (refine And.intro (by omega) ?_) | apply And.intro | (exact iEq (by omega)) | (exact vI64 (by omega))
  intro y hy
  have hwl := way_len L (fS L x).1 ((fS L x).2 + 1) b y
  refine forkD (fun k => ?_) (fun k => ?_)
  · have hlt : y < x := by omega
    obtain ⟨a1, a2⟩ := at_ok L (n := x) (p := (fS L x).2 + 1) hsea (x := y) (by omega)
    obtain ⟨r1, r2⟩ := at_row L (n := x) hlt a1
    have hm := at_mem L (n := x) (p := (fS L x).2 + 1) (b := b) hlt a1
    obtain ⟨n1, n2⟩ := at_ok L (n := x) (p := (fS L x).2 + 1) hsea (x := y + 1) (by omega)
    obtain ⟨g1, g2⟩ := f3 y hlt
    have e0 : errFlows (kW L) (kH L) (kA L).length ((fS L x).1.getD y []) = 0 := by
      unfold errFlows; rw [first2_2 (errBas_iff hb), if_pos g1, errF_iff g2]
    have hp := posN_eq ((fS L x).2 + 1) y
    have hT := (fT_0 e0 a1).1
    have hP := (fT_0 e0 a1).2
    have hws := way_succ L (fS L x).1 ((fS L x).2 + 1) b y
    have hat : atS L (fS L x).1 ((fS L x).2 + 1) b (y + 1) = (tgts (kW L) (kH L) (kA L) (atS L (fS L x).1 ((fS L x).2 + 1) b y) (((fS L x).1.getD y []).getD (Int.toNat (atS L (fS L x).1 ((fS L x).2 + 1) b y)) zeroF)).getD (Int.toNat (dN L (posN ((fS L x).2 + 1) y) (((tgts (kW L) (kH L) (kA L) (atS L (fS L x).1 ((fS L x).2 + 1) b y) (((fS L x).1.getD y []).getD (Int.toNat (atS L (fS L x).1 ((fS L x).2 + 1) b y)) zeroF)).length : Nat) : Int))) 0 := rfl
    have hT0 : tgF (kW L) (kH L) (kA L) ((fS L x).1.getD y []) (atS L (fS L x).1 ((fS L x).2 + 1) b y) = tgts (kW L) (kH L) (kA L) (atS L (fS L x).1 ((fS L x).2 + 1) b y) (((fS L x).1.getD y []).getD (Int.toNat (atS L (fS L x).1 ((fS L x).2 + 1) b y)) zeroF) := rfl
    rw [hT0] at r1 hm
    have hTc : ∀ {H' : Heap} {K : Nat} (hl : H'.length = K) {i1 : Nat} {o1 : Bool} {z1 : Nat}, H'[i1]? = some (.cells o1 z1 ((kA L).flatMap boolC)) → KCall prog 28 [.agg #[.int .i64 (kW L), .int .i64 (kH L), .slice (some ⟨i1, 0, some 1⟩) (kA L).length (kA L).length], flV ((fS L x).1.getD y []), .int .i64 (atS L (fS L x).1 ((fS L x).2 + 1) b y)] H' [] (Is (tgV 2 K (fTargets (kW L) (kH L) (kA L) ((fS L x).1.getD y []) (atS L (fS L x).1 ((fS L x).2 + 1) b y))) (H' ++ [.cells true 1 ((tgPad (kW L) (kH L) (kA L) ((fS L x).1.getD y []) (atS L (fS L x).1 ((fS L x).2 + 1) b y)).flatMap intC)])) :=
      fun {_ _} hl {_ _ _} h1 => (kTargetsV (kW L) (kH L) (kA L) _ _ (by omega) hl h1).wkA ⟨wk_aggL ⟨wk_refl _, wk_refl _, wk_QR, trivial⟩, wk_refl _, wk_refl _, trivial⟩
    rw [hT, hP] at *
    dsimp only [tgV] at hTc
    refine ⟨by omega, flL_at (by omega) (by omega), ⟨rfl, trivial⟩, fun H' hl hh => hTc hl hh.1, ?_⟩
    dsimp only
    generalize hTT : tgts (kW L) (kH L) (kA L) (atS L (fS L x).1 ((fS L x).2 + 1) b y) (((fS L x).1.getD y []).getD (Int.toNat (atS L (fS L x).1 ((fS L x).2 + 1) b y)) zeroF) = T at *
    have hdb := dN_bd L (posN ((fS L x).2 + 1) y) (m := ((T.length : Nat) : Int)) (by omega)
    have htl : T.length ≤ 1024 := by
      have h1 := trues_len (goesL (kW L) (kH L) (kA L) (atS L (fS L x).1 ((fS L x).2 + 1) b y) (((fS L x).1.getD y []).getD (Int.toNat (atS L (fS L x).1 ((fS L x).2 + 1) b y)) zeroF))
      rw [goesL_len] at h1
      rw [← hTT]
      unfold tgts; omega
    have hsb := sea_bd n1
    have hld := sea_land n1
    have hsl := reS_len (kW L) (kH L) (kA L) (fS L x).1 0 b (y + 1)
    refine forkNe (fun q => absurd rfl q) (fun _ => forkEq (fun q => absurd q (by omega)) (fun _ => ⟨⟨rfl, trivial⟩, fun H' _ hh => kNext _ _ _ (by omega) (by omega) hh.1, by omega, intAtL (by omega) (by omega), ?_⟩))
    rw [← hat]
    refine ⟨vI64 (by omega), by omega, inL_atV (by omega) (reR_get (by omega)) (by omega), trivial, fun H' _ _ => kfhas _ (by omega) _ H', forkNot (forkD (fun _ => ?_) (fun q => absurd n2 q))⟩
    refine forkD (fun q => absurd q (by omega)) (fun _ => forkD (fun q => absurd q (by omega)) (fun _ => ⟨hsb, boolAt (by omega) (by omega), forkB (fun q => absurd (hld.symm.trans q) Bool.false_ne_true) (fun _ => ⟨⟨by omega, by decide, ⟨Nat.le_refl _, flat_le intC_len _⟩, ⟨Nat.le_refl _, Nat.le_refl _⟩, rfl⟩, rfl, vI64 (by omega), y + 1, by omega, by omega, rfl, ?_⟩)⟩))
    repeat' first | exact wk_snoc hws | exact ob_snoc intC_len hws rfl | exact plainBL _ _ | exact inL_b _ _ | exact flL_b _ _ | exact plainIL _ _ | exact digO _ _ _ | exact trivial | exact rfl | exact wk_refl _ | refine wkO_cells ?_ | refine wks_cons ?_ ?_ | exact wks_nil | exact wk_nil _ _ _ (.inl rfl) | (exact wk_Q (by omega)) | refine wk_tupL ?_ | refine wk_aggL ?_ | refine joinMax ?_ ?_ ?_ | refine joinMin ?_ ?_ ?_ | refine toMax ?_ | refine toMin ?_ | refine ⟨rfl, ?_⟩ | refine ⟨trivial, ?_⟩ | (refine forkD (fun h => ?_) (fun h => ?_)) | (refine forkNe (fun h => ?_) (fun h => ?_)) | (refine forkEq (fun h => ?_) (fun h => ?_)) | refine forkNot ?_ | (refine ⟨vI64 (by omega), ?_⟩) | (refine And.intro (by omega) ?_) | apply And.intro | (exact iEq (by omega)) | (exact vI64 (by omega))
  obtain rfl : y = x := by omega
  obtain ⟨c1, c2⟩ := at_ok L (n := y) (p := (fS L y).2 + 1) hsea (x := y) (Nat.le_refl _)
  have hback := fun {z : Nat} (hz : z ≤ y) => at_back L (n := y) (p := (fS L y).2 + 1) hsea (x := z) hz
  have okc : FloeOk (kW L) (kH L) (kA L) (fS L y).1 0 (fS L y).1.length (atS L (fS L y).1 ((fS L y).2 + 1) b y) := by rw [f1]; exact flOk L hn5 c1
  have hO := fOrigin_1 (floe_0 okc)
  have hO1 : (fOrigin (kW L) (kH L) (kA L) (fS L y).1 (atS L (fS L y).1 ((fS L y).2 + 1) b y)).1 = orR (kW L) (kH L) (kA L) (fS L y).1 (atS L (fS L y).1 ((fS L y).2 + 1) b y) y := by rw [hO, f1]
  have hO2 : (fOrigin (kW L) (kH L) (kA L) (fS L y).1 (atS L (fS L y).1 ((fS L y).2 + 1) b y)).2 = 0 := by rw [hO]
  have hol := orR_len (kW L) (kH L) (kA L) (fS L y).1 (atS L (fS L y).1 ((fS L y).2 + 1) b y) y
  have hosl := fun z => orS_len (kW L) (kH L) (kA L) (fS L y).1 (atS L (fS L y).1 ((fS L y).2 + 1) b y) z
  refine ⟨⟨rfl, rfl, trivial⟩, fun H' hl hh => (kOrigin (fS L y).1 _ (by omega) hsh hl hh.1 hh.2.1).wkA ⟨wk_aggL ⟨wk_refl _, wk_refl _, wk_QR, trivial⟩, wk_QR, wk_refl _, trivial⟩, ?_⟩
  rw [hO1, hO2]
  have hw0 : ∀ z, z ≤ y → (wayL L (fS L y).1 ((fS L y).2 + 1) b y).getD z 0 = atS L (fS L y).1 ((fS L y).2 + 1) b z := fun z hz => way_get hz
  have hbb : ∀ m, m ≤ y → ∀ k : Int, seaB (kA L) k = true → (atS L (fS L y).1 ((fS L y).2 + 1) b y ∈ reS (kW L) (kH L) (kA L) (fS L y).1 ((fS L y).1.length - m) k m ↔ k ∈ orS (kW L) (kH L) (kA L) (fS L y).1 (atS L (fS L y).1 ((fS L y).2 + 1) b y) m) := fun m hm k hk => back_iff hb m (by omega) k hk
  refine forkNe (fun q => absurd rfl q) (fun _ => ⟨vI64 (by omega), forkNe (fun q => absurd (by omega) q) (fun _ => ⟨rfl, by omega, ?_, fun _ => rfl, ?_⟩)⟩)
  · repeat' first | exact plainBL _ _ | exact inL_b _ _ | exact flL_b _ _ | exact plainIL _ _ | exact digO _ _ _ | exact trivial | exact rfl | exact wk_refl _ | refine wkO_cells ?_ | refine wks_cons ?_ ?_ | exact wks_nil | exact wk_nil _ _ _ (.inl rfl) | (exact wk_Q (by omega)) | refine wk_tupL ?_ | refine wk_aggL ?_ | refine joinMax ?_ ?_ ?_ | refine joinMin ?_ ?_ ?_ | refine toMax ?_ | refine toMin ?_ | refine ⟨rfl, ?_⟩ | refine ⟨trivial, ?_⟩ | (refine forkD (fun h => ?_) (fun h => ?_)) | (refine forkNe (fun h => ?_) (fun h => ?_)) | (refine forkEq (fun h => ?_) (fun h => ?_)) | refine forkNot ?_ | (refine ⟨vI64 (by omega), ?_⟩) | (refine And.intro (by omega) ?_) | apply And.intro | (exact iEq (by omega)) | (exact vI64 (by omega))
  intro z hz
  refine forkD (fun k => ?_) (fun k => ?_)
  · have hzz : Int.toNat (((y : Nat) : Int) - ((z : Nat) : Int)) = y - z := by omega
    rw [hzz]
    have hz1 := hosl z
    refine ⟨by omega, inL_atV (by omega) (orR_get (by omega)) (by omega), vI64 (by omega), by omega, intAtV (by omega) (hw0 (y - z) (by omega)) (by omega), trivial, fun H' _ _ => kfhas _ (by omega) _ H', forkNot (forkD (fun _ => ⟨vI64 (by omega), z + 1, by omega, by omega, rfl, ?_⟩) (fun q => absurd (hback (by omega)) q))⟩
    repeat' first | exact plainBL _ _ | exact inL_b _ _ | exact flL_b _ _ | exact plainIL _ _ | exact digO _ _ _ | exact trivial | exact rfl | exact wk_refl _ | refine wkO_cells ?_ | refine wks_cons ?_ ?_ | exact wks_nil | exact wk_nil _ _ _ (.inl rfl) | (exact wk_Q (by omega)) | refine wk_tupL ?_ | refine wk_aggL ?_ | refine joinMax ?_ ?_ ?_ | refine joinMin ?_ ?_ ?_ | refine toMax ?_ | refine toMin ?_ | refine ⟨rfl, ?_⟩ | refine ⟨trivial, ?_⟩ | (refine forkD (fun h => ?_) (fun h => ?_)) | (refine forkNe (fun h => ?_) (fun h => ?_)) | (refine forkEq (fun h => ?_) (fun h => ?_)) | refine forkNot ?_ | (refine ⟨vI64 (by omega), ?_⟩) | (refine And.intro (by omega) ?_) | apply And.intro | (exact iEq (by omega)) | (exact vI64 (by omega))
  refine ⟨rfl, Nat.zero_le _, ?_, fun _ => rfl, ?_⟩
  · repeat' first | exact plainBL _ _ | exact inL_b _ _ | exact flL_b _ _ | exact plainIL _ _ | exact digO _ _ _ | exact trivial | exact rfl | exact wk_refl _ | refine wkO_cells ?_ | refine wks_cons ?_ ?_ | exact wks_nil | exact wk_nil _ _ _ (.inl rfl) | (exact wk_Q (by omega)) | refine wk_tupL ?_ | refine wk_aggL ?_ | refine joinMax ?_ ?_ ?_ | refine joinMin ?_ ?_ ?_ | refine toMax ?_ | refine toMin ?_ | refine ⟨rfl, ?_⟩ | refine ⟨trivial, ?_⟩ | (refine forkD (fun h => ?_) (fun h => ?_)) | (refine forkNe (fun h => ?_) (fun h => ?_)) | (refine forkEq (fun h => ?_) (fun h => ?_)) | refine forkNot ?_ | (refine ⟨vI64 (by omega), ?_⟩) | (refine And.intro (by omega) ?_) | apply And.intro | (exact iEq (by omega)) | (exact vI64 (by omega))
  have hy1 := hosl y
  intro u hu
  refine forkD (fun k2 => ?_) (fun k2 => ?_)
  · have hlu : u < (kA L).length := by omega
    refine ⟨by omega, boolAt hlu (by omega), forkB (fun _ => ⟨vI64 (by omega), u + 1, by omega, by omega, rfl, ?_⟩) (fun hland => ?_)⟩
    · repeat' first | exact plainBL _ _ | exact inL_b _ _ | exact flL_b _ _ | exact plainIL _ _ | exact digO _ _ _ | exact trivial | exact rfl | exact wk_refl _ | refine wkO_cells ?_ | refine wks_cons ?_ ?_ | exact wks_nil | exact wk_nil _ _ _ (.inl rfl) | (exact wk_Q (by omega)) | refine wk_tupL ?_ | refine wk_aggL ?_ | refine joinMax ?_ ?_ ?_ | refine joinMin ?_ ?_ ?_ | refine toMax ?_ | refine toMin ?_ | refine ⟨rfl, ?_⟩ | refine ⟨trivial, ?_⟩ | (refine forkD (fun h => ?_) (fun h => ?_)) | (refine forkNe (fun h => ?_) (fun h => ?_)) | (refine forkEq (fun h => ?_) (fun h => ?_)) | refine forkNot ?_ | (refine ⟨vI64 (by omega), ?_⟩) | (refine And.intro (by omega) ?_) | apply And.intro | (exact iEq (by omega)) | (exact vI64 (by omega))
    have hsu : seaB (kA L) (u : Int) = true := by rw [seaB_1 (by omega), Int.toNat_natCast, hland]; rfl
    have oku : FloeOk (kW L) (kH L) (kA L) (fS L y).1 0 (fS L y).1.length (u : Int) := by rw [f1]; exact flOk L hn5 hsu
    have hU := fReach_1 (floe_0 oku)
    have hU1 : (fReach (kW L) (kH L) (kA L) (fS L y).1 0 (fS L y).1.length (u : Int)).1 = reR (kW L) (kH L) (kA L) (fS L y).1 0 (u : Int) y := by rw [hU, f1]
    have hU2 : (fReach (kW L) (kH L) (kA L) (fS L y).1 0 (fS L y).1.length (u : Int)).2 = 0 := by rw [hU]
    have hul := reR_len (kW L) (kH L) (kA L) (fS L y).1 0 (u : Int) y
    have husl := reS_len (kW L) (kH L) (kA L) (fS L y).1 0 (u : Int) y
    have hiff := hbb y (Nat.le_refl _) (u : Int) hsu
    rw [f1, Nat.sub_self] at hiff
    refine ⟨⟨rfl, rfl, trivial⟩, fun H' hl hh => hRc hl hh.1 hh.2.1 _, ?_⟩
    rw [hU1, hU2]
    refine forkNe (fun q => absurd rfl q) (fun _ => ⟨vI64 (by omega), forkNe (fun q => absurd (by omega) q) (fun _ => ⟨by omega, inL_atV (by omega) (reR_get (by omega)) (by omega), by omega, inL_atV (by omega) (orR_get (by omega)) (by omega), trivial, fun H' _ _ => kfhas _ (by omega) _ H', trivial, fun H' _ _ => kfhas _ (by omega) _ H', ?_⟩)⟩)
    refine forkF (by rw [show decide (atS L (fS L y).1 ((fS L y).2 + 1) b y ∈ reS (kW L) (kH L) (kA L) (fS L y).1 0 (u : Int) y) = decide ((u : Int) ∈ orS (kW L) (kH L) (kA L) (fS L y).1 (atS L (fS L y).1 ((fS L y).2 + 1) b y) y) from decide_eq_decide.2 hiff, beq_self_eq_true, Bool.not_true]) ⟨vI64 (by omega), u + 1, by omega, by omega, rfl, ?_⟩
    repeat' first | exact plainBL _ _ | exact inL_b _ _ | exact flL_b _ _ | exact plainIL _ _ | exact digO _ _ _ | exact trivial | exact rfl | exact wk_refl _ | refine wkO_cells ?_ | refine wks_cons ?_ ?_ | exact wks_nil | exact wk_nil _ _ _ (.inl rfl) | (exact wk_Q (by omega)) | refine wk_tupL ?_ | refine wk_aggL ?_ | refine joinMax ?_ ?_ ?_ | refine joinMin ?_ ?_ ?_ | refine toMax ?_ | refine toMin ?_ | refine ⟨rfl, ?_⟩ | refine ⟨trivial, ?_⟩ | (refine forkD (fun h => ?_) (fun h => ?_)) | (refine forkNe (fun h => ?_) (fun h => ?_)) | (refine forkEq (fun h => ?_) (fun h => ?_)) | refine forkNot ?_ | (refine ⟨vI64 (by omega), ?_⟩) | (refine And.intro (by omega) ?_) | apply And.intro | (exact iEq (by omega)) | (exact vI64 (by omega))
  · have hfin := hback (z := y) (Nat.le_refl _)
    rw [Nat.sub_self] at hfin
    refine ⟨by omega, inL_atV (by omega) (orR_get (by omega)) (by omega), trivial, fun H' _ _ => kfhas _ (by omega) _ H', forkD (fun _ => ⟨trivial, fun H' _ _ => kAwake H', rfl⟩) (fun q => absurd hfin q)⟩
end
end Go.Proofs.Ytkkgnalgmebfjaa
/- How laws' arguments are read. No condition. -/
namespace Go.Proofs.Ytkkgnalgmebfjaa
set_option linter.unusedSimpArgs false
open Go Go.K Go.ChangeShapes Go.WideShapes Go.ChangeAt Go.RowKit
set_option maxRecDepth 100000
set_option linter.unusedVariables false
noncomputable section
theorem own : ownKnob Try.prog.godebug = none := by kernel_rfl
theorem sized : slicesSized Try.prog = true := by kernel_rfl
abbrev known (t : TypeId) : Prop := t < Try.prog.types.size
theorem kids : Kids Try.prog known := kids_rows (by kernel_rfl) (by kernel_rfl)
end
end Go.Proofs.Ytkkgnalgmebfjaa
/- Arguments that are read: lists within lists by their values. No condition. -/
namespace Go.K
set_option linter.unusedSimpArgs false
open Go Go.RowKit Go.ChangeAt Go.WideShapes
set_option linter.unusedVariables false
variable {P : Program} {HH : Type} {enc : TypeId × Value → HH}

/-- Plain cells, whose lists are said by their values. -/
def GoodD (P : Program) : Nat → TypeId → List Value → Prop
  | 0, _, _ => False
  | n + 1, t, cs => match P.underlying t with
    | some .bool => ∃ b, cs = [.bool b]
    | some (.int k) => ∃ x, cs = [.int k x] ∧ k.min ≤ x ∧ x ≤ k.max
    | some .string => ∃ s, cs = [.string s]
    | some (.struct fs) => GoodL (GoodD P n) (fs.toList.map (·.type)) cs
    | some (.slice e) => ∃ len ds, cs = [.iface (len + 1) (.agg ⟨ds⟩)] ∧ ds.length = len * P.cellsOf e ∧ len ≤ maxLen ∧ GoodL (GoodD P n) (List.replicate len e) ds
    | _ => False
/-- Plain cells, whose lists lie in blocks, and the lists within these are said by their values. -/
def Good2 (P : Program) (H : Heap) : Nat → TypeId → List Value → Prop
  | 0, _, _ => False
  | n + 1, t, cs => match P.underlying t with
    | some .bool => ∃ b, cs = [.bool b]
    | some (.int k) => ∃ x, cs = [.int k x] ∧ k.min ≤ x ∧ x ≤ k.max
    | some .string => ∃ s, cs = [.string s]
    | some (.struct fs) => GoodL (Good2 P H n) (fs.toList.map (·.type)) cs
    | some (.slice e) => cs = [.slice none 0 0] ∨ cs = [.slice (some ⟨0, 0, some 0⟩) 0 0] ∨
        ∃ id len ds, cs = [.slice (some ⟨id, 0, none⟩) len len] ∧ H[id]? = some (.cells false 0 ds) ∧ ds.length = len * P.cellsOf e ∧ len ≤ maxLen ∧ GoodL (GoodD P n) (List.replicate len e) ds
    | _ => False
theorem Good2.mono {H K : Heap} : ∀ {n : Nat} {t : TypeId} {cs : List Value}, Good2 P H n t cs → Good2 P (H ++ K) n t cs := by
  intro n
  induction n with
  | zero => intro t cs h; exact h
  | succ n ih =>
    intro t cs h
    unfold Good2 at h ⊢
    split at h
    · exact h
    · exact h
    · exact h
    · exact GoodL.mono (fun _ _ => ih) h
    · rcases h with h | h | ⟨id, len, cs', h1, h2, h3, h4, h5⟩
      · exact .inl h
      · exact .inr (.inl h)
      · exact .inr (.inr ⟨id, len, cs', h1, by rw [List.getElem?_append_left (List.getElem?_eq_some_iff.1 h2).1]; exact h2, h3, h4, h5⟩)
    · exact h
/-- Nobody writes below B: what lies there is known. -/
def Low (B : Nat) (ρ : Ren) (W : World) : Prop := (∀ b m ty fz, b < B → W.heap[b]? = some (.cells m ty fz) → ρ.mem b = some m) ∧ ∀ id r, ρ id = some r → r.b < B

theorem deepenL {B : Nat} {ρ : Ren} {H : Heap} {W : World} {n : Nat} (IH : ∀ (t : TypeId) (cs cs' : List Value), Good P H n t cs → VRl ρ cs cs' → ∃ ds, VRl ρ ds cs' ∧ GoodD P n t ds) :
    ∀ (ts : List TypeId) (cs cs' : List Value), GoodL (Good P H n) ts cs → VRl ρ cs cs' → ∃ ds, VRl ρ ds cs' ∧ GoodL (GoodD P n) ts ds := by
  intro ts
  induction ts with
  | nil => intro cs cs' h hv; rw [show cs = [] from h] at hv; exact ⟨[], hv, rfl⟩
  | cons t ts ih =>
    rintro cs cs' ⟨c, rest, rfl, h1, h2⟩ hv
    have hl : (c ++ rest).length = cs'.length := hv.1
    rw [List.length_append] at hl
    have v1 : VRl ρ c (cs'.take c.length) := ⟨by rw [List.length_take]; omega, fun i v v' a b => by
      have hi := (List.getElem?_eq_some_iff.1 a).1
      rw [List.getElem?_take, if_pos hi] at b
      exact hv.2 i v v' (by rw [List.getElem?_append_left hi]; exact a) b⟩
    have v2 : VRl ρ rest (cs'.drop c.length) := ⟨by rw [List.length_drop]; omega, fun i v v' a b => by
      rw [List.getElem?_drop] at b
      exact hv.2 (c.length + i) v v' (by rw [List.getElem?_append_right (by omega), Nat.add_sub_cancel_left]; exact a) b⟩
    obtain ⟨d1, w1, g1⟩ := IH t c _ h1 v1
    obtain ⟨d2, w2, g2⟩ := ih rest _ h2 v2
    refine ⟨d1 ++ d2, ?_, d1, d2, rfl, g1, g2⟩
    have := VRl.append w1 w2
    rw [List.take_append_drop] at this
    exact this
theorem row_reals {ρ : Ren} {r : RI} {cs : List Value} {W : World} (h : ObjRel ρ r (.cells false 0 cs) W) : ∃ m ty fz, W.heap[r.b]? = some (.cells m ty fz) ∧ (cs.length = 0 ∨ cs.length + r.s ≤ m.size) ∧ VRl ρ cs ((m.toList.drop r.s).take cs.length) ∧ m.size = r.n := by
  obtain ⟨_, _, m, ty, fz, hb, hsz, _, hcs⟩ := h
  have hle : cs.length = 0 ∨ cs.length + r.s ≤ m.size := by
    rcases Nat.eq_zero_or_pos cs.length with h0 | h0
    · exact .inl h0
    · right
      obtain ⟨v', g1, _⟩ := hcs (cs.length - 1) _ (List.getElem?_eq_getElem (by omega))
      have := (Array.getElem?_eq_some_iff.1 g1).1
      omega
  refine ⟨m, ty, fz, hb, hle, ⟨?_, fun i v v' a b => ?_⟩, hsz⟩
  · have e : m.toList.length = m.size := Array.length_toList
    rw [List.length_take, List.length_drop, e]
    rcases hle with h | h <;> omega
  · obtain ⟨v2, g1, g2⟩ := hcs i v a
    have hi := (List.getElem?_eq_some_iff.1 a).1
    rw [List.getElem?_take, if_pos hi, List.getElem?_drop, Array.getElem?_toList, Nat.add_comm, g1] at b
    cases b; exact g2
theorem deepen {B : Nat} {ρ : Ren} {H : Heap} {W : World} (hr : Rel P B ρ H W) (hlow : Low B ρ W) : ∀ (n : Nat) (t : TypeId) (cs cs' : List Value), Good P H n t cs → VRl ρ cs cs' → ∃ ds, VRl ρ ds cs' ∧ GoodD P n t ds := by
  intro n
  induction n with
  | zero => intro t cs cs' h; exact h.elim
  | succ n ih =>
    intro t cs cs' h hv
    have single : ∀ v, cs = [v] → ∃ x, cs' = [x] ∧ VR ρ v x := by
      rintro v rfl
      have hl : cs'.length = 1 := hv.1.symm
      obtain ⟨x, rfl⟩ := List.length_eq_one_iff.1 hl
      exact ⟨x, rfl, hv.2 0 v x rfl rfl⟩
    unfold Good at h
    split at h
    · rename_i hu; exact ⟨cs, hv, by unfold GoodD; rw [hu]; exact h⟩
    · rename_i k hu; exact ⟨cs, hv, by unfold GoodD; rw [hu]; exact h⟩
    · rename_i hu; exact ⟨cs, hv, by unfold GoodD; rw [hu]; exact h⟩
    · rename_i fs hu
      obtain ⟨ds, w, g⟩ := deepenL (B := B) (W := W) ih _ cs cs' h hv
      exact ⟨ds, w, by unfold GoodD; rw [hu]; exact g⟩
    · rename_i e hu
      have nilD : ∀ x, (∃ a c, x = .slice a 0 c) → ∃ ds, VRl ρ ds [x] ∧ GoodD P (n + 1) t ds := by
        rintro x ⟨a, c, rfl⟩
        refine ⟨[.iface 1 (.agg ⟨[]⟩)], .cons .deep0 (.nil ρ), ?_⟩
        unfold GoodD
        rw [hu]
        exact ⟨0, [], rfl, by simp, by simp [maxLen], rfl⟩
      rcases h with h | h | ⟨id, len, csi, h1, h2, h3, h4, h5⟩
      · obtain ⟨x, rfl, hx⟩ := single _ h
        cases hx; exact nilD _ ⟨_, _, rfl⟩
      · obtain ⟨x, rfl, hx⟩ := single _ h
        refine nilD _ ?_
        generalize hz : (Value.slice (some ⟨0, 0, some 0⟩) 0 0) = z at hx
        cases hx <;> cases hz
        exact ⟨_, _, rfl⟩
      · obtain ⟨x, rfl, hx⟩ := single _ h1
        rcases Nat.eq_zero_or_pos len with h0 | h0
        · subst h0
          refine nilD _ ?_
          cases hx with
          | slice h hl hc _ => exact ⟨_, _, rfl⟩
          | slice0 h => exact ⟨_, _, rfl⟩
        · obtain ⟨r, cap', hid, hc, rfl⟩ : ∃ r cap', ρ id = some r ∧ len ≤ cap' ∧ x = .slice (some ⟨r.b, 0 + r.s, none⟩) len cap' := by
            generalize hz : (Value.slice (some ⟨id, 0, none⟩) len len) = z at hx
            cases hx <;> cases hz
            · exact ⟨_, _, ‹_›, by omega, rfl⟩
            · exact absurd h0 (Nat.lt_irrefl 0)
          obtain ⟨m, ty, fz, hb, hle, hvr, _⟩ := row_reals (hr.obj id r _ hid h2)
          have hm := hlow.1 r.b m ty fz (hlow.2 id r hid) hb
          obtain ⟨ds, w, g⟩ := deepenL (B := B) (W := W) ih _ csi _ h5 hvr
          have hdl : ds.length = csi.length := by
            have e1 := w.1
            have e2 := hvr.1
            omega
          refine ⟨[.iface (len + 1) (.agg ⟨ds⟩)], .cons ?_ (.nil ρ), ?_⟩
          · rw [Nat.zero_add]
            refine .deep hm h0 hc (by show ds.length = 0 ∨ ds.length + r.s ≤ m.size; rw [hdl]; exact hle) (fun i v v' a b => ?_)
            have hi : i < ds.length := by have := (Array.getElem?_eq_some_iff.1 a).1; simpa using this
            refine w.2 i v v' (by simpa using a) ?_
            rw [List.getElem?_take, if_pos (by omega), List.getElem?_drop, Array.getElem?_toList, Nat.add_comm]; exact b
          · unfold GoodD
            rw [hu]
            exact ⟨len, ds, rfl, by rw [hdl]; exact h3, h4, g⟩
    · exact h.elim
theorem Low.set {B : Nat} {ρ : Ren} {W : World} (h : Low B ρ W) {id : Nat} {ri : RI} (hb : ri.b < B) : Low B (ρ.set id ri) W := by
  refine ⟨h.1, fun i r hi => ?_⟩
  by_cases e : i = id
  · subst e; rw [Ren.set_same] at hi; cases hi; exact hb
  · rw [Ren.set_other e] at hi; exact h.2 i r hi
def GoodV2 (P : Program) (H : Heap) (n : Nat) (t : TypeId) (v : Value) : Prop :=
  match P.underlying t with
  | some (.struct _) => ∃ cs : List Value, v = .agg ⟨cs⟩ ∧ Good2 P H n t cs
  | _ => Good2 P H n t [v]
theorem GoodV2.mono {H K : Heap} {n : Nat} {t : TypeId} {v : Value} (h : GoodV2 P H n t v) : GoodV2 P (H ++ K) n t v := by
  unfold GoodV2 at h ⊢
  split at h
  · obtain ⟨cs, h1, h2⟩ := h; exact ⟨cs, h1, h2.mono⟩
  · exact h.mono
end Go.K
/- Laws whose arguments are said by their values. No condition. -/
namespace Go.K
set_option linter.unusedSimpArgs false
open Go Go.ChangeShapes Go.WideShapes Go.ChangeAt Go.RowKit
set_option linter.unusedVariables false
variable {P : Program} {HH : Type} {enc : TypeId × Value → HH}

def GoodVD (P : Program) (n : Nat) (t : TypeId) (v : Value) : Prop :=
  match P.underlying t with
  | some (.struct _) => ∃ cs : List Value, v = .agg ⟨cs⟩ ∧ GoodD P n t cs
  | _ => GoodD P n t [v]
def GoodAD (P : Program) (n : Nat) : List TypeId → List Value → Prop
  | [], [] => True
  | t :: ts, v :: vs => GoodVD P n t v ∧ GoodAD P n ts vs
  | _, _ => False
theorem bringVD {B : Nat} {W : World} {n : Nat} {t : TypeId} {v v' : Value} {ρ : Ren} {H : Heap} (h : GoodV P H n t v) (hv : VR ρ v v') (hr : Rel P B ρ H W) (hlow : Low B ρ W) : ∃ v2, VR ρ v2 v' ∧ GoodVD P n t v2 := by
  unfold GoodV at h
  split at h
  · rename_i fs hu
    obtain ⟨cs, rfl, h⟩ := h
    cases hv with
    | @agg _ cs' h1 h2 =>
      obtain ⟨ds, w, g⟩ := deepen hr hlow n t cs cs'.toList h ⟨by simpa using h1, fun i a b c d => h2 i a b (by simpa using c) (by simpa using d)⟩
      refine ⟨.agg ⟨ds⟩, .agg (by have := w.1; simpa using this) (fun i a b c d => w.2 i a b (by simpa using c) (by simpa using d)), ?_⟩
      unfold GoodVD; rw [hu]; exact ⟨ds, rfl, g⟩
  · rename_i hns
    obtain ⟨ds, w, g⟩ := deepen hr hlow n t [v] [v'] h (.cons hv (.nil ρ))
    have hl : ds.length = 1 := w.1
    obtain ⟨v2, rfl⟩ := List.length_eq_one_iff.1 hl
    refine ⟨v2, w.2 0 v2 v' rfl rfl, ?_⟩
    unfold GoodVD
    split
    · rename_i fs hu; exact absurd hu (hns fs)
    · exact g
theorem bringAD {B : Nat} {W : World} {n : Nat} {ρ : Ren} {H : Heap} (hr : Rel P B ρ H W) (hlow : Low B ρ W) : ∀ (ts : List TypeId) (vs vs' : List Value), GoodA P H n ts vs → VRl ρ vs vs' → ∃ ws, VRl ρ ws vs' ∧ GoodAD P n ts ws := by
  intro ts
  induction ts with
  | nil =>
    intro vs vs' h hv
    match vs, h with
    | [], _ => exact ⟨[], hv, trivial⟩
  | cons t ts ih =>
    intro vs vs' h hv
    match vs, h with
    | v :: vs, ⟨h1, h2⟩ =>
      match vs', hv with
      | [], hv => exact absurd hv.1 (by simp)
      | v' :: vs', hv =>
        obtain ⟨w1, r1, g1⟩ := bringVD h1 (hv.2 0 v v' rfl rfl) hr hlow
        obtain ⟨ws, r2, g2⟩ := ih vs vs' h2 (show VRl ρ vs vs' from ⟨by have := hv.1; simpa using this, fun i a b c d => hv.2 (i + 1) a b (by simpa using c) (by simpa using d)⟩)
        exact ⟨w1 :: ws, .cons r1 r2, g1, g2⟩
/-- A law's contract in the canonical heap is its contract in every world; arguments are said by their values. -/
theorem law_calls3 {N n b0 : Nat} {ts : List TypeId} {args : Array Value} {W : World} {ds : List (DataW HH)} {ps : List MemPlace} {held : Bool} (hG : P.globals.size ≤ W.heap.size) (hplain : ts.all (plainT P n) = true)
    (hok : ∀ (j : Nat) (t : TypeId) (v : Value), ts[j]? = some t → args.toList[j]? = some v → Value.okWide P W .any b0 t v) (h : DataW.TrodAll enc P W 0 (fun _ => true) held ts args.toList ds ps)
    (hlaw : ∀ (H : Heap) (vs : List Value), GoodAD P n ts vs → KCall P N vs H [] (fun v _ => v = .bool true)) :
    Calls P N args W fun e W' => e = .returned (.bool true) ∧ RowKit.Below W.heap.size W W' := by
  have hr : Rel P W.heap.size ⟨fun g => if g < P.globals.size then some ⟨g, 0, 0, 0, false⟩ else none, fun b => match W.heap[b]? with | some (.cells m _ _) => some m | _ => none, fun _ _ => none⟩ (List.replicate P.globals.size .dead) W := by
    have hdead : ∀ (id : Nat) (o : KObj), (List.replicate P.globals.size KObj.dead)[id]? = some o → o = .dead := fun id o ho => by
      rw [List.getElem?_replicate] at ho
      split at ho
      · cases ho; rfl
      · cases ho
    refine ⟨Nat.le_refl _, fun g hg => ⟨_, if_pos hg, rfl, rfl⟩, fun id r h1 => ?_, fun id r h1 => ?_, fun id r o h1 h2 => ?_, fun id r o h1 h2 h3 => ?_, fun id id' r r' o o' h1 h1' h2 h2' h3 _ _ => ?_, fun b m hm => ⟨?_, fun id r o h1 h2 h3 => ?_⟩, FRel.nofam (fun _ _ _ h => by cases h) (fun _ _ _ h => by cases h) (fun F z cs h => by have := hdead F _ h; cases this)⟩
    · dsimp only at h1
      split at h1
      · simpa using ‹id < _›
      · cases h1
    · dsimp only at h1
      split at h1
      · cases h1; exact Nat.lt_of_lt_of_le ‹id < _› hG
      · cases h1
    · rw [hdead id o h2]; trivial
    · rw [hdead id o h2] at h3; cases h3
    · rw [hdead id o h2] at h3; cases h3
    · dsimp only at hm
      split at hm
      · rename_i m' ty fz e; cases hm; exact ⟨ty, fz, e⟩
      · cases hm
    · rw [hdead id o h2] at h3; cases h3
  have hlow0 : Low W.heap.size ⟨fun g => if g < P.globals.size then some ⟨g, 0, 0, 0, false⟩ else none, fun b => match W.heap[b]? with | some (.cells m _ _) => some m | _ => none, fun _ _ => none⟩ W := by
    refine ⟨fun b m ty fz _ hb => by show (match W.heap[b]? with | some (.cells m _ _) => some m | _ => none) = _; rw [hb], fun id r h1 => ?_⟩
    dsimp only at h1
    split at h1
    · cases h1; exact Nat.lt_of_lt_of_le ‹id < _› hG
    · cases h1
  obtain ⟨ρ', H', vs', e, hv, g⟩ := bring_args rfl ts args.toList ds ps _ _ hplain hok h hr
  have hlow1 : Low W.heap.size ρ' W := ⟨fun b m ty fz h1 h2 => e.le.mem b m (hlow0.1 b m ty fz h1 h2), fun id r h1 => e.rel.lt id r h1⟩
  obtain ⟨ws, hv2, g2⟩ := bringAD e.rel hlow1 ts vs' args.toList g hv
  refine callsIn_wide.1 (((hlaw H' ws g2).2 _ ρ' W args e.rel hv2).mono ?_)
  rintro en w' ⟨v, v', ρ3, H3, rfl, h1, h2, rfl⟩
  cases h1
  exact ⟨rfl, h2.below e.rel⟩
end Go.K
/- How laws' numbers are read. No condition. -/
namespace Go.Proofs.Ytkkgnalgmebfjaa
set_option linter.unusedSimpArgs false
open Go Go.K Go.ChangeShapes Go.WideShapes Go.ChangeAt Go.RowKit
set_option maxRecDepth 100000
set_option linter.unusedVariables false
noncomputable section
theorem goodAD_cons {n : Nat} {t : TypeId} {ts : List TypeId} {vs : List Value} (h : GoodAD Try.prog n (t :: ts) vs) : ∃ v vs', vs = v :: vs' ∧ GoodVD Try.prog n t v ∧ GoodAD Try.prog n ts vs' := by
  cases vs with
  | nil => exact h.elim
  | cons v vs => exact ⟨v, vs, rfl, h.1, h.2⟩
theorem goodAD_nil {n : Nat} {vs : List Value} (h : GoodAD Try.prog n [] vs) : vs = [] := by
  cases vs with
  | nil => rfl
  | cons v vs => exact h.elim
theorem goodD_i64 {n : Nat} {c : List Value} (h : GoodD Try.prog (n + 1) 3 c) : ∃ x : Int, c = [.int .i64 x] ∧ inI x := by
  unfold GoodD at h
  rw [show Try.prog.underlying 3 = some (.int .i64) by kernel_rfl] at h
  obtain ⟨x, rfl, h1, h2⟩ := h
  refine ⟨x, rfl, ?_⟩
  simp only [IntKind.min, IntKind.max, IntKind.signed, IntKind.bits] at h1 h2
  unfold inI
  simp at h1 h2
  omega
theorem goodD_int {v : Value} (h : GoodVD Try.prog 6 3 v) : ∃ x : Int, v = .int .i64 x ∧ inI x := by
  unfold GoodVD at h
  rw [show Try.prog.underlying 3 = some (.int .i64) by kernel_rfl] at h
  obtain ⟨x, h1, h2⟩ := goodD_i64 h
  exact ⟨x, by simpa using h1, h2⟩
/-- A list of numbers. -/
theorem goodD_ints {v : Value} (h : GoodVD Try.prog 6 22 v) : ∃ L : List Int, v = .iface (L.length + 1) (.agg ⟨L.flatMap intC⟩) ∧ L.length ≤ maxLen ∧ ∀ x ∈ L, inI x := by
  unfold GoodVD at h
  rw [show Try.prog.underlying 22 = some (.slice 3) by kernel_rfl] at h
  unfold GoodD at h
  rw [show Try.prog.underlying 22 = some (.slice 3) by kernel_rfl] at h
  obtain ⟨len, ds, h1, h2, h3, h4⟩ := h
  obtain ⟨xs, e1, e2, e3⟩ := goodL_list (f := intC) (q := inI) (fun c hc => goodD_i64 (n := 4) hc) len ds h4
  subst e1 e2
  exact ⟨xs, by simpa using h1, h3, e3⟩
end
end Go.Proofs.Ytkkgnalgmebfjaa
