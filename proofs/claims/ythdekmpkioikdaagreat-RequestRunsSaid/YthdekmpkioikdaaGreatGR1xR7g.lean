/- Request: small helpers: numbers in bounds, copies, comparisons. No condition. -/
import Derived.Test.YthdekmpkioikdaaGreatGK27xR1g
import Derived.Shelf.Sort.Plain
import Derived.Ground.Names2Prog
import Derived.Test.YthdekmpkioikdaaGreatChecked
import Derived.Sort.Grow
import Derived.Deep.Draws
namespace Go.Proofs.YthdekmpkioikdaaGreat
open Go Go.K
set_option maxRecDepth 100000
set_option linter.unusedVariables false
set_option linter.unusedSimpArgs false
noncomputable section
attribute [local irreducible] vF
theorem take_snoc {α : Type} {l : List α} {d : α} {k : Nat} (h : k < l.length) : l.take (k + 1) = l.take k ++ [l.getD k d] := by
 rw [List.take_add_one, List.getD_eq_getElem?_getD, List.getElem?_eq_getElem h]; rfl
theorem take_len {α : Type} {l : List α} {k : Nat} (h : k <= l.length) : (l.take k).length = k := by rw [List.length_take]; omega
theorem any_snoc {α : Type} {l : List α} {d : α} {p : α -> Bool} {k : Nat} (h : k < l.length) (h1 : (l.take k).any p = false) (h2 : p (l.getD k d) = false) : (l.take (k + 1)).any p = false := by
 rw [take_snoc (d := d) h, List.any_append, h1, List.any_cons, h2]; rfl
theorem any_at {α : Type} {l : List α} {d : α} {p : α -> Bool} {k : Nat} (h : k < l.length) (h2 : p (l.getD k d) = true) : l.any p = true :=
 List.any_eq_true.2 ⟨_, getD_mem h, h2⟩
theorem any_end {α : Type} {l : List α} {p : α -> Bool} {k : Nat} (h : ¬ k < l.length) (h1 : (l.take k).any p = false) : l.any p = false := by
 rw [List.take_of_length_le (by omega)] at h1; exact h1
theorem inB_1 {n a b : Int} (h1 : a <= n) (h2 : n <= b) : inB n a b = true := by unfold inB; rw [decide_eq_true h1, decide_eq_true h2]; rfl
theorem inB_2 {n a b : Int} (h : inB n a b = true) : a <= n /\ n <= b := by
 unfold inB at h; rw [Bool.and_eq_true] at h; exact ⟨of_decide_eq_true h.1, of_decide_eq_true h.2⟩
theorem kIn (n a b : Int) (H : Heap) : KCall prog 107 [nI n, nI a, nI b] H [] (Is (.bool (inB n a b)) H) :=
 valK 40 (fun σ => rfl) rfl (Eq.mpr (Ein _ n a b) (forkD (fun h => bEq (by unfold inB; rw [decide_eq_true h]; rfl)) (fun h => bEq (by unfold inB; rw [decide_eq_false h]; rfl)))) H
theorem kOut (n a b : Int) (H : Heap) : KCall prog 137 [nI n, nI a, nI b] H [] (Is (.bool (!inB n a b)) H) := by
 refine valK 40 (fun σ => rfl) rfl (Eq.mpr (Eout _ n a b) (forkD (fun h => bEq ?_) (fun h => bEq ?_))) H
 ·unfold inB; rw [decide_eq_false (show ¬ a <= n by omega)]; rfl
 ·unfold inB; rw [decide_eq_true (show a <= n by omega), Bool.true_and]
  by_cases k : n <= b
  ·rw [decide_eq_true k, decide_eq_false (by omega)]; rfl
  ·rw [decide_eq_false k, decide_eq_true (by omega)]; rfl
theorem rqC_len (r : Rq) : (rqC r).length = 7 := rfl
theorem svC_len (r : Sv) : (svC r).length = 5 := rfl
theorem plainRQ (n : Nat) (l : List Rq) : (l.flatMap rqC).all (belowC n) = true := plain_flat (fun _ => rfl) l
theorem plainSV (n : Nat) (l : List Sv) : (l.flatMap svC).all (belowC n) = true := plain_flat (fun _ => rfl) l
theorem partQ {l : List Rq} {k : Nat} (h : k < l.length) {off : Nat} (ho : off = k * 7) : partA 7 (l.flatMap rqC) off = some (.agg ⟨rqC (l.getD k zeroQ)⟩) :=
 part_at (n := 7) (d := zeroQ) (c := 0) rqC_len h (by omega) (by omega)
theorem partV {l : List Sv} {k : Nat} (h : k < l.length) {off : Nat} (ho : off = k * 5) : partA 5 (l.flatMap svC) off = some (.agg ⟨svC (l.getD k zeroV)⟩) :=
 part_at (n := 5) (d := zeroV) (c := 0) svC_len h (by omega) (by omega)
theorem one1_I {l : List Int} : (l.flatMap intC).all (fun v => one1 v) = true := by
 rw [List.all_flatMap, List.all_eq_true]; intro r _; rfl
theorem one1_take {l : List Value} {n m : Nat} (h : l.all (fun v => one1 v) = true) : ((l.drop m).take n).all (fun v => one1 v) = true := by
 rw [List.all_eq_true] at h ⊢; exact fun x hx => h x (List.drop_subset m l (List.take_subset _ _ hx))
theorem copy_I {l : List Int} : List.take (l.length * 1) (List.drop 0 (l.flatMap intC)) = l.flatMap intC := by
 rw [List.drop_zero, List.take_of_length_le (by rw [flat_len intC_len]; omega)]
theorem great_1 {f : Fleet} {l : List Rq} (h : (20 : Int) < (f.t.length : Int)) : true = great f l := by
 unfold great; rw [decide_eq_true (show 20 < f.t.length by omega)]; rfl
theorem great_2 {f : Fleet} {l : List Rq} (h : (6 : Int) < (f.b.length : Int)) : true = great f l := by
 unfold great; rw [decide_eq_true (show 6 < f.b.length by omega), Bool.or_true]; rfl
theorem great_3 {f : Fleet} {l : List Rq} (h : (40 : Int) < (l.length : Int)) : true = great f l := by
 unfold great; rw [decide_eq_true (show 40 < l.length by omega), Bool.or_true]; rfl
theorem great_4 {f : Fleet} {l : List Rq} (h : bigF f = true) : true = great f l := by unfold great; rw [h, Bool.or_true]
theorem great_5 {f : Fleet} {l : List Rq} (h1 : ¬ (20 : Int) < (f.t.length : Int)) (h2 : ¬ (6 : Int) < (f.b.length : Int)) (h3 : ¬ (40 : Int) < (l.length : Int)) (h : bigF f = false) : false = great f l := by
 unfold great; rw [h, decide_eq_false (show ¬ 20 < f.t.length by omega), decide_eq_false (show ¬ 6 < f.b.length by omega), decide_eq_false (show ¬ 40 < l.length by omega)]; rfl
theorem kGreat (f : Fleet) (l : List Rq) {H : Heap} {i0 i1 i2 : Nat} {o0 o1 o2 : Bool} {z0 z1 z2 : Nat} (e0 : H[i0]? = some (.cells o0 z0 (inL f.t))) (e1 : H[i1]? = some (.cells o1 z1 (f.b.flatMap intC))) (e2 : H[i2]? = some (.cells o2 z2 (l.flatMap rqC))) :
  KCall prog 13 [fleetV f i0 i1, .slice (some ⟨i2, 0, some 2⟩) l.length l.length] H [] (Is (.bool (great f l)) H) := by
 refine valRx (Eq.mpr (Egreat _ f l) ?_) ⟨inL_b 0 _, plainIL 0 _, plainRQ 0 _, trivial⟩ rfl (ids := [i0, i1, i2]) ⟨⟨_, _, e0⟩, ⟨_, _, e1⟩, ⟨_, _, e2⟩, trivial⟩ rfl
 delta Rgreat jau jag ja6 jas jap jam jao jai jaw ja7 ja5 jal jae
 refine forkD (fun h => bEq (great_1 h)) (fun h1 => forkD (fun h => bEq (great_2 h)) (fun h2 => forkD (fun h => bEq (great_3 h)) (fun h3 => ⟨rfl, ⟨Nat.zero_le _, rfl⟩, ?_, fun _ => rfl, ?_⟩)))
 ·repeat' first | exact trivial | exact rfl | exact wk_refl _ | refine wkO_cells ?_ | refine wks_cons ?_ ?_ | exact wks_nil | exact wk_nil _ _ _ (.inl rfl) | (exact wk_Q (by omega)) | refine wk_tupL ?_ | refine wk_aggL ?_ | refine joinMax ?_ ?_ ?_ | refine joinMin ?_ ?_ ?_ | refine toMax ?_ | refine toMin ?_ | refine ⟨rfl, ?_⟩ | refine ⟨trivial, ?_⟩ | (refine forkD (fun h => ?_) (fun h => ?_)) | (refine forkNe (fun h => ?_) (fun h => ?_)) | (refine forkEq (fun h => ?_) (fun h => ?_)) | refine forkNot ?_ | (refine ⟨vI64 (by omega), ?_⟩) | (refine And.intro (by omega) ?_) | apply And.intro | (exact iEq (by omega)) | (exact vI64 (by omega))
 rintro x ⟨hx, hs⟩
 refine forkD (fun k => ?_) (fun k => bEq (great_5 h1 h2 h3 (any_end (by omega) hs)))
 have hlt : x < f.t.length := by omega
 refine ⟨by omega, inL_at hlt (by omega), _, rfl, forkD (fun h => bEq (great_4 (any_at (d := []) hlt (decide_eq_true (by omega))))) (fun h => ⟨vI64 (by omega), x + 1, ⟨by omega, any_snoc (d := []) hlt hs (decide_eq_false (by omega))⟩, by omega, rfl, ?_⟩)⟩
 repeat' first | exact trivial | exact rfl | exact wk_refl _ | refine wkO_cells ?_ | refine wks_cons ?_ ?_ | exact wks_nil | exact wk_nil _ _ _ (.inl rfl) | (exact wk_Q (by omega)) | refine wk_tupL ?_ | refine wk_aggL ?_ | refine joinMax ?_ ?_ ?_ | refine joinMin ?_ ?_ ?_ | refine toMax ?_ | refine toMin ?_ | refine ⟨rfl, ?_⟩ | refine ⟨trivial, ?_⟩ | (refine forkD (fun h => ?_) (fun h => ?_)) | (refine forkNe (fun h => ?_) (fun h => ?_)) | (refine forkEq (fun h => ?_) (fun h => ?_)) | refine forkNot ?_ | (refine ⟨vI64 (by omega), ?_⟩) | (refine And.intro (by omega) ?_) | apply And.intro | (exact iEq (by omega)) | (exact vI64 (by omega))
theorem kCopyD (l : List Int) (hl : l.length <= 4294967296) {H : Heap} {L : Nat} (hL : H.length = L) :
  KCall prog 58 [inV l] H [] (Is (.slice (some ⟨L, 0, some 1⟩) l.length l.length) (H ++ [.cells true 1 (l.flatMap intC)])) := by
 subst hL
 refine valQ0 (fun i => .slice (some ⟨i, 0, some 1⟩) l.length l.length) (Eq.mpr (ECopyD l) ?_) (fun n => plainIL n _) rfl rfl (fun _ => rfl) (fun σ => congrArg (fun q => [q]) (inV_rn σ 0 l)) H
 delta RCopyD jac ja3 jax jar
 refine ⟨fun h => ⟨⟨by omega, h⟩, rfl, ?_, trivial, trivial⟩, fun h => ⟨⟨by omega, h, rfl, ⟨Nat.le_refl _, flat_le intC_len _⟩, one1_take one1_I⟩, rfl, rfl, ?_, ⟨?_, plainIL _ _⟩, trivial⟩⟩
 ·rw [h]; exact wk_nil _ _ _ (.inl rfl)
 ·rw [Nat.zero_add]; exact wk_Q (by omega)
 ·rw [copy_I]; rfl
theorem kCopyB (l : List Int) (hl : l.length <= 4294967296) {H : Heap} {L : Nat} (hL : H.length = L) {i : Nat} {o : Bool} {z : Nat} (e : H[i]? = some (.cells o z (l.flatMap intC))) :
  KCall prog 58 [.slice (some ⟨i, 0, some 2⟩) l.length l.length] H [] (Is (.slice (some ⟨L, 0, some 1⟩) l.length l.length) (H ++ [.cells true 1 (l.flatMap intC)])) := by
 subst hL
 refine valQ (fun i => .slice (some ⟨i, 0, some 1⟩) l.length l.length) (Eq.mpr (ECopyB l) ?_) (plainIL 0 l) (fun n => plainIL n _) rfl rfl (fun _ => rfl) e rfl
 delta RCopyB jac ja3 jax jar
 refine ⟨fun h => ⟨⟨by omega, h⟩, rfl, ?_, trivial, trivial⟩, fun h => ⟨⟨by omega, h, rfl, ⟨Nat.le_refl _, flat_le intC_len _⟩, one1_take one1_I⟩, rfl, rfl, ?_, ⟨?_, plainIL _ _⟩, trivial⟩⟩
 ·rw [h]; exact wk_nil _ _ _ (.inl rfl)
 ·rw [Nat.zero_add]; exact wk_Q (by omega)
 ·rw [copy_I]; rfl
def shortI (X : List (List Int)) : Prop := ∀ k, k < X.length -> (X.getD k []).length <= 4294967296
theorem kRows (L : List (List Int)) (hl : L.length <= 4294967296) (hs : shortI L) {H : Heap} {N : Nat} (hN : H.length = N) {i : Nat} {o : Bool} {z : Nat} (e : H[i]? = some (.cells o z (inL L))) :
  KCall prog 50 [.slice (some ⟨i, 0, some 2⟩) L.length L.length] H [] (Is (.slice (some ⟨N, 0, some 1⟩) L.length L.length) (H ++ [.cells true 1 (inL L)])) := by
 subst hN
 refine valQ (fun i => .slice (some ⟨i, 0, some 1⟩) L.length L.length) (Eq.mpr (Erows L) ?_) (inL_b 0 L) (fun n => inL_b n _) rfl rfl (fun _ => rfl) e rfl
 delta Rrows jas jap jac jaq jai ja7 ja8 ja5 jal
 refine ⟨rfl, Nat.zero_le _, ?_, fun _ => rfl, ?_⟩
 ·repeat' first | exact inL_b _ _ | exact plainIL _ _ | exact plainRQ _ _ | exact (inV_rn _ 0 _).symm | exact wk_QR | exact trivial | exact rfl | exact wk_refl _ | refine wkO_cells ?_ | refine wks_cons ?_ ?_ | exact wks_nil | exact wk_nil _ _ _ (.inl rfl) | (exact wk_Q (by omega)) | refine wk_tupL ?_ | refine wk_aggL ?_ | refine joinMax ?_ ?_ ?_ | refine joinMin ?_ ?_ ?_ | refine toMax ?_ | refine toMin ?_ | refine ⟨rfl, ?_⟩ | refine ⟨trivial, ?_⟩ | (refine forkD (fun h => ?_) (fun h => ?_)) | (refine forkNe (fun h => ?_) (fun h => ?_)) | (refine forkEq (fun h => ?_) (fun h => ?_)) | refine forkNot ?_ | (refine ⟨vI64 (by omega), ?_⟩) | (refine And.intro (by omega) ?_) | apply And.intro | (exact iEq (by omega)) | (exact vI64 (by omega))
 intro x hx
 have htl : (List.take x L).length = x := take_len hx
 refine forkD (fun h => ?_) (fun h => ?_)
 ·have hlt : x < L.length := by omega
  have hsn := take_snoc (d := []) hlt
  have hb : inL (List.take (x + 1) L) = inL (List.take x L) ++ [inV (L.getD x [])] := by rw [hsn]; exact List.map_append ..
  have hk : List.take (x * 1) (List.drop 0 (inL (List.take x L))) = inL (List.take x L) := by rw [List.drop_zero, List.take_of_length_le (by rw [inL_len, htl]; omega)]
  refine ⟨by omega, inL_at hlt (by omega), trivial, fun H' hl' _ => kCopyD _ (hs x hlt) hl', ⟨by omega, by decide, ⟨Nat.le_refl _, by rw [inL_len, htl]; omega⟩, ⟨Nat.le_refl _, Nat.le_refl _⟩, rfl⟩, rfl, vI64 (by omega), x + 1, by omega, by omega, rfl, ?_⟩
  repeat' first | exact inL_b _ _ | exact plainIL _ _ | exact plainRQ _ _ | exact (inV_rn _ 0 _).symm | exact wk_QR | (exact congrArg (fun l => some (KObj.cells true 1 l)) (by rw [hb, hk]; rfl)) | exact trivial | exact rfl | exact wk_refl _ | refine wkO_cells ?_ | refine wks_cons ?_ ?_ | exact wks_nil | exact wk_nil _ _ _ (.inl rfl) | (exact wk_Q (by omega)) | refine wk_tupL ?_ | refine wk_aggL ?_ | refine joinMax ?_ ?_ ?_ | refine joinMin ?_ ?_ ?_ | refine toMax ?_ | refine toMin ?_ | refine ⟨rfl, ?_⟩ | refine ⟨trivial, ?_⟩ | (refine forkD (fun h => ?_) (fun h => ?_)) | (refine forkNe (fun h => ?_) (fun h => ?_)) | (refine forkEq (fun h => ?_) (fun h => ?_)) | refine forkNot ?_ | (refine ⟨vI64 (by omega), ?_⟩) | (refine And.intro (by omega) ?_) | apply And.intro | (exact iEq (by omega)) | (exact vI64 (by omega))
 ·obtain rfl : x = L.length := by omega
  rw [List.take_length]
  repeat' first | exact inL_b _ _ | exact plainIL _ _ | exact plainRQ _ _ | exact (inV_rn _ 0 _).symm | exact wk_QR | exact trivial | exact rfl | exact wk_refl _ | refine wkO_cells ?_ | refine wks_cons ?_ ?_ | exact wks_nil | exact wk_nil _ _ _ (.inl rfl) | (exact wk_Q (by omega)) | refine wk_tupL ?_ | refine wk_aggL ?_ | refine joinMax ?_ ?_ ?_ | refine joinMin ?_ ?_ ?_ | refine toMax ?_ | refine toMin ?_ | refine ⟨rfl, ?_⟩ | refine ⟨trivial, ?_⟩ | (refine forkD (fun h => ?_) (fun h => ?_)) | (refine forkNe (fun h => ?_) (fun h => ?_)) | (refine forkEq (fun h => ?_) (fun h => ?_)) | refine forkNot ?_ | (refine ⟨vI64 (by omega), ?_⟩) | (refine And.intro (by omega) ?_) | apply And.intro | (exact iEq (by omega)) | (exact vI64 (by omega))
theorem kFleet (f : Fleet) (hl : f.t.length <= 4294967296) (hb : f.b.length <= 4294967296) (hs : shortI f.t) {H : Heap} {N : Nat} (hN : H.length = N) {i j : Nat} {o o2 : Bool} {z z2 : Nat} (e : H[i]? = some (.cells o z (inL f.t))) (e2 : H[j]? = some (.cells o2 z2 (f.b.flatMap intC))) :
  KCall prog 15 [fleetV f i j] H [] (Is (fleetV f N (N + 1) 1) (H ++ [.cells true 1 (inL f.t), .cells true 1 (f.b.flatMap intC)])) := by
 subst hN
 refine valNs (fun i => fleetV f i (i + 1) 1) (css := [inL f.t, f.b.flatMap intC]) (new := [.cells true 1 (inL f.t), .cells true 1 (f.b.flatMap intC)]) (Eq.mpr (EFleet f) ?_) ⟨inL_b 0 _, plainIL 0 _, trivial⟩ ⟨⟨_, _, rfl, inL_b 0 _⟩, ⟨_, _, rfl, plainIL 0 _⟩, trivial⟩ rfl rfl (fun _ => rfl) (ids := [i, j]) ⟨⟨_, _, e⟩, ⟨_, _, e2⟩, trivial⟩ rfl
 delta RFleet jaj
 refine ⟨⟨rfl, trivial⟩, fun H' hl' hd => kRows f.t hl hs hl' hd.1, ⟨rfl, trivial⟩, fun H' hl' hd => kCopyB f.b hb hl' hd.1, ?_⟩
 repeat' first | exact inL_b _ _ | exact plainIL _ _ | exact plainRQ _ _ | exact (inV_rn _ 0 _).symm | exact wk_QR | exact trivial | exact rfl | exact wk_refl _ | refine wkO_cells ?_ | refine wks_cons ?_ ?_ | exact wks_nil | exact wk_nil _ _ _ (.inl rfl) | (exact wk_Q (by omega)) | refine wk_tupL ?_ | refine wk_aggL ?_ | refine joinMax ?_ ?_ ?_ | refine joinMin ?_ ?_ ?_ | refine toMax ?_ | refine toMin ?_ | refine ⟨rfl, ?_⟩ | refine ⟨trivial, ?_⟩ | (refine forkD (fun h => ?_) (fun h => ?_)) | (refine forkNe (fun h => ?_) (fun h => ?_)) | (refine forkEq (fun h => ?_) (fun h => ?_)) | refine forkNot ?_ | (refine ⟨vI64 (by omega), ?_⟩) | (refine And.intro (by omega) ?_) | apply And.intro | (exact iEq (by omega)) | (exact vI64 (by omega))
theorem kRequests (l : List Rq) (hl : l.length <= 4294967296) {H : Heap} {N : Nat} (hN : H.length = N) {i : Nat} {o : Bool} {z : Nat} (e : H[i]? = some (.cells o z (l.flatMap rqC))) :
  KCall prog 16 [.slice (some ⟨i, 0, some 2⟩) l.length l.length] H [] (Is (.slice (some ⟨N, 0, some 1⟩) l.length l.length) (H ++ [.cells true 7 (l.flatMap rqC)])) := by
 subst hN
 refine valQ (fun i => .slice (some ⟨i, 0, some 1⟩) l.length l.length) (Eq.mpr (ERequests l) ?_) (plainRQ 0 l) (fun n => plainRQ n _) rfl rfl (fun _ => rfl) e rfl
 delta RRequests jas jap jac jaq jai ja7 ja6 jaa ja2 ja5 jal
 refine ⟨rfl, Nat.zero_le _, ?_, fun _ => rfl, ?_⟩
 ·repeat' first | exact inL_b _ _ | exact plainIL _ _ | exact plainRQ _ _ | exact (inV_rn _ 0 _).symm | exact wk_QR | exact trivial | exact rfl | exact wk_refl _ | refine wkO_cells ?_ | refine wks_cons ?_ ?_ | exact wks_nil | exact wk_nil _ _ _ (.inl rfl) | (exact wk_Q (by omega)) | refine wk_tupL ?_ | refine wk_aggL ?_ | refine joinMax ?_ ?_ ?_ | refine joinMin ?_ ?_ ?_ | refine toMax ?_ | refine toMin ?_ | refine ⟨rfl, ?_⟩ | refine ⟨trivial, ?_⟩ | (refine forkD (fun h => ?_) (fun h => ?_)) | (refine forkNe (fun h => ?_) (fun h => ?_)) | (refine forkEq (fun h => ?_) (fun h => ?_)) | refine forkNot ?_ | (refine ⟨vI64 (by omega), ?_⟩) | (refine And.intro (by omega) ?_) | apply And.intro | (exact iEq (by omega)) | (exact vI64 (by omega))
 intro x hx
 have htl : (List.take x l).length = x := take_len hx
 refine forkD (fun h => ?_) (fun h => ?_)
 ·have hlt : x < l.length := by omega
  have hsn := take_snoc (d := zeroQ) hlt
  refine ⟨by omega, partQ hlt (by omega), ⟨by omega, by decide, ⟨Nat.le_refl _, by rw [flat_len rqC_len, htl]; omega⟩, ⟨by decide, Nat.le_refl _⟩, rfl⟩, rfl, vI64 (by omega), x + 1, by omega, by omega, rfl, ?_⟩
  repeat' first | exact inL_b _ _ | exact plainIL _ _ | exact plainRQ _ _ | exact (inV_rn _ 0 _).symm | exact wk_QR | (exact congrArg (fun l => some (KObj.cells true 7 l)) (by rw [hsn]; exact flat_snoc rqC_len _ (l.getD x zeroQ) htl.symm)) | exact trivial | exact rfl | exact wk_refl _ | refine wkO_cells ?_ | refine wks_cons ?_ ?_ | exact wks_nil | exact wk_nil _ _ _ (.inl rfl) | (exact wk_Q (by omega)) | refine wk_tupL ?_ | refine wk_aggL ?_ | refine joinMax ?_ ?_ ?_ | refine joinMin ?_ ?_ ?_ | refine toMax ?_ | refine toMin ?_ | refine ⟨rfl, ?_⟩ | refine ⟨trivial, ?_⟩ | (refine forkD (fun h => ?_) (fun h => ?_)) | (refine forkNe (fun h => ?_) (fun h => ?_)) | (refine forkEq (fun h => ?_) (fun h => ?_)) | refine forkNot ?_ | (refine ⟨vI64 (by omega), ?_⟩) | (refine And.intro (by omega) ?_) | apply And.intro | (exact iEq (by omega)) | (exact vI64 (by omega))
 ·obtain rfl : x = l.length := by omega
  rw [List.take_length]
  repeat' first | exact inL_b _ _ | exact plainIL _ _ | exact plainRQ _ _ | exact (inV_rn _ 0 _).symm | exact wk_QR | exact trivial | exact rfl | exact wk_refl _ | refine wkO_cells ?_ | refine wks_cons ?_ ?_ | exact wks_nil | exact wk_nil _ _ _ (.inl rfl) | (exact wk_Q (by omega)) | refine wk_tupL ?_ | refine wk_aggL ?_ | refine joinMax ?_ ?_ ?_ | refine joinMin ?_ ?_ ?_ | refine toMax ?_ | refine toMin ?_ | refine ⟨rfl, ?_⟩ | refine ⟨trivial, ?_⟩ | (refine forkD (fun h => ?_) (fun h => ?_)) | (refine forkNe (fun h => ?_) (fun h => ?_)) | (refine forkEq (fun h => ?_) (fun h => ?_)) | refine forkNot ?_ | (refine ⟨vI64 (by omega), ?_⟩) | (refine And.intro (by omega) ?_) | apply And.intro | (exact iEq (by omega)) | (exact vI64 (by omega))
theorem kSameD (x : List Int) (hx : x.length <= 4294967296) (H : Heap) : KCall prog 44 [inV x, inV x] H [] (Is (.bool true) H) := by
 refine valK 40 (fun σ => by have := inV_rn σ 2 x; show [rn σ (2 + 3) (inV x), rn σ (2 + 3) (inV x)] = _; rw [this]; rfl) rfl (Eq.mpr (ESameD _ x) ?_) H
 delta RSameD ja4 jae jas jap ja1 jav jah jai ja7 jan ja5 jal jag
 refine forkF (bne_self_eq_false _) ⟨rfl, Nat.zero_le _, ?_, fun _ => rfl, ?_⟩
 ·repeat' first | exact inL_b _ _ | exact plainIL _ _ | exact plainRQ _ _ | exact (inV_rn _ 0 _).symm | exact wk_QR | exact trivial | exact rfl | exact wk_refl _ | refine wkO_cells ?_ | refine wks_cons ?_ ?_ | exact wks_nil | exact wk_nil _ _ _ (.inl rfl) | (exact wk_Q (by omega)) | refine wk_tupL ?_ | refine wk_aggL ?_ | refine joinMax ?_ ?_ ?_ | refine joinMin ?_ ?_ ?_ | refine toMax ?_ | refine toMin ?_ | refine ⟨rfl, ?_⟩ | refine ⟨trivial, ?_⟩ | (refine forkD (fun h => ?_) (fun h => ?_)) | (refine forkNe (fun h => ?_) (fun h => ?_)) | (refine forkEq (fun h => ?_) (fun h => ?_)) | refine forkNot ?_ | (refine ⟨vI64 (by omega), ?_⟩) | (refine And.intro (by omega) ?_) | apply And.intro | (exact iEq (by omega)) | (exact vI64 (by omega))
 intro k hk
 refine forkD (fun h => ?_) (fun h => rfl)
 have hlt : k < x.length := by omega
 refine ⟨by omega, intAt hlt (by omega), by omega, intAt hlt (by omega), forkF (bne_self_eq_false _) ⟨vI64 (by omega), k + 1, by omega, by omega, rfl, ?_⟩⟩
 repeat' first | exact inL_b _ _ | exact plainIL _ _ | exact plainRQ _ _ | exact (inV_rn _ 0 _).symm | exact wk_QR | exact trivial | exact rfl | exact wk_refl _ | refine wkO_cells ?_ | refine wks_cons ?_ ?_ | exact wks_nil | exact wk_nil _ _ _ (.inl rfl) | (exact wk_Q (by omega)) | refine wk_tupL ?_ | refine wk_aggL ?_ | refine joinMax ?_ ?_ ?_ | refine joinMin ?_ ?_ ?_ | refine toMax ?_ | refine toMin ?_ | refine ⟨rfl, ?_⟩ | refine ⟨trivial, ?_⟩ | (refine forkD (fun h => ?_) (fun h => ?_)) | (refine forkNe (fun h => ?_) (fun h => ?_)) | (refine forkEq (fun h => ?_) (fun h => ?_)) | refine forkNot ?_ | (refine ⟨vI64 (by omega), ?_⟩) | (refine And.intro (by omega) ?_) | apply And.intro | (exact iEq (by omega)) | (exact vI64 (by omega))
theorem kSameB (x : List Int) (hx : x.length <= 4294967296) {H : Heap} {i0 i1 : Nat} {o0 o1 : Bool} {z0 z1 : Nat} (e0 : H[i0]? = some (.cells o0 z0 (x.flatMap intC))) (e1 : H[i1]? = some (.cells o1 z1 (x.flatMap intC))) :
  KCall prog 44 [.slice (some ⟨i0, 0, some 2⟩) x.length x.length, .slice (some ⟨i1, 0, some 2⟩) x.length x.length] H [] (Is (.bool true) H) := by
 refine valRx (Eq.mpr (ESameB _ x) ?_) ⟨plainIL 0 x, plainIL 0 x, trivial⟩ rfl (ids := [i0, i1]) ⟨⟨_, _, e0⟩, ⟨_, _, e1⟩, trivial⟩ rfl
 delta RSameB ja4 jae jas jap jah jai ja7 jan ja5 jal jag
 refine forkF (bne_self_eq_false _) ⟨rfl, Nat.zero_le _, ?_, fun _ => rfl, ?_⟩
 ·repeat' first | exact inL_b _ _ | exact plainIL _ _ | exact plainRQ _ _ | exact (inV_rn _ 0 _).symm | exact wk_QR | exact trivial | exact rfl | exact wk_refl _ | refine wkO_cells ?_ | refine wks_cons ?_ ?_ | exact wks_nil | exact wk_nil _ _ _ (.inl rfl) | (exact wk_Q (by omega)) | refine wk_tupL ?_ | refine wk_aggL ?_ | refine joinMax ?_ ?_ ?_ | refine joinMin ?_ ?_ ?_ | refine toMax ?_ | refine toMin ?_ | refine ⟨rfl, ?_⟩ | refine ⟨trivial, ?_⟩ | (refine forkD (fun h => ?_) (fun h => ?_)) | (refine forkNe (fun h => ?_) (fun h => ?_)) | (refine forkEq (fun h => ?_) (fun h => ?_)) | refine forkNot ?_ | (refine ⟨vI64 (by omega), ?_⟩) | (refine And.intro (by omega) ?_) | apply And.intro | (exact iEq (by omega)) | (exact vI64 (by omega))
 intro k hk
 refine forkD (fun h => ?_) (fun h => rfl)
 have hlt : k < x.length := by omega
 refine ⟨by omega, intAt hlt (by omega), by omega, intAt hlt (by omega), forkF (bne_self_eq_false _) ⟨vI64 (by omega), k + 1, by omega, by omega, rfl, ?_⟩⟩
 repeat' first | exact inL_b _ _ | exact plainIL _ _ | exact plainRQ _ _ | exact (inV_rn _ 0 _).symm | exact wk_QR | exact trivial | exact rfl | exact wk_refl _ | refine wkO_cells ?_ | refine wks_cons ?_ ?_ | exact wks_nil | exact wk_nil _ _ _ (.inl rfl) | (exact wk_Q (by omega)) | refine wk_tupL ?_ | refine wk_aggL ?_ | refine joinMax ?_ ?_ ?_ | refine joinMin ?_ ?_ ?_ | refine toMax ?_ | refine toMin ?_ | refine ⟨rfl, ?_⟩ | refine ⟨trivial, ?_⟩ | (refine forkD (fun h => ?_) (fun h => ?_)) | (refine forkNe (fun h => ?_) (fun h => ?_)) | (refine forkEq (fun h => ?_) (fun h => ?_)) | refine forkNot ?_ | (refine ⟨vI64 (by omega), ?_⟩) | (refine And.intro (by omega) ?_) | apply And.intro | (exact iEq (by omega)) | (exact vI64 (by omega))
theorem kSameRows (X : List (List Int)) (hX : X.length <= 4294967296) (hs : shortI X) {H : Heap} {i0 i1 : Nat} {o0 o1 : Bool} {z0 z1 : Nat} (e0 : H[i0]? = some (.cells o0 z0 (inL X))) (e1 : H[i1]? = some (.cells o1 z1 (inL X))) :
  KCall prog 49 [.slice (some ⟨i0, 0, some 2⟩) X.length X.length, .slice (some ⟨i1, 0, some 2⟩) X.length X.length] H [] (Is (.bool true) H) := by
 refine valRx (Eq.mpr (EsameRows _ X) ?_) ⟨inL_b 0 X, inL_b 0 X, trivial⟩ rfl (ids := [i0, i1]) ⟨⟨_, _, e0⟩, ⟨_, _, e1⟩, trivial⟩ rfl
 delta RsameRows jak jae jas jap jah jai ja7 ja9 ja5 jal jag
 refine forkF (bne_self_eq_false _) ⟨rfl, Nat.zero_le _, ?_, fun _ => rfl, ?_⟩
 ·repeat' first | exact inL_b _ _ | exact plainIL _ _ | exact plainRQ _ _ | exact (inV_rn _ 0 _).symm | exact wk_QR | exact trivial | exact rfl | exact wk_refl _ | refine wkO_cells ?_ | refine wks_cons ?_ ?_ | exact wks_nil | exact wk_nil _ _ _ (.inl rfl) | (exact wk_Q (by omega)) | refine wk_tupL ?_ | refine wk_aggL ?_ | refine joinMax ?_ ?_ ?_ | refine joinMin ?_ ?_ ?_ | refine toMax ?_ | refine toMin ?_ | refine ⟨rfl, ?_⟩ | refine ⟨trivial, ?_⟩ | (refine forkD (fun h => ?_) (fun h => ?_)) | (refine forkNe (fun h => ?_) (fun h => ?_)) | (refine forkEq (fun h => ?_) (fun h => ?_)) | refine forkNot ?_ | (refine ⟨vI64 (by omega), ?_⟩) | (refine And.intro (by omega) ?_) | apply And.intro | (exact iEq (by omega)) | (exact vI64 (by omega))
 intro k hk
 refine forkD (fun h => ?_) (fun h => rfl)
 have hlt : k < X.length := by omega
 refine ⟨by omega, inL_at hlt (by omega), by omega, inL_at hlt (by omega), trivial, fun H' _ _ => kSameD _ (hs k hlt) H', vI64 (by omega), k + 1, by omega, by omega, rfl, ?_⟩
 repeat' first | exact inL_b _ _ | exact plainIL _ _ | exact plainRQ _ _ | exact (inV_rn _ 0 _).symm | exact wk_QR | exact trivial | exact rfl | exact wk_refl _ | refine wkO_cells ?_ | refine wks_cons ?_ ?_ | exact wks_nil | exact wk_nil _ _ _ (.inl rfl) | (exact wk_Q (by omega)) | refine wk_tupL ?_ | refine wk_aggL ?_ | refine joinMax ?_ ?_ ?_ | refine joinMin ?_ ?_ ?_ | refine toMax ?_ | refine toMin ?_ | refine ⟨rfl, ?_⟩ | refine ⟨trivial, ?_⟩ | (refine forkD (fun h => ?_) (fun h => ?_)) | (refine forkNe (fun h => ?_) (fun h => ?_)) | (refine forkEq (fun h => ?_) (fun h => ?_)) | refine forkNot ?_ | (refine ⟨vI64 (by omega), ?_⟩) | (refine And.intro (by omega) ?_) | apply And.intro | (exact iEq (by omega)) | (exact vI64 (by omega))
theorem kKept (f : Fleet) (l : List Rq) (ht : f.t.length <= 4294967296) (hb : f.b.length <= 4294967296) (hl : l.length <= 4294967296) (hs : shortI f.t) {H : Heap} {i0 i1 i2 i3 i4 i5 : Nat} {o0 o1 o2 o3 o4 o5 : Bool} {z0 z1 z2 z3 z4 z5 : Nat}
  (e0 : H[i0]? = some (.cells o0 z0 (inL f.t))) (e1 : H[i1]? = some (.cells o1 z1 (f.b.flatMap intC))) (e2 : H[i2]? = some (.cells o2 z2 (inL f.t))) (e3 : H[i3]? = some (.cells o3 z3 (f.b.flatMap intC))) (e4 : H[i4]? = some (.cells o4 z4 (l.flatMap rqC))) (e5 : H[i5]? = some (.cells o5 z5 (l.flatMap rqC))) :
  KCall prog 25 [fleetV f i0 i1, fleetV f i2 i3, .slice (some ⟨i4, 0, some 2⟩) l.length l.length, .slice (some ⟨i5, 0, some 2⟩) l.length l.length] H [] (Is (.bool true) H) := by
 refine valRx (Eq.mpr (Ekept _ f l) ?_) ⟨inL_b 0 _, plainIL 0 _, inL_b 0 _, plainIL 0 _, plainRQ 0 _, plainRQ 0 _, trivial⟩ rfl (ids := [i0, i1, i2, i3, i4, i5]) ⟨⟨_, _, e0⟩, ⟨_, _, e1⟩, ⟨_, _, e2⟩, ⟨_, _, e3⟩, ⟨_, _, e4⟩, ⟨_, _, e5⟩, trivial⟩ rfl
 delta Rkept jaj ja6 jae jas jap jao jab jaf ja0 jag
 refine ⟨⟨rfl, rfl, trivial⟩, fun H' _ hd => kSameRows f.t ht hs hd.1 hd.2.1, ⟨rfl, rfl, trivial⟩, fun H' _ hd => kSameB f.b hb hd.1 hd.2.1, forkF (bne_self_eq_false _) ⟨rfl, Nat.zero_le _, ?_, fun _ => rfl, ?_⟩⟩
 ·repeat' first | exact inL_b _ _ | exact plainIL _ _ | exact plainRQ _ _ | exact (inV_rn _ 0 _).symm | exact wk_QR | exact trivial | exact rfl | exact wk_refl _ | refine wkO_cells ?_ | refine wks_cons ?_ ?_ | exact wks_nil | exact wk_nil _ _ _ (.inl rfl) | (exact wk_Q (by omega)) | refine wk_tupL ?_ | refine wk_aggL ?_ | refine joinMax ?_ ?_ ?_ | refine joinMin ?_ ?_ ?_ | refine toMax ?_ | refine toMin ?_ | refine ⟨rfl, ?_⟩ | refine ⟨trivial, ?_⟩ | (refine forkD (fun h => ?_) (fun h => ?_)) | (refine forkNe (fun h => ?_) (fun h => ?_)) | (refine forkEq (fun h => ?_) (fun h => ?_)) | refine forkNot ?_ | (refine ⟨vI64 (by omega), ?_⟩) | (refine And.intro (by omega) ?_) | apply And.intro | (exact iEq (by omega)) | (exact vI64 (by omega))
 intro k hk
 refine forkD (fun h => ?_) (fun h => rfl)
 have hlt : k < l.length := by omega
 refine ⟨by omega, partQ hlt (by omega), by omega, partQ hlt (by omega), forkF (by simp only [beq_self_eq_true, Bool.and_self, Bool.not_true]) ⟨vI64 (by omega), k + 1, by omega, by omega, rfl, ?_⟩⟩
 repeat' first | exact inL_b _ _ | exact plainIL _ _ | exact plainRQ _ _ | exact (inV_rn _ 0 _).symm | exact wk_QR | exact trivial | exact rfl | exact wk_refl _ | refine wkO_cells ?_ | refine wks_cons ?_ ?_ | exact wks_nil | exact wk_nil _ _ _ (.inl rfl) | (exact wk_Q (by omega)) | refine wk_tupL ?_ | refine wk_aggL ?_ | refine joinMax ?_ ?_ ?_ | refine joinMin ?_ ?_ ?_ | refine toMax ?_ | refine toMin ?_ | refine ⟨rfl, ?_⟩ | refine ⟨trivial, ?_⟩ | (refine forkD (fun h => ?_) (fun h => ?_)) | (refine forkNe (fun h => ?_) (fun h => ?_)) | (refine forkEq (fun h => ?_) (fun h => ?_)) | refine forkNot ?_ | (refine ⟨vI64 (by omega), ?_⟩) | (refine And.intro (by omega) ?_) | apply And.intro | (exact iEq (by omega)) | (exact vI64 (by omega))
end
end Go.Proofs.YthdekmpkioikdaaGreat
/- What is to be shown of functions. Printed by a program. No condition. -/
namespace Go.Proofs.YthdekmpkioikdaaGreat
set_option linter.unusedSimpArgs false
open Go Go.K
set_option maxRecDepth 100000
set_option maxHeartbeats 4000000
set_option linter.unusedVariables false
noncomputable section
abbrev jbd : Value:=nI 0
abbrev jbt : Int:=(0 : Nat)
abbrev jb6 (l : List Int) : Value:=.iface (l.length + 1) (.agg ⟨(l.flatMap intC)⟩)
abbrev jb8 (l : List Int) : Int:=(l.length : Nat)
abbrev jbp (l : List Int) : Prop:=(.func (.func 132) #[] #[] : Value) = .func (.func 132) #[] #[] /\ (jb6 l) = rn (sg 0 []) 3 (jb6 l) /\ (nI (jb8 l) : Value) = nI (jb8 l) /\ True
abbrev jbc : Prop:=(True) /\ (True)
abbrev jb1b : Prop:=(True) /\ jbc
abbrev jbl : Prop:=∀ x0 : Nat,true = true
abbrev jbj (x0 : Nat) : Int:=(x0 : Int)
abbrev jb1g (x0 : Nat) : Value:=.bool (decide ((0 : Int) <= (x0 : Int)))
abbrev jbe (x0 : Nat) : Value:=nI (IntKind.wrap .i64 ((x0 : Int) + 1))
abbrev jb14 (x0 : Nat) : Value:=nI ((x0 : Int) + 1)
def RanyT (sp : Value) (l : List Int) : Prop :=
 (true = true /\ (0 <= List.length l /\ List.any (l.take 0) badT = false) /\ (true = true /\ (jbd = nI jbt /\ jbp l) /\ jb1b) /\ jbl /\ ∀ x0 : Nat,(x0 <= List.length l /\ List.any (l.take x0) badT = false) -> (((decide ((jbj x0) < (jb8 l))) = true -> (((0 : Int) <= (x0 : Int) /\ (jbj x0) < (jb8 l)) /\ (((l.flatMap intC)[(Int.toNat (x0 : Int) * 1)]? = some (nI (l.getD x0 0))) /\ ((True) /\ (∀ H' : Heap,H'.length = 0 -> (True) -> KCall prog 107 [nI (l.getD x0 0),nI 0,nI 100] H' [] (Is (.bool (inB (l.getD x0 0) 0 100)) H')) /\ (((!(inB (l.getD x0 0) 0 100)) = true -> (jb1g x0) = sp) /\ ((!(inB (l.getD x0 0) 0 100)) = false -> ((jbe x0) = nI ((x0 : Int) + 1) /\ (∃ x0' : Nat,(x0' <= List.length l /\ List.any (l.take x0') badT = false) /\ (List.length l - x0') < (List.length l - x0) /\ true = true /\ ((jb14 x0) = nI (x0' : Int) /\ jbp l) /\ jb1b)))))))) /\ ((decide ((jbj x0) < (jb8 l))) = false -> (.bool false : Value) = sp)))
abbrev jbk : Hint:=.go 0 (.again [])
abbrev jb13 (x0 : Nat) : Hint:=.fork (.auto) (.go 0 (.slot 18 (nI ((x0 : Int) + 1)) jbk))
theorem EanyT (sp : Value) (l : List Int) : vF prog msk (dm 0) 100000 true 40 true 131 [.iface (l.length + 1) (.agg ⟨(l.flatMap intC)⟩),.func (.func 132) #[] #[]] ⟨0,.leaf⟩ (some [])
 (.go 7 (.inv 3 (Nat) (0) [] [] (fun x0 => [(8,nI (x0 : Int)),(1,.func (.func 132) #[] #[]),(0,.iface (l.length + 1) (.agg ⟨(l.flatMap intC)⟩)),(7,nI (jb8 l))]) (fun x0 => []) (fun x0 => []) (fun x0 => []) (fun x0 => (x0 <= List.length l /\ List.any (l.take x0) badT = false)) (fun x0 => (List.length l - x0)) (fun x0 => .go 0 (.fork (.go 4 (.need (.val (nI (l.getD x0 0)) (.go 2 (.ans [] (.bool (inB (l.getD x0 0) 0 100)) [] (.go 1 (jb13 x0))))))) (.auto)))))
 (fun v _ _ => v = sp) = RanyT sp l:=by kernel_rfl
abbrev jbh (l : List Int) : Prop:=(.func (.func 133) #[] #[.pointer (some ⟨1,0,none⟩)] : Value) = .func (.func 133) #[] #[.pointer (some ⟨1,0,none⟩)] /\ wkR (slQ 0 2 l.length) /\ (nI (jb8 l) : Value) = nI (jb8 l) /\ True
abbrev jb1r (l : List Int) (x0 : Nat) (n : Nat):=inB (l.getD x0 0) 0 (((n : Nat) : Int) - 1)
def RanyA (sp : Value) (l : List Int) (n : Nat) : Prop :=
 (true = true /\ (0 <= List.length l /\ List.any (l.take 0) (badA n) = false) /\ (true = true /\ (jbd = nI jbt /\ jbh l) /\ jb1b) /\ jbl /\ ∀ x0 : Nat,(x0 <= List.length l /\ List.any (l.take x0) (badA n) = false) -> (((decide ((jbj x0) < (jb8 l))) = true -> (((0 : Int) <= (x0 : Int) /\ (jbj x0) < (jb8 l)) /\ (((l.flatMap intC)[(0 + Int.toNat (x0 : Int) * 1)]? = some (nI (l.getD x0 0))) /\ ((nI (IntKind.wrap .i64 (((n : Nat) : Int) - 1)) : Value) = nI (((n : Nat) : Int) - 1) /\ ((True) /\ (∀ H' : Heap,H'.length = 2 -> (True) -> KCall prog 107 [nI (l.getD x0 0),nI 0,nI (((n : Nat) : Int) - 1)] H' [] (Is (.bool (jb1r l x0 n)) H')) /\ (((!(jb1r l x0 n)) = true -> (jb1g x0) = sp) /\ ((!(jb1r l x0 n)) = false -> ((jbe x0) = nI ((x0 : Int) + 1) /\ (∃ x0' : Nat,(x0' <= List.length l /\ List.any (l.take x0') (badA n) = false) /\ (List.length l - x0') < (List.length l - x0) /\ true = true /\ ((jb14 x0) = nI (x0' : Int) /\ jbh l) /\ jb1b))))))))) /\ ((decide ((jbj x0) < (jb8 l))) = false -> (.bool false : Value) = sp)))
theorem EanyA (sp : Value) (l : List Int) (n : Nat) : vF prog msk (dm 0) 100000 true 40 true 131 [slQ 0 2 l.length,.func (.func 133) #[] #[.pointer (some ⟨1,0,none⟩)]] (readsT 0 [l.flatMap intC,intC (n : Int)]) (some [])
 (.go 7 (.inv 3 (Nat) (0) [] [] (fun x0 => [(8,nI (x0 : Int)),(1,.func (.func 133) #[] #[.pointer (some ⟨1,0,none⟩)]),(0,slQ 0 2 l.length),(7,nI (jb8 l))]) (fun x0 => []) (fun x0 => []) (fun x0 => []) (fun x0 => (x0 <= List.length l /\ List.any (l.take x0) (badA n) = false)) (fun x0 => (List.length l - x0)) (fun x0 => .go 0 (.fork (.go 4 (.need (.val (nI (l.getD x0 0)) (.go 4 (.slot 6 (nI (((n : Nat) : Int) - 1)) (.ans [] (.bool (jb1r l x0 n)) [] (.go 1 (jb13 x0)))))))) (.auto)))))
 (fun v _ _ => v = sp) = RanyA sp l n:=by kernel_rfl
abbrev jbw : Value:=nI 81
abbrev jb1c (p : Pol):=inB p.warn 0 10000
abbrev jb1v (p : Pol) (sp : Value) : Prop:=((!(inB p.w2 0 100)) = true -> jbw = sp) /\ ((!(inB p.w2 0 100)) = false -> jbd = sp)
def Rpol (sp : Value) (p : Pol) : Prop :=
 ((True) /\ (∀ H' : Heap,H'.length = 1 -> (True) -> KCall prog 107 [nI p.ov,nI 0,nI 30] H' [] (Is (.bool (inB p.ov 0 30)) H')) /\ (((!(inB p.ov 0 30)) = true -> jbw = sp) /\ ((!(inB p.ov 0 30)) = false -> ((True) /\ (∀ H' : Heap,H'.length = 1 -> (True) -> KCall prog 107 [nI p.warn,nI 0,nI 10000] H' [] (Is (.bool (jb1c p)) H')) /\ (((!(jb1c p)) = true -> jbw = sp) /\ ((!(jb1c p)) = false -> ((True) /\ (∀ H' : Heap,H'.length = 1 -> (True) -> KCall prog 107 [nI p.w0,nI 0,nI 100] H' [] (Is (.bool (inB p.w0 0 100)) H')) /\ (((!(inB p.w0 0 100)) = true -> jbw = sp) /\ ((!(inB p.w0 0 100)) = false -> ((True) /\ (∀ H' : Heap,H'.length = 1 -> (True) -> KCall prog 107 [nI p.w1,nI 0,nI 100] H' [] (Is (.bool (inB p.w1 0 100)) H')) /\ (((!(inB p.w1 0 100)) = true -> jbw = sp) /\ ((!(inB p.w1 0 100)) = false -> ((True) /\ (∀ H' : Heap,H'.length = 1 -> (True) -> KCall prog 107 [nI p.w2,nI 0,nI 100] H' [] (Is (.bool (inB p.w2 0 100)) H')) /\ (jb1v p sp))))))))))))))
abbrev jb16 : Hint:=.fork (.auto) (.auto)
theorem Epol (sp : Value) (p : Pol) : vF prog msk (dm 0) 100000 true 40 true 76 [.agg #[nI p.ov,nI p.warn,nI p.w0,nI p.w1,nI p.w2]] ⟨0,.leaf⟩ (some [])
 (.go 3 (.ans [] (.bool (inB p.ov 0 30)) [] (.go 1 (.gfork (.auto) (.go 1 (.ans [] (.bool (jb1c p)) [] (.go 2 (.gfork (.auto) (.go 22 (.ans [] (.bool (inB p.w0 0 100)) [] (.go 1 (.fork (.auto) (.go 13 (.ans [] (.bool (inB p.w1 0 100)) [] (.go 1 (.fork (.auto) (.go 13 (.ans [] (.bool (inB p.w2 0 100)) [] (.go 1 jb16)))))))))))))))))))
 (fun v _ _ => v = sp) = Rpol sp p:=by kernel_rfl
def Rrpol (sp : Value) (p : Pol) : Prop :=
 ((True) /\ (∀ H' : Heap,H'.length = 1 -> (True) -> KCall prog 137 [nI p.ov,nI 0,nI 30] H' [] (Is (.bool (!(inB p.ov 0 30))) H')) /\ (((!(inB p.ov 0 30)) = true -> jbw = sp) /\ ((!(inB p.ov 0 30)) = false -> ((True) /\ (∀ H' : Heap,H'.length = 1 -> (True) -> KCall prog 137 [nI p.warn,nI 0,nI 10000] H' [] (Is (.bool (!(jb1c p))) H')) /\ (((!(jb1c p)) = true -> jbw = sp) /\ ((!(jb1c p)) = false -> ((True) /\ (∀ H' : Heap,H'.length = 1 -> (True) -> KCall prog 137 [nI p.w0,nI 0,nI 100] H' [] (Is (.bool (!(inB p.w0 0 100))) H')) /\ (((!(inB p.w0 0 100)) = true -> jbw = sp) /\ ((!(inB p.w0 0 100)) = false -> ((True) /\ (∀ H' : Heap,H'.length = 1 -> (True) -> KCall prog 137 [nI p.w1,nI 0,nI 100] H' [] (Is (.bool (!(inB p.w1 0 100))) H')) /\ (((!(inB p.w1 0 100)) = true -> jbw = sp) /\ ((!(inB p.w1 0 100)) = false -> ((True) /\ (∀ H' : Heap,H'.length = 1 -> (True) -> KCall prog 137 [nI p.w2,nI 0,nI 100] H' [] (Is (.bool (!(inB p.w2 0 100))) H')) /\ (jb1v p sp))))))))))))))
theorem Erpol (sp : Value) (p : Pol) : vF prog msk (dm 0) 100000 true 40 true 79 [.agg #[nI p.ov,nI p.warn,nI p.w0,nI p.w1,nI p.w2]] ⟨0,.leaf⟩ (some [])
 (.go 3 (.ans [] (.bool (!(inB p.ov 0 30))) [] (.go 0 (.gfork (.auto) (.go 1 (.ans [] (.bool (!(jb1c p))) [] (.go 0 (.fork (.auto) (.go 7 (.ans [] (.bool (!(inB p.w0 0 100))) [] (.fork (.auto) (.go 9 (.ans [] (.bool (!(inB p.w1 0 100))) [] (.fork (.auto) (.go 9 (.ans [] (.bool (!(inB p.w2 0 100))) [] jb16))))))))))))))))
 (fun v _ _ => v = sp) = Rrpol sp p:=by kernel_rfl
abbrev jb5 (l1_ : List Rq) : Int:=(l1_.length : Nat)
abbrev jbg (l1_ : List Rq) : Prop:=(.func (.func 136) #[] #[.pointer (some ⟨1,0,none⟩)] : Value) = .func (.func 136) #[] #[.pointer (some ⟨1,0,none⟩)] /\ wkR (slQ 0 2 l1_.length) /\ (nI (jb5 l1_) : Value) = nI (jb5 l1_) /\ True
abbrev jb1p (x0 : Nat) (l1_ : List Rq):=decide ((jbj x0) < (jb5 l1_))
abbrev jb1 (l1_ : List Rq) (x0 : Nat):=l1_.getD x0 zeroQ
abbrev jb2 (l1_ : List Rq) (x0 : Nat) : Value:=.agg #[nI (jb1 l1_ x0).id,nI (jb1 l1_ x0).at_,nI (jb1 l1_ x0).place,nI (jb1 l1_ x0).dest,nI (jb1 l1_ x0).len,nI (jb1 l1_ x0).prio,nI (jb1 l1_ x0).limit]
def RanyI (sp : Value) (l1_ m : List Rq) (r : Rq) : Prop :=
 (true = true /\ (0 <= List.length l1_ /\ List.any (l1_.take 0) (sameId r) = false) /\ (true = true /\ (jbd = nI jbt /\ jbg l1_) /\ jb1b) /\ jbl /\ ∀ x0 : Nat,(x0 <= List.length l1_ /\ List.any (l1_.take x0) (sameId r) = false) -> (((jb1p x0 l1_) = true -> (((0 : Int) <= (x0 : Int) /\ (jbj x0) < (jb5 l1_)) /\ ((partA 7 ((l1_ ++ m).flatMap rqC) (0 + Int.toNat (x0 : Int) * 7) = some (jb2 l1_ x0)) /\ (((((jb1 l1_ x0).id : Int) == r.id) = true -> (jb1g x0) = sp) /\ ((((jb1 l1_ x0).id : Int) == r.id) = false -> ((jbe x0) = nI ((x0 : Int) + 1) /\ (∃ x0' : Nat,(x0' <= List.length l1_ /\ List.any (l1_.take x0') (sameId r) = false) /\ (List.length l1_ - x0') < (List.length l1_ - x0) /\ true = true /\ ((jb14 x0) = nI (x0' : Int) /\ jbg l1_) /\ jb1b))))))) /\ ((jb1p x0 l1_) = false -> (.bool false : Value) = sp)))
theorem EanyI (sp : Value) (l1_ m : List Rq) (r : Rq) : vF prog msk (dm 0) 100000 true 40 true 135 [slQ 0 2 l1_.length,.func (.func 136) #[] #[.pointer (some ⟨1,0,none⟩)]] (readsT 0 [(l1_ ++ m).flatMap rqC,rqC r]) (some [])
 (.go 7 (.inv 3 (Nat) (0) [] [] (fun x0 => [(8,nI (x0 : Int)),(1,.func (.func 136) #[] #[.pointer (some ⟨1,0,none⟩)]),(0,slQ 0 2 l1_.length),(7,nI (jb5 l1_))]) (fun x0 => []) (fun x0 => []) (fun x0 => []) (fun x0 => (x0 <= List.length l1_ /\ List.any (l1_.take x0) (sameId r) = false)) (fun x0 => (List.length l1_ - x0)) (fun x0 => .go 0 (.fork (.go 4 (.need (.val (jb2 l1_ x0) (.go 8 (jb13 x0))))) (.auto)))))
 (fun v _ _ => v = sp) = RanyI sp l1_ m r:=by kernel_rfl
abbrev jb0 (f : Fleet) : Int:=(f.t.length : Nat)
abbrev jb1d : Value:=nI 2
abbrev jbf (f : Fleet) : Int:=(f.b.length : Nat)
abbrev jba : Value:=.pointer (some ⟨2,0,none⟩)
abbrev jbi (f : Fleet) : Prop:=jba = .pointer (some ⟨2,0,none⟩) /\ (.pointer (some ⟨3,0,none⟩) : Value) = .pointer (some ⟨3,0,none⟩) /\ wkR (slQ 0 2 f.t.length) /\ (nI (jb0 f) : Value) = nI (jb0 f) /\ True
abbrev jb4 (f : Fleet) : List Value:=[slQ 0 2 f.t.length,slQ 1 2 f.b.length]
abbrev jb18 (f : Fleet) : Prop:=((keptR 4 (.cells true 0 (jb4 f))) /\ (keptR 4 (.cells true 0 [nI (jb0 f)])) /\ True) /\ jbc
abbrev jb1q (x2 : Nat) (f : Fleet):=decide (((x2 : Int) : Int) < (jb0 f))
abbrev jb1t (f : Fleet) (x2 : Nat):=f.t.getD x2 []
abbrev jbb : Value:=nI 80
abbrev jb19 (f : Fleet):=f.b.flatMap intC
abbrev jb1m (f : Fleet):=List.any f.b (badA f.t.length)
def Rfl (sp : Value) (f : Fleet) : Prop :=
 ((True) /\ (∀ H' : Heap,H'.length = 4 -> (True) -> KCall prog 107 [nI (jb0 f),nI 1,nI 12] H' [] (Is (.bool (inB (jb0 f) 1 12)) H')) /\ (((!(inB (jb0 f) 1 12)) = true -> jb1d = sp) /\ ((!(inB (jb0 f) 1 12)) = false -> ((True) /\ (∀ H' : Heap,H'.length = 4 -> (True) -> KCall prog 107 [nI (jbf f),nI 1,nI 3] H' [] (Is (.bool (inB (jbf f) 1 3)) H')) /\ (((!(inB (jbf f) 1 3)) = true -> jb1d = sp) /\ ((!(inB (jbf f) 1 3)) = false -> (true = true /\ (0 <= List.length f.t /\ errUp (errRow f) 0 = 0) /\ (true = true /\ (jbd = nI jbt /\ jbi f) /\ jb18 f) /\ (∀ x2 : Nat,true = true) /\ ∀ x2 : Nat,(x2 <= List.length f.t /\ errUp (errRow f) x2 = 0) -> (((jb1q x2 f) = true -> (((0 : Int) <= (x2 : Int) /\ ((x2 : Int) : Int) < (jb0 f)) /\ (((inL f.t)[(0 + Int.toNat (x2 : Int) * 1)]? = some (.iface ((jb1t f x2).length + 1) (.agg ⟨((jb1t f x2).flatMap intC)⟩))) /\ (∃ y3 : Int,(nI (((jb1t f x2).length : Nat) : Int) : Value) = nI y3 /\ ((((y3 : Int) != (jb0 f)) = true -> jbb = sp) /\ (((y3 : Int) != (jb0 f)) = false -> (((0 : Int) <= (x2 : Int) /\ ((x2 : Int) : Int) < (((jb1t f x2).length : Nat) : Int)) /\ ((((jb1t f x2).flatMap intC)[(Int.toNat (x2 : Int) * 1)]? = some (nI ((jb1t f x2).getD x2 0))) /\ ((((((jb1t f x2).getD x2 0) : Int) != 0) = true -> jbb = sp) /\ (((((jb1t f x2).getD x2 0) : Int) != 0) = false -> ((True) /\ (∀ H' : Heap,H'.length = 4 -> (True) -> KCall prog 131 [.iface ((jb1t f x2).length + 1) (.agg ⟨((jb1t f x2).flatMap intC)⟩),.func (.func 132) #[] #[]] H' [] (Is (.bool (List.any (jb1t f x2) badT)) H')) /\ (((List.any (jb1t f x2) badT) = true -> jbb = sp) /\ ((List.any (jb1t f x2) badT) = false -> ((nI (IntKind.wrap .i64 ((x2 : Int) + 1)) : Value) = nI ((x2 : Int) + 1) /\ (∃ x2' : Nat,(x2' <= List.length f.t /\ errUp (errRow f) x2' = 0) /\ (List.length f.t - x2') < (List.length f.t - x2) /\ true = true /\ ((nI ((x2 : Int) + 1) : Value) = nI (x2' : Int) /\ jbi f) /\ jb18 f))))))))))))))) /\ ((jb1q x2 f) = false -> (((someR (.cells false 0 (jb19 f))) /\ (someR (.cells true 0 [nI (jb0 f)])) /\ True) /\ (∀ H' : Heap,H'.length = 4 -> (H'[1]? = some (.cells false 0 (jb19 f) : KObj) /\ H'[3]? = some (.cells true 0 [nI (jb0 f)] : KObj) /\ True) -> KCall prog 131 [slQ 1 2 f.b.length,.func (.func 133) #[] #[.pointer (some ⟨3,0,none⟩)]] H' [] (Is (.bool (jb1m f)) H')) /\ (((jb1m f) = true -> jbb = sp) /\ ((jb1m f) = false -> jbd = sp))))))))))))
abbrev jb1j (f : Fleet) : List Value:=[.agg #[slQ 0 2 f.t.length,slQ 1 2 f.b.length]]
abbrev jbx : Nat × Value:=(1,.pointer (some ⟨2,0,none⟩))
abbrev jb1n (f : Fleet) : Nat × Bool × KObj:=(2,true,.cells true 0 (jb4 f))
theorem Efl (sp : Value) (f : Fleet) : vF prog msk (dm 0) 100000 true 40 true 75 (jb1j f) (readsT 0 [inL f.t,f.b.flatMap intC]) (some [])
 (.go 7 (.ans [] (.bool (inB (jb0 f) 1 12)) [] (.go 1 (.gfork (.auto) (.go 2 (.ans [] (.bool (inB (jbf f) 1 3)) [] (.go 1 (.fork (.auto) (.go 3 (.inv 3 (Nat) (0) [] [2,3] (fun x2 => [(22,nI (x2 : Int)),jbx,(3,.pointer (some ⟨3,0,none⟩)),(20,slQ 0 2 f.t.length),(21,nI (jb0 f))]) (fun x2 => [(jb1n f),(3,true,.cells true 0 [nI (jb0 f)])]) (fun x2 => []) (fun x2 => []) (fun x2 => (x2 <= List.length f.t /\ errUp (errRow f) x2 = 0)) (fun x2 => (List.length f.t - x2)) (fun x2 => .go 0 (.fork (.go 0 (.need (.val (.iface ((jb1t f x2).length + 1) (.agg ⟨((jb1t f x2).flatMap intC)⟩)) (.go 3 (.bind Int (fun y3 => .slot 28 (nI y3) (.go 2 (.gfork (.auto) (.go 1 (.need (.val (nI ((jb1t f x2).getD x2 0)) (.go 2 (.gfork (.auto) (.go 0 (.ans [] (.bool (List.any (jb1t f x2) badT)) [] (.go 0 (.fork (.auto) (.go 0 (.slot 42 (nI ((x2 : Int) + 1)) jbk))))))))))))))))))) (.go 2 (.ans [(1,.cells false 0 (jb19 f)),(3,.cells true 0 [nI (jb0 f)])] (.bool (jb1m f)) [] jb16))))))))))))))
 (fun v _ _ => v = sp) = Rfl sp f:=by kernel_rfl
abbrev jb10 (f : Fleet) : Prop:=(nI (jb0 f) : Value) = nI (jb0 f) /\ True
abbrev jb9 (f : Fleet) : Prop:=((keptR 3 (.cells true 0 (jb4 f))) /\ True) /\ (True) /\ (True)
abbrev jb1h (f : Fleet) (x0 : Nat):=f.t.getD x0 []
abbrev jb7 (f : Fleet) (x0 : Nat) : Value:=.iface ((jb1h f x0).length + 1) (.agg ⟨((jb1h f x0).flatMap intC)⟩)
abbrev jb1a (f : Fleet) (x0 : Nat) : Prop:=(inL f.t)[(0 + Int.toNat (x0 : Int) * 1)]? = some (jb7 f x0)
abbrev jb11 (f : Fleet) (x0 : Nat) : Prop:=(nI (jb0 f) : Value) = nI (jb0 f) /\ jba = .pointer (some ⟨2,0,none⟩) /\ (nI (x0 : Int) : Value) = nI (x0 : Int) /\ True
abbrev jb1i (f : Fleet) : Prop:=(nI (jb0 f) : Value) = nI (jb0 f) /\ jba = .pointer (some ⟨2,0,none⟩) /\ True
abbrev jby (f : Fleet) : Value:=nI (IntKind.wrap .i64 ((jb0 f) - 1))
abbrev jb1w (f : Fleet) (x1 : Nat):=inB (f.b.getD x1 0) 0 ((jb0 f) - 1)
def Rrfl (sp : Value) (f : Fleet) : Prop :=
 (((decide (((jb0 f) : Int) < 1)) = true -> jb1d = sp) /\ ((decide (((jb0 f) : Int) < 1)) = false -> (((decide ((12 : Int) < (jb0 f))) = true -> jb1d = sp) /\ ((decide ((12 : Int) < (jb0 f))) = false -> (((decide (((jbf f) : Int) < 1)) = true -> jb1d = sp) /\ ((decide (((jbf f) : Int) < 1)) = false -> (((decide ((3 : Int) < (jbf f))) = true -> jb1d = sp) /\ ((decide ((3 : Int) < (jbf f))) = false -> (true = true /\ (0 <= List.length f.t /\ errUp (errRow f) 0 = 0) /\ (true = true /\ (jbd = nI jbt /\ jba = .pointer (some ⟨2,0,none⟩) /\ jb10 f) /\ jb9 f) /\ jbl /\ ∀ x0 : Nat,(x0 <= List.length f.t /\ errUp (errRow f) x0 = 0) -> (((decide ((jbj x0) < (jb0 f))) = true -> (((0 : Int) <= (x0 : Int) /\ (jbj x0) < (jb0 f)) /\ ((jb1a f x0) /\ (∃ y1 : Int,(nI (((jb1h f x0).length : Nat) : Int) : Value) = nI y1 /\ ((((y1 : Int) != (jb0 f)) = true -> jbb = sp) /\ (((y1 : Int) != (jb0 f)) = false -> (((0 : Int) <= (x0 : Int) /\ (jbj x0) < (jb0 f)) /\ ((jb1a f x0) /\ (((0 : Int) <= (x0 : Int) /\ (jbj x0) < (((jb1h f x0).length : Nat) : Int)) /\ ((((jb1h f x0).flatMap intC)[(Int.toNat (x0 : Int) * 1)]? = some (nI ((jb1h f x0).getD x0 0))) /\ ((((((jb1h f x0).getD x0 0) : Int) != 0) = true -> jbb = sp) /\ (((((jb1h f x0).getD x0 0) : Int) != 0) = false -> (true = true /\ (0 <= List.length f.t /\ List.any ((jb1h f x0).take 0) badT = false) /\ (true = true /\ (jbd = nI jbt /\ jb11 f x0) /\ jb9 f) /\ (∀ x2 : Nat,true = true) /\ ∀ x2 : Nat,(x2 <= List.length f.t /\ List.any ((jb1h f x0).take x2) badT = false) -> (((jb1q x2 f) = true -> (((0 : Int) <= (x0 : Int) /\ (jbj x0) < (jb0 f)) /\ ((jb1a f x0) /\ (((0 : Int) <= (x2 : Int) /\ ((x2 : Int) : Int) < (((jb1h f x0).length : Nat) : Int)) /\ ((((jb1h f x0).flatMap intC)[(Int.toNat (x2 : Int) * 1)]? = some (nI ((jb1h f x0).getD x2 0))) /\ ((True) /\ (∀ H' : Heap,H'.length = 3 -> (True) -> KCall prog 137 [nI ((jb1h f x0).getD x2 0),nI 0,nI 100] H' [] (Is (.bool (!(inB ((jb1h f x0).getD x2 0) 0 100))) H')) /\ (((!(inB ((jb1h f x0).getD x2 0) 0 100)) = true -> jbb = sp) /\ ((!(inB ((jb1h f x0).getD x2 0) 0 100)) = false -> ((nI (IntKind.wrap .i64 ((x2 : Int) + 1)) : Value) = nI ((x2 : Int) + 1) /\ (∃ x2' : Nat,(x2' <= List.length f.t /\ List.any ((jb1h f x0).take x2') badT = false) /\ (List.length f.t - x2') < (List.length f.t - x2) /\ true = true /\ ((nI ((x2 : Int) + 1) : Value) = nI (x2' : Int) /\ jb11 f x0) /\ jb9 f)))))))))) /\ ((jb1q x2 f) = false -> ((jbe x0) = nI ((x0 : Int) + 1) /\ (∃ x0' : Nat,(x0' <= List.length f.t /\ errUp (errRow f) x0' = 0) /\ (List.length f.t - x0') < (List.length f.t - x0) /\ true = true /\ ((jb14 x0) = nI (x0' : Int) /\ jba = .pointer (some ⟨2,0,none⟩) /\ jb10 f) /\ jb9 f))))))))))))))))) /\ ((decide ((jbj x0) < (jb0 f))) = false -> (true = true /\ (0 <= List.length f.b /\ List.any (f.b.take 0) (badA f.t.length) = false) /\ (true = true /\ (jbd = nI jbt /\ jb1i f) /\ jb9 f) /\ (∀ x1 : Nat,true = true) /\ ∀ x1 : Nat,(x1 <= List.length f.b /\ List.any (f.b.take x1) (badA f.t.length) = false) -> (((decide (((x1 : Int) : Int) < (jbf f))) = true -> (((0 : Int) <= (x1 : Int) /\ ((x1 : Int) : Int) < (jbf f)) /\ (((jb19 f)[(0 + Int.toNat (x1 : Int) * 1)]? = some (nI (f.b.getD x1 0))) /\ ((jby f) = nI ((jb0 f) - 1) /\ ((True) /\ (∀ H' : Heap,H'.length = 3 -> (True) -> KCall prog 137 [nI (f.b.getD x1 0),nI 0,nI ((jb0 f) - 1)] H' [] (Is (.bool (!(jb1w f x1))) H')) /\ (((!(jb1w f x1)) = true -> jbb = sp) /\ ((!(jb1w f x1)) = false -> ((nI (IntKind.wrap .i64 ((x1 : Int) + 1)) : Value) = nI ((x1 : Int) + 1) /\ (∃ x1' : Nat,(x1' <= List.length f.b /\ List.any (f.b.take x1') (badA f.t.length) = false) /\ (List.length f.b - x1') < (List.length f.b - x1) /\ true = true /\ ((nI ((x1 : Int) + 1) : Value) = nI (x1' : Int) /\ jb1i f) /\ jb9 f))))))))) /\ ((decide (((x1 : Int) : Int) < (jbf f))) = false -> jbd = sp))))))))))))))
theorem Erfl (sp : Value) (f : Fleet) : vF prog msk (dm 0) 100000 true 40 true 78 (jb1j f) (readsT 0 [inL f.t,f.b.flatMap intC]) (some [])
 (.go 8 (.gfork (.auto) (.go 3 (.gfork (.auto) (.go 5 (.gfork (.auto) (.go 4 (.fork (.auto) (.go 0 (.inv 3 (Nat) (0) [] [2] (fun x0 => [(4,nI (x0 : Int)),jbx,(3,nI (jb0 f))]) (fun x0 => [(jb1n f)]) (fun x0 => []) (fun x0 => []) (fun x0 => (x0 <= List.length f.t /\ errUp (errRow f) x0 = 0)) (fun x0 => (List.length f.t - x0)) (fun x0 => .go 2 (.fork (.go 2 (.need (.val (jb7 f x0) (.go 0 (.bind Int (fun y1 => .slot 38 (nI y1) (.go 2 (.gfork (.auto) (.go 2 (.need (.val (jb7 f x0) (.go 0 (.need (.val (nI ((jb1h f x0).getD x0 0)) (.go 1 (.fork (.auto) (.go 0 (.inv 3 (Nat) (0) [] [2] (fun x2 => [(5,nI (x2 : Int)),(3,nI (jb0 f)),jbx,(4,nI (x0 : Int))]) (fun x2 => [(jb1n f)]) (fun x2 => []) (fun x2 => []) (fun x2 => (x2 <= List.length f.t /\ List.any ((jb1h f x0).take x2) badT = false)) (fun x2 => (List.length f.t - x2)) (fun x2 => .go 2 (.fork (.go 2 (.need (.val (jb7 f x0) (.go 0 (.need (.val (nI ((jb1h f x0).getD x2 0)) (.ans [] (.bool (!(inB ((jb1h f x0).getD x2 0) 0 100))) [] (.fork (.auto) (.go 1 (.slot 56 (nI ((x2 : Int) + 1)) jbk)))))))))) (.go 1 (.slot 32 (nI ((x0 : Int) + 1)) jbk)))))))))))))))))))))) (.go 0 (.inv 3 (Nat) (0) [] [2] (fun x1 => [(6,nI (x1 : Int)),(3,nI (jb0 f)),jbx]) (fun x1 => [(jb1n f)]) (fun x1 => []) (fun x1 => []) (fun x1 => (x1 <= List.length f.b /\ List.any (f.b.take x1) (badA f.t.length) = false)) (fun x1 => (List.length f.b - x1)) (fun x1 => .go 4 (.fork (.go 2 (.need (.val (nI (f.b.getD x1 0)) (.go 1 (.slot 79 (nI ((jb0 f) - 1)) (.ans [] (.bool (!(jb1w f x1))) [] (.fork (.auto) (.go 1 (.slot 72 (nI ((x1 : Int) + 1)) jbk))))))))) (.auto)))))))))))))))))
 (fun v _ _ => v = sp) = Rrfl sp f:=by kernel_rfl
abbrev jb1x (l1_ : List Rq):=decide ((30 : Int) < (jb5 l1_))
abbrev jbu (l1_ : List Rq) (f : Fleet) : Prop:=wkR (slQ 2 2 l1_.length) /\ (nI ((jb0 f) - 1) : Value) = nI ((jb0 f) - 1) /\ wkR (slQ 2 2 l1_.length) /\ (nI (jb5 l1_) : Value) = nI (jb5 l1_) /\ True
abbrev jbq (f : Fleet) : Prop:=((keptR 4 (.cells true 0 (jb4 f))) /\ True) /\ jbc
abbrev jbv (x0 : Nat) (l1_ : List Rq) (f : Fleet) : Prop:=x0 <= List.length l1_ /\ errUp (errRq1 f.t.length l1_) x0 = 0
abbrev jb12 (l1_ : List Rq) (x0 : Nat):=inB (jb1 l1_ x0).id 0 1000000
abbrev jb15 (l1_ : List Rq) (x0 : Nat):=inB (jb1 l1_ x0).at_ 0 10000
abbrev jbo (l1_ : List Rq) (x0 : Nat) (f : Fleet):=inB (jb1 l1_ x0).place 0 ((jb0 f) - 1)
abbrev jbs (l1_ : List Rq) (x0 : Nat) (f : Fleet):=inB (jb1 l1_ x0).dest 0 ((jb0 f) - 1)
abbrev jb1f (l1_ : List Rq) (x0 : Nat):=inB (jb1 l1_ x0).len 1 100
abbrev jb1l (l1_ : List Rq) (x0 : Nat):=inB (jb1 l1_ x0).prio 1 3
abbrev jbz (l1_ : List Rq) (x0 : Nat):=inB (jb1 l1_ x0).limit 0 10000
abbrev jb3 (l1_ : List Rq) (x0 : Nat) : List Value:=[nI (jb1 l1_ x0).id,nI (jb1 l1_ x0).at_,nI (jb1 l1_ x0).place,nI (jb1 l1_ x0).dest,nI (jb1 l1_ x0).len,nI (jb1 l1_ x0).prio,nI (jb1 l1_ x0).limit]
abbrev jb1k (l1_ : List Rq) (x0 : Nat):=List.any (l1_.take x0) (sameId (jb1 l1_ x0))
def Rrq (sp : Value) (f : Fleet) (l1_ : List Rq) : Prop :=
 (((jb1x l1_) = true -> jb1d = sp) /\ ((jb1x l1_) = false -> ((jby f) = nI ((jb0 f) - 1) /\ (true = true /\ (0 <= List.length l1_ /\ errUp (errRq1 f.t.length l1_) 0 = 0) /\ (true = true /\ (jbd = nI jbt /\ jbu l1_ f) /\ jbq f) /\ jbl /\ ∀ x0 : Nat,(jbv x0 l1_ f) -> (((jb1p x0 l1_) = true -> (((0 : Int) <= (x0 : Int) /\ (jbj x0) < (jb5 l1_)) /\ ((partA 7 (l1_.flatMap rqC) (0 + Int.toNat (x0 : Int) * 7) = some (jb2 l1_ x0)) /\ ((True) /\ (∀ H' : Heap,H'.length = 5 -> (True) -> KCall prog 107 [nI (jb1 l1_ x0).id,nI 0,nI 1000000] H' [] (Is (.bool (jb12 l1_ x0)) H')) /\ (((!(jb12 l1_ x0)) = true -> jbb = sp) /\ ((!(jb12 l1_ x0)) = false -> ((True) /\ (∀ H' : Heap,H'.length = 5 -> (True) -> KCall prog 107 [nI (jb1 l1_ x0).at_,nI 0,nI 10000] H' [] (Is (.bool (jb15 l1_ x0)) H')) /\ (((!(jb15 l1_ x0)) = true -> jbb = sp) /\ ((!(jb15 l1_ x0)) = false -> ((True) /\ (∀ H' : Heap,H'.length = 5 -> (True) -> KCall prog 107 [nI (jb1 l1_ x0).place,nI 0,nI ((jb0 f) - 1)] H' [] (Is (.bool (jbo l1_ x0 f)) H')) /\ (((!(jbo l1_ x0 f)) = true -> jbb = sp) /\ ((!(jbo l1_ x0 f)) = false -> ((True) /\ (∀ H' : Heap,H'.length = 5 -> (True) -> KCall prog 107 [nI (jb1 l1_ x0).dest,nI 0,nI ((jb0 f) - 1)] H' [] (Is (.bool (jbs l1_ x0 f)) H')) /\ (((!(jbs l1_ x0 f)) = true -> jbb = sp) /\ ((!(jbs l1_ x0 f)) = false -> ((True) /\ (∀ H' : Heap,H'.length = 5 -> (True) -> KCall prog 107 [nI (jb1 l1_ x0).len,nI 1,nI 100] H' [] (Is (.bool (jb1f l1_ x0)) H')) /\ (((!(jb1f l1_ x0)) = true -> jbb = sp) /\ ((!(jb1f l1_ x0)) = false -> ((True) /\ (∀ H' : Heap,H'.length = 5 -> (True) -> KCall prog 107 [nI (jb1 l1_ x0).prio,nI 1,nI 3] H' [] (Is (.bool (jb1l l1_ x0)) H')) /\ (((!(jb1l l1_ x0)) = true -> jbb = sp) /\ ((!(jb1l l1_ x0)) = false -> ((True) /\ (∀ H' : Heap,H'.length = 5 -> (True) -> KCall prog 107 [nI (jb1 l1_ x0).limit,nI 0,nI 10000] H' [] (Is (.bool (jbz l1_ x0)) H')) /\ (((!(jbz l1_ x0)) = true -> jbb = sp) /\ ((!(jbz l1_ x0)) = false -> ((((false = false ∨ 0 = 0 ∨ 0 = 7) /\ (x0 : Int).toNat <= l1_.length) /\ ((0 : Int) <= (x0 : Int) /\ (jbj x0) <= (jb5 l1_)) /\ (0 <= (x0 : Int).toNat)) /\ ((slQ 2 2 ((x0 : Int).toNat - 0) : Value) = slQ 2 2 x0 /\ (((someR (.cells false 0 (l1_.flatMap rqC))) /\ (someR (.cells true 0 (jb3 l1_ x0))) /\ True) /\ (∀ H' : Heap,H'.length = 5 -> (H'[2]? = some (.cells false 0 (l1_.flatMap rqC) : KObj) /\ H'[4]? = some (.cells true 0 (jb3 l1_ x0) : KObj) /\ True) -> KCall prog 135 [slQ 2 2 x0,.func (.func 136) #[] #[.pointer (some ⟨4,0,none⟩)]] H' [] (Is (.bool (jb1k l1_ x0)) H')) /\ (((jb1k l1_ x0) = true -> (nI 10 : Value) = sp) /\ ((jb1k l1_ x0) = false -> ((jbe x0) = nI ((x0 : Int) + 1) /\ (∃ x0' : Nat,(x0' <= List.length l1_ /\ errUp (errRq1 f.t.length l1_) x0' = 0) /\ (List.length l1_ - x0') < (List.length l1_ - x0) /\ true = true /\ ((jb14 x0) = nI (x0' : Int) /\ jbu l1_ f) /\ jbq f))))))))))))))))))))))))))))))) /\ ((jb1p x0 l1_) = false -> jbd = sp))))))
abbrev jbn (f : Fleet) (l1_ : List Rq) : List Value:=[.agg #[slQ 0 2 f.t.length,slQ 1 2 f.b.length],slQ 2 2 l1_.length]
abbrev jb1u (f : Fleet) (l1_ : List Rq):=readsT 0 [inL f.t,f.b.flatMap intC,l1_.flatMap rqC]
theorem Erq (sp : Value) (f : Fleet) (l1_ : List Rq) : vF prog msk (dm 0) 100000 true 40 true 77 (jbn f l1_) (jb1u f l1_) (some [])
 (.go 4 (.fork (.auto) (.go 3 (.slot 14 (nI ((jb0 f) - 1)) (.go 3 (.inv 3 (Nat) (0) [] [3] (fun x0 => [(17,nI (x0 : Int)),(1,slQ 2 2 l1_.length),(5,nI ((jb0 f) - 1)),(15,slQ 2 2 l1_.length),(16,nI (jb5 l1_))]) (fun x0 => [(3,true,.cells true 0 (jb4 f))]) (fun x0 => []) (fun x0 => []) (fun x0 => (jbv x0 l1_ f)) (fun x0 => (List.length l1_ - x0)) (fun x0 => .go 0 (.fork (.go 0 (.need (.val (jb2 l1_ x0) (.go 4 (.ans [] (.bool (jb12 l1_ x0)) [] (.go 1 (.gfork (.auto) (.go 1 (.ans [] (.bool (jb15 l1_ x0)) [] (.go 2 (.gfork (.auto) (.go 2 (.ans [] (.bool (jbo l1_ x0 f)) [] (.go 2 (.gfork (.auto) (.go 2 (.ans [] (.bool (jbs l1_ x0 f)) [] (.go 2 (.gfork (.auto) (.go 1 (.ans [] (.bool (jb1f l1_ x0)) [] (.go 2 (.gfork (.auto) (.go 1 (.ans [] (.bool (jb1l l1_ x0)) [] (.go 2 (.gfork (.auto) (.go 1 (.ans [] (.bool (jbz l1_ x0)) [] (.go 1 (.fork (.auto) (.go 1 (.need (.slot 66 (slQ 2 2 x0) (.go 0 (.ans [(2,.cells false 0 (l1_.flatMap rqC)),(4,.cells true 0 (jb3 l1_ x0))] (.bool (jb1k l1_ x0)) [] (.fork (.auto) (.go 0 (.slot 69 (nI ((x0 : Int) + 1)) jbk))))))))))))))))))))))))))))))))))))))) (.auto)))))))))
 (fun v _ _ => v = sp) = Rrq sp f l1_:=by kernel_rfl
abbrev jbm (f : Fleet) (l1_ : List Rq) (x0 : Nat) : Prop:=(nI (jb0 f) : Value) = nI (jb0 f) /\ wkR (slQ 2 2 l1_.length) /\ (nI (x0 : Int) : Value) = nI (x0 : Int) /\ (.pointer (some ⟨4,0,none⟩) : Value) = .pointer (some ⟨4,0,none⟩) /\ True
def Rrrq (sp : Value) (f : Fleet) (l1_ : List Rq) : Prop :=
 (((jb1x l1_) = true -> jb1d = sp) /\ ((jb1x l1_) = false -> (true = true /\ (0 <= List.length l1_ /\ errUp (errRq1 f.t.length l1_) 0 = 0) /\ (true = true /\ (jbd = nI jbt /\ wkR (slQ 2 2 l1_.length) /\ jb10 f) /\ jbq f) /\ jbl /\ ∀ x0 : Nat,(jbv x0 l1_ f) -> (((jb1p x0 l1_) = true -> (((0 : Int) <= (x0 : Int) /\ (jbj x0) < (jb5 l1_)) /\ ((partA 7 (l1_.flatMap rqC) (0 + Int.toNat (x0 : Int) * 7) = some (jb2 l1_ x0)) /\ ((True) /\ (∀ H' : Heap,H'.length = 5 -> (True) -> KCall prog 137 [nI (jb1 l1_ x0).id,nI 0,nI 1000000] H' [] (Is (.bool (!(jb12 l1_ x0))) H')) /\ (((!(jb12 l1_ x0)) = true -> jbb = sp) /\ ((!(jb12 l1_ x0)) = false -> ((True) /\ (∀ H' : Heap,H'.length = 5 -> (True) -> KCall prog 137 [nI (jb1 l1_ x0).at_,nI 0,nI 10000] H' [] (Is (.bool (!(jb15 l1_ x0))) H')) /\ (((!(jb15 l1_ x0)) = true -> jbb = sp) /\ ((!(jb15 l1_ x0)) = false -> ((jby f) = nI ((jb0 f) - 1) /\ ((True) /\ (∀ H' : Heap,H'.length = 5 -> (True) -> KCall prog 137 [nI (jb1 l1_ x0).place,nI 0,nI ((jb0 f) - 1)] H' [] (Is (.bool (!(jbo l1_ x0 f))) H')) /\ (((!(jbo l1_ x0 f)) = true -> jbb = sp) /\ ((!(jbo l1_ x0 f)) = false -> ((jby f) = nI ((jb0 f) - 1) /\ ((True) /\ (∀ H' : Heap,H'.length = 5 -> (True) -> KCall prog 137 [nI (jb1 l1_ x0).dest,nI 0,nI ((jb0 f) - 1)] H' [] (Is (.bool (!(jbs l1_ x0 f))) H')) /\ (((!(jbs l1_ x0 f)) = true -> jbb = sp) /\ ((!(jbs l1_ x0 f)) = false -> ((True) /\ (∀ H' : Heap,H'.length = 5 -> (True) -> KCall prog 137 [nI (jb1 l1_ x0).len,nI 1,nI 100] H' [] (Is (.bool (!(jb1f l1_ x0))) H')) /\ (((!(jb1f l1_ x0)) = true -> jbb = sp) /\ ((!(jb1f l1_ x0)) = false -> ((True) /\ (∀ H' : Heap,H'.length = 5 -> (True) -> KCall prog 137 [nI (jb1 l1_ x0).prio,nI 1,nI 3] H' [] (Is (.bool (!(jb1l l1_ x0))) H')) /\ (((!(jb1l l1_ x0)) = true -> jbb = sp) /\ ((!(jb1l l1_ x0)) = false -> ((True) /\ (∀ H' : Heap,H'.length = 5 -> (True) -> KCall prog 137 [nI (jb1 l1_ x0).limit,nI 0,nI 10000] H' [] (Is (.bool (!(jbz l1_ x0))) H')) /\ (((!(jbz l1_ x0)) = true -> jbb = sp) /\ ((!(jbz l1_ x0)) = false -> (true = true /\ (0 <= x0 /\ List.any (l1_.take 0) (sameId (jb1 l1_ x0)) = false) /\ (true = true /\ (jbd = nI jbt /\ jbm f l1_ x0) /\ ((keptR 5 (.cells true 0 (jb3 l1_ x0))) /\ True) /\ jbc) /\ (∀ x8 : Nat,true = true) /\ ∀ x8 : Nat,(x8 <= x0 /\ List.any (l1_.take x8) (sameId (jb1 l1_ x0)) = false) -> (((decide (((x8 : Int) : Int) < (x0 : Int))) = true -> (((0 : Int) <= (x8 : Int) /\ ((x8 : Int) : Int) < (jb5 l1_)) /\ (((l1_.flatMap rqC)[((0 + Int.toNat (x8 : Int) * 7) + 0)]? = some (nI (l1_.getD x8 zeroQ).id)) /\ (((((l1_.getD x8 zeroQ).id : Int) == (jb1 l1_ x0).id) = true -> (nI 10 : Value) = sp) /\ ((((l1_.getD x8 zeroQ).id : Int) == (jb1 l1_ x0).id) = false -> ((nI (IntKind.wrap .i64 ((x8 : Int) + 1)) : Value) = nI ((x8 : Int) + 1) /\ (∃ x8' : Nat,(x8' <= x0 /\ List.any (l1_.take x8') (sameId (jb1 l1_ x0)) = false) /\ (x0 - x8') < (x0 - x8) /\ true = true /\ ((nI ((x8 : Int) + 1) : Value) = nI (x8' : Int) /\ jbm f l1_ x0) /\ ((keptR 5 (.cells true 0 (jb3 l1_ x0))) /\ True) /\ jbc))))))) /\ ((decide (((x8 : Int) : Int) < (x0 : Int))) = false -> ((jbe x0) = nI ((x0 : Int) + 1) /\ (∃ x0' : Nat,(x0' <= List.length l1_ /\ errUp (errRq1 f.t.length l1_) x0' = 0) /\ (List.length l1_ - x0') < (List.length l1_ - x0) /\ true = true /\ ((jb14 x0) = nI (x0' : Int) /\ wkR (slQ 2 2 l1_.length) /\ jb10 f) /\ jbq f))))))))))))))))))))))))))))))) /\ ((jb1p x0 l1_) = false -> jbd = sp)))))
theorem Errq (sp : Value) (f : Fleet) (l1_ : List Rq) : vF prog msk (dm 0) 100000 true 40 true 80 (jbn f l1_) (jb1u f l1_) (some [])
 (.go 4 (.fork (.auto) (.go 4 (.inv 3 (Nat) (0) [] [3] (fun x0 => [(6,nI (x0 : Int)),(1,slQ 2 2 l1_.length),(5,nI (jb0 f))]) (fun x0 => [(3,true,.cells true 0 (jb4 f))]) (fun x0 => []) (fun x0 => []) (fun x0 => (jbv x0 l1_ f)) (fun x0 => (List.length l1_ - x0)) (fun x0 => .go 3 (.fork (.go 1 (.need (.val (jb2 l1_ x0) (.go 3 (.ans [] (.bool (!(jb12 l1_ x0))) [] (.go 0 (.gfork (.auto) (.go 1 (.ans [] (.bool (!(jb15 l1_ x0))) [] (.go 1 (.gfork (.auto) (.go 3 (.slot 37 (nI ((jb0 f) - 1)) (.ans [] (.bool (!(jbo l1_ x0 f))) [] (.go 1 (.gfork (.auto) (.go 3 (.slot 44 (nI ((jb0 f) - 1)) (.ans [] (.bool (!(jbs l1_ x0 f))) [] (.go 1 (.gfork (.auto) (.go 1 (.ans [] (.bool (!(jb1f l1_ x0))) [] (.go 1 (.gfork (.auto) (.go 1 (.ans [] (.bool (!(jb1l l1_ x0))) [] (.go 1 (.gfork (.auto) (.go 1 (.ans [] (.bool (!(jbz l1_ x0))) [] (.go 0 (.fork (.auto) (.go 0 (.inv 3 (Nat) (0) [] [4] (fun x8 => [(8,nI (x8 : Int)),(5,nI (jb0 f)),(1,slQ 2 2 l1_.length),(6,nI (x0 : Int)),(7,.pointer (some ⟨4,0,none⟩))]) (fun x8 => [(4,true,.cells true 0 (jb3 l1_ x0))]) (fun x8 => []) (fun x8 => []) (fun x8 => (x8 <= x0 /\ List.any (l1_.take x8) (sameId (jb1 l1_ x0)) = false)) (fun x8 => (x0 - x8)) (fun x8 => .go 2 (.fork (.go 1 (.need (.go 0 (.val (nI (l1_.getD x8 zeroQ).id) (.go 2 (.fork (.auto) (.go 1 (.slot 66 (nI ((x8 : Int) + 1)) jbk)))))))) (.go 1 (.slot 20 (nI ((x0 : Int) + 1)) jbk))))))))))))))))))))))))))))))))))))))) (.auto)))))))
 (fun v _ _ => v = sp) = Rrrq sp f l1_:=by kernel_rfl
end
end Go.Proofs.YthdekmpkioikdaaGreat
/- Request: what is wrong with fleets, requests, policies and premises. No condition. -/
namespace Go.Proofs.YthdekmpkioikdaaGreat
open Go Go.K
set_option maxRecDepth 100000
set_option linter.unusedVariables false
set_option linter.unusedSimpArgs false
noncomputable section
attribute [local irreducible] vF
theorem dec0 (x : Nat) : decide ((0 : Int) <= (x : Int)) = true := decide_eq_true (by omega)
theorem kAnyT (l : List Int) (hl : l.length <= 4294967296) (H : Heap) : KCall prog 131 [inV l, .func (.func 132) #[] #[]] H [] (Is (.bool (l.any badT)) H) := by
 refine valK 40 (fun σ => by have := inV_rn σ 2 l; show [rn σ (2 + 3) (inV l), _] = _; rw [this]; rfl) rfl (Eq.mpr (EanyT _ l) ?_) H
 delta RanyT jbd jbt jb6 jb8 jbp jbc jb1b jbl jbj jb1g jbe jb14
 refine ⟨rfl, ⟨Nat.zero_le _, rfl⟩, ?_, fun _ => rfl, ?_⟩
 ·repeat' first | exact inL_b _ _ | exact plainIL _ _ | exact plainRQ _ _ | exact (inV_rn _ 0 _).symm | exact wk_QR | exact trivial | exact rfl | exact wk_refl _ | exact wk_nil _ _ _ (.inl rfl) | (exact wk_Q (by omega)) | refine wk_tupL ?_ | refine wk_aggL ?_ | refine ⟨rfl, ?_⟩ | refine ⟨trivial, ?_⟩ | (refine forkD (fun h => ?_) (fun h => ?_)) | (refine forkNe (fun h => ?_) (fun h => ?_)) | (refine forkEq (fun h => ?_) (fun h => ?_)) | refine forkNot ?_ | (refine ⟨vI64 (by omega), ?_⟩) | (refine And.intro (by omega) ?_) | apply And.intro | (exact iEq (by omega)) | (exact vI64 (by omega))
 rintro x ⟨hx, hs⟩
 refine forkD (fun k => ?_) (fun k => bEq (any_end (by omega) hs).symm)
 have hlt : x < l.length := by omega
 refine ⟨by omega, intAt hlt (by omega), trivial, fun H' _ _ => kIn _ _ _ H', forkB (fun h => bEq ((dec0 x).trans (any_at (d := 0) hlt h).symm)) (fun h => ⟨vI64 (by omega), x + 1, ⟨by omega, any_snoc (d := 0) hlt hs h⟩, by omega, rfl, ?_⟩)⟩
 repeat' first | exact inL_b _ _ | exact plainIL _ _ | exact plainRQ _ _ | exact (inV_rn _ 0 _).symm | exact wk_QR | exact trivial | exact rfl | exact wk_refl _ | exact wk_nil _ _ _ (.inl rfl) | (exact wk_Q (by omega)) | refine wk_tupL ?_ | refine wk_aggL ?_ | refine ⟨rfl, ?_⟩ | refine ⟨trivial, ?_⟩ | (refine forkD (fun h => ?_) (fun h => ?_)) | (refine forkNe (fun h => ?_) (fun h => ?_)) | (refine forkEq (fun h => ?_) (fun h => ?_)) | refine forkNot ?_ | (refine ⟨vI64 (by omega), ?_⟩) | (refine And.intro (by omega) ?_) | apply And.intro | (exact iEq (by omega)) | (exact vI64 (by omega))
theorem kAnyA (l : List Int) (n : Nat) (hl : l.length <= 4294967296) (hn : n <= 4294967296) {H : Heap} {i0 i1 : Nat} {o0 o1 : Bool} {z0 z1 : Nat} (e0 : H[i0]? = some (.cells o0 z0 (l.flatMap intC))) (e1 : H[i1]? = some (.cells o1 z1 [nI (n : Int)])) :
  KCall prog 131 [.slice (some ⟨i0, 0, some 2⟩) l.length l.length, .func (.func 133) #[] #[.pointer (some ⟨i1, 0, none⟩)]] H [] (Is (.bool (l.any (badA n))) H) := by
 refine valRx (Eq.mpr (EanyA _ l n) ?_) ⟨plainIL 0 _, rfl, trivial⟩ rfl (ids := [i0, i1]) ⟨⟨_, _, e0⟩, ⟨_, _, e1⟩, trivial⟩ rfl
 delta RanyA jbd jbt jb8 jbh jbc jb1b jbl jbj jb1r jb1g jbe jb14
 refine ⟨rfl, ⟨Nat.zero_le _, rfl⟩, ?_, fun _ => rfl, ?_⟩
 ·repeat' first | exact inL_b _ _ | exact plainIL _ _ | exact plainRQ _ _ | exact (inV_rn _ 0 _).symm | exact wk_QR | exact trivial | exact rfl | exact wk_refl _ | exact wk_nil _ _ _ (.inl rfl) | (exact wk_Q (by omega)) | refine wk_tupL ?_ | refine wk_aggL ?_ | refine ⟨rfl, ?_⟩ | refine ⟨trivial, ?_⟩ | (refine forkD (fun h => ?_) (fun h => ?_)) | (refine forkNe (fun h => ?_) (fun h => ?_)) | (refine forkEq (fun h => ?_) (fun h => ?_)) | refine forkNot ?_ | (refine ⟨vI64 (by omega), ?_⟩) | (refine And.intro (by omega) ?_) | apply And.intro | (exact iEq (by omega)) | (exact vI64 (by omega))
 rintro x ⟨hx, hs⟩
 refine forkD (fun k => ?_) (fun k => bEq (any_end (by omega) hs).symm)
 have hlt : x < l.length := by omega
 refine ⟨by omega, intAt hlt (by omega), vI64 (by omega), trivial, fun H' _ _ => kIn _ _ _ H', forkB (fun h => bEq ((dec0 x).trans (any_at (d := 0) hlt h).symm)) (fun h => ⟨vI64 (by omega), x + 1, ⟨by omega, any_snoc (d := 0) hlt hs h⟩, by omega, rfl, ?_⟩)⟩
 repeat' first | exact plainIL _ _ | exact wk_QR | exact trivial | exact rfl | exact wk_refl _ | (exact wk_Q (by omega)) | apply And.intro | (exact iEq (by omega))
theorem partQL {l m : List Rq} {k : Nat} (h : k < l.length) {off : Nat} (ho : off = k * 7) : partA 7 ((l ++ m).flatMap rqC) off = some (.agg ⟨rqC (l.getD k zeroQ)⟩) := by
 have := partQ (l := l ++ m) (k := k) (by rw [List.length_append]; omega) ho
 rw [this, List.getD_eq_getElem?_getD, List.getElem?_append_left h, <- List.getD_eq_getElem?_getD]
theorem sameId_1 {r x : Rq} (h : x.id = r.id) : sameId r x = true := decide_eq_true h
theorem sameId_0 {r x : Rq} (h : x.id ≠ r.id) : sameId r x = false := decide_eq_false h
theorem kAnyI (l m : List Rq) (r : Rq) (hl : l.length <= 4294967296) {H : Heap} {i0 i1 : Nat} {o0 o1 : Bool} {z0 z1 : Nat} (e0 : H[i0]? = some (.cells o0 z0 ((l ++ m).flatMap rqC))) (e1 : H[i1]? = some (.cells o1 z1 (rqC r))) :
  KCall prog 135 [.slice (some ⟨i0, 0, some 2⟩) l.length l.length, .func (.func 136) #[] #[.pointer (some ⟨i1, 0, none⟩)]] H [] (Is (.bool (l.any (sameId r))) H) := by
 refine valRx (Eq.mpr (EanyI _ l m r) ?_) ⟨plainRQ 0 _, rfl, trivial⟩ rfl (ids := [i0, i1]) ⟨⟨_, _, e0⟩, ⟨_, _, e1⟩, trivial⟩ rfl
 delta RanyI jbd jbt jb5 jbg jbc jb1b jbl jbj jb1p jb1 jb2 jb1g jbe jb14
 refine ⟨rfl, ⟨Nat.zero_le _, rfl⟩, ?_, fun _ => rfl, ?_⟩
 ·repeat' first | exact plainIL _ _ | exact wk_QR | exact trivial | exact rfl | exact wk_refl _ | (exact wk_Q (by omega)) | apply And.intro | (exact iEq (by omega))
 rintro x ⟨hx, hs⟩
 refine forkD (fun k => ?_) (fun k => bEq (any_end (by omega) hs).symm)
 have hlt : x < l.length := by omega
 refine ⟨by omega, partQL hlt (by omega), forkEq (fun h => bEq ((dec0 x).trans (any_at (d := zeroQ) hlt (sameId_1 h)).symm)) (fun h => ⟨vI64 (by omega), x + 1, ⟨by omega, any_snoc (d := zeroQ) hlt hs (sameId_0 h)⟩, by omega, rfl, ?_⟩)⟩
 repeat' first | exact plainIL _ _ | exact wk_QR | exact trivial | exact rfl | exact wk_refl _ | (exact wk_Q (by omega)) | apply And.intro | (exact iEq (by omega))
theorem bad0 {b : Bool} (h : (!b) = false) : b = true := by cases b <;> first | rfl | cases h
theorem errPol_1 {p : Pol} (h : (!inB p.ov 0 30 || !inB p.warn 0 10000 || [p.w0, p.w1, p.w2].any badW) = true) : (81 : Int) = errPol p := (if_pos h).symm
theorem errPol_0 {p : Pol} (h1 : (!inB p.ov 0 30) = false) (h2 : (!inB p.warn 0 10000) = false) (h3 : (!inB p.w0 0 100) = false) (h4 : (!inB p.w1 0 100) = false) (h5 : (!inB p.w2 0 100) = false) : (0 : Int) = errPol p :=
 (if_neg (by simp only [List.any_cons, List.any_nil, badW, h1, h2, h3, h4, h5]; decide)).symm
theorem kPol (p : Pol) (H : Heap) : KCall prog 76 [.agg ⟨polC p⟩] H [] (Is (.int .i64 (errPol p)) H) := by
 refine valK 40 (fun σ => rfl) rfl (Eq.mpr (Epol _ p) ?_) H
 delta Rpol jbw jb1c jbd jb1v
 refine ⟨trivial, fun H' _ _ => kIn _ _ _ H', forkB (fun h => iEq (errPol_1 (by simp only [h, Bool.true_or]))) (fun h1 => ⟨trivial, fun H' _ _ => kIn _ _ _ H', forkB (fun h => iEq (errPol_1 (by simp only [h, Bool.true_or, Bool.or_true]))) (fun h2 => ⟨trivial, fun H' _ _ => kIn _ _ _ H', forkB (fun h => iEq (errPol_1 (by simp only [List.any_cons, badW, h, Bool.true_or, Bool.or_true]))) (fun h3 =>
  ⟨trivial, fun H' _ _ => kIn _ _ _ H', forkB (fun h => iEq (errPol_1 (by simp only [List.any_cons, badW, h, Bool.true_or, Bool.or_true]))) (fun h4 => ⟨trivial, fun H' _ _ => kIn _ _ _ H', forkB (fun h => iEq (errPol_1 (by simp only [List.any_cons, badW, h, Bool.true_or, Bool.or_true]))) (fun h5 => iEq (errPol_0 h1 h2 h3 h4 h5))⟩)⟩)⟩)⟩)⟩
theorem krPol (p : Pol) (H : Heap) : KCall prog 79 [.agg ⟨polC p⟩] H [] (Is (.int .i64 (errPol p)) H) := by
 refine valK 40 (fun σ => rfl) rfl (Eq.mpr (Erpol _ p) ?_) H
 delta Rrpol jbw jb1c jbd jb1v
 refine ⟨trivial, fun H' _ _ => kOut _ _ _ H', forkB (fun h => iEq (errPol_1 (by simp only [h, Bool.true_or]))) (fun h1 => ⟨trivial, fun H' _ _ => kOut _ _ _ H', forkB (fun h => iEq (errPol_1 (by simp only [h, Bool.true_or, Bool.or_true]))) (fun h2 => ⟨trivial, fun H' _ _ => kOut _ _ _ H', forkB (fun h => iEq (errPol_1 (by simp only [List.any_cons, badW, h, Bool.true_or, Bool.or_true]))) (fun h3 =>
  ⟨trivial, fun H' _ _ => kOut _ _ _ H', forkB (fun h => iEq (errPol_1 (by simp only [List.any_cons, badW, h, Bool.true_or, Bool.or_true]))) (fun h4 => ⟨trivial, fun H' _ _ => kOut _ _ _ H', forkB (fun h => iEq (errPol_1 (by simp only [List.any_cons, badW, h, Bool.true_or, Bool.or_true]))) (fun h5 => iEq (errPol_0 h1 h2 h3 h4 h5))⟩)⟩)⟩)⟩)⟩
theorem row_1 {n i : Nat} {row : List Int} (h : ((row.length : Nat) : Int) ≠ (n : Int)) : badRow n i row = true := by
 unfold badRow; rw [decide_eq_true (show row.length ≠ n by omega)]; rfl
theorem row_2 {n i : Nat} {row : List Int} (h : row.getD i 0 ≠ 0) : badRow n i row = true := by
 unfold badRow; rw [decide_eq_true h, Bool.or_true]; rfl
theorem row_3 {n i : Nat} {row : List Int} (h : row.any badT = true) : badRow n i row = true := by
 unfold badRow; rw [h, Bool.or_true]
theorem row_0 {n i : Nat} {row : List Int} (h1 : ((row.length : Nat) : Int) = (n : Int)) (h2 : row.getD i 0 = 0) (h3 : row.any badT = false) : badRow n i row = false := by
 unfold badRow; rw [h3, decide_eq_false (fun k => k (by omega)), decide_eq_false (fun k => k h2)]; rfl
theorem errRow_1 {f : Fleet} {i : Nat} (h : badRow f.t.length i (f.t.getD i []) = true) : errRow f i = 80 := if_pos h
theorem errRow_0 {f : Fleet} {i : Nat} (h : badRow f.t.length i (f.t.getD i []) = false) : errRow f i = 0 := if_neg (by rw [h]; decide)
theorem errFl_1 {f : Fleet} (h : (!inB (f.t.length : Int) 1 12) = true) : (2 : Int) = errFl f := (if_pos (.inl h)).symm
theorem errFl_2 {f : Fleet} (h : (!inB (f.b.length : Int) 1 3) = true) : (2 : Int) = errFl f := (if_pos (.inr h)).symm
theorem errFl_3 {f : Fleet} (h1 : (!inB (f.t.length : Int) 1 12) = false) (h2 : (!inB (f.b.length : Int) 1 3) = false) {x : Nat} (hx : x < f.t.length) (hs : errUp (errRow f) x = 0) (h : badRow f.t.length x (f.t.getD x []) = true) : (80 : Int) = errFl f := by
 unfold errFl
 rw [if_neg (by rw [h1, h2]; decide), errUp_at hs (by rw [errRow_1 h]; decide) hx, errRow_1 h]; rfl
theorem errFl_4 {f : Fleet} (h1 : (!inB (f.t.length : Int) 1 12) = false) (h2 : (!inB (f.b.length : Int) 1 3) = false) (hs : errUp (errRow f) f.t.length = 0) (h : f.b.any (badA f.t.length) = true) : (80 : Int) = errFl f := by
 unfold errFl
 rw [if_neg (by rw [h1, h2]; decide), hs, if_pos h]; rfl
theorem errFl_0 {f : Fleet} (h1 : (!inB (f.t.length : Int) 1 12) = false) (h2 : (!inB (f.b.length : Int) 1 3) = false) (hs : errUp (errRow f) f.t.length = 0) (h : f.b.any (badA f.t.length) = false) : (0 : Int) = errFl f := by
 unfold errFl
 rw [if_neg (by rw [h1, h2]; decide), hs, if_neg (by rw [h]; decide)]; rfl
theorem kFl (f : Fleet) (ht : f.t.length <= 4294967296) (hb : f.b.length <= 4294967296) (hs : shortI f.t) {H : Heap} {i0 i1 : Nat} {o0 o1 : Bool} {z0 z1 : Nat} (e0 : H[i0]? = some (.cells o0 z0 (inL f.t))) (e1 : H[i1]? = some (.cells o1 z1 (f.b.flatMap intC))) :
  KCall prog 75 [fleetV f i0 i1] H [] (Is (.int .i64 (errFl f)) H) := by
 refine valRx (Eq.mpr (Efl _ f) ?_) ⟨inL_b 0 _, plainIL 0 _, trivial⟩ rfl (ids := [i0, i1]) ⟨⟨_, _, e0⟩, ⟨_, _, e1⟩, trivial⟩ rfl
 delta Rfl jb0 jb1d jbf jbd jbt jba jbi jb4 jbc jb18 jb1q jb1t jbb jb19 jb1m
 refine ⟨trivial, fun H' _ _ => kIn _ _ _ H', forkB (fun h => iEq (errFl_1 h)) (fun h1 => ⟨trivial, fun H' _ _ => kIn _ _ _ H', forkB (fun h => iEq (errFl_2 h)) (fun h2 => ⟨rfl, ⟨Nat.zero_le _, rfl⟩, ?_, fun _ => rfl, ?_⟩)⟩)⟩
 ·repeat' first | exact plainIL _ _ | exact wk_QR | exact trivial | exact rfl | exact wk_refl _ | (exact wk_Q (by omega)) | apply And.intro | (exact iEq (by omega))
 rintro x ⟨hx, hu⟩
 refine forkD (fun k => ?_) (fun k => ?_)
 ·have hlt : x < f.t.length := by omega
  refine ⟨by omega, inL_at hlt (by omega), _, rfl, forkNe (fun h => iEq (errFl_3 h1 h2 hlt hu (row_1 h))) (fun h3 => ?_)⟩
  have hr : x < (f.t.getD x []).length := by omega
  refine ⟨by omega, intAt hr (by omega), forkNe (fun h => iEq (errFl_3 h1 h2 hlt hu (row_2 h))) (fun h4 => ⟨trivial, fun H' _ _ => kAnyT _ (hs x hlt) H', forkB (fun h => iEq (errFl_3 h1 h2 hlt hu (row_3 h))) (fun h5 => ⟨vI64 (by omega), x + 1, ⟨by omega, errUp_succ hu (errRow_0 (row_0 h3 h4 h5))⟩, by omega, rfl, ?_⟩)⟩)⟩
  repeat' first | exact plainIL _ _ | exact wk_QR | exact trivial | exact rfl | exact wk_refl _ | (exact wk_Q (by omega)) | apply And.intro | (exact iEq (by omega))
 ·obtain rfl : x = f.t.length := by omega
  exact ⟨⟨rfl, rfl, trivial⟩, fun H' _ hd => kAnyA f.b _ hb ht hd.1 hd.2.1, forkB (fun h => iEq (errFl_4 h1 h2 hu h)) (fun h => iEq (errFl_0 h1 h2 hu h))⟩
theorem nin_1 {n a b : Int} (h : n < a) : (!inB n a b) = true := by unfold inB; rw [decide_eq_false (show ¬ a <= n by omega)]; rfl
theorem nin_2 {n a b : Int} (h : b < n) : (!inB n a b) = true := by unfold inB; rw [decide_eq_false (show ¬ n <= b by omega), Bool.and_false]; rfl
theorem nin_0 {n a b : Int} (h1 : ¬ n < a) (h2 : ¬ b < n) : (!inB n a b) = false := by rw [inB_1 (by omega) (by omega)]; rfl
theorem krFl (f : Fleet) (ht : f.t.length <= 4294967296) (hb : f.b.length <= 4294967296) (hs : shortI f.t) {H : Heap} {i0 i1 : Nat} {o0 o1 : Bool} {z0 z1 : Nat} (e0 : H[i0]? = some (.cells o0 z0 (inL f.t))) (e1 : H[i1]? = some (.cells o1 z1 (f.b.flatMap intC))) :
  KCall prog 78 [fleetV f i0 i1] H [] (Is (.int .i64 (errFl f)) H) := by
 refine valRx (Eq.mpr (Erfl _ f) ?_) ⟨inL_b 0 _, plainIL 0 _, trivial⟩ rfl (ids := [i0, i1]) ⟨⟨_, _, e0⟩, ⟨_, _, e1⟩, trivial⟩ rfl
 delta Rrfl jb0 jb1d jbf jbd jbt jba jb10 jb4 jb9 jbl jbj jb1h jb7 jb1a jbb jb11 jb1q jbe jb14 jb1i jb19 jby jb1w
 refine forkD (fun h => iEq (errFl_1 (nin_1 h))) (fun h1 => forkD (fun h => iEq (errFl_1 (nin_2 h))) (fun h2 => forkD (fun h => iEq (errFl_2 (nin_1 h))) (fun h3 => forkD (fun h => iEq (errFl_2 (nin_2 h))) (fun h4 => ⟨rfl, ⟨Nat.zero_le _, rfl⟩, ?_, fun _ => rfl, ?_⟩))))
 ·repeat' first | exact plainIL _ _ | exact wk_QR | exact trivial | exact rfl | exact wk_refl _ | (exact wk_Q (by omega)) | apply And.intro | (exact iEq (by omega))
 have h12 := nin_0 h1 h2
 have h34 := nin_0 h3 h4
 rintro x ⟨hx, hu⟩
 refine forkD (fun k => ?_) (fun k => ?_)
 ·have hlt : x < f.t.length := by omega
  refine ⟨by omega, inL_at hlt (by omega), _, rfl, forkNe (fun h => iEq (errFl_3 h12 h34 hlt hu (row_1 h))) (fun h5 => ?_)⟩
  have hr : x < (f.t.getD x []).length := by omega
  refine ⟨by omega, inL_at hlt (by omega), by omega, intAt hr (by omega), forkNe (fun h => iEq (errFl_3 h12 h34 hlt hu (row_2 h))) (fun h6 => ⟨rfl, ⟨Nat.zero_le _, rfl⟩, ?_, fun _ => rfl, ?_⟩)⟩
  ·repeat' first | exact plainIL _ _ | exact wk_QR | exact trivial | exact rfl | exact wk_refl _ | (exact wk_Q (by omega)) | apply And.intro | (exact iEq (by omega))
  rintro y ⟨hy, hv⟩
  refine forkD (fun k => ?_) (fun k => ?_)
  ·have hly : y < (f.t.getD x []).length := by omega
   refine ⟨by omega, inL_at hlt (by omega), by omega, intAt hly (by omega), trivial, fun H' _ _ => kOut _ _ _ H', forkB (fun h => iEq (errFl_3 h12 h34 hlt hu (row_3 (any_at (d := 0) hly h)))) (fun h => ⟨vI64 (by omega), y + 1, ⟨by omega, any_snoc (d := 0) hly hv h⟩, by omega, rfl, ?_⟩)⟩
   repeat' first | exact plainIL _ _ | exact wk_QR | exact trivial | exact rfl | exact wk_refl _ | (exact wk_Q (by omega)) | apply And.intro | (exact iEq (by omega))
  ·refine ⟨vI64 (by omega), x + 1, ⟨by omega, errUp_succ hu (errRow_0 (row_0 h5 h6 (any_end (by omega) hv)))⟩, by omega, rfl, ?_⟩
   repeat' first | exact plainIL _ _ | exact wk_QR | exact trivial | exact rfl | exact wk_refl _ | (exact wk_Q (by omega)) | apply And.intro | (exact iEq (by omega))
 ·obtain rfl : x = f.t.length := by omega
  refine ⟨rfl, ⟨Nat.zero_le _, rfl⟩, ?_, fun _ => rfl, ?_⟩
  ·repeat' first | exact plainIL _ _ | exact wk_QR | exact trivial | exact rfl | exact wk_refl _ | (exact wk_Q (by omega)) | apply And.intro | (exact iEq (by omega))
  rintro y ⟨hy, hv⟩
  refine forkD (fun k => ?_) (fun k => iEq (errFl_0 h12 h34 hu (any_end (by omega) hv)))
  have hly : y < f.b.length := by omega
  refine ⟨by omega, intAt hly (by omega), vI64 (by omega), trivial, fun H' _ _ => kOut _ _ _ H', forkB (fun h => iEq (errFl_4 h12 h34 hu (any_at (d := 0) hly h))) (fun h => ⟨vI64 (by omega), y + 1, ⟨by omega, any_snoc (d := 0) hly hv h⟩, by omega, rfl, ?_⟩)⟩
  repeat' first | exact plainIL _ _ | exact wk_QR | exact trivial | exact rfl | exact wk_refl _ | (exact wk_Q (by omega)) | apply And.intro | (exact iEq (by omega))
end
end Go.Proofs.YthdekmpkioikdaaGreat
/- Request: what is wrong with requests; the greatest number. No condition. -/
namespace Go.Proofs.YthdekmpkioikdaaGreat
open Go Go.K
set_option maxRecDepth 100000
set_option linter.unusedVariables false
set_option linter.unusedSimpArgs false
noncomputable section
attribute [local irreducible] vF
theorem errRq_2 {n : Nat} {l : List Rq} (h : (30 : Int) < (l.length : Int)) : (2 : Int) = errRq n l := (if_pos (by omega)).symm
theorem errRq1_1 {n : Nat} {l : List Rq} {x : Nat} (h : badRq n (l.getD x zeroQ) = true) : errRq1 n l x = 80 := if_pos h
theorem errRq1_2 {n : Nat} {l : List Rq} {x : Nat} (h : badRq n (l.getD x zeroQ) = false) (h2 : (l.take x).any (sameId (l.getD x zeroQ)) = true) : errRq1 n l x = 10 := by
 unfold errRq1; rw [if_neg (by rw [h]; decide), if_pos h2]
theorem errRq1_0 {n : Nat} {l : List Rq} {x : Nat} (h : badRq n (l.getD x zeroQ) = false) (h2 : (l.take x).any (sameId (l.getD x zeroQ)) = false) : errRq1 n l x = 0 := by
 unfold errRq1; rw [if_neg (by rw [h]; decide), if_neg (by rw [h2]; decide)]
theorem errRq_e {n : Nat} {l : List Rq} (h0 : ¬ (30 : Int) < (l.length : Int)) {x : Nat} (hx : x < l.length) (hu : errUp (errRq1 n l) x = 0) {e : Int} (he : errRq1 n l x = e) (hne : e ≠ 0) : e = errRq n l := by
 unfold errRq
 rw [if_neg (by omega), errUp_at hu (by rw [he]; exact hne) hx, he]
theorem errRq_0 {n : Nat} {l : List Rq} (h0 : ¬ (30 : Int) < (l.length : Int)) (hu : errUp (errRq1 n l) l.length = 0) : (0 : Int) = errRq n l := by
 unfold errRq
 rw [if_neg (by omega), hu]
theorem badRq_0 {n : Nat} {r : Rq} (h1 : (!inB r.id 0 1000000) = false) (h2 : (!inB r.at_ 0 10000) = false) (h3 : (!inB r.place 0 ((n : Int) - 1)) = false) (h4 : (!inB r.dest 0 ((n : Int) - 1)) = false) (h5 : (!inB r.len 1 100) = false) (h6 : (!inB r.prio 1 3) = false) (h7 : (!inB r.limit 0 10000) = false) : badRq n r = false := by
 unfold badRq; rw [h1, h2, h3, h4, h5, h6, h7]; rfl
theorem idAt {l : List Rq} {k : Nat} (h : k < l.length) {off : Nat} (ho : off = k * 7 + 0) : (l.flatMap rqC)[off]? = some (.int .i64 (l.getD k zeroQ).id) := cell_at (n := 7) (d := zeroQ) (c := 0) rqC_len h ho rfl
theorem kRq (f : Fleet) (l : List Rq) (ht : f.t.length <= 4294967296) {H : Heap} {i0 i1 i2 : Nat} {o0 o1 o2 : Bool} {z0 z1 z2 : Nat} (e0 : H[i0]? = some (.cells o0 z0 (inL f.t))) (e1 : H[i1]? = some (.cells o1 z1 (f.b.flatMap intC))) (e2 : H[i2]? = some (.cells o2 z2 (l.flatMap rqC))) :
  KCall prog 77 [fleetV f i0 i1, .slice (some ⟨i2, 0, some 2⟩) l.length l.length] H [] (Is (.int .i64 (errRq f.t.length l)) H) := by
 refine valRx (Eq.mpr (Erq _ f l) ?_) ⟨inL_b 0 _, plainIL 0 _, plainRQ 0 _, trivial⟩ rfl (ids := [i0, i1, i2]) ⟨⟨_, _, e0⟩, ⟨_, _, e1⟩, ⟨_, _, e2⟩, trivial⟩ rfl
 delta Rrq jb5 jb1x jb1d jb0 jby jbd jbt jbu jb4 jbc jbq jbl jbv jbj jb1p jb1 jb2 jb12 jbb jb15 jbo jbs jb1f jb1l jbz jb3 jb1k jbe jb14
 refine forkD (fun h => iEq (errRq_2 h)) (fun h0 => ⟨vI64 (by omega), rfl, ⟨Nat.zero_le _, rfl⟩, ?_, fun _ => rfl, ?_⟩)
 ·repeat' first | exact plainIL _ _ | exact wk_QR | exact trivial | exact rfl | exact wk_refl _ | (exact wk_Q (by omega)) | apply And.intro | (exact iEq (by omega))
 rintro x ⟨hx, hu⟩
 refine forkD (fun k => ?_) (fun k => ?_)
 ·have hlt : x < l.length := by omega
  refine ⟨by omega, partQ hlt (by omega), trivial, fun H' _ _ => kIn _ _ _ H', forkB (fun h => ?_) (fun h1 => ⟨trivial, fun H' _ _ => kIn _ _ _ H', forkB (fun h => ?_) (fun h2 => ⟨trivial, fun H' _ _ => kIn _ _ _ H', forkB (fun h => ?_) (fun h3 => ⟨trivial, fun H' _ _ => kIn _ _ _ H', forkB (fun h => ?_) (fun h4 =>
   ⟨trivial, fun H' _ _ => kIn _ _ _ H', forkB (fun h => ?_) (fun h5 => ⟨trivial, fun H' _ _ => kIn _ _ _ H', forkB (fun h => ?_) (fun h6 => ⟨trivial, fun H' _ _ => kIn _ _ _ H', forkB (fun h => ?_) (fun h7 => ?_)⟩)⟩)⟩)⟩)⟩)⟩)⟩
  all_goals first | (exact iEq (errRq_e h0 hlt hu (errRq1_1 (by unfold badRq; simp only [h, Bool.true_or, Bool.or_true])) (by decide))) | skip
  have hb := badRq_0 h1 h2 h3 h4 h5 h6 h7
  refine ⟨⟨⟨.inl rfl, by omega⟩, by omega, Nat.zero_le _⟩, rfl, ⟨rfl, rfl, trivial⟩, fun H' _ hd => ?_, forkB (fun h => iEq (errRq_e h0 hlt hu (errRq1_2 hb h) (by decide))) (fun h => ⟨vI64 (by omega), x + 1, ⟨by omega, errUp_succ hu (errRq1_0 hb h)⟩, by omega, rfl, ?_⟩)⟩
  ·have key := kAnyI (l.take x) (l.drop x) (l.getD x zeroQ) (by rw [take_len hx]; omega) (by rw [List.take_append_drop]; exact hd.1) hd.2.1
   rw [take_len hx] at key; exact key
  ·repeat' first | exact plainIL _ _ | exact wk_QR | exact trivial | exact rfl | exact wk_refl _ | (exact wk_Q (by omega)) | apply And.intro | (exact iEq (by omega))
 ·obtain rfl : x = l.length := by omega
  exact iEq (errRq_0 h0 hu)
theorem krRq (f : Fleet) (l : List Rq) (ht : f.t.length <= 4294967296) {H : Heap} {i0 i1 i2 : Nat} {o0 o1 o2 : Bool} {z0 z1 z2 : Nat} (e0 : H[i0]? = some (.cells o0 z0 (inL f.t))) (e1 : H[i1]? = some (.cells o1 z1 (f.b.flatMap intC))) (e2 : H[i2]? = some (.cells o2 z2 (l.flatMap rqC))) :
  KCall prog 80 [fleetV f i0 i1, .slice (some ⟨i2, 0, some 2⟩) l.length l.length] H [] (Is (.int .i64 (errRq f.t.length l)) H) := by
 refine valRx (Eq.mpr (Errq _ f l) ?_) ⟨inL_b 0 _, plainIL 0 _, plainRQ 0 _, trivial⟩ rfl (ids := [i0, i1, i2]) ⟨⟨_, _, e0⟩, ⟨_, _, e1⟩, ⟨_, _, e2⟩, trivial⟩ rfl
 delta Rrrq jb5 jb1x jb1d jbd jbt jb0 jb10 jb4 jbc jbq jbl jbv jbj jb1p jb1 jb2 jb12 jbb jb15 jby jbo jbs jb1f jb1l jbz jbm jb3 jbe jb14
 refine forkD (fun h => iEq (errRq_2 h)) (fun h0 => ⟨rfl, ⟨Nat.zero_le _, rfl⟩, ?_, fun _ => rfl, ?_⟩)
 ·repeat' first | exact plainIL _ _ | exact wk_QR | exact trivial | exact rfl | exact wk_refl _ | (exact wk_Q (by omega)) | apply And.intro | (exact iEq (by omega))
 rintro x ⟨hx, hu⟩
 refine forkD (fun k => ?_) (fun k => ?_)
 ·have hlt : x < l.length := by omega
  refine ⟨by omega, partQ hlt (by omega), trivial, fun H' _ _ => kOut _ _ _ H', forkB (fun h => ?_) (fun h1 => ⟨trivial, fun H' _ _ => kOut _ _ _ H', forkB (fun h => ?_) (fun h2 => ⟨vI64 (by omega), trivial, fun H' _ _ => kOut _ _ _ H', forkB (fun h => ?_) (fun h3 => ⟨vI64 (by omega), trivial, fun H' _ _ => kOut _ _ _ H', forkB (fun h => ?_) (fun h4 =>
   ⟨trivial, fun H' _ _ => kOut _ _ _ H', forkB (fun h => ?_) (fun h5 => ⟨trivial, fun H' _ _ => kOut _ _ _ H', forkB (fun h => ?_) (fun h6 => ⟨trivial, fun H' _ _ => kOut _ _ _ H', forkB (fun h => ?_) (fun h7 => ⟨rfl, ⟨Nat.zero_le _, rfl⟩, ?_, fun _ => rfl, ?_⟩)⟩)⟩)⟩)⟩)⟩)⟩)⟩
  all_goals first | (exact iEq (errRq_e h0 hlt hu (errRq1_1 (by unfold badRq; simp only [h, Bool.true_or, Bool.or_true])) (by decide))) | skip
  ·repeat' first | exact plainIL _ _ | exact wk_QR | exact trivial | exact rfl | exact wk_refl _ | (exact wk_Q (by omega)) | apply And.intro | (exact iEq (by omega))
  have hb := badRq_0 h1 h2 h3 h4 h5 h6 h7
  rintro y ⟨hy, hv⟩
  refine forkD (fun k => ?_) (fun k => ?_)
  ·have hly : y < l.length := by omega
   have hyt : y < (l.take x).length := by rw [take_len hx]; omega
   have hg : (l.take x).getD y zeroQ = l.getD y zeroQ := by rw [List.getD_eq_getElem?_getD, List.getElem?_take, if_pos (by omega), <- List.getD_eq_getElem?_getD]
   refine ⟨by omega, idAt hly (by omega), forkEq (fun h => iEq (errRq_e h0 hlt hu (errRq1_2 hb (any_at (d := zeroQ) hyt (by rw [hg]; exact sameId_1 h))) (by decide))) (fun h => ⟨vI64 (by omega), y + 1, ⟨by omega, any_snoc (d := zeroQ) hly hv (sameId_0 h)⟩, by omega, rfl, ?_⟩)⟩
   repeat' first | exact plainIL _ _ | exact wk_QR | exact trivial | exact rfl | exact wk_refl _ | (exact wk_Q (by omega)) | apply And.intro | (exact iEq (by omega))
  ·obtain rfl : y = x := by omega
   refine ⟨vI64 (by omega), y + 1, ⟨by omega, errUp_succ hu (errRq1_0 hb hv)⟩, by omega, rfl, ?_⟩
   repeat' first | exact plainIL _ _ | exact wk_QR | exact trivial | exact rfl | exact wk_refl _ | (exact wk_Q (by omega)) | apply And.intro | (exact iEq (by omega))
 ·obtain rfl : x = l.length := by omega
  exact iEq (errRq_0 h0 hu)
end
end Go.Proofs.YthdekmpkioikdaaGreat
/- Request: plain laws of premises, fleets and requests. No condition. -/
namespace Go.Proofs.YthdekmpkioikdaaGreat
set_option linter.unusedSimpArgs false
open Go Go.K
set_option linter.unusedVariables false
noncomputable section
theorem first2_0 {a b : Int} (h : first2 a b = 0) : a = 0 /\ b = 0 := by
 unfold first2 at h; split at h
 ·rename_i k; exact ⟨k, h⟩
 ·rename_i k; exact absurd h k
structure FlOk (f : Fleet) : Prop where
 n1 : 1 <= f.t.length
 n2 : f.t.length <= 12
 b1 : 1 <= f.b.length
 b2 : f.b.length <= 3
 row : ∀ k, k < f.t.length -> (f.t.getD k []).length = f.t.length
 el : ∀ k j, k < f.t.length -> 0 <= (f.t.getD k []).getD j 0 /\ (f.t.getD k []).getD j 0 <= 100
 br : ∀ k, k < f.b.length -> 0 <= f.b.getD k 0 /\ f.b.getD k 0 <= (f.t.length : Int) - 1
theorem any_no {α : Type} {l : List α} {d : α} {p : α -> Bool} (h : l.any p = false) {k : Nat} (hk : k < l.length) : p (l.getD k d) = false := by
 have := List.any_eq_false.1 h _ (getD_mem (d := d) hk)
 cases hp : p (l.getD k d) with
 | false => rfl
 | true => exact absurd hp this
theorem flOk {f : Fleet} (h : errFl f = 0) : FlOk f := by
 unfold errFl at h
 split at h
 ·cases h
 ·rename_i h0
  obtain ⟨h1, h2⟩ := first2_0 h
  have a1 : inB (f.t.length : Int) 1 12 = true := by
   cases hb : inB (f.t.length : Int) 1 12 with
   | true => rfl
   | false => exact absurd (.inl (by rw [hb]; rfl)) h0
  have a2 : inB (f.b.length : Int) 1 3 = true := by
   cases hb : inB (f.b.length : Int) 1 3 with
   | true => rfl
   | false => exact absurd (.inr (by rw [hb]; rfl)) h0
  have b1 := inB_2 a1
  have b2 := inB_2 a2
  have hr : ∀ k, k < f.t.length -> badRow f.t.length k (f.t.getD k []) = false := by
   intro k hk
   have := errUp_all h1 k hk
   unfold errRow at this
   split at this
   ·cases this
   ·rename_i hb; cases hc : badRow f.t.length k (f.t.getD k []) with
    | false => rfl
    | true => exact absurd hc hb
  have hlen : ∀ k, k < f.t.length -> (f.t.getD k []).length = f.t.length := by
   intro k hk
   have := hr k hk
   unfold badRow at this
   rw [Bool.or_eq_false_iff, Bool.or_eq_false_iff] at this
   have := of_decide_eq_false this.1.1
   omega
  refine ⟨by omega, by omega, by omega, by omega, hlen, fun k j hk => ?_, fun k hk => ?_⟩
  ·by_cases hj : j < (f.t.getD k []).length
   ·have := hr k hk
    unfold badRow at this
    rw [Bool.or_eq_false_iff] at this
    have h3 := any_no (d := 0) this.2 hj
    exact inB_2 (bad0 h3)
   ·rw [List.getD_eq_getElem?_getD, List.getElem?_eq_none (by omega)]; decide
  ·have hb : f.b.any (badA f.t.length) = false := by
    cases hc : f.b.any (badA f.t.length) with
    | false => rfl
    | true => rw [if_pos hc] at h2; cases h2
   exact inB_2 (bad0 (any_no (d := 0) hb hk))
structure RqOk (n : Nat) (r : Rq) : Prop where
 id : 0 <= r.id /\ r.id <= 1000000
 at_ : 0 <= r.at_ /\ r.at_ <= 10000
 place : 0 <= r.place /\ r.place <= (n : Int) - 1
 dest : 0 <= r.dest /\ r.dest <= (n : Int) - 1
 len : 1 <= r.len /\ r.len <= 100
 prio : 1 <= r.prio /\ r.prio <= 3
 limit : 0 <= r.limit /\ r.limit <= 10000
theorem rqOk {n : Nat} {r : Rq} (h : badRq n r = false) : RqOk n r := by
 unfold badRq at h
 simp only [Bool.or_eq_false_iff] at h
 obtain ⟨⟨⟨⟨⟨⟨h1, h2⟩, h3⟩, h4⟩, h5⟩, h6⟩, h7⟩ := h
 exact ⟨inB_2 (bad0 h1), inB_2 (bad0 h2), inB_2 (bad0 h3), inB_2 (bad0 h4), inB_2 (bad0 h5), inB_2 (bad0 h6), inB_2 (bad0 h7)⟩
structure LsOk (n : Nat) (l : List Rq) : Prop where
 len : l.length <= 30
 ok : ∀ k, k < l.length -> RqOk n (l.getD k zeroQ)
 ne : ∀ k j, k < l.length -> j < k -> (l.getD j zeroQ).id ≠ (l.getD k zeroQ).id
theorem lsOk {n : Nat} {l : List Rq} (h : errRq n l = 0) : LsOk n l := by
 unfold errRq at h
 split at h
 ·cases h
 ·have hb : ∀ k, k < l.length -> badRq n (l.getD k zeroQ) = false /\ (l.take k).any (sameId (l.getD k zeroQ)) = false := by
   intro k hk
   have := errUp_all h k hk
   unfold errRq1 at this
   split at this
   ·cases this
   ·rename_i h1
    split at this
    ·cases this
    ·rename_i h2
     refine ⟨?_, ?_⟩
     ·cases hc : badRq n (l.getD k zeroQ) with
      | false => rfl
      | true => exact absurd hc h1
     ·cases hc : (l.take k).any (sameId (l.getD k zeroQ)) with
      | false => rfl
      | true => exact absurd hc h2
  refine ⟨by omega, fun k hk => rqOk (hb k hk).1, fun k j hk hj => ?_⟩
  have hjt : j < (l.take k).length := by rw [take_len (by omega)]; exact hj
  have := any_no (d := zeroQ) (hb k hk).2 hjt
  have hg : (l.take k).getD j zeroQ = l.getD j zeroQ := by rw [List.getD_eq_getElem?_getD, List.getElem?_take, if_pos (by omega), <- List.getD_eq_getElem?_getD]
  rw [hg] at this
  exact of_decide_eq_false this
structure PreOk (q : Prem) : Prop where
 burst : 0 <= q.burst /\ q.burst <= 20
 period : 1 <= q.period /\ q.period <= 200
 service : 1 <= q.service /\ q.service <= 200
def crN (p : Nat -> Bool) (n : Nat) : Nat := ((List.range n).filter p).length
theorem crN_succ (p : Nat -> Bool) (n : Nat) : crN p (n + 1) = crN p n + (if p n = true then 1 else 0) := by
 unfold crN
 rw [List.range_succ, List.filter_append, List.length_append]
 cases h : p n <;> simp [h]
theorem crN_mono {p r : Nat -> Bool} : ∀ {n : Nat}, (∀ t, t < n -> p t = true -> r t = true) -> crN p n <= crN r n := by
 intro n
 induction n with
 | zero => intro _; exact Nat.le_refl _
 | succ n ih =>
  intro h
  have h1 := ih fun t ht => h t (by omega)
  have h2 := h n (by omega)
  rw [crN_succ, crN_succ]
  split
  ·rename_i hp; rw [if_pos (h2 hp)]; omega
  ·omega
end
end Go.Proofs.YthdekmpkioikdaaGreat
/- The library's sort of numbers, laid at this program (written by the kit's own tool). No condition. -/
namespace Go.Proofs.YthdekmpkioikdaaGreat
set_option linter.unusedSimpArgs false
set_option linter.unusedVariables false
open Go Go.Shelf
end Go.Proofs.YthdekmpkioikdaaGreat
/- The library's sort, by its contract, over canonical memory. No condition. -/
namespace Go.K
set_option linter.unusedSimpArgs false
open Go
set_option linter.unusedVariables false
variable {P : Program}
end Go.K
/- The library's sort of numbers, by the kit's contract, over canonical memory. No condition. -/
namespace Go.K
set_option linter.unusedSimpArgs false
open Go Go.Proofs Go.RowKit Go.Lib Go.Sort Go.Shelf
set_option linter.unusedVariables false
variable {P : Program}
end Go.K
/- Request: premises: whether they hold, and their bound. No condition. -/
namespace Go.Proofs.YthdekmpkioikdaaGreat
open Go Go.K
set_option maxRecDepth 100000
set_option linter.unusedVariables false
set_option linter.unusedSimpArgs false
noncomputable section
attribute [local irreducible] vF
theorem set_same {α : Type} {l : List α} {i : Nat} {x : α} (h : l[i]? = some x) : l.set i x = l := by
 refine List.ext_getElem? fun k => ?_
 rw [List.getElem?_set]
 split
 ·rename_i e; subst e
  rw [if_pos (List.getElem?_eq_some_iff.1 h).1, h]
 ·rfl
abbrev hV (r : Bool × Int) : Value := .tuple #[.bool r.1, .int .i64 r.2]
end
end Go.Proofs.YthdekmpkioikdaaGreat
/- Request: the reference's Hold. No condition. -/
namespace Go.Proofs.YthdekmpkioikdaaGreat
open Go Go.K
set_option maxRecDepth 100000
set_option linter.unusedVariables false
set_option linter.unusedSimpArgs false
noncomputable section
attribute [local irreducible] vF
theorem lenAt {l : List Rq} {k : Nat} (h : k < l.length) {off : Nat} (ho : off = k * 7 + 4) : (l.flatMap rqC)[off]? = some (.int .i64 (l.getD k zeroQ).len) := cell_at (n := 7) (d := zeroQ) (c := 4) rqC_len h ho rfl
end
end Go.Proofs.YthdekmpkioikdaaGreat
/- Request: plain laws of histories. No condition. -/
namespace Go.Proofs.YthdekmpkioikdaaGreat
set_option linter.unusedSimpArgs false
open Go Go.K
set_option linter.unusedVariables false
noncomputable section
theorem frH_len (f : Fleet) (h : List Sv) : ∀ k, (frH f h k).length = f.b.length
 | 0 => List.length_replicate ..
 | k + 1 => by show ((frH f h k).set _ _).length = _; rw [List.length_set, frH_len f h k]
theorem plH_len (f : Fleet) (l : List Rq) (h : List Sv) : ∀ k, (plH f l h k).length = f.b.length
 | 0 => rfl
 | k + 1 => by show ((plH f l h k).set _ _).length = _; rw [List.length_set, plH_len f l h k]
theorem rqAt_dest {f : Fleet} (o : FlOk f) {l : List Rq} (ol : LsOk f.t.length l) (i : Int) : 0 <= (rqAt l i).dest /\ (rqAt l i).dest <= (f.t.length : Int) - 1 := by
 unfold rqAt
 by_cases hi : Int.toNat i < l.length
 ·exact (ol.ok _ hi).dest
 ·rw [List.getD_eq_getElem?_getD, List.getElem?_eq_none (by omega)]
  have := o.n1
  show 0 <= (0 : Int) /\ (0 : Int) <= _
  omega
theorem plH_in {f : Fleet} (o : FlOk f) {l : List Rq} (ol : LsOk f.t.length l) (h : List Sv) : ∀ (k b : Nat), b < f.b.length -> 0 <= (plH f l h k).getD b 0 /\ (plH f l h k).getD b 0 <= (f.t.length : Int) - 1
 | 0, b, hb => o.br b hb
 | k + 1, b, hb => by
  show 0 <= ((plH f l h k).set _ _).getD b 0 /\ _
  have ih := plH_in o ol h k b hb
  have hd := rqAt_dest o ol (svAt h k).rq
  have e : (plH f l h (k + 1)).getD b 0 = if Int.toNat (svAt h k).br = b then (rqAt l (svAt h k).rq).dest else (plH f l h k).getD b 0 := by
   show ((plH f l h k).set _ _).getD b 0 = _
   rw [List.getD_eq_getElem?_getD, List.getElem?_set]
   split
   ·rw [if_pos (by rw [plH_len]; omega)]; rfl
   ·rw [<- List.getD_eq_getElem?_getD]
  show 0 <= (plH f l h (k + 1)).getD b 0 /\ (plH f l h (k + 1)).getD b 0 <= _
  rw [e]
  split
  ·exact hd
  ·exact ih
theorem trav_in {f : Fleet} (o : FlOk f) {a b : Int} (ha : 0 <= a /\ a <= (f.t.length : Int) - 1) : 0 <= trav f a b /\ trav f a b <= 100 := o.el (Int.toNat a) (Int.toNat b) (by omega)
theorem metH_len (n : Nat) (h : List Sv) (k : Nat) : (metH n h k).length = n := tabP_len ..
theorem list_ext {α : Type} {a b : List α} (d : α) (hl : a.length = b.length) (h : ∀ k, k < a.length -> a.getD k d = b.getD k d) : a = b := by
 refine List.ext_getElem hl fun k h1 h2 => ?_
 have := h k h1
 rw [List.getD_eq_getElem?_getD, List.getD_eq_getElem?_getD, List.getElem?_eq_getElem h1, List.getElem?_eq_getElem h2] at this
 exact this
theorem getD_setN {α : Type} {a : List α} {d x : α} {i j : Nat} (hj : j < a.length) : (a.set i x).getD j d = if i = j then x else a.getD j d := by
 rw [List.getD_eq_getElem?_getD, List.getElem?_set]
 split
 ·rename_i e; subst e; rw [if_pos hj]; rfl
 ·rw [<- List.getD_eq_getElem?_getD]
theorem metH_succ {n : Nat} {h : List Sv} {k : Nat} (hk : k < h.length) (hi : 0 <= (svAt h k).rq) (hn : (svAt h k).rq < (n : Int)) : metH n h (k + 1) = (metH n h k).set (Int.toNat (svAt h k).rq) true := by
 refine list_ext false (by rw [List.length_set, metH_len, metH_len]) fun j hj => ?_
 rw [metH_len] at hj
 rw [getD_setN (by rw [metH_len]; exact hj)]
 unfold metH
 rw [tabP_get hj, tabP_get hj, take_snoc (d := zeroV) hk, List.any_append, List.any_cons, List.any_nil, Bool.or_false]
 show (_ || isRq (j : Int) (svAt h k)) = _
 unfold isRq
 split
 ·rw [decide_eq_true (by omega), Bool.or_true]
 ·rw [decide_eq_false (by omega), Bool.or_false]
theorem metH_0 (n : Nat) (h : List Sv) : metH n h 0 = List.replicate n false := by
 refine list_ext false (by rw [metH_len, List.length_replicate]) fun j hj => ?_
 rw [metH_len] at hj
 unfold metH
 rw [tabP_get hj, List.take_zero, List.getD_eq_getElem?_getD, List.getElem?_replicate, if_pos hj]; rfl
section
variable {f : Fleet} {l : List Rq} {h : List Sv} {k : Nat}
variable (c1 : (!inB (svAt h k).rq 0 ((l.length : Int) - 1)) = false) (c2 : (!inB (svAt h k).br 0 ((f.b.length : Int) - 1)) = false)
include c1 c2
end
end
end Go.Proofs.YthdekmpkioikdaaGreat
/- What is to be shown of functions. Printed by a program. No condition. -/
namespace Go.Proofs.YthdekmpkioikdaaGreat
set_option linter.unusedSimpArgs false
open Go Go.K
set_option maxRecDepth 100000
set_option maxHeartbeats 4000000
set_option linter.unusedVariables false
noncomputable section
abbrev jel (l : List Int) : KObj:=.cells true 1 (l.flatMap intC)
def RClone (l : List Int) : Prop :=
 ((l.length = 0 -> (((0 + l.length) * 8 <= 2 ^ 44 /\ l.length = 0) /\ (true = true /\ wk (slQ 1 1 0 : Value) (rn (sg 1 [(1,1)]) 3 (slQ 1 1 l.length : Value)) /\ ((some (.cells true 1 [] : KObj) = some (jel l) /\ belowO 1 (jel l) = true) /\ True)))) /\ (¬ (l.length = 0) -> (((0 + l.length) * 8 <= 2 ^ 44 /\ l.length ≠ 0 /\ (0 <= 0 /\ 0 + 0 * 1 <= List.length ([] : List Value)) /\ (l.length <= l.length /\ 0 + l.length * 1 <= List.length (l.flatMap intC)) /\ ((((l.flatMap intC).drop 0).take (l.length * 1)) : List Value).all (fun v => one1 v) = true) /\ true = true /\ (true = true /\ wk (.slice (some ⟨2,0,none⟩) (0 + l.length) (0 + l.length) : Value) (rn (sg 1 [(1,2)]) 3 (slQ 1 1 l.length : Value)) /\ ((some (.cells true 1 (((([] : List Value).drop 0).take (0 * 1)) ++ (((l.flatMap intC).drop 0).take (l.length * 1))) : KObj) = some (jel l) /\ belowO 1 (jel l) = true) /\ True)))))
theorem EClone (l : List Int) : vF prog msk (dm 0) 100000 true 40 true 116 [.slice (some ⟨0,0,none⟩) l.length l.length] (readsT 0 [l.flatMap intC]) (some [])
 (.go 5 (.cas (l.length = 0) (.val (.bool true) (.go 0 (.again [(1,1)]))) (.need (.go 0 (.again [(1,2)])))))
 (newK ((readsT 0 [l.flatMap intC]) : HT).n 3 (slQ 1 1 l.length) [(true,.cells true 1 (l.flatMap intC))]) = RClone l:=by kernel_rfl
abbrev jeu : Value:=nI 0
abbrev jee : Prop:=(.pointer (some ⟨2,0,none⟩) : Value) = .pointer (some ⟨2,0,none⟩) /\ (.slice none 0 0 : Value) = .slice none 0 0 /\ True
abbrev je6 (f : Fleet) : List Value:=[slQ 0 2 f.t.length,slQ 1 2 f.b.length]
abbrev je5 (f : Fleet) : Int:=(f.b.length : Nat)
abbrev jeb (f : Fleet):=f.b.flatMap intC
abbrev jeg (f : Fleet) : KObj:=.cells true 2 ((dock f).flatMap brC)
def Rdocked (f : Fleet) : Prop :=
 (true = true /\ (0 <= List.length f.b) /\ (true = true /\ (jeu = nI ((0 : Nat) : Int) /\ wk (.slice none 0 0 : Value) (slQ 0 1 0 : Value) /\ jee) /\ ((keptR 3 (.cells true 0 (je6 f))) /\ True) /\ (True /\ True) /\ (True)) /\ (∀ x0 : Nat,true = true) /\ ∀ x0 : Nat,(x0 <= List.length f.b) -> (((decide (((x0 : Int) : Int) < (je5 f))) = true -> (((0 : Int) <= (x0 : Int) /\ ((x0 : Int) : Int) < (je5 f)) /\ (((jeb f)[(0 + Int.toNat (x0 : Int) * 1)]? = some (nI (f.b.getD x0 0))) /\ (((x0 + 1) * 16 <= 2 ^ 44 /\ 1 ≠ 0 /\ (x0 <= x0 /\ 0 + x0 * 2 <= List.length (((dock f).take x0).flatMap brC)) /\ (1 <= 1 /\ 0 + 1 * 2 <= List.length ([nI 0,nI (f.b.getD x0 0)] : List Value)) /\ (((([nI 0,nI (f.b.getD x0 0)] : List Value).drop 0).take (1 * 2)) : List Value).all (fun v => one1 v) = true) /\ true = true /\ ((nI (IntKind.wrap .i64 ((x0 : Int) + 1)) : Value) = nI ((x0 : Int) + 1) /\ (∃ x0' : Nat,(x0' <= List.length f.b) /\ (List.length f.b - x0') < (List.length f.b - x0) /\ true = true /\ ((nI ((x0 : Int) + 1) : Value) = nI (x0' : Int) /\ wk (.slice (some ⟨5,0,none⟩) (x0 + 1) (x0 + 1) : Value) (slQ 5 1 x0' : Value) /\ jee) /\ ((keptR 3 (.cells true 0 (je6 f))) /\ True) /\ ((some (.cells true 2 ((((((dock f).take x0).flatMap brC).drop 0).take (x0 * 2)) ++ ((([nI 0,nI (f.b.getD x0 0)] : List Value).drop 0).take (1 * 2))) : KObj) = some (.cells true 2 (((dock f).take x0').flatMap brC) : KObj) /\ belowO 3 (.cells true 2 (((dock f).take x0').flatMap brC) : KObj) = true) /\ True) /\ (True))))))) /\ ((decide (((x0 : Int) : Int) < (je5 f))) = false -> (true = true /\ wk (slQ 3 1 x0 : Value) (rn (sg 2 [(2,3)]) 3 (slQ 2 1 (dock f).length : Value)) /\ ((some (.cells true 2 (((dock f).take x0).flatMap brC) : KObj) = some (jeg f) /\ belowO 2 (jeg f) = true) /\ True)))))
abbrev jeo (f : Fleet) : List Value:=[.agg #[slQ 0 2 f.t.length,slQ 1 2 f.b.length]]
theorem Edocked (f : Fleet) : vF prog msk (dm 0) 100000 true 40 true 138 (jeo f) (readsT 0 [inL f.t,f.b.flatMap intC]) (some [])
 (.go 3 (.inv 3 (Nat) (0) [] [2] (fun x0 => [(4,nI (x0 : Int)),(3,slQ 3 1 x0),(1,.pointer (some ⟨2,0,none⟩)),(2,.slice none 0 0)]) (fun x0 => [(2,true,.cells true 0 (je6 f))]) (fun x0 => [(true,.cells true 2 (((dock f).take x0).flatMap brC))]) (fun x0 => []) (fun x0 => (x0 <= List.length f.b)) (fun x0 => (List.length f.b - x0)) (fun x0 => .go 4 (.fork (.go 3 (.need (.val (nI (f.b.getD x0 0)) (.go 1 (.need (.go 2 (.slot 11 (nI ((x0 : Int) + 1)) (.go 0 (.again [(3,5)]))))))))) (.go 1 (.again [(2,3)]))))))
 (newK ((readsT 0 [inL f.t,f.b.flatMap intC]) : HT).n 3 (slQ 2 1 (dock f).length) [(true,.cells true 2 ((dock f).flatMap brC))]) = Rdocked f:=by kernel_rfl
abbrev jeh (f : Fleet) (p : Int):=f.t.getD p.toNat []
abbrev je4 (l1_ : List Rq) : Int:=(l1_.length : Nat)
abbrev jec (l1_ : List Rq) (i : Int):=l1_.getD i.toNat zeroQ
abbrev jet (l1_ : List Rq) (i : Int):=Int.toNat (jec l1_ i).place
def Rserve (sp : Value) (f : Fleet) (l1_ : List Rq) (i b p t : Int) : Prop :=
 (((0 : Int) <= p /\ (p : Int) < ((f.t.length : Nat) : Int)) /\ (((inL f.t)[(0 + Int.toNat p * 1)]? = some (.iface ((jeh f p).length + 1) (.agg ⟨((jeh f p).flatMap intC)⟩))) /\ (((0 : Int) <= i /\ (i : Int) < (je4 l1_)) /\ (((l1_.flatMap rqC)[((0 + Int.toNat i * 7) + 2)]? = some (nI (jec l1_ i).place)) /\ (((0 : Int) <= (jec l1_ i).place /\ ((jec l1_ i).place : Int) < (((jeh f p).length : Nat) : Int)) /\ ((((jeh f p).flatMap intC)[(Int.toNat (jec l1_ i).place * 1)]? = some (nI ((jeh f p).getD (jet l1_ i) 0))) /\ ((nI (IntKind.wrap .i64 (t + ((jeh f p).getD (jet l1_ i) 0))) : Value) = nI (t + ((jeh f p).getD (jet l1_ i) 0)) /\ (∃ y0 : Int,(nI (t + ((jeh f p).getD (jet l1_ i) 0)) : Value) = nI y0 /\ (((0 : Int) <= i /\ (i : Int) < (je4 l1_)) /\ (((l1_.flatMap rqC)[((0 + Int.toNat i * 7) + 4)]? = some (nI (jec l1_ i).len)) /\ ((nI (IntKind.wrap .i64 (y0 + (jec l1_ i).len)) : Value) = nI (y0 + (jec l1_ i).len) /\ (.agg #[nI i,nI b,nI t,nI y0,nI (y0 + (jec l1_ i).len)] : Value) = sp)))))))))))
theorem Eserve (sp : Value) (f : Fleet) (l1_ : List Rq) (i b p t : Int) : vF prog msk (dm 0) 100000 true 40 true 141 [.agg #[slQ 0 2 f.t.length,slQ 1 2 f.b.length],slQ 2 2 l1_.length,nI i,nI b,nI p,nI t] (readsT 0 [inL f.t,f.b.flatMap intC,l1_.flatMap rqC]) (some [])
 (.go 5 (.need (.val (.iface ((jeh f p).length + 1) (.agg ⟨((jeh f p).flatMap intC)⟩)) (.go 1 (.need (.go 0 (.val (nI (jec l1_ i).place) (.need (.val (nI ((jeh f p).getD (jet l1_ i) 0)) (.go 0 (.slot 27 (nI (t + ((jeh f p).getD (jet l1_ i) 0))) (.bind Int (fun y0 => .slot 27 (nI y0) (.go 7 (.need (.go 0 (.val (nI (jec l1_ i).len) (.go 0 (.slot 38 (nI (y0 + (jec l1_ i).len)) (.auto))))))))))))))))))))
 (fun v _ _ => v = sp) = Rserve sp f l1_ i b p t:=by kernel_rfl
end
end Go.Proofs.YthdekmpkioikdaaGreat
