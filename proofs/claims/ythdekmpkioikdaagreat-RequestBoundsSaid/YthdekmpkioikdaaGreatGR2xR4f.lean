/- Request: what is wrong with fleets, requests, policies and premises. No condition. -/
import Derived.Test.YthdekmpkioikdaaGreatGR1xR2g
namespace Go.Proofs.YthdekmpkioikdaaGreat
open Go Go.K
set_option maxRecDepth 100000
set_option linter.unusedVariables false
set_option linter.unusedSimpArgs false
noncomputable section
attribute [local irreducible] vF
theorem dec0 (x : Nat) : decide ((0 : Int) ≤ (x : Int)) = true := decide_eq_true (by omega)
theorem kAnyT (l : List Int) (hl : l.length ≤ 4294967296) (H : Heap) : KCall prog 131 [inV l, .func (.func 132) #[] #[]] H [] (Is (.bool (l.any badT)) H) := by
  refine valK 40 (fun σ => by have := inV_rn σ 2 l; show [rn σ (2 + 3) (inV l), _] = _; rw [this]; rfl) rfl (Eq.mpr (EanyT _ l) ?_) H
  unfold RanyT
  refine ⟨rfl, ⟨Nat.zero_le _, rfl⟩, ?_, fun _ => rfl, ?_⟩
  · repeat' first | exact inL_b _ _ | exact plainIL _ _ | exact plainRQ _ _ | exact (inV_rn _ 0 _).symm | exact wk_QR | exact trivial | exact rfl | exact wk_refl _ | refine wkO_cells ?_ | refine wks_cons ?_ ?_ | exact wks_nil | exact wk_nil _ _ _ (.inl rfl) | (exact wk_Q (by omega)) | refine wk_tupL ?_ | refine wk_aggL ?_ | refine joinMax ?_ ?_ ?_ | refine joinMin ?_ ?_ ?_ | refine toMax ?_ | refine toMin ?_ | refine ⟨rfl, ?_⟩ | refine ⟨trivial, ?_⟩ | (refine forkD (fun h => ?_) (fun h => ?_)) | (refine forkNe (fun h => ?_) (fun h => ?_)) | (refine forkEq (fun h => ?_) (fun h => ?_)) | refine forkNot ?_ | (refine ⟨vI64 (by omega), ?_⟩) | (refine And.intro (by omega) ?_) | apply And.intro | (exact iEq (by omega)) | (exact vI64 (by omega))
  rintro x ⟨hx, hs⟩
  refine forkD (fun k => ?_) (fun k => bEq (any_end (by omega) hs).symm)
  have hlt : x < l.length := by omega
  refine ⟨by omega, intAt hlt (by omega), trivial, fun H' _ _ => kIn _ _ _ H', forkB (fun h => bEq ((dec0 x).trans (any_at (d := 0) hlt h).symm)) (fun h => ⟨vI64 (by omega), x + 1, ⟨by omega, any_snoc (d := 0) hlt hs h⟩, by omega, rfl, ?_⟩)⟩
  repeat' first | exact inL_b _ _ | exact plainIL _ _ | exact plainRQ _ _ | exact (inV_rn _ 0 _).symm | exact wk_QR | exact trivial | exact rfl | exact wk_refl _ | refine wkO_cells ?_ | refine wks_cons ?_ ?_ | exact wks_nil | exact wk_nil _ _ _ (.inl rfl) | (exact wk_Q (by omega)) | refine wk_tupL ?_ | refine wk_aggL ?_ | refine joinMax ?_ ?_ ?_ | refine joinMin ?_ ?_ ?_ | refine toMax ?_ | refine toMin ?_ | refine ⟨rfl, ?_⟩ | refine ⟨trivial, ?_⟩ | (refine forkD (fun h => ?_) (fun h => ?_)) | (refine forkNe (fun h => ?_) (fun h => ?_)) | (refine forkEq (fun h => ?_) (fun h => ?_)) | refine forkNot ?_ | (refine ⟨vI64 (by omega), ?_⟩) | (refine And.intro (by omega) ?_) | apply And.intro | (exact iEq (by omega)) | (exact vI64 (by omega))
theorem kAnyA (l : List Int) (n : Nat) (hl : l.length ≤ 4294967296) (hn : n ≤ 4294967296) {H : Heap} {i0 i1 : Nat} {o0 o1 : Bool} {z0 z1 : Nat} (e0 : H[i0]? = some (.cells o0 z0 (l.flatMap intC))) (e1 : H[i1]? = some (.cells o1 z1 [nI (n : Int)])) :
    KCall prog 131 [.slice (some ⟨i0, 0, some 2⟩) l.length l.length, .func (.func 133) #[] #[.pointer (some ⟨i1, 0, none⟩)]] H [] (Is (.bool (l.any (badA n))) H) := by
  refine valRx (Eq.mpr (EanyA _ l n) ?_) ⟨plainIL 0 _, rfl, trivial⟩ rfl (ids := [i0, i1]) ⟨⟨_, _, e0⟩, ⟨_, _, e1⟩, trivial⟩ rfl
  unfold RanyA
  refine ⟨rfl, ⟨Nat.zero_le _, rfl⟩, ?_, fun _ => rfl, ?_⟩
  · repeat' first | exact inL_b _ _ | exact plainIL _ _ | exact plainRQ _ _ | exact (inV_rn _ 0 _).symm | exact wk_QR | exact trivial | exact rfl | exact wk_refl _ | refine wkO_cells ?_ | refine wks_cons ?_ ?_ | exact wks_nil | exact wk_nil _ _ _ (.inl rfl) | (exact wk_Q (by omega)) | refine wk_tupL ?_ | refine wk_aggL ?_ | refine joinMax ?_ ?_ ?_ | refine joinMin ?_ ?_ ?_ | refine toMax ?_ | refine toMin ?_ | refine ⟨rfl, ?_⟩ | refine ⟨trivial, ?_⟩ | (refine forkD (fun h => ?_) (fun h => ?_)) | (refine forkNe (fun h => ?_) (fun h => ?_)) | (refine forkEq (fun h => ?_) (fun h => ?_)) | refine forkNot ?_ | (refine ⟨vI64 (by omega), ?_⟩) | (refine And.intro (by omega) ?_) | apply And.intro | (exact iEq (by omega)) | (exact vI64 (by omega))
  rintro x ⟨hx, hs⟩
  refine forkD (fun k => ?_) (fun k => bEq (any_end (by omega) hs).symm)
  have hlt : x < l.length := by omega
  refine ⟨by omega, intAt hlt (by omega), vI64 (by omega), trivial, fun H' _ _ => kIn _ _ _ H', forkB (fun h => bEq ((dec0 x).trans (any_at (d := 0) hlt h).symm)) (fun h => ⟨vI64 (by omega), x + 1, ⟨by omega, any_snoc (d := 0) hlt hs h⟩, by omega, rfl, ?_⟩)⟩
  repeat' first | exact inL_b _ _ | exact plainIL _ _ | exact plainRQ _ _ | exact (inV_rn _ 0 _).symm | exact wk_QR | exact trivial | exact rfl | exact wk_refl _ | refine wkO_cells ?_ | refine wks_cons ?_ ?_ | exact wks_nil | exact wk_nil _ _ _ (.inl rfl) | (exact wk_Q (by omega)) | refine wk_tupL ?_ | refine wk_aggL ?_ | refine joinMax ?_ ?_ ?_ | refine joinMin ?_ ?_ ?_ | refine toMax ?_ | refine toMin ?_ | refine ⟨rfl, ?_⟩ | refine ⟨trivial, ?_⟩ | (refine forkD (fun h => ?_) (fun h => ?_)) | (refine forkNe (fun h => ?_) (fun h => ?_)) | (refine forkEq (fun h => ?_) (fun h => ?_)) | refine forkNot ?_ | (refine ⟨vI64 (by omega), ?_⟩) | (refine And.intro (by omega) ?_) | apply And.intro | (exact iEq (by omega)) | (exact vI64 (by omega))
theorem partQL {l m : List Rq} {k : Nat} (h : k < l.length) {off : Nat} (ho : off = k * 7) : partA 7 ((l ++ m).flatMap rqC) off = some (.agg ⟨rqC (l.getD k zeroQ)⟩) := by
  have := partQ (l := l ++ m) (k := k) (by rw [List.length_append]; omega) ho
  rw [this, List.getD_eq_getElem?_getD, List.getElem?_append_left h, ← List.getD_eq_getElem?_getD]
theorem sameId_1 {r x : Rq} (h : x.id = r.id) : sameId r x = true := decide_eq_true h
theorem sameId_0 {r x : Rq} (h : x.id ≠ r.id) : sameId r x = false := decide_eq_false h
theorem kAnyI (l m : List Rq) (r : Rq) (hl : l.length ≤ 4294967296) {H : Heap} {i0 i1 : Nat} {o0 o1 : Bool} {z0 z1 : Nat} (e0 : H[i0]? = some (.cells o0 z0 ((l ++ m).flatMap rqC))) (e1 : H[i1]? = some (.cells o1 z1 (rqC r))) :
    KCall prog 135 [.slice (some ⟨i0, 0, some 2⟩) l.length l.length, .func (.func 136) #[] #[.pointer (some ⟨i1, 0, none⟩)]] H [] (Is (.bool (l.any (sameId r))) H) := by
  refine valRx (Eq.mpr (EanyI _ l m r) ?_) ⟨plainRQ 0 _, rfl, trivial⟩ rfl (ids := [i0, i1]) ⟨⟨_, _, e0⟩, ⟨_, _, e1⟩, trivial⟩ rfl
  unfold RanyI
  refine ⟨rfl, ⟨Nat.zero_le _, rfl⟩, ?_, fun _ => rfl, ?_⟩
  · repeat' first | exact inL_b _ _ | exact plainIL _ _ | exact plainRQ _ _ | exact (inV_rn _ 0 _).symm | exact wk_QR | exact trivial | exact rfl | exact wk_refl _ | refine wkO_cells ?_ | refine wks_cons ?_ ?_ | exact wks_nil | exact wk_nil _ _ _ (.inl rfl) | (exact wk_Q (by omega)) | refine wk_tupL ?_ | refine wk_aggL ?_ | refine joinMax ?_ ?_ ?_ | refine joinMin ?_ ?_ ?_ | refine toMax ?_ | refine toMin ?_ | refine ⟨rfl, ?_⟩ | refine ⟨trivial, ?_⟩ | (refine forkD (fun h => ?_) (fun h => ?_)) | (refine forkNe (fun h => ?_) (fun h => ?_)) | (refine forkEq (fun h => ?_) (fun h => ?_)) | refine forkNot ?_ | (refine ⟨vI64 (by omega), ?_⟩) | (refine And.intro (by omega) ?_) | apply And.intro | (exact iEq (by omega)) | (exact vI64 (by omega))
  rintro x ⟨hx, hs⟩
  refine forkD (fun k => ?_) (fun k => bEq (any_end (by omega) hs).symm)
  have hlt : x < l.length := by omega
  refine ⟨by omega, partQL hlt (by omega), forkEq (fun h => bEq ((dec0 x).trans (any_at (d := zeroQ) hlt (sameId_1 h)).symm)) (fun h => ⟨vI64 (by omega), x + 1, ⟨by omega, any_snoc (d := zeroQ) hlt hs (sameId_0 h)⟩, by omega, rfl, ?_⟩)⟩
  repeat' first | exact inL_b _ _ | exact plainIL _ _ | exact plainRQ _ _ | exact (inV_rn _ 0 _).symm | exact wk_QR | exact trivial | exact rfl | exact wk_refl _ | refine wkO_cells ?_ | refine wks_cons ?_ ?_ | exact wks_nil | exact wk_nil _ _ _ (.inl rfl) | (exact wk_Q (by omega)) | refine wk_tupL ?_ | refine wk_aggL ?_ | refine joinMax ?_ ?_ ?_ | refine joinMin ?_ ?_ ?_ | refine toMax ?_ | refine toMin ?_ | refine ⟨rfl, ?_⟩ | refine ⟨trivial, ?_⟩ | (refine forkD (fun h => ?_) (fun h => ?_)) | (refine forkNe (fun h => ?_) (fun h => ?_)) | (refine forkEq (fun h => ?_) (fun h => ?_)) | refine forkNot ?_ | (refine ⟨vI64 (by omega), ?_⟩) | (refine And.intro (by omega) ?_) | apply And.intro | (exact iEq (by omega)) | (exact vI64 (by omega))
theorem bad0 {b : Bool} (h : (!b) = false) : b = true := by cases b <;> first | rfl | cases h
theorem errPre_1 {q : Prem} (h : (!inB q.burst 0 20 || !inB q.period 1 200 || !inB q.service 1 200) = true) : (6 : Int) = errPre q := (if_pos h).symm
theorem errPre_0 {q : Prem} (h1 : (!inB q.burst 0 20) = false) (h2 : (!inB q.period 1 200) = false) (h3 : (!inB q.service 1 200) = false) : (0 : Int) = errPre q := (if_neg (by simp only [h1, h2, h3]; decide)).symm
theorem kPre (q : Prem) (H : Heap) : KCall prog 82 [.agg ⟨preC q⟩] H [] (Is (.int .i64 (errPre q)) H) := by
  refine valK 40 (fun σ => rfl) rfl (Eq.mpr (Epre _ q) ?_) H
  unfold Rpre
  exact ⟨trivial, fun H' _ _ => kIn _ _ _ H', forkB (fun h => iEq (errPre_1 (by simp only [h, Bool.true_or]))) (fun h1 => ⟨trivial, fun H' _ _ => kIn _ _ _ H', forkB (fun h => iEq (errPre_1 (by simp only [h, Bool.true_or, Bool.or_true]))) (fun h2 => ⟨trivial, fun H' _ _ => kIn _ _ _ H', forkB (fun h => iEq (errPre_1 (by simp only [h, Bool.or_true]))) (fun h3 => iEq (errPre_0 h1 h2 h3))⟩)⟩)⟩
theorem krPre (q : Prem) (H : Heap) : KCall prog 86 [.agg ⟨preC q⟩] H [] (Is (.int .i64 (errPre q)) H) := by
  refine valK 40 (fun σ => rfl) rfl (Eq.mpr (Erpre _ q) ?_) H
  unfold Rrpre
  exact ⟨trivial, fun H' _ _ => kOut _ _ _ H', forkB (fun h => iEq (errPre_1 (by simp only [h, Bool.true_or]))) (fun h1 => ⟨trivial, fun H' _ _ => kOut _ _ _ H', forkB (fun h => iEq (errPre_1 (by simp only [h, Bool.true_or, Bool.or_true]))) (fun h2 => ⟨trivial, fun H' _ _ => kOut _ _ _ H', forkB (fun h => iEq (errPre_1 (by simp only [h, Bool.or_true]))) (fun h3 => iEq (errPre_0 h1 h2 h3))⟩)⟩)⟩
theorem row_1 {n i : Nat} {row : List Int} (h : ((row.length : Nat) : Int) ≠ (n : Int)) : badRow n i row = true := by
  unfold badRow; rw [decide_eq_true (show row.length ≠ n by omega)]; rfl
theorem row_2 {n i : Nat} {row : List Int} (h : row.getD i 0 ≠ 0) : badRow n i row = true := by
  unfold badRow; rw [decide_eq_true h, Bool.or_true]; rfl
theorem row_3 {n i : Nat} {row : List Int} (h : row.any badT = true) : badRow n i row = true := by
  unfold badRow; rw [h, Bool.or_true]
theorem row_0 {n i : Nat} {row : List Int} (h1 : ((row.length : Nat) : Int) = (n : Int)) (h2 : row.getD i 0 = 0) (h3 : row.any badT = false) : badRow n i row = false := by
  unfold badRow; rw [h3, decide_eq_false (fun k => k (by omega)), decide_eq_false (fun k => k h2)]; rfl
theorem errRow_1 {f : Fleet} {i : Nat} (h : badRow f.t.length i (f.t.getD i []) = true) : errRow f i = 80 := if_pos h
theorem errRow_0 {f : Fleet} {i : Nat} (h : badRow f.t.length i (f.t.getD i []) = false) : errRow f i = 0 := if_neg (by rw [h]; decide)
theorem errFl_1 {f : Fleet} (h : (!inB (f.t.length : Int) 1 12) = true) : (2 : Int) = errFl f := (if_pos (.inl h)).symm
theorem errFl_2 {f : Fleet} (h : (!inB (f.b.length : Int) 1 3) = true) : (2 : Int) = errFl f := (if_pos (.inr h)).symm
theorem errFl_3 {f : Fleet} (h1 : (!inB (f.t.length : Int) 1 12) = false) (h2 : (!inB (f.b.length : Int) 1 3) = false) {x : Nat} (hx : x < f.t.length) (hs : errUp (errRow f) x = 0) (h : badRow f.t.length x (f.t.getD x []) = true) : (80 : Int) = errFl f := by
  unfold errFl
  rw [if_neg (by rw [h1, h2]; decide), errUp_at hs (by rw [errRow_1 h]; decide) hx, errRow_1 h]; rfl
theorem errFl_4 {f : Fleet} (h1 : (!inB (f.t.length : Int) 1 12) = false) (h2 : (!inB (f.b.length : Int) 1 3) = false) (hs : errUp (errRow f) f.t.length = 0) (h : f.b.any (badA f.t.length) = true) : (80 : Int) = errFl f := by
  unfold errFl
  rw [if_neg (by rw [h1, h2]; decide), hs, if_pos h]; rfl
theorem errFl_0 {f : Fleet} (h1 : (!inB (f.t.length : Int) 1 12) = false) (h2 : (!inB (f.b.length : Int) 1 3) = false) (hs : errUp (errRow f) f.t.length = 0) (h : f.b.any (badA f.t.length) = false) : (0 : Int) = errFl f := by
  unfold errFl
  rw [if_neg (by rw [h1, h2]; decide), hs, if_neg (by rw [h]; decide)]; rfl
theorem kFl (f : Fleet) (ht : f.t.length ≤ 4294967296) (hb : f.b.length ≤ 4294967296) (hs : shortI f.t) {H : Heap} {i0 i1 : Nat} {o0 o1 : Bool} {z0 z1 : Nat} (e0 : H[i0]? = some (.cells o0 z0 (inL f.t))) (e1 : H[i1]? = some (.cells o1 z1 (f.b.flatMap intC))) :
    KCall prog 75 [fleetV f i0 i1] H [] (Is (.int .i64 (errFl f)) H) := by
  refine valRx (Eq.mpr (Efl _ f) ?_) ⟨inL_b 0 _, plainIL 0 _, trivial⟩ rfl (ids := [i0, i1]) ⟨⟨_, _, e0⟩, ⟨_, _, e1⟩, trivial⟩ rfl
  unfold Rfl
  refine ⟨trivial, fun H' _ _ => kIn _ _ _ H', forkB (fun h => iEq (errFl_1 h)) (fun h1 => ⟨trivial, fun H' _ _ => kIn _ _ _ H', forkB (fun h => iEq (errFl_2 h)) (fun h2 => ⟨rfl, ⟨Nat.zero_le _, rfl⟩, ?_, fun _ => rfl, ?_⟩)⟩)⟩
  · repeat' first | exact inL_b _ _ | exact plainIL _ _ | exact plainRQ _ _ | exact (inV_rn _ 0 _).symm | exact wk_QR | exact trivial | exact rfl | exact wk_refl _ | refine wkO_cells ?_ | refine wks_cons ?_ ?_ | exact wks_nil | exact wk_nil _ _ _ (.inl rfl) | (exact wk_Q (by omega)) | refine wk_tupL ?_ | refine wk_aggL ?_ | refine joinMax ?_ ?_ ?_ | refine joinMin ?_ ?_ ?_ | refine toMax ?_ | refine toMin ?_ | refine ⟨rfl, ?_⟩ | refine ⟨trivial, ?_⟩ | (refine forkD (fun h => ?_) (fun h => ?_)) | (refine forkNe (fun h => ?_) (fun h => ?_)) | (refine forkEq (fun h => ?_) (fun h => ?_)) | refine forkNot ?_ | (refine ⟨vI64 (by omega), ?_⟩) | (refine And.intro (by omega) ?_) | apply And.intro | (exact iEq (by omega)) | (exact vI64 (by omega))
  rintro x ⟨hx, hu⟩
  refine forkD (fun k => ?_) (fun k => ?_)
  · have hlt : x < f.t.length := by omega
    refine ⟨by omega, inL_at hlt (by omega), _, rfl, forkNe (fun h => iEq (errFl_3 h1 h2 hlt hu (row_1 h))) (fun h3 => ?_)⟩
    have hr : x < (f.t.getD x []).length := by omega
    refine ⟨by omega, intAt hr (by omega), forkNe (fun h => iEq (errFl_3 h1 h2 hlt hu (row_2 h))) (fun h4 => ⟨trivial, fun H' _ _ => kAnyT _ (hs x hlt) H', forkB (fun h => iEq (errFl_3 h1 h2 hlt hu (row_3 h))) (fun h5 => ⟨vI64 (by omega), x + 1, ⟨by omega, errUp_succ hu (errRow_0 (row_0 h3 h4 h5))⟩, by omega, rfl, ?_⟩)⟩)⟩
    repeat' first | exact inL_b _ _ | exact plainIL _ _ | exact plainRQ _ _ | exact (inV_rn _ 0 _).symm | exact wk_QR | exact trivial | exact rfl | exact wk_refl _ | refine wkO_cells ?_ | refine wks_cons ?_ ?_ | exact wks_nil | exact wk_nil _ _ _ (.inl rfl) | (exact wk_Q (by omega)) | refine wk_tupL ?_ | refine wk_aggL ?_ | refine joinMax ?_ ?_ ?_ | refine joinMin ?_ ?_ ?_ | refine toMax ?_ | refine toMin ?_ | refine ⟨rfl, ?_⟩ | refine ⟨trivial, ?_⟩ | (refine forkD (fun h => ?_) (fun h => ?_)) | (refine forkNe (fun h => ?_) (fun h => ?_)) | (refine forkEq (fun h => ?_) (fun h => ?_)) | refine forkNot ?_ | (refine ⟨vI64 (by omega), ?_⟩) | (refine And.intro (by omega) ?_) | apply And.intro | (exact iEq (by omega)) | (exact vI64 (by omega))
  · obtain rfl : x = f.t.length := by omega
    exact ⟨⟨rfl, rfl, trivial⟩, fun H' _ hd => kAnyA f.b _ hb ht hd.1 hd.2.1, forkB (fun h => iEq (errFl_4 h1 h2 hu h)) (fun h => iEq (errFl_0 h1 h2 hu h))⟩
theorem nin_1 {n a b : Int} (h : n < a) : (!inB n a b) = true := by unfold inB; rw [decide_eq_false (show ¬ a ≤ n by omega)]; rfl
theorem nin_2 {n a b : Int} (h : b < n) : (!inB n a b) = true := by unfold inB; rw [decide_eq_false (show ¬ n ≤ b by omega), Bool.and_false]; rfl
theorem nin_0 {n a b : Int} (h1 : ¬ n < a) (h2 : ¬ b < n) : (!inB n a b) = false := by rw [inB_1 (by omega) (by omega)]; rfl
theorem krFl (f : Fleet) (ht : f.t.length ≤ 4294967296) (hb : f.b.length ≤ 4294967296) (hs : shortI f.t) {H : Heap} {i0 i1 : Nat} {o0 o1 : Bool} {z0 z1 : Nat} (e0 : H[i0]? = some (.cells o0 z0 (inL f.t))) (e1 : H[i1]? = some (.cells o1 z1 (f.b.flatMap intC))) :
    KCall prog 78 [fleetV f i0 i1] H [] (Is (.int .i64 (errFl f)) H) := by
  refine valRx (Eq.mpr (Erfl _ f) ?_) ⟨inL_b 0 _, plainIL 0 _, trivial⟩ rfl (ids := [i0, i1]) ⟨⟨_, _, e0⟩, ⟨_, _, e1⟩, trivial⟩ rfl
  unfold Rrfl
  refine forkD (fun h => iEq (errFl_1 (nin_1 h))) (fun h1 => forkD (fun h => iEq (errFl_1 (nin_2 h))) (fun h2 => forkD (fun h => iEq (errFl_2 (nin_1 h))) (fun h3 => forkD (fun h => iEq (errFl_2 (nin_2 h))) (fun h4 => ⟨rfl, ⟨Nat.zero_le _, rfl⟩, ?_, fun _ => rfl, ?_⟩))))
  · repeat' first | exact inL_b _ _ | exact plainIL _ _ | exact plainRQ _ _ | exact (inV_rn _ 0 _).symm | exact wk_QR | exact trivial | exact rfl | exact wk_refl _ | refine wkO_cells ?_ | refine wks_cons ?_ ?_ | exact wks_nil | exact wk_nil _ _ _ (.inl rfl) | (exact wk_Q (by omega)) | refine wk_tupL ?_ | refine wk_aggL ?_ | refine joinMax ?_ ?_ ?_ | refine joinMin ?_ ?_ ?_ | refine toMax ?_ | refine toMin ?_ | refine ⟨rfl, ?_⟩ | refine ⟨trivial, ?_⟩ | (refine forkD (fun h => ?_) (fun h => ?_)) | (refine forkNe (fun h => ?_) (fun h => ?_)) | (refine forkEq (fun h => ?_) (fun h => ?_)) | refine forkNot ?_ | (refine ⟨vI64 (by omega), ?_⟩) | (refine And.intro (by omega) ?_) | apply And.intro | (exact iEq (by omega)) | (exact vI64 (by omega))
  have h12 := nin_0 h1 h2
  have h34 := nin_0 h3 h4
  rintro x ⟨hx, hu⟩
  refine forkD (fun k => ?_) (fun k => ?_)
  · have hlt : x < f.t.length := by omega
    refine ⟨by omega, inL_at hlt (by omega), _, rfl, forkNe (fun h => iEq (errFl_3 h12 h34 hlt hu (row_1 h))) (fun h5 => ?_)⟩
    have hr : x < (f.t.getD x []).length := by omega
    refine ⟨by omega, inL_at hlt (by omega), by omega, intAt hr (by omega), forkNe (fun h => iEq (errFl_3 h12 h34 hlt hu (row_2 h))) (fun h6 => ⟨rfl, ⟨Nat.zero_le _, rfl⟩, ?_, fun _ => rfl, ?_⟩)⟩
    · repeat' first | exact inL_b _ _ | exact plainIL _ _ | exact plainRQ _ _ | exact (inV_rn _ 0 _).symm | exact wk_QR | exact trivial | exact rfl | exact wk_refl _ | refine wkO_cells ?_ | refine wks_cons ?_ ?_ | exact wks_nil | exact wk_nil _ _ _ (.inl rfl) | (exact wk_Q (by omega)) | refine wk_tupL ?_ | refine wk_aggL ?_ | refine joinMax ?_ ?_ ?_ | refine joinMin ?_ ?_ ?_ | refine toMax ?_ | refine toMin ?_ | refine ⟨rfl, ?_⟩ | refine ⟨trivial, ?_⟩ | (refine forkD (fun h => ?_) (fun h => ?_)) | (refine forkNe (fun h => ?_) (fun h => ?_)) | (refine forkEq (fun h => ?_) (fun h => ?_)) | refine forkNot ?_ | (refine ⟨vI64 (by omega), ?_⟩) | (refine And.intro (by omega) ?_) | apply And.intro | (exact iEq (by omega)) | (exact vI64 (by omega))
    rintro y ⟨hy, hv⟩
    refine forkD (fun k => ?_) (fun k => ?_)
    · have hly : y < (f.t.getD x []).length := by omega
      refine ⟨by omega, inL_at hlt (by omega), by omega, intAt hly (by omega), trivial, fun H' _ _ => kOut _ _ _ H', forkB (fun h => iEq (errFl_3 h12 h34 hlt hu (row_3 (any_at (d := 0) hly h)))) (fun h => ⟨vI64 (by omega), y + 1, ⟨by omega, any_snoc (d := 0) hly hv h⟩, by omega, rfl, ?_⟩)⟩
      repeat' first | exact inL_b _ _ | exact plainIL _ _ | exact plainRQ _ _ | exact (inV_rn _ 0 _).symm | exact wk_QR | exact trivial | exact rfl | exact wk_refl _ | refine wkO_cells ?_ | refine wks_cons ?_ ?_ | exact wks_nil | exact wk_nil _ _ _ (.inl rfl) | (exact wk_Q (by omega)) | refine wk_tupL ?_ | refine wk_aggL ?_ | refine joinMax ?_ ?_ ?_ | refine joinMin ?_ ?_ ?_ | refine toMax ?_ | refine toMin ?_ | refine ⟨rfl, ?_⟩ | refine ⟨trivial, ?_⟩ | (refine forkD (fun h => ?_) (fun h => ?_)) | (refine forkNe (fun h => ?_) (fun h => ?_)) | (refine forkEq (fun h => ?_) (fun h => ?_)) | refine forkNot ?_ | (refine ⟨vI64 (by omega), ?_⟩) | (refine And.intro (by omega) ?_) | apply And.intro | (exact iEq (by omega)) | (exact vI64 (by omega))
    · refine ⟨vI64 (by omega), x + 1, ⟨by omega, errUp_succ hu (errRow_0 (row_0 h5 h6 (any_end (by omega) hv)))⟩, by omega, rfl, ?_⟩
      repeat' first | exact inL_b _ _ | exact plainIL _ _ | exact plainRQ _ _ | exact (inV_rn _ 0 _).symm | exact wk_QR | exact trivial | exact rfl | exact wk_refl _ | refine wkO_cells ?_ | refine wks_cons ?_ ?_ | exact wks_nil | exact wk_nil _ _ _ (.inl rfl) | (exact wk_Q (by omega)) | refine wk_tupL ?_ | refine wk_aggL ?_ | refine joinMax ?_ ?_ ?_ | refine joinMin ?_ ?_ ?_ | refine toMax ?_ | refine toMin ?_ | refine ⟨rfl, ?_⟩ | refine ⟨trivial, ?_⟩ | (refine forkD (fun h => ?_) (fun h => ?_)) | (refine forkNe (fun h => ?_) (fun h => ?_)) | (refine forkEq (fun h => ?_) (fun h => ?_)) | refine forkNot ?_ | (refine ⟨vI64 (by omega), ?_⟩) | (refine And.intro (by omega) ?_) | apply And.intro | (exact iEq (by omega)) | (exact vI64 (by omega))
  · obtain rfl : x = f.t.length := by omega
    refine ⟨rfl, ⟨Nat.zero_le _, rfl⟩, ?_, fun _ => rfl, ?_⟩
    · repeat' first | exact inL_b _ _ | exact plainIL _ _ | exact plainRQ _ _ | exact (inV_rn _ 0 _).symm | exact wk_QR | exact trivial | exact rfl | exact wk_refl _ | refine wkO_cells ?_ | refine wks_cons ?_ ?_ | exact wks_nil | exact wk_nil _ _ _ (.inl rfl) | (exact wk_Q (by omega)) | refine wk_tupL ?_ | refine wk_aggL ?_ | refine joinMax ?_ ?_ ?_ | refine joinMin ?_ ?_ ?_ | refine toMax ?_ | refine toMin ?_ | refine ⟨rfl, ?_⟩ | refine ⟨trivial, ?_⟩ | (refine forkD (fun h => ?_) (fun h => ?_)) | (refine forkNe (fun h => ?_) (fun h => ?_)) | (refine forkEq (fun h => ?_) (fun h => ?_)) | refine forkNot ?_ | (refine ⟨vI64 (by omega), ?_⟩) | (refine And.intro (by omega) ?_) | apply And.intro | (exact iEq (by omega)) | (exact vI64 (by omega))
    rintro y ⟨hy, hv⟩
    refine forkD (fun k => ?_) (fun k => iEq (errFl_0 h12 h34 hu (any_end (by omega) hv)))
    have hly : y < f.b.length := by omega
    refine ⟨by omega, intAt hly (by omega), vI64 (by omega), trivial, fun H' _ _ => kOut _ _ _ H', forkB (fun h => iEq (errFl_4 h12 h34 hu (any_at (d := 0) hly h))) (fun h => ⟨vI64 (by omega), y + 1, ⟨by omega, any_snoc (d := 0) hly hv h⟩, by omega, rfl, ?_⟩)⟩
    repeat' first | exact inL_b _ _ | exact plainIL _ _ | exact plainRQ _ _ | exact (inV_rn _ 0 _).symm | exact wk_QR | exact trivial | exact rfl | exact wk_refl _ | refine wkO_cells ?_ | refine wks_cons ?_ ?_ | exact wks_nil | exact wk_nil _ _ _ (.inl rfl) | (exact wk_Q (by omega)) | refine wk_tupL ?_ | refine wk_aggL ?_ | refine joinMax ?_ ?_ ?_ | refine joinMin ?_ ?_ ?_ | refine toMax ?_ | refine toMin ?_ | refine ⟨rfl, ?_⟩ | refine ⟨trivial, ?_⟩ | (refine forkD (fun h => ?_) (fun h => ?_)) | (refine forkNe (fun h => ?_) (fun h => ?_)) | (refine forkEq (fun h => ?_) (fun h => ?_)) | refine forkNot ?_ | (refine ⟨vI64 (by omega), ?_⟩) | (refine And.intro (by omega) ?_) | apply And.intro | (exact iEq (by omega)) | (exact vI64 (by omega))
end
end Go.Proofs.YthdekmpkioikdaaGreat
/- Request: what is wrong with requests; the greatest number. No condition. -/
namespace Go.Proofs.YthdekmpkioikdaaGreat
open Go Go.K
set_option maxRecDepth 100000
set_option linter.unusedVariables false
set_option linter.unusedSimpArgs false
noncomputable section
attribute [local irreducible] vF
theorem errRq_2 {n : Nat} {l : List Rq} (h : (30 : Int) < (l.length : Int)) : (2 : Int) = errRq n l := (if_pos (by omega)).symm
theorem errRq1_1 {n : Nat} {l : List Rq} {x : Nat} (h : badRq n (l.getD x zeroQ) = true) : errRq1 n l x = 80 := if_pos h
theorem errRq1_2 {n : Nat} {l : List Rq} {x : Nat} (h : badRq n (l.getD x zeroQ) = false) (h2 : (l.take x).any (sameId (l.getD x zeroQ)) = true) : errRq1 n l x = 10 := by
  unfold errRq1; rw [if_neg (by rw [h]; decide), if_pos h2]
theorem errRq1_0 {n : Nat} {l : List Rq} {x : Nat} (h : badRq n (l.getD x zeroQ) = false) (h2 : (l.take x).any (sameId (l.getD x zeroQ)) = false) : errRq1 n l x = 0 := by
  unfold errRq1; rw [if_neg (by rw [h]; decide), if_neg (by rw [h2]; decide)]
theorem errRq_e {n : Nat} {l : List Rq} (h0 : ¬ (30 : Int) < (l.length : Int)) {x : Nat} (hx : x < l.length) (hu : errUp (errRq1 n l) x = 0) {e : Int} (he : errRq1 n l x = e) (hne : e ≠ 0) : e = errRq n l := by
  unfold errRq
  rw [if_neg (by omega), errUp_at hu (by rw [he]; exact hne) hx, he]
theorem errRq_0 {n : Nat} {l : List Rq} (h0 : ¬ (30 : Int) < (l.length : Int)) (hu : errUp (errRq1 n l) l.length = 0) : (0 : Int) = errRq n l := by
  unfold errRq
  rw [if_neg (by omega), hu]
theorem badRq_0 {n : Nat} {r : Rq} (h1 : (!inB r.id 0 1000000) = false) (h2 : (!inB r.at_ 0 10000) = false) (h3 : (!inB r.place 0 ((n : Int) - 1)) = false) (h4 : (!inB r.dest 0 ((n : Int) - 1)) = false) (h5 : (!inB r.len 1 100) = false) (h6 : (!inB r.prio 1 3) = false) (h7 : (!inB r.limit 0 10000) = false) : badRq n r = false := by
  unfold badRq; rw [h1, h2, h3, h4, h5, h6, h7]; rfl
theorem idAt {l : List Rq} {k : Nat} (h : k < l.length) {off : Nat} (ho : off = k * 7 + 0) : (l.flatMap rqC)[off]? = some (.int .i64 (l.getD k zeroQ).id) := cell_at (n := 7) (d := zeroQ) (c := 0) rqC_len h ho rfl
theorem kRq (f : Fleet) (l : List Rq) (ht : f.t.length ≤ 4294967296) {H : Heap} {i0 i1 i2 : Nat} {o0 o1 o2 : Bool} {z0 z1 z2 : Nat} (e0 : H[i0]? = some (.cells o0 z0 (inL f.t))) (e1 : H[i1]? = some (.cells o1 z1 (f.b.flatMap intC))) (e2 : H[i2]? = some (.cells o2 z2 (l.flatMap rqC))) :
    KCall prog 77 [fleetV f i0 i1, .slice (some ⟨i2, 0, some 2⟩) l.length l.length] H [] (Is (.int .i64 (errRq f.t.length l)) H) := by
  refine valRx (Eq.mpr (Erq _ f l) ?_) ⟨inL_b 0 _, plainIL 0 _, plainRQ 0 _, trivial⟩ rfl (ids := [i0, i1, i2]) ⟨⟨_, _, e0⟩, ⟨_, _, e1⟩, ⟨_, _, e2⟩, trivial⟩ rfl
  unfold Rrq
  refine forkD (fun h => iEq (errRq_2 h)) (fun h0 => ⟨vI64 (by omega), rfl, ⟨Nat.zero_le _, rfl⟩, ?_, fun _ => rfl, ?_⟩)
  · repeat' first | exact inL_b _ _ | exact plainIL _ _ | exact plainRQ _ _ | exact (inV_rn _ 0 _).symm | exact wk_QR | exact trivial | exact rfl | exact wk_refl _ | refine wkO_cells ?_ | refine wks_cons ?_ ?_ | exact wks_nil | exact wk_nil _ _ _ (.inl rfl) | (exact wk_Q (by omega)) | refine wk_tupL ?_ | refine wk_aggL ?_ | refine joinMax ?_ ?_ ?_ | refine joinMin ?_ ?_ ?_ | refine toMax ?_ | refine toMin ?_ | refine ⟨rfl, ?_⟩ | refine ⟨trivial, ?_⟩ | (refine forkD (fun h => ?_) (fun h => ?_)) | (refine forkNe (fun h => ?_) (fun h => ?_)) | (refine forkEq (fun h => ?_) (fun h => ?_)) | refine forkNot ?_ | (refine ⟨vI64 (by omega), ?_⟩) | (refine And.intro (by omega) ?_) | apply And.intro | (exact iEq (by omega)) | (exact vI64 (by omega))
  rintro x ⟨hx, hu⟩
  refine forkD (fun k => ?_) (fun k => ?_)
  · have hlt : x < l.length := by omega
    refine ⟨by omega, partQ hlt (by omega), trivial, fun H' _ _ => kIn _ _ _ H', forkB (fun h => ?_) (fun h1 => ⟨trivial, fun H' _ _ => kIn _ _ _ H', forkB (fun h => ?_) (fun h2 => ⟨trivial, fun H' _ _ => kIn _ _ _ H', forkB (fun h => ?_) (fun h3 => ⟨trivial, fun H' _ _ => kIn _ _ _ H', forkB (fun h => ?_) (fun h4 =>
      ⟨trivial, fun H' _ _ => kIn _ _ _ H', forkB (fun h => ?_) (fun h5 => ⟨trivial, fun H' _ _ => kIn _ _ _ H', forkB (fun h => ?_) (fun h6 => ⟨trivial, fun H' _ _ => kIn _ _ _ H', forkB (fun h => ?_) (fun h7 => ?_)⟩)⟩)⟩)⟩)⟩)⟩)⟩
    all_goals first | (exact iEq (errRq_e h0 hlt hu (errRq1_1 (by unfold badRq; simp only [h, Bool.true_or, Bool.or_true])) (by decide))) | skip
    have hb := badRq_0 h1 h2 h3 h4 h5 h6 h7
    refine ⟨⟨⟨.inl rfl, by omega⟩, by omega, Nat.zero_le _⟩, rfl, ⟨rfl, rfl, trivial⟩, fun H' _ hd => ?_, forkB (fun h => iEq (errRq_e h0 hlt hu (errRq1_2 hb h) (by decide))) (fun h => ⟨vI64 (by omega), x + 1, ⟨by omega, errUp_succ hu (errRq1_0 hb h)⟩, by omega, rfl, ?_⟩)⟩
    · have key := kAnyI (l.take x) (l.drop x) (l.getD x zeroQ) (by rw [take_len hx]; omega) (by rw [List.take_append_drop]; exact hd.1) hd.2.1
      rw [take_len hx] at key; exact key
    · repeat' first | exact inL_b _ _ | exact plainIL _ _ | exact plainRQ _ _ | exact (inV_rn _ 0 _).symm | exact wk_QR | exact trivial | exact rfl | exact wk_refl _ | refine wkO_cells ?_ | refine wks_cons ?_ ?_ | exact wks_nil | exact wk_nil _ _ _ (.inl rfl) | (exact wk_Q (by omega)) | refine wk_tupL ?_ | refine wk_aggL ?_ | refine joinMax ?_ ?_ ?_ | refine joinMin ?_ ?_ ?_ | refine toMax ?_ | refine toMin ?_ | refine ⟨rfl, ?_⟩ | refine ⟨trivial, ?_⟩ | (refine forkD (fun h => ?_) (fun h => ?_)) | (refine forkNe (fun h => ?_) (fun h => ?_)) | (refine forkEq (fun h => ?_) (fun h => ?_)) | refine forkNot ?_ | (refine ⟨vI64 (by omega), ?_⟩) | (refine And.intro (by omega) ?_) | apply And.intro | (exact iEq (by omega)) | (exact vI64 (by omega))
  · obtain rfl : x = l.length := by omega
    exact iEq (errRq_0 h0 hu)
theorem krRq (f : Fleet) (l : List Rq) (ht : f.t.length ≤ 4294967296) {H : Heap} {i0 i1 i2 : Nat} {o0 o1 o2 : Bool} {z0 z1 z2 : Nat} (e0 : H[i0]? = some (.cells o0 z0 (inL f.t))) (e1 : H[i1]? = some (.cells o1 z1 (f.b.flatMap intC))) (e2 : H[i2]? = some (.cells o2 z2 (l.flatMap rqC))) :
    KCall prog 80 [fleetV f i0 i1, .slice (some ⟨i2, 0, some 2⟩) l.length l.length] H [] (Is (.int .i64 (errRq f.t.length l)) H) := by
  refine valRx (Eq.mpr (Errq _ f l) ?_) ⟨inL_b 0 _, plainIL 0 _, plainRQ 0 _, trivial⟩ rfl (ids := [i0, i1, i2]) ⟨⟨_, _, e0⟩, ⟨_, _, e1⟩, ⟨_, _, e2⟩, trivial⟩ rfl
  unfold Rrrq
  refine forkD (fun h => iEq (errRq_2 h)) (fun h0 => ⟨rfl, ⟨Nat.zero_le _, rfl⟩, ?_, fun _ => rfl, ?_⟩)
  · repeat' first | exact inL_b _ _ | exact plainIL _ _ | exact plainRQ _ _ | exact (inV_rn _ 0 _).symm | exact wk_QR | exact trivial | exact rfl | exact wk_refl _ | refine wkO_cells ?_ | refine wks_cons ?_ ?_ | exact wks_nil | exact wk_nil _ _ _ (.inl rfl) | (exact wk_Q (by omega)) | refine wk_tupL ?_ | refine wk_aggL ?_ | refine joinMax ?_ ?_ ?_ | refine joinMin ?_ ?_ ?_ | refine toMax ?_ | refine toMin ?_ | refine ⟨rfl, ?_⟩ | refine ⟨trivial, ?_⟩ | (refine forkD (fun h => ?_) (fun h => ?_)) | (refine forkNe (fun h => ?_) (fun h => ?_)) | (refine forkEq (fun h => ?_) (fun h => ?_)) | refine forkNot ?_ | (refine ⟨vI64 (by omega), ?_⟩) | (refine And.intro (by omega) ?_) | apply And.intro | (exact iEq (by omega)) | (exact vI64 (by omega))
  rintro x ⟨hx, hu⟩
  refine forkD (fun k => ?_) (fun k => ?_)
  · have hlt : x < l.length := by omega
    refine ⟨by omega, partQ hlt (by omega), trivial, fun H' _ _ => kOut _ _ _ H', forkB (fun h => ?_) (fun h1 => ⟨trivial, fun H' _ _ => kOut _ _ _ H', forkB (fun h => ?_) (fun h2 => ⟨vI64 (by omega), trivial, fun H' _ _ => kOut _ _ _ H', forkB (fun h => ?_) (fun h3 => ⟨vI64 (by omega), trivial, fun H' _ _ => kOut _ _ _ H', forkB (fun h => ?_) (fun h4 =>
      ⟨trivial, fun H' _ _ => kOut _ _ _ H', forkB (fun h => ?_) (fun h5 => ⟨trivial, fun H' _ _ => kOut _ _ _ H', forkB (fun h => ?_) (fun h6 => ⟨trivial, fun H' _ _ => kOut _ _ _ H', forkB (fun h => ?_) (fun h7 => ⟨rfl, ⟨Nat.zero_le _, rfl⟩, ?_, fun _ => rfl, ?_⟩)⟩)⟩)⟩)⟩)⟩)⟩)⟩
    all_goals first | (exact iEq (errRq_e h0 hlt hu (errRq1_1 (by unfold badRq; simp only [h, Bool.true_or, Bool.or_true])) (by decide))) | skip
    · repeat' first | exact inL_b _ _ | exact plainIL _ _ | exact plainRQ _ _ | exact (inV_rn _ 0 _).symm | exact wk_QR | exact trivial | exact rfl | exact wk_refl _ | refine wkO_cells ?_ | refine wks_cons ?_ ?_ | exact wks_nil | exact wk_nil _ _ _ (.inl rfl) | (exact wk_Q (by omega)) | refine wk_tupL ?_ | refine wk_aggL ?_ | refine joinMax ?_ ?_ ?_ | refine joinMin ?_ ?_ ?_ | refine toMax ?_ | refine toMin ?_ | refine ⟨rfl, ?_⟩ | refine ⟨trivial, ?_⟩ | (refine forkD (fun h => ?_) (fun h => ?_)) | (refine forkNe (fun h => ?_) (fun h => ?_)) | (refine forkEq (fun h => ?_) (fun h => ?_)) | refine forkNot ?_ | (refine ⟨vI64 (by omega), ?_⟩) | (refine And.intro (by omega) ?_) | apply And.intro | (exact iEq (by omega)) | (exact vI64 (by omega))
    have hb := badRq_0 h1 h2 h3 h4 h5 h6 h7
    rintro y ⟨hy, hv⟩
    refine forkD (fun k => ?_) (fun k => ?_)
    · have hly : y < l.length := by omega
      have hyt : y < (l.take x).length := by rw [take_len hx]; omega
      have hg : (l.take x).getD y zeroQ = l.getD y zeroQ := by rw [List.getD_eq_getElem?_getD, List.getElem?_take, if_pos (by omega), ← List.getD_eq_getElem?_getD]
      refine ⟨by omega, idAt hly (by omega), forkEq (fun h => iEq (errRq_e h0 hlt hu (errRq1_2 hb (any_at (d := zeroQ) hyt (by rw [hg]; exact sameId_1 h))) (by decide))) (fun h => ⟨vI64 (by omega), y + 1, ⟨by omega, any_snoc (d := zeroQ) hly hv (sameId_0 h)⟩, by omega, rfl, ?_⟩)⟩
      repeat' first | exact inL_b _ _ | exact plainIL _ _ | exact plainRQ _ _ | exact (inV_rn _ 0 _).symm | exact wk_QR | exact trivial | exact rfl | exact wk_refl _ | refine wkO_cells ?_ | refine wks_cons ?_ ?_ | exact wks_nil | exact wk_nil _ _ _ (.inl rfl) | (exact wk_Q (by omega)) | refine wk_tupL ?_ | refine wk_aggL ?_ | refine joinMax ?_ ?_ ?_ | refine joinMin ?_ ?_ ?_ | refine toMax ?_ | refine toMin ?_ | refine ⟨rfl, ?_⟩ | refine ⟨trivial, ?_⟩ | (refine forkD (fun h => ?_) (fun h => ?_)) | (refine forkNe (fun h => ?_) (fun h => ?_)) | (refine forkEq (fun h => ?_) (fun h => ?_)) | refine forkNot ?_ | (refine ⟨vI64 (by omega), ?_⟩) | (refine And.intro (by omega) ?_) | apply And.intro | (exact iEq (by omega)) | (exact vI64 (by omega))
    · obtain rfl : y = x := by omega
      refine ⟨vI64 (by omega), y + 1, ⟨by omega, errUp_succ hu (errRq1_0 hb hv)⟩, by omega, rfl, ?_⟩
      repeat' first | exact inL_b _ _ | exact plainIL _ _ | exact plainRQ _ _ | exact (inV_rn _ 0 _).symm | exact wk_QR | exact trivial | exact rfl | exact wk_refl _ | refine wkO_cells ?_ | refine wks_cons ?_ ?_ | exact wks_nil | exact wk_nil _ _ _ (.inl rfl) | (exact wk_Q (by omega)) | refine wk_tupL ?_ | refine wk_aggL ?_ | refine joinMax ?_ ?_ ?_ | refine joinMin ?_ ?_ ?_ | refine toMax ?_ | refine toMin ?_ | refine ⟨rfl, ?_⟩ | refine ⟨trivial, ?_⟩ | (refine forkD (fun h => ?_) (fun h => ?_)) | (refine forkNe (fun h => ?_) (fun h => ?_)) | (refine forkEq (fun h => ?_) (fun h => ?_)) | refine forkNot ?_ | (refine ⟨vI64 (by omega), ?_⟩) | (refine And.intro (by omega) ?_) | apply And.intro | (exact iEq (by omega)) | (exact vI64 (by omega))
  · obtain rfl : x = l.length := by omega
    exact iEq (errRq_0 h0 hu)
theorem kTwo (f : Fleet) (l : List Rq) (ht : f.t.length ≤ 4294967296) (hb : f.b.length ≤ 4294967296) (hs : shortI f.t) {H : Heap} {i0 i1 i2 : Nat} {o0 o1 o2 : Bool} {z0 z1 z2 : Nat} (e0 : H[i0]? = some (.cells o0 z0 (inL f.t))) (e1 : H[i1]? = some (.cells o1 z1 (f.b.flatMap intC))) (e2 : H[i2]? = some (.cells o2 z2 (l.flatMap rqC))) :
    KCall prog 85 [fleetV f i0 i1, .slice (some ⟨i2, 0, some 2⟩) l.length l.length] H [] (Is (.int .i64 (first2 (errFl f) (errRq f.t.length l))) H) := by
  refine valRx (Eq.mpr (Etwo _ f l) ?_) ⟨inL_b 0 _, plainIL 0 _, plainRQ 0 _, trivial⟩ rfl (ids := [i0, i1, i2]) ⟨⟨_, _, e0⟩, ⟨_, _, e1⟩, ⟨_, _, e2⟩, trivial⟩ rfl
  unfold Rtwo
  exact ⟨⟨rfl, rfl, trivial⟩, fun H' _ hd => krFl f ht hb hs hd.1 hd.2.1, forkNe (fun h => iEq (first2_1 h).symm) (fun h => ⟨⟨rfl, rfl, rfl, trivial⟩, fun H' _ hd => krRq f l ht hd.1 hd.2.1 hd.2.2.1, iEq (first2_2 h).symm⟩)⟩
theorem maxL_snoc (l : List Int) (x : Int) : maxL (l ++ [x]) = max (maxL l) x := by unfold maxL; rw [List.foldl_append]; rfl
theorem maxTo_succ {l : List Int} {k : Nat} (h : k < l.length) : maxTo l (k + 1) = max (maxTo l k) (l.getD k 0) := by unfold maxTo; rw [take_snoc (d := 0) h, maxL_snoc]
theorem maxTo_all {l : List Int} {k : Nat} (h : ¬ k < l.length) : maxTo l k = maxL l := by unfold maxTo; rw [List.take_of_length_le (by omega)]
theorem kMax (l : List Int) (hl : l.length ≤ 4294967296) (h1 : 0 < l.length) (h0 : 0 ≤ l.getD 0 0) (H : Heap) : KCall prog 83 [inV l] H [] (Is (.int .i64 (maxL l)) H) := by
  refine valK 40 (fun σ => by have := inV_rn σ 2 l; show [rn σ (2 + 3) (inV l)] = _; rw [this]; rfl) rfl (Eq.mpr (Emax _ l) ?_) H
  unfold Rmax
  refine forkD (fun h => by omega) (fun h => ⟨by omega, intAt h1 rfl, rfl, by omega, ?_, fun _ => rfl, ?_⟩)
  · have : l.getD 0 0 = maxTo l (0 + 1) := by rw [maxTo_succ h1]; show _ = max (maxL (l.take 0)) _; rw [List.take_zero]; show _ = max 0 _; omega
    repeat' first | exact inL_b _ _ | exact plainIL _ _ | exact plainRQ _ _ | exact (inV_rn _ 0 _).symm | exact wk_QR | exact iEq this | exact trivial | exact rfl | exact wk_refl _ | refine wkO_cells ?_ | refine wks_cons ?_ ?_ | exact wks_nil | exact wk_nil _ _ _ (.inl rfl) | (exact wk_Q (by omega)) | refine wk_tupL ?_ | refine wk_aggL ?_ | refine joinMax ?_ ?_ ?_ | refine joinMin ?_ ?_ ?_ | refine toMax ?_ | refine toMin ?_ | refine ⟨rfl, ?_⟩ | refine ⟨trivial, ?_⟩ | (refine forkD (fun h => ?_) (fun h => ?_)) | (refine forkNe (fun h => ?_) (fun h => ?_)) | (refine forkEq (fun h => ?_) (fun h => ?_)) | refine forkNot ?_ | (refine ⟨vI64 (by omega), ?_⟩) | (refine And.intro (by omega) ?_) | apply And.intro | (exact iEq (by omega)) | (exact vI64 (by omega))
  intro x hx
  refine forkD (fun k => ?_) (fun k => iEq (maxTo_all (by omega)))
  have hlt : x + 1 < l.length := by omega
  refine ⟨by omega, intAt hlt (by omega), _, rfl, vI64 (by omega), x + 1, by omega, by omega, rfl, ?_⟩
  have : (if l.getD (x + 1) 0 > maxTo l (x + 1) then l.getD (x + 1) 0 else maxTo l (x + 1)) = maxTo l (x + 1 + 1) := by rw [maxTo_succ hlt]; split <;> omega
  repeat' first | exact inL_b _ _ | exact plainIL _ _ | exact plainRQ _ _ | exact (inV_rn _ 0 _).symm | exact wk_QR | exact iEq this | exact trivial | exact rfl | exact wk_refl _ | refine wkO_cells ?_ | refine wks_cons ?_ ?_ | exact wks_nil | exact wk_nil _ _ _ (.inl rfl) | (exact wk_Q (by omega)) | refine wk_tupL ?_ | refine wk_aggL ?_ | refine joinMax ?_ ?_ ?_ | refine joinMin ?_ ?_ ?_ | refine toMax ?_ | refine toMin ?_ | refine ⟨rfl, ?_⟩ | refine ⟨trivial, ?_⟩ | (refine forkD (fun h => ?_) (fun h => ?_)) | (refine forkNe (fun h => ?_) (fun h => ?_)) | (refine forkEq (fun h => ?_) (fun h => ?_)) | refine forkNot ?_ | (refine ⟨vI64 (by omega), ?_⟩) | (refine And.intro (by omega) ?_) | apply And.intro | (exact iEq (by omega)) | (exact vI64 (by omega))
end
end Go.Proofs.YthdekmpkioikdaaGreat
/- Request: plain laws of premises, fleets and requests. No condition. -/
namespace Go.Proofs.YthdekmpkioikdaaGreat
set_option linter.unusedSimpArgs false
open Go Go.K
set_option linter.unusedVariables false
noncomputable section
theorem first2_0 {a b : Int} (h : first2 a b = 0) : a = 0 ∧ b = 0 := by
  unfold first2 at h; split at h
  · rename_i k; exact ⟨k, h⟩
  · rename_i k; exact absurd h k
structure FlOk (f : Fleet) : Prop where
  n1 : 1 ≤ f.t.length
  n2 : f.t.length ≤ 12
  b1 : 1 ≤ f.b.length
  b2 : f.b.length ≤ 3
  row : ∀ k, k < f.t.length → (f.t.getD k []).length = f.t.length
  el : ∀ k j, k < f.t.length → 0 ≤ (f.t.getD k []).getD j 0 ∧ (f.t.getD k []).getD j 0 ≤ 100
  br : ∀ k, k < f.b.length → 0 ≤ f.b.getD k 0 ∧ f.b.getD k 0 ≤ (f.t.length : Int) - 1
theorem any_no {α : Type} {l : List α} {d : α} {p : α → Bool} (h : l.any p = false) {k : Nat} (hk : k < l.length) : p (l.getD k d) = false := by
  have := List.any_eq_false.1 h _ (getD_mem (d := d) hk)
  cases hp : p (l.getD k d) with
  | false => rfl
  | true => exact absurd hp this
theorem flOk {f : Fleet} (h : errFl f = 0) : FlOk f := by
  unfold errFl at h
  split at h
  · cases h
  · rename_i h0
    obtain ⟨h1, h2⟩ := first2_0 h
    have a1 : inB (f.t.length : Int) 1 12 = true := by
      cases hb : inB (f.t.length : Int) 1 12 with
      | true => rfl
      | false => exact absurd (.inl (by rw [hb]; rfl)) h0
    have a2 : inB (f.b.length : Int) 1 3 = true := by
      cases hb : inB (f.b.length : Int) 1 3 with
      | true => rfl
      | false => exact absurd (.inr (by rw [hb]; rfl)) h0
    have b1 := inB_2 a1
    have b2 := inB_2 a2
    have hr : ∀ k, k < f.t.length → badRow f.t.length k (f.t.getD k []) = false := by
      intro k hk
      have := errUp_all h1 k hk
      unfold errRow at this
      split at this
      · cases this
      · rename_i hb; cases hc : badRow f.t.length k (f.t.getD k []) with
        | false => rfl
        | true => exact absurd hc hb
    have hlen : ∀ k, k < f.t.length → (f.t.getD k []).length = f.t.length := by
      intro k hk
      have := hr k hk
      unfold badRow at this
      rw [Bool.or_eq_false_iff, Bool.or_eq_false_iff] at this
      have := of_decide_eq_false this.1.1
      omega
    refine ⟨by omega, by omega, by omega, by omega, hlen, fun k j hk => ?_, fun k hk => ?_⟩
    · by_cases hj : j < (f.t.getD k []).length
      · have := hr k hk
        unfold badRow at this
        rw [Bool.or_eq_false_iff] at this
        have h3 := any_no (d := 0) this.2 hj
        exact inB_2 (bad0 h3)
      · rw [List.getD_eq_getElem?_getD, List.getElem?_eq_none (by omega)]; decide
    · have hb : f.b.any (badA f.t.length) = false := by
        cases hc : f.b.any (badA f.t.length) with
        | false => rfl
        | true => rw [if_pos hc] at h2; cases h2
      exact inB_2 (bad0 (any_no (d := 0) hb hk))
structure RqOk (n : Nat) (r : Rq) : Prop where
  id : 0 ≤ r.id ∧ r.id ≤ 1000000
  at_ : 0 ≤ r.at_ ∧ r.at_ ≤ 10000
  place : 0 ≤ r.place ∧ r.place ≤ (n : Int) - 1
  dest : 0 ≤ r.dest ∧ r.dest ≤ (n : Int) - 1
  len : 1 ≤ r.len ∧ r.len ≤ 100
  prio : 1 ≤ r.prio ∧ r.prio ≤ 3
  limit : 0 ≤ r.limit ∧ r.limit ≤ 10000
theorem rqOk {n : Nat} {r : Rq} (h : badRq n r = false) : RqOk n r := by
  unfold badRq at h
  simp only [Bool.or_eq_false_iff] at h
  obtain ⟨⟨⟨⟨⟨⟨h1, h2⟩, h3⟩, h4⟩, h5⟩, h6⟩, h7⟩ := h
  exact ⟨inB_2 (bad0 h1), inB_2 (bad0 h2), inB_2 (bad0 h3), inB_2 (bad0 h4), inB_2 (bad0 h5), inB_2 (bad0 h6), inB_2 (bad0 h7)⟩
structure LsOk (n : Nat) (l : List Rq) : Prop where
  len : l.length ≤ 30
  ok : ∀ k, k < l.length → RqOk n (l.getD k zeroQ)
  ne : ∀ k j, k < l.length → j < k → (l.getD j zeroQ).id ≠ (l.getD k zeroQ).id
theorem lsOk {n : Nat} {l : List Rq} (h : errRq n l = 0) : LsOk n l := by
  unfold errRq at h
  split at h
  · cases h
  · have hb : ∀ k, k < l.length → badRq n (l.getD k zeroQ) = false ∧ (l.take k).any (sameId (l.getD k zeroQ)) = false := by
      intro k hk
      have := errUp_all h k hk
      unfold errRq1 at this
      split at this
      · cases this
      · rename_i h1
        split at this
        · cases this
        · rename_i h2
          refine ⟨?_, ?_⟩
          · cases hc : badRq n (l.getD k zeroQ) with
            | false => rfl
            | true => exact absurd hc h1
          · cases hc : (l.take k).any (sameId (l.getD k zeroQ)) with
            | false => rfl
            | true => exact absurd hc h2
    refine ⟨by omega, fun k hk => rqOk (hb k hk).1, fun k j hk hj => ?_⟩
    have hjt : j < (l.take k).length := by rw [take_len (by omega)]; exact hj
    have := any_no (d := zeroQ) (hb k hk).2 hjt
    have hg : (l.take k).getD j zeroQ = l.getD j zeroQ := by rw [List.getD_eq_getElem?_getD, List.getElem?_take, if_pos (by omega), ← List.getD_eq_getElem?_getD]
    rw [hg] at this
    exact of_decide_eq_false this
structure PreOk (q : Prem) : Prop where
  burst : 0 ≤ q.burst ∧ q.burst ≤ 20
  period : 1 ≤ q.period ∧ q.period ≤ 200
  service : 1 ≤ q.service ∧ q.service ≤ 200
theorem preOk {q : Prem} (h : errPre q = 0) : PreOk q := by
  unfold errPre at h
  split at h
  · cases h
  · rename_i h0
    have : (!inB q.burst 0 20 || !inB q.period 1 200 || !inB q.service 1 200) = false := by
      cases hc : (!inB q.burst 0 20 || !inB q.period 1 200 || !inB q.service 1 200) with
      | false => rfl
      | true => exact absurd hc h0
    simp only [Bool.or_eq_false_iff] at this
    exact ⟨inB_2 (bad0 this.1.1), inB_2 (bad0 this.1.2), inB_2 (bad0 this.2)⟩
theorem maxL_bd {c : Int} (hc : 0 ≤ c) : ∀ (l : List Int), (∀ x ∈ l, x ≤ c) → 0 ≤ maxL l ∧ maxL l ≤ c := by
  have key : ∀ (l : List Int) (m : Int), 0 ≤ m → m ≤ c → (∀ x ∈ l, x ≤ c) → 0 ≤ l.foldl max m ∧ l.foldl max m ≤ c := by
    intro l
    induction l with
    | nil => intro m h1 h2 _; exact ⟨h1, h2⟩
    | cons x l ih =>
      intro m h1 h2 h3
      have hx := h3 x (List.mem_cons_self ..)
      exact ih (max m x) (by omega) (by omega) fun y hy => h3 y (List.mem_cons_of_mem _ hy)
  exact fun l h => key l 0 (Int.le_refl _) hc h
theorem mem_getD {α : Type} {l : List α} {x : α} (d : α) (h : x ∈ l) : ∃ k, k < l.length ∧ l.getD k d = x := by
  obtain ⟨k, hk, e⟩ := List.getElem_of_mem h
  exact ⟨k, hk, by rw [List.getD_eq_getElem?_getD, List.getElem?_eq_getElem hk]; exact e⟩
theorem row_bd {f : Fleet} (o : FlOk f) {k : Nat} (hk : k < f.t.length) : ∀ x ∈ f.t.getD k [], x ≤ 100 := by
  intro x hx
  obtain ⟨j, hj, rfl⟩ := mem_getD 0 hx
  exact (o.el k j hk).2
theorem far_bd {f : Fleet} (o : FlOk f) (k : Nat) : 0 ≤ farTo f k ∧ farTo f k ≤ 100 := by
  refine maxL_bd (by decide) _ fun x hx => ?_
  obtain ⟨r, hr, rfl⟩ := List.mem_map.1 hx
  obtain ⟨j, hj, rfl⟩ := mem_getD [] (List.take_subset _ _ hr)
  exact (maxL_bd (by decide) _ (row_bd o hj)).2
theorem far_succ {f : Fleet} {k : Nat} (hk : k < f.t.length) : farTo f (k + 1) = max (farTo f k) (maxL (f.t.getD k [])) := by
  unfold farTo; rw [take_snoc (d := []) hk, List.map_append, List.map_cons, List.map_nil, maxL_snoc]
theorem farAt_end {f : Fleet} (o : FlOk f) {i : Nat} (hi : i < f.t.length) : farAt f i f.t.length = farTo f (i + 1) := by
  unfold farAt; rw [far_succ hi, maxTo_all (by rw [o.row i hi]; omega)]
theorem farAt_0 {f : Fleet} (o : FlOk f) {i : Nat} : farAt f i 0 = farTo f i := by
  have := far_bd o i
  unfold farAt maxTo; rw [List.take_zero]; show max _ 0 = _; omega
theorem farAt_succ {f : Fleet} {i k : Nat} (h : k < (f.t.getD i []).length) : farAt f i (k + 1) = max (farAt f i k) ((f.t.getD i []).getD k 0) := by
  unfold farAt; rw [maxTo_succ h]; omega
/-! ## Sorted hours -/
theorem srt_le (L : List Int) : (srtI L).Pairwise (· ≤ ·) := by
  have h := List.pairwise_mergeSort (le := fun x y : Int => decide (x ≤ y)) (fun a b c h1 h2 => by simp at *; omega) (fun a b => by simp; omega) L
  exact h.imp fun h => by simpa using h
theorem srt_mem (L : List Int) (z : Int) : z ∈ srtI L ↔ z ∈ L := (List.mergeSort_perm L _).mem_iff
theorem srt_len (L : List Int) : (srtI L).length = L.length := List.length_mergeSort _
theorem srt_mono {L : List Int} {i j : Nat} (h : i ≤ j) (hj : j < L.length) : (srtI L).getD i 0 ≤ (srtI L).getD j 0 := by
  have hl := srt_len L
  rcases Nat.eq_or_lt_of_le h with rfl | h
  · exact Int.le_refl _
  · rw [List.getD_eq_getElem?_getD, List.getD_eq_getElem?_getD, List.getElem?_eq_getElem (by omega), List.getElem?_eq_getElem (by omega)]
    exact List.pairwise_iff_getElem.1 (srt_le L) i j (by omega) (by omega) h
def crN (p : Nat → Bool) (n : Nat) : Nat := ((List.range n).filter p).length
theorem crN_succ (p : Nat → Bool) (n : Nat) : crN p (n + 1) = crN p n + (if p n = true then 1 else 0) := by
  unfold crN
  rw [List.range_succ, List.filter_append, List.length_append]
  cases h : p n <;> simp [h]
theorem crN_mono {p r : Nat → Bool} : ∀ {n : Nat}, (∀ t, t < n → p t = true → r t = true) → crN p n ≤ crN r n := by
  intro n
  induction n with
  | zero => intro _; exact Nat.le_refl _
  | succ n ih =>
    intro h
    have h1 := ih fun t ht => h t (by omega)
    have h2 := h n (by omega)
    rw [crN_succ, crN_succ]
    split
    · rename_i hp; rw [if_pos (h2 hp)]; omega
    · omega
theorem crN_iv (i j : Nat) : ∀ n : Nat, crN (fun t => decide (i ≤ t) && decide (t ≤ j)) n = min n (j + 1) - i := by
  intro n
  induction n with
  | zero => show 0 = _; omega
  | succ n ih =>
    rw [crN_succ, ih]
    split
    · rename_i h; rw [Bool.and_eq_true] at h; have h1 := of_decide_eq_true h.1; have h2 := of_decide_eq_true h.2; omega
    · rename_i h
      have : ¬ (i ≤ n ∧ n ≤ j) := fun k => h (by rw [decide_eq_true k.1, decide_eq_true k.2]; rfl)
      omega
theorem crN_map {S : List Int} {p : Int → Bool} : (S.filter p).length = crN (fun t => p (S.getD t 0)) S.length := by
  have e : S = (List.range S.length).map fun t => S.getD t 0 := by
    refine List.ext_getElem? fun k => ?_
    by_cases hk : k < S.length
    · rw [List.getElem?_map, List.getElem?_range hk, List.getElem?_eq_getElem hk]
      show some S[k] = some (S.getD k 0)
      rw [List.getD_eq_getElem?_getD, List.getElem?_eq_getElem hk]; rfl
    · rw [List.getElem?_eq_none (by omega), List.getElem?_eq_none (by simp; omega)]
  unfold crN
  conv => lhs; rw [e]
  rw [List.filter_map, List.length_map]; rfl
def btw (a b t : Int) : Bool := decide (a ≤ t) && decide (t ≤ b)
theorem cnt_srt (l : List Rq) (a b : Int) : cntIn l a b l.length = crN (fun t => btw a b ((srtI (hours l)).getD t 0)) l.length := by
  have h1 : cntIn l a b l.length = ((hours l).filter (btw a b)).length := by
    unfold cntIn hours; rw [List.take_length, List.filter_map, List.length_map]; rfl
  have h2 : ((hours l).filter (btw a b)).length = ((srtI (hours l)).filter (btw a b)).length := ((List.mergeSort_perm (hours l) _).filter _).length_eq.symm
  rw [h1, h2, crN_map, srt_len]; unfold hours; rw [List.length_map]
theorem leastN {p : Nat → Prop} [DecidablePred p] : ∀ {n : Nat}, (∃ i, i < n ∧ p i) → ∃ i, i < n ∧ p i ∧ ∀ t, t < i → ¬ p t := by
  intro n
  induction n with
  | zero => rintro ⟨i, h, _⟩; omega
  | succ n ih =>
    rintro ⟨i, h, hp⟩
    by_cases hn : ∃ i, i < n ∧ p i
    · obtain ⟨j, h1, h2⟩ := ih hn; exact ⟨j, by omega, h2⟩
    · have : i = n := by
        rcases Nat.lt_or_ge i n with k | k
        · exact absurd ⟨i, k, hp⟩ hn
        · omega
      subst this
      exact ⟨i, h, hp, fun t ht hpt => hn ⟨t, ht, hpt⟩⟩
theorem mostN {p : Nat → Prop} [DecidablePred p] : ∀ {n : Nat}, (∃ i, i < n ∧ p i) → ∃ i, i < n ∧ p i ∧ ∀ t, i < t → t < n → ¬ p t := by
  intro n
  induction n with
  | zero => rintro ⟨i, h, _⟩; omega
  | succ n ih =>
    rintro ⟨i, h, hp⟩
    by_cases hn : p n
    · exact ⟨n, by omega, hn, fun t h1 h2 => by omega⟩
    · have hi : i < n := by
        rcases Nat.lt_or_ge i n with k | k
        · exact k
        · have : i = n := by omega
          subst this; exact absurd hp hn
      obtain ⟨j, h1, h2, h3⟩ := ih ⟨i, hi, hp⟩
      refine ⟨j, by omega, h2, fun t h4 h5 => ?_⟩
      by_cases ht : t = n
      · subst ht; exact hn
      · exact h3 t h4 (by omega)
theorem tight_mono {q : Prem} {n m d : Int} (h : n ≤ m) (ht : tight q m d = true) : tight q n d = true := by
  unfold tight at *
  have := of_decide_eq_true ht
  exact decide_eq_true (by omega)
theorem hours_len (l : List Rq) : (hours l).length = l.length := List.length_map ..
/-- The rows of the sorted hours, and all pairs of requests. -/
theorem rows_pairs (l : List Rq) (q : Prem) : (List.range l.length).all (okRow (srtI (hours l)) q) = l.all (fun x => l.all (pairOk l q x)) := by
  have hl : (srtI (hours l)).length = l.length := by rw [srt_len, hours_len]
  refine Bool.eq_iff_iff.2 ⟨fun h => ?_, fun h => ?_⟩
  · rw [List.all_eq_true]; intro x hx
    rw [List.all_eq_true]; intro y hy
    unfold pairOk
    by_cases hlt : y.at_ < x.at_
    · rw [decide_eq_true hlt]; rfl
    rw [decide_eq_false hlt, Bool.false_or]
    have mx : ∃ i, i < l.length ∧ (srtI (hours l)).getD i 0 = x.at_ := by
      obtain ⟨k, h1, h2⟩ := mem_getD 0 ((srt_mem (hours l) x.at_).2 (List.mem_map.2 ⟨x, hx, rfl⟩))
      exact ⟨k, by omega, h2⟩
    have my : ∃ i, i < l.length ∧ (srtI (hours l)).getD i 0 = y.at_ := by
      obtain ⟨k, h1, h2⟩ := mem_getD 0 ((srt_mem (hours l) y.at_).2 (List.mem_map.2 ⟨y, hy, rfl⟩))
      exact ⟨k, by omega, h2⟩
    obtain ⟨i, i1, i2, i3⟩ := leastN (p := fun i => (srtI (hours l)).getD i 0 = x.at_) mx
    obtain ⟨j, j1, j2, j3⟩ := mostN (p := fun i => (srtI (hours l)).getD i 0 = y.at_) my
    have hij : i ≤ j := by
      rcases Nat.lt_or_ge j i with k | k
      · have := srt_mono (L := hours l) (Nat.le_of_lt k) (by rw [hours_len]; exact i1)
        exact absurd (by rw [j2]; omega) (i3 j k)
      · exact k
    have hc : cntIn l x.at_ y.at_ l.length ≤ j - i + 1 := by
      rw [cnt_srt]
      have h1 := crN_mono (p := fun t => btw x.at_ y.at_ ((srtI (hours l)).getD t 0)) (r := fun t => decide (i ≤ t) && decide (t ≤ j)) (n := l.length) (by
        intro t ht hb
        unfold btw at hb
        rw [Bool.and_eq_true] at hb
        have b1 := of_decide_eq_true hb.1
        have b2 := of_decide_eq_true hb.2
        have c1 : i ≤ t := by
          rcases Nat.lt_or_ge t i with k | k
          · have := srt_mono (L := hours l) (Nat.le_of_lt k) (by rw [hours_len]; exact i1)
            exact absurd (by omega) (i3 t k)
          · exact k
        have c2 : t ≤ j := by
          rcases Nat.lt_or_ge j t with k | k
          · have := srt_mono (L := hours l) (Nat.le_of_lt k) (by rw [hours_len]; exact ht)
            exact absurd (by omega) (j3 t k ht)
          · exact k
        rw [decide_eq_true c1, decide_eq_true c2]; rfl)
      rw [crN_iv] at h1
      omega
    have hr := List.all_eq_true.1 h i (List.mem_range.2 i1)
    unfold okRow at hr
    have := List.all_eq_true.1 hr (j - i) (List.mem_range.2 (by omega))
    unfold okCell at this
    rw [show i + (j - i) = j by omega, i2, j2] at this
    exact tight_mono (by omega) this
  · rw [List.all_eq_true]; intro i hi
    have hi := List.mem_range.1 hi
    unfold okRow
    rw [List.all_eq_true]; intro k hk
    have hk := List.mem_range.1 hk
    rw [hl] at hk
    have mm : ∀ t, t < l.length → ∃ x ∈ l, (srtI (hours l)).getD t 0 = x.at_ := by
      intro t ht
      have : (srtI (hours l)).getD t 0 ∈ hours l := (srt_mem _ _).1 (getD_mem (by omega))
      obtain ⟨x, h1, h2⟩ := List.mem_map.1 this
      exact ⟨x, h1, h2.symm⟩
    obtain ⟨x, hx, ex⟩ := mm i hi
    obtain ⟨y, hy, ey⟩ := mm (i + k) (by omega)
    have hp := List.all_eq_true.1 (List.all_eq_true.1 h x hx) y hy
    have hm := srt_mono (L := hours l) (i := i) (j := i + k) (by omega) (by rw [hours_len]; omega)
    unfold pairOk at hp
    rw [decide_eq_false (by omega), Bool.false_or, cnt_srt] at hp
    unfold okCell
    rw [ex, ey]
    refine tight_mono ?_ hp
    have h1 := crN_mono (p := fun t => decide (i ≤ t) && decide (t ≤ i + k)) (r := fun t => btw x.at_ y.at_ ((srtI (hours l)).getD t 0)) (n := l.length) (by
      intro t ht hb
      rw [Bool.and_eq_true] at hb
      have b1 := of_decide_eq_true hb.1
      have b2 := of_decide_eq_true hb.2
      have c1 := srt_mono (L := hours l) b1 (by rw [hours_len]; exact ht)
      have c2 := srt_mono (L := hours l) b2 (by rw [hours_len]; omega)
      unfold btw
      rw [decide_eq_true (by omega), decide_eq_true (by omega)]; rfl)
    rw [crN_iv] at h1
    omega
theorem hold_split (f : Fleet) (l : List Rq) (q : Prem) : holdOk f l q = (l.all (fits f q) && (List.range l.length).all (okRow (srtI (hours l)) q)) := by
  rw [rows_pairs]
  unfold holdOk
  refine Bool.eq_iff_iff.2 ⟨fun h => ?_, fun h => ?_⟩
  · rw [Bool.and_eq_true, List.all_eq_true, List.all_eq_true]
    rw [List.all_eq_true] at h
    exact ⟨fun x hx => (Bool.and_eq_true _ _ ▸ h x hx : fits f q x = true ∧ _).1, fun x hx => (Bool.and_eq_true _ _ ▸ h x hx : _ ∧ l.all (pairOk l q x) = true).2⟩
  · rw [Bool.and_eq_true, List.all_eq_true, List.all_eq_true] at h
    rw [List.all_eq_true]
    intro x hx
    unfold holdAt
    rw [h.1 x hx, h.2 x hx]; rfl
end
end Go.Proofs.YthdekmpkioikdaaGreat
