/- Request: premises: whether they hold, and their bound. No condition. -/
import Derived.Test.YthdekmpkioikdaaGreatGR2gxK32
import Derived.Test.YthdekmpkioikdaaGreatGK27xR1
namespace Go.Proofs.YthdekmpkioikdaaGreat
open Go Go.K
set_option maxRecDepth 100000
set_option linter.unusedVariables false
set_option linter.unusedSimpArgs false
noncomputable section
attribute [local irreducible] vF
theorem intMap (l : List Int) : l.flatMap intC = l.map (Value.int .i64) := by
 induction l with
 | nil => rfl
 | cons x l ih => rw [List.flatMap_cons, ih]; rfl
theorem enters_some {P : Program} {f : FuncId} {fn : Func} (hf : P.funcs[f]? = some fn) (hname : (fn.name == "runtime.NumGoroutine") = false) (hb : fn.body.isSome = true) : Enters P f := by
 obtain ⟨c, hc⟩ := Option.isSome_iff_exists.1 hb
 exact enters_of hf hname hc
theorem enters84 : Enters prog 84 := enters_some Tryz.func84 (by kernel_rfl) (by kernel_rfl)
theorem set_same {α : Type} {l : List α} {i : Nat} {x : α} (h : l[i]? = some x) : l.set i x = l := by
 refine List.ext_getElem? fun k => ?_
 rw [List.getElem?_set]
 split
 ·rename_i e; subst e
  rw [if_pos (List.getElem?_eq_some_iff.1 h).1, h]
 ·rfl
theorem kSort {L0 : List Int} (h1 : L0.length < 1000) {H : Heap} {id : Nat} (ho : H[id]? = some (.cells true 1 (L0.flatMap intC))) :
  KCall prog 84 [.slice (some ⟨id, 0, some 1⟩) L0.length L0.length] H [id] (Is (.tuple #[]) (H.set id (.cells true 1 ((srtI L0).flatMap intC)))) := by
 rcases Nat.eq_zero_or_pos L0.length with h0 | h0
 ·have e : L0 = [] := List.length_eq_zero_iff.1 h0
  subst e
  have key : KCall prog 84 [.slice (some ⟨0, 0, some 1⟩) 0 0] H [] (Is (.tuple #[]) H) := valRx (H := H) (ids := []) (css := []) (Eq.mpr (ESort0 (.tuple #[])) rfl) trivial rfl trivial rfl
  have e2 : srtI [] = [] := List.length_eq_zero_iff.1 (by rw [srt_len]; rfl)
  rw [e2, set_same ho]
  exact (KCall.wkA (args := [.slice (some ⟨id, 0, some 1⟩) 0 0]) key (wks_cons (wk_Q0 _ _ _ _) wks_nil)).mono (fun _ h _ => by cases h) (fun _ _ h => h)
 ·rw [intMap] at ho ⊢
  exact kSortInt sortI enters84 (.inr rfl) h0 (by omega) ho
theorem mul_in {a b A B : Int} (h1 : 0 <= a) (h2 : a <= A) (h3 : 0 <= b) (h4 : b <= B) : 0 <= a * b /\ a * b <= A * B :=
 ⟨Int.mul_nonneg h1 h3, Int.mul_le_mul h2 h4 h3 (by omega)⟩
theorem tdivE {a b : Int} (h : 0 <= a) : Int.tdiv a b = a / b := Int.tdiv_eq_ediv_of_nonneg h
theorem div_in {a b : Int} (h : 0 <= a) (hb : 1 <= b) : 0 <= a / b /\ a / b <= a := ⟨Int.ediv_nonneg h (by omega), Int.ediv_le_self b h⟩
theorem topW_cast {f : Fleet} {q : Prem} (o : FlOk f) (p : PreOk q) : ((topW f q : Nat) : Int) = (q.burst + (f.b.length : Int)) * q.period * q.service /\ topW f q <= 920000 := by
 have a1 := mul_in (a := q.burst + (f.b.length : Int)) (b := q.period) (A := 23) (B := 200) (by have := p.burst; omega) (by have := p.burst; have := o.b2; omega) (by have := p.period; omega) p.period.2
 have a2 := mul_in (b := q.service) (B := 200) a1.1 a1.2 (by have := p.service; omega) p.service.2
 have e : ((topW f q : Nat) : Int) = (q.burst + (f.b.length : Int)) * q.period * q.service := Int.toNat_of_nonneg a2.1
 exact ⟨e, by omega⟩
theorem lastW_1 {c : Nat -> Bool} {w : Nat} (h : c (w + 1) = true) : lastW c (w + 1) = w + 1 := if_pos h
theorem lastW_0 {c : Nat -> Bool} {w : Nat} (h : c (w + 1) = false) : lastW c (w + 1) = lastW c w := if_neg (by rw [h]; decide)
theorem errB_1 {f : Fleet} {q : Prem} (h : errFl f ≠ 0) : fBound f q = (0, errFl f) := by
 have e : errB f q = errFl f := by unfold errB; rw [first2_1 h, first2_1 h]
 unfold fBound; rw [e, if_neg h]
theorem errB_2 {f : Fleet} {q : Prem} (h : errFl f = 0) (h2 : errPre q ≠ 0) : fBound f q = (0, errPre q) := by
 have e : errB f q = errPre q := by unfold errB; rw [first2_2 h, first2_1 h2]
 unfold fBound; rw [e, if_neg h2]
theorem errB_3 {f : Fleet} {q : Prem} (h : errFl f = 0) (h2 : errPre q = 0) (h3 : q.period * (f.b.length : Int) <= q.service) : fBound f q = (0, 4) := by
 have e : errB f q = 4 := by unfold errB; rw [first2_2 h, first2_2 h2, if_pos h3]
 unfold fBound; rw [e]; rfl
theorem errB_0 {f : Fleet} {q : Prem} (h : errFl f = 0) (h2 : errPre q = 0) (h3 : ¬ q.period * (f.b.length : Int) <= q.service) : fBound f q = ((lastW (boundC f.b.length q) (topW f q) : Int), 0) := by
 have e : errB f q = 0 := by unfold errB; rw [first2_2 h, first2_2 h2, if_neg h3]
 unfold fBound; rw [if_pos e]
abbrev bV (r : Int × Int) : Value := .tuple #[.int .i64 r.1, .int .i64 r.2]
theorem bEqV {r : Int × Int} {a b : Int} (h : r = (a, b)) : (.tuple #[.int .i64 a, .int .i64 b] : Value) = bV r := by rw [h]
set_option maxHeartbeats 1000000 in
theorem kBound (f : Fleet) (q : Prem) (ht : f.t.length <= 4294967296) (hb : f.b.length <= 4294967296) (hs : shortI f.t) {H : Heap} {i0 i1 : Nat} {o0 o1 : Bool} {z0 z1 : Nat} (e0 : H[i0]? = some (.cells o0 z0 (inL f.t))) (e1 : H[i1]? = some (.cells o1 z1 (f.b.flatMap intC))) :
  KCall prog 39 [fleetV f i0 i1, .agg ⟨preC q⟩] H [] (Is (bV (fBound f q)) H) := by
 refine valRx (Eq.mpr (EBound _ f q) ?_) ⟨inL_b 0 _, plainIL 0 _, trivial⟩ rfl (ids := [i0, i1]) ⟨⟨_, _, e0⟩, ⟨_, _, e1⟩, trivial⟩ rfl
 delta RBound jcx jct jc1r jc1d jc22 jc1j jc0 jc1e jc1m jc1b jcl jc6 jc1t jc1 jch jc7 jc1h
 refine ⟨⟨rfl, rfl, trivial⟩, fun H' _ hd => kFl f ht hb hs hd.1 hd.2.1, trivial, fun H' _ _ => kPre q H', forkNe (fun h => ⟨bEq (by simpa using h), bEqV (errB_1 h)⟩) (fun h0 => forkNe (fun h => ⟨bEq (by simpa using h), bEqV (errB_2 h0 h)⟩) (fun h2 => ?_))⟩
 have o := flOk h0
 have p := preOk h2
 have hT := topW_cast o p
 obtain ⟨b1, b2⟩ := p.burst
 obtain ⟨p1, p2⟩ := p.period
 obtain ⟨s1, s2⟩ := p.service
 have n1 := o.b1
 have n2 := o.b2
 have m1 := mul_in (a := q.period) (b := (f.b.length : Int)) (A := 200) (B := 3) (by omega) p2 (by omega) (by omega)
 have m2 := mul_in (a := q.burst + (f.b.length : Int)) (b := q.period) (A := 23) (B := 200) (by omega) (by omega) (by omega) p2
 have m3 := mul_in (b := q.service) (B := 200) m2.1 m2.2 (by omega) s2
 refine ⟨vI64 (by omega), forkD (fun h => bEqV (errB_3 h0 h2 h)) (fun h3 => ⟨vI64 (by omega), vI64 (by omega), vI64 (by omega), rfl, ⟨Nat.zero_le _, rfl⟩, ?_, fun _ => rfl, ?_⟩)⟩
 ·rw [Nat.sub_zero, hT.1]
  repeat' first | exact inL_b _ _ | exact plainIL _ _ | exact plainRQ _ _ | exact (inV_rn _ 0 _).symm | exact wk_QR | exact trivial | exact rfl | exact wk_refl _ | refine wkO_cells ?_ | refine wks_cons ?_ ?_ | exact wks_nil | exact wk_nil _ _ _ (.inl rfl) | (exact wk_Q (by omega)) | refine wk_tupL ?_ | refine wk_aggL ?_ | refine joinMax ?_ ?_ ?_ | refine joinMin ?_ ?_ ?_ | refine toMax ?_ | refine toMin ?_ | refine ⟨rfl, ?_⟩ | refine ⟨trivial, ?_⟩ | (refine forkD (fun h => ?_) (fun h => ?_)) | (refine forkNe (fun h => ?_) (fun h => ?_)) | (refine forkEq (fun h => ?_) (fun h => ?_)) | refine forkNot ?_ | (refine ⟨vI64 (by omega), ?_⟩) | (refine And.intro (by omega) ?_) | apply And.intro | (exact iEq (by omega)) | (exact vI64 (by omega))
 rintro x ⟨hx, hl⟩
 refine forkD (fun k => ?_) (fun k => ?_)
 ·obtain ⟨w, hw⟩ : ∃ w, topW f q - x = w + 1 := ⟨topW f q - x - 1, by omega⟩
  rw [hw] at hl ⊢
  have hwb : w + 1 <= 920000 := by omega
  have d1 := div_in (a := (((w + 1 : Nat) : Int) + q.service - 1)) (by omega) s1
  have d2 := div_in (a := ((w + 1 : Nat) : Int)) (by omega) p1
  have hm := tdivE (a := (((w + 1 : Nat) : Int) + q.service - 1)) (b := q.service) (by omega)
  have hm2 := tdivE (a := ((w + 1 : Nat) : Int)) (b := q.period) (by omega)
  have hc : boundC f.b.length q (w + 1) = decide ((f.b.length : Int) * ((((w + 1 : Nat) : Int) + q.service - 1) / q.service - 1) + 2 <= q.burst + ((w + 1 : Nat) : Int) / q.period) := rfl
  rw [hm, hm2]
  have h1 : 1 <= (((w + 1 : Nat) : Int) + q.service - 1) / q.service := by
   rw [show (((w + 1 : Nat) : Int) + q.service - 1) = (w : Int) + 1 * q.service by omega, Int.add_mul_ediv_right _ _ (by omega)]
   have := Int.ediv_nonneg (a := (w : Int)) (b := q.service) (by omega) (by omega)
   omega
  obtain ⟨D, hD⟩ : ∃ D, (((w + 1 : Nat) : Int) + q.service - 1) / q.service = D := ⟨_, rfl⟩
  obtain ⟨E, hE⟩ : ∃ E, ((w + 1 : Nat) : Int) / q.period = E := ⟨_, rfl⟩
  rw [hD] at d1 h1 hc ⊢
  rw [hE] at d2 hc ⊢
  have m4 := mul_in (a := (f.b.length : Int)) (b := D - 1) (A := 3) (B := 1000000) (by omega) (by omega) (by omega) (by omega)
  refine ⟨vI64 (by omega), vI64 (by omega), by omega, vI64 (by omega), vI64 (by omega), vI64 (by omega), vI64 (by omega), by omega, vI64 (by omega), vI64 (by omega), forkD (fun h => bEqV ?_) (fun h => ⟨vI64 (by omega), x + 1, ⟨by omega, ?_⟩, by omega, rfl, ?_⟩)⟩
  ·rw [errB_0 h0 h2 h3, hl, lastW_1 (hc.trans (decide_eq_true h))]
  ·rw [hl, lastW_0 (hc.trans (decide_eq_false h)), show topW f q - (x + 1) = w by omega]
  ·repeat' first | exact inL_b _ _ | exact plainIL _ _ | exact plainRQ _ _ | exact (inV_rn _ 0 _).symm | exact wk_QR | (exact iEq (by omega)) | exact trivial | exact rfl | exact wk_refl _ | refine wkO_cells ?_ | refine wks_cons ?_ ?_ | exact wks_nil | exact wk_nil _ _ _ (.inl rfl) | (exact wk_Q (by omega)) | refine wk_tupL ?_ | refine wk_aggL ?_ | refine joinMax ?_ ?_ ?_ | refine joinMin ?_ ?_ ?_ | refine toMax ?_ | refine toMin ?_ | refine ⟨rfl, ?_⟩ | refine ⟨trivial, ?_⟩ | (refine forkD (fun h => ?_) (fun h => ?_)) | (refine forkNe (fun h => ?_) (fun h => ?_)) | (refine forkEq (fun h => ?_) (fun h => ?_)) | refine forkNot ?_ | (refine ⟨vI64 (by omega), ?_⟩) | (refine And.intro (by omega) ?_) | apply And.intro | (exact iEq (by omega)) | (exact vI64 (by omega))
 ·refine bEqV ?_
  rw [errB_0 h0 h2 h3, hl, show topW f q - x = 0 by omega]; rfl
theorem all_snoc {α : Type} {l : List α} {d : α} {p : α -> Bool} {k : Nat} (h : k < l.length) (h1 : (l.take k).all p = true) (h2 : p (l.getD k d) = true) : (l.take (k + 1)).all p = true := by
 rw [take_snoc (d := d) h, List.all_append, h1, List.all_cons, h2]; rfl
theorem all_at {α : Type} {l : List α} {d : α} {p : α -> Bool} {k : Nat} (h : k < l.length) (h2 : p (l.getD k d) = false) : l.all p = false := by
 cases hc : l.all p with
 | false => rfl
 | true => rw [List.all_eq_true.1 hc _ (getD_mem h)] at h2; cases h2
theorem rng_snoc {p : Nat -> Bool} {k : Nat} (h1 : (List.range k).all p = true) (h2 : p k = true) : (List.range (k + 1)).all p = true := by
 rw [List.range_succ, List.all_append, h1, List.all_cons, h2]; rfl
theorem rng_at {p : Nat -> Bool} {k n : Nat} (h : k < n) (h2 : p k = false) : (List.range n).all p = false := by
 cases hc : (List.range n).all p with
 | false => rfl
 | true => rw [List.all_eq_true.1 hc _ (List.mem_range.2 h)] at h2; cases h2
theorem errH_1 {f : Fleet} {l : List Rq} {q : Prem} (h : errFl f ≠ 0) : fHold f l q = (false, errFl f) := by
 have e : errH f l q = errFl f := by unfold errH; rw [first2_1 h, first2_1 h]
 unfold fHold; rw [e, if_neg h]
theorem errH_2 {f : Fleet} {l : List Rq} {q : Prem} (h : errFl f = 0) (h2 : errRq f.t.length l ≠ 0) : fHold f l q = (false, errRq f.t.length l) := by
 have e : errH f l q = errRq f.t.length l := by unfold errH; rw [first2_2 h, first2_1 h2]
 unfold fHold; rw [e, if_neg h2]
theorem errH_3 {f : Fleet} {l : List Rq} {q : Prem} (h : errFl f = 0) (h2 : errRq f.t.length l = 0) (h3 : errPre q ≠ 0) : fHold f l q = (false, errPre q) := by
 have e : errH f l q = errPre q := by unfold errH; rw [first2_2 h, first2_2 h2]
 unfold fHold; rw [e, if_neg h3]
theorem errH_0 {f : Fleet} {l : List Rq} {q : Prem} (h : errFl f = 0) (h2 : errRq f.t.length l = 0) (h3 : errPre q = 0) : fHold f l q = (holdOk f l q, 0) := by
 have e : errH f l q = 0 := by unfold errH; rw [first2_2 h, first2_2 h2, h3]
 unfold fHold; rw [if_pos e]
abbrev hV (r : Bool × Int) : Value := .tuple #[.bool r.1, .int .i64 r.2]
theorem hEqV {r : Bool × Int} {a : Bool} {b : Int} (h : r = (a, b)) : (.tuple #[.bool a, .int .i64 b] : Value) = hV r := by rw [h]
theorem hours_snoc {l : List Rq} {x : Nat} (h : x < l.length) : hours (l.take (x + 1)) = hours (l.take x) ++ [(l.getD x zeroQ).at_] := by
 unfold hours; rw [take_snoc (d := zeroQ) h, List.map_append]; rfl
theorem srt_bd {n : Nat} {l : List Rq} (o : LsOk n l) {i : Nat} (hi : i < l.length) : 0 <= (srtI (hours l)).getD i 0 /\ (srtI (hours l)).getD i 0 <= 10000 := by
 have hl : (srtI (hours l)).length = l.length := by rw [srt_len, hours_len]
 have : (srtI (hours l)).getD i 0 ∈ hours l := (srt_mem _ _).1 (getD_mem (by omega))
 obtain ⟨x, h1, h2⟩ := List.mem_map.1 this
 obtain ⟨k, hk, rfl⟩ := mem_getD zeroQ h1
 rw [<- h2]; exact (o.ok k hk).at_
set_option maxHeartbeats 2000000 in
theorem kHold (f : Fleet) (l : List Rq) (q : Prem) (ht : f.t.length <= 4294967296) (hb : f.b.length <= 4294967296) (hs : shortI f.t) {H : Heap} {i0 i1 i2 : Nat} {o0 o1 o2 : Bool} {z0 z1 z2 : Nat} (e0 : H[i0]? = some (.cells o0 z0 (inL f.t))) (e1 : H[i1]? = some (.cells o1 z1 (f.b.flatMap intC))) (e2 : H[i2]? = some (.cells o2 z2 (l.flatMap rqC))) :
  KCall prog 37 [fleetV f i0 i1, .slice (some ⟨i2, 0, some 2⟩) l.length l.length, .agg ⟨preC q⟩] H [] (Is (hV (fHold f l q)) H) := by
 refine valRx (Eq.mpr (EHold _ f l q) ?_) ⟨inL_b 0 _, plainIL 0 _, plainRQ 0 _, trivial⟩ rfl (ids := [i0, i1, i2]) ⟨⟨_, _, e0⟩, ⟨_, _, e1⟩, ⟨_, _, e2⟩, trivial⟩ rfl
 delta RHold jcx jct jc1r jc1g jc12 jc1d jc22 jc1j jc11 jc1a jc8 jcz jcp jcl jc6 jc1t jcv jc1y jc1s jci jc19 jc1z jc13 jcr jc1c jc1f jco jc14 jcj jcd jca
 refine ⟨⟨rfl, rfl, trivial⟩, fun H' _ hd => kFl f ht hb hs hd.1 hd.2.1, ⟨rfl, rfl, rfl, trivial⟩, fun H' _ hd => kRq f l ht hd.1 hd.2.1 hd.2.2.1, trivial, fun H' _ _ => kPre q H',
  forkNe (fun h => ⟨bEq (by simpa using h), hEqV (errH_1 h)⟩) (fun h0 => forkNe (fun h => ⟨bEq (by simpa using h), hEqV (errH_2 h0 h)⟩) (fun h1 => forkNe (fun h => ⟨bEq (by simpa using h), hEqV (errH_3 h0 h1 h)⟩) (fun h2 => ⟨rfl, Nat.zero_le _, ?_, fun _ => rfl, ?_⟩)))⟩
 ·repeat' first | exact inL_b _ _ | exact plainIL _ _ | exact plainRQ _ _ | exact (inV_rn _ 0 _).symm | exact wk_QR | exact trivial | exact rfl | exact wk_refl _ | refine wkO_cells ?_ | refine wks_cons ?_ ?_ | exact wks_nil | exact wk_nil _ _ _ (.inl rfl) | (exact wk_Q (by omega)) | refine wk_tupL ?_ | refine wk_aggL ?_ | refine joinMax ?_ ?_ ?_ | refine joinMin ?_ ?_ ?_ | refine toMax ?_ | refine toMin ?_ | refine ⟨rfl, ?_⟩ | refine ⟨trivial, ?_⟩ | (refine forkD (fun h => ?_) (fun h => ?_)) | (refine forkNe (fun h => ?_) (fun h => ?_)) | (refine forkEq (fun h => ?_) (fun h => ?_)) | refine forkNot ?_ | (refine ⟨vI64 (by omega), ?_⟩) | (refine And.intro (by omega) ?_) | apply And.intro | (exact iEq (by omega)) | (exact vI64 (by omega))
 have hF := errH_0 h0 h1 h2
 have o := flOk h0
 have ol := lsOk h1
 have p := preOk h2
 have n1 := o.n1
 have n2 := o.n2
 have hl30 := ol.len
 obtain ⟨b1, b2⟩ := p.burst
 obtain ⟨p1, p2⟩ := p.period
 obtain ⟨s1, s2⟩ := p.service
 rw [hF, hold_split]
 intro x hx
 refine forkD (fun k => ?_) (fun k => ?_)
 ·have hlt : x < f.t.length := by omega
  have hr := o.row x hlt
  refine ⟨by omega, inL_at hlt (by omega), trivial, fun H' _ _ => kMax _ (hs x hlt) (by omega) (o.el x 0 hlt).1 H', vI64 (by omega), x + 1, by omega, by omega, rfl, ?_⟩
  have : (if maxL (f.t.getD x []) > farTo f x then maxL (f.t.getD x []) else farTo f x) = farTo f (x + 1) := by rw [far_succ hlt]; split <;> omega
  repeat' first | exact inL_b _ _ | exact plainIL _ _ | exact plainRQ _ _ | exact (inV_rn _ 0 _).symm | exact wk_QR | exact iEq this | exact trivial | exact rfl | exact wk_refl _ | refine wkO_cells ?_ | refine wks_cons ?_ ?_ | exact wks_nil | exact wk_nil _ _ _ (.inl rfl) | (exact wk_Q (by omega)) | refine wk_tupL ?_ | refine wk_aggL ?_ | refine joinMax ?_ ?_ ?_ | refine joinMin ?_ ?_ ?_ | refine toMax ?_ | refine toMin ?_ | refine ⟨rfl, ?_⟩ | refine ⟨trivial, ?_⟩ | (refine forkD (fun h => ?_) (fun h => ?_)) | (refine forkNe (fun h => ?_) (fun h => ?_)) | (refine forkEq (fun h => ?_) (fun h => ?_)) | refine forkNot ?_ | (refine ⟨vI64 (by omega), ?_⟩) | (refine And.intro (by omega) ?_) | apply And.intro | (exact iEq (by omega)) | (exact vI64 (by omega))
 obtain rfl : x = f.t.length := by omega
 have hfar := far_bd o f.t.length
 refine ⟨rfl, ⟨Nat.zero_le _, rfl⟩, ?_, fun _ => rfl, ?_⟩
 ·repeat' first | exact inL_b _ _ | exact plainIL _ _ | exact plainRQ _ _ | exact (inV_rn _ 0 _).symm | exact wk_QR | exact trivial | exact rfl | exact wk_refl _ | refine wkO_cells ?_ | refine wks_cons ?_ ?_ | exact wks_nil | exact wk_nil _ _ _ (.inl rfl) | (exact wk_Q (by omega)) | refine wk_tupL ?_ | refine wk_aggL ?_ | refine joinMax ?_ ?_ ?_ | refine joinMin ?_ ?_ ?_ | refine toMax ?_ | refine toMin ?_ | refine ⟨rfl, ?_⟩ | refine ⟨trivial, ?_⟩ | (refine forkD (fun h => ?_) (fun h => ?_)) | (refine forkNe (fun h => ?_) (fun h => ?_)) | (refine forkEq (fun h => ?_) (fun h => ?_)) | refine forkNot ?_ | (refine ⟨vI64 (by omega), ?_⟩) | (refine And.intro (by omega) ?_) | apply And.intro | (exact iEq (by omega)) | (exact vI64 (by omega))
 rintro y ⟨hy, hfit⟩
 have hyt : (l.take y).length = y := take_len hy
 refine forkD (fun k => ?_) (fun k => ?_)
 ·have hlt : y < l.length := by omega
  have hq := ol.ok y hlt
  have hql := hq.len
  have hsn := hours_snoc hlt
  refine ⟨by omega, partQ hlt (by omega), vI64 (by omega), forkD (fun h => hEqV ?_) (fun h => ?_)⟩
  ·rw [all_at (d := zeroQ) hlt (show fits f q (l.getD y zeroQ) = false from decide_eq_false (by omega))]; rfl
  ·refine ⟨⟨by omega, by decide, ⟨Nat.le_refl _, by rw [flat_len intC_len, hours_len, hyt]; omega⟩, ⟨Nat.le_refl _, Nat.le_refl _⟩, rfl⟩, rfl, vI64 (by omega), y + 1, ⟨by omega, all_snoc (d := zeroQ) hlt hfit (decide_eq_true (by omega))⟩, by omega, rfl, ?_⟩
   repeat' first | exact inL_b _ _ | exact plainIL _ _ | exact plainRQ _ _ | exact (inV_rn _ 0 _).symm | exact wk_QR | (exact congrArg (fun l => some (KObj.cells true 1 l)) (by rw [hsn]; exact flat_snoc intC_len _ _ (by rw [hours_len, hyt]))) | exact trivial | exact rfl | exact wk_refl _ | refine wkO_cells ?_ | refine wks_cons ?_ ?_ | exact wks_nil | exact wk_nil _ _ _ (.inl rfl) | (exact wk_Q (by omega)) | refine wk_tupL ?_ | refine wk_aggL ?_ | refine joinMax ?_ ?_ ?_ | refine joinMin ?_ ?_ ?_ | refine toMax ?_ | refine toMin ?_ | refine ⟨rfl, ?_⟩ | refine ⟨trivial, ?_⟩ | (refine forkD (fun h => ?_) (fun h => ?_)) | (refine forkNe (fun h => ?_) (fun h => ?_)) | (refine forkEq (fun h => ?_) (fun h => ?_)) | refine forkNot ?_ | (refine ⟨vI64 (by omega), ?_⟩) | (refine And.intro (by omega) ?_) | apply And.intro | (exact iEq (by omega)) | (exact vI64 (by omega))
 obtain rfl : y = l.length := by omega
 rw [List.take_length] at hfit ⊢
 rw [hfit, Bool.true_and]
 have hSl : (srtI (hours l)).length = l.length := by rw [srt_len, hours_len]
 refine ⟨⟨rfl, trivial⟩, fun H' _ hd => ?_, rfl, ⟨Nat.zero_le _, rfl⟩, ?_, fun _ => rfl, ?_⟩
 ·have := kSort (L0 := hours l) (by rw [hours_len]; omega) hd.1
  rw [hours_len] at this; exact this
 ·repeat' first | exact inL_b _ _ | exact plainIL _ _ | exact plainRQ _ _ | exact (inV_rn _ 0 _).symm | exact wk_QR | exact trivial | exact rfl | exact wk_refl _ | refine wkO_cells ?_ | refine wks_cons ?_ ?_ | exact wks_nil | exact wk_nil _ _ _ (.inl rfl) | (exact wk_Q (by omega)) | refine wk_tupL ?_ | refine wk_aggL ?_ | refine joinMax ?_ ?_ ?_ | refine joinMin ?_ ?_ ?_ | refine toMax ?_ | refine toMin ?_ | refine ⟨rfl, ?_⟩ | refine ⟨trivial, ?_⟩ | (refine forkD (fun h => ?_) (fun h => ?_)) | (refine forkNe (fun h => ?_) (fun h => ?_)) | (refine forkEq (fun h => ?_) (fun h => ?_)) | refine forkNot ?_ | (refine ⟨vI64 (by omega), ?_⟩) | (refine And.intro (by omega) ?_) | apply And.intro | (exact iEq (by omega)) | (exact vI64 (by omega))
 rintro i ⟨hi, hrow⟩
 refine forkD (fun k => ?_) (fun k => ?_)
 ·have hlt : i < l.length := by omega
  have hbi := srt_bd ol hlt
  refine ⟨by omega, intAt (by omega) (by omega), ⟨⟨.inr (.inr rfl), Nat.le_refl _⟩, Nat.le_refl _, by omega⟩, rfl, rfl, ⟨Nat.zero_le _, rfl⟩, ?_, fun _ => rfl, ?_⟩
  ·repeat' first | exact inL_b _ _ | exact plainIL _ _ | exact plainRQ _ _ | exact (inV_rn _ 0 _).symm | exact wk_QR | exact trivial | exact rfl | exact wk_refl _ | refine wkO_cells ?_ | refine wks_cons ?_ ?_ | exact wks_nil | exact wk_nil _ _ _ (.inl rfl) | (exact wk_Q (by omega)) | refine wk_tupL ?_ | refine wk_aggL ?_ | refine joinMax ?_ ?_ ?_ | refine joinMin ?_ ?_ ?_ | refine toMax ?_ | refine toMin ?_ | refine ⟨rfl, ?_⟩ | refine ⟨trivial, ?_⟩ | (refine forkD (fun h => ?_) (fun h => ?_)) | (refine forkNe (fun h => ?_) (fun h => ?_)) | (refine forkEq (fun h => ?_) (fun h => ?_)) | refine forkNot ?_ | (refine ⟨vI64 (by omega), ?_⟩) | (refine And.intro (by omega) ?_) | apply And.intro | (exact iEq (by omega)) | (exact vI64 (by omega))
  rintro c ⟨hc, hcell⟩
  refine forkD (fun k => ?_) (fun k => ?_)
  ·have hlc : i + c < l.length := by omega
   have hbc := srt_bd ol hlc
   have hm := srt_mono (L := hours l) (i := i) (j := i + c) (by omega) (by rw [hours_len]; omega)
   have hdv := tdivE (a := (srtI (hours l)).getD (i + c) 0 - (srtI (hours l)).getD i 0 + 1) (b := q.period) (by omega)
   have d1 := div_in (a := (srtI (hours l)).getD (i + c) 0 - (srtI (hours l)).getD i 0 + 1) (by omega) p1
   have hok : okCell (srtI (hours l)) q i c = decide ((c : Int) + 1 <= q.burst + ((srtI (hours l)).getD (i + c) 0 - (srtI (hours l)).getD i 0 + 1) / q.period) := rfl
   rw [hdv]
   refine ⟨by omega, intAt (by omega) (by omega), vI64 (by omega), vI64 (by omega), vI64 (by omega), by omega, vI64 (by omega), vI64 (by omega), forkD (fun h => hEqV ?_) (fun h => ⟨vI64 (by omega), c + 1, ⟨by omega, rng_snoc hcell (hok.trans (decide_eq_true (by omega)))⟩, by omega, rfl, ?_⟩)⟩
   ·rw [rng_at hlt (show okRow (srtI (hours l)) q i = false from rng_at (by omega) (hok.trans (decide_eq_false (by omega))))]
   ·repeat' first | exact inL_b _ _ | exact plainIL _ _ | exact plainRQ _ _ | exact (inV_rn _ 0 _).symm | exact wk_QR | exact trivial | exact rfl | exact wk_refl _ | refine wkO_cells ?_ | refine wks_cons ?_ ?_ | exact wks_nil | exact wk_nil _ _ _ (.inl rfl) | (exact wk_Q (by omega)) | refine wk_tupL ?_ | refine wk_aggL ?_ | refine joinMax ?_ ?_ ?_ | refine joinMin ?_ ?_ ?_ | refine toMax ?_ | refine toMin ?_ | refine ⟨rfl, ?_⟩ | refine ⟨trivial, ?_⟩ | (refine forkD (fun h => ?_) (fun h => ?_)) | (refine forkNe (fun h => ?_) (fun h => ?_)) | (refine forkEq (fun h => ?_) (fun h => ?_)) | refine forkNot ?_ | (refine ⟨vI64 (by omega), ?_⟩) | (refine And.intro (by omega) ?_) | apply And.intro | (exact iEq (by omega)) | (exact vI64 (by omega))
  ·refine ⟨vI64 (by omega), i + 1, ⟨by omega, rng_snoc hrow ?_⟩, by omega, rfl, ?_⟩
   ·unfold okRow; rw [show (srtI (hours l)).length - i = c by omega]; exact hcell
   ·repeat' first | exact inL_b _ _ | exact plainIL _ _ | exact plainRQ _ _ | exact (inV_rn _ 0 _).symm | exact wk_QR | exact trivial | exact rfl | exact wk_refl _ | refine wkO_cells ?_ | refine wks_cons ?_ ?_ | exact wks_nil | exact wk_nil _ _ _ (.inl rfl) | (exact wk_Q (by omega)) | refine wk_tupL ?_ | refine wk_aggL ?_ | refine joinMax ?_ ?_ ?_ | refine joinMin ?_ ?_ ?_ | refine toMax ?_ | refine toMin ?_ | refine ⟨rfl, ?_⟩ | refine ⟨trivial, ?_⟩ | (refine forkD (fun h => ?_) (fun h => ?_)) | (refine forkNe (fun h => ?_) (fun h => ?_)) | (refine forkEq (fun h => ?_) (fun h => ?_)) | refine forkNot ?_ | (refine ⟨vI64 (by omega), ?_⟩) | (refine And.intro (by omega) ?_) | apply And.intro | (exact iEq (by omega)) | (exact vI64 (by omega))
 ·obtain rfl : i = l.length := by omega
  exact hEqV (by rw [hrow])
end
end Go.Proofs.YthdekmpkioikdaaGreat
/- Request: the reference's Hold. No condition. -/
namespace Go.Proofs.YthdekmpkioikdaaGreat
open Go Go.K
set_option maxRecDepth 100000
set_option linter.unusedVariables false
set_option linter.unusedSimpArgs false
noncomputable section
attribute [local irreducible] vF
theorem atAt {l : List Rq} {k : Nat} (h : k < l.length) {off : Nat} (ho : off = k * 7 + 1) : (l.flatMap rqC)[off]? = some (.int .i64 (l.getD k zeroQ).at_) := cell_at (n := 7) (d := zeroQ) (c := 1) rqC_len h ho rfl
end
end Go.Proofs.YthdekmpkioikdaaGreat
/- Request: plain laws of histories. No condition. -/
namespace Go.Proofs.YthdekmpkioikdaaGreat
set_option linter.unusedSimpArgs false
open Go Go.K
set_option linter.unusedVariables false
noncomputable section
theorem frH_len (f : Fleet) (h : List Sv) : ∀ k, (frH f h k).length = f.b.length
 | 0 => List.length_replicate ..
 | k + 1 => by show ((frH f h k).set _ _).length = _; rw [List.length_set, frH_len f h k]
theorem plH_len (f : Fleet) (l : List Rq) (h : List Sv) : ∀ k, (plH f l h k).length = f.b.length
 | 0 => rfl
 | k + 1 => by show ((plH f l h k).set _ _).length = _; rw [List.length_set, plH_len f l h k]
theorem rqAt_dest {f : Fleet} (o : FlOk f) {l : List Rq} (ol : LsOk f.t.length l) (i : Int) : 0 <= (rqAt l i).dest /\ (rqAt l i).dest <= (f.t.length : Int) - 1 := by
 unfold rqAt
 by_cases hi : Int.toNat i < l.length
 ·exact (ol.ok _ hi).dest
 ·rw [List.getD_eq_getElem?_getD, List.getElem?_eq_none (by omega)]
  have := o.n1
  show 0 <= (0 : Int) /\ (0 : Int) <= _
  omega
theorem plH_in {f : Fleet} (o : FlOk f) {l : List Rq} (ol : LsOk f.t.length l) (h : List Sv) : ∀ (k b : Nat), b < f.b.length -> 0 <= (plH f l h k).getD b 0 /\ (plH f l h k).getD b 0 <= (f.t.length : Int) - 1
 | 0, b, hb => o.br b hb
 | k + 1, b, hb => by
  show 0 <= ((plH f l h k).set _ _).getD b 0 /\ _
  have ih := plH_in o ol h k b hb
  have hd := rqAt_dest o ol (svAt h k).rq
  have e : (plH f l h (k + 1)).getD b 0 = if Int.toNat (svAt h k).br = b then (rqAt l (svAt h k).rq).dest else (plH f l h k).getD b 0 := by
   show ((plH f l h k).set _ _).getD b 0 = _
   rw [List.getD_eq_getElem?_getD, List.getElem?_set]
   split
   ·rw [if_pos (by rw [plH_len]; omega)]; rfl
   ·rw [<- List.getD_eq_getElem?_getD]
  show 0 <= (plH f l h (k + 1)).getD b 0 /\ (plH f l h (k + 1)).getD b 0 <= _
  rw [e]
  split
  ·exact hd
  ·exact ih
theorem trav_in {f : Fleet} (o : FlOk f) {a b : Int} (ha : 0 <= a /\ a <= (f.t.length : Int) - 1) : 0 <= trav f a b /\ trav f a b <= 100 := o.el (Int.toNat a) (Int.toNat b) (by omega)
theorem list_ext {α : Type} {a b : List α} (d : α) (hl : a.length = b.length) (h : ∀ k, k < a.length -> a.getD k d = b.getD k d) : a = b := by
 refine List.ext_getElem hl fun k h1 h2 => ?_
 have := h k h1
 rw [List.getD_eq_getElem?_getD, List.getD_eq_getElem?_getD, List.getElem?_eq_getElem h1, List.getElem?_eq_getElem h2] at this
 exact this
theorem getD_setN {α : Type} {a : List α} {d x : α} {i j : Nat} (hj : j < a.length) : (a.set i x).getD j d = if i = j then x else a.getD j d := by
 rw [List.getD_eq_getElem?_getD, List.getElem?_set]
 split
 ·rename_i e; subst e; rw [if_pos hj]; rfl
 ·rw [<- List.getD_eq_getElem?_getD]
section
variable {f : Fleet} {l : List Rq} {h : List Sv} {k : Nat}
variable (c1 : (!inB (svAt h k).rq 0 ((l.length : Int) - 1)) = false) (c2 : (!inB (svAt h k).br 0 ((f.b.length : Int) - 1)) = false)
include c1 c2
end
end
end Go.Proofs.YthdekmpkioikdaaGreat
/- What is to be shown of functions. Printed by a program. No condition. -/
namespace Go.Proofs.YthdekmpkioikdaaGreat
set_option linter.unusedSimpArgs false
open Go Go.K
set_option maxRecDepth 100000
set_option maxHeartbeats 4000000
set_option linter.unusedVariables false
noncomputable section
abbrev jel (l : List Int) : KObj:=.cells true 1 (l.flatMap intC)
def RClone (l : List Int) : Prop :=
 ((l.length = 0 -> (((0 + l.length) * 8 <= 2 ^ 44 /\ l.length = 0) /\ (true = true /\ wk (slQ 1 1 0 : Value) (rn (sg 1 [(1,1)]) 3 (slQ 1 1 l.length : Value)) /\ ((some (.cells true 1 [] : KObj) = some (jel l) /\ belowO 1 (jel l) = true) /\ True)))) /\ (¬ (l.length = 0) -> (((0 + l.length) * 8 <= 2 ^ 44 /\ l.length ≠ 0 /\ (0 <= 0 /\ 0 + 0 * 1 <= List.length ([] : List Value)) /\ (l.length <= l.length /\ 0 + l.length * 1 <= List.length (l.flatMap intC)) /\ ((((l.flatMap intC).drop 0).take (l.length * 1)) : List Value).all (fun v => one1 v) = true) /\ true = true /\ (true = true /\ wk (.slice (some ⟨2,0,none⟩) (0 + l.length) (0 + l.length) : Value) (rn (sg 1 [(1,2)]) 3 (slQ 1 1 l.length : Value)) /\ ((some (.cells true 1 (((([] : List Value).drop 0).take (0 * 1)) ++ (((l.flatMap intC).drop 0).take (l.length * 1))) : KObj) = some (jel l) /\ belowO 1 (jel l) = true) /\ True)))))
theorem EClone (l : List Int) : vF prog msk (dm 0) 100000 true 40 true 116 [.slice (some ⟨0,0,none⟩) l.length l.length] (readsT 0 [l.flatMap intC]) (some [])
 (.go 5 (.cas (l.length = 0) (.val (.bool true) (.go 0 (.again [(1,1)]))) (.need (.go 0 (.again [(1,2)])))))
 (newK ((readsT 0 [l.flatMap intC]) : HT).n 3 (slQ 1 1 l.length) [(true,.cells true 1 (l.flatMap intC))]) = RClone l:=by kernel_rfl
end
end Go.Proofs.YthdekmpkioikdaaGreat
/- Request: what is wrong with histories. No condition. -/
namespace Go.Proofs.YthdekmpkioikdaaGreat
open Go Go.K
set_option maxRecDepth 100000
set_option linter.unusedVariables false
set_option linter.unusedSimpArgs false
noncomputable section
attribute [local irreducible] vF
theorem wk_ofR {id o l c : Nat} (hp : 0 < l) : wk (.slice (some ⟨id, o, some 2⟩) l c) (.slice (some ⟨id, o, none⟩) l c) := by
 intro ρ x h
 cases h with
 | sliceRe => exact absurd hp (Nat.lt_irrefl 0)
 | sliceR h _ hl hc ho => exact .slice h hl hc ho
theorem kClone (l : List Int) (hl : l.length <= 4294967296) {H : Heap} {L : Nat} (hL : H.length = L) {i : Nat} {o : Bool} {z : Nat} (e : H[i]? = some (.cells o z (l.flatMap intC))) :
  KCall prog 116 [.slice (some ⟨i, 0, none⟩) l.length l.length] H [] (Is (.slice (some ⟨L, 0, some 1⟩) l.length l.length) (H ++ [.cells true 1 (l.flatMap intC)])) := by
 subst hL
 refine valQ (fun i => .slice (some ⟨i, 0, some 1⟩) l.length l.length) (Eq.mpr (EClone l) ?_) (plainIL 0 l) (fun n => plainIL n _) rfl rfl (fun _ => rfl) e rfl
 delta RClone jel
 refine ⟨fun h => ⟨⟨by omega, h⟩, rfl, ?_, ⟨?_, plainIL _ _⟩, trivial⟩, fun h => ⟨⟨by omega, h, ⟨Nat.le_refl _, Nat.zero_le _⟩, ⟨Nat.le_refl _, flat_le intC_len _⟩, one1_take one1_I⟩, rfl, rfl, ?_, ⟨?_, plainIL _ _⟩, trivial⟩⟩
 ·rw [h]; exact wk_refl _
 ·have : l = [] := List.length_eq_zero_iff.1 h
  subst this; rfl
 ·rw [Nat.zero_add]; exact wk_Q (by omega)
 ·rw [copy_I]; rfl
theorem kCloneR (l : List Int) (hl : l.length <= 4294967296) (h0 : 0 < l.length) {H : Heap} {L : Nat} (hL : H.length = L) {i : Nat} {o : Bool} {z : Nat} (e : H[i]? = some (.cells o z (l.flatMap intC))) :
  KCall prog 116 [.slice (some ⟨i, 0, some 2⟩) l.length l.length] H [] (Is (.slice (some ⟨L, 0, some 1⟩) l.length l.length) (H ++ [.cells true 1 (l.flatMap intC)])) :=
 KCall.wkA (kClone l hl hL e) (wks_cons (wk_ofR h0) wks_nil)
end
end Go.Proofs.YthdekmpkioikdaaGreat
/- Request: what is wrong with histories, by the reference. No condition. -/
namespace Go.Proofs.YthdekmpkioikdaaGreat
open Go Go.K
set_option maxRecDepth 100000
set_option linter.unusedVariables false
set_option linter.unusedSimpArgs false
noncomputable section
attribute [local irreducible] vF
theorem brH_at {f : Fleet} {l : List Rq} {h : List Sv} {k b : Nat} (hb : b < f.b.length) : (brH f l h k).getD b zeroB = ⟨(frH f h k).getD b 0, (plH f l h k).getD b 0⟩ := tabP_get hb
end
end Go.Proofs.YthdekmpkioikdaaGreat
/- Request: plain laws of histories that are right. No condition. -/
namespace Go.Proofs.YthdekmpkioikdaaGreat
set_option linter.unusedSimpArgs false
open Go Go.K
set_option linter.unusedVariables false
noncomputable section
structure HOk (f : Fleet) (l : List Rq) (h : List Sv) : Prop where
 fl : FlOk f
 ls : LsOk f.t.length l
 len : h.length = l.length
 rq : ∀ k, k < h.length -> 0 <= (svAt h k).rq /\ (svAt h k).rq < (l.length : Int)
 br : ∀ k, k < h.length -> 0 <= (svAt h k).br /\ (svAt h k).br < (f.b.length : Int)
 ne : ∀ k, k < h.length -> (h.take k).any (isRq (svAt h k).rq) = false
 tk : ∀ k, k < h.length -> (rqAt l (svAt h k).rq).at_ <= (svAt h k).tk /\ (svAt h k).tk <= 1000000000
 bg : ∀ k, k < h.length -> (svAt h k).bg = bgH f l h k
 nd : ∀ k, k < h.length -> (svAt h k).nd = bgH f l h k + (rqAt l (svAt h k).rq).len
theorem HOk.inj {f : Fleet} {l : List Rq} {h : List Sv} (o : HOk f l h) {j k : Nat} (hk : k < h.length) (hj : j < k) : (svAt h j).rq ≠ (svAt h k).rq := by
 intro e
 have h1 := o.ne k hk
 have h2 : j < (h.take k).length := by rw [take_len (by omega)]; exact hj
 have hg : (h.take k).getD j zeroV = svAt h j := by show _ = h.getD j zeroV; rw [List.getD_eq_getElem?_getD, List.getElem?_take, if_pos hj, <- List.getD_eq_getElem?_getD]
 have := any_no (d := zeroV) h1 h2
 rw [hg] at this
 exact of_decide_eq_false this e
theorem laterV_neg (a b : Rq) : decide (laterV a b < 0) = befB a b := by
 unfold laterV cmpI befB
 by_cases h1 : a.at_ < b.at_
 ·rw [if_pos h1, first2_1 (by decide), decide_eq_true h1]; rfl
 ·rw [if_neg h1, decide_eq_false h1, Bool.false_or]
  by_cases h2 : b.at_ < a.at_
  ·rw [if_pos h2, first2_1 (by decide), decide_eq_false (show ¬ a.at_ = b.at_ by omega)]; rfl
  ·rw [if_neg h2, first2_2 rfl, decide_eq_true (show a.at_ = b.at_ by omega), Bool.true_and]
   by_cases h3 : a.id < b.id
   ·rw [if_pos h3, decide_eq_true h3]; rfl
   ·rw [if_neg h3, decide_eq_false h3]; split <;> rfl
end
end Go.Proofs.YthdekmpkioikdaaGreat
/- What is to be shown of functions. Printed by a program. No condition. -/
namespace Go.Proofs.YthdekmpkioikdaaGreat
set_option linter.unusedSimpArgs false
open Go Go.K
set_option maxRecDepth 100000
set_option maxHeartbeats 4000000
set_option linter.unusedVariables false
noncomputable section
abbrev jf11 : Value:=nI 0
def Rcmp (sp : Value) (a b : Int) : Prop :=
 ((((a : Int) != a) = true -> ((((b : Int) != b) = true -> jf11 = sp) /\ (((b : Int) != b) = false -> (nI (-1) : Value) = sp))) /\ (((a : Int) != a) = false -> ((((b : Int) != b) = true -> (nI 1 : Value) = sp) /\ (((b : Int) != b) = false -> (((decide ((a : Int) < b)) = true -> (nI (-1) : Value) = sp) /\ ((decide ((a : Int) < b)) = false -> (((decide ((b : Int) < a)) = true -> (nI 1 : Value) = sp) /\ ((decide ((b : Int) < a)) = false -> jf11 = sp))))))))
theorem Ecmp (sp : Value) (a b : Int) : vF prog msk (dm 0) 100000 true 40 true 152 [nI a,nI b] ⟨0,.leaf⟩ (some [])
 (.go 17 (.fork (.go 0 (.fork (.auto) (.auto))) (.go 0 (.fork (.auto) (.go 2 (.fork (.auto) (.go 2 (.fork (.auto) (.auto)))))))))
 (fun v _ _ => v = sp) = Rcmp sp a b:=by kernel_rfl
abbrev jfd (l : List Rq) : Int:=(l.length : Nat)
abbrev jf1l (l : List Rq):=l.flatMap rqC
abbrev jfj (l : List Rq) (i : Int):=l.getD i.toNat zeroQ
abbrev jf18 (l : List Rq) (i : Int) : Value:=.agg #[nI (jfj l i).id,nI (jfj l i).at_,nI (jfj l i).place,nI (jfj l i).dest,nI (jfj l i).len,nI (jfj l i).prio,nI (jfj l i).limit]
abbrev jfl (l : List Rq) (k : Int):=l.getD k.toNat zeroQ
abbrev jf19 (l : List Rq) (k : Int) : Value:=.agg #[nI (jfl l k).id,nI (jfl l k).at_,nI (jfl l k).place,nI (jfl l k).dest,nI (jfl l k).len,nI (jfl l k).prio,nI (jfl l k).limit]
def Rlater (sp : Value) (f : Fleet) (l : List Rq) (X Y : List Int) (i k : Int) : Prop :=
 (((0 : Int) <= i /\ (i : Int) < (jfd l)) /\ ((partA 7 (jf1l l) (0 + Int.toNat i * 7) = some (jf18 l i)) /\ (((0 : Int) <= k /\ (k : Int) < (jfd l)) /\ ((partA 7 (jf1l l) (0 + Int.toNat k * 7) = some (jf19 l k)) /\ ((True) /\ (∀ H' : Heap,H'.length = 8 -> (True) -> KCall prog 152 [nI (jfj l i).at_,nI (jfl l k).at_] H' [] (Is (nI (cmpI (jfj l i).at_ (jfl l k).at_)) H')) /\ ((True) /\ (∀ H' : Heap,H'.length = 8 -> (True) -> KCall prog 152 [nI (jfj l i).id,nI (jfl l k).id] H' [] (Is (nI (cmpI (jfj l i).id (jfl l k).id)) H')) /\ (∃ y2 : Int,(nI (cmpI (jfj l i).at_ (jfl l k).at_) : Value) = nI y2 /\ ((((y2 : Int) != 0) = true -> (nI y2 : Value) = sp) /\ (((y2 : Int) != 0) = false -> (∃ y3 : Int,(nI (cmpI (jfj l i).id (jfl l k).id) : Value) = nI y3 /\ ((((y3 : Int) != 0) = true -> (nI y3 : Value) = sp) /\ (((y3 : Int) != 0) = false -> jf11 = sp))))))))))))
theorem Elater (sp : Value) (f : Fleet) (l : List Rq) (X Y : List Int) (i k : Int) : vF prog msk (dm 0) 100000 true 40 true 120 [.pointer (some ⟨5,0,none⟩),nI i,nI k] (readsT 0 [inL f.t,f.b.flatMap intC,l.flatMap rqC,X.flatMap intC,Y.flatMap intC,wkC f l X Y]) (some [])
 (.go 5 (.need (.val (jf18 l i) (.go 4 (.need (.val (jf19 l k) (.go 11 (.ans [] (nI (cmpI (jfj l i).at_ (jfl l k).at_)) [] (.ans [] (nI (cmpI (jfj l i).id (jfl l k).id)) [] (.go 10 (.bind Int (fun y2 => .slot 11 (nI y2) (.go 3 (.fork (.auto) (.go 5 (.bind Int (fun y3 => .slot 11 (nI y3) (.go 3 (.fork (.auto) (.auto))))))))))))))))))))
 (fun v _ _ => v = sp) = Rlater sp f l X Y i k:=by kernel_rfl
end
end Go.Proofs.YthdekmpkioikdaaGreat
/- Request: how long requests wait in a history. No condition. -/
namespace Go.Proofs.YthdekmpkioikdaaGreat
open Go Go.K
set_option maxRecDepth 100000
set_option linter.unusedVariables false
set_option linter.unusedSimpArgs false
noncomputable section
attribute [local irreducible] vF
theorem kCmp (a b : Int) (H : Heap) : KCall prog 152 [nI a, nI b] H [] (Is (.int .i64 (cmpI a b)) H) := by
 refine valK 40 (fun σ => rfl) rfl (Eq.mpr (Ecmp _ a b) ?_) H
 delta Rcmp jf11
 refine forkF (bne_self_eq_false _) (forkF (bne_self_eq_false _) (forkD (fun h => iEq (if_pos h).symm) (fun h => forkD (fun h2 => iEq ?_) (fun h2 => iEq ?_))))
 ·unfold cmpI; rw [if_neg h, if_pos h2]
 ·unfold cmpI; rw [if_neg h, if_neg h2]
theorem kLater (f : Fleet) (l : List Rq) (X Y : List Int) (i k : Int) (hi : 0 <= i /\ i < (l.length : Int)) (hk : 0 <= k /\ k < (l.length : Int)) {H : Heap} {j0 j1 j2 j3 j4 j5 : Nat} {o0 o1 o2 o3 o4 o5 : Bool} {z0 z1 z2 z3 z4 z5 : Nat}
  (e5 : H[j5]? = some (.cells o5 z5 [.slice (some ⟨j0, 0, some 2⟩) f.t.length f.t.length, .slice (some ⟨j1, 0, some 2⟩) f.b.length f.b.length, .slice (some ⟨j2, 0, some 2⟩) l.length l.length, .slice (some ⟨j3, 0, none⟩) X.length X.length, .slice (some ⟨j4, 0, some 1⟩) Y.length Y.length]))
  (e0 : H[j0]? = some (.cells o0 z0 (inL f.t))) (e1 : H[j1]? = some (.cells o1 z1 (f.b.flatMap intC))) (e2 : H[j2]? = some (.cells o2 z2 (l.flatMap rqC))) (e3 : H[j3]? = some (.cells o3 z3 (X.flatMap intC))) (e4 : H[j4]? = some (.cells o4 z4 (Y.flatMap intC))) :
  KCall prog 120 [.pointer (some ⟨j5, 0, none⟩), nI i, nI k] H [] (Is (.int .i64 (laterV (rqAt l i) (rqAt l k))) H) := by
 have hv : Rlater (.int .i64 (laterV (rqAt l i) (rqAt l k))) f l X Y i k := by
  delta Rlater jfd jf1l jfj jf18 jfl jf19 jf11
  have h1 : Int.toNat i < l.length := by omega
  have h2 : Int.toNat k < l.length := by omega
  refine ⟨by omega, partQ h1 (by omega), by omega, partQ h2 (by omega), trivial, fun H' _ _ => kCmp _ _ H', trivial, fun H' _ _ => kCmp _ _ H', _, rfl, forkNe (fun h => iEq (first2_1 h).symm) (fun h => ⟨_, rfl, forkNe (fun g => iEq (first2_2 h).symm) (fun g => iEq ?_)⟩)⟩
  exact ((first2_2 h).trans g).symm
 have hp : ∀ (l : List Value), l.all (belowC 0) = true -> l.map (rn (sgR 0 [j0, j1, j2, j3, j4, j5]) 3) = l := fun l hl => (rnCl (d := 0) hl).1
 refine valRA (css := [inL f.t, f.b.flatMap intC, l.flatMap rqC, X.flatMap intC, Y.flatMap intC, wkC f l X Y]) (Eq.mpr (Elater _ f l X Y i k) hv) rfl [j0, j1, j2, j3, j4, j5] rfl ?_
 intro n cs h
 match n with
 | 0 => cases h; exact ⟨_, _, _, rfl, by rw [hp _ (inL_b 0 _)]; exact e0⟩
 | 1 => cases h; exact ⟨_, _, _, rfl, by rw [hp _ (plainIL 0 _)]; exact e1⟩
 | 2 => cases h; exact ⟨_, _, _, rfl, by rw [hp _ (plainRQ 0 _)]; exact e2⟩
 | 3 => cases h; exact ⟨_, _, _, rfl, by rw [hp _ (plainIL 0 _)]; exact e3⟩
 | 4 => cases h; exact ⟨_, _, _, rfl, by rw [hp _ (plainIL 0 _)]; exact e4⟩
 | 5 => cases h; exact ⟨_, _, _, rfl, e5⟩
 | n + 6 => cases h
end
end Go.Proofs.YthdekmpkioikdaaGreat
/- Request: the history of a policy, hour by hour, as plain functions. No condition. -/
namespace Go.Proofs.YthdekmpkioikdaaGreat
set_option linter.unusedSimpArgs false
set_option linter.unusedVariables false
open Go Go.K
noncomputable section
def ovN (l : List Rq) (h : List Sv) : Nat -> List Int
 | 0 => List.replicate l.length 0
 | k + 1 => tabP (fun i => (ovN l h k).getD i 0 + if (!((metH l.length h (k + 1)).getD i false) && befB (l.getD i zeroQ) (rqAt l (svAt h k).rq)) = true then 1 else 0) l.length
def classV (p : Pol) (r : Rq) (taken : Bool) (ov hour : Int) : Int :=
 if taken = true ∨ hour < r.at_ then 0 else if p.ov <= ov then 3 else if 0 < r.limit /\ r.at_ + r.limit - hour <= p.warn then 2 else 1
def aheadB (c : Int) (a b : Rq) : Bool :=
 if c = 2 /\ a.at_ + a.limit ≠ b.at_ + b.limit then decide (a.at_ + a.limit < b.at_ + b.limit) else
 if c = 1 /\ a.prio ≠ b.prio then decide (b.prio < a.prio) else befB a b
def clsAt (p : Pol) (l : List Rq) (h : List Sv) (hour : Int) (i : Nat) : Int :=
 classV p (l.getD i zeroQ) ((metH l.length h h.length).getD i false) ((ovN l h h.length).getD i 0) hour
def bestTo (p : Pol) (l : List Rq) (h : List Sv) (hour : Int) : Nat -> Int × Int
 | 0 => (-1, 0)
 | i + 1 =>
  let b := bestTo p l h hour i
  let c := clsAt p l h hour i
  if b.2 < c ∨ (0 < c /\ c = b.2 /\ aheadB c (l.getD i zeroQ) (rqAt l b.1) = true) then ((i : Int), c) else b
def byTo (f : Fleet) (l : List Rq) (h : List Sv) (hour place : Int) : Nat -> Int
 | 0 => -1
 | b + 1 =>
  let y := byTo f l h hour place b
  let q := (brH f l h h.length).getD b zeroB
  if hour < q.free then y else
  if y < 0 ∨ trav f q.at_ place < trav f ((brH f l h h.length).getD (Int.toNat y) zeroB).at_ place then (b : Int) else y
def bestAt (p : Pol) (l : List Rq) (h : List Sv) (hour : Int) : Int := (bestTo p l h hour l.length).1
def byAt (f : Fleet) (p : Pol) (l : List Rq) (h : List Sv) (hour : Int) : Int := byTo f l h hour (rqAt l (bestAt p l h hour)).place f.b.length
def mkSv (f : Fleet) (l : List Rq) (h : List Sv) (i b hour : Int) : Sv :=
 let bg := hour + trav f ((brH f l h h.length).getD (Int.toNat b) zeroB).at_ (rqAt l i).place
 ⟨i, b, hour, bg, bg + (rqAt l i).len⟩
def decAt (f : Fleet) (p : Pol) (l : List Rq) (h : List Sv) (hour : Int) : Option Sv :=
 if bestAt p l h hour < 0 ∨ byAt f p l h hour < 0 then none else some (mkSv f l h (bestAt p l h hour) (byAt f p l h hour) hour)
def playS (f : Fleet) (p : Pol) (l : List Rq) : Nat -> Int -> List Sv -> List Sv
 | 0, _, h => h
 | n + 1, hour, h => if l.length <= h.length then h else match decAt f p l h hour with
  | some s => playS f p l n hour (h ++ [s])
  | none => playS f p l n (hour + 1) h
def playF (f : Fleet) (p : Pol) (l : List Rq) : List Sv := playS f p l 40000 0 []
structure GoodH (f : Fleet) (l : List Rq) (h : List Sv) : Prop where
 rq : ∀ k, k < h.length -> 0 <= (svAt h k).rq /\ (svAt h k).rq < (l.length : Int)
 br : ∀ k, k < h.length -> 0 <= (svAt h k).br /\ (svAt h k).br < (f.b.length : Int)
 ne : ∀ k, k < h.length -> (h.take k).any (isRq (svAt h k).rq) = false
structure PlayI (f : Fleet) (p : Pol) (l : List Rq) (hour : Nat) (h : List Sv) : Prop where
 good : GoodH f l h
 len : h.length <= l.length
 now : h.length < l.length -> hour <= 10000 + 200 * h.length
 top : hour <= 10001 + 200 * l.length
 free : ∀ b, b < f.b.length -> 0 <= (frH f h h.length).getD b 0 /\ (frH f h h.length).getD b 0 <= 10000 + 200 * (h.length : Int)
 own : ∃ m, (l.length - h.length) + (10000 + 200 * l.length - hour) <= m /\ playS f p l m (hour : Int) h = playF f p l
def errAll (f : Fleet) (p : Pol) (l : List Rq) : Int := first2 (first2 (errFl f) (errPol p)) (errRq f.t.length l)
def fRun (f : Fleet) (p : Pol) (l : List Rq) : List Sv × Int := if errAll f p l = 0 then (playF f p l, 0) else ([], errAll f p l)
end
end Go.Proofs.YthdekmpkioikdaaGreat
/- Request: plain laws of the history of a policy. No condition. -/
namespace Go.Proofs.YthdekmpkioikdaaGreat
set_option linter.unusedSimpArgs false
open Go Go.K
set_option linter.unusedVariables false
noncomputable section
theorem classV_le (p : Pol) (r : Rq) (t : Bool) (o h : Int) : 0 <= classV p r t o h := by
 unfold classV
 split
 ·decide
 ·split
  ·decide
  ·split <;> decide
theorem classV_pos {p : Pol} {r : Rq} {t : Bool} {o h : Int} (h1 : t = false) (h2 : r.at_ <= h) : 0 < classV p r t o h := by
 unfold classV
 rw [if_neg (fun k => k.elim (fun c => by rw [h1] at c; cases c) (fun c => by omega))]
 split
 ·decide
 ·split <;> decide
theorem classV_free {p : Pol} {r : Rq} {t : Bool} {o h : Int} (h0 : 0 < classV p r t o h) : t = false /\ r.at_ <= h := by
 unfold classV at h0
 split at h0
 ·exact absurd h0 (by decide)
 ·rename_i k
  refine ⟨?_, ?_⟩
  ·cases t with
   | false => rfl
   | true => exact absurd (.inl rfl) k
  ·exact Int.not_lt.1 fun c => k (.inr c)
theorem best_spec (p : Pol) (l : List Rq) (h : List Sv) (hour : Int) : ∀ n : Nat,
  (bestTo p l h hour n = (-1, 0) /\ ∀ i, i < n -> clsAt p l h hour i = 0) ∨
  (0 <= (bestTo p l h hour n).1 /\ (bestTo p l h hour n).1 < (n : Int) /\ (bestTo p l h hour n).2 = clsAt p l h hour (Int.toNat (bestTo p l h hour n).1) /\ 0 < (bestTo p l h hour n).2 /\ ∀ i, i < n -> clsAt p l h hour i <= (bestTo p l h hour n).2)
 | 0 => .inl ⟨rfl, fun i h => absurd h (Nat.not_lt_zero _)⟩
 | n + 1 => by
  have ih := best_spec p l h hour n
  have hc := classV_le p (l.getD n zeroQ) ((metH l.length h h.length).getD n false) ((ovN l h h.length).getD n 0) hour
  have hc : 0 <= clsAt p l h hour n := hc
  obtain ⟨b, eb⟩ : ∃ b, bestTo p l h hour n = b := ⟨_, rfl⟩
  rw [eb] at ih
  have e : bestTo p l h hour (n + 1) = if b.2 < clsAt p l h hour n ∨ (0 < clsAt p l h hour n /\ clsAt p l h hour n = b.2 /\ aheadB (clsAt p l h hour n) (l.getD n zeroQ) (rqAt l b.1) = true) then ((n : Int), clsAt p l h hour n) else b := by rw [<- eb]; rfl
  rw [e]
  split
  ·rename_i k
   have hpos : 0 < clsAt p l h hour n := by
    rcases k with k | k
    ·rcases ih with ⟨i1, _⟩ | ⟨_, _, _, i4, _⟩
     ·rw [i1] at k; exact k
     ·omega
    ·exact k.1
   refine .inr ⟨by show 0 <= (n : Int); omega, by show (n : Int) < _; omega, rfl, hpos, fun i hi => ?_⟩
   show _ <= clsAt p l h hour n
   rcases Nat.lt_or_ge i n with q | q
   ·rcases ih with ⟨i1, i2⟩ | ⟨_, _, _, _, i5⟩
    ·rw [i2 i q]; omega
    ·have := i5 i q
     rcases k with k | k
     ·omega
     ·omega
   ·rw [show i = n by omega]; omega
  ·rename_i k
   rcases ih with ⟨i1, i2⟩ | ⟨i1, i2, i3, i4, i5⟩
   ·refine .inl ⟨i1, fun i hi => ?_⟩
    rcases Nat.lt_or_ge i n with q | q
    ·exact i2 i q
    ·rw [show i = n by omega]
     rw [i1] at k
     have : ¬ (0 : Int) < clsAt p l h hour n := fun c => k (.inl c)
     omega
   ·refine .inr ⟨i1, by omega, i3, i4, fun i hi => ?_⟩
    rcases Nat.lt_or_ge i n with q | q
    ·exact i5 i q
    ·rw [show i = n by omega]
     exact Int.not_lt.1 fun c => k (.inl c)
theorem by_spec (f : Fleet) (l : List Rq) (h : List Sv) (hour place : Int) : ∀ n : Nat,
  (byTo f l h hour place n = -1 /\ ∀ b, b < n -> hour < ((brH f l h h.length).getD b zeroB).free) ∨
  (0 <= byTo f l h hour place n /\ byTo f l h hour place n < (n : Int) /\ ((brH f l h h.length).getD (Int.toNat (byTo f l h hour place n)) zeroB).free <= hour)
 | 0 => .inl ⟨rfl, fun b h => absurd h (Nat.not_lt_zero _)⟩
 | n + 1 => by
  have ih := by_spec f l h hour place n
  obtain ⟨y, ey⟩ : ∃ y, byTo f l h hour place n = y := ⟨_, rfl⟩
  rw [ey] at ih
  have e : byTo f l h hour place (n + 1) = if hour < ((brH f l h h.length).getD n zeroB).free then y else if y < 0 ∨ trav f ((brH f l h h.length).getD n zeroB).at_ place < trav f ((brH f l h h.length).getD (Int.toNat y) zeroB).at_ place then (n : Int) else y := by rw [<- ey]; rfl
  rw [e]
  split
  ·rename_i k
   rcases ih with ⟨i1, i2⟩ | ⟨i1, i2, i3⟩
   ·refine .inl ⟨i1, fun b hb => ?_⟩
    rcases Nat.lt_or_ge b n with q | q
    ·exact i2 b q
    ·rw [show b = n by omega]; exact k
   ·exact .inr ⟨i1, by omega, i3⟩
  ·rename_i k
   split
   ·exact .inr ⟨by omega, by omega, by rw [Int.toNat_natCast]; omega⟩
   ·rename_i k2
    rcases ih with ⟨i1, i2⟩ | ⟨i1, i2, i3⟩
    ·exact absurd (.inl (by omega)) k2
    ·exact .inr ⟨i1, by omega, i3⟩
theorem crN_eq {p r : Nat -> Bool} {n : Nat} (h : ∀ i, i < n -> p i = r i) : crN p n = crN r n :=
 Nat.le_antisymm (crN_mono fun i hi e => by rw [<- h i hi]; exact e) (crN_mono fun i hi e => by rw [h i hi]; exact e)
theorem crN_one {p : Nat -> Bool} {i0 : Nat} (hp : p i0 = false) : ∀ {n : Nat}, crN (fun i => p i || decide (i = i0)) n = crN p n + (if i0 < n then 1 else 0)
 | 0 => rfl
 | n + 1 => by
  rw [crN_succ, crN_succ, crN_one hp]
  by_cases e : n = i0
  ·subst e
   rw [hp, if_neg (Nat.lt_irrefl _), if_pos (Nat.lt_succ_self _), decide_eq_true rfl]; rfl
  ·rw [decide_eq_false e, Bool.or_false]
   by_cases c : i0 < n
   ·rw [if_pos c, if_pos (show i0 < n + 1 by omega)]; omega
   ·rw [if_neg c, if_neg (show ¬ i0 < n + 1 by omega)]; omega
theorem crN_true : ∀ n : Nat, crN (fun _ => true) n = n
 | 0 => rfl
 | n + 1 => by rw [crN_succ, crN_true n]; rfl
theorem met_count {f : Fleet} {l : List Rq} {h : List Sv} (g : GoodH f l h) : ∀ k, k <= h.length -> crN (fun i => (h.take k).any (isRq (i : Int))) l.length = k
 | 0, _ => by
  have : ∀ n, crN (fun i : Nat => (h.take 0).any (isRq (i : Int))) n = 0 := by
   intro n
   induction n with
   | zero => rfl
   | succ n ih => rw [crN_succ, ih, List.take_zero]; rfl
  exact this _
 | k + 1, hk => by
  have r := g.rq k (by omega)
  have e := g.ne k (by omega)
  have ih := met_count g k (by omega)
  rw [crN_eq (r := fun i => (h.take k).any (isRq (i : Int)) || decide (i = Int.toNat (svAt h k).rq)) fun i hi => by
   rw [take_snoc (d := zeroV) (show k < h.length by omega), List.any_append, List.any_cons, List.any_nil, Bool.or_false]
   show (_ || decide ((svAt h k).rq = (i : Int))) = _
   congr 1
   by_cases c : i = Int.toNat (svAt h k).rq
   ·rw [decide_eq_true c, decide_eq_true (by omega)]
   ·rw [decide_eq_false c, decide_eq_false (by omega)]]
  rw [crN_one (by show (h.take k).any (isRq ((Int.toNat (svAt h k).rq : Nat) : Int)) = false; rw [Int.toNat_of_nonneg r.1]; exact e), ih, if_pos (by omega)]
theorem unmet {f : Fleet} {l : List Rq} {h : List Sv} (g : GoodH f l h) (hl : h.length < l.length) : ∃ i, i < l.length /\ h.any (isRq (i : Int)) = false := by
 have e := met_count g h.length (Nat.le_refl _)
 rw [List.take_length] at e
 rcases Classical.em (∃ i, i < l.length /\ h.any (isRq (i : Int)) = false) with k | k
 ·exact k
 ·have : crN (fun i : Nat => h.any (isRq (i : Int))) l.length = l.length := by
   rw [crN_eq (r := fun _ => true) fun i hi => by
    cases c : h.any (isRq (i : Int)) with
    | true => rfl
    | false => exact absurd ⟨i, hi, c⟩ k]
   exact crN_true _
  omega
theorem met_any {l : List Rq} {h : List Sv} {i : Nat} (hi : i < l.length) : (metH l.length h h.length).getD i false = h.any (isRq (i : Int)) := by
 unfold metH; rw [tabP_get hi, List.take_length]
theorem dec_some {f : Fleet} {p : Pol} {l : List Rq} {h : List Sv} {hour : Int} {s : Sv} (e : decAt f p l h hour = some s) :
  ∃ i b : Nat, i < l.length /\ b < f.b.length /\ s = mkSv f l h (i : Int) (b : Int) hour /\ bestAt p l h hour = (i : Int) /\ byAt f p l h hour = (b : Int) /\ h.any (isRq (i : Int)) = false /\ (l.getD i zeroQ).at_ <= hour /\ ((brH f l h h.length).getD b zeroB).free <= hour := by
 unfold decAt at e
 split at e
 ·cases e
 rename_i k
 have k1 : ¬ bestAt p l h hour < 0 := fun c => k (.inl c)
 have k2 : ¬ byAt f p l h hour < 0 := fun c => k (.inr c)
 cases e
 rcases best_spec p l h hour l.length with ⟨a1, _⟩ | ⟨a1, a2, a3, a4, _⟩
 ·exact absurd (by unfold bestAt; rw [a1]; decide) k1
 rcases by_spec f l h hour (rqAt l (bestAt p l h hour)).place f.b.length with ⟨b1, _⟩ | ⟨b1, b2, b3⟩
 ·exact absurd (by unfold byAt; rw [b1]; decide) k2
 have a1 : 0 <= bestAt p l h hour := a1
 have a2 : bestAt p l h hour < (l.length : Int) := a2
 have b1 : 0 <= byAt f p l h hour := b1
 have b2 : byAt f p l h hour < (f.b.length : Int) := b2
 have hi : Int.toNat (bestAt p l h hour) < l.length := by omega
 have c : 0 < clsAt p l h hour (Int.toNat (bestAt p l h hour)) := by rw [a3] at a4; exact a4
 have c := classV_free (show 0 < classV p _ _ _ _ from c)
 rw [met_any hi] at c
 refine ⟨Int.toNat (bestAt p l h hour), Int.toNat (byAt f p l h hour), hi, by omega, ?_, by omega, by omega, c.1, c.2, b3⟩
 rw [Int.toNat_of_nonneg a1, Int.toNat_of_nonneg b1]
theorem dec_none {f : Fleet} {p : Pol} {l : List Rq} {h : List Sv} {hour : Int} (e : decAt f p l h hour = none) :
  (∀ i, i < l.length -> h.any (isRq (i : Int)) = false -> hour < (l.getD i zeroQ).at_) ∨ (∀ b, b < f.b.length -> hour < ((brH f l h h.length).getD b zeroB).free) := by
 unfold decAt at e
 split at e
 ·rename_i k
  rcases k with k | k
  ·left
   intro i hi hm
   rcases best_spec p l h hour l.length with ⟨_, a2⟩ | ⟨a1, _⟩
   ·have := a2 i hi
    rcases Int.lt_or_le hour (l.getD i zeroQ).at_ with q | q
    ·exact q
    ·have c := classV_pos (p := p) (r := l.getD i zeroQ) (t := (metH l.length h h.length).getD i false) (o := (ovN l h h.length).getD i 0) (h := hour) (by rw [met_any hi]; exact hm) q
     have : clsAt p l h hour i = 0 := this
     unfold clsAt at this
     omega
   ·exact absurd k (by have a1 : 0 <= bestAt p l h hour := a1; omega)
  ·right
   rcases by_spec f l h hour (rqAt l (bestAt p l h hour)).place f.b.length with ⟨_, b2⟩ | ⟨b1, _⟩
   ·exact b2
   ·exact absurd k (by have b1 : 0 <= byAt f p l h hour := b1; omega)
 ·cases e
end
end Go.Proofs.YthdekmpkioikdaaGreat
/- Request: what holds while a policy's history is played. No condition. -/
namespace Go.Proofs.YthdekmpkioikdaaGreat
set_option linter.unusedSimpArgs false
open Go Go.K
set_option linter.unusedVariables false
noncomputable section
theorem svAt_l {h : List Sv} {s : Sv} {k : Nat} (hk : k < h.length) : svAt (h ++ [s]) k = svAt h k := by
 show (h ++ [s]).getD k zeroV = h.getD k zeroV
 rw [List.getD_eq_getElem?_getD, List.getElem?_append_left hk, <- List.getD_eq_getElem?_getD]
theorem svAt_r {h : List Sv} {s : Sv} : svAt (h ++ [s]) h.length = s := by
 show (h ++ [s]).getD h.length zeroV = s
 rw [List.getD_eq_getElem?_getD, List.getElem?_append_right (Nat.le_refl _), Nat.sub_self]; rfl
theorem frH_app (f : Fleet) (h : List Sv) (s : Sv) : ∀ k, k <= h.length -> frH f (h ++ [s]) k = frH f h k
 | 0, _ => rfl
 | k + 1, hk => by
  show (frH f (h ++ [s]) k).set _ _ = (frH f h k).set _ _
  rw [frH_app f h s k (by omega), svAt_l (by omega)]
theorem frH_snoc (f : Fleet) (h : List Sv) (s : Sv) : frH f (h ++ [s]) (h.length + 1) = (frH f h h.length).set (Int.toNat s.br) s.nd := by
 show (frH f (h ++ [s]) h.length).set _ _ = _
 rw [frH_app f h s _ (Nat.le_refl _), svAt_r]
theorem take_app {h : List Sv} {s : Sv} {k : Nat} (hk : k <= h.length) : (h ++ [s]).take k = h.take k := List.take_append_of_le_length hk
theorem good_snoc {f : Fleet} {l : List Rq} {h : List Sv} {s : Sv} (g : GoodH f l h) (h1 : 0 <= s.rq /\ s.rq < (l.length : Int)) (h2 : 0 <= s.br /\ s.br < (f.b.length : Int)) (h3 : h.any (isRq s.rq) = false) : GoodH f l (h ++ [s]) := by
 refine ⟨fun k hk => ?_, fun k hk => ?_, fun k hk => ?_⟩
 all_goals
  rw [List.length_append] at hk
  rcases Nat.lt_or_ge k h.length with q | q
  ·rw [svAt_l q]
   first
    | exact g.rq k q
    | exact g.br k q
    | (rw [take_app (by omega)]; exact g.ne k q)
  ·have e : k = h.length := by have : [s].length = 1 := rfl; omega
   subst e
   rw [svAt_r]
   first
    | exact h1
    | exact h2
    | (rw [take_app (Nat.le_refl _), List.take_length]; exact h3)
theorem playI_0 {f : Fleet} {p : Pol} {l : List Rq} (hl : l.length <= 30) : PlayI f p l 0 [] := by
 refine ⟨⟨fun k hk => absurd hk (Nat.not_lt_zero _), fun k hk => absurd hk (Nat.not_lt_zero _), fun k hk => absurd hk (Nat.not_lt_zero _)⟩, Nat.zero_le _, fun _ => Nat.zero_le _, Nat.zero_le _, fun b hb => ?_, 40000, ?_, rfl⟩
 ·show 0 <= (List.replicate _ (0 : Int)).getD b 0 /\ (List.replicate _ (0 : Int)).getD b 0 <= _
  rw [List.getD_eq_getElem?_getD, List.getElem?_replicate, if_pos hb]
  decide
 ·show (l.length - 0) + _ <= _
  omega
theorem playI_dec {f : Fleet} {p : Pol} {l : List Rq} {hour : Nat} {h : List Sv} {s : Sv} (o : FlOk f) (ol : LsOk f.t.length l) (i : PlayI f p l hour h) (hl : h.length < l.length) (e : decAt f p l h (hour : Int) = some s) : PlayI f p l hour (h ++ [s]) := by
 obtain ⟨a, b, ha, hb, es, _, _, hm, hat, hfr⟩ := dec_some e
 have hlen : (h ++ [s]).length = h.length + 1 := by rw [List.length_append]; rfl
 have hn := i.now hl
 have erq : s.rq = (a : Int) := by rw [es]; rfl
 have ebr : s.br = (b : Int) := by rw [es]; rfl
 have pin := plH_in o ol h h.length b hb
 have eB := brH_at (f := f) (l := l) (h := h) (k := h.length) hb
 have tv := trav_in o (b := (rqAt l (a : Int)).place) pin
 have q := (ol.ok a ha).len
 have end_ : s.nd = (hour : Int) + trav f ((plH f l h h.length).getD b 0) (rqAt l (a : Int)).place + (rqAt l (a : Int)).len := by
  rw [es]
  show (hour : Int) + trav f ((brH f l h h.length).getD (Int.toNat (b : Int)) zeroB).at_ _ + _ = _
  rw [Int.toNat_natCast, eB]
 have eq1 : rqAt l (a : Int) = l.getD a zeroQ := by unfold rqAt; rw [Int.toNat_natCast]
 rw [<- eq1] at q
 refine ⟨good_snoc i.good (by rw [erq]; omega) (by rw [ebr]; omega) (by rw [erq]; exact hm), by omega, fun _ => by omega, i.top, fun c hc => ?_, ?_⟩
 ·rw [hlen, frH_snoc, getD_setN (by rw [frH_len]; exact hc)]
  have := i.free c hc
  split <;> omega
 ·obtain ⟨m, hm1, hm2⟩ := i.own
  match m, hm1, hm2 with
  | 0, hm1, _ => omega
  | m + 1, hm1, hm2 =>
   refine ⟨m, by omega, ?_⟩
   rw [<- hm2]
   show _ = if l.length <= h.length then h else _
   rw [if_neg (by omega), e]
theorem playI_next {f : Fleet} {p : Pol} {l : List Rq} {hour : Nat} {h : List Sv} (o : FlOk f) (ol : LsOk f.t.length l) (i : PlayI f p l hour h) (e : h.length < l.length -> decAt f p l h (hour : Int) = none) (ht : h.length < l.length ∨ hour <= 10000 + 200 * l.length) : PlayI f p l (hour + 1) h := by
 have key : h.length < l.length -> hour + 1 <= 10000 + 200 * h.length := by
  intro hl
  have hn := i.now hl
  rcases dec_none (e hl) with k | k
  ·obtain ⟨a, ha, hm⟩ := unmet i.good hl
   have := k a ha hm
   have := (ol.ok a ha).at_
   omega
  ·have b1 := o.b1
   have := k 0 (by omega)
   rw [brH_at (by omega)] at this
   have h2 := i.free 0 (by omega)
   have this : (hour : Int) < (frH f h h.length).getD 0 0 := this
   omega
 have hlen := i.len
 refine ⟨i.good, i.len, key, ?_, i.free, ?_⟩
 ·rcases ht with c | c
  ·have := key c; omega
  ·omega
 ·obtain ⟨m, hm1, hm2⟩ := i.own
  by_cases hl : h.length < l.length
  ·match m, hm1, hm2 with
   | 0, hm1, _ => omega
   | m + 1, hm1, hm2 =>
    refine ⟨m, by have := key hl; omega, ?_⟩
    rw [<- hm2]
    show _ = if l.length <= h.length then h else _
    rw [if_neg (by omega), e hl]; rfl
  ·refine ⟨m, by omega, ?_⟩
   rw [<- hm2]
   match m with
   | 0 => rfl
   | m + 1 =>
    show (if l.length <= h.length then h else _) = if l.length <= h.length then h else _
    rw [if_pos (by omega), if_pos (by omega)]
end
end Go.Proofs.YthdekmpkioikdaaGreat
/- Request: steps of the searches while a policy's history is played. No condition. -/
namespace Go.Proofs.YthdekmpkioikdaaGreat
set_option linter.unusedSimpArgs false
open Go Go.K
set_option linter.unusedVariables false
noncomputable section
theorem best_1 {p : Pol} {l : List Rq} {h : List Sv} {hour : Int} {i : Nat} (k : (bestTo p l h hour i).2 < clsAt p l h hour i ∨ (0 < clsAt p l h hour i /\ clsAt p l h hour i = (bestTo p l h hour i).2 /\ aheadB (clsAt p l h hour i) (l.getD i zeroQ) (rqAt l (bestTo p l h hour i).1) = true)) : bestTo p l h hour (i + 1) = ((i : Int), clsAt p l h hour i) := if_pos k
theorem best_0 {p : Pol} {l : List Rq} {h : List Sv} {hour : Int} {i : Nat} (k : ¬ ((bestTo p l h hour i).2 < clsAt p l h hour i ∨ (0 < clsAt p l h hour i /\ clsAt p l h hour i = (bestTo p l h hour i).2 /\ aheadB (clsAt p l h hour i) (l.getD i zeroQ) (rqAt l (bestTo p l h hour i).1) = true))) : bestTo p l h hour (i + 1) = bestTo p l h hour i := if_neg k
theorem by_0 {f : Fleet} {l : List Rq} {h : List Sv} {hour place : Int} {b : Nat} (k : hour < ((brH f l h h.length).getD b zeroB).free) : byTo f l h hour place (b + 1) = byTo f l h hour place b := if_pos k
theorem by_1 {f : Fleet} {l : List Rq} {h : List Sv} {hour place : Int} {b : Nat} (k : ¬ hour < ((brH f l h h.length).getD b zeroB).free) (k2 : byTo f l h hour place b < 0 ∨ trav f ((brH f l h h.length).getD b zeroB).at_ place < trav f ((brH f l h h.length).getD (Int.toNat (byTo f l h hour place b)) zeroB).at_ place) : byTo f l h hour place (b + 1) = (b : Int) := (if_neg k).trans (if_pos k2)
theorem by_2 {f : Fleet} {l : List Rq} {h : List Sv} {hour place : Int} {b : Nat} (k : ¬ hour < ((brH f l h h.length).getD b zeroB).free) (k2 : ¬ (byTo f l h hour place b < 0 ∨ trav f ((brH f l h h.length).getD b zeroB).at_ place < trav f ((brH f l h h.length).getD (Int.toNat (byTo f l h hour place b)) zeroB).at_ place)) : byTo f l h hour place (b + 1) = byTo f l h hour place b := (if_neg k).trans (if_neg k2)
theorem plH_app (f : Fleet) (l : List Rq) (h : List Sv) (s : Sv) : ∀ k, k <= h.length -> plH f l (h ++ [s]) k = plH f l h k
 | 0, _ => rfl
 | k + 1, hk => by
  show (plH f l (h ++ [s]) k).set _ _ = (plH f l h k).set _ _
  rw [plH_app f l h s k (by omega), svAt_l (by omega)]
theorem ovN_len (l : List Rq) (h : List Sv) : ∀ k, (ovN l h k).length = l.length
 | 0 => List.length_replicate ..
 | k + 1 => tabP_len ..
theorem ovN_app (l : List Rq) (h : List Sv) (s : Sv) : ∀ k, k <= h.length -> ovN l (h ++ [s]) k = ovN l h k
 | 0, _ => rfl
 | k + 1, hk => by
  have e1 : metH l.length (h ++ [s]) (k + 1) = metH l.length h (k + 1) := by unfold metH; rw [take_app hk]
  show tabP _ _ = tabP _ _
  rw [ovN_app l h s k (by omega), e1, svAt_l (by omega)]
theorem ovN_new {l : List Rq} {h : List Sv} {s : Sv} {i : Nat} (hi : i < l.length) : (ovN l (h ++ [s]) (h.length + 1)).getD i 0 = (ovN l h h.length).getD i 0 + (if (!((metH l.length (h ++ [s]) (h.length + 1)).getD i false) && befB (l.getD i zeroQ) (rqAt l s.rq)) = true then 1 else 0) := by
 show (tabP _ _).getD i 0 = _
 rw [tabP_get hi, ovN_app l h s _ (Nat.le_refl _), svAt_r]
theorem ovN_in {l : List Rq} {h : List Sv} {i : Nat} (hi : i < l.length) : ∀ k : Nat, 0 <= (ovN l h k).getD i 0 /\ (ovN l h k).getD i 0 <= (k : Int)
 | 0 => by
  show 0 <= (List.replicate l.length (0 : Int)).getD i 0 /\ (List.replicate l.length (0 : Int)).getD i 0 <= _
  rw [List.getD_eq_getElem?_getD, List.getElem?_replicate, if_pos hi]
  decide
 | k + 1 => by
  have ih := ovN_in (h := h) hi k
  have e : (ovN l h (k + 1)).getD i 0 = (ovN l h k).getD i 0 + if (!((metH l.length h (k + 1)).getD i false) && befB (l.getD i zeroQ) (rqAt l (svAt h k).rq)) = true then 1 else 0 := tabP_get hi
  rw [e]
  split <;> omega
theorem set_self {l : List Int} {j : Nat} (h : j < l.length) : l.set j (l.getD j 0) = l := by
 refine list_ext 0 (by rw [List.length_set]) fun k hk => ?_
 rw [List.length_set] at hk
 rw [getD_setN hk]
 split
 ·rename_i e; rw [e]
 ·rfl
theorem sv_snoc (g : List Sv) (s : Sv) : List.take (g.length * 5) (List.drop 0 (g.flatMap svC)) ++ List.take (1 * 5) (List.drop 0 (svC s)) = (g ++ [s]).flatMap svC := by
 rw [List.drop_zero, List.drop_zero, List.take_of_length_le (by rw [flat_len svC_len]; exact Nat.le_refl _), List.take_of_length_le (by rw [svC_len]; exact Nat.le_refl _), List.flatMap_append]
 simp
end
end Go.Proofs.YthdekmpkioikdaaGreat
/- What is to be shown of functions. Printed by a program. No condition. -/
namespace Go.Proofs.YthdekmpkioikdaaGreat
set_option linter.unusedSimpArgs false
open Go Go.K
set_option maxRecDepth 100000
set_option maxHeartbeats 4000000
set_option linter.unusedVariables false
noncomputable section
abbrev jhb (f : Fleet) : Prop:=(someR (.cells false 0 (inL f.t))) /\ (someR (.cells false 0 (f.b.flatMap intC))) /\ True
abbrev jha (H' : Heap) (f : Fleet) : Prop:=H'[0]? = some (.cells false 0 (inL f.t) : KObj) /\ H'[1]? = some (.cells false 0 (f.b.flatMap intC) : KObj) /\ True
abbrev jh3 (f : Fleet) (l : List Rq) : Prop:=(someR (.cells false 0 (inL f.t))) /\ (someR (.cells false 0 (f.b.flatMap intC))) /\ (someR (.cells false 0 (l.flatMap rqC))) /\ True
abbrev jh1 (H' : Heap) (f : Fleet) (l : List Rq) : Prop:=H'[0]? = some (.cells false 0 (inL f.t) : KObj) /\ H'[1]? = some (.cells false 0 (f.b.flatMap intC) : KObj) /\ H'[2]? = some (.cells false 0 (l.flatMap rqC) : KObj) /\ True
abbrev jh2 (f : Fleet) (p : Pol) (l : List Rq) : List Value:=[.agg #[slQ 0 2 f.t.length,slQ 1 2 f.b.length],.agg #[nI p.ov,nI p.warn,nI p.w0,nI p.w1,nI p.w2],slQ 2 2 l.length]
abbrev jh7 (f : Fleet) (l : List Rq):=readsT 0 [inL f.t,f.b.flatMap intC,l.flatMap rqC]
abbrev jhf (f : Fleet) : List (Nat × KObj):=[(0,.cells false 0 (inL f.t)),(1,.cells false 0 (f.b.flatMap intC))]
abbrev jh4 (f : Fleet) (l : List Rq) : List (Nat × KObj):=[(0,.cells false 0 (inL f.t)),(1,.cells false 0 (f.b.flatMap intC)),(2,.cells false 0 (l.flatMap rqC))]
def RCheck (sp : Value) (f : Fleet) (p : Pol) (l : List Rq) : Prop :=
 ((jhb f) /\ (∀ H' : Heap,H'.length = 5 -> (jha H' f) -> KCall prog 75 [.agg #[slQ 0 2 f.t.length,slQ 1 2 f.b.length]] H' [] (Is (nI (errFl f)) H')) /\ ((True) /\ (∀ H' : Heap,H'.length = 5 -> (True) -> KCall prog 76 [.agg #[nI p.ov,nI p.warn,nI p.w0,nI p.w1,nI p.w2]] H' [] (Is (nI (errPol p)) H')) /\ ((jh3 f l) /\ (∀ H' : Heap,H'.length = 5 -> (jh1 H' f l) -> KCall prog 77 [.agg #[slQ 0 2 f.t.length,slQ 1 2 f.b.length],slQ 2 2 l.length] H' [] (Is (nI (errRq f.t.length l)) H')) /\ (((((errFl f) : Int) != 0) = true -> (nI (errFl f) : Value) = sp) /\ ((((errFl f) : Int) != 0) = false -> (((((errPol p) : Int) != 0) = true -> (nI (errPol p) : Value) = sp) /\ ((((errPol p) : Int) != 0) = false -> (((((errRq f.t.length l) : Int) != 0) = true -> (nI (errRq f.t.length l) : Value) = sp) /\ ((((errRq f.t.length l) : Int) != 0) = false -> (nI 0 : Value) = sp)))))))))
theorem ECheck (sp : Value) (f : Fleet) (p : Pol) (l : List Rq) : vF prog msk (dm 0) 100000 true 40 true 30 (jh2 f p l) (jh7 f l) (some [])
 (.go 6 (.ans (jhf f) (nI (errFl f)) [] (.ans [] (nI (errPol p)) [] (.ans (jh4 f l) (nI (errRq f.t.length l)) [] (.go 12 (.fork (.auto) (.go 8 (.fork (.auto) (.go 8 (.fork (.auto) (.auto)))))))))))
 (fun v _ _ => v = sp) = RCheck sp f p l:=by kernel_rfl
end
end Go.Proofs.YthdekmpkioikdaaGreat
/- Request: histories copied and compared; right fleets, policies and requests; a policy's history or the error. No condition. -/
namespace Go.Proofs.YthdekmpkioikdaaGreat
open Go Go.K
set_option maxRecDepth 100000
set_option linter.unusedVariables false
set_option linter.unusedSimpArgs false
noncomputable section
attribute [local irreducible] vF
theorem kCheck (f : Fleet) (p : Pol) (l : List Rq) (ht : f.t.length <= 4294967296) (hb : f.b.length <= 4294967296) (hs : shortI f.t) {H : Heap} {i0 i1 i2 : Nat} {o0 o1 o2 : Bool} {z0 z1 z2 : Nat} (e0 : H[i0]? = some (.cells o0 z0 (inL f.t))) (e1 : H[i1]? = some (.cells o1 z1 (f.b.flatMap intC))) (e2 : H[i2]? = some (.cells o2 z2 (l.flatMap rqC))) :
  KCall prog 30 [fleetV f i0 i1, .agg ⟨polC p⟩, .slice (some ⟨i2, 0, some 2⟩) l.length l.length] H [] (Is (.int .i64 (errAll f p l)) H) := by
 refine valRx (Eq.mpr (ECheck _ f p l) ?_) ⟨inL_b 0 _, plainIL 0 _, plainRQ 0 _, trivial⟩ rfl (ids := [i0, i1, i2]) ⟨⟨_, _, e0⟩, ⟨_, _, e1⟩, ⟨_, _, e2⟩, trivial⟩ rfl
 delta RCheck jhb jha jh3 jh1; unfold errAll
 refine ⟨⟨rfl, rfl, trivial⟩, fun H' _ hd => kFl f ht hb hs hd.1 hd.2.1, trivial, fun H' _ _ => kPol p H', ⟨rfl, rfl, rfl, trivial⟩, fun H' _ hd => kRq f l ht hd.1 hd.2.1 hd.2.2.1, forkNe (fun c => iEq ?_) (fun c => forkNe (fun d => iEq ?_) (fun d => forkNe (fun e => iEq ?_) (fun e => iEq ?_)))⟩
 ·rw [first2_1 c, first2_1 c]
 ·rw [first2_2 c, first2_1 d]
 ·rw [first2_2 c, first2_2 d]
 ·rw [first2_2 c, first2_2 d, e]
abbrev runV (i : Nat) (r : List Sv × Int) : Value := .tuple #[.slice (some ⟨i, 0, some 2⟩) r.1.length r.1.length, .int .i64 r.2]
theorem errAll_0 {f : Fleet} {p : Pol} {l : List Rq} (h : errAll f p l = 0) : errFl f = 0 /\ errPol p = 0 /\ errRq f.t.length l = 0 := by
 obtain ⟨h1, h2⟩ := first2_0 h
 obtain ⟨h3, h4⟩ := first2_0 h1
 exact ⟨h3, h4, h2⟩
end
end Go.Proofs.YthdekmpkioikdaaGreat
/- What is to be shown of functions. Printed by a program. No condition. -/
namespace Go.Proofs.YthdekmpkioikdaaGreat
set_option linter.unusedSimpArgs false
open Go Go.K
set_option maxRecDepth 100000
set_option maxHeartbeats 4000000
set_option linter.unusedVariables false
noncomputable section
def RPick (sp : Value) (x n : Int) : Prop :=
 (((decide ((n : Int) < 1)) = true -> (nI 0 : Value) = sp) /\ ((decide ((n : Int) < 1)) = false -> (((n : Int) ≠ 0) /\ (((decide (((Int.tmod x n) : Int) < 0)) = true -> ((nI (IntKind.wrap .i64 ((Int.tmod x n) + n)) : Value) = nI ((Int.tmod x n) + n) /\ (nI ((Int.tmod x n) + n) : Value) = sp)) /\ ((decide (((Int.tmod x n) : Int) < 0)) = false -> (nI (Int.tmod x n) : Value) = sp)))))
theorem EPick (sp : Value) (x n : Int) : vF prog msk (dm 0) 100000 true 40 true 21 [nI x,nI n] ⟨0,.leaf⟩ (some [])
 (.go 2 (.fork (.auto) (.go 1 (.need (.go 2 (.fork (.go 2 (.slot 15 (nI ((Int.tmod x n) + n)) (.auto))) (.auto)))))))
 (fun v _ _ => v = sp) = RPick sp x n:=by kernel_rfl
end
end Go.Proofs.YthdekmpkioikdaaGreat
/- Closed calls: blocks that are read,by their addresses. No condition. -/
namespace Go.Proofs.YthdekmpkioikdaaGreat
set_option linter.unusedSimpArgs false
set_option linter.unusedVariables false
open Go Go.K
noncomputable section
abbrev sL (i n c : Nat) : Value:=.slice (some ⟨i,0,none⟩) n c
def InsA (H : Heap) (σ : Nat -> Option Nat) : List Nat -> List (List Value) -> Prop
 | [],[] => True
 | i :: is,c :: cs => (∃ own z,H[i]? = some (KObj.cells own z (c.map (rn σ 3)))) /\ InsA H σ is cs
 | _,_ => False
theorem InsA.len {H : Heap} {σ : Nat -> Option Nat} : ∀ {ids : List Nat} {css : List (List Value)},InsA H σ ids css -> ids.length = css.length
 | [],[],_ => rfl
 | i :: is,c :: cs,h => by rw [List.length_cons,List.length_cons,h.2.len]
theorem InsA.get {H : Heap} {σ : Nat -> Option Nat} : ∀ {ids : List Nat} {css : List (List Value)},InsA H σ ids css -> ∀ (k : Nat) (cs : List Value),css[k]? = some cs -> ∃ id own z,ids[k]? = some id /\ H[id]? = some (KObj.cells own z (cs.map (rn σ 3)))
 | [],[],_,k,d,e => by cases e
 | i :: is,c :: cs,h,0,d,e => by cases e; obtain ⟨own,z,h1⟩:=h.1; exact ⟨i,own,z,rfl,h1⟩
 | i :: is,c :: cs,h,k + 1,d,e => h.2.get k d e
abbrev jz0 : List Value:=[nI 1,nI 0,nI 1,nI 1,nI 10,nI 1,nI 0,nI 2,nI 1,nI 0,nI 0,nI 5,nI 1,nI 0,nI 3,nI 2,nI 0,nI 0,nI 5,nI 3,nI 0]
abbrev jz1 : List Value:=[.agg #[nI 1,nI 0,nI 1,nI 1,nI 1],.agg #[sL 0 2 2,sL 1 1 1],sL 2 3 3,sL 3 1 1]
abbrev jz2 : KObj:=.cells false 0 [nI 0,nI 4]
abbrev jz3 : KObj:=.cells false 0 [nI 4,nI 0]
abbrev jz4 : KObj:=.cells false 0 [nI 0]
abbrev jz5 : KObj:=.cells false 0 [sL 3 2 2,sL 4 2 2]
abbrev jz6 : KObj:=.cells false 0 jz0
abbrev jz7 : List Value:=[.agg #[nI 1,nI 0,nI 1,nI 1,nI 1],.agg #[sL 0 2 2,sL 1 1 1],sL 2 3 3,sL 3 1 1,nI 32]
abbrev jz8 : Hint:=.go 6 (.into (some [7,8]) (.go 64 (.into (some (List.range' 7 8)) (.go 89 (.into (some (List.range' 7 10)) (.go 89 (.into (some (List.range' 7 12)) (.go 74 (.into (some (List.range' 7 14)) (.go 3 (.into (some (List.range' 7 14)) (.go 11 (.into (some (List.range' 7 14)) (.go 437 (.into (some (List.range' 7 20)) (.go 79 (.into (some (List.range' 7 26)) (.go 28 (.into (some (List.range' 7 26)) (.go 11 (.into (some (List.range' 7 26)) (.auto))))))))))))))))))))))
abbrev jz9 : Hint:=.go 6 (.into (some [7,8]) (.go 64 (.into (some (List.range' 7 8)) (.go 89 (.into (some (List.range' 7 10)) (.go 74 (.into (some (List.range' 7 12)) (.go 3 (.into (some (List.range' 7 12)) (.go 11 (.into (some (List.range' 7 12)) (.go 366 (.into (some (List.range' 7 18)) (.go 55 (.into (some (List.range' 7 22)) (.go 28 (.into (some (List.range' 7 22)) (.go 11 (.into (some (List.range' 7 22)) (.auto))))))))))))))))))))
abbrev jza : List Value:=[.bool false,.bool false,.bool true,.bool true,.bool false,.bool false,.bool true,.bool false,.bool true,.bool false,.bool false,.bool true,.bool false,.bool true]
abbrev jzb : KObj:=.cells false 0 [sL 4 2 2,sL 5 2 2]
abbrev jzc : Nat × KObj:=(0,.cells false 0 [sL 3 2 2,sL 4 2 2])
abbrev jzd : Nat × KObj:=(1,.cells false 0 [nI 0])
abbrev jze : Nat × KObj:=(2,.cells false 0 jz0)
abbrev jzf : Nat × KObj:=(3,.cells false 0 [nI 0,nI 4])
abbrev jzg : Nat × KObj:=(4,.cells false 0 [nI 4,nI 0])
abbrev jzh : Hint:=.go 6 (.into (some [7,8]) (.go 64 (.into (some (List.range' 7 8)) (.go 74 (.into (some (List.range' 7 10)) (.go 3 (.into (some (List.range' 7 10)) (.go 11 (.into (some (List.range' 7 10)) (.go 275 (.into (some (List.range' 7 16)) (.go 31 (.into (some (List.range' 7 18)) (.go 28 (.into (some (List.range' 7 18)) (.go 11 (.into (some (List.range' 7 18)) (.auto))))))))))))))))))
abbrev jzi : Nat × KObj:=(0,.cells false 0 [sL 4 2 2,sL 5 2 2])
abbrev jzj : List Value:=[.agg #[sL 0 2 2,sL 1 1 1],.agg #[nI 1,nI 0,nI 1,nI 1,nI 1],sL 2 3 3]
abbrev jzk:=readsT 0 [[sL 3 2 2,sL 4 2 2],[nI 0],jz0,[nI 0,nI 4],[nI 4,nI 0]]
abbrev jzl : Nat × KObj:=(4,.cells false 0 [nI 0,nI 4])
abbrev jzm : Nat × KObj:=(5,.cells false 0 [nI 4,nI 0])
abbrev jzn : List Value:=[nI 0,nI 0,nI 0,nI 4,nI 14,nI 2,nI 0,nI 14,nI 18,nI 23,nI 1,nI 0,nI 23,nI 23,nI 28]
abbrev jzo : Hint:=.go 41 (.into (some [7,8]) (.go 64 (.into (some (List.range' 7 8)) (.go 89 (.into (some (List.range' 7 10)) (.go 89 (.into (some (List.range' 7 12)) (.go 74 (.into (some (List.range' 7 14)) (.go 3 (.into (some (List.range' 7 14)) (.go 11 (.into (some (List.range' 7 14)) (.go 94 (.into (some (List.range' 7 14)) (.go 3 (.into (some (List.range' 7 15)) (.go 79 (.into (some (List.range' 7 21)) (.go 28 (.into (some (List.range' 7 21)) (.go 11 (.into (some (List.range' 7 21)) (.auto))))))))))))))))))))))))
abbrev jzp : Value:=.tuple #[nI 42,.bool false]
abbrev jzq : List Value:=[nI 1,nI 0,nI 2]
abbrev jzr (H' : Heap) : Prop:=H'[0]? = some jz5 /\ H'[1]? = some jz4 /\ H'[2]? = some jz6 /\ H'[3]? = some jz2 /\ H'[4]? = some jz3 /\ True
abbrev jz1q : KObj:=.cells true 1 [nI 0,nI 4]
abbrev jz1r : KObj:=.cells true 1 [nI 4,nI 0]
abbrev jzs : Prop:=(someR jz1q) /\ (someR jz1r) /\ True
abbrev jzt : KObj:=.cells false 0 [sL 6 2 2]
abbrev jzu : Prop:=(someR jz5) /\ (someR jz4) /\ (someR jz6) /\ (someR jz2) /\ (someR jz3) /\ True
abbrev jzv : KObj:=.cells true 1 [nI 0]
abbrev jzw : KObj:=.cells true 1 jzq
abbrev jzx : List Value:=[nI 1,nI 2,nI 0]
abbrev jzy : List Value:=[nI 2,nI 0,nI 1]
abbrev jzz : List Value:=[nI 2,nI 1,nI 0]
abbrev jz10 : List Value:=[.agg #[nI 1,nI 0,nI 1,nI 1,nI 1],.agg #[sL 0 2 2,sL 1 1 1],sL 2 3 3]
abbrev jz11 : List Value:=jz1
abbrev jz12 : KObj:=.cells false 0 [sL 6 3 3]
abbrev jz13 : List Value:=[.slice none 0 0]
abbrev jz14 : List Value:=jz7
abbrev jz15 : List (Bool × KObj):=[(false,.cells true 1 [sL 6 3 3]),(false,.cells true 1 jzq)]
abbrev jz2y : KObj:=.cells true 1 [nI 0,nI 1]
abbrev jz16 : Prop:=(someR jz2) /\ (someR jz3) /\ (someR jz2y) /\ True
abbrev jz2z : KObj:=.cells true 1 [nI 0,nI 2]
abbrev jz17 : Prop:=(someR jz2) /\ (someR jz3) /\ (someR jz2z) /\ True
abbrev jz18 : KObj:=.cells true 7 jz0
abbrev jz19 : KObj:=.cells false 0 [sL 6 1 1]
abbrev jz1a : Prop:=(someR jz2) /\ (someR jz3) /\ (someR (.cells true 1 jzx : KObj)) /\ True
abbrev jz1b : Prop:=(someR jz2) /\ (someR jz3) /\ (someR (.cells true 1 jzy : KObj)) /\ True
abbrev jz1c : Prop:=(someR jz2) /\ (someR jz3) /\ (someR (.cells true 1 jzz : KObj)) /\ True
abbrev jz1d : Value:=.tuple #[nI 29,.bool false]
abbrev jz1e : Value:=.tuple #[nI 10,.bool false]
abbrev jz1f : Value:=.tuple #[nI 28,.bool false]
abbrev jz1g : Value:=.tuple #[nI 32,.bool false]
abbrev jz1h : Value:=.tuple #[nI 15,.bool false]
abbrev jz1i : Value:=.tuple #[nI 19,.bool false]
abbrev jz1j : Value:=.tuple #[nI 13,.bool false]
abbrev jz1k : Value:=.tuple #[nI 31,.bool false]
abbrev jz1l : Value:=.tuple #[nI 35,.bool false]
abbrev jz1m : Value:=.tuple #[nI 18,.bool false]
abbrev jz1n : Value:=.tuple #[nI 22,.bool false]
abbrev jz1o : Nat × KObj:=(3,.cells false 0 [sL 6 2 2])
abbrev jz1p : Value:=.tuple #[nI 0,.bool false]
abbrev jz1s : Prop:=(someR jz5) /\ (someR jz4) /\ (someR jz6) /\ (someR (.cells true 1 jz13 : KObj)) /\ (someR jz2) /\ (someR jz3) /\ True
abbrev jz1t : Value:=.bool false
abbrev jz1u:=some (List.range' 6 14)
abbrev jz1v (H' : Heap):=Is (.bool true) H'
abbrev jz1w : Value:=.tuple #[nI 42,.bool false]
abbrev jz1x:=readsT 0 [[sL 4 2 2,sL 5 2 2],[nI 0],jz0,[sL 6 2 2],[nI 0,nI 4],[nI 4,nI 0],[nI 0,nI 1]]
abbrev jz1y:=readsT 0 [[sL 4 2 2,sL 5 2 2],[nI 0],jz0,[sL 6 2 2],[nI 0,nI 4],[nI 4,nI 0],[nI 0,nI 2]]
abbrev jz1z:=readsT 0 [[sL 4 2 2,sL 5 2 2],[nI 0],jz0,[sL 6 2 2],[nI 0,nI 4],[nI 4,nI 0],[nI 1,nI 0]]
abbrev jz20:=readsT 0 [[sL 4 2 2,sL 5 2 2],[nI 0],jz0,[sL 6 2 2],[nI 0,nI 4],[nI 4,nI 0],[nI 1,nI 2]]
abbrev jz21:=readsT 0 [[sL 4 2 2,sL 5 2 2],[nI 0],jz0,[sL 6 2 2],[nI 0,nI 4],[nI 4,nI 0],[nI 2,nI 0]]
abbrev jz22:=readsT 0 [[sL 4 2 2,sL 5 2 2],[nI 0],jz0,[sL 6 2 2],[nI 0,nI 4],[nI 4,nI 0],[nI 2,nI 1]]
abbrev jz23 : Value:=.bool true
abbrev jz24 : Prop:=(someR jz2) /\ (someR jz3) /\ (someR jzw) /\ True
abbrev jz25 : KObj:=.cells true 1 [nI 1,nI 0]
abbrev jz26 : KObj:=.cells true 1 [nI 1,nI 2]
abbrev jz27 : KObj:=.cells true 1 [nI 2,nI 0]
abbrev jz28 : KObj:=.cells true 1 [nI 2,nI 1]
abbrev jz29 : List Value:=[.agg #[sL 0 2 2,sL 1 1 1],.agg #[nI 1,nI 0,nI 1,nI 1,nI 1],sL 2 3 3,nI 32,sL 3 14 14]
abbrev jz2a:=readsT 0 [[sL 4 2 2,sL 5 2 2],[nI 0],jz0,[sL 6 1 1],[nI 0,nI 4],[nI 4,nI 0],[nI 0]]
abbrev jz2b:=readsT 0 [[sL 4 2 2,sL 5 2 2],[nI 0],jz0,[sL 6 1 1],[nI 0,nI 4],[nI 4,nI 0],[nI 1]]
abbrev jz2c:=readsT 0 [[sL 4 2 2,sL 5 2 2],[nI 0],jz0,[sL 6 1 1],[nI 0,nI 4],[nI 4,nI 0],[nI 2]]
abbrev jz2d:=some (List.range' 5 100)
abbrev jz2e : KObj:=.cells true 1 jza
abbrev jz2f:=readsT 0 [[sL 4 2 2,sL 5 2 2],[nI 0],jz0,[sL 6 3 3],[nI 0,nI 4],[nI 4,nI 0],jzq]
abbrev jz2g:=readsT 0 [[sL 4 2 2,sL 5 2 2],[nI 0],jz0,[sL 6 3 3],[nI 0,nI 4],[nI 4,nI 0],jzx]
abbrev jz2h:=readsT 0 [[sL 4 2 2,sL 5 2 2],[nI 0],jz0,[sL 6 3 3],[nI 0,nI 4],[nI 4,nI 0],jzy]
abbrev jz2i:=readsT 0 [[sL 4 2 2,sL 5 2 2],[nI 0],jz0,[sL 6 3 3],[nI 0,nI 4],[nI 4,nI 0],jzz]
abbrev jz2j : List Value:=[.agg #[sL 0 2 2,sL 1 1 1],.agg #[nI 1,nI 0,nI 1,nI 1,nI 1],sL 2 3 3,nI 32]
abbrev jz2k : Nat × KObj:=(3,.cells false 0 [sL 6 3 3])
abbrev jz2l:=readsT 0 [[sL 4 2 2,sL 5 2 2],[nI 0],jz0,jz13,[nI 0,nI 4],[nI 4,nI 0]]
abbrev jz2m : KObj:=.cells true 1 [nI 1]
abbrev jz2n : KObj:=.cells true 1 [nI 2]
abbrev jz2o : Value:=.tuple #[.bool true,nI 0]
abbrev jz2p : List Value:=[nI 0,nI 1,nI 2]
abbrev jz2q : List Value:=[nI 0,nI 2,nI 1]
abbrev jz2r (H' : Heap):=Is (.bool false) H'
abbrev jz2s:=some (List.range' 5 163)
abbrev jz2t:=some (List.range' 5 213)
abbrev jz2u:=some (List.range' 5 285)
abbrev jz2v : Prop:=(someR jzv) /\ (someR jz18) /\ jzs
abbrev jz2w:=some (List.range' 5 50)
abbrev jz2x:=some (List.range' 5 57)
abbrev jz30 : KObj:=.cells true 1 [sL 146 3 3]
abbrev jz31 : Value:=.tuple #[nI 60,nI 0]
abbrev jz32 : List Value:=[.agg #[sL 0 2 2,sL 1 1 1],.agg #[nI 2,nI 12,nI 10]]
abbrev jz33 : Nat × KObj:=(3,.cells false 0 [sL 6 1 1])
abbrev jz34:=some [5,6,7,8,9,10,11]
abbrev jz35 : Prop:=(someR jz2) /\ (someR jz3) /\ (someR jz2m) /\ True
abbrev jz36 : Prop:=(someR jz2) /\ (someR jz3) /\ (someR jz25) /\ True
abbrev jz37 : Prop:=(someR jz2) /\ (someR jz3) /\ (someR jz26) /\ True
abbrev jz38 : Prop:=(someR jz2) /\ (someR jz3) /\ (someR jz2n) /\ True
abbrev jz39 : Prop:=(someR jz2) /\ (someR jz3) /\ (someR jz27) /\ True
abbrev jz3a : Prop:=(someR jz2) /\ (someR jz3) /\ (someR jz28) /\ True
abbrev jz3b : Prop:=(someR jz2) /\ (someR jz3) /\ (someR jzv) /\ True
end
end Go.Proofs.YthdekmpkioikdaaGreat
/- Closed calls of the chapter's examples. Printed by a program. No condition. -/
namespace Go.Proofs.YthdekmpkioikdaaGreat
set_option linter.unusedSimpArgs false
open Go Go.K
set_option maxRecDepth 1000000
set_option maxHeartbeats 4000000
set_option linter.unusedVariables false
noncomputable section
attribute [local irreducible] vF
def R30_k (sp : Value) : Prop :=
 (nI 0 : Value) = sp
theorem E30_k (sp : Value) : vF prog msk (dm 0) 100000 true 40 true 30 jzj jzk (some [])
 (.auto)
 (fun v _ _ => v = sp) = R30_k sp:=by kernel_rfl
theorem P30_k : R30_k (nI 0):=rfl
theorem C30_k {H : Heap} (ids : List Nat) (h : InsA H (sgR 0 ids) ids [[sL 3 2 2,sL 4 2 2],[nI 0],jz0,[nI 0,nI 4],[nI 4,nI 0]]) : KCall prog 30 ((jzj : List Value).map (rn (sgR 0 ids) 3)) H [] (Is (nI 0) H) :=
 valRA (css:=[[sL 3 2 2,sL 4 2 2],[nI 0],jz0,[nI 0,nI 4],[nI 4,nI 0]]) (Eq.mpr (E30_k _) P30_k) rfl ids h.len h.get
def R39_l (sp : Value) : Prop :=
 (.tuple #[nI 60,nI 0] : Value) = sp
theorem E39_l (sp : Value) : vF prog msk (dm 0) 100000 true 40 true 39 jz32 (readsT 0 [[sL 2 2 2,sL 3 2 2],[nI 0],[nI 0,nI 4],[nI 4,nI 0]]) (some [])
 (.auto)
 (fun v _ _ => v = sp) = R39_l sp:=by kernel_rfl
theorem P39_l : R39_l jz31:=rfl
theorem C39_l {H : Heap} (ids : List Nat) (h : InsA H (sgR 0 ids) ids [[sL 2 2 2,sL 3 2 2],[nI 0],[nI 0,nI 4],[nI 4,nI 0]]) : KCall prog 39 ((jz32 : List Value).map (rn (sgR 0 ids) 3)) H [] (Is jz31 H) :=
 valRA (css:=[[sL 2 2 2,sL 3 2 2],[nI 0],[nI 0,nI 4],[nI 4,nI 0]]) (Eq.mpr (E39_l _) P39_l) rfl ids h.len h.get
end
end Go.Proofs.YthdekmpkioikdaaGreat
/- Closed calls of the chapter's examples. Printed by a program. No condition. -/
namespace Go.Proofs.YthdekmpkioikdaaGreat
set_option linter.unusedSimpArgs false
open Go Go.K
set_option maxRecDepth 1000000
set_option maxHeartbeats 4000000
set_option linter.unusedVariables false
noncomputable section
attribute [local irreducible] vF
def R29_j : Prop :=
 (jzu /\ (∀ H' : Heap,H'.length = 7 -> (jzr H') -> KCall prog 30 jzj H' [] (Is (nI 0) H')) /\ (true = true /\ wk (.tuple #[sL 98 3 3,nI 0] : Value) (rn (sg 5 [(5,98)]) 3 (.tuple #[sL 5 3 3,nI 0] : Value)) /\ (wkO (.cells true 5 jzn : KObj) (rno (sg 5 [(5,98)]) 3 (.cells true 5 jzn : KObj)) /\ True)))
theorem E29_j : vF prog msk (dm 0) 100000 true 40 true 29 jzj jzk (some [])
 (.go 6 (.ans [jzc,jzd,jze,jzf,jzg] (nI 0) [] (.go 29 (.into jz34 (.go 360 (.into (some (List.range' 5 19)) (.go 150 (.into (some (List.range' 5 29)) (.go 80 (.into (some (List.range' 5 32)) (.go 84 (.into (some (List.range' 5 35)) (.go 70 (.into (some (List.range' 5 38)) (.go 18 (.into (some ([43] ++ List.range' 5 38)) (.go 19 (.into (some (List.range' 5 39)) (.go 67 (.into (some (List.range' 5 44)) (.go 542 (.into (some (List.range' 5 47)) (.go 109 (.into jz2x (.go 114 (.into (some (List.range' 5 60)) (.go 122 (.into (some (List.range' 5 63)) (.go 267 (.into (some (List.range' 5 66)) (.go 18 (.into (some ([71] ++ List.range' 5 66)) (.go 19 (.into (some (List.range' 5 67)) (.go 67 (.into (some (List.range' 5 72)) (.go 255 (.into (some (List.range' 5 75)) (.go 84 (.into (some (List.range' 5 85)) (.go 77 (.into (some (List.range' 5 88)) (.go 18 (.into (some ([93] ++ List.range' 5 88)) (.go 19 (.into (some (List.range' 5 89)) (.go 67 (.into (some (List.range' 5 94)) (.go 59 (.again [(5,98)]))))))))))))))))))))))))))))))))))))))))))))))))))
 (newK jzk.n 3 (.tuple #[sL 5 3 3,nI 0]) [(false,.cells true 5 jzn)]) = R29_j:=by kernel_rfl
theorem P29_j : R29_j:=⟨⟨rfl,rfl,rfl,rfl,rfl,trivial⟩,fun H' _ h => C30_k [0,1,2,3,4] ⟨⟨_,_,h.1⟩,⟨_,_,h.2.1⟩,⟨_,_,h.2.2.1⟩,⟨_,_,h.2.2.2.1⟩,⟨_,_,h.2.2.2.2.1⟩,trivial⟩,⟨rfl,wk_of_eq rfl,wkO_of_eq rfl,trivial⟩⟩
theorem C29_j {H : Heap} (ids : List Nat) (h : InsA H (sgR 0 ids) ids [[sL 3 2 2,sL 4 2 2],[nI 0],jz0,[nI 0,nI 4],[nI 4,nI 0]]) : KCall prog 29 ((jzj : List Value).map (rn (sgR 0 ids) 3)) H [] (Is (rn (sgUp 5 H.length) 3 (.tuple #[sL 5 3 3,nI 0])) (H ++ [rno (sgUp 5 H.length) 3 (.cells true 5 jzn)])) :=
 valNA (css:=[[sL 3 2 2,sL 4 2 2],[nI 0],jz0,[nI 0,nI 4],[nI 4,nI 0]]) (v:=.tuple #[sL 5 3 3,nI 0]) (new:=[(false,.cells true 5 jzn)]) (Eq.mpr E29_j P29_j) rfl rfl rfl rfl ids h.len h.get
end
end Go.Proofs.YthdekmpkioikdaaGreat
/- Closed calls of the chapter's examples. Printed by a program. No condition. -/
namespace Go.Proofs.YthdekmpkioikdaaGreat
set_option linter.unusedSimpArgs false
open Go Go.K
set_option maxRecDepth 1000000
set_option maxHeartbeats 4000000
set_option linter.unusedVariables false
noncomputable section
attribute [local irreducible] vF
def R109_0 (sp : Value) : Prop :=
 (.tuple #[nI 0,.bool false] : Value) = sp
theorem E109_0 (sp : Value) : vF prog msk (dm 0) 100000 true 40 true 109 jz1 jz2l (some [])
 (.go 6 (.into (some [6,7]) (.go 49 (.into (some (List.range' 6 8)) (.go 3 (.into (some (List.range' 6 8)) (.go 11 (.into (some (List.range' 6 8)) (.go 200 (.into jz1u (.go 7 (.into jz1u (.go 28 (.into jz1u (.go 11 (.into jz1u (.auto)))))))))))))))))
 (fun v _ _ => v = sp) = R109_0 sp:=by kernel_rfl
theorem P109_0 : R109_0 jz1p:=rfl
theorem C109_0 {H : Heap} (ids : List Nat) (h : InsA H (sgR 0 ids) ids [[sL 4 2 2,sL 5 2 2],[nI 0],jz0,jz13,[nI 0,nI 4],[nI 4,nI 0]]) : KCall prog 109 (jz11.map (rn (sgR 0 ids) 3)) H [] (Is jz1p H) :=
 valRA (css:=[[sL 4 2 2,sL 5 2 2],[nI 0],jz0,jz13,[nI 0,nI 4],[nI 4,nI 0]]) (Eq.mpr (E109_0 _) P109_0) rfl ids h.len h.get
def R109_6 (sp : Value) : Prop :=
 (.tuple #[nI 29,.bool false] : Value) = sp
theorem E109_6 (sp : Value) : vF prog msk (dm 0) 100000 true 40 true 109 jz1 jz2a (some [])
 jzh
 (fun v _ _ => v = sp) = R109_6 sp:=by kernel_rfl
theorem P109_6 : R109_6 jz1d:=rfl
theorem C109_6 {H : Heap} (ids : List Nat) (h : InsA H (sgR 0 ids) ids [[sL 4 2 2,sL 5 2 2],[nI 0],jz0,[sL 6 1 1],[nI 0,nI 4],[nI 4,nI 0],[nI 0]]) : KCall prog 109 (jz11.map (rn (sgR 0 ids) 3)) H [] (Is jz1d H) :=
 valRA (css:=[[sL 4 2 2,sL 5 2 2],[nI 0],jz0,[sL 6 1 1],[nI 0,nI 4],[nI 4,nI 0],[nI 0]]) (Eq.mpr (E109_6 _) P109_6) rfl ids h.len h.get
def R109_3 (sp : Value) : Prop :=
 jz1w = sp
theorem E109_3 (sp : Value) : vF prog msk (dm 0) 100000 true 40 true 109 jz1 jz1x (some [])
 jz9
 (fun v _ _ => v = sp) = R109_3 sp:=by kernel_rfl
theorem P109_3 : R109_3 jzp:=rfl
theorem C109_3 {H : Heap} (ids : List Nat) (h : InsA H (sgR 0 ids) ids [[sL 4 2 2,sL 5 2 2],[nI 0],jz0,[sL 6 2 2],[nI 0,nI 4],[nI 4,nI 0],[nI 0,nI 1]]) : KCall prog 109 (jz11.map (rn (sgR 0 ids) 3)) H [] (Is jzp H) :=
 valRA (css:=[[sL 4 2 2,sL 5 2 2],[nI 0],jz0,[sL 6 2 2],[nI 0,nI 4],[nI 4,nI 0],[nI 0,nI 1]]) (Eq.mpr (E109_3 _) P109_3) rfl ids h.len h.get
def R109_9 (sp : Value) : Prop :=
 jz1w = sp
theorem E109_9 (sp : Value) : vF prog msk (dm 0) 100000 true 40 true 109 jz1 (readsT 0 [[sL 4 2 2,sL 5 2 2],[nI 0],jz0,[sL 6 3 3],[nI 0,nI 4],[nI 4,nI 0],jz2p]) (some [])
 jz8
 (fun v _ _ => v = sp) = R109_9 sp:=by kernel_rfl
theorem P109_9 : R109_9 jzp:=rfl
theorem C109_9 {H : Heap} (ids : List Nat) (h : InsA H (sgR 0 ids) ids [[sL 4 2 2,sL 5 2 2],[nI 0],jz0,[sL 6 3 3],[nI 0,nI 4],[nI 4,nI 0],jz2p]) : KCall prog 109 (jz11.map (rn (sgR 0 ids) 3)) H [] (Is jzp H) :=
 valRA (css:=[[sL 4 2 2,sL 5 2 2],[nI 0],jz0,[sL 6 3 3],[nI 0,nI 4],[nI 4,nI 0],jz2p]) (Eq.mpr (E109_9 _) P109_9) rfl ids h.len h.get
def R109_a (sp : Value) : Prop :=
 jz1w = sp
theorem E109_a (sp : Value) : vF prog msk (dm 0) 100000 true 40 true 109 jz1 jz1y (some [])
 jz9
 (fun v _ _ => v = sp) = R109_a sp:=by kernel_rfl
theorem P109_a : R109_a jzp:=rfl
theorem C109_a {H : Heap} (ids : List Nat) (h : InsA H (sgR 0 ids) ids [[sL 4 2 2,sL 5 2 2],[nI 0],jz0,[sL 6 2 2],[nI 0,nI 4],[nI 4,nI 0],[nI 0,nI 2]]) : KCall prog 109 (jz11.map (rn (sgR 0 ids) 3)) H [] (Is jzp H) :=
 valRA (css:=[[sL 4 2 2,sL 5 2 2],[nI 0],jz0,[sL 6 2 2],[nI 0,nI 4],[nI 4,nI 0],[nI 0,nI 2]]) (Eq.mpr (E109_a _) P109_a) rfl ids h.len h.get
def R109_5 (sp : Value) : Prop :=
 jz1w = sp
theorem E109_5 (sp : Value) : vF prog msk (dm 0) 100000 true 40 true 109 jz1 (readsT 0 [[sL 4 2 2,sL 5 2 2],[nI 0],jz0,[sL 6 3 3],[nI 0,nI 4],[nI 4,nI 0],jz2q]) (some [])
 jz8
 (fun v _ _ => v = sp) = R109_5 sp:=by kernel_rfl
theorem P109_5 : R109_5 jzp:=rfl
theorem C109_5 {H : Heap} (ids : List Nat) (h : InsA H (sgR 0 ids) ids [[sL 4 2 2,sL 5 2 2],[nI 0],jz0,[sL 6 3 3],[nI 0,nI 4],[nI 4,nI 0],jz2q]) : KCall prog 109 (jz11.map (rn (sgR 0 ids) 3)) H [] (Is jzp H) :=
 valRA (css:=[[sL 4 2 2,sL 5 2 2],[nI 0],jz0,[sL 6 3 3],[nI 0,nI 4],[nI 4,nI 0],jz2q]) (Eq.mpr (E109_5 _) P109_5) rfl ids h.len h.get
def R109_1 (sp : Value) : Prop :=
 (.tuple #[nI 10,.bool false] : Value) = sp
theorem E109_1 (sp : Value) : vF prog msk (dm 0) 100000 true 40 true 109 jz1 jz2b (some [])
 jzh
 (fun v _ _ => v = sp) = R109_1 sp:=by kernel_rfl
theorem P109_1 : R109_1 jz1e:=rfl
theorem C109_1 {H : Heap} (ids : List Nat) (h : InsA H (sgR 0 ids) ids [[sL 4 2 2,sL 5 2 2],[nI 0],jz0,[sL 6 1 1],[nI 0,nI 4],[nI 4,nI 0],[nI 1]]) : KCall prog 109 (jz11.map (rn (sgR 0 ids) 3)) H [] (Is jz1e H) :=
 valRA (css:=[[sL 4 2 2,sL 5 2 2],[nI 0],jz0,[sL 6 1 1],[nI 0,nI 4],[nI 4,nI 0],[nI 1]]) (Eq.mpr (E109_1 _) P109_1) rfl ids h.len h.get
def R109_d (sp : Value) : Prop :=
 (.tuple #[nI 28,.bool false] : Value) = sp
theorem E109_d (sp : Value) : vF prog msk (dm 0) 100000 true 40 true 109 jz1 jz1z (some [])
 jz9
 (fun v _ _ => v = sp) = R109_d sp:=by kernel_rfl
theorem P109_d : R109_d jz1f:=rfl
theorem C109_d {H : Heap} (ids : List Nat) (h : InsA H (sgR 0 ids) ids [[sL 4 2 2,sL 5 2 2],[nI 0],jz0,[sL 6 2 2],[nI 0,nI 4],[nI 4,nI 0],[nI 1,nI 0]]) : KCall prog 109 (jz11.map (rn (sgR 0 ids) 3)) H [] (Is jz1f H) :=
 valRA (css:=[[sL 4 2 2,sL 5 2 2],[nI 0],jz0,[sL 6 2 2],[nI 0,nI 4],[nI 4,nI 0],[nI 1,nI 0]]) (Eq.mpr (E109_d _) P109_d) rfl ids h.len h.get
def R109_c (sp : Value) : Prop :=
 (.tuple #[nI 32,.bool false] : Value) = sp
theorem E109_c (sp : Value) : vF prog msk (dm 0) 100000 true 40 true 109 jz1 jz2f (some [])
 jz8
 (fun v _ _ => v = sp) = R109_c sp:=by kernel_rfl
theorem P109_c : R109_c jz1g:=rfl
theorem C109_c {H : Heap} (ids : List Nat) (h : InsA H (sgR 0 ids) ids [[sL 4 2 2,sL 5 2 2],[nI 0],jz0,[sL 6 3 3],[nI 0,nI 4],[nI 4,nI 0],jzq]) : KCall prog 109 (jz11.map (rn (sgR 0 ids) 3)) H [] (Is jz1g H) :=
 valRA (css:=[[sL 4 2 2,sL 5 2 2],[nI 0],jz0,[sL 6 3 3],[nI 0,nI 4],[nI 4,nI 0],jzq]) (Eq.mpr (E109_c _) P109_c) rfl ids h.len h.get
def R109_2 (sp : Value) : Prop :=
 (.tuple #[nI 15,.bool false] : Value) = sp
theorem E109_2 (sp : Value) : vF prog msk (dm 0) 100000 true 40 true 109 jz1 jz20 (some [])
 jz9
 (fun v _ _ => v = sp) = R109_2 sp:=by kernel_rfl
theorem P109_2 : R109_2 jz1h:=rfl
theorem C109_2 {H : Heap} (ids : List Nat) (h : InsA H (sgR 0 ids) ids [[sL 4 2 2,sL 5 2 2],[nI 0],jz0,[sL 6 2 2],[nI 0,nI 4],[nI 4,nI 0],[nI 1,nI 2]]) : KCall prog 109 (jz11.map (rn (sgR 0 ids) 3)) H [] (Is jz1h H) :=
 valRA (css:=[[sL 4 2 2,sL 5 2 2],[nI 0],jz0,[sL 6 2 2],[nI 0,nI 4],[nI 4,nI 0],[nI 1,nI 2]]) (Eq.mpr (E109_2 _) P109_2) rfl ids h.len h.get
def R109_4 (sp : Value) : Prop :=
 (.tuple #[nI 19,.bool false] : Value) = sp
theorem E109_4 (sp : Value) : vF prog msk (dm 0) 100000 true 40 true 109 jz1 jz2g (some [])
 jz8
 (fun v _ _ => v = sp) = R109_4 sp:=by kernel_rfl
theorem P109_4 : R109_4 jz1i:=rfl
theorem C109_4 {H : Heap} (ids : List Nat) (h : InsA H (sgR 0 ids) ids [[sL 4 2 2,sL 5 2 2],[nI 0],jz0,[sL 6 3 3],[nI 0,nI 4],[nI 4,nI 0],jzx]) : KCall prog 109 (jz11.map (rn (sgR 0 ids) 3)) H [] (Is jz1i H) :=
 valRA (css:=[[sL 4 2 2,sL 5 2 2],[nI 0],jz0,[sL 6 3 3],[nI 0,nI 4],[nI 4,nI 0],jzx]) (Eq.mpr (E109_4 _) P109_4) rfl ids h.len h.get
def R109_7 (sp : Value) : Prop :=
 (.tuple #[nI 13,.bool false] : Value) = sp
theorem E109_7 (sp : Value) : vF prog msk (dm 0) 100000 true 40 true 109 jz1 jz2c (some [])
 jzh
 (fun v _ _ => v = sp) = R109_7 sp:=by kernel_rfl
theorem P109_7 : R109_7 jz1j:=rfl
theorem C109_7 {H : Heap} (ids : List Nat) (h : InsA H (sgR 0 ids) ids [[sL 4 2 2,sL 5 2 2],[nI 0],jz0,[sL 6 1 1],[nI 0,nI 4],[nI 4,nI 0],[nI 2]]) : KCall prog 109 (jz11.map (rn (sgR 0 ids) 3)) H [] (Is jz1j H) :=
 valRA (css:=[[sL 4 2 2,sL 5 2 2],[nI 0],jz0,[sL 6 1 1],[nI 0,nI 4],[nI 4,nI 0],[nI 2]]) (Eq.mpr (E109_7 _) P109_7) rfl ids h.len h.get
def R109_e (sp : Value) : Prop :=
 (.tuple #[nI 31,.bool false] : Value) = sp
theorem E109_e (sp : Value) : vF prog msk (dm 0) 100000 true 40 true 109 jz1 jz21 (some [])
 jz9
 (fun v _ _ => v = sp) = R109_e sp:=by kernel_rfl
theorem P109_e : R109_e jz1k:=rfl
theorem C109_e {H : Heap} (ids : List Nat) (h : InsA H (sgR 0 ids) ids [[sL 4 2 2,sL 5 2 2],[nI 0],jz0,[sL 6 2 2],[nI 0,nI 4],[nI 4,nI 0],[nI 2,nI 0]]) : KCall prog 109 (jz11.map (rn (sgR 0 ids) 3)) H [] (Is jz1k H) :=
 valRA (css:=[[sL 4 2 2,sL 5 2 2],[nI 0],jz0,[sL 6 2 2],[nI 0,nI 4],[nI 4,nI 0],[nI 2,nI 0]]) (Eq.mpr (E109_e _) P109_e) rfl ids h.len h.get
def R109_b (sp : Value) : Prop :=
 (.tuple #[nI 35,.bool false] : Value) = sp
theorem E109_b (sp : Value) : vF prog msk (dm 0) 100000 true 40 true 109 jz1 jz2h (some [])
 jz8
 (fun v _ _ => v = sp) = R109_b sp:=by kernel_rfl
theorem P109_b : R109_b jz1l:=rfl
theorem C109_b {H : Heap} (ids : List Nat) (h : InsA H (sgR 0 ids) ids [[sL 4 2 2,sL 5 2 2],[nI 0],jz0,[sL 6 3 3],[nI 0,nI 4],[nI 4,nI 0],jzy]) : KCall prog 109 (jz11.map (rn (sgR 0 ids) 3)) H [] (Is jz1l H) :=
 valRA (css:=[[sL 4 2 2,sL 5 2 2],[nI 0],jz0,[sL 6 3 3],[nI 0,nI 4],[nI 4,nI 0],jzy]) (Eq.mpr (E109_b _) P109_b) rfl ids h.len h.get
def R109_8 (sp : Value) : Prop :=
 (.tuple #[nI 18,.bool false] : Value) = sp
theorem E109_8 (sp : Value) : vF prog msk (dm 0) 100000 true 40 true 109 jz1 jz22 (some [])
 jz9
 (fun v _ _ => v = sp) = R109_8 sp:=by kernel_rfl
theorem P109_8 : R109_8 jz1m:=rfl
theorem C109_8 {H : Heap} (ids : List Nat) (h : InsA H (sgR 0 ids) ids [[sL 4 2 2,sL 5 2 2],[nI 0],jz0,[sL 6 2 2],[nI 0,nI 4],[nI 4,nI 0],[nI 2,nI 1]]) : KCall prog 109 (jz11.map (rn (sgR 0 ids) 3)) H [] (Is jz1m H) :=
 valRA (css:=[[sL 4 2 2,sL 5 2 2],[nI 0],jz0,[sL 6 2 2],[nI 0,nI 4],[nI 4,nI 0],[nI 2,nI 1]]) (Eq.mpr (E109_8 _) P109_8) rfl ids h.len h.get
def R109_f (sp : Value) : Prop :=
 (.tuple #[nI 22,.bool false] : Value) = sp
theorem E109_f (sp : Value) : vF prog msk (dm 0) 100000 true 40 true 109 jz1 jz2i (some [])
 jz8
 (fun v _ _ => v = sp) = R109_f sp:=by kernel_rfl
theorem P109_f : R109_f jz1n:=rfl
theorem C109_f {H : Heap} (ids : List Nat) (h : InsA H (sgR 0 ids) ids [[sL 4 2 2,sL 5 2 2],[nI 0],jz0,[sL 6 3 3],[nI 0,nI 4],[nI 4,nI 0],jzz]) : KCall prog 109 (jz11.map (rn (sgR 0 ids) 3)) H [] (Is jz1n H) :=
 valRA (css:=[[sL 4 2 2,sL 5 2 2],[nI 0],jz0,[sL 6 3 3],[nI 0,nI 4],[nI 4,nI 0],jzz]) (Eq.mpr (E109_f _) P109_f) rfl ids h.len h.get
end
end Go.Proofs.YthdekmpkioikdaaGreat
