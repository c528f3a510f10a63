/- Request: premises: whether they hold, and their bound. No condition. -/
import Derived.Test.YthdekmpkioikdaaGreatGR2xR4f
import Derived.Test.YthdekmpkioikdaaGreatGR4gxK32
import Derived.Test.YthdekmpkioikdaaGreatGK27xR1g
namespace Go.Proofs.YthdekmpkioikdaaGreat
open Go Go.K
set_option maxRecDepth 100000
set_option linter.unusedVariables false
set_option linter.unusedSimpArgs false
noncomputable section
attribute [local irreducible] vF
theorem intMap (l : List Int) : l.flatMap intC = l.map (Value.int .i64) := by
  induction l with
  | nil => rfl
  | cons x l ih => rw [List.flatMap_cons, ih]; rfl
theorem enters_some {P : Program} {f : FuncId} {fn : Func} (hf : P.funcs[f]? = some fn) (hname : (fn.name == "runtime.NumGoroutine") = false) (hb : fn.body.isSome = true) : Enters P f := by
  obtain ⟨c, hc⟩ := Option.isSome_iff_exists.1 hb
  exact enters_of hf hname hc
theorem enters84 : Enters prog 84 := enters_some Tryz.func84 (by kernel_rfl) (by kernel_rfl)
theorem set_same {α : Type} {l : List α} {i : Nat} {x : α} (h : l[i]? = some x) : l.set i x = l := by
  refine List.ext_getElem? fun k => ?_
  rw [List.getElem?_set]
  split
  · rename_i e; subst e
    rw [if_pos (List.getElem?_eq_some_iff.1 h).1, h]
  · rfl
theorem kSort {L0 : List Int} (h1 : L0.length < 1000) {H : Heap} {id : Nat} (ho : H[id]? = some (.cells true 1 (L0.flatMap intC))) :
    KCall prog 84 [.slice (some ⟨id, 0, some 1⟩) L0.length L0.length] H [id] (Is (.tuple #[]) (H.set id (.cells true 1 ((srtI L0).flatMap intC)))) := by
  rcases Nat.eq_zero_or_pos L0.length with h0 | h0
  · have e : L0 = [] := List.length_eq_zero_iff.1 h0
    subst e
    have key : KCall prog 84 [.slice (some ⟨0, 0, some 1⟩) 0 0] H [] (Is (.tuple #[]) H) := valRx (H := H) (ids := []) (css := []) (Eq.mpr (ESort0 (.tuple #[])) rfl) trivial rfl trivial rfl
    have e2 : srtI [] = [] := List.length_eq_zero_iff.1 (by rw [srt_len]; rfl)
    rw [e2, set_same ho]
    exact (KCall.wkA (args := [.slice (some ⟨id, 0, some 1⟩) 0 0]) key (wks_cons (wk_Q0 _ _ _ _) wks_nil)).mono (fun _ h _ => by cases h) (fun _ _ h => h)
  · rw [intMap] at ho ⊢
    exact kSortInt sortI enters84 (.inr rfl) h0 (by omega) ho
theorem mul_in {a b A B : Int} (h1 : 0 ≤ a) (h2 : a ≤ A) (h3 : 0 ≤ b) (h4 : b ≤ B) : 0 ≤ a * b ∧ a * b ≤ A * B :=
  ⟨Int.mul_nonneg h1 h3, Int.mul_le_mul h2 h4 h3 (by omega)⟩
theorem tdivE {a b : Int} (h : 0 ≤ a) : Int.tdiv a b = a / b := Int.tdiv_eq_ediv_of_nonneg h
theorem div_in {a b : Int} (h : 0 ≤ a) (hb : 1 ≤ b) : 0 ≤ a / b ∧ a / b ≤ a := ⟨Int.ediv_nonneg h (by omega), Int.ediv_le_self b h⟩
theorem topW_cast {f : Fleet} {q : Prem} (o : FlOk f) (p : PreOk q) : ((topW f q : Nat) : Int) = (q.burst + (f.b.length : Int)) * q.period * q.service ∧ topW f q ≤ 920000 := by
  have a1 := mul_in (a := q.burst + (f.b.length : Int)) (b := q.period) (A := 23) (B := 200) (by have := p.burst; omega) (by have := p.burst; have := o.b2; omega) (by have := p.period; omega) p.period.2
  have a2 := mul_in (b := q.service) (B := 200) a1.1 a1.2 (by have := p.service; omega) p.service.2
  have e : ((topW f q : Nat) : Int) = (q.burst + (f.b.length : Int)) * q.period * q.service := Int.toNat_of_nonneg a2.1
  exact ⟨e, by omega⟩
theorem lastW_1 {c : Nat → Bool} {w : Nat} (h : c (w + 1) = true) : lastW c (w + 1) = w + 1 := if_pos h
theorem lastW_0 {c : Nat → Bool} {w : Nat} (h : c (w + 1) = false) : lastW c (w + 1) = lastW c w := if_neg (by rw [h]; decide)
theorem lastW_le {c : Nat → Bool} : ∀ w, lastW c w ≤ w
  | 0 => Nat.le_refl _
  | w + 1 => by
    show (if c (w + 1) = true then w + 1 else lastW c w) ≤ _
    have := lastW_le (c := c) w
    split <;> omega
theorem errB_1 {f : Fleet} {q : Prem} (h : errFl f ≠ 0) : fBound f q = (0, errFl f) := by
  have e : errB f q = errFl f := by unfold errB; rw [first2_1 h, first2_1 h]
  unfold fBound; rw [e, if_neg h]
theorem errB_2 {f : Fleet} {q : Prem} (h : errFl f = 0) (h2 : errPre q ≠ 0) : fBound f q = (0, errPre q) := by
  have e : errB f q = errPre q := by unfold errB; rw [first2_2 h, first2_1 h2]
  unfold fBound; rw [e, if_neg h2]
theorem errB_3 {f : Fleet} {q : Prem} (h : errFl f = 0) (h2 : errPre q = 0) (h3 : q.period * (f.b.length : Int) ≤ q.service) : fBound f q = (0, 4) := by
  have e : errB f q = 4 := by unfold errB; rw [first2_2 h, first2_2 h2, if_pos h3]
  unfold fBound; rw [e]; rfl
theorem errB_0 {f : Fleet} {q : Prem} (h : errFl f = 0) (h2 : errPre q = 0) (h3 : ¬ q.period * (f.b.length : Int) ≤ q.service) : fBound f q = ((lastW (boundC f.b.length q) (topW f q) : Int), 0) := by
  have e : errB f q = 0 := by unfold errB; rw [first2_2 h, first2_2 h2, if_neg h3]
  unfold fBound; rw [if_pos e]
abbrev bV (r : Int × Int) : Value := .tuple #[.int .i64 r.1, .int .i64 r.2]
theorem bEqV {r : Int × Int} {a b : Int} (h : r = (a, b)) : (.tuple #[.int .i64 a, .int .i64 b] : Value) = bV r := by rw [h]
set_option maxHeartbeats 1000000 in
theorem kBound (f : Fleet) (q : Prem) (ht : f.t.length ≤ 4294967296) (hb : f.b.length ≤ 4294967296) (hs : shortI f.t) {H : Heap} {i0 i1 : Nat} {o0 o1 : Bool} {z0 z1 : Nat} (e0 : H[i0]? = some (.cells o0 z0 (inL f.t))) (e1 : H[i1]? = some (.cells o1 z1 (f.b.flatMap intC))) :
    KCall prog 39 [fleetV f i0 i1, .agg ⟨preC q⟩] H [] (Is (bV (fBound f q)) H) := by
  refine valRx (Eq.mpr (EBound _ f q) ?_) ⟨inL_b 0 _, plainIL 0 _, trivial⟩ rfl (ids := [i0, i1]) ⟨⟨_, _, e0⟩, ⟨_, _, e1⟩, trivial⟩ rfl
  unfold RBound
  refine ⟨⟨rfl, rfl, trivial⟩, fun H' _ hd => kFl f ht hb hs hd.1 hd.2.1, trivial, fun H' _ _ => kPre q H', forkNe (fun h => ⟨bEq (by simpa using h), bEqV (errB_1 h)⟩) (fun h0 => forkNe (fun h => ⟨bEq (by simpa using h), bEqV (errB_2 h0 h)⟩) (fun h2 => ?_))⟩
  have o := flOk h0
  have p := preOk h2
  have hT := topW_cast o p
  obtain ⟨b1, b2⟩ := p.burst
  obtain ⟨p1, p2⟩ := p.period
  obtain ⟨s1, s2⟩ := p.service
  have n1 := o.b1
  have n2 := o.b2
  have m1 := mul_in (a := q.period) (b := (f.b.length : Int)) (A := 200) (B := 3) (by omega) p2 (by omega) (by omega)
  have m2 := mul_in (a := q.burst + (f.b.length : Int)) (b := q.period) (A := 23) (B := 200) (by omega) (by omega) (by omega) p2
  have m3 := mul_in (b := q.service) (B := 200) m2.1 m2.2 (by omega) s2
  refine ⟨vI64 (by omega), forkD (fun h => bEqV (errB_3 h0 h2 h)) (fun h3 => ⟨vI64 (by omega), vI64 (by omega), vI64 (by omega), rfl, ⟨Nat.zero_le _, rfl⟩, ?_, fun _ => rfl, ?_⟩)⟩
  · rw [Nat.sub_zero, hT.1]
    repeat' first | exact inL_b _ _ | exact plainIL _ _ | exact plainRQ _ _ | exact (inV_rn _ 0 _).symm | exact wk_QR | exact trivial | exact rfl | exact wk_refl _ | refine wkO_cells ?_ | refine wks_cons ?_ ?_ | exact wks_nil | exact wk_nil _ _ _ (.inl rfl) | (exact wk_Q (by omega)) | refine wk_tupL ?_ | refine wk_aggL ?_ | refine joinMax ?_ ?_ ?_ | refine joinMin ?_ ?_ ?_ | refine toMax ?_ | refine toMin ?_ | refine ⟨rfl, ?_⟩ | refine ⟨trivial, ?_⟩ | (refine forkD (fun h => ?_) (fun h => ?_)) | (refine forkNe (fun h => ?_) (fun h => ?_)) | (refine forkEq (fun h => ?_) (fun h => ?_)) | refine forkNot ?_ | (refine ⟨vI64 (by omega), ?_⟩) | (refine And.intro (by omega) ?_) | apply And.intro | (exact iEq (by omega)) | (exact vI64 (by omega))
  rintro x ⟨hx, hl⟩
  refine forkD (fun k => ?_) (fun k => ?_)
  · obtain ⟨w, hw⟩ : ∃ w, topW f q - x = w + 1 := ⟨topW f q - x - 1, by omega⟩
    rw [hw] at hl ⊢
    have hwb : w + 1 ≤ 920000 := by omega
    have d1 := div_in (a := (((w + 1 : Nat) : Int) + q.service - 1)) (by omega) s1
    have d2 := div_in (a := ((w + 1 : Nat) : Int)) (by omega) p1
    have hm := tdivE (a := (((w + 1 : Nat) : Int) + q.service - 1)) (b := q.service) (by omega)
    have hm2 := tdivE (a := ((w + 1 : Nat) : Int)) (b := q.period) (by omega)
    have hc : boundC f.b.length q (w + 1) = decide ((f.b.length : Int) * ((((w + 1 : Nat) : Int) + q.service - 1) / q.service - 1) + 2 ≤ q.burst + ((w + 1 : Nat) : Int) / q.period) := rfl
    rw [hm, hm2]
    have h1 : 1 ≤ (((w + 1 : Nat) : Int) + q.service - 1) / q.service := by
      rw [show (((w + 1 : Nat) : Int) + q.service - 1) = (w : Int) + 1 * q.service by omega, Int.add_mul_ediv_right _ _ (by omega)]
      have := Int.ediv_nonneg (a := (w : Int)) (b := q.service) (by omega) (by omega)
      omega
    obtain ⟨D, hD⟩ : ∃ D, (((w + 1 : Nat) : Int) + q.service - 1) / q.service = D := ⟨_, rfl⟩
    obtain ⟨E, hE⟩ : ∃ E, ((w + 1 : Nat) : Int) / q.period = E := ⟨_, rfl⟩
    rw [hD] at d1 h1 hc ⊢
    rw [hE] at d2 hc ⊢
    have m4 := mul_in (a := (f.b.length : Int)) (b := D - 1) (A := 3) (B := 1000000) (by omega) (by omega) (by omega) (by omega)
    refine ⟨vI64 (by omega), vI64 (by omega), by omega, vI64 (by omega), vI64 (by omega), vI64 (by omega), vI64 (by omega), by omega, vI64 (by omega), vI64 (by omega), forkD (fun h => bEqV ?_) (fun h => ⟨vI64 (by omega), x + 1, ⟨by omega, ?_⟩, by omega, rfl, ?_⟩)⟩
    · rw [errB_0 h0 h2 h3, hl, lastW_1 (hc.trans (decide_eq_true h))]
    · rw [hl, lastW_0 (hc.trans (decide_eq_false h)), show topW f q - (x + 1) = w by omega]
    · repeat' first | exact inL_b _ _ | exact plainIL _ _ | exact plainRQ _ _ | exact (inV_rn _ 0 _).symm | exact wk_QR | (exact iEq (by omega)) | exact trivial | exact rfl | exact wk_refl _ | refine wkO_cells ?_ | refine wks_cons ?_ ?_ | exact wks_nil | exact wk_nil _ _ _ (.inl rfl) | (exact wk_Q (by omega)) | refine wk_tupL ?_ | refine wk_aggL ?_ | refine joinMax ?_ ?_ ?_ | refine joinMin ?_ ?_ ?_ | refine toMax ?_ | refine toMin ?_ | refine ⟨rfl, ?_⟩ | refine ⟨trivial, ?_⟩ | (refine forkD (fun h => ?_) (fun h => ?_)) | (refine forkNe (fun h => ?_) (fun h => ?_)) | (refine forkEq (fun h => ?_) (fun h => ?_)) | refine forkNot ?_ | (refine ⟨vI64 (by omega), ?_⟩) | (refine And.intro (by omega) ?_) | apply And.intro | (exact iEq (by omega)) | (exact vI64 (by omega))
  · refine bEqV ?_
    rw [errB_0 h0 h2 h3, hl, show topW f q - x = 0 by omega]; rfl
theorem ceil_up {w s : Int} (h : 0 ≤ w) (hs : 1 ≤ s) (hr : 0 < w % s) : (w + s - 1) / s = w / s + 1 := by
  have h1 := Int.emod_def w s
  have h2 := Int.emod_lt_of_pos w (show 0 < s by omega)
  have e : w + s - 1 = (w % s - 1) + (w / s + 1) * s := by rw [Int.add_mul, Int.one_mul, Int.mul_comm (w / s) s]; omega
  rw [e, Int.add_mul_ediv_right _ _ (by omega), Int.ediv_eq_zero_of_lt (by omega) (by omega)]; omega
theorem ceil_eq {w s : Int} (h : 0 ≤ w) (hs : 1 ≤ s) (hr : ¬ 0 < w % s) : (w + s - 1) / s = w / s := by
  have h1 := Int.emod_def w s
  have h2 := Int.emod_nonneg w (show s ≠ 0 by omega)
  have e : w + s - 1 = (s - 1) + (w / s) * s := by rw [Int.mul_comm (w / s) s]; omega
  rw [e, Int.add_mul_ediv_right _ _ (by omega), Int.ediv_eq_zero_of_lt (by omega) (by omega)]; omega
set_option maxHeartbeats 1000000 in
theorem krBound (f : Fleet) (q : Prem) (ht : f.t.length ≤ 4294967296) (hb : f.b.length ≤ 4294967296) (hs : shortI f.t) {H : Heap} {i0 i1 : Nat} {o0 o1 : Bool} {z0 z1 : Nat} (e0 : H[i0]? = some (.cells o0 z0 (inL f.t))) (e1 : H[i1]? = some (.cells o1 z1 (f.b.flatMap intC))) :
    KCall prog 40 [fleetV f i0 i1, .agg ⟨preC q⟩] H [] (Is (bV (fBound f q)) H) := by
  refine valRx (Eq.mpr (ErBound _ f q) ?_) ⟨inL_b 0 _, plainIL 0 _, trivial⟩ rfl (ids := [i0, i1]) ⟨⟨_, _, e0⟩, ⟨_, _, e1⟩, trivial⟩ rfl
  unfold RrBound
  refine ⟨⟨rfl, rfl, trivial⟩, fun H' _ hd => krFl f ht hb hs hd.1 hd.2.1, forkNe (fun h => bEqV (errB_1 h)) (fun h0 => ⟨trivial, fun H' _ _ => krPre q H', forkNe (fun h => bEqV (errB_2 h0 h)) (fun h2 => ?_)⟩)⟩
  have o := flOk h0
  have p := preOk h2
  have hT := topW_cast o p
  obtain ⟨b1, b2⟩ := p.burst
  obtain ⟨p1, p2⟩ := p.period
  obtain ⟨s1, s2⟩ := p.service
  have n1 := o.b1
  have n2 := o.b2
  have m1 := mul_in (a := q.period) (b := (f.b.length : Int)) (A := 200) (B := 3) (by omega) p2 (by omega) (by omega)
  have m2 := mul_in (a := q.burst + (f.b.length : Int)) (b := q.period) (A := 23) (B := 200) (by omega) (by omega) (by omega) p2
  have m3 := mul_in (b := q.service) (B := 200) m2.1 m2.2 (by omega) s2
  refine ⟨vI64 (by omega), forkD (fun h => bEqV (errB_3 h0 h2 h)) (fun h3 => ⟨rfl, Nat.zero_le _, ?_, fun _ => rfl, ?_⟩)⟩
  · repeat' first | exact inL_b _ _ | exact plainIL _ _ | exact plainRQ _ _ | exact (inV_rn _ 0 _).symm | exact wk_QR | exact trivial | exact rfl | exact wk_refl _ | refine wkO_cells ?_ | refine wks_cons ?_ ?_ | exact wks_nil | exact wk_nil _ _ _ (.inl rfl) | (exact wk_Q (by omega)) | refine wk_tupL ?_ | refine wk_aggL ?_ | refine joinMax ?_ ?_ ?_ | refine joinMin ?_ ?_ ?_ | refine toMax ?_ | refine toMin ?_ | refine ⟨rfl, ?_⟩ | refine ⟨trivial, ?_⟩ | (refine forkD (fun h => ?_) (fun h => ?_)) | (refine forkNe (fun h => ?_) (fun h => ?_)) | (refine forkEq (fun h => ?_) (fun h => ?_)) | refine forkNot ?_ | (refine ⟨vI64 (by omega), ?_⟩) | (refine And.intro (by omega) ?_) | apply And.intro | (exact iEq (by omega)) | (exact vI64 (by omega))
  intro x hx
  refine ⟨vI64 (by omega), vI64 (by omega), vI64 (by omega), forkD (fun k => ?_) (fun k => ?_)⟩
  · have hxb : x + 1 ≤ 920000 := by omega
    have hm := tdivE (a := ((x + 1 : Nat) : Int)) (b := q.service) (by omega)
    have hm2 := tdivE (a := ((x + 1 : Nat) : Int)) (b := q.period) (by omega)
    have hmm : Int.tmod ((x + 1 : Nat) : Int) q.service = ((x + 1 : Nat) : Int) % q.service := Int.tmod_eq_emod_of_nonneg (by omega)
    have d0 := div_in (a := ((x + 1 : Nat) : Int)) (by omega) s1
    have d2 := div_in (a := ((x + 1 : Nat) : Int)) (by omega) p1
    have hc : boundC f.b.length q (x + 1) = decide ((f.b.length : Int) * ((((x + 1 : Nat) : Int) + q.service - 1) / q.service - 1) + 2 ≤ q.burst + ((x + 1 : Nat) : Int) / q.period) := rfl
    have hup := ceil_up (w := ((x + 1 : Nat) : Int)) (by omega) s1
    have heq := ceil_eq (w := ((x + 1 : Nat) : Int)) (by omega) s1
    rw [hm, hm2, hmm]
    refine ⟨by omega, vI64 (by omega), by omega, ?_⟩
    refine ⟨rfl, fun h => ⟨vI64 (by omega), _, .inl ⟨h, rfl, trivial⟩, ?_⟩, fun h => ⟨_, .inr ⟨h, rfl, trivial⟩, ?_⟩, ?_⟩
    · repeat' first | exact inL_b _ _ | exact plainIL _ _ | exact plainRQ _ _ | exact (inV_rn _ 0 _).symm | exact wk_QR | exact trivial | exact rfl | exact wk_refl _ | refine wkO_cells ?_ | refine wks_cons ?_ ?_ | exact wks_nil | exact wk_nil _ _ _ (.inl rfl) | (exact wk_Q (by omega)) | refine wk_tupL ?_ | refine wk_aggL ?_ | refine joinMax ?_ ?_ ?_ | refine joinMin ?_ ?_ ?_ | refine toMax ?_ | refine toMin ?_ | refine ⟨rfl, ?_⟩ | refine ⟨trivial, ?_⟩ | (refine forkD (fun h => ?_) (fun h => ?_)) | (refine forkNe (fun h => ?_) (fun h => ?_)) | (refine forkEq (fun h => ?_) (fun h => ?_)) | refine forkNot ?_ | (refine ⟨vI64 (by omega), ?_⟩) | (refine And.intro (by omega) ?_) | apply And.intro | (exact iEq (by omega)) | (exact vI64 (by omega))
    · repeat' first | exact inL_b _ _ | exact plainIL _ _ | exact plainRQ _ _ | exact (inV_rn _ 0 _).symm | exact wk_QR | exact trivial | exact rfl | exact wk_refl _ | refine wkO_cells ?_ | refine wks_cons ?_ ?_ | exact wks_nil | exact wk_nil _ _ _ (.inl rfl) | (exact wk_Q (by omega)) | refine wk_tupL ?_ | refine wk_aggL ?_ | refine joinMax ?_ ?_ ?_ | refine joinMin ?_ ?_ ?_ | refine toMax ?_ | refine toMin ?_ | refine ⟨rfl, ?_⟩ | refine ⟨trivial, ?_⟩ | (refine forkD (fun h => ?_) (fun h => ?_)) | (refine forkNe (fun h => ?_) (fun h => ?_)) | (refine forkEq (fun h => ?_) (fun h => ?_)) | refine forkNot ?_ | (refine ⟨vI64 (by omega), ?_⟩) | (refine And.intro (by omega) ?_) | apply And.intro | (exact iEq (by omega)) | (exact vI64 (by omega))
    intro D hD
    have hD : (((x + 1 : Nat) : Int) + q.service - 1) / q.service = D := by
      rcases hD with ⟨h, e, _⟩ | ⟨h, e, _⟩
      · rw [e]; exact hup (of_decide_eq_true h)
      · rw [e]; exact heq (of_decide_eq_false h)
    have h1 : 1 ≤ (((x + 1 : Nat) : Int) + q.service - 1) / q.service := by
      rw [show (((x + 1 : Nat) : Int) + q.service - 1) = (x : Int) + 1 * q.service by omega, Int.add_mul_ediv_right _ _ (by omega)]
      have := Int.ediv_nonneg (a := (x : Int)) (b := q.service) (by omega) (by omega)
      omega
    have d1 := div_in (a := (((x + 1 : Nat) : Int) + q.service - 1)) (by omega) s1
    obtain ⟨E, hE⟩ : ∃ E, ((x + 1 : Nat) : Int) / q.period = E := ⟨_, rfl⟩
    rw [hD] at d1 h1 hc
    rw [hE] at d2 hc ⊢
    have m4 := mul_in (a := (f.b.length : Int)) (b := D - 1) (A := 3) (B := 1000000) (by omega) (by omega) (by omega) (by omega)
    have hlw := lastW_le (c := boundC f.b.length q) x
    refine ⟨vI64 (by omega), vI64 (by omega), vI64 (by omega), by omega, vI64 (by omega), vI64 (by omega), rfl, fun h => ⟨_, .inl ⟨h, rfl, trivial⟩, ?_⟩, fun h => ⟨_, .inr ⟨h, rfl, trivial⟩, ?_⟩, ?_⟩
    · repeat' first | exact inL_b _ _ | exact plainIL _ _ | exact plainRQ _ _ | exact (inV_rn _ 0 _).symm | exact wk_QR | exact trivial | exact rfl | exact wk_refl _ | refine wkO_cells ?_ | refine wks_cons ?_ ?_ | exact wks_nil | exact wk_nil _ _ _ (.inl rfl) | (exact wk_Q (by omega)) | refine wk_tupL ?_ | refine wk_aggL ?_ | refine joinMax ?_ ?_ ?_ | refine joinMin ?_ ?_ ?_ | refine toMax ?_ | refine toMin ?_ | refine ⟨rfl, ?_⟩ | refine ⟨trivial, ?_⟩ | (refine forkD (fun h => ?_) (fun h => ?_)) | (refine forkNe (fun h => ?_) (fun h => ?_)) | (refine forkEq (fun h => ?_) (fun h => ?_)) | refine forkNot ?_ | (refine ⟨vI64 (by omega), ?_⟩) | (refine And.intro (by omega) ?_) | apply And.intro | (exact iEq (by omega)) | (exact vI64 (by omega))
    · repeat' first | exact inL_b _ _ | exact plainIL _ _ | exact plainRQ _ _ | exact (inV_rn _ 0 _).symm | exact wk_QR | exact trivial | exact rfl | exact wk_refl _ | refine wkO_cells ?_ | refine wks_cons ?_ ?_ | exact wks_nil | exact wk_nil _ _ _ (.inl rfl) | (exact wk_Q (by omega)) | refine wk_tupL ?_ | refine wk_aggL ?_ | refine joinMax ?_ ?_ ?_ | refine joinMin ?_ ?_ ?_ | refine toMax ?_ | refine toMin ?_ | refine ⟨rfl, ?_⟩ | refine ⟨trivial, ?_⟩ | (refine forkD (fun h => ?_) (fun h => ?_)) | (refine forkNe (fun h => ?_) (fun h => ?_)) | (refine forkEq (fun h => ?_) (fun h => ?_)) | refine forkNot ?_ | (refine ⟨vI64 (by omega), ?_⟩) | (refine And.intro (by omega) ?_) | apply And.intro | (exact iEq (by omega)) | (exact vI64 (by omega))
    intro y hy
    have hy : y = ((lastW (boundC f.b.length q) (x + 1) : Nat) : Int) := by
      rcases hy with ⟨h, e, _⟩ | ⟨h, e, _⟩
      · rw [e, lastW_1 (hc.trans h)]
      · rw [e, lastW_0 (hc.trans h)]
    refine ⟨vI64 (by omega), x + 1, by omega, by omega, rfl, ?_⟩
    repeat' first | exact inL_b _ _ | exact plainIL _ _ | exact plainRQ _ _ | exact (inV_rn _ 0 _).symm | exact wk_QR | exact iEq hy | exact trivial | exact rfl | exact wk_refl _ | refine wkO_cells ?_ | refine wks_cons ?_ ?_ | exact wks_nil | exact wk_nil _ _ _ (.inl rfl) | (exact wk_Q (by omega)) | refine wk_tupL ?_ | refine wk_aggL ?_ | refine joinMax ?_ ?_ ?_ | refine joinMin ?_ ?_ ?_ | refine toMax ?_ | refine toMin ?_ | refine ⟨rfl, ?_⟩ | refine ⟨trivial, ?_⟩ | (refine forkD (fun h => ?_) (fun h => ?_)) | (refine forkNe (fun h => ?_) (fun h => ?_)) | (refine forkEq (fun h => ?_) (fun h => ?_)) | refine forkNot ?_ | (refine ⟨vI64 (by omega), ?_⟩) | (refine And.intro (by omega) ?_) | apply And.intro | (exact iEq (by omega)) | (exact vI64 (by omega))
  · refine bEqV ?_
    have : x = topW f q := by rw [← hT.1] at k; omega
    subst this
    rw [errB_0 h0 h2 h3]
theorem all_snoc {α : Type} {l : List α} {d : α} {p : α → Bool} {k : Nat} (h : k < l.length) (h1 : (l.take k).all p = true) (h2 : p (l.getD k d) = true) : (l.take (k + 1)).all p = true := by
  rw [take_snoc (d := d) h, List.all_append, h1, List.all_cons, h2]; rfl
theorem all_at {α : Type} {l : List α} {d : α} {p : α → Bool} {k : Nat} (h : k < l.length) (h2 : p (l.getD k d) = false) : l.all p = false := by
  cases hc : l.all p with
  | false => rfl
  | true => rw [List.all_eq_true.1 hc _ (getD_mem h)] at h2; cases h2
theorem all_end {α : Type} {l : List α} {p : α → Bool} {k : Nat} (h : ¬ k < l.length) (h1 : (l.take k).all p = true) : l.all p = true := by
  rw [List.take_of_length_le (by omega)] at h1; exact h1
theorem rng_snoc {p : Nat → Bool} {k : Nat} (h1 : (List.range k).all p = true) (h2 : p k = true) : (List.range (k + 1)).all p = true := by
  rw [List.range_succ, List.all_append, h1, List.all_cons, h2]; rfl
theorem rng_at {p : Nat → Bool} {k n : Nat} (h : k < n) (h2 : p k = false) : (List.range n).all p = false := by
  cases hc : (List.range n).all p with
  | false => rfl
  | true => rw [List.all_eq_true.1 hc _ (List.mem_range.2 h)] at h2; cases h2
theorem errH_1 {f : Fleet} {l : List Rq} {q : Prem} (h : errFl f ≠ 0) : fHold f l q = (false, errFl f) := by
  have e : errH f l q = errFl f := by unfold errH; rw [first2_1 h, first2_1 h]
  unfold fHold; rw [e, if_neg h]
theorem errH_2 {f : Fleet} {l : List Rq} {q : Prem} (h : errFl f = 0) (h2 : errRq f.t.length l ≠ 0) : fHold f l q = (false, errRq f.t.length l) := by
  have e : errH f l q = errRq f.t.length l := by unfold errH; rw [first2_2 h, first2_1 h2]
  unfold fHold; rw [e, if_neg h2]
theorem errH_3 {f : Fleet} {l : List Rq} {q : Prem} (h : errFl f = 0) (h2 : errRq f.t.length l = 0) (h3 : errPre q ≠ 0) : fHold f l q = (false, errPre q) := by
  have e : errH f l q = errPre q := by unfold errH; rw [first2_2 h, first2_2 h2]
  unfold fHold; rw [e, if_neg h3]
theorem errH_0 {f : Fleet} {l : List Rq} {q : Prem} (h : errFl f = 0) (h2 : errRq f.t.length l = 0) (h3 : errPre q = 0) : fHold f l q = (holdOk f l q, 0) := by
  have e : errH f l q = 0 := by unfold errH; rw [first2_2 h, first2_2 h2, h3]
  unfold fHold; rw [if_pos e]
abbrev hV (r : Bool × Int) : Value := .tuple #[.bool r.1, .int .i64 r.2]
theorem hEqV {r : Bool × Int} {a : Bool} {b : Int} (h : r = (a, b)) : (.tuple #[.bool a, .int .i64 b] : Value) = hV r := by rw [h]
theorem hours_snoc {l : List Rq} {x : Nat} (h : x < l.length) : hours (l.take (x + 1)) = hours (l.take x) ++ [(l.getD x zeroQ).at_] := by
  unfold hours; rw [take_snoc (d := zeroQ) h, List.map_append]; rfl
theorem srt_bd {n : Nat} {l : List Rq} (o : LsOk n l) {i : Nat} (hi : i < l.length) : 0 ≤ (srtI (hours l)).getD i 0 ∧ (srtI (hours l)).getD i 0 ≤ 10000 := by
  have hl : (srtI (hours l)).length = l.length := by rw [srt_len, hours_len]
  have : (srtI (hours l)).getD i 0 ∈ hours l := (srt_mem _ _).1 (getD_mem (by omega))
  obtain ⟨x, h1, h2⟩ := List.mem_map.1 this
  obtain ⟨k, hk, rfl⟩ := mem_getD zeroQ h1
  rw [← h2]; exact (o.ok k hk).at_
set_option maxHeartbeats 2000000 in
theorem kHold (f : Fleet) (l : List Rq) (q : Prem) (ht : f.t.length ≤ 4294967296) (hb : f.b.length ≤ 4294967296) (hs : shortI f.t) {H : Heap} {i0 i1 i2 : Nat} {o0 o1 o2 : Bool} {z0 z1 z2 : Nat} (e0 : H[i0]? = some (.cells o0 z0 (inL f.t))) (e1 : H[i1]? = some (.cells o1 z1 (f.b.flatMap intC))) (e2 : H[i2]? = some (.cells o2 z2 (l.flatMap rqC))) :
    KCall prog 37 [fleetV f i0 i1, .slice (some ⟨i2, 0, some 2⟩) l.length l.length, .agg ⟨preC q⟩] H [] (Is (hV (fHold f l q)) H) := by
  refine valRx (Eq.mpr (EHold _ f l q) ?_) ⟨inL_b 0 _, plainIL 0 _, plainRQ 0 _, trivial⟩ rfl (ids := [i0, i1, i2]) ⟨⟨_, _, e0⟩, ⟨_, _, e1⟩, ⟨_, _, e2⟩, trivial⟩ rfl
  unfold RHold
  refine ⟨⟨rfl, rfl, trivial⟩, fun H' _ hd => kFl f ht hb hs hd.1 hd.2.1, ⟨rfl, rfl, rfl, trivial⟩, fun H' _ hd => kRq f l ht hd.1 hd.2.1 hd.2.2.1, trivial, fun H' _ _ => kPre q H',
    forkNe (fun h => ⟨bEq (by simpa using h), hEqV (errH_1 h)⟩) (fun h0 => forkNe (fun h => ⟨bEq (by simpa using h), hEqV (errH_2 h0 h)⟩) (fun h1 => forkNe (fun h => ⟨bEq (by simpa using h), hEqV (errH_3 h0 h1 h)⟩) (fun h2 => ⟨rfl, Nat.zero_le _, ?_, fun _ => rfl, ?_⟩)))⟩
  · repeat' first | exact inL_b _ _ | exact plainIL _ _ | exact plainRQ _ _ | exact (inV_rn _ 0 _).symm | exact wk_QR | exact trivial | exact rfl | exact wk_refl _ | refine wkO_cells ?_ | refine wks_cons ?_ ?_ | exact wks_nil | exact wk_nil _ _ _ (.inl rfl) | (exact wk_Q (by omega)) | refine wk_tupL ?_ | refine wk_aggL ?_ | refine joinMax ?_ ?_ ?_ | refine joinMin ?_ ?_ ?_ | refine toMax ?_ | refine toMin ?_ | refine ⟨rfl, ?_⟩ | refine ⟨trivial, ?_⟩ | (refine forkD (fun h => ?_) (fun h => ?_)) | (refine forkNe (fun h => ?_) (fun h => ?_)) | (refine forkEq (fun h => ?_) (fun h => ?_)) | refine forkNot ?_ | (refine ⟨vI64 (by omega), ?_⟩) | (refine And.intro (by omega) ?_) | apply And.intro | (exact iEq (by omega)) | (exact vI64 (by omega))
  have hF := errH_0 h0 h1 h2
  have o := flOk h0
  have ol := lsOk h1
  have p := preOk h2
  have n1 := o.n1
  have n2 := o.n2
  have hl30 := ol.len
  obtain ⟨b1, b2⟩ := p.burst
  obtain ⟨p1, p2⟩ := p.period
  obtain ⟨s1, s2⟩ := p.service
  rw [hF, hold_split]
  intro x hx
  refine forkD (fun k => ?_) (fun k => ?_)
  · have hlt : x < f.t.length := by omega
    have hr := o.row x hlt
    refine ⟨by omega, inL_at hlt (by omega), trivial, fun H' _ _ => kMax _ (hs x hlt) (by omega) (o.el x 0 hlt).1 H', vI64 (by omega), x + 1, by omega, by omega, rfl, ?_⟩
    have : (if maxL (f.t.getD x []) > farTo f x then maxL (f.t.getD x []) else farTo f x) = farTo f (x + 1) := by rw [far_succ hlt]; split <;> omega
    repeat' first | exact inL_b _ _ | exact plainIL _ _ | exact plainRQ _ _ | exact (inV_rn _ 0 _).symm | exact wk_QR | exact iEq this | exact trivial | exact rfl | exact wk_refl _ | refine wkO_cells ?_ | refine wks_cons ?_ ?_ | exact wks_nil | exact wk_nil _ _ _ (.inl rfl) | (exact wk_Q (by omega)) | refine wk_tupL ?_ | refine wk_aggL ?_ | refine joinMax ?_ ?_ ?_ | refine joinMin ?_ ?_ ?_ | refine toMax ?_ | refine toMin ?_ | refine ⟨rfl, ?_⟩ | refine ⟨trivial, ?_⟩ | (refine forkD (fun h => ?_) (fun h => ?_)) | (refine forkNe (fun h => ?_) (fun h => ?_)) | (refine forkEq (fun h => ?_) (fun h => ?_)) | refine forkNot ?_ | (refine ⟨vI64 (by omega), ?_⟩) | (refine And.intro (by omega) ?_) | apply And.intro | (exact iEq (by omega)) | (exact vI64 (by omega))
  obtain rfl : x = f.t.length := by omega
  have hfar := far_bd o f.t.length
  refine ⟨rfl, ⟨Nat.zero_le _, rfl⟩, ?_, fun _ => rfl, ?_⟩
  · repeat' first | exact inL_b _ _ | exact plainIL _ _ | exact plainRQ _ _ | exact (inV_rn _ 0 _).symm | exact wk_QR | exact trivial | exact rfl | exact wk_refl _ | refine wkO_cells ?_ | refine wks_cons ?_ ?_ | exact wks_nil | exact wk_nil _ _ _ (.inl rfl) | (exact wk_Q (by omega)) | refine wk_tupL ?_ | refine wk_aggL ?_ | refine joinMax ?_ ?_ ?_ | refine joinMin ?_ ?_ ?_ | refine toMax ?_ | refine toMin ?_ | refine ⟨rfl, ?_⟩ | refine ⟨trivial, ?_⟩ | (refine forkD (fun h => ?_) (fun h => ?_)) | (refine forkNe (fun h => ?_) (fun h => ?_)) | (refine forkEq (fun h => ?_) (fun h => ?_)) | refine forkNot ?_ | (refine ⟨vI64 (by omega), ?_⟩) | (refine And.intro (by omega) ?_) | apply And.intro | (exact iEq (by omega)) | (exact vI64 (by omega))
  rintro y ⟨hy, hfit⟩
  have hyt : (l.take y).length = y := take_len hy
  refine forkD (fun k => ?_) (fun k => ?_)
  · have hlt : y < l.length := by omega
    have hq := ol.ok y hlt
    have hql := hq.len
    have hsn := hours_snoc hlt
    refine ⟨by omega, partQ hlt (by omega), vI64 (by omega), forkD (fun h => hEqV ?_) (fun h => ?_)⟩
    · rw [all_at (d := zeroQ) hlt (show fits f q (l.getD y zeroQ) = false from decide_eq_false (by omega))]; rfl
    · refine ⟨⟨by omega, by decide, ⟨Nat.le_refl _, by rw [flat_len intC_len, hours_len, hyt]; omega⟩, ⟨Nat.le_refl _, Nat.le_refl _⟩, rfl⟩, rfl, vI64 (by omega), y + 1, ⟨by omega, all_snoc (d := zeroQ) hlt hfit (decide_eq_true (by omega))⟩, by omega, rfl, ?_⟩
      repeat' first | exact inL_b _ _ | exact plainIL _ _ | exact plainRQ _ _ | exact (inV_rn _ 0 _).symm | exact wk_QR | (exact congrArg (fun l => some (KObj.cells true 1 l)) (by rw [hsn]; exact flat_snoc intC_len _ _ (by rw [hours_len, hyt]))) | exact trivial | exact rfl | exact wk_refl _ | refine wkO_cells ?_ | refine wks_cons ?_ ?_ | exact wks_nil | exact wk_nil _ _ _ (.inl rfl) | (exact wk_Q (by omega)) | refine wk_tupL ?_ | refine wk_aggL ?_ | refine joinMax ?_ ?_ ?_ | refine joinMin ?_ ?_ ?_ | refine toMax ?_ | refine toMin ?_ | refine ⟨rfl, ?_⟩ | refine ⟨trivial, ?_⟩ | (refine forkD (fun h => ?_) (fun h => ?_)) | (refine forkNe (fun h => ?_) (fun h => ?_)) | (refine forkEq (fun h => ?_) (fun h => ?_)) | refine forkNot ?_ | (refine ⟨vI64 (by omega), ?_⟩) | (refine And.intro (by omega) ?_) | apply And.intro | (exact iEq (by omega)) | (exact vI64 (by omega))
  obtain rfl : y = l.length := by omega
  rw [List.take_length] at hfit ⊢
  rw [hfit, Bool.true_and]
  have hSl : (srtI (hours l)).length = l.length := by rw [srt_len, hours_len]
  refine ⟨⟨rfl, trivial⟩, fun H' _ hd => ?_, rfl, ⟨Nat.zero_le _, rfl⟩, ?_, fun _ => rfl, ?_⟩
  · have := kSort (L0 := hours l) (by rw [hours_len]; omega) hd.1
    rw [hours_len] at this; exact this
  · repeat' first | exact inL_b _ _ | exact plainIL _ _ | exact plainRQ _ _ | exact (inV_rn _ 0 _).symm | exact wk_QR | exact trivial | exact rfl | exact wk_refl _ | refine wkO_cells ?_ | refine wks_cons ?_ ?_ | exact wks_nil | exact wk_nil _ _ _ (.inl rfl) | (exact wk_Q (by omega)) | refine wk_tupL ?_ | refine wk_aggL ?_ | refine joinMax ?_ ?_ ?_ | refine joinMin ?_ ?_ ?_ | refine toMax ?_ | refine toMin ?_ | refine ⟨rfl, ?_⟩ | refine ⟨trivial, ?_⟩ | (refine forkD (fun h => ?_) (fun h => ?_)) | (refine forkNe (fun h => ?_) (fun h => ?_)) | (refine forkEq (fun h => ?_) (fun h => ?_)) | refine forkNot ?_ | (refine ⟨vI64 (by omega), ?_⟩) | (refine And.intro (by omega) ?_) | apply And.intro | (exact iEq (by omega)) | (exact vI64 (by omega))
  rintro i ⟨hi, hrow⟩
  refine forkD (fun k => ?_) (fun k => ?_)
  · have hlt : i < l.length := by omega
    have hbi := srt_bd ol hlt
    refine ⟨by omega, intAt (by omega) (by omega), ⟨⟨.inr (.inr rfl), Nat.le_refl _⟩, Nat.le_refl _, by omega⟩, rfl, rfl, ⟨Nat.zero_le _, rfl⟩, ?_, fun _ => rfl, ?_⟩
    · repeat' first | exact inL_b _ _ | exact plainIL _ _ | exact plainRQ _ _ | exact (inV_rn _ 0 _).symm | exact wk_QR | exact trivial | exact rfl | exact wk_refl _ | refine wkO_cells ?_ | refine wks_cons ?_ ?_ | exact wks_nil | exact wk_nil _ _ _ (.inl rfl) | (exact wk_Q (by omega)) | refine wk_tupL ?_ | refine wk_aggL ?_ | refine joinMax ?_ ?_ ?_ | refine joinMin ?_ ?_ ?_ | refine toMax ?_ | refine toMin ?_ | refine ⟨rfl, ?_⟩ | refine ⟨trivial, ?_⟩ | (refine forkD (fun h => ?_) (fun h => ?_)) | (refine forkNe (fun h => ?_) (fun h => ?_)) | (refine forkEq (fun h => ?_) (fun h => ?_)) | refine forkNot ?_ | (refine ⟨vI64 (by omega), ?_⟩) | (refine And.intro (by omega) ?_) | apply And.intro | (exact iEq (by omega)) | (exact vI64 (by omega))
    rintro c ⟨hc, hcell⟩
    refine forkD (fun k => ?_) (fun k => ?_)
    · have hlc : i + c < l.length := by omega
      have hbc := srt_bd ol hlc
      have hm := srt_mono (L := hours l) (i := i) (j := i + c) (by omega) (by rw [hours_len]; omega)
      have hdv := tdivE (a := (srtI (hours l)).getD (i + c) 0 - (srtI (hours l)).getD i 0 + 1) (b := q.period) (by omega)
      have d1 := div_in (a := (srtI (hours l)).getD (i + c) 0 - (srtI (hours l)).getD i 0 + 1) (by omega) p1
      have hok : okCell (srtI (hours l)) q i c = decide ((c : Int) + 1 ≤ q.burst + ((srtI (hours l)).getD (i + c) 0 - (srtI (hours l)).getD i 0 + 1) / q.period) := rfl
      rw [hdv]
      refine ⟨by omega, intAt (by omega) (by omega), vI64 (by omega), vI64 (by omega), vI64 (by omega), by omega, vI64 (by omega), vI64 (by omega), forkD (fun h => hEqV ?_) (fun h => ⟨vI64 (by omega), c + 1, ⟨by omega, rng_snoc hcell (hok.trans (decide_eq_true (by omega)))⟩, by omega, rfl, ?_⟩)⟩
      · rw [rng_at hlt (show okRow (srtI (hours l)) q i = false from rng_at (by omega) (hok.trans (decide_eq_false (by omega))))]
      · repeat' first | exact inL_b _ _ | exact plainIL _ _ | exact plainRQ _ _ | exact (inV_rn _ 0 _).symm | exact wk_QR | exact trivial | exact rfl | exact wk_refl _ | refine wkO_cells ?_ | refine wks_cons ?_ ?_ | exact wks_nil | exact wk_nil _ _ _ (.inl rfl) | (exact wk_Q (by omega)) | refine wk_tupL ?_ | refine wk_aggL ?_ | refine joinMax ?_ ?_ ?_ | refine joinMin ?_ ?_ ?_ | refine toMax ?_ | refine toMin ?_ | refine ⟨rfl, ?_⟩ | refine ⟨trivial, ?_⟩ | (refine forkD (fun h => ?_) (fun h => ?_)) | (refine forkNe (fun h => ?_) (fun h => ?_)) | (refine forkEq (fun h => ?_) (fun h => ?_)) | refine forkNot ?_ | (refine ⟨vI64 (by omega), ?_⟩) | (refine And.intro (by omega) ?_) | apply And.intro | (exact iEq (by omega)) | (exact vI64 (by omega))
    · refine ⟨vI64 (by omega), i + 1, ⟨by omega, rng_snoc hrow ?_⟩, by omega, rfl, ?_⟩
      · unfold okRow; rw [show (srtI (hours l)).length - i = c by omega]; exact hcell
      · repeat' first | exact inL_b _ _ | exact plainIL _ _ | exact plainRQ _ _ | exact (inV_rn _ 0 _).symm | exact wk_QR | exact trivial | exact rfl | exact wk_refl _ | refine wkO_cells ?_ | refine wks_cons ?_ ?_ | exact wks_nil | exact wk_nil _ _ _ (.inl rfl) | (exact wk_Q (by omega)) | refine wk_tupL ?_ | refine wk_aggL ?_ | refine joinMax ?_ ?_ ?_ | refine joinMin ?_ ?_ ?_ | refine toMax ?_ | refine toMin ?_ | refine ⟨rfl, ?_⟩ | refine ⟨trivial, ?_⟩ | (refine forkD (fun h => ?_) (fun h => ?_)) | (refine forkNe (fun h => ?_) (fun h => ?_)) | (refine forkEq (fun h => ?_) (fun h => ?_)) | refine forkNot ?_ | (refine ⟨vI64 (by omega), ?_⟩) | (refine And.intro (by omega) ?_) | apply And.intro | (exact iEq (by omega)) | (exact vI64 (by omega))
  · obtain rfl : i = l.length := by omega
    exact hEqV (by rw [hrow])
end
end Go.Proofs.YthdekmpkioikdaaGreat
/- Request: the reference's Hold. No condition. -/
namespace Go.Proofs.YthdekmpkioikdaaGreat
open Go Go.K
set_option maxRecDepth 100000
set_option linter.unusedVariables false
set_option linter.unusedSimpArgs false
noncomputable section
attribute [local irreducible] vF
theorem atAt {l : List Rq} {k : Nat} (h : k < l.length) {off : Nat} (ho : off = k * 7 + 1) : (l.flatMap rqC)[off]? = some (.int .i64 (l.getD k zeroQ).at_) := cell_at (n := 7) (d := zeroQ) (c := 1) rqC_len h ho rfl
theorem lenAt {l : List Rq} {k : Nat} (h : k < l.length) {off : Nat} (ho : off = k * 7 + 4) : (l.flatMap rqC)[off]? = some (.int .i64 (l.getD k zeroQ).len) := cell_at (n := 7) (d := zeroQ) (c := 4) rqC_len h ho rfl
theorem cnt_succ {l : List Rq} {a b : Int} {k : Nat} (h : k < l.length) : cntIn l a b (k + 1) = cntIn l a b k + (if a ≤ (l.getD k zeroQ).at_ ∧ (l.getD k zeroQ).at_ ≤ b then 1 else 0) := by
  unfold cntIn
  rw [take_snoc (d := zeroQ) h, List.filter_append, List.length_append]
  congr 1
  by_cases hc : a ≤ (l.getD k zeroQ).at_ ∧ (l.getD k zeroQ).at_ ≤ b
  · rw [if_pos hc, List.filter_cons, if_pos (by rw [decide_eq_true hc.1, decide_eq_true hc.2]; rfl)]; rfl
  · rw [if_neg hc, List.filter_cons, if_neg (by rw [Bool.and_eq_true]; exact fun h => hc ⟨of_decide_eq_true h.1, of_decide_eq_true h.2⟩)]; rfl
theorem cnt_le (l : List Rq) (a b : Int) (k : Nat) : cntIn l a b k ≤ k := by
  unfold cntIn; exact Nat.le_trans (List.length_filter_le _ _) (by rw [List.length_take]; omega)
set_option maxHeartbeats 2000000 in
theorem krHold (f : Fleet) (l : List Rq) (q : Prem) (ht : f.t.length ≤ 4294967296) (hb : f.b.length ≤ 4294967296) (hs : shortI f.t) {H : Heap} {i0 i1 i2 : Nat} {o0 o1 o2 : Bool} {z0 z1 z2 : Nat} (e0 : H[i0]? = some (.cells o0 z0 (inL f.t))) (e1 : H[i1]? = some (.cells o1 z1 (f.b.flatMap intC))) (e2 : H[i2]? = some (.cells o2 z2 (l.flatMap rqC))) :
    KCall prog 38 [fleetV f i0 i1, .slice (some ⟨i2, 0, some 2⟩) l.length l.length, .agg ⟨preC q⟩] H [] (Is (hV (fHold f l q)) H) := by
  refine valRx (Eq.mpr (ErHold _ f l q) ?_) ⟨inL_b 0 _, plainIL 0 _, plainRQ 0 _, trivial⟩ rfl (ids := [i0, i1, i2]) ⟨⟨_, _, e0⟩, ⟨_, _, e1⟩, ⟨_, _, e2⟩, trivial⟩ rfl
  unfold RrHold
  refine ⟨⟨rfl, rfl, rfl, trivial⟩, fun H' _ hd => kTwo f l ht hb hs hd.1 hd.2.1 hd.2.2.1, forkNe (fun h => hEqV ?_) (fun h01 => ?_)⟩
  · by_cases h0 : errFl f = 0
    · rw [first2_2 h0] at h ⊢; exact errH_2 h0 h
    · rw [first2_1 h0]; exact errH_1 h0
  obtain ⟨h0, h1⟩ := first2_0 h01
  refine ⟨trivial, fun H' _ _ => krPre q H', forkNe (fun h => hEqV (errH_3 h0 h1 h)) (fun h2 => ⟨rfl, Nat.zero_le _, ?_, fun _ => rfl, ?_⟩)⟩
  · repeat' first | exact inL_b _ _ | exact plainIL _ _ | exact plainRQ _ _ | exact (inV_rn _ 0 _).symm | exact wk_QR | exact trivial | exact rfl | exact wk_refl _ | refine wkO_cells ?_ | refine wks_cons ?_ ?_ | exact wks_nil | exact wk_nil _ _ _ (.inl rfl) | (exact wk_Q (by omega)) | refine wk_tupL ?_ | refine wk_aggL ?_ | refine joinMax ?_ ?_ ?_ | refine joinMin ?_ ?_ ?_ | refine toMax ?_ | refine toMin ?_ | refine ⟨rfl, ?_⟩ | refine ⟨trivial, ?_⟩ | (refine forkD (fun h => ?_) (fun h => ?_)) | (refine forkNe (fun h => ?_) (fun h => ?_)) | (refine forkEq (fun h => ?_) (fun h => ?_)) | refine forkNot ?_ | (refine ⟨vI64 (by omega), ?_⟩) | (refine And.intro (by omega) ?_) | apply And.intro | (exact iEq (by omega)) | (exact vI64 (by omega))
  have hF := errH_0 h0 h1 h2
  have o := flOk h0
  have ol := lsOk h1
  have p := preOk h2
  have n1 := o.n1
  have n2 := o.n2
  have hl30 := ol.len
  obtain ⟨b1, b2⟩ := p.burst
  obtain ⟨p1, p2⟩ := p.period
  obtain ⟨s1, s2⟩ := p.service
  rw [hF]
  intro x hx
  refine forkD (fun k => ?_) (fun k => ?_)
  · have hlt : x < f.t.length := by omega
    have hr := o.row x hlt
    refine ⟨rfl, Nat.zero_le _, ?_, fun _ => rfl, ?_⟩
    · rw [farAt_0 o]
      repeat' first | exact inL_b _ _ | exact plainIL _ _ | exact plainRQ _ _ | exact (inV_rn _ 0 _).symm | exact wk_QR | exact trivial | exact rfl | exact wk_refl _ | refine wkO_cells ?_ | refine wks_cons ?_ ?_ | exact wks_nil | exact wk_nil _ _ _ (.inl rfl) | (exact wk_Q (by omega)) | refine wk_tupL ?_ | refine wk_aggL ?_ | refine joinMax ?_ ?_ ?_ | refine joinMin ?_ ?_ ?_ | refine toMax ?_ | refine toMin ?_ | refine ⟨rfl, ?_⟩ | refine ⟨trivial, ?_⟩ | (refine forkD (fun h => ?_) (fun h => ?_)) | (refine forkNe (fun h => ?_) (fun h => ?_)) | (refine forkEq (fun h => ?_) (fun h => ?_)) | refine forkNot ?_ | (refine ⟨vI64 (by omega), ?_⟩) | (refine And.intro (by omega) ?_) | apply And.intro | (exact iEq (by omega)) | (exact vI64 (by omega))
    intro y hy
    refine forkD (fun k => ?_) (fun k => ?_)
    · have hly : y < (f.t.getD x []).length := by omega
      refine ⟨by omega, inL_at hlt (by omega), by omega, intAt hly (by omega), vI64 (by omega), y + 1, by omega, by omega, rfl, ?_⟩
      have : (if (f.t.getD x []).getD y 0 > farAt f x y then (f.t.getD x []).getD y 0 else farAt f x y) = farAt f x (y + 1) := by rw [farAt_succ hly]; split <;> omega
      repeat' first | exact inL_b _ _ | exact plainIL _ _ | exact plainRQ _ _ | exact (inV_rn _ 0 _).symm | exact wk_QR | exact iEq this | exact trivial | exact rfl | exact wk_refl _ | refine wkO_cells ?_ | refine wks_cons ?_ ?_ | exact wks_nil | exact wk_nil _ _ _ (.inl rfl) | (exact wk_Q (by omega)) | refine wk_tupL ?_ | refine wk_aggL ?_ | refine joinMax ?_ ?_ ?_ | refine joinMin ?_ ?_ ?_ | refine toMax ?_ | refine toMin ?_ | refine ⟨rfl, ?_⟩ | refine ⟨trivial, ?_⟩ | (refine forkD (fun h => ?_) (fun h => ?_)) | (refine forkNe (fun h => ?_) (fun h => ?_)) | (refine forkEq (fun h => ?_) (fun h => ?_)) | refine forkNot ?_ | (refine ⟨vI64 (by omega), ?_⟩) | (refine And.intro (by omega) ?_) | apply And.intro | (exact iEq (by omega)) | (exact vI64 (by omega))
    · obtain rfl : y = f.t.length := by omega
      refine ⟨vI64 (by omega), x + 1, by omega, by omega, rfl, ?_⟩
      repeat' first | exact inL_b _ _ | exact plainIL _ _ | exact plainRQ _ _ | exact (inV_rn _ 0 _).symm | exact wk_QR | exact iEq (farAt_end o hlt) | exact trivial | exact rfl | exact wk_refl _ | refine wkO_cells ?_ | refine wks_cons ?_ ?_ | exact wks_nil | exact wk_nil _ _ _ (.inl rfl) | (exact wk_Q (by omega)) | refine wk_tupL ?_ | refine wk_aggL ?_ | refine joinMax ?_ ?_ ?_ | refine joinMin ?_ ?_ ?_ | refine toMax ?_ | refine toMin ?_ | refine ⟨rfl, ?_⟩ | refine ⟨trivial, ?_⟩ | (refine forkD (fun h => ?_) (fun h => ?_)) | (refine forkNe (fun h => ?_) (fun h => ?_)) | (refine forkEq (fun h => ?_) (fun h => ?_)) | refine forkNot ?_ | (refine ⟨vI64 (by omega), ?_⟩) | (refine And.intro (by omega) ?_) | apply And.intro | (exact iEq (by omega)) | (exact vI64 (by omega))
  obtain rfl : x = f.t.length := by omega
  have hfar := far_bd o f.t.length
  refine ⟨rfl, ⟨Nat.zero_le _, rfl⟩, ?_, fun _ => rfl, ?_⟩
  · repeat' first | exact inL_b _ _ | exact plainIL _ _ | exact plainRQ _ _ | exact (inV_rn _ 0 _).symm | exact wk_QR | exact trivial | exact rfl | exact wk_refl _ | refine wkO_cells ?_ | refine wks_cons ?_ ?_ | exact wks_nil | exact wk_nil _ _ _ (.inl rfl) | (exact wk_Q (by omega)) | refine wk_tupL ?_ | refine wk_aggL ?_ | refine joinMax ?_ ?_ ?_ | refine joinMin ?_ ?_ ?_ | refine toMax ?_ | refine toMin ?_ | refine ⟨rfl, ?_⟩ | refine ⟨trivial, ?_⟩ | (refine forkD (fun h => ?_) (fun h => ?_)) | (refine forkNe (fun h => ?_) (fun h => ?_)) | (refine forkEq (fun h => ?_) (fun h => ?_)) | refine forkNot ?_ | (refine ⟨vI64 (by omega), ?_⟩) | (refine And.intro (by omega) ?_) | apply And.intro | (exact iEq (by omega)) | (exact vI64 (by omega))
  rintro i ⟨hi, hall⟩
  refine forkD (fun k => ?_) (fun k => hEqV (by rw [show holdOk f l q = true from all_end (by omega) hall]))
  have hlt : i < l.length := by omega
  have hq := ol.ok i hlt
  have hql := hq.len
  have hqa := hq.at_
  refine ⟨by omega, lenAt hlt (by omega), vI64 (by omega), forkD (fun h => hEqV ?_) (fun hfit => ⟨rfl, ⟨Nat.zero_le _, rfl⟩, ?_, fun _ => rfl, ?_⟩)⟩
  · rw [show holdOk f l q = false from all_at (d := zeroQ) hlt (show holdAt f l q (l.getD i zeroQ) = false by unfold holdAt fits; rw [decide_eq_false (by omega)]; rfl)]
  · repeat' first | exact inL_b _ _ | exact plainIL _ _ | exact plainRQ _ _ | exact (inV_rn _ 0 _).symm | exact wk_QR | exact trivial | exact rfl | exact wk_refl _ | refine wkO_cells ?_ | refine wks_cons ?_ ?_ | exact wks_nil | exact wk_nil _ _ _ (.inl rfl) | (exact wk_Q (by omega)) | refine wk_tupL ?_ | refine wk_aggL ?_ | refine joinMax ?_ ?_ ?_ | refine joinMin ?_ ?_ ?_ | refine toMax ?_ | refine toMin ?_ | refine ⟨rfl, ?_⟩ | refine ⟨trivial, ?_⟩ | (refine forkD (fun h => ?_) (fun h => ?_)) | (refine forkNe (fun h => ?_) (fun h => ?_)) | (refine forkEq (fun h => ?_) (fun h => ?_)) | refine forkNot ?_ | (refine ⟨vI64 (by omega), ?_⟩) | (refine And.intro (by omega) ?_) | apply And.intro | (exact iEq (by omega)) | (exact vI64 (by omega))
  have hfi : fits f q (l.getD i zeroQ) = true := decide_eq_true (by omega)
  rintro c ⟨hc, hpr⟩
  refine forkD (fun k => ?_) (fun k => ?_)
  · have hlc : c < l.length := by omega
    have hca := (ol.ok c hlc).at_
    refine ⟨by omega, atAt hlc (by omega), by omega, atAt hlt (by omega), forkD (fun h => ⟨vI64 (by omega), c + 1, ⟨by omega, all_snoc (d := zeroQ) hlc hpr (by unfold pairOk; rw [decide_eq_true h]; rfl)⟩, by omega, rfl, ?_⟩) (fun hle => ⟨rfl, Nat.zero_le _, ?_, fun _ => rfl, ?_⟩)⟩
    · repeat' first | exact inL_b _ _ | exact plainIL _ _ | exact plainRQ _ _ | exact (inV_rn _ 0 _).symm | exact wk_QR | exact trivial | exact rfl | exact wk_refl _ | refine wkO_cells ?_ | refine wks_cons ?_ ?_ | exact wks_nil | exact wk_nil _ _ _ (.inl rfl) | (exact wk_Q (by omega)) | refine wk_tupL ?_ | refine wk_aggL ?_ | refine joinMax ?_ ?_ ?_ | refine joinMin ?_ ?_ ?_ | refine toMax ?_ | refine toMin ?_ | refine ⟨rfl, ?_⟩ | refine ⟨trivial, ?_⟩ | (refine forkD (fun h => ?_) (fun h => ?_)) | (refine forkNe (fun h => ?_) (fun h => ?_)) | (refine forkEq (fun h => ?_) (fun h => ?_)) | refine forkNot ?_ | (refine ⟨vI64 (by omega), ?_⟩) | (refine And.intro (by omega) ?_) | apply And.intro | (exact iEq (by omega)) | (exact vI64 (by omega))
    · repeat' first | exact inL_b _ _ | exact plainIL _ _ | exact plainRQ _ _ | exact (inV_rn _ 0 _).symm | exact wk_QR | exact trivial | exact rfl | exact wk_refl _ | refine wkO_cells ?_ | refine wks_cons ?_ ?_ | exact wks_nil | exact wk_nil _ _ _ (.inl rfl) | (exact wk_Q (by omega)) | refine wk_tupL ?_ | refine wk_aggL ?_ | refine joinMax ?_ ?_ ?_ | refine joinMin ?_ ?_ ?_ | refine toMax ?_ | refine toMin ?_ | refine ⟨rfl, ?_⟩ | refine ⟨trivial, ?_⟩ | (refine forkD (fun h => ?_) (fun h => ?_)) | (refine forkNe (fun h => ?_) (fun h => ?_)) | (refine forkEq (fun h => ?_) (fun h => ?_)) | refine forkNot ?_ | (refine ⟨vI64 (by omega), ?_⟩) | (refine And.intro (by omega) ?_) | apply And.intro | (exact iEq (by omega)) | (exact vI64 (by omega))
    intro z hz
    have hcl := cnt_le l (l.getD i zeroQ).at_ (l.getD c zeroQ).at_ z
    refine forkD (fun k => ?_) (fun k => ?_)
    · have hlz : z < l.length := by omega
      have hcs := cnt_succ (a := (l.getD i zeroQ).at_) (b := (l.getD c zeroQ).at_) hlz
      refine ⟨by omega, atAt hlz (by omega), by omega, atAt hlt (by omega), forkD (fun ha => ⟨by omega, atAt hlz (by omega), by omega, atAt hlc (by omega), rfl, fun h => ⟨vI64 (by omega), _, .inl ⟨h, rfl, trivial⟩, ?_⟩, fun h => ⟨_, .inr ⟨h, rfl, trivial⟩, ?_⟩, ?_⟩) (fun ha => ⟨vI64 (by omega), z + 1, by omega, by omega, rfl, ?_⟩)⟩
      · repeat' first | exact inL_b _ _ | exact plainIL _ _ | exact plainRQ _ _ | exact (inV_rn _ 0 _).symm | exact wk_QR | exact trivial | exact rfl | exact wk_refl _ | refine wkO_cells ?_ | refine wks_cons ?_ ?_ | exact wks_nil | exact wk_nil _ _ _ (.inl rfl) | (exact wk_Q (by omega)) | refine wk_tupL ?_ | refine wk_aggL ?_ | refine joinMax ?_ ?_ ?_ | refine joinMin ?_ ?_ ?_ | refine toMax ?_ | refine toMin ?_ | refine ⟨rfl, ?_⟩ | refine ⟨trivial, ?_⟩ | (refine forkD (fun h => ?_) (fun h => ?_)) | (refine forkNe (fun h => ?_) (fun h => ?_)) | (refine forkEq (fun h => ?_) (fun h => ?_)) | refine forkNot ?_ | (refine ⟨vI64 (by omega), ?_⟩) | (refine And.intro (by omega) ?_) | apply And.intro | (exact iEq (by omega)) | (exact vI64 (by omega))
      · repeat' first | exact inL_b _ _ | exact plainIL _ _ | exact plainRQ _ _ | exact (inV_rn _ 0 _).symm | exact wk_QR | exact trivial | exact rfl | exact wk_refl _ | refine wkO_cells ?_ | refine wks_cons ?_ ?_ | exact wks_nil | exact wk_nil _ _ _ (.inl rfl) | (exact wk_Q (by omega)) | refine wk_tupL ?_ | refine wk_aggL ?_ | refine joinMax ?_ ?_ ?_ | refine joinMin ?_ ?_ ?_ | refine toMax ?_ | refine toMin ?_ | refine ⟨rfl, ?_⟩ | refine ⟨trivial, ?_⟩ | (refine forkD (fun h => ?_) (fun h => ?_)) | (refine forkNe (fun h => ?_) (fun h => ?_)) | (refine forkEq (fun h => ?_) (fun h => ?_)) | refine forkNot ?_ | (refine ⟨vI64 (by omega), ?_⟩) | (refine And.intro (by omega) ?_) | apply And.intro | (exact iEq (by omega)) | (exact vI64 (by omega))
      · intro y hy
        have hy : y = ((cntIn l (l.getD i zeroQ).at_ (l.getD c zeroQ).at_ (z + 1) : Nat) : Int) := by
          rcases hy with ⟨h, e, _⟩ | ⟨h, e, _⟩
          · rw [hcs, if_pos ⟨ha, of_decide_eq_true h⟩, e]; omega
          · rw [hcs, if_neg (fun k => of_decide_eq_false h k.2), e]; omega
        refine ⟨vI64 (by omega), z + 1, by omega, by omega, rfl, ?_⟩
        repeat' first | exact inL_b _ _ | exact plainIL _ _ | exact plainRQ _ _ | exact (inV_rn _ 0 _).symm | exact wk_QR | exact iEq hy | exact trivial | exact rfl | exact wk_refl _ | refine wkO_cells ?_ | refine wks_cons ?_ ?_ | exact wks_nil | exact wk_nil _ _ _ (.inl rfl) | (exact wk_Q (by omega)) | refine wk_tupL ?_ | refine wk_aggL ?_ | refine joinMax ?_ ?_ ?_ | refine joinMin ?_ ?_ ?_ | refine toMax ?_ | refine toMin ?_ | refine ⟨rfl, ?_⟩ | refine ⟨trivial, ?_⟩ | (refine forkD (fun h => ?_) (fun h => ?_)) | (refine forkNe (fun h => ?_) (fun h => ?_)) | (refine forkEq (fun h => ?_) (fun h => ?_)) | refine forkNot ?_ | (refine ⟨vI64 (by omega), ?_⟩) | (refine And.intro (by omega) ?_) | apply And.intro | (exact iEq (by omega)) | (exact vI64 (by omega))
      · rw [hcs, if_neg (fun k => ha k.1)]
        repeat' first | exact inL_b _ _ | exact plainIL _ _ | exact plainRQ _ _ | exact (inV_rn _ 0 _).symm | exact wk_QR | exact trivial | exact rfl | exact wk_refl _ | refine wkO_cells ?_ | refine wks_cons ?_ ?_ | exact wks_nil | exact wk_nil _ _ _ (.inl rfl) | (exact wk_Q (by omega)) | refine wk_tupL ?_ | refine wk_aggL ?_ | refine joinMax ?_ ?_ ?_ | refine joinMin ?_ ?_ ?_ | refine toMax ?_ | refine toMin ?_ | refine ⟨rfl, ?_⟩ | refine ⟨trivial, ?_⟩ | (refine forkD (fun h => ?_) (fun h => ?_)) | (refine forkNe (fun h => ?_) (fun h => ?_)) | (refine forkEq (fun h => ?_) (fun h => ?_)) | refine forkNot ?_ | (refine ⟨vI64 (by omega), ?_⟩) | (refine And.intro (by omega) ?_) | apply And.intro | (exact iEq (by omega)) | (exact vI64 (by omega))
    · obtain rfl : z = l.length := by omega
      have hdv := tdivE (a := (l.getD c zeroQ).at_ - (l.getD i zeroQ).at_ + 1) (b := q.period) (by omega)
      have d1 := div_in (a := (l.getD c zeroQ).at_ - (l.getD i zeroQ).at_ + 1) (by omega) p1
      have hok : pairOk l q (l.getD i zeroQ) (l.getD c zeroQ) = decide (((cntIn l (l.getD i zeroQ).at_ (l.getD c zeroQ).at_ l.length : Nat) : Int) ≤ q.burst + ((l.getD c zeroQ).at_ - (l.getD i zeroQ).at_ + 1) / q.period) := by
        unfold pairOk; rw [decide_eq_false hle]; rfl
      rw [hdv]
      refine ⟨by omega, atAt hlc (by omega), by omega, atAt hlt (by omega), vI64 (by omega), vI64 (by omega), by omega, vI64 (by omega), vI64 (by omega), forkD (fun h => hEqV ?_) (fun h => ⟨vI64 (by omega), c + 1, ⟨by omega, all_snoc (d := zeroQ) hlc hpr (hok.trans (decide_eq_true (by omega)))⟩, by omega, rfl, ?_⟩)⟩
      · rw [show holdOk f l q = false from all_at (d := zeroQ) hlt (show holdAt f l q (l.getD i zeroQ) = false by unfold holdAt; rw [all_at (d := zeroQ) hlc (hok.trans (decide_eq_false (by omega))), Bool.and_false])]
      · repeat' first | exact inL_b _ _ | exact plainIL _ _ | exact plainRQ _ _ | exact (inV_rn _ 0 _).symm | exact wk_QR | exact trivial | exact rfl | exact wk_refl _ | refine wkO_cells ?_ | refine wks_cons ?_ ?_ | exact wks_nil | exact wk_nil _ _ _ (.inl rfl) | (exact wk_Q (by omega)) | refine wk_tupL ?_ | refine wk_aggL ?_ | refine joinMax ?_ ?_ ?_ | refine joinMin ?_ ?_ ?_ | refine toMax ?_ | refine toMin ?_ | refine ⟨rfl, ?_⟩ | refine ⟨trivial, ?_⟩ | (refine forkD (fun h => ?_) (fun h => ?_)) | (refine forkNe (fun h => ?_) (fun h => ?_)) | (refine forkEq (fun h => ?_) (fun h => ?_)) | refine forkNot ?_ | (refine ⟨vI64 (by omega), ?_⟩) | (refine And.intro (by omega) ?_) | apply And.intro | (exact iEq (by omega)) | (exact vI64 (by omega))
  · refine ⟨vI64 (by omega), i + 1, ⟨by omega, all_snoc (d := zeroQ) hlt hall ?_⟩, by omega, rfl, ?_⟩
    · unfold holdAt; rw [hfi, all_end (by omega) hpr]; rfl
    · repeat' first | exact inL_b _ _ | exact plainIL _ _ | exact plainRQ _ _ | exact (inV_rn _ 0 _).symm | exact wk_QR | exact trivial | exact rfl | exact wk_refl _ | refine wkO_cells ?_ | refine wks_cons ?_ ?_ | exact wks_nil | exact wk_nil _ _ _ (.inl rfl) | (exact wk_Q (by omega)) | refine wk_tupL ?_ | refine wk_aggL ?_ | refine joinMax ?_ ?_ ?_ | refine joinMin ?_ ?_ ?_ | refine toMax ?_ | refine toMin ?_ | refine ⟨rfl, ?_⟩ | refine ⟨trivial, ?_⟩ | (refine forkD (fun h => ?_) (fun h => ?_)) | (refine forkNe (fun h => ?_) (fun h => ?_)) | (refine forkEq (fun h => ?_) (fun h => ?_)) | refine forkNot ?_ | (refine ⟨vI64 (by omega), ?_⟩) | (refine And.intro (by omega) ?_) | apply And.intro | (exact iEq (by omega)) | (exact vI64 (by omega))
end
end Go.Proofs.YthdekmpkioikdaaGreat
/- What is to be shown of functions. Printed by a program. No condition. -/
namespace Go.Proofs.YthdekmpkioikdaaGreat
set_option linter.unusedSimpArgs false
open Go Go.K
set_option maxRecDepth 100000
set_option maxHeartbeats 4000000
set_option linter.unusedVariables false
noncomputable section
def RBoundsLaw (sp : Value) (f : Fleet) (l : List Rq) (q : Prem) : Prop :=
  (((some (.cells false 0 (inL f.t) : KObj) = some (.cells false 0 (inL f.t) : KObj)) ∧ (some (.cells false 0 (List.flatMap intC f.b) : KObj) = some (.cells false 0 (List.flatMap intC f.b) : KObj)) ∧ (some (.cells false 0 (List.flatMap rqC l) : KObj) = some (.cells false 0 (List.flatMap rqC l) : KObj)) ∧ True) ∧ (∀ H' : Heap, H'.length = 5 → (H'[0]? = some (.cells false 0 (inL f.t) : KObj) ∧ H'[1]? = some (.cells false 0 (List.flatMap intC f.b) : KObj) ∧ H'[2]? = some (.cells false 0 (List.flatMap rqC l) : KObj) ∧ True) → KCall prog 13 [.agg #[.slice (some ⟨0, 0, some 2⟩) (List.length f.t) (List.length f.t), .slice (some ⟨1, 0, some 2⟩) (List.length f.b) (List.length f.b)], .slice (some ⟨2, 0, some 2⟩) (List.length l) (List.length l)] H' [] (Is (.bool (great f l)) H')) ∧ (((great f l) = true → ((True) ∧ (∀ H' : Heap, H'.length = 5 → (True) → KCall prog 14 [] H' [] (Is (.bool true) H')) ∧ (.bool true : Value) = sp)) ∧ ((great f l) = false → (((some (.cells false 0 (inL f.t) : KObj) = some (.cells false 0 (inL f.t) : KObj)) ∧ (some (.cells false 0 (List.flatMap intC f.b) : KObj) = some (.cells false 0 (List.flatMap intC f.b) : KObj)) ∧ True) ∧ (∀ H' : Heap, H'.length = 5 → (H'[0]? = some (.cells false 0 (inL f.t) : KObj) ∧ H'[1]? = some (.cells false 0 (List.flatMap intC f.b) : KObj) ∧ True) → KCall prog 15 [.agg #[.slice (some ⟨0, 0, some 2⟩) (List.length f.t) (List.length f.t), .slice (some ⟨1, 0, some 2⟩) (List.length f.b) (List.length f.b)]] H' [] (Is (.agg #[.slice (some ⟨5, 0, some 1⟩) (List.length f.t) (List.length f.t), .slice (some ⟨6, 0, some 1⟩) (List.length f.b) (List.length f.b)]) (H' ++ [(.cells true 1 (inL f.t) : KObj), (.cells true 1 (List.flatMap intC f.b) : KObj)]))) ∧ (((some (.cells false 0 (List.flatMap rqC l) : KObj) = some (.cells false 0 (List.flatMap rqC l) : KObj)) ∧ True) ∧ (∀ H' : Heap, H'.length = 7 → (H'[2]? = some (.cells false 0 (List.flatMap rqC l) : KObj) ∧ True) → KCall prog 16 [.slice (some ⟨2, 0, some 2⟩) (List.length l) (List.length l)] H' [] (Is (.slice (some ⟨7, 0, some 1⟩) (List.length l) (List.length l)) (H' ++ [(.cells true 7 (List.flatMap rqC l) : KObj)]))) ∧ (((some (.cells true 1 (inL f.t) : KObj) = some (.cells true 1 (inL f.t) : KObj)) ∧ (some (.cells true 1 (List.flatMap intC f.b) : KObj) = some (.cells true 1 (List.flatMap intC f.b) : KObj)) ∧ (some (.cells true 7 (List.flatMap rqC l) : KObj) = some (.cells true 7 (List.flatMap rqC l) : KObj)) ∧ True) ∧ (∀ H' : Heap, H'.length = 9 → (H'[5]? = some (.cells true 1 (inL f.t) : KObj) ∧ H'[6]? = some (.cells true 1 (List.flatMap intC f.b) : KObj) ∧ H'[7]? = some (.cells true 7 (List.flatMap rqC l) : KObj) ∧ True) → KCall prog 37 [.agg #[.slice (some ⟨5, 0, some 1⟩) (List.length f.t) (List.length f.t), .slice (some ⟨6, 0, some 1⟩) (List.length f.b) (List.length f.b)], .slice (some ⟨7, 0, some 1⟩) (List.length l) (List.length l), .agg #[.int .i64 q.burst, .int .i64 q.period, .int .i64 q.service]] H' [] (Is (.tuple #[.bool (fHold f l q).1, .int .i64 (fHold f l q).2]) H')) ∧ (((some (.cells false 0 (inL f.t) : KObj) = some (.cells false 0 (inL f.t) : KObj)) ∧ (some (.cells false 0 (List.flatMap intC f.b) : KObj) = some (.cells false 0 (List.flatMap intC f.b) : KObj)) ∧ (some (.cells false 0 (List.flatMap rqC l) : KObj) = some (.cells false 0 (List.flatMap rqC l) : KObj)) ∧ True) ∧ (∀ H' : Heap, H'.length = 9 → (H'[0]? = some (.cells false 0 (inL f.t) : KObj) ∧ H'[1]? = some (.cells false 0 (List.flatMap intC f.b) : KObj) ∧ H'[2]? = some (.cells false 0 (List.flatMap rqC l) : KObj) ∧ True) → KCall prog 38 [.agg #[.slice (some ⟨0, 0, some 2⟩) (List.length f.t) (List.length f.t), .slice (some ⟨1, 0, some 2⟩) (List.length f.b) (List.length f.b)], .slice (some ⟨2, 0, some 2⟩) (List.length l) (List.length l), .agg #[.int .i64 q.burst, .int .i64 q.period, .int .i64 q.service]] H' [] (Is (.tuple #[.bool (fHold f l q).1, .int .i64 (fHold f l q).2]) H')) ∧ (((!((fHold f l q).1 == (fHold f l q).1)) = true → (.bool false : Value) = sp) ∧ ((!((fHold f l q).1 == (fHold f l q).1)) = false → (((((fHold f l q).2 : Int) != (fHold f l q).2) = true → (.bool false : Value) = sp) ∧ ((((fHold f l q).2 : Int) != (fHold f l q).2) = false → (((decide ((0 : Int) < q.period)) = true → (((decide ((0 : Int) < q.service)) = true → (((decide ((q.period : Int) ≤ 200)) = true → (((decide ((q.service : Int) ≤ 200)) = true → ((.int .i64 (IntKind.wrap .i64 (q.period * q.service)) : Value) = .int .i64 (q.period * q.service) ∧ (((decide ((4000 : Int) < (q.period * q.service))) = true → ((True) ∧ (∀ H' : Heap, H'.length = 9 → (True) → KCall prog 14 [] H' [] (Is (.bool true) H')) ∧ (.bool true : Value) = sp)) ∧ ((decide ((4000 : Int) < (q.period * q.service))) = false → (((some (.cells true 1 (inL f.t) : KObj) = some (.cells true 1 (inL f.t) : KObj)) ∧ (some (.cells true 1 (List.flatMap intC f.b) : KObj) = some (.cells true 1 (List.flatMap intC f.b) : KObj)) ∧ True) ∧ (∀ H' : Heap, H'.length = 9 → (H'[5]? = some (.cells true 1 (inL f.t) : KObj) ∧ H'[6]? = some (.cells true 1 (List.flatMap intC f.b) : KObj) ∧ True) → KCall prog 39 [.agg #[.slice (some ⟨5, 0, some 1⟩) (List.length f.t) (List.length f.t), .slice (some ⟨6, 0, some 1⟩) (List.length f.b) (List.length f.b)], .agg #[.int .i64 q.burst, .int .i64 q.period, .int .i64 q.service]] H' [] (Is (.tuple #[.int .i64 (fBound f q).1, .int .i64 (fBound f q).2]) H')) ∧ (((some (.cells false 0 (inL f.t) : KObj) = some (.cells false 0 (inL f.t) : KObj)) ∧ (some (.cells false 0 (List.flatMap intC f.b) : KObj) = some (.cells false 0 (List.flatMap intC f.b) : KObj)) ∧ True) ∧ (∀ H' : Heap, H'.length = 9 → (H'[0]? = some (.cells false 0 (inL f.t) : KObj) ∧ H'[1]? = some (.cells false 0 (List.flatMap intC f.b) : KObj) ∧ True) → KCall prog 40 [.agg #[.slice (some ⟨0, 0, some 2⟩) (List.length f.t) (List.length f.t), .slice (some ⟨1, 0, some 2⟩) (List.length f.b) (List.length f.b)], .agg #[.int .i64 q.burst, .int .i64 q.period, .int .i64 q.service]] H' [] (Is (.tuple #[.int .i64 (fBound f q).1, .int .i64 (fBound f q).2]) H')) ∧ (((((fBound f q).1 : Int) == (fBound f q).1) = true → (((((fBound f q).2 : Int) == (fBound f q).2) = true → (((some (.cells true 1 (inL f.t) : KObj) = some (.cells true 1 (inL f.t) : KObj)) ∧ (some (.cells true 1 (List.flatMap intC f.b) : KObj) = some (.cells true 1 (List.flatMap intC f.b) : KObj)) ∧ (some (.cells false 0 (inL f.t) : KObj) = some (.cells false 0 (inL f.t) : KObj)) ∧ (some (.cells false 0 (List.flatMap intC f.b) : KObj) = some (.cells false 0 (List.flatMap intC f.b) : KObj)) ∧ (some (.cells true 7 (List.flatMap rqC l) : KObj) = some (.cells true 7 (List.flatMap rqC l) : KObj)) ∧ (some (.cells false 0 (List.flatMap rqC l) : KObj) = some (.cells false 0 (List.flatMap rqC l) : KObj)) ∧ True) ∧ (∀ H' : Heap, H'.length = 9 → (H'[5]? = some (.cells true 1 (inL f.t) : KObj) ∧ H'[6]? = some (.cells true 1 (List.flatMap intC f.b) : KObj) ∧ H'[0]? = some (.cells false 0 (inL f.t) : KObj) ∧ H'[1]? = some (.cells false 0 (List.flatMap intC f.b) : KObj) ∧ H'[7]? = some (.cells true 7 (List.flatMap rqC l) : KObj) ∧ H'[2]? = some (.cells false 0 (List.flatMap rqC l) : KObj) ∧ True) → KCall prog 25 [.agg #[.slice (some ⟨5, 0, some 1⟩) (List.length f.t) (List.length f.t), .slice (some ⟨6, 0, some 1⟩) (List.length f.b) (List.length f.b)], .agg #[.slice (some ⟨0, 0, some 2⟩) (List.length f.t) (List.length f.t), .slice (some ⟨1, 0, some 2⟩) (List.length f.b) (List.length f.b)], .slice (some ⟨7, 0, some 1⟩) (List.length l) (List.length l), .slice (some ⟨2, 0, some 2⟩) (List.length l) (List.length l)] H' [] (Is (.bool true) H')) ∧ ((True) ∧ (∀ H' : Heap, H'.length = 9 → (True) → KCall prog 14 [] H' [] (Is (.bool true) H')) ∧ (.bool true : Value) = sp))) ∧ ((((fBound f q).2 : Int) == (fBound f q).2) = false → (.bool false : Value) = sp))) ∧ ((((fBound f q).1 : Int) == (fBound f q).1) = false → (.bool false : Value) = sp)))))))) ∧ ((decide ((q.service : Int) ≤ 200)) = false → (((some (.cells true 1 (inL f.t) : KObj) = some (.cells true 1 (inL f.t) : KObj)) ∧ (some (.cells true 1 (List.flatMap intC f.b) : KObj) = some (.cells true 1 (List.flatMap intC f.b) : KObj)) ∧ True) ∧ (∀ H' : Heap, H'.length = 9 → (H'[5]? = some (.cells true 1 (inL f.t) : KObj) ∧ H'[6]? = some (.cells true 1 (List.flatMap intC f.b) : KObj) ∧ True) → KCall prog 39 [.agg #[.slice (some ⟨5, 0, some 1⟩) (List.length f.t) (List.length f.t), .slice (some ⟨6, 0, some 1⟩) (List.length f.b) (List.length f.b)], .agg #[.int .i64 q.burst, .int .i64 q.period, .int .i64 q.service]] H' [] (Is (.tuple #[.int .i64 (fBound f q).1, .int .i64 (fBound f q).2]) H')) ∧ (((some (.cells false 0 (inL f.t) : KObj) = some (.cells false 0 (inL f.t) : KObj)) ∧ (some (.cells false 0 (List.flatMap intC f.b) : KObj) = some (.cells false 0 (List.flatMap intC f.b) : KObj)) ∧ True) ∧ (∀ H' : Heap, H'.length = 9 → (H'[0]? = some (.cells false 0 (inL f.t) : KObj) ∧ H'[1]? = some (.cells false 0 (List.flatMap intC f.b) : KObj) ∧ True) → KCall prog 40 [.agg #[.slice (some ⟨0, 0, some 2⟩) (List.length f.t) (List.length f.t), .slice (some ⟨1, 0, some 2⟩) (List.length f.b) (List.length f.b)], .agg #[.int .i64 q.burst, .int .i64 q.period, .int .i64 q.service]] H' [] (Is (.tuple #[.int .i64 (fBound f q).1, .int .i64 (fBound f q).2]) H')) ∧ (((((fBound f q).1 : Int) == (fBound f q).1) = true → (((((fBound f q).2 : Int) == (fBound f q).2) = true → (((some (.cells true 1 (inL f.t) : KObj) = some (.cells true 1 (inL f.t) : KObj)) ∧ (some (.cells true 1 (List.flatMap intC f.b) : KObj) = some (.cells true 1 (List.flatMap intC f.b) : KObj)) ∧ (some (.cells false 0 (inL f.t) : KObj) = some (.cells false 0 (inL f.t) : KObj)) ∧ (some (.cells false 0 (List.flatMap intC f.b) : KObj) = some (.cells false 0 (List.flatMap intC f.b) : KObj)) ∧ (some (.cells true 7 (List.flatMap rqC l) : KObj) = some (.cells true 7 (List.flatMap rqC l) : KObj)) ∧ (some (.cells false 0 (List.flatMap rqC l) : KObj) = some (.cells false 0 (List.flatMap rqC l) : KObj)) ∧ True) ∧ (∀ H' : Heap, H'.length = 9 → (H'[5]? = some (.cells true 1 (inL f.t) : KObj) ∧ H'[6]? = some (.cells true 1 (List.flatMap intC f.b) : KObj) ∧ H'[0]? = some (.cells false 0 (inL f.t) : KObj) ∧ H'[1]? = some (.cells false 0 (List.flatMap intC f.b) : KObj) ∧ H'[7]? = some (.cells true 7 (List.flatMap rqC l) : KObj) ∧ H'[2]? = some (.cells false 0 (List.flatMap rqC l) : KObj) ∧ True) → KCall prog 25 [.agg #[.slice (some ⟨5, 0, some 1⟩) (List.length f.t) (List.length f.t), .slice (some ⟨6, 0, some 1⟩) (List.length f.b) (List.length f.b)], .agg #[.slice (some ⟨0, 0, some 2⟩) (List.length f.t) (List.length f.t), .slice (some ⟨1, 0, some 2⟩) (List.length f.b) (List.length f.b)], .slice (some ⟨7, 0, some 1⟩) (List.length l) (List.length l), .slice (some ⟨2, 0, some 2⟩) (List.length l) (List.length l)] H' [] (Is (.bool true) H')) ∧ ((True) ∧ (∀ H' : Heap, H'.length = 9 → (True) → KCall prog 14 [] H' [] (Is (.bool true) H')) ∧ (.bool true : Value) = sp))) ∧ ((((fBound f q).2 : Int) == (fBound f q).2) = false → (.bool false : Value) = sp))) ∧ ((((fBound f q).1 : Int) == (fBound f q).1) = false → (.bool false : Value) = sp))))))) ∧ ((decide ((q.period : Int) ≤ 200)) = false → (((some (.cells true 1 (inL f.t) : KObj) = some (.cells true 1 (inL f.t) : KObj)) ∧ (some (.cells true 1 (List.flatMap intC f.b) : KObj) = some (.cells true 1 (List.flatMap intC f.b) : KObj)) ∧ True) ∧ (∀ H' : Heap, H'.length = 9 → (H'[5]? = some (.cells true 1 (inL f.t) : KObj) ∧ H'[6]? = some (.cells true 1 (List.flatMap intC f.b) : KObj) ∧ True) → KCall prog 39 [.agg #[.slice (some ⟨5, 0, some 1⟩) (List.length f.t) (List.length f.t), .slice (some ⟨6, 0, some 1⟩) (List.length f.b) (List.length f.b)], .agg #[.int .i64 q.burst, .int .i64 q.period, .int .i64 q.service]] H' [] (Is (.tuple #[.int .i64 (fBound f q).1, .int .i64 (fBound f q).2]) H')) ∧ (((some (.cells false 0 (inL f.t) : KObj) = some (.cells false 0 (inL f.t) : KObj)) ∧ (some (.cells false 0 (List.flatMap intC f.b) : KObj) = some (.cells false 0 (List.flatMap intC f.b) : KObj)) ∧ True) ∧ (∀ H' : Heap, H'.length = 9 → (H'[0]? = some (.cells false 0 (inL f.t) : KObj) ∧ H'[1]? = some (.cells false 0 (List.flatMap intC f.b) : KObj) ∧ True) → KCall prog 40 [.agg #[.slice (some ⟨0, 0, some 2⟩) (List.length f.t) (List.length f.t), .slice (some ⟨1, 0, some 2⟩) (List.length f.b) (List.length f.b)], .agg #[.int .i64 q.burst, .int .i64 q.period, .int .i64 q.service]] H' [] (Is (.tuple #[.int .i64 (fBound f q).1, .int .i64 (fBound f q).2]) H')) ∧ (((((fBound f q).1 : Int) == (fBound f q).1) = true → (((((fBound f q).2 : Int) == (fBound f q).2) = true → (((some (.cells true 1 (inL f.t) : KObj) = some (.cells true 1 (inL f.t) : KObj)) ∧ (some (.cells true 1 (List.flatMap intC f.b) : KObj) = some (.cells true 1 (List.flatMap intC f.b) : KObj)) ∧ (some (.cells false 0 (inL f.t) : KObj) = some (.cells false 0 (inL f.t) : KObj)) ∧ (some (.cells false 0 (List.flatMap intC f.b) : KObj) = some (.cells false 0 (List.flatMap intC f.b) : KObj)) ∧ (some (.cells true 7 (List.flatMap rqC l) : KObj) = some (.cells true 7 (List.flatMap rqC l) : KObj)) ∧ (some (.cells false 0 (List.flatMap rqC l) : KObj) = some (.cells false 0 (List.flatMap rqC l) : KObj)) ∧ True) ∧ (∀ H' : Heap, H'.length = 9 → (H'[5]? = some (.cells true 1 (inL f.t) : KObj) ∧ H'[6]? = some (.cells true 1 (List.flatMap intC f.b) : KObj) ∧ H'[0]? = some (.cells false 0 (inL f.t) : KObj) ∧ H'[1]? = some (.cells false 0 (List.flatMap intC f.b) : KObj) ∧ H'[7]? = some (.cells true 7 (List.flatMap rqC l) : KObj) ∧ H'[2]? = some (.cells false 0 (List.flatMap rqC l) : KObj) ∧ True) → KCall prog 25 [.agg #[.slice (some ⟨5, 0, some 1⟩) (List.length f.t) (List.length f.t), .slice (some ⟨6, 0, some 1⟩) (List.length f.b) (List.length f.b)], .agg #[.slice (some ⟨0, 0, some 2⟩) (List.length f.t) (List.length f.t), .slice (some ⟨1, 0, some 2⟩) (List.length f.b) (List.length f.b)], .slice (some ⟨7, 0, some 1⟩) (List.length l) (List.length l), .slice (some ⟨2, 0, some 2⟩) (List.length l) (List.length l)] H' [] (Is (.bool true) H')) ∧ ((True) ∧ (∀ H' : Heap, H'.length = 9 → (True) → KCall prog 14 [] H' [] (Is (.bool true) H')) ∧ (.bool true : Value) = sp))) ∧ ((((fBound f q).2 : Int) == (fBound f q).2) = false → (.bool false : Value) = sp))) ∧ ((((fBound f q).1 : Int) == (fBound f q).1) = false → (.bool false : Value) = sp))))))) ∧ ((decide ((0 : Int) < q.service)) = false → (((some (.cells true 1 (inL f.t) : KObj) = some (.cells true 1 (inL f.t) : KObj)) ∧ (some (.cells true 1 (List.flatMap intC f.b) : KObj) = some (.cells true 1 (List.flatMap intC f.b) : KObj)) ∧ True) ∧ (∀ H' : Heap, H'.length = 9 → (H'[5]? = some (.cells true 1 (inL f.t) : KObj) ∧ H'[6]? = some (.cells true 1 (List.flatMap intC f.b) : KObj) ∧ True) → KCall prog 39 [.agg #[.slice (some ⟨5, 0, some 1⟩) (List.length f.t) (List.length f.t), .slice (some ⟨6, 0, some 1⟩) (List.length f.b) (List.length f.b)], .agg #[.int .i64 q.burst, .int .i64 q.period, .int .i64 q.service]] H' [] (Is (.tuple #[.int .i64 (fBound f q).1, .int .i64 (fBound f q).2]) H')) ∧ (((some (.cells false 0 (inL f.t) : KObj) = some (.cells false 0 (inL f.t) : KObj)) ∧ (some (.cells false 0 (List.flatMap intC f.b) : KObj) = some (.cells false 0 (List.flatMap intC f.b) : KObj)) ∧ True) ∧ (∀ H' : Heap, H'.length = 9 → (H'[0]? = some (.cells false 0 (inL f.t) : KObj) ∧ H'[1]? = some (.cells false 0 (List.flatMap intC f.b) : KObj) ∧ True) → KCall prog 40 [.agg #[.slice (some ⟨0, 0, some 2⟩) (List.length f.t) (List.length f.t), .slice (some ⟨1, 0, some 2⟩) (List.length f.b) (List.length f.b)], .agg #[.int .i64 q.burst, .int .i64 q.period, .int .i64 q.service]] H' [] (Is (.tuple #[.int .i64 (fBound f q).1, .int .i64 (fBound f q).2]) H')) ∧ (((((fBound f q).1 : Int) == (fBound f q).1) = true → (((((fBound f q).2 : Int) == (fBound f q).2) = true → (((some (.cells true 1 (inL f.t) : KObj) = some (.cells true 1 (inL f.t) : KObj)) ∧ (some (.cells true 1 (List.flatMap intC f.b) : KObj) = some (.cells true 1 (List.flatMap intC f.b) : KObj)) ∧ (some (.cells false 0 (inL f.t) : KObj) = some (.cells false 0 (inL f.t) : KObj)) ∧ (some (.cells false 0 (List.flatMap intC f.b) : KObj) = some (.cells false 0 (List.flatMap intC f.b) : KObj)) ∧ (some (.cells true 7 (List.flatMap rqC l) : KObj) = some (.cells true 7 (List.flatMap rqC l) : KObj)) ∧ (some (.cells false 0 (List.flatMap rqC l) : KObj) = some (.cells false 0 (List.flatMap rqC l) : KObj)) ∧ True) ∧ (∀ H' : Heap, H'.length = 9 → (H'[5]? = some (.cells true 1 (inL f.t) : KObj) ∧ H'[6]? = some (.cells true 1 (List.flatMap intC f.b) : KObj) ∧ H'[0]? = some (.cells false 0 (inL f.t) : KObj) ∧ H'[1]? = some (.cells false 0 (List.flatMap intC f.b) : KObj) ∧ H'[7]? = some (.cells true 7 (List.flatMap rqC l) : KObj) ∧ H'[2]? = some (.cells false 0 (List.flatMap rqC l) : KObj) ∧ True) → KCall prog 25 [.agg #[.slice (some ⟨5, 0, some 1⟩) (List.length f.t) (List.length f.t), .slice (some ⟨6, 0, some 1⟩) (List.length f.b) (List.length f.b)], .agg #[.slice (some ⟨0, 0, some 2⟩) (List.length f.t) (List.length f.t), .slice (some ⟨1, 0, some 2⟩) (List.length f.b) (List.length f.b)], .slice (some ⟨7, 0, some 1⟩) (List.length l) (List.length l), .slice (some ⟨2, 0, some 2⟩) (List.length l) (List.length l)] H' [] (Is (.bool true) H')) ∧ ((True) ∧ (∀ H' : Heap, H'.length = 9 → (True) → KCall prog 14 [] H' [] (Is (.bool true) H')) ∧ (.bool true : Value) = sp))) ∧ ((((fBound f q).2 : Int) == (fBound f q).2) = false → (.bool false : Value) = sp))) ∧ ((((fBound f q).1 : Int) == (fBound f q).1) = false → (.bool false : Value) = sp))))))) ∧ ((decide ((0 : Int) < q.period)) = false → (((some (.cells true 1 (inL f.t) : KObj) = some (.cells true 1 (inL f.t) : KObj)) ∧ (some (.cells true 1 (List.flatMap intC f.b) : KObj) = some (.cells true 1 (List.flatMap intC f.b) : KObj)) ∧ True) ∧ (∀ H' : Heap, H'.length = 9 → (H'[5]? = some (.cells true 1 (inL f.t) : KObj) ∧ H'[6]? = some (.cells true 1 (List.flatMap intC f.b) : KObj) ∧ True) → KCall prog 39 [.agg #[.slice (some ⟨5, 0, some 1⟩) (List.length f.t) (List.length f.t), .slice (some ⟨6, 0, some 1⟩) (List.length f.b) (List.length f.b)], .agg #[.int .i64 q.burst, .int .i64 q.period, .int .i64 q.service]] H' [] (Is (.tuple #[.int .i64 (fBound f q).1, .int .i64 (fBound f q).2]) H')) ∧ (((some (.cells false 0 (inL f.t) : KObj) = some (.cells false 0 (inL f.t) : KObj)) ∧ (some (.cells false 0 (List.flatMap intC f.b) : KObj) = some (.cells false 0 (List.flatMap intC f.b) : KObj)) ∧ True) ∧ (∀ H' : Heap, H'.length = 9 → (H'[0]? = some (.cells false 0 (inL f.t) : KObj) ∧ H'[1]? = some (.cells false 0 (List.flatMap intC f.b) : KObj) ∧ True) → KCall prog 40 [.agg #[.slice (some ⟨0, 0, some 2⟩) (List.length f.t) (List.length f.t), .slice (some ⟨1, 0, some 2⟩) (List.length f.b) (List.length f.b)], .agg #[.int .i64 q.burst, .int .i64 q.period, .int .i64 q.service]] H' [] (Is (.tuple #[.int .i64 (fBound f q).1, .int .i64 (fBound f q).2]) H')) ∧ (((((fBound f q).1 : Int) == (fBound f q).1) = true → (((((fBound f q).2 : Int) == (fBound f q).2) = true → (((some (.cells true 1 (inL f.t) : KObj) = some (.cells true 1 (inL f.t) : KObj)) ∧ (some (.cells true 1 (List.flatMap intC f.b) : KObj) = some (.cells true 1 (List.flatMap intC f.b) : KObj)) ∧ (some (.cells false 0 (inL f.t) : KObj) = some (.cells false 0 (inL f.t) : KObj)) ∧ (some (.cells false 0 (List.flatMap intC f.b) : KObj) = some (.cells false 0 (List.flatMap intC f.b) : KObj)) ∧ (some (.cells true 7 (List.flatMap rqC l) : KObj) = some (.cells true 7 (List.flatMap rqC l) : KObj)) ∧ (some (.cells false 0 (List.flatMap rqC l) : KObj) = some (.cells false 0 (List.flatMap rqC l) : KObj)) ∧ True) ∧ (∀ H' : Heap, H'.length = 9 → (H'[5]? = some (.cells true 1 (inL f.t) : KObj) ∧ H'[6]? = some (.cells true 1 (List.flatMap intC f.b) : KObj) ∧ H'[0]? = some (.cells false 0 (inL f.t) : KObj) ∧ H'[1]? = some (.cells false 0 (List.flatMap intC f.b) : KObj) ∧ H'[7]? = some (.cells true 7 (List.flatMap rqC l) : KObj) ∧ H'[2]? = some (.cells false 0 (List.flatMap rqC l) : KObj) ∧ True) → KCall prog 25 [.agg #[.slice (some ⟨5, 0, some 1⟩) (List.length f.t) (List.length f.t), .slice (some ⟨6, 0, some 1⟩) (List.length f.b) (List.length f.b)], .agg #[.slice (some ⟨0, 0, some 2⟩) (List.length f.t) (List.length f.t), .slice (some ⟨1, 0, some 2⟩) (List.length f.b) (List.length f.b)], .slice (some ⟨7, 0, some 1⟩) (List.length l) (List.length l), .slice (some ⟨2, 0, some 2⟩) (List.length l) (List.length l)] H' [] (Is (.bool true) H')) ∧ ((True) ∧ (∀ H' : Heap, H'.length = 9 → (True) → KCall prog 14 [] H' [] (Is (.bool true) H')) ∧ (.bool true : Value) = sp))) ∧ ((((fBound f q).2 : Int) == (fBound f q).2) = false → (.bool false : Value) = sp))) ∧ ((((fBound f q).1 : Int) == (fBound f q).1) = false → (.bool false : Value) = sp)))))))))))))))))
theorem EBoundsLaw (sp : Value) (f : Fleet) (l : List Rq) (q : Prem) : vF prog msk (dm 0) 100000 true 40 true 6 [.agg #[.slice (some ⟨0, 0, some 2⟩) (List.length f.t) (List.length f.t), .slice (some ⟨1, 0, some 2⟩) (List.length f.b) (List.length f.b)], .slice (some ⟨2, 0, some 2⟩) (List.length l) (List.length l), .agg #[.int .i64 q.burst, .int .i64 q.period, .int .i64 q.service]] (readsT 0 [inL f.t, f.b.flatMap intC, l.flatMap rqC]) (some [])
  (.go 4 (.ans [(0, .cells false 0 (inL f.t)), (1, .cells false 0 (List.flatMap intC f.b)), (2, .cells false 0 (List.flatMap rqC l))] (.bool (great f l)) [] (.fork (.ans [] (.bool true) [] (.auto)) (.go 0 (.ans [(0, .cells false 0 (inL f.t)), (1, .cells false 0 (List.flatMap intC f.b))] (.agg #[.slice (some ⟨5, 0, some 1⟩) (List.length f.t) (List.length f.t), .slice (some ⟨6, 0, some 1⟩) (List.length f.b) (List.length f.b)]) [.cells true 1 (inL f.t), .cells true 1 (List.flatMap intC f.b)] (.go 0 (.ans [(2, .cells false 0 (List.flatMap rqC l))] (.slice (some ⟨7, 0, some 1⟩) (List.length l) (List.length l)) [.cells true 7 (List.flatMap rqC l)] (.go 5 (.ans [(5, .cells true 1 (inL f.t)), (6, .cells true 1 (List.flatMap intC f.b)), (7, .cells true 7 (List.flatMap rqC l))] (.tuple #[.bool (fHold f l q).1, .int .i64 (fHold f l q).2]) [] (.go 7 (.ans [(0, .cells false 0 (inL f.t)), (1, .cells false 0 (List.flatMap intC f.b)), (2, .cells false 0 (List.flatMap rqC l))] (.tuple #[.bool (fHold f l q).1, .int .i64 (fHold f l q).2]) [] (.go 8 (.gfork (.auto) (.go 3 (.fork (.auto) (.go 3 (.gfork (.go 4 (.gfork (.go 4 (.gfork (.go 4 (.gfork (.go 4 (.slot 68 (.int .i64 (q.period * q.service)) (.go 1 (.fork (.ans [] (.bool true) [] (.auto)) (.go 1 (.ans [(5, .cells true 1 (inL f.t)), (6, .cells true 1 (List.flatMap intC f.b))] (.tuple #[.int .i64 (fBound f q).1, .int .i64 (fBound f q).2]) [] (.go 6 (.ans [(0, .cells false 0 (inL f.t)), (1, .cells false 0 (List.flatMap intC f.b))] (.tuple #[.int .i64 (fBound f q).1, .int .i64 (fBound f q).2]) [] (.go 8 (.gfork (.go 4 (.gfork (.go 3 (.ans [(5, .cells true 1 (inL f.t)), (6, .cells true 1 (List.flatMap intC f.b)), (0, .cells false 0 (inL f.t)), (1, .cells false 0 (List.flatMap intC f.b)), (7, .cells true 7 (List.flatMap rqC l)), (2, .cells false 0 (List.flatMap rqC l))] (.bool true) [] (.go 1 (.ans [] (.bool true) [] (.auto))))) (.auto))) (.auto))))))))))) (.go 3 (.ans [(5, .cells true 1 (inL f.t)), (6, .cells true 1 (List.flatMap intC f.b))] (.tuple #[.int .i64 (fBound f q).1, .int .i64 (fBound f q).2]) [] (.go 6 (.ans [(0, .cells false 0 (inL f.t)), (1, .cells false 0 (List.flatMap intC f.b))] (.tuple #[.int .i64 (fBound f q).1, .int .i64 (fBound f q).2]) [] (.go 8 (.gfork (.go 4 (.gfork (.go 3 (.ans [(5, .cells true 1 (inL f.t)), (6, .cells true 1 (List.flatMap intC f.b)), (0, .cells false 0 (inL f.t)), (1, .cells false 0 (List.flatMap intC f.b)), (7, .cells true 7 (List.flatMap rqC l)), (2, .cells false 0 (List.flatMap rqC l))] (.bool true) [] (.go 1 (.ans [] (.bool true) [] (.auto))))) (.auto))) (.auto))))))))) (.go 5 (.ans [(5, .cells true 1 (inL f.t)), (6, .cells true 1 (List.flatMap intC f.b))] (.tuple #[.int .i64 (fBound f q).1, .int .i64 (fBound f q).2]) [] (.go 6 (.ans [(0, .cells false 0 (inL f.t)), (1, .cells false 0 (List.flatMap intC f.b))] (.tuple #[.int .i64 (fBound f q).1, .int .i64 (fBound f q).2]) [] (.go 8 (.gfork (.go 4 (.gfork (.go 3 (.ans [(5, .cells true 1 (inL f.t)), (6, .cells true 1 (List.flatMap intC f.b)), (0, .cells false 0 (inL f.t)), (1, .cells false 0 (List.flatMap intC f.b)), (7, .cells true 7 (List.flatMap rqC l)), (2, .cells false 0 (List.flatMap rqC l))] (.bool true) [] (.go 1 (.ans [] (.bool true) [] (.auto))))) (.auto))) (.auto))))))))) (.go 7 (.ans [(5, .cells true 1 (inL f.t)), (6, .cells true 1 (List.flatMap intC f.b))] (.tuple #[.int .i64 (fBound f q).1, .int .i64 (fBound f q).2]) [] (.go 6 (.ans [(0, .cells false 0 (inL f.t)), (1, .cells false 0 (List.flatMap intC f.b))] (.tuple #[.int .i64 (fBound f q).1, .int .i64 (fBound f q).2]) [] (.go 8 (.gfork (.go 4 (.gfork (.go 3 (.ans [(5, .cells true 1 (inL f.t)), (6, .cells true 1 (List.flatMap intC f.b)), (0, .cells false 0 (inL f.t)), (1, .cells false 0 (List.flatMap intC f.b)), (7, .cells true 7 (List.flatMap rqC l)), (2, .cells false 0 (List.flatMap rqC l))] (.bool true) [] (.go 1 (.ans [] (.bool true) [] (.auto))))) (.auto))) (.auto))))))))) (.go 9 (.ans [(5, .cells true 1 (inL f.t)), (6, .cells true 1 (List.flatMap intC f.b))] (.tuple #[.int .i64 (fBound f q).1, .int .i64 (fBound f q).2]) [] (.go 6 (.ans [(0, .cells false 0 (inL f.t)), (1, .cells false 0 (List.flatMap intC f.b))] (.tuple #[.int .i64 (fBound f q).1, .int .i64 (fBound f q).2]) [] (.go 8 (.gfork (.go 4 (.gfork (.go 3 (.ans [(5, .cells true 1 (inL f.t)), (6, .cells true 1 (List.flatMap intC f.b)), (0, .cells false 0 (inL f.t)), (1, .cells false 0 (List.flatMap intC f.b)), (7, .cells true 7 (List.flatMap rqC l)), (2, .cells false 0 (List.flatMap rqC l))] (.bool true) [] (.go 1 (.ans [] (.bool true) [] (.auto))))) (.auto))) (.auto))))))))))))))))))))))))
  (fun v _ _ => v = sp) = RBoundsLaw sp f l q := by kernel_rfl
end
end Go.Proofs.YthdekmpkioikdaaGreat
/- Closed calls: blocks that are read, by their addresses. No condition. -/
namespace Go.Proofs.YthdekmpkioikdaaGreat
set_option linter.unusedSimpArgs false
set_option linter.unusedVariables false
open Go Go.K
noncomputable section
abbrev sL (i n c : Nat) : Value := .slice (some ⟨i, 0, none⟩) n c
def InsA (H : Heap) (σ : Nat → Option Nat) : List Nat → List (List Value) → Prop
  | [], [] => True
  | i :: is, c :: cs => (∃ own z, H[i]? = some (KObj.cells own z (c.map (rn σ 3)))) ∧ InsA H σ is cs
  | _, _ => False
theorem InsA.len {H : Heap} {σ : Nat → Option Nat} : ∀ {ids : List Nat} {css : List (List Value)}, InsA H σ ids css → ids.length = css.length
  | [], [], _ => rfl
  | i :: is, c :: cs, h => by rw [List.length_cons, List.length_cons, h.2.len]
theorem InsA.get {H : Heap} {σ : Nat → Option Nat} : ∀ {ids : List Nat} {css : List (List Value)}, InsA H σ ids css → ∀ (k : Nat) (cs : List Value), css[k]? = some cs → ∃ id own z, ids[k]? = some id ∧ H[id]? = some (KObj.cells own z (cs.map (rn σ 3)))
  | [], [], _, k, d, e => by cases e
  | i :: is, c :: cs, h, 0, d, e => by cases e; obtain ⟨own, z, h1⟩ := h.1; exact ⟨i, own, z, rfl, h1⟩
  | i :: is, c :: cs, h, k + 1, d, e => h.2.get k d e
end
end Go.Proofs.YthdekmpkioikdaaGreat
/- Closed calls of the chapter's examples. Printed by a program. No condition. -/
namespace Go.Proofs.YthdekmpkioikdaaGreat
set_option linter.unusedSimpArgs false
open Go Go.K
set_option maxRecDepth 1000000
set_option maxHeartbeats 4000000
set_option linter.unusedVariables false
noncomputable section
attribute [local irreducible] vF
def R30_444784595 (sp : Value) : Prop :=
  (nI 0 : Value) = sp
theorem E30_444784595 (sp : Value) : vF prog msk (dm 0) 100000 true 40 true 30 [.agg #[sL 0 2 2, sL 1 1 1], .agg #[nI 1, nI 0, nI 1, nI 1, nI 1], sL 2 3 3] (readsT 0 [[sL 3 2 2, sL 4 2 2], [nI 0], [nI 1, nI 0, nI 1, nI 1, nI 10, nI 1, nI 0, nI 2, nI 1, nI 0, nI 0, nI 5, nI 1, nI 0, nI 3, nI 2, nI 0, nI 0, nI 5, nI 3, nI 0], [nI 0, nI 4], [nI 4, nI 0]]) (some [])
  (.auto)
  (fun v _ _ => v = sp) = R30_444784595 sp := by kernel_rfl
theorem P30_444784595 : R30_444784595 (nI 0) := rfl
theorem C30_444784595 {H : Heap} (ids : List Nat) (h : InsA H (sgR 0 ids) ids [[sL 3 2 2, sL 4 2 2], [nI 0], [nI 1, nI 0, nI 1, nI 1, nI 10, nI 1, nI 0, nI 2, nI 1, nI 0, nI 0, nI 5, nI 1, nI 0, nI 3, nI 2, nI 0, nI 0, nI 5, nI 3, nI 0], [nI 0, nI 4], [nI 4, nI 0]]) : KCall prog 30 (([.agg #[sL 0 2 2, sL 1 1 1], .agg #[nI 1, nI 0, nI 1, nI 1, nI 1], sL 2 3 3] : List Value).map (rn (sgR 0 ids) 3)) H [] (Is (nI 0) H) :=
  valRA (css := [[sL 3 2 2, sL 4 2 2], [nI 0], [nI 1, nI 0, nI 1, nI 1, nI 10, nI 1, nI 0, nI 2, nI 1, nI 0, nI 0, nI 5, nI 1, nI 0, nI 3, nI 2, nI 0, nI 0, nI 5, nI 3, nI 0], [nI 0, nI 4], [nI 4, nI 0]]) (Eq.mpr (E30_444784595 _) P30_444784595) rfl ids h.len h.get
def R39_900480289 (sp : Value) : Prop :=
  (.tuple #[nI 60, nI 0] : Value) = sp
theorem E39_900480289 (sp : Value) : vF prog msk (dm 0) 100000 true 40 true 39 [.agg #[sL 0 2 2, sL 1 1 1], .agg #[nI 2, nI 12, nI 10]] (readsT 0 [[sL 2 2 2, sL 3 2 2], [nI 0], [nI 0, nI 4], [nI 4, nI 0]]) (some [])
  (.auto)
  (fun v _ _ => v = sp) = R39_900480289 sp := by kernel_rfl
theorem P39_900480289 : R39_900480289 (.tuple #[nI 60, nI 0]) := rfl
theorem C39_900480289 {H : Heap} (ids : List Nat) (h : InsA H (sgR 0 ids) ids [[sL 2 2 2, sL 3 2 2], [nI 0], [nI 0, nI 4], [nI 4, nI 0]]) : KCall prog 39 (([.agg #[sL 0 2 2, sL 1 1 1], .agg #[nI 2, nI 12, nI 10]] : List Value).map (rn (sgR 0 ids) 3)) H [] (Is (.tuple #[nI 60, nI 0]) H) :=
  valRA (css := [[sL 2 2 2, sL 3 2 2], [nI 0], [nI 0, nI 4], [nI 4, nI 0]]) (Eq.mpr (E39_900480289 _) P39_900480289) rfl ids h.len h.get
end
end Go.Proofs.YthdekmpkioikdaaGreat
/- Closed calls of the chapter's examples. Printed by a program. No condition. -/
namespace Go.Proofs.YthdekmpkioikdaaGreat
set_option linter.unusedSimpArgs false
open Go Go.K
set_option maxRecDepth 1000000
set_option maxHeartbeats 4000000
set_option linter.unusedVariables false
noncomputable section
attribute [local irreducible] vF
def R29_444784595 : Prop :=
  (((someR (.cells false 0 [sL 3 2 2, sL 4 2 2] : KObj)) ∧ (someR (.cells false 0 [nI 0] : KObj)) ∧ (someR (.cells false 0 [nI 1, nI 0, nI 1, nI 1, nI 10, nI 1, nI 0, nI 2, nI 1, nI 0, nI 0, nI 5, nI 1, nI 0, nI 3, nI 2, nI 0, nI 0, nI 5, nI 3, nI 0] : KObj)) ∧ (someR (.cells false 0 [nI 0, nI 4] : KObj)) ∧ (someR (.cells false 0 [nI 4, nI 0] : KObj)) ∧ True) ∧ (∀ H' : Heap, H'.length = 7 → (H'[0]? = some (.cells false 0 [sL 3 2 2, sL 4 2 2] : KObj) ∧ H'[1]? = some (.cells false 0 [nI 0] : KObj) ∧ H'[2]? = some (.cells false 0 [nI 1, nI 0, nI 1, nI 1, nI 10, nI 1, nI 0, nI 2, nI 1, nI 0, nI 0, nI 5, nI 1, nI 0, nI 3, nI 2, nI 0, nI 0, nI 5, nI 3, nI 0] : KObj) ∧ H'[3]? = some (.cells false 0 [nI 0, nI 4] : KObj) ∧ H'[4]? = some (.cells false 0 [nI 4, nI 0] : KObj) ∧ True) → /-N ⟨⟨rfl, rfl, rfl, rfl, rfl, trivial⟩, fun H' _ h => C30_444784595 [0, 1, 2, 3, 4] ⟨⟨_, _, h.1⟩, ⟨_, _, h.2.1⟩, ⟨_, _, h.2.2.1⟩, ⟨_, _, h.2.2.2.1⟩, ⟨_, _, h.2.2.2.2.1⟩, trivial⟩, REST⟩-/KCall prog 30 [.agg #[sL 0 2 2, sL 1 1 1], .agg #[nI 1, nI 0, nI 1, nI 1, nI 1], sL 2 3 3] H' [] (Is (nI 0) H')) ∧ (true = true ∧ wk (.tuple #[sL 98 3 3, nI 0] : Value) (rn (sg 5 [(5, 98)]) 3 (.tuple #[sL 5 3 3, nI 0] : Value)) ∧ (wkO (.cells true 5 [nI 0, nI 0, nI 0, nI 4, nI 14, nI 2, nI 0, nI 14, nI 18, nI 23, nI 1, nI 0, nI 23, nI 23, nI 28] : KObj) (rno (sg 5 [(5, 98)]) 3 (.cells true 5 [nI 0, nI 0, nI 0, nI 4, nI 14, nI 2, nI 0, nI 14, nI 18, nI 23, nI 1, nI 0, nI 23, nI 23, nI 28] : KObj)) ∧ True)))
theorem E29_444784595 : vF prog msk (dm 0) 100000 true 40 true 29 [.agg #[sL 0 2 2, sL 1 1 1], .agg #[nI 1, nI 0, nI 1, nI 1, nI 1], sL 2 3 3] (readsT 0 [[sL 3 2 2, sL 4 2 2], [nI 0], [nI 1, nI 0, nI 1, nI 1, nI 10, nI 1, nI 0, nI 2, nI 1, nI 0, nI 0, nI 5, nI 1, nI 0, nI 3, nI 2, nI 0, nI 0, nI 5, nI 3, nI 0], [nI 0, nI 4], [nI 4, nI 0]]) (some [])
  (.go 6 (.ans [(0, .cells false 0 [sL 3 2 2, sL 4 2 2]), (1, .cells false 0 [nI 0]), (2, .cells false 0 [nI 1, nI 0, nI 1, nI 1, nI 10, nI 1, nI 0, nI 2, nI 1, nI 0, nI 0, nI 5, nI 1, nI 0, nI 3, nI 2, nI 0, nI 0, nI 5, nI 3, nI 0]), (3, .cells false 0 [nI 0, nI 4]), (4, .cells false 0 [nI 4, nI 0])] (nI 0) [] (.go 29 (.into (some [5, 6, 7, 8, 9, 10, 11]) (.go 360 (.into (some (List.range' 5 19)) (.go 150 (.into (some (List.range' 5 29)) (.go 80 (.into (some (List.range' 5 32)) (.go 84 (.into (some (List.range' 5 35)) (.go 70 (.into (some (List.range' 5 38)) (.go 18 (.into (some ([43] ++ List.range' 5 38)) (.go 19 (.into (some (List.range' 5 39)) (.go 67 (.into (some (List.range' 5 44)) (.go 542 (.into (some (List.range' 5 47)) (.go 109 (.into (some (List.range' 5 57)) (.go 114 (.into (some (List.range' 5 60)) (.go 122 (.into (some (List.range' 5 63)) (.go 267 (.into (some (List.range' 5 66)) (.go 18 (.into (some ([71] ++ List.range' 5 66)) (.go 19 (.into (some (List.range' 5 67)) (.go 67 (.into (some (List.range' 5 72)) (.go 255 (.into (some (List.range' 5 75)) (.go 84 (.into (some (List.range' 5 85)) (.go 77 (.into (some (List.range' 5 88)) (.go 18 (.into (some ([93] ++ List.range' 5 88)) (.go 19 (.into (some (List.range' 5 89)) (.go 67 (.into (some (List.range' 5 94)) (.go 59 (.again [(5, 98)]))))))))))))))))))))))))))))))))))))))))))))))))))
  (newK (readsT 0 [[sL 3 2 2, sL 4 2 2], [nI 0], [nI 1, nI 0, nI 1, nI 1, nI 10, nI 1, nI 0, nI 2, nI 1, nI 0, nI 0, nI 5, nI 1, nI 0, nI 3, nI 2, nI 0, nI 0, nI 5, nI 3, nI 0], [nI 0, nI 4], [nI 4, nI 0]]).n 3 (.tuple #[sL 5 3 3, nI 0]) [(false, .cells true 5 [nI 0, nI 0, nI 0, nI 4, nI 14, nI 2, nI 0, nI 14, nI 18, nI 23, nI 1, nI 0, nI 23, nI 23, nI 28])]) = R29_444784595 := by kernel_rfl
theorem P29_444784595 : R29_444784595 := ⟨⟨rfl, rfl, rfl, rfl, rfl, trivial⟩, fun H' _ h => C30_444784595 [0, 1, 2, 3, 4] ⟨⟨_, _, h.1⟩, ⟨_, _, h.2.1⟩, ⟨_, _, h.2.2.1⟩, ⟨_, _, h.2.2.2.1⟩, ⟨_, _, h.2.2.2.2.1⟩, trivial⟩, ⟨rfl, wk_of_eq rfl, wkO_of_eq rfl, trivial⟩⟩
theorem C29_444784595 {H : Heap} (ids : List Nat) (h : InsA H (sgR 0 ids) ids [[sL 3 2 2, sL 4 2 2], [nI 0], [nI 1, nI 0, nI 1, nI 1, nI 10, nI 1, nI 0, nI 2, nI 1, nI 0, nI 0, nI 5, nI 1, nI 0, nI 3, nI 2, nI 0, nI 0, nI 5, nI 3, nI 0], [nI 0, nI 4], [nI 4, nI 0]]) : KCall prog 29 (([.agg #[sL 0 2 2, sL 1 1 1], .agg #[nI 1, nI 0, nI 1, nI 1, nI 1], sL 2 3 3] : List Value).map (rn (sgR 0 ids) 3)) H [] (Is (rn (sgUp 5 H.length) 3 (.tuple #[sL 5 3 3, nI 0])) (H ++ [rno (sgUp 5 H.length) 3 (.cells true 5 [nI 0, nI 0, nI 0, nI 4, nI 14, nI 2, nI 0, nI 14, nI 18, nI 23, nI 1, nI 0, nI 23, nI 23, nI 28])])) :=
  valNA (css := [[sL 3 2 2, sL 4 2 2], [nI 0], [nI 1, nI 0, nI 1, nI 1, nI 10, nI 1, nI 0, nI 2, nI 1, nI 0, nI 0, nI 5, nI 1, nI 0, nI 3, nI 2, nI 0, nI 0, nI 5, nI 3, nI 0], [nI 0, nI 4], [nI 4, nI 0]]) (v := .tuple #[sL 5 3 3, nI 0]) (new := [(false, .cells true 5 [nI 0, nI 0, nI 0, nI 4, nI 14, nI 2, nI 0, nI 14, nI 18, nI 23, nI 1, nI 0, nI 23, nI 23, nI 28])]) (Eq.mpr E29_444784595 P29_444784595) rfl rfl rfl rfl ids h.len h.get
end
end Go.Proofs.YthdekmpkioikdaaGreat
