/- Radio: a ship that takes at least Pace for each step: plain laws. No condition. -/
import Derived.Test.YtbgfjemppjhmjaaGreatGP24xP28
import Derived.Test.YtbgfjemppjhmjaaGreatGW2xO3g
import Derived.Test.YtbgfjemppjhmjaaGreatGP3xP7
import Derived.Test.YtbgfjemppjhmjaaGreatGW20xO24g
import Derived.Test.YtbgfjemppjhmjaaGreatGK27xW1
namespace Go.Proofs.YtbgfjemppjhmjaaGreat
set_option linter.unusedSimpArgs false
open Go Go.K
set_option linter.unusedVariables false
theorem nb_place {w u v : Int} (hw : 1 <= w) (hu : 0 <= u /\ u <= w - 1) (hv : 0 <= v) : Int.tmod (v * w + u) w = u /\ Int.tdiv (v * w + u) w = v := by
 have h0 : 0 <= v * w := Int.mul_nonneg hv (by omega)
 rw [Int.tmod_eq_emod_of_nonneg (by omega), Int.tdiv_eq_ediv_of_nonneg (by omega)]
 have e : v * w + u = u + w * v := by rw [Int.mul_comm, Int.add_comm]
 rw [e, Int.add_mul_emod_self_left, Int.add_mul_ediv_left _ _ (by omega), Int.emod_eq_of_lt (by omega) (by omega), Int.ediv_eq_zero_of_lt (by omega) (by omega)]
 omega
theorem bd_back {j : Nat} (hj : j < 4) : bdx (3 - j) = - bdx j /\ bdy (3 - j) = - bdy j := by
 match j, hj with
 | 0, _ => decide
 | 1, _ => decide
 | 2, _ => decide
 | 3, _ => decide
theorem nb_back {w h : Int} {a : List Bool} {i : Int} {j : Nat} (b : BasOk w h a.length) (hi : 0 <= i /\ i < (a.length : Int)) (hs : a.getD (Int.toNat i) false = false) (hj : j < 4) (k : nbOk w h a i j) : nbOk w h a (nbT w i j) (3 - j) /\ nbT w (nbT w i j) (3 - j) = i := by
 obtain ⟨d1, d2, d3⟩ := divm b hi
 have hw := b.w1
 obtain ⟨⟨hu, hv⟩, hl⟩ := k
 obtain ⟨p1, p2⟩ := nb_place (w := w) hw.1 hu hv.1
 obtain ⟨q1, q2⟩ := bd_back hj
 have eT : nbV w i j * w + nbU w i j = nbT w i j := rfl
 rw [eT] at p1 p2
 have eU : nbU w (nbT w i j) (3 - j) = Int.tmod i w := by
  show Int.tmod (nbT w i j) w + bdx (3 - j) = _
  rw [p1, q1]; show Int.tmod i w + bdx j + -bdx j = _; omega
 have eV : nbV w (nbT w i j) (3 - j) = Int.tdiv i w := by
  show Int.tdiv (nbT w i j) w + bdy (3 - j) = _
  rw [p2, q2]; show Int.tdiv i w + bdy j + -bdy j = _; omega
 have e : nbT w (nbT w i j) (3 - j) = i := by
  show nbV w (nbT w i j) (3 - j) * w + nbU w (nbT w i j) (3 - j) = i
  rw [eU, eV]; exact d3
 exact ⟨⟨⟨by rw [eU]; omega, by rw [eV]; omega⟩, by rw [e]; exact hs⟩, e⟩
theorem wy_front {w h : Int} {a : List Bool} {i : Int} {j : Nat} (hj : j < 4) (k : nbOk w h a i j) {n : Nat} {c : Int} (q : Wy w h a (nbT w i j) n c) : Wy w h a i (n + 1) c := by
 induction q with
 | base => exact .step j hj .base k
 | step l hl _ hb ih => exact .step l hl ih hb
theorem wy_sea {w h : Int} {a : List Bool} {f c : Int} {n : Nat} (hs : a.getD (Int.toNat f) false = false) (q : Wy w h a f n c) : a.getD (Int.toNat c) false = false := by
 cases q with
 | base => exact hs
 | step l hl _ hb => exact hb.2
theorem wy_rev {w h : Int} {a : List Bool} {f c : Int} {n : Nat} (b : BasOk w h a.length) (hf : 0 <= f /\ f < (a.length : Int)) (hs : a.getD (Int.toNat f) false = false) (q : Wy w h a f n c) : Wy w h a c n f := by
 induction q with
 | base => exact .base
 | @step n i j hj hw hb ih =>
  obtain ⟨h1, h2⟩ := nb_back b (wy_in b hf hw) (wy_sea hs hw) hj hb
  refine wy_front (j := 3 - j) (by omega) h1 ?_
  rw [h2]; exact ih
theorem dst_wy {w h : Int} {a : List Bool} {f c : Int} {n : Nat} (q : Wy w h a f n c) : dstI w h a f c <= n := by
 obtain ⟨m, h1, h2⟩ := wy_lst q
 rw [dst_is h2]; omega
theorem wy_app {w h : Int} {a : List Bool} {f g c : Int} {m n : Nat} (p : Wy w h a f m g) (q : Wy w h a g n c) : Wy w h a f (m + n) c := by
 induction q with
 | base => exact p
 | step l hl _ hb ih => exact .step l hl ih hb
structure PathI (w h : Int) (a : List Bool) (p : Int) (s : Sl) : Prop where
 len : 1 <= s.at_.length
 last : s.at_.getD (s.at_.length - 1) 0 = s.now
 cell : 0 <= s.now /\ s.now < (a.length : Int)
 cells : ∀ m, m < s.at_.length -> s.at_.getD m 0 = -1 ∨ ((0 <= s.at_.getD m 0 /\ s.at_.getD m 0 < (a.length : Int)) /\ a.getD (Int.toNat (s.at_.getD m 0)) false = false)
 way : ∀ m k, m <= k -> k < s.at_.length -> 0 <= s.at_.getD m 0 -> 0 <= s.at_.getD k 0 -> ∃ n : Nat, Wy w h a (s.at_.getD m 0) n (s.at_.getD k 0) /\ (n : Int) * p <= (k : Int) - (m : Int)
theorem getD_app1 {l r : List Int} {m : Nat} (h : m < l.length) : (l ++ r).getD m 0 = l.getD m 0 := by
 rw [List.getD_eq_getElem?_getD, List.getElem?_append_left h, <- List.getD_eq_getElem?_getD]
theorem getD_app2 {l r : List Int} {m : Nat} (h : l.length <= m) : (l ++ r).getD m 0 = r.getD (m - l.length) 0 := by
 rw [List.getD_eq_getElem?_getD, List.getElem?_append_right h, <- List.getD_eq_getElem?_getD]
theorem path_add {w h : Int} {a : List Bool} {p : Int} {s : Sl} (hp : 1 <= p) (i : PathI w h a p s) {x : Nat} {c q : Int} (hc : (0 <= c /\ c < (a.length : Int)) /\ a.getD (Int.toNat c) false = false) {n : Nat} (hn : Wy w h a s.now n c) (hx : (n : Int) * p <= (x : Int) + 1) : PathI w h a p ⟨c, q, slPut s x ++ [c]⟩ := by
 have hl := slPut_len s x
 have g1 : ∀ m, m < s.at_.length -> (slPut s x ++ [c]).getD m 0 = s.at_.getD m 0 := fun m hm => by rw [getD_app1 (by omega)]; exact getD_app1 hm
 have g2 : ∀ m, s.at_.length <= m -> m < s.at_.length + x -> (slPut s x ++ [c]).getD m 0 = -1 := fun m h1 h2 => by
  rw [getD_app1 (by omega)]
  unfold slPut
  rw [getD_app2 h1]
  simp only [List.getD_eq_getElem?_getD, List.getElem?_replicate]
  rw [if_pos (by omega)]; rfl
 have g3 : (slPut s x ++ [c]).getD (s.at_.length + x) 0 = c := by
  rw [getD_app2 (by omega), show s.at_.length + x - (slPut s x).length = 0 from by omega]; rfl
 have hL : (slPut s x ++ [c]).length = s.at_.length + x + 1 := by rw [List.length_append, List.length_singleton, hl]
 refine ⟨?_, ?_, hc.1, fun m hm => ?_, fun m k hmk hk h1 h2 => ?_⟩
 ·dsimp only; omega
 ·dsimp only
  rw [hL, show s.at_.length + x + 1 - 1 = s.at_.length + x from by omega]; exact g3
 ·dsimp only at hm ⊢
  rw [hL] at hm
  by_cases a1 : m < s.at_.length
  ·rw [g1 m a1]; exact i.cells m a1
  ·by_cases a2 : m < s.at_.length + x
   ·exact .inl (g2 m (by omega) a2)
   ·rw [show m = s.at_.length + x from by omega, g3]; exact .inr hc
 ·dsimp only at hk h1 h2 ⊢
  rw [hL] at hk
  by_cases a1 : k < s.at_.length
  ·rw [g1 k a1] at h2 ⊢
   rw [g1 m (by omega)] at h1 ⊢
   exact i.way m k hmk a1 h1 h2
  ·by_cases a2 : k < s.at_.length + x
   ·rw [g2 k (by omega) a2] at h2; omega
   ·have ek : k = s.at_.length + x := by omega
    rw [ek, g3]
    by_cases a3 : m < s.at_.length
    ·rw [g1 m a3] at h1 ⊢
     have hl1 := i.len
     obtain ⟨n1, w1, w2⟩ := i.way m (s.at_.length - 1) (by omega) (by omega) h1 (by rw [i.last]; exact i.cell.1)
     rw [i.last] at w1
     refine ⟨n1 + n, ?_, ?_⟩
     ·exact wy_app w1 hn
     ·rw [Int.natCast_add, Int.add_mul]; omega
    ·by_cases a4 : m < s.at_.length + x
     ·rw [g2 m (by omega) a4] at h1; omega
     ·rw [show m = s.at_.length + x from by omega, g3]
      exact ⟨0, .base, by rw [show ((0 : Nat) : Int) * p = 0 from Int.zero_mul p]; omega⟩
theorem path_0 {w h : Int} {a : List Bool} {p q : Int} (hn : 0 < a.length) (h0 : a.getD 0 false = false) : PathI w h a p ⟨0, q, [0]⟩ := by
 refine ⟨Nat.le_refl 1, rfl, ⟨Int.le_refl _, by dsimp only; omega⟩, fun m hm => ?_, fun m k hmk hk h1 h2 => ?_⟩
 ·have hm0 : m = 0 := by have : m < 1 := hm; omega
  subst hm0
  exact .inr ⟨⟨Int.le_refl _, by show (0 : Int) < _; omega⟩, h0⟩
 ·have hk0 : k = 0 := by have : k < 1 := hk; omega
  have hm0 : m = 0 := by omega
  subst hk0 hm0
  exact ⟨0, .base, by rw [show ((0 : Nat) : Int) * p = 0 from Int.zero_mul p]; omega⟩
theorem sl_dir {L : List Int} {w : Int} {s : Sl} : ∃ j, j < 4 /\ slU L w s = nbU w s.now j /\ slV L w s = nbV w s.now j := by
 have hd := dN_bd L (s.q + 1) (m := 4) (by omega)
 unfold slU slV nbU nbV
 generalize dN L (s.q + 1) 4 = d at *
 have : d = 0 ∨ d = 1 ∨ d = 2 ∨ d = 3 := by omega
 rcases this with rfl | rfl | rfl | rfl
 ·exact ⟨2, by omega, rfl, rfl⟩
 ·exact ⟨3, by omega, rfl, rfl⟩
 ·exact ⟨1, by omega, rfl, rfl⟩
 ·exact ⟨0, by omega, rfl, rfl⟩
theorem path_step {L : List Int} {w h : Int} {a : List Bool} {p : Int} {s : Sl} (b : BasOk w h a.length) (hp : 1 <= p) (i : PathI w h a p s) : PathI w h a p (slStep L w h a p s) := by
 have hnow : (0 <= s.now /\ s.now < (a.length : Int)) /\ a.getD (Int.toNat s.now) false = false := by
  have h1 := i.cells (s.at_.length - 1) (by have := i.len; omega)
  rw [i.last] at h1
  exact h1.resolve_left (by have := i.cell; omega)
 have hst : ∀ q, PathI w h a p ⟨s.now, q, s.at_ ++ [s.now]⟩ := fun q => by
  have := path_add (x := 0) (q := q) (n := 0) hp i hnow .base (by rw [show ((0 : Nat) : Int) * p = 0 from Int.zero_mul p]; omega)
  rwa [slPut_0] at this
 unfold slStep
 split
 ·split
  ·rename_i h1 h2
   obtain ⟨j, hj, eU, eV⟩ := sl_dir (L := L) (w := w) (s := s)
   unfold slOk at h2
   rw [eU, eV] at h2 ⊢
   have hb : nbOk w h a s.now j := by
    simp only [Bool.and_eq_true, decide_eq_true_eq] at h2
    exact ⟨⟨⟨h2.1, by omega⟩, ⟨h2.2.2.1, by omega⟩⟩, notB h2.2.2.2.2⟩
   exact path_add (x := Int.toNat (p - 1)) hp i ⟨nb_in b hb.1.1 hb.1.2, hb.2⟩ (.step j hj .base hb) (by show ((0 + 1 : Nat) : Int) * p <= _; rw [show ((0 + 1 : Nat) : Int) * p = p from Int.one_mul p]; omega)
  ·exact hst _
 ·exact hst _
theorem path_run {L : List Int} {w h : Int} {a : List Bool} {p : Int} (b : BasOk w h a.length) (hp : 1 <= p) : ∀ (m : Nat) (s : Sl), PathI w h a p s -> 121 <= m + s.at_.length -> PathI w h a p (slRun L w h a p m s) /\ 121 <= (slRun L w h a p m s).at_.length
 | 0, s, i, hm => ⟨i, by show 121 <= s.at_.length; omega⟩
 | m + 1, s, i, hm => by
  unfold slRun
  split
  ·have := slStep_len L w h a p s
   exact path_run b hp m _ (path_step b hp i) (by omega)
  ·exact ⟨i, by omega⟩
theorem path_all {L : List Int} {w h : Int} {a : List Bool} {p q : Int} (b : BasOk w h a.length) (hp : 1 <= p) (h0 : a.getD 0 false = false) : PathI w h a p (slF L w h a p q) /\ 121 <= (slF L w h a p q).at_.length := by
 have hw := mul_bd b.w1 b.h1
 have := b.n1
 exact path_run b hp 120 _ (path_0 (by omega) h0) (by show 121 <= 120 + 1; omega)
noncomputable def canS (w h : Int) (a : List Bool) (p : Int) (s : Int × Int) (c m : Int) : Bool := decide (dstI w h a s.2 c < farI) && decide (dstI w h a s.2 c * p <= mxI (m - s.1) (s.1 - m))
theorem canB_is {w h : Int} {a : List Bool} {p : Int} {ss : List (Int × Int)} {x : Nat} {c m : Int} (hx : x < ss.length) (hc : 0 <= c /\ c < (a.length : Int)) : canB p ss (trkRows w h a ss) x c m = canS w h a p (ss.getD x zeroSp) c m := by
 unfold canB canS
 have e : ((trkRows w h a ss).getD x []).getD (Int.toNat c) 0 = dstI w h a (ss.getD x zeroSp).2 c := by
  rw [show (trkRows w h a ss).getD x [] = dstL w h a (ss.getD x zeroSp).2 from tabP_get hx]
  rw [show (dstL w h a (ss.getD x zeroSp).2).getD (Int.toNat c) 0 = dstI w h a (ss.getD x zeroSp).2 ((Int.toNat c : Nat) : Int) from tabP_get (by omega)]
  rw [show ((Int.toNat c : Nat) : Int) = c from by omega]
 rw [e]
def Seen1 (at_ : List Int) (ss : List (Int × Int)) : Prop := ∀ s ∈ ss, (0 <= s.1 /\ s.1 <= 120) /\ s.2 = at_.getD (Int.toNat s.1) 0 /\ 0 <= s.2
theorem can_way {w h : Int} {a : List Bool} {p : Int} {s : Sl} (b : BasOk w h a.length) (hp : 1 <= p) (i : PathI w h a p s) {m k : Nat} (hm : m < s.at_.length) (hk : k < s.at_.length) (h1 : 0 <= s.at_.getD m 0) (h2 : 0 <= s.at_.getD k 0) : canS w h a p ((m : Int), s.at_.getD m 0) (s.at_.getD k 0) (k : Int) = true := by
 have c1 := (i.cells m hm).resolve_left (by omega)
 have c2 := (i.cells k hk).resolve_left (by omega)
 have key : ∃ n : Nat, Wy w h a (s.at_.getD m 0) n (s.at_.getD k 0) /\ (n : Int) * p <= mxI ((k : Int) - (m : Int)) ((m : Int) - (k : Int)) := by
  rcases Nat.le_total m k with q | q
  ·obtain ⟨n, n1, n2⟩ := i.way m k q hk h1 h2
   exact ⟨n, n1, by unfold mxI; split <;> omega⟩
  ·obtain ⟨n, n1, n2⟩ := i.way k m q hm h2 h1
   exact ⟨n, wy_rev b c2.1 c2.2 n1, by unfold mxI; split <;> omega⟩
 obtain ⟨n, n1, n2⟩ := key
 have d1 := dst_wy n1
 obtain ⟨m', h3, h4⟩ := wy_lst n1
 have d2 := lst_le b c1.1 h4
 have d3 := dst_is h4
 have := b.n1
 have := b.p1
 unfold canS
 rw [Bool.and_eq_true, decide_eq_true_eq, decide_eq_true_eq]
 refine ⟨by dsimp only; rw [d3]; unfold farI; omega, ?_⟩
 dsimp only
 have : dstI w h a (s.at_.getD m 0) (s.at_.getD k 0) * p <= (n : Int) * p := Int.mul_le_mul_of_nonneg_right d1 (by omega)
 omega
theorem seen_can {w h : Int} {a : List Bool} {p : Int} {s : Sl} {ss : List (Int × Int)} (b : BasOk w h a.length) (hp : 1 <= p) (i : PathI w h a p s) (hl : 121 <= s.at_.length) (k : Seen1 s.at_ ss) {x y : Int × Int} (hx : x ∈ ss) (hy : y ∈ ss) : canS w h a p x y.2 y.1 = true := by
 obtain ⟨x1, x2, x3⟩ := k x hx
 obtain ⟨y1, y2, y3⟩ := k y hy
 have := can_way b hp i (m := Int.toNat x.1) (k := Int.toNat y.1) (by omega) (by omega) (by omega) (by omega)
 rw [<- x2, <- y2, show ((Int.toNat x.1 : Nat) : Int) = x.1 from by omega, show ((Int.toNat y.1 : Nat) : Int) = y.1 from by omega] at this
 exact this
theorem cf_nil {w h : Int} {a : List Bool} {p : Int} {ss : List (Int × Int)} (hc : ∀ s ∈ ss, 0 <= s.2 /\ s.2 < (a.length : Int)) (k : ∀ x ∈ ss, ∀ y ∈ ss, canS w h a p x y.2 y.1 = true) : cfTo p ss (trkRows w h a ss) ss.length = [] := by
 unfold cfTo
 rw [List.flatMap_eq_nil_iff]
 intro x hx
 have hx := List.mem_range.1 hx
 unfold cfRow
 rw [List.map_eq_nil_iff, List.filter_eq_nil_iff]
 intro y hy
 have hy := List.mem_range.1 hy
 unfold agrB
 rw [canB_is hx (hc _ (getD_mem hy)), k _ (getD_mem hx) _ (getD_mem hy)]
 simp
theorem clr_is {w h : Int} {a : List Bool} {p : Int} {ss : List (Int × Int)} {c m : Int} (hc : 0 <= c /\ c < (a.length : Int)) : clrB p ss (trkRows w h a ss) c m ss.length = ss.all fun s => canS w h a p s c m := by
 unfold clrB
 rw [Bool.eq_iff_iff, List.all_eq_true, List.all_eq_true]
 constructor
 ·intro h s hs
  obtain ⟨x, hx, rfl⟩ := List.mem_iff_getElem.1 hs
  have := h x (List.mem_range.2 hx)
  rw [canB_is hx hc] at this
  rw [<- this]; congr 1
  rw [List.getD_eq_getElem?_getD, List.getElem?_eq_getElem hx]; rfl
 ·intro h x hx
  have hx := List.mem_range.1 hx
  rw [canB_is hx hc]
  exact h _ (getD_mem hx)
end Go.Proofs.YtbgfjemppjhmjaaGreat
/- Radio: RadioTimes: words and plain laws. No condition. -/
namespace Go.Proofs.YtbgfjemppjhmjaaGreat
set_option linter.unusedSimpArgs false
open Go Go.K
set_option linter.unusedVariables false
def atL (N : List Int) (p : Int) : List Int := (slF N (wtW N 0) (wtH N 0) (wtLd N) p (wtN (Int.toNat (wtW N 0 * wtH N 0)))).at_
def pcP (z : Int) : Int := 1 + z % 30
noncomputable def rwQ (N : List Int) (ss : List (Int × Int)) : List (List Int) := trkRows (wtW N 0) (wtH N 0) (wtLd N) ss
noncomputable def whQ (N : List Int) (z : Int) (ss : List (Int × Int)) (m : Int) : List Int := whL (wtLd N) (pcP z) ss (rwQ N ss) m (wtLd N).length
theorem wtBas (N : List Int) : BasOk (wtW N 0) (wtH N 0) (wtLd N).length := by
 have h1 := wtW_bd N 0
 have h2 := wtH_bd N 0
 have h3 := wtWH_bd N 0
 exact ⟨by omega, by omega, by omega, by rw [wtLand_len]; omega⟩
theorem wtLd_0 (N : List Int) : (wtLd N).getD 0 false = false := by
 have h3 := wtWH_bd N 0
 rw [show (wtLd N).getD 0 false = (decide (0 < 0) && decide (dN N (((0 : Nat) : Int) + 1) 7 = 0)) from tabP_get (by omega)]
 rfl
theorem pcP_bd (z : Int) : 1 <= pcP z /\ pcP z <= 30 := by
 have h1 := Int.emod_nonneg z (b := 30) (by omega)
 have h2 := Int.emod_lt_of_pos z (b := 30) (by omega)
 unfold pcP; omega
theorem wtPath (N : List Int) (z : Int) : PathI (wtW N 0) (wtH N 0) (wtLd N) (pcP z) (slF N (wtW N 0) (wtH N 0) (wtLd N) (pcP z) (wtN (Int.toNat (wtW N 0 * wtH N 0)))) /\ 121 <= (atL N (pcP z)).length := path_all (wtBas N) (pcP_bd z).1 (wtLd_0 N)
end Go.Proofs.YtbgfjemppjhmjaaGreat
/- Radio: lists of numbers in laws' arguments. No condition. -/
namespace Go.Proofs.YtbgfjemppjhmjaaGreat
set_option linter.unusedSimpArgs false
set_option linter.unusedVariables false
open Go Go.K
noncomputable section
abbrev dI (L : List Int) : Value := .iface (L.length + 1) (.agg ⟨L.flatMap intC⟩)
theorem dI_b (L : List Int) : belowC 0 (dI L) = true := all_belowD 0 L
theorem args_rn {vs : List Value} (h : vs.all (belowC 0) = true) (σ : Nat -> Option Nat) : vs.map (rn σ 5) = vs := (rnCl (σ := σ) (d := 2) h).1
end
end Go.Proofs.YtbgfjemppjhmjaaGreat
/- Radio: RadioTimes: the law. No condition. -/
namespace Go.Proofs.YtbgfjemppjhmjaaGreat
open Go Go.K
set_option maxRecDepth 100000
set_option linter.unusedVariables false
set_option linter.unusedSimpArgs false
noncomputable section
attribute [local irreducible] vF
theorem wkTrk {w h p : Int} {i j n k : Nat} : wk (.agg #[.int .i64 w, .int .i64 h, .slice (some ⟨i, 0, some 1⟩) n n, .int .i64 p, .slice (some ⟨j, 0, some 1⟩) k k]) (.agg #[.int .i64 w, .int .i64 h, .slice (some ⟨i, 0, some 2⟩) n n, .int .i64 p, .slice (some ⟨j, 0, some 2⟩) k k]) :=
 wk_aggL (wks_cons (wk_refl _) (wks_cons (wk_refl _) (wks_cons wk_QR (wks_cons (wk_refl _) (wks_cons wk_QR wks_nil)))))
theorem wkBas {w h : Int} {i n : Nat} : wk (.agg #[.int .i64 w, .int .i64 h, .slice (some ⟨i, 0, some 1⟩) n n]) (.agg #[.int .i64 w, .int .i64 h, .slice (some ⟨i, 0, some 2⟩) n n]) :=
 wk_aggL (wks_cons (wk_refl _) (wks_cons (wk_refl _) (wks_cons wk_QR wks_nil)))
end
end Go.Proofs.YtbgfjemppjhmjaaGreat
/- What is to be shown of functions. Printed by a program. No condition. -/
namespace Go.Proofs.YtbgfjemppjhmjaaGreat
set_option linter.unusedSimpArgs false
open Go Go.K
set_option maxRecDepth 100000
set_option maxHeartbeats 4000000
set_option linter.unusedVariables false
noncomputable section
abbrev kv0 (w : Int) (h : Int) (a : List Bool) (p : Int) (ss : List (Int × Int)) : List Value:=[nI w,nI h,slQ 0 2 a.length,nI p,slQ 1 2 ss.length,slQ 4 1 (rowT w h a ss ss.length).length]
abbrev kv1 (p : Int) (ss : List (Int × Int)) (w : Int) (h : Int) (a : List Bool):=cfTo p ss (rowT w h a ss ss.length) ss.length
def Rconfs (o1 o2 : Bool) (z1 z2 : Nat) (w h : Int) (a : List Bool) (p : Int) (ss : List (Int × Int)) : Prop :=
 (((someR (.cells o1 z1 (a.flatMap boolC))) /\ (someR (.cells o2 z2 (ss.flatMap spC))) /\ True) /\ (∀ H' : Heap,H'.length = 3 -> (H'[0]? = some (.cells o1 z1 (a.flatMap boolC) : KObj) /\ H'[1]? = some (.cells o2 z2 (ss.flatMap spC) : KObj) /\ True) -> KCall prog 72 [.agg #[nI w,nI h,slQ 0 2 a.length,nI p,slQ 1 2 ss.length]] H' [] (Is (.tuple #[.pointer (some ⟨3,0,none⟩),nI 0]) (H' ++ [(.cells true 0 (kv0 w h a p ss) : KObj),(.cells true 1 (inL (rowT w h a ss ss.length)) : KObj)]))) /\ (((someR (.cells true 0 (kv0 w h a p ss))) /\ (someR (.cells o1 z1 (a.flatMap boolC))) /\ (someR (.cells o2 z2 (ss.flatMap spC))) /\ (someR (.cells true 1 (inL (rowT w h a ss ss.length)))) /\ True) /\ (∀ H' : Heap,H'.length = 5 -> (H'[3]? = some (.cells true 0 (kv0 w h a p ss) : KObj) /\ H'[0]? = some (.cells o1 z1 (a.flatMap boolC) : KObj) /\ H'[1]? = some (.cells o2 z2 (ss.flatMap spC) : KObj) /\ H'[4]? = some (.cells true 1 (inL (rowT w h a ss ss.length)) : KObj) /\ True) -> KCall prog 74 [.pointer (some ⟨3,0,none⟩)] H' [] (Is (slQ 5 1 (kv1 p ss w h a).length) (H' ++ [(.cells true 2 ((kv1 p ss w h a).flatMap spC) : KObj)]))) /\ (true = true /\ wk (.tuple #[slQ 5 1 (kv1 p ss w h a).length,nI 0] : Value) (rn (sg 2 [(2,5)]) 3 (.tuple #[slQ 2 1 (kv1 p ss w h a).length,nI 0] : Value)) /\ ((keptR 2 (.cells true 2 ((kv1 p ss w h a).flatMap spC))) /\ True))))
theorem Econfs (o1 o2 : Bool) (z1 z2 : Nat) (w h : Int) (a : List Bool) (p : Int) (ss : List (Int × Int)) : vF prog msk (dm 0) 100000 true 40 true 23 [.agg #[nI w,nI h,slQ 0 2 a.length,nI p,slQ 1 2 ss.length]] (readsK [.cells o1 z1 (a.flatMap boolC),.cells o2 z2 (ss.flatMap spC)]) (some [])
 (.go 3 (.ans [(0,.cells o1 z1 (a.flatMap boolC)),(1,.cells o2 z2 (ss.flatMap spC))] (.tuple #[.pointer (some ⟨3,0,none⟩),nI 0]) [.cells true 0 (kv0 w h a p ss),.cells true 1 (inL (rowT w h a ss ss.length))] (.go 8 (.ans [(3,.cells true 0 (kv0 w h a p ss)),(0,.cells o1 z1 (a.flatMap boolC)),(1,.cells o2 z2 (ss.flatMap spC)),(4,.cells true 1 (inL (rowT w h a ss ss.length)))] (slQ 5 1 (kv1 p ss w h a).length) [.cells true 2 ((kv1 p ss w h a).flatMap spC)] (.go 1 (.again [(2,5)]))))))
 (newK ((readsK [.cells o1 z1 (a.flatMap boolC),.cells o2 z2 (ss.flatMap spC)]) : HT).n 3 (.tuple #[slQ 2 1 (kv1 p ss w h a).length,nI 0]) [(true,.cells true 2 ((kv1 p ss w h a).flatMap spC))]) = Rconfs o1 o2 z1 z2 w h a p ss:=by kernel_rfl
end
end Go.Proofs.YtbgfjemppjhmjaaGreat
/- Radio: conflicts of a track. No condition. -/
namespace Go.Proofs.YtbgfjemppjhmjaaGreat
open Go Go.K
set_option maxRecDepth 100000
set_option linter.unusedVariables false
set_option linter.unusedSimpArgs false
noncomputable section
attribute [local irreducible] vF
theorem hvConfs {o1 o2 : Bool} {z1 z2 : Nat} {w h : Int} {a : List Bool} {p : Int} {ss : List (Int × Int)} (t : TrOk w h a p ss) (e0 : errT w h a p ss = 0) : Rconfs o1 o2 z1 z2 w h a p ss := by
 have hs := t.few
 have hn := t.bas.n1
 have hp1 := t.bas.p1
 have rk := rowsOk t
 delta Rconfs kv0 kv1
 refine ⟨⟨rfl, rfl, trivial⟩, fun H' hH h => (by have := kOpen0 (by omega) (by omega) e0 (by decide) h.1 h.2.1; rw [hH] at this; exact this), ⟨rfl, rfl, rfl, rfl, trivial⟩, fun H' hH h => hH ▸ kConf t rk ⟨by decide, h.2.1, h.2.2.1, h.1, h.2.2.2.1⟩, ?_⟩
 repeat' first | exact spB _ _ | exact trivial | exact rfl | exact wk_refl _ | refine wkO_cells ?_ | refine wks_cons ?_ ?_ | exact wks_nil | exact wk_nil _ _ _ (.inl rfl) | (exact wk_Q (by omega)) | refine wk_tupL ?_ | refine wk_aggL ?_ | refine joinMax ?_ ?_ ?_ | refine joinMin ?_ ?_ ?_ | refine toMax ?_ | refine toMin ?_ | refine ⟨rfl, ?_⟩ | refine ⟨trivial, ?_⟩ | (refine forkD (fun h => ?_) (fun h => ?_)) | (refine forkNe (fun h => ?_) (fun h => ?_)) | (refine forkEq (fun h => ?_) (fun h => ?_)) | refine forkNot ?_ | (refine ⟨vI64 (by omega), ?_⟩) | (refine And.intro (by omega) ?_) | apply And.intro | (exact iEq (by omega)) | (exact vI64 (by omega))
theorem kConfs {w h : Int} {a : List Bool} {p : Int} {ss : List (Int × Int)} (e0 : errT w h a p ss = 0) {H : Heap} {i j : Nat} (hne : i ≠ j) {o1 o2 : Bool} {z1 z2 : Nat} (hi : H[i]? = some (.cells o1 z1 (a.flatMap boolC))) (hj : H[j]? = some (.cells o2 z2 (ss.flatMap spC))) :
  KCall prog 23 [trkV w h a p ss i j] H [] (Is (.tuple #[.slice (some ⟨H.length, 0, some 1⟩) (cfTo p ss (trkRows w h a ss) ss.length).length (cfTo p ss (trkRows w h a ss) ss.length).length, .int .i64 0]) (H ++ [.cells true 2 ((cfTo p ss (trkRows w h a ss) ss.length).flatMap spC)])) :=
 valKs (fun j => .tuple #[.slice (some ⟨j, 0, some 1⟩) (cfTo p ss (trkRows w h a ss) ss.length).length (cfTo p ss (trkRows w h a ss) ss.length).length, .int .i64 0]) (new := [.cells true 2 ((cfTo p ss (trkRows w h a ss) ss.length).flatMap spC)]) (Eq.mpr (Econfs o1 o2 z1 z2 w h a p ss) (hvConfs (trOk e0) e0)) (trk_ok ..) rfl ⟨⟨_, _, rfl, plainSp _ _⟩, trivial⟩ (ids := [i, j]) (by simp [hne]) (trk_objs hi hj) (fun j => rfl) rfl
end
end Go.Proofs.YtbgfjemppjhmjaaGreat
/- Radio: numbers sorted by a key, as insertion does it: plain laws. No condition. -/
namespace Go.Proofs.YtbgfjemppjhmjaaGreat
set_option linter.unusedSimpArgs false
open Go Go.K
set_option linter.unusedVariables false
def stI (l : List Int) (x : Int) (j : Nat) : List Int := l.take j ++ x :: l.drop j
def ipos (k : Int -> Int) (l : List Int) (x : Int) : Nat -> Nat
 | 0 => 0
 | j + 1 => if k x < k (l.getD j 0) then ipos k l x j else j + 1
def isr (k : Int -> Int) (l : List Int) : Nat -> List Int
 | 0 => []
 | i + 1 => stI (isr k l i) (l.getD i 0) (ipos k (isr k l i) (l.getD i 0) i)
theorem ipos_le (k : Int -> Int) (l : List Int) (x : Int) : ∀ j, ipos k l x j <= j
 | 0 => Nat.le_refl _
 | j + 1 => by
  unfold ipos
  split
  ·have := ipos_le k l x j; omega
  ·omega
theorem stI_len {l : List Int} {x : Int} {j : Nat} (h : j <= l.length) : (stI l x j).length = l.length + 1 := by
 unfold stI
 rw [List.length_append, List.length_cons, List.length_take, List.length_drop]; omega
theorem stI_perm (l : List Int) (x : Int) (j : Nat) : (stI l x j).Perm (x :: l) := by
 unfold stI
 have := List.perm_middle (a := x) (l₁ := l.take j) (l₂ := l.drop j)
 rwa [List.take_append_drop] at this
theorem isr_len (k : Int -> Int) (l : List Int) : ∀ i, (isr k l i).length = i
 | 0 => rfl
 | i + 1 => by
  have ih := isr_len k l i
  unfold isr
  rw [stI_len (by have := ipos_le k (isr k l i) (l.getD i 0) i; omega), ih]
theorem isr_perm (k : Int -> Int) (l : List Int) : ∀ i, i <= l.length -> (isr k l i).Perm (l.take i)
 | 0, _ => .refl _
 | i + 1, h => by
  have ih := isr_perm k l i (by omega)
  unfold isr
  rw [List.take_succ_eq_append_getElem (by omega)]
  have e : l.getD i 0 = l[i] := by rw [List.getD_eq_getElem?_getD, List.getElem?_eq_getElem (by omega)]; rfl
  rw [e]
  exact (stI_perm _ _ _).trans ((List.Perm.cons _ ih).trans (List.perm_append_singleton _ _).symm)
theorem ipos_up (k : Int -> Int) (l : List Int) (x : Int) : ∀ j, j <= l.length -> ∀ i, ipos k l x j <= i -> i < j -> k x < k (l.getD i 0)
 | 0, _, i, h1, h2 => by omega
 | j + 1, hj, i, h1, h2 => by
  unfold ipos at h1
  split at h1
  ·by_cases e : i = j
   ·rw [e]; assumption
   ·exact ipos_up k l x j (by omega) i h1 (by omega)
  ·omega
theorem ipos_dn (k : Int -> Int) (l : List Int) (x : Int) : ∀ j, j <= l.length -> 0 < ipos k l x j -> ¬ k x < k (l.getD (ipos k l x j - 1) 0)
 | 0, _, h => by unfold ipos at h; omega
 | j + 1, hj, h => by
  by_cases q : k x < k (l.getD j 0)
  ·have e : ipos k l x (j + 1) = ipos k l x j := by show (if _ then _ else _) = _; rw [if_pos q]
   rw [e] at h ⊢
   exact ipos_dn k l x j (by omega) h
  ·have e : ipos k l x (j + 1) = j + 1 := by show (if _ then _ else _) = _; rw [if_neg q]
   rw [e]; exact q
theorem isr_sorted (k : Int -> Int) (l : List Int) : ∀ i, (isr k l i).Pairwise fun x y => k x <= k y
 | 0 => List.Pairwise.nil
 | i + 1 => by
  have ih := isr_sorted k l i
  have hl := isr_len k l i
  unfold isr
  generalize hm : isr k l i = m at *
  generalize l.getD i 0 = x
  have h1 := ipos_up k m x i (by omega)
  have h2 := ipos_dn k m x i (by omega)
  have h3 := ipos_le k m x i
  generalize ipos k m x i = j at *
  unfold stI
  have hg : ∀ n, (h : n < m.length) -> m[n] = m.getD n 0 := fun n h => by rw [List.getD_eq_getElem?_getD, List.getElem?_eq_getElem h]; rfl
  have hs := List.pairwise_append.1 (by rw [List.take_append_drop]; exact ih : (m.take j ++ m.drop j).Pairwise fun x y => k x <= k y)
  have hdr : ∀ y ∈ m.drop j, k x <= k y := fun y hy => by
   obtain ⟨n, hn, rfl⟩ := List.mem_iff_getElem.1 hy
   rw [List.length_drop] at hn
   rw [List.getElem_drop, hg _ (by omega)]
   exact Int.le_of_lt (h1 (j + n) (by omega) (by omega))
  have htk : ∀ y ∈ m.take j, k y <= k x := fun y hy => by
   obtain ⟨n, hn, rfl⟩ := List.mem_iff_getElem.1 hy
   rw [List.length_take] at hn
   rw [List.getElem_take]
   have hj := h2 (by omega)
   rw [<- hg (j - 1) (by omega)] at hj
   have hle : k m[n] <= k m[j - 1] := by
    by_cases e : n = j - 1
    ·subst e; exact Int.le_refl _
    ·exact List.pairwise_iff_getElem.1 ih n (j - 1) (by omega) (by omega) (by omega)
   omega
  refine List.pairwise_append.2 ⟨hs.1, List.pairwise_cons.2 ⟨hdr, hs.2.1⟩, fun y hy z hz => ?_⟩
  rcases List.mem_cons.1 hz with rfl | hz
  ·exact htk y hy
  ·exact Int.le_trans (htk y hy) (hdr z hz)
end Go.Proofs.YtbgfjemppjhmjaaGreat
/- Radio: heights of sightings: how many agree at most: plain laws. No condition. -/
namespace Go.Proofs.YtbgfjemppjhmjaaGreat
set_option linter.unusedSimpArgs false
open Go Go.K
set_option linter.unusedVariables false
def hgV (agr : Int -> Int -> Bool) (s H : List Int) (n : Nat) : Nat -> Int
 | 0 => 1
 | j + 1 => if agr (s.getD j 0) (s.getD n 0) = true then mxI (hgV agr s H n j) (H.getD j 0 + 1) else hgV agr s H n j
def hgs (agr : Int -> Int -> Bool) (s : List Int) : Nat -> List Int
 | 0 => []
 | n + 1 => hgs agr s n ++ [hgV agr s (hgs agr s n) n n]
theorem hgs_len (agr : Int -> Int -> Bool) (s : List Int) : ∀ n, (hgs agr s n).length = n
 | 0 => rfl
 | n + 1 => by unfold hgs; rw [List.length_append, hgs_len agr s n]; rfl
theorem hgs_get (agr : Int -> Int -> Bool) (s : List Int) {n j : Nat} (h : j < n) : (hgs agr s n).getD j 0 = hgV agr s (hgs agr s j) j j := by
 induction n with
 | zero => omega
 | succ n ih =>
  have hl := hgs_len agr s n
  show (hgs agr s n ++ [hgV agr s (hgs agr s n) n n]).getD j 0 = _
  by_cases e : j = n
  ·subst e
   rw [List.getD_eq_getElem?_getD, List.getElem?_append_right (by omega), hl, Nat.sub_self]; rfl
  ·rw [List.getD_eq_getElem?_getD, List.getElem?_append_left (by omega), <- List.getD_eq_getElem?_getD]
   exact ih (by omega)
end Go.Proofs.YtbgfjemppjhmjaaGreat
/- Radio: how many agree at most: plain laws. No condition. -/
namespace Go.Proofs.YtbgfjemppjhmjaaGreat
set_option linter.unusedSimpArgs false
open Go Go.K
set_option linter.unusedVariables false
def mxF (H : List Int) : Int := H.foldl (fun n h => if h > n then h else n) 0
theorem foldmx (H : List Int) : ∀ (b : Int), b <= H.foldl (fun n h => if h > n then h else n) b /\ (∀ h ∈ H, h <= H.foldl (fun n h => if h > n then h else n) b) /\ (H.foldl (fun n h => if h > n then h else n) b = b ∨ H.foldl (fun n h => if h > n then h else n) b ∈ H) := by
 induction H with
 | nil => intro b; exact ⟨Int.le_refl _, fun h q => (by cases q), Or.inl rfl⟩
 | cons x H ih =>
  intro b
  rw [List.foldl_cons]
  have i := ih (if x > b then x else b)
  have hb : b <= (if x > b then x else b) /\ x <= (if x > b then x else b) := by split <;> omega
  refine ⟨Int.le_trans hb.1 i.1, fun h q => ?_, ?_⟩
  ·rcases List.mem_cons.1 q with rfl | q
   ·exact Int.le_trans hb.2 i.1
   ·exact i.2.1 h q
  ·rcases i.2.2 with e | e
   ·rw [e]
    split
    ·exact Or.inr (List.mem_cons_self ..)
    ·exact Or.inl rfl
   ·exact Or.inr (List.mem_cons_of_mem _ e)
theorem mxF_0 (H : List Int) : 0 <= mxF H := (foldmx H 0).1
theorem mxF_ge {H : List Int} {h : Int} (q : h ∈ H) : h <= mxF H := (foldmx H 0).2.1 h q
theorem mxF_in (H : List Int) : mxF H = 0 ∨ mxF H ∈ H := (foldmx H 0).2.2
theorem gI {l : List Int} {n : Nat} (h : n < l.length) : l.getD n 0 = l[n] := by rw [List.getD_eq_getElem?_getD, List.getElem?_eq_getElem h]; rfl
def hgt (agr : Int -> Int -> Bool) (s : List Int) (n : Nat) : Int := hgV agr s (hgs agr s n) n n
theorem hgs_mem {agr : Int -> Int -> Bool} {s : List Int} {m : Nat} {h : Int} (q : h ∈ hgs agr s m) : ∃ n, n < m /\ h = hgt agr s n := by
 induction m with
 | zero => cases q
 | succ m ih =>
  unfold hgs at q
  rcases List.mem_append.1 q with q | q
  ·obtain ⟨n, hn, e⟩ := ih q; exact ⟨n, by omega, e⟩
  ·exact ⟨m, by omega, List.mem_singleton.1 q⟩
theorem mem_hgs {agr : Int -> Int -> Bool} {s : List Int} {m n : Nat} (h : n < m) : hgt agr s n ∈ hgs agr s m := by
 have e := hgs_get agr s h
 rw [gI (by rw [hgs_len]; exact h)] at e
 unfold hgt
 rw [<- e]; exact List.getElem_mem _
theorem hgV_spec (agr : Int -> Int -> Bool) (s : List Int) (n : Nat) : ∀ j, j <= n -> 1 <= hgV agr s (hgs agr s n) n j /\ (∀ i, i < j -> agr (s.getD i 0) (s.getD n 0) = true -> hgt agr s i + 1 <= hgV agr s (hgs agr s n) n j) /\ (hgV agr s (hgs agr s n) n j = 1 ∨ ∃ i, i < j /\ agr (s.getD i 0) (s.getD n 0) = true /\ hgV agr s (hgs agr s n) n j = hgt agr s i + 1)
 | 0, _ => ⟨Int.le_refl 1, fun i hi => by omega, Or.inl rfl⟩
 | j + 1, hj => by
  obtain ⟨h1, h2, h3⟩ := hgV_spec agr s n j (by omega)
  have hg : (hgs agr s n).getD j 0 = hgt agr s j := hgs_get agr s (by omega)
  show 1 <= (if agr (s.getD j 0) (s.getD n 0) = true then mxI (hgV agr s (hgs agr s n) n j) ((hgs agr s n).getD j 0 + 1) else hgV agr s (hgs agr s n) n j) /\ (∀ i, i < j + 1 -> _ -> hgt agr s i + 1 <= (if agr (s.getD j 0) (s.getD n 0) = true then mxI (hgV agr s (hgs agr s n) n j) ((hgs agr s n).getD j 0 + 1) else hgV agr s (hgs agr s n) n j)) /\ ((if agr (s.getD j 0) (s.getD n 0) = true then mxI (hgV agr s (hgs agr s n) n j) ((hgs agr s n).getD j 0 + 1) else hgV agr s (hgs agr s n) n j) = 1 ∨ ∃ i, i < j + 1 /\ agr (s.getD i 0) (s.getD n 0) = true /\ (if agr (s.getD j 0) (s.getD n 0) = true then mxI (hgV agr s (hgs agr s n) n j) ((hgs agr s n).getD j 0 + 1) else hgV agr s (hgs agr s n) n j) = hgt agr s i + 1)
  rw [hg]
  generalize hgV agr s (hgs agr s n) n j = V at *
  unfold mxI
  by_cases q : agr (s.getD j 0) (s.getD n 0) = true
  ·rw [if_pos q]
   refine ⟨by split <;> omega, fun i hi a => ?_, ?_⟩
   ·by_cases e : i = j
    ·subst e; split <;> omega
    ·have := h2 i (by omega) a; split <;> omega
   ·split
    ·exact Or.inr ⟨j, by omega, q, rfl⟩
    ·rcases h3 with e | ⟨i, hi, a, e⟩
     ·exact Or.inl e
     ·exact Or.inr ⟨i, by omega, a, e⟩
  ·rw [if_neg q]
   refine ⟨h1, fun i hi a => ?_, ?_⟩
   ·by_cases e : i = j
    ·subst e; exact absurd a q
    ·exact h2 i (by omega) a
   ·rcases h3 with e | ⟨i, hi, a, e⟩
    ·exact Or.inl e
    ·exact Or.inr ⟨i, by omega, a, e⟩
theorem hgt_1 (agr : Int -> Int -> Bool) (s : List Int) (n : Nat) : 1 <= hgt agr s n := (hgV_spec agr s n n (Nat.le_refl _)).1
theorem hgt_up {agr : Int -> Int -> Bool} {s : List Int} {i n : Nat} (h : i < n) (a : agr (s.getD i 0) (s.getD n 0) = true) : hgt agr s i + 1 <= hgt agr s n := (hgV_spec agr s n n (Nat.le_refl _)).2.1 i h a
theorem hgt_is (agr : Int -> Int -> Bool) (s : List Int) (n : Nat) : hgt agr s n = 1 ∨ ∃ i, i < n /\ agr (s.getD i 0) (s.getD n 0) = true /\ hgt agr s n = hgt agr s i + 1 := (hgV_spec agr s n n (Nat.le_refl _)).2.2
def mstS (agr : Int -> Int -> Bool) (s : List Int) : Int := mxF (hgs agr s s.length)
def mst (agr : Int -> Int -> Bool) (k : Int -> Int) (l : List Int) : Int := mstS agr (isr k l l.length)
theorem take_cnt {s : List Int} {P : Int -> Bool} {n : Nat} (h : n < s.length) : ((s.take (n + 1)).filter P).length = ((s.take n).filter P).length + (if P (s.getD n 0) = true then 1 else 0) := by
 rw [List.take_succ_eq_append_getElem h, List.filter_append, List.length_append, gI h]
 congr 1
 by_cases q : P s[n] = true
 ·rw [if_pos q, List.filter_cons_of_pos q]; rfl
 ·rw [if_neg q, List.filter_cons_of_neg q]; rfl
theorem mstS_ge {agr : Int -> Int -> Bool} {s : List Int} {P : Int -> Bool} (h : ∀ x ∈ s, ∀ y ∈ s, P x = true -> P y = true -> agr x y = true) : (((s.filter P).length : Nat) : Int) <= mstS agr s := by
 have key : ∀ n, n <= s.length -> ((((s.take n).filter P).length : Nat) : Int) <= 0 ∨ ∃ j, j < n /\ P (s.getD j 0) = true /\ ((((s.take n).filter P).length : Nat) : Int) <= hgt agr s j := by
  intro n
  induction n with
  | zero => intro _; exact Or.inl (by simp)
  | succ n ih =>
   intro hn
   rw [take_cnt (by omega)]
   by_cases q : P (s.getD n 0) = true
   ·rw [if_pos q]
    refine Or.inr ⟨n, by omega, q, ?_⟩
    rcases ih (by omega) with e | ⟨j, hj, pj, e⟩
    ·have := hgt_1 agr s n; omega
    ·have a : agr (s.getD j 0) (s.getD n 0) = true := h _ (by rw [gI (by omega)]; exact List.getElem_mem _) _ (by rw [gI (by omega)]; exact List.getElem_mem _) pj q
     have := hgt_up hj a; omega
   ·rw [if_neg q]
    rcases ih (by omega) with e | ⟨j, hj, pj, e⟩
    ·exact Or.inl (by omega)
    ·exact Or.inr ⟨j, by omega, pj, by omega⟩
 have := key s.length (Nat.le_refl _)
 rw [List.take_length] at this
 rcases this with e | ⟨j, hj, _, e⟩
 ·have := mxF_0 (hgs agr s s.length); unfold mstS; omega
 ·exact Int.le_trans e (mxF_ge (mem_hgs hj))
theorem hgt_has {agr : Int -> Int -> Bool} {k : Int -> Int} {s : List Int} (hs : s.Pairwise fun x y => k x <= k y) (ht : ∀ x ∈ s, ∀ y ∈ s, ∀ z ∈ s, k x <= k y -> k y <= k z -> agr x y = true -> agr y z = true -> agr x z = true) : ∀ n, n < s.length -> ∃ C : List Int, (C ++ [s.getD n 0]).Sublist (s.take (n + 1)) /\ (C ++ [s.getD n 0]).Pairwise (fun x y => agr x y = true) /\ (((C ++ [s.getD n 0]).length : Nat) : Int) = hgt agr s n := by
 intro n
 induction n using Nat.strongRecOn with
 | ind n ih =>
  intro hn
  rcases hgt_is agr s n with e | ⟨i, hi, a, e⟩
  ·refine ⟨[], ?_, by simp, by rw [e]; rfl⟩
   rw [List.take_succ_eq_append_getElem hn, gI hn]
   exact List.sublist_append_right ..
  ·obtain ⟨C, h1, h2, h3⟩ := ih i hi (by omega)
   refine ⟨C ++ [s.getD i 0], ?_, ?_, by rw [List.length_append, Int.natCast_add, h3, e]; rfl⟩
   ·rw [List.take_succ_eq_append_getElem hn, gI hn]
    refine List.Sublist.append (h1.trans ?_) (List.Sublist.refl _)
    exact (List.take_prefix_take_left (by omega : i + 1 <= n)).sublist
   ·refine List.pairwise_append.2 ⟨h2, by simp, fun x hx y hy => ?_⟩
    rw [List.mem_singleton.1 hy]
    have hxs : x ∈ s.take (i + 1) := h1.subset hx
    obtain ⟨m, hm, rfl⟩ := List.mem_iff_getElem.1 hxs
    rw [List.length_take] at hm
    rw [List.getElem_take]
    have him : s[i]'(by omega) ∈ s := List.getElem_mem _
    have hnm : s[n] ∈ s := List.getElem_mem _
    have hin : k (s[i]'(by omega)) <= k s[n] := List.pairwise_iff_getElem.1 hs i n (by omega) hn hi
    rw [gI hn] at a ⊢
    rw [gI (by omega)] at a
    rcases List.mem_append.1 hx with hc | hc
    ·have hag := (List.pairwise_append.1 h2).2.2 _ hc _ (List.mem_singleton.2 rfl)
     rw [List.getElem_take, gI (by omega)] at hag
     by_cases eq : m = i
     ·subst eq; exact a
     ·have hmi : k (s[m]'(by omega)) <= k (s[i]'(by omega)) := List.pairwise_iff_getElem.1 hs m i (by omega) (by omega) (by omega)
      exact ht _ (List.getElem_mem _) _ him _ hnm hmi hin hag a
    ·rw [List.mem_singleton, List.getElem_take, gI (by omega)] at hc
     rw [hc]; exact a
theorem mstS_has {agr : Int -> Int -> Bool} {k : Int -> Int} {s : List Int} (hs : s.Pairwise fun x y => k x <= k y) (ht : ∀ x ∈ s, ∀ y ∈ s, ∀ z ∈ s, k x <= k y -> k y <= k z -> agr x y = true -> agr y z = true -> agr x z = true) : ∃ C : List Int, C.Sublist s /\ C.Pairwise (fun x y => agr x y = true) /\ ((C.length : Nat) : Int) = mstS agr s := by
 rcases mxF_in (hgs agr s s.length) with e | e
 ·exact ⟨[], List.nil_sublist _, List.Pairwise.nil, by unfold mstS; rw [e]; rfl⟩
 ·obtain ⟨n, hn, e⟩ := hgs_mem e
  obtain ⟨C, h1, h2, h3⟩ := hgt_has hs ht n hn
  exact ⟨_, h1.trans (List.take_sublist _ _), h2, by rw [h3]; exact e.symm⟩
structure AgOk (agr : Int -> Int -> Bool) (k : Int -> Int) (D : List Int) : Prop where
 rfl : ∀ x ∈ D, agr x x = true
 sym : ∀ x ∈ D, ∀ y ∈ D, agr x y = true -> agr y x = true
 tr : ∀ x ∈ D, ∀ y ∈ D, ∀ z ∈ D, k x <= k y -> k y <= k z -> agr x y = true -> agr y z = true -> agr x z = true
theorem AgOk.sub {agr : Int -> Int -> Bool} {k : Int -> Int} {D L : List Int} (a : AgOk agr k D) (h : ∀ x ∈ L, x ∈ D) : AgOk agr k L :=
 ⟨fun x hx => a.rfl x (h x hx), fun x hx y hy => a.sym x (h x hx) y (h y hy), fun x hx y hy z hz => a.tr x (h x hx) y (h y hy) z (h z hz)⟩
theorem isr_all (k : Int -> Int) (l : List Int) : (isr k l l.length).Perm l := by
 have := isr_perm k l l.length (Nat.le_refl _)
 rwa [List.take_length] at this
theorem mst_ge {agr : Int -> Int -> Bool} {k : Int -> Int} {l : List Int} {P : Int -> Bool} (h : ∀ x ∈ l, ∀ y ∈ l, P x = true -> P y = true -> agr x y = true) : (((l.filter P).length : Nat) : Int) <= mst agr k l := by
 have p := isr_all k l
 have := mstS_ge (agr := agr) (s := isr k l l.length) (P := P) fun x hx y hy => h x (p.mem_iff.1 hx) y (p.mem_iff.1 hy)
 rwa [(p.filter P).length_eq] at this
theorem mst_has {agr : Int -> Int -> Bool} {k : Int -> Int} {l : List Int} (a : AgOk agr k l) : ∃ P : Int -> Bool, (∀ x ∈ l, ∀ y ∈ l, P x = true -> P y = true -> agr x y = true) /\ (((l.filter P).length : Nat) : Int) = mst agr k l := by
 have p := isr_all k l
 have a' : AgOk agr k (isr k l l.length) := a.sub fun x hx => p.mem_iff.1 hx
 obtain ⟨C, h1, h2, h3⟩ := mstS_has (isr_sorted k l l.length) a'.tr
 have hag : ∀ x ∈ l, ∀ y ∈ l, decide (x ∈ C) = true -> decide (y ∈ C) = true -> agr x y = true := by
  intro x hx y hy qx qy
  have qx := of_decide_eq_true qx
  have qy := of_decide_eq_true qy
  obtain ⟨i, hi, rfl⟩ := List.mem_iff_getElem.1 qx
  obtain ⟨j, hj, rfl⟩ := List.mem_iff_getElem.1 qy
  rcases Nat.lt_trichotomy i j with q | q | q
  ·exact List.pairwise_iff_getElem.1 h2 i j hi hj q
  ·subst q; exact a.rfl _ hx
  ·exact a.sym _ hy _ hx (List.pairwise_iff_getElem.1 h2 j i hj hi q)
 refine ⟨fun x => decide (x ∈ C), hag, Int.le_antisymm (mst_ge hag) ?_⟩
 show mstS agr (isr k l l.length) <= _
 rw [<- h3, <- (p.filter _).length_eq]
 have h4 := (h1.filter fun x => decide (x ∈ C)).length_le
 have h5 : C.filter (fun x => decide (x ∈ C)) = C := List.filter_eq_self.2 fun x hx => decide_eq_true hx
 rw [h5] at h4
 exact Int.ofNat_le.2 h4
theorem mst_le {agr : Int -> Int -> Bool} {k : Int -> Int} {l : List Int} (a : AgOk agr k l) : mst agr k l <= (l.length : Int) := by
 obtain ⟨P, _, e⟩ := mst_has a
 rw [<- e]; exact Int.ofNat_le.2 (List.length_filter_le ..)
theorem mst_all {agr : Int -> Int -> Bool} {k : Int -> Int} {l : List Int} (a : AgOk agr k l) (h : ∀ x ∈ l, ∀ y ∈ l, agr x y = true) : mst agr k l = (l.length : Int) := by
 refine Int.le_antisymm (mst_le a) ?_
 have := mst_ge (k := k) (P := fun _ => true) fun x hx y hy _ _ => h x hx y hy
 rwa [List.filter_eq_self.2 fun _ _ => rfl] at this
theorem mst_sub {agr : Int -> Int -> Bool} {k : Int -> Int} {l : List Int} (a : AgOk agr k l) (Q : Int -> Bool) : mst agr k (l.filter Q) <= mst agr k l := by
 obtain ⟨P, h1, e⟩ := mst_has (a.sub (L := l.filter Q) fun x hx => (List.mem_filter.1 hx).1)
 rw [<- e, List.filter_filter]
 refine mst_ge fun x hx y hy px py => ?_
 rw [Bool.and_eq_true] at px py
 exact h1 x (List.mem_filter.2 ⟨hx, px.2⟩) y (List.mem_filter.2 ⟨hy, py.2⟩) px.1 py.1
end Go.Proofs.YtbgfjemppjhmjaaGreat
/- Radio: which sightings are trusted, and their classes: plain laws. No condition. -/
namespace Go.Proofs.YtbgfjemppjhmjaaGreat
set_option linter.unusedSimpArgs false
open Go Go.K
set_option linter.unusedVariables false
def trS (agr : Int -> Int -> Bool) (k : Int -> Int) (n : Nat) : Nat -> List Int × List Bool
 | 0 => (allL n, [])
 | i + 1 => if (trS agr k n i).1.any (fun v => v == (i : Int)) = true /\ mst agr k ((trS agr k n i).1.filter fun v => agr i v) = mst agr k (allL n)
   then ((trS agr k n i).1.filter (fun v => agr i v), (trS agr k n i).2 ++ [true])
   else ((trS agr k n i).1.filter (fun v => !(v == (i : Int))), (trS agr k n i).2 ++ [false])
theorem allL_mem {n : Nat} {x : Int} : x ∈ allL n ↔ 0 <= x /\ x < (n : Int) := by
 unfold allL tabP
 rw [List.mem_map]
 constructor
 ·rintro ⟨i, hi, rfl⟩; have := List.mem_range.1 hi; omega
 ·rintro ⟨h1, h2⟩; exact ⟨Int.toNat x, List.mem_range.2 (by omega), by omega⟩
theorem allL_nodup (n : Nat) : (allL n).Nodup := by
 unfold allL tabP
 exact List.nodup_iff_pairwise_ne.2 ((List.pairwise_map.2 (List.Pairwise.imp (fun {a b} (h : a < b) => by show ((a : Nat) : Int) ≠ ((b : Nat) : Int); omega) (List.pairwise_lt_range))))
theorem allN_len (n : Nat) : (allL n).length = n := by unfold allL tabP; rw [List.length_map, List.length_range]
structure TrI (agr : Int -> Int -> Bool) (k : Int -> Int) (n i : Nat) : Prop where
 len : (trS agr k n i).2.length = i
 sub : (trS agr k n i).1.Sublist (allL n)
 tru : ∀ j, j < i -> ((trS agr k n i).2.getD j false = true ↔ (j : Int) ∈ (trS agr k n i).1)
 ag : ∀ j, j < i -> (j : Int) ∈ (trS agr k n i).1 -> ∀ x ∈ (trS agr k n i).1, agr j x = true
 mo : mst agr k (trS agr k n i).1 = mst agr k (allL n)
theorem any_is {l : List Int} {x : Int} : l.any (fun v => v == x) = true ↔ x ∈ l := by
 rw [List.any_eq_true]
 constructor
 ·rintro ⟨y, hy, e⟩; rw [<- eq_of_beq e]; exact hy
 ·intro h; exact ⟨x, h, beq_self_eq_true _⟩
theorem getB_app1 {l : List Bool} {x : Bool} {j : Nat} (h : j < l.length) : (l ++ [x]).getD j false = l.getD j false := by
 rw [List.getD_eq_getElem?_getD, List.getElem?_append_left h, <- List.getD_eq_getElem?_getD]
theorem getB_app2 {l : List Bool} {x : Bool} : (l ++ [x]).getD l.length false = x := by
 rw [List.getD_eq_getElem?_getD, List.getElem?_append_right (Nat.le_refl _), Nat.sub_self]; rfl
theorem trI {agr : Int -> Int -> Bool} {k : Int -> Int} {n : Nat} (a : AgOk agr k (allL n)) : ∀ i, i <= n -> TrI agr k n i
 | 0, _ => ⟨rfl, List.Sublist.refl _, fun j hj => by omega, fun j hj => by omega, rfl⟩
 | i + 1, hi => by
  have I := trI a i (by omega)
  have hin : (i : Int) ∈ allL n := allL_mem.2 (by omega)
  have aR : AgOk agr k (trS agr k n i).1 := a.sub fun x hx => I.sub.subset hx
  obtain ⟨l, sub, tru, ag, mo⟩ := I
  by_cases c : (trS agr k n i).1.any (fun v => v == (i : Int)) = true /\ mst agr k ((trS agr k n i).1.filter fun v => agr i v) = mst agr k (allL n)
  ·have e : trS agr k n (i + 1) = ((trS agr k n i).1.filter (fun v => agr i v), (trS agr k n i).2 ++ [true]) := by show (if _ then _ else _) = _; rw [if_pos c]
   have ci := any_is.1 c.1
   have sR : ∀ x ∈ (trS agr k n i).1, x ∈ allL n := fun x hx => sub.subset hx
   constructor
   all_goals rw [e]
   ·rw [List.length_append, l]; rfl
   ·exact List.Sublist.trans List.filter_sublist sub
   ·intro j hj
    show ((trS agr k n i).2 ++ [true]).getD j false = true ↔ _ ∈ (trS agr k n i).1.filter _
    rw [List.mem_filter]
    by_cases q : j = i
    ·subst q
     have := getB_app2 (l := (trS agr k n j).2) (x := true)
     rw [l] at this
     rw [this]
     exact ⟨fun _ => ⟨ci, a.rfl _ hin⟩, fun _ => rfl⟩
    ·rw [getB_app1 (by rw [l]; omega), tru j (by omega)]
     refine ⟨fun h => ⟨h, ?_⟩, fun h => h.1⟩
     exact a.sym _ (sR _ h) _ hin (ag j (by omega) h _ ci)
   ·intro j hj hm x hx
    have hm := List.mem_filter.1 hm
    have hx := List.mem_filter.1 hx
    by_cases q : j = i
    ·subst q; exact hx.2
    ·exact ag j (by omega) hm.1 x hx.1
   ·exact c.2
  ·have e : trS agr k n (i + 1) = ((trS agr k n i).1.filter (fun v => !(v == (i : Int))), (trS agr k n i).2 ++ [false]) := by show (if _ then _ else _) = _; rw [if_neg c]
   constructor
   all_goals rw [e]
   ·rw [List.length_append, l]; rfl
   ·exact List.Sublist.trans List.filter_sublist sub
   ·intro j hj
    show ((trS agr k n i).2 ++ [false]).getD j false = true ↔ _ ∈ (trS agr k n i).1.filter _
    rw [List.mem_filter]
    by_cases q : j = i
    ·subst q
     have := getB_app2 (l := (trS agr k n j).2) (x := false)
     rw [l] at this
     rw [this]
     simp
    ·rw [getB_app1 (by rw [l]; omega), tru j (by omega)]
     refine ⟨fun h => ⟨h, ?_⟩, fun h => h.1⟩
     have : ((j : Int) == (i : Int)) = false := beq_eq_false_iff_ne.2 (by omega)
     rw [this]; rfl
   ·intro j hj hm x hx
    have hm := List.mem_filter.1 hm
    have hx := List.mem_filter.1 hx
    have q : j ≠ i := fun q => by subst q; simp at hm
    exact ag j (by omega) hm.1 x hx.1
   ·refine Int.le_antisymm (by rw [<- mo]; exact mst_sub aR _) ?_
    show mst agr k (allL n) <= mst agr k ((trS agr k n i).1.filter fun v => !(v == (i : Int)))
    obtain ⟨P, h1, h2⟩ := mst_has aR
    rw [<- mo, <- h2]
    by_cases hP : (i : Int) ∈ (trS agr k n i).1 /\ P i = true
    ·exfalso
     apply c
     refine ⟨any_is.2 hP.1, Int.le_antisymm (by rw [<- mo]; exact mst_sub aR _) ?_⟩
     rw [<- mo, <- h2]
     have hf : (trS agr k n i).1.filter P = ((trS agr k n i).1.filter fun v => agr i v).filter P := by
      rw [List.filter_filter]
      refine List.filter_congr fun x hx => ?_
      cases hp : P x with
      | false => rfl
      | true => rw [h1 _ hP.1 _ hx hP.2 hp]; rfl
     rw [hf]
     refine mst_ge fun x hx y hy px py => h1 x (List.mem_filter.1 hx).1 y (List.mem_filter.1 hy).1 px py
    ·have hf : (trS agr k n i).1.filter P = ((trS agr k n i).1.filter fun v => !(v == (i : Int))).filter P := by
      rw [List.filter_filter]
      refine List.filter_congr fun x hx => ?_
      cases hp : P x with
      | false => rfl
      | true =>
       have : (x == (i : Int)) = false := beq_eq_false_iff_ne.2 fun q => hP ⟨q ▸ hx, q ▸ hp⟩
       rw [this]; rfl
     rw [hf]
     refine mst_ge fun x hx y hy px py => h1 x (List.mem_filter.1 hx).1 y (List.mem_filter.1 hy).1 px py
def truL (agr : Int -> Int -> Bool) (k : Int -> Int) (n : Nat) : List Bool := (trS agr k n n).2
theorem truL_len {agr : Int -> Int -> Bool} {k : Int -> Int} {n : Nat} (a : AgOk agr k (allL n)) : (truL agr k n).length = n := (trI a n (Nat.le_refl _)).len
theorem truL_rest {agr : Int -> Int -> Bool} {k : Int -> Int} {n : Nat} (a : AgOk agr k (allL n)) : (trS agr k n n).1 = (allL n).filter fun v => (truL agr k n).getD (Int.toNat v) false := by
 have I := trI a n (Nat.le_refl _)
 have key : ∀ (l r : List Int), l.Nodup -> r.Sublist l -> r = l.filter fun v => decide (v ∈ r) := by
  intro l
  induction l with
  | nil => intro r _ h; rw [List.sublist_nil.1 h]; rfl
  | cons x l ih =>
   intro r hl h
   have hl := List.nodup_cons.1 hl
   cases h with
   | cons _ h =>
    have hx : x ∉ r := fun q => hl.1 (h.subset q)
    rw [List.filter_cons_of_neg (by simpa using hx)]
    exact ih r hl.2 h
   | @cons_cons r' _ _ h =>
    rw [List.filter_cons_of_pos (by simp)]
    congr 1
    have := ih r' hl.2 h
    rw [this]
    refine List.filter_congr fun y hy => ?_
    have hne : y ≠ x := fun q => hl.1 (q ▸ hy)
    rw [<- this]
    simp [hne]
 rw [key _ _ (allL_nodup n) I.sub]
 refine List.filter_congr fun v hv => ?_
 have hv := allL_mem.1 hv
 have t := I.tru (Int.toNat v) (by omega)
 rw [show ((Int.toNat v : Nat) : Int) = v by omega] at t
 rw [Bool.eq_iff_iff, decide_eq_true_eq]
 exact t.symm
theorem truL_ag {agr : Int -> Int -> Bool} {k : Int -> Int} {n : Nat} (a : AgOk agr k (allL n)) {i j : Nat} (hi : i < n) (hj : j < n) (ti : (truL agr k n).getD i false = true) (tj : (truL agr k n).getD j false = true) : agr i j = true := by
 have I := trI a n (Nat.le_refl _)
 exact I.ag i hi ((I.tru i hi).1 ti) _ ((I.tru j hj).1 tj)
theorem truL_cnt {agr : Int -> Int -> Bool} {k : Int -> Int} {n : Nat} (a : AgOk agr k (allL n)) : ((((allL n).filter fun v => (truL agr k n).getD (Int.toNat v) false).length : Nat) : Int) = mst agr k (allL n) := by
 have I := trI a n (Nat.le_refl _)
 have e := truL_rest a
 rw [<- I.mo, e]
 symm
 refine mst_all (a.sub fun x hx => (List.mem_filter.1 hx).1) fun x hx y hy => ?_
 have hx := List.mem_filter.1 hx
 have hy := List.mem_filter.1 hy
 have bx := allL_mem.1 hx.1
 have by_ := allL_mem.1 hy.1
 have := truL_ag a (i := Int.toNat x) (j := Int.toNat y) (by omega) (by omega) hx.2 hy.2
 rwa [show ((Int.toNat x : Nat) : Int) = x by omega, show ((Int.toNat y : Nat) : Int) = y by omega] at this
def hgo (agr : Int -> Int -> Bool) (k : Int -> Int) (l : List Int) (x : Int) : Int := hgt agr (isr k l l.length) ((isr k l l.length).idxOf x)
theorem hgo_at {agr : Int -> Int -> Bool} {k : Int -> Int} {l : List Int} {x : Int} (h : x ∈ l) : ∃ n, n < (isr k l l.length).length /\ (isr k l l.length).getD n 0 = x /\ hgo agr k l x = hgt agr (isr k l l.length) n := by
 have hm := (isr_all k l).mem_iff.2 h
 refine ⟨_, List.idxOf_lt_length_of_mem hm, ?_, rfl⟩
 rw [gI (List.idxOf_lt_length_of_mem hm)]
 exact List.getElem_idxOf _
theorem hgo_bd {agr : Int -> Int -> Bool} {k : Int -> Int} {l : List Int} {x : Int} (h : x ∈ l) : 1 <= hgo agr k l x /\ hgo agr k l x <= mst agr k l := by
 obtain ⟨n, hn, _, e⟩ := hgo_at (agr := agr) (k := k) h
 rw [e]
 exact ⟨hgt_1 .., mxF_ge (mem_hgs hn)⟩
theorem hgo_ne {agr : Int -> Int -> Bool} {k : Int -> Int} {l : List Int} (a : AgOk agr k l) {x y : Int} (hx : x ∈ l) (hy : y ∈ l) (hxy : x ≠ y) (h : agr x y = true) : hgo agr k l x ≠ hgo agr k l y := by
 obtain ⟨n, hn, en, e⟩ := hgo_at (agr := agr) (k := k) hx
 obtain ⟨m, hm, em, f⟩ := hgo_at (agr := agr) (k := k) hy
 rw [e, f]
 rcases Nat.lt_trichotomy n m with q | q | q
 ·have := hgt_up (agr := agr) q (by rw [en, em]; exact h)
  omega
 ·subst q; exact absurd (en.symm.trans em) hxy
 ·have := hgt_up (agr := agr) q (by rw [en, em]; exact a.sym _ hx _ hy h)
  omega
theorem hgo_mx {agr : Int -> Int -> Bool} {k : Int -> Int} {l : List Int} (hd : l.Nodup) (h : l ≠ []) : ∃ x ∈ l, hgo agr k l x = mst agr k l := by
 have p := isr_all k l
 have hl : 0 < (isr k l l.length).length := by rw [p.length_eq]; exact List.length_pos_iff.2 h
 have nd : (isr k l l.length).Nodup := p.nodup_iff.2 hd
 have : ∃ n, n < (isr k l l.length).length /\ mst agr k l = hgt agr (isr k l l.length) n := by
  rcases mxF_in (hgs agr (isr k l l.length) (isr k l l.length).length) with e | e
  ·have h1 := hgt_1 agr (isr k l l.length) 0
   have h2 := mxF_ge (mem_hgs (agr := agr) (s := isr k l l.length) hl)
   omega
  ·exact hgs_mem e
 obtain ⟨n, hn, e⟩ := this
 refine ⟨(isr k l l.length)[n], p.mem_iff.1 (List.getElem_mem _), ?_⟩
 rw [e]
 unfold hgo
 rw [nd.idxOf_getElem n hn]
end Go.Proofs.YtbgfjemppjhmjaaGreat
/- Radio: what stays of a list, insertion by exchanges, the table of heights: plain laws. No condition. -/
namespace Go.Proofs.YtbgfjemppjhmjaaGreat
set_option linter.unusedSimpArgs false
open Go Go.K
set_option linter.unusedVariables false
def keepP (q : Int -> Bool) (M : List Int) (k : Nat) : List Int := (M.take k).filter q
def midP (q : Int -> Bool) (M : List Int) (k : Nat) : List Int := keepP q M k ++ M.drop (keepP q M k).length
def delP (q : Int -> Bool) (M : List Int) (k : Nat) : List Int := keepP q M k ++ List.replicate (k - (keepP q M k).length) 0 ++ M.drop k
theorem take_snoc {M : List Int} {x : Nat} {d : Int} (h : x < M.length) : M.take (x + 1) = M.take x ++ [M.getD x d] := by
 rw [List.take_succ_eq_append_getElem h, List.getD_eq_getElem?_getD, List.getElem?_eq_getElem h]; rfl
theorem take_len {M : List Int} {k : Nat} (h : k <= M.length) : (M.take k).length = k := by rw [List.length_take]; omega
theorem keepP_1 {q : Int -> Bool} {M : List Int} {x : Nat} (hx : x < M.length) (h : q (M.getD x 0) = true) : keepP q M (x + 1) = keepP q M x ++ [M.getD x 0] := by
 unfold keepP
 rw [take_snoc (d := 0) hx, List.filter_append, List.filter_cons_of_pos h]; rfl
theorem keepP_0 {q : Int -> Bool} {M : List Int} {x : Nat} (hx : x < M.length) (h : q (M.getD x 0) = false) : keepP q M (x + 1) = keepP q M x := by
 unfold keepP
 rw [take_snoc (d := 0) hx, List.filter_append, List.filter_cons_of_neg (by rw [h]; decide)]; simp
theorem keepP_le (q : Int -> Bool) (M : List Int) (x : Nat) : (keepP q M x).length <= x := Nat.le_trans (List.length_filter_le ..) (by rw [List.length_take]; omega)
theorem keepP_all {q : Int -> Bool} {M : List Int} {x : Nat} (h : (M.take x).all q = true) : keepP q M x = M.take x := List.filter_eq_self.2 (List.all_eq_true.1 h)
theorem midP_at {q : Int -> Bool} {M : List Int} {x : Nat} (hx : x < M.length) : (midP q M x).getD x 0 = M.getD x 0 := by
 have := keepP_le q M x
 unfold midP
 rw [List.getD_eq_getElem?_getD, List.getElem?_append_right this, List.getElem?_drop, <- List.getD_eq_getElem?_getD, show (keepP q M x).length + (x - (keepP q M x).length) = x by omega]
theorem midP_len {q : Int -> Bool} {M : List Int} {x : Nat} (hx : x <= M.length) : (midP q M x).length = M.length := by
 have := keepP_le q M x
 unfold midP
 rw [List.length_append, List.length_drop]; omega
theorem midP_1 {q : Int -> Bool} {M : List Int} {x : Nat} (hx : x < M.length) (h : q (M.getD x 0) = true) : (midP q M x).set (keepP q M x).length (M.getD x 0) = midP q M (x + 1) := by
 have hc := keepP_le q M x
 unfold midP
 rw [keepP_1 hx h, drop_get (show (keepP q M x).length < M.length by omega), List.length_append]
 simp
theorem midP_0 {q : Int -> Bool} {M : List Int} {x : Nat} (hx : x < M.length) (h : q (M.getD x 0) = false) : midP q M (x + 1) = midP q M x := by
 unfold midP; rw [keepP_0 hx h]
theorem midP_first {q : Int -> Bool} {M : List Int} {x : Nat} (hx : x < M.length) (ha : (M.take x).all q = true) (h : q (M.getD x 0) = false) : midP q M (x + 1) = M /\ (keepP q M (x + 1)).length = x := by
 have e : keepP q M (x + 1) = M.take x := (keepP_0 hx h).trans (keepP_all ha)
 have hl : (M.take x).length = x := take_len (by omega)
 refine ⟨?_, by rw [e, hl]⟩
 unfold midP
 rw [e, hl, List.take_append_drop]
theorem delP_all {q : Int -> Bool} {M : List Int} {k : Nat} (hk : k <= M.length) (ha : (M.take k).all q = true) : delP q M k = M /\ (keepP q M k).length = k := by
 have hl : (keepP q M k).length = k := by rw [keepP_all ha]; exact take_len hk
 refine ⟨?_, hl⟩
 unfold delP
 rw [hl, keepP_all ha, Nat.sub_self, List.replicate_zero, List.append_nil, List.take_append_drop]
theorem delP_len {q : Int -> Bool} {M : List Int} {k : Nat} (hk : k <= M.length) : (delP q M k).length = M.length := by
 have := keepP_le q M k
 unfold delP
 rw [List.length_append, List.length_append, List.length_replicate, List.length_drop]; omega
theorem clr_del {q : Int -> Bool} {M : List Int} {k : Nat} (hk : k <= M.length) : setl ((midP q M k).flatMap intC) (0 + (keepP q M k).length * 1) (krep [.int .i64 0] (k - (keepP q M k).length)) = (delP q M k).flatMap intC := by
 have hc := keepP_le q M k
 have e : M.drop (keepP q M k).length = (M.take k).drop (keepP q M k).length ++ M.drop k := by
  have h2 : (keepP q M k).length <= (M.take k).length := by rw [take_len hk]; omega
  rw [<- List.drop_append_of_le_length h2, List.take_append_drop]
 unfold midP delP
 rw [e, krep_int, List.flatMap_append, List.flatMap_append, List.append_assoc, List.flatMap_append, List.flatMap_append]
 have := setl_mid ((List.replicate (k - (keepP q M k).length) (0 : Int)).flatMap intC) (((M.take k).drop (keepP q M k).length).flatMap intC) ((keepP q M k).flatMap intC) ((M.drop k).flatMap intC) (by
  rw [flat_len intC_len, flat_len intC_len, List.length_drop, take_len hk, List.length_replicate])
 rw [flat_len intC_len] at this
 rw [show 0 + (keepP q M k).length * 1 = (keepP q M k).length * 1 by omega]
 exact this
theorem delP_take {q : Int -> Bool} {M : List Int} {k : Nat} : (delP q M k).take (keepP q M k).length = keepP q M k := by
 unfold delP
 rw [List.append_assoc, List.take_left]
def sortT (k : Int -> Int) (l : List Int) (x : Nat) : List Int := isr k l (min x l.length) ++ l.drop x
def sortJ (k : Int -> Int) (l : List Int) (i j : Nat) : List Int := stI (isr k l i) (l.getD i 0) j ++ l.drop (i + 1)
theorem sortT_1 (k : Int -> Int) (l : List Int) : sortT k l 1 = l := by
 unfold sortT
 cases l with
 | nil => rfl
 | cons x l => rw [show min 1 (x :: l).length = 1 by rw [List.length_cons]; omega]; rfl
theorem sortT_all {k : Int -> Int} {l : List Int} {x : Nat} (h : l.length <= x) : sortT k l x = isr k l l.length := by
 unfold sortT
 rw [show min x l.length = l.length by omega, List.drop_eq_nil_of_le h, List.append_nil]
theorem sortJ_len {k : Int -> Int} {l : List Int} {i j : Nat} (hi : i < l.length) (hj : j <= i) : (sortJ k l i j).length = l.length := by
 unfold sortJ
 rw [List.length_append, stI_len (by rw [isr_len]; exact hj), isr_len, List.length_drop]; omega
theorem sortJ_0 {k : Int -> Int} {l : List Int} {i : Nat} (hi : i < l.length) : sortJ k l i i = sortT k l i := by
 unfold sortJ sortT stI
 have hl := isr_len k l i
 rw [show min i l.length = i by omega, List.take_of_length_le (by omega), List.drop_eq_nil_of_le (by omega : (isr k l i).length <= i), List.append_assoc]
 congr 1
 rw [List.drop_eq_getElem_cons hi, gI hi]; rfl
theorem sortJ_at {k : Int -> Int} {l : List Int} {i j : Nat} (hi : i < l.length) (hj : j <= i) : (sortJ k l i j).getD j 0 = l.getD i 0 := by
 have hl := isr_len k l i
 have ht : ((isr k l i).take j).length = j := by rw [List.length_take]; omega
 unfold sortJ stI
 rw [List.append_assoc, List.getD_eq_getElem?_getD, List.getElem?_append_right (by omega), ht, Nat.sub_self]; rfl
theorem sortJ_pre {k : Int -> Int} {l : List Int} {i j m : Nat} (hi : i < l.length) (hj : j <= i) (hm : m < j) : (sortJ k l i j).getD m 0 = (isr k l i).getD m 0 := by
 have hl := isr_len k l i
 unfold sortJ stI
 rw [List.append_assoc, List.getD_eq_getElem?_getD, List.getElem?_append_left (by rw [List.length_take]; omega), List.getElem?_take_of_lt hm, <- List.getD_eq_getElem?_getD]
theorem sortJ_swap {k : Int -> Int} {l : List Int} {i j : Nat} (hi : i < l.length) (hj : j + 1 <= i) : ((sortJ k l i (j + 1)).set (j + 1) ((isr k l i).getD j 0)).set j (l.getD i 0) = sortJ k l i j := by
 have hl := isr_len k l i
 unfold sortJ stI
 generalize hm : isr k l i = m at *
 have e1 : m.take (j + 1) = m.take j ++ [m.getD j 0] := by rw [List.take_succ_eq_append_getElem (by omega), gI (by omega)]
 have e2 : m.drop j = m.getD j 0 :: m.drop (j + 1) := by rw [List.drop_eq_getElem_cons (by omega), gI (by omega)]
 rw [e1, e2]
 have ht : (m.take j).length = j := by rw [List.length_take]; omega
 generalize m.getD j 0 = y
 generalize m.drop (j + 1) = D
 generalize l.getD i 0 = x
 generalize l.drop (i + 1) = R
 generalize m.take j = T at ht
 subst ht
 simp
theorem sortJ_end {k : Int -> Int} {l : List Int} {i j : Nat} (hi : i < l.length) (h : ipos k (isr k l i) (l.getD i 0) i = j) : sortJ k l i j = sortT k l (i + 1) := by
 unfold sortJ sortT
 rw [show min (i + 1) l.length = i + 1 by omega]
 subst h; rfl
theorem ipos_go {k : Int -> Int} {m : List Int} {x : Int} {j : Nat} (h : k x < k (m.getD j 0)) : ipos k m x (j + 1) = ipos k m x j := by
 show (if _ then _ else _) = _; rw [if_pos h]
theorem ipos_no {k : Int -> Int} {m : List Int} {x : Int} {j : Nat} (h : ¬ k x < k (m.getD j 0)) : ipos k m x (j + 1) = j + 1 := by
 show (if _ then _ else _) = _; rw [if_neg h]
def hE (agr : Int -> Int -> Bool) (s : List Int) (x : Nat) : List (Int × Int) := tabP (fun n : Nat => (s.getD n 0, hgt agr s n)) x
def hEJ (agr : Int -> Int -> Bool) (s : List Int) (x y : Nat) : List (Int × Int) := hE agr s x ++ [(s.getD x 0, hgV agr s (hgs agr s x) x y)]
theorem hE_S (agr : Int -> Int -> Bool) (s : List Int) (x : Nat) : hE agr s (x + 1) = hE agr s x ++ [(s.getD x 0, hgt agr s x)] := by
 unfold hE tabP; rw [List.range_succ, List.map_append]; rfl
theorem hEJ_end (agr : Int -> Int -> Bool) (s : List Int) (x : Nat) : hEJ agr s x x = hE agr s (x + 1) := by
 rw [hE_S]; rfl
theorem nd_ne {s : List Int} (h : s.Nodup) {i j : Nat} (hi : i < s.length) (hj : j < s.length) (q : i ≠ j) : s.getD i 0 ≠ s.getD j 0 := by
 rw [gI hi, gI hj]
 intro e
 exact q ((List.getElem_inj h).1 e)
theorem getA_app1 {κ β : Type} [DecidableEq κ] {k : κ} {d : β} : ∀ {F G : List (κ × β)}, hasA k F = true -> getA k d (F ++ G) = getA k d F
 | [], _, h => by cases h
 | e :: F, G, h => by
  show (if e.1 = k then _ else _) = (if e.1 = k then _ else _)
  by_cases q : e.1 = k
  ·rw [if_pos q, if_pos q]
  ·rw [if_neg q, if_neg q]
   exact getA_app1 (by unfold hasA at h; rwa [if_neg q] at h)
theorem getA_app2 {κ β : Type} [DecidableEq κ] {k : κ} {d : β} : ∀ {F G : List (κ × β)}, hasA k F = false -> getA k d (F ++ G) = getA k d G
 | [], _, h => rfl
 | e :: F, G, h => by
  have q : ¬ e.1 = k := fun q => by unfold hasA at h; rw [if_pos q] at h; cases h
  show (if e.1 = k then _ else _) = _
  rw [if_neg q]
  exact getA_app2 (by unfold hasA at h; rwa [if_neg q] at h)
theorem hasA_app {κ β : Type} [DecidableEq κ] {k : κ} : ∀ {F G : List (κ × β)}, hasA k (F ++ G) = (hasA k F || hasA k G)
 | [], _ => rfl
 | e :: F, G => by
  show (if e.1 = k then true else _) = ((if e.1 = k then true else _) || _)
  by_cases q : e.1 = k
  ·rw [if_pos q, if_pos q]; rfl
  ·rw [if_neg q, if_neg q]; exact hasA_app
theorem putA_app {κ β : Type} [DecidableEq κ] {k : κ} {v : β} : ∀ {F G : List (κ × β)}, hasA k F = false -> putA k v (F ++ G) = F ++ putA k v G
 | [], _, h => rfl
 | e :: F, G, h => by
  have q : ¬ e.1 = k := fun q => by unfold hasA at h; rw [if_pos q] at h; cases h
  show (if e.1 = k then _ else _) = _
  rw [if_neg q]
  exact congrArg (e :: ·) (putA_app (by unfold hasA at h; rwa [if_neg q] at h))
theorem hE_has {agr : Int -> Int -> Bool} {s : List Int} {v : Int} : ∀ {x : Nat}, hasA v (hE agr s x) = true ↔ ∃ n, n < x /\ s.getD n 0 = v
 | 0 => ⟨(fun h => by cases h), (fun ⟨n, h, _⟩ => by omega)⟩
 | x + 1 => by
  rw [hE_S, hasA_app, Bool.or_eq_true, hE_has]
  show _ ∨ (if s.getD x 0 = v then true else false) = true ↔ _
  constructor
  ·rintro (⟨n, h, e⟩ | h)
   ·exact ⟨n, by omega, e⟩
   ·split at h
    ·exact ⟨x, by omega, by assumption⟩
    ·cases h
  ·rintro ⟨n, h, e⟩
   by_cases q : n = x
   ·subst q; exact Or.inr (by rw [if_pos e])
   ·exact Or.inl ⟨n, by omega, e⟩
theorem hE_no {agr : Int -> Int -> Bool} {s : List Int} (nd : s.Nodup) {x : Nat} (hx : x < s.length) : hasA (s.getD x 0) (hE agr s x) = false := by
 rw [Bool.eq_false_iff]
 intro h
 obtain ⟨n, hn, e⟩ := hE_has.1 h
 exact nd_ne nd (by omega) hx (by omega) e
theorem hE_get {agr : Int -> Int -> Bool} {s : List Int} (nd : s.Nodup) {x y : Nat} (hx : x <= s.length) (hy : y < x) : getA (s.getD y 0) 0 (hE agr s x) = hgt agr s y := by
 induction x with
 | zero => omega
 | succ x ih =>
  rw [hE_S]
  by_cases q : y = x
  ·subst q
   rw [getA_app2 (hE_no nd (by omega))]
   show (if s.getD y 0 = s.getD y 0 then _ else _) = _
   rw [if_pos rfl]
  ·rw [getA_app1 (hE_has.2 ⟨y, by omega, rfl⟩)]
   exact ih (by omega) (by omega)
theorem hE_put {agr : Int -> Int -> Bool} {s : List Int} (nd : s.Nodup) {x : Nat} (hx : x < s.length) : putA (s.getD x 0) 1 (hE agr s x) = hEJ agr s x 0 := by
 rw [putA_no _ _ _ (hE_no nd hx)]; rfl
theorem hEJ_own {agr : Int -> Int -> Bool} {s : List Int} (nd : s.Nodup) {x y : Nat} (hx : x < s.length) : getA (s.getD x 0) 0 (hEJ agr s x y) = hgV agr s (hgs agr s x) x y := by
 unfold hEJ
 rw [getA_app2 (hE_no nd hx)]
 show (if s.getD x 0 = s.getD x 0 then _ else _) = _
 rw [if_pos rfl]
theorem hEJ_get {agr : Int -> Int -> Bool} {s : List Int} (nd : s.Nodup) {x y z : Nat} (hx : x < s.length) (hy : y < x) : getA (s.getD y 0) 0 (hEJ agr s x z) = hgt agr s y := by
 unfold hEJ
 rw [getA_app1 (hE_has.2 ⟨y, by omega, rfl⟩)]
 exact hE_get nd (by omega) hy
theorem hEJ_put {agr : Int -> Int -> Bool} {s : List Int} (nd : s.Nodup) {x y : Nat} {v : Int} (hx : x < s.length) (e : hgV agr s (hgs agr s x) x (y + 1) = v) : putA (s.getD x 0) v (hEJ agr s x y) = hEJ agr s x (y + 1) := by
 unfold hEJ
 rw [putA_app (hE_no nd hx), e]
 show _ ++ (if s.getD x 0 = s.getD x 0 then _ else _) = _
 rw [if_pos rfl]
theorem hgV_1 {agr : Int -> Int -> Bool} {s : List Int} {x y : Nat} (hy : y < x) (a : agr (s.getD y 0) (s.getD x 0) = true) : hgV agr s (hgs agr s x) x (y + 1) = mxI (hgV agr s (hgs agr s x) x y) (hgt agr s y + 1) := by
 show (if _ then _ else _) = _
 rw [if_pos a, hgs_get agr s hy]; rfl
theorem hgV_0 {agr : Int -> Int -> Bool} {s : List Int} {x y : Nat} (a : ¬ agr (s.getD y 0) (s.getD x 0) = true) : hgV agr s (hgs agr s x) x (y + 1) = hgV agr s (hgs agr s x) x y := by
 show (if _ then _ else _) = _
 rw [if_neg a]
theorem hgV_bd (agr : Int -> Int -> Bool) (s : List Int) (n : Nat) : ∀ j, j <= n -> 1 <= hgV agr s (hgs agr s n) n j /\ hgV agr s (hgs agr s n) n j <= (n : Int) + 1 := by
 induction n using Nat.strongRecOn with
 | ind n ih =>
  intro j hj
  have h := hgV_spec agr s n j hj
  refine ⟨h.1, ?_⟩
  rcases h.2.2 with e | ⟨i, hi, _, e⟩
  ·omega
  ·have h2 : hgt agr s i <= (i : Int) + 1 := (ih i (by omega) i (Nat.le_refl _)).2
   omega
theorem hgt_bd (agr : Int -> Int -> Bool) (s : List Int) (n : Nat) : 1 <= hgt agr s n /\ hgt agr s n <= (n : Int) + 1 := hgV_bd agr s n n (Nat.le_refl _)
theorem hE_mx (agr : Int -> Int -> Bool) (s : List Int) : ((hE agr s s.length).foldl (fun n e => if e.2 > n then e.2 else n) 0) = mstS agr s := by
 have e : hgs agr s s.length = (hE agr s s.length).map (·.2) := by
  generalize s.length = n
  induction n with
  | zero => rfl
  | succ n ih => rw [hE_S, List.map_append, <- ih]; rfl
 unfold mstS mxF
 rw [e, List.foldl_map]
theorem hE_hgo {agr : Int -> Int -> Bool} {k : Int -> Int} {l : List Int} (nd : l.Nodup) {x : Int} (h : x ∈ l) : getA x 0 (hE agr (isr k l l.length) (isr k l l.length).length) = hgo agr k l x := by
 have hn : (isr k l l.length).Nodup := (isr_all k l).nodup_iff.2 nd
 obtain ⟨n, h1, h2, h3⟩ := hgo_at (agr := agr) (k := k) h
 rw [h3, <- h2]
 exact hE_get hn (Nat.le_refl _) h1
end Go.Proofs.YtbgfjemppjhmjaaGreat
/- Radio: the sightings of a right track agree along time: plain laws. No condition. -/
namespace Go.Proofs.YtbgfjemppjhmjaaGreat
set_option linter.unusedSimpArgs false
open Go Go.K
set_option linter.unusedVariables false
noncomputable def agI (p : Int) (ss : List (Int × Int)) (rr : List (List Int)) (i k : Int) : Bool := agrB p ss rr (Int.toNat i) (Int.toNat k)
def kyI (ss : List (Int × Int)) (i : Int) : Int := (ss.getD (Int.toNat i) zeroSp).1
theorem dst_lt {w h : Int} {a : List Bool} {f c : Int} (q : dstI w h a f c < farI) : ∃ n : Nat, Wy w h a f n c /\ dstI w h a f c = n := by
 by_cases e : ∃ n, Lst w h a f c n
 ·obtain ⟨n, hn⟩ := e
  exact ⟨n, hn.1, dst_is hn⟩
 ·unfold dstI at q
  rw [dif_neg e] at q
  omega
theorem dst_0 (w h : Int) (a : List Bool) (f : Int) : dstI w h a f f = 0 := dst_is (n := 0) ⟨.base, fun m _ => Nat.zero_le _⟩
theorem dst_sm {w h : Int} {a : List Bool} {f c : Int} {n : Nat} (b : BasOk w h a.length) (hf : 0 <= f /\ f < (a.length : Int)) (q : Wy w h a f n c) : dstI w h a f c < farI := by
 obtain ⟨m, h1, h2⟩ := wy_lst q
 rw [dst_is h2]
 have := lst_le b hf h2
 have := b.n1
 have := b.p1
 unfold farI; omega
theorem canS_rfl (w h : Int) (a : List Bool) {p : Int} (hp : 1 <= p) (s : Int × Int) : canS w h a p s s.2 s.1 = true := by
 unfold canS
 rw [dst_0]
 unfold mxI farI
 simp
theorem canS_iff {w h : Int} {a : List Bool} {p : Int} {s : Int × Int} {c m : Int} : canS w h a p s c m = true ↔ dstI w h a s.2 c < farI /\ dstI w h a s.2 c * p <= mxI (m - s.1) (s.1 - m) := by
 unfold canS
 rw [Bool.and_eq_true, decide_eq_true_eq, decide_eq_true_eq]
theorem canS_sym {w h : Int} {a : List Bool} {p : Int} (b : BasOk w h a.length) (hp : 1 <= p) {s t : Int × Int} (hs : (0 <= s.2 /\ s.2 < (a.length : Int)) /\ a.getD (Int.toNat s.2) false = false) (ht : (0 <= t.2 /\ t.2 < (a.length : Int)) /\ a.getD (Int.toNat t.2) false = false) (q : canS w h a p s t.2 t.1 = true) : canS w h a p t s.2 s.1 = true := by
 rw [canS_iff] at q ⊢
 obtain ⟨n, n1, n2⟩ := dst_lt q.1
 have r := wy_rev b hs.1 hs.2 n1
 refine ⟨dst_sm b ht.1 r, ?_⟩
 have d1 := dst_wy r
 have : dstI w h a t.2 s.2 * p <= (n : Int) * p := Int.mul_le_mul_of_nonneg_right d1 (by omega)
 have q2 := q.2
 rw [n2] at q2
 unfold mxI at q2 ⊢
 split at q2 <;> split <;> omega
theorem canS_tr {w h : Int} {a : List Bool} {p : Int} (b : BasOk w h a.length) (hp : 1 <= p) {s t u : Int × Int} (hs : (0 <= s.2 /\ s.2 < (a.length : Int)) /\ a.getD (Int.toNat s.2) false = false) (h1 : s.1 <= t.1) (h2 : t.1 <= u.1) (q : canS w h a p s t.2 t.1 = true) (r : canS w h a p t u.2 u.1 = true) : canS w h a p s u.2 u.1 = true := by
 rw [canS_iff] at q r ⊢
 obtain ⟨n, n1, n2⟩ := dst_lt q.1
 obtain ⟨m, m1, m2⟩ := dst_lt r.1
 have w1 := wy_app n1 m1
 refine ⟨dst_sm b hs.1 w1, ?_⟩
 have d1 := dst_wy w1
 have : dstI w h a s.2 u.2 * p <= ((n + m : Nat) : Int) * p := Int.mul_le_mul_of_nonneg_right d1 (by omega)
 rw [Int.natCast_add, Int.add_mul] at this
 have q2 := q.2
 have r2 := r.2
 rw [n2] at q2
 rw [m2] at r2
 unfold mxI at q2 r2 ⊢
 split at q2 <;> split at r2 <;> split <;> omega
theorem agI_is {w h : Int} {a : List Bool} {p : Int} {ss : List (Int × Int)} (hc : ∀ s ∈ ss, 0 <= s.2 /\ s.2 < (a.length : Int)) {i k : Int} (hi : 0 <= i /\ i < (ss.length : Int)) (hk : 0 <= k /\ k < (ss.length : Int)) : agI p ss (trkRows w h a ss) i k = canS w h a p (ss.getD (Int.toNat i) zeroSp) (ss.getD (Int.toNat k) zeroSp).2 (ss.getD (Int.toNat k) zeroSp).1 := by
 unfold agI agrB
 rw [canB_is (by omega) (hc _ (getD_mem (by omega)))]
theorem agOk {w h : Int} {a : List Bool} {p : Int} {ss : List (Int × Int)} (t : TrOk w h a p ss) : AgOk (agI p ss (trkRows w h a ss)) (kyI ss) (allL ss.length) := by
 have hc : ∀ s ∈ ss, 0 <= s.2 /\ s.2 < (a.length : Int) := fun s hs => (t.seen s hs).2.1
 have hm : ∀ x ∈ allL ss.length, (0 <= x /\ x < (ss.length : Int)) /\ ss.getD (Int.toNat x) zeroSp ∈ ss := fun x hx => by
  have := allL_mem.1 hx
  exact ⟨this, getD_mem (by omega)⟩
 refine ⟨fun x hx => ?_, fun x hx y hy => ?_, fun x hx y hy z hz => ?_⟩
 ·rw [agI_is hc (hm x hx).1 (hm x hx).1]
  exact canS_rfl _ _ _ t.pace.1 _
 ·rw [agI_is hc (hm x hx).1 (hm y hy).1, agI_is hc (hm y hy).1 (hm x hx).1]
  exact canS_sym t.bas t.pace.1 (t.seen _ (hm x hx).2).2 (t.seen _ (hm y hy).2).2
 ·rw [agI_is hc (hm x hx).1 (hm y hy).1, agI_is hc (hm y hy).1 (hm z hz).1, agI_is hc (hm x hx).1 (hm z hz).1]
  exact canS_tr t.bas t.pace.1 (t.seen _ (hm x hx).2).2
end Go.Proofs.YtbgfjemppjhmjaaGreat
/- Radio: classes and what they prove: plain laws. No condition. -/
namespace Go.Proofs.YtbgfjemppjhmjaaGreat
set_option linter.unusedSimpArgs false
open Go Go.K
set_option linter.unusedVariables false
def clsL (agr : Int -> Int -> Bool) (k : Int -> Int) (n x : Nat) : List Int := tabP (fun i : Nat => hgo agr k (allL n) (i : Int) - 1) x
def clsK (agr : Int -> Int -> Bool) (k : Int -> Int) (n x : Nat) : Int := (tabP (fun i : Nat => hgo agr k (allL n) (i : Int)) x).foldl (fun b v => mxI b v) 0
def prv0 (agr : Int -> Int -> Bool) (c : List Int) (x y : Nat) : Bool := (List.range y).all fun m => !(decide (c.getD x 0 = c.getD m 0) && agr (m : Int) (x : Int))
def prv1 (agr : Int -> Int -> Bool) (c : List Int) (k : Int) (x : Nat) : Bool := (decide (0 <= c.getD x 0) && decide (c.getD x 0 <= k - 1)) && prv0 agr c x x
def prvB (agr : Int -> Int -> Bool) (c : List Int) (k : Int) (x : Nat) : Bool := (List.range x).all fun i => prv1 agr c k i
theorem clsL_len (agr : Int -> Int -> Bool) (k : Int -> Int) (n x : Nat) : (clsL agr k n x).length = x := tabP_len ..
theorem clsL_get {agr : Int -> Int -> Bool} {k : Int -> Int} {n x i : Nat} (h : i < x) : (clsL agr k n x).getD i 0 = hgo agr k (allL n) (i : Int) - 1 := tabP_get h
theorem clsK_all {agr : Int -> Int -> Bool} {k : Int -> Int} {n : Nat} (a : AgOk agr k (allL n)) : clsK agr k n n = mst agr k (allL n) := by
 have e : clsK agr k n n = mxF (tabP (fun i : Nat => hgo agr k (allL n) (i : Int)) n) := rfl
 rw [e]
 have hm : ∀ v, v ∈ tabP (fun i : Nat => hgo agr k (allL n) (i : Int)) n ↔ ∃ i, i < n /\ hgo agr k (allL n) (i : Int) = v := fun v => by
  unfold tabP; rw [List.mem_map]
  exact ⟨fun ⟨i, hi, e⟩ => ⟨i, List.mem_range.1 hi, e⟩, fun ⟨i, hi, e⟩ => ⟨i, List.mem_range.2 hi, e⟩⟩
 by_cases z : n = 0
 ·subst z; rfl
 ·obtain ⟨x, hx, ex⟩ := hgo_mx (agr := agr) (k := k) (allL_nodup n) (by intro q; have := allN_len n; rw [q] at this; exact z this.symm)
  have hx' := allL_mem.1 hx
  refine Int.le_antisymm ?_ ?_
  ·rcases mxF_in (tabP (fun i : Nat => hgo agr k (allL n) (i : Int)) n) with q | q
   ·rw [q]; have := (hgo_bd (agr := agr) (k := k) hx); omega
   ·obtain ⟨i, hi, e⟩ := (hm _).1 q
    rw [<- e]; exact (hgo_bd (allL_mem.2 (by omega))).2
  ·rw [<- ex]
   refine mxF_ge ((hm _).2 ⟨Int.toNat x, by omega, ?_⟩)
   rw [show ((Int.toNat x : Nat) : Int) = x by omega]
theorem prv_own {agr : Int -> Int -> Bool} {k : Int -> Int} {n : Nat} (a : AgOk agr k (allL n)) : prvB agr (clsL agr k n n) (mst agr k (allL n)) n = true := by
 unfold prvB
 rw [List.all_eq_true]
 intro i hi
 have hi := List.mem_range.1 hi
 have him : (i : Int) ∈ allL n := allL_mem.2 (by omega)
 have b := hgo_bd (agr := agr) (k := k) him
 unfold prv1 prv0
 rw [clsL_get hi, decide_eq_true (by omega), decide_eq_true (by omega)]
 rw [Bool.true_and, Bool.true_and, List.all_eq_true]
 intro m hm
 have hm := List.mem_range.1 hm
 rw [clsL_get (by omega)]
 cases q : agr (m : Int) (i : Int) with
 | false => simp
 | true =>
  have := hgo_ne a (allL_mem.2 (by omega)) him (by omega) q
  rw [decide_eq_false (by omega)]; rfl
theorem prv_less {agr : Int -> Int -> Bool} {k : Int -> Int} {n : Nat} (a : AgOk agr k (allL n)) (h : 0 < n) : prvB agr (clsL agr k n n) (mst agr k (allL n) - 1) n = false := by
 obtain ⟨x, hx, ex⟩ := hgo_mx (agr := agr) (k := k) (allL_nodup n) (by intro q; have := allN_len n; rw [q] at this; simp at this; omega)
 have hx' := allL_mem.1 hx
 rw [Bool.eq_false_iff]
 intro q
 unfold prvB at q
 rw [List.all_eq_true] at q
 have := q (Int.toNat x) (List.mem_range.2 (by omega))
 unfold prv1 at this
 rw [clsL_get (by omega), show ((Int.toNat x : Nat) : Int) = x by omega, ex, decide_eq_false (p := mst agr k (allL n) - 1 <= mst agr k (allL n) - 1 - 1) (by omega)] at this
 simp at this
theorem mst_pos {agr : Int -> Int -> Bool} {k : Int -> Int} {n : Nat} : 0 <= mst agr k (allL n) /\ (0 < n -> 1 <= mst agr k (allL n)) := by
 refine ⟨mxF_0 _, fun h => ?_⟩
 have := hgo_bd (agr := agr) (k := k) (allL_mem.2 (show 0 <= (0 : Int) /\ (0 : Int) < (n : Int) by omega))
 omega
end Go.Proofs.YtbgfjemppjhmjaaGreat
/- Radio: where functions of a track lead to. No condition. -/
namespace Go.Proofs.YtbgfjemppjhmjaaGreat
set_option linter.unusedSimpArgs false
open Go Go.K
set_option linter.unusedVariables false
noncomputable section
abbrev ctxH (w h : Int) (a : List Bool) (p : Int) (ss : List (Int × Int)) (rr : List (List Int)) : List (List Value) := [[.pointer (some ⟨2, 0, none⟩)], wkCs w h a p ss rr 3 4 5, a.flatMap boolC, ss.flatMap spC, inL rr]
abbrev ctxD (w h : Int) (a : List Bool) (p : Int) (ss : List (Int × Int)) (rr : List (List Int)) (i : Int) : List (List Value) := [[.pointer (some ⟨3, 0, none⟩)], [.int .i64 i], wkCs w h a p ss rr 4 5 6, a.flatMap boolC, ss.flatMap spC, inL rr]
abbrev ctxA (w h : Int) (a : List Bool) (p : Int) (ss : List (Int × Int)) (rr : List (List Int)) : List (List Value) := [wkCs w h a p ss rr 1 2 3, a.flatMap boolC, ss.flatMap spC, inL rr]
def qNe (i v : Int) : Bool := !(decide (v = i))
end
end Go.Proofs.YtbgfjemppjhmjaaGreat
/- What is to be shown of functions. Printed by a program. No condition. -/
namespace Go.Proofs.YtbgfjemppjhmjaaGreat
set_option linter.unusedSimpArgs false
open Go Go.K
set_option maxRecDepth 100000
set_option maxHeartbeats 4000000
set_option linter.unusedVariables false
noncomputable section
abbrev kk0 : Value:=.func (.func 166) #[] #[.pointer (some ⟨1,0,none⟩)]
abbrev kk7 (M : List Int) : Int:=(M.length : Nat)
abbrev kkt : Prop:=(True) /\ (True)
abbrev kkh (M : List Int) (n_0 : Nat) : Prop:=wkR (slQ 0 2 M.length) /\ (nI 0 : Value) = nI 0 /\ (nI (kk7 M) : Value) = nI (kk7 M) /\ kk0 = .func (.func 166) #[] #[.pointer (some ⟨1,0,none⟩)] /\ (nI (n_0 : Int) : Value) = nI (n_0 : Int) /\ True
abbrev kks (qd0 : List Int) : Int:=(qd0.length : Nat)
abbrev kk5 (qn0 : Nat) (qd0 : List Int) : Prop:=(0 : Int) <= (qn0 : Int) /\ ((qn0 : Int) : Int) < (kks qd0)
abbrev kkq (ss : List (Int × Int)) (M : List Int) (n_0 : Nat) (n_1 : Nat):=sortJ (kyI ss) M n_0 n_1
abbrev kko (n_1 : Nat) : Value:=nI (IntKind.wrap .i64 ((n_1 : Int) - 1))
abbrev kk4 (qn0 : Nat) (qd0 : List Int) : Prop:=(0 : Int) <= ((qn0 : Int) - 1) /\ (((qn0 : Int) - 1) : Int) < (kks qd0)
abbrev kkf (ss : List (Int × Int)) (M : List Int) (n_0 : Nat) (n_1 : Nat):=ss.getD ((kkq ss M n_0 n_1).getD n_1 0).toNat zeroSp
abbrev kkb (ss : List (Int × Int)) (M : List Int) (n_0 : Nat) (n_1 : Nat):=ss.getD ((kkq ss M n_0 n_1).getD ((n_1 : Int) - 1).toNat 0).toNat zeroSp
abbrev kk2 (qn0 : Nat) (qn1 : Nat) (qd0 : List Int) : Prop:=(nI ((qn0 : Int) + 1) : Value) = nI (qn1 : Int) /\ kk0 = .func (.func 166) #[] #[.pointer (some ⟨1,0,none⟩)] /\ (nI (kks qd0) : Value) = nI (kks qd0) /\ (nI 0 : Value) = nI 0 /\ wkR (slQ 0 2 qd0.length) /\ True
abbrev kk8 (n_0 : Nat) (M : List Int) (ss : List (Int × Int)) (n_1 : Nat) : Prop:=(nI (IntKind.wrap .i64 ((n_0 : Int) + 1)) : Value) = nI ((n_0 : Int) + 1) /\ (∃ n_2' : Nat,(1 <= n_2' /\ (n_2' <= List.length M ∨ n_2' = 1)) /\ (List.length M - n_2') < (List.length M - n_0) /\ true = true /\ (kk2 n_0 n_2' M) /\ ((some (.cells true 1 ((kkq ss M n_0 n_1).flatMap intC) : KObj) = some (.cells true 1 ((sortT (kyI ss) M n_2').flatMap intC) : KObj) /\ belowO 6 (.cells true 1 ((sortT (kyI ss) M n_2').flatMap intC) : KObj) = true) /\ True) /\ kkt)
abbrev kku : Value:=.tuple #[]
abbrev kk9 (ss : List (Int × Int)) (M : List Int) : KObj:=.cells true 1 ((isr (kyI ss) M M.length).flatMap intC)
def RinsS (M : List Int) (w h : Int) (a : List Bool) (p : Int) (ss : List (Int × Int)) (rr : List (List Int)) : Prop :=
 ((nI (IntKind.wrap .i64 (0 + 1)) : Value) = nI (0 + 1) /\ (true = true /\ (1 <= 1 /\ (1 <= List.length M ∨ 1 = 1)) /\ (true = true /\ ((nI (0 + 1) : Value) = nI ((1 : Nat) : Int) /\ kk0 = .func (.func 166) #[] #[.pointer (some ⟨1,0,none⟩)] /\ (nI (kk7 M) : Value) = nI (kk7 M) /\ (nI 0 : Value) = nI 0 /\ wkR (slQ 0 2 M.length) /\ True) /\ ((some (.cells true 1 (M.flatMap intC) : KObj) = some (.cells true 1 ((sortT (kyI ss) M 1).flatMap intC) : KObj) /\ belowO 6 (.cells true 1 ((sortT (kyI ss) M 1).flatMap intC) : KObj) = true) /\ True) /\ kkt) /\ (∀ n_0 : Nat,true = true) /\ ∀ n_0 : Nat,(1 <= n_0 /\ (n_0 <= List.length M ∨ n_0 = 1)) -> (((decide (((n_0 : Int) : Int) < (kk7 M))) = true -> (true = true /\ (n_0 <= n_0 /\ ipos (kyI ss) (isr (kyI ss) M n_0) (M.getD n_0 0) n_0 = ipos (kyI ss) (isr (kyI ss) M n_0) (M.getD n_0 0) n_0) /\ (true = true /\ ((nI (n_0 : Int) : Value) = nI (n_0 : Int) /\ kkh M n_0) /\ ((some (.cells true 1 ((sortT (kyI ss) M n_0).flatMap intC) : KObj) = some (.cells true 1 ((sortJ (kyI ss) M n_0 n_0).flatMap intC) : KObj) /\ belowO 6 (.cells true 1 ((sortJ (kyI ss) M n_0 n_0).flatMap intC) : KObj) = true) /\ True) /\ kkt) /\ (∀ n_1 : Nat,true = true) /\ ∀ n_1 : Nat,(n_1 <= n_0 /\ ipos (kyI ss) (isr (kyI ss) M n_0) (M.getD n_0 0) n_0 = ipos (kyI ss) (isr (kyI ss) M n_0) (M.getD n_0 0) n_1) -> (((decide ((0 : Int) < (n_1 : Int))) = true -> ((kk5 n_1 M) /\ ((((kkq ss M n_0 n_1).flatMap intC)[(0 + Int.toNat (n_1 : Int) * 1)]? = some (nI ((kkq ss M n_0 n_1).getD n_1 0))) /\ ((kko n_1) = nI ((n_1 : Int) - 1) /\ ((kk4 n_1 M) /\ ((((kkq ss M n_0 n_1).flatMap intC)[(0 + Int.toNat ((n_1 : Int) - 1) * 1)]? = some (nI ((kkq ss M n_0 n_1).getD ((n_1 : Int) - 1).toNat 0))) /\ (((0 : Int) <= ((kkq ss M n_0 n_1).getD n_1 0) /\ (((kkq ss M n_0 n_1).getD n_1 0) : Int) < ((ss.length : Nat) : Int)) /\ (((ss.flatMap spC)[((0 + Int.toNat ((kkq ss M n_0 n_1).getD n_1 0) * 2) + 0)]? = some (nI (kkf ss M n_0 n_1).1)) /\ (((0 : Int) <= ((kkq ss M n_0 n_1).getD ((n_1 : Int) - 1).toNat 0) /\ (((kkq ss M n_0 n_1).getD ((n_1 : Int) - 1).toNat 0) : Int) < ((ss.length : Nat) : Int)) /\ (((ss.flatMap spC)[((0 + Int.toNat ((kkq ss M n_0 n_1).getD ((n_1 : Int) - 1).toNat 0) * 2) + 0)]? = some (nI (kkb ss M n_0 n_1).1)) /\ ((nI (IntKind.wrap .i64 ((kkf ss M n_0 n_1).1 - (kkb ss M n_0 n_1).1)) : Value) = nI ((kkf ss M n_0 n_1).1 - (kkb ss M n_0 n_1).1) /\ (((decide ((((kkf ss M n_0 n_1).1 - (kkb ss M n_0 n_1).1) : Int) < 0)) = true -> ((kko n_1) = nI ((n_1 : Int) - 1) /\ ((kko n_1) = nI ((n_1 : Int) - 1) /\ ((kk4 n_1 M) /\ ((((kkq ss M n_0 n_1).flatMap intC)[(0 + Int.toNat ((n_1 : Int) - 1) * 1)]? = some (nI ((kkq ss M n_0 n_1).getD ((n_1 : Int) - 1).toNat 0))) /\ ((kk5 n_1 M) /\ ((((kkq ss M n_0 n_1).flatMap intC)[(0 + Int.toNat (n_1 : Int) * 1)]? = some (nI ((kkq ss M n_0 n_1).getD n_1 0))) /\ ((kk5 n_1 M) /\ (((0 + Int.toNat (n_1 : Int) * 1) + 1 <= List.length ((kkq ss M n_0 n_1).flatMap intC)) /\ true = true /\ ((kk4 n_1 M) /\ (((0 + Int.toNat ((n_1 : Int) - 1) * 1) + 1 <= List.length (setl ((kkq ss M n_0 n_1).flatMap intC) (0 + Int.toNat (n_1 : Int) * 1) [nI ((kkq ss M n_0 n_1).getD ((n_1 : Int) - 1).toNat 0)])) /\ true = true /\ ((kko n_1) = nI ((n_1 : Int) - 1) /\ (∃ n_2' : Nat,(n_2' <= n_0 /\ ipos (kyI ss) (isr (kyI ss) M n_0) (M.getD n_0 0) n_0 = ipos (kyI ss) (isr (kyI ss) M n_0) (M.getD n_0 0) n_2') /\ n_2' < n_1 /\ true = true /\ ((nI ((n_1 : Int) - 1) : Value) = nI (n_2' : Int) /\ kkh M n_0) /\ ((some (.cells true 1 (setl (setl ((kkq ss M n_0 n_1).flatMap intC) (0 + Int.toNat (n_1 : Int) * 1) [nI ((kkq ss M n_0 n_1).getD ((n_1 : Int) - 1).toNat 0)]) (0 + Int.toNat ((n_1 : Int) - 1) * 1) [nI ((kkq ss M n_0 n_1).getD n_1 0)]) : KObj) = some (.cells true 1 ((sortJ (kyI ss) M n_0 n_2').flatMap intC) : KObj) /\ belowO 6 (.cells true 1 ((sortJ (kyI ss) M n_0 n_2').flatMap intC) : KObj) = true) /\ True) /\ kkt))))))))))))) /\ ((decide ((((kkf ss M n_0 n_1).1 - (kkb ss M n_0 n_1).1) : Int) < 0)) = false -> (kk8 n_0 M ss n_1)))))))))))))) /\ ((decide ((0 : Int) < (n_1 : Int))) = false -> (kk8 n_0 M ss n_1))))) /\ ((decide (((n_0 : Int) : Int) < (kk7 M))) = false -> (true = true /\ wk kku (rn (sg 6 []) 3 kku) /\ ((some (.cells true 1 ((sortT (kyI ss) M n_0).flatMap intC) : KObj) = some (kk9 ss M) /\ belowO 6 (kk9 ss M) = true) /\ True) /\ (True))))))
abbrev kkp : Hint:=.go 0 (.again [])
abbrev kka (ss : List (Int × Int)) (M : List Int) : KObj:=.cells true 1 ((isr (kyI ss) M M.length).flatMap intC)
theorem EinsS (M : List Int) (w h : Int) (a : List Bool) (p : Int) (ss : List (Int × Int)) (rr : List (List Int)) : vF prog msk (dm 0) 100000 true 40 true 256 [slQ 0 2 M.length,nI 0,nI (kk7 M),.func (.func 166) #[] #[.pointer (some ⟨1,0,none⟩)]] (readsW 0 1 (M.flatMap intC) (ctxH w h a p ss rr)) (some [0])
 (.go 1 (.slot 11 (nI (0 + 1)) (.go 0 (.inv 3 (Nat) (1) [] [0] (fun n_0 => [(8,nI (n_0 : Int)),(3,.func (.func 166) #[] #[.pointer (some ⟨1,0,none⟩)]),(2,nI (kk7 M)),(1,nI 0),(0,slQ 0 2 M.length)]) (fun n_0 => [(0,true,.cells true 1 ((sortT (kyI ss) M n_0).flatMap intC))]) (fun n_0 => []) (fun n_0 => []) (fun n_0 => (1 <= n_0 /\ (n_0 <= List.length M ∨ n_0 = 1))) (fun n_0 => (List.length M - n_0)) (fun n_0 => .go 2 (.fork (.go 1 (.inv 3 (Nat) (n_0) [] [0] (fun n_1 => [(9,nI (n_1 : Int)),(0,slQ 0 2 M.length),(1,nI 0),(2,nI (kk7 M)),(3,.func (.func 166) #[] #[.pointer (some ⟨1,0,none⟩)]),(8,nI (n_0 : Int))]) (fun n_1 => [(0,true,.cells true 1 ((kkq ss M n_0 n_1).flatMap intC))]) (fun n_1 => []) (fun n_1 => []) (fun n_1 => (n_1 <= n_0 /\ ipos (kyI ss) (isr (kyI ss) M n_0) (M.getD n_0 0) n_0 = ipos (kyI ss) (isr (kyI ss) M n_0) (M.getD n_0 0) n_1)) (fun n_1 => n_1) (fun n_1 => .go 3 (.gfork (.go 2 (.need (.val (nI ((kkq ss M n_0 n_1).getD n_1 0)) (.go 2 (.slot 29 (nI ((n_1 : Int) - 1)) (.need (.val (nI ((kkq ss M n_0 n_1).getD ((n_1 : Int) - 1).toNat 0)) (.into (some [0]) (.go 6 (.need (.go 0 (.val (nI (kkf ss M n_0 n_1).1) (.go 5 (.need (.go 0 (.val (nI (kkb ss M n_0 n_1).1) (.go 0 (.slot 24 (nI ((kkf ss M n_0 n_1).1 - (kkb ss M n_0 n_1).1)) (.go 0 (.keep (.go 1 (.fork (.go 4 (.slot 41 (nI ((n_1 : Int) - 1)) (.go 2 (.slot 44 (nI ((n_1 : Int) - 1)) (.need (.val (nI ((kkq ss M n_0 n_1).getD ((n_1 : Int) - 1).toNat 0)) (.go 1 (.need (.val (nI ((kkq ss M n_0 n_1).getD n_1 0)) (.need (.need (.need (.need (.go 1 (.slot 36 (nI ((n_1 : Int) - 1)) kkp))))))))))))))) (.go 1 (.slot 16 (nI ((n_0 : Int) + 1)) kkp)))))))))))))))))))))))) (.go 3 (.slot 16 (nI ((n_0 : Int) + 1)) kkp)))))) (.keep (.again []))))))))
 (newKW ((readsW 0 1 (M.flatMap intC) (ctxH w h a p ss rr)) : HT).n 3 0 (kka ss M) (.tuple #[]) []) = RinsS M w h a p ss rr:=by kernel_rfl
abbrev kkj (M : List Int) : Prop:=kk0 = .func (.func 166) #[] #[.pointer (some ⟨1,0,none⟩)] /\ (nI (kk7 M) : Value) = nI (kk7 M) /\ wkR (slQ 0 2 M.length) /\ (nI 20 : Value) = nI 20 /\ True
abbrev kk3 (qn0 : Nat) (qn1 : Nat) (qd0 : List Int):=decide (((((qn0 * qn1 + qn0) : Nat) : Int) : Int) <= (kks qd0))
abbrev kke (M : List Int) (w : Int) (h : Int) (a : List Bool) (p : Int) (ss : List (Int × Int)) (rr : List (List Int)) : Prop:=(someR (.cells true 1 (M.flatMap intC))) /\ (someR (.cells false 0 [.pointer (some ⟨2,0,none⟩)])) /\ (someR (.cells false 0 [nI w,nI h,slQ 3 2 a.length,nI p,slQ 4 2 ss.length,slQ 5 1 rr.length])) /\ (someR (.cells false 0 (a.flatMap boolC))) /\ (someR (.cells false 0 (ss.flatMap spC))) /\ (someR (.cells false 0 (inL rr))) /\ True
abbrev kkc (H' : Heap) (M : List Int) (w : Int) (h : Int) (a : List Bool) (p : Int) (ss : List (Int × Int)) (rr : List (List Int)) : Prop:=H'[0]? = some (.cells true 1 (M.flatMap intC) : KObj) /\ H'[1]? = some (.cells false 0 [.pointer (some ⟨2,0,none⟩)] : KObj) /\ H'[2]? = some (.cells false 0 [nI w,nI h,slQ 3 2 a.length,nI p,slQ 4 2 ss.length,slQ 5 1 rr.length] : KObj) /\ H'[3]? = some (.cells false 0 (a.flatMap boolC) : KObj) /\ H'[4]? = some (.cells false 0 (ss.flatMap spC) : KObj) /\ H'[5]? = some (.cells false 0 (inL rr) : KObj) /\ True
abbrev kkm (n_0 : Nat) : Int:=((20 * n_0 + 20) : Nat)
abbrev kkl (ss : List (Int × Int)) (M : List Int) : Prop:=((keptR 6 (kka ss M)) /\ True) /\ (True) /\ (True)
abbrev kk6 (n_1 : Nat) : Int:=((20 * n_1 + 20) : Nat)
abbrev kkk (M : List Int) (n_1 : Nat) : Prop:=kk0 = .func (.func 166) #[] #[.pointer (some ⟨1,0,none⟩)] /\ (nI (kk7 M) : Value) = nI (kk7 M) /\ wkR (slQ 0 2 M.length) /\ (nI (kk6 n_1) : Value) = nI (kk6 n_1) /\ True
abbrev kkg (n_2 : Nat) : Int:=((40 * n_2) : Nat)
abbrev kkn (n_2 : Nat) : Int:=((40 * n_2 + 40) : Nat)
abbrev kk1 (qn0 : Nat) (qn1 : Nat) (qd0 : List Int) : Prop:=(nI ((((20 * qn0 + 20) : Nat) : Int) * 2) : Value) = nI (((20 * qn1 + 20) : Nat) : Int) /\ wkR (slQ 0 2 qd0.length) /\ (nI (kks qd0) : Value) = nI (kks qd0) /\ kk0 = .func (.func 166) #[] #[.pointer (some ⟨1,0,none⟩)] /\ True
abbrev kkr (n_1 : Nat) (M : List Int) (ss : List (Int × Int)) : Prop:=(nI (IntKind.wrap .i64 ((kk6 n_1) * 2)) : Value) = nI ((kk6 n_1) * 2) /\ (∃ n_3' : Nat,(n_3' = 0) /\ 0 < 0 /\ true = true /\ (kk1 n_1 n_3' M) /\ kkl ss M)
def RstabS (M : List Int) (w h : Int) (a : List Bool) (p : Int) (ss : List (Int × Int)) (rr : List (List Int)) : Prop :=
 (true = true /\ (0 = 0) /\ (true = true /\ ((nI 0 : Value) = nI (((20 * 0) : Nat) : Int) /\ (nI 20 : Value) = nI (((20 * 0 + 20) : Nat) : Int) /\ kkj M) /\ ((keptR 6 (.cells true 1 (M.flatMap intC))) /\ True) /\ kkt) /\ (∀ n_0 : Nat,true = true) /\ ∀ n_0 : Nat,(n_0 = 0) -> (((kk3 20 n_0 M) = true -> ((kke M w h a p ss rr) /\ (∀ H' : Heap,H'.length = 6 -> (kkc H' M w h a p ss rr) -> KCall prog 256 [slQ 0 2 M.length,nI (((20 * n_0) : Nat) : Int),nI (kkm n_0),.func (.func 166) #[] #[.pointer (some ⟨1,0,none⟩)]] H' [0] (Is (.tuple #[]) (List.set H' 0 (kk9 ss M)))) /\ ((nI (IntKind.wrap .i64 ((kkm n_0) + 20)) : Value) = nI ((kkm n_0) + 20) /\ (∃ n_1' : Nat,(n_1' = 0) /\ 0 < 0 /\ true = true /\ ((nI (kkm n_0) : Value) = nI (((20 * n_1') : Nat) : Int) /\ (nI ((kkm n_0) + 20) : Value) = nI (((20 * n_1' + 20) : Nat) : Int) /\ kkj M) /\ ((some (kk9 ss M) = some (.cells true 1 (M.flatMap intC) : KObj) /\ belowO 6 (.cells true 1 (M.flatMap intC) : KObj) = true) /\ True) /\ kkt)))) /\ ((kk3 20 n_0 M) = false -> ((kke M w h a p ss rr) /\ (∀ H' : Heap,H'.length = 6 -> (kkc H' M w h a p ss rr) -> KCall prog 256 [slQ 0 2 M.length,nI (((20 * n_0) : Nat) : Int),nI (kk7 M),.func (.func 166) #[] #[.pointer (some ⟨1,0,none⟩)]] H' [0] (Is (.tuple #[]) (List.set H' 0 (kk9 ss M)))) /\ (true = true /\ (0 = 0) /\ (true = true /\ ((nI 20 : Value) = nI (((20 * 0 + 20) : Nat) : Int) /\ wkR (slQ 0 2 M.length) /\ (nI (kk7 M) : Value) = nI (kk7 M) /\ kk0 = .func (.func 166) #[] #[.pointer (some ⟨1,0,none⟩)] /\ True) /\ kkl ss M) /\ (∀ n_1 : Nat,true = true) /\ ∀ n_1 : Nat,(n_1 = 0) -> (((decide (((kk6 n_1) : Int) < (kk7 M))) = true -> ((nI (IntKind.wrap .i64 (2 * (kk6 n_1))) : Value) = nI (2 * (kk6 n_1)) /\ (true = true /\ (0 = 0) /\ (true = true /\ ((nI 0 : Value) = nI (((40 * 0) : Nat) : Int) /\ (nI (2 * (kk6 n_1)) : Value) = nI (((40 * 0 + 40) : Nat) : Int) /\ kkk M n_1) /\ kkl ss M) /\ (∀ n_2 : Nat,true = true) /\ ∀ n_2 : Nat,(n_2 = 0) -> (((kk3 40 n_2 M) = true -> ((nI (IntKind.wrap .i64 ((kkg n_2) + (kk6 n_1))) : Value) = nI ((kkg n_2) + (kk6 n_1)) /\ (((someR (kka ss M)) /\ True) /\ (∀ H' : Heap,H'.length = 6 -> (H'[0]? = some (kk9 ss M) /\ True) -> KCall prog 257 [slQ 0 2 M.length,nI (kkg n_2),nI ((kkg n_2) + (kk6 n_1)),nI (kkn n_2),.func (.func 166) #[] #[.pointer (some ⟨1,0,none⟩)]] H' [0] (Is (.tuple #[]) (List.set H' 0 (kk9 ss M)))) /\ ((nI (IntKind.wrap .i64 (2 * (kk6 n_1))) : Value) = nI (2 * (kk6 n_1)) /\ ((nI (IntKind.wrap .i64 ((kkn n_2) + (2 * (kk6 n_1)))) : Value) = nI ((kkn n_2) + (2 * (kk6 n_1))) /\ (∃ n_3' : Nat,(n_3' = 0) /\ 0 < 0 /\ true = true /\ ((nI (kkn n_2) : Value) = nI (((40 * n_3') : Nat) : Int) /\ (nI ((kkn n_2) + (2 * (kk6 n_1))) : Value) = nI (((40 * n_3' + 40) : Nat) : Int) /\ kkk M n_1) /\ kkl ss M)))))) /\ ((kk3 40 n_2 M) = false -> ((nI (IntKind.wrap .i64 ((kkg n_2) + (kk6 n_1))) : Value) = nI ((kkg n_2) + (kk6 n_1)) /\ (((decide ((((kkg n_2) + (kk6 n_1)) : Int) < (kk7 M))) = true -> (((someR (kka ss M)) /\ True) /\ (∀ H' : Heap,H'.length = 6 -> (H'[0]? = some (kk9 ss M) /\ True) -> KCall prog 257 [slQ 0 2 M.length,nI (kkg n_2),nI ((kkg n_2) + (kk6 n_1)),nI (kk7 M),.func (.func 166) #[] #[.pointer (some ⟨1,0,none⟩)]] H' [0] (Is (.tuple #[]) (List.set H' 0 (kk9 ss M)))) /\ (kkr n_1 M ss))) /\ ((decide ((((kkg n_2) + (kk6 n_1)) : Int) < (kk7 M))) = false -> (kkr n_1 M ss))))))))) /\ ((decide (((kk6 n_1) : Int) < (kk7 M))) = false -> (true = true /\ wk kku (rn (sg 6 []) 3 kku) /\ ((keptR 6 (kka ss M)) /\ True) /\ (True)))))))))
abbrev kki (M : List Int) (w : Int) (h : Int) (a : List Bool) (p : Int) (ss : List (Int × Int)) (rr : List (List Int)) : List (Nat × KObj):=[(0,.cells true 1 (M.flatMap intC)),(1,.cells false 0 [.pointer (some ⟨2,0,none⟩)]),(2,.cells false 0 [nI w,nI h,slQ 3 2 a.length,nI p,slQ 4 2 ss.length,slQ 5 1 rr.length]),(3,.cells false 0 (a.flatMap boolC)),(4,.cells false 0 (ss.flatMap spC)),(5,.cells false 0 (inL rr))]
abbrev kkd (ss : List (Int × Int)) (M : List Int) : List (Nat × KObj):=[(0,.cells true 1 ((isr (kyI ss) M M.length).flatMap intC))]
theorem EstabS (M : List Int) (w h : Int) (a : List Bool) (p : Int) (ss : List (Int × Int)) (rr : List (List Int)) : vF prog msk (dm 0) 100000 true 40 true 226 [slQ 0 2 M.length,nI (kk7 M),.func (.func 166) #[] #[.pointer (some ⟨1,0,none⟩)]] (readsW 0 1 (M.flatMap intC) (ctxH w h a p ss rr)) (some [0])
 (.go 3 (.inv 3 (Nat) (0) [] [0] (fun n_0 => [(7,nI (((20 * n_0) : Nat) : Int)),(8,nI (kkm n_0)),(2,.func (.func 166) #[] #[.pointer (some ⟨1,0,none⟩)]),(1,nI (kk7 M)),(0,slQ 0 2 M.length),(6,nI 20)]) (fun n_0 => [(0,true,.cells true 1 (M.flatMap intC))]) (fun n_0 => []) (fun n_0 => []) (fun n_0 => (n_0 = 0)) (fun n_0 => 0) (fun n_0 => .go 2 (.fork (.go 3 (.answ (kki M w h a p ss rr) (.tuple #[]) (kkd ss M) [] (.go 4 (.slot 22 (nI ((kkm n_0) + 20)) kkp)))) (.go 3 (.answ (kki M w h a p ss rr) (.tuple #[]) (kkd ss M) [] (.inv 3 (Nat) (0) [] [0] (fun n_1 => [(6,nI (kk6 n_1)),(0,slQ 0 2 M.length),(1,nI (kk7 M)),(2,.func (.func 166) #[] #[.pointer (some ⟨1,0,none⟩)])]) (fun n_1 => [(0,true,.cells true 1 ((isr (kyI ss) M M.length).flatMap intC))]) (fun n_1 => []) (fun n_1 => []) (fun n_1 => (n_1 = 0)) (fun n_1 => 0) (fun n_1 => .go 2 (.fork (.go 1 (.slot 32 (nI (2 * (kk6 n_1))) (.go 1 (.inv 3 (Nat) (0) [] [0] (fun n_2 => [(7,nI (kkg n_2)),(8,nI (kkn n_2)),(2,.func (.func 166) #[] #[.pointer (some ⟨1,0,none⟩)]),(1,nI (kk7 M)),(0,slQ 0 2 M.length),(6,nI (kk6 n_1))]) (fun n_2 => [(0,true,.cells true 1 ((isr (kyI ss) M M.length).flatMap intC))]) (fun n_2 => []) (fun n_2 => []) (fun n_2 => (n_2 = 0)) (fun n_2 => 0) (fun n_2 => .go 2 (.fork (.go 4 (.slot 40 (nI ((kkg n_2) + (kk6 n_1))) (.go 1 (.answ (kkd ss M) (.tuple #[]) (kkd ss M) [] (.go 4 (.slot 47 (nI (2 * (kk6 n_1))) (.go 0 (.slot 48 (nI ((kkn n_2) + (2 * (kk6 n_1)))) kkp)))))))) (.go 2 (.slot 51 (nI ((kkg n_2) + (kk6 n_1))) (.go 3 (.fork (.go 4 (.answ (kkd ss M) (.tuple #[]) (kkd ss M) [] (.go 1 (.slot 62 (nI ((kk6 n_1) * 2)) kkp)))) (.go 1 (.slot 62 (nI ((kk6 n_1) * 2)) kkp)))))))))))) (.keep (.again [])))))))))))
 (newKW ((readsW 0 1 (M.flatMap intC) (ctxH w h a p ss rr)) : HT).n 3 0 (kka ss M) (.tuple #[]) []) = RstabS M w h a p ss rr:=by kernel_rfl
end
end Go.Proofs.YtbgfjemppjhmjaaGreat
