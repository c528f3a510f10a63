/- Request: what is made of numbers is right. Plain laws. No condition. -/
import Derived.Test.YthdekmpkioikdaaGreatGR23gxR24
import Derived.Test.YthdekmpkioikdaaGreatGR18gxR18h
import Derived.Test.YthdekmpkioikdaaGreatGR20xR23a
import Derived.Test.YthdekmpkioikdaaGreatGZ6xR19f
import Derived.Test.YthdekmpkioikdaaGreatRows
import Derived.JoinedCond
import Derived.Test.YthdekmpkioikdaaGreatGK27xR1
namespace Go.Proofs.YthdekmpkioikdaaGreat
set_option linter.unusedSimpArgs false
open Go Go.K
set_option linter.unusedVariables false
noncomputable section
theorem getD_app {α : Type} {l : List α} {r d : α} {i : Nat} : (l ++ [r]).getD i d = if i < l.length then l.getD i d else if i = l.length then r else d := by
 rw [List.getD_eq_getElem?_getD]
 by_cases h : i < l.length
 ·rw [if_pos h, List.getElem?_append_left h, <- List.getD_eq_getElem?_getD]
 ·rw [if_neg h, List.getElem?_append_right (by omega)]
  by_cases e : i = l.length
  ·rw [if_pos e, e, Nat.sub_self]; rfl
  ·rw [if_neg e, List.getElem?_eq_none (by show 1 <= _; omega)]; rfl
theorem rwL_at (L : List Int) (q far : Int) (i : Nat) : ∀ (k j : Nat), j < k -> (rwL L q far i k).getD j 0 = if (i : Int) = (j : Int) then 0 else dN L (q + (j : Int)) (far + 1)
 | 0, j, h => absurd h (Nat.not_lt_zero _)
 | k + 1, j, h => by
  show (rwL L q far i k ++ [_]).getD j 0 = _
  rw [getD_app, rwL_len]
  by_cases c : j < k
  ·rw [if_pos c, rwL_at L q far i k j c]
  ·rw [if_neg c, if_pos (show j = k by omega), show j = k by omega]
theorem shT_at (L : List Int) (n : Int) : ∀ (i j : Nat), j < i -> (shT L n i).getD j [] = rwL L (shQ L n j) (shR L n) j (Int.toNat (shW L n))
 | 0, j, h => absurd h (Nat.not_lt_zero _)
 | i + 1, j, h => by
  show (shT L n i ++ [_]).getD j [] = _
  rw [getD_app, shT_len]
  by_cases c : j < i
  ·rw [if_pos c, shT_at L n i j c]
  ·rw [if_neg c, if_pos (show j = i by omega), show j = i by omega]
theorem brL_at (L : List Int) (n : Int) : ∀ (i j : Nat), j < i -> (brL L n i).getD j 0 = dN L (shE L n + 2 * (j : Int) + 1) (shW L n)
 | 0, j, h => absurd h (Nat.not_lt_zero _)
 | i + 1, j, h => by
  show (brL L n i ++ [_]).getD j 0 = _
  rw [getD_app, brL_len]
  by_cases c : j < i
  ·rw [if_pos c, brL_at L n i j c]
  ·rw [if_neg c, if_pos (show j = i by omega), show j = i by omega]
theorem firstN_pos {c : Nat -> Bool} (h : c 0 = false) : ∀ {n : Nat}, 0 < n -> 1 <= firstN c n
 | 0, hn => absurd hn (Nat.not_lt_zero _)
 | n + 1, _ => by
  unfold firstN
  rcases Nat.eq_zero_or_pos n with e | e
  ·subst e
   rw [if_neg (Nat.not_lt_zero _), h, if_neg (by decide)]; omega
  ·have := firstN_pos h e
   split
   ·exact this
   ·split <;> omega
theorem shX_in (L : List Int) (n : Int) {m : Int} (hm : 1 <= m) : 1 <= shX L n m /\ (shX L n m : Int) <= m := by
 have h0 := dN_bd L (shE L n + 2 * ((0 : Nat) : Int)) hm
 refine ⟨firstN_pos (decide_eq_false (by omega)) (by omega), ?_⟩
 have hl := firstN_le (shC L n m) (Int.toNat m + 1)
 have hX : shX L n m = firstN (shC L n m) (Int.toNat m + 1) := rfl
 by_cases c : shX L n m = Int.toNat m + 1
 ·-- at m itself the property holds
  exfalso
  have hk : ∀ k, k <= Int.toNat m -> firstN (shC L n m) (k + 1) = k + 1 -> shC L n m k = false := fun k _ hk => by
   cases e : shC L n m k with
   | false => rfl
   | true =>
    have e2 : firstN (shC L n m) k <= k := firstN_le _ k
    unfold firstN at hk
    by_cases q : firstN (shC L n m) k < k
    ·rw [if_pos q] at hk; omega
    ·rw [if_neg q, if_pos e] at hk; omega
  have h1 := hk (Int.toNat m) (Nat.le_refl _) (by omega)
  have hd := dN_bd L (shE L n + 2 * ((Int.toNat m : Nat) : Int)) hm
  have h1 : decide (dN L (shE L n + 2 * ((Int.toNat m : Nat) : Int)) m < ((Int.toNat m : Nat) : Int)) = false := h1
  have := of_decide_eq_false h1
  omega
 ·omega
theorem shF_ok (L : List Int) (n : Int) : FlOk (shF L n 3) := by
 have w := shW_in L n
 have fr := shR_in L n
 have x := shX_in L n (m := 3) (by omega)
 have lt : (shF L n 3).t.length = Int.toNat (shW L n) := shT_len L n _
 have lb : (shF L n 3).b.length = shX L n 3 := brL_len L n _
 refine ⟨by omega, by omega, by omega, by omega, fun k hk => ?_, fun k j hk => ?_, fun k hk => ?_⟩
 ·rw [lt] at hk ⊢
  rw [show (shF L n 3).t.getD k [] = _ from shT_at L n _ k hk, rwL_len]
 ·rw [lt] at hk
  rw [show (shF L n 3).t.getD k [] = _ from shT_at L n _ k hk]
  by_cases c : j < Int.toNat (shW L n)
  ·rw [rwL_at _ _ _ _ _ _ c]
   split
   ·omega
   ·have := dN_bd L (shQ L n k + (j : Int)) (m := shR L n + 1) (by omega); omega
  ·rw [List.getD_eq_getElem?_getD, List.getElem?_eq_none (by rw [rwL_len]; omega)]
   show 0 <= (0 : Int) /\ (0 : Int) <= 100
   omega
 ·rw [lb] at hk
  rw [lt, show (shF L n 3).b.getD k 0 = _ from brL_at L n _ k hk]
  have := dN_bd L (shE L n + 2 * (k : Int) + 1) (m := shW L n) (by omega)
  omega
theorem errUp_no {e : Nat -> Int} : ∀ {n : Nat}, (∀ k, k < n -> e k = 0) -> errUp e n = 0
 | 0, _ => rfl
 | n + 1, h => errUp_succ (errUp_no fun k hk => h k (by omega)) (h n (by omega))
theorem any_none {α : Type} {l : List α} {d : α} {p : α -> Bool} (h : ∀ k, k < l.length -> p (l.getD k d) = false) : l.any p = false := by
 rw [List.any_eq_false]
 intro x hx
 obtain ⟨k, hk⟩ := List.mem_iff_getElem?.1 hx
 have hl := (List.getElem?_eq_some_iff.1 hk).1
 have := h k hl
 rw [List.getD_eq_getElem?_getD, hk] at this
 exact fun c => by rw [show (some x).getD d = x from rfl] at this; rw [this] at c; cases c
theorem errFl_ok {f : Fleet} (o : FlOk f) (hd : ∀ k, k < f.t.length -> (f.t.getD k []).getD k 0 = 0) : errFl f = 0 := by
 have n1 := o.n1
 have n2 := o.n2
 have b1 := o.b1
 have b2 := o.b2
 unfold errFl
 rw [if_neg (by rw [inB_1 (show (1 : Int) <= (f.t.length : Int) by omega) (by omega), inB_1 (show (1 : Int) <= (f.b.length : Int) by omega) (by omega)]; decide)]
 rw [errUp_no fun k hk => by
  unfold errRow badRow
  rw [decide_eq_false (show ¬ (f.t.getD k []).length ≠ f.t.length from fun c => c (o.row k hk)), decide_eq_false (show ¬ (f.t.getD k []).getD k 0 ≠ 0 from fun c => c (hd k hk)), any_none (d := 0) fun j _ => by
   have := o.el k j hk
   unfold badT
   rw [inB_1 this.1 this.2]; rfl]
  rfl, first2_2 rfl, any_none (d := 0) fun j hj => by
   have := o.br j hj
   unfold badA
   rw [inB_1 this.1 this.2]; rfl]
 rfl
theorem shF_diag (L : List Int) (n : Int) : ∀ k, k < (shF L n 3).t.length -> ((shF L n 3).t.getD k []).getD k 0 = 0 := fun k hk => by
 rw [show (shF L n 3).t.length = Int.toNat (shW L n) from shT_len L n _] at hk
 rw [show (shF L n 3).t.getD k [] = _ from shT_at L n _ k hk, rwL_at _ _ _ _ _ _ hk, if_pos rfl]
theorem errPol_ok (L : List Int) (n : Int) : errPol (rlP L n) = 0 := by
 have h1 := dN_bd L n (m := 6) (by omega)
 have h2 := dN_bd L (n + 1) (m := 40) (by omega)
 have h3 := dN_bd L (n + 1 + 1) (m := 4) (by omega)
 have h4 := dN_bd L (n + 1 + 1 + 1) (m := 10) (by omega)
 have h5 := dN_bd L (n + 1 + 1 + 1 + 1) (m := 100) (by omega)
 unfold errPol
 rw [inB_1 (show 0 <= (rlP L n).ov from h1.1) (show (rlP L n).ov <= 30 by have : (rlP L n).ov = dN L n 6 := rfl; omega), inB_1 (show 0 <= (rlP L n).warn from h2.1) (show (rlP L n).warn <= 10000 by have : (rlP L n).warn = dN L (n + 1) 40 := rfl; omega)]
 rw [if_neg]
 intro c
 have : ([(rlP L n).w0, (rlP L n).w1, (rlP L n).w2].any badW) = false := by
  show (badW (dN L (n + 1 + 1) 4) || (badW (dN L (n + 1 + 1 + 1) 10) || (badW (dN L (n + 1 + 1 + 1 + 1) 100) || false))) = false
  unfold badW
  rw [inB_1 h3.1 (by omega), inB_1 h4.1 (by omega), inB_1 h5.1 (by omega)]; rfl
 rw [this] at c
 cases c
structure MadeR (w : Int) (i : Nat) (r : Rq) : Prop where
 id : r.id = Int.tmod (7 * (i : Int)) 31
 at_ : 0 <= r.at_ /\ r.at_ <= 14 * ((i : Int) + 1)
 place : 0 <= r.place /\ r.place < w
 dest : 0 <= r.dest /\ r.dest < w
 len : 1 <= r.len /\ r.len <= 15
 prio : 1 <= r.prio /\ r.prio <= 3
 limit : 0 <= r.limit /\ r.limit <= 60
theorem asS_made (L : List Int) (n w : Int) (hw : 1 <= w) : ∀ x : Nat, (∀ i, i < x -> MadeR w i ((asS L n w x).l.getD i zeroQ)) /\ (∀ i, i < x -> ((asS L n w x).l.getD i zeroQ).at_ <= (asS L n w x).h) /\ ∀ i j, i <= j -> j < x -> ((asS L n w x).l.getD i zeroQ).at_ <= ((asS L n w x).l.getD j zeroQ).at_
 | 0 => ⟨fun i h => absurd h (Nat.not_lt_zero _), fun i h => absurd h (Nat.not_lt_zero _), fun i j _ h => absurd h (Nat.not_lt_zero _)⟩
 | x + 1 => by
  obtain ⟨g1, g2, g3⟩ := asS_made L n w hw x
  obtain ⟨s1, _, _, s4, s5⟩ := asS_in L n w x
  have ha := dN_bd L (n + 1) (m := 15) (by omega)
  have ha2 : asA L n = 1 + dN L (n + 1) 15 := rfl
  have e : asS L n w (x + 1) = asV L (asA L n) w x (asS L n w x) := rfl
  generalize asS L n w x = S at *
  have hb := dN_bd L S.n (m := asA L n) (by omega)
  have key : ∃ r, (asS L n w (x + 1)).l = S.l ++ [r] /\ (asS L n w (x + 1)).h = S.h + dN L S.n (asA L n) /\ r.at_ = S.h + dN L S.n (asA L n) /\ MadeR w x r := by
   by_cases c : dN L (S.n + 1) 3 = 0
   ·rw [e, asV_1 c]
    have h1 := dN_bd L (S.n + 1 + 1 + 1) (m := w) hw
    have h2 := dN_bd L (S.n + 1 + 1 + 1 + 1) (m := w) hw
    have h3 := dN_bd L (S.n + 1 + 1 + 1 + 1 + 1) (m := 15) (by omega)
    have h4 := dN_bd L (S.n + 1 + 1 + 1 + 1 + 1 + 1) (m := 3) (by omega)
    have h5 := dN_bd L (S.n + 1 + 1) (m := 60) (by omega)
    exact ⟨asR1 L (asA L n) w x S, rfl, rfl, rfl, rfl, ⟨by show 0 <= S.h + _; omega, by show S.h + _ <= _; omega⟩, h1, h2, ⟨by show 1 <= 1 + _; omega, by show 1 + _ <= (15 : Int); omega⟩, ⟨by show 1 <= 1 + _; omega, by show 1 + _ <= (3 : Int); omega⟩, ⟨by show 0 <= 1 + _; omega, by show 1 + _ <= (60 : Int); omega⟩⟩
   ·rw [e, asV_0 c]
    have h1 := dN_bd L (S.n + 1 + 1) (m := w) hw
    have h2 := dN_bd L (S.n + 1 + 1 + 1) (m := w) hw
    have h3 := dN_bd L (S.n + 1 + 1 + 1 + 1) (m := 15) (by omega)
    have h4 := dN_bd L (S.n + 1 + 1 + 1 + 1 + 1) (m := 3) (by omega)
    exact ⟨asR0 L (asA L n) w x S, rfl, rfl, rfl, rfl, ⟨by show 0 <= S.h + _; omega, by show S.h + _ <= _; omega⟩, h1, h2, ⟨by show 1 <= 1 + _; omega, by show 1 + _ <= (15 : Int); omega⟩, ⟨by show 1 <= 1 + _; omega, by show 1 + _ <= (3 : Int); omega⟩, ⟨by show (0 : Int) <= 0; omega, by show (0 : Int) <= 60; omega⟩⟩
  obtain ⟨r, k1, k2, k3, k4⟩ := key
  have gl : ∀ i, i < x -> (asS L n w (x + 1)).l.getD i zeroQ = S.l.getD i zeroQ := fun i hi => by rw [k1, getD_app, if_pos (by omega)]
  have gr : (asS L n w (x + 1)).l.getD x zeroQ = r := by rw [k1, getD_app, if_neg (by omega), if_pos s1.symm]
  refine ⟨fun i hi => ?_, fun i hi => ?_, fun i j hij hj => ?_⟩
  ·rcases Nat.lt_or_ge i x with q | q
   ·rw [gl i q]; exact g1 i q
   ·rw [show i = x by omega, gr]; exact k4
  ·rw [k2]
   rcases Nat.lt_or_ge i x with q | q
   ·rw [gl i q]; have := g2 i q; omega
   ·rw [show i = x by omega, gr, k3]; omega
  ·rcases Nat.lt_or_ge j x with q | q
   ·rw [gl i (by omega), gl j q]; exact g3 i j hij q
   ·rw [show j = x by omega, gr, k3]
    rcases Nat.lt_or_ge i x with q2 | q2
    ·rw [gl i q2]; have := g2 i q2; omega
    ·rw [show i = x by omega, gr, k3]; omega
theorem as_id {i j : Nat} (hi : i < 31) (hj : j < i) : Int.tmod (7 * (j : Int)) 31 ≠ Int.tmod (7 * (i : Int)) 31 := by
 rw [Int.tmod_eq_emod_of_nonneg (by omega), Int.tmod_eq_emod_of_nonneg (by omega)]
 omega
theorem asL_len {L : List Int} {n m w : Int} (hm : 0 <= m) : ((asL L n m w).length : Int) <= m := by
 have h := (asS_in L n w (asK L n m)).1
 have hd := dN_bd L n (m := m + 1) (by omega)
 have : (asL L n m w).length = asK L n m := h
 rw [this]; unfold asK; omega
theorem asL_ok {L : List Int} {n m : Int} {f : Fleet} (hm : 0 <= m /\ m <= 30) (ht : 1 <= f.t.length) : LsOk f.t.length (asL L n m (f.t.length : Nat)) /\ ∀ i j, i <= j -> j < (asL L n m (f.t.length : Nat)).length -> ((asL L n m (f.t.length : Nat)).getD i zeroQ).at_ <= ((asL L n m (f.t.length : Nat)).getD j zeroQ).at_ := by
 have hl := asL_len (L := L) (n := n) (w := ((f.t.length : Nat) : Int)) hm.1
 have h0 : (asL L n m (f.t.length : Nat)).length = asK L n m := (asS_in L n _ (asK L n m)).1
 obtain ⟨g1, _, g3⟩ := asS_made L n ((f.t.length : Nat) : Int) (by omega) (asK L n m)
 refine ⟨⟨by omega, fun k hk => ?_, fun k j hk hj => ?_⟩, fun i j hij hj => g3 i j hij (by omega)⟩
 ·have r : MadeR _ k ((asL L n m (f.t.length : Nat)).getD k zeroQ) := g1 k (by omega)
  have hid := r.id
  rw [Int.tmod_eq_emod_of_nonneg (by omega)] at hid
  exact ⟨by omega, by have := r.at_; omega, by have := r.place; omega, by have := r.dest; omega, by have := r.len; omega, r.prio, by have := r.limit; omega⟩
 ·have r1 : MadeR _ k ((asL L n m (f.t.length : Nat)).getD k zeroQ) := g1 k (by omega)
  have r2 : MadeR _ j ((asL L n m (f.t.length : Nat)).getD j zeroQ) := g1 j (by omega)
  rw [r1.id, r2.id]
  exact as_id (by omega) hj
theorem errRq_ok {n : Nat} {l : List Rq} (o : LsOk n l) : errRq n l = 0 := by
 unfold errRq
 rw [if_neg (by have := o.len; omega)]
 refine errUp_no fun k hk => ?_
 have r := o.ok k hk
 unfold errRq1 badRq
 rw [inB_1 r.id.1 r.id.2, inB_1 r.at_.1 r.at_.2, inB_1 r.place.1 r.place.2, inB_1 r.dest.1 r.dest.2, inB_1 r.len.1 r.len.2, inB_1 r.prio.1 r.prio.2, inB_1 r.limit.1 r.limit.2]
 rw [if_neg (by decide), if_neg]
 rw [any_none (d := zeroQ) fun j hj => ?_]
 ·decide
 ·rw [List.length_take] at hj
  have e : (l.take k).getD j zeroQ = l.getD j zeroQ := by
   rw [List.getD_eq_getElem?_getD, List.getElem?_take, if_pos (by omega), <- List.getD_eq_getElem?_getD]
  unfold sameId
  rw [e]
  exact decide_eq_false (o.ne k j hk (by omega))
theorem errAll_ok {f : Fleet} {p : Pol} {l : List Rq} (h1 : errFl f = 0) (h2 : errPol p = 0) (h3 : errRq f.t.length l = 0) : errAll f p l = 0 := by
 unfold errAll
 rw [h1, h2, h3]; rfl
end
end Go.Proofs.YthdekmpkioikdaaGreat
/- Request: requests that are asked for later change no decision before. Plain laws. No condition. -/
namespace Go.Proofs.YthdekmpkioikdaaGreat
set_option linter.unusedSimpArgs false
open Go Go.K
set_option linter.unusedVariables false
noncomputable section
theorem take_at {l : List Rq} {n i : Nat} (h : i < n) : (l.take n).getD i zeroQ = l.getD i zeroQ := by
 rw [List.getD_eq_getElem?_getD, List.getElem?_take, if_pos h, <- List.getD_eq_getElem?_getD]
theorem rq_take {l : List Rq} {n : Nat} {r : Int} (h : 0 <= r /\ r < (n : Int)) : rqAt (l.take n) r = rqAt l r := take_at (by omega)
def InN (h : List Sv) (n : Nat) : Prop := ∀ k, k < h.length -> 0 <= (svAt h k).rq /\ (svAt h k).rq < (n : Int)
theorem plH_same (f : Fleet) (l : List Rq) {h : List Sv} {n : Nat} (i : InN h n) : ∀ k, k <= h.length -> plH f (l.take n) h k = plH f l h k
 | 0, _ => rfl
 | k + 1, hk => by
  show (plH f (l.take n) h k).set _ _ = (plH f l h k).set _ _
  rw [plH_same f l i k (by omega), rq_take (i k (by omega))]
theorem brH_same (f : Fleet) (l : List Rq) {h : List Sv} {n : Nat} (i : InN h n) : brH f (l.take n) h h.length = brH f l h h.length := by
 unfold brH; rw [plH_same f l i _ (Nat.le_refl _)]
theorem ovN_same {l : List Rq} {h : List Sv} {n : Nat} (i : InN h n) (hn : n <= l.length) : ∀ k, k <= h.length -> ∀ j, j < n -> (ovN (l.take n) h k).getD j 0 = (ovN l h k).getD j 0
 | 0, _, j, hj => by
  show (List.replicate (l.take n).length (0 : Int)).getD j 0 = (List.replicate l.length (0 : Int)).getD j 0
  rw [List.getD_eq_getElem?_getD, List.getD_eq_getElem?_getD, List.getElem?_replicate, List.getElem?_replicate, if_pos (by rw [List.length_take]; omega), if_pos (by omega)]
 | k + 1, hk, j, hj => by
  have ln : (l.take n).length = n := take_len hn
  have e1 : (ovN (l.take n) h (k + 1)).getD j 0 = (ovN (l.take n) h k).getD j 0 + if (!((metH (l.take n).length h (k + 1)).getD j false) && befB ((l.take n).getD j zeroQ) (rqAt (l.take n) (svAt h k).rq)) = true then 1 else 0 := tabP_get (by omega)
  have e2 : (ovN l h (k + 1)).getD j 0 = (ovN l h k).getD j 0 + if (!((metH l.length h (k + 1)).getD j false) && befB (l.getD j zeroQ) (rqAt l (svAt h k).rq)) = true then 1 else 0 := tabP_get (by omega)
  have m1 : (metH (l.take n).length h (k + 1)).getD j false = (h.take (k + 1)).any (isRq (j : Int)) := by unfold metH; rw [tabP_get (by omega)]
  have m2 : (metH l.length h (k + 1)).getD j false = (h.take (k + 1)).any (isRq (j : Int)) := by unfold metH; rw [tabP_get (by omega)]
  rw [e1, e2, ovN_same i hn k (by omega) j hj, m1, m2, take_at hj, rq_take (i k (by omega))]
theorem cls_same (p : Pol) {l : List Rq} {h : List Sv} {n : Nat} (i : InN h n) (hn : n <= l.length) (hour : Int) {j : Nat} (hj : j < n) : clsAt p (l.take n) h hour j = clsAt p l h hour j := by
 have ln : (l.take n).length = n := take_len hn
 unfold clsAt
 rw [take_at hj, met_any (by omega), met_any (by omega), ovN_same i hn _ (Nat.le_refl _) j hj]
theorem best_same (p : Pol) {l : List Rq} {h : List Sv} {n : Nat} (i : InN h n) (hn : n <= l.length) (hour : Int) : ∀ j, j <= n -> bestTo p (l.take n) h hour j = bestTo p l h hour j
 | 0, _ => rfl
 | j + 1, hj => by
  have ih := best_same p i hn hour j (by omega)
  have c := cls_same p i hn hour (show j < n by omega)
  have key : ((bestTo p (l.take n) h hour j).2 < clsAt p (l.take n) h hour j ∨ (0 < clsAt p (l.take n) h hour j /\ clsAt p (l.take n) h hour j = (bestTo p (l.take n) h hour j).2 /\ aheadB (clsAt p (l.take n) h hour j) ((l.take n).getD j zeroQ) (rqAt (l.take n) (bestTo p (l.take n) h hour j).1) = true)) ↔
    ((bestTo p l h hour j).2 < clsAt p l h hour j ∨ (0 < clsAt p l h hour j /\ clsAt p l h hour j = (bestTo p l h hour j).2 /\ aheadB (clsAt p l h hour j) (l.getD j zeroQ) (rqAt l (bestTo p l h hour j).1) = true)) := by
   rw [ih, c, take_at (show j < n by omega)]
   rcases best_spec p l h hour j with ⟨b1, _⟩ | ⟨b1, b2, _⟩
   ·rw [b1]
    constructor
    ·rintro (q | ⟨q1, q2, _⟩)
     ·exact .inl q
     ·have q2 : clsAt p l h hour j = 0 := q2
      omega
    ·rintro (q | ⟨q1, q2, _⟩)
     ·exact .inl q
     ·have q2 : clsAt p l h hour j = 0 := q2
      omega
   ·rw [rq_take ⟨b1, by omega⟩]
  by_cases k : ((bestTo p l h hour j).2 < clsAt p l h hour j ∨ (0 < clsAt p l h hour j /\ clsAt p l h hour j = (bestTo p l h hour j).2 /\ aheadB (clsAt p l h hour j) (l.getD j zeroQ) (rqAt l (bestTo p l h hour j).1) = true))
  ·rw [best_1 k, best_1 (key.2 k), c]
  ·rw [best_0 k, best_0 (fun q => k (key.1 q)), ih]
theorem best_more (p : Pol) {l : List Rq} {h : List Sv} {n : Nat} {hour : Int} (hs : ∀ j, n <= j -> j < l.length -> hour < (l.getD j zeroQ).at_) : ∀ d, n + d <= l.length -> bestTo p l h hour (n + d) = bestTo p l h hour n
 | 0, _ => rfl
 | d + 1, hd => by
  have ih := best_more p (h := h) hs d (by omega)
  have c : clsAt p l h hour (n + d) = 0 := if_pos (.inr (hs (n + d) (by omega) (by omega)))
  have b2 : 0 <= (bestTo p l h hour (n + d)).2 := by
   rcases best_spec p l h hour (n + d) with ⟨b, _⟩ | ⟨_, _, _, b, _⟩
   ·rw [b]; exact Int.le_refl _
   ·omega
  rw [show n + (d + 1) = (n + d) + 1 by omega, best_0 (fun k => by rw [c] at k; omega), ih]
theorem by_same (f : Fleet) (l : List Rq) {h : List Sv} {n : Nat} (i : InN h n) (hour place : Int) : ∀ b, byTo f (l.take n) h hour place b = byTo f l h hour place b
 | 0 => rfl
 | b + 1 => by
  have ih := by_same f l i hour place b
  have e : brH f (l.take n) h h.length = brH f l h h.length := brH_same f l i
  unfold byTo
  rw [ih, e]
theorem dec_same (f : Fleet) (p : Pol) {l : List Rq} {h : List Sv} {n : Nat} (i : InN h n) (hn : n <= l.length) {hour : Int} (hs : ∀ j, n <= j -> j < l.length -> hour < (l.getD j zeroQ).at_) : decAt f p (l.take n) h hour = decAt f p l h hour := by
 have ln : (l.take n).length = n := take_len hn
 have e1 : bestAt p (l.take n) h hour = bestAt p l h hour := by
  unfold bestAt
  rw [ln, best_same p i hn hour n (Nat.le_refl _), <- best_more p (h := h) hs (l.length - n) (by omega), show n + (l.length - n) = l.length by omega]
 have eb : brH f (l.take n) h h.length = brH f l h h.length := brH_same f l i
 by_cases k : bestAt p l h hour < 0
 ·unfold decAt
  rw [e1, if_pos (.inl k), if_pos (.inl k)]
 ·have r : 0 <= bestAt p l h hour /\ bestAt p l h hour < (n : Int) := by
   rcases best_spec p (l.take n) h hour (l.take n).length with ⟨b, _⟩ | ⟨b1, b2, _⟩
   ·exfalso
    apply k
    rw [<- e1]
    unfold bestAt
    rw [b]; decide
   ·have b1 : 0 <= bestAt p (l.take n) h hour := b1
    have b2 : bestAt p (l.take n) h hour < ((l.take n).length : Int) := b2
    rw [e1] at b1 b2
    omega
  have e2 : byAt f p (l.take n) h hour = byAt f p l h hour := by
   unfold byAt
   rw [e1, rq_take r, by_same f l i]
  unfold decAt mkSv
  rw [e1, e2, eb, rq_take r]
theorem playS_ext (f : Fleet) (p : Pol) (l : List Rq) : ∀ (m : Nat) (hour : Int) (h : List Sv), ∃ t, playS f p l m hour h = h ++ t /\ ∀ s ∈ t, hour <= s.tk /\ (rqAt l s.rq).at_ <= s.tk /\ (0 <= s.rq /\ s.rq < (l.length : Int)) /\ h.any (isRq s.rq) = false
 | 0, hour, h => ⟨[], by rw [List.append_nil]; rfl, fun s hs => absurd hs List.not_mem_nil⟩
 | m + 1, hour, h => by
  by_cases c : l.length <= h.length
  ·exact ⟨[], by rw [List.append_nil]; exact if_pos c, fun s hs => absurd hs List.not_mem_nil⟩
  ·cases e : decAt f p l h hour with
   | some s =>
    obtain ⟨t, h1, h2⟩ := playS_ext f p l m hour (h ++ [s])
    obtain ⟨a, b, ha, hb, es, _, _, hm, hat, _⟩ := dec_some e
    refine ⟨s :: t, ?_, fun s' hs' => ?_⟩
    ·show (if l.length <= h.length then h else _) = _
     rw [if_neg c, e]
     show playS f p l m hour (h ++ [s]) = _
     rw [h1, List.append_assoc]; rfl
    ·rcases List.mem_cons.1 hs' with rfl | q
     ·rw [es]
      refine ⟨Int.le_refl _, ?_, ⟨by show (0 : Int) <= (a : Int); omega, by show (a : Int) < _; omega⟩, hm⟩
      show (rqAt l (a : Int)).at_ <= hour
      rw [rqAt_nat]; exact hat
     ·obtain ⟨q1, q2, q3, q4⟩ := h2 s' q
      rw [List.any_append] at q4
      exact ⟨q1, q2, q3, (Bool.or_eq_false_iff.1 q4).1⟩
   | none =>
    obtain ⟨t, h1, h2⟩ := playS_ext f p l m (hour + 1) h
    refine ⟨t, ?_, fun s hs => ?_⟩
    ·show (if l.length <= h.length then h else _) = _
     rw [if_neg c, e]
     exact h1
    ·obtain ⟨q1, q2⟩ := h2 s hs
     exact ⟨by omega, q2⟩
theorem LsOk.take {k n : Nat} {l : List Rq} (o : LsOk k l) : LsOk k (l.take n) := by
 have ol := o.len
 refine ⟨by rw [List.length_take]; omega, fun i hi => ?_, fun i j hi hj => ?_⟩
 ·rw [List.length_take] at hi
  rw [take_at (by omega)]; exact o.ok i (by omega)
 ·rw [List.length_take] at hi
  rw [take_at (by omega), take_at (by omega)]; exact o.ne i j (by omega) hj
theorem play_sim {f : Fleet} {p : Pol} {l : List Rq} {n : Nat} (o : FlOk f) (ol : LsOk f.t.length l) (hn : n < l.length) (hs : ∀ j, n <= j -> j < l.length -> (l.getD n zeroQ).at_ <= (l.getD j zeroQ).at_) :
  ∀ (m hour : Nat) (h : List Sv), PlayI f p l hour h -> PlayI f p (l.take n) hour h -> InN h n -> (hour : Int) <= (l.getD n zeroQ).at_ -> (n - h.length) + ((l.getD n zeroQ).at_ - (hour : Int)).toNat <= m ->
   ∃ (hour' : Nat) (h' : List Sv), PlayI f p l hour' h' /\ PlayI f p (l.take n) hour' h' /\ InN h' n /\ ((hour' : Int) = (l.getD n zeroQ).at_ ∨ h'.length = n)
 | m, hour, h, i1, i2, hi, hh, hm => by
  have ln : (l.take n).length = n := take_len (by omega)
  have hl := i2.len
  by_cases c : (hour : Int) = (l.getD n zeroQ).at_ ∨ h.length = n
  ·exact ⟨hour, h, i1, i2, hi, c⟩
  ·match m, hm with
   | 0, hm => exact absurd (.inr (by omega)) c
   | m + 1, hm =>
    have hA : (hour : Int) < (l.getD n zeroQ).at_ := by
     rcases Int.lt_or_le (hour : Int) (l.getD n zeroQ).at_ with q | q
     ·exact q
     ·exact absurd (.inl (by omega)) c
    have ds := dec_same f p hi (show n <= l.length by omega) (hour := (hour : Int)) (fun j h1 h2 => by have := hs j h1 h2; omega)
    have hlt : h.length < n := by
     rcases Nat.lt_or_ge h.length n with q | q
     ·exact q
     ·exact absurd (.inr (by omega)) c
    cases e : decAt f p l h (hour : Int) with
    | some s =>
     have e2 : decAt f p (l.take n) h (hour : Int) = some s := by rw [ds, e]
     obtain ⟨a, b, ha, _, es, _⟩ := dec_some e2
     refine play_sim o ol hn hs m hour (h ++ [s]) (playI_dec o ol i1 (by omega) e) (playI_dec o (LsOk.take ol) i2 (by omega) e2) (fun k hk => ?_) hh (by rw [List.length_append, show [s].length = 1 from rfl]; omega)
     rw [List.length_append, show [s].length = 1 from rfl] at hk
     rcases Nat.lt_or_ge k h.length with q | q
     ·rw [svAt_l q]; exact hi k q
     ·rw [show k = h.length by omega, svAt_r, es]
      show 0 <= (a : Int) /\ (a : Int) < (n : Int)
      omega
    | none =>
     have e2 : decAt f p (l.take n) h (hour : Int) = none := by rw [ds, e]
     exact play_sim o ol hn hs m (hour + 1) h (playI_next o ol i1 (fun _ => e) (.inl (by omega))) (playI_next o (LsOk.take ol) i2 (fun _ => e2) (.inl (by omega))) hi (by omega) (by omega)
theorem later_law {f : Fleet} {p : Pol} {l : List Rq} {n : Nat} (o : FlOk f) (ol : LsOk f.t.length l) (hn : n < l.length) (hs : ∀ j, n <= j -> j < l.length -> (l.getD n zeroQ).at_ <= (l.getD j zeroQ).at_) {i : Nat} (hi : i < (playF f p l).length) (ht : (svAt (playF f p l) i).tk < (l.getD n zeroQ).at_) :
  i < (playF f p (l.take n)).length /\ svAt (playF f p (l.take n)) i = svAt (playF f p l) i := by
 have ln : (l.take n).length = n := take_len (by omega)
 have hat := (ol.ok n hn).at_
 obtain ⟨hour, h, i1, i2, hin, hc⟩ := play_sim (p := p) o ol hn hs _ 0 [] (playI_0 ol.len) (playI_0 (LsOk.take ol).len) (fun k hk => absurd hk (Nat.not_lt_zero _)) (by omega) (Nat.le_refl _)
 obtain ⟨m1, _, p1⟩ := i1.own
 obtain ⟨m2, _, p2⟩ := i2.own
 obtain ⟨t1, q1, r1⟩ := playS_ext f p l m1 (hour : Int) h
 obtain ⟨t2, q2, r2⟩ := playS_ext f p (l.take n) m2 (hour : Int) h
 rw [<- p1, q1] at hi ht ⊢
 rw [<- p2, q2]
 have hh : i < h.length := by
  rcases Nat.lt_or_ge i h.length with q | q
  ·exact q
  ·exfalso
   have hm : svAt (h ++ t1) i ∈ t1 := by
    show (h ++ t1).getD i zeroV ∈ t1
    rw [List.getD_eq_getElem?_getD, List.getElem?_append_right q, <- List.getD_eq_getElem?_getD]
    rw [List.length_append] at hi
    exact getD_mem (by omega)
   obtain ⟨u1, u2, u3, u4⟩ := r1 _ hm
   rcases hc with k | k
   ·omega
   ·-- all of the first ones are taken
    have mc := met_count i2.good h.length (Nat.le_refl _)
    rw [List.take_length, ln] at mc
    rcases Int.lt_or_le (svAt (h ++ t1) i).rq (n : Int) with w | w
    ·have := crN_lt (p := fun j : Nat => h.any (isRq (j : Int))) (n := n) (i0 := Int.toNat (svAt (h ++ t1) i).rq) (by omega) (by show h.any (isRq ((Int.toNat (svAt (h ++ t1) i).rq : Nat) : Int)) = false; rw [Int.toNat_of_nonneg u3.1]; exact u4)
     omega
    ·have := hs (Int.toNat (svAt (h ++ t1) i).rq) (by omega) (by omega)
     have u2 : (l.getD (Int.toNat (svAt (h ++ t1) i).rq) zeroQ).at_ <= (svAt (h ++ t1) i).tk := u2
     omega
 refine ⟨by rw [List.length_append]; omega, ?_⟩
 show (h ++ t2).getD i zeroV = (h ++ t1).getD i zeroV
 rw [List.getD_eq_getElem?_getD, List.getD_eq_getElem?_getD, List.getElem?_append_left hh, List.getElem?_append_left hh]
end
end Go.Proofs.YthdekmpkioikdaaGreat
/- Request: what the laws of made numbers speak of. No condition. -/
namespace Go.Proofs.YthdekmpkioikdaaGreat
set_option linter.unusedSimpArgs false
set_option linter.unusedVariables false
open Go Go.K
def mkF (L : List Int) : Fleet := shF L 0 3
def mkA (L : List Int) : Int := shN L 0 3
def mkQ (L : List Int) (m : Int) : List Rq := asL L (mkA L) m (((mkF L).t.length : Nat) : Int)
def mkB (L : List Int) (m : Int) : Int := asN L (mkA L) m (((mkF L).t.length : Nat) : Int)
def mkP (L : List Int) (m : Int) : Pol := rlP L (mkB L m)
def mkH (L : List Int) (m : Int) : List Sv := playF (mkF L) (mkP L m) (mkQ L m)
def mkC (L : List Int) (cut : Int) : Int := cut % (((mkQ L 20).length : Int) + 1)
def mkT (L : List Int) (cut : Int) : List Sv := playF (mkF L) (mkP L 20) ((mkQ L 20).take (Int.toNat (mkC L cut)))
end Go.Proofs.YthdekmpkioikdaaGreat
/- Request: the made fleet, requests and policy are right; their runs. No condition. -/
namespace Go.Proofs.YthdekmpkioikdaaGreat
set_option linter.unusedSimpArgs false
open Go Go.K
set_option linter.unusedVariables false
noncomputable section
attribute [local irreducible] vF
theorem mkF_ok (L : List Int) : FlOk (mkF L) := shF_ok L 0
theorem mkA_bd (L : List Int) : 0 <= mkA L /\ mkA L <= 100 := by
 have a := shW_in L 0
 have b := shQ_in L 0 (Int.toNat (shW L 0))
 have c := shX_in L 0 (m := 3) (by omega)
 unfold mkA shN shE
 omega
theorem mkQ_ok (L : List Int) {m : Int} (hm : 0 <= m /\ m <= 30) : LsOk (mkF L).t.length (mkQ L m) /\ ∀ i j, i <= j -> j < (mkQ L m).length -> ((mkQ L m).getD i zeroQ).at_ <= ((mkQ L m).getD j zeroQ).at_ := asL_ok hm (mkF_ok L).n1
theorem mkQ_len (L : List Int) {m : Int} (hm : 0 <= m) : ((mkQ L m).length : Int) <= m := asL_len hm
theorem mkB_bd (L : List Int) {m : Int} (hm : 0 <= m /\ m <= 30) : 0 <= mkB L m /\ mkB L m <= 1000 := by
 have a := mkA_bd L
 have b := asS_in L (mkA L) (((mkF L).t.length : Nat) : Int) (asK L (mkA L) m)
 have d := dN_bd L (mkA L) (m := m + 1) (by omega)
 have e : ((asK L (mkA L) m : Nat) : Int) <= m := by unfold asK; omega
 unfold mkB asN
 omega
theorem mkErr (L : List Int) {m : Int} (hm : 0 <= m /\ m <= 30) (n : Nat) : errAll (mkF L) (mkP L m) ((mkQ L m).take n) = 0 :=
 errAll_ok (errFl_ok (mkF_ok L) (shF_diag L 0)) (errPol_ok L _) (errRq_ok (LsOk.take (mkQ_ok L hm).1))
theorem mkErr0 (L : List Int) {m : Int} (hm : 0 <= m /\ m <= 30) : errAll (mkF L) (mkP L m) (mkQ L m) = 0 :=
 errAll_ok (errFl_ok (mkF_ok L) (shF_diag L 0)) (errPol_ok L _) (errRq_ok (mkQ_ok L hm).1)
theorem fRun_ok {f : Fleet} {p : Pol} {l : List Rq} (h : errAll f p l = 0) : fRun f p l = (playF f p l, 0) := if_pos h
theorem mkF_in (L : List Int) : (mkF L).t.length <= 4294967296 /\ (mkF L).b.length <= 4294967296 /\ shortI (mkF L).t := by
 have o := mkF_ok L
 have a := o.n2
 have b := o.b2
 exact ⟨by omega, by omega, fun k hk => by have := o.row k hk; omega⟩
theorem take_flat {l : List Rq} (n : Nat) : l.flatMap rqC = (l.take n).flatMap rqC ++ (l.drop n).flatMap rqC := by
 rw [<- List.flatMap_append, List.take_append_drop]
theorem kShipsM (L : List Int) {H : Heap} {N : Nat} (hN : H.length = N) {D : Nat} (hD : H[D]? = some (.cells true 0 (digC L 0))) :
  KCall prog 26 [.pointer (some ⟨D, 0, none⟩), nI 3] H [D] (Is (fleetV (mkF L) N (N + 1) 1) (H.set D (.cells true 0 (digC L (mkA L))) ++ [.cells true 1 (inL (mkF L).t), .cells true 1 ((mkF L).b.flatMap intC)])) := kShips L 0 3 (by omega) (by omega) hN hD
theorem kAsksM (L : List Int) {m : Int} (hm : 0 <= m /\ m <= 30) {H : Heap} {N : Nat} (hN : H.length = N) {D : Nat} (hD : H[D]? = some (.cells true 0 (digC L (mkA L)))) {i j : Nat} {o1 o2 : Bool} {z1 z2 : Nat} (e1 : H[i]? = some (.cells o1 z1 (inL (mkF L).t))) (e2 : H[j]? = some (.cells o2 z2 ((mkF L).b.flatMap intC))) (hi : D ≠ i) (hj : D ≠ j) :
  KCall prog 27 [.pointer (some ⟨D, 0, none⟩), fleetV (mkF L) i j, nI m] H [D] (Is (slQ N 1 (mkQ L m).length) (H.set D (.cells true 0 (digC L (mkB L m))) ++ [.cells true 7 ((mkQ L m).flatMap rqC)])) :=
 kAsks L (mkA L) (mkF L) m (by have := mkA_bd L; omega) (by omega) (by have := (mkF_ok L).n1; have := (mkF_ok L).n2; omega) hN hD e1 e2 hi hj
theorem kRuleM (L : List Int) {m : Int} (hm : 0 <= m /\ m <= 30) {H : Heap} {D : Nat} (hD : H[D]? = some (.cells true 0 (digC L (mkB L m)))) :
  KCall prog 28 [.pointer (some ⟨D, 0, none⟩)] H [D] (Is (.agg ⟨polC (mkP L m)⟩) (H.set D (.cells true 0 (digC L (mkB L m + 1 + 1 + 1 + 1 + 1))))) :=
 kRule L (mkB L m) (by have := mkB_bd L hm; omega) hD
theorem kRunM (L : List Int) {m : Int} (hm : 0 <= m /\ m <= 30) {H : Heap} {N : Nat} (hN : H.length = N) {i0 i1 i2 : Nat} {o0 o1 o2 : Bool} {z0 z1 z2 : Nat} (e0 : H[i0]? = some (.cells o0 z0 (inL (mkF L).t))) (e1 : H[i1]? = some (.cells o1 z1 ((mkF L).b.flatMap intC))) (e2 : H[i2]? = some (.cells o2 z2 ((mkQ L m).flatMap rqC))) :
  KCall prog 29 [fleetV (mkF L) i0 i1, .agg ⟨polC (mkP L m)⟩, .slice (some ⟨i2, 0, some 2⟩) (mkQ L m).length (mkQ L m).length] H [] (Is (.tuple #[.slice (some ⟨N, 0, some 2⟩) (mkH L m).length (mkH L m).length, .int .i64 0]) (H ++ [.cells true 5 ((mkH L m).flatMap svC)])) := by
 have h := kRun (mkF L) (mkP L m) (mkQ L m) (mkF_in L).1 (mkF_in L).2.1 (mkF_in L).2.2 hN e0 e1 e2
 rw [fRun_ok (mkErr0 L hm)] at h
 exact h
theorem kRunMT (L : List Int) {m : Int} (hm : 0 <= m /\ m <= 30) (n : Nat) (hn : n <= (mkQ L m).length) {H : Heap} {N : Nat} (hN : H.length = N) {i0 i1 i2 : Nat} {o0 o1 o2 : Bool} {z0 z1 z2 : Nat} (e0 : H[i0]? = some (.cells o0 z0 (inL (mkF L).t))) (e1 : H[i1]? = some (.cells o1 z1 ((mkF L).b.flatMap intC))) (e2 : H[i2]? = some (.cells o2 z2 ((mkQ L m).flatMap rqC))) :
  KCall prog 29 [fleetV (mkF L) i0 i1, .agg ⟨polC (mkP L m)⟩, .slice (some ⟨i2, 0, some 2⟩) n n] H [] (Is (.tuple #[.slice (some ⟨N, 0, some 2⟩) (playF (mkF L) (mkP L m) ((mkQ L m).take n)).length (playF (mkF L) (mkP L m) ((mkQ L m).take n)).length, .int .i64 0]) (H ++ [.cells true 5 ((playF (mkF L) (mkP L m) ((mkQ L m).take n)).flatMap svC)])) := by
 have h := kRunP (mkF L) (mkP L m) ((mkQ L m).take n) (mkF_in L).1 (mkF_in L).2.1 (mkF_in L).2.2 hN e0 e1 (D := ((mkQ L m).drop n).flatMap rqC) (by rw [<- take_flat]; exact e2)
 rw [fRun_ok (mkErr L hm n), List.length_take, Nat.min_eq_left hn] at h
 exact h
theorem mkH_len (L : List Int) {m : Int} (hm : 0 <= m /\ m <= 30) : (mkH L m).length = (mkQ L m).length := playF_len (mkF_ok L) (mkQ_ok L hm).1
theorem mkT_len (L : List Int) {m : Int} (hm : 0 <= m /\ m <= 30) {n : Nat} (hn : n <= (mkQ L m).length) : (playF (mkF L) (mkP L m) ((mkQ L m).take n)).length = n := by
 rw [playF_len (mkF_ok L) (LsOk.take (mkQ_ok L hm).1), List.length_take, Nat.min_eq_left hn]
end
end Go.Proofs.YthdekmpkioikdaaGreat
/- What is to be shown of functions. Printed by a program. No condition. -/
namespace Go.Proofs.YthdekmpkioikdaaGreat
set_option linter.unusedSimpArgs false
open Go Go.K
set_option maxRecDepth 100000
set_option maxHeartbeats 4000000
set_option linter.unusedVariables false
noncomputable section
def RLaterLaw (sp : Value) (L : List Int) (cut : Int) : Prop :=
 (((some (.cells true 0 [.iface ((List.length L) + 1) (.agg ⟨(List.flatMap intC L)⟩),.int .i64 0] : KObj) = some (.cells true 0 [.iface ((List.length L) + 1) (.agg ⟨(List.flatMap intC L)⟩),.int .i64 0] : KObj)) /\ True) /\ (∀ H' : Heap,H'.length = 1 -> (H'[0]? = some (.cells true 0 [.iface ((List.length L) + 1) (.agg ⟨(List.flatMap intC L)⟩),.int .i64 0] : KObj) /\ True) -> KCall prog 26 [.pointer (some ⟨0,0,none⟩),.int .i64 3] H' [0] (Is (.agg #[.slice (some ⟨1,0,some 1⟩) (List.length (mkF L).t) (List.length (mkF L).t),.slice (some ⟨2,0,some 1⟩) (List.length (mkF L).b) (List.length (mkF L).b)]) ((List.set H' 0 (.cells true 0 [.iface ((List.length L) + 1) (.agg ⟨(List.flatMap intC L)⟩),.int .i64 (mkA L)] : KObj)) ++ [(.cells true 1 (inL (mkF L).t) : KObj),(.cells true 1 (List.flatMap intC (mkF L).b) : KObj)]))) /\ (((some (.cells true 0 [.iface ((List.length L) + 1) (.agg ⟨(List.flatMap intC L)⟩),.int .i64 (mkA L)] : KObj) = some (.cells true 0 [.iface ((List.length L) + 1) (.agg ⟨(List.flatMap intC L)⟩),.int .i64 (mkA L)] : KObj)) /\ (some (.cells true 1 (inL (mkF L).t) : KObj) = some (.cells true 1 (inL (mkF L).t) : KObj)) /\ (some (.cells true 1 (List.flatMap intC (mkF L).b) : KObj) = some (.cells true 1 (List.flatMap intC (mkF L).b) : KObj)) /\ True) /\ (∀ H' : Heap,H'.length = 4 -> (H'[0]? = some (.cells true 0 [.iface ((List.length L) + 1) (.agg ⟨(List.flatMap intC L)⟩),.int .i64 (mkA L)] : KObj) /\ H'[1]? = some (.cells true 1 (inL (mkF L).t) : KObj) /\ H'[2]? = some (.cells true 1 (List.flatMap intC (mkF L).b) : KObj) /\ True) -> KCall prog 27 [.pointer (some ⟨0,0,none⟩),.agg #[.slice (some ⟨1,0,some 1⟩) (List.length (mkF L).t) (List.length (mkF L).t),.slice (some ⟨2,0,some 1⟩) (List.length (mkF L).b) (List.length (mkF L).b)],.int .i64 20] H' [0] (Is (.slice (some ⟨4,0,some 1⟩) (List.length (mkQ L 20)) (List.length (mkQ L 20))) ((List.set H' 0 (.cells true 0 [.iface ((List.length L) + 1) (.agg ⟨(List.flatMap intC L)⟩),.int .i64 (mkB L 20)] : KObj)) ++ [(.cells true 7 (List.flatMap rqC (mkQ L 20)) : KObj)]))) /\ (((some (.cells true 0 [.iface ((List.length L) + 1) (.agg ⟨(List.flatMap intC L)⟩),.int .i64 (mkB L 20)] : KObj) = some (.cells true 0 [.iface ((List.length L) + 1) (.agg ⟨(List.flatMap intC L)⟩),.int .i64 (mkB L 20)] : KObj)) /\ True) /\ (∀ H' : Heap,H'.length = 5 -> (H'[0]? = some (.cells true 0 [.iface ((List.length L) + 1) (.agg ⟨(List.flatMap intC L)⟩),.int .i64 (mkB L 20)] : KObj) /\ True) -> KCall prog 28 [.pointer (some ⟨0,0,none⟩)] H' [0] (Is (.agg #[.int .i64 (mkP L 20).ov,.int .i64 (mkP L 20).warn,.int .i64 (mkP L 20).w0,.int .i64 (mkP L 20).w1,.int .i64 (mkP L 20).w2]) (List.set H' 0 (.cells true 0 [.iface ((List.length L) + 1) (.agg ⟨(List.flatMap intC L)⟩),.int .i64 (mkB L 20 + 1 + 1 + 1 + 1 + 1)] : KObj)))) /\ ((.int .i64 (IntKind.wrap .i64 ((((List.length (mkQ L 20)) : Nat) : Int) + 1)) : Value) = .int .i64 ((((List.length (mkQ L 20)) : Nat) : Int) + 1) /\ (∃ y3 : Int,(.int .i64 ((((List.length (mkQ L 20)) : Nat) : Int) + 1) : Value) = .int .i64 y3 /\ ((True) /\ (∀ H' : Heap,H'.length = 6 -> (True) -> KCall prog 21 [.int .i64 cut,.int .i64 y3] H' [] (Is (.int .i64 (mkC L cut)) H')) /\ (((some (.cells true 1 (inL (mkF L).t) : KObj) = some (.cells true 1 (inL (mkF L).t) : KObj)) /\ (some (.cells true 1 (List.flatMap intC (mkF L).b) : KObj) = some (.cells true 1 (List.flatMap intC (mkF L).b) : KObj)) /\ (some (.cells true 7 (List.flatMap rqC (mkQ L 20)) : KObj) = some (.cells true 7 (List.flatMap rqC (mkQ L 20)) : KObj)) /\ True) /\ (∀ H' : Heap,H'.length = 6 -> (H'[1]? = some (.cells true 1 (inL (mkF L).t) : KObj) /\ H'[2]? = some (.cells true 1 (List.flatMap intC (mkF L).b) : KObj) /\ H'[4]? = some (.cells true 7 (List.flatMap rqC (mkQ L 20)) : KObj) /\ True) -> KCall prog 29 [.agg #[.slice (some ⟨1,0,some 1⟩) (List.length (mkF L).t) (List.length (mkF L).t),.slice (some ⟨2,0,some 1⟩) (List.length (mkF L).b) (List.length (mkF L).b)],.agg #[.int .i64 (mkP L 20).ov,.int .i64 (mkP L 20).warn,.int .i64 (mkP L 20).w0,.int .i64 (mkP L 20).w1,.int .i64 (mkP L 20).w2],.slice (some ⟨4,0,some 1⟩) (List.length (mkQ L 20)) (List.length (mkQ L 20))] H' [] (Is (.tuple #[.slice (some ⟨6,0,some 2⟩) (List.length (mkH L 20)) (List.length (mkH L 20)),.int .i64 0]) (H' ++ [(.cells true 5 (List.flatMap svC (mkH L 20)) : KObj)]))) /\ ((((true = false ∨ 7 = 0 ∨ 7 = 7) /\ (Int.toNat (mkC L cut)) <= (List.length (mkQ L 20))) /\ ((0 : Int) <= (mkC L cut) /\ ((mkC L cut) : Int) <= (((List.length (mkQ L 20)) : Nat) : Int)) /\ (0 <= (Int.toNat (mkC L cut)))) /\ ((.slice (some ⟨4,0,some 2⟩) ((Int.toNat (mkC L cut)) - 0) ((Int.toNat (mkC L cut)) - 0) : Value) = .slice (some ⟨4,0,some 2⟩) (Int.toNat (mkC L cut)) (Int.toNat (mkC L cut)) /\ (((some (.cells true 1 (inL (mkF L).t) : KObj) = some (.cells true 1 (inL (mkF L).t) : KObj)) /\ (some (.cells true 1 (List.flatMap intC (mkF L).b) : KObj) = some (.cells true 1 (List.flatMap intC (mkF L).b) : KObj)) /\ (some (.cells true 7 (List.flatMap rqC (mkQ L 20)) : KObj) = some (.cells true 7 (List.flatMap rqC (mkQ L 20)) : KObj)) /\ True) /\ (∀ H' : Heap,H'.length = 7 -> (H'[1]? = some (.cells true 1 (inL (mkF L).t) : KObj) /\ H'[2]? = some (.cells true 1 (List.flatMap intC (mkF L).b) : KObj) /\ H'[4]? = some (.cells true 7 (List.flatMap rqC (mkQ L 20)) : KObj) /\ True) -> KCall prog 29 [.agg #[.slice (some ⟨1,0,some 1⟩) (List.length (mkF L).t) (List.length (mkF L).t),.slice (some ⟨2,0,some 1⟩) (List.length (mkF L).b) (List.length (mkF L).b)],.agg #[.int .i64 (mkP L 20).ov,.int .i64 (mkP L 20).warn,.int .i64 (mkP L 20).w0,.int .i64 (mkP L 20).w1,.int .i64 (mkP L 20).w2],.slice (some ⟨4,0,some 2⟩) (Int.toNat (mkC L cut)) (Int.toNat (mkC L cut))] H' [] (Is (.tuple #[.slice (some ⟨7,0,some 2⟩) (List.length (mkT L cut)) (List.length (mkT L cut)),.int .i64 0]) (H' ++ [(.cells true 5 (List.flatMap svC (mkT L cut)) : KObj)]))) /\ (((((((List.length (mkH L 20)) : Nat) : Int) : Int) != (((List.length (mkQ L 20)) : Nat) : Int)) = true -> (.bool false : Value) = sp) /\ ((((((List.length (mkH L 20)) : Nat) : Int) : Int) != (((List.length (mkQ L 20)) : Nat) : Int)) = false -> (((((((List.length (mkT L cut)) : Nat) : Int) : Int) != (mkC L cut)) = true -> (.bool false : Value) = sp) /\ ((((((List.length (mkT L cut)) : Nat) : Int) : Int) != (mkC L cut)) = false -> (((((mkC L cut) : Int) == (((List.length (mkQ L 20)) : Nat) : Int)) = true -> ((True) /\ (∀ H' : Heap,H'.length = 8 -> (True) -> KCall prog 14 [] H' [] (Is (.bool true) H')) /\ (.bool true : Value) = sp)) /\ ((((mkC L cut) : Int) == (((List.length (mkQ L 20)) : Nat) : Int)) = false -> (true = true /\ (0 <= List.length (mkH L 20) /\ ∀ j,j < 0 -> (svAt (mkH L 20) j).tk < (List.getD (mkQ L 20) (Int.toNat (mkC L cut)) zeroQ).at_) /\ (true = true /\ ((.int .i64 0 : Value) = .int .i64 ((0 : Nat) : Int) /\ wk (.slice (some ⟨4,0,some 1⟩) (List.length (mkQ L 20)) (List.length (mkQ L 20)) : Value) (.slice (some ⟨4,0,some 1⟩) (List.length (mkQ L 20)) (List.length (mkQ L 20)) : Value) /\ (.int .i64 (mkC L cut) : Value) = .int .i64 (mkC L cut) /\ wk (.slice (some ⟨6,0,some 2⟩) (List.length (mkH L 20)) (List.length (mkH L 20)) : Value) (.slice (some ⟨6,0,some 2⟩) (List.length (mkH L 20)) (List.length (mkH L 20)) : Value) /\ wk (.slice (some ⟨7,0,some 2⟩) (List.length (mkT L cut)) (List.length (mkT L cut)) : Value) (.slice (some ⟨7,0,some 2⟩) (List.length (mkT L cut)) (List.length (mkT L cut)) : Value) /\ True) /\ ((some (.cells true 0 [.slice (some ⟨1,0,some 1⟩) (List.length (mkF L).t) (List.length (mkF L).t),.slice (some ⟨2,0,some 1⟩) (List.length (mkF L).b) (List.length (mkF L).b)] : KObj) = some (.cells true 0 [.slice (some ⟨1,0,some 1⟩) (List.length (mkF L).t) (List.length (mkF L).t),.slice (some ⟨2,0,some 1⟩) (List.length (mkF L).b) (List.length (mkF L).b)] : KObj) /\ belowO 8 (.cells true 0 [.slice (some ⟨1,0,some 1⟩) (List.length (mkF L).t) (List.length (mkF L).t),.slice (some ⟨2,0,some 1⟩) (List.length (mkF L).b) (List.length (mkF L).b)] : KObj) = true) /\ (some (.cells true 0 [.int .i64 (mkP L 20).ov,.int .i64 (mkP L 20).warn,.int .i64 (mkP L 20).w0,.int .i64 (mkP L 20).w1,.int .i64 (mkP L 20).w2] : KObj) = some (.cells true 0 [.int .i64 (mkP L 20).ov,.int .i64 (mkP L 20).warn,.int .i64 (mkP L 20).w0,.int .i64 (mkP L 20).w1,.int .i64 (mkP L 20).w2] : KObj) /\ belowO 8 (.cells true 0 [.int .i64 (mkP L 20).ov,.int .i64 (mkP L 20).warn,.int .i64 (mkP L 20).w0,.int .i64 (mkP L 20).w1,.int .i64 (mkP L 20).w2] : KObj) = true) /\ (some (.cells true 0 [.iface ((List.length L) + 1) (.agg ⟨(List.flatMap intC L)⟩),.int .i64 (mkB L 20 + 1 + 1 + 1 + 1 + 1)] : KObj) = some (.cells true 0 [.iface ((List.length L) + 1) (.agg ⟨(List.flatMap intC L)⟩),.int .i64 (mkB L 20 + 1 + 1 + 1 + 1 + 1)] : KObj) /\ belowO 8 (.cells true 0 [.iface ((List.length L) + 1) (.agg ⟨(List.flatMap intC L)⟩),.int .i64 (mkB L 20 + 1 + 1 + 1 + 1 + 1)] : KObj) = true) /\ True) /\ (True) /\ (True)) /\ (∀ x7 : Nat,true = true) /\ ∀ x7 : Nat,(x7 <= List.length (mkH L 20) /\ ∀ j,j < x7 -> (svAt (mkH L 20) j).tk < (List.getD (mkQ L 20) (Int.toNat (mkC L cut)) zeroQ).at_) -> (((decide ((((x7 : Nat) : Int) : Int) < (((List.length (mkH L 20)) : Nat) : Int))) = true -> (((0 : Int) <= ((x7 : Nat) : Int) /\ (((x7 : Nat) : Int) : Int) < (((List.length (mkH L 20)) : Nat) : Int)) /\ (((List.flatMap svC (mkH L 20))[((0 + Int.toNat ((x7 : Nat) : Int) * 5) + 2)]? = some (.int .i64 (List.getD (mkH L 20) x7 zeroV).tk)) /\ (((0 : Int) <= (mkC L cut) /\ ((mkC L cut) : Int) < (((List.length (mkQ L 20)) : Nat) : Int)) /\ (((List.flatMap rqC (mkQ L 20))[((0 + Int.toNat (mkC L cut) * 7) + 1)]? = some (.int .i64 (List.getD (mkQ L 20) (Int.toNat (mkC L cut)) zeroQ).at_)) /\ (((decide (((List.getD (mkH L 20) x7 zeroV).tk : Int) < (List.getD (mkQ L 20) (Int.toNat (mkC L cut)) zeroQ).at_)) = true -> (((decide (((((List.length (mkT L cut)) : Nat) : Int) : Int) <= ((x7 : Nat) : Int))) = true -> (.bool false : Value) = sp) /\ ((decide (((((List.length (mkT L cut)) : Nat) : Int) : Int) <= ((x7 : Nat) : Int))) = false -> (((0 : Int) <= ((x7 : Nat) : Int) /\ (((x7 : Nat) : Int) : Int) < (((List.length (mkT L cut)) : Nat) : Int)) /\ ((partA 5 (List.flatMap svC (mkT L cut)) (0 + Int.toNat ((x7 : Nat) : Int) * 5) = some (.agg #[.int .i64 (List.getD (mkT L cut) x7 zeroV).rq,.int .i64 (List.getD (mkT L cut) x7 zeroV).br,.int .i64 (List.getD (mkT L cut) x7 zeroV).tk,.int .i64 (List.getD (mkT L cut) x7 zeroV).bg,.int .i64 (List.getD (mkT L cut) x7 zeroV).nd])) /\ (((0 : Int) <= ((x7 : Nat) : Int) /\ (((x7 : Nat) : Int) : Int) < (((List.length (mkH L 20)) : Nat) : Int)) /\ ((partA 5 (List.flatMap svC (mkH L 20)) (0 + Int.toNat ((x7 : Nat) : Int) * 5) = some (.agg #[.int .i64 (List.getD (mkH L 20) x7 zeroV).rq,.int .i64 (List.getD (mkH L 20) x7 zeroV).br,.int .i64 (List.getD (mkH L 20) x7 zeroV).tk,.int .i64 (List.getD (mkH L 20) x7 zeroV).bg,.int .i64 (List.getD (mkH L 20) x7 zeroV).nd])) /\ (((!((((List.getD (mkT L cut) x7 zeroV).rq : Int) == (List.getD (mkH L 20) x7 zeroV).rq) && ((((List.getD (mkT L cut) x7 zeroV).br : Int) == (List.getD (mkH L 20) x7 zeroV).br) && ((((List.getD (mkT L cut) x7 zeroV).tk : Int) == (List.getD (mkH L 20) x7 zeroV).tk) && ((((List.getD (mkT L cut) x7 zeroV).bg : Int) == (List.getD (mkH L 20) x7 zeroV).bg) && ((((List.getD (mkT L cut) x7 zeroV).nd : Int) == (List.getD (mkH L 20) x7 zeroV).nd) && true)))))) = true -> (.bool false : Value) = sp) /\ ((!((((List.getD (mkT L cut) x7 zeroV).rq : Int) == (List.getD (mkH L 20) x7 zeroV).rq) && ((((List.getD (mkT L cut) x7 zeroV).br : Int) == (List.getD (mkH L 20) x7 zeroV).br) && ((((List.getD (mkT L cut) x7 zeroV).tk : Int) == (List.getD (mkH L 20) x7 zeroV).tk) && ((((List.getD (mkT L cut) x7 zeroV).bg : Int) == (List.getD (mkH L 20) x7 zeroV).bg) && ((((List.getD (mkT L cut) x7 zeroV).nd : Int) == (List.getD (mkH L 20) x7 zeroV).nd) && true)))))) = false -> ((.int .i64 (IntKind.wrap .i64 (((x7 : Nat) : Int) + 1)) : Value) = .int .i64 (((x7 : Nat) : Int) + 1) /\ (∃ x7' : Nat,(x7' <= List.length (mkH L 20) /\ ∀ j,j < x7' -> (svAt (mkH L 20) j).tk < (List.getD (mkQ L 20) (Int.toNat (mkC L cut)) zeroQ).at_) /\ (List.length (mkH L 20) - x7') < (List.length (mkH L 20) - x7) /\ true = true /\ ((.int .i64 (((x7 : Nat) : Int) + 1) : Value) = .int .i64 ((x7' : Nat) : Int) /\ wk (.slice (some ⟨4,0,some 1⟩) (List.length (mkQ L 20)) (List.length (mkQ L 20)) : Value) (.slice (some ⟨4,0,some 1⟩) (List.length (mkQ L 20)) (List.length (mkQ L 20)) : Value) /\ (.int .i64 (mkC L cut) : Value) = .int .i64 (mkC L cut) /\ wk (.slice (some ⟨6,0,some 2⟩) (List.length (mkH L 20)) (List.length (mkH L 20)) : Value) (.slice (some ⟨6,0,some 2⟩) (List.length (mkH L 20)) (List.length (mkH L 20)) : Value) /\ wk (.slice (some ⟨7,0,some 2⟩) (List.length (mkT L cut)) (List.length (mkT L cut)) : Value) (.slice (some ⟨7,0,some 2⟩) (List.length (mkT L cut)) (List.length (mkT L cut)) : Value) /\ True) /\ ((some (.cells true 0 [.slice (some ⟨1,0,some 1⟩) (List.length (mkF L).t) (List.length (mkF L).t),.slice (some ⟨2,0,some 1⟩) (List.length (mkF L).b) (List.length (mkF L).b)] : KObj) = some (.cells true 0 [.slice (some ⟨1,0,some 1⟩) (List.length (mkF L).t) (List.length (mkF L).t),.slice (some ⟨2,0,some 1⟩) (List.length (mkF L).b) (List.length (mkF L).b)] : KObj) /\ belowO 8 (.cells true 0 [.slice (some ⟨1,0,some 1⟩) (List.length (mkF L).t) (List.length (mkF L).t),.slice (some ⟨2,0,some 1⟩) (List.length (mkF L).b) (List.length (mkF L).b)] : KObj) = true) /\ (some (.cells true 0 [.int .i64 (mkP L 20).ov,.int .i64 (mkP L 20).warn,.int .i64 (mkP L 20).w0,.int .i64 (mkP L 20).w1,.int .i64 (mkP L 20).w2] : KObj) = some (.cells true 0 [.int .i64 (mkP L 20).ov,.int .i64 (mkP L 20).warn,.int .i64 (mkP L 20).w0,.int .i64 (mkP L 20).w1,.int .i64 (mkP L 20).w2] : KObj) /\ belowO 8 (.cells true 0 [.int .i64 (mkP L 20).ov,.int .i64 (mkP L 20).warn,.int .i64 (mkP L 20).w0,.int .i64 (mkP L 20).w1,.int .i64 (mkP L 20).w2] : KObj) = true) /\ (some (.cells true 0 [.iface ((List.length L) + 1) (.agg ⟨(List.flatMap intC L)⟩),.int .i64 (mkB L 20 + 1 + 1 + 1 + 1 + 1)] : KObj) = some (.cells true 0 [.iface ((List.length L) + 1) (.agg ⟨(List.flatMap intC L)⟩),.int .i64 (mkB L 20 + 1 + 1 + 1 + 1 + 1)] : KObj) /\ belowO 8 (.cells true 0 [.iface ((List.length L) + 1) (.agg ⟨(List.flatMap intC L)⟩),.int .i64 (mkB L 20 + 1 + 1 + 1 + 1 + 1)] : KObj) = true) /\ True) /\ (True) /\ (True)))))))))))) /\ ((decide (((List.getD (mkH L 20) x7 zeroV).tk : Int) < (List.getD (mkQ L 20) (Int.toNat (mkC L cut)) zeroQ).at_)) = false -> ((True) /\ (∀ H' : Heap,H'.length = 8 -> (True) -> KCall prog 14 [] H' [] (Is (.bool true) H')) /\ (.bool true : Value) = sp)))))))) /\ ((decide ((((x7 : Nat) : Int) : Int) < (((List.length (mkH L 20)) : Nat) : Int))) = false -> ((True) /\ (∀ H' : Heap,H'.length = 8 -> (True) -> KCall prog 14 [] H' [] (Is (.bool true) H')) /\ (.bool true : Value) = sp))))))))))))))))))))
theorem ELaterLaw (sp : Value) (L : List Int) (cut : Int) : vF prog msk (dm 0) 100000 true 40 true 4 [.iface ((List.length L) + 1) (.agg ⟨(List.flatMap intC L)⟩),.int .i64 cut] ⟨0,.leaf⟩ (some [])
 (.go 5 (.answ [(0,.cells true 0 [.iface ((List.length L) + 1) (.agg ⟨(List.flatMap intC L)⟩),.int .i64 0])] (.agg #[.slice (some ⟨1,0,some 1⟩) (List.length (mkF L).t) (List.length (mkF L).t),.slice (some ⟨2,0,some 1⟩) (List.length (mkF L).b) (List.length (mkF L).b)]) [(0,.cells true 0 [.iface ((List.length L) + 1) (.agg ⟨(List.flatMap intC L)⟩),.int .i64 (mkA L)])] [.cells true 1 (inL (mkF L).t),.cells true 1 (List.flatMap intC (mkF L).b)] (.go 3 (.answ [(0,.cells true 0 [.iface ((List.length L) + 1) (.agg ⟨(List.flatMap intC L)⟩),.int .i64 (mkA L)]),(1,.cells true 1 (inL (mkF L).t)),(2,.cells true 1 (List.flatMap intC (mkF L).b))] (.slice (some ⟨4,0,some 1⟩) (List.length (mkQ L 20)) (List.length (mkQ L 20))) [(0,.cells true 0 [.iface ((List.length L) + 1) (.agg ⟨(List.flatMap intC L)⟩),.int .i64 (mkB L 20)])] [.cells true 7 (List.flatMap rqC (mkQ L 20))] (.go 0 (.answ [(0,.cells true 0 [.iface ((List.length L) + 1) (.agg ⟨(List.flatMap intC L)⟩),.int .i64 (mkB L 20)])] (.agg #[.int .i64 (mkP L 20).ov,.int .i64 (mkP L 20).warn,.int .i64 (mkP L 20).w0,.int .i64 (mkP L 20).w1,.int .i64 (mkP L 20).w2]) [(0,.cells true 0 [.iface ((List.length L) + 1) (.agg ⟨(List.flatMap intC L)⟩),.int .i64 (mkB L 20 + 1 + 1 + 1 + 1 + 1)])] [] (.go 6 (.slot 28 (.int .i64 ((((List.length (mkQ L 20)) : Nat) : Int) + 1)) (.bind Int (fun y3 => .slot 28 (.int .i64 y3) (.ans [] (.int .i64 (mkC L cut)) [] (.go 3 (.ans [(1,.cells true 1 (inL (mkF L).t)),(2,.cells true 1 (List.flatMap intC (mkF L).b)),(4,.cells true 7 (List.flatMap rqC (mkQ L 20)))] (.tuple #[.slice (some ⟨6,0,some 2⟩) (List.length (mkH L 20)) (List.length (mkH L 20)),.int .i64 0]) [.cells true 5 (List.flatMap svC (mkH L 20))] (.go 8 (.need (.slot 42 (.slice (some ⟨4,0,some 2⟩) (Int.toNat (mkC L cut)) (Int.toNat (mkC L cut))) (.ans [(1,.cells true 1 (inL (mkF L).t)),(2,.cells true 1 (List.flatMap intC (mkF L).b)),(4,.cells true 7 (List.flatMap rqC (mkQ L 20)))] (.tuple #[.slice (some ⟨7,0,some 2⟩) (List.length (mkT L cut)) (List.length (mkT L cut)),.int .i64 0]) [.cells true 5 (List.flatMap svC (mkT L cut))] (.go 18 (.gfork (.auto) (.go 4 (.fork (.auto) (.go 3 (.fork (.ans [] (.bool true) [] (.auto)) (.go 0 (.inv 3 (Nat) (0) [] [3,5,0] (fun x7 => [(14,.int .i64 ((x7 : Nat) : Int)),(7,.slice (some ⟨4,0,some 1⟩) (List.length (mkQ L 20)) (List.length (mkQ L 20))),(9,.int .i64 (mkC L cut)),(10,.slice (some ⟨6,0,some 2⟩) (List.length (mkH L 20)) (List.length (mkH L 20))),(12,.slice (some ⟨7,0,some 2⟩) (List.length (mkT L cut)) (List.length (mkT L cut)))]) (fun x7 => [(3,true,.cells true 0 [.slice (some ⟨1,0,some 1⟩) (List.length (mkF L).t) (List.length (mkF L).t),.slice (some ⟨2,0,some 1⟩) (List.length (mkF L).b) (List.length (mkF L).b)]),(5,true,.cells true 0 [.int .i64 (mkP L 20).ov,.int .i64 (mkP L 20).warn,.int .i64 (mkP L 20).w0,.int .i64 (mkP L 20).w1,.int .i64 (mkP L 20).w2]),(0,true,.cells true 0 [.iface ((List.length L) + 1) (.agg ⟨(List.flatMap intC L)⟩),.int .i64 (mkB L 20 + 1 + 1 + 1 + 1 + 1)])]) (fun x7 => []) (fun x7 => []) (fun x7 => (x7 <= List.length (mkH L 20) /\ ∀ j,j < x7 -> (svAt (mkH L 20) j).tk < (List.getD (mkQ L 20) (Int.toNat (mkC L cut)) zeroQ).at_)) (fun x7 => (List.length (mkH L 20) - x7)) (fun x7 => .go 4 (.gfork (.go 1 (.need (.go 0 (.val (.int .i64 (List.getD (mkH L 20) x7 zeroV).tk) (.go 1 (.need (.go 0 (.val (.int .i64 (List.getD (mkQ L 20) (Int.toNat (mkC L cut)) zeroQ).at_) (.go 1 (.fork (.go 4 (.gfork (.auto) (.go 1 (.need (.val (.agg #[.int .i64 (List.getD (mkT L cut) x7 zeroV).rq,.int .i64 (List.getD (mkT L cut) x7 zeroV).br,.int .i64 (List.getD (mkT L cut) x7 zeroV).tk,.int .i64 (List.getD (mkT L cut) x7 zeroV).bg,.int .i64 (List.getD (mkT L cut) x7 zeroV).nd]) (.go 1 (.need (.val (.agg #[.int .i64 (List.getD (mkH L 20) x7 zeroV).rq,.int .i64 (List.getD (mkH L 20) x7 zeroV).br,.int .i64 (List.getD (mkH L 20) x7 zeroV).tk,.int .i64 (List.getD (mkH L 20) x7 zeroV).bg,.int .i64 (List.getD (mkH L 20) x7 zeroV).nd]) (.go 1 (.fork (.auto) (.go 1 (.slot 88 (.int .i64 (((x7 : Nat) : Int) + 1)) (.go 0 (.again [])))))))))))))) (.ans [] (.bool true) [] (.auto)))))))))))) (.go 1 (.ans [] (.bool true) [] (.auto))))))))))))))))))))))))))))))
 (fun v _ _ => v = sp) = RLaterLaw sp L cut:=by kernel_rfl
end
end Go.Proofs.YthdekmpkioikdaaGreat
/- Request: RequestLater. No condition. -/
namespace Go.Proofs.YthdekmpkioikdaaGreat
open Go Go.K
set_option maxRecDepth 100000
set_option linter.unusedVariables false
set_option linter.unusedSimpArgs false
noncomputable section
attribute [local irreducible] vF
theorem svEq {a b : Sv} (h : a = b) : (!((a.rq == b.rq) && ((a.br == b.br) && ((a.tk == b.tk) && ((a.bg == b.bg) && ((a.nd == b.nd) && true)))))) = false := by
 subst h; simp
theorem deepI_rn (σ : Nat -> Option Nat) (L : List Int) (vs : List Value) (h : vs.all (belowC 0) = true) : (Value.iface (L.length + 1) (.agg ⟨L.flatMap intC⟩) :: vs).map (rn σ 5) = Value.iface (L.length + 1) (.agg ⟨L.flatMap intC⟩) :: vs :=
 (rnCl (σ := σ) (d := 2) (l := Value.iface (L.length + 1) (.agg ⟨L.flatMap intC⟩) :: vs) (by
  show ((L.flatMap intC).all (belowD 0) && vs.all (belowC 0)) = true
  rw [all_belowD, h]; rfl)).1
set_option maxHeartbeats 4000000 in
theorem kLaterLaw (L : List Int) (cut : Int) (H : Heap) : KCall prog 4 [.iface (L.length + 1) (.agg ⟨L.flatMap intC⟩), .int .i64 cut] H [] (Is (.bool true) H) := by
 refine valK 40 (fun σ => deepI_rn σ L [.int .i64 cut] rfl) rfl (Eq.mpr (ELaterLaw (.bool true) L cut) ?_) H
 unfold RLaterLaw
 have hm : (0 : Int) <= 20 /\ (20 : Int) <= 30 := by omega
 have lq := mkQ_len L hm.1
 have lh := mkH_len L hm
 obtain ⟨oq, sq⟩ := mkQ_ok L hm
 have hc : 0 <= mkC L cut /\ mkC L cut <= ((mkQ L 20).length : Int) := by
  have a := Int.emod_nonneg cut (b := ((mkQ L 20).length : Int) + 1) (by omega)
  have b := Int.emod_lt_of_pos cut (b := ((mkQ L 20).length : Int) + 1) (by omega)
  unfold mkC; omega
 have hn : Int.toNat (mkC L cut) <= (mkQ L 20).length := by omega
 have lt : (mkT L cut).length = Int.toNat (mkC L cut) := mkT_len L hm hn
 refine ⟨⟨rfl, trivial⟩, fun H' hL hd => kShipsM L hL hd.1, ?_⟩
 refine ⟨⟨rfl, rfl, rfl, trivial⟩, fun H' hL hd => KCall.wkA (kAsksM L hm hL hd.1 hd.2.1 hd.2.2.1 (by decide) (by decide)) (wks_cons (wk_refl _) (wks_cons wk_fleet (wks_cons (wk_refl _) wks_nil))), ?_⟩
 refine ⟨⟨rfl, trivial⟩, fun H' hL hd => kRuleM L hm hd.1, ?_⟩
 refine ⟨vI64 (by omega), _, rfl, trivial, fun H' _ _ => kPick cut _ (by omega) (by omega) H', ?_⟩
 refine ⟨⟨rfl, rfl, rfl, trivial⟩, fun H' hL hd => KCall.wkA (kRunM L hm hL hd.1 hd.2.1 hd.2.2.1) (wks_cons wk_fleet (wks_cons (wk_refl _) (wks_cons wk_QR wks_nil))), ?_⟩
 refine ⟨⟨⟨.inr (.inr rfl), hn⟩, ⟨hc.1, hc.2⟩, Nat.zero_le _⟩, rfl, ?_⟩
 refine ⟨⟨rfl, rfl, rfl, trivial⟩, fun H' hL hd => KCall.wkA (kRunMT L hm _ hn hL hd.1 hd.2.1 hd.2.2.1) (wks_cons wk_fleet (wks_cons (wk_refl _) (wks_cons (wk_refl _) wks_nil))), ?_⟩
 refine forkF (by rw [lh]; exact bne_self_eq_false _) (forkF (by rw [lt, Int.toNat_of_nonneg hc.1]; exact bne_self_eq_false _) (forkB (fun _ => ⟨trivial, fun H' _ _ => kAwake H', rfl⟩) (fun he => ?_)))
 have hlt : Int.toNat (mkC L cut) < (mkQ L 20).length := by
  have := beq_eq_false_iff_ne.1 he
  omega
 have la := fun {i : Nat} (hi : i < (mkH L 20).length) (ht : (svAt (mkH L 20) i).tk < ((mkQ L 20).getD (Int.toNat (mkC L cut)) zeroQ).at_) => later_law (p := mkP L 20) (mkF_ok L) oq hlt (fun j h1 h2 => sq _ j h1 h2) (i := i) hi ht
 refine ⟨rfl, ⟨Nat.zero_le _, fun j hj => absurd hj (Nat.not_lt_zero _)⟩, ?_, fun _ => rfl, ?_⟩
 ·repeat' first | exact inL_b _ _ | exact plainIL _ _ | exact plainBL _ _ | exact plainRQ _ _ | exact plainSV _ _ | exact plainBR _ _ | exact digO _ _ _ | exact wk_QR | exact trivial | exact rfl | exact wk_refl _ | refine wkO_cells ?_ | refine wks_cons ?_ ?_ | exact wks_nil | exact wk_nil _ _ _ (.inl rfl) | (exact wk_Q (by omega)) | refine wk_tupL ?_ | refine wk_aggL ?_ | refine joinMax ?_ ?_ ?_ | refine joinMin ?_ ?_ ?_ | refine toMax ?_ | refine toMin ?_ | refine ⟨rfl, ?_⟩ | refine ⟨trivial, ?_⟩ | (refine forkD (fun h => ?_) (fun h => ?_)) | (refine forkNe (fun h => ?_) (fun h => ?_)) | (refine forkEq (fun h => ?_) (fun h => ?_)) | refine forkNot ?_ | (refine ⟨vI64 (by omega), ?_⟩) | (refine And.intro (by omega) ?_) | apply And.intro | (exact iEq (by omega)) | (exact vI64 (by omega))
 intro x ⟨hx, hj⟩
 refine forkD (fun hx2 => ?_) (fun _ => ⟨trivial, fun H' _ _ => kAwake H', rfl⟩)
 have hx2' : x < (mkH L 20).length := by omega
 refine ⟨by omega, cell_at (n := 5) (d := zeroV) (c := 2) svC_len hx2' (by omega) rfl, ⟨hc.1, by omega⟩, atAt hlt (by omega), forkD (fun ht => ?_) (fun _ => ⟨trivial, fun H' _ _ => kAwake H', rfl⟩)⟩
 obtain ⟨g1, g2⟩ := la (i := x) (by omega) ht
 have g1 : x < (mkT L cut).length := g1
 refine forkD (fun q => absurd q (by omega)) (fun _ => ⟨by omega, partV g1 (by omega), by omega, partV hx2' (by omega), forkF (svEq g2) ?_⟩)
 refine ⟨vI64 (by omega), x + 1, ⟨by omega, fun j hj2 => ?_⟩, by omega, ?_⟩
 ·rcases Nat.lt_or_ge j x with q | q
  ·exact hj j q
  ·rw [show j = x by omega]; exact ht
 ·repeat' first | exact inL_b _ _ | exact plainIL _ _ | exact plainBL _ _ | exact plainRQ _ _ | exact plainSV _ _ | exact plainBR _ _ | exact digO _ _ _ | exact wk_QR | exact trivial | exact rfl | exact wk_refl _ | refine wkO_cells ?_ | refine wks_cons ?_ ?_ | exact wks_nil | exact wk_nil _ _ _ (.inl rfl) | (exact wk_Q (by omega)) | refine wk_tupL ?_ | refine wk_aggL ?_ | refine joinMax ?_ ?_ ?_ | refine joinMin ?_ ?_ ?_ | refine toMax ?_ | refine toMin ?_ | refine ⟨rfl, ?_⟩ | refine ⟨trivial, ?_⟩ | (refine forkD (fun h => ?_) (fun h => ?_)) | (refine forkNe (fun h => ?_) (fun h => ?_)) | (refine forkEq (fun h => ?_) (fun h => ?_)) | refine forkNot ?_ | (refine ⟨vI64 (by omega), ?_⟩) | (refine And.intro (by omega) ?_) | apply And.intro | (exact iEq (by omega)) | (exact vI64 (by omega))
end
end Go.Proofs.YthdekmpkioikdaaGreat
/- How laws' arguments are read. No condition. -/
namespace Go.Proofs.YthdekmpkioikdaaGreat
set_option linter.unusedSimpArgs false
open Go Go.K Go.ChangeShapes Go.WideShapes Go.ChangeAt Go.RowKit
set_option maxRecDepth 100000
set_option linter.unusedVariables false
noncomputable section
theorem own : ownKnob Tryz.prog.godebug = none := by kernel_rfl
theorem sized : slicesSized Tryz.prog = true := by kernel_rfl
abbrev known (t : TypeId) : Prop := t < Tryz.prog.types.size
theorem kids : Kids Tryz.prog known := kids_rows (by kernel_rfl) (by kernel_rfl)
end
end Go.Proofs.YthdekmpkioikdaaGreat
/- How laws' numbers are read. No condition. -/
namespace Go.Proofs.YthdekmpkioikdaaGreat
set_option linter.unusedSimpArgs false
open Go Go.K Go.ChangeShapes Go.WideShapes Go.ChangeAt Go.RowKit
set_option maxRecDepth 100000
set_option linter.unusedVariables false
noncomputable section
theorem goodAD_cons {n : Nat} {t : TypeId} {ts : List TypeId} {vs : List Value} (h : GoodAD Tryz.prog n (t :: ts) vs) : ∃ v vs', vs = v :: vs' /\ GoodVD Tryz.prog n t v /\ GoodAD Tryz.prog n ts vs' := by
 cases vs with
 | nil => exact h.elim
 | cons v vs => exact ⟨v, vs, rfl, h.1, h.2⟩
theorem goodAD_nil {n : Nat} {vs : List Value} (h : GoodAD Tryz.prog n [] vs) : vs = [] := by
 cases vs with
 | nil => rfl
 | cons v vs => exact h.elim
theorem goodD_i64 {n : Nat} {c : List Value} (h : GoodD Tryz.prog (n + 1) 3 c) : ∃ x : Int, c = [.int .i64 x] /\ inI x := by
 unfold GoodD at h
 rw [show Tryz.prog.underlying 3 = some (.int .i64) by kernel_rfl] at h
 obtain ⟨x, rfl, h1, h2⟩ := h
 refine ⟨x, rfl, ?_⟩
 simp only [IntKind.min, IntKind.max, IntKind.signed, IntKind.bits] at h1 h2
 unfold inI
 simp at h1 h2
 omega
theorem goodVD_int {v : Value} (h : GoodVD Tryz.prog 6 3 v) : ∃ x : Int, v = .int .i64 x /\ inI x := by
 unfold GoodVD at h
 rw [show Tryz.prog.underlying 3 = some (.int .i64) by kernel_rfl] at h
 obtain ⟨x, h1, h2⟩ := goodD_i64 h
 exact ⟨x, by simpa using h1, h2⟩
theorem goodVD_ints {v : Value} (h : GoodVD Tryz.prog 6 23 v) : ∃ L : List Int, v = .iface (L.length + 1) (.agg ⟨L.flatMap intC⟩) /\ L.length <= maxLen /\ ∀ x ∈ L, inI x := by
 unfold GoodVD at h
 rw [show Tryz.prog.underlying 23 = some (.slice 3) by kernel_rfl] at h
 unfold GoodD at h
 rw [show Tryz.prog.underlying 23 = some (.slice 3) by kernel_rfl] at h
 obtain ⟨len, ds, h1, h2, h3, h4⟩ := h
 obtain ⟨xs, e1, e2, e3⟩ := goodL_list (f := intC) (q := inI) (fun c hc => goodD_i64 (n := 4) hc) len ds h4
 subst e1 e2
 exact ⟨xs, by simpa using h1, h3, e3⟩
end
end Go.Proofs.YthdekmpkioikdaaGreat
