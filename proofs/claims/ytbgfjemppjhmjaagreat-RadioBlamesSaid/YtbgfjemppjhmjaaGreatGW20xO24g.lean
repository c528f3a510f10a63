/- Radio: distances over the sea. No condition. -/
import Derived.Test.YtbgfjemppjhmjaaGreatGP3xP7
import Derived.Test.YtbgfjemppjhmjaaGreatGW2xO3g
namespace Go.Proofs.YtbgfjemppjhmjaaGreat
set_option linter.unusedSimpArgs false
open Go Go.K
set_option linter.unusedVariables false
noncomputable section
def farI : Int := 1073741824
def errBas (w h : Int) (n : Nat) : Int := if (1 <= w /\ w <= 64) /\ (1 <= h /\ h <= 64) /\ w * h <= 1024 then (if (n : Int) = w * h then 0 else 1) else 6
structure BasOk (w h : Int) (n : Nat) : Prop where
 w1 : 1 <= w /\ w <= 64
 h1 : 1 <= h /\ h <= 64
 p1 : w * h <= 1024
 n1 : (n : Int) = w * h
theorem basOk {w h : Int} {n : Nat} (e : errBas w h n = 0) : BasOk w h n := by
 unfold errBas at e
 split at e
 ·rename_i q
  split at e
  ·rename_i q2; exact ⟨q.1, q.2.1, q.2.2, q2⟩
  ·cases e
 ·cases e
def seaB (a : List Bool) (c : Int) : Bool := decide (0 <= c) && decide (c <= ((a.length : Nat) : Int) - 1) && !a.getD (Int.toNat c) false
def bdx : Nat -> Int := fun j => [0, -1, 1, 0].getD j 0
def bdy : Nat -> Int := fun j => [-1, 0, 0, 1].getD j 0
def nbU (w i : Int) (j : Nat) : Int := Int.tmod i w + bdx j
def nbV (w i : Int) (j : Nat) : Int := Int.tdiv i w + bdy j
def nbT (w i : Int) (j : Nat) : Int := nbV w i j * w + nbU w i j
def nbOk (w h : Int) (a : List Bool) (i : Int) (j : Nat) : Prop := ((0 <= nbU w i j /\ nbU w i j <= w - 1) /\ 0 <= nbV w i j /\ nbV w i j <= h - 1) /\ a.getD (Int.toNat (nbT w i j)) false = false
theorem bd_bd {j : Nat} (hj : j < 4) : (-1 <= bdx j /\ bdx j <= 1) /\ -1 <= bdy j /\ bdy j <= 1 := by
 match j, hj with
 | 0, _ => decide
 | 1, _ => decide
 | 2, _ => decide
 | 3, _ => decide
theorem divm {w h : Int} {n : Nat} (b : BasOk w h n) {i : Int} (hi : 0 <= i /\ i < (n : Int)) : (0 <= Int.tmod i w /\ Int.tmod i w <= w - 1) /\ (0 <= Int.tdiv i w /\ Int.tdiv i w <= h - 1) /\ Int.tdiv i w * w + Int.tmod i w = i := by
 have hw := b.w1
 have h1 := Int.mul_tdiv_add_tmod i w
 rw [Int.tmod_eq_emod_of_nonneg hi.1, Int.tdiv_eq_ediv_of_nonneg hi.1] at *
 have h2 := Int.emod_nonneg i (b := w) (by omega)
 have h3 := Int.emod_lt_of_pos i (b := w) (by omega)
 have h4 := Int.ediv_nonneg hi.1 (by omega : 0 <= w)
 have h5 : i / w < h := by
  rw [Int.ediv_lt_iff_lt_mul (by omega)]
  rw [Int.mul_comm, <- b.n1]; exact hi.2
 exact ⟨by omega, by omega, by rw [Int.mul_comm]; exact h1⟩
theorem nb_in {w h : Int} {n : Nat} (b : BasOk w h n) {u v : Int} (hu : 0 <= u /\ u <= w - 1) (hv : 0 <= v /\ v <= h - 1) : 0 <= v * w + u /\ v * w + u < (n : Int) := by
 have hw := b.w1
 have h1 : 0 <= v * w := Int.mul_nonneg hv.1 (by omega)
 have h2 : v * w <= (h - 1) * w := Int.mul_le_mul_of_nonneg_right hv.2 (by omega)
 have h3 : (h - 1) * w = w * h - w := by rw [Int.sub_mul, Int.mul_comm h w]; omega
 have := b.n1
 omega
inductive Wy (w h : Int) (a : List Bool) (f : Int) : Nat -> Int -> Prop
 | base : Wy w h a f 0 f
 | step {n : Nat} {i : Int} (j : Nat) (hj : j < 4) (hw : Wy w h a f n i) (hb : nbOk w h a i j) : Wy w h a f (n + 1) (nbT w i j)
def Lst (w h : Int) (a : List Bool) (f c : Int) (n : Nat) : Prop := Wy w h a f n c /\ ∀ m, Wy w h a f m c -> n <= m
open Classical in
def dstI (w h : Int) (a : List Bool) (f c : Int) : Int := if q : ∃ n, Lst w h a f c n then ((Classical.choose q : Nat) : Int) else farI
theorem dst_is {w h : Int} {a : List Bool} {f c : Int} {n : Nat} (q : Lst w h a f c n) : dstI w h a f c = n := by
 have e : ∃ n, Lst w h a f c n := ⟨n, q⟩
 unfold dstI
 rw [dif_pos e]
 have := Classical.choose_spec e
 have h1 := this.2 n q.1
 have h2 := q.2 _ this.1
 omega
theorem dst_far {w h : Int} {a : List Bool} {f c : Int} (q : ∀ n, ¬ Wy w h a f n c) : dstI w h a f c = farI := by
 unfold dstI
 rw [dif_neg]
 rintro ⟨n, hn⟩
 exact q n hn.1
def dstL (w h : Int) (a : List Bool) (f : Int) : List Int := tabP (fun c : Nat => dstI w h a f (c : Int)) a.length
def gO (O : List Int) (i : Int) : Int := O.getD (Int.toNat i) 0
def fnd (O : List Int) : Nat := O.countP fun v => decide (v ≠ farI)
def unf (O : List Int) : Nat := O.countP fun v => decide (v = farI)
def measD (Q : List Int) (O : List Int) : Nat := 2 * unf O + Q.length
theorem fnd_unf (O : List Int) : fnd O + unf O = O.length := by
 unfold fnd unf
 have h := List.length_eq_countP_add_countP (p := fun v : Int => decide (v = farI)) (l := O)
 have e : (fun v : Int => decide (v ≠ farI)) = fun v => decide ¬ (decide (v = farI) = true) := by funext v; simp
 rw [e]; omega
theorem countP_set (p : Int -> Bool) (O : List Int) (k : Nat) (v : Int) (hk : k < O.length) : (O.set k v).countP p + (if p (O.getD k 0) = true then 1 else 0) = O.countP p + (if p v = true then 1 else 0) := by
 induction O generalizing k with
 | nil => cases hk
 | cons a O ih =>
  cases k with
  | zero => simp [List.countP_cons]; omega
  | succ k =>
   have := ih k (by simpa using hk)
   simp only [List.set_cons_succ, List.countP_cons, List.getD_cons_succ]
   omega
theorem set_cnt {O : List Int} {k : Nat} {v : Int} (hk : k < O.length) (h0 : O.getD k 0 = farI) (hv : v ≠ farI) : fnd (O.set k v) = fnd O + 1 /\ unf (O.set k v) + 1 = unf O := by
 have h1 := countP_set (fun v => decide (v ≠ farI)) O k v hk
 have h2 := countP_set (fun v => decide (v = farI)) O k v hk
 simp only [h0, ne_eq, not_true_eq_false, decide_false, Bool.false_eq_true, if_false, hv, not_false_eq_true, decide_true, if_true] at h1 h2
 unfold fnd unf
 simp only [ne_eq] at h1 h2 ⊢
 omega
theorem gO_set {O : List Int} {k c : Nat} {v : Int} (hk : k < O.length) : (O.set k v).getD c 0 = if c = k then v else O.getD c 0 := by
 rw [List.getD_eq_getElem?_getD, List.getElem?_set]
 by_cases e : k = c
 ·rw [if_pos e, if_pos hk, if_pos e.symm]; rfl
 ·rw [if_neg e, if_neg fun q => e q.symm, List.getD_eq_getElem?_getD]
structure BfD (w h : Int) (a : List Bool) (f : Int) (Q O : List Int) : Prop where
 len : O.length = a.length
 f0 : gO O f = 0
 bd : ∀ c : Nat, c < a.length -> O.getD c 0 ≠ farI -> 0 <= O.getD c 0 /\ Wy w h a f (Int.toNat (O.getD c 0)) (c : Int)
 cnt : ∀ c : Nat, c < a.length -> O.getD c 0 ≠ farI -> O.getD c 0 < (fnd O : Int)
 q : ∀ i ∈ Q, (0 <= i /\ i < (a.length : Int)) /\ gO O i ≠ farI
 srt : Q.Pairwise fun i k => gO O i <= gO O k
 top : ∀ i, Q.head? = some i -> ∀ c : Nat, c < a.length -> O.getD c 0 ≠ farI -> O.getD c 0 <= gO O i + 1
 done : ∀ c : Nat, c < a.length -> O.getD c 0 ≠ farI -> (c : Int) ∈ Q ∨ ∀ j, j < 4 -> nbOk w h a (c : Int) j -> gO O (nbT w (c : Int) j) ≠ farI /\ gO O (nbT w (c : Int) j) <= O.getD c 0 + 1
 sz : Q.length + unf O <= a.length
structure BfJ (w h : Int) (a : List Bool) (f i : Int) (x : Nat) (Q O : List Int) : Prop where
 len : O.length = a.length
 f0 : gO O f = 0
 bd : ∀ c : Nat, c < a.length -> O.getD c 0 ≠ farI -> 0 <= O.getD c 0 /\ Wy w h a f (Int.toNat (O.getD c 0)) (c : Int)
 cnt : ∀ c : Nat, c < a.length -> O.getD c 0 ≠ farI -> O.getD c 0 < (fnd O : Int)
 ii : (0 <= i /\ i < (a.length : Int)) /\ gO O i ≠ farI
 q : ∀ k ∈ Q, (0 <= k /\ k < (a.length : Int)) /\ gO O k ≠ farI
 srt : Q.Pairwise fun i k => gO O i <= gO O k
 low : ∀ k ∈ Q, gO O i <= gO O k
 top : ∀ c : Nat, c < a.length -> O.getD c 0 ≠ farI -> O.getD c 0 <= gO O i + 1
 seen : ∀ j, j < x -> nbOk w h a i j -> gO O (nbT w i j) ≠ farI /\ gO O (nbT w i j) <= gO O i + 1
 done : ∀ c : Nat, c < a.length -> O.getD c 0 ≠ farI -> (c : Int) = i ∨ (c : Int) ∈ Q ∨ ∀ j, j < 4 -> nbOk w h a (c : Int) j -> gO O (nbT w (c : Int) j) ≠ farI /\ gO O (nbT w (c : Int) j) <= O.getD c 0 + 1
 sz : Q.length + unf O < a.length
theorem BfD.pop {w h : Int} {a : List Bool} {f i : Int} {Q O : List Int} (b : BfD w h a f (i :: Q) O) : BfJ w h a f i 0 Q O := by
 have hs := List.pairwise_cons.1 b.srt
 refine ⟨b.len, b.f0, b.bd, b.cnt, b.q i (List.mem_cons_self ..), fun k hk => b.q k (List.mem_cons_of_mem _ hk), hs.2, hs.1, b.top i rfl, fun j hj => absurd hj (Nat.not_lt_zero _), fun c hc hf => ?_, ?_⟩
 ·rcases b.done c hc hf with q | q
  ·rcases List.mem_cons.1 q with e | e
   ·exact .inl e
   ·exact .inr (.inl e)
  ·exact .inr (.inr q)
 ·have := b.sz; rw [List.length_cons] at this; omega
theorem BfJ.skip {w h : Int} {a : List Bool} {f i : Int} {x : Nat} {Q O : List Int} (b : BfJ w h a f i x Q O) (hs : nbOk w h a i x -> gO O (nbT w i x) ≠ farI) (hin : nbOk w h a i x -> 0 <= nbT w i x /\ nbT w i x < (a.length : Int)) : BfJ w h a f i (x + 1) Q O := by
 refine ⟨b.len, b.f0, b.bd, b.cnt, b.ii, b.q, b.srt, b.low, b.top, fun j hj hb => ?_, b.done, b.sz⟩
 by_cases e : j = x
 ·subst e
  have h1 := hin hb
  exact ⟨hs hb, b.top _ (by omega) (hs hb)⟩
 ·exact b.seen j (by omega) hb
theorem BfJ.add {w h : Int} {a : List Bool} {f i : Int} {x : Nat} {Q O : List Int} (b : BfJ w h a f i x Q O) (hx : x < 4) (hb : nbOk w h a i x) (hin : 0 <= nbT w i x /\ nbT w i x < (a.length : Int)) (hn : gO O (nbT w i x) = farI) (hsm : (a.length : Int) <= 1024) : BfJ w h a f i (x + 1) (Q ++ [nbT w i x]) (O.set (Int.toNat (nbT w i x)) (gO O i + 1)) := by
 have hi := b.ii
 have hd := b.bd (Int.toNat i) (by omega) hi.2
 have hc := b.cnt (Int.toNat i) (by omega) hi.2
 have hfu := fnd_unf O
 have hlen := b.len
 generalize ht : Int.toNat (nbT w i x) = t at *
 have htl : t < O.length := by omega
 have hO0 : O.getD t 0 = farI := by rw [<- ht]; exact hn
 have hv : gO O i + 1 ≠ farI := by unfold gO at *; unfold farI at *; omega
 obtain ⟨c1, c2⟩ := set_cnt htl hO0 hv
 have hg : ∀ c : Nat, (O.set t (gO O i + 1)).getD c 0 = if c = t then gO O i + 1 else O.getD c 0 := fun c => gO_set htl
 have hgI : ∀ k : Int, gO O k ≠ farI -> gO (O.set t (gO O i + 1)) k = gO O k := fun k hk => by
  show (O.set t (gO O i + 1)).getD (Int.toNat k) 0 = _
  rw [hg, if_neg (fun e => hk (by unfold gO; rw [e]; exact hO0))]; rfl
 have hgi := hgI i hi.2
 refine ⟨by rw [List.length_set]; exact b.len, by rw [hgI f (by rw [b.f0]; decide)]; exact b.f0, fun c hcl hcf => ?_, fun c hcl hcf => ?_, ⟨hi.1, by rw [hgi]; exact hi.2⟩, fun k hk => ?_, ?_, fun k hk => ?_, fun c hcl hcf => ?_, fun j hj hbj => ?_, fun c hcl hcf => ?_, ?_⟩
 ·rw [hg] at hcf ⊢
  by_cases e : c = t
  ·rw [if_pos e]
   refine ⟨by unfold gO; omega, ?_⟩
   have hw := Wy.step x hx hd.2 (by rw [show ((Int.toNat i : Nat) : Int) = i by omega]; exact hb)
   rw [show ((Int.toNat i : Nat) : Int) = i by omega] at hw
   rw [e, show ((t : Nat) : Int) = nbT w i x by omega, show Int.toNat (gO O i + 1) = Int.toNat (O.getD (Int.toNat i) 0) + 1 by unfold gO; omega]
   exact hw
  ·rw [if_neg e] at hcf ⊢; exact b.bd c hcl hcf
 ·rw [hg] at hcf ⊢
  rw [c1]
  by_cases e : c = t
  ·rw [if_pos e]; unfold gO; omega
  ·rw [if_neg e] at hcf ⊢; have := b.cnt c hcl hcf; omega
 ·rcases List.mem_append.1 hk with e | e
  ·have := b.q k e
   exact ⟨this.1, by rw [hgI k this.2]; exact this.2⟩
  ·rw [List.mem_singleton.1 e]
   refine ⟨hin, ?_⟩
   show (O.set t (gO O i + 1)).getD (Int.toNat (nbT w i x)) 0 ≠ farI
   rw [ht, hg, if_pos rfl]; exact hv
 ·refine List.pairwise_append.2 ⟨?_, List.pairwise_singleton _ _, fun k hk q hq => ?_⟩
  ·refine List.Pairwise.imp_of_mem (fun {u v} hu hv h => ?_) b.srt
   rw [hgI u (b.q u hu).2, hgI v (b.q v hv).2]; exact h
  ·rw [List.mem_singleton.1 hq, hgI k (b.q k hk).2]
   show _ <= (O.set t (gO O i + 1)).getD (Int.toNat (nbT w i x)) 0
   rw [ht, hg, if_pos rfl]
   have := b.q k hk
   exact b.top (Int.toNat k) (by omega) this.2
 ·rw [hgi]
  rcases List.mem_append.1 hk with e | e
  ·rw [hgI k (b.q k e).2]; exact b.low k e
  ·rw [List.mem_singleton.1 e]
   show _ <= (O.set t (gO O i + 1)).getD (Int.toNat (nbT w i x)) 0
   rw [ht, hg, if_pos rfl]; omega
 ·rw [hgi, hg] at *
  by_cases e : c = t
  ·rw [if_pos e]; omega
  ·rw [if_neg e] at hcf ⊢; exact b.top c hcl hcf
 ·rw [hgi]
  by_cases e : j = x
  ·subst e
   have : gO (O.set t (gO O i + 1)) (nbT w i j) = gO O i + 1 := by
    show (O.set t (gO O i + 1)).getD (Int.toNat (nbT w i j)) 0 = _
    rw [ht, hg, if_pos rfl]
   rw [this]; exact ⟨hv, Int.le_refl _⟩
  ·have := b.seen j (by omega) hbj
   rw [hgI _ this.1]; exact this
 ·rw [hg] at hcf
  by_cases e : c = t
  ·exact .inr (.inl (List.mem_append_right _ (by rw [List.mem_singleton]; omega)))
  ·rw [if_neg e] at hcf
   rcases b.done c hcl hcf with q | q | q
   ·exact .inl q
   ·exact .inr (.inl (List.mem_append_left _ q))
   ·refine .inr (.inr fun j hj hbj => ?_)
    have := q j hj hbj
    rw [hgI _ this.1, hg, if_neg e]; exact this
 ·have := b.sz
  rw [List.length_append, List.length_singleton]; omega
theorem BfJ.fin {w h : Int} {a : List Bool} {f i : Int} {Q O : List Int} (b : BfJ w h a f i 4 Q O) : BfD w h a f Q O := by
 refine ⟨b.len, b.f0, b.bd, b.cnt, b.q, b.srt, fun k hk c hc hf => ?_, fun c hc hf => ?_, by have := b.sz; omega⟩
 ·have h1 := b.top c hc hf
  have h2 := b.low k (by
   cases Q with
   | nil => cases hk
   | cons q Q => cases hk; exact List.mem_cons_self ..)
  omega
 ·rcases b.done c hc hf with q | q | q
  ·refine .inr fun j hj hbj => ?_
   rw [q] at hbj ⊢
   have := b.seen j hj hbj
   rw [show O.getD c 0 = gO O i from by unfold gO; rw [<- q]; rfl]
   exact this
  ·exact .inl q
  ·exact .inr q
theorem BfD.near {w h : Int} {a : List Bool} {f : Int} {O : List Int} (b : BfD w h a f [] O) (hb : BasOk w h a.length) (hf : 0 <= f /\ f < (a.length : Int)) {n : Nat} {c : Int} (hw : Wy w h a f n c) : (0 <= c /\ c < (a.length : Int)) /\ gO O c ≠ farI /\ gO O c <= (n : Int) := by
 induction hw with
 | base => exact ⟨hf, by rw [b.f0]; decide, by rw [b.f0]; exact Int.le_refl _⟩
 | @step n i j hj hw hbj ih =>
  obtain ⟨h1, h2, h3⟩ := ih
  have hin := nb_in hb hbj.1.1 hbj.1.2
  have e : ((Int.toNat i : Nat) : Int) = i := by omega
  rcases b.done (Int.toNat i) (by omega) h2 with q | q
  ·cases q
  ·have := q j hj (by rw [e]; exact hbj)
   rw [e] at this
   refine ⟨hin, this.1, ?_⟩
   have h4 : O.getD (Int.toNat i) 0 = gO O i := rfl
   rw [h4] at this
   omega
theorem BfD.eq {w h : Int} {a : List Bool} {f : Int} {O : List Int} (b : BfD w h a f [] O) (hb : BasOk w h a.length) (hf : 0 <= f /\ f < (a.length : Int)) : O = dstL w h a f := by
 refine List.ext_getElem? fun c => ?_
 unfold dstL tabP
 rw [List.getElem?_map]
 by_cases hc : c < a.length
 ·rw [List.getElem?_range hc, List.getElem?_eq_getElem (by rw [b.len]; exact hc)]
  have hg : O.getD c 0 = O[c]'(by rw [b.len]; exact hc) := by simp [List.getD_eq_getElem?_getD, b.len, hc]
  show some _ = some (dstI w h a f (c : Int))
  rw [<- hg]
  congr 1
  by_cases e : O.getD c 0 = farI
  ·rw [e, dst_far]
   intro n hn
   exact (b.near hb hf hn).2.1 e
  ·have h1 := b.bd c hc e
   rw [dst_is (n := Int.toNat (O.getD c 0)) ⟨h1.2, fun m hm => ?_⟩]
   ·omega
   ·have := (b.near hb hf hm).2.2
    have h4 : gO O (c : Int) = O.getD c 0 := rfl
    rw [h4] at this; omega
 ·rw [List.getElem?_eq_none (by rw [b.len]; omega), List.getElem?_eq_none (by rw [List.length_range]; omega)]; rfl
def fillF (n x : Nat) : List Int := List.replicate x farI ++ List.replicate (n - x) 0
def begF (n : Nat) (f : Int) : List Int := (List.replicate n farI).set (Int.toNat f) 0
theorem begF_ok {w h : Int} {a : List Bool} {f : Int} (hf : 0 <= f /\ f < (a.length : Int)) : BfD w h a f [f] (begF a.length f) := by
 generalize ht : Int.toNat f = t
 have htl : t < (List.replicate a.length farI).length := by rw [List.length_replicate]; omega
 have hg : ∀ c : Nat, c < a.length -> (begF a.length f).getD c 0 = if c = t then 0 else farI := fun c hc => by
  unfold begF
  rw [ht, gO_set htl]
  congr 1
  simp [List.getD_eq_getElem?_getD, List.getElem?_replicate, hc]
 have h0 : (List.replicate a.length farI).getD t 0 = farI := by
  rw [List.length_replicate] at htl
  simp [List.getD_eq_getElem?_getD, List.getElem?_replicate, htl]
 have hcnt := set_cnt (v := 0) htl h0 (by decide)
 have hu : unf (List.replicate a.length farI) = a.length := by unfold unf; rw [List.countP_replicate]; simp
 have hf0 : fnd (List.replicate a.length farI) = 0 := by have := fnd_unf (List.replicate a.length farI); rw [List.length_replicate, hu] at this; omega
 have hone : ∀ c : Nat, c < a.length -> (begF a.length f).getD c 0 ≠ farI -> c = t := fun c hc hcf => by
  rw [hg c hc] at hcf
  by_cases e : c = t
  ·exact e
  ·rw [if_neg e] at hcf; exact absurd rfl hcf
 have htn : t < a.length := by rwa [List.length_replicate] at htl
 have e0 : gO (begF a.length f) f = 0 := by
  show (begF a.length f).getD (Int.toNat f) 0 = 0
  rw [ht, hg t htn, if_pos rfl]
 refine ⟨by unfold begF; rw [List.length_set, List.length_replicate], e0, fun c hc hcf => ?_, fun c hc hcf => ?_, fun i hi => ?_, List.pairwise_singleton _ _, fun i hi c hc hcf => ?_, fun c hc hcf => .inl ?_, ?_⟩
 ·rw [hone c hc hcf, hg t htn, if_pos rfl]
  refine ⟨Int.le_refl _, ?_⟩
  rw [show ((t : Nat) : Int) = f by omega]; exact Wy.base
 ·rw [hone c hc hcf, hg t htn, if_pos rfl]
  unfold begF; rw [ht, hcnt.1]; omega
 ·rw [List.mem_singleton.1 hi]
  exact ⟨hf, by rw [e0]; decide⟩
 ·cases hi
  rw [hone c hc hcf, hg t htn, if_pos rfl, e0]; decide
 ·rw [hone c hc hcf, List.mem_singleton]; omega
 ·unfold begF; rw [ht]; rw [hu] at hcnt; simp only [List.length_cons, List.length_nil]; omega
theorem fillF_set {n x : Nat} (hx : x < n) : (fillF n x).set x farI = fillF n (x + 1) := by
 unfold fillF
 rw [List.set_append_right _ _ (by rw [List.length_replicate]; exact Nat.le_refl _), List.length_replicate, Nat.sub_self, show n - x = (n - (x + 1)) + 1 by omega, List.replicate_succ, List.set_cons_zero, rep_snoc, List.append_assoc]; rfl
end
end Go.Proofs.YtbgfjemppjhmjaaGreat
/- Radio: tracks, as plain functions. No condition. -/
namespace Go.Proofs.YtbgfjemppjhmjaaGreat
set_option linter.unusedSimpArgs false
open Go Go.K
set_option linter.unusedVariables false
noncomputable section
def okS (a : List Bool) (s : Int × Int) : Bool := (decide (0 <= s.1) && decide (s.1 <= 100000)) && seaB a s.2
def errT (w h : Int) (a : List Bool) (p : Int) (ss : List (Int × Int)) : Int :=
 if errBas w h a.length = 0 then (if 1 <= p /\ p <= 1000 then (if ss.length <= 20 then (if ss.all (okS a) = true then 0 else 110) else 2) else 6) else errBas w h a.length
def rowT (w h : Int) (a : List Bool) (ss : List (Int × Int)) (x : Nat) : List (List Int) := tabP (fun i : Nat => dstL w h a (ss.getD i zeroSp).2) x
def mxI (x y : Int) : Int := if y > x then y else x
def canB (p : Int) (ss : List (Int × Int)) (rr : List (List Int)) (i : Nat) (c m : Int) : Bool :=
 decide ((rr.getD i []).getD (Int.toNat c) 0 < farI) && decide ((rr.getD i []).getD (Int.toNat c) 0 * p <= mxI (m - (ss.getD i zeroSp).1) ((ss.getD i zeroSp).1 - m))
def agrB (p : Int) (ss : List (Int × Int)) (rr : List (List Int)) (i k : Nat) : Bool := canB p ss rr i (ss.getD k zeroSp).2 (ss.getD k zeroSp).1
def cfRow (p : Int) (ss : List (Int × Int)) (rr : List (List Int)) (x y : Nat) : List (Int × Int) := ((List.range y).filter fun k => decide (x < k) && !agrB p ss rr x k).map fun k : Nat => (((x : Nat) : Int), ((k : Nat) : Int))
def cfTo (p : Int) (ss : List (Int × Int)) (rr : List (List Int)) (x : Nat) : List (Int × Int) := (List.range x).flatMap fun i => cfRow p ss rr i ss.length
def allL (n : Nat) : List Int := tabP (fun i : Nat => (i : Int)) n
end
end Go.Proofs.YtbgfjemppjhmjaaGreat
/- What is to be shown of functions. Printed by a program. No condition. -/
namespace Go.Proofs.YtbgfjemppjhmjaaGreat
set_option linter.unusedSimpArgs false
open Go Go.K
set_option maxRecDepth 100000
set_option maxHeartbeats 4000000
set_option linter.unusedVariables false
noncomputable section
abbrev kx4 : Value:=nI 6
abbrev kx3 (a : List Bool) : Int:=(a.length : Nat)
def Rbasin (sp : Value) (w h : Int) (a : List Bool) : Prop :=
 (((decide ((1 : Int) <= w)) = true -> (((!(decide ((w : Int) <= 64))) = true -> kx4 = sp) /\ ((!(decide ((w : Int) <= 64))) = false -> (((decide ((1 : Int) <= h)) = true -> (((!(decide ((h : Int) <= 64))) = true -> kx4 = sp) /\ ((!(decide ((h : Int) <= 64))) = false -> ((nI (IntKind.wrap .i64 (w * h)) : Value) = nI (w * h) /\ (((decide ((1024 : Int) < (w * h))) = true -> kx4 = sp) /\ ((decide ((1024 : Int) < (w * h))) = false -> ((nI (IntKind.wrap .i64 (w * h)) : Value) = nI (w * h) /\ (((((kx3 a) : Int) != (w * h)) = true -> (nI 1 : Value) = sp) /\ ((((kx3 a) : Int) != (w * h)) = false -> (nI 0 : Value) = sp))))))))) /\ ((decide ((1 : Int) <= h)) = false -> kx4 = sp))))) /\ ((decide ((1 : Int) <= w)) = false -> kx4 = sp))
abbrev kx5 : Hint:=.fork (.auto) (.auto)
theorem Ebasin (sp : Value) (w h : Int) (a : List Bool) : vF prog msk (dm 0) 100000 true 40 true 108 [.agg #[nI w,nI h,slQ 0 2 a.length]] (readsT 0 [a.flatMap boolC]) (some [])
 (.go 9 (.gfork (.go 6 (.gfork (.auto) (.go 7 (.gfork (.go 7 (.gfork (.auto) (.go 4 (.slot 19 (nI (w * h)) (.go 2 (.fork (.auto) (.go 7 (.slot 30 (nI (w * h)) (.go 1 kx5))))))))) (.auto))))) (.auto)))
 (fun v _ _ => v = sp) = Rbasin sp w h a:=by kernel_rfl
def Rsea (sp : Value) (w h : Int) (a : List Bool) (c : Int) : Prop :=
 ((nI (IntKind.wrap .i64 ((kx3 a) - 1)) : Value) = nI ((kx3 a) - 1) /\ (((decide ((0 : Int) <= c)) = true -> (((decide ((c : Int) <= ((kx3 a) - 1))) = true -> (((0 : Int) <= c /\ (c : Int) < (kx3 a)) /\ (((a.flatMap boolC)[(0 + Int.toNat c * 1)]? = some (.bool (a.getD c.toNat false))) /\ (.bool (!(a.getD c.toNat false)) : Value) = sp))) /\ ((decide ((c : Int) <= ((kx3 a) - 1))) = false -> (.bool false : Value) = sp))) /\ ((decide ((0 : Int) <= c)) = false -> (.bool false : Value) = sp)))
theorem Esea (sp : Value) (w h : Int) (a : List Bool) (c : Int) : vF prog msk (dm 0) 100000 true 40 true 75 [.agg #[nI w,nI h,slQ 0 2 a.length],nI c] (readsT 0 [a.flatMap boolC]) (some [])
 (.go 6 (.slot 9 (nI ((kx3 a) - 1)) (.go 5 (.gfork (.go 5 (.gfork (.go 2 (.need (.val (.bool (a.getD c.toNat false)) (.auto)))) (.auto))) (.auto)))))
 (fun v _ _ => v = sp) = Rsea sp w h a c:=by kernel_rfl
abbrev kx6 (ss : List (Int × Int)) : Int:=(ss.length : Nat)
abbrev kx1 : Value:=.func (.func 110) #[] #[.pointer (some ⟨2,0,none⟩)]
abbrev kx2 (ss : List (Int × Int)) : Prop:=kx1 = .func (.func 110) #[] #[.pointer (some ⟨2,0,none⟩)] /\ wkR (slQ 1 2 ss.length) /\ (nI (kx6 ss) : Value) = nI (kx6 ss) /\ True
abbrev kx0 (qn0 : Nat) (qv0 : Value) : Prop:=((decide ((0 : Int) <= (qn0 : Int))) = true -> (nI 110 : Value) = qv0) /\ ((decide ((0 : Int) <= (qn0 : Int))) = false -> (nI 0 : Value) = qv0)
def Rtrack (sp : Value) (w h : Int) (a : List Bool) (p : Int) (ss : List (Int × Int)) : Prop :=
 (((someR (.cells false 0 (a.flatMap boolC))) /\ True) /\ (∀ H' : Heap,H'.length = 3 -> (H'[0]? = some (.cells false 0 (a.flatMap boolC) : KObj) /\ True) -> KCall prog 108 [.agg #[nI w,nI h,slQ 0 2 a.length]] H' [] (Is (nI (errBas w h a.length)) H')) /\ (((((errBas w h a.length) : Int) != 0) = true -> (nI (errBas w h a.length) : Value) = sp) /\ ((((errBas w h a.length) : Int) != 0) = false -> (((decide ((1 : Int) <= p)) = true -> (((!(decide ((p : Int) <= 1000))) = true -> kx4 = sp) /\ ((!(decide ((p : Int) <= 1000))) = false -> (((decide ((20 : Int) < (kx6 ss))) = true -> (nI 2 : Value) = sp) /\ ((decide ((20 : Int) < (kx6 ss))) = false -> (true = true /\ (0 <= List.length ss /\ (ss.take 0).all (okS a) = true) /\ (true = true /\ ((nI 0 : Value) = nI ((0 : Nat) : Int) /\ kx2 ss) /\ (True) /\ (True) /\ (True)) /\ (∀ n_0 : Nat,true = true) /\ ∀ n_0 : Nat,(n_0 <= List.length ss /\ (ss.take n_0).all (okS a) = true) -> (((decide (((n_0 : Int) : Int) < (kx6 ss))) = true -> (((0 : Int) <= (n_0 : Int) /\ ((n_0 : Int) : Int) < (kx6 ss)) /\ ((partA 2 (ss.flatMap spC) (0 + Int.toNat (n_0 : Int) * 2) = some (.agg #[nI (ss.getD n_0 zeroSp).1,nI (ss.getD n_0 zeroSp).2])) /\ (((decide ((0 : Int) <= (ss.getD n_0 zeroSp).1)) = true -> (((!(decide (((ss.getD n_0 zeroSp).1 : Int) <= 100000))) = true -> (kx0 n_0 sp)) /\ ((!(decide (((ss.getD n_0 zeroSp).1 : Int) <= 100000))) = false -> (((someR (.cells false 0 (a.flatMap boolC))) /\ True) /\ (∀ H' : Heap,H'.length = 4 -> (H'[0]? = some (.cells false 0 (a.flatMap boolC) : KObj) /\ True) -> KCall prog 75 [.agg #[nI w,nI h,slQ 0 2 a.length],nI (ss.getD n_0 zeroSp).2] H' [] (Is (.bool (seaB a (ss.getD n_0 zeroSp).2)) H')) /\ (((!(seaB a (ss.getD n_0 zeroSp).2)) = true -> (kx0 n_0 sp)) /\ ((!(seaB a (ss.getD n_0 zeroSp).2)) = false -> ((nI (IntKind.wrap .i64 ((n_0 : Int) + 1)) : Value) = nI ((n_0 : Int) + 1) /\ (∃ n_1' : Nat,(n_1' <= List.length ss /\ (ss.take n_1').all (okS a) = true) /\ (List.length ss - n_1') < (List.length ss - n_0) /\ true = true /\ ((nI ((n_0 : Int) + 1) : Value) = nI (n_1' : Int) /\ kx2 ss) /\ (True) /\ (True) /\ (True))))))))) /\ ((decide ((0 : Int) <= (ss.getD n_0 zeroSp).1)) = false -> (kx0 n_0 sp)))))) /\ ((decide (((n_0 : Int) : Int) < (kx6 ss))) = false -> (nI 0 : Value) = sp)))))))) /\ ((decide ((1 : Int) <= p)) = false -> kx4 = sp)))))
theorem Etrack (sp : Value) (w h : Int) (a : List Bool) (p : Int) (ss : List (Int × Int)) : vF prog msk (dm 0) 100000 true 40 true 41 [.agg #[nI w,nI h,slQ 0 2 a.length,nI p,slQ 1 2 ss.length]] (readsT 0 [a.flatMap boolC,ss.flatMap spC]) (some [])
 (.go 3 (.ans [(0,.cells false 0 (a.flatMap boolC))] (nI (errBas w h a.length)) [] (.go 2 (.fork (.auto) (.go 7 (.gfork (.go 6 (.fork (.auto) (.go 4 (.fork (.auto) (.go 11 (.inv 3 (Nat) (0) [] [] (fun n_0 => [(8,nI (n_0 : Int)),(1,.func (.func 110) #[] #[.pointer (some ⟨2,0,none⟩)]),(0,slQ 1 2 ss.length),(7,nI (kx6 ss))]) (fun n_0 => []) (fun n_0 => []) (fun n_0 => []) (fun n_0 => (n_0 <= List.length ss /\ (ss.take n_0).all (okS a) = true)) (fun n_0 => (List.length ss - n_0)) (fun n_0 => .go 0 (.fork (.go 4 (.need (.val (.agg #[nI (ss.getD n_0 zeroSp).1,nI (ss.getD n_0 zeroSp).2]) (.go 10 (.gfork (.go 6 (.gfork (.go 6 kx5) (.go 3 (.ans [(0,.cells false 0 (a.flatMap boolC))] (.bool (seaB a (ss.getD n_0 zeroSp).2)) [] (.go 2 (.fork (.go 3 kx5) (.go 0 (.slot 18 (nI ((n_0 : Int) + 1)) (.go 0 (.again [])))))))))) (.go 10 kx5)))))) (.auto))))))))) (.auto)))))))
 (fun v _ _ => v = sp) = Rtrack sp w h a p ss:=by kernel_rfl
end
end Go.Proofs.YtbgfjemppjhmjaaGreat
/- Radio: right tracks. No condition. -/
namespace Go.Proofs.YtbgfjemppjhmjaaGreat
open Go Go.K
set_option maxRecDepth 100000
set_option linter.unusedVariables false
set_option linter.unusedSimpArgs false
noncomputable section
attribute [local irreducible] vF
theorem mul_bd {w h : Int} (a : 1 <= w /\ w <= 64) (b : 1 <= h /\ h <= 64) : 1 <= w * h /\ w * h <= 4096 := by
 have h1 : 1 * 1 <= w * h := Int.mul_le_mul a.1 b.1 (by omega) (by omega)
 have h2 : w * h <= 64 * 64 := Int.mul_le_mul a.2 b.2 (by omega) (by omega)
 omega
abbrev basV (w h : Int) (i n : Nat) : Value := .agg #[.int .i64 w, .int .i64 h, .slice (some ⟨i, 0, some 2⟩) n n]
abbrev trkV (w h : Int) (a : List Bool) (p : Int) (ss : List (Int × Int)) (i j : Nat) : Value := .agg #[.int .i64 w, .int .i64 h, .slice (some ⟨i, 0, some 2⟩) a.length a.length, .int .i64 p, .slice (some ⟨j, 0, some 2⟩) ss.length ss.length]
theorem kBasin (w h : Int) (a : List Bool) {H : Heap} {id : Nat} {own : Bool} {z : Nat} (hid : H[id]? = some (.cells own z (a.flatMap boolC))) :
  KCall prog 108 [basV w h id a.length] H [] (Is (.int .i64 (errBas w h a.length)) H) := by
 refine valRx (css := [a.flatMap boolC]) (v := .int .i64 (errBas w h a.length)) (ids := [id]) (Eq.mpr (Ebasin _ w h a) ?_) ⟨plainBL _ _, trivial⟩ rfl ⟨⟨_, _, hid⟩, trivial⟩ rfl
 delta Rbasin kx4 kx3 errBas
 obtain ⟨p, hp⟩ : ∃ p, w * h = p := ⟨_, rfl⟩
 have hb := fun a b => hp ▸ mul_bd (w := w) (h := h) a b
 simp only [hp]
 repeat' first | (exact iEq (by split <;> (try split) <;> omega)) | exact trivial | exact rfl | exact wk_refl _ | exact wks_nil | refine wk_tupL ?_ | refine wk_aggL ?_ | refine toMax ?_ | refine toMin ?_ | refine ⟨rfl, ?_⟩ | (refine forkD (fun h => ?_) (fun h => ?_)) | refine forkNot ?_ | apply And.intro | (exact vI64 (by omega))
theorem kSea (w h : Int) (a : List Bool) (c : Int) (hl : a.length <= 100000) {H : Heap} {id : Nat} {own : Bool} {z : Nat} (hid : H[id]? = some (.cells own z (a.flatMap boolC))) :
  KCall prog 75 [basV w h id a.length, .int .i64 c] H [] (Is (.bool (seaB a c)) H) := by
 refine valRx (css := [a.flatMap boolC]) (v := .bool (seaB a c)) (ids := [id]) (Eq.mpr (Esea _ w h a c) ?_) ⟨plainBL _ _, trivial⟩ rfl ⟨⟨_, _, hid⟩, trivial⟩ rfl
 delta Rsea kx3 seaB
 refine ⟨vI64 (by omega), fun h1 => ⟨fun h2 => ⟨⟨of_decide_eq_true h1, by have := of_decide_eq_true h2; omega⟩, boolAt (by have := of_decide_eq_true h2; have := of_decide_eq_true h1; omega) (by omega), ?_⟩, fun h2 => ?_⟩, fun h1 => ?_⟩
 ·rw [h1, h2]; rfl
 ·rw [h1, h2]; rfl
 ·rw [h1]; rfl
theorem spPart {l : List (Int × Int)} {k off : Nat} (h : k < l.length) (ho : off = k * 2) : partA 2 (l.flatMap spC) off = some (.agg ⟨spC (l.getD k zeroSp)⟩) := part_at (n := 2) (d := zeroSp) (c := 0) (m := 2) spC_len h (by omega) (by omega)
theorem all_succ {α : Type} {p : α -> Bool} {l : List α} {x : Nat} {d : α} (hx : x < l.length) (h : (l.take x).all p = true) (h1 : p (l.getD x d) = true) : (l.take (x + 1)).all p = true := by
 rw [List.take_succ_eq_append_getElem hx, List.all_append, h, List.all_cons]
 rw [show l.getD x d = l[x] from by simp [List.getD_eq_getElem?_getD, hx]] at h1
 rw [h1]; rfl
theorem all_no {α : Type} {p : α -> Bool} {l : List α} {x : Nat} {d : α} (hx : x < l.length) (h1 : p (l.getD x d) = false) : l.all p = false := by
 rw [Bool.eq_false_iff]
 intro h
 rw [List.all_eq_true] at h
 have := h _ (getD_mem (d := d) hx)
 rw [h1] at this; cases this
theorem kTrack (w h : Int) (a : List Bool) (p : Int) (ss : List (Int × Int)) (hl : a.length <= 100000) (hs : ss.length <= 100000) {H : Heap} {i j : Nat} {o1 o2 : Bool} {z1 z2 : Nat} (hi : H[i]? = some (.cells o1 z1 (a.flatMap boolC))) (hj : H[j]? = some (.cells o2 z2 (ss.flatMap spC))) :
  KCall prog 41 [trkV w h a p ss i j] H [] (Is (.int .i64 (errT w h a p ss)) H) := by
 refine valRx (css := [a.flatMap boolC, ss.flatMap spC]) (v := .int .i64 (errT w h a p ss)) (ids := [i, j]) (Eq.mpr (Etrack _ w h a p ss) ?_) ⟨plainBL _ _, plainSp _ _, trivial⟩ rfl ⟨⟨_, _, hi⟩, ⟨_, _, hj⟩, trivial⟩ rfl
 delta Rtrack kx4 kx6 kx1 kx2 kx0 errT
 refine ⟨⟨rfl, trivial⟩, fun H' _ h => kBasin _ _ _ h.1, fun e => by rw [if_neg (neB e)], fun e => ?_⟩
 rw [if_pos (eqB0 e)]
 refine ⟨fun p1 => ⟨fun p2 => ?_, fun p2 => ⟨fun n => ?_, fun n => ?_⟩⟩, fun p1 => ?_⟩
 ·rw [if_neg (fun q => by have := of_decide_eq_false (notB p2); omega)]
 ·rw [if_pos ⟨of_decide_eq_true p1, of_decide_eq_true (notB2 p2)⟩, if_neg (by have := of_decide_eq_true n; omega)]
 ·rw [if_pos ⟨of_decide_eq_true p1, of_decide_eq_true (notB2 p2)⟩, if_pos (by have := of_decide_eq_false n; omega)]
  refine ⟨rfl, ⟨Nat.zero_le _, rfl⟩, ?_, fun _ => rfl, fun x hx => ⟨fun b => ?_, fun b => ?_⟩⟩
  ·repeat' first | exact trivial | exact rfl | exact wk_refl _ | exact wks_nil | refine wk_tupL ?_ | refine wk_aggL ?_ | refine toMax ?_ | refine toMin ?_ | refine ⟨rfl, ?_⟩ | (refine forkD (fun h => ?_) (fun h => ?_)) | refine forkNot ?_ | apply And.intro | (exact vI64 (by omega))
  ·have h1 : x < ss.length := by have := of_decide_eq_true b; omega
   have hbad : okS a (ss.getD x zeroSp) = false -> (Value.int .i64 110) = .int .i64 (if ss.all (okS a) = true then 0 else 110) := fun q => by rw [all_no h1 q]; rfl
   have hx0 : ∀ {P : Prop}, (decide ((0 : Int) <= (x : Int)) = false -> P) := fun q => absurd (of_decide_eq_false q) (by omega)
   refine ⟨⟨by omega, by omega⟩, spPart h1 (by omega), fun c1 => ⟨fun c2 => ⟨fun _ => hbad ?_, hx0⟩, fun c2 => ⟨⟨rfl, trivial⟩, fun H' _ h => kSea _ _ _ _ hl h.1, fun c3 => ⟨fun _ => hbad ?_, hx0⟩, fun c3 => ⟨vI64 (by omega), x + 1, ⟨by omega, all_succ (d := zeroSp) h1 hx.2 ?_⟩, by omega, rfl, ?_⟩⟩⟩, fun c1 => ⟨fun _ => hbad ?_, hx0⟩⟩
   ·unfold okS; rw [c1, notB c2]; rfl
   ·unfold okS; rw [c1, notB2 c2, notB c3]; rfl
   ·unfold okS; rw [c1, notB2 c2, notB2 c3]; rfl
   ·repeat' first | exact trivial | exact rfl | exact wk_refl _ | exact wks_nil | refine wk_tupL ?_ | refine wk_aggL ?_ | refine toMax ?_ | refine toMin ?_ | refine ⟨rfl, ?_⟩ | (refine forkD (fun h => ?_) (fun h => ?_)) | refine forkNot ?_ | apply And.intro | (exact vI64 (by omega))
   ·unfold okS; rw [c1]; rfl
  ·have h1 : x = ss.length := by have := of_decide_eq_false b; omega
   have := hx.2
   rw [h1, List.take_length] at this
   rw [if_pos this]
 ·rw [if_neg (fun q => by have := of_decide_eq_false p1; omega)]
end
end Go.Proofs.YtbgfjemppjhmjaaGreat
/- What is to be shown of functions. Printed by a program. No condition. -/
namespace Go.Proofs.YtbgfjemppjhmjaaGreat
set_option linter.unusedSimpArgs false
open Go Go.K
set_option maxRecDepth 100000
set_option maxHeartbeats 4000000
set_option linter.unusedVariables false
noncomputable section
abbrev kad (a : List Bool) : Int:=(a.length : Nat)
abbrev ka7 (f : Int) (a : List Bool) : Prop:=(nI f : Value) = nI f /\ (.pointer (some ⟨1,0,none⟩) : Value) = .pointer (some ⟨1,0,none⟩) /\ (.slice none 0 0 : Value) = .slice none 0 0 /\ (.slice (some ⟨2,0,none⟩) a.length a.length : Value) = .slice (some ⟨2,0,none⟩) a.length a.length /\ (nI (kad a) : Value) = nI (kad a) /\ True
abbrev kaa (a : List Bool) : Prop:=(.slice (some ⟨2,0,none⟩) a.length a.length : Value) = .slice (some ⟨2,0,none⟩) a.length a.length /\ (.slice none 0 0 : Value) = .slice none 0 0 /\ (.pointer (some ⟨1,0,none⟩) : Value) = .pointer (some ⟨1,0,none⟩) /\ True
abbrev kaj (x1 : List Int × Nat × List Int) : Int:=((List.length x1.1 - x1.2.1) : Nat)
abbrev ka2 (x1 : List Int × Nat × List Int):=x1.1.getD (x1.2.1 + 0) 0
abbrev ka6 (x1 : List Int × Nat × List Int) (w : Int):=Int.tdiv (ka2 x1) w
abbrev ka8 (x1 : List Int × Nat × List Int) (w : Int):=Int.tmod (ka2 x1) w
abbrev ka0 : Value:=.agg #[nI 0,nI (-1),nI (-1),nI 0,nI 1,nI 0,nI 0,nI 1]
abbrev ka5 (a : List Bool) (x1 : List Int × Nat × List Int) (w : Int) : Prop:=(.pointer (some ⟨1,0,none⟩) : Value) = .pointer (some ⟨1,0,none⟩) /\ (.slice none 0 0 : Value) = .slice none 0 0 /\ (.slice (some ⟨2,0,none⟩) a.length a.length : Value) = .slice (some ⟨2,0,none⟩) a.length a.length /\ (nI (ka8 x1 w) : Value) = nI (ka8 x1 w) /\ (nI (ka6 x1 w) : Value) = nI (ka6 x1 w) /\ ka0 = .agg #[nI 0,nI (-1),nI (-1),nI 0,nI 1,nI 0,nI 0,nI 1] /\ True
abbrev kae (x2 : Nat × List Int × Nat × List Int) (x1 : List Int × Nat × List Int) (w : Int) (h : Int) (a : List Bool) (f : Int) : Prop:=x2.1 <= 4 /\ x2.2.2.1 < List.length x2.2.1 /\ List.getD x2.2.1 x2.2.2.1 0 = List.getD x1.1 x1.2.1 0 /\ BfJ w h a f (x1.1.getD x1.2.1 0) x2.1 (x2.2.1.drop (x2.2.2.1 + 1)) x2.2.2.2 /\ measD (x2.2.1.drop (x2.2.2.1 + 1)) x2.2.2.2 <= measD (x1.1.drop (x1.2.1 + 1)) x1.2.2
abbrev ka4 (x2 : Nat × List Int × Nat × List Int):=List.getD [0,(-1),1,0] x2.1 0
abbrev ka3 (x2 : Nat × List Int × Nat × List Int):=List.getD [(-1),0,0,1] x2.1 0
abbrev kab (x1 : List Int × Nat × List Int) (w : Int) (x2 : Nat × List Int × Nat × List Int) (a : List Bool) : Prop:=(0 : Int) <= ((((ka6 x1 w) + (ka3 x2)) * w) + ((ka8 x1 w) + (ka4 x2))) /\ (((((ka6 x1 w) + (ka3 x2)) * w) + ((ka8 x1 w) + (ka4 x2))) : Int) < (kad a)
abbrev kag (a : List Bool) (x1 : List Int × Nat × List Int) (w : Int) (x2 : Nat × List Int × Nat × List Int):=a.getD ((((ka6 x1 w) + (ka3 x2)) * w) + ((ka8 x1 w) + (ka4 x2))).toNat false
abbrev kaf (x2 : Nat × List Int × Nat × List Int) (x1 : List Int × Nat × List Int) (w : Int):=x2.2.2.2.getD ((((ka6 x1 w) + (ka3 x2)) * w) + ((ka8 x1 w) + (ka4 x2))).toNat 0
abbrev kac (x2 : Nat × List Int × Nat × List Int):=x2.2.2.2.getD (x2.2.1.getD (x2.2.2.1 + 0) 0).toNat 0
abbrev ka1 (x2 : Nat × List Int × Nat × List Int) (x1 : List Int × Nat × List Int) (w : Int) (h : Int) (a : List Bool) (f : Int) : Prop:=(nI (IntKind.wrap .i64 (((x2.1 : Nat) : Int) + 1)) : Value) = nI (((x2.1 : Nat) : Int) + 1) /\ (∃ x2' : Nat × List Int × Nat × List Int,(x2'.1 <= 4 /\ x2'.2.2.1 < List.length x2'.2.1 /\ List.getD x2'.2.1 x2'.2.2.1 0 = List.getD x1.1 x1.2.1 0 /\ BfJ w h a f (x1.1.getD x1.2.1 0) x2'.1 (x2'.2.1.drop (x2'.2.2.1 + 1)) x2'.2.2.2 /\ measD (x2'.2.1.drop (x2'.2.2.1 + 1)) x2'.2.2.2 <= measD (x1.1.drop (x1.2.1 + 1)) x1.2.2) /\ (4 - x2'.1) < (4 - x2.1) /\ true = true /\ ((nI (((x2.1 : Nat) : Int) + 1) : Value) = nI ((x2'.1 : Nat) : Int) /\ (.slice (some ⟨5,x2.2.2.1,none⟩) (List.length x2.2.1 - x2.2.2.1) (List.length x2.2.1 - x2.2.2.1) : Value) = .slice (some ⟨5,x2'.2.2.1,none⟩) (List.length x2'.2.1 - x2'.2.2.1) (List.length x2'.2.1 - x2'.2.2.1) /\ ka5 a x1 w) /\ ((some (.cells true 1 (x2.2.2.2.flatMap intC) : KObj) = some (.cells true 1 (x2'.2.2.2.flatMap intC) : KObj) /\ belowO 5 (.cells true 1 (x2'.2.2.2.flatMap intC) : KObj) = true) /\ True /\ True) /\ ((some (.cells true 1 (x2.2.1.flatMap intC) : KObj) = some (.cells true 1 (x2'.2.1.flatMap intC) : KObj) /\ belowO 5 (.cells true 1 (x2'.2.1.flatMap intC) : KObj) = true) /\ True) /\ (True))
def Rsteps (w h : Int) (a : List Bool) (f : Int) : Prop :=
 (((0 : Int) <= (kad a) /\ ((kad a) : Int) <= (kad a) /\ ((kad a) : Int) < 2 ^ 62 /\ 8 * ((kad a) : Int) <= 2 ^ 48) /\ (true = true /\ (0 <= a.length) /\ (true = true /\ ((nI 0 : Value) = nI ((0 : Nat) : Int) /\ ka7 f a) /\ ((some (.cells true 1 (krep [nI 0] a.length) : KObj) = some (.cells true 1 ((fillF a.length 0).flatMap intC) : KObj) /\ belowO 3 (.cells true 1 ((fillF a.length 0).flatMap intC) : KObj) = true) /\ True) /\ (True) /\ (True)) /\ (∀ n_0 : Nat,true = true) /\ ∀ n_0 : Nat,(n_0 <= a.length) -> (((decide (((n_0 : Int) : Int) < (kad a))) = true -> (((0 : Int) <= (n_0 : Int) /\ ((n_0 : Int) : Int) < (kad a)) /\ (((0 + Int.toNat (n_0 : Int) * 1) + 1 <= List.length ((fillF a.length n_0).flatMap intC)) /\ true = true /\ ((nI (IntKind.wrap .i64 ((n_0 : Int) + 1)) : Value) = nI ((n_0 : Int) + 1) /\ (∃ n_1' : Nat,(n_1' <= a.length) /\ (a.length - n_1') < (a.length - n_0) /\ true = true /\ ((nI ((n_0 : Int) + 1) : Value) = nI (n_1' : Int) /\ ka7 f a) /\ ((some (.cells true 1 (setl ((fillF a.length n_0).flatMap intC) (0 + Int.toNat (n_0 : Int) * 1) [nI 1073741824]) : KObj) = some (.cells true 1 ((fillF a.length n_1').flatMap intC) : KObj) /\ belowO 3 (.cells true 1 ((fillF a.length n_1').flatMap intC) : KObj) = true) /\ True) /\ (True) /\ (True)))))) /\ ((decide (((n_0 : Int) : Int) < (kad a))) = false -> (((0 : Int) <= f /\ (f : Int) < (kad a)) /\ (((0 + Int.toNat f * 1) + 1 <= List.length ((fillF a.length n_0).flatMap intC)) /\ true = true /\ (true = true /\ (([f],0,begF a.length f).2.1 <= List.length ([f],0,begF a.length f).1 /\ BfD w h a f (List.drop ([f],0,begF a.length f).2.1 ([f],0,begF a.length f).1) ([f],0,begF a.length f).2.2) /\ (true = true /\ ((.slice (some ⟨3,0,none⟩) 1 1 : Value) = .slice (some ⟨3,([f],0,begF a.length f).2.1,none⟩) (List.length ([f],0,begF a.length f).1 - ([f],0,begF a.length f).2.1) (List.length ([f],0,begF a.length f).1 - ([f],0,begF a.length f).2.1) /\ kaa a) /\ ((some (.cells true 1 (setl ((fillF a.length n_0).flatMap intC) (0 + Int.toNat f * 1) [nI 0]) : KObj) = some (.cells true 1 (List.flatMap intC ([f],0,begF a.length f).2.2) : KObj) /\ belowO 4 (.cells true 1 (List.flatMap intC ([f],0,begF a.length f).2.2) : KObj) = true) /\ True /\ True) /\ ((some (.cells true 1 [nI f] : KObj) = some (.cells true 1 (List.flatMap intC ([f],0,begF a.length f).1) : KObj) /\ belowO 4 (.cells true 1 (List.flatMap intC ([f],0,begF a.length f).1) : KObj) = true) /\ True) /\ (True)) /\ (∀ x1 : List Int × Nat × List Int,true = true) /\ ∀ x1 : List Int × Nat × List Int,(x1.2.1 <= List.length x1.1 /\ BfD w h a f (x1.1.drop x1.2.1) x1.2.2) -> (((decide ((0 : Int) < (kaj x1))) = true -> (((0 : Int) <= 0 /\ (0 : Int) < (kaj x1)) /\ (((x1.1.flatMap intC)[(x1.2.1 + 0 * 1)]? = some (nI (ka2 x1))) /\ (((w : Int) ≠ 0) /\ (((0 : Int) <= 0 /\ (0 : Int) < (kaj x1)) /\ (((x1.1.flatMap intC)[(x1.2.1 + 0 * 1)]? = some (nI (ka2 x1))) /\ (((w : Int) ≠ 0) /\ ((nI (IntKind.wrap .i64 (ka6 x1 w)) : Value) = nI (ka6 x1 w) /\ (true = true /\ ((0,x1.1,x1.2.1,x1.2.2).1 <= 4 /\ (0,x1.1,x1.2.1,x1.2.2).2.2.1 < List.length (0,x1.1,x1.2.1,x1.2.2).2.1 /\ List.getD (0,x1.1,x1.2.1,x1.2.2).2.1 (0,x1.1,x1.2.1,x1.2.2).2.2.1 0 = List.getD x1.1 x1.2.1 0 /\ BfJ w h a f (x1.1.getD x1.2.1 0) (0,x1.1,x1.2.1,x1.2.2).1 (List.drop ((0,x1.1,x1.2.1,x1.2.2).2.2.1 + 1) (0,x1.1,x1.2.1,x1.2.2).2.1) (0,x1.1,x1.2.1,x1.2.2).2.2.2 /\ measD (List.drop ((0,x1.1,x1.2.1,x1.2.2).2.2.1 + 1) (0,x1.1,x1.2.1,x1.2.2).2.1) (0,x1.1,x1.2.1,x1.2.2).2.2.2 <= measD (x1.1.drop (x1.2.1 + 1)) x1.2.2) /\ (true = true /\ ((nI 0 : Value) = nI (((0,x1.1,x1.2.1,x1.2.2).1 : Nat) : Int) /\ (.slice (some ⟨4,x1.2.1,none⟩) (List.length x1.1 - x1.2.1) (List.length x1.1 - x1.2.1) : Value) = .slice (some ⟨4,(0,x1.1,x1.2.1,x1.2.2).2.2.1,none⟩) (List.length (0,x1.1,x1.2.1,x1.2.2).2.1 - (0,x1.1,x1.2.1,x1.2.2).2.2.1) (List.length (0,x1.1,x1.2.1,x1.2.2).2.1 - (0,x1.1,x1.2.1,x1.2.2).2.2.1) /\ ka5 a x1 w) /\ ((some (.cells true 1 (x1.2.2.flatMap intC) : KObj) = some (.cells true 1 (List.flatMap intC (0,x1.1,x1.2.1,x1.2.2).2.2.2) : KObj) /\ belowO 5 (.cells true 1 (List.flatMap intC (0,x1.1,x1.2.1,x1.2.2).2.2.2) : KObj) = true) /\ True /\ True) /\ ((some (.cells true 1 (x1.1.flatMap intC) : KObj) = some (.cells true 1 (List.flatMap intC (0,x1.1,x1.2.1,x1.2.2).2.1) : KObj) /\ belowO 5 (.cells true 1 (List.flatMap intC (0,x1.1,x1.2.1,x1.2.2).2.1) : KObj) = true) /\ True) /\ (True)) /\ (∀ x2 : Nat × List Int × Nat × List Int,true = true) /\ ∀ x2 : Nat × List Int × Nat × List Int,(kae x2 x1 w h a f) -> (((decide ((((x2.1 : Nat) : Int) : Int) < 4)) = true -> ((kindex prog 271 (.agg #[nI 0,nI (-1),nI (-1),nI 0,nI 1,nI 0,nI 0,nI 1]) (nI ((x2.1 : Nat) : Int)) = some (.agg #[nI (ka4 x2),nI (ka3 x2)])) /\ ((nI (IntKind.wrap .i64 ((ka8 x1 w) + (ka4 x2))) : Value) = nI ((ka8 x1 w) + (ka4 x2)) /\ ((nI (IntKind.wrap .i64 ((ka6 x1 w) + (ka3 x2))) : Value) = nI ((ka6 x1 w) + (ka3 x2)) /\ ((nI (IntKind.wrap .i64 (((ka6 x1 w) + (ka3 x2)) * w)) : Value) = nI (((ka6 x1 w) + (ka3 x2)) * w) /\ ((nI (IntKind.wrap .i64 ((((ka6 x1 w) + (ka3 x2)) * w) + ((ka8 x1 w) + (ka4 x2)))) : Value) = nI ((((ka6 x1 w) + (ka3 x2)) * w) + ((ka8 x1 w) + (ka4 x2))) /\ ((nI (IntKind.wrap .i64 (w - 1)) : Value) = nI (w - 1) /\ (((decide ((0 : Int) <= ((ka8 x1 w) + (ka4 x2)))) = true -> (((decide ((((ka8 x1 w) + (ka4 x2)) : Int) <= (w - 1))) = true -> ((nI (IntKind.wrap .i64 (h - 1)) : Value) = nI (h - 1) /\ (((decide ((0 : Int) <= ((ka6 x1 w) + (ka3 x2)))) = true -> (((decide ((((ka6 x1 w) + (ka3 x2)) : Int) <= (h - 1))) = true -> ((kab x1 w x2 a) /\ (((a.flatMap boolC)[(0 + Int.toNat ((((ka6 x1 w) + (ka3 x2)) * w) + ((ka8 x1 w) + (ka4 x2))) * 1)]? = some (.bool (kag a x1 w x2))) /\ (((!(kag a x1 w x2)) = true -> ((kab x1 w x2 a) /\ (((x2.2.2.2.flatMap intC)[(0 + Int.toNat ((((ka6 x1 w) + (ka3 x2)) * w) + ((ka8 x1 w) + (ka4 x2))) * 1)]? = some (nI (kaf x2 x1 w))) /\ (((((kaf x2 x1 w) : Int) == 1073741824) = true -> (((0 : Int) <= 0 /\ (0 : Int) < (((List.length x2.2.1 - x2.2.2.1) : Nat) : Int)) /\ (((x2.2.1.flatMap intC)[(x2.2.2.1 + 0 * 1)]? = some (nI (x2.2.1.getD (x2.2.2.1 + 0) 0))) /\ (((0 : Int) <= (x2.2.1.getD (x2.2.2.1 + 0) 0) /\ ((x2.2.1.getD (x2.2.2.1 + 0) 0) : Int) < (kad a)) /\ (((x2.2.2.2.flatMap intC)[(0 + Int.toNat (x2.2.1.getD (x2.2.2.1 + 0) 0) * 1)]? = some (nI (kac x2))) /\ ((nI (IntKind.wrap .i64 ((kac x2) + 1)) : Value) = nI ((kac x2) + 1) /\ ((kab x1 w x2 a) /\ (((0 + Int.toNat ((((ka6 x1 w) + (ka3 x2)) * w) + ((ka8 x1 w) + (ka4 x2))) * 1) + 1 <= List.length (x2.2.2.2.flatMap intC)) /\ true = true /\ ((((List.length x2.2.1 - x2.2.2.1) + 1) * 8 <= 2 ^ 44 /\ 1 ≠ 0 /\ ((List.length x2.2.1 - x2.2.2.1) <= (List.length x2.2.1 - x2.2.2.1) /\ x2.2.2.1 + (List.length x2.2.1 - x2.2.2.1) * 1 <= List.length (x2.2.1.flatMap intC)) /\ (1 <= 1 /\ 0 + 1 * 1 <= List.length ([nI ((((ka6 x1 w) + (ka3 x2)) * w) + ((ka8 x1 w) + (ka4 x2)))] : List Value)) /\ (((([nI ((((ka6 x1 w) + (ka3 x2)) * w) + ((ka8 x1 w) + (ka4 x2)))] : List Value).drop 0).take (1 * 1)) : List Value).all (fun v => one1 v) = true) /\ true = true /\ ((nI (IntKind.wrap .i64 (((x2.1 : Nat) : Int) + 1)) : Value) = nI (((x2.1 : Nat) : Int) + 1) /\ (∃ x2' : Nat × List Int × Nat × List Int,(x2'.1 <= 4 /\ x2'.2.2.1 < List.length x2'.2.1 /\ List.getD x2'.2.1 x2'.2.2.1 0 = List.getD x1.1 x1.2.1 0 /\ BfJ w h a f (x1.1.getD x1.2.1 0) x2'.1 (x2'.2.1.drop (x2'.2.2.1 + 1)) x2'.2.2.2 /\ measD (x2'.2.1.drop (x2'.2.2.1 + 1)) x2'.2.2.2 <= measD (x1.1.drop (x1.2.1 + 1)) x1.2.2) /\ (4 - x2'.1) < (4 - x2.1) /\ true = true /\ ((nI (((x2.1 : Nat) : Int) + 1) : Value) = nI ((x2'.1 : Nat) : Int) /\ (.slice (some ⟨8,0,none⟩) ((List.length x2.2.1 - x2.2.2.1) + 1) ((List.length x2.2.1 - x2.2.2.1) + 1) : Value) = .slice (some ⟨8,x2'.2.2.1,none⟩) (List.length x2'.2.1 - x2'.2.2.1) (List.length x2'.2.1 - x2'.2.2.1) /\ ka5 a x1 w) /\ ((some (.cells true 1 (setl (x2.2.2.2.flatMap intC) (0 + Int.toNat ((((ka6 x1 w) + (ka3 x2)) * w) + ((ka8 x1 w) + (ka4 x2))) * 1) [nI ((kac x2) + 1)]) : KObj) = some (.cells true 1 (x2'.2.2.2.flatMap intC) : KObj) /\ belowO 5 (.cells true 1 (x2'.2.2.2.flatMap intC) : KObj) = true) /\ True /\ True) /\ ((some (.cells true 1 ((((x2.2.1.flatMap intC).drop x2.2.2.1).take ((List.length x2.2.1 - x2.2.2.1) * 1)) ++ ((([nI ((((ka6 x1 w) + (ka3 x2)) * w) + ((ka8 x1 w) + (ka4 x2)))] : List Value).drop 0).take (1 * 1))) : KObj) = some (.cells true 1 (x2'.2.1.flatMap intC) : KObj) /\ belowO 5 (.cells true 1 (x2'.2.1.flatMap intC) : KObj) = true) /\ True) /\ (True)))))))))))) /\ ((((kaf x2 x1 w) : Int) == 1073741824) = false -> (ka1 x2 x1 w h a f)))))) /\ ((!(kag a x1 w x2)) = false -> (ka1 x2 x1 w h a f)))))) /\ ((decide ((((ka6 x1 w) + (ka3 x2)) : Int) <= (h - 1))) = false -> (ka1 x2 x1 w h a f)))) /\ ((decide ((0 : Int) <= ((ka6 x1 w) + (ka3 x2)))) = false -> (ka1 x2 x1 w h a f))))) /\ ((decide ((((ka8 x1 w) + (ka4 x2)) : Int) <= (w - 1))) = false -> (ka1 x2 x1 w h a f)))) /\ ((decide ((0 : Int) <= ((ka8 x1 w) + (ka4 x2)))) = false -> (ka1 x2 x1 w h a f)))))))))) /\ ((decide ((((x2.1 : Nat) : Int) : Int) < 4)) = false -> (((true = false ∨ 1 = 0 ∨ 1 = 1) /\ ((List.length x2.2.1 - x2.2.2.1) <= (List.length x2.2.1 - x2.2.2.1)) /\ ((0 : Int) <= 1 /\ (1 : Int) <= (((List.length x2.2.1 - x2.2.2.1) : Nat) : Int))) /\ (∃ x1' : List Int × Nat × List Int,(x1'.2.1 <= List.length x1'.1 /\ BfD w h a f (x1'.1.drop x1'.2.1) x1'.2.2) /\ (measD (x1'.1.drop x1'.2.1) x1'.2.2) < (measD (x1.1.drop x1.2.1) x1.2.2) /\ true = true /\ ((.slice (some ⟨5,(x2.2.2.1 + 1 * 1),none⟩) ((List.length x2.2.1 - x2.2.2.1) - 1) ((List.length x2.2.1 - x2.2.2.1) - 1) : Value) = .slice (some ⟨5,x1'.2.1,none⟩) (List.length x1'.1 - x1'.2.1) (List.length x1'.1 - x1'.2.1) /\ kaa a) /\ ((some (.cells true 1 (x2.2.2.2.flatMap intC) : KObj) = some (.cells true 1 (x1'.2.2.flatMap intC) : KObj) /\ belowO 4 (.cells true 1 (x1'.2.2.flatMap intC) : KObj) = true) /\ True /\ True) /\ ((some (.cells true 1 (x2.2.1.flatMap intC) : KObj) = some (.cells true 1 (x1'.1.flatMap intC) : KObj) /\ belowO 4 (.cells true 1 (x1'.1.flatMap intC) : KObj) = true) /\ True) /\ (True)))))))))))))) /\ ((decide ((0 : Int) < (kaj x1))) = false -> (true = true /\ wk (.slice (some ⟨2,0,none⟩) a.length a.length : Value) (rn (sg 1 [(1,2)]) 3 (slQ 1 1 (dstL w h a f).length : Value)) /\ ((some (.cells true 1 (x1.2.2.flatMap intC) : KObj) = some (.cells true 1 ((dstL w h a f).flatMap intC) : KObj) /\ belowO 1 (.cells true 1 ((dstL w h a f).flatMap intC) : KObj) = true) /\ True)))))))))))
abbrev kai : Nat × Value:=(2,.pointer (some ⟨1,0,none⟩))
abbrev kah (a : List Bool) : Nat × Value:=(5,.slice (some ⟨2,0,none⟩) a.length a.length)
abbrev ka9 (x2 : Nat × List Int × Nat × List Int) : Hint:=.slot 113 (nI (((x2.1 : Nat) : Int) + 1)) (.go 0 (.again [(5,5)]))
theorem Esteps (w h : Int) (a : List Bool) (f : Int) : vF prog msk (dm 0) 100000 true 40 true 114 [.agg #[nI w,nI h,slQ 0 2 a.length],nI f] (readsT 0 [a.flatMap boolC]) (some [])
 (.go 4 (.need (.go 3 (.inv 3 (Nat) (0) [] [2] (fun n_0 => [(21,nI (n_0 : Int)),(1,nI f),kai,(4,.slice none 0 0),(kah a),(20,nI (kad a))]) (fun n_0 => [(2,true,.cells true 1 ((fillF a.length n_0).flatMap intC))]) (fun n_0 => []) (fun n_0 => []) (fun n_0 => (n_0 <= a.length)) (fun n_0 => (a.length - n_0)) (fun n_0 => .go 0 (.fork (.go 3 (.need (.need (.go 0 (.slot 27 (nI ((n_0 : Int) + 1)) (.go 0 (.again []))))))) (.go 1 (.need (.need (.go 2 (.inv 3 (List Int × Nat × List Int) (([f],0,begF a.length f)) [(4,3)] [2,3] (fun x1 => [(7,.slice (some ⟨4,x1.2.1,none⟩) (List.length x1.1 - x1.2.1) (List.length x1.1 - x1.2.1)),(kah a),(4,.slice none 0 0),kai]) (fun x1 => [(2,true,.cells true 1 (x1.2.2.flatMap intC)),(3,false,.dead)]) (fun x1 => [(true,.cells true 1 (x1.1.flatMap intC))]) (fun x1 => []) (fun x1 => (x1.2.1 <= List.length x1.1 /\ BfD w h a f (x1.1.drop x1.2.1) x1.2.2)) (fun x1 => (measD (x1.1.drop x1.2.1) x1.2.2)) (fun x1 => .go 2 (.fork (.go 0 (.need (.val (nI (ka2 x1)) (.go 1 (.need (.go 0 (.need (.val (nI (ka2 x1)) (.go 1 (.need (.slot 49 (nI (ka6 x1 w)) (.go 7 (.inv 3 (Nat × List Int × Nat × List Int) ((0,x1.1,x1.2.1,x1.2.2)) [(5,4)] [2,4] (fun x2 => [(55,nI ((x2.1 : Nat) : Int)),(7,.slice (some ⟨5,x2.2.2.1,none⟩) (List.length x2.2.1 - x2.2.2.1) (List.length x2.2.1 - x2.2.2.1)),kai,(4,.slice none 0 0),(kah a),(8,nI (ka8 x1 w)),(9,nI (ka6 x1 w)),(54,.agg #[nI 0,nI (-1),nI (-1),nI 0,nI 1,nI 0,nI 0,nI 1])]) (fun x2 => [(2,true,.cells true 1 (x2.2.2.2.flatMap intC)),(4,false,.dead)]) (fun x2 => [(true,.cells true 1 (x2.2.1.flatMap intC))]) (fun x2 => []) (fun x2 => (kae x2 x1 w h a f)) (fun x2 => (4 - x2.1)) (fun x2 => .go 0 (.fork (.val (.agg #[nI (ka4 x2),nI (ka3 x2)]) (.go 5 (.slot 61 (nI ((ka8 x1 w) + (ka4 x2))) (.go 3 (.slot 65 (nI ((ka6 x1 w) + (ka3 x2))) (.go 5 (.slot 69 (nI (((ka6 x1 w) + (ka3 x2)) * w)) (.go 1 (.slot 71 (nI ((((ka6 x1 w) + (ka3 x2)) * w) + ((ka8 x1 w) + (ka4 x2)))) (.go 4 (.slot 75 (nI (w - 1)) (.go 5 (.gfork (.go 5 (.gfork (.go 3 (.slot 81 (nI (h - 1)) (.go 5 (.gfork (.go 6 (.gfork (.go 2 (.need (.val (.bool (kag a x1 w x2)) (.go 2 (.gfork (.go 1 (.need (.val (nI (kaf x2 x1 w)) (.go 1 (.fork (.go 3 (.need (.val (nI (x2.2.1.getD (x2.2.2.1 + 0) 0)) (.need (.val (nI (kac x2)) (.go 0 (.slot 107 (nI ((kac x2) + 1)) (.need (.need (.go 2 (.need (.go 1 (.slot 113 (nI (((x2.1 : Nat) : Int) + 1)) (.go 0 (.again [(5,8)]))))))))))))))) (.go 0 (ka9 x2))))))) (.go 2 (ka9 x2))))))) (.go 4 (ka9 x2)))) (.go 8 (ka9 x2)))))) (.go 6 (ka9 x2)))) (.go 9 (ka9 x2))))))))))))))) (.go 0 (.need (.go 0 (.again [(4,5)]))))))))))))))))))) (.go 1 (.again [(1,2)])))))))))))))))
 (newK ((readsT 0 [a.flatMap boolC]) : HT).n 3 (slQ 1 1 (dstL w h a f).length) [(true,.cells true 1 ((dstL w h a f).flatMap intC))]) = Rsteps w h a f:=by kernel_rfl
end
end Go.Proofs.YtbgfjemppjhmjaaGreat
/- Radio: distances over the sea: what the search comes to. No condition. -/
namespace Go.Proofs.YtbgfjemppjhmjaaGreat
open Go Go.K
set_option maxRecDepth 100000
set_option linter.unusedVariables false
set_option linter.unusedSimpArgs false
noncomputable section
attribute [local irreducible] vF
theorem kix {j : Nat} (h : j < 4) : kindex prog 271 (.agg #[nI 0, nI (-1), nI (-1), nI 0, nI 1, nI 0, nI 0, nI 1]) (nI ((j : Nat) : Int)) = some (.agg #[nI (List.getD [0, (-1), 1, 0] j 0), nI (List.getD [(-1), 0, 0, 1] j 0)]) := by
 have : j = 0 ∨ j = 1 ∨ j = 2 ∨ j = 3 := by omega
 rcases this with rfl | rfl | rfl | rfl
 ·exact (by kernel_rfl : kindex prog 271 (.agg #[nI 0, nI (-1), nI (-1), nI 0, nI 1, nI 0, nI 0, nI 1]) (nI 0) = some (.agg #[nI 0, nI (-1)]))
 ·exact (by kernel_rfl : kindex prog 271 (.agg #[nI 0, nI (-1), nI (-1), nI 0, nI 1, nI 0, nI 0, nI 1]) (nI 1) = some (.agg #[nI (-1), nI 0]))
 ·exact (by kernel_rfl : kindex prog 271 (.agg #[nI 0, nI (-1), nI (-1), nI 0, nI 1, nI 0, nI 0, nI 1]) (nI 2) = some (.agg #[nI 1, nI 0]))
 ·exact (by kernel_rfl : kindex prog 271 (.agg #[nI 0, nI (-1), nI (-1), nI 0, nI 1, nI 0, nI 0, nI 1]) (nI 3) = some (.agg #[nI 0, nI 1]))
theorem snoc_flat {C : List Int} {o : Nat} (ho : o <= C.length) (t : Int) : List.take ((C.length - o) * 1) (List.drop o (C.flatMap intC)) ++ List.take (1 * 1) (List.drop 0 ([nI t] : List Value)) = (C.drop o ++ [t]).flatMap intC := by
 rw [flat_drop1, Nat.mul_one, List.take_of_length_le (by rw [flat_len intC_len, List.length_drop]; omega), List.flatMap_append]; rfl
theorem setI {xs ys : List Int} {k off : Nat} {v : Int} (hk : k < xs.length) (ho : off = k) (e : xs.set k v = ys) : (some (KObj.cells true 1 (setl (xs.flatMap intC) off [.int .i64 v])) : Option KObj) = some (.cells true 1 (ys.flatMap intC)) := by
 subst ho; subst e
 have := flat_set intC_len xs off hk v
 rw [Nat.mul_one] at this
 rw [this]
theorem fillF_0 (n : Nat) : fillF n 0 = List.replicate n 0 := by unfold fillF; simp
theorem fillF_n (n : Nat) : fillF n n = List.replicate n farI := by unfold fillF; simp
theorem fillF_len {n x : Nat} (h : x <= n) : (fillF n x).length = n := by unfold fillF; rw [List.length_append, List.length_replicate, List.length_replicate]; omega
theorem vw_bd {w h v : Int} (hw : 1 <= w /\ w <= 64) (hh : 1 <= h /\ h <= 64) (hv : -1 <= v /\ v <= h) : -64 <= v * w /\ v * w <= 4096 := by
 have h1 : v * w <= h * w := Int.mul_le_mul_of_nonneg_right hv.2 (by omega)
 have h2 : -1 * w <= v * w := Int.mul_le_mul_of_nonneg_right hv.1 (by omega)
 have h3 := mul_bd hh hw
 omega
theorem slO {id o o' n m : Nat} (h1 : o = o') (h : n = m) : (Value.slice (some ⟨id, o, none⟩) n n) = .slice (some ⟨id, o', none⟩) m m := by rw [h1, h]
theorem intB (n : Nat) (l : List Int) : belowO n (.cells true 1 (l.flatMap intC)) = true := plainIL n l
set_option maxHeartbeats 2000000 in
theorem hvSteps {w h : Int} {a : List Bool} {f : Int} (b : BasOk w h a.length) (hf : 0 <= f /\ f < (a.length : Int)) : Rsteps w h a f := by
 have hn := b.n1
 have hp := b.p1
 have hw := b.w1
 have hh := b.h1
 have hsm : (a.length : Int) <= 1024 := by omega
 delta Rsteps kad ka7 kaa kaj ka2 ka6 ka8 ka0 ka5 kae ka4 ka3 kab kag kaf kac ka1
 refine ⟨⟨by omega, by omega, by omega, by omega⟩, rfl, Nat.zero_le _, ?_, fun _ => rfl, fun x hx => ⟨fun k => ?_, fun k => ?_⟩⟩
 ·rw [krep_int, fillF_0]
  repeat' first | exact intB _ _ | exact rfl | exact wks_nil | apply And.intro
 ·have h1 : x < a.length := by have := of_decide_eq_true k; omega
  have hl := fillF_len hx
  refine ⟨⟨by omega, by omega⟩, by rw [flat_len intC_len, hl]; omega, rfl, vI64 (by omega), x + 1, by omega, by omega, rfl, ?_⟩
  repeat' first | (exact setI (by omega) (by omega) (fillF_set h1)) | exact intB _ _ | exact rfl | exact wks_nil | apply And.intro
 ·have h1 : x = a.length := by have := of_decide_eq_false k; omega
  have hl := fillF_len hx
  rw [h1] at hl ⊢
  refine ⟨hf, by rw [flat_len intC_len, hl]; omega, rfl, rfl, ⟨Nat.zero_le _, begF_ok hf⟩, ?_, fun _ => rfl, ?_⟩
  ·repeat' first | (exact setI (k := Int.toNat f) (by omega) (by omega) (by rw [fillF_n]; rfl)) | exact intB _ _ | exact rfl | exact wks_nil | apply And.intro
  rintro ⟨C, p, O⟩ ⟨ho, hb⟩
  dsimp only at ho hb ⊢
  have hOL := hb.len
  rw [Nat.add_zero, Nat.zero_mul, Nat.add_zero]
  refine ⟨fun kq => ?_, fun kq => ?_⟩
  ·have hlt : p < C.length := by have := of_decide_eq_true kq; omega
   have hdr := drop_get hlt
   have hb2 := hb
   rw [hdr] at hb2
   have hbi := (hb2.q _ (List.mem_cons_self ..)).1
   have hJ := hb2.pop
   generalize hi : C.getD p 0 = i at *
   obtain ⟨d1, d2, d3⟩ := divm b hbi
   refine ⟨⟨by omega, by omega⟩, by rw [<- hi]; exact intAt hlt rfl, by omega, ⟨by omega, by omega⟩, by rw [<- hi]; exact intAt hlt rfl, by omega, vI64 (by omega), rfl, ⟨Nat.zero_le _, hlt, rfl, hJ, Nat.le_refl _⟩, ?_, fun _ => rfl, ?_⟩
   ·repeat' first | exact intB _ _ | exact rfl | exact wks_nil | apply And.intro
   rintro ⟨j, C2, p2, O2⟩ ⟨hj4, ho2, hi2, hbj, hme⟩
   dsimp only at hj4 ho2 hi2 hbj hme ⊢
   have hOL2 := hbj.len
   have hsz := hbj.sz
   rw [List.length_drop] at hsz
   refine ⟨fun kj => ?_, fun kj => ?_⟩
   ·have hj5 : j < 4 := by have := of_decide_eq_true kj; omega
    obtain ⟨x1, x2⟩ := bd_bd hj5
    have hvw := vw_bd hw hh (v := nbV w i j) (by unfold nbV; omega)
    have hsk : (nbOk w h a i j -> gO O2 (nbT w i j) ≠ farI) -> (j + 1 <= 4 /\ p2 < C2.length /\ C2.getD p2 0 = i /\ BfJ w h a f i (j + 1) (C2.drop (p2 + 1)) O2 /\ measD (C2.drop (p2 + 1)) O2 <= measD (C.drop (p + 1)) O) := fun hs => ⟨by omega, ho2, hi2, hbj.skip hs (fun q => nb_in b q.1.1 q.1.2), hme⟩
    have eU : Int.tmod i w + List.getD [0, (-1), 1, 0] j 0 = nbU w i j := rfl
    have eV : Int.tdiv i w + List.getD [(-1), 0, 0, 1] j 0 = nbV w i j := rfl
    have bu : -1 <= nbU w i j /\ nbU w i j <= 64 := by unfold nbU; omega
    have bv : -1 <= nbV w i j /\ nbV w i j <= 64 := by unfold nbV; omega
    rw [eU, eV]
    have eT : nbV w i j * w + nbU w i j = nbT w i j := rfl
    refine ⟨kix hj5, vI64 (by omega), vI64 (by omega), vI64 (by omega), vI64 (by omega), vI64 (by omega), fun u1 => ⟨fun u2 => ⟨vI64 (by omega), fun v1 => ⟨fun v2 => ?_, fun v2 => ?_⟩, fun v1 => ?_⟩, fun u2 => ?_⟩, fun u1 => ?_⟩
    ·have hu : 0 <= nbU w i j /\ nbU w i j <= w - 1 := ⟨of_decide_eq_true u1, of_decide_eq_true u2⟩
     have hv : 0 <= nbV w i j /\ nbV w i j <= h - 1 := ⟨of_decide_eq_true v1, of_decide_eq_true v2⟩
     have hin := nb_in b hu hv
     rw [eT] at hin ⊢
     refine ⟨hin, boolAt (by omega) (by omega), fun l1 => ⟨hin, intAt (by omega) (by omega), fun g1 => ?_, fun g1 => ?_⟩, fun l1 => ?_⟩
     ·have hg1 : gO O2 (nbT w i j) = farI := eq_of_beq g1
      have hnb : nbOk w h a i j := ⟨⟨hu, hv⟩, notB l1⟩
      have hii := hbj.ii
      have hcn := hbj.cnt (Int.toNat i) (by omega) hii.2
      have hfu := fnd_unf O2
      have hbd := hbj.bd (Int.toNat i) (by omega) hii.2
      have hadd := hbj.add hj5 hnb hin hg1 hsm
      have hd2 : C2.drop p2 = i :: C2.drop (p2 + 1) := by rw [drop_get ho2, hi2]
      have hgi : gO O2 i = O2.getD (Int.toNat i) 0 := rfl
      have hsc := set_cnt (O := O2) (k := Int.toNat (nbT w i j)) (v := gO O2 i + 1) (by omega) hg1 (by rw [hgi]; unfold farI; omega)
      rw [Nat.add_zero, hi2]
      refine ⟨⟨by omega, by omega⟩, by rw [<- hi2]; exact intAt ho2 rfl, hbi, intAt (by omega) (by omega), vI64 (by omega), hin, by rw [flat_len intC_len]; omega, rfl, ⟨by omega, by decide, ⟨Nat.le_refl _, by rw [flat_len intC_len]; omega⟩, ⟨Nat.le_refl _, by simp⟩, rfl⟩, rfl, vI64 (by omega), (j + 1, C2.drop p2 ++ [nbT w i j], 0, O2.set (Int.toNat (nbT w i j)) (gO O2 i + 1)), ⟨by dsimp only; omega, by dsimp only; rw [List.length_append]; simp, by dsimp only; rw [hd2]; rfl, ?_, ?_⟩, by dsimp only; omega, rfl, ?_⟩
      ·dsimp only
       rw [hd2]
       exact hadd
      ·dsimp only
       rw [hd2]
       refine Nat.le_trans ?_ hme
       show measD (C2.drop (p2 + 1) ++ [nbT w i j]) _ <= _
       unfold measD
       rw [List.length_append, List.length_singleton]; omega
      ·rw [snoc_flat (by omega)]
       repeat' first | (exact setI (by omega) (by omega) rfl) | exact intB _ _ | (exact slO rfl (by dsimp only; rw [List.length_append, List.length_drop, List.length_singleton]; omega)) | exact rfl | exact wks_nil | apply And.intro
     ·have hg1 : gO O2 (nbT w i j) ≠ farI := fun q => by
       have q2 : O2.getD (Int.toNat (nbT w i j)) 0 = 1073741824 := q
       rw [q2] at g1; cases g1
      refine ⟨vI64 (by omega), (j + 1, C2, p2, O2), hsk (fun _ => hg1), by dsimp only; omega, rfl, ?_⟩
      repeat' first | exact intB _ _ | exact rfl | exact wks_nil | apply And.intro
     ·refine ⟨vI64 (by omega), (j + 1, C2, p2, O2), hsk (fun q => by have := q.2; rw [this] at l1; cases l1), by dsimp only; omega, rfl, ?_⟩
      repeat' first | exact intB _ _ | exact rfl | exact wks_nil | apply And.intro
    ·refine ⟨vI64 (by omega), (j + 1, C2, p2, O2), hsk (fun q => absurd q.1.2.2 (of_decide_eq_false v2)), by dsimp only; omega, rfl, ?_⟩
     repeat' first | exact intB _ _ | exact rfl | exact wks_nil | apply And.intro
    ·refine ⟨vI64 (by omega), (j + 1, C2, p2, O2), hsk (fun q => absurd q.1.2.1 (of_decide_eq_false v1)), by dsimp only; omega, rfl, ?_⟩
     repeat' first | exact intB _ _ | exact rfl | exact wks_nil | apply And.intro
    ·refine ⟨vI64 (by omega), (j + 1, C2, p2, O2), hsk (fun q => absurd q.1.1.2 (of_decide_eq_false u2)), by dsimp only; omega, rfl, ?_⟩
     repeat' first | exact intB _ _ | exact rfl | exact wks_nil | apply And.intro
    ·refine ⟨vI64 (by omega), (j + 1, C2, p2, O2), hsk (fun q => absurd q.1.1.1 (of_decide_eq_false u1)), by dsimp only; omega, rfl, ?_⟩
     repeat' first | exact intB _ _ | exact rfl | exact wks_nil | apply And.intro
   ·have hj : j = 4 := by have := of_decide_eq_false kj; omega
    subst hj
    refine ⟨⟨.inr (.inr rfl), Nat.le_refl _, by omega, by omega⟩, (C2, p2 + 1, O2), ⟨by dsimp only; omega, hbj.fin⟩, ?_, rfl, ?_⟩
    ·dsimp only
     rw [hdr]
     refine Nat.lt_of_le_of_lt hme ?_
     unfold measD
     rw [List.length_cons]; omega
    ·repeat' first | exact intB _ _ | (exact slO (by omega) (by omega)) | exact rfl | exact wks_nil | apply And.intro
  ·have hq : C.drop p = [] := List.drop_eq_nil_of_le (by have := of_decide_eq_false kq; omega)
   rw [hq] at hb
   have hE := hb.eq b hf
   have hlE : (dstL w h a f).length = a.length := by unfold dstL; exact tabP_len ..
   rw [hE]
   refine ⟨rfl, wk_QF hlE (by omega), ⟨rfl, intB _ _⟩, trivial⟩
theorem kSteps {w h : Int} {a : List Bool} {f : Int} (b : BasOk w h a.length) (hf : 0 <= f /\ f < (a.length : Int)) {H : Heap} {id : Nat} {own : Bool} {z : Nat} (hid : H[id]? = some (.cells own z (a.flatMap boolC))) :
  KCall prog 114 [basV w h id a.length, .int .i64 f] H [] (Is (.slice (some ⟨H.length, 0, some 1⟩) (dstL w h a f).length (dstL w h a f).length) (H ++ [.cells true 1 ((dstL w h a f).flatMap intC)])) :=
 valQ (fun j => .slice (some ⟨j, 0, some 1⟩) (dstL w h a f).length (dstL w h a f).length) (Eq.mpr (Esteps w h a f) (hvSteps b hf)) (plainBL _ _) (fun n => plainIL n _) rfl rfl (fun _ => rfl) hid rfl
end
end Go.Proofs.YtbgfjemppjhmjaaGreat
/- What is to be shown of functions. Printed by a program. No condition. -/
namespace Go.Proofs.YtbgfjemppjhmjaaGreat
set_option linter.unusedSimpArgs false
open Go Go.K
set_option maxRecDepth 100000
set_option maxHeartbeats 4000000
set_option linter.unusedVariables false
noncomputable section
abbrev kb4 (o1 : Bool) (z1 : Nat) (a : List Bool) (o2 : Bool) (z2 : Nat) (ss : List (Int × Int)) (w : Int) (h : Int) (p : Int) : Prop:=∀ H' : Heap,H'.length = 3 -> (H'[0]? = some (.cells o1 z1 (a.flatMap boolC) : KObj) /\ H'[1]? = some (.cells o2 z2 (ss.flatMap spC) : KObj) /\ True) -> KCall prog 41 [.agg #[nI w,nI h,slQ 0 2 a.length,nI p,slQ 1 2 ss.length]] H' [] (Is (nI (errT w h a p ss)) H')
abbrev kb6 : Value:=.tuple #[.pointer (some ⟨2,0,none⟩),nI 0]
abbrev kb2 (ss : List (Int × Int)) (w : Int) (h : Int) (a : List Bool) (p : Int) : Prop:=true = true /\ ((nI 0 : Value) = nI ((0 : Nat) : Int) /\ (.pointer none : Value) = .pointer none /\ (nI 0 : Value) = nI 0 /\ (.pointer (some ⟨3,0,none⟩) : Value) = .pointer (some ⟨3,0,none⟩) /\ wkR (slQ 1 2 ss.length) /\ (nI ((ss.length : Nat) : Int) : Value) = nI ((ss.length : Nat) : Int) /\ True) /\ (wkO (.cells true 0 [nI w,nI h,slQ 0 2 a.length,nI p,slQ 1 2 ss.length,.slice none 0 0] : KObj) (rno (sg 4 []) 3 (.cells true 0 [nI w,nI h,slQ 0 2 a.length,nI p,slQ 1 2 ss.length,slQ 4 1 (rowT w h a ss 0).length] : KObj)) /\ True) /\ (True /\ True) /\ (True)
abbrev kb1 (n_0 : Nat) (ss : List (Int × Int)) (o1 : Bool) (z1 : Nat) (a : List Bool) (w : Int) (h : Int) (p : Int) : Prop:=(decide (((n_0 : Int) : Int) < ((ss.length : Nat) : Int))) = true -> (((0 : Int) <= (n_0 : Int) /\ ((n_0 : Int) : Int) < ((ss.length : Nat) : Int)) /\ ((partA 2 (ss.flatMap spC) (0 + Int.toNat (n_0 : Int) * 2) = some (.agg #[nI (ss.getD n_0 zeroSp).1,nI (ss.getD n_0 zeroSp).2])) /\ (((someR (.cells o1 z1 (a.flatMap boolC))) /\ True) /\ (∀ H' : Heap,H'.length = 6 -> (H'[0]? = some (.cells o1 z1 (a.flatMap boolC) : KObj) /\ True) -> KCall prog 114 [.agg #[nI w,nI h,slQ 0 2 a.length],nI (ss.getD n_0 zeroSp).2] H' [] (Is (slQ 6 1 (dstL w h a (ss.getD n_0 zeroSp).2).length) (H' ++ [(.cells true 1 ((dstL w h a (ss.getD n_0 zeroSp).2).flatMap intC) : KObj)]))) /\ ((((rowT w h a ss n_0).length + 1) * 24 <= 2 ^ 44 /\ 1 ≠ 0 /\ ((rowT w h a ss n_0).length <= (rowT w h a ss n_0).length /\ 0 + (rowT w h a ss n_0).length * 1 <= List.length (inL (rowT w h a ss n_0))) /\ (1 <= 1 /\ 0 + 1 * 1 <= List.length ([.iface ((dstL w h a (ss.getD n_0 zeroSp).2).length + 1) (.agg ⟨((dstL w h a (ss.getD n_0 zeroSp).2).flatMap intC)⟩)] : List Value)) /\ (((([.iface ((dstL w h a (ss.getD n_0 zeroSp).2).length + 1) (.agg ⟨((dstL w h a (ss.getD n_0 zeroSp).2).flatMap intC)⟩)] : List Value).drop 0).take (1 * 1)) : List Value).all (fun v => one1 v) = true) /\ true = true /\ ((nI (IntKind.wrap .i64 ((n_0 : Int) + 1)) : Value) = nI ((n_0 : Int) + 1) /\ (∃ n_1' : Nat,(n_1' <= List.length ss) /\ (List.length ss - n_1') < (List.length ss - n_0) /\ true = true /\ ((nI ((n_0 : Int) + 1) : Value) = nI (n_1' : Int) /\ (.pointer none : Value) = .pointer none /\ (nI 0 : Value) = nI 0 /\ (.pointer (some ⟨3,0,none⟩) : Value) = .pointer (some ⟨3,0,none⟩) /\ wkR (slQ 1 2 ss.length) /\ (nI ((ss.length : Nat) : Int) : Value) = nI ((ss.length : Nat) : Int) /\ True) /\ (wkO (.cells true 0 [nI w,nI h,slQ 0 2 a.length,nI p,slQ 1 2 ss.length,.slice (some ⟨8,0,none⟩) ((rowT w h a ss n_0).length + 1) ((rowT w h a ss n_0).length + 1)] : KObj) (rno (sg 4 [(4,8)]) 3 (.cells true 0 [nI w,nI h,slQ 0 2 a.length,nI p,slQ 1 2 ss.length,slQ 4 1 (rowT w h a ss n_1').length] : KObj)) /\ True) /\ ((some (.cells true 1 ((((inL (rowT w h a ss n_0)).drop 0).take ((rowT w h a ss n_0).length * 1)) ++ ((([.iface ((dstL w h a (ss.getD n_0 zeroSp).2).length + 1) (.agg ⟨((dstL w h a (ss.getD n_0 zeroSp).2).flatMap intC)⟩)] : List Value).drop 0).take (1 * 1))) : KObj) = some (.cells true 1 (inL (rowT w h a ss n_1')) : KObj) /\ belowO 4 (.cells true 1 (inL (rowT w h a ss n_1')) : KObj) = true) /\ True) /\ (True)))))))
abbrev kb7 : Value:=.tuple #[.pointer (some ⟨3,0,none⟩),nI 0]
def Ropen0 (o1 o2 : Bool) (z1 z2 : Nat) (w h : Int) (a : List Bool) (p : Int) (ss : List (Int × Int)) : Prop :=
 (((someR (.cells o1 z1 (a.flatMap boolC))) /\ (someR (.cells o2 z2 (ss.flatMap spC))) /\ True) /\ (kb4 o1 z1 a o2 z2 ss w h p) /\ (((((errT w h a p ss) : Int) != 0) = true -> (true = true /\ wk (.tuple #[.pointer none,nI (errT w h a p ss)] : Value) (rn (sg 2 []) 3 kb6) /\ (True /\ True /\ True))) /\ ((((errT w h a p ss) : Int) != 0) = false -> (true = true /\ (0 <= List.length ss) /\ (kb2 ss w h a p) /\ (∀ n_0 : Nat,true = true) /\ ∀ n_0 : Nat,(n_0 <= List.length ss) -> ((kb1 n_0 ss o1 z1 a w h p) /\ ((decide (((n_0 : Int) : Int) < ((ss.length : Nat) : Int))) = false -> (true = true /\ wk kb7 (rn (sg 2 [(2,3),(3,4)]) 3 kb6) /\ (wkO (.cells true 0 [nI w,nI h,slQ 0 2 a.length,nI p,slQ 1 2 ss.length,slQ 4 1 (rowT w h a ss n_0).length] : KObj) (rno (sg 2 [(2,3),(3,4)]) 3 (.cells true 0 [nI w,nI h,slQ 0 2 a.length,nI p,slQ 1 2 ss.length,slQ 3 1 (rowT w h a ss ss.length).length] : KObj)) /\ (some (.cells true 1 (inL (rowT w h a ss n_0)) : KObj) = some (.cells true 1 (inL (rowT w h a ss ss.length)) : KObj) /\ belowO 2 (.cells true 1 (inL (rowT w h a ss ss.length)) : KObj) = true) /\ True))))))))
abbrev kb5 (n_0 : Nat) (ss : List (Int × Int)) : List (Nat × Value):=[(22,nI (n_0 : Int)),(2,.pointer none),(3,nI 0),(5,.pointer (some ⟨3,0,none⟩)),(20,slQ 1 2 ss.length),(21,nI ((ss.length : Nat) : Int))]
abbrev kb0 (qn0 : Nat) : Hint:=.into (some [3,4,5,6]) (.go 5 (.frz [9] (.go 0 (.need (.go 3 (.slot 38 (nI ((qn0 : Int) + 1)) (.go 0 (.again [(4,8)]))))))))
abbrev kb3 (ss : List (Int × Int)) (n_0 : Nat) (o1 : Bool) (z1 : Nat) (a : List Bool) (w : Int) (h : Int) : Hint:=.need (.val (.agg #[nI (ss.getD n_0 zeroSp).1,nI (ss.getD n_0 zeroSp).2]) (.go 11 (.ans [(0,.cells o1 z1 (a.flatMap boolC))] (slQ 6 1 (dstL w h a (ss.getD n_0 zeroSp).2).length) [.cells true 1 ((dstL w h a (ss.getD n_0 zeroSp).2).flatMap intC)] (kb0 n_0))))
theorem Eopen0 (o1 o2 : Bool) (z1 z2 : Nat) (w h : Int) (a : List Bool) (p : Int) (ss : List (Int × Int)) : vF prog msk (dm 0) 100000 true 40 true 72 [.agg #[nI w,nI h,slQ 0 2 a.length,nI p,slQ 1 2 ss.length]] (readsK [.cells o1 z1 (a.flatMap boolC),.cells o2 z2 (ss.flatMap spC)]) (some [])
 (.go 3 (.ans [(0,.cells o1 z1 (a.flatMap boolC)),(1,.cells o2 z2 (ss.flatMap spC))] (nI (errT w h a p ss)) [] (.go 2 (.fork (.go 2 (.again [])) (.go 10 (.inv 3 (Nat) (0) [] [3] (fun n_0 => (kb5 n_0 ss)) (fun n_0 => [(3,false,.cells true 0 [nI w,nI h,slQ 0 2 a.length,nI p,slQ 1 2 ss.length,slQ 4 1 (rowT w h a ss n_0).length])]) (fun n_0 => [(true,.cells true 1 (inL (rowT w h a ss n_0)))]) (fun n_0 => []) (fun n_0 => (n_0 <= List.length ss)) (fun n_0 => (List.length ss - n_0)) (fun n_0 => .go 0 (.fork (kb3 ss n_0 o1 z1 a w h) (.go 2 (.again [(2,3),(3,4)]))))))))))
 (newK ((readsK [.cells o1 z1 (a.flatMap boolC),.cells o2 z2 (ss.flatMap spC)]) : HT).n 3 (.tuple #[.pointer (some ⟨2,0,none⟩),nI 0]) [(false,.cells true 0 [nI w,nI h,slQ 0 2 a.length,nI p,slQ 1 2 ss.length,slQ 3 1 (rowT w h a ss ss.length).length]),(true,.cells true 1 (inL (rowT w h a ss ss.length)))]) = Ropen0 o1 o2 z1 z2 w h a p ss:=by kernel_rfl
end
end Go.Proofs.YtbgfjemppjhmjaaGreat
/- Radio: a track at work: opened. No condition. -/
namespace Go.Proofs.YtbgfjemppjhmjaaGreat
open Go Go.K
set_option maxRecDepth 100000
set_option linter.unusedVariables false
set_option linter.unusedSimpArgs false
noncomputable section
attribute [local irreducible] vF
theorem rowT_len (w h : Int) (a : List Bool) (ss : List (Int × Int)) (x : Nat) : (rowT w h a ss x).length = x := tabP_len ..
theorem rowT_succ (w h : Int) (a : List Bool) (ss : List (Int × Int)) (x : Nat) : rowT w h a ss (x + 1) = rowT w h a ss x ++ [dstL w h a (ss.getD x zeroSp).2] := tabP_succ ..
theorem ob_inL {L M : List (List Int)} {x : List Int} {c : List Value} (hM : M = L ++ [x]) (hc : [inV x] = c) : (some (KObj.cells true 1 (List.take (L.length * 1) (List.drop 0 (inL L)) ++ List.take (1 * 1) (List.drop 0 c))) : Option KObj) = some (.cells true 1 (inL M)) := by
 subst hc hM
 rw [List.drop_zero, List.drop_zero, Nat.mul_one, List.take_of_length_le (by rw [inL_len]; omega)]
 unfold inL
 rw [List.map_append]; rfl
theorem inLB (n : Nat) (l : List (List Int)) : belowO n (.cells true 1 (inL l)) = true := inL_b n l
structure TrOk (w h : Int) (a : List Bool) (p : Int) (ss : List (Int × Int)) : Prop where
 bas : BasOk w h a.length
 pace : 1 <= p /\ p <= 1000
 few : ss.length <= 20
 seen : ∀ s ∈ ss, (0 <= s.1 /\ s.1 <= 100000) /\ (0 <= s.2 /\ s.2 < (a.length : Int)) /\ a.getD (Int.toNat s.2) false = false
theorem seaB_in {a : List Bool} {c : Int} (h : seaB a c = true) : (0 <= c /\ c < (a.length : Int)) /\ a.getD (Int.toNat c) false = false := by
 unfold seaB at h
 simp only [Bool.and_eq_true, decide_eq_true_eq] at h
 refine ⟨by omega, ?_⟩
 have := h.2
 simpa using this
theorem trOk {w h : Int} {a : List Bool} {p : Int} {ss : List (Int × Int)} (e : errT w h a p ss = 0) : TrOk w h a p ss := by
 unfold errT at e
 split at e
 ·rename_i hb
  split at e
  ·rename_i hp
   split at e
   ·rename_i hs
    split at e
    ·rename_i ha
     refine ⟨basOk hb, hp, hs, fun s hm => ?_⟩
     have h1 := List.all_eq_true.1 ha s hm
     unfold okS at h1
     simp only [Bool.and_eq_true, decide_eq_true_eq] at h1
     exact ⟨h1.1, seaB_in h1.2⟩
    ·cases e
   ·cases e
  ·cases e
 ·rename_i hb; exact absurd e hb
theorem TrOk.bd {w h : Int} {a : List Bool} {p : Int} {ss : List (Int × Int)} (t : TrOk w h a p ss) {x : Nat} (hx : x < ss.length) : (0 <= (ss.getD x zeroSp).1 /\ (ss.getD x zeroSp).1 <= 100000) /\ (0 <= (ss.getD x zeroSp).2 /\ (ss.getD x zeroSp).2 < (a.length : Int)) := ⟨(t.seen _ (getD_mem hx)).1, (t.seen _ (getD_mem hx)).2.1⟩
theorem wkQ0 {id : Nat} {L : List (List Int)} (h : L.length = 0) : wk (.slice none 0 0) (.slice (some ⟨id, 0, some 1⟩) L.length L.length) := by rw [h]; exact wk_nil _ _ _ (.inl rfl)
theorem hvO0 {o1 o2 : Bool} {z1 z2 : Nat} {w h : Int} {a : List Bool} {p : Int} {ss : List (Int × Int)} (ha : a.length <= 100000) (hs : ss.length <= 100000) (e0 : errT w h a p ss = 0) : Ropen0 o1 o2 z1 z2 w h a p ss := by
 have t := trOk e0
 have hf := t.few
 delta Ropen0 kb4 kb6 kb2 kb1 kb7
 refine ⟨⟨rfl, rfl, trivial⟩, fun H' _ h => kTrack _ _ _ _ _ ha hs h.1 h.2.1, fun e => absurd e0 (neB e), fun _ => ⟨rfl, Nat.zero_le _, ?_, fun _ => rfl, fun x hx => ⟨fun k => ?_, fun k => ?_⟩⟩⟩
 ·repeat' first | exact wkQ0 (rowT_len ..) | exact inLB _ _ | exact rfl | exact wk_refl _ | refine wkO_cells ?_ | exact wks_nil | exact wk_nil _ _ _ (.inl rfl) | apply And.intro
 ·have h1 : x < ss.length := by have := of_decide_eq_true k; omega
  have hl := rowT_len w h a ss x
  refine ⟨⟨by omega, by omega⟩, spPart h1 (by omega), ⟨rfl, trivial⟩, fun H' hH h => hH ▸ kSteps t.bas (t.bd h1).2 h.1, ⟨by omega, by decide, ⟨Nat.le_refl _, by rw [inL_len]; omega⟩, ⟨Nat.le_refl _, by simp⟩, rfl⟩, rfl, vI64 (by omega), x + 1, by omega, by omega, rfl, ?_, ?_, ?_, trivial⟩
  ·repeat' first | exact rfl | exact wk_refl _ | refine wkO_cells ?_ | exact wks_nil | exact wk_nil _ _ _ (.inl rfl) | apply And.intro
  ·repeat' first | exact wk_snoc (rowT_succ w h a ss x) | exact rfl | exact wk_refl _ | refine wkO_cells ?_ | exact wks_nil | exact wk_nil _ _ _ (.inl rfl) | apply And.intro
  ·exact ⟨⟨ob_inL (rowT_succ w h a ss x) rfl, inLB _ _⟩, trivial⟩
 ·have h1 : x = ss.length := by have := of_decide_eq_false k; omega
  rw [h1]
  repeat' first | exact inLB _ _ | exact rfl | exact wk_refl _ | refine wkO_cells ?_ | exact wks_nil | exact wk_nil _ _ _ (.inl rfl) | apply And.intro
theorem boolRno (o : Bool) (z : Nat) (l : List Bool) (σ : Nat -> Option Nat) : rno σ 3 (.cells o z (l.flatMap boolC)) = .cells o z (l.flatMap boolC) := congrArg (KObj.cells o z) (rnCl (d := 0) (plainBL 0 l)).1
theorem boolRok (o : Bool) (z : Nat) (l : List Bool) : rnoOk 3 (.cells o z (l.flatMap boolC)) = true := (rnCl (σ := fun _ => none) (d := 0) (plainBL 0 l)).2
theorem spRno (o : Bool) (z : Nat) (l : List (Int × Int)) (σ : Nat -> Option Nat) : rno σ 3 (.cells o z (l.flatMap spC)) = .cells o z (l.flatMap spC) := congrArg (KObj.cells o z) (rnCl (d := 0) (plainSp 0 l)).1
theorem spRok (o : Bool) (z : Nat) (l : List (Int × Int)) : rnoOk 3 (.cells o z (l.flatMap spC)) = true := (rnCl (σ := fun _ => none) (d := 0) (plainSp 0 l)).2
theorem inLRno (o : Bool) (z : Nat) (l : List (List Int)) (σ : Nat -> Option Nat) : rno σ 3 (.cells o z (inL l)) = .cells o z (inL l) := congrArg (KObj.cells o z) (rnCl (d := 0) (inL_b 0 l)).1
theorem inLRok (o : Bool) (z : Nat) (l : List (List Int)) : rnoOk 3 (.cells o z (inL l)) = true := (rnCl (σ := fun _ => none) (d := 0) (inL_b 0 l)).2
theorem trk_ok (o1 o2 : Bool) (z1 z2 : Nat) (a : List Bool) (ss : List (Int × Int)) : [KObj.cells o1 z1 (a.flatMap boolC), .cells o2 z2 (ss.flatMap spC)].all (rnoOk 3) = true := by
 show (rnoOk 3 (.cells o1 z1 (a.flatMap boolC)) && (rnoOk 3 (.cells o2 z2 (ss.flatMap spC)) && true)) = true
 rw [boolRok, spRok]; rfl
theorem trk_objs {H : Heap} {i j : Nat} {o1 o2 : Bool} {z1 z2 : Nat} {a : List Bool} {ss : List (Int × Int)} (hi : H[i]? = some (.cells o1 z1 (a.flatMap boolC))) (hj : H[j]? = some (.cells o2 z2 (ss.flatMap spC))) :
  objsAt H (sgI [i, j]) [i, j] [.cells o1 z1 (a.flatMap boolC), .cells o2 z2 (ss.flatMap spC)] := ⟨by rw [boolRno]; exact hi, by rw [spRno]; exact hj, trivial⟩
abbrev wkCs (w h : Int) (a : List Bool) (p : Int) (ss : List (Int × Int)) (rr : List (List Int)) (i j r : Nat) : List Value := [.int .i64 w, .int .i64 h, .slice (some ⟨i, 0, some 2⟩) a.length a.length, .int .i64 p, .slice (some ⟨j, 0, some 2⟩) ss.length ss.length, .slice (some ⟨r, 0, some 1⟩) rr.length rr.length]
abbrev trkRows (w h : Int) (a : List Bool) (ss : List (Int × Int)) : List (List Int) := rowT w h a ss ss.length
theorem kOpen0 {w h : Int} {a : List Bool} {p : Int} {ss : List (Int × Int)} (ha : a.length <= 100000) (hs : ss.length <= 100000) (e0 : errT w h a p ss = 0) {H : Heap} {i j : Nat} (hne : i ≠ j) {o1 o2 : Bool} {z1 z2 : Nat} (hi : H[i]? = some (.cells o1 z1 (a.flatMap boolC))) (hj : H[j]? = some (.cells o2 z2 (ss.flatMap spC))) :
  KCall prog 72 [trkV w h a p ss i j] H [] (Is (.tuple #[.pointer (some ⟨H.length, 0, none⟩), .int .i64 0]) (H ++ [.cells true 0 (wkCs w h a p ss (trkRows w h a ss) i j (H.length + 1)), .cells true 1 (inL (trkRows w h a ss))])) := by
 have key := vcK mskOk mixed glob0 40 (os := [.cells o1 z1 (a.flatMap boolC), .cells o2 z2 (ss.flatMap spC)]) (v := .tuple #[.pointer (some ⟨2, 0, none⟩), .int .i64 0])
  (new := [(false, .cells true 0 (wkCs w h a p ss (trkRows w h a ss) 0 1 3)), (true, .cells true 1 (inL (trkRows w h a ss)))]) (Eq.mpr (Eopen0 o1 o2 z1 z2 w h a p ss) (hvO0 ha hs e0)) (trk_ok ..) rfl
  (by show ((rnoOk 3 (.cells true 0 (wkCs w h a p ss (trkRows w h a ss) 0 1 3)) && true) && ((rnoOk 3 (.cells true 1 (inL (trkRows w h a ss))) && true) && true)) = true; rw [inLRok]; rfl) (H := H) (ids := [i, j]) (by simp [hne]) (trk_objs hi hj)
 have e : (List.map (rno (sgNew (sgI [i, j]) 2 H.length) 3) ([(false, KObj.cells true 0 (wkCs w h a p ss (trkRows w h a ss) 0 1 3)), (true, .cells true 1 (inL (trkRows w h a ss)))].map (·.2))) = [.cells true 0 (wkCs w h a p ss (trkRows w h a ss) i j (H.length + 1)), .cells true 1 (inL (trkRows w h a ss))] := by
  show [rno _ 3 (.cells true 0 (wkCs w h a p ss (trkRows w h a ss) 0 1 3)), rno _ 3 (.cells true 1 (inL (trkRows w h a ss)))] = _
  rw [inLRno]; rfl
 have e2 : ([KObj.cells o1 z1 (a.flatMap boolC), .cells o2 z2 (ss.flatMap spC)] : List KObj).length = 2 := rfl
 rw [e2, e] at key
 exact key
end
end Go.Proofs.YtbgfjemppjhmjaaGreat
/- What is to be shown of functions. Printed by a program. No condition. -/
namespace Go.Proofs.YtbgfjemppjhmjaaGreat
set_option linter.unusedSimpArgs false
open Go Go.K
set_option maxRecDepth 100000
set_option maxHeartbeats 4000000
set_option linter.unusedVariables false
noncomputable section
abbrev kq6 (i : Nat) : Int:=(i : Nat)
abbrev kq4 (ss : List (Int × Int)) : Int:=(ss.length : Nat)
abbrev kqa (ss : List (Int × Int)) (i : Nat):=ss.getD i zeroSp
def Rcan (o1 o2 : Bool) (z1 z2 : Nat) (w h : Int) (a : List Bool) (p : Int) (ss : List (Int × Int)) (rr : List (List Int)) (i : Nat) (c m : Int) : Prop :=
 (((0 : Int) <= (kq6 i) /\ ((kq6 i) : Int) < ((rr.length : Nat) : Int)) /\ (((inL rr)[(0 + Int.toNat (kq6 i) * 1)]? = some (.iface ((rr.getD i []).length + 1) (.agg ⟨((rr.getD i []).flatMap intC)⟩))) /\ (((0 : Int) <= c /\ (c : Int) < (((rr.getD i []).length : Nat) : Int)) /\ ((((rr.getD i []).flatMap intC)[(Int.toNat c * 1)]? = some (nI ((rr.getD i []).getD c.toNat 0))) /\ (((decide ((((rr.getD i []).getD c.toNat 0) : Int) < 1073741824)) = true -> ((nI (IntKind.wrap .i64 (((rr.getD i []).getD c.toNat 0) * p)) : Value) = nI (((rr.getD i []).getD c.toNat 0) * p) /\ (((0 : Int) <= (kq6 i) /\ ((kq6 i) : Int) < (kq4 ss)) /\ (((ss.flatMap spC)[((0 + Int.toNat (kq6 i) * 2) + 0)]? = some (nI (kqa ss i).1)) /\ ((nI (IntKind.wrap .i64 (m - (kqa ss i).1)) : Value) = nI (m - (kqa ss i).1) /\ (((0 : Int) <= (kq6 i) /\ ((kq6 i) : Int) < (kq4 ss)) /\ (((ss.flatMap spC)[((0 + Int.toNat (kq6 i) * 2) + 0)]? = some (nI (kqa ss i).1)) /\ ((nI (IntKind.wrap .i64 ((kqa ss i).1 - m)) : Value) = nI ((kqa ss i).1 - m) /\ (true = true /\ wk (.bool (decide (((((rr.getD i []).getD c.toNat 0) * p) : Int) <= (if (((kqa ss i).1 - m) : Int) > (m - (kqa ss i).1) then (((kqa ss i).1 - m) : Int) else (m - (kqa ss i).1)))) : Value) (rn (sg 4 []) 3 (.bool (canB p ss rr i c m) : Value)) /\ (True)))))))))) /\ ((decide ((((rr.getD i []).getD c.toNat 0) : Int) < 1073741824)) = false -> (true = true /\ wk (.bool false : Value) (rn (sg 4 []) 3 (.bool (canB p ss rr i c m) : Value)) /\ (True))))))))
abbrev kq5 (w : Int) (h : Int) (a : List Bool) (p : Int) (ss : List (Int × Int)) (rr : List (List Int)) : List Value:=[nI w,nI h,slQ 0 2 a.length,nI p,slQ 1 2 ss.length,slQ 3 1 rr.length]
abbrev kq1 (o1 : Bool) (z1 : Nat) (a : List Bool) (o2 : Bool) (z2 : Nat) (ss : List (Int × Int)) (w : Int) (h : Int) (p : Int) (rr : List (List Int)):=readsK [.cells o1 z1 (a.flatMap boolC),.cells o2 z2 (ss.flatMap spC),.cells true 0 (kq5 w h a p ss rr),.cells true 1 (inL rr)]
theorem Ecan (o1 o2 : Bool) (z1 z2 : Nat) (w h : Int) (a : List Bool) (p : Int) (ss : List (Int × Int)) (rr : List (List Int)) (i : Nat) (c m : Int) : vF prog msk (dm 0) 100000 true 40 true 79 [.pointer (some ⟨2,0,none⟩),nI (kq6 i),nI c,nI m] (kq1 o1 z1 a o2 z2 ss w h p rr) (some [])
 (.go 12 (.need (.val (.iface ((rr.getD i []).length + 1) (.agg ⟨((rr.getD i []).flatMap intC)⟩)) (.go 0 (.need (.val (nI ((rr.getD i []).getD c.toNat 0)) (.go 4 (.gfork (.go 6 (.slot 25 (nI (((rr.getD i []).getD c.toNat 0) * p)) (.go 6 (.need (.go 0 (.val (nI (kqa ss i).1) (.go 0 (.slot 36 (nI (m - (kqa ss i).1)) (.go 5 (.need (.go 0 (.val (nI (kqa ss i).1) (.go 1 (.slot 47 (nI ((kqa ss i).1 - m)) (.go 3 (.again [])))))))))))))))) (.go 1 (.again []))))))))))
 (newK ((kq1 o1 z1 a o2 z2 ss w h p rr) : HT).n 3 (.bool (canB p ss rr i c m)) []) = Rcan o1 o2 z1 z2 w h a p ss rr i c m:=by kernel_rfl
def Ragree (o1 o2 : Bool) (z1 z2 : Nat) (w h : Int) (a : List Bool) (p : Int) (ss : List (Int × Int)) (rr : List (List Int)) (i k : Nat) : Prop :=
 (((0 : Int) <= ((k : Nat) : Int) /\ (((k : Nat) : Int) : Int) < (kq4 ss)) /\ (((ss.flatMap spC)[((0 + Int.toNat ((k : Nat) : Int) * 2) + 1)]? = some (nI (ss.getD k zeroSp).2)) /\ (((0 : Int) <= ((k : Nat) : Int) /\ (((k : Nat) : Int) : Int) < (kq4 ss)) /\ (((ss.flatMap spC)[((0 + Int.toNat ((k : Nat) : Int) * 2) + 0)]? = some (nI (ss.getD k zeroSp).1)) /\ (((someR (.cells true 0 (kq5 w h a p ss rr))) /\ (someR (.cells o1 z1 (a.flatMap boolC))) /\ (someR (.cells o2 z2 (ss.flatMap spC))) /\ (someR (.cells true 1 (inL rr))) /\ True) /\ (∀ H' : Heap,H'.length = 4 -> (H'[2]? = some (.cells true 0 (kq5 w h a p ss rr) : KObj) /\ H'[0]? = some (.cells o1 z1 (a.flatMap boolC) : KObj) /\ H'[1]? = some (.cells o2 z2 (ss.flatMap spC) : KObj) /\ H'[3]? = some (.cells true 1 (inL rr) : KObj) /\ True) -> KCall prog 79 [.pointer (some ⟨2,0,none⟩),nI (kq6 i),nI (ss.getD k zeroSp).2,nI (ss.getD k zeroSp).1] H' [] (Is (.bool (canB p ss rr i (ss.getD k zeroSp).2 (ss.getD k zeroSp).1)) H')) /\ (true = true /\ wk (.bool (canB p ss rr i (ss.getD k zeroSp).2 (ss.getD k zeroSp).1) : Value) (rn (sg 4 []) 3 (.bool (agrB p ss rr i k) : Value)) /\ (True)))))))
theorem Eagree (o1 o2 : Bool) (z1 z2 : Nat) (w h : Int) (a : List Bool) (p : Int) (ss : List (Int × Int)) (rr : List (List Int)) (i k : Nat) : vF prog msk (dm 0) 100000 true 40 true 87 [.pointer (some ⟨2,0,none⟩),nI (kq6 i),nI ((k : Nat) : Int)] (kq1 o1 z1 a o2 z2 ss w h p rr) (some [])
 (.go 8 (.need (.go 0 (.val (nI (ss.getD k zeroSp).2) (.go 5 (.need (.go 0 (.val (nI (ss.getD k zeroSp).1) (.ans [(2,.cells true 0 (kq5 w h a p ss rr)),(0,.cells o1 z1 (a.flatMap boolC)),(1,.cells o2 z2 (ss.flatMap spC)),(3,.cells true 1 (inL rr))] (.bool (canB p ss rr i (ss.getD k zeroSp).2 (ss.getD k zeroSp).1)) [] (.go 0 (.again [])))))))))))
 (newK ((kq1 o1 z1 a o2 z2 ss w h p rr) : HT).n 3 (.bool (agrB p ss rr i k)) []) = Ragree o1 o2 z1 z2 w h a p ss rr i k:=by kernel_rfl
abbrev kq3 (ss : List (Int × Int)) : Prop:=(.slice none 0 0 : Value) = .slice none 0 0 /\ (nI (kq4 ss) : Value) = nI (kq4 ss) /\ True
abbrev kq8 (n_0 : Nat) : Value:=nI (IntKind.wrap .i64 ((n_0 : Int) + 1))
def Rall (o1 o2 : Bool) (z1 z2 : Nat) (w h : Int) (a : List Bool) (p : Int) (ss : List (Int × Int)) (rr : List (List Int)) : Prop :=
 (true = true /\ (0 <= List.length ss) /\ (true = true /\ ((nI 0 : Value) = nI ((0 : Nat) : Int) /\ wk (.slice none 0 0 : Value) (slQ 0 1 (allL 0).length : Value) /\ kq3 ss) /\ (True) /\ (True /\ True) /\ (True)) /\ (∀ n_0 : Nat,true = true) /\ ∀ n_0 : Nat,(n_0 <= List.length ss) -> (((decide (((n_0 : Int) : Int) < (kq4 ss))) = true -> ((((allL n_0).length + 1) * 8 <= 2 ^ 44 /\ 1 ≠ 0 /\ ((allL n_0).length <= (allL n_0).length /\ 0 + (allL n_0).length * 1 <= List.length ((allL n_0).flatMap intC)) /\ (1 <= 1 /\ 0 + 1 * 1 <= List.length ([nI (n_0 : Int)] : List Value)) /\ (((([nI (n_0 : Int)] : List Value).drop 0).take (1 * 1)) : List Value).all (fun v => one1 v) = true) /\ true = true /\ ((kq8 n_0) = nI ((n_0 : Int) + 1) /\ (∃ n_1' : Nat,(n_1' <= List.length ss) /\ (List.length ss - n_1') < (List.length ss - n_0) /\ true = true /\ ((nI ((n_0 : Int) + 1) : Value) = nI (n_1' : Int) /\ wk (.slice (some ⟨6,0,none⟩) ((allL n_0).length + 1) ((allL n_0).length + 1) : Value) (slQ 6 1 (allL n_1').length : Value) /\ kq3 ss) /\ (True) /\ ((some (.cells true 1 (((((allL n_0).flatMap intC).drop 0).take ((allL n_0).length * 1)) ++ ((([nI (n_0 : Int)] : List Value).drop 0).take (1 * 1))) : KObj) = some (.cells true 1 ((allL n_1').flatMap intC) : KObj) /\ belowO 4 (.cells true 1 ((allL n_1').flatMap intC) : KObj) = true) /\ True) /\ (True))))) /\ ((decide (((n_0 : Int) : Int) < (kq4 ss))) = false -> (true = true /\ wk (slQ 4 1 (allL n_0).length : Value) (rn (sg 4 [(4,4)]) 3 (slQ 4 1 (allL ss.length).length : Value)) /\ ((some (.cells true 1 ((allL n_0).flatMap intC) : KObj) = some (.cells true 1 ((allL ss.length).flatMap intC) : KObj) /\ belowO 4 (.cells true 1 ((allL ss.length).flatMap intC) : KObj) = true) /\ True)))))
abbrev kq0 (qn0 : Nat) (qn1 : Nat) (qn2 : Nat) (qn3 : Nat) (qn4 : Nat) : Hint:=.go qn0 (.slot qn1 (nI ((qn2 : Int) + 1)) (.go 0 (.again [(qn3,qn4)])))
theorem Eall (o1 o2 : Bool) (z1 z2 : Nat) (w h : Int) (a : List Bool) (p : Int) (ss : List (Int × Int)) (rr : List (List Int)) : vF prog msk (dm 0) 100000 true 40 true 77 [.pointer (some ⟨2,0,none⟩)] (kq1 o1 z1 a o2 z2 ss w h p rr) (some [])
 (.go 8 (.inv 3 (Nat) (0) [] [] (fun n_0 => [(11,nI (n_0 : Int)),(3,slQ 4 1 (allL n_0).length),(2,.slice none 0 0),(10,nI (kq4 ss))]) (fun n_0 => []) (fun n_0 => [(true,.cells true 1 ((allL n_0).flatMap intC))]) (fun n_0 => []) (fun n_0 => (n_0 <= List.length ss)) (fun n_0 => (List.length ss - n_0)) (fun n_0 => .go 0 (.fork (.go 4 (.need (kq0 1 18 n_0 4 6))) (.go 1 (.again [(4,4)]))))))
 (newK ((kq1 o1 z1 a o2 z2 ss w h p rr) : HT).n 3 (slQ 4 1 (allL ss.length).length) [(true,.cells true 1 ((allL ss.length).flatMap intC))]) = Rall o1 o2 z1 z2 w h a p ss rr:=by kernel_rfl
abbrev kq9 (ss : List (Int × Int)) : Prop:=(.pointer (some ⟨2,0,none⟩) : Value) = .pointer (some ⟨2,0,none⟩) /\ kq3 ss
abbrev kq2 (ss : List (Int × Int)) (n_0 : Nat) : Prop:=(nI (kq4 ss) : Value) = nI (kq4 ss) /\ (.slice none 0 0 : Value) = .slice none 0 0 /\ (.pointer (some ⟨2,0,none⟩) : Value) = .pointer (some ⟨2,0,none⟩) /\ (nI (n_0 : Int) : Value) = nI (n_0 : Int) /\ (nI (n_0 : Int) : Value) = nI (n_0 : Int) /\ True
abbrev kq7 (p : Int) (ss : List (Int × Int)) (rr : List (List Int)) (n_0 : Nat) (n_2' : Nat) : KObj:=.cells true 2 ((cfTo p ss rr n_0 ++ cfRow p ss rr n_0 n_2').flatMap spC)
def Rconf (o1 o2 : Bool) (z1 z2 : Nat) (w h : Int) (a : List Bool) (p : Int) (ss : List (Int × Int)) (rr : List (List Int)) : Prop :=
 (true = true /\ (0 <= List.length ss) /\ (true = true /\ ((nI 0 : Value) = nI ((0 : Nat) : Int) /\ wk (.slice none 0 0 : Value) (slQ 0 1 (cfTo p ss rr 0).length : Value) /\ kq9 ss) /\ (True) /\ (True /\ True) /\ (True)) /\ (∀ n_0 : Nat,true = true) /\ ∀ n_0 : Nat,(n_0 <= List.length ss) -> (((decide (((n_0 : Int) : Int) < (kq4 ss))) = true -> ((kq8 n_0) = nI ((n_0 : Int) + 1) /\ (true = true /\ (n_0 < (n_0 + 1) /\ ((n_0 + 1) <= List.length ss ∨ (n_0 + 1) = n_0 + 1)) /\ (true = true /\ ((nI ((n_0 : Int) + 1) : Value) = nI (((n_0 + 1) : Nat) : Int) /\ wk (slQ 4 1 (cfTo p ss rr n_0).length : Value) (slQ 4 1 (cfTo p ss rr n_0 ++ cfRow p ss rr n_0 (n_0 + 1)).length : Value) /\ kq2 ss n_0) /\ (True /\ True) /\ ((some (.cells true 2 ((cfTo p ss rr n_0).flatMap spC) : KObj) = some (.cells true 2 ((cfTo p ss rr n_0 ++ cfRow p ss rr n_0 (n_0 + 1)).flatMap spC) : KObj) /\ belowO 5 (.cells true 2 ((cfTo p ss rr n_0 ++ cfRow p ss rr n_0 (n_0 + 1)).flatMap spC) : KObj) = true) /\ True) /\ (True)) /\ (∀ n_1 : Nat,true = true) /\ ∀ n_1 : Nat,(n_0 < n_1 /\ (n_1 <= List.length ss ∨ n_1 = n_0 + 1)) -> (((decide (((n_1 : Int) : Int) < (kq4 ss))) = true -> (((someR (.cells true 0 (kq5 w h a p ss rr))) /\ (someR (.cells o1 z1 (a.flatMap boolC))) /\ (someR (.cells o2 z2 (ss.flatMap spC))) /\ (someR (.cells true 1 (inL rr))) /\ True) /\ (∀ H' : Heap,H'.length = 6 -> (H'[2]? = some (.cells true 0 (kq5 w h a p ss rr) : KObj) /\ H'[0]? = some (.cells o1 z1 (a.flatMap boolC) : KObj) /\ H'[1]? = some (.cells o2 z2 (ss.flatMap spC) : KObj) /\ H'[3]? = some (.cells true 1 (inL rr) : KObj) /\ True) -> KCall prog 87 [.pointer (some ⟨2,0,none⟩),nI (n_0 : Int),nI (n_1 : Int)] H' [] (Is (.bool (agrB p ss rr n_0 n_1)) H')) /\ (((!(agrB p ss rr n_0 n_1)) = true -> ((((cfTo p ss rr n_0 ++ cfRow p ss rr n_0 n_1).length + 1) * 16 <= 2 ^ 44 /\ 1 ≠ 0 /\ ((cfTo p ss rr n_0 ++ cfRow p ss rr n_0 n_1).length <= (cfTo p ss rr n_0 ++ cfRow p ss rr n_0 n_1).length /\ 0 + (cfTo p ss rr n_0 ++ cfRow p ss rr n_0 n_1).length * 2 <= List.length ((cfTo p ss rr n_0 ++ cfRow p ss rr n_0 n_1).flatMap spC)) /\ (1 <= 1 /\ 0 + 1 * 2 <= List.length ([nI (n_0 : Int),nI (n_1 : Int)] : List Value)) /\ (((([nI (n_0 : Int),nI (n_1 : Int)] : List Value).drop 0).take (1 * 2)) : List Value).all (fun v => one1 v) = true) /\ true = true /\ ((nI (IntKind.wrap .i64 ((n_1 : Int) + 1)) : Value) = nI ((n_1 : Int) + 1) /\ (∃ n_2' : Nat,(n_0 < n_2' /\ (n_2' <= List.length ss ∨ n_2' = n_0 + 1)) /\ (List.length ss - n_2') < (List.length ss - n_1) /\ true = true /\ ((nI ((n_1 : Int) + 1) : Value) = nI (n_2' : Int) /\ wk (.slice (some ⟨7,0,none⟩) ((cfTo p ss rr n_0 ++ cfRow p ss rr n_0 n_1).length + 1) ((cfTo p ss rr n_0 ++ cfRow p ss rr n_0 n_1).length + 1) : Value) (slQ 7 1 (cfTo p ss rr n_0 ++ cfRow p ss rr n_0 n_2').length : Value) /\ kq2 ss n_0) /\ (True /\ True) /\ ((some (.cells true 2 (((((cfTo p ss rr n_0 ++ cfRow p ss rr n_0 n_1).flatMap spC).drop 0).take ((cfTo p ss rr n_0 ++ cfRow p ss rr n_0 n_1).length * 2)) ++ ((([nI (n_0 : Int),nI (n_1 : Int)] : List Value).drop 0).take (1 * 2))) : KObj) = some (kq7 p ss rr n_0 n_2') /\ belowO 5 (kq7 p ss rr n_0 n_2') = true) /\ True) /\ (True))))) /\ ((!(agrB p ss rr n_0 n_1)) = false -> ((nI (IntKind.wrap .i64 ((n_1 : Int) + 1)) : Value) = nI ((n_1 : Int) + 1) /\ (∃ n_2' : Nat,(n_0 < n_2' /\ (n_2' <= List.length ss ∨ n_2' = n_0 + 1)) /\ (List.length ss - n_2') < (List.length ss - n_1) /\ true = true /\ ((nI ((n_1 : Int) + 1) : Value) = nI (n_2' : Int) /\ wk (slQ 5 1 (cfTo p ss rr n_0 ++ cfRow p ss rr n_0 n_1).length : Value) (slQ 5 1 (cfTo p ss rr n_0 ++ cfRow p ss rr n_0 n_2').length : Value) /\ kq2 ss n_0) /\ (True /\ True) /\ ((some (.cells true 2 ((cfTo p ss rr n_0 ++ cfRow p ss rr n_0 n_1).flatMap spC) : KObj) = some (kq7 p ss rr n_0 n_2') /\ belowO 5 (kq7 p ss rr n_0 n_2') = true) /\ True) /\ (True))))))) /\ ((decide (((n_1 : Int) : Int) < (kq4 ss))) = false -> ((kq8 n_0) = nI ((n_0 : Int) + 1) /\ (∃ n_2' : Nat,(n_2' <= List.length ss) /\ (List.length ss - n_2') < (List.length ss - n_0) /\ true = true /\ ((nI ((n_0 : Int) + 1) : Value) = nI (n_2' : Int) /\ wk (slQ 5 1 (cfTo p ss rr n_0 ++ cfRow p ss rr n_0 n_1).length : Value) (slQ 5 1 (cfTo p ss rr n_2').length : Value) /\ kq9 ss) /\ (True) /\ ((some (.cells true 2 ((cfTo p ss rr n_0 ++ cfRow p ss rr n_0 n_1).flatMap spC) : KObj) = some (.cells true 2 ((cfTo p ss rr n_2').flatMap spC) : KObj) /\ belowO 4 (.cells true 2 ((cfTo p ss rr n_2').flatMap spC) : KObj) = true) /\ True) /\ (True)))))))) /\ ((decide (((n_0 : Int) : Int) < (kq4 ss))) = false -> (true = true /\ wk (slQ 4 1 (cfTo p ss rr n_0).length : Value) (rn (sg 4 [(4,4)]) 3 (slQ 4 1 (cfTo p ss rr ss.length).length : Value)) /\ ((some (.cells true 2 ((cfTo p ss rr n_0).flatMap spC) : KObj) = some (.cells true 2 ((cfTo p ss rr ss.length).flatMap spC) : KObj) /\ belowO 4 (.cells true 2 ((cfTo p ss rr ss.length).flatMap spC) : KObj) = true) /\ True)))))
theorem Econf (o1 o2 : Bool) (z1 z2 : Nat) (w h : Int) (a : List Bool) (p : Int) (ss : List (Int × Int)) (rr : List (List Int)) : vF prog msk (dm 0) 100000 true 40 true 74 [.pointer (some ⟨2,0,none⟩)] (kq1 o1 z1 a o2 z2 ss w h p rr) (some [])
 (.go 8 (.inv 3 (Nat) (0) [] [] (fun n_0 => [(12,nI (n_0 : Int)),(3,slQ 4 1 (cfTo p ss rr n_0).length),(0,.pointer (some ⟨2,0,none⟩)),(2,.slice none 0 0),(11,nI (kq4 ss))]) (fun n_0 => []) (fun n_0 => [(true,.cells true 2 ((cfTo p ss rr n_0).flatMap spC))]) (fun n_0 => []) (fun n_0 => (n_0 <= List.length ss)) (fun n_0 => (List.length ss - n_0)) (fun n_0 => .go 0 (.fork (.go 3 (.slot 16 (nI ((n_0 : Int) + 1)) (.go 0 (.inv 3 (Nat) ((n_0 + 1)) [(5,4)] [4] (fun n_1 => [(5,nI (n_1 : Int)),(3,slQ 5 1 (cfTo p ss rr n_0 ++ cfRow p ss rr n_0 n_1).length),(11,nI (kq4 ss)),(2,.slice none 0 0),(0,.pointer (some ⟨2,0,none⟩)),(12,nI (n_0 : Int)),(4,nI (n_0 : Int))]) (fun n_1 => [(4,false,.dead)]) (fun n_1 => [(true,.cells true 2 ((cfTo p ss rr n_0 ++ cfRow p ss rr n_0 n_1).flatMap spC))]) (fun n_1 => []) (fun n_1 => (n_0 < n_1 /\ (n_1 <= List.length ss ∨ n_1 = n_0 + 1))) (fun n_1 => (List.length ss - n_1)) (fun n_1 => .go 7 (.fork (.go 2 (.ans [(2,.cells true 0 (kq5 w h a p ss rr)),(0,.cells o1 z1 (a.flatMap boolC)),(1,.cells o2 z2 (ss.flatMap spC)),(3,.cells true 1 (inL rr))] (.bool (agrB p ss rr n_0 n_1)) [] (.go 0 (.fork (.go 4 (.need (kq0 2 26 n_1 5 7))) (kq0 1 26 n_1 5 5))))) (kq0 0 38 n_0 4 5))))))) (.go 1 (.again [(4,4)]))))))
 (newK ((kq1 o1 z1 a o2 z2 ss w h p rr) : HT).n 3 (slQ 4 1 (cfTo p ss rr ss.length).length) [(true,.cells true 2 ((cfTo p ss rr ss.length).flatMap spC))]) = Rconf o1 o2 z1 z2 w h a p ss rr:=by kernel_rfl
end
end Go.Proofs.YtbgfjemppjhmjaaGreat
