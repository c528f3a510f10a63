/- Radio: which sightings are trusted, and their classes: plain laws. No condition. -/
import Derived.Test.YtbgfjemppjhmjaaGreatGO28gxW30
import Derived.Test.YtbgfjemppjhmjaaGreatGW2xO3g
import Derived.Test.YtbgfjemppjhmjaaGreatGK27xW1
import Derived.Test.YtbgfjemppjhmjaaGreatGP24xW25
import Derived.Test.YtbgfjemppjhmjaaGreatGP3xP7
namespace Go.Proofs.YtbgfjemppjhmjaaGreat
set_option linter.unusedSimpArgs false
open Go Go.K
set_option linter.unusedVariables false
def trS (agr : Int -> Int -> Bool) (k : Int -> Int) (n : Nat) : Nat -> List Int × List Bool
 | 0 => (allL n, [])
 | i + 1 => if (trS agr k n i).1.any (fun v => v == (i : Int)) = true /\ mst agr k ((trS agr k n i).1.filter fun v => agr i v) = mst agr k (allL n)
   then ((trS agr k n i).1.filter (fun v => agr i v), (trS agr k n i).2 ++ [true])
   else ((trS agr k n i).1.filter (fun v => !(v == (i : Int))), (trS agr k n i).2 ++ [false])
theorem allL_mem {n : Nat} {x : Int} : x ∈ allL n ↔ 0 <= x /\ x < (n : Int) := by
 unfold allL tabP
 rw [List.mem_map]
 constructor
 ·rintro ⟨i, hi, rfl⟩; have := List.mem_range.1 hi; omega
 ·rintro ⟨h1, h2⟩; exact ⟨Int.toNat x, List.mem_range.2 (by omega), by omega⟩
theorem allL_nodup (n : Nat) : (allL n).Nodup := by
 unfold allL tabP
 exact List.nodup_iff_pairwise_ne.2 ((List.pairwise_map.2 (List.Pairwise.imp (fun {a b} (h : a < b) => by show ((a : Nat) : Int) ≠ ((b : Nat) : Int); omega) (List.pairwise_lt_range))))
theorem allN_len (n : Nat) : (allL n).length = n := by unfold allL tabP; rw [List.length_map, List.length_range]
structure TrI (agr : Int -> Int -> Bool) (k : Int -> Int) (n i : Nat) : Prop where
 len : (trS agr k n i).2.length = i
 sub : (trS agr k n i).1.Sublist (allL n)
 tru : ∀ j, j < i -> ((trS agr k n i).2.getD j false = true ↔ (j : Int) ∈ (trS agr k n i).1)
 ag : ∀ j, j < i -> (j : Int) ∈ (trS agr k n i).1 -> ∀ x ∈ (trS agr k n i).1, agr j x = true
 mo : mst agr k (trS agr k n i).1 = mst agr k (allL n)
theorem any_is {l : List Int} {x : Int} : l.any (fun v => v == x) = true ↔ x ∈ l := by
 rw [List.any_eq_true]
 constructor
 ·rintro ⟨y, hy, e⟩; rw [<- eq_of_beq e]; exact hy
 ·intro h; exact ⟨x, h, beq_self_eq_true _⟩
theorem getB_app1 {l : List Bool} {x : Bool} {j : Nat} (h : j < l.length) : (l ++ [x]).getD j false = l.getD j false := by
 rw [List.getD_eq_getElem?_getD, List.getElem?_append_left h, <- List.getD_eq_getElem?_getD]
theorem getB_app2 {l : List Bool} {x : Bool} : (l ++ [x]).getD l.length false = x := by
 rw [List.getD_eq_getElem?_getD, List.getElem?_append_right (Nat.le_refl _), Nat.sub_self]; rfl
theorem trI {agr : Int -> Int -> Bool} {k : Int -> Int} {n : Nat} (a : AgOk agr k (allL n)) : ∀ i, i <= n -> TrI agr k n i
 | 0, _ => ⟨rfl, List.Sublist.refl _, fun j hj => by omega, fun j hj => by omega, rfl⟩
 | i + 1, hi => by
  have I := trI a i (by omega)
  have hin : (i : Int) ∈ allL n := allL_mem.2 (by omega)
  have aR : AgOk agr k (trS agr k n i).1 := a.sub fun x hx => I.sub.subset hx
  obtain ⟨l, sub, tru, ag, mo⟩ := I
  by_cases c : (trS agr k n i).1.any (fun v => v == (i : Int)) = true /\ mst agr k ((trS agr k n i).1.filter fun v => agr i v) = mst agr k (allL n)
  ·have e : trS agr k n (i + 1) = ((trS agr k n i).1.filter (fun v => agr i v), (trS agr k n i).2 ++ [true]) := by show (if _ then _ else _) = _; rw [if_pos c]
   have ci := any_is.1 c.1
   have sR : ∀ x ∈ (trS agr k n i).1, x ∈ allL n := fun x hx => sub.subset hx
   constructor
   all_goals rw [e]
   ·rw [List.length_append, l]; rfl
   ·exact List.Sublist.trans List.filter_sublist sub
   ·intro j hj
    show ((trS agr k n i).2 ++ [true]).getD j false = true ↔ _ ∈ (trS agr k n i).1.filter _
    rw [List.mem_filter]
    by_cases q : j = i
    ·subst q
     have := getB_app2 (l := (trS agr k n j).2) (x := true)
     rw [l] at this
     rw [this]
     exact ⟨fun _ => ⟨ci, a.rfl _ hin⟩, fun _ => rfl⟩
    ·rw [getB_app1 (by rw [l]; omega), tru j (by omega)]
     refine ⟨fun h => ⟨h, ?_⟩, fun h => h.1⟩
     exact a.sym _ (sR _ h) _ hin (ag j (by omega) h _ ci)
   ·intro j hj hm x hx
    have hm := List.mem_filter.1 hm
    have hx := List.mem_filter.1 hx
    by_cases q : j = i
    ·subst q; exact hx.2
    ·exact ag j (by omega) hm.1 x hx.1
   ·exact c.2
  ·have e : trS agr k n (i + 1) = ((trS agr k n i).1.filter (fun v => !(v == (i : Int))), (trS agr k n i).2 ++ [false]) := by show (if _ then _ else _) = _; rw [if_neg c]
   constructor
   all_goals rw [e]
   ·rw [List.length_append, l]; rfl
   ·exact List.Sublist.trans List.filter_sublist sub
   ·intro j hj
    show ((trS agr k n i).2 ++ [false]).getD j false = true ↔ _ ∈ (trS agr k n i).1.filter _
    rw [List.mem_filter]
    by_cases q : j = i
    ·subst q
     have := getB_app2 (l := (trS agr k n j).2) (x := false)
     rw [l] at this
     rw [this]
     simp
    ·rw [getB_app1 (by rw [l]; omega), tru j (by omega)]
     refine ⟨fun h => ⟨h, ?_⟩, fun h => h.1⟩
     have : ((j : Int) == (i : Int)) = false := beq_eq_false_iff_ne.2 (by omega)
     rw [this]; rfl
   ·intro j hj hm x hx
    have hm := List.mem_filter.1 hm
    have hx := List.mem_filter.1 hx
    have q : j ≠ i := fun q => by subst q; simp at hm
    exact ag j (by omega) hm.1 x hx.1
   ·refine Int.le_antisymm (by rw [<- mo]; exact mst_sub aR _) ?_
    show mst agr k (allL n) <= mst agr k ((trS agr k n i).1.filter fun v => !(v == (i : Int)))
    obtain ⟨P, h1, h2⟩ := mst_has aR
    rw [<- mo, <- h2]
    by_cases hP : (i : Int) ∈ (trS agr k n i).1 /\ P i = true
    ·exfalso
     apply c
     refine ⟨any_is.2 hP.1, Int.le_antisymm (by rw [<- mo]; exact mst_sub aR _) ?_⟩
     rw [<- mo, <- h2]
     have hf : (trS agr k n i).1.filter P = ((trS agr k n i).1.filter fun v => agr i v).filter P := by
      rw [List.filter_filter]
      refine List.filter_congr fun x hx => ?_
      cases hp : P x with
      | false => rfl
      | true => rw [h1 _ hP.1 _ hx hP.2 hp]; rfl
     rw [hf]
     refine mst_ge fun x hx y hy px py => h1 x (List.mem_filter.1 hx).1 y (List.mem_filter.1 hy).1 px py
    ·have hf : (trS agr k n i).1.filter P = ((trS agr k n i).1.filter fun v => !(v == (i : Int))).filter P := by
      rw [List.filter_filter]
      refine List.filter_congr fun x hx => ?_
      cases hp : P x with
      | false => rfl
      | true =>
       have : (x == (i : Int)) = false := beq_eq_false_iff_ne.2 fun q => hP ⟨q ▸ hx, q ▸ hp⟩
       rw [this]; rfl
     rw [hf]
     refine mst_ge fun x hx y hy px py => h1 x (List.mem_filter.1 hx).1 y (List.mem_filter.1 hy).1 px py
def truL (agr : Int -> Int -> Bool) (k : Int -> Int) (n : Nat) : List Bool := (trS agr k n n).2
theorem truL_len {agr : Int -> Int -> Bool} {k : Int -> Int} {n : Nat} (a : AgOk agr k (allL n)) : (truL agr k n).length = n := (trI a n (Nat.le_refl _)).len
theorem truL_rest {agr : Int -> Int -> Bool} {k : Int -> Int} {n : Nat} (a : AgOk agr k (allL n)) : (trS agr k n n).1 = (allL n).filter fun v => (truL agr k n).getD (Int.toNat v) false := by
 have I := trI a n (Nat.le_refl _)
 have key : ∀ (l r : List Int), l.Nodup -> r.Sublist l -> r = l.filter fun v => decide (v ∈ r) := by
  intro l
  induction l with
  | nil => intro r _ h; rw [List.sublist_nil.1 h]; rfl
  | cons x l ih =>
   intro r hl h
   have hl := List.nodup_cons.1 hl
   cases h with
   | cons _ h =>
    have hx : x ∉ r := fun q => hl.1 (h.subset q)
    rw [List.filter_cons_of_neg (by simpa using hx)]
    exact ih r hl.2 h
   | @cons_cons r' _ _ h =>
    rw [List.filter_cons_of_pos (by simp)]
    congr 1
    have := ih r' hl.2 h
    rw [this]
    refine List.filter_congr fun y hy => ?_
    have hne : y ≠ x := fun q => hl.1 (q ▸ hy)
    rw [<- this]
    simp [hne]
 rw [key _ _ (allL_nodup n) I.sub]
 refine List.filter_congr fun v hv => ?_
 have hv := allL_mem.1 hv
 have t := I.tru (Int.toNat v) (by omega)
 rw [show ((Int.toNat v : Nat) : Int) = v by omega] at t
 rw [Bool.eq_iff_iff, decide_eq_true_eq]
 exact t.symm
theorem truL_all {agr : Int -> Int -> Bool} {k : Int -> Int} {n : Nat} (a : AgOk agr k (allL n)) (h : ∀ x ∈ allL n, ∀ y ∈ allL n, agr x y = true) {i : Nat} (hi : i < n) : (truL agr k n).getD i false = true := by
 have I := trI a n (Nat.le_refl _)
 have e := truL_rest a
 have h1 := I.mo
 have h2 := mst_all a h
 have h3 := mst_le (a.sub (L := (trS agr k n n).1) fun x hx => I.sub.subset hx)
 have h4 := I.sub.length_le
 have h5 : (trS agr k n n).1 = allL n := I.sub.eq_of_length (by omega)
 have h6 : (i : Int) ∈ (trS agr k n n).1 := by rw [h5]; exact allL_mem.2 (by omega)
 exact (I.tru i hi).2 h6
def hgo (agr : Int -> Int -> Bool) (k : Int -> Int) (l : List Int) (x : Int) : Int := hgt agr (isr k l l.length) ((isr k l l.length).idxOf x)
theorem hgo_at {agr : Int -> Int -> Bool} {k : Int -> Int} {l : List Int} {x : Int} (h : x ∈ l) : ∃ n, n < (isr k l l.length).length /\ (isr k l l.length).getD n 0 = x /\ hgo agr k l x = hgt agr (isr k l l.length) n := by
 have hm := (isr_all k l).mem_iff.2 h
 refine ⟨_, List.idxOf_lt_length_of_mem hm, ?_, rfl⟩
 rw [gI (List.idxOf_lt_length_of_mem hm)]
 exact List.getElem_idxOf _
theorem hgo_bd {agr : Int -> Int -> Bool} {k : Int -> Int} {l : List Int} {x : Int} (h : x ∈ l) : 1 <= hgo agr k l x /\ hgo agr k l x <= mst agr k l := by
 obtain ⟨n, hn, _, e⟩ := hgo_at (agr := agr) (k := k) h
 rw [e]
 exact ⟨hgt_1 .., mxF_ge (mem_hgs hn)⟩
end Go.Proofs.YtbgfjemppjhmjaaGreat
/- Radio: what stays of a list, insertion by exchanges, the table of heights: plain laws. No condition. -/
namespace Go.Proofs.YtbgfjemppjhmjaaGreat
set_option linter.unusedSimpArgs false
open Go Go.K
set_option linter.unusedVariables false
def keepP (q : Int -> Bool) (M : List Int) (k : Nat) : List Int := (M.take k).filter q
def midP (q : Int -> Bool) (M : List Int) (k : Nat) : List Int := keepP q M k ++ M.drop (keepP q M k).length
def delP (q : Int -> Bool) (M : List Int) (k : Nat) : List Int := keepP q M k ++ List.replicate (k - (keepP q M k).length) 0 ++ M.drop k
theorem take_snoc {M : List Int} {x : Nat} {d : Int} (h : x < M.length) : M.take (x + 1) = M.take x ++ [M.getD x d] := by
 rw [List.take_succ_eq_append_getElem h, List.getD_eq_getElem?_getD, List.getElem?_eq_getElem h]; rfl
theorem take_len {M : List Int} {k : Nat} (h : k <= M.length) : (M.take k).length = k := by rw [List.length_take]; omega
theorem keepP_1 {q : Int -> Bool} {M : List Int} {x : Nat} (hx : x < M.length) (h : q (M.getD x 0) = true) : keepP q M (x + 1) = keepP q M x ++ [M.getD x 0] := by
 unfold keepP
 rw [take_snoc (d := 0) hx, List.filter_append, List.filter_cons_of_pos h]; rfl
theorem keepP_0 {q : Int -> Bool} {M : List Int} {x : Nat} (hx : x < M.length) (h : q (M.getD x 0) = false) : keepP q M (x + 1) = keepP q M x := by
 unfold keepP
 rw [take_snoc (d := 0) hx, List.filter_append, List.filter_cons_of_neg (by rw [h]; decide)]; simp
theorem keepP_le (q : Int -> Bool) (M : List Int) (x : Nat) : (keepP q M x).length <= x := Nat.le_trans (List.length_filter_le ..) (by rw [List.length_take]; omega)
theorem keepP_all {q : Int -> Bool} {M : List Int} {x : Nat} (h : (M.take x).all q = true) : keepP q M x = M.take x := List.filter_eq_self.2 (List.all_eq_true.1 h)
theorem midP_at {q : Int -> Bool} {M : List Int} {x : Nat} (hx : x < M.length) : (midP q M x).getD x 0 = M.getD x 0 := by
 have := keepP_le q M x
 unfold midP
 rw [List.getD_eq_getElem?_getD, List.getElem?_append_right this, List.getElem?_drop, <- List.getD_eq_getElem?_getD, show (keepP q M x).length + (x - (keepP q M x).length) = x by omega]
theorem midP_len {q : Int -> Bool} {M : List Int} {x : Nat} (hx : x <= M.length) : (midP q M x).length = M.length := by
 have := keepP_le q M x
 unfold midP
 rw [List.length_append, List.length_drop]; omega
theorem midP_1 {q : Int -> Bool} {M : List Int} {x : Nat} (hx : x < M.length) (h : q (M.getD x 0) = true) : (midP q M x).set (keepP q M x).length (M.getD x 0) = midP q M (x + 1) := by
 have hc := keepP_le q M x
 unfold midP
 rw [keepP_1 hx h, drop_get (show (keepP q M x).length < M.length by omega), List.length_append]
 simp
theorem midP_0 {q : Int -> Bool} {M : List Int} {x : Nat} (hx : x < M.length) (h : q (M.getD x 0) = false) : midP q M (x + 1) = midP q M x := by
 unfold midP; rw [keepP_0 hx h]
theorem midP_first {q : Int -> Bool} {M : List Int} {x : Nat} (hx : x < M.length) (ha : (M.take x).all q = true) (h : q (M.getD x 0) = false) : midP q M (x + 1) = M /\ (keepP q M (x + 1)).length = x := by
 have e : keepP q M (x + 1) = M.take x := (keepP_0 hx h).trans (keepP_all ha)
 have hl : (M.take x).length = x := take_len (by omega)
 refine ⟨?_, by rw [e, hl]⟩
 unfold midP
 rw [e, hl, List.take_append_drop]
theorem delP_all {q : Int -> Bool} {M : List Int} {k : Nat} (hk : k <= M.length) (ha : (M.take k).all q = true) : delP q M k = M /\ (keepP q M k).length = k := by
 have hl : (keepP q M k).length = k := by rw [keepP_all ha]; exact take_len hk
 refine ⟨?_, hl⟩
 unfold delP
 rw [hl, keepP_all ha, Nat.sub_self, List.replicate_zero, List.append_nil, List.take_append_drop]
theorem delP_len {q : Int -> Bool} {M : List Int} {k : Nat} (hk : k <= M.length) : (delP q M k).length = M.length := by
 have := keepP_le q M k
 unfold delP
 rw [List.length_append, List.length_append, List.length_replicate, List.length_drop]; omega
theorem clr_del {q : Int -> Bool} {M : List Int} {k : Nat} (hk : k <= M.length) : setl ((midP q M k).flatMap intC) (0 + (keepP q M k).length * 1) (krep [.int .i64 0] (k - (keepP q M k).length)) = (delP q M k).flatMap intC := by
 have hc := keepP_le q M k
 have e : M.drop (keepP q M k).length = (M.take k).drop (keepP q M k).length ++ M.drop k := by
  have h2 : (keepP q M k).length <= (M.take k).length := by rw [take_len hk]; omega
  rw [<- List.drop_append_of_le_length h2, List.take_append_drop]
 unfold midP delP
 rw [e, krep_int, List.flatMap_append, List.flatMap_append, List.append_assoc, List.flatMap_append, List.flatMap_append]
 have := setl_mid ((List.replicate (k - (keepP q M k).length) (0 : Int)).flatMap intC) (((M.take k).drop (keepP q M k).length).flatMap intC) ((keepP q M k).flatMap intC) ((M.drop k).flatMap intC) (by
  rw [flat_len intC_len, flat_len intC_len, List.length_drop, take_len hk, List.length_replicate])
 rw [flat_len intC_len] at this
 rw [show 0 + (keepP q M k).length * 1 = (keepP q M k).length * 1 by omega]
 exact this
theorem delP_take {q : Int -> Bool} {M : List Int} {k : Nat} : (delP q M k).take (keepP q M k).length = keepP q M k := by
 unfold delP
 rw [List.append_assoc, List.take_left]
def sortT (k : Int -> Int) (l : List Int) (x : Nat) : List Int := isr k l (min x l.length) ++ l.drop x
def sortJ (k : Int -> Int) (l : List Int) (i j : Nat) : List Int := stI (isr k l i) (l.getD i 0) j ++ l.drop (i + 1)
theorem sortT_1 (k : Int -> Int) (l : List Int) : sortT k l 1 = l := by
 unfold sortT
 cases l with
 | nil => rfl
 | cons x l => rw [show min 1 (x :: l).length = 1 by rw [List.length_cons]; omega]; rfl
theorem sortT_all {k : Int -> Int} {l : List Int} {x : Nat} (h : l.length <= x) : sortT k l x = isr k l l.length := by
 unfold sortT
 rw [show min x l.length = l.length by omega, List.drop_eq_nil_of_le h, List.append_nil]
theorem sortJ_len {k : Int -> Int} {l : List Int} {i j : Nat} (hi : i < l.length) (hj : j <= i) : (sortJ k l i j).length = l.length := by
 unfold sortJ
 rw [List.length_append, stI_len (by rw [isr_len]; exact hj), isr_len, List.length_drop]; omega
theorem sortJ_0 {k : Int -> Int} {l : List Int} {i : Nat} (hi : i < l.length) : sortJ k l i i = sortT k l i := by
 unfold sortJ sortT stI
 have hl := isr_len k l i
 rw [show min i l.length = i by omega, List.take_of_length_le (by omega), List.drop_eq_nil_of_le (by omega : (isr k l i).length <= i), List.append_assoc]
 congr 1
 rw [List.drop_eq_getElem_cons hi, gI hi]; rfl
theorem sortJ_at {k : Int -> Int} {l : List Int} {i j : Nat} (hi : i < l.length) (hj : j <= i) : (sortJ k l i j).getD j 0 = l.getD i 0 := by
 have hl := isr_len k l i
 have ht : ((isr k l i).take j).length = j := by rw [List.length_take]; omega
 unfold sortJ stI
 rw [List.append_assoc, List.getD_eq_getElem?_getD, List.getElem?_append_right (by omega), ht, Nat.sub_self]; rfl
theorem sortJ_pre {k : Int -> Int} {l : List Int} {i j m : Nat} (hi : i < l.length) (hj : j <= i) (hm : m < j) : (sortJ k l i j).getD m 0 = (isr k l i).getD m 0 := by
 have hl := isr_len k l i
 unfold sortJ stI
 rw [List.append_assoc, List.getD_eq_getElem?_getD, List.getElem?_append_left (by rw [List.length_take]; omega), List.getElem?_take_of_lt hm, <- List.getD_eq_getElem?_getD]
theorem sortJ_swap {k : Int -> Int} {l : List Int} {i j : Nat} (hi : i < l.length) (hj : j + 1 <= i) : ((sortJ k l i (j + 1)).set (j + 1) ((isr k l i).getD j 0)).set j (l.getD i 0) = sortJ k l i j := by
 have hl := isr_len k l i
 unfold sortJ stI
 generalize hm : isr k l i = m at *
 have e1 : m.take (j + 1) = m.take j ++ [m.getD j 0] := by rw [List.take_succ_eq_append_getElem (by omega), gI (by omega)]
 have e2 : m.drop j = m.getD j 0 :: m.drop (j + 1) := by rw [List.drop_eq_getElem_cons (by omega), gI (by omega)]
 rw [e1, e2]
 have ht : (m.take j).length = j := by rw [List.length_take]; omega
 generalize m.getD j 0 = y
 generalize m.drop (j + 1) = D
 generalize l.getD i 0 = x
 generalize l.drop (i + 1) = R
 generalize m.take j = T at ht
 subst ht
 simp
theorem sortJ_end {k : Int -> Int} {l : List Int} {i j : Nat} (hi : i < l.length) (h : ipos k (isr k l i) (l.getD i 0) i = j) : sortJ k l i j = sortT k l (i + 1) := by
 unfold sortJ sortT
 rw [show min (i + 1) l.length = i + 1 by omega]
 subst h; rfl
theorem ipos_go {k : Int -> Int} {m : List Int} {x : Int} {j : Nat} (h : k x < k (m.getD j 0)) : ipos k m x (j + 1) = ipos k m x j := by
 show (if _ then _ else _) = _; rw [if_pos h]
theorem ipos_no {k : Int -> Int} {m : List Int} {x : Int} {j : Nat} (h : ¬ k x < k (m.getD j 0)) : ipos k m x (j + 1) = j + 1 := by
 show (if _ then _ else _) = _; rw [if_neg h]
def hE (agr : Int -> Int -> Bool) (s : List Int) (x : Nat) : List (Int × Int) := tabP (fun n : Nat => (s.getD n 0, hgt agr s n)) x
def hEJ (agr : Int -> Int -> Bool) (s : List Int) (x y : Nat) : List (Int × Int) := hE agr s x ++ [(s.getD x 0, hgV agr s (hgs agr s x) x y)]
theorem hE_S (agr : Int -> Int -> Bool) (s : List Int) (x : Nat) : hE agr s (x + 1) = hE agr s x ++ [(s.getD x 0, hgt agr s x)] := by
 unfold hE tabP; rw [List.range_succ, List.map_append]; rfl
theorem hEJ_end (agr : Int -> Int -> Bool) (s : List Int) (x : Nat) : hEJ agr s x x = hE agr s (x + 1) := by
 rw [hE_S]; rfl
theorem nd_ne {s : List Int} (h : s.Nodup) {i j : Nat} (hi : i < s.length) (hj : j < s.length) (q : i ≠ j) : s.getD i 0 ≠ s.getD j 0 := by
 rw [gI hi, gI hj]
 intro e
 exact q ((List.getElem_inj h).1 e)
theorem getA_app1 {κ β : Type} [DecidableEq κ] {k : κ} {d : β} : ∀ {F G : List (κ × β)}, hasA k F = true -> getA k d (F ++ G) = getA k d F
 | [], _, h => by cases h
 | e :: F, G, h => by
  show (if e.1 = k then _ else _) = (if e.1 = k then _ else _)
  by_cases q : e.1 = k
  ·rw [if_pos q, if_pos q]
  ·rw [if_neg q, if_neg q]
   exact getA_app1 (by unfold hasA at h; rwa [if_neg q] at h)
theorem getA_app2 {κ β : Type} [DecidableEq κ] {k : κ} {d : β} : ∀ {F G : List (κ × β)}, hasA k F = false -> getA k d (F ++ G) = getA k d G
 | [], _, h => rfl
 | e :: F, G, h => by
  have q : ¬ e.1 = k := fun q => by unfold hasA at h; rw [if_pos q] at h; cases h
  show (if e.1 = k then _ else _) = _
  rw [if_neg q]
  exact getA_app2 (by unfold hasA at h; rwa [if_neg q] at h)
theorem hasA_app {κ β : Type} [DecidableEq κ] {k : κ} : ∀ {F G : List (κ × β)}, hasA k (F ++ G) = (hasA k F || hasA k G)
 | [], _ => rfl
 | e :: F, G => by
  show (if e.1 = k then true else _) = ((if e.1 = k then true else _) || _)
  by_cases q : e.1 = k
  ·rw [if_pos q, if_pos q]; rfl
  ·rw [if_neg q, if_neg q]; exact hasA_app
theorem putA_app {κ β : Type} [DecidableEq κ] {k : κ} {v : β} : ∀ {F G : List (κ × β)}, hasA k F = false -> putA k v (F ++ G) = F ++ putA k v G
 | [], _, h => rfl
 | e :: F, G, h => by
  have q : ¬ e.1 = k := fun q => by unfold hasA at h; rw [if_pos q] at h; cases h
  show (if e.1 = k then _ else _) = _
  rw [if_neg q]
  exact congrArg (e :: ·) (putA_app (by unfold hasA at h; rwa [if_neg q] at h))
theorem hE_has {agr : Int -> Int -> Bool} {s : List Int} {v : Int} : ∀ {x : Nat}, hasA v (hE agr s x) = true ↔ ∃ n, n < x /\ s.getD n 0 = v
 | 0 => ⟨(fun h => by cases h), (fun ⟨n, h, _⟩ => by omega)⟩
 | x + 1 => by
  rw [hE_S, hasA_app, Bool.or_eq_true, hE_has]
  show _ ∨ (if s.getD x 0 = v then true else false) = true ↔ _
  constructor
  ·rintro (⟨n, h, e⟩ | h)
   ·exact ⟨n, by omega, e⟩
   ·split at h
    ·exact ⟨x, by omega, by assumption⟩
    ·cases h
  ·rintro ⟨n, h, e⟩
   by_cases q : n = x
   ·subst q; exact Or.inr (by rw [if_pos e])
   ·exact Or.inl ⟨n, by omega, e⟩
theorem hE_no {agr : Int -> Int -> Bool} {s : List Int} (nd : s.Nodup) {x : Nat} (hx : x < s.length) : hasA (s.getD x 0) (hE agr s x) = false := by
 rw [Bool.eq_false_iff]
 intro h
 obtain ⟨n, hn, e⟩ := hE_has.1 h
 exact nd_ne nd (by omega) hx (by omega) e
theorem hE_get {agr : Int -> Int -> Bool} {s : List Int} (nd : s.Nodup) {x y : Nat} (hx : x <= s.length) (hy : y < x) : getA (s.getD y 0) 0 (hE agr s x) = hgt agr s y := by
 induction x with
 | zero => omega
 | succ x ih =>
  rw [hE_S]
  by_cases q : y = x
  ·subst q
   rw [getA_app2 (hE_no nd (by omega))]
   show (if s.getD y 0 = s.getD y 0 then _ else _) = _
   rw [if_pos rfl]
  ·rw [getA_app1 (hE_has.2 ⟨y, by omega, rfl⟩)]
   exact ih (by omega) (by omega)
theorem hE_put {agr : Int -> Int -> Bool} {s : List Int} (nd : s.Nodup) {x : Nat} (hx : x < s.length) : putA (s.getD x 0) 1 (hE agr s x) = hEJ agr s x 0 := by
 rw [putA_no _ _ _ (hE_no nd hx)]; rfl
theorem hEJ_own {agr : Int -> Int -> Bool} {s : List Int} (nd : s.Nodup) {x y : Nat} (hx : x < s.length) : getA (s.getD x 0) 0 (hEJ agr s x y) = hgV agr s (hgs agr s x) x y := by
 unfold hEJ
 rw [getA_app2 (hE_no nd hx)]
 show (if s.getD x 0 = s.getD x 0 then _ else _) = _
 rw [if_pos rfl]
theorem hEJ_get {agr : Int -> Int -> Bool} {s : List Int} (nd : s.Nodup) {x y z : Nat} (hx : x < s.length) (hy : y < x) : getA (s.getD y 0) 0 (hEJ agr s x z) = hgt agr s y := by
 unfold hEJ
 rw [getA_app1 (hE_has.2 ⟨y, by omega, rfl⟩)]
 exact hE_get nd (by omega) hy
theorem hEJ_put {agr : Int -> Int -> Bool} {s : List Int} (nd : s.Nodup) {x y : Nat} {v : Int} (hx : x < s.length) (e : hgV agr s (hgs agr s x) x (y + 1) = v) : putA (s.getD x 0) v (hEJ agr s x y) = hEJ agr s x (y + 1) := by
 unfold hEJ
 rw [putA_app (hE_no nd hx), e]
 show _ ++ (if s.getD x 0 = s.getD x 0 then _ else _) = _
 rw [if_pos rfl]
theorem hgV_1 {agr : Int -> Int -> Bool} {s : List Int} {x y : Nat} (hy : y < x) (a : agr (s.getD y 0) (s.getD x 0) = true) : hgV agr s (hgs agr s x) x (y + 1) = mxI (hgV agr s (hgs agr s x) x y) (hgt agr s y + 1) := by
 show (if _ then _ else _) = _
 rw [if_pos a, hgs_get agr s hy]; rfl
theorem hgV_0 {agr : Int -> Int -> Bool} {s : List Int} {x y : Nat} (a : ¬ agr (s.getD y 0) (s.getD x 0) = true) : hgV agr s (hgs agr s x) x (y + 1) = hgV agr s (hgs agr s x) x y := by
 show (if _ then _ else _) = _
 rw [if_neg a]
theorem hgV_bd (agr : Int -> Int -> Bool) (s : List Int) (n : Nat) : ∀ j, j <= n -> 1 <= hgV agr s (hgs agr s n) n j /\ hgV agr s (hgs agr s n) n j <= (n : Int) + 1 := by
 induction n using Nat.strongRecOn with
 | ind n ih =>
  intro j hj
  have h := hgV_spec agr s n j hj
  refine ⟨h.1, ?_⟩
  rcases h.2.2 with e | ⟨i, hi, _, e⟩
  ·omega
  ·have h2 : hgt agr s i <= (i : Int) + 1 := (ih i (by omega) i (Nat.le_refl _)).2
   omega
theorem hgt_bd (agr : Int -> Int -> Bool) (s : List Int) (n : Nat) : 1 <= hgt agr s n /\ hgt agr s n <= (n : Int) + 1 := hgV_bd agr s n n (Nat.le_refl _)
theorem hE_mx (agr : Int -> Int -> Bool) (s : List Int) : ((hE agr s s.length).foldl (fun n e => if e.2 > n then e.2 else n) 0) = mstS agr s := by
 have e : hgs agr s s.length = (hE agr s s.length).map (·.2) := by
  generalize s.length = n
  induction n with
  | zero => rfl
  | succ n ih => rw [hE_S, List.map_append, <- ih]; rfl
 unfold mstS mxF
 rw [e, List.foldl_map]
end Go.Proofs.YtbgfjemppjhmjaaGreat
/- Radio: the sightings of a right track agree along time: plain laws. No condition. -/
namespace Go.Proofs.YtbgfjemppjhmjaaGreat
set_option linter.unusedSimpArgs false
open Go Go.K
set_option linter.unusedVariables false
noncomputable def agI (p : Int) (ss : List (Int × Int)) (rr : List (List Int)) (i k : Int) : Bool := agrB p ss rr (Int.toNat i) (Int.toNat k)
def kyI (ss : List (Int × Int)) (i : Int) : Int := (ss.getD (Int.toNat i) zeroSp).1
theorem dst_lt {w h : Int} {a : List Bool} {f c : Int} (q : dstI w h a f c < farI) : ∃ n : Nat, Wy w h a f n c /\ dstI w h a f c = n := by
 by_cases e : ∃ n, Lst w h a f c n
 ·obtain ⟨n, hn⟩ := e
  exact ⟨n, hn.1, dst_is hn⟩
 ·unfold dstI at q
  rw [dif_neg e] at q
  omega
theorem dst_0 (w h : Int) (a : List Bool) (f : Int) : dstI w h a f f = 0 := dst_is (n := 0) ⟨.base, fun m _ => Nat.zero_le _⟩
theorem dst_sm {w h : Int} {a : List Bool} {f c : Int} {n : Nat} (b : BasOk w h a.length) (hf : 0 <= f /\ f < (a.length : Int)) (q : Wy w h a f n c) : dstI w h a f c < farI := by
 obtain ⟨m, h1, h2⟩ := wy_lst q
 rw [dst_is h2]
 have := lst_le b hf h2
 have := b.n1
 have := b.p1
 unfold farI; omega
theorem canS_rfl (w h : Int) (a : List Bool) {p : Int} (hp : 1 <= p) (s : Int × Int) : canS w h a p s s.2 s.1 = true := by
 unfold canS
 rw [dst_0]
 unfold mxI farI
 simp
theorem canS_iff {w h : Int} {a : List Bool} {p : Int} {s : Int × Int} {c m : Int} : canS w h a p s c m = true ↔ dstI w h a s.2 c < farI /\ dstI w h a s.2 c * p <= mxI (m - s.1) (s.1 - m) := by
 unfold canS
 rw [Bool.and_eq_true, decide_eq_true_eq, decide_eq_true_eq]
theorem canS_sym {w h : Int} {a : List Bool} {p : Int} (b : BasOk w h a.length) (hp : 1 <= p) {s t : Int × Int} (hs : (0 <= s.2 /\ s.2 < (a.length : Int)) /\ a.getD (Int.toNat s.2) false = false) (ht : (0 <= t.2 /\ t.2 < (a.length : Int)) /\ a.getD (Int.toNat t.2) false = false) (q : canS w h a p s t.2 t.1 = true) : canS w h a p t s.2 s.1 = true := by
 rw [canS_iff] at q ⊢
 obtain ⟨n, n1, n2⟩ := dst_lt q.1
 have r := wy_rev b hs.1 hs.2 n1
 refine ⟨dst_sm b ht.1 r, ?_⟩
 have d1 := dst_wy r
 have : dstI w h a t.2 s.2 * p <= (n : Int) * p := Int.mul_le_mul_of_nonneg_right d1 (by omega)
 have q2 := q.2
 rw [n2] at q2
 unfold mxI at q2 ⊢
 split at q2 <;> split <;> omega
theorem canS_tr {w h : Int} {a : List Bool} {p : Int} (b : BasOk w h a.length) (hp : 1 <= p) {s t u : Int × Int} (hs : (0 <= s.2 /\ s.2 < (a.length : Int)) /\ a.getD (Int.toNat s.2) false = false) (h1 : s.1 <= t.1) (h2 : t.1 <= u.1) (q : canS w h a p s t.2 t.1 = true) (r : canS w h a p t u.2 u.1 = true) : canS w h a p s u.2 u.1 = true := by
 rw [canS_iff] at q r ⊢
 obtain ⟨n, n1, n2⟩ := dst_lt q.1
 obtain ⟨m, m1, m2⟩ := dst_lt r.1
 have w1 := wy_app n1 m1
 refine ⟨dst_sm b hs.1 w1, ?_⟩
 have d1 := dst_wy w1
 have : dstI w h a s.2 u.2 * p <= ((n + m : Nat) : Int) * p := Int.mul_le_mul_of_nonneg_right d1 (by omega)
 rw [Int.natCast_add, Int.add_mul] at this
 have q2 := q.2
 have r2 := r.2
 rw [n2] at q2
 rw [m2] at r2
 unfold mxI at q2 r2 ⊢
 split at q2 <;> split at r2 <;> split <;> omega
theorem agI_is {w h : Int} {a : List Bool} {p : Int} {ss : List (Int × Int)} (hc : ∀ s ∈ ss, 0 <= s.2 /\ s.2 < (a.length : Int)) {i k : Int} (hi : 0 <= i /\ i < (ss.length : Int)) (hk : 0 <= k /\ k < (ss.length : Int)) : agI p ss (trkRows w h a ss) i k = canS w h a p (ss.getD (Int.toNat i) zeroSp) (ss.getD (Int.toNat k) zeroSp).2 (ss.getD (Int.toNat k) zeroSp).1 := by
 unfold agI agrB
 rw [canB_is (by omega) (hc _ (getD_mem (by omega)))]
theorem agOk {w h : Int} {a : List Bool} {p : Int} {ss : List (Int × Int)} (t : TrOk w h a p ss) : AgOk (agI p ss (trkRows w h a ss)) (kyI ss) (allL ss.length) := by
 have hc : ∀ s ∈ ss, 0 <= s.2 /\ s.2 < (a.length : Int) := fun s hs => (t.seen s hs).2.1
 have hm : ∀ x ∈ allL ss.length, (0 <= x /\ x < (ss.length : Int)) /\ ss.getD (Int.toNat x) zeroSp ∈ ss := fun x hx => by
  have := allL_mem.1 hx
  exact ⟨this, getD_mem (by omega)⟩
 refine ⟨fun x hx => ?_, fun x hx y hy => ?_, fun x hx y hy z hz => ?_⟩
 ·rw [agI_is hc (hm x hx).1 (hm x hx).1]
  exact canS_rfl _ _ _ t.pace.1 _
 ·rw [agI_is hc (hm x hx).1 (hm y hy).1, agI_is hc (hm y hy).1 (hm x hx).1]
  exact canS_sym t.bas t.pace.1 (t.seen _ (hm x hx).2).2 (t.seen _ (hm y hy).2).2
 ·rw [agI_is hc (hm x hx).1 (hm y hy).1, agI_is hc (hm y hy).1 (hm z hz).1, agI_is hc (hm x hx).1 (hm z hz).1]
  exact canS_tr t.bas t.pace.1 (t.seen _ (hm x hx).2).2
end Go.Proofs.YtbgfjemppjhmjaaGreat
/- Radio: classes and what they prove: plain laws. No condition. -/
namespace Go.Proofs.YtbgfjemppjhmjaaGreat
set_option linter.unusedSimpArgs false
open Go Go.K
set_option linter.unusedVariables false
theorem mst_pos {agr : Int -> Int -> Bool} {k : Int -> Int} {n : Nat} : 0 <= mst agr k (allL n) /\ (0 < n -> 1 <= mst agr k (allL n)) := by
 refine ⟨mxF_0 _, fun h => ?_⟩
 have := hgo_bd (agr := agr) (k := k) (allL_mem.2 (show 0 <= (0 : Int) /\ (0 : Int) < (n : Int) by omega))
 omega
end Go.Proofs.YtbgfjemppjhmjaaGreat
/- Radio: where functions of a track lead to. No condition. -/
namespace Go.Proofs.YtbgfjemppjhmjaaGreat
set_option linter.unusedSimpArgs false
open Go Go.K
set_option linter.unusedVariables false
noncomputable section
abbrev ctxH (w h : Int) (a : List Bool) (p : Int) (ss : List (Int × Int)) (rr : List (List Int)) : List (List Value) := [[.pointer (some ⟨2, 0, none⟩)], wkCs w h a p ss rr 3 4 5, a.flatMap boolC, ss.flatMap spC, inL rr]
abbrev ctxD (w h : Int) (a : List Bool) (p : Int) (ss : List (Int × Int)) (rr : List (List Int)) (i : Int) : List (List Value) := [[.pointer (some ⟨3, 0, none⟩)], [.int .i64 i], wkCs w h a p ss rr 4 5 6, a.flatMap boolC, ss.flatMap spC, inL rr]
abbrev ctxA (w h : Int) (a : List Bool) (p : Int) (ss : List (Int × Int)) (rr : List (List Int)) : List (List Value) := [wkCs w h a p ss rr 1 2 3, a.flatMap boolC, ss.flatMap spC, inL rr]
def qNe (i v : Int) : Bool := !(decide (v = i))
end
end Go.Proofs.YtbgfjemppjhmjaaGreat
/- What is to be shown of functions. Printed by a program. No condition. -/
namespace Go.Proofs.YtbgfjemppjhmjaaGreat
set_option linter.unusedSimpArgs false
open Go Go.K
set_option maxRecDepth 100000
set_option maxHeartbeats 4000000
set_option linter.unusedVariables false
noncomputable section
abbrev kk0 : Value:=.func (.func 166) #[] #[.pointer (some ⟨1,0,none⟩)]
abbrev kk7 (M : List Int) : Int:=(M.length : Nat)
abbrev kkt : Prop:=(True) /\ (True)
abbrev kkh (M : List Int) (n_0 : Nat) : Prop:=wkR (slQ 0 2 M.length) /\ (nI 0 : Value) = nI 0 /\ (nI (kk7 M) : Value) = nI (kk7 M) /\ kk0 = .func (.func 166) #[] #[.pointer (some ⟨1,0,none⟩)] /\ (nI (n_0 : Int) : Value) = nI (n_0 : Int) /\ True
abbrev kks (qd0 : List Int) : Int:=(qd0.length : Nat)
abbrev kk5 (qn0 : Nat) (qd0 : List Int) : Prop:=(0 : Int) <= (qn0 : Int) /\ ((qn0 : Int) : Int) < (kks qd0)
abbrev kkq (ss : List (Int × Int)) (M : List Int) (n_0 : Nat) (n_1 : Nat):=sortJ (kyI ss) M n_0 n_1
abbrev kko (n_1 : Nat) : Value:=nI (IntKind.wrap .i64 ((n_1 : Int) - 1))
abbrev kk4 (qn0 : Nat) (qd0 : List Int) : Prop:=(0 : Int) <= ((qn0 : Int) - 1) /\ (((qn0 : Int) - 1) : Int) < (kks qd0)
abbrev kkf (ss : List (Int × Int)) (M : List Int) (n_0 : Nat) (n_1 : Nat):=ss.getD ((kkq ss M n_0 n_1).getD n_1 0).toNat zeroSp
abbrev kkb (ss : List (Int × Int)) (M : List Int) (n_0 : Nat) (n_1 : Nat):=ss.getD ((kkq ss M n_0 n_1).getD ((n_1 : Int) - 1).toNat 0).toNat zeroSp
abbrev kk2 (qn0 : Nat) (qn1 : Nat) (qd0 : List Int) : Prop:=(nI ((qn0 : Int) + 1) : Value) = nI (qn1 : Int) /\ kk0 = .func (.func 166) #[] #[.pointer (some ⟨1,0,none⟩)] /\ (nI (kks qd0) : Value) = nI (kks qd0) /\ (nI 0 : Value) = nI 0 /\ wkR (slQ 0 2 qd0.length) /\ True
abbrev kk8 (n_0 : Nat) (M : List Int) (ss : List (Int × Int)) (n_1 : Nat) : Prop:=(nI (IntKind.wrap .i64 ((n_0 : Int) + 1)) : Value) = nI ((n_0 : Int) + 1) /\ (∃ n_2' : Nat,(1 <= n_2' /\ (n_2' <= List.length M ∨ n_2' = 1)) /\ (List.length M - n_2') < (List.length M - n_0) /\ true = true /\ (kk2 n_0 n_2' M) /\ ((some (.cells true 1 ((kkq ss M n_0 n_1).flatMap intC) : KObj) = some (.cells true 1 ((sortT (kyI ss) M n_2').flatMap intC) : KObj) /\ belowO 6 (.cells true 1 ((sortT (kyI ss) M n_2').flatMap intC) : KObj) = true) /\ True) /\ kkt)
abbrev kku : Value:=.tuple #[]
abbrev kk9 (ss : List (Int × Int)) (M : List Int) : KObj:=.cells true 1 ((isr (kyI ss) M M.length).flatMap intC)
def RinsS (M : List Int) (w h : Int) (a : List Bool) (p : Int) (ss : List (Int × Int)) (rr : List (List Int)) : Prop :=
 ((nI (IntKind.wrap .i64 (0 + 1)) : Value) = nI (0 + 1) /\ (true = true /\ (1 <= 1 /\ (1 <= List.length M ∨ 1 = 1)) /\ (true = true /\ ((nI (0 + 1) : Value) = nI ((1 : Nat) : Int) /\ kk0 = .func (.func 166) #[] #[.pointer (some ⟨1,0,none⟩)] /\ (nI (kk7 M) : Value) = nI (kk7 M) /\ (nI 0 : Value) = nI 0 /\ wkR (slQ 0 2 M.length) /\ True) /\ ((some (.cells true 1 (M.flatMap intC) : KObj) = some (.cells true 1 ((sortT (kyI ss) M 1).flatMap intC) : KObj) /\ belowO 6 (.cells true 1 ((sortT (kyI ss) M 1).flatMap intC) : KObj) = true) /\ True) /\ kkt) /\ (∀ n_0 : Nat,true = true) /\ ∀ n_0 : Nat,(1 <= n_0 /\ (n_0 <= List.length M ∨ n_0 = 1)) -> (((decide (((n_0 : Int) : Int) < (kk7 M))) = true -> (true = true /\ (n_0 <= n_0 /\ ipos (kyI ss) (isr (kyI ss) M n_0) (M.getD n_0 0) n_0 = ipos (kyI ss) (isr (kyI ss) M n_0) (M.getD n_0 0) n_0) /\ (true = true /\ ((nI (n_0 : Int) : Value) = nI (n_0 : Int) /\ kkh M n_0) /\ ((some (.cells true 1 ((sortT (kyI ss) M n_0).flatMap intC) : KObj) = some (.cells true 1 ((sortJ (kyI ss) M n_0 n_0).flatMap intC) : KObj) /\ belowO 6 (.cells true 1 ((sortJ (kyI ss) M n_0 n_0).flatMap intC) : KObj) = true) /\ True) /\ kkt) /\ (∀ n_1 : Nat,true = true) /\ ∀ n_1 : Nat,(n_1 <= n_0 /\ ipos (kyI ss) (isr (kyI ss) M n_0) (M.getD n_0 0) n_0 = ipos (kyI ss) (isr (kyI ss) M n_0) (M.getD n_0 0) n_1) -> (((decide ((0 : Int) < (n_1 : Int))) = true -> ((kk5 n_1 M) /\ ((((kkq ss M n_0 n_1).flatMap intC)[(0 + Int.toNat (n_1 : Int) * 1)]? = some (nI ((kkq ss M n_0 n_1).getD n_1 0))) /\ ((kko n_1) = nI ((n_1 : Int) - 1) /\ ((kk4 n_1 M) /\ ((((kkq ss M n_0 n_1).flatMap intC)[(0 + Int.toNat ((n_1 : Int) - 1) * 1)]? = some (nI ((kkq ss M n_0 n_1).getD ((n_1 : Int) - 1).toNat 0))) /\ (((0 : Int) <= ((kkq ss M n_0 n_1).getD n_1 0) /\ (((kkq ss M n_0 n_1).getD n_1 0) : Int) < ((ss.length : Nat) : Int)) /\ (((ss.flatMap spC)[((0 + Int.toNat ((kkq ss M n_0 n_1).getD n_1 0) * 2) + 0)]? = some (nI (kkf ss M n_0 n_1).1)) /\ (((0 : Int) <= ((kkq ss M n_0 n_1).getD ((n_1 : Int) - 1).toNat 0) /\ (((kkq ss M n_0 n_1).getD ((n_1 : Int) - 1).toNat 0) : Int) < ((ss.length : Nat) : Int)) /\ (((ss.flatMap spC)[((0 + Int.toNat ((kkq ss M n_0 n_1).getD ((n_1 : Int) - 1).toNat 0) * 2) + 0)]? = some (nI (kkb ss M n_0 n_1).1)) /\ ((nI (IntKind.wrap .i64 ((kkf ss M n_0 n_1).1 - (kkb ss M n_0 n_1).1)) : Value) = nI ((kkf ss M n_0 n_1).1 - (kkb ss M n_0 n_1).1) /\ (((decide ((((kkf ss M n_0 n_1).1 - (kkb ss M n_0 n_1).1) : Int) < 0)) = true -> ((kko n_1) = nI ((n_1 : Int) - 1) /\ ((kko n_1) = nI ((n_1 : Int) - 1) /\ ((kk4 n_1 M) /\ ((((kkq ss M n_0 n_1).flatMap intC)[(0 + Int.toNat ((n_1 : Int) - 1) * 1)]? = some (nI ((kkq ss M n_0 n_1).getD ((n_1 : Int) - 1).toNat 0))) /\ ((kk5 n_1 M) /\ ((((kkq ss M n_0 n_1).flatMap intC)[(0 + Int.toNat (n_1 : Int) * 1)]? = some (nI ((kkq ss M n_0 n_1).getD n_1 0))) /\ ((kk5 n_1 M) /\ (((0 + Int.toNat (n_1 : Int) * 1) + 1 <= List.length ((kkq ss M n_0 n_1).flatMap intC)) /\ true = true /\ ((kk4 n_1 M) /\ (((0 + Int.toNat ((n_1 : Int) - 1) * 1) + 1 <= List.length (setl ((kkq ss M n_0 n_1).flatMap intC) (0 + Int.toNat (n_1 : Int) * 1) [nI ((kkq ss M n_0 n_1).getD ((n_1 : Int) - 1).toNat 0)])) /\ true = true /\ ((kko n_1) = nI ((n_1 : Int) - 1) /\ (∃ n_2' : Nat,(n_2' <= n_0 /\ ipos (kyI ss) (isr (kyI ss) M n_0) (M.getD n_0 0) n_0 = ipos (kyI ss) (isr (kyI ss) M n_0) (M.getD n_0 0) n_2') /\ n_2' < n_1 /\ true = true /\ ((nI ((n_1 : Int) - 1) : Value) = nI (n_2' : Int) /\ kkh M n_0) /\ ((some (.cells true 1 (setl (setl ((kkq ss M n_0 n_1).flatMap intC) (0 + Int.toNat (n_1 : Int) * 1) [nI ((kkq ss M n_0 n_1).getD ((n_1 : Int) - 1).toNat 0)]) (0 + Int.toNat ((n_1 : Int) - 1) * 1) [nI ((kkq ss M n_0 n_1).getD n_1 0)]) : KObj) = some (.cells true 1 ((sortJ (kyI ss) M n_0 n_2').flatMap intC) : KObj) /\ belowO 6 (.cells true 1 ((sortJ (kyI ss) M n_0 n_2').flatMap intC) : KObj) = true) /\ True) /\ kkt))))))))))))) /\ ((decide ((((kkf ss M n_0 n_1).1 - (kkb ss M n_0 n_1).1) : Int) < 0)) = false -> (kk8 n_0 M ss n_1)))))))))))))) /\ ((decide ((0 : Int) < (n_1 : Int))) = false -> (kk8 n_0 M ss n_1))))) /\ ((decide (((n_0 : Int) : Int) < (kk7 M))) = false -> (true = true /\ wk kku (rn (sg 6 []) 3 kku) /\ ((some (.cells true 1 ((sortT (kyI ss) M n_0).flatMap intC) : KObj) = some (kk9 ss M) /\ belowO 6 (kk9 ss M) = true) /\ True) /\ (True))))))
abbrev kkp : Hint:=.go 0 (.again [])
abbrev kka (ss : List (Int × Int)) (M : List Int) : KObj:=.cells true 1 ((isr (kyI ss) M M.length).flatMap intC)
theorem EinsS (M : List Int) (w h : Int) (a : List Bool) (p : Int) (ss : List (Int × Int)) (rr : List (List Int)) : vF prog msk (dm 0) 100000 true 40 true 256 [slQ 0 2 M.length,nI 0,nI (kk7 M),.func (.func 166) #[] #[.pointer (some ⟨1,0,none⟩)]] (readsW 0 1 (M.flatMap intC) (ctxH w h a p ss rr)) (some [0])
 (.go 1 (.slot 11 (nI (0 + 1)) (.go 0 (.inv 3 (Nat) (1) [] [0] (fun n_0 => [(8,nI (n_0 : Int)),(3,.func (.func 166) #[] #[.pointer (some ⟨1,0,none⟩)]),(2,nI (kk7 M)),(1,nI 0),(0,slQ 0 2 M.length)]) (fun n_0 => [(0,true,.cells true 1 ((sortT (kyI ss) M n_0).flatMap intC))]) (fun n_0 => []) (fun n_0 => []) (fun n_0 => (1 <= n_0 /\ (n_0 <= List.length M ∨ n_0 = 1))) (fun n_0 => (List.length M - n_0)) (fun n_0 => .go 2 (.fork (.go 1 (.inv 3 (Nat) (n_0) [] [0] (fun n_1 => [(9,nI (n_1 : Int)),(0,slQ 0 2 M.length),(1,nI 0),(2,nI (kk7 M)),(3,.func (.func 166) #[] #[.pointer (some ⟨1,0,none⟩)]),(8,nI (n_0 : Int))]) (fun n_1 => [(0,true,.cells true 1 ((kkq ss M n_0 n_1).flatMap intC))]) (fun n_1 => []) (fun n_1 => []) (fun n_1 => (n_1 <= n_0 /\ ipos (kyI ss) (isr (kyI ss) M n_0) (M.getD n_0 0) n_0 = ipos (kyI ss) (isr (kyI ss) M n_0) (M.getD n_0 0) n_1)) (fun n_1 => n_1) (fun n_1 => .go 3 (.gfork (.go 2 (.need (.val (nI ((kkq ss M n_0 n_1).getD n_1 0)) (.go 2 (.slot 29 (nI ((n_1 : Int) - 1)) (.need (.val (nI ((kkq ss M n_0 n_1).getD ((n_1 : Int) - 1).toNat 0)) (.into (some [0]) (.go 6 (.need (.go 0 (.val (nI (kkf ss M n_0 n_1).1) (.go 5 (.need (.go 0 (.val (nI (kkb ss M n_0 n_1).1) (.go 0 (.slot 24 (nI ((kkf ss M n_0 n_1).1 - (kkb ss M n_0 n_1).1)) (.go 0 (.keep (.go 1 (.fork (.go 4 (.slot 41 (nI ((n_1 : Int) - 1)) (.go 2 (.slot 44 (nI ((n_1 : Int) - 1)) (.need (.val (nI ((kkq ss M n_0 n_1).getD ((n_1 : Int) - 1).toNat 0)) (.go 1 (.need (.val (nI ((kkq ss M n_0 n_1).getD n_1 0)) (.need (.need (.need (.need (.go 1 (.slot 36 (nI ((n_1 : Int) - 1)) kkp))))))))))))))) (.go 1 (.slot 16 (nI ((n_0 : Int) + 1)) kkp)))))))))))))))))))))))) (.go 3 (.slot 16 (nI ((n_0 : Int) + 1)) kkp)))))) (.keep (.again []))))))))
 (newKW ((readsW 0 1 (M.flatMap intC) (ctxH w h a p ss rr)) : HT).n 3 0 (kka ss M) (.tuple #[]) []) = RinsS M w h a p ss rr:=by kernel_rfl
abbrev kkj (M : List Int) : Prop:=kk0 = .func (.func 166) #[] #[.pointer (some ⟨1,0,none⟩)] /\ (nI (kk7 M) : Value) = nI (kk7 M) /\ wkR (slQ 0 2 M.length) /\ (nI 20 : Value) = nI 20 /\ True
abbrev kk3 (qn0 : Nat) (qn1 : Nat) (qd0 : List Int):=decide (((((qn0 * qn1 + qn0) : Nat) : Int) : Int) <= (kks qd0))
abbrev kke (M : List Int) (w : Int) (h : Int) (a : List Bool) (p : Int) (ss : List (Int × Int)) (rr : List (List Int)) : Prop:=(someR (.cells true 1 (M.flatMap intC))) /\ (someR (.cells false 0 [.pointer (some ⟨2,0,none⟩)])) /\ (someR (.cells false 0 [nI w,nI h,slQ 3 2 a.length,nI p,slQ 4 2 ss.length,slQ 5 1 rr.length])) /\ (someR (.cells false 0 (a.flatMap boolC))) /\ (someR (.cells false 0 (ss.flatMap spC))) /\ (someR (.cells false 0 (inL rr))) /\ True
abbrev kkc (H' : Heap) (M : List Int) (w : Int) (h : Int) (a : List Bool) (p : Int) (ss : List (Int × Int)) (rr : List (List Int)) : Prop:=H'[0]? = some (.cells true 1 (M.flatMap intC) : KObj) /\ H'[1]? = some (.cells false 0 [.pointer (some ⟨2,0,none⟩)] : KObj) /\ H'[2]? = some (.cells false 0 [nI w,nI h,slQ 3 2 a.length,nI p,slQ 4 2 ss.length,slQ 5 1 rr.length] : KObj) /\ H'[3]? = some (.cells false 0 (a.flatMap boolC) : KObj) /\ H'[4]? = some (.cells false 0 (ss.flatMap spC) : KObj) /\ H'[5]? = some (.cells false 0 (inL rr) : KObj) /\ True
abbrev kkm (n_0 : Nat) : Int:=((20 * n_0 + 20) : Nat)
abbrev kkl (ss : List (Int × Int)) (M : List Int) : Prop:=((keptR 6 (kka ss M)) /\ True) /\ (True) /\ (True)
abbrev kk6 (n_1 : Nat) : Int:=((20 * n_1 + 20) : Nat)
abbrev kkk (M : List Int) (n_1 : Nat) : Prop:=kk0 = .func (.func 166) #[] #[.pointer (some ⟨1,0,none⟩)] /\ (nI (kk7 M) : Value) = nI (kk7 M) /\ wkR (slQ 0 2 M.length) /\ (nI (kk6 n_1) : Value) = nI (kk6 n_1) /\ True
abbrev kkg (n_2 : Nat) : Int:=((40 * n_2) : Nat)
abbrev kkn (n_2 : Nat) : Int:=((40 * n_2 + 40) : Nat)
abbrev kk1 (qn0 : Nat) (qn1 : Nat) (qd0 : List Int) : Prop:=(nI ((((20 * qn0 + 20) : Nat) : Int) * 2) : Value) = nI (((20 * qn1 + 20) : Nat) : Int) /\ wkR (slQ 0 2 qd0.length) /\ (nI (kks qd0) : Value) = nI (kks qd0) /\ kk0 = .func (.func 166) #[] #[.pointer (some ⟨1,0,none⟩)] /\ True
abbrev kkr (n_1 : Nat) (M : List Int) (ss : List (Int × Int)) : Prop:=(nI (IntKind.wrap .i64 ((kk6 n_1) * 2)) : Value) = nI ((kk6 n_1) * 2) /\ (∃ n_3' : Nat,(n_3' = 0) /\ 0 < 0 /\ true = true /\ (kk1 n_1 n_3' M) /\ kkl ss M)
def RstabS (M : List Int) (w h : Int) (a : List Bool) (p : Int) (ss : List (Int × Int)) (rr : List (List Int)) : Prop :=
 (true = true /\ (0 = 0) /\ (true = true /\ ((nI 0 : Value) = nI (((20 * 0) : Nat) : Int) /\ (nI 20 : Value) = nI (((20 * 0 + 20) : Nat) : Int) /\ kkj M) /\ ((keptR 6 (.cells true 1 (M.flatMap intC))) /\ True) /\ kkt) /\ (∀ n_0 : Nat,true = true) /\ ∀ n_0 : Nat,(n_0 = 0) -> (((kk3 20 n_0 M) = true -> ((kke M w h a p ss rr) /\ (∀ H' : Heap,H'.length = 6 -> (kkc H' M w h a p ss rr) -> KCall prog 256 [slQ 0 2 M.length,nI (((20 * n_0) : Nat) : Int),nI (kkm n_0),.func (.func 166) #[] #[.pointer (some ⟨1,0,none⟩)]] H' [0] (Is (.tuple #[]) (List.set H' 0 (kk9 ss M)))) /\ ((nI (IntKind.wrap .i64 ((kkm n_0) + 20)) : Value) = nI ((kkm n_0) + 20) /\ (∃ n_1' : Nat,(n_1' = 0) /\ 0 < 0 /\ true = true /\ ((nI (kkm n_0) : Value) = nI (((20 * n_1') : Nat) : Int) /\ (nI ((kkm n_0) + 20) : Value) = nI (((20 * n_1' + 20) : Nat) : Int) /\ kkj M) /\ ((some (kk9 ss M) = some (.cells true 1 (M.flatMap intC) : KObj) /\ belowO 6 (.cells true 1 (M.flatMap intC) : KObj) = true) /\ True) /\ kkt)))) /\ ((kk3 20 n_0 M) = false -> ((kke M w h a p ss rr) /\ (∀ H' : Heap,H'.length = 6 -> (kkc H' M w h a p ss rr) -> KCall prog 256 [slQ 0 2 M.length,nI (((20 * n_0) : Nat) : Int),nI (kk7 M),.func (.func 166) #[] #[.pointer (some ⟨1,0,none⟩)]] H' [0] (Is (.tuple #[]) (List.set H' 0 (kk9 ss M)))) /\ (true = true /\ (0 = 0) /\ (true = true /\ ((nI 20 : Value) = nI (((20 * 0 + 20) : Nat) : Int) /\ wkR (slQ 0 2 M.length) /\ (nI (kk7 M) : Value) = nI (kk7 M) /\ kk0 = .func (.func 166) #[] #[.pointer (some ⟨1,0,none⟩)] /\ True) /\ kkl ss M) /\ (∀ n_1 : Nat,true = true) /\ ∀ n_1 : Nat,(n_1 = 0) -> (((decide (((kk6 n_1) : Int) < (kk7 M))) = true -> ((nI (IntKind.wrap .i64 (2 * (kk6 n_1))) : Value) = nI (2 * (kk6 n_1)) /\ (true = true /\ (0 = 0) /\ (true = true /\ ((nI 0 : Value) = nI (((40 * 0) : Nat) : Int) /\ (nI (2 * (kk6 n_1)) : Value) = nI (((40 * 0 + 40) : Nat) : Int) /\ kkk M n_1) /\ kkl ss M) /\ (∀ n_2 : Nat,true = true) /\ ∀ n_2 : Nat,(n_2 = 0) -> (((kk3 40 n_2 M) = true -> ((nI (IntKind.wrap .i64 ((kkg n_2) + (kk6 n_1))) : Value) = nI ((kkg n_2) + (kk6 n_1)) /\ (((someR (kka ss M)) /\ True) /\ (∀ H' : Heap,H'.length = 6 -> (H'[0]? = some (kk9 ss M) /\ True) -> KCall prog 257 [slQ 0 2 M.length,nI (kkg n_2),nI ((kkg n_2) + (kk6 n_1)),nI (kkn n_2),.func (.func 166) #[] #[.pointer (some ⟨1,0,none⟩)]] H' [0] (Is (.tuple #[]) (List.set H' 0 (kk9 ss M)))) /\ ((nI (IntKind.wrap .i64 (2 * (kk6 n_1))) : Value) = nI (2 * (kk6 n_1)) /\ ((nI (IntKind.wrap .i64 ((kkn n_2) + (2 * (kk6 n_1)))) : Value) = nI ((kkn n_2) + (2 * (kk6 n_1))) /\ (∃ n_3' : Nat,(n_3' = 0) /\ 0 < 0 /\ true = true /\ ((nI (kkn n_2) : Value) = nI (((40 * n_3') : Nat) : Int) /\ (nI ((kkn n_2) + (2 * (kk6 n_1))) : Value) = nI (((40 * n_3' + 40) : Nat) : Int) /\ kkk M n_1) /\ kkl ss M)))))) /\ ((kk3 40 n_2 M) = false -> ((nI (IntKind.wrap .i64 ((kkg n_2) + (kk6 n_1))) : Value) = nI ((kkg n_2) + (kk6 n_1)) /\ (((decide ((((kkg n_2) + (kk6 n_1)) : Int) < (kk7 M))) = true -> (((someR (kka ss M)) /\ True) /\ (∀ H' : Heap,H'.length = 6 -> (H'[0]? = some (kk9 ss M) /\ True) -> KCall prog 257 [slQ 0 2 M.length,nI (kkg n_2),nI ((kkg n_2) + (kk6 n_1)),nI (kk7 M),.func (.func 166) #[] #[.pointer (some ⟨1,0,none⟩)]] H' [0] (Is (.tuple #[]) (List.set H' 0 (kk9 ss M)))) /\ (kkr n_1 M ss))) /\ ((decide ((((kkg n_2) + (kk6 n_1)) : Int) < (kk7 M))) = false -> (kkr n_1 M ss))))))))) /\ ((decide (((kk6 n_1) : Int) < (kk7 M))) = false -> (true = true /\ wk kku (rn (sg 6 []) 3 kku) /\ ((keptR 6 (kka ss M)) /\ True) /\ (True)))))))))
abbrev kki (M : List Int) (w : Int) (h : Int) (a : List Bool) (p : Int) (ss : List (Int × Int)) (rr : List (List Int)) : List (Nat × KObj):=[(0,.cells true 1 (M.flatMap intC)),(1,.cells false 0 [.pointer (some ⟨2,0,none⟩)]),(2,.cells false 0 [nI w,nI h,slQ 3 2 a.length,nI p,slQ 4 2 ss.length,slQ 5 1 rr.length]),(3,.cells false 0 (a.flatMap boolC)),(4,.cells false 0 (ss.flatMap spC)),(5,.cells false 0 (inL rr))]
abbrev kkd (ss : List (Int × Int)) (M : List Int) : List (Nat × KObj):=[(0,.cells true 1 ((isr (kyI ss) M M.length).flatMap intC))]
theorem EstabS (M : List Int) (w h : Int) (a : List Bool) (p : Int) (ss : List (Int × Int)) (rr : List (List Int)) : vF prog msk (dm 0) 100000 true 40 true 226 [slQ 0 2 M.length,nI (kk7 M),.func (.func 166) #[] #[.pointer (some ⟨1,0,none⟩)]] (readsW 0 1 (M.flatMap intC) (ctxH w h a p ss rr)) (some [0])
 (.go 3 (.inv 3 (Nat) (0) [] [0] (fun n_0 => [(7,nI (((20 * n_0) : Nat) : Int)),(8,nI (kkm n_0)),(2,.func (.func 166) #[] #[.pointer (some ⟨1,0,none⟩)]),(1,nI (kk7 M)),(0,slQ 0 2 M.length),(6,nI 20)]) (fun n_0 => [(0,true,.cells true 1 (M.flatMap intC))]) (fun n_0 => []) (fun n_0 => []) (fun n_0 => (n_0 = 0)) (fun n_0 => 0) (fun n_0 => .go 2 (.fork (.go 3 (.answ (kki M w h a p ss rr) (.tuple #[]) (kkd ss M) [] (.go 4 (.slot 22 (nI ((kkm n_0) + 20)) kkp)))) (.go 3 (.answ (kki M w h a p ss rr) (.tuple #[]) (kkd ss M) [] (.inv 3 (Nat) (0) [] [0] (fun n_1 => [(6,nI (kk6 n_1)),(0,slQ 0 2 M.length),(1,nI (kk7 M)),(2,.func (.func 166) #[] #[.pointer (some ⟨1,0,none⟩)])]) (fun n_1 => [(0,true,.cells true 1 ((isr (kyI ss) M M.length).flatMap intC))]) (fun n_1 => []) (fun n_1 => []) (fun n_1 => (n_1 = 0)) (fun n_1 => 0) (fun n_1 => .go 2 (.fork (.go 1 (.slot 32 (nI (2 * (kk6 n_1))) (.go 1 (.inv 3 (Nat) (0) [] [0] (fun n_2 => [(7,nI (kkg n_2)),(8,nI (kkn n_2)),(2,.func (.func 166) #[] #[.pointer (some ⟨1,0,none⟩)]),(1,nI (kk7 M)),(0,slQ 0 2 M.length),(6,nI (kk6 n_1))]) (fun n_2 => [(0,true,.cells true 1 ((isr (kyI ss) M M.length).flatMap intC))]) (fun n_2 => []) (fun n_2 => []) (fun n_2 => (n_2 = 0)) (fun n_2 => 0) (fun n_2 => .go 2 (.fork (.go 4 (.slot 40 (nI ((kkg n_2) + (kk6 n_1))) (.go 1 (.answ (kkd ss M) (.tuple #[]) (kkd ss M) [] (.go 4 (.slot 47 (nI (2 * (kk6 n_1))) (.go 0 (.slot 48 (nI ((kkn n_2) + (2 * (kk6 n_1)))) kkp)))))))) (.go 2 (.slot 51 (nI ((kkg n_2) + (kk6 n_1))) (.go 3 (.fork (.go 4 (.answ (kkd ss M) (.tuple #[]) (kkd ss M) [] (.go 1 (.slot 62 (nI ((kk6 n_1) * 2)) kkp)))) (.go 1 (.slot 62 (nI ((kk6 n_1) * 2)) kkp)))))))))))) (.keep (.again [])))))))))))
 (newKW ((readsW 0 1 (M.flatMap intC) (ctxH w h a p ss rr)) : HT).n 3 0 (kka ss M) (.tuple #[]) []) = RstabS M w h a p ss rr:=by kernel_rfl
end
end Go.Proofs.YtbgfjemppjhmjaaGreat
/- Functions that write one block and answer with a list in it. No condition. -/
namespace Go.K
set_option linter.unusedSimpArgs false
open Go
set_option linter.unusedVariables false
noncomputable section
attribute [local irreducible] vF
variable {P : Program}
theorem KCall.writesG {f : FuncId} {args : List Value} {H0 H new : Heap} {v V : Value} {σ : Nat -> Option Nat} {d k D z : Nat} {c0 c1 : List Value} (hp : ReadsW P H0 H σ d k D (.cells true z c0)) (h : KCall P f args H0 [k] (Is v (H0.set k (.cells true z c1) ++ new)))
  (h1p : c1.all (belowC 0) = true) (hV : ∀ (ρ1 ρ2 : Ren) (x : Value), (∀ r, ρ1 k = some r -> ρ2 D = some r) -> VR ρ1 v x -> VR ρ2 V x) (hn : new.all (fun o => rnoOk d o && o.owned) = true) (hn2 : new.map (rno (sgOnly H0.length) d) = new) :
  KCall P f (args.map (rn σ d)) H [D] (Is V (H.set D (.cells true z c1) ++ new.map (rno (sgUp H0.length H.length) d))) := by
 refine ⟨h.1, fun B ρ w args' hr ha => ?_⟩
 let ρs : Ren := ⟨fun id => (σ id).bind fun id' => (ρ id').map fun r => if id = k then r else ⟨r.b, r.s, r.n, 0, false⟩, ρ.mem, fun F k => (σ F).bind fun F' => ρ.g F' k⟩
 have hσ : ∀ id id' r, σ id = some id' -> ρ id' = some r -> ρs id = some (if id = k then r else ⟨r.b, r.s, r.n, 0, false⟩) := by
  intro id id' r h1 h2; show Option.bind _ _ = _; rw [h1]; show Option.map _ _ = _; rw [h2]; rfl
 have hσd : ∀ id id' r, σ id = some id' -> ρ id' = some r -> ∃ r', ρs id = some r' /\ r'.b = r.b /\ r'.s = r.s /\ (r'.own = false ∨ r' = r) := fun id id' r h1 h2 => by
  refine ⟨_, hσ _ _ _ h1 h2, ?_⟩
  split
  ·exact ⟨rfl, rfl, .inr rfl⟩
  ·exact ⟨rfl, rfl, .inl rfl⟩
 have hσg : ∀ F F' k r, σ F = some F' -> ρ.g F' k = some r -> ρs.g F k = some r := by intro F F' k r h1 h2; show Option.bind _ _ = _; rw [h1]; exact h2
 have hsomeg : ∀ {F k r}, ρs.g F k = some r -> ∃ F', σ F = some F' /\ ρ.g F' k = some r := fun h => Option.bind_eq_some_iff.1 h
 have hnf0 : ∀ {F : Nat} {z : Nat} {cs : List Value}, H0[F]? = some (.fam z cs) -> False := fun {F z' cs} mh => by
  by_cases e : F = k
  ·have := mh; rw [e, hp.k0] at this; cases this
  ·rcases hp.obj F _ e mh with h | ⟨_, h⟩ <;> cases h
 have hnf : ∀ {F k r z cs}, FM ρs H0 F k r z cs -> False := fun m => hnf0 m.h
 have hsome : ∀ {id r}, ρs id = some r -> ∃ id' r0, σ id = some id' /\ ρ id' = some r0 /\ r = if id = k then r0 else ⟨r0.b, r0.s, r0.n, 0, false⟩ := by
  intro id r h
  obtain ⟨id', h1, h2⟩ := Option.bind_eq_some_iff.1 h
  obtain ⟨r0, h3, h4⟩ := Option.map_eq_some_iff.1 h2
  exact ⟨id', r0, h1, h3, h4.symm⟩
 have hsk : ∀ {r}, ρs k = some r -> ρ D = some r := fun {r} h => by
  obtain ⟨id', r0, h1, h2, h3⟩ := hsome h
  rw [if_pos rfl] at h3
  subst h3
  rw [hp.hk] at h1; cases h1; exact h2
 have hown : ∀ (id : Nat) (o : KObj), H0[id]? = some o -> o.owned = true -> id = k := by
  intro id o h1 h2
  by_cases e : id = k
  ·exact e
  ·rcases hp.obj id o e h1 with rfl | ⟨cs, rfl⟩ <;> cases h2
 have hDo : (KObj.cells true z c0).owned = true := rfl
 have hoth : ∀ {id r o rD}, id ≠ k -> ρs id = some r -> H0[id]? = some o -> o.alive = true -> ρ D = some rD -> rD.b ≠ r.b := fun {id r o rD} e h1 h2 h3 h4 => by
  rcases hp.obj id o e h2 with rfl | ⟨cs, rfl⟩
  ·cases h3
  ·obtain ⟨id', r0, k1, k2, rfl⟩ := hsome h1
   obtain ⟨own, z', g⟩ := hp.rd id id' cs k1 h2
   rw [if_neg e]
   exact hr.sep D id' rD r0 _ _ h4 k2 hp.hD g hDo rfl (fun q => hp.ne id cs h2 (by rw [k1, q]))
 have hr0 : Rel P B ρs H0 w := by
  refine ⟨hr.bsize, fun g hg => ?_, fun id r h => ?_, fun id r h => ?_, fun id r o h1 h2 => ?_, fun id r o h1 h2 h3 => ?_, fun id1 id2 r1 r2 o1 o2 h1 h2 g1 g2 k1 k2 hne => ?_, fun b m hb => ⟨(hr.mem b m hb).1, fun id r o h1 h2 h3 => ?_⟩,
   ⟨fun F k r h => by obtain ⟨F', k1, _⟩ := hsomeg h; exact hp.dom _ _ k1, fun F k r h => by obtain ⟨F', _, k2⟩ := hsomeg h; exact hr.fam.lt _ _ _ k2, fun _ _ _ _ _ m => (hnf m).elim, fun _ _ _ _ _ m => (hnf m).elim, fun _ _ _ _ _ _ _ _ _ _ m => (hnf m).elim, fun _ _ _ _ _ _ _ _ m => (hnf m).elim, fun _ _ _ _ _ _ _ m => (hnf m).elim, fun _ _ _ _ _ h => (hnf0 h).elim⟩⟩
  ·obtain ⟨r, k1, k2, k3⟩ := hr.glob g hg
   refine ⟨_, hσ g g r (hp.glob g hg) k1, ?_⟩
   split
   ·exact ⟨k2, k3⟩
   ·exact ⟨k2, k3⟩
  ·obtain ⟨id', r0, h1, _, _⟩ := hsome h; exact hp.dom _ _ h1
  ·obtain ⟨id', r0, _, h2, rfl⟩ := hsome h
   have := hr.lt id' r0 h2
   split <;> exact this
  ·by_cases e : id = k
   ·subst e
    rw [hp.k0] at h2; cases h2
    exact plain_obj (ρ := ρ) (ρ' := ρs) (fun _ _ h => h) hp.pl (hr.obj D r _ (hsk h1) hp.hD)
   ·obtain ⟨id', r0, k1, k2, rfl⟩ := hsome h1
    rw [if_neg e]
    rcases hp.obj id o e h2 with rfl | ⟨cs, rfl⟩
    ·trivial
    ·obtain ⟨own, z, g⟩ := hp.rd id id' cs k1 h2
     obtain ⟨e1, e2, cs', ty, fz, hb, hnz, hfz, hcs⟩ := hr.obj _ _ _ k2 g
     refine ⟨rfl, rfl, cs', ty, fz, hb, hnz, fun h => (by cases h), fun i x hx => ?_⟩
     obtain ⟨x', y1, y2⟩ := hcs i (rn σ d x) (by rw [List.getElem?_map, hx]; rfl)
     exact ⟨x', y1, rn_VRw hσd (fun _ _ h => h) hσg d y2⟩
  ·obtain rfl := hown id o h2 h3
   exact hr.base D r _ (hsk h1) hp.hD hDo
  ·obtain rfl := hown id1 o1 g1 k1
   exact hoth (Ne.symm hne) h2 g2 k2 (hsk h1)
  ·obtain rfl := hown id o h2 h3
   exact (hr.mem b m hb).2 D r _ (hsk h1) hp.hD hDo
 have ha0 : VRl ρs args args'.toList := ⟨by have := ha.1; simpa using this, fun i x x' a b => rn_VRw hσd (fun _ _ h => h) hσg d (ha.2 i (rn σ d x) x' (by rw [List.getElem?_map, a]; rfl) b)⟩
 refine (h.2 B ρs w args' hr0 ha0).mono ?_
 rintro e w' ⟨v1, v', ρ1, H1, rfl, hv', hpost, rfl, rfl⟩
 have hkl : k < H0.length := (List.getElem?_eq_some_iff.1 hp.k0).1
 have hDl : D < H.length := (List.getElem?_eq_some_iff.1 hp.hD).1
 have h1k : (H0.set k (.cells true z c1) ++ new)[k]? = some (.cells true z c1) := by
  rw [List.getElem?_append_left (by simpa using hkl), List.getElem?_set_self hkl]
 have h1o : ∀ i, i < H0.length -> i ≠ k -> (H0.set k (.cells true z c1) ++ new)[i]? = H0[i]? := fun i hi e => by
  rw [List.getElem?_append_left (by simpa using hi), List.getElem?_set_ne (Ne.symm e)]
 have h1n : ∀ i, H0.length <= i -> (H0.set k (.cells true z c1) ++ new)[i]? = new[i - H0.length]? := fun i hi => by
  rw [List.getElem?_append_right (by simpa using hi)]; simp
 have hOBk : ∀ b, OB ρs H0 b -> ∃ rD, ρ D = some rD /\ ρs k = some rD /\ rD.b = b := fun b h => h.elim (fun ⟨id, r, o, h1, h2, h3, h4⟩ => by
   obtain rfl := hown id o h2 h3
   exact ⟨r, hsk h1, h1, h4⟩) (fun ⟨_, _, _, _, _, m, _⟩ => (hnf m).elim)
 have hOB : ∀ b, OB ρs H0 b -> OB ρ H b := fun b h => by
  obtain ⟨rD, h1, _, h2⟩ := hOBk b h
  exact .inl ⟨D, rD, _, h1, hp.hD, hDo, h2⟩
 let ρ2 : Ren := ⟨fun id => if id < H.length then ρ id else ρ1 (H0.length + (id - H.length)), ρ1.mem, fun F k => if F < H.length then ρ.g F k else ρ1.g (H0.length + (F - H.length)) k⟩
 let ρn : Ren := ⟨fun id => if id < H0.length then none else ρ1 id, ρ1.mem, fun F k => if F < H0.length then none else ρ1.g F k⟩
 have hn1 : ∀ id id' r, sgOnly H0.length id = some id' -> ρ1 id' = some r -> ρn id = some r := by
  intro id id' r h1 h2
  unfold sgOnly at h1
  split at h1
  ·cases h1
  ·rename_i hlt; cases h1; show (if _ then _ else _) = _; rw [if_neg hlt]; exact h2
 have hn1g : ∀ F F' k r, sgOnly H0.length F = some F' -> ρ1.g F' k = some r -> ρn.g F k = some r := by
  intro F F' k r h1 h2
  unfold sgOnly at h1
  split at h1
  ·cases h1
  ·rename_i hlt; cases h1; show (if _ then _ else _) = _; rw [if_neg hlt]; exact h2
 have hfwdg : ∀ F k r, ρn.g F k = some r -> ∃ F', sgUp H0.length H.length F = some F' /\ ρ2.g F' k = some r := by
  intro F k r h1
  have h1' : (if F < H0.length then none else ρ1.g F k) = some r := h1
  split at h1'
  ·cases h1'
  ·rename_i hlt
   refine ⟨_, if_neg hlt, ?_⟩
   show (if _ then _ else _) = _
   rw [if_neg (by omega), show H0.length + (H.length + (F - H0.length) - H.length) = F by omega]; exact h1'
 have hfwd : ∀ id r, ρn id = some r -> ∃ id', sgUp H0.length H.length id = some id' /\ ρ2 id' = some r := by
  intro id r h1
  have h1' : (if id < H0.length then none else ρ1 id) = some r := h1
  split at h1'
  ·cases h1'
  ·rename_i hlt
   refine ⟨_, if_neg hlt, ?_⟩
   show (if _ then _ else _) = _
   rw [if_neg (by omega), show H0.length + (H.length + (id - H0.length) - H.length) = id by omega]; exact h1'
 have hext : Ren.le ρ ρ2 := ⟨fun id r h1 => by
  show (if _ then _ else _) = _
  rw [if_pos (hr.dom _ _ h1)]; exact h1, hpost.ext.mem, fun F k r h1 => by
  show (if _ then _ else _) = _
  rw [if_pos (hr.fam.dom _ _ _ h1)]; exact h1⟩
 have hnew : ∀ (k : Nat) (o : KObj), new[k]? = some o -> rnoOk d o = true /\ o.owned = true /\ rno (sgOnly H0.length) d o = o := by
  intro k o hk
  rw [List.all_eq_true] at hn
  have := hn o (List.mem_of_getElem? hk)
  simp only [Bool.and_eq_true] at this
  refine ⟨this.1, this.2, ?_⟩
  have h3 : (new.map (rno (sgOnly H0.length) d))[k]? = some o := by rw [hn2]; exact hk
  rw [List.getElem?_map, hk] at h3
  exact Option.some.inj h3
 have hoa : ∀ o : KObj, o.owned = true -> o.alive = true := by intro o ho; cases o <;> first | rfl | cases ho
 have hfresh : ∀ id r o, H0.length <= id -> ρ1 id = some r -> new[id - H0.length]? = some o -> w.heap.size <= r.b := by
  intro id r o hid h1 h2
  have ho : o.owned = true := (hnew _ _ h2).2.1
  rcases Nat.lt_or_ge r.b w.heap.size with hlt | hge
  ·obtain ⟨rD, k1, k2, k3⟩ := hOBk _ (hpost.ob r.b hlt (.inl ⟨id, r, o, h1, by rw [h1n id hid]; exact h2, ho, rfl⟩))
   exact absurd k3 (hpost.rel.sep k id rD r _ o (hpost.ext _ _ k2) h1 h1k (by rw [h1n id hid]; exact h2) rfl (hoa _ ho) (by omega))
  ·exact hge
 have hgetD : (H.set D (.cells true z c1) ++ new.map (rno (sgUp H0.length H.length) d))[D]? = some (.cells true z c1) := by
  rw [List.getElem?_append_left (by simpa using hDl), List.getElem?_set_self hDl]
 have hgeto : ∀ id, id < H.length -> id ≠ D -> (H.set D (.cells true z c1) ++ new.map (rno (sgUp H0.length H.length) d))[id]? = H[id]? := fun id hid e => by
  rw [List.getElem?_append_left (by simpa using hid), List.getElem?_set_ne (Ne.symm e)]
 have hback : ∀ id o, id < H.length -> (H.set D (.cells true z c1) ++ new.map (rno (sgUp H0.length H.length) d))[id]? = some o -> ∃ o', H[id]? = some o' /\ o'.owned = o.owned /\ o'.alive = o.alive := fun id o hid h2 => by
  by_cases e : id = D
  ·subst e
   rw [hgetD] at h2; cases h2
   exact ⟨_, hp.hD, rfl, rfl⟩
  ·rw [hgeto id hid e] at h2; exact ⟨o, h2, rfl, rfl⟩
 have hgetn : ∀ id o', H.length <= id -> (H.set D (.cells true z c1) ++ new.map (rno (sgUp H0.length H.length) d))[id]? = some o' -> ∃ o, new[id - H.length]? = some o /\ o' = rno (sgUp H0.length H.length) d o /\ rnoOk d o = true /\ o.owned = true /\ rno (sgOnly H0.length) d o = o := by
  intro id o' hid h2
  rw [List.getElem?_append_right (by simpa using hid), List.getElem?_map, List.length_set] at h2
  obtain ⟨o, a1, rfl⟩ := Option.map_eq_some_iff.1 h2
  obtain ⟨x1, x2, x3⟩ := hnew _ _ a1
  exact ⟨o, a1, rfl, x1, x2, x3⟩
 have hVk : ∀ r, ρ1 k = some r -> ρ2 D = some r := fun r h1 => by
  show (if _ then _ else _) = _
  rw [if_pos hDl]
  cases hs : ρs k with
  | none => exact absurd (hpost.new k r h1 hs) (by omega)
  | some r' =>
   have := hpost.ext _ _ hs
   rw [h1] at this; cases this
   exact hsk hs
 refine ⟨_, v', ρ2, _, rfl, hV ρ1 ρ2 v' hVk hv', ?_, rfl, rfl⟩
 have fr : ∀ id r o, ¬ id < H.length -> ρ1 (H0.length + (id - H.length)) = some r -> (H.set D (.cells true z c1) ++ new.map (rno (sgUp H0.length H.length) d))[id]? = some o -> w.heap.size <= r.b := by
  intro id r o hid a b
  obtain ⟨o0, a1, _, _, _, _⟩ := hgetn id o (by omega) b
  exact hfresh _ r o0 (by omega) a (by rw [show H0.length + (id - H.length) - H0.length = id - H.length by omega]; exact a1)
 have u : ∀ id, ρ2 id = if id < H.length then ρ id else ρ1 (H0.length + (id - H.length)) := fun _ => rfl
 have hnob : ∀ id r o, ρ id = some r -> H[id]? = some o -> o.alive = true -> id ≠ D -> ¬ OB ρs H0 r.b := fun id r o a b c e q => by
  obtain ⟨rD, k1, _, k3⟩ := hOBk _ q
  exact hr.sep D id rD r _ o k1 a hp.hD b hDo c (Ne.symm e) k3
 have hfm2 : ∀ {F k r z' cs}, ρ2.g F k = some r -> (H.set D (.cells true z c1) ++ new.map (rno (sgUp H0.length H.length) d))[F]? = some (.fam z' cs) -> ρ.g F k = some r /\ H[F]? = some (.fam z' cs) := fun {F k r z' cs} mg mh => by
  have h1 : (if F < H.length then ρ.g F k else ρ1.g (H0.length + (F - H.length)) k) = some r := mg
  rcases Nat.lt_or_ge F H.length with h | h
  ·rw [if_pos h] at h1
   refine ⟨h1, ?_⟩
   by_cases e : F = D
   ·have := mh; rw [e, hgetD] at this; cases this
   ·rw [<- hgeto F h e]; exact mh
  ·obtain ⟨o, _, e, g1, g2, _⟩ := hgetn F _ h mh
   cases o <;> first | (cases g1; done) | (cases g2; done) | (cases e; done)
 have hfm : ∀ {F k r z' cs}, FM ρ2 (H.set D (.cells true z c1) ++ new.map (rno (sgUp H0.length H.length) d)) F k r z' cs -> FM ρ H F k r z' cs := fun m => ⟨(hfm2 m.g m.h).1, (hfm2 m.g m.h).2, m.a⟩
 have hfam : FRel B ρ2 (H.set D (.cells true z c1) ++ new.map (rno (sgUp H0.length H.length) d)) w' := by
  refine ⟨fun F k r h1 => ?_, fun F k r h1 => ?_, fun F k r z cs m => hr.fam.base _ _ _ _ _ (hfm m), fun F k r z cs m => (hr.fam.obj _ _ _ _ _ (hfm m)).mono hext (hpost.keep _ (hr.fam.lt _ _ _ (hfm m).g) (fun q => ?_)),
   fun F k r z cs F' k' r' z' cs' m m' => hr.fam.sep _ _ _ _ _ _ _ _ _ _ (hfm m) (hfm m'), fun F k r z cs id r' o m h1 h2 h3 => ?_, fun F k r z cs b m' m hb => ?_, fun F k r cs h1 h2 => hr.fam.cnt F k r cs (hfm2 h1 h2).1 (hfm2 h1 h2).2⟩
  ·have h1 : (if F < H.length then ρ.g F k else ρ1.g (H0.length + (F - H.length)) k) = some r := h1
   rcases Nat.lt_or_ge F H.length with h | h
   ·simp; omega
   ·rw [if_neg (by omega)] at h1
    have := hpost.rel.fam.dom _ _ _ h1
    simp at this ⊢; omega
  ·have h1 : (if F < H.length then ρ.g F k else ρ1.g (H0.length + (F - H.length)) k) = some r := h1
   rcases Nat.lt_or_ge F H.length with h | h
   ·rw [if_pos h] at h1
    exact Nat.lt_of_lt_of_le (hr.fam.lt _ _ _ h1) hpost.size
   ·rw [if_neg (by omega)] at h1
    exact hpost.rel.fam.lt _ _ _ h1
  ·obtain ⟨rD, k1, _, k3⟩ := hOBk _ q
   exact hr.fam.sep2 _ _ _ _ _ D rD _ (hfm m) k1 hp.hD rfl k3
  ·rw [u] at h1
   rcases Nat.lt_or_ge id H.length with h | h
   ·rw [if_pos h] at h1
    obtain ⟨o', b1, _, b3⟩ := hback id o h h2
    exact hr.fam.sep2 _ _ _ _ _ id r' o' (hfm m) h1 b1 (by rw [b3]; exact h3)
   ·rw [if_neg (by omega)] at h1
    have := fr id r' o (by omega) h1 h2
    have := hr.fam.lt _ _ _ (hfm m).g
    omega
  ·have hb : ρ1.mem b = some m' := hb
   rcases hpost.frz b m' hb with g | g | g
   ·exact hr.fam.mem _ _ _ _ _ b m' (hfm m) g
   ·have := hr.fam.lt _ _ _ (hfm m).g; omega
   ·obtain ⟨rD, k1, _, k3⟩ := hOBk _ g
    exact fun q => hr.fam.sep2 _ _ _ _ _ D rD _ (hfm m) k1 hp.hD rfl (k3.trans q.symm)
 refine ⟨⟨Nat.le_trans hr.bsize hpost.size, fun g hg => ?_, fun id r h1 => ?_, fun id r h1 => ?_, fun id r o h1 h2 => ?_, fun id r o h1 h2 h3 => ?_, fun id1 id2 r1 r2 o1 o2 h1 h2 g1 g2 k1 k2 hne => ?_, fun b m hb => ⟨(hpost.rel.mem b m hb).1, fun id r o h1 h2 h3 => ?_⟩, hfam⟩, hext, fun id r h1 h2 => ?_, by simp, fun id h1 h2 => hgeto id h1 (fun e => h2 (by rw [e]; exact List.mem_singleton.2 rfl)), hpost.size, fun b h1 h2 => hpost.keep b h1 (fun q => h2 (hOB b q)), fun b h1 h2 => ?_, hpost.os, hpost.tape, hpost.output, fun b m hb => (hpost.frz b m hb).imp id fun h => h.imp id (hOB b), hpost.drawn, fun F k r h1 h2 => .inl (by
  have h1 : (if F < H.length then ρ.g F k else ρ1.g (H0.length + (F - H.length)) k) = some r := h1
  rcases Nat.lt_or_ge F H.length with h | h
  ·rw [if_pos h, h2] at h1; cases h1
  ·exact h)⟩
 ·obtain ⟨r, k1, k2, k3⟩ := hr.glob g hg; exact ⟨r, hext _ _ k1, k2, k3⟩
 ·rw [u] at h1
  split at h1
  ·rw [List.length_append, List.length_set]; omega
  ·rename_i hid
   have := hpost.rel.dom _ _ h1
   rw [List.length_append, List.length_set] at this
   rw [List.length_append, List.length_map, List.length_set]; omega
 ·rw [u] at h1
  split at h1
  ·exact Nat.lt_of_lt_of_le (hr.lt _ _ h1) hpost.size
  ·exact hpost.rel.lt _ _ h1
 ·rw [u] at h1
  split at h1
  ·rename_i hid
   by_cases e : id = D
   ·subst e
    rw [hgetD] at h2; cases h2
    have hk1 : ρs k = some r := by have := hσ _ _ _ hp.hk h1; rw [if_pos rfl] at this; exact this
    exact plain_obj (ρ := ρ1) (ρ' := ρ2) (fun _ _ h => h) h1p (hpost.rel.obj k r _ (hpost.ext _ _ hk1) h1k)
   ·rw [hgeto id hid e] at h2
    cases hal : o.alive with
    | true => exact (hr.obj _ _ _ h1 h2).mono hext (hpost.keep _ (hr.lt _ _ h1) (hnob id r o h1 h2 hal e))
    | false => cases o <;> first | trivial | cases hal
  ·rename_i hid
   obtain ⟨o0, a1, rfl, a3, a4, a5⟩ := hgetn id o (by omega) h2
   have h6 := hpost.rel.obj _ _ _ h1 (show _ = some o0 by rw [h1n _ (by omega), show H0.length + (id - H.length) - H0.length = id - H.length by omega]; exact a1)
   rw [<- a5] at h6
   have hd : rno (sgOnly H0.length) d o0 = .dead -> o0 = .dead := fun he => by rw [a5] at he; exact he
   exact rel_rno hfwd (fun _ _ h => h) hfwdg a3 (rno_rel hn1 (fun _ _ h => h) hn1g h6 hd)
 ·rw [u] at h1
  split at h1
  ·rename_i hid
   obtain ⟨o', b1, b2, _⟩ := hback id o hid h2
   exact hr.base _ _ _ h1 b1 (by rw [b2]; exact h3)
  ·rename_i hid
   obtain ⟨o0, a1, _, a3, a4, _⟩ := hgetn id o (by omega) h2
   exact hpost.rel.base _ _ _ h1 (show _ = some o0 by rw [h1n _ (by omega), show H0.length + (id - H.length) - H0.length = id - H.length by omega]; exact a1) a4
 ·rw [u] at h1 h2
  by_cases c1' : id1 < H.length
  ·rw [if_pos c1'] at h1
   obtain ⟨p1, b1, b2, _⟩ := hback id1 o1 c1' g1
   by_cases c2 : id2 < H.length
   ·rw [if_pos c2] at h2
    obtain ⟨p2, d1, _, d3⟩ := hback id2 o2 c2 g2
    exact hr.sep id1 id2 r1 r2 p1 p2 h1 h2 b1 d1 (by rw [b2]; exact k1) (by rw [d3]; exact k2) hne
   ·rw [if_neg c2] at h2
    have := hr.lt _ _ h1
    have := fr id2 r2 o2 c2 h2 g2
    omega
  ·rw [if_neg c1'] at h1
   have f1 := fr id1 r1 o1 c1' h1 g1
   by_cases c2 : id2 < H.length
   ·rw [if_pos c2] at h2
    have := hr.lt _ _ h2
    omega
   ·rw [if_neg c2] at h2
    obtain ⟨p1, a1, _, _, a4, _⟩ := hgetn id1 o1 (by omega) g1
    obtain ⟨p2, b1, _, _, b4, _⟩ := hgetn id2 o2 (by omega) g2
    exact hpost.rel.sep _ _ r1 r2 p1 p2 h1 h2 (by rw [h1n _ (by omega), show H0.length + (id1 - H.length) - H0.length = id1 - H.length by omega]; exact a1) (by rw [h1n _ (by omega), show H0.length + (id2 - H.length) - H0.length = id2 - H.length by omega]; exact b1) a4 (hoa _ b4) (by omega)
 ·rw [u] at h1
  split at h1
  ·rename_i hid
   obtain ⟨o', b1, b2, _⟩ := hback id o hid h2
   intro he
   rcases hpost.frz b m hb with g | g | g
   ·exact (hr.mem b m g).2 id r o' h1 b1 (by rw [b2]; exact h3) he
   ·have := hr.lt _ _ h1; omega
   ·obtain ⟨rD, k1, k2, k3⟩ := hOBk _ g
    exact (hpost.rel.mem b m hb).2 k rD _ (hpost.ext _ _ k2) h1k rfl k3
  ·rename_i hid
   obtain ⟨o0, a1, _, a3, a4, _⟩ := hgetn id o (by omega) h2
   exact (hpost.rel.mem b m hb).2 _ r o0 h1 (by rw [h1n _ (by omega), show H0.length + (id - H.length) - H0.length = id - H.length by omega]; exact a1) a4
 ·rw [u] at h1
  split at h1
  ·rw [h2] at h1; cases h1
  ·omega
 ·rcases h2 with ⟨id, r, o, k1, k2, k3, k4⟩ | ⟨F, k, r, z, cs, m, e⟩
  ·rw [u] at k1
   split at k1
   ·rename_i hid
    obtain ⟨o', b1, b2, _⟩ := hback id o hid k2
    exact .inl ⟨id, r, o', k1, b1, by rw [b2]; exact k3, k4⟩
   ·rename_i hid
    have := fr id r o hid k1 k2
    omega
  ·exact .inr ⟨F, k, r, z, cs, hfm m, e⟩
theorem vcWG {mixed : Bool} {mask : Nat} {dm : Value -> MS} {rounds : Nat} (hmask : MaskOk P mixed mask) (hmix : mixed = true -> P.follows .mixedOrders = true) (n : Nat) {f : FuncId} {args : List Value} {css : List (List Value)} {h : Hint} {v : Value} {z : Nat} {c0 c1 : List Value}
  (hc : vF P mask dm rounds mixed n true f args (readsW P.globals.size z c0 css) (some [P.globals.size]) h (newKW (readsW P.globals.size z c0 css).n 3 P.globals.size (.cells true z c1) v []))
  (hp0 : c0.all (belowC 0) = true) (hp1 : c1.all (belowC 0) = true) {V : Value} {D : Nat} (hV : ∀ (ρ1 ρ2 : Ren) (x : Value), (∀ r, ρ1 P.globals.size = some r -> ρ2 D = some r) -> VR ρ1 v x -> VR ρ2 V x)
  {H : Heap} (hD : H[D]? = some (.cells true z c0)) (ids : List Nat) (hl : ids.length = css.length) (hids : ∀ (k : Nat) (cs : List Value), css[k]? = some cs -> ∃ id own z, ids[k]? = some id /\ H[id]? = some (KObj.cells own z (cs.map (rn (sgRW P.globals.size D ids) 3)))) (hne : D ∉ ids) :
  KCall P f (args.map (rn (sgRW P.globals.size D ids) 3)) H [D] (Is V (H.set D (.cells true z c1))) := by
 have e : (readsW P.globals.size z c0 css).list.length = P.globals.size + 1 + css.length := by rw [HT.length, readsW_n]
 have hkn : P.globals.size < (readsW P.globals.size z c0 css).n := by rw [readsW_n]; omega
 have h1 : KCall P f args (readsW P.globals.size z c0 css).list [P.globals.size] (Is v ((readsW P.globals.size z c0 css).list.set P.globals.size (.cells true z c1) ++ ([] : List (Bool × KObj)).map (·.2))) := by
  refine KCall.packW (d := 3) hkn (((vF_sound hmask hmix n).1 f args _ (some [P.globals.size]) h _ hc).post ?_)
  rintro v' H' ⟨H2, h2, e, hk⟩
  cases h2 with
  | again σ => exact ⟨H2, σ, e, hk⟩
  | _ => exact hk.elim
 have hp : ReadsW P (readsW P.globals.size z c0 css).list H (sgRW P.globals.size D ids) 3 P.globals.size D (.cells true z c0) := by
  refine ⟨fun g hg => if_pos hg, fun id id' h => ?_, by rw [e]; omega, ?_, ?_, hD, hp0, fun id o hne h => ?_, fun id cs h => ?_, fun id id' cs h1 h2 => ?_⟩
  ·rw [e]
   unfold sgRW at h
   split at h
   ·omega
   ·split at h
    ·omega
    ·have := (List.getElem?_eq_some_iff.1 h).1; omega
  ·rw [readsW_list, if_neg (Nat.lt_irrefl _), if_pos rfl]
  ·show (if _ then _ else _) = _
   rw [if_neg (Nat.lt_irrefl _), if_pos rfl]
  ·rw [readsW_list] at h
   split at h
   ·cases h; exact .inl rfl
   ·try rw [if_neg hne] at h
    obtain ⟨cs, _, rfl⟩ := Option.map_eq_some_iff.1 h; exact .inr ⟨cs, rfl⟩
  ·rw [readsW_list] at h
   split at h
   ·cases h
   ·rename_i h5
    split at h
    ·cases h
    ·rename_i h6
     unfold sgRW
     rw [if_neg h5, if_neg h6]
     exact fun q => hne (List.mem_of_getElem? q)
  ·rw [readsW_list] at h2
   split at h2
   ·cases h2
   ·rename_i h5
    split at h2
    ·cases h2
    ·rename_i h6
     obtain ⟨cs', a1, a2⟩ := Option.map_eq_some_iff.1 h2
     cases a2
     unfold sgRW at h1
     rw [if_neg h5, if_neg h6] at h1
     obtain ⟨id2, own, z2, b1, b2⟩ := hids _ _ a1
     rw [h1] at b1; cases b1
     exact ⟨own, z2, b2⟩
 have := KCall.writesG (V := V) (new := []) hp h1 hp1 hV rfl rfl
 rw [List.map_nil, List.append_nil] at this
 exact this
end
end Go.K
/- Radio: numbers of sightings in the order of their minutes. No condition. -/
namespace Go.Proofs.YtbgfjemppjhmjaaGreat
open Go Go.K
set_option maxRecDepth 100000
set_option linter.unusedVariables false
set_option linter.unusedSimpArgs false
noncomputable section
attribute [local irreducible] vF
def InS (n : Nat) (M : List Int) : Prop := ∀ v ∈ M, 0 <= v /\ v < (n : Int)
theorem InS.at {n : Nat} {M : List Int} (h : InS n M) {i : Nat} (hi : i < M.length) : 0 <= M.getD i 0 /\ M.getD i 0 < (n : Int) := h _ (getD_mem hi)
theorem valWU {f : FuncId} {args : List Value} {css : List (List Value)} {h : Hint} {c0 c1 : List Value}
  (hc : vF prog msk (dm 0) 100000 true 40 true f args (readsW 0 1 c0 css) (some [0]) h (newKW (readsW 0 1 c0 css).n 3 0 (.cells true 1 c1) (.tuple #[]) []))
  (hp0 : c0.all (belowC 0) = true) (hp1 : c1.all (belowC 0) = true) {H : Heap} {D : Nat} (hD : H[D]? = some (.cells true 1 c0)) {ids : List Nat} (hi : InsA H (sgRW 0 D ids) ids css) (hne : D ∉ ids) {args' : List Value} (ha : args.map (rn (sgRW 0 D ids) 3) = args') :
  KCall prog f args' H [D] (Is (.tuple #[]) (H.set D (.cells true 1 c1))) := by
 subst ha
 have key := vcWG (H := H) (D := D) (z := 1) (c0 := c0) (c1 := c1) mskOk mixed 40 (v := .tuple #[]) (V := .tuple #[]) (by rw [glob0]; exact hc) hp0 hp1 (fun ρ1 ρ2 x hr hv => by
  cases hv with
  | tuple h1 h2 => exact .tuple h1 (fun i v v' q => by simp at q)) hD ids hi.len (by rw [glob0]; exact hi.get) hne
 rw [glob0] at key
 exact key
theorem valG1 {f : FuncId} {args : List Value} {css : List (List Value)} {h : Hint} {n : Nat} {c0 c1 : List Value}
  (hc : vF prog msk (dm 0) 100000 true 40 true f args (readsW 0 1 c0 css) (some [0]) h (newKW (readsW 0 1 c0 css).n 3 0 (.cells true 1 c1) (slQ 0 2 n) []))
  (hp0 : c0.all (belowC 0) = true) (hp1 : c1.all (belowC 0) = true) {H : Heap} {D : Nat} (hD : H[D]? = some (.cells true 1 c0)) {ids : List Nat} (hi : InsA H (sgRW 0 D ids) ids css) (hne : D ∉ ids) {args' : List Value} (ha : args.map (rn (sgRW 0 D ids) 3) = args') :
  KCall prog f args' H [D] (Is (slQ D 2 n) (H.set D (.cells true 1 c1))) := by
 subst ha
 have key := vcWG (H := H) (D := D) (z := 1) (c0 := c0) (c1 := c1) mskOk mixed 40 (v := slQ 0 2 n) (V := slQ D 2 n) (by rw [glob0]; exact hc) hp0 hp1 (fun ρ1 ρ2 x hr hv => by
  rw [glob0] at hr
  cases hv with
  | sliceRe => exact .sliceRe
  | sliceR h hp hl hc ho => exact .sliceR (hr _ h) hp hl hc ho) hD ids hi.len (by rw [glob0]; exact hi.get) hne
 rw [glob0] at key
 exact key
theorem rnBool (l : List Bool) (σ : Nat -> Option Nat) : (l.flatMap boolC).map (rn σ 3) = l.flatMap boolC := (rnCl (d := 0) (plainBL 0 l)).1
theorem rnSp (l : List (Int × Int)) (σ : Nat -> Option Nat) : (l.flatMap spC).map (rn σ 3) = l.flatMap spC := (rnCl (d := 0) (plainSp 0 l)).1
theorem rnInL (l : List (List Int)) (σ : Nat -> Option Nat) : (inL l).map (rn σ 3) = inL l := (rnCl (d := 0) (inL_b 0 l)).1
theorem intRno (o : Bool) (z : Nat) (l : List Int) (σ : Nat -> Option Nat) : rno σ 3 (.cells o z (l.flatMap intC)) = .cells o z (l.flatMap intC) := congrArg (KObj.cells o z) (rnCl (d := 0) (plainIL 0 l)).1
theorem intRok (o : Bool) (z : Nat) (l : List Int) : rnoOk 3 (.cells o z (l.flatMap intC)) = true := (rnCl (σ := fun _ => none) (d := 0) (plainIL 0 l)).2
theorem hvIns {M : List Int} {w h : Int} {a : List Bool} {p : Int} {ss : List (Int × Int)} {rr : List (List Int)} (t : TrOk w h a p ss) (hM : InS ss.length M) (hl : M.length <= 1000) : RinsS M w h a p ss rr := by
 delta RinsS kk0 kk7 kkt kkh kks kk5 kkq kko kk4 kkf kkb kk2 kk8 kku kk9
 refine ⟨vI64 (by omega), rfl, ⟨Nat.le_refl _, Or.inr rfl⟩, ?_, fun _ => rfl, fun x hx => ⟨fun c => ?_, fun c => ?_⟩⟩
 ·rw [sortT_1]
  repeat' first | exact plainIL _ _ | exact rfl | exact wk_refl _ | exact wks_nil | apply And.intro | (exact iEq (by omega))
 ·have hx1 : x < M.length := by have := of_decide_eq_true c; omega
  refine ⟨rfl, ⟨Nat.le_refl _, rfl⟩, ?_, fun _ => rfl, fun y hy => ⟨fun d => ?_, fun d => ?_⟩⟩
  ·rw [sortJ_0 hx1]
   repeat' first | exact plainIL _ _ | exact rfl | exact wk_refl _ | exact wks_nil | apply And.intro | (exact iEq (by omega))
  ·have hy1 : 0 < y := by have := of_decide_eq_true d; omega
   obtain ⟨hyx, hip⟩ := hy
   have hsl := sortJ_len (k := kyI ss) hx1 hyx
   have eN : Int.toNat (((y : Nat) : Int) - 1) = y - 1 := by omega
   have e1 := sortJ_at (k := kyI ss) hx1 hyx
   have e2 := sortJ_pre (k := kyI ss) hx1 hyx (show y - 1 < y by omega)
   have hil := isr_len (kyI ss) M x
   have b1 : 0 <= (sortJ (kyI ss) M x y).getD y 0 /\ (sortJ (kyI ss) M x y).getD y 0 < (ss.length : Int) := by rw [e1]; exact hM.at hx1
   have hin : InS ss.length (isr (kyI ss) M x) := fun v hv => hM v (List.mem_of_mem_take ((isr_perm (kyI ss) M x (by omega)).mem_iff.1 hv))
   have b2 : 0 <= (sortJ (kyI ss) M x y).getD (y - 1) 0 /\ (sortJ (kyI ss) M x y).getD (y - 1) 0 < (ss.length : Int) := by rw [e2]; exact hin.at (by omega)
   have m1 := (t.bd (show Int.toNat ((sortJ (kyI ss) M x y).getD y 0) < ss.length by omega)).1
   have m2 := (t.bd (show Int.toNat ((sortJ (kyI ss) M x y).getD (y - 1) 0) < ss.length by omega)).1
   rw [eN]
   have k1 : kyI ss (M.getD x 0) = (ss.getD (Int.toNat ((sortJ (kyI ss) M x y).getD y 0)) zeroSp).1 := by rw [e1]; rfl
   have k2 : kyI ss ((isr (kyI ss) M x).getD (y - 1) 0) = (ss.getD (Int.toNat ((sortJ (kyI ss) M x y).getD (y - 1) 0)) zeroSp).1 := by rw [e2]; rfl
   refine ⟨⟨by omega, by omega⟩, intAt (by omega) (by omega), vI64 (by omega), ⟨by omega, by omega⟩, intAt (by omega) (by omega), b1, spAt0 (by omega) (by omega), b2, spAt0 (by omega) (by omega), vI64 (by omega), fun g => ?_, fun g => ?_⟩
   ·have hlt : kyI ss (M.getD x 0) < kyI ss ((isr (kyI ss) M x).getD (y - 1) 0) := by have := of_decide_eq_true g; rw [k1, k2]; omega
    have hgo := ipos_go (m := isr (kyI ss) M x) hlt
    rw [show y - 1 + 1 = y by omega] at hgo
    refine ⟨vI64 (by omega), vI64 (by omega), ⟨by omega, by omega⟩, intAt (by omega) (by omega), ⟨by omega, by omega⟩, intAt (by omega) (by omega), ⟨by omega, by omega⟩, ?_, rfl, ⟨by omega, by omega⟩, ?_, rfl, vI64 (by omega), y - 1, ⟨by omega, by rw [hip, hgo]⟩, by omega, ?_⟩
    ·rw [flat_len intC_len]; omega
    ·rw [setl_length, flat_len intC_len]; omega
    ·have hsw := sortJ_swap (k := kyI ss) hx1 (show y - 1 + 1 <= x by omega)
     rw [show y - 1 + 1 = y by omega, <- e1, <- e2] at hsw
     have s1 : setl (setl ((sortJ (kyI ss) M x y).flatMap intC) (0 + Int.toNat ((y : Nat) : Int) * 1) [.int .i64 ((sortJ (kyI ss) M x y).getD (y - 1) 0)]) (0 + (y - 1) * 1) [.int .i64 ((sortJ (kyI ss) M x y).getD y 0)] = (sortJ (kyI ss) M x (y - 1)).flatMap intC := by
      rw [show 0 + Int.toNat ((y : Nat) : Int) * 1 = y * 1 by omega, show 0 + (y - 1) * 1 = (y - 1) * 1 by omega]
      have f1 := flat_set intC_len (sortJ (kyI ss) M x y) y (by omega) ((sortJ (kyI ss) M x y).getD (y - 1) 0)
      rw [show intC ((sortJ (kyI ss) M x y).getD (y - 1) 0) = [.int .i64 ((sortJ (kyI ss) M x y).getD (y - 1) 0)] from rfl] at f1
      rw [f1]
      have f2 := flat_set intC_len ((sortJ (kyI ss) M x y).set y ((sortJ (kyI ss) M x y).getD (y - 1) 0)) (y - 1) (by rw [List.length_set]; omega) ((sortJ (kyI ss) M x y).getD y 0)
      rw [show intC ((sortJ (kyI ss) M x y).getD y 0) = [.int .i64 ((sortJ (kyI ss) M x y).getD y 0)] from rfl] at f2
      rw [f2, hsw]
     rw [s1]
     repeat' first | exact plainIL _ _ | exact rfl | exact wk_refl _ | exact wks_nil | apply And.intro | (exact iEq (by omega))
   ·have hnl : ¬ kyI ss (M.getD x 0) < kyI ss ((isr (kyI ss) M x).getD (y - 1) 0) := by have := of_decide_eq_false g; rw [k1, k2]; omega
    have hno := ipos_no (m := isr (kyI ss) M x) hnl
    rw [show y - 1 + 1 = y by omega] at hno
    rw [sortJ_end hx1 (hip.trans hno)]
    refine ⟨vI64 (by omega), x + 1, ⟨by omega, Or.inl (by omega)⟩, by omega, ?_⟩
    repeat' first | exact plainIL _ _ | exact rfl | exact wk_refl _ | exact wks_nil | apply And.intro | (exact iEq (by omega))
  ·have hy1 : y = 0 := by have := of_decide_eq_false d; omega
   obtain ⟨hyx, hip⟩ := hy
   subst hy1
   rw [sortJ_end (j := 0) hx1 (hip.trans rfl)]
   refine ⟨vI64 (by omega), x + 1, ⟨by omega, Or.inl (by omega)⟩, by omega, ?_⟩
   repeat' first | exact plainIL _ _ | exact rfl | exact wk_refl _ | exact wks_nil | apply And.intro | (exact iEq (by omega))
 ·have hx1 : M.length <= x := by have := of_decide_eq_false c; omega
  rw [sortT_all hx1]
  repeat' first | exact plainIL _ _ | exact rfl | exact wk_refl _ | exact wks_nil | apply And.intro | (exact iEq (by omega))
structure CtxAt (H : Heap) (D : Nat) (w h : Int) (a : List Bool) (p : Int) (ss : List (Int × Int)) (rr : List (List Int)) (b r i j q : Nat) : Prop where
 ne : D ∉ [b, r, i, j, q]
 box : ∃ o z, H[b]? = some (.cells o z [.pointer (some ⟨r, 0, none⟩)])
 wk : ∃ o z, H[r]? = some (.cells o z (wkCs w h a p ss rr i j q))
 land : ∃ o z, H[i]? = some (.cells o z (a.flatMap boolC))
 seen : ∃ o z, H[j]? = some (.cells o z (ss.flatMap spC))
 rows : ∃ o z, H[q]? = some (.cells o z (inL rr))
theorem CtxAt.ins {H : Heap} {D : Nat} {w h : Int} {a : List Bool} {p : Int} {ss : List (Int × Int)} {rr : List (List Int)} {b r i j q : Nat} (k : CtxAt H D w h a p ss rr b r i j q) : InsA H (sgRW 0 D [b, r, i, j, q]) [b, r, i, j, q] (ctxH w h a p ss rr) :=
 ⟨k.box, k.wk, by rw [rnBool]; exact k.land, by rw [rnSp]; exact k.seen, by rw [rnInL]; exact k.rows, trivial⟩
theorem kIns {M : List Int} {w h : Int} {a : List Bool} {p : Int} {ss : List (Int × Int)} {rr : List (List Int)} (t : TrOk w h a p ss) (hM : InS ss.length M) (hl : M.length <= 1000) {H : Heap} {D b r i j q : Nat} (hD : H[D]? = some (.cells true 1 (M.flatMap intC))) (k : CtxAt H D w h a p ss rr b r i j q) :
  KCall prog 256 [slQ D 2 M.length, .int .i64 0, .int .i64 (M.length : Int), .func (.func 166) #[] #[.pointer (some ⟨b, 0, none⟩)]] H [D] (Is (.tuple #[]) (H.set D (.cells true 1 ((isr (kyI ss) M M.length).flatMap intC)))) :=
 valWU (css := ctxH w h a p ss rr) (Eq.mpr (EinsS M w h a p ss rr) (hvIns t hM hl)) (plainIL _ _) (plainIL _ _) hD (ids := [b, r, i, j, q]) k.ins k.ne rfl
theorem hvStab {M : List Int} {w h : Int} {a : List Bool} {p : Int} {ss : List (Int × Int)} {rr : List (List Int)} (t : TrOk w h a p ss) (hM : InS ss.length M) (hl : M.length <= 19) : RstabS M w h a p ss rr := by
 delta RstabS kk0 kk7 kkj kkt kks kk3 kke kkc kkm kk9 kka kkl kk6 kkk kkg kkn kk1 kkr kku
 refine ⟨rfl, rfl, ?_, fun _ => rfl, fun x hx => ⟨fun c => (by have := of_decide_eq_true c; omega), fun c => ⟨⟨rfl, rfl, rfl, rfl, rfl, rfl, trivial⟩, fun H' _ g => ?_, rfl, rfl, ?_, fun _ => rfl, fun y hy => ⟨fun d => (by have := of_decide_eq_true d; omega), fun d => ?_⟩⟩⟩⟩
 ·repeat' first | exact plainIL _ _ | exact rfl | exact wk_refl _ | exact wks_nil | apply And.intro | (exact iEq (by omega))
 ·subst hx
  exact kIns (b := 1) (r := 2) (i := 3) (j := 4) (q := 5) t hM (by omega) g.1 ⟨by decide, ⟨_, _, g.2.1⟩, ⟨_, _, g.2.2.1⟩, ⟨_, _, g.2.2.2.1⟩, ⟨_, _, g.2.2.2.2.1⟩, ⟨_, _, g.2.2.2.2.2.1⟩⟩
 ·repeat' first | exact plainIL _ _ | exact rfl | exact wk_refl _ | exact wks_nil | apply And.intro | (exact iEq (by omega))
 ·repeat' first | exact plainIL _ _ | exact rfl | exact wk_refl _ | exact wks_nil | apply And.intro | (exact iEq (by omega))
theorem kStab {M : List Int} {w h : Int} {a : List Bool} {p : Int} {ss : List (Int × Int)} {rr : List (List Int)} (t : TrOk w h a p ss) (hM : InS ss.length M) (hl : M.length <= 19) {H : Heap} {D b r i j q : Nat} (hD : H[D]? = some (.cells true 1 (M.flatMap intC))) (k : CtxAt H D w h a p ss rr b r i j q) :
  KCall prog 226 [slQ D 2 M.length, .int .i64 (M.length : Int), .func (.func 166) #[] #[.pointer (some ⟨b, 0, none⟩)]] H [D] (Is (.tuple #[]) (H.set D (.cells true 1 ((isr (kyI ss) M M.length).flatMap intC)))) :=
 valWU (css := ctxH w h a p ss rr) (Eq.mpr (EstabS M w h a p ss rr) (hvStab t hM hl)) (plainIL _ _) (plainIL _ _) hD (ids := [b, r, i, j, q]) k.ins k.ne rfl
end
end Go.Proofs.YtbgfjemppjhmjaaGreat
