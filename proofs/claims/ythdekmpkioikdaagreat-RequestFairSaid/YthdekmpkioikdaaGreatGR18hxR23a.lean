/- Request: the program's decision is the next one of the policy. Plain laws. No condition. -/
import Derived.Test.YthdekmpkioikdaaGreatGR18gxR18f
import Derived.Test.YthdekmpkioikdaaGreatR19
import Derived.Test.YthdekmpkioikdaaGreatGZ6xR19f
namespace Go.Proofs.YthdekmpkioikdaaGreat
set_option linter.unusedSimpArgs false
open Go Go.K
set_option linter.unusedVariables false
noncomputable section
theorem rqAt_nat (l : List Rq) (i : Nat) : rqAt l (i : Int) = l.getD i zeroQ := by unfold rqAt; rw [Int.toNat_natCast]
theorem mem_keep {q : Int -> Bool} {M : List Int} {x : Int} : x ∈ keepP q M M.length ↔ x ∈ M /\ q x = true := by
 unfold keepP
 rw [List.take_length, List.mem_filter]
theorem mem_wt {f : Fleet} {l : List Rq} {h : List Sv} {x : Int} : x ∈ wtN f l h ↔ x ∈ opL l h /\ (rqAt l x).at_ <= hrN f l h := by
 unfold wtN
 rw [mem_keep]
 unfold qAt
 rw [decide_eq_true_eq]
theorem mem_sm {f : Fleet} {p : Pol} {l : List Rq} {h : List Sv} {X : Nat} {x : Int} : x ∈ smN f p l h X ↔ x ∈ wtN f l h /\ ofV p l (ovN l h h.length) (hrN f l h) X x = true := mem_keep
theorem hr_ask (f : Fleet) (l : List Rq) (h : List Sv) : (rqAt l (askN l h)).at_ <= hrN f l h := by unfold hrN; omega
theorem hr_min (f : Fleet) (l : List Rq) (h : List Sv) : minL (frH f h h.length) <= hrN f l h := by unfold hrN; omega
theorem wt_pos {f : Fleet} {l : List Rq} {h : List Sv} (h0 : 0 < (opL l h).length) : 0 < (wtN f l h).length :=
 List.length_pos_of_mem (mem_wt.2 ⟨(ask_op h0).1, hr_ask f l h⟩)
theorem cls_op {p : Pol} {l : List Rq} {h : List Sv} {hour : Int} {i : Nat} (hi : i < l.length) (ho : h.any (isRq (i : Int)) = false) (ha : (l.getD i zeroQ).at_ <= hour) :
  clsAt p l h hour i = if ofV p l (ovN l h h.length) hour 0 (i : Int) = true then 3 else if ofV p l (ovN l h h.length) hour 1 (i : Int) = true then 2 else 1 := by
 unfold clsAt classV
 rw [if_neg (fun k => k.elim (fun c => by rw [met_any hi, ho] at c; cases c) (fun c => by omega))]
 show _ = if decide (p.ov <= (ovN l h h.length).getD (Int.toNat (i : Int)) 0) = true then 3 else if (decide (0 < (rqAt l (i : Int)).limit) && decide ((rqAt l (i : Int)).at_ + (rqAt l (i : Int)).limit - hour <= p.warn)) = true then 2 else 1
 rw [rqAt_nat, Int.toNat_natCast]
 simp only [Bool.and_eq_true, decide_eq_true_eq]
theorem bst_rule {f : Fleet} {p : Pol} {l : List Rq} {h : List Sv} (ol : LsOk f.t.length l) {X : Nat} (hX : X <= 2) (hs : 0 < (smN f p l h X).length) (hn : ∀ Y, Y < X -> (smN f p l h Y).length = 0) :
  bstP (cmpV l X) (smB f p l h X) ((smN f p l h X).length - 1) = bstN f p l h /\ bstN f p l h ∈ opL l h /\ (rqAt l (bstN f p l h)).at_ <= hrN f l h := by
 obtain ⟨j, hj, ej⟩ := bst_mem (cmpV l X) (smB f p l h X) ((smN f p l h X).length - 1)
 generalize hb : bstP (cmpV l X) (smB f p l h X) ((smN f p l h X).length - 1) = b at *
 have hbs : b ∈ smN f p l h X := by
  rw [ej, show (smB f p l h X).getD j 0 = (smN f p l h X).getD j 0 from delP_at (show j < (smN f p l h X).length by omega)]
  exact getD_mem (by omega)
 have none0 : ∀ Y, Y < X -> ∀ x ∈ wtN f l h, ofV p l (ovN l h h.length) (hrN f l h) Y x = false := fun Y hY x hx => by
  cases e : ofV p l (ovN l h h.length) (hrN f l h) Y x with
  | false => rfl
  | true =>
   have := List.length_pos_of_mem (mem_sm.2 ⟨hx, e⟩)
   have := hn Y hY
   omega
 have cls : ∀ x ∈ wtN f l h, clsAt p l h (hrN f l h) (Int.toNat x) <= 3 - (X : Int) /\ (x ∈ smN f p l h X ↔ clsAt p l h (hrN f l h) (Int.toNat x) = 3 - (X : Int)) := fun x hx => by
  obtain ⟨h1, h2⟩ := mem_wt.1 hx
  obtain ⟨⟨h3, h4⟩, h5⟩ := mem_op.1 h1
  have hc := cls_op (p := p) (hour := hrN f l h) (show Int.toNat x < l.length by omega) (by rw [Int.toNat_of_nonneg h3]; exact h5) h2
  rw [Int.toNat_of_nonneg h3] at hc
  have m : x ∈ smN f p l h X ↔ ofV p l (ovN l h h.length) (hrN f l h) X x = true := ⟨fun q => (mem_sm.1 q).2, fun q => mem_sm.2 ⟨hx, q⟩⟩
  rw [m, hc]
  match X, hX, none0 with
  | 0, _, _ =>
   by_cases e : ofV p l (ovN l h h.length) (hrN f l h) 0 x = true
   ·rw [if_pos e]; exact ⟨by omega, ⟨fun _ => rfl, fun _ => e⟩⟩
   ·rw [if_neg e]; split <;> exact ⟨by omega, ⟨fun q => absurd q e, fun q => by omega⟩⟩
  | 1, _, n0 =>
   rw [if_neg (by rw [n0 0 (by omega) x hx]; decide)]
   by_cases e : ofV p l (ovN l h h.length) (hrN f l h) 1 x = true
   ·rw [if_pos e]; exact ⟨by omega, ⟨fun _ => rfl, fun _ => e⟩⟩
   ·rw [if_neg e]; exact ⟨by omega, ⟨fun q => absurd q e, fun q => by omega⟩⟩
  | 2, _, n0 =>
   rw [if_neg (by rw [n0 0 (by omega) x hx]; decide), if_neg (by rw [n0 1 (by omega) x hx]; decide)]
   exact ⟨by omega, ⟨fun _ => rfl, fun _ => rfl⟩⟩
  | X + 3, hX, _ => omega
 have hbw : b ∈ wtN f l h := (mem_sm.1 hbs).1
 obtain ⟨hbo, hba⟩ := mem_wt.1 hbw
 obtain ⟨⟨b1, b2⟩, b3⟩ := mem_op.1 hbo
 have hbc : clsAt p l h (hrN f l h) (Int.toNat b) = 3 - (X : Int) := (cls b hbw).2.1 hbs
 have sp := best_spec p l h (hrN f l h) l.length
 rcases sp with ⟨_, s2⟩ | ⟨s1, s2, s3, s4, s5⟩
 ·have := s2 (Int.toNat b) (by omega); omega
 have bm := best_min p l h (hrN f l h) l.length s4
 generalize hB : bestTo p l h (hrN f l h) l.length = B at *
 have hbst : bstN f p l h = B.1 := by show (bestTo p l h (hrN f l h) l.length).1 = _; rw [hB]
 have cB : 0 < clsAt p l h (hrN f l h) (Int.toNat B.1) := by rw [<- s3]; exact s4
 have fB := classV_free (show 0 < classV p _ _ _ _ from cB)
 rw [met_any (show Int.toNat B.1 < l.length by omega), Int.toNat_of_nonneg s1] at fB
 have hBo : B.1 ∈ opL l h := mem_op.2 ⟨⟨s1, s2⟩, fB.1⟩
 have hBw : B.1 ∈ wtN f l h := mem_wt.2 ⟨hBo, fB.2⟩
 have g1 := s5 (Int.toNat b) (by omega)
 have g2 := (cls B.1 hBw).1
 have hBc : B.2 = 3 - (X : Int) := by omega
 have hBs : B.1 ∈ smN f p l h X := (cls B.1 hBw).2.2 (by omega)
 have n1 := bm (Int.toNat b) (by omega) (by omega)
 have n1 : ¬ aheadB B.2 (rqAt l b) (rqAt l B.1) = true := n1
 have c3 : B.2 = 1 ∨ B.2 = 2 ∨ B.2 = 3 := by omega
 have cx : ∀ x y, cmpV l X x y < 0 ↔ aheadB B.2 (rqAt l x) (rqAt l y) = true := by
  match X, hX, hBc with
  | 0, _, e => rw [show B.2 = 3 by omega]; exact cmp_0 l
  | 1, _, e => rw [show B.2 = 2 by omega]; exact cmp_1 l
  | 2, _, e => rw [show B.2 = 1 by omega]; exact cmp_2 l
  | X + 3, hX, _ => omega
 have n2 : ¬ aheadB B.2 (rqAt l B.1) (rqAt l b) = true := by
  obtain ⟨k, hk, ek⟩ := List.mem_iff_getElem?.1 hBs |>.imp fun k e => (⟨(List.getElem?_eq_some_iff.1 e).1, by rw [List.getD_eq_getElem?_getD, e]; rfl⟩ : k < (smN f p l h X).length /\ (smN f p l h X).getD k 0 = B.1)
  have := bst_min (c := cmpV l X) (fun x y z a c => (cx x z).2 (ahead_tr c3 ((cx x y).1 a) ((cx y z).1 c))) (fun x a => ahead_ir c3 _ ((cx x x).1 a)) (smB f p l h X) ((smN f p l h X).length - 1) k (by omega)
  rw [hb, show (smB f p l h X).getD k 0 = (smN f p l h X).getD k 0 from delP_at hk, ek, cx] at this
  exact this
 have hid : b = B.1 := by
  have hi : ∀ i j : Nat, i < l.length -> j < l.length -> i ≠ j -> (l.getD i zeroQ).id ≠ (l.getD j zeroQ).id := fun i j h1 h2 h3 => by
   rcases Nat.lt_or_gt_of_ne h3 with q | q
   ·exact ol.ne j i h2 q
   ·exact fun e => ol.ne i j h1 q e.symm
  rcases Classical.em (Int.toNat b = Int.toNat B.1) with q | q
  ·omega
  ·have := hi (Int.toNat b) (Int.toNat B.1) (by omega) (by omega) q
   rcases ahead_or c3 (a := rqAt l b) (b := rqAt l B.1) this with k | k
   ·exact absurd k n1
   ·exact absurd k n2
 rw [hbst, <- hid]
 exact ⟨rfl, hbo, hba⟩
theorem by_free {f : Fleet} {p : Pol} {l : List Rq} {h : List Sv} (o : FlOk f) : 0 <= byAt f p l h (hrN f l h) /\ byAt f p l h (hrN f l h) < (f.b.length : Int) := by
 have hb := o.b1
 obtain ⟨i, h1, h2⟩ := minL_mem (M := frH f h h.length) (by rw [frH_len]; omega)
 rw [frH_len] at h1
 have hm := hr_min f l h
 rcases by_spec f l h (hrN f l h) (rqAt l (bestAt p l h (hrN f l h))).place f.b.length with ⟨_, b2⟩ | ⟨b1, b2, _⟩
 ·have := b2 i h1
  rw [brH_at h1] at this
  have this : hrN f l h < (frH f h h.length).getD i 0 := this
  omega
 ·exact ⟨b1, b2⟩
theorem dec_before {f : Fleet} {p : Pol} {l : List Rq} {h : List Sv} {hour : Int} (h0 : 0 < (opL l h).length) (hh : hour < hrN f l h) : decAt f p l h hour = none := by
 cases e : decAt f p l h hour with
 | none => rfl
 | some s =>
  obtain ⟨i, b, hi, hb, _, _, _, hm, hat, hfr⟩ := dec_some e
  have h1 := (ask_op h0).2 (i : Int) (mem_op.2 ⟨by omega, hm⟩)
  rw [rqAt_nat] at h1
  have h2 := minL_le (M := frH f h h.length) (i := b) (by rw [frH_len]; exact hb)
  rw [brH_at hb] at hfr
  have hfr : (frH f h h.length).getD b 0 <= hour := hfr
  unfold hrN at hh
  omega
theorem playI_to {f : Fleet} {p : Pol} {l : List Rq} {h : List Sv} (o : FlOk f) (ol : LsOk f.t.length l) (h0 : 0 < (opL l h).length) (hl : h.length < l.length) : ∀ (n hour : Nat), PlayI f p l hour h -> ((hour + n : Nat) : Int) <= hrN f l h -> PlayI f p l (hour + n) h
 | 0, hour, i, _ => i
 | n + 1, hour, i, hn => by
  have := playI_to o ol h0 hl n hour i (by omega)
  exact playI_next o ol this (fun _ => dec_before h0 (show ((hour + n : Nat) : Int) < hrN f l h by omega)) (.inl hl)
theorem run_dec {f : Fleet} {p : Pol} {l : List Rq} {h : List Sv} (o : FlOk f) (ol : LsOk f.t.length l) (i : RunI f p l h) (h0 : 0 < (opL l h).length) (hb : bstN f p l h ∈ opL l h) :
  ∃ hour : Nat, hrN f l h = (hour : Int) /\ h.length < l.length /\ PlayI f p l hour h /\ decAt f p l h (hrN f l h) = some (svN f p l h) /\ PlayI f p l hour (h ++ [svN f p l h]) := by
 obtain ⟨hour, pi, hle⟩ := i
 have hl : h.length < l.length := by have := op_len pi.good; omega
 have hle := hle hl
 have e : hrN f l h = ((hour + Int.toNat (hrN f l h - (hour : Int)) : Nat) : Int) := by omega
 have p2 := playI_to o ol h0 hl (Int.toNat (hrN f l h - (hour : Int))) hour pi (by omega)
 have hd : decAt f p l h (hrN f l h) = some (svN f p l h) := by
  have h1 := ((mem_op.1 hb).1).1
  have h2 := (by_free (p := p) (l := l) (h := h) o).1
  unfold decAt
  rw [if_neg (fun k => k.elim (fun c => by have h1 : 0 <= bestAt p l h (hrN f l h) := h1; omega) (fun c => by omega))]
  rfl
 exact ⟨_, e, hl, p2, hd, playI_dec o ol p2 hl (by rw [<- e]; exact hd)⟩
theorem hr_in {f : Fleet} {p : Pol} {l : List Rq} {h : List Sv} {hour : Nat} (ol : LsOk f.t.length l) (pi : PlayI f p l hour h) (hl : h.length < l.length) (e : hrN f l h = (hour : Int)) : 0 <= hrN f l h /\ hrN f l h <= 16000 := by
 have := pi.now hl
 have := ol.len
 omega
theorem run_next {f : Fleet} {p : Pol} {l : List Rq} {h : List Sv} (o : FlOk f) (ol : LsOk f.t.length l) (i : RunI f p l h) (h0 : 0 < (opL l h).length) (hb : bstN f p l h ∈ opL l h) : RunI f p l (h ++ [svN f p l h]) := by
 obtain ⟨hour, e, hl, pi, hd, p2⟩ := run_dec o ol i h0 hb
 refine ⟨hour, p2, fun hl2 => ?_⟩
 obtain ⟨a, b, ha, hb2, es, _, _, _, _, hfr⟩ := dec_some hd
 have g2 := op_len p2.good
 have q1 : minL (frH f h h.length) <= minL (frH f (h ++ [svN f p l h]) (h ++ [svN f p l h]).length) := by
  have hbl := o.b1
  obtain ⟨j, h1, h2⟩ := minL_mem (M := frH f (h ++ [svN f p l h]) (h ++ [svN f p l h]).length) (by rw [frH_len]; omega)
  rw [frH_len] at h1
  have h3 := minL_le (M := frH f h h.length) (i := j) (by rw [frH_len]; exact h1)
  rw [h2, List.length_append, show [svN f p l h].length = 1 from rfl, frH_snoc, getD_setN (by rw [frH_len]; exact h1)]
  split
  ·have hm := hr_min f l h
   have pin := plH_in o ol h h.length b hb2
   have tv := trav_in o (b := (rqAt l (a : Int)).place) pin
   have ql := (ol.ok a ha).len
   rw [<- rqAt_nat] at ql
   have : (svN f p l h).nd = hrN f l h + trav f ((plH f l h h.length).getD b 0) (rqAt l (a : Int)).place + (rqAt l (a : Int)).len := by
    rw [es]
    show hrN f l h + trav f ((brH f l h h.length).getD (Int.toNat (b : Int)) zeroB).at_ _ + _ = _
    rw [Int.toNat_natCast, brH_at hb2]
   omega
  ·exact h3
 have q2 : (rqAt l (askN l h)).at_ <= (rqAt l (askN l (h ++ [svN f p l h]))).at_ := by
  have m := (ask_op (l := l) (h := h ++ [svN f p l h]) (by omega)).1
  rw [<- op_snoc] at m
  exact (ask_op h0).2 _ (List.mem_filter.1 m).1
 rw [<- e]
 unfold hrN
 omega
theorem run_0 {f : Fleet} {p : Pol} {l : List Rq} (o : FlOk f) (ol : LsOk f.t.length l) : RunI f p l [] := by
 refine ⟨0, playI_0 ol.len, fun hl => ?_⟩
 have hm := hr_min f l []
 have hb := o.b1
 obtain ⟨i, h1, h2⟩ := minL_mem (M := frH f [] 0) (by rw [frH_len]; omega)
 rw [frH_len] at h1
 have : (frH f [] 0).getD i 0 = 0 := by
  show (List.replicate _ (0 : Int)).getD i 0 = 0
  rw [List.getD_eq_getElem?_getD, List.getElem?_replicate, if_pos h1]; rfl
 have hm : minL (frH f [] 0) <= hrN f l [] := hm
 omega
theorem run_end {f : Fleet} {p : Pol} {l : List Rq} {h : List Sv} (i : RunI f p l h) (h0 : ¬ 0 < (opL l h).length) : playF f p l = h := by
 obtain ⟨hour, pi, _⟩ := i
 have := op_len pi.good
 obtain ⟨m, _, e⟩ := pi.own
 rw [<- e]
 match m with
 | 0 => rfl
 | m + 1 => exact if_pos (by omega)
theorem ovQ_len (l : List Rq) (h : List Sv) (s : Sv) (x : Nat) : (ovQ l h s x).length = l.length := tabP_len ..
theorem ovQ_0 (l : List Rq) (h : List Sv) (s : Sv) : ovQ l h s 0 = ovN l h h.length := by
 refine list_ext 0 (by rw [ovQ_len, ovN_len]) fun j hj => ?_
 rw [ovQ_len] at hj
 unfold ovQ
 rw [tabP_get hj, if_neg (by rw [List.take_zero]; simp)]
theorem ovQ_all {l : List Rq} {h : List Sv} {s : Sv} : ovQ l h s (opL l (h ++ [s])).length = ovN l (h ++ [s]) (h ++ [s]).length := by
 have e : (h ++ [s]).length = h.length + 1 := by rw [List.length_append]; rfl
 refine list_ext 0 (by rw [ovQ_len, ovN_len]) fun j hj => ?_
 rw [ovQ_len] at hj
 unfold ovQ
 rw [tabP_get hj, List.take_length, e]
 split
 ·rfl
 ·rename_i k
  rw [ovN_new hj]
  have : (metH l.length (h ++ [s]) (h.length + 1)).getD j false = true := by
   rw [<- e, met_any hj]
   cases c : (h ++ [s]).any (isRq (j : Int)) with
   | true => rfl
   | false => exact absurd (List.contains_iff_mem.2 (mem_op.2 ⟨by omega, c⟩)) k
  rw [this]; simp
theorem op_nd (l : List Rq) (h : List Sv) : (opL l h).Nodup := by
 unfold opL idxL
 exact List.Nodup.sublist List.filter_sublist (List.Pairwise.map (fun (i : Nat) => (i : Int)) (fun a b (h : a ≠ b) => show (a : Int) ≠ (b : Int) by omega) List.nodup_range)
theorem ovQ_old {l : List Rq} {h : List Sv} {s : Sv} {x : Nat} (hx : x < (opL l (h ++ [s])).length) : (ovQ l h s x).getD (Int.toNat ((opL l (h ++ [s])).getD x 0)) 0 = (ovN l h h.length).getD (Int.toNat ((opL l (h ++ [s])).getD x 0)) 0 := by
 obtain ⟨⟨h1, h2⟩, _⟩ := op_at hx
 unfold ovQ
 rw [tabP_get (by omega), Int.toNat_of_nonneg h1, if_neg]
 intro k
 have nd := op_nd l (h ++ [s])
 rw [<- List.take_append_drop x (opL l (h ++ [s]))] at nd
 have dj := (List.nodup_append.1 nd).2.2
 have m1 := List.contains_iff_mem.1 k
 have m2 : (opL l (h ++ [s])).getD x 0 ∈ (opL l (h ++ [s])).drop x := by rw [drop_get hx]; exact List.mem_cons_self ..
 exact dj _ m1 _ m2 rfl
theorem ovQ_succ {l : List Rq} {h : List Sv} {s : Sv} {x : Nat} (hx : x < (opL l (h ++ [s])).length) :
  ovQ l h s (x + 1) = (ovQ l h s x).set (Int.toNat ((opL l (h ++ [s])).getD x 0)) ((ovN l (h ++ [s]) (h.length + 1)).getD (Int.toNat ((opL l (h ++ [s])).getD x 0)) 0) := by
 obtain ⟨⟨h1, h2⟩, _⟩ := op_at hx
 refine list_ext 0 (by rw [List.length_set, ovQ_len, ovQ_len]) fun j hj => ?_
 rw [ovQ_len] at hj
 rw [getD_setN (by rw [ovQ_len]; exact hj)]
 unfold ovQ
 rw [tabP_get hj, tabP_get hj, take_snoc (d := 0) hx]
 by_cases e : Int.toNat ((opL l (h ++ [s])).getD x 0) = j
 ·rw [if_pos e, if_pos (List.contains_iff_mem.2 (List.mem_append.2 (.inr (by rw [List.mem_singleton]; omega)))), e]
 ·rw [if_neg e]
  by_cases c : ((opL l (h ++ [s])).take x).contains (j : Int) = true
  ·rw [if_pos c, if_pos (List.contains_iff_mem.2 (List.mem_append.2 (.inl (List.contains_iff_mem.1 c))))]
  ·rw [if_neg c, if_neg]
   intro k
   rcases List.mem_append.1 (List.contains_iff_mem.1 k) with q | q
   ·exact c (List.contains_iff_mem.2 q)
   ·rw [List.mem_singleton] at q; omega
theorem ov_op {l : List Rq} {h : List Sv} {s : Sv} {x : Nat} (hx : x < (opL l (h ++ [s])).length) :
  (ovN l (h ++ [s]) (h.length + 1)).getD (Int.toNat ((opL l (h ++ [s])).getD x 0)) 0 = (ovN l h h.length).getD (Int.toNat ((opL l (h ++ [s])).getD x 0)) 0 + (if befB (rqAt l ((opL l (h ++ [s])).getD x 0)) (rqAt l s.rq) = true then 1 else 0) := by
 obtain ⟨⟨h1, h2⟩, h3⟩ := op_at hx
 have hj : Int.toNat ((opL l (h ++ [s])).getD x 0) < l.length := by omega
 rw [ovN_new hj]
 have e : (h ++ [s]).length = h.length + 1 := by rw [List.length_append]; rfl
 rw [<- e, met_any hj, Int.toNat_of_nonneg h1, h3]
 rfl
end
end Go.Proofs.YthdekmpkioikdaaGreat
/- Request: one decision of the program's run of a policy. No condition. -/
namespace Go.Proofs.YthdekmpkioikdaaGreat
open Go Go.K
set_option maxRecDepth 100000
set_option linter.unusedVariables false
set_option linter.unusedSimpArgs false
noncomputable section
attribute [local irreducible] vF
theorem insC {H : Heap} {σ : Nat -> Option Nat} {i : Nat} {is : List Nat} {c : List Value} {cs : List (List Value)} {o : Bool} {z : Nat} (h : c.all (belowC 0) = true) (e : H[i]? = some (.cells o z c)) (r : InsA H σ is cs) : InsA H σ (i :: is) (c :: cs) :=
 ⟨⟨o, z, by rw [(rnCl (d := 0) h).1]; exact e⟩, r⟩
theorem insP {H : Heap} {σ : Nat -> Option Nat} {i : Nat} {is : List Nat} {c c2 : List Value} {cs : List (List Value)} {o : Bool} {z : Nat} (h : c.map (rn σ 3) = c2) (e : H[i]? = some (.cells o z c2)) (r : InsA H σ is cs) : InsA H σ (i :: is) (c :: cs) :=
 ⟨⟨o, z, by rw [h]; exact e⟩, r⟩
theorem kDel0 (M : List Int) (k : Nat) (f : Fleet) (l : List Rq) (X Y : List Int) (hr : Int) (hk : k <= M.length) (hM : M.length <= 4294967296) (hin : ∀ i, i < k -> 0 <= M.getD i 0 /\ M.getD i 0 < (l.length : Int)) {H : Heap} {D : Nat} (hD : H[D]? = some (.cells true 1 (M.flatMap intC))) {ids : List Nat} (hi : InsA H (sgRW 0 D ids) ids (ctB f l X Y hr)) (hne : D ∉ ids) {args' : List Value} (ha : [slQ 0 2 k, .func (.func 123) #[] #[pT 7, pT 8]].map (rn (sgRW 0 D ids) 3) = args') :
  KCall prog 122 args' H [D] (Is (slQ D 2 (keepP (qAt l hr) M k).length) (H.set D (.cells true 1 ((delP (qAt l hr) M k).flatMap intC)))) :=
 valG (Eq.mpr (EDel0 M k f l X Y hr) (hvDel0 M k f l X Y hr hk hM hin)) (plainIL 0 _) (plainIL 0 _) hD hi hne ha
theorem kDel1 (M : List Int) (k : Nat) (f : Fleet) (l : List Rq) (X Y : List Int) (hr : Int) (p : Pol) (ov : List Int) (hk : k <= M.length) (hM : M.length <= 4294967296) (hin : ∀ i, i < k -> 0 <= M.getD i 0 /\ M.getD i 0 < (l.length : Int)) (hov : ov.length = l.length) {H : Heap} {D : Nat} (hD : H[D]? = some (.cells true 1 (M.flatMap intC))) {ids : List Nat} (hi : InsA H (sgRW 0 D ids) ids (ctC f l X Y hr p ov 0)) (hne : D ∉ ids) {args' : List Value} (ha : [slQ 0 2 k, .func (.func 125) #[] #[pT 15]].map (rn (sgRW 0 D ids) 3) = args') :
  KCall prog 122 args' H [D] (Is (slQ D 2 (keepP (ofV p l ov hr 0) M k).length) (H.set D (.cells true 1 ((delP (ofV p l ov hr 0) M k).flatMap intC)))) :=
 valG (Eq.mpr (EDel1 M k f l X Y hr p ov) (hvDel1 M k f l X Y hr p ov hk hM hin hov)) (plainIL 0 _) (plainIL 0 _) hD hi hne ha
theorem kDel2 (M : List Int) (k : Nat) (f : Fleet) (l : List Rq) (X Y : List Int) (hr : Int) (p : Pol) (ov : List Int) (hk : k <= M.length) (hM : M.length <= 4294967296) (hin : ∀ i, i < k -> 0 <= M.getD i 0 /\ M.getD i 0 < (l.length : Int)) (hb : ∀ i, i < l.length -> 0 <= (l.getD i zeroQ).at_ /\ (l.getD i zeroQ).at_ <= 10000 /\ 0 <= (l.getD i zeroQ).limit /\ (l.getD i zeroQ).limit <= 10000 /\ 1 <= (l.getD i zeroQ).prio /\ (l.getD i zeroQ).prio <= 3) (hhr : -1000000000 <= hr /\ hr <= 1000000000) {H : Heap} {D : Nat} (hD : H[D]? = some (.cells true 1 (M.flatMap intC))) {ids : List Nat} (hi : InsA H (sgRW 0 D ids) ids (ctC f l X Y hr p ov 1)) (hne : D ∉ ids) {args' : List Value} (ha : [slQ 0 2 k, .func (.func 125) #[] #[pT 15]].map (rn (sgRW 0 D ids) 3) = args') :
  KCall prog 122 args' H [D] (Is (slQ D 2 (keepP (ofV p l ov hr 1) M k).length) (H.set D (.cells true 1 ((delP (ofV p l ov hr 1) M k).flatMap intC)))) :=
 valG (Eq.mpr (EDel2 M k f l X Y hr p ov) (hvDel2 M k f l X Y hr p ov hk hM hin (fun i hi => ⟨(hb i hi).1, (hb i hi).2.1, (hb i hi).2.2.1, (hb i hi).2.2.2.1⟩) hhr)) (plainIL 0 _) (plainIL 0 _) hD hi hne ha
theorem kDel3 (M : List Int) (k : Nat) (f : Fleet) (l : List Rq) (X Y : List Int) (hr : Int) (p : Pol) (ov : List Int) (hk : k <= M.length) (hM : M.length <= 4294967296) (hin : ∀ i, i < k -> 0 <= M.getD i 0 /\ M.getD i 0 < (l.length : Int)) {H : Heap} {D : Nat} (hD : H[D]? = some (.cells true 1 (M.flatMap intC))) {ids : List Nat} (hi : InsA H (sgRW 0 D ids) ids (ctC f l X Y hr p ov 2)) (hne : D ∉ ids) {args' : List Value} (ha : [slQ 0 2 k, .func (.func 125) #[] #[pT 15]].map (rn (sgRW 0 D ids) 3) = args') :
  KCall prog 122 args' H [D] (Is (slQ D 2 (keepP (ofV p l ov hr 2) M k).length) (H.set D (.cells true 1 ((delP (ofV p l ov hr 2) M k).flatMap intC)))) :=
 valG (Eq.mpr (EDel3 M k f l X Y hr p ov) (hvDel3 M k f l X Y hr p ov hk hM hin)) (plainIL 0 _) (plainIL 0 _) hD hi hne ha
theorem kDel4 (M : List Int) (k : Nat) (i : Int) (hk : k <= M.length) (hM : M.length <= 4294967296) (hin : ∀ i, i < k -> -1 <= M.getD i 0) {H : Heap} {D : Nat} (hD : H[D]? = some (.cells true 1 (M.flatMap intC))) {ids : List Nat} (hi : InsA H (sgRW 0 D ids) ids [[nI i]]) (hne : D ∉ ids) {args' : List Value} (ha : [slQ 0 2 k, .func (.func 130) #[] #[pT 1]].map (rn (sgRW 0 D ids) 3) = args') :
  KCall prog 122 args' H [D] (Is (slQ D 2 (keepP (qNe i) M k).length) (H.set D (.cells true 1 ((delP (qNe i) M k).flatMap intC)))) :=
 valG (Eq.mpr (EDel4 M k i) (hvDel4 M k i hk hM hin)) (plainIL 0 _) (plainIL 0 _) hD hi hne ha
theorem kBst0 (M : List Int) (k : Nat) (f : Fleet) (l : List Rq) (X Y : List Int) (h0 : 0 < k) (hk : k <= M.length) (hM : M.length <= 4294967296) (hin : ∀ i, i < k -> 0 <= M.getD i 0 /\ M.getD i 0 < (l.length : Int)) {H : Heap} {ids : List Nat} (hi : InsA H (sgR 0 ids) ids ((M.flatMap intC) :: ctA f l X Y)) {args' : List Value} (ha : [slQ 0 2 k, .func (.func 120) #[pT 6] #[]].map (rn (sgR 0 ids) 3) = args') :
  KCall prog 119 args' H [] (Is (nI (bstP (cmpL l) M (k - 1))) H) :=
 valB (Eq.mpr (EBst0 _ M k f l X Y) (hvBst0 M k f l X Y h0 hk hM hin)) rfl (hi := hi) (ha := ha)
theorem kBst1 (M : List Int) (k : Nat) (f : Fleet) (l : List Rq) (X Y : List Int) (hr : Int) (p : Pol) (ov : List Int) (h0 : 0 < k) (hk : k <= M.length) (hM : M.length <= 4294967296) (hin : ∀ i, i < k -> 0 <= M.getD i 0 /\ M.getD i 0 < (l.length : Int)) {H : Heap} {ids : List Nat} (hi : InsA H (sgR 0 ids) ids ((M.flatMap intC) :: ctC f l X Y hr p ov 0)) {args' : List Value} (ha : [slQ 0 2 k, .func (.func 126) #[] #[pT 15, pT 7]].map (rn (sgR 0 ids) 3) = args') :
  KCall prog 119 args' H [] (Is (nI (bstP (cmpV l 0) M (k - 1))) H) :=
 valB (Eq.mpr (EBst1 _ M k f l X Y hr p ov) (hvBst1 M k f l X Y hr p ov h0 hk hM hin)) rfl (hi := hi) (ha := ha)
theorem kBst2 (M : List Int) (k : Nat) (f : Fleet) (l : List Rq) (X Y : List Int) (hr : Int) (p : Pol) (ov : List Int) (h0 : 0 < k) (hk : k <= M.length) (hM : M.length <= 4294967296) (hin : ∀ i, i < k -> 0 <= M.getD i 0 /\ M.getD i 0 < (l.length : Int)) (hb : ∀ i, i < l.length -> 0 <= (l.getD i zeroQ).at_ /\ (l.getD i zeroQ).at_ <= 10000 /\ 0 <= (l.getD i zeroQ).limit /\ (l.getD i zeroQ).limit <= 10000 /\ 1 <= (l.getD i zeroQ).prio /\ (l.getD i zeroQ).prio <= 3) {H : Heap} {ids : List Nat} (hi : InsA H (sgR 0 ids) ids ((M.flatMap intC) :: ctC f l X Y hr p ov 1)) {args' : List Value} (ha : [slQ 0 2 k, .func (.func 126) #[] #[pT 15, pT 7]].map (rn (sgR 0 ids) 3) = args') :
  KCall prog 119 args' H [] (Is (nI (bstP (cmpV l 1) M (k - 1))) H) :=
 valB (Eq.mpr (EBst2 _ M k f l X Y hr p ov) (hvBst2 M k f l X Y hr p ov h0 hk hM hin hb)) rfl (hi := hi) (ha := ha)
theorem kBst3 (M : List Int) (k : Nat) (f : Fleet) (l : List Rq) (X Y : List Int) (hr : Int) (p : Pol) (ov : List Int) (h0 : 0 < k) (hk : k <= M.length) (hM : M.length <= 4294967296) (hin : ∀ i, i < k -> 0 <= M.getD i 0 /\ M.getD i 0 < (l.length : Int)) (hb : ∀ i, i < l.length -> 0 <= (l.getD i zeroQ).at_ /\ (l.getD i zeroQ).at_ <= 10000 /\ 0 <= (l.getD i zeroQ).limit /\ (l.getD i zeroQ).limit <= 10000 /\ 1 <= (l.getD i zeroQ).prio /\ (l.getD i zeroQ).prio <= 3) {H : Heap} {ids : List Nat} (hi : InsA H (sgR 0 ids) ids ((M.flatMap intC) :: ctC f l X Y hr p ov 2)) {args' : List Value} (ha : [slQ 0 2 k, .func (.func 126) #[] #[pT 15, pT 7]].map (rn (sgR 0 ids) 3) = args') :
  KCall prog 119 args' H [] (Is (nI (bstP (cmpV l 2) M (k - 1))) H) :=
 valB (Eq.mpr (EBst3 _ M k f l X Y hr p ov) (hvBst3 M k f l X Y hr p ov h0 hk hM hin hb)) rfl (hi := hi) (ha := ha)
theorem bnds {f : Fleet} {l : List Rq} (ol : LsOk f.t.length l) : ∀ i, i < l.length -> 0 <= (l.getD i zeroQ).at_ /\ (l.getD i zeroQ).at_ <= 10000 /\ 0 <= (l.getD i zeroQ).limit /\ (l.getD i zeroQ).limit <= 10000 /\ 1 <= (l.getD i zeroQ).prio /\ (l.getD i zeroQ).prio <= 3 := fun i hi =>
 ⟨(ol.ok i hi).at_.1, (ol.ok i hi).at_.2, (ol.ok i hi).limit.1, (ol.ok i hi).limit.2, (ol.ok i hi).prio.1, (ol.ok i hi).prio.2⟩
theorem plQ {l : List Rq} {k : Nat} (h : k < l.length) {off : Nat} (ho : off = k * 7 + 2) : (l.flatMap rqC)[off]? = some (.int .i64 (l.getD k zeroQ).place) := cell_at (n := 7) (d := zeroQ) (c := 2) rqC_len h ho rfl
theorem plH_snoc (f : Fleet) (l : List Rq) (h : List Sv) (s : Sv) : plH f l (h ++ [s]) (h.length + 1) = (plH f l h h.length).set (Int.toNat s.br) (rqAt l s.rq).dest := by
 show (plH f l (h ++ [s]) h.length).set _ _ = _
 rw [plH_app f l h s _ (Nat.le_refl _), svAt_r]
theorem wt_le (f : Fleet) (l : List Rq) (h : List Sv) : (wtN f l h).length <= (opL l h).length := keepP_le ..
theorem wtB_len (f : Fleet) (l : List Rq) (h : List Sv) : (wtB f l h).length = (opL l h).length := delP_len (Nat.le_refl _)
theorem wtB_take (f : Fleet) (l : List Rq) (h : List Sv) : (wtB f l h).take (wtN f l h).length = wtN f l h := delP_take
theorem sm_le (f : Fleet) (p : Pol) (l : List Rq) (h : List Sv) (X : Nat) : (smN f p l h X).length <= (wtN f l h).length := keepP_le ..
theorem smB_len (f : Fleet) (p : Pol) (l : List Rq) (h : List Sv) (X : Nat) : (smB f p l h X).length = (wtN f l h).length := delP_len (Nat.le_refl _)
theorem op_in (l : List Rq) (h : List Sv) : ∀ i, i < (opL l h).length -> 0 <= (opL l h).getD i 0 /\ (opL l h).getD i 0 < (l.length : Int) := fun i hi => (op_at hi).1
theorem wt_in (f : Fleet) (l : List Rq) (h : List Sv) : ∀ i, i < (wtN f l h).length -> 0 <= (wtN f l h).getD i 0 /\ (wtN f l h).getD i 0 < (l.length : Int) := fun i hi => (mem_op.1 (mem_wt.1 (getD_mem (d := 0) hi)).1).1
theorem smB_in (f : Fleet) (p : Pol) (l : List Rq) (h : List Sv) (X : Nat) : ∀ i, i < (smN f p l h X).length -> 0 <= (smB f p l h X).getD i 0 /\ (smB f p l h X).getD i 0 < (l.length : Int) := fun i hi => by
 rw [show (smB f p l h X).getD i 0 = (smN f p l h X).getD i 0 from delP_at hi]
 exact (mem_op.1 (mem_wt.1 (mem_sm.1 (getD_mem (d := 0) hi)).1).1).1
set_option maxHeartbeats 8000000 in
theorem runBody (f : Fleet) (p : Pol) (l : List Rq) (h : List Sv) (o : FlOk f) (ol : LsOk f.t.length l) (i : RunI f p l h) : RBody f p l h := by
 have l30 := ol.len
 have b3 := o.b2
 have b1 := o.b1
 have opl := op_le l h
 have wtl := wt_le f l h
 have sm0 := sm_le f p l h 0
 have sm1 := sm_le f p l h 1
 have sm2 := sm_le f p l h 2
 delta RBody jj3f jj4e jj48 jj2e jjv jj21 jjb jj4c jjw jja jj3v jj1z jj39 jj4j jji jj22 jj3h jjs jjx jjn jj1l jj29 jjt jjq jjl jj1k jj24 jj1q jj1m jj2m jjc jjk jj3x jj3t jj3j jj1t jj3 jj3d jj49 jjr jj1i jj16 jj6 jj2q jj5 jjf jj18 jj1j jj1h jj3u jjm jj36 jju jj20 jjh jjy jj2l jjj jj1r jj1e jj13 jjd jj10 jj15 jjz jj9 jje jj19 jj27 jj1x jj23 jj2t jj28 jj2d jj1v jj4i jj3e jj4l jj4a jj4f jj2f jj1 jj12 jj2a jj11 jj25 jj2 jj1a jj1b jj1p jj2b jj1n jj26 jj4 jj1c jj1d
 intro hd0
 have d : 0 < (opL l h).length := by have := of_decide_eq_true hd0; omega
 have wp := wt_pos (f := f) d
 have am := ask_op d
 have aI := (mem_op.1 am.1).1
 have hl : h.length < l.length := by obtain ⟨_, pi, _⟩ := i; have := op_len pi.good; omega
 have hrB : -1000000000 <= hrN f l h /\ hrN f l h <= 1000000000 := by
  obtain ⟨_, pi, _⟩ := i
  have fr := pi.free
  obtain ⟨j, j1, j2⟩ := minL_mem (M := frH f h h.length) (by rw [frH_len]; omega)
  rw [frH_len] at j1
  have fj := fr j j1
  have ql := (ol.ok _ (show Int.toNat (askN l h) < l.length by omega)).at_
  have ql : 0 <= (rqAt l (askN l h)).at_ /\ (rqAt l (askN l h)).at_ <= 10000 := ql
  unfold hrN
  omega
 refine ⟨⟨rfl, rfl, rfl, rfl, rfl, rfl, rfl, trivial⟩, fun H' _ hd => ?_, by omega, atQ (by omega) (by omega), ⟨rfl, trivial⟩, fun H' _ hd => ?_, ?_, ⟨rfl, trivial⟩, fun H' hL hd => ?_, ⟨rfl, rfl, rfl, rfl, rfl, rfl, rfl, rfl, rfl, trivial⟩, fun H' _ hd => ?_, ⟨rfl, trivial⟩, fun H' hL hd => by
   have := kCloneP (wtB f l h) (wtN f l h).length wp (by rw [wtB_len]; exact wt_le f l h) (by rw [wtB_len]; omega) hL hd.1
   rw [wtB_take] at this
   exact this, ⟨rfl, rfl, rfl, rfl, rfl, rfl, rfl, rfl, rfl, rfl, rfl, rfl, rfl, rfl, rfl, rfl, trivial⟩, fun H' _ hd => ?_, forkD (fun c0 => ?_) (fun c0 => ?_)⟩
 ·exact kBst0 (opB l h) (opL l h).length f l (frH f h h.length) (plH f l h h.length) d (by rw [opB_len]; omega) (by rw [opB_len]; omega) (fun j hj => by rw [opB_at hj]; exact op_in l h j hj) (ids := [12, 0, 1, 2, 7, 8, 9]) (insC (plainIL 0 _) hd.1 (insC (inL_b 0 _) hd.2.1 (insC (plainIL 0 _) hd.2.2.1 (insC (plainRQ 0 _) hd.2.2.2.1 (insC (plainIL 0 _) hd.2.2.2.2.1 (insC (plainIL 0 _) hd.2.2.2.2.2.1 (insP (by rw [frH_len, plH_len]; rfl) hd.2.2.2.2.2.2.1 trivial))))))) rfl
 ·have := kMin (frH f h h.length) (by rw [frH_len]; omega) (by rw [frH_len]; omega) hd.1
  rw [frH_len] at this
  exact this
 ·show some (KObj.cells true 0 [nI _]) = some (KObj.cells true 0 [nI _])
  have : (if (l.getD (Int.toNat (askN l h)) zeroQ).at_ > minL (frH f h h.length) then (l.getD (Int.toNat (askN l h)) zeroQ).at_ else minL (frH f h h.length)) = hrN f l h := by
   show _ = max (minL (frH f h h.length)) (l.getD (Int.toNat (askN l h)) zeroQ).at_
   split <;> omega
  rw [this]
 ·have := kCloneP (opB l h) (opL l h).length d (by rw [opB_len]; exact opl) (by rw [opB_len]; omega) hL hd.1
  rw [opB_take] at this
  exact this
 ·exact KCall.wkA (args2 := [slQ 16 2 (opL l h).length, .func (.func 123) #[] #[pT 10, pT 15]]) (kDel0 (opL l h) (opL l h).length f l (frH f h h.length) (plH f l h h.length) (hrN f l h) (Nat.le_refl _) (by omega) (op_in l h) (D := 16) hd.1 (ids := [0, 1, 2, 7, 8, 9, 10, 15]) (insC (inL_b 0 _) hd.2.1 (insC (plainIL 0 _) hd.2.2.1 (insC (plainRQ 0 _) hd.2.2.2.1 (insC (plainIL 0 _) hd.2.2.2.2.1 (insC (plainIL 0 _) hd.2.2.2.2.2.1 (insP (by rw [frH_len, plH_len]; rfl) hd.2.2.2.2.2.2.1 (insP rfl hd.2.2.2.2.2.2.2.1 (insC rfl hd.2.2.2.2.2.2.2.2.1 trivial)))))))) (by decide) rfl) (wks_cons wk_QR (wks_cons (wk_refl _) wks_nil))
 ·exact KCall.wkA (args2 := [slQ 25 2 (wtN f l h).length, .func (.func 125) #[] #[pT 24]]) (kDel1 (wtN f l h) (wtN f l h).length f l (frH f h h.length) (plH f l h h.length) (hrN f l h) p (ovN l h h.length) (Nat.le_refl _) (by omega) (wt_in f l h) (by rw [ovN_len]) (D := 25) hd.1 (ids := [0, 1, 2, 7, 8, 9, 10, 15, 19, 13, 20, 21, 22, 18, 24]) (insC (inL_b 0 _) hd.2.1 (insC (plainIL 0 _) hd.2.2.1 (insC (plainRQ 0 _) hd.2.2.2.1 (insC (plainIL 0 _) hd.2.2.2.2.1 (insC (plainIL 0 _) hd.2.2.2.2.2.1 (insP (by rw [frH_len, plH_len]; rfl) hd.2.2.2.2.2.2.1 (insP rfl hd.2.2.2.2.2.2.2.1 (insC rfl hd.2.2.2.2.2.2.2.2.1 (insC rfl hd.2.2.2.2.2.2.2.2.2.1 (insC (plainIL 0 _) hd.2.2.2.2.2.2.2.2.2.2.1 (insP (by rw [ovN_len]; rfl) hd.2.2.2.2.2.2.2.2.2.2.2.1 (insC rfl hd.2.2.2.2.2.2.2.2.2.2.2.2.1 (insP rfl hd.2.2.2.2.2.2.2.2.2.2.2.2.2.1 (insP rfl hd.2.2.2.2.2.2.2.2.2.2.2.2.2.2.1 (insP rfl hd.2.2.2.2.2.2.2.2.2.2.2.2.2.2.2.1 trivial))))))))))))))) (by decide) rfl) (wks_cons wk_QR (wks_cons (wk_refl _) wks_nil))
 ·have c0 : 0 < (smN f p l h 0).length := by omega
  obtain ⟨be, bo, ba⟩ := bst_rule (p := p) ol (X := 0) (by omega) (by omega) (fun Y hY => absurd hY (Nat.not_lt_zero _))
  obtain ⟨⟨bo1, bo2⟩, bo3⟩ := mem_op.1 bo
  obtain ⟨hour, he, _, pI, hdec, pI2⟩ := run_dec o ol i d bo
  have hrI := hr_in ol pI hl he
  refine ⟨⟨rfl, rfl, rfl, rfl, rfl, rfl, rfl, rfl, rfl, rfl, rfl, rfl, rfl, rfl, rfl, rfl, trivial⟩, fun H' _ hd => ?_, rfl, Nat.zero_le _, ?_, fun _ => rfl, ?_⟩
  ·have := kBst1 (smB f p l h 0) (smN f p l h 0).length f l (frH f h h.length) (plH f l h h.length) (hrN f l h) p (ovN l h h.length) (by omega) (by rw [smB_len]; exact sm_le f p l h 0) (by rw [smB_len]; omega) (smB_in f p l h 0) (ids := 25 :: [0, 1, 2, 7, 8, 9, 10, 15, 19, 13, 20, 21, 22, 18, 24]) (insC (plainIL 0 _) hd.1 (insC (inL_b 0 _) hd.2.1 (insC (plainIL 0 _) hd.2.2.1 (insC (plainRQ 0 _) hd.2.2.2.1 (insC (plainIL 0 _) hd.2.2.2.2.1 (insC (plainIL 0 _) hd.2.2.2.2.2.1 (insP (by rw [frH_len, plH_len]; rfl) hd.2.2.2.2.2.2.1 (insP rfl hd.2.2.2.2.2.2.2.1 (insC rfl hd.2.2.2.2.2.2.2.2.1 (insC rfl hd.2.2.2.2.2.2.2.2.2.1 (insC (plainIL 0 _) hd.2.2.2.2.2.2.2.2.2.2.1 (insP (by rw [ovN_len]; rfl) hd.2.2.2.2.2.2.2.2.2.2.2.1 (insC rfl hd.2.2.2.2.2.2.2.2.2.2.2.2.1 (insP rfl hd.2.2.2.2.2.2.2.2.2.2.2.2.2.1 (insP rfl hd.2.2.2.2.2.2.2.2.2.2.2.2.2.2.1 (insP rfl hd.2.2.2.2.2.2.2.2.2.2.2.2.2.2.2.1 trivial)))))))))))))))) rfl
   rw [be] at this
   exact this
  ·repeat' first | exact plainIL _ _ | exact plainSV _ _ | exact wk_refl _ | exact trivial | exact rfl | exact wk_refl _ | (exact wk_Q (by omega)) | apply And.intro | (exact iEq (by omega))
  generalize hi : bstN f p l h = I at *
  have hB : Int.toNat I < l.length := by omega
  have qb := ol.ok _ hB
  have qp := qb.place
  intro b hb
  have ys := by_spec f l h (hrN f l h) (rqAt l I).place b
  refine forkD (fun q => ?_) (fun q => ?_)
  ·have hlb : b < f.b.length := by omega
   have pin := plH_in o ol h h.length
   have pb := pin b hlb
   have hbn : Int.toNat ((plH f l h h.length).getD b 0) < f.t.length := by omega
   have rb := o.row _ hbn
   have fat : ((brH f l h h.length).getD b zeroB).free = (frH f h h.length).getD b 0 := by rw [brH_at hlb]
   have aat : ((brH f l h h.length).getD b zeroB).at_ = (plH f l h h.length).getD b 0 := by rw [brH_at hlb]
   refine ⟨by omega, intAt (by rw [frH_len]; exact hlb) (by omega), forkD (fun d1 => forkD (fun d2 => ?_) (fun d2 => ?_)) (fun d1 => ?_)⟩
   ·refine ⟨vI64 (by omega), b + 1, by omega, by omega, rfl, ?_⟩
    rw [by_1 (by rw [fat]; omega) (.inl d2)]
    repeat' first | exact plainIL _ _ | exact plainSV _ _ | exact wk_refl _ | exact trivial | exact rfl | exact wk_refl _ | (exact wk_Q (by omega)) | apply And.intro | (exact iEq (by omega))
   ·obtain ⟨Y, eY⟩ : ∃ Y, byTo f l h (hrN f l h) (rqAt l I).place b = Y := ⟨_, rfl⟩
    have z1 := by_1 (f := f) (l := l) (h := h) (hour := hrN f l h) (b := b) (place := (rqAt l I).place) (by rw [fat]; omega)
    have z2 := by_2 (f := f) (l := l) (h := h) (hour := hrN f l h) (b := b) (place := (rqAt l I).place) (by rw [fat]; omega)
    rw [eY] at ys d2 z1 z2 ⊢
    have hY : 0 <= Y /\ Y < (b : Int) := by
     rcases ys with ⟨y1, _⟩ | ⟨y1, y2, _⟩
     ·omega
     ·exact ⟨y1, y2⟩
    have hYb : Int.toNat Y < f.b.length := by omega
    have py := pin (Int.toNat Y) hYb
    have yat : ((brH f l h h.length).getD (Int.toNat Y) zeroB).at_ = (plH f l h h.length).getD (Int.toNat Y) 0 := by rw [brH_at hYb]
    have hyn : Int.toNat ((plH f l h h.length).getD (Int.toNat Y) 0) < f.t.length := by omega
    have ry := o.row _ hyn
    rw [aat, yat] at z1 z2
    refine ⟨by omega, intAt (by rw [plH_len]; exact hlb) (by omega), by omega, inL_at hbn (by omega), by omega, plQ hB (by omega), by omega, intAt (by omega) (by omega), by omega, intAt (by rw [plH_len]; exact hYb) (by omega), by omega, inL_at hyn (by omega), by omega, plQ hB (by omega), by omega, intAt (by omega) (by omega), forkD (fun d3 => ?_) (fun d3 => ?_)⟩
    ·refine ⟨vI64 (by omega), b + 1, by omega, by omega, rfl, ?_⟩
     rw [z1 (.inr d3)]
     repeat' first | exact plainIL _ _ | exact plainSV _ _ | exact wk_refl _ | exact trivial | exact rfl | exact wk_refl _ | (exact wk_Q (by omega)) | apply And.intro | (exact iEq (by omega))
    ·refine ⟨vI64 (by omega), b + 1, by omega, by omega, rfl, ?_⟩
     rw [z2 (fun k => k.elim (fun k => d2 k) (fun k => d3 k))]
     repeat' first | exact plainIL _ _ | exact plainSV _ _ | exact wk_refl _ | exact trivial | exact rfl | exact wk_refl _ | (exact wk_Q (by omega)) | apply And.intro | (exact iEq (by omega))
   ·refine ⟨vI64 (by omega), b + 1, by omega, by omega, rfl, ?_⟩
    rw [by_0 (by rw [fat]; omega)]
    repeat' first | exact plainIL _ _ | exact plainSV _ _ | exact wk_refl _ | exact trivial | exact rfl | exact wk_refl _ | (exact wk_Q (by omega)) | apply And.intro | (exact iEq (by omega))
  obtain rfl : b = f.b.length := by omega
  have bf := by_free (p := p) (l := l) (h := h) o
  have hby : byAt f p l h (hrN f l h) = byTo f l h (hrN f l h) (rqAt l I).place f.b.length := by unfold byAt; rw [show bestAt p l h (hrN f l h) = I from hi]
  obtain ⟨Y, eY⟩ : ∃ Y, byTo f l h (hrN f l h) (rqAt l I).place f.b.length = Y := ⟨_, rfl⟩
  rw [eY] at hby ⊢
  rw [hby] at bf
  have hYb : Int.toNat Y < f.b.length := by omega
  have py := plH_in o ol h h.length (Int.toNat Y) hYb
  have hyn : Int.toNat ((plH f l h h.length).getD (Int.toNat Y) 0) < f.t.length := by omega
  have ry := o.row _ hyn
  have tv : 0 <= (f.t.getD (Int.toNat ((plH f l h h.length).getD (Int.toNat Y) 0)) []).getD (Int.toNat (l.getD (Int.toNat I) zeroQ).place) 0 /\ (f.t.getD (Int.toNat ((plH f l h h.length).getD (Int.toNat Y) 0)) []).getD (Int.toNat (l.getD (Int.toNat I) zeroQ).place) 0 <= 100 := o.el _ _ hyn
  have ql := qb.len
  have hT : trav f ((brH f l h h.length).getD (Int.toNat Y) zeroB).at_ (rqAt l I).place = (f.t.getD (Int.toNat ((plH f l h h.length).getD (Int.toNat Y) 0)) []).getD (Int.toNat (l.getD (Int.toNat I) zeroQ).place) 0 := by rw [brH_at hYb]; rfl
  have hS : svN f p l h = ⟨I, Y, hrN f l h, hrN f l h + (f.t.getD (Int.toNat ((plH f l h h.length).getD (Int.toNat Y) 0)) []).getD (Int.toNat (l.getD (Int.toNat I) zeroQ).place) 0, hrN f l h + (f.t.getD (Int.toNat ((plH f l h h.length).getD (Int.toNat Y) 0)) []).getD (Int.toNat (l.getD (Int.toNat I) zeroQ).place) 0 + (l.getD (Int.toNat I) zeroQ).len⟩ := by
   unfold svN mkSv
   rw [hby, hi, hT]; rfl
  generalize hw : (f.t.getD (Int.toNat ((plH f l h h.length).getD (Int.toNat Y) 0)) []).getD (Int.toNat (l.getD (Int.toNat I) zeroQ).place) 0 = w at *
  refine ⟨by omega, partQ hB (by omega), by omega, intAt (by rw [plH_len]; exact hYb) (by omega), by omega, inL_at hyn (by omega), by omega, by rw [<- hw]; exact intAt (by omega) (by omega), vI64 (by omega), vI64 (by omega), _, rfl, by omega, by rw [flat_len intC_len, frH_len]; omega, rfl, by omega, by rw [flat_len intC_len, plH_len]; omega, rfl, ?_⟩
  have hrq : (svN f p l h).rq = I := by rw [hS]
  have kop := keep_op l h (svN f p l h)
  have dop := del_op l h (svN f p l h)
  rw [hrq] at kop dop
  have glen : (h ++ [svN f p l h]).length = h.length + 1 := by rw [List.length_append]; rfl
  generalize hSv : svN f p l h = S at *
  have f1 := flat_set (f := intC) intC_len (frH f h h.length) (Int.toNat Y) (by rw [frH_len]; exact hYb) (hrN f l h + w + (l.getD (Int.toNat I) zeroQ).len)
  have f2 := flat_set (f := intC) intC_len (plH f l h h.length) (Int.toNat Y) (by rw [plH_len]; exact hYb) (l.getD (Int.toNat I) zeroQ).dest
  have e1 : (frH f h h.length).set (Int.toNat Y) (hrN f l h + w + (l.getD (Int.toNat I) zeroQ).len) = frH f (h ++ [S]) (h ++ [S]).length := by rw [glen, frH_snoc, hS]
  have e2 : (plH f l h h.length).set (Int.toNat Y) (l.getD (Int.toNat I) zeroQ).dest = plH f l (h ++ [S]) (h ++ [S]).length := by rw [glen, plH_snoc, hS]; rfl
  rw [e1] at f1
  rw [e2] at f2
  have z0 : 0 + Int.toNat Y * 1 = Int.toNat Y * 1 := by omega
  refine ⟨⟨by omega, by decide, ⟨Nat.le_refl _, by rw [flat_len svC_len]; omega⟩, ⟨Nat.le_refl _, Nat.le_refl _⟩, rfl⟩, rfl, ⟨rfl, rfl, trivial⟩, fun H' _ hd => ?_, rfl, Nat.zero_le _, ?_, fun _ => rfl, ?_⟩
  ·have := kDel4 (opB l h) (opL l h).length I (by rw [opB_len]; exact op_le l h) (by rw [opB_len]; omega) (fun j hj => by rw [opB_at hj]; have := (op_at hj).1; omega) (D := 12) hd.1 (ids := [17]) (insC rfl hd.2.1 trivial) (by decide) rfl
   rw [kop, dop] at this
   exact this
  ·rw [ovQ_0]
   repeat' first | exact plainIL _ _ | exact plainSV _ _ | exact wk_refl _ | exact trivial | exact rfl | exact wk_refl _ | (exact wk_Q (by omega)) | apply And.intro | (exact iEq (by omega))
  intro x hx
  refine forkD (fun q => ?_) (fun q => ?_)
  ·have hlx : x < (opL l (h ++ [S])).length := by omega
   have op2 := op_le l (h ++ [S])
   have oat := (op_at hlx).1
   have hbx := opB_at (l := l) (h := h ++ [S]) hlx
   have hov := ovQ_old (s := S) hlx
   have hsu := ovQ_succ (s := S) hlx
   have hop := ov_op (s := S) hlx
   rw [hrq] at hop
   rw [hop] at hsu
   rw [hbx]
   generalize hE : (opL l (h ++ [S])).getD x 0 = E at *
   have hEn : Int.toNat E < l.length := by omega
   have oin := ovN_in (h := h) hEn h.length
   refine ⟨by omega, by rw [<- hE, <- opB_at hlx]; exact intAt (by rw [opB_len]; omega) (by omega), ⟨rfl, rfl, rfl, rfl, rfl, rfl, trivial⟩, fun H' _ hd => ?_, forkD (fun d1 => ?_) (fun d1 => ?_)⟩
   ·rw [z0, f1, f2] at hd
    exact kLater f l (frH f (h ++ [S]) (h ++ [S]).length) (plH f l (h ++ [S]) (h ++ [S]).length) E I oat ⟨bo1, bo2⟩ (by rw [frH_len, plH_len]; exact hd.1) hd.2.1 hd.2.2.1 hd.2.2.2.1 hd.2.2.2.2.1 hd.2.2.2.2.2.1
   ·have hb1 : befB (rqAt l E) (rqAt l I) = true := (later_lt _ _).1 d1
    rw [if_pos hb1, <- hov] at hsu
    have g2 := flat_set (f := intC) intC_len (ovQ l h S x) (Int.toNat E) (by rw [ovQ_len]; exact hEn) ((ovQ l h S x).getD (Int.toNat E) 0 + 1)
    rw [<- hsu] at g2
    refine ⟨by omega, intAt (by rw [ovQ_len]; exact hEn) (by omega), vI64 (by rw [hov]; omega), by omega, by rw [flat_len intC_len, ovQ_len]; omega, rfl, vI64 (by omega), x + 1, by omega, by omega, rfl, ?_⟩
    rw [show 0 + Int.toNat E * 1 = Int.toNat E * 1 by omega, g2]
    repeat' first | exact plainIL _ _ | exact plainSV _ _ | exact wk_refl _ | exact trivial | exact rfl | exact wk_refl _ | (exact wk_Q (by omega)) | apply And.intro | (exact iEq (by omega))
   ·have hb1 : ¬ befB (rqAt l E) (rqAt l I) = true := fun k => d1 ((later_lt _ _).2 k)
    rw [if_neg hb1, Int.add_zero, <- hov, set_self (by rw [ovQ_len]; exact hEn)] at hsu
    refine ⟨vI64 (by omega), x + 1, by omega, by omega, rfl, ?_⟩
    rw [hsu]
    repeat' first | exact plainIL _ _ | exact plainSV _ _ | exact wk_refl _ | exact trivial | exact rfl | exact wk_refl _ | (exact wk_Q (by omega)) | apply And.intro | (exact iEq (by omega))
  obtain rfl : x = (opL l (h ++ [S])).length := by omega
  have rn2 := run_next o ol i d (by rw [hi]; exact bo)
  rw [hSv] at rn2
  have gs := sv_snoc h S
  have eS : svC S = [nI I, nI Y, nI (hrN f l h), nI (hrN f l h + w), nI (hrN f l h + w + (l.getD (Int.toNat I) zeroQ).len)] := by rw [hS]
  rw [eS] at gs
  refine ⟨h ++ [S], rn2, by omega, rfl, ?_⟩
  rw [z0, f1, f2, ovQ_all, gs, glen]
  repeat' first | exact plainIL _ _ | exact plainSV _ _ | exact wk_refl _ | exact trivial | exact rfl | exact wk_refl _ | (exact wk_Q (by omega)) | apply And.intro | (exact iEq (by omega))
 refine ⟨⟨rfl, trivial⟩, fun H' hL hd => by
   have := kCloneP (wtB f l h) (wtN f l h).length wp (by rw [wtB_len]; exact wt_le f l h) (by rw [wtB_len]; omega) hL hd.1
   rw [wtB_take] at this
   exact this, ⟨rfl, rfl, rfl, rfl, rfl, rfl, rfl, rfl, rfl, rfl, rfl, rfl, rfl, rfl, rfl, rfl, trivial⟩, fun H' _ hd => ?_, forkD (fun c1 => ?_) (fun c1 => ?_)⟩
 ·exact KCall.wkA (args2 := [slQ 27 2 (wtN f l h).length, .func (.func 125) #[] #[pT 26]]) (kDel2 (wtN f l h) (wtN f l h).length f l (frH f h h.length) (plH f l h h.length) (hrN f l h) p (ovN l h h.length) (Nat.le_refl _) (by omega) (wt_in f l h) (bnds ol) hrB (D := 27) hd.1 (ids := [0, 1, 2, 7, 8, 9, 10, 15, 19, 13, 20, 21, 22, 18, 26]) (insC (inL_b 0 _) hd.2.1 (insC (plainIL 0 _) hd.2.2.1 (insC (plainRQ 0 _) hd.2.2.2.1 (insC (plainIL 0 _) hd.2.2.2.2.1 (insC (plainIL 0 _) hd.2.2.2.2.2.1 (insP (by rw [frH_len, plH_len]; rfl) hd.2.2.2.2.2.2.1 (insP rfl hd.2.2.2.2.2.2.2.1 (insC rfl hd.2.2.2.2.2.2.2.2.1 (insC rfl hd.2.2.2.2.2.2.2.2.2.1 (insC (plainIL 0 _) hd.2.2.2.2.2.2.2.2.2.2.1 (insP (by rw [ovN_len]; rfl) hd.2.2.2.2.2.2.2.2.2.2.2.1 (insC rfl hd.2.2.2.2.2.2.2.2.2.2.2.2.1 (insP rfl hd.2.2.2.2.2.2.2.2.2.2.2.2.2.1 (insP rfl hd.2.2.2.2.2.2.2.2.2.2.2.2.2.2.1 (insP rfl hd.2.2.2.2.2.2.2.2.2.2.2.2.2.2.2.1 trivial))))))))))))))) (by decide) rfl) (wks_cons wk_QR (wks_cons (wk_refl _) wks_nil))
 ·have c1 : 0 < (smN f p l h 1).length := by omega
  obtain ⟨be, bo, ba⟩ := bst_rule (p := p) ol (X := 1) (by omega) (by omega) (fun Y hY => by rw [show Y = 0 by omega]; omega)
  obtain ⟨⟨bo1, bo2⟩, bo3⟩ := mem_op.1 bo
  obtain ⟨hour, he, _, pI, hdec, pI2⟩ := run_dec o ol i d bo
  have hrI := hr_in ol pI hl he
  refine ⟨⟨rfl, rfl, rfl, rfl, rfl, rfl, rfl, rfl, rfl, rfl, rfl, rfl, rfl, rfl, rfl, rfl, trivial⟩, fun H' _ hd => ?_, rfl, Nat.zero_le _, ?_, fun _ => rfl, ?_⟩
  ·have := kBst2 (smB f p l h 1) (smN f p l h 1).length f l (frH f h h.length) (plH f l h h.length) (hrN f l h) p (ovN l h h.length) (by omega) (by rw [smB_len]; exact sm_le f p l h 1) (by rw [smB_len]; omega) (smB_in f p l h 1) (bnds ol) (ids := 27 :: [0, 1, 2, 7, 8, 9, 10, 15, 19, 13, 20, 21, 22, 18, 26]) (insC (plainIL 0 _) hd.1 (insC (inL_b 0 _) hd.2.1 (insC (plainIL 0 _) hd.2.2.1 (insC (plainRQ 0 _) hd.2.2.2.1 (insC (plainIL 0 _) hd.2.2.2.2.1 (insC (plainIL 0 _) hd.2.2.2.2.2.1 (insP (by rw [frH_len, plH_len]; rfl) hd.2.2.2.2.2.2.1 (insP rfl hd.2.2.2.2.2.2.2.1 (insC rfl hd.2.2.2.2.2.2.2.2.1 (insC rfl hd.2.2.2.2.2.2.2.2.2.1 (insC (plainIL 0 _) hd.2.2.2.2.2.2.2.2.2.2.1 (insP (by rw [ovN_len]; rfl) hd.2.2.2.2.2.2.2.2.2.2.2.1 (insC rfl hd.2.2.2.2.2.2.2.2.2.2.2.2.1 (insP rfl hd.2.2.2.2.2.2.2.2.2.2.2.2.2.1 (insP rfl hd.2.2.2.2.2.2.2.2.2.2.2.2.2.2.1 (insP rfl hd.2.2.2.2.2.2.2.2.2.2.2.2.2.2.2.1 trivial)))))))))))))))) rfl
   rw [be] at this
   exact this
  ·repeat' first | exact plainIL _ _ | exact plainSV _ _ | exact wk_refl _ | exact trivial | exact rfl | exact wk_refl _ | (exact wk_Q (by omega)) | apply And.intro | (exact iEq (by omega))
  generalize hi : bstN f p l h = I at *
  have hB : Int.toNat I < l.length := by omega
  have qb := ol.ok _ hB
  have qp := qb.place
  intro b hb
  have ys := by_spec f l h (hrN f l h) (rqAt l I).place b
  refine forkD (fun q => ?_) (fun q => ?_)
  ·have hlb : b < f.b.length := by omega
   have pin := plH_in o ol h h.length
   have pb := pin b hlb
   have hbn : Int.toNat ((plH f l h h.length).getD b 0) < f.t.length := by omega
   have rb := o.row _ hbn
   have fat : ((brH f l h h.length).getD b zeroB).free = (frH f h h.length).getD b 0 := by rw [brH_at hlb]
   have aat : ((brH f l h h.length).getD b zeroB).at_ = (plH f l h h.length).getD b 0 := by rw [brH_at hlb]
   refine ⟨by omega, intAt (by rw [frH_len]; exact hlb) (by omega), forkD (fun d1 => forkD (fun d2 => ?_) (fun d2 => ?_)) (fun d1 => ?_)⟩
   ·refine ⟨vI64 (by omega), b + 1, by omega, by omega, rfl, ?_⟩
    rw [by_1 (by rw [fat]; omega) (.inl d2)]
    repeat' first | exact plainIL _ _ | exact plainSV _ _ | exact wk_refl _ | exact trivial | exact rfl | exact wk_refl _ | (exact wk_Q (by omega)) | apply And.intro | (exact iEq (by omega))
   ·obtain ⟨Y, eY⟩ : ∃ Y, byTo f l h (hrN f l h) (rqAt l I).place b = Y := ⟨_, rfl⟩
    have z1 := by_1 (f := f) (l := l) (h := h) (hour := hrN f l h) (b := b) (place := (rqAt l I).place) (by rw [fat]; omega)
    have z2 := by_2 (f := f) (l := l) (h := h) (hour := hrN f l h) (b := b) (place := (rqAt l I).place) (by rw [fat]; omega)
    rw [eY] at ys d2 z1 z2 ⊢
    have hY : 0 <= Y /\ Y < (b : Int) := by
     rcases ys with ⟨y1, _⟩ | ⟨y1, y2, _⟩
     ·omega
     ·exact ⟨y1, y2⟩
    have hYb : Int.toNat Y < f.b.length := by omega
    have py := pin (Int.toNat Y) hYb
    have yat : ((brH f l h h.length).getD (Int.toNat Y) zeroB).at_ = (plH f l h h.length).getD (Int.toNat Y) 0 := by rw [brH_at hYb]
    have hyn : Int.toNat ((plH f l h h.length).getD (Int.toNat Y) 0) < f.t.length := by omega
    have ry := o.row _ hyn
    rw [aat, yat] at z1 z2
    refine ⟨by omega, intAt (by rw [plH_len]; exact hlb) (by omega), by omega, inL_at hbn (by omega), by omega, plQ hB (by omega), by omega, intAt (by omega) (by omega), by omega, intAt (by rw [plH_len]; exact hYb) (by omega), by omega, inL_at hyn (by omega), by omega, plQ hB (by omega), by omega, intAt (by omega) (by omega), forkD (fun d3 => ?_) (fun d3 => ?_)⟩
    ·refine ⟨vI64 (by omega), b + 1, by omega, by omega, rfl, ?_⟩
     rw [z1 (.inr d3)]
     repeat' first | exact plainIL _ _ | exact plainSV _ _ | exact wk_refl _ | exact trivial | exact rfl | exact wk_refl _ | (exact wk_Q (by omega)) | apply And.intro | (exact iEq (by omega))
    ·refine ⟨vI64 (by omega), b + 1, by omega, by omega, rfl, ?_⟩
     rw [z2 (fun k => k.elim (fun k => d2 k) (fun k => d3 k))]
     repeat' first | exact plainIL _ _ | exact plainSV _ _ | exact wk_refl _ | exact trivial | exact rfl | exact wk_refl _ | (exact wk_Q (by omega)) | apply And.intro | (exact iEq (by omega))
   ·refine ⟨vI64 (by omega), b + 1, by omega, by omega, rfl, ?_⟩
    rw [by_0 (by rw [fat]; omega)]
    repeat' first | exact plainIL _ _ | exact plainSV _ _ | exact wk_refl _ | exact trivial | exact rfl | exact wk_refl _ | (exact wk_Q (by omega)) | apply And.intro | (exact iEq (by omega))
  obtain rfl : b = f.b.length := by omega
  have bf := by_free (p := p) (l := l) (h := h) o
  have hby : byAt f p l h (hrN f l h) = byTo f l h (hrN f l h) (rqAt l I).place f.b.length := by unfold byAt; rw [show bestAt p l h (hrN f l h) = I from hi]
  obtain ⟨Y, eY⟩ : ∃ Y, byTo f l h (hrN f l h) (rqAt l I).place f.b.length = Y := ⟨_, rfl⟩
  rw [eY] at hby ⊢
  rw [hby] at bf
  have hYb : Int.toNat Y < f.b.length := by omega
  have py := plH_in o ol h h.length (Int.toNat Y) hYb
  have hyn : Int.toNat ((plH f l h h.length).getD (Int.toNat Y) 0) < f.t.length := by omega
  have ry := o.row _ hyn
  have tv : 0 <= (f.t.getD (Int.toNat ((plH f l h h.length).getD (Int.toNat Y) 0)) []).getD (Int.toNat (l.getD (Int.toNat I) zeroQ).place) 0 /\ (f.t.getD (Int.toNat ((plH f l h h.length).getD (Int.toNat Y) 0)) []).getD (Int.toNat (l.getD (Int.toNat I) zeroQ).place) 0 <= 100 := o.el _ _ hyn
  have ql := qb.len
  have hT : trav f ((brH f l h h.length).getD (Int.toNat Y) zeroB).at_ (rqAt l I).place = (f.t.getD (Int.toNat ((plH f l h h.length).getD (Int.toNat Y) 0)) []).getD (Int.toNat (l.getD (Int.toNat I) zeroQ).place) 0 := by rw [brH_at hYb]; rfl
  have hS : svN f p l h = ⟨I, Y, hrN f l h, hrN f l h + (f.t.getD (Int.toNat ((plH f l h h.length).getD (Int.toNat Y) 0)) []).getD (Int.toNat (l.getD (Int.toNat I) zeroQ).place) 0, hrN f l h + (f.t.getD (Int.toNat ((plH f l h h.length).getD (Int.toNat Y) 0)) []).getD (Int.toNat (l.getD (Int.toNat I) zeroQ).place) 0 + (l.getD (Int.toNat I) zeroQ).len⟩ := by
   unfold svN mkSv
   rw [hby, hi, hT]; rfl
  generalize hw : (f.t.getD (Int.toNat ((plH f l h h.length).getD (Int.toNat Y) 0)) []).getD (Int.toNat (l.getD (Int.toNat I) zeroQ).place) 0 = w at *
  refine ⟨by omega, partQ hB (by omega), by omega, intAt (by rw [plH_len]; exact hYb) (by omega), by omega, inL_at hyn (by omega), by omega, by rw [<- hw]; exact intAt (by omega) (by omega), vI64 (by omega), vI64 (by omega), _, rfl, by omega, by rw [flat_len intC_len, frH_len]; omega, rfl, by omega, by rw [flat_len intC_len, plH_len]; omega, rfl, ?_⟩
  have hrq : (svN f p l h).rq = I := by rw [hS]
  have kop := keep_op l h (svN f p l h)
  have dop := del_op l h (svN f p l h)
  rw [hrq] at kop dop
  have glen : (h ++ [svN f p l h]).length = h.length + 1 := by rw [List.length_append]; rfl
  generalize hSv : svN f p l h = S at *
  have f1 := flat_set (f := intC) intC_len (frH f h h.length) (Int.toNat Y) (by rw [frH_len]; exact hYb) (hrN f l h + w + (l.getD (Int.toNat I) zeroQ).len)
  have f2 := flat_set (f := intC) intC_len (plH f l h h.length) (Int.toNat Y) (by rw [plH_len]; exact hYb) (l.getD (Int.toNat I) zeroQ).dest
  have e1 : (frH f h h.length).set (Int.toNat Y) (hrN f l h + w + (l.getD (Int.toNat I) zeroQ).len) = frH f (h ++ [S]) (h ++ [S]).length := by rw [glen, frH_snoc, hS]
  have e2 : (plH f l h h.length).set (Int.toNat Y) (l.getD (Int.toNat I) zeroQ).dest = plH f l (h ++ [S]) (h ++ [S]).length := by rw [glen, plH_snoc, hS]; rfl
  rw [e1] at f1
  rw [e2] at f2
  have z0 : 0 + Int.toNat Y * 1 = Int.toNat Y * 1 := by omega
  refine ⟨⟨by omega, by decide, ⟨Nat.le_refl _, by rw [flat_len svC_len]; omega⟩, ⟨Nat.le_refl _, Nat.le_refl _⟩, rfl⟩, rfl, ⟨rfl, rfl, trivial⟩, fun H' _ hd => ?_, rfl, Nat.zero_le _, ?_, fun _ => rfl, ?_⟩
  ·have := kDel4 (opB l h) (opL l h).length I (by rw [opB_len]; exact op_le l h) (by rw [opB_len]; omega) (fun j hj => by rw [opB_at hj]; have := (op_at hj).1; omega) (D := 12) hd.1 (ids := [17]) (insC rfl hd.2.1 trivial) (by decide) rfl
   rw [kop, dop] at this
   exact this
  ·rw [ovQ_0]
   repeat' first | exact plainIL _ _ | exact plainSV _ _ | exact wk_refl _ | exact trivial | exact rfl | exact wk_refl _ | (exact wk_Q (by omega)) | apply And.intro | (exact iEq (by omega))
  intro x hx
  refine forkD (fun q => ?_) (fun q => ?_)
  ·have hlx : x < (opL l (h ++ [S])).length := by omega
   have op2 := op_le l (h ++ [S])
   have oat := (op_at hlx).1
   have hbx := opB_at (l := l) (h := h ++ [S]) hlx
   have hov := ovQ_old (s := S) hlx
   have hsu := ovQ_succ (s := S) hlx
   have hop := ov_op (s := S) hlx
   rw [hrq] at hop
   rw [hop] at hsu
   rw [hbx]
   generalize hE : (opL l (h ++ [S])).getD x 0 = E at *
   have hEn : Int.toNat E < l.length := by omega
   have oin := ovN_in (h := h) hEn h.length
   refine ⟨by omega, by rw [<- hE, <- opB_at hlx]; exact intAt (by rw [opB_len]; omega) (by omega), ⟨rfl, rfl, rfl, rfl, rfl, rfl, trivial⟩, fun H' _ hd => ?_, forkD (fun d1 => ?_) (fun d1 => ?_)⟩
   ·rw [z0, f1, f2] at hd
    exact kLater f l (frH f (h ++ [S]) (h ++ [S]).length) (plH f l (h ++ [S]) (h ++ [S]).length) E I oat ⟨bo1, bo2⟩ (by rw [frH_len, plH_len]; exact hd.1) hd.2.1 hd.2.2.1 hd.2.2.2.1 hd.2.2.2.2.1 hd.2.2.2.2.2.1
   ·have hb1 : befB (rqAt l E) (rqAt l I) = true := (later_lt _ _).1 d1
    rw [if_pos hb1, <- hov] at hsu
    have g2 := flat_set (f := intC) intC_len (ovQ l h S x) (Int.toNat E) (by rw [ovQ_len]; exact hEn) ((ovQ l h S x).getD (Int.toNat E) 0 + 1)
    rw [<- hsu] at g2
    refine ⟨by omega, intAt (by rw [ovQ_len]; exact hEn) (by omega), vI64 (by rw [hov]; omega), by omega, by rw [flat_len intC_len, ovQ_len]; omega, rfl, vI64 (by omega), x + 1, by omega, by omega, rfl, ?_⟩
    rw [show 0 + Int.toNat E * 1 = Int.toNat E * 1 by omega, g2]
    repeat' first | exact plainIL _ _ | exact plainSV _ _ | exact wk_refl _ | exact trivial | exact rfl | exact wk_refl _ | (exact wk_Q (by omega)) | apply And.intro | (exact iEq (by omega))
   ·have hb1 : ¬ befB (rqAt l E) (rqAt l I) = true := fun k => d1 ((later_lt _ _).2 k)
    rw [if_neg hb1, Int.add_zero, <- hov, set_self (by rw [ovQ_len]; exact hEn)] at hsu
    refine ⟨vI64 (by omega), x + 1, by omega, by omega, rfl, ?_⟩
    rw [hsu]
    repeat' first | exact plainIL _ _ | exact plainSV _ _ | exact wk_refl _ | exact trivial | exact rfl | exact wk_refl _ | (exact wk_Q (by omega)) | apply And.intro | (exact iEq (by omega))
  obtain rfl : x = (opL l (h ++ [S])).length := by omega
  have rn2 := run_next o ol i d (by rw [hi]; exact bo)
  rw [hSv] at rn2
  have gs := sv_snoc h S
  have eS : svC S = [nI I, nI Y, nI (hrN f l h), nI (hrN f l h + w), nI (hrN f l h + w + (l.getD (Int.toNat I) zeroQ).len)] := by rw [hS]
  rw [eS] at gs
  refine ⟨h ++ [S], rn2, by omega, rfl, ?_⟩
  rw [z0, f1, f2, ovQ_all, gs, glen]
  repeat' first | exact plainIL _ _ | exact plainSV _ _ | exact wk_refl _ | exact trivial | exact rfl | exact wk_refl _ | (exact wk_Q (by omega)) | apply And.intro | (exact iEq (by omega))
 have s2 : (smN f p l h 2) = wtN f l h := (keepP_all (q := ofV p l (ovN l h h.length) (hrN f l h) 2) (x := (wtN f l h).length) (List.all_eq_true.2 fun _ _ => rfl)).trans (List.take_length)
 have s2l : (smN f p l h 2).length = (wtN f l h).length := by rw [s2]
 have c2 : 0 < (smN f p l h 2).length := by omega
 refine ⟨⟨rfl, trivial⟩, fun H' hL hd => by
   have := kCloneP (wtB f l h) (wtN f l h).length wp (by rw [wtB_len]; exact wt_le f l h) (by rw [wtB_len]; omega) hL hd.1
   rw [wtB_take] at this
   exact this, ⟨rfl, rfl, rfl, rfl, rfl, rfl, rfl, rfl, rfl, rfl, rfl, rfl, rfl, rfl, rfl, rfl, trivial⟩, fun H' _ hd => ?_, congrArg Value.bool (decide_eq_true (by omega)), ?_⟩
 ·exact KCall.wkA (args2 := [slQ 29 2 (wtN f l h).length, .func (.func 125) #[] #[pT 28]]) (kDel3 (wtN f l h) (wtN f l h).length f l (frH f h h.length) (plH f l h h.length) (hrN f l h) p (ovN l h h.length) (Nat.le_refl _) (by omega) (wt_in f l h) (D := 29) hd.1 (ids := [0, 1, 2, 7, 8, 9, 10, 15, 19, 13, 20, 21, 22, 18, 28]) (insC (inL_b 0 _) hd.2.1 (insC (plainIL 0 _) hd.2.2.1 (insC (plainRQ 0 _) hd.2.2.2.1 (insC (plainIL 0 _) hd.2.2.2.2.1 (insC (plainIL 0 _) hd.2.2.2.2.2.1 (insP (by rw [frH_len, plH_len]; rfl) hd.2.2.2.2.2.2.1 (insP rfl hd.2.2.2.2.2.2.2.1 (insC rfl hd.2.2.2.2.2.2.2.2.1 (insC rfl hd.2.2.2.2.2.2.2.2.2.1 (insC (plainIL 0 _) hd.2.2.2.2.2.2.2.2.2.2.1 (insP (by rw [ovN_len]; rfl) hd.2.2.2.2.2.2.2.2.2.2.2.1 (insC rfl hd.2.2.2.2.2.2.2.2.2.2.2.2.1 (insP rfl hd.2.2.2.2.2.2.2.2.2.2.2.2.2.1 (insP rfl hd.2.2.2.2.2.2.2.2.2.2.2.2.2.2.1 (insP rfl hd.2.2.2.2.2.2.2.2.2.2.2.2.2.2.2.1 trivial))))))))))))))) (by decide) rfl) (wks_cons wk_QR (wks_cons (wk_refl _) wks_nil))
 obtain ⟨be, bo, ba⟩ := bst_rule (p := p) ol (X := 2) (by omega) (by omega) (fun Y hY => by rcases (show Y = 0 ∨ Y = 1 by omega) with rfl | rfl <;> omega)
 obtain ⟨⟨bo1, bo2⟩, bo3⟩ := mem_op.1 bo
 obtain ⟨hour, he, _, pI, hdec, pI2⟩ := run_dec o ol i d bo
 have hrI := hr_in ol pI hl he
 refine ⟨⟨rfl, rfl, rfl, rfl, rfl, rfl, rfl, rfl, rfl, rfl, rfl, rfl, rfl, rfl, rfl, rfl, trivial⟩, fun H' _ hd => ?_, rfl, Nat.zero_le _, ?_, fun _ => rfl, ?_⟩
 ·have := kBst3 (smB f p l h 2) (smN f p l h 2).length f l (frH f h h.length) (plH f l h h.length) (hrN f l h) p (ovN l h h.length) (by omega) (by rw [smB_len]; exact sm_le f p l h 2) (by rw [smB_len]; omega) (smB_in f p l h 2) (bnds ol) (ids := 29 :: [0, 1, 2, 7, 8, 9, 10, 15, 19, 13, 20, 21, 22, 18, 28]) (insC (plainIL 0 _) hd.1 (insC (inL_b 0 _) hd.2.1 (insC (plainIL 0 _) hd.2.2.1 (insC (plainRQ 0 _) hd.2.2.2.1 (insC (plainIL 0 _) hd.2.2.2.2.1 (insC (plainIL 0 _) hd.2.2.2.2.2.1 (insP (by rw [frH_len, plH_len]; rfl) hd.2.2.2.2.2.2.1 (insP rfl hd.2.2.2.2.2.2.2.1 (insC rfl hd.2.2.2.2.2.2.2.2.1 (insC rfl hd.2.2.2.2.2.2.2.2.2.1 (insC (plainIL 0 _) hd.2.2.2.2.2.2.2.2.2.2.1 (insP (by rw [ovN_len]; rfl) hd.2.2.2.2.2.2.2.2.2.2.2.1 (insC rfl hd.2.2.2.2.2.2.2.2.2.2.2.2.1 (insP rfl hd.2.2.2.2.2.2.2.2.2.2.2.2.2.1 (insP rfl hd.2.2.2.2.2.2.2.2.2.2.2.2.2.2.1 (insP rfl hd.2.2.2.2.2.2.2.2.2.2.2.2.2.2.2.1 trivial)))))))))))))))) rfl
  rw [be] at this
  exact this
 ·repeat' first | exact plainIL _ _ | exact plainSV _ _ | exact wk_refl _ | exact trivial | exact rfl | exact wk_refl _ | (exact wk_Q (by omega)) | apply And.intro | (exact iEq (by omega))
 generalize hi : bstN f p l h = I at *
 have hB : Int.toNat I < l.length := by omega
 have qb := ol.ok _ hB
 have qp := qb.place
 intro b hb
 have ys := by_spec f l h (hrN f l h) (rqAt l I).place b
 refine forkD (fun q => ?_) (fun q => ?_)
 ·have hlb : b < f.b.length := by omega
  have pin := plH_in o ol h h.length
  have pb := pin b hlb
  have hbn : Int.toNat ((plH f l h h.length).getD b 0) < f.t.length := by omega
  have rb := o.row _ hbn
  have fat : ((brH f l h h.length).getD b zeroB).free = (frH f h h.length).getD b 0 := by rw [brH_at hlb]
  have aat : ((brH f l h h.length).getD b zeroB).at_ = (plH f l h h.length).getD b 0 := by rw [brH_at hlb]
  refine ⟨by omega, intAt (by rw [frH_len]; exact hlb) (by omega), forkD (fun d1 => forkD (fun d2 => ?_) (fun d2 => ?_)) (fun d1 => ?_)⟩
  ·refine ⟨vI64 (by omega), b + 1, by omega, by omega, rfl, ?_⟩
   rw [by_1 (by rw [fat]; omega) (.inl d2)]
   repeat' first | exact plainIL _ _ | exact plainSV _ _ | exact wk_refl _ | exact trivial | exact rfl | exact wk_refl _ | (exact wk_Q (by omega)) | apply And.intro | (exact iEq (by omega))
  ·obtain ⟨Y, eY⟩ : ∃ Y, byTo f l h (hrN f l h) (rqAt l I).place b = Y := ⟨_, rfl⟩
   have z1 := by_1 (f := f) (l := l) (h := h) (hour := hrN f l h) (b := b) (place := (rqAt l I).place) (by rw [fat]; omega)
   have z2 := by_2 (f := f) (l := l) (h := h) (hour := hrN f l h) (b := b) (place := (rqAt l I).place) (by rw [fat]; omega)
   rw [eY] at ys d2 z1 z2 ⊢
   have hY : 0 <= Y /\ Y < (b : Int) := by
    rcases ys with ⟨y1, _⟩ | ⟨y1, y2, _⟩
    ·omega
    ·exact ⟨y1, y2⟩
   have hYb : Int.toNat Y < f.b.length := by omega
   have py := pin (Int.toNat Y) hYb
   have yat : ((brH f l h h.length).getD (Int.toNat Y) zeroB).at_ = (plH f l h h.length).getD (Int.toNat Y) 0 := by rw [brH_at hYb]
   have hyn : Int.toNat ((plH f l h h.length).getD (Int.toNat Y) 0) < f.t.length := by omega
   have ry := o.row _ hyn
   rw [aat, yat] at z1 z2
   refine ⟨by omega, intAt (by rw [plH_len]; exact hlb) (by omega), by omega, inL_at hbn (by omega), by omega, plQ hB (by omega), by omega, intAt (by omega) (by omega), by omega, intAt (by rw [plH_len]; exact hYb) (by omega), by omega, inL_at hyn (by omega), by omega, plQ hB (by omega), by omega, intAt (by omega) (by omega), forkD (fun d3 => ?_) (fun d3 => ?_)⟩
   ·refine ⟨vI64 (by omega), b + 1, by omega, by omega, rfl, ?_⟩
    rw [z1 (.inr d3)]
    repeat' first | exact plainIL _ _ | exact plainSV _ _ | exact wk_refl _ | exact trivial | exact rfl | exact wk_refl _ | (exact wk_Q (by omega)) | apply And.intro | (exact iEq (by omega))
   ·refine ⟨vI64 (by omega), b + 1, by omega, by omega, rfl, ?_⟩
    rw [z2 (fun k => k.elim (fun k => d2 k) (fun k => d3 k))]
    repeat' first | exact plainIL _ _ | exact plainSV _ _ | exact wk_refl _ | exact trivial | exact rfl | exact wk_refl _ | (exact wk_Q (by omega)) | apply And.intro | (exact iEq (by omega))
  ·refine ⟨vI64 (by omega), b + 1, by omega, by omega, rfl, ?_⟩
   rw [by_0 (by rw [fat]; omega)]
   repeat' first | exact plainIL _ _ | exact plainSV _ _ | exact wk_refl _ | exact trivial | exact rfl | exact wk_refl _ | (exact wk_Q (by omega)) | apply And.intro | (exact iEq (by omega))
 obtain rfl : b = f.b.length := by omega
 have bf := by_free (p := p) (l := l) (h := h) o
 have hby : byAt f p l h (hrN f l h) = byTo f l h (hrN f l h) (rqAt l I).place f.b.length := by unfold byAt; rw [show bestAt p l h (hrN f l h) = I from hi]
 obtain ⟨Y, eY⟩ : ∃ Y, byTo f l h (hrN f l h) (rqAt l I).place f.b.length = Y := ⟨_, rfl⟩
 rw [eY] at hby ⊢
 rw [hby] at bf
 have hYb : Int.toNat Y < f.b.length := by omega
 have py := plH_in o ol h h.length (Int.toNat Y) hYb
 have hyn : Int.toNat ((plH f l h h.length).getD (Int.toNat Y) 0) < f.t.length := by omega
 have ry := o.row _ hyn
 have tv : 0 <= (f.t.getD (Int.toNat ((plH f l h h.length).getD (Int.toNat Y) 0)) []).getD (Int.toNat (l.getD (Int.toNat I) zeroQ).place) 0 /\ (f.t.getD (Int.toNat ((plH f l h h.length).getD (Int.toNat Y) 0)) []).getD (Int.toNat (l.getD (Int.toNat I) zeroQ).place) 0 <= 100 := o.el _ _ hyn
 have ql := qb.len
 have hT : trav f ((brH f l h h.length).getD (Int.toNat Y) zeroB).at_ (rqAt l I).place = (f.t.getD (Int.toNat ((plH f l h h.length).getD (Int.toNat Y) 0)) []).getD (Int.toNat (l.getD (Int.toNat I) zeroQ).place) 0 := by rw [brH_at hYb]; rfl
 have hS : svN f p l h = ⟨I, Y, hrN f l h, hrN f l h + (f.t.getD (Int.toNat ((plH f l h h.length).getD (Int.toNat Y) 0)) []).getD (Int.toNat (l.getD (Int.toNat I) zeroQ).place) 0, hrN f l h + (f.t.getD (Int.toNat ((plH f l h h.length).getD (Int.toNat Y) 0)) []).getD (Int.toNat (l.getD (Int.toNat I) zeroQ).place) 0 + (l.getD (Int.toNat I) zeroQ).len⟩ := by
  unfold svN mkSv
  rw [hby, hi, hT]; rfl
 generalize hw : (f.t.getD (Int.toNat ((plH f l h h.length).getD (Int.toNat Y) 0)) []).getD (Int.toNat (l.getD (Int.toNat I) zeroQ).place) 0 = w at *
 refine ⟨by omega, partQ hB (by omega), by omega, intAt (by rw [plH_len]; exact hYb) (by omega), by omega, inL_at hyn (by omega), by omega, by rw [<- hw]; exact intAt (by omega) (by omega), vI64 (by omega), vI64 (by omega), _, rfl, by omega, by rw [flat_len intC_len, frH_len]; omega, rfl, by omega, by rw [flat_len intC_len, plH_len]; omega, rfl, ?_⟩
 have hrq : (svN f p l h).rq = I := by rw [hS]
 have kop := keep_op l h (svN f p l h)
 have dop := del_op l h (svN f p l h)
 rw [hrq] at kop dop
 have glen : (h ++ [svN f p l h]).length = h.length + 1 := by rw [List.length_append]; rfl
 generalize hSv : svN f p l h = S at *
 have f1 := flat_set (f := intC) intC_len (frH f h h.length) (Int.toNat Y) (by rw [frH_len]; exact hYb) (hrN f l h + w + (l.getD (Int.toNat I) zeroQ).len)
 have f2 := flat_set (f := intC) intC_len (plH f l h h.length) (Int.toNat Y) (by rw [plH_len]; exact hYb) (l.getD (Int.toNat I) zeroQ).dest
 have e1 : (frH f h h.length).set (Int.toNat Y) (hrN f l h + w + (l.getD (Int.toNat I) zeroQ).len) = frH f (h ++ [S]) (h ++ [S]).length := by rw [glen, frH_snoc, hS]
 have e2 : (plH f l h h.length).set (Int.toNat Y) (l.getD (Int.toNat I) zeroQ).dest = plH f l (h ++ [S]) (h ++ [S]).length := by rw [glen, plH_snoc, hS]; rfl
 rw [e1] at f1
 rw [e2] at f2
 have z0 : 0 + Int.toNat Y * 1 = Int.toNat Y * 1 := by omega
 refine ⟨⟨by omega, by decide, ⟨Nat.le_refl _, by rw [flat_len svC_len]; omega⟩, ⟨Nat.le_refl _, Nat.le_refl _⟩, rfl⟩, rfl, ⟨rfl, rfl, trivial⟩, fun H' _ hd => ?_, rfl, Nat.zero_le _, ?_, fun _ => rfl, ?_⟩
 ·have := kDel4 (opB l h) (opL l h).length I (by rw [opB_len]; exact op_le l h) (by rw [opB_len]; omega) (fun j hj => by rw [opB_at hj]; have := (op_at hj).1; omega) (D := 12) hd.1 (ids := [17]) (insC rfl hd.2.1 trivial) (by decide) rfl
  rw [kop, dop] at this
  exact this
 ·rw [ovQ_0]
  repeat' first | exact plainIL _ _ | exact plainSV _ _ | exact wk_refl _ | exact trivial | exact rfl | exact wk_refl _ | (exact wk_Q (by omega)) | apply And.intro | (exact iEq (by omega))
 intro x hx
 refine forkD (fun q => ?_) (fun q => ?_)
 ·have hlx : x < (opL l (h ++ [S])).length := by omega
  have op2 := op_le l (h ++ [S])
  have oat := (op_at hlx).1
  have hbx := opB_at (l := l) (h := h ++ [S]) hlx
  have hov := ovQ_old (s := S) hlx
  have hsu := ovQ_succ (s := S) hlx
  have hop := ov_op (s := S) hlx
  rw [hrq] at hop
  rw [hop] at hsu
  rw [hbx]
  generalize hE : (opL l (h ++ [S])).getD x 0 = E at *
  have hEn : Int.toNat E < l.length := by omega
  have oin := ovN_in (h := h) hEn h.length
  refine ⟨by omega, by rw [<- hE, <- opB_at hlx]; exact intAt (by rw [opB_len]; omega) (by omega), ⟨rfl, rfl, rfl, rfl, rfl, rfl, trivial⟩, fun H' _ hd => ?_, forkD (fun d1 => ?_) (fun d1 => ?_)⟩
  ·rw [z0, f1, f2] at hd
   exact kLater f l (frH f (h ++ [S]) (h ++ [S]).length) (plH f l (h ++ [S]) (h ++ [S]).length) E I oat ⟨bo1, bo2⟩ (by rw [frH_len, plH_len]; exact hd.1) hd.2.1 hd.2.2.1 hd.2.2.2.1 hd.2.2.2.2.1 hd.2.2.2.2.2.1
  ·have hb1 : befB (rqAt l E) (rqAt l I) = true := (later_lt _ _).1 d1
   rw [if_pos hb1, <- hov] at hsu
   have g2 := flat_set (f := intC) intC_len (ovQ l h S x) (Int.toNat E) (by rw [ovQ_len]; exact hEn) ((ovQ l h S x).getD (Int.toNat E) 0 + 1)
   rw [<- hsu] at g2
   refine ⟨by omega, intAt (by rw [ovQ_len]; exact hEn) (by omega), vI64 (by rw [hov]; omega), by omega, by rw [flat_len intC_len, ovQ_len]; omega, rfl, vI64 (by omega), x + 1, by omega, by omega, rfl, ?_⟩
   rw [show 0 + Int.toNat E * 1 = Int.toNat E * 1 by omega, g2]
   repeat' first | exact plainIL _ _ | exact plainSV _ _ | exact wk_refl _ | exact trivial | exact rfl | exact wk_refl _ | (exact wk_Q (by omega)) | apply And.intro | (exact iEq (by omega))
  ·have hb1 : ¬ befB (rqAt l E) (rqAt l I) = true := fun k => d1 ((later_lt _ _).2 k)
   rw [if_neg hb1, Int.add_zero, <- hov, set_self (by rw [ovQ_len]; exact hEn)] at hsu
   refine ⟨vI64 (by omega), x + 1, by omega, by omega, rfl, ?_⟩
   rw [hsu]
   repeat' first | exact plainIL _ _ | exact plainSV _ _ | exact wk_refl _ | exact trivial | exact rfl | exact wk_refl _ | (exact wk_Q (by omega)) | apply And.intro | (exact iEq (by omega))
 obtain rfl : x = (opL l (h ++ [S])).length := by omega
 have rn2 := run_next o ol i d (by rw [hi]; exact bo)
 rw [hSv] at rn2
 have gs := sv_snoc h S
 have eS : svC S = [nI I, nI Y, nI (hrN f l h), nI (hrN f l h + w), nI (hrN f l h + w + (l.getD (Int.toNat I) zeroQ).len)] := by rw [hS]
 rw [eS] at gs
 refine ⟨h ++ [S], rn2, by omega, rfl, ?_⟩
 rw [z0, f1, f2, ovQ_all, gs, glen]
 repeat' first | exact plainIL _ _ | exact plainSV _ _ | exact wk_refl _ | exact trivial | exact rfl | exact wk_refl _ | (exact wk_Q (by omega)) | apply And.intro | (exact iEq (by omega))
end
end Go.Proofs.YthdekmpkioikdaaGreat
/- Request: Run and Audit. No condition. -/
namespace Go.Proofs.YthdekmpkioikdaaGreat
open Go Go.K
set_option maxRecDepth 100000
set_option linter.unusedVariables false
set_option linter.unusedSimpArgs false
noncomputable section
attribute [local irreducible] vF
theorem kRunP (f : Fleet) (p : Pol) (l : List Rq) (ht : f.t.length <= 4294967296) (hb : f.b.length <= 4294967296) (hs : shortI f.t) {H : Heap} {L : Nat} (hL : H.length = L) {i0 i1 i2 : Nat} {o0 o1 o2 : Bool} {z0 z1 z2 : Nat} (e0 : H[i0]? = some (.cells o0 z0 (inL f.t))) (e1 : H[i1]? = some (.cells o1 z1 (f.b.flatMap intC))) {D : List Value} (e2 : H[i2]? = some (.cells o2 z2 (l.flatMap rqC ++ D))) :
  KCall prog 29 [fleetV f i0 i1, .agg ⟨polC p⟩, .slice (some ⟨i2, 0, some 2⟩) l.length l.length] H [] (Is (runV L (fRun f p l)) (H ++ [.cells true 5 ((fRun f p l).1.flatMap svC)])) := by
 subst hL
 refine valNsP (fun i => runV i (fRun f p l)) (css := [inL f.t, f.b.flatMap intC, l.flatMap rqC, l.flatMap rqC]) (new := [.cells true 5 ((fRun f p l).1.flatMap svC)]) (Eq.mpr (ERun f p l) ?_) ⟨inL_b 0 _, plainIL 0 _, plainRQ 0 _, plainRQ 0 _, trivial⟩ ⟨⟨_, _, rfl, plainSV 0 _⟩, trivial⟩ rfl rfl (fun _ => rfl) (ids := [i0, i1, i2, i2]) ⟨⟨_, _, [], by rw [List.append_nil]; exact e0⟩, ⟨_, _, [], by rw [List.append_nil]; exact e1⟩, ⟨_, _, D, e2⟩, ⟨_, _, D, e2⟩, trivial⟩ rfl
 delta RRun jj1o jj4l jjp jj2m jj17 jj3f jj4e jj14 jj36 jj2g jj1z jj39 jj22 jj3h jjg jj3d jj2q jj8 jj3v jj1g jj2u jj2f jj7
 refine ⟨⟨rfl, rfl, rfl, trivial⟩, fun H' _ hd => kCheck f p l ht hb hs hd.1 hd.2.1 hd.2.2.1, forkNe (fun e => ?_) (fun e => ?_)⟩
 ·rw [show fRun f p l = ([], errAll f p l) from if_neg e]
  repeat' first | exact inL_b _ _ | exact plainIL _ _ | exact plainRQ _ _ | exact plainSV _ _ | exact (inV_rn _ 0 _).symm | exact wk_QR | exact wk_nil _ _ _ (.inr rfl) | exact trivial | exact rfl | exact wk_refl _ | refine wks_cons ?_ ?_ | exact wks_nil | exact wk_nil _ _ _ (.inl rfl) | (exact wk_Q (by omega)) | refine wk_tupL ?_ | refine wk_aggL ?_ | refine ⟨rfl, ?_⟩ | refine ⟨trivial, ?_⟩ | (refine ⟨vI64 (by omega), ?_⟩) | (refine And.intro (by omega) ?_) | apply And.intro | (exact iEq (by omega)) | (exact vI64 (by omega))
 obtain ⟨c1, c2, c3⟩ := errAll_0 e
 have o := flOk c1
 have ol := lsOk c3
 have l30 := ol.len
 have m1 := o.b1
 have m2 := o.b2
 refine ⟨by omega, ⟨rfl, trivial⟩, fun H' hL hd => kCloneR f.b hb (by omega) hL hd.1, rfl, Nat.zero_le _, ?_, fun _ => rfl, ?_⟩
 ·repeat' first | exact inL_b _ _ | exact plainIL _ _ | exact plainRQ _ _ | exact plainSV _ _ | exact (inV_rn _ 0 _).symm | exact wk_QR | exact wk_nil _ _ _ (.inr rfl) | exact trivial | exact rfl | exact wk_refl _ | refine wks_cons ?_ ?_ | exact wks_nil | exact wk_nil _ _ _ (.inl rfl) | (exact wk_Q (by omega)) | refine wk_tupL ?_ | refine wk_aggL ?_ | refine ⟨rfl, ?_⟩ | refine ⟨trivial, ?_⟩ | (refine ⟨vI64 (by omega), ?_⟩) | (refine And.intro (by omega) ?_) | apply And.intro | (exact iEq (by omega)) | (exact vI64 (by omega))
 intro x hx
 refine forkD (fun q => ?_) (fun q => ?_)
 ·have hfs := flat_snoc intC_len (idxL x) (x : Int) (idx_len x).symm
  rw [show idxL x ++ [(x : Int)] = idxL (x + 1) by unfold idxL; rw [List.range_succ, List.map_append]; rfl] at hfs
  refine ⟨⟨by omega, by decide, ⟨Nat.le_refl _, by rw [flat_len intC_len, idx_len]; omega⟩, ⟨Nat.le_refl _, Nat.le_refl _⟩, rfl⟩, rfl, vI64 (by omega), x + 1, by omega, by omega, rfl, ?_⟩
  repeat' first | exact inL_b _ _ | exact plainIL _ _ | exact plainRQ _ _ | exact plainSV _ _ | exact (inV_rn _ 0 _).symm | exact wk_QR | exact wk_nil _ _ _ (.inr rfl) | (exact congrArg (fun l => some (KObj.cells true 1 l)) hfs) | exact trivial | exact rfl | exact wk_refl _ | refine wks_cons ?_ ?_ | exact wks_nil | exact wk_nil _ _ _ (.inl rfl) | (exact wk_Q (by omega)) | refine wk_tupL ?_ | refine wk_aggL ?_ | refine ⟨rfl, ?_⟩ | refine ⟨trivial, ?_⟩ | (refine ⟨vI64 (by omega), ?_⟩) | (refine And.intro (by omega) ?_) | apply And.intro | (exact iEq (by omega)) | (exact vI64 (by omega))
 obtain rfl : x = l.length := by omega
 refine ⟨by omega, rfl, run_0 o ol, ?_, fun _ => rfl, ?_⟩
 ·rw [op_0, idx_len, opB_0, krep_int, krep_int]
  repeat' first | exact inL_b _ _ | exact plainIL _ _ | exact plainRQ _ _ | exact plainSV _ _ | exact (inV_rn _ 0 _).symm | exact wk_QR | exact wk_nil _ _ _ (.inr rfl) | exact trivial | exact rfl | exact wk_refl _ | refine wks_cons ?_ ?_ | exact wks_nil | exact wk_nil _ _ _ (.inl rfl) | (exact wk_Q (by omega)) | refine wk_tupL ?_ | refine wk_aggL ?_ | refine ⟨rfl, ?_⟩ | refine ⟨trivial, ?_⟩ | (refine ⟨vI64 (by omega), ?_⟩) | (refine And.intro (by omega) ?_) | apply And.intro | (exact iEq (by omega)) | (exact vI64 (by omega))
 intro g i
 refine ⟨runBody f p l g o ol i, fun d => ?_⟩
 have hF := run_end i (by have := of_decide_eq_false d; omega)
 rw [show fRun f p l = (playF f p l, 0) from if_pos e, hF]
 repeat' first | exact inL_b _ _ | exact plainIL _ _ | exact plainRQ _ _ | exact plainSV _ _ | exact (inV_rn _ 0 _).symm | exact wk_QR | exact wk_nil _ _ _ (.inr rfl) | exact trivial | exact rfl | exact wk_refl _ | refine wks_cons ?_ ?_ | exact wks_nil | exact wk_nil _ _ _ (.inl rfl) | (exact wk_Q (by omega)) | refine wk_tupL ?_ | refine wk_aggL ?_ | refine ⟨rfl, ?_⟩ | refine ⟨trivial, ?_⟩ | (refine ⟨vI64 (by omega), ?_⟩) | (refine And.intro (by omega) ?_) | apply And.intro | (exact iEq (by omega)) | (exact vI64 (by omega))
theorem kRun (f : Fleet) (p : Pol) (l : List Rq) (ht : f.t.length <= 4294967296) (hb : f.b.length <= 4294967296) (hs : shortI f.t) {H : Heap} {L : Nat} (hL : H.length = L) {i0 i1 i2 : Nat} {o0 o1 o2 : Bool} {z0 z1 z2 : Nat} (e0 : H[i0]? = some (.cells o0 z0 (inL f.t))) (e1 : H[i1]? = some (.cells o1 z1 (f.b.flatMap intC))) (e2 : H[i2]? = some (.cells o2 z2 (l.flatMap rqC))) :
  KCall prog 29 [fleetV f i0 i1, .agg ⟨polC p⟩, .slice (some ⟨i2, 0, some 2⟩) l.length l.length] H [] (Is (runV L (fRun f p l)) (H ++ [.cells true 5 ((fRun f p l).1.flatMap svC)])) :=
 kRunP f p l ht hb hs hL e0 e1 (D := []) (by rw [List.append_nil]; exact e2)
theorem kAudit (f : Fleet) (p : Pol) (l : List Rq) (h : List Sv) (ht : f.t.length <= 4294967296) (hb : f.b.length <= 4294967296) (hs : shortI f.t) (hh : h.length <= 4294967296) {H : Heap} {i0 i1 i2 i3 : Nat} {o0 o1 o2 o3 : Bool} {z0 z1 z2 z3 : Nat} (e0 : H[i0]? = some (.cells o0 z0 (inL f.t))) (e1 : H[i1]? = some (.cells o1 z1 (f.b.flatMap intC))) (e2 : H[i2]? = some (.cells o2 z2 (l.flatMap rqC))) (e3 : H[i3]? = some (.cells o3 z3 (h.flatMap svC))) :
  KCall prog 35 [fleetV f i0 i1, .agg ⟨polC p⟩, .slice (some ⟨i2, 0, some 2⟩) l.length l.length, .slice (some ⟨i3, 0, some 2⟩) h.length h.length] H [] (Is (.tuple #[nI (fAud f p l h).1, nI (fAud f p l h).2]) H) := by
 refine valRx (Eq.mpr (EAudit _ f p l h) ?_) ⟨inL_b 0 _, plainIL 0 _, plainRQ 0 _, plainSV 0 _, trivial⟩ rfl (ids := [i0, i1, i2, i3]) ⟨⟨_, _, e0⟩, ⟨_, _, e1⟩, ⟨_, _, e2⟩, ⟨_, _, e3⟩, trivial⟩ rfl
 delta RAudit jj1o jj4l jjp jj3v jj34 jj2m jj17 jj3f jj4e jj14 jj36 jj2g jj1z jj39 jj22 jj3h jjg jj3d jj2q jj8 jj1g jj2u jj2f jj7 jj3q jj4i jjo jj4a
 refine ⟨⟨rfl, rfl, rfl, trivial⟩, fun H' _ hd => kCheck f p l ht hb hs hd.1 hd.2.1 hd.2.2.1, forkNe (fun e => ?_) (fun e => ?_)⟩
 ·have : fAud f p l h = (0, errAll f p l) := if_neg e
  rw [this]
 obtain ⟨c1, c2, c3⟩ := errAll_0 e
 have o := flOk c1
 have ol := lsOk c3
 have l30 := ol.len
 have m1 := o.b1
 have m2 := o.b2
 refine forkD (fun c => ?_) (fun c => ?_)
 ·have : fAud f p l h = (0, 2) := (if_pos e).trans (if_pos (by omega))
  rw [this]
 have ea : fAud f p l h = ((firstN (difB (playF f p l) h) h.length : Int), 0) := (if_pos e).trans (if_neg (by omega))
 have el := playF_len (p := p) o ol
 rw [ea]
 refine ⟨by omega, ⟨rfl, trivial⟩, fun H' hL hd => kCloneR f.b hb (by omega) hL hd.1, rfl, Nat.zero_le _, ?_, fun _ => rfl, ?_⟩
 ·repeat' first | exact inL_b _ _ | exact plainIL _ _ | exact plainRQ _ _ | exact plainSV _ _ | exact (inV_rn _ 0 _).symm | exact wk_QR | exact wk_nil _ _ _ (.inr rfl) | exact trivial | exact rfl | exact wk_refl _ | refine wks_cons ?_ ?_ | exact wks_nil | exact wk_nil _ _ _ (.inl rfl) | (exact wk_Q (by omega)) | refine wk_tupL ?_ | refine wk_aggL ?_ | refine ⟨rfl, ?_⟩ | refine ⟨trivial, ?_⟩ | (refine ⟨vI64 (by omega), ?_⟩) | (refine And.intro (by omega) ?_) | apply And.intro | (exact iEq (by omega)) | (exact vI64 (by omega))
 intro x hx
 refine forkD (fun q => ?_) (fun q => ?_)
 ·have hfs := flat_snoc intC_len (idxL x) (x : Int) (idx_len x).symm
  rw [show idxL x ++ [(x : Int)] = idxL (x + 1) by unfold idxL; rw [List.range_succ, List.map_append]; rfl] at hfs
  refine ⟨⟨by omega, by decide, ⟨Nat.le_refl _, by rw [flat_len intC_len, idx_len]; omega⟩, ⟨Nat.le_refl _, Nat.le_refl _⟩, rfl⟩, rfl, vI64 (by omega), x + 1, by omega, by omega, rfl, ?_⟩
  repeat' first | exact inL_b _ _ | exact plainIL _ _ | exact plainRQ _ _ | exact plainSV _ _ | exact (inV_rn _ 0 _).symm | exact wk_QR | exact wk_nil _ _ _ (.inr rfl) | (exact congrArg (fun l => some (KObj.cells true 1 l)) hfs) | exact trivial | exact rfl | exact wk_refl _ | refine wks_cons ?_ ?_ | exact wks_nil | exact wk_nil _ _ _ (.inl rfl) | (exact wk_Q (by omega)) | refine wk_tupL ?_ | refine wk_aggL ?_ | refine ⟨rfl, ?_⟩ | refine ⟨trivial, ?_⟩ | (refine ⟨vI64 (by omega), ?_⟩) | (refine And.intro (by omega) ?_) | apply And.intro | (exact iEq (by omega)) | (exact vI64 (by omega))
 obtain rfl : x = l.length := by omega
 refine ⟨by omega, rfl, run_0 o ol, ?_, fun _ => rfl, ?_⟩
 ·rw [op_0, idx_len, opB_0, krep_int, krep_int]
  repeat' first | exact inL_b _ _ | exact plainIL _ _ | exact plainRQ _ _ | exact plainSV _ _ | exact (inV_rn _ 0 _).symm | exact wk_QR | exact wk_nil _ _ _ (.inr rfl) | exact trivial | exact rfl | exact wk_refl _ | refine wks_cons ?_ ?_ | exact wks_nil | exact wk_nil _ _ _ (.inl rfl) | (exact wk_Q (by omega)) | refine wk_tupL ?_ | refine wk_aggL ?_ | refine ⟨rfl, ?_⟩ | refine ⟨trivial, ?_⟩ | (refine ⟨vI64 (by omega), ?_⟩) | (refine And.intro (by omega) ?_) | apply And.intro | (exact iEq (by omega)) | (exact vI64 (by omega))
 intro g i
 refine ⟨runBody f p l g o ol i, fun d => ?_⟩
 have hF := run_end i (by have := of_decide_eq_false d; omega)
 rw [hF] at el ⊢
 refine ⟨rfl, ⟨Nat.zero_le _, rfl⟩, ?_, fun _ => rfl, ?_⟩
 ·repeat' first | exact inL_b _ _ | exact plainIL _ _ | exact plainRQ _ _ | exact plainSV _ _ | exact (inV_rn _ 0 _).symm | exact wk_QR | exact wk_nil _ _ _ (.inr rfl) | exact trivial | exact rfl | exact wk_refl _ | refine wks_cons ?_ ?_ | exact wks_nil | exact wk_nil _ _ _ (.inl rfl) | (exact wk_Q (by omega)) | refine wk_tupL ?_ | refine wk_aggL ?_ | refine ⟨rfl, ?_⟩ | refine ⟨trivial, ?_⟩ | (refine ⟨vI64 (by omega), ?_⟩) | (refine And.intro (by omega) ?_) | apply And.intro | (exact iEq (by omega)) | (exact vI64 (by omega))
 rintro x ⟨hx, hf⟩
 try dsimp only
 refine forkD (fun b => ?_) (fun b => ?_)
 ·refine ⟨by omega, partV (by omega) (by omega), by omega, partV (by omega) (by omega), forkNot (forkB (fun d => ?_) (fun d => ?_))⟩
  ·have h2 : difB g h x = false := by
    show (!(sameSv (svAt h x) (svAt g x))) = false
    rw [show sameSv (svAt h x) (svAt g x) = true from d]; rfl
   have h3 := firstN_succ hf h2
   refine ⟨vI64 (by omega), x + 1, ⟨by omega, h3⟩, by omega, rfl, ?_⟩
   repeat' first | exact inL_b _ _ | exact plainIL _ _ | exact plainRQ _ _ | exact plainSV _ _ | exact (inV_rn _ 0 _).symm | exact wk_QR | exact wk_nil _ _ _ (.inr rfl) | exact trivial | exact rfl | exact wk_refl _ | refine wks_cons ?_ ?_ | exact wks_nil | exact wk_nil _ _ _ (.inl rfl) | (exact wk_Q (by omega)) | refine wk_tupL ?_ | refine wk_aggL ?_ | refine ⟨rfl, ?_⟩ | refine ⟨trivial, ?_⟩ | (refine ⟨vI64 (by omega), ?_⟩) | (refine And.intro (by omega) ?_) | apply And.intro | (exact iEq (by omega)) | (exact vI64 (by omega))
  ·have h2 : difB g h x = true := by
    show (!(sameSv (svAt h x) (svAt g x))) = true
    rw [show sameSv (svAt h x) (svAt g x) = false from d]; rfl
   rw [firstN_at hf h2 (show x < h.length by omega)]
 ·obtain rfl : x = h.length := by omega
  rw [hf]
end
end Go.Proofs.YthdekmpkioikdaaGreat
/- Request: fleets, requests and policies that are made of numbers. No condition. -/
namespace Go.Proofs.YthdekmpkioikdaaGreat
set_option linter.unusedSimpArgs false
set_option linter.unusedVariables false
open Go Go.K
noncomputable section
abbrev digC (L : List Int) (n : Int) : List Value := [.iface (L.length + 1) (.agg ⟨L.flatMap intC⟩), .int .i64 n]
def dVal (L : List Int) (n : Int) : Int := if 0 < L.length then IntKind.wrap .i64 (L.getD (Int.toNat (Int.tmod n ((L.length : Nat) : Int))) 0 + IntKind.wrap .i64 (Int.tdiv n ((L.length : Nat) : Int))) else 0
def dN (L : List Int) (n m : Int) : Int := dVal L n % m
def shW (L : List Int) (n : Int) : Int := 1 + dN L n 5
def shR (L : List Int) (n : Int) : Int := 1 + dN L (n + 1) 12
def shQ (L : List Int) (n : Int) (i : Nat) : Int := n + 1 + 1 + (i : Int) * shW L n
def rwL (L : List Int) (q far : Int) (i : Nat) : Nat -> List Int
 | 0 => []
 | k + 1 => rwL L q far i k ++ [if (i : Int) = (k : Int) then 0 else dN L (q + (k : Int)) (far + 1)]
def shT (L : List Int) (n : Int) : Nat -> List (List Int)
 | 0 => []
 | i + 1 => shT L n i ++ [rwL L (shQ L n i) (shR L n) i (Int.toNat (shW L n))]
def shE (L : List Int) (n : Int) : Int := shQ L n (Int.toNat (shW L n))
def brL (L : List Int) (n : Int) : Nat -> List Int
 | 0 => []
 | x + 1 => brL L n x ++ [dN L (shE L n + 2 * (x : Int) + 1) (shW L n)]
def shC (L : List Int) (n m : Int) (x : Nat) : Bool := decide (dN L (shE L n + 2 * (x : Int)) m < (x : Int))
def shX (L : List Int) (n m : Int) : Nat := firstN (shC L n m) (Int.toNat m + 1)
def shF (L : List Int) (n m : Int) : Fleet := ⟨shT L n (Int.toNat (shW L n)), brL L n (shX L n m)⟩
def shN (L : List Int) (n m : Int) : Int := shE L n + 2 * (shX L n m : Int) + 1
structure AsS where
 l : List Rq
 n : Int
 h : Int
def asV (L : List Int) (a w : Int) (x : Nat) (s : AsS) : AsS :=
 if dN L (s.n + 1) 3 = 0 then
  ⟨s.l ++ [⟨Int.tmod (7 * (x : Int)) 31, s.h + dN L s.n a, dN L (s.n + 1 + 1 + 1) w, dN L (s.n + 1 + 1 + 1 + 1) w, 1 + dN L (s.n + 1 + 1 + 1 + 1 + 1) 15, 1 + dN L (s.n + 1 + 1 + 1 + 1 + 1 + 1) 3, 1 + dN L (s.n + 1 + 1) 60⟩], s.n + 1 + 1 + 1 + 1 + 1 + 1 + 1, s.h + dN L s.n a⟩
 else
  ⟨s.l ++ [⟨Int.tmod (7 * (x : Int)) 31, s.h + dN L s.n a, dN L (s.n + 1 + 1) w, dN L (s.n + 1 + 1 + 1) w, 1 + dN L (s.n + 1 + 1 + 1 + 1) 15, 1 + dN L (s.n + 1 + 1 + 1 + 1 + 1) 3, 0⟩], s.n + 1 + 1 + 1 + 1 + 1 + 1, s.h + dN L s.n a⟩
def asA (L : List Int) (n : Int) : Int := 1 + dN L (n + 1) 15
def asS (L : List Int) (n w : Int) : Nat -> AsS
 | 0 => ⟨[], n + 1 + 1, 0⟩
 | x + 1 => asV L (asA L n) w x (asS L n w x)
def asK (L : List Int) (n m : Int) : Nat := Int.toNat (dN L n (m + 1))
def asL (L : List Int) (n m w : Int) : List Rq := (asS L n w (asK L n m)).l
def asN (L : List Int) (n m w : Int) : Int := (asS L n w (asK L n m)).n
def rlP (L : List Int) (n : Int) : Pol := ⟨dN L n 6, dN L (n + 1) 40, dN L (n + 1 + 1) 4, dN L (n + 1 + 1 + 1) 10, dN L (n + 1 + 1 + 1 + 1) 100⟩
end
end Go.Proofs.YthdekmpkioikdaaGreat
