/- Radio: what ranges over pictures come to. No condition. -/
import Derived.Test.YtbgfjemppjhmjaaGreatGK27xW1
import Derived.Test.YtbgfjemppjhmjaaGreatGK24xV14
import Derived.Shelf.SlSortCmp.WholeK
import Derived.Ground.SlsfProg
import Derived.Test.YtbgfjemppjhmjaaGreatChecked
import Derived.Sort.Grow
import Derived.Deep.Draws
import Derived.Shelf.SlSortCmp.Whole1
namespace Go.Proofs.YtbgfjemppjhmjaaGreat
set_option linter.unusedSimpArgs false
open Go Go.K
set_option linter.unusedVariables false
theorem seen_perm {n : Nat} {s : List Nat} (h1 : s.Nodup) (h2 : ∀ i ∈ s, i < n) (h3 : ∀ i, i < n -> i ∈ s) : s.Perm (List.range n) :=
 (List.perm_ext_iff_of_nodup h1 List.nodup_range).2 fun i => ⟨fun h => List.mem_range.2 (h2 i h), fun h => h3 i (List.mem_range.1 h)⟩
theorem range_map_getD (L : List Msg) : (List.range L.length).map (fun i => L.getD i zeroM) = L := by
 refine List.ext_getElem? fun i => ?_
 rw [List.getElem?_map]
 by_cases h : i < L.length
 ·rw [List.getElem?_range h, List.getElem?_eq_getElem h]
  simp [List.getD_eq_getElem?_getD, h]
 ·rw [List.getElem?_eq_none (by simpa using Nat.le_of_not_lt h), List.getElem?_eq_none (Nat.le_of_not_lt h)]; rfl
theorem seen_map {L : List Msg} {s : List Nat} (h : s.Perm (List.range L.length)) : (s.map fun i => L.getD i zeroM).Perm L := by
 have := h.map fun i => L.getD i zeroM
 rwa [range_map_getD] at this
theorem snoc_ind {α : Type} {p : List α -> Prop} (h0 : p []) (h1 : ∀ s i, p s -> p (s ++ [i])) : ∀ s, p s := by
 intro s
 generalize hn : s.length = n
 induction n generalizing s with
 | zero => obtain rfl := List.length_eq_zero_iff.1 hn; exact h0
 | succ n ih =>
  rcases List.eq_nil_or_concat s with rfl | ⟨t, i, rfl⟩
  ·cases hn
  ·rw [List.concat_eq_append] at hn ⊢; exact h1 t i (ih t (by simpa using hn))
theorem forgF_snoc (L : List Msg) (s : List Nat) (i : Nat) : forgF L (s ++ [i]) = putA ((L.getD i zeroM).au, (L.getD i zeroM).nu) (hasA ((L.getD i zeroM).au, (L.getD i zeroM).nu) (forgF L s)) (forgF L s) := by
 unfold forgF; rw [List.foldl_append]; rfl
theorem wdF_snoc (L : List Msg) (G : List ((Int × Int) × Bool)) (s : List Nat) (i : Nat) : wdF L G (s ++ [i]) = if (L.getD i zeroM).ki = 3 /\ getA ((L.getD i zeroM).au, (L.getD i zeroM).nu) false G = false then putA ((L.getD i zeroM).au, (L.getD i zeroM).va) true (wdF L G s) else wdF L G s := by
 unfold wdF; rw [List.foldl_append]; rfl
def cntN (L : List Msg) (s : List Nat) (a n : Int) : Nat := (namedL (s.map fun i => L.getD i zeroM) a n).length
theorem cntN_snoc (L : List Msg) (s : List Nat) (i : Nat) (a n : Int) : cntN L (s ++ [i]) a n = cntN L s a n + if (L.getD i zeroM).au = a /\ (L.getD i zeroM).nu = n then 1 else 0 := by
 unfold cntN namedL
 rw [List.map_append, List.filter_append, List.length_append, List.map_cons, List.map_nil, List.filter_cons]
 generalize L.getD i zeroM = m
 by_cases h : m.au = a /\ m.nu = n
 ·rw [if_pos h, if_pos (by simp [h.1, h.2])]; rfl
 ·rw [if_neg h, if_neg (by simpa using h)]; rfl
theorem forgF_spec (L : List Msg) (a n : Int) : ∀ s, hasA (a, n) (forgF L s) = decide (1 <= cntN L s a n) /\ getA (a, n) false (forgF L s) = decide (2 <= cntN L s a n) := by
 refine snoc_ind ⟨rfl, rfl⟩ fun s i ⟨h1, h2⟩ => ?_
 rw [forgF_snoc, hasA_put, getA_put, cntN_snoc, h1, h2]
 by_cases h : (L.getD i zeroM).au = a /\ (L.getD i zeroM).nu = n
 ·obtain ⟨e1, e2⟩ := h
  rw [if_pos ⟨e1, e2⟩, e1, e2, if_pos rfl, h1]
  simp
 ·rw [if_neg h, if_neg (fun q => h ⟨congrArg Prod.fst q.symm, congrArg Prod.snd q.symm⟩)]
  rw [decide_eq_false (fun q => h ⟨congrArg Prod.fst q.symm, congrArg Prod.snd q.symm⟩)]
  simp
theorem namedL_perm {A B : List Msg} (h : A.Perm B) (a n : Int) : (namedL A a n).length = (namedL B a n).length := (h.filter _).length_eq
theorem forgB_perm {A B : List Msg} (h : A.Perm B) (a n : Int) : forgB A a n = forgB B a n := by unfold forgB; rw [namedL_perm h]
theorem wdB_perm {A B : List Msg} (h : A.Perm B) (a n : Int) : wdB A a n = wdB B a n := by
 unfold wdB
 rw [Bool.eq_iff_iff, List.any_eq_true, List.any_eq_true]
 constructor
 ·rintro ⟨w, h1, h2⟩; exact ⟨w, h.mem_iff.1 h1, by rwa [forgB_perm h] at h2⟩
 ·rintro ⟨w, h1, h2⟩; exact ⟨w, h.mem_iff.2 h1, by rwa [forgB_perm h]⟩
theorem forgF_all {L : List Msg} {s : List Nat} (h : s.Perm (List.range L.length)) (a n : Int) : getA (a, n) false (forgF L s) = forgB L a n := by
 rw [(forgF_spec L a n s).2]
 unfold forgB cntN
 rw [namedL_perm (seen_map h)]
theorem wdF_spec (L : List Msg) (G : List ((Int × Int) × Bool)) (a n : Int) : ∀ s, getA (a, n) false (wdF L G s) = (s.map fun i => L.getD i zeroM).any fun w => decide (w.ki = 3) && !getA (w.au, w.nu) false G && decide (w.au = a) && decide (w.va = n) := by
 refine snoc_ind rfl fun s i h => ?_
 rw [wdF_snoc, List.map_append, List.any_append, <- h, List.map_cons, List.map_nil, List.any_cons, List.any_nil, Bool.or_false]
 generalize L.getD i zeroM = m
 by_cases h3 : m.ki = 3 /\ getA (m.au, m.nu) false G = false
 ·rw [if_pos h3, getA_put, h3.1, h3.2]
  by_cases q : m.au = a /\ m.va = n
  ·rw [if_pos (by rw [q.1, q.2]), q.1, q.2]; simp
  ·rw [if_neg (fun x => q ⟨congrArg Prod.fst x.symm, congrArg Prod.snd x.symm⟩)]
   have : (decide (m.au = a) && decide (m.va = n)) = false := by simpa using q
   simp [this]
 ·rw [if_neg h3]
  have : (decide (m.ki = 3) && !getA (m.au, m.nu) false G) = false := by
   cases hg : getA (m.au, m.nu) false G with
   | true => simp
   | false => simp only [hg, and_true] at h3; simp [h3]
  rw [this]; simp
theorem wdF_all {L : List Msg} {s t : List Nat} (h : s.Perm (List.range L.length)) (ht : t.Perm (List.range L.length)) (a n : Int) : getA (a, n) false (wdF L (forgF L s) t) = wdB L a n := by
 rw [wdF_spec, <- wdB_perm (seen_map ht) a n]
 unfold wdB
 congr 1
 funext w
 rw [forgF_all h, forgB_perm (seen_map ht)]
def SeenI (L : List Msg) (s : List Nat) : Prop := s.Nodup /\ ∀ i ∈ s, i < L.length
def pickM (L : List Msg) (s : List Nat) : List Msg := s.map fun i => L.getD i zeroM
theorem seen_0 (L : List Msg) : SeenI L [] := ⟨List.nodup_nil, fun i h => by cases h⟩
theorem seen_snoc {L : List Msg} {s : List Nat} {i : Nat} (h : SeenI L s) (hi : i < L.length) (hn : i ∉ s) : SeenI L (s ++ [i]) :=
 ⟨List.nodup_append.2 ⟨h.1, (by simp), fun a ha b hb e => hn (by rw [List.mem_singleton.1 hb] at e; exact e ▸ ha)⟩, fun j hj => by
  rcases List.mem_append.1 hj with h1 | h1
  ·exact h.2 j h1
  ·rw [List.mem_singleton.1 h1]; exact hi⟩
theorem seen_len {L : List Msg} {s : List Nat} (h : SeenI L s) : s.length <= L.length := by
 have key : ∀ (n : Nat) (s : List Nat), s.Nodup -> (∀ i ∈ s, i < n) -> s.length <= n := by
  intro n
  induction n with
  | zero => intro s _ h; cases s with
   | nil => exact Nat.le_refl _
   | cons a s => exact absurd (h a (List.mem_cons_self ..)) (by omega)
  | succ n ih =>
   intro s hn hs
   by_cases hm : n ∈ s
   ·have h1 := ih (s.erase n) (hn.erase n) (fun i hi => by
     have := hs i (List.mem_of_mem_erase hi)
     have : i ≠ n := fun e => by rw [e] at hi; exact (List.Nodup.not_mem_erase hn) hi
     omega)
    rw [List.length_erase_of_mem hm] at h1
    omega
   ·exact Nat.le_succ_of_le (ih s hn (fun i hi => by
     have := hs i hi
     have : i ≠ n := fun e => hm (e ▸ hi)
     omega))
 exact key _ _ h.1 h.2
theorem seen_more {L : List Msg} {s : List Nat} {i : Nat} (h : SeenI L s) (hi : i < L.length) (hn : i ∉ s) : L.length - (s ++ [i]).length < L.length - s.length := by
 have := seen_len (seen_snoc h hi hn)
 rw [List.length_append] at this ⊢
 simp only [List.length_cons, List.length_nil] at this ⊢
 omega
theorem seen_all {L : List Msg} {s : List Nat} (h : SeenI L s) (h3 : ∀ i, i < L.length -> i ∈ s) : s.Perm (List.range L.length) := seen_perm h.1 h.2 h3
theorem pick_len (L : List Msg) (s : List Nat) : (pickM L s).length = s.length := List.length_map ..
theorem pick_snoc (L : List Msg) (s : List Nat) (i : Nat) : pickM L (s ++ [i]) = pickM L s ++ [L.getD i zeroM] := by unfold pickM; rw [List.map_append]; rfl
def goneF (F G : List ((Int × Int) × Bool)) (m : Msg) : Bool := decide (m.ki = 3) || getA (m.au, m.nu) false F || getA (m.au, m.nu) false G
theorem goneF_all {L : List Msg} {s t : List Nat} (h : s.Perm (List.range L.length)) (ht : t.Perm (List.range L.length)) (m : Msg) : goneF (forgF L s) (wdF L (forgF L s) t) m = goneB L m := by
 unfold goneF goneB
 rw [forgF_all h, wdF_all h ht]
def notIn (M : List Msg) (m : Msg) : Bool := !memB M m
def stayB (L : List Msg) (m : Msg) : Bool := !goneB L m
def keepQ (q : Msg -> Bool) (M : List Msg) (x : Nat) : List Msg := (M.take x).filter q
def midQ (q : Msg -> Bool) (M : List Msg) (x : Nat) : List Msg := keepQ q M x ++ M.drop (keepQ q M x).length
theorem keepQ_le (q : Msg -> Bool) (M : List Msg) (x : Nat) : (keepQ q M x).length <= x := Nat.le_trans (List.length_filter_le ..) (List.length_take_le ..)
theorem keepQ_1 {q : Msg -> Bool} {M : List Msg} {x : Nat} (hx : x < M.length) (h : q (M.getD x zeroM) = true) : keepQ q M (x + 1) = keepQ q M x ++ [M.getD x zeroM] := by
 unfold keepQ
 have e : M.getD x zeroM = M[x] := by simp [List.getD_eq_getElem?_getD, hx]
 rw [e] at h ⊢
 rw [List.take_succ_eq_append_getElem hx, List.filter_append, List.filter_cons, if_pos h]; rfl
theorem keepQ_0 {q : Msg -> Bool} {M : List Msg} {x : Nat} (hx : x < M.length) (h : q (M.getD x zeroM) = false) : keepQ q M (x + 1) = keepQ q M x := by
 unfold keepQ
 have e : M.getD x zeroM = M[x] := by simp [List.getD_eq_getElem?_getD, hx]
 rw [e] at h
 rw [List.take_succ_eq_append_getElem hx, List.filter_append, List.filter_cons, if_neg (by rw [h]; simp), List.filter_nil, List.append_nil]
theorem keepQ_all {q : Msg -> Bool} {M : List Msg} {x : Nat} (h : (M.take x).all q = true) : keepQ q M x = M.take x := by
 unfold keepQ
 rw [List.filter_eq_self]
 rw [List.all_eq_true] at h
 exact h
theorem midQ_len {q : Msg -> Bool} {M : List Msg} {x : Nat} (hx : x <= M.length) : (midQ q M x).length = M.length := by
 have := keepQ_le q M x
 unfold midQ; rw [List.length_append, List.length_drop]; omega
theorem midQ_at {q : Msg -> Bool} {M : List Msg} {x : Nat} (hx : x < M.length) : (midQ q M x).getD x zeroM = M.getD x zeroM := by
 have := keepQ_le q M x
 unfold midQ
 rw [List.getD_eq_getElem?_getD, List.getD_eq_getElem?_getD, List.getElem?_append_right this, List.getElem?_drop, show (keepQ q M x).length + (x - (keepQ q M x).length) = x by omega]
theorem midQ_all {q : Msg -> Bool} {M : List Msg} {x : Nat} (h : (M.take x).all q = true) (hx : x <= M.length) : midQ q M x = M := by
 unfold midQ
 rw [keepQ_all h, List.length_take, Nat.min_eq_left hx, List.take_append_drop]
theorem midQ_0 {q : Msg -> Bool} {M : List Msg} {x : Nat} (hx : x < M.length) (h : q (M.getD x zeroM) = false) : midQ q M (x + 1) = midQ q M x := by
 unfold midQ; rw [keepQ_0 hx h]
theorem midQ_1 {q : Msg -> Bool} {M : List Msg} {x : Nat} (hx : x < M.length) (h : q (M.getD x zeroM) = true) : midQ q M (x + 1) = (midQ q M x).set (keepQ q M x).length (M.getD x zeroM) := by
 have hk := keepQ_le q M x
 unfold midQ
 rw [keepQ_1 hx h, List.set_append_right _ _ (Nat.le_refl _), Nat.sub_self, List.length_append]
 have e : M.drop (keepQ q M x).length = M[(keepQ q M x).length]'(by omega) :: M.drop ((keepQ q M x).length + 1) := List.drop_eq_getElem_cons (by omega)
 rw [e, List.set_cons_zero, List.append_assoc]; rfl
theorem keepQ_end (q : Msg -> Bool) (M : List Msg) : keepQ q M M.length = M.filter q := by unfold keepQ; rw [List.take_length]
end Go.Proofs.YtbgfjemppjhmjaaGreat
/- Contracts over blocks that are as they are (pictures), also with one answer of several. No condition. -/
namespace Go.K
set_option linter.unusedSimpArgs false
open Go
set_option linter.unusedVariables false
variable {P : Program} {mixed : Bool} {mask : Nat} {dm : Value -> MS} {rounds : Nat}
noncomputable def readsK (os : List KObj) : HT := os.foldl HT.push ⟨0, .leaf⟩
theorem readsK_list (os : List KObj) : (readsK os).list = os := by
 have key : ∀ (l : List KObj) (H : HT), (l.foldl HT.push H).list = H.list ++ l := by
  intro l
  induction l with
  | nil => intro H; simp
  | cons p l ih => intro H; rw [List.foldl_cons, ih, HT.list_push]; simp
 rw [show (readsK os).list = _ from key os ⟨0, .leaf⟩]; rfl
def objsAt (H : Heap) (σ : Nat -> Option Nat) : List Nat -> List KObj -> Prop
 | [], [] => True
 | id :: ids, o :: os => H[id]? = some (rno σ 3 o) /\ objsAt H σ ids os
 | _, _ => False
theorem objsAt_len {H : Heap} {σ : Nat -> Option Nat} : ∀ {ids : List Nat} {os : List KObj}, objsAt H σ ids os -> ids.length = os.length
 | [], [], _ => rfl
 | _ :: ids, _ :: os, h => by rw [List.length_cons, List.length_cons, objsAt_len h.2]
 | [], _ :: _, h => h.elim
 | _ :: _, [], h => h.elim
theorem objsAt_get {H : Heap} {σ : Nat -> Option Nat} : ∀ {ids : List Nat} {os : List KObj}, objsAt H σ ids os -> ∀ (k id : Nat) (o : KObj), ids[k]? = some id -> os[k]? = some o -> H[id]? = some (rno σ 3 o)
 | [], [], _, k, id, o, h1, h2 => by simp at h1
 | i :: ids, d :: os, h, 0, id, o, h1, h2 => by cases h1; cases h2; exact h.1
 | i :: ids, d :: os, h, k + 1, id, o, h1, h2 => objsAt_get h.2 k id o (by simpa using h1) (by simpa using h2)
 | [], _ :: _, h, _, _, _, _, _ => h.elim
 | _ :: _, [], h, _, _, _, _, _ => h.elim
abbrev sgI (ids : List Nat) (i : Nat) : Option Nat := ids[i]?
theorem part_of (hG : P.globals.size = 0) {os : List KObj} {ids : List Nat} {H : Heap} (hk : os.all (rnoOk 3) = true) (hnd : ids.Nodup) (hi : objsAt H (sgI ids) ids os) : Part P (readsK os).list H (sgI ids) 3 := by
 rw [readsK_list]
 have hl := objsAt_len hi
 have hH : ∀ id id', ids[id]? = some id' -> ∃ o, os[id]? = some o /\ H[id']? = some (rno (sgI ids) 3 o) := fun id id' h => by
  have h1 := (List.getElem?_eq_some_iff.1 h).1
  exact ⟨os[id]'(by omega), List.getElem?_eq_getElem (by omega), objsAt_get hi id id' _ h (List.getElem?_eq_getElem (by omega))⟩
 refine ⟨fun g hg => by omega, fun id id' h => ?_, fun id h => ⟨_, List.getElem?_eq_getElem (by omega)⟩, fun a b c h1 h2 => ?_, fun id id' o h1 h2 => .inr ?_⟩
 ·obtain ⟨o, e1, e2⟩ := hH id id' h
  exact ⟨(List.getElem?_eq_some_iff.1 e1).1, (List.getElem?_eq_some_iff.1 e2).1⟩
 ·have e1 := List.getElem?_eq_some_iff.1 h1
  have e2 := List.getElem?_eq_some_iff.1 h2
  obtain ⟨l1, q1⟩ := e1
  obtain ⟨l2, q2⟩ := e2
  exact (List.getElem_inj hnd).1 (q1.trans q2.symm)
 ·rw [List.all_eq_true] at hk
  exact ⟨hk o (List.mem_of_getElem? h2), objsAt_get hi id id' o h1 h2⟩
theorem vcK (hmask : MaskOk P mixed mask) (hmix : mixed = true -> P.follows .mixedOrders = true) (hG : P.globals.size = 0) (n : Nat) {f : FuncId} {args : List Value} {os : List KObj} {h : Hint} {v : Value} {new : List (Bool × KObj)}
  (hc : vF P mask dm rounds mixed n true f args (readsK os) (some []) h (newK (readsK os).n 3 v new)) (hk : os.all (rnoOk 3) = true) (hv : rnOk 3 v = true) (hn : (new.map (·.2)).all (fun o => rnoOk 3 o && o.owned) = true)
  {H : Heap} {ids : List Nat} (hnd : ids.Nodup) (hi : objsAt H (sgI ids) ids os) :
  KCall P f (args.map (rn (sgI ids) 3)) H [] (Is (rn (sgNew (sgI ids) os.length H.length) 3 v) (H ++ (new.map (·.2)).map (rno (sgNew (sgI ids) os.length H.length) 3))) := by
 have h1 := KCall.frame (part_of hG hk hnd hi) (vcN hmask hmix n hc) hv hn
 rw [readsK_list] at h1
 exact h1
end Go.K
/- Radio: blocks that are read, by their addresses; contracts over pictures. No condition. -/
namespace Go.Proofs.YtbgfjemppjhmjaaGreat
set_option linter.unusedSimpArgs false
set_option linter.unusedVariables false
open Go Go.K
noncomputable section
def InsA (H : Heap) (σ : Nat -> Option Nat) : List Nat -> List (List Value) -> Prop
 | [], [] => True
 | i :: is, c :: cs => (∃ own z, H[i]? = some (KObj.cells own z (c.map (rn σ 3)))) /\ InsA H σ is cs
 | _, _ => False
theorem InsA.len {H : Heap} {σ : Nat -> Option Nat} : ∀ {ids : List Nat} {css : List (List Value)}, InsA H σ ids css -> ids.length = css.length
 | [], [], _ => rfl
 | i :: is, c :: cs, h => by rw [List.length_cons, List.length_cons, h.2.len]
theorem InsA.get {H : Heap} {σ : Nat -> Option Nat} : ∀ {ids : List Nat} {css : List (List Value)}, InsA H σ ids css -> ∀ (k : Nat) (cs : List Value), css[k]? = some cs -> ∃ id own z, ids[k]? = some id /\ H[id]? = some (KObj.cells own z (cs.map (rn σ 3)))
 | [], [], _, k, d, e => by cases e
 | i :: is, c :: cs, h, 0, d, e => by cases e; obtain ⟨own, z, h1⟩ := h.1; exact ⟨i, own, z, rfl, h1⟩
 | i :: is, c :: cs, h, k + 1, d, e => h.2.get k d e
theorem valB {f : FuncId} {args : List Value} {css : List (List Value)} {h : Hint} {v : Value} (hc : vF prog msk (dm 0) 100000 true 40 true f args (readsT 0 css) (some []) h (fun v' _ _ => v' = v)) (hv : belowV 0 v = true) (h3 : rnOk 3 v = true := by rfl) (h4 : ∀ σ, rn σ 3 v = v := by intro; rfl)
  {H : Heap} {ids : List Nat} (hi : InsA H (sgR 0 ids) ids css) {args' : List Value} (ha : args.map (rn (sgR 0 ids) 3) = args') : KCall prog f args' H [] (Is v H) := by
 subst ha
 exact valRA hc hv (h3 := h3) (h4 := h4) ids hi.len hi.get
theorem valKs {f : FuncId} {args : List Value} {os : List KObj} {h : Hint} (v : Nat -> Value) {new : List KObj}
  (hc : vF prog msk (dm 0) 100000 true 40 true f args (readsK os) (some []) h (newK (readsK os).n 3 (v os.length) (new.map fun o => (true, o))))
  (hk : os.all (rnoOk 3) = true) (hv : rnOk 3 (v os.length) = true) (hn : newAll new) {H : Heap} {ids : List Nat} (hnd : ids.Nodup) (hi : objsAt H (sgI ids) ids os) (h3 : ∀ j, rn (sgNew (sgI ids) os.length j) 3 (v os.length) = v j)
  {args' : List Value} (ha : args.map (rn (sgI ids) 3) = args') : KCall prog f args' H [] (Is (v H.length) (H ++ new)) := by
 subst ha
 have e0 : (new.map fun o => (true, o)).map (·.2) = new := by rw [List.map_map]; exact List.map_id _
 have key := vcK mskOk mixed glob0 40 (v := v os.length) (new := new.map fun o => (true, o)) hc hk hv (by rw [e0]; exact (newAll_spec (σ := fun _ => none) hn).1) hnd hi
 rw [e0, (newAll_spec hn).2, h3] at key
 exact key
theorem valKp {f : FuncId} {args : List Value} {os : List KObj} {h : Hint} (v : Nat -> Value) {b : Bool} {o : KObj}
  (hc : vF prog msk (dm 0) 100000 true 40 true f args (readsK os) (some []) h (newK (readsK os).n 3 (v os.length) [(b, o)]))
  (hk : os.all (rnoOk 3) = true) (hv : rnOk 3 (v os.length) = true) (hn : newAll [o]) {H : Heap} {ids : List Nat} (hnd : ids.Nodup) (hi : objsAt H (sgI ids) ids os) (h3 : ∀ j, rn (sgNew (sgI ids) os.length j) 3 (v os.length) = v j)
  {args' : List Value} (ha : args.map (rn (sgI ids) 3) = args') : KCall prog f args' H [] (Is (v H.length) (H ++ [o])) := by
 subst ha
 have key := vcK mskOk mixed glob0 40 (v := v os.length) (new := [(b, o)]) hc hk hv (by exact (newAll_spec (σ := fun _ => none) hn).1) hnd hi
 rw [show ([(b, o)] : List (Bool × KObj)).map (·.2) = [o] from rfl, (newAll_spec hn).2, h3] at key
 exact key
end
end Go.Proofs.YtbgfjemppjhmjaaGreat
/- What is to be shown of functions. Printed by a program. No condition. -/
namespace Go.Proofs.YtbgfjemppjhmjaaGreat
set_option linter.unusedSimpArgs false
open Go Go.K
set_option maxRecDepth 100000
set_option maxHeartbeats 4000000
set_option linter.unusedVariables false
noncomputable section
abbrev ktf (m : Msg):=decide ((0 : Int) <= m.ce)
abbrev ktd (m : Msg):=decide ((m.ce : Int) <= 1023)
abbrev kt5 : Value:=.bool false
def Rkind1 (sp : Value) (m : Msg) : Prop :=
 ((((1 : Int) == m.ki) = true -> (((decide ((1 : Int) <= m.sh)) = true -> (((decide ((m.sh : Int) <= 40)) = true -> (((ktf m) = true -> (((ktd m) = true -> (.bool ((m.va : Int) == 0) : Value) = sp) /\ ((ktd m) = false -> kt5 = sp))) /\ ((ktf m) = false -> kt5 = sp))) /\ ((decide ((m.sh : Int) <= 40)) = false -> kt5 = sp))) /\ ((decide ((1 : Int) <= m.sh)) = false -> kt5 = sp))) /\ (((1 : Int) == m.ki) = false -> kt5 = sp))
abbrev ktb : Hint:=.gfork (.go 7 (.gfork (.auto) (.auto))) (.auto)
theorem Ekind1 (sp : Value) (m : Msg) : vF prog msk (dm 0) 100000 true 40 true 122 [.agg #[.int .i64 1,.func (.func 174) #[] #[.pointer (some ⟨0,0,none⟩)]],.pointer (some ⟨1,0,none⟩)] (readsT 0 [[.func (.func 173) #[] #[]],msgC m]) (some [])
 (.go 7 (.gfork (.go 13 (.gfork (.go 5 (.gfork (.go 12 ktb) (.auto))) (.auto))) (.auto)))
 (fun v _ _ => v = sp) = Rkind1 sp m:=by kernel_rfl
def Rkind2 (sp : Value) (m : Msg) : Prop :=
 ((((2 : Int) == m.ki) = true -> ((((m.sh : Int) == 0) = true -> (((ktf m) = true -> (((ktd m) = true -> (((decide ((0 : Int) <= m.va)) = true -> (.bool (decide ((m.va : Int) <= 1000000)) : Value) = sp) /\ ((decide ((0 : Int) <= m.va)) = false -> kt5 = sp))) /\ ((ktd m) = false -> kt5 = sp))) /\ ((ktf m) = false -> kt5 = sp))) /\ (((m.sh : Int) == 0) = false -> kt5 = sp))) /\ (((2 : Int) == m.ki) = false -> kt5 = sp))
theorem Ekind2 (sp : Value) (m : Msg) : vF prog msk (dm 0) 100000 true 40 true 122 [.agg #[.int .i64 2,.func (.func 175) #[] #[.pointer (some ⟨0,0,none⟩)]],.pointer (some ⟨1,0,none⟩)] (readsT 0 [[.func (.func 173) #[] #[]],msgC m]) (some [])
 (.go 7 (.gfork (.go 9 (.gfork (.go 12 (.gfork (.go 7 ktb) (.auto))) (.auto))) (.auto)))
 (fun v _ _ => v = sp) = Rkind2 sp m:=by kernel_rfl
def Rkind3 (sp : Value) (m : Msg) : Prop :=
 ((((3 : Int) == m.ki) = true -> ((((m.sh : Int) == 0) = true -> ((((m.ce : Int) == 0) = true -> (((decide ((1 : Int) <= m.va)) = true -> (.bool (decide ((m.va : Int) <= 200)) : Value) = sp) /\ ((decide ((1 : Int) <= m.va)) = false -> kt5 = sp))) /\ (((m.ce : Int) == 0) = false -> kt5 = sp))) /\ (((m.sh : Int) == 0) = false -> kt5 = sp))) /\ (((3 : Int) == m.ki) = false -> kt5 = sp))
abbrev ktc : List Value:=[.agg #[.int .i64 3,.func (.func 176) #[] #[]],.pointer (some ⟨0,0,none⟩)]
theorem Ekind3 (sp : Value) (m : Msg) : vF prog msk (dm 0) 100000 true 40 true 122 ktc (readsT 0 [msgC m]) (some [])
 (.go 7 (.gfork (.go 9 (.gfork (.go 4 ktb) (.auto))) (.auto)))
 (fun v _ _ => v = sp) = Rkind3 sp m:=by kernel_rfl
abbrev kt4 : KObj:=.cells true 0 [.func (.func 173) #[] #[]]
abbrev kt1 (m : Msg) : List Value:=[.int .i64 m.au,.int .i64 m.nu,.int .i64 m.at_,.int .i64 m.ki,.int .i64 m.sh,.int .i64 m.ce,.int .i64 m.va]
abbrev kt7 (m : Msg) : KObj:=.cells true 0 (kt1 m)
abbrev kt8 : Value:=.int .i64 110
abbrev kt0 (m : Msg) (sp : Value) : Prop:=((decide ((1 : Int) <= m.au)) = true -> (((!(decide ((m.au : Int) <= 4))) = true -> kt8 = sp) /\ ((!(decide ((m.au : Int) <= 4))) = false -> (((decide ((1 : Int) <= m.nu)) = true -> (((!(decide ((m.nu : Int) <= 200))) = true -> kt8 = sp) /\ ((!(decide ((m.nu : Int) <= 200))) = false -> (((decide ((0 : Int) <= m.at_)) = true -> (((!(decide ((m.at_ : Int) <= 100000))) = true -> kt8 = sp) /\ ((!(decide ((m.at_ : Int) <= 100000))) = false -> (.int .i64 0 : Value) = sp))) /\ ((decide ((0 : Int) <= m.at_)) = false -> kt8 = sp))))) /\ ((decide ((1 : Int) <= m.nu)) = false -> kt8 = sp))))) /\ ((decide ((1 : Int) <= m.au)) = false -> kt8 = sp)
def Rcheck (sp : Value) (m : Msg) : Prop :=
 (((some kt4 = some kt4) /\ (some (kt7 m) = some (kt7 m)) /\ True) /\ (∀ H' : Heap,H'.length = 3 -> (H'[1]? = some kt4 /\ H'[0]? = some (kt7 m) /\ True) -> KCall prog 122 [.agg #[.int .i64 1,.func (.func 174) #[] #[.pointer (some ⟨1,0,none⟩)]],.pointer (some ⟨0,0,none⟩)] H' [] (Is (.bool (k1B m)) H')) /\ (((k1B m) = true -> (kt0 m sp)) /\ ((k1B m) = false -> (((some kt4 = some kt4) /\ (some (kt7 m) = some (kt7 m)) /\ True) /\ (∀ H' : Heap,H'.length = 3 -> (H'[1]? = some kt4 /\ H'[0]? = some (kt7 m) /\ True) -> KCall prog 122 [.agg #[.int .i64 2,.func (.func 175) #[] #[.pointer (some ⟨1,0,none⟩)]],.pointer (some ⟨0,0,none⟩)] H' [] (Is (.bool (k2B m)) H')) /\ (((k2B m) = true -> (kt0 m sp)) /\ ((k2B m) = false -> (((some (kt7 m) = some (kt7 m)) /\ True) /\ (∀ H' : Heap,H'.length = 3 -> (H'[0]? = some (kt7 m) /\ True) -> KCall prog 122 ktc H' [] (Is (.bool (k3B m)) H')) /\ (((k3B m) = true -> (kt0 m sp)) /\ ((k3B m) = false -> (((decide ((1 : Int) <= m.au)) = true -> (((!(decide ((m.au : Int) <= 4))) = true -> kt8 = sp) /\ ((!(decide ((m.au : Int) <= 4))) = false -> (((decide ((1 : Int) <= m.nu)) = true -> (((!(decide ((m.nu : Int) <= 200))) = true -> kt8 = sp) /\ ((!(decide ((m.nu : Int) <= 200))) = false -> (((decide ((0 : Int) <= m.at_)) = true -> (((!(decide ((m.at_ : Int) <= 100000))) = true -> kt8 = sp) /\ ((!(decide ((m.at_ : Int) <= 100000))) = false -> kt8 = sp))) /\ ((decide ((0 : Int) <= m.at_)) = false -> kt8 = sp))))) /\ ((decide ((1 : Int) <= m.nu)) = false -> kt8 = sp))))) /\ ((decide ((1 : Int) <= m.au)) = false -> kt8 = sp)))))))))))
abbrev kt9 (m : Msg) : List Value:=[.agg #[.int .i64 m.au,.int .i64 m.nu,.int .i64 m.at_,.int .i64 m.ki,.int .i64 m.sh,.int .i64 m.ce,.int .i64 m.va]]
abbrev kte (m : Msg) : List (Nat × KObj):=[(1,.cells true 0 [.func (.func 173) #[] #[]]),(0,.cells true 0 (kt1 m))]
abbrev kt2 : Hint:=.gfork (.go 6 (.gfork (.auto) (.go 7 (.gfork (.go 7 (.gfork (.auto) (.go 7 ktb))) (.auto))))) (.auto)
theorem Echeck (sp : Value) (m : Msg) : vF prog msk (dm 0) 100000 true 40 true 55 (kt9 m) ⟨0,.leaf⟩ (some [])
 (.go 31 (.ans (kte m) (.bool (k1B m)) [] (.fork (.go 12 kt2) (.go 10 (.ans (kte m) (.bool (k2B m)) [] (.fork (.go 12 kt2) (.go 10 (.ans [(0,.cells true 0 (kt1 m))] (.bool (k3B m)) [] (.fork (.go 12 kt2) (.go 15 kt2))))))))))
 (fun v _ _ => v = sp) = Rcheck sp m:=by kernel_rfl
def RnewP  : Prop :=
 (true = true /\ wk (.tuple #[.pointer (some ⟨1,0,none⟩),.int .i64 0] : Value) (rn (sg 0 [(0,1),(1,0)]) 3 (.tuple #[.pointer (some ⟨0,0,none⟩),.int .i64 0] : Value)) /\ (wkO (.cells true 0 [.map (some 0)] : KObj) (rno (sg 0 [(0,1),(1,0)]) 3 (.cells true 0 [.map (some 1)] : KObj)) /\ (some (.map (heldE []) : KObj) = some (.map (heldE []) : KObj) /\ belowO 0 (.map (heldE []) : KObj) = true) /\ True))
theorem EnewP  : vF prog msk (dm 0) 100000 true 40 true 54 [] (readsK []) (some [])
 (.go 6 (.again [(0,1),(1,0)]))
 (newK ((readsK []) : HT).n 3 (.tuple #[.pointer (some ⟨0,0,none⟩),.int .i64 0]) [(false,.cells true 0 [.map (some 1)]),(true,.map (heldE []))]) = RnewP :=by kernel_rfl
abbrev kt6 (L : List Msg) (m : Msg):=rn (sg 2 []) 3 (.tuple #[.bool (addB L m),.int .i64 (addErr L m)] : Value)
abbrev kt3 (L : List Msg) (m : Msg) : Prop:=((some (.map (heldE L) : KObj) = some (.map (heldE (addL L m)) : KObj) /\ belowO 2 (.map (heldE (addL L m)) : KObj) = true) /\ True) /\ (True)
abbrev kta (m : Msg) : Value:=.agg #[.int .i64 m.au,.int .i64 m.nu,.int .i64 m.at_,.int .i64 m.ki,.int .i64 m.sh,.int .i64 m.ce,.int .i64 m.va]
def Radd (L : List Msg) (m : Msg) : Prop :=
 ((True) /\ (∀ H' : Heap,H'.length = 3 -> (True) -> KCall prog 55 (kt9 m) H' [] (Is (.int .i64 (errM m)) H')) /\ (((((errM m) : Int) != 0) = true -> (true = true /\ wk (.tuple #[.bool false,.int .i64 (errM m)] : Value) (kt6 L m) /\ kt3 L m)) /\ ((((errM m) : Int) != 0) = false -> ((klookE prog 64 (.bool false) (kta m) false (heldE L) = some (.bool (memB L m))) /\ (((memB L m) = true -> (true = true /\ wk (.tuple #[.bool false,.int .i64 0] : Value) (kt6 L m) /\ kt3 L m)) /\ ((memB L m) = false -> (((decide ((1500 : Int) <= (((List.length (heldE L)) : Nat) : Int))) = true -> (true = true /\ wk (.tuple #[.bool false,.int .i64 2] : Value) (kt6 L m) /\ kt3 L m)) /\ ((decide ((1500 : Int) <= (((List.length (heldE L)) : Nat) : Int))) = false -> ((ksetE prog 64 (kta m) (.bool true) (heldE L) = some (heldE (addM L m))) /\ (true = true /\ wk (.tuple #[.bool true,.int .i64 0] : Value) (kt6 L m) /\ ((some (.map (heldE (addM L m)) : KObj) = some (.map (heldE (addL L m)) : KObj) /\ belowO 2 (.map (heldE (addL L m)) : KObj) = true) /\ True) /\ (True)))))))))))
theorem Eadd (L : List Msg) (m : Msg) : vF prog msk (dm 0) 100000 true 40 true 31 [.pointer (some ⟨1,0,none⟩),.agg #[.int .i64 m.au,.int .i64 m.nu,.int .i64 m.at_,.int .i64 m.ki,.int .i64 m.sh,.int .i64 m.ce,.int .i64 m.va]] (readsO 0 (.map (heldE L)) [[.map (some 0)]]) (some [0])
 (.go 17 (.ans [] (.int .i64 (errM m)) [] (.go 2 (.fork (.go 2 (.keep (.again []))) (.go 4 (.val (.bool (memB L m)) (.fork (.go 1 (.keep (.again []))) (.go 5 (.fork (.go 1 (.keep (.again []))) (.go 4 (.mset (heldE (addM L m)) (.go 1 (.keep (.again []))))))))))))))
 (newKW ((readsO 0 (.map (heldE L)) [[.map (some 0)]]) : HT).n 3 0 (.map (heldE (addL L m))) (.tuple #[.bool (addB L m),.int .i64 (addErr L m)]) []) = Radd L m:=by kernel_rfl
end
end Go.Proofs.YtbgfjemppjhmjaaGreat
/- Radio: right messages, a new picture, what is put in. No condition. -/
namespace Go.Proofs.YtbgfjemppjhmjaaGreat
open Go Go.K
set_option maxRecDepth 100000
set_option linter.unusedVariables false
set_option linter.unusedSimpArgs false
noncomputable section
attribute [local irreducible] vF
theorem keqM (a b : Msg) : keqIn prog Op.maxDepth 64 (msgV a) (msgV b) = some (decide (a = b)) := by
 have h : keqIn prog Op.maxDepth 64 (msgV a) (msgV b) = some ((a.au == b.au) && ((a.nu == b.nu) && ((a.at_ == b.at_) && ((a.ki == b.ki) && ((a.sh == b.sh) && ((a.ce == b.ce) && ((a.va == b.va) && true))))))) := by kernel_rfl
 rw [h]
 congr 1
 rw [Bool.eq_iff_iff]
 obtain ⟨a1, a2, a3, a4, a5, a6, a7⟩ := a
 obtain ⟨b1, b2, b3, b4, b5, b6, b7⟩ := b
 simp
theorem keqN (a b : Int × Int) : keqIn prog Op.maxDepth 79 (nmV a) (nmV b) = some (decide (a = b)) := by
 have h : keqIn prog Op.maxDepth 79 (nmV a) (nmV b) = some ((a.1 == b.1) && ((a.2 == b.2) && true)) := by kernel_rfl
 rw [h]
 congr 1
 rw [Bool.eq_iff_iff]
 obtain ⟨a1, a2⟩ := a
 obtain ⟨b1, b2⟩ := b
 simp
theorem eqM (a : Msg) : keyEq (msgV a) (msgV a) = true := by simp [keyEq, keyEqL, keyEqC]
theorem eqN (a : Int × Int) : keyEq (nmV a) (nmV a) = true := by simp [keyEq, keyEqL, keyEqC]
theorem held_len (L : List Msg) : (heldE L).length = L.length := by unfold heldE; rw [encA_len, List.length_map]
theorem held_get (m : Msg) : ∀ (L : List Msg), getA m false (L.map fun m => (m, true)) = memB L m
 | [] => rfl
 | a :: L => by
  show (if a = m then true else getA m false (L.map fun m => (m, true))) = _
  rw [held_get m L]
  unfold memB
  by_cases h : a = m
  ·rw [if_pos h, h]; simp
  ·rw [if_neg h]; simp [Ne.symm h]
theorem held_put (m : Msg) : ∀ (L : List Msg), putA m true (L.map fun m => (m, true)) = (addM L m).map fun m => (m, true)
 | [] => rfl
 | a :: L => by
  show (if a = m then (m, true) :: L.map (fun m => (m, true)) else (a, true) :: putA m true (L.map fun m => (m, true))) = _
  rw [held_put m L]
  unfold addM
  by_cases h : a = m
  ·rw [if_pos h, h, if_pos (List.mem_cons_self ..)]; rfl
  ·rw [if_neg h]
   by_cases h2 : m ∈ L
   ·rw [if_pos h2, if_pos (List.mem_cons_of_mem _ h2)]; rfl
   ·rw [if_neg h2, if_neg (fun q => by rcases List.mem_cons.1 q with e | e; exact h e.symm; exact h2 e)]; rfl
theorem lookM (L : List Msg) (m : Msg) : klookE prog 64 (.bool false) (msgV m) false (heldE L) = some (.bool (memB L m)) := by
 unfold heldE
 rw [look_A (key := msgV) (val := fun b => .bool b) keqM m false rfl, held_get]; rfl
theorem setM (L : List Msg) (m : Msg) : ksetE prog 64 (msgV m) (.bool true) (heldE L) = some (heldE (addM L m)) := by
 unfold heldE
 rw [set_A (key := msgV) (val := fun b => .bool b) keqM eqM m true, held_put]
theorem held_below (L : List Msg) (n : Nat) : belowO n (.map (heldE L)) = true := by
 show (heldE L).all _ = true
 unfold heldE encA
 rw [List.all_map, List.all_map, List.all_eq_true]
 intro m _; rfl
theorem held_pl (L : List Msg) : plO (.map (heldE L)) = true := by
 show (heldE L).all _ = true
 unfold heldE encA
 rw [List.all_map, List.all_map, List.all_eq_true]
 intro m _; rfl
theorem eqB (k : Int) (n : Int) : (k == n) = decide (n = k) :=
 Bool.eq_iff_iff.2 ⟨fun h => decide_eq_true (eq_of_beq h).symm, fun h => by rw [of_decide_eq_true h]; exact beq_self_eq_true _⟩
theorem zEq (n : Int) : decide (0 = n) = decide (n = 0) := Bool.eq_iff_iff.2 ⟨fun h => decide_eq_true (of_decide_eq_true h).symm, fun h => decide_eq_true (of_decide_eq_true h).symm⟩
theorem kKind1 (m : Msg) {H : Heap} {i c : Nat} {z o z2 o2} (hi : H[i]? = some (.cells o z (msgC m))) (hc : H[c]? = some (.cells o2 z2 [.func (.func 173) #[] #[]])) :
  KCall prog 122 [.agg #[.int .i64 1, .func (.func 174) #[] #[.pointer (some ⟨c, 0, none⟩)]], .pointer (some ⟨i, 0, none⟩)] H [] (Is (.bool (k1B m)) H) := by
 refine valB (v := .bool (k1B m)) (css := [[.func (.func 173) #[] #[]], msgC m]) (ids := [c, i]) (Eq.mpr (Ekind1 _ m) ?_) (hv := rfl) (hi := ⟨⟨_, _, hc⟩, ⟨_, _, hi⟩, trivial⟩) (ha := rfl)
 delta Rkind1 ktf ktd kt5; unfold k1B inB
 rw [eqB 1, eqB m.va, zEq m.va]
 cases decide (m.ki = 1) <;> cases decide (1 <= m.sh) <;> cases decide (m.sh <= 40) <;> cases decide (0 <= m.ce) <;> cases decide (m.ce <= 1023) <;> simp
theorem kKind2 (m : Msg) {H : Heap} {i c : Nat} {z o z2 o2} (hi : H[i]? = some (.cells o z (msgC m))) (hc : H[c]? = some (.cells o2 z2 [.func (.func 173) #[] #[]])) :
  KCall prog 122 [.agg #[.int .i64 2, .func (.func 175) #[] #[.pointer (some ⟨c, 0, none⟩)]], .pointer (some ⟨i, 0, none⟩)] H [] (Is (.bool (k2B m)) H) := by
 refine valB (v := .bool (k2B m)) (css := [[.func (.func 173) #[] #[]], msgC m]) (ids := [c, i]) (Eq.mpr (Ekind2 _ m) ?_) (hv := rfl) (hi := ⟨⟨_, _, hc⟩, ⟨_, _, hi⟩, trivial⟩) (ha := rfl)
 delta Rkind2 ktf ktd kt5; unfold k2B inB
 rw [eqB 2, eqB m.sh, zEq m.sh]
 cases decide (m.ki = 2) <;> cases decide (m.sh = 0) <;> cases decide (0 <= m.va) <;> cases decide (0 <= m.ce) <;> cases decide (m.ce <= 1023) <;> simp
theorem kKind3 (m : Msg) {H : Heap} {i : Nat} {z o} (hi : H[i]? = some (.cells o z (msgC m))) :
  KCall prog 122 [.agg #[.int .i64 3, .func (.func 176) #[] #[]], .pointer (some ⟨i, 0, none⟩)] H [] (Is (.bool (k3B m)) H) := by
 refine valB (v := .bool (k3B m)) (css := [msgC m]) (ids := [i]) (Eq.mpr (Ekind3 _ m) ?_) (hv := rfl) (hi := ⟨⟨_, _, hi⟩, trivial⟩) (ha := rfl)
 delta Rkind3 kt5; unfold k3B inB
 rw [eqB 3, eqB m.sh, eqB m.ce, zEq m.sh, zEq m.ce]
 cases decide (m.ki = 3) <;> cases decide (m.sh = 0) <;> cases decide (m.ce = 0) <;> cases decide (1 <= m.va) <;> simp
theorem hv1 (m : Msg) : Rcheck (.int .i64 (errM m)) m := by
 delta Rcheck kt4 kt1 kt7 kt8 kt0 ktc
 refine ⟨⟨rfl, rfl, trivial⟩, fun H' _ h => kKind1 m h.2.1 h.1, fun a => ?_, fun a => ⟨⟨rfl, rfl, trivial⟩, fun H' _ h => kKind2 m h.2.1 h.1, fun b => ?_, fun b => ⟨⟨rfl, trivial⟩, fun H' _ h => kKind3 m h.1, fun c => ?_, fun c => ?_⟩⟩⟩
 ·have ek : kindB m = true := by unfold kindB; rw [a]; rfl
  unfold errM okM inB
  rw [ek]
  cases decide (1 <= m.au) <;> cases decide (m.au <= 4) <;> cases decide (1 <= m.nu) <;> cases decide (m.nu <= 200) <;> cases decide (0 <= m.at_) <;> cases decide (m.at_ <= 100000) <;> simp
 ·have ek : kindB m = true := by unfold kindB; rw [a, b]; rfl
  unfold errM okM inB
  rw [ek]
  cases decide (1 <= m.au) <;> cases decide (m.au <= 4) <;> cases decide (1 <= m.nu) <;> cases decide (m.nu <= 200) <;> cases decide (0 <= m.at_) <;> cases decide (m.at_ <= 100000) <;> simp
 ·have ek : kindB m = true := by unfold kindB; rw [a, b, c]; rfl
  unfold errM okM inB
  rw [ek]
  cases decide (1 <= m.au) <;> cases decide (m.au <= 4) <;> cases decide (1 <= m.nu) <;> cases decide (m.nu <= 200) <;> cases decide (0 <= m.at_) <;> cases decide (m.at_ <= 100000) <;> simp
 ·have ek : kindB m = false := by unfold kindB; rw [a, b, c]; rfl
  unfold errM okM inB
  rw [ek]
  cases decide (1 <= m.au) <;> cases decide (m.au <= 4) <;> cases decide (1 <= m.nu) <;> cases decide (m.nu <= 200) <;> cases decide (0 <= m.at_) <;> cases decide (m.at_ <= 100000) <;> simp
theorem kCheck (m : Msg) (H : Heap) : KCall prog 55 [msgV m] H [] (Is (.int .i64 (errM m)) H) :=
 valB (v := .int .i64 (errM m)) (css := []) (ids := []) (Eq.mpr (Echeck _ m) (hv1 m)) (hv := rfl) (hi := trivial) (ha := rfl)
theorem kNew (H : Heap) : KCall prog 54 [] H [] (Is (.tuple #[.pointer (some ⟨H.length, 0, none⟩), .int .i64 0]) (H ++ [.cells true 0 [.map (some (H.length + 1))], .map (heldE [])])) := by
 have key := vcK mskOk mixed glob0 40 (H := H) (ids := []) (os := []) (v := .tuple #[.pointer (some ⟨0, 0, none⟩), .int .i64 0]) (new := [(false, .cells true 0 [.map (some 1)]), (true, .map (heldE []))])
  (Eq.mpr EnewP (show RnewP from ⟨rfl, wk_of_eq rfl, wkO_of_eq rfl, ⟨rfl, rfl⟩, trivial⟩)) rfl rfl rfl List.nodup_nil trivial
 exact key
theorem addE_1 {L : List Msg} {m : Msg} (h : errM m ≠ 0) : addL L m = L /\ addB L m = false /\ addErr L m = errM m := by
 have hk : okM m ≠ true := fun q => h (if_pos q)
 refine ⟨if_neg fun q => hk q.1, ?_, ?_⟩
 ·unfold addB; cases e : okM m with
  | true => exact absurd e hk
  | false => rfl
 ·unfold addErr errM; rw [if_neg hk, if_neg hk]
theorem okM_of {m : Msg} (h : errM m = 0) : okM m = true := by
 unfold errM at h
 split at h
 ·assumption
 ·cases h
theorem hv2 (L : List Msg) (m : Msg) : Radd L m := by
 delta Radd kt9 kt6 kt3 kta
 refine ⟨trivial, fun H' _ _ => kCheck m H', fun a => ?_, fun a => ⟨lookM L m, fun b => ?_, fun b => ⟨fun c => ?_, fun c => ⟨setM L m, ?_⟩⟩⟩⟩
 ·have h : errM m ≠ 0 := by simpa using a
  obtain ⟨e1, e2, e3⟩ := addE_1 (L := L) h
  rw [e1, e2, e3]
  exact ⟨rfl, wk_refl _, ⟨⟨rfl, held_below _ _⟩, trivial⟩, trivial⟩
 ·have hk := okM_of (m := m) (by simpa using a)
  have hm : m ∈ L := of_decide_eq_true b
  rw [show addL L m = L from by unfold addL addM; rw [if_pos hm]; split <;> rfl, show addB L m = false from by unfold addB; rw [b]; simp, show addErr L m = 0 from by unfold addErr; rw [if_pos hk, if_pos hm]]
  exact ⟨rfl, wk_refl _, ⟨⟨rfl, held_below _ _⟩, trivial⟩, trivial⟩
 ·have hk := okM_of (m := m) (by simpa using a)
  have hm : ¬ m ∈ L := of_decide_eq_false b
  rw [held_len] at c
  have hc : ¬ L.length < 1500 := by have := of_decide_eq_true c; omega
  rw [show addL L m = L from if_neg fun q => hc q.2, show addB L m = false from by unfold addB; simp [hc], show addErr L m = 2 from by unfold addErr; rw [if_pos hk, if_neg hm, if_neg hc]]
  exact ⟨rfl, wk_refl _, ⟨⟨rfl, held_below _ _⟩, trivial⟩, trivial⟩
 ·have hk := okM_of (m := m) (by simpa using a)
  have hm : ¬ m ∈ L := of_decide_eq_false b
  rw [held_len] at c
  have hc : L.length < 1500 := by have := of_decide_eq_false c; omega
  rw [show addL L m = addM L m from if_pos ⟨hk, hc⟩, show addB L m = true from by unfold addB; rw [b, hk]; simp [hc], show addErr L m = 0 from by unfold addErr; rw [if_pos hk, if_neg hm, if_pos hc]]
  exact ⟨rfl, wk_refl _, ⟨⟨rfl, held_below _ _⟩, trivial⟩, trivial⟩
theorem kAdd (L : List Msg) (m : Msg) {H : Heap} {i q : Nat} {o z} (hi : H[i]? = some (.cells o z [.map (some q)])) (hq : H[q]? = some (.map (heldE L))) :
  KCall prog 31 [.pointer (some ⟨i, 0, none⟩), msgV m] H [q] (Is (.tuple #[.bool (addB L m), .int .i64 (addErr L m)]) (H.set q (.map (heldE (addL L m))))) := by
 have key := vcWO mskOk mixed 40 (H := H) (D := q) (o0 := .map (heldE L)) (o1 := .map (heldE (addL L m))) (css := [[.map (some 0)]]) (v := .tuple #[.bool (addB L m), .int .i64 (addErr L m)]) (new := [])
  (by rw [glob0]; exact Eq.mpr (Eadd L m) (hv2 L m)) (held_pl _) (held_pl _) rfl rfl rfl rfl hq [i] rfl (fun k cs h => by
   rw [glob0]
   match k with
   | 0 => cases h; exact ⟨i, o, z, rfl, hi⟩) (fun h => by
   rw [List.mem_singleton] at h
   subst h
   rw [hi] at hq; cases hq)
 rw [glob0] at key
 simp only [List.map_nil, List.append_nil] at key
 exact key
end
end Go.Proofs.YtbgfjemppjhmjaaGreat
/- What is to be shown of functions. Printed by a program. No condition. -/
namespace Go.Proofs.YtbgfjemppjhmjaaGreat
set_option linter.unusedSimpArgs false
open Go Go.K
set_option maxRecDepth 100000
set_option maxHeartbeats 4000000
set_option linter.unusedVariables false
noncomputable section
def Rsorted (L : List Msg) : Prop :=
 (true = true /\ (SeenI L ([] : List Nat)) /\ (true = true /\ ((.func (.yield 4) #[] #[] : Value) = .func (.yield 4) #[] #[] /\ (.pointer (some ⟨5,0,none⟩) : Value) = .pointer (some ⟨5,0,none⟩) /\ True) /\ (wkO (.cells true 0 [.slice none 0 0] : KObj) (rno (sg 6 []) 3 (.cells true 0 [.slice (some ⟨6,0,some 1⟩) (List.length (pickM L ([] : List Nat))) (List.length (pickM L ([] : List Nat)))] : KObj)) /\ (some (.iter 1 (List.length (heldE L)) [] : KObj) = some (.iter 1 (List.length (heldE L)) ([] : List Nat) : KObj) /\ belowO 6 (.iter 1 (List.length (heldE L)) ([] : List Nat) : KObj) = true) /\ True) /\ (True /\ True) /\ ((lrecOk prog 251 0 /\ (.func (.func 217) #[] #[.pointer (some ⟨2,0,none⟩)] : Value) = .func (.func 217) #[] #[.pointer (some ⟨2,0,none⟩)] /\ (.slice none 0 0 : Value) = .slice none 0 0 /\ (.pointer (some ⟨3,0,none⟩) : Value) = .pointer (some ⟨3,0,none⟩) /\ (.slice none 0 0 : Value) = .slice none 0 0 /\ (.func (.func 217) #[] #[.pointer (some ⟨2,0,none⟩)] : Value) = .func (.func 217) #[] #[.pointer (some ⟨2,0,none⟩)] /\ True) /\ True)) /\ (∀ x0 : List Nat,true = true) /\ ∀ x0 : List Nat,(SeenI L x0) -> ((List.length (heldE L) = (List.length (heldE L))) /\ (∀ x1 : Nat,x1 < (List.length (heldE L)) -> x1 ∉ x0 -> ((List.length (heldE L) = (List.length (heldE L))) /\ (entryE (heldE L) (x0 ++ [x1]) = some (.tuple #[.agg #[.int .i64 (List.getD L x1 zeroM).au,.int .i64 (List.getD L x1 zeroM).nu,.int .i64 (List.getD L x1 zeroM).at_,.int .i64 (List.getD L x1 zeroM).ki,.int .i64 (List.getD L x1 zeroM).sh,.int .i64 (List.getD L x1 zeroM).ce,.int .i64 (List.getD L x1 zeroM).va],.bool true])) /\ ((((List.length (pickM L x0)) + 1) * 56 <= 2 ^ 44 /\ 1 ≠ 0 /\ ((List.length (pickM L x0)) <= (List.length (pickM L x0)) /\ 0 + (List.length (pickM L x0)) * 7 <= List.length (List.flatMap msgC (pickM L x0))) /\ (1 <= 1 /\ 0 + 1 * 7 <= List.length ([.int .i64 (List.getD L x1 zeroM).au,.int .i64 (List.getD L x1 zeroM).nu,.int .i64 (List.getD L x1 zeroM).at_,.int .i64 (List.getD L x1 zeroM).ki,.int .i64 (List.getD L x1 zeroM).sh,.int .i64 (List.getD L x1 zeroM).ce,.int .i64 (List.getD L x1 zeroM).va] : List Value)) /\ ((List.take (1 * 7) (List.drop 0 ([.int .i64 (List.getD L x1 zeroM).au,.int .i64 (List.getD L x1 zeroM).nu,.int .i64 (List.getD L x1 zeroM).at_,.int .i64 (List.getD L x1 zeroM).ki,.int .i64 (List.getD L x1 zeroM).sh,.int .i64 (List.getD L x1 zeroM).ce,.int .i64 (List.getD L x1 zeroM).va] : List Value))) : List Value).all (fun v => one1 v) = true) /\ true = true /\ (∃ x0' : List Nat,(SeenI L x0') /\ (List.length L - List.length x0') < (List.length L - List.length x0) /\ true = true /\ ((.func (.yield 4) #[] #[] : Value) = .func (.yield 4) #[] #[] /\ (.pointer (some ⟨5,0,none⟩) : Value) = .pointer (some ⟨5,0,none⟩) /\ True) /\ (wkO (.cells true 0 [.slice (some ⟨10,0,none⟩) ((List.length (pickM L x0)) + 1) ((List.length (pickM L x0)) + 1)] : KObj) (rno (sg 6 [(6,10)]) 3 (.cells true 0 [.slice (some ⟨6,0,some 1⟩) (List.length (pickM L x0')) (List.length (pickM L x0'))] : KObj)) /\ (some (.iter 1 (List.length (heldE L)) (x0 ++ [x1]) : KObj) = some (.iter 1 (List.length (heldE L)) x0' : KObj) /\ belowO 6 (.iter 1 (List.length (heldE L)) x0' : KObj) = true) /\ True) /\ ((some (.cells true 7 ((List.take ((List.length (pickM L x0)) * 7) (List.drop 0 (List.flatMap msgC (pickM L x0)))) ++ (List.take (1 * 7) (List.drop 0 ([.int .i64 (List.getD L x1 zeroM).au,.int .i64 (List.getD L x1 zeroM).nu,.int .i64 (List.getD L x1 zeroM).at_,.int .i64 (List.getD L x1 zeroM).ki,.int .i64 (List.getD L x1 zeroM).sh,.int .i64 (List.getD L x1 zeroM).ce,.int .i64 (List.getD L x1 zeroM).va] : List Value)))) : KObj) = some (.cells true 7 (List.flatMap msgC (pickM L x0')) : KObj) /\ belowO 6 (.cells true 7 (List.flatMap msgC (pickM L x0')) : KObj) = true) /\ True) /\ ((lrecOk prog 251 0 /\ (.func (.func 217) #[] #[.pointer (some ⟨2,0,none⟩)] : Value) = .func (.func 217) #[] #[.pointer (some ⟨2,0,none⟩)] /\ (.slice none 0 0 : Value) = .slice none 0 0 /\ (.pointer (some ⟨3,0,none⟩) : Value) = .pointer (some ⟨3,0,none⟩) /\ (.slice none 0 0 : Value) = .slice none 0 0 /\ (.func (.func 217) #[] #[.pointer (some ⟨2,0,none⟩)] : Value) = .func (.func 217) #[] #[.pointer (some ⟨2,0,none⟩)] /\ True) /\ True))))) /\ ((∀ x1 : Nat,x1 < (List.length (heldE L)) -> x1 ∈ x0) -> (((some (.cells true 7 (List.flatMap msgC (pickM L x0)) : KObj) = some (.cells true 7 (List.flatMap msgC (pickM L x0)) : KObj)) /\ True) /\ (∀ H' : Heap,H'.length = 7 -> (H'[6]? = some (.cells true 7 (List.flatMap msgC (pickM L x0)) : KObj) /\ True) -> KCall prog 216 [.slice (some ⟨6,0,some 1⟩) (List.length (pickM L x0)) (List.length (pickM L x0)),.func (.func 160) #[] #[]] H' [6] (Is (.tuple #[]) (List.set H' 6 (.cells true 7 (List.flatMap msgC (srtM (pickM L x0))) : KObj)))) /\ (true = true /\ wk (.slice (some ⟨6,0,some 1⟩) (List.length (pickM L x0)) (List.length (pickM L x0)) : Value) (rn (sg 2 [(2,6)]) 3 (.slice (some ⟨2,0,some 1⟩) (List.length (srtM L)) (List.length (srtM L)) : Value)) /\ ((some (.cells true 7 (List.flatMap msgC (srtM (pickM L x0))) : KObj) = some (.cells true 7 (List.flatMap msgC (srtM L)) : KObj) /\ belowO 2 (.cells true 7 (List.flatMap msgC (srtM L)) : KObj) = true) /\ True))))))
theorem Esorted (L : List Msg) : vF prog msk (dm 0) 100000 true 40 true 95 [.pointer (some ⟨0,0,none⟩)] (readsK [.cells true 0 [.map (some 1)],.map (heldE L)]) (some [])
 (.go 19 (.into (some [3]) (.go 1 (.inv 3 (List Nat) (([] : List Nat)) [] [3,5,4] (fun x0 => [(0,.func (.yield 4) #[] #[]),(5,.pointer (some ⟨5,0,none⟩))]) (fun x0 => [(3,false,.cells true 0 [.slice (some ⟨6,0,some 1⟩) (List.length (pickM L x0)) (List.length (pickM L x0))]),(5,true,.iter 1 (List.length (heldE L)) x0)]) (fun x0 => [(true,.cells true 7 (List.flatMap msgC (pickM L x0)))]) (fun x0 => [(4,[(6,.func (.func 217) #[] #[.pointer (some ⟨2,0,none⟩)]),(4,.slice none 0 0),(2,.pointer (some ⟨3,0,none⟩)),(0,.slice none 0 0),(1,.func (.func 217) #[] #[.pointer (some ⟨2,0,none⟩)])])]) (fun x0 => (SeenI L x0)) (fun x0 => (List.length L - List.length x0)) (fun x0 => .nxt (fun x1 => .go 1 (.val (.tuple #[.agg #[.int .i64 (List.getD L x1 zeroM).au,.int .i64 (List.getD L x1 zeroM).nu,.int .i64 (List.getD L x1 zeroM).at_,.int .i64 (List.getD L x1 zeroM).ki,.int .i64 (List.getD L x1 zeroM).sh,.int .i64 (List.getD L x1 zeroM).ce,.int .i64 (List.getD L x1 zeroM).va],.bool true]) (.go 4 (.into (some [3,5,4,6,7]) (.go 4 (.need (.go 2 (.again [(6,10)])))))))) (.go 7 (.answ [(6,.cells true 7 (List.flatMap msgC (pickM L x0)))] (.tuple #[]) [(6,.cells true 7 (List.flatMap msgC (srtM (pickM L x0))))] [] (.go 2 (.again [(2,6)])))))))))
 (newK ((readsK [.cells true 0 [.map (some 1)],.map (heldE L)]) : HT).n 3 (.slice (some ⟨2,0,some 1⟩) (List.length (srtM L)) (List.length (srtM L))) [(true,.cells true 7 (List.flatMap msgC (srtM L)))]) = Rsorted L:=by kernel_rfl
end
end Go.Proofs.YtbgfjemppjhmjaaGreat
/- What is to be shown of functions. Printed by a program. No condition. -/
namespace Go.Proofs.YtbgfjemppjhmjaaGreat
set_option linter.unusedSimpArgs false
open Go Go.K
set_option maxRecDepth 100000
set_option maxHeartbeats 4000000
set_option linter.unusedVariables false
noncomputable section
def Rorder (sp : Value) (a b : Msg) : Prop :=
 ((.int .i64 (IntKind.wrap .i64 (a.au - b.au)) : Value) = .int .i64 (a.au - b.au) /\ ((.int .i64 (IntKind.wrap .i64 (a.nu - b.nu)) : Value) = .int .i64 (a.nu - b.nu) /\ ((.int .i64 (IntKind.wrap .i64 (a.at_ - b.at_)) : Value) = .int .i64 (a.at_ - b.at_) /\ ((.int .i64 (IntKind.wrap .i64 (a.ki - b.ki)) : Value) = .int .i64 (a.ki - b.ki) /\ ((.int .i64 (IntKind.wrap .i64 (a.sh - b.sh)) : Value) = .int .i64 (a.sh - b.sh) /\ ((.int .i64 (IntKind.wrap .i64 (a.ce - b.ce)) : Value) = .int .i64 (a.ce - b.ce) /\ ((.int .i64 (IntKind.wrap .i64 (a.va - b.va)) : Value) = .int .i64 (a.va - b.va) /\ (((((a.au - b.au) : Int) != 0) = true -> (.int .i64 (a.au - b.au) : Value) = sp) /\ ((((a.au - b.au) : Int) != 0) = false -> (((((a.nu - b.nu) : Int) != 0) = true -> (.int .i64 (a.nu - b.nu) : Value) = sp) /\ ((((a.nu - b.nu) : Int) != 0) = false -> (((((a.at_ - b.at_) : Int) != 0) = true -> (.int .i64 (a.at_ - b.at_) : Value) = sp) /\ ((((a.at_ - b.at_) : Int) != 0) = false -> (((((a.ki - b.ki) : Int) != 0) = true -> (.int .i64 (a.ki - b.ki) : Value) = sp) /\ ((((a.ki - b.ki) : Int) != 0) = false -> (((((a.sh - b.sh) : Int) != 0) = true -> (.int .i64 (a.sh - b.sh) : Value) = sp) /\ ((((a.sh - b.sh) : Int) != 0) = false -> (((((a.ce - b.ce) : Int) != 0) = true -> (.int .i64 (a.ce - b.ce) : Value) = sp) /\ ((((a.ce - b.ce) : Int) != 0) = false -> (((((a.va - b.va) : Int) != 0) = true -> (.int .i64 (a.va - b.va) : Value) = sp) /\ ((((a.va - b.va) : Int) != 0) = false -> (.int .i64 0 : Value) = sp)))))))))))))))))))))
theorem Eorder (sp : Value) (a b : Msg) : vF prog msk (dm 0) 100000 true 40 true 160 [.agg #[.int .i64 a.au,.int .i64 a.nu,.int .i64 a.at_,.int .i64 a.ki,.int .i64 a.sh,.int .i64 a.ce,.int .i64 a.va],.agg #[.int .i64 b.au,.int .i64 b.nu,.int .i64 b.at_,.int .i64 b.ki,.int .i64 b.sh,.int .i64 b.ce,.int .i64 b.va]] ⟨0,.leaf⟩ (some [])
 (.go 7 (.slot 9 (.int .i64 (a.au - b.au)) (.go 4 (.slot 14 (.int .i64 (a.nu - b.nu)) (.go 4 (.slot 19 (.int .i64 (a.at_ - b.at_)) (.go 4 (.slot 24 (.int .i64 (a.ki - b.ki)) (.go 4 (.slot 29 (.int .i64 (a.sh - b.sh)) (.go 4 (.slot 34 (.int .i64 (a.ce - b.ce)) (.go 4 (.slot 39 (.int .i64 (a.va - b.va)) (.go 14 (.fork (.auto) (.go 9 (.fork (.auto) (.go 9 (.fork (.auto) (.go 9 (.fork (.auto) (.go 9 (.fork (.auto) (.go 9 (.fork (.auto) (.go 9 (.fork (.auto) (.auto)))))))))))))))))))))))))))))
 (fun v _ _ => v = sp) = Rorder sp a b:=by kernel_rfl
def Rsort0 (sp : Value)  : Prop :=
 (.tuple #[] : Value) = sp
theorem Esort0 (sp : Value)  : vF prog msk (dm 0) 100000 true 40 true 216 [.slice (some ⟨0,0,some 1⟩) 0 0,.func (.func 160) #[] #[]] ⟨0,.leaf⟩ (some [])
 (.auto)
 (fun v _ _ => v = sp) = Rsort0 sp :=by kernel_rfl
end
end Go.Proofs.YtbgfjemppjhmjaaGreat
/- The library's sorts of structs, laid at this program (written by the kit's own tool). No condition. -/
namespace Go.Proofs.YtbgfjemppjhmjaaGreat
set_option linter.unusedSimpArgs false
set_option linter.unusedVariables false
open Go Go.Shelf
def sortM_ren : Go.Shelf.Ren := ⟨fun | 6 => 216 | 15 => 154 | 14 => 252 | 28 => 213 | 29 => 214 | 20 => 227 | 21 => 271 | 22 => 272 | 23 => 273 | 24 => 274 | 25 => 275 | 26 => 276 | 27 => 277 | 46 => 282 | 47 => 247 | 48 => 248 | 49 => 283 | 50 => 284 | 57 => 286 | n => n, fun | 22 => 56 | 24 => 64 | 25 => 195 | 3 => 3 | 39 => 258 | 0 => 0 | 53 => 302 | 55 => 304 | 4 => 4 | 46 => 295 | 45 => 294 | 50 => 299 | 5 => 5 | 9 => 9 | 66 => 323 | 70 => 138 | 76 => 339 | 77 => 340 | n => n, fun | n => n⟩
theorem sortM : Go.Proofs.SlLaysF0.n6 Tryz.prog sortM_ren := {
 mixed := by kernel_rfl
 f6 := ⟨Tryz.f216.name, by decide, Tryz.func216.trans (congrArg some (by kernel_rfl))⟩
 f14 := ⟨Tryz.f252.name, by decide, Tryz.func252.trans (congrArg some (by kernel_rfl))⟩
 f15 := Tryz.func154.trans (congrArg some (by kernel_rfl))
 f20 := ⟨Tryz.f227.name, by decide, Tryz.func227.trans (congrArg some (by kernel_rfl))⟩
 f21 := ⟨Tryz.f271.name, by decide, Tryz.func271.trans (congrArg some (by kernel_rfl))⟩
 f22 := ⟨Tryz.f272.name, by decide, Tryz.func272.trans (congrArg some (by kernel_rfl))⟩
 f23 := ⟨Tryz.f273.name, by decide, Tryz.func273.trans (congrArg some (by kernel_rfl))⟩
 f24 := ⟨Tryz.f274.name, by decide, Tryz.func274.trans (congrArg some (by kernel_rfl))⟩
 f25 := ⟨Tryz.f275.name, by decide, Tryz.func275.trans (congrArg some (by kernel_rfl))⟩
 f26 := ⟨Tryz.f276.name, by decide, Tryz.func276.trans (congrArg some (by kernel_rfl))⟩
 f27 := ⟨Tryz.f277.name, by decide, Tryz.func277.trans (congrArg some (by kernel_rfl))⟩
 f28 := Tryz.func213.trans (congrArg some (by kernel_rfl))
 f29 := Tryz.func214.trans (congrArg some (by kernel_rfl))
 f46 := ⟨Tryz.f282.name, by decide, Tryz.func282.trans (congrArg some (by kernel_rfl))⟩
 f47 := Tryz.func247.trans (congrArg some (by kernel_rfl))
 f48 := Tryz.func248.trans (congrArg some (by kernel_rfl))
 f49 := ⟨Tryz.f283.name, by decide, Tryz.func283.trans (congrArg some (by kernel_rfl))⟩
 f50 := ⟨Tryz.f284.name, by decide, Tryz.func284.trans (congrArg some (by kernel_rfl))⟩
 f57 := ⟨Tryz.f286.name, by decide, Tryz.func286.trans (congrArg some (by kernel_rfl))⟩
 t0 := Tryz.underlying0
 a0 := Tryz.isAgg0
 z0 := Tryz.sizeOf0
 v0 := Tryz.zeroValue0
 t3 := Tryz.underlying3
 a3 := Tryz.isAgg3
 z3 := Tryz.sizeOf3
 v3 := Tryz.zeroValue3
 t4 := Tryz.underlying4
 a4 := Tryz.isAgg4
 z4 := Tryz.sizeOf4
 v4 := Tryz.zeroValue4
 t5 := Tryz.underlying5
 a5 := Tryz.isAgg5
 z5 := Tryz.sizeOf5
 v5 := Tryz.zeroValue5
 t9 := Tryz.underlying9
 a9 := Tryz.isAgg9
 z9 := Tryz.sizeOf9
 v9 := Tryz.zeroValue9
 t22 := Tryz.underlying56
 a22 := Tryz.isAgg56
 z22 := Tryz.sizeOf56
 v22 := Tryz.zeroValue56
 t25 := Tryz.underlying195
 a25 := Tryz.isAgg195
 z25 := Tryz.sizeOf195
 v25 := Tryz.zeroValue195
 t39 := Tryz.underlying258
 a39 := Tryz.isAgg258
 z39 := Tryz.sizeOf258
 v39 := Tryz.zeroValue258
 t45 := Tryz.underlying294
 a45 := Tryz.isAgg294
 z45 := Tryz.sizeOf294
 v45 := Tryz.zeroValue294
 t46 := Tryz.underlying295
 a46 := Tryz.isAgg295
 z46 := Tryz.sizeOf295
 v46 := Tryz.zeroValue295
 t50 := Tryz.underlying299
 a50 := Tryz.isAgg299
 z50 := Tryz.sizeOf299
 v50 := Tryz.zeroValue299
 t53 := Tryz.underlying302
 a53 := Tryz.isAgg302
 z53 := Tryz.sizeOf302
 v53 := Tryz.zeroValue302
 t55 := Tryz.underlying304
 a55 := Tryz.isAgg304
 z55 := Tryz.sizeOf304
 v55 := Tryz.zeroValue304
 t66 := Tryz.underlying323
 a66 := Tryz.isAgg323
 z66 := Tryz.sizeOf323
 v66 := Tryz.zeroValue323
 t70 := Tryz.underlying138
 a70 := Tryz.isAgg138
 z70 := Tryz.sizeOf138
 v70 := Tryz.zeroValue138
 t76 := Tryz.underlying339
 a76 := Tryz.isAgg339
 z76 := Tryz.sizeOf339
 v76 := Tryz.zeroValue339
 t77 := Tryz.underlying340
 a77 := Tryz.isAgg340
 z77 := Tryz.sizeOf340
 v77 := Tryz.zeroValue340 }
end Go.Proofs.YtbgfjemppjhmjaaGreat
/- The library's sort, by its contract, over canonical memory. No condition. -/
namespace Go.K
set_option linter.unusedSimpArgs false
open Go
set_option linter.unusedVariables false
variable {P : Program}
theorem Rel.world {B : Nat} {ρ : Ren} {H : Heap} {w W : World} (hr : Rel P B ρ H w) (b0 : Nat) (hsz : w.heap.size <= W.heap.size) (hsame : ∀ b, b < w.heap.size -> b ≠ b0 -> W.heap[b]? = w.heap[b]?)
  (hfree : ∀ id r o, ρ id = some r -> H[id]? = some o -> o.alive = true -> r.b ≠ b0) (hmem : ∀ m, ρ.mem b0 = some m -> False) (hfb : ¬ FB ρ H b0) : Rel P B ρ H W := by
 refine ⟨Nat.le_trans hr.bsize hsz, hr.glob, hr.dom, fun id r h => Nat.lt_of_lt_of_le (hr.lt id r h) hsz, fun id r o h1 h2 => ?_, hr.base, hr.sep, fun b m hb => ⟨?_, (hr.mem b m hb).2⟩,
  hr.fam.keep (Ren.le_refl _) (fun _ _ _ h => h) (fun _ _ _ _ h => h) (Nat.le_refl _) hsz (fun b hb => by
   rcases Nat.lt_or_ge b w.heap.size with hl | hl
   ·exact hsame b hl (fun e => hfb (e ▸ hb))
   ·exact absurd hb (hr.fam.freeL hl)) (fun id r o a b c => hr.fam.free a b c) (fun b m h => hr.fam.freeM h)⟩
 ·by_cases hal : o.alive = true
  ·exact (hr.obj id r o h1 h2).mono (Ren.le_refl _) (hsame _ (hr.lt id r h1) (hfree id r o h1 h2 hal))
  ·cases o <;> first | trivial | exact absurd rfl hal
 ·obtain ⟨ty, fz, e⟩ := (hr.mem b m hb).1
  have hne : b ≠ b0 := by rintro rfl; exact hmem m hb
  exact ⟨ty, fz, (hsame b (Array.getElem?_eq_some_iff.1 e).1 hne).trans e⟩
theorem Post.grown {B base : Nat} {M : List Nat} {ρ ρ' : Ren} {H H' : Heap} {w w1 w2 : World} (p : Post P B base M ρ H w ρ' H' w1) (hsz : w1.heap.size <= w2.heap.size) (hsame : ∀ b, b < w1.heap.size -> w2.heap[b]? = w1.heap[b]?)
  (hos : w2.os = w1.os) (ht : w2.tape = w1.tape) (ho : w2.output = w1.output) (hd : w1.drawn <= w2.drawn) : Post P B base M ρ H w ρ' H' w2 := by
 have hlt : ∀ id r o, ρ' id = some r -> H'[id]? = some o -> o.alive = true -> r.b ≠ w1.heap.size := fun id r o h1 _ _ => by have := p.rel.lt id r h1; omega
 have hm : ∀ m, ρ'.mem w1.heap.size = some m -> False := fun m h => by
  obtain ⟨ty, fz, e⟩ := (p.rel.mem _ m h).1
  have := (Array.getElem?_eq_some_iff.1 e).1; omega
 exact ⟨p.rel.world w1.heap.size hsz (fun b h _ => hsame b h) hlt hm (p.rel.fam.freeL (Nat.le_refl _)), p.ext, p.new, p.len, p.same, Nat.le_trans p.size hsz, fun b h1 h2 => (hsame b (Nat.lt_of_lt_of_le h1 p.size)).trans (p.keep b h1 h2), p.ob, hos.trans p.os, ht.trans p.tape, ho.trans p.output, p.frz, Nat.le_trans p.drawn hd, p.newg⟩
theorem world_eq {w w' : World} (hos : w'.os = w.os) (ht : w'.tape = w.tape) (ho : w'.output = w.output) (hd : w.drawn <= w'.drawn) (hsz : w.heap.size <= w'.heap.size) (hsame : ∀ b, b < w.heap.size -> w'.heap[b]? = w.heap[b]?) :
  ∃ q os', w' = Sort.grow (w.drewN q) os' := by
 refine ⟨w'.drawn - w.drawn, w'.heap.extract w.heap.size w'.heap.size, ?_⟩
 obtain ⟨h, t, d, o, u⟩ := w
 obtain ⟨h', t', d', o', u'⟩ := w'
 simp only at hos ht ho hd hsz hsame
 subst hos ht ho
 unfold Sort.grow World.drewN
 simp only [World.mk.injEq, true_and, and_true]
 refine ⟨?_, by omega⟩
 apply Array.ext_getElem?
 intro i
 rw [Array.getElem?_append]
 split
 ·rename_i hi; exact hsame i hi
 ·rename_i hi
  rw [Array.getElem?_extract]
  simp only [Nat.min_self]
  split
  ·congr 1; omega
  ·rw [Array.getElem?_eq_none (by omega)]
theorem KCall.everywhere {g : FuncId} {args : List Value} {n : Nat} {v : Value} (h : KCall P g args (List.replicate n .dead) [] (Is v (List.replicate n .dead))) {B : Nat} {ρ : Ren} {H : Heap} {W : World} (hr : Rel P B ρ H W) (hn : H.length <= n) {args' : Array Value} (ha : VRl ρ args args'.toList) :
  Calls P g args' W fun e w' => (∃ v', e = .returned v' /\ ∃ ρ', VR ρ' v v') /\ ∃ q os', w' = Sort.grow (W.drewN q) os' := by
 have hdead : ∀ (id : Nat) (o : KObj), (List.replicate n KObj.dead)[id]? = some o -> o = .dead := fun id o ho => by
  rw [List.getElem?_replicate] at ho
  split at ho
  ·cases ho; rfl
  ·cases ho
 have hrg : Rel P B ρ (List.replicate n .dead) W := by
  refine ⟨hr.bsize, hr.glob, fun id r h1 => ?_, hr.lt, fun id r o h1 h2 => ?_, fun id r o h1 h2 h3 => ?_, fun id id' r r' o o' h1 h1' h2 h2' h3 _ _ => ?_, fun b m hm => ⟨(hr.mem b m hm).1, fun id r o h1 h2 h3 => ?_⟩, FRel.nofam (fun F k r h => by rw [List.length_replicate]; exact Nat.lt_of_lt_of_le (hr.fam.dom F k r h) hn) hr.fam.lt (fun F z cs h => by cases hdead F _ h)⟩
  ·rw [List.length_replicate]; exact Nat.lt_of_lt_of_le (hr.dom id r h1) hn
  ·rw [hdead id o h2]; trivial
  ·rw [hdead id o h2] at h3; cases h3
  ·rw [hdead id o h2] at h3; cases h3
  ·rw [hdead id o h2] at h3; cases h3
 have hob : ∀ b, ¬ OB ρ (List.replicate n .dead) b := by
  rintro b (⟨id, r, o, h1, h2, h3, _⟩ | ⟨F, k, r, z, cs, m, _⟩)
  ·rw [hdead id o h2] at h3; cases h3
  ·cases hdead F _ m.h
 refine callsIn_wide.1 ((h.2 B ρ W args' hrg ha).mono ?_)
 rintro e w' ⟨v1, v', ρ', H', rfl, hv', hp, rfl, rfl⟩
 exact ⟨⟨v', rfl, ρ', hv'⟩, world_eq hp.os hp.tape hp.output hp.drawn hp.size (fun b hb => hp.keep b hb (hob b))⟩
end Go.K
/- The library's sort, by the kit's contract, over canonical memory. No condition. -/
namespace Go.K
set_option linter.unusedSimpArgs false
open Go Go.Proofs Go.RowKit Go.Lib Go.Sort
set_option linter.unusedVariables false
variable {P : Program}
end Go.K
/- The library's sort of structs, by the kit's contract, over canonical memory. No condition. -/
namespace Go.K
set_option linter.unusedSimpArgs false
open Go Go.Proofs Go.RowKit Go.Lib Go.Sort
set_option linter.unusedVariables false
variable {P : Program}
theorem flatN_get {β : Type} (dv : β -> List Value) (k : Nat) (hk : ∀ x, (dv x).length = k) (k0 : 0 < k) : ∀ (L : List β) (t : Nat), (L.flatMap dv)[t]? = (L[t / k]?).bind fun x => (dv x)[t % k]?
 | [], t => by simp
 | x :: L, t => by
  rw [List.flatMap_cons]
  by_cases h : t < k
  ·rw [List.getElem?_append_left (by rw [hk]; exact h), Nat.div_eq_of_lt h, Nat.mod_eq_of_lt h]; rfl
  ·rw [List.getElem?_append_right (by rw [hk]; omega), hk, flatN_get dv k hk k0 L (t - k)]
   have e1 : t / k = (t - k) / k + 1 := by rw [Nat.div_eq_sub_div k0 (by omega)]
   have e2 : (t - k) % k = t % k := (Nat.mod_eq_sub_mod (by omega)).symm
   rw [e1, e2]; rfl
theorem flatN_len {β : Type} (dv : β -> List Value) (k : Nat) (hk : ∀ x, (dv x).length = k) : ∀ (L : List β), (L.flatMap dv).length = L.length * k
 | [] => by simp
 | x :: L => by rw [List.flatMap_cons, List.length_append, hk, flatN_len dv k hk L, List.length_cons, Nat.succ_mul, Nat.add_comm]
theorem kSortFuncN {R : Go.Shelf.Ren} (L : SlLaysF0.n6 P R) (k : Nat) (k0 : 0 < k) (aE : ∀ w, (isAgg (R.t 24)).run P w = .ok true w) (zE : ∀ w, (Go.sizeOf (R.t 24)).run P w = .ok k w)
  {β : Type} (dv : β -> List Value) (hk : ∀ x, (dv x).length = k) (cf : β -> β -> Int) (hO : SWO (ltOf cf)) (g : Nat)
  (hone : ∀ (ρ : K.Ren) (x : β) (v v' : Value), v ∈ dv x -> VR ρ v v' -> v'.oneCell' = true) (eg : ∀ args w, (callFunc g args).run P w = .ok (.enter g args) w) (ef : Enters P (R.f 6))
  (hcmp : ∀ x y n, KCall P g [.agg (dv x).toArray, .agg (dv y).toArray] (List.replicate n .dead) [] (Is (.int .i64 (cf x y)) (List.replicate n .dead)))
  {H : Heap} {id : Nat} {tag : Option Nat} (htag : tag = none ∨ tag = some 1) {L0 : List β} (h0 : 0 < L0.length) (hlen : L0.length < 4611686018427387904) (ho : H[id]? = some (.cells true k (L0.flatMap dv)))
  {Q : Value -> Heap -> Prop} (hQ : ∀ L1 : List β, L1.Perm L0 -> L1.Pairwise (fun x y => ltOf cf y x = false) -> Q (.tuple #[]) (H.set id (.cells true k (L1.flatMap dv)))) :
  KCall P (R.f 6) [.slice (some ⟨id, 0, tag⟩) L0.length L0.length, .func (.func g) #[] #[]] H [id] Q := by
 refine ⟨ef, fun B ρ w args' hr ha => ?_⟩
 obtain ⟨x', f', rfl⟩ : ∃ x' f', args' = #[x', f'] := by
  have hl := ha.1
  obtain ⟨l⟩ := args'
  match l, hl with
  | [a, b], _ => exact ⟨a, b, rfl⟩
 have hx := ha.2 0 _ _ rfl rfl
 have hf := ha.2 1 _ _ rfl rfl
 obtain rfl : f' = .func (.func g) #[] #[] := by
  cases hf with
  | func h1 h2 h3 h4 =>
   obtain rfl := Array.eq_empty_of_size_eq_zero (by simpa using h1.symm)
   obtain rfl := Array.eq_empty_of_size_eq_zero (by simpa using h3.symm)
   rfl
 obtain ⟨r, cap', hid, hcap, rfl⟩ : ∃ r cap', ρ id = some r /\ L0.length <= cap' /\ x' = .slice (some ⟨r.b, 0 + r.s, none⟩) L0.length cap' := by
  generalize L0.length = n at hx h0
  rcases htag with rfl | rfl
  ·cases hx with
   | slice h hl hc _ => exact ⟨_, _, h, Nat.le_trans hl hc, rfl⟩
   | slice0 h => exact absurd h0 (Nat.lt_irrefl 0)
  ·cases hx with
   | sliceQn => exact absurd h0 (Nat.lt_irrefl 0)
   | sliceQe => exact absurd h0 (Nat.lt_irrefl 0)
   | sliceQ h hp hl hc _ => exact ⟨_, _, h, Nat.le_trans hl hc, rfl⟩
 rw [Nat.zero_add]
 have hobj := hr.obj id r _ hid ho
 obtain ⟨ow, zz, cs', ty, fz, hb, hsz, hfz, hcs⟩ := hobj
 obtain rfl := hfz rfl
 let α := {p : β × List Value // VRl ρ (dv p.1) p.2}
 have hcell : ∀ (i : Nat) (hi : i < L0.length) (c : Nat) (hc : c < k), ∃ v', cs'[(i * k + c) + r.s]? = some v' /\ VR ρ ((dv L0[i])[c]'(by rw [hk]; exact hc)) v' := fun i hi c hc => by
  refine hcs (i * k + c) _ ?_
  have hm : (i * k + c) % k = c := by rw [Nat.mul_comm, Nat.mul_add_mod]; exact Nat.mod_eq_of_lt hc
  have hd : (i * k + c) / k = i := by rw [Nat.mul_comm, Nat.mul_add_div k0, Nat.div_eq_of_lt hc, Nat.add_zero]
  rw [flatN_get dv k hk k0, hd, hm, List.getElem?_eq_getElem hi]
  exact List.getElem?_eq_getElem _
 have hel : ∀ i : _root_.Fin L0.length, ∃ vs : List Value, (∀ c, c < k -> cs'[(i.1 * k + c) + r.s]? = vs[c]?) /\ VRl ρ (dv L0[i.1]) vs := fun i => by
  refine ⟨(List.range k).map fun c => (cs'[(i.1 * k + c) + r.s]?).getD undef, fun c hc => ?_, by simp [hk], fun c v v' a b => ?_⟩
  ·obtain ⟨v', e, _⟩ := hcell i.1 i.2 c hc
   rw [List.getElem?_map, List.getElem?_range hc]
   show _ = some ((cs'[(i.1 * k + c) + r.s]?).getD undef)
   rw [e]; rfl
  ·have hc : c < k := by have := (List.getElem?_eq_some_iff.1 a).1; rw [hk] at this; exact this
   obtain ⟨v2, e, hv⟩ := hcell i.1 i.2 c hc
   rw [List.getElem?_map, List.getElem?_range hc] at b
   have b : some ((cs'[(i.1 * k + c) + r.s]?).getD undef) = some v' := b
   rw [e] at b
   rw [List.getElem?_eq_getElem (by rw [hk]; exact hc)] at a
   cases a; cases b; exact hv
 let el : _root_.Fin L0.length -> α := fun i => ⟨(L0[i.1], Classical.choose (hel i)), (Classical.choose_spec (hel i)).2⟩
 have hel2 : ∀ i c, c < k -> cs'[(i.1 * k + c) + r.s]? = (el i).1.2[c]? := fun i => (Classical.choose_spec (hel i)).1
 let d : Array α := Array.ofFn el
 haveI : Inhabited α := ⟨el ⟨0, h0⟩⟩
 let enc : α -> List Value := fun p => p.1.2
 have hke : ∀ x : α, (enc x).length = k := fun x => by rw [<- hk x.1.1]; exact x.2.1.symm
 let cf2 : α -> α -> Int := fun x y => cf x.1.1 y.1.1
 have hds : d.size = L0.length := Array.size_ofFn
 have hO2 : SWO (ltOf cf2) := ⟨fun x => hO.irrefl x.1.1, fun x y z => hO.trans x.1.1 y.1.1 z.1.1, fun x y z => hO.ntrans x.1.1 y.1.1 z.1.1⟩
 have hdi : ∀ j (hj : j < d.size), d[j]! = el ⟨j, by omega⟩ := fun j hj => by
  rw [getElem!_pos d j hj]; exact Array.getElem_ofFn hj
 have hdm : ∀ t, t < d.size * k -> t / k < d.size := fun t ht => Nat.div_lt_of_lt_mul (by rwa [Nat.mul_comm] at ht)
 have hsplit : ∀ t, (t / k) * k + t % k = t := fun t => by rw [Nat.mul_comm]; exact Nat.div_add_mod t k
 have hH : HoldsK enc k w r.b r.s d := fun t ht => by
  have ht' : t < d.size * k := by simpa using ht
  have hj := hdm t ht'
  have hc : t % k < k := Nat.mod_lt _ k0
  have e := hel2 ⟨t / k, by omega⟩ (t % k) hc
  rw [hsplit] at e
  refine ⟨?_, by simp [World.frozen?, hb]⟩
  rw [get_flatK _ _ _ t ht', hdi _ hj]
  simp only [World.cell?, hb, Option.isSome_none, Bool.false_eq_true, if_false]
  rw [Nat.add_comm, e]
  have hl : t % k < (el ⟨t / k, by omega⟩).1.2.length := by rw [hke (el ⟨t / k, by omega⟩)]; exact hc
  rw [List.getElem?_eq_getElem hl]
  exact (congrArg some (getElem!_pos (el ⟨t / k, by omega⟩).1.2 (t % k) hl)).symm
 have hblk := hr.lt id r hid
 have h1 : ∀ x : α, ∀ v ∈ enc x, v.oneCell' = true := fun x v hv => by
  obtain ⟨c, hc, rfl⟩ := List.getElem_of_mem hv
  have hc' : c < (dv x.1.1).length := by rw [hk, <- hke x]; exact hc
  exact hone ρ x.1.1 _ _ (List.getElem_mem hc') (x.2.2 c _ _ (List.getElem?_eq_getElem hc') (List.getElem?_eq_getElem hc))
 have hcl : CmpLays P g #[] enc k cf2 r.b r.s d.size w := by
  intro m os dk hdk x y
  have hrd : Rel P B ρ (H.set id .dead) w := (Post.kill (base := 0) (M := []) hr hid ho rfl (fun h => absurd h (Nat.not_lt_zero _))).rel
  have hrW : Rel P B ρ (H.set id .dead) (sortWorldK enc k w r.b r.s m dk os) := by
   refine hrd.world r.b ?_ ?_ ?_ ?_ (fun h => hr.fam.free hid ho rfl (FB.of_set (fun _ _ h => by cases h) h))
   ·simp [sortWorldK, grow, putRowK, putRow, mapBlock, ahead]
   ·intro b hb1 hb2
    simp only [sortWorldK, grow, putRowK, putRow, mapBlock, ahead]
    rw [Array.getElem?_append_left (by simpa using hb1), Array.getElem?_modify, if_neg (Ne.symm hb2)]
    rfl
   ·intro i x o g1 g2 g3
    by_cases e : i = id
    ·subst e; rw [List.getElem?_set_self (List.getElem?_eq_some_iff.1 ho).1] at g2; cases g2; cases g3
    ·rw [List.getElem?_set_ne (Ne.symm e)] at g2
     exact (hr.sep id i r x _ o hid g1 ho g2 rfl g3 (Ne.symm e)).symm
   ·exact fun m h => (hr.mem _ m h).2 id r _ hid ho rfl rfl
  have hagg : ∀ x : α, VR ρ (.agg (dv x.1.1).toArray) (.agg (enc x).toArray) := fun x =>
   .agg (by simpa using x.2.1) fun i v v' a b => x.2.2 i v v' (by simpa using a) (by simpa using b)
  have hval : VRl ρ [.agg (dv x.1.1).toArray, .agg (dv y.1.1).toArray] (#[.agg (enc x).toArray, .agg (enc y).toArray] : Array Value).toList := by
   refine ⟨rfl, fun i a b g1 g2 => ?_⟩
   match i with
   | 0 => cases g1; cases g2; exact hagg x
   | 1 => cases g1; cases g2; exact hagg y
   | i + 2 => cases g1
  refine (KCall.everywhere (hcmp x.1.1 y.1.1 _) hrW (Nat.le_refl _) (args' := #[.agg (enc x).toArray, .agg (enc y).toArray]) hval).mono ?_
  rintro e w' ⟨⟨v', rfl, ρ', hv⟩, q, os', rfl⟩
  cases hv
  exact ⟨rfl, q, os', rfl⟩
 have hcon := AnyQ.slices_SortFunc L k aE zE enc hke h1 cf2 hO2 g #[] r.b r.s cap' d w eg hcl hH hblk (by omega)
 rw [hds] at hcon
 refine callsIn_wide.2 (hcon.mono ?_)
 rintro e w' ⟨rfl, d', n1, os, hperm, hsorted, rfl⟩
 have hsz' : d'.size = L0.length := hperm.1.trans hds
 let c : α -> β := fun p => p.1.1
 have hdc : d.toList.map c = L0 := by
  refine List.ext_getElem? fun i => ?_
  rw [List.getElem?_map, Array.getElem?_toList, Array.getElem?_ofFn]
  split
  ·rename_i hi; rw [List.getElem?_eq_getElem hi]; rfl
  ·rename_i hi; rw [List.getElem?_eq_none (by omega)]; rfl
 let L1 := d'.toList.map c
 have hp1 : L1.Perm L0 := by
  have h := hperm.2.2
  rw [show d'.extract 0 L0.length = d' from by rw [<- hsz']; simp, show d.extract 0 L0.length = d from by rw [<- hds]; simp] at h
  have := h.map c
  rw [hdc] at this
  exact this
 have hs1 : L1.Pairwise (fun x y => ltOf cf y x = false) := by
  refine List.pairwise_iff_getElem.2 fun i j hi hj hij => ?_
  have hi' : i < d'.size := by simpa [L1] using hi
  have hj' : j < d'.size := by simpa [L1] using hj
  have := hsorted i j (Nat.zero_le _) hij (by omega)
  rw [getElem!_pos d' i hi', getElem!_pos d' j hj'] at this
  show ltOf cf (L1[j]) (L1[i]) = false
  have e1 : L1[j] = c d'[j] := by simp [L1]
  have e2 : L1[i] = c d'[i] := by simp [L1]
  rw [e1, e2]; exact this
 have hl1 : L1.length = L0.length := hp1.length_eq
 have hput : ObjRel ρ r (.cells true k (L1.flatMap dv)) (w.putObj r.b (.cells (putCells _root_.id r.s (flatK enc k d') cs') ty (0, 0))) := by
  refine ⟨ow, zz, putCells _root_.id r.s (flatK enc k d') cs', ty, (0, 0), World.putObj_heap_same hblk, by simp [putCells, hsz], fun _ => rfl, fun t v hv => ?_⟩
  have ht : t < L0.length * k := by
   have := (List.getElem?_eq_some_iff.1 hv).1; rwa [flatN_len dv k hk, hl1] at this
  have hc : t % k < k := Nat.mod_lt _ k0
  have hj : t / k < d'.size := by rw [hsz']; exact Nat.div_lt_of_lt_mul (by rwa [Nat.mul_comm] at ht)
  obtain ⟨v0, e1, _⟩ := hcell (t / k) (by omega) (t % k) hc
  rw [hsplit] at e1
  rw [flatN_get dv k hk k0, show L1[t / k]? = some (c d'[t / k]) from by simp [L1, hj]] at hv
  have hle : t % k < (enc d'[t / k]).length := by rw [hke]; exact hc
  refine ⟨(enc d'[t / k])[t % k], ?_, d'[t / k].2.2 (t % k) v _ hv (List.getElem?_eq_getElem hle)⟩
  simp only [putCells, Array.getElem?_mapIdx, e1, Option.map_some]
  rw [if_pos ⟨by omega, by rw [size_flatK, hsz']; omega⟩, show t + r.s - r.s = t by omega, get_flatK _ _ _ t (by rw [hsz']; exact ht), getElem!_pos d' _ hj, show (enc d'[t / k])[t % k]! = (enc d'[t / k])[t % k] from getElem!_pos (enc d'[t / k]) (t % k) hle]
  rfl
 have p1 := Post.put (base := H.length) (M := [id]) hr hid ho rfl (by rw [hb]; rfl) hput (fun _ => List.mem_singleton.2 rfl)
 have hheap : ∀ b, b < w.heap.size -> (sortWorldK enc k w r.b r.s n1 d' os).heap[b]? = (w.putObj r.b (.cells (putCells _root_.id r.s (flatK enc k d') cs') ty (0, 0))).heap[b]? := by
  intro b hb1
  simp only [sortWorldK, grow, putRowK, putRow, mapBlock, ahead]
  rw [Array.getElem?_append_left (by simpa using hb1), Array.getElem?_modify]
  by_cases e : r.b = b
  ·subst e
   rw [if_pos rfl, World.putObj_heap_same hblk]
   show Option.map (onCells _) w.heap[r.b]? = _
   rw [hb]; rfl
  ·rw [if_neg e, World.putObj_heap_other (Ne.symm e)]; rfl
 have p2 := p1.grown (w2 := sortWorldK enc k w r.b r.s n1 d' os) (by simp [sortWorldK, grow, putRowK, putRow, mapBlock, ahead, World.putObj]) (fun b hb1 => hheap b (by simpa [World.putObj] using hb1)) rfl rfl rfl (by simp [sortWorldK, grow, putRowK, putRow, mapBlock, ahead, World.putObj])
 exact ⟨.tuple #[], .tuple #[], ρ, _, rfl, .tuple rfl (fun i a b h => by simp at h), p2, hQ L1 hp1 hs1⟩
end Go.K
/- Radio: messages in their order. No condition. -/
namespace Go.Proofs.YtbgfjemppjhmjaaGreat
open Go Go.K Go.Sort
set_option maxRecDepth 100000
set_option linter.unusedVariables false
set_option linter.unusedSimpArgs false
noncomputable section
attribute [local irreducible] vF
theorem neB {x : Int} (h : (x != 0) = true) : ¬ x = 0 := by simpa using h
theorem eqB0 {x : Int} (h : (x != 0) = false) : x = 0 := by simpa using h
theorem kOrder {a b : Msg} (ha : okM a = true) (hb : okM b = true) (H : Heap) : KCall prog 160 [msgV a, msgV b] H [] (Is (.int .i64 (ordM a b)) H) := by
 refine valB (v := .int .i64 (ordM a b)) (css := []) (ids := []) (Eq.mpr (Eorder _ a b) ?_) (hv := rfl) (hi := trivial) (ha := rfl)
 have h1 := okM_spec ha
 have h2 := okM_spec hb
 unfold Rorder ordM
 refine ⟨vI64 (by omega), vI64 (by omega), vI64 (by omega), vI64 (by omega), vI64 (by omega), vI64 (by omega), vI64 (by omega), ?_⟩
 refine ⟨fun h => by rw [orI_1 (neB h)], fun h => ?_⟩
 rw [orI_0 (eqB0 h)]
 refine ⟨fun h => by rw [orI_1 (neB h)], fun h => ?_⟩
 rw [orI_0 (eqB0 h)]
 refine ⟨fun h => by rw [orI_1 (neB h)], fun h => ?_⟩
 rw [orI_0 (eqB0 h)]
 refine ⟨fun h => by rw [orI_1 (neB h)], fun h => ?_⟩
 rw [orI_0 (eqB0 h)]
 refine ⟨fun h => by rw [orI_1 (neB h)], fun h => ?_⟩
 rw [orI_0 (eqB0 h)]
 refine ⟨fun h => by rw [orI_1 (neB h)], fun h => ?_⟩
 rw [orI_0 (eqB0 h)]
 exact ⟨fun h => rfl, fun h => by rw [eqB0 h]⟩
theorem entersF {f : FuncId} {fn : Func} (hf : prog.funcs[f]? = some fn) (hname : (fn.name == "runtime.NumGoroutine") = false) (hb : fn.body.isSome = true) : Enters prog f := by
 obtain ⟨c, hc⟩ := Option.isSome_iff_exists.1 hb
 exact enters_of hf hname hc
theorem entersM : Enters prog 216 := entersF Tryz.func216 (by kernel_rfl) (by kernel_rfl)
theorem entersO : Enters prog 160 := entersF Tryz.func160 (by kernel_rfl) (by kernel_rfl)
abbrev OkMsg := {m : Msg // okM m = true}
theorem swoM : SWO (ltOf fun x y : OkMsg => ordM x.1 y.1) := by
 have h : ∀ x y : OkMsg, ltOf (fun x y : OkMsg => ordM x.1 y.1) x y = decide (keyM x.1 < keyM y.1) := fun x y => decide_eq_decide.2 (ordM_lt x.2 y.2)
 refine ⟨fun x => ?_, fun x y z h1 h2 => ?_, fun x y z h1 h2 => ?_⟩
 ·rw [h]; exact decide_eq_false (by omega)
 ·rw [h] at h1 h2 ⊢; have := of_decide_eq_true h1; have := of_decide_eq_true h2; exact decide_eq_true (by omega)
 ·rw [h] at h1 h2 ⊢; have := of_decide_eq_false h1; have := of_decide_eq_false h2; exact decide_eq_false (by omega)
theorem msgC_len (m : Msg) : (msgC m).length = 7 := rfl
theorem okSub : ∀ (L : List Msg), (∀ m ∈ L, okM m = true) -> ∃ L' : List OkMsg, L'.map (·.1) = L
 | [], _ => ⟨[], rfl⟩
 | m :: L, h => by
  obtain ⟨L', e⟩ := okSub L fun x hx => h x (List.mem_cons_of_mem _ hx)
  exact ⟨⟨m, h m (List.mem_cons_self ..)⟩ :: L', by rw [List.map_cons, e]⟩
theorem flatSub : ∀ (L' : List OkMsg), L'.flatMap (fun x => msgC x.1) = (L'.map (·.1)).flatMap msgC
 | [] => rfl
 | x :: L' => by rw [List.flatMap_cons, flatSub L']; rfl
theorem set_same {α : Type} {l : List α} {i : Nat} {x : α} (h : l[i]? = some x) : l.set i x = l := by
 refine List.ext_getElem? fun k => ?_
 rw [List.getElem?_set]
 split
 ·rename_i e; subst e
  rw [if_pos (List.getElem?_eq_some_iff.1 h).1, h]
 ·rfl
theorem kSortM {L0 : List Msg} (hk : ∀ m ∈ L0, okM m = true) (hl : L0.length < 4000000) {H : Heap} {id : Nat} (ho : H[id]? = some (.cells true 7 (L0.flatMap msgC))) :
  KCall prog 216 [.slice (some ⟨id, 0, some 1⟩) L0.length L0.length, .func (.func 160) #[] #[]] H [id] (Is (.tuple #[]) (H.set id (.cells true 7 ((srtM L0).flatMap msgC)))) := by
 rcases Nat.eq_zero_or_pos L0.length with h0 | h0
 ·have e : L0 = [] := List.length_eq_zero_iff.1 h0
  subst e
  have key : KCall prog 216 [.slice (some ⟨0, 0, some 1⟩) 0 0, .func (.func 160) #[] #[]] H [] (Is (.tuple #[]) H) :=
   valB (v := .tuple #[]) (css := []) (ids := []) (Eq.mpr (Esort0 _) rfl) (hv := rfl) (hi := trivial) (ha := rfl)
  have e2 : srtM [] = [] := List.length_eq_zero_iff.1 (by rw [srtM_len]; rfl)
  rw [e2, set_same ho]
  exact (KCall.wkA (args := [.slice (some ⟨id, 0, some 1⟩) 0 0, .func (.func 160) #[] #[]]) key (wks_cons (wk_Q0 _ _ _ _) (wks_cons (wk_refl _) wks_nil))).mono (fun _ h _ => by cases h) (fun _ _ h => h)
 ·obtain ⟨L', e⟩ := okSub L0 hk
  have hl' : L'.length = L0.length := by rw [<- e, List.length_map]
  rw [<- e, <- flatSub] at ho
  have key := kSortFuncN (P := prog) sortM 7 (by omega) Tryz.isAgg64 Tryz.sizeOf64 (fun x : OkMsg => msgC x.1) (fun x => rfl) (fun x y => ordM x.1 y.1) swoM 160
   (fun ρ x v v' hv hr => by
    simp only [List.mem_cons, List.not_mem_nil, or_false] at hv
    rcases hv with rfl | rfl | rfl | rfl | rfl | rfl | rfl <;> cases hr <;> rfl)
   entersO entersM (fun x y n => kOrder x.2 y.2 _) (.inr rfl) (L0 := L') (by omega) (by omega) ho (Q := Is (.tuple #[]) (H.set id (.cells true 7 ((srtM L0).flatMap msgC))))
   (fun L1 hp hs => ⟨rfl, by
    have e1 : L1.map (·.1) = srtM L0 := by
     have hp2 : (L1.map (·.1)).Perm L0 := by rw [<- e]; exact hp.map _
     refine sorted_one (hp2.trans (srtM_perm L0).symm) (fun m hm => hk m (hp2.mem_iff.1 hm)) ?_ (srtM_sorted L0)
     rw [List.pairwise_map]
     refine hs.imp fun {x y} h => ?_
     have := (ordM_lt y.2 x.2)
     have h2 : ¬ ordM y.1 x.1 < 0 := of_decide_eq_false h
     omega
    rw [flatSub, e1]⟩)
  rw [hl'] at key
  exact key
theorem entM (L : List Msg) {i : Nat} (hi : i < L.length) (s : List Nat) : entryE (heldE L) (s ++ [i]) = some (.tuple #[msgV (L.getD i zeroM), .bool true]) := by
 unfold heldE
 rw [entry_A (zeroM, true) (by rwa [List.length_map])]
 rw [show (L.map fun m => (m, true)).getD i (zeroM, true) = (L.getD i zeroM, true) from by simp [List.getD_eq_getElem?_getD, hi]]
theorem lrec251 : lrecOk prog 251 0 := lrecOk_of (by kernel_rfl)
theorem plainML (n : Nat) (l : List Msg) : (l.flatMap msgC).all (belowC n) = true := plain_flat (fun _ => rfl) l
theorem hv3 {L : List Msg} (hk : ∀ m ∈ L, okM m = true) (hl : L.length <= 2000) : Rsorted L := by
 unfold Rsorted
 refine ⟨rfl, seen_0 L, ?_, fun _ => rfl, fun s hs => ⟨rfl, fun i hi hn => ⟨rfl, entM L (by rwa [held_len] at hi) s, ?_⟩, fun hall => ?_⟩⟩
 ·repeat' first | exact lrec251 | exact wk_nil _ _ _ (.inl rfl) | exact rfl | exact wk_refl _ | refine wkO_cells ?_ | exact wks_nil | exact wk_nil _ _ _ (.inl rfl) | (refine And.intro (by omega) ?_) | apply And.intro
 ·have hi' : i < L.length := by rwa [held_len] at hi
  have hp := pick_len L s
  have hq := seen_len hs
  refine ⟨?_, rfl, s ++ [i], seen_snoc hs hi' hn, seen_more hs hi' hn, ?_⟩
  ·repeat' first | exact flat_le msgC_len _ | exact Nat.le_refl 7 | exact rfl | exact wk_refl _ | refine wkO_cells ?_ | exact wks_nil | exact wk_nil _ _ _ (.inl rfl) | (refine And.intro (by omega) ?_) | apply And.intro
  ·repeat' first | exact lrec251 | exact wk_snoc (pick_snoc L s i) | exact ob_snoc msgC_len (pick_snoc L s i) rfl | exact plainML _ _ | exact rfl | exact wk_refl _ | refine wkO_cells ?_ | exact wks_nil | exact wk_nil _ _ _ (.inl rfl) | (refine And.intro (by omega) ?_) | apply And.intro
 ·have hall' : s.Perm (List.range L.length) := seen_all hs fun i hi => hall i (by rwa [held_len])
  have hpm : (pickM L s).Perm L := seen_map hall'
  have e1 : srtM (pickM L s) = srtM L := srtM_of_perm hpm fun m hm => hk m (hpm.mem_iff.1 hm)
  have el : (pickM L s).length = (srtM L).length := by rw [srtM_len]; exact hpm.length_eq
  refine ⟨⟨rfl, trivial⟩, fun H' _ h => kSortM (fun m hm => hk m (hpm.mem_iff.1 hm)) (by rw [el, srtM_len]; omega) h.1, ?_⟩
  rw [e1, el]
  repeat' first | exact plainML _ _ | exact rfl | exact wk_refl _ | refine wkO_cells ?_ | exact wks_nil | exact wk_nil _ _ _ (.inl rfl) | (refine And.intro (by omega) ?_) | apply And.intro
theorem held_rno (L : List Msg) (σ : Nat -> Option Nat) : rno σ 3 (.map (heldE L)) = .map (heldE L) := by
 show KObj.map ((heldE L).map _) = _
 congr 1
 unfold heldE encA
 simp only [List.map_map]
 exact List.map_congr_left fun m _ => rfl
theorem held_ok (L : List Msg) : rnoOk 3 (.map (heldE L)) = true := by
 show (heldE L).all _ = true
 unfold heldE encA
 rw [List.all_map, List.all_map, List.all_eq_true]
 intro m _; rfl
theorem pic_ok (L : List Msg) (q : Nat) : [KObj.cells true 0 [.map (some q)], .map (heldE L)].all (rnoOk 3) = true := by
 show (rnoOk 3 (.cells true 0 [.map (some q)]) && (rnoOk 3 (.map (heldE L)) && true)) = true
 rw [held_ok]; rfl
theorem pic_objs {H : Heap} {i q : Nat} {L : List Msg} (hi : H[i]? = some (.cells true 0 [.map (some q)])) (hq : H[q]? = some (.map (heldE L))) : objsAt H (sgI [i, q]) [i, q] [.cells true 0 [.map (some 1)], .map (heldE L)] := by
 exact ⟨hi, by rw [held_rno]; exact hq, trivial⟩
theorem kSorted {L : List Msg} (hk : ∀ m ∈ L, okM m = true) (hl : L.length <= 2000) {H : Heap} {i q : Nat} (hne : i ≠ q) (hi : H[i]? = some (.cells true 0 [.map (some q)])) (hq : H[q]? = some (.map (heldE L))) :
  KCall prog 95 [.pointer (some ⟨i, 0, none⟩)] H [] (Is (.slice (some ⟨H.length, 0, some 1⟩) (srtM L).length (srtM L).length) (H ++ [.cells true 7 ((srtM L).flatMap msgC)])) :=
 valKs (fun j => .slice (some ⟨j, 0, some 1⟩) (srtM L).length (srtM L).length) (os := [.cells true 0 [.map (some 1)], .map (heldE L)]) (new := [.cells true 7 ((srtM L).flatMap msgC)]) (Eq.mpr (Esorted L) (hv3 hk hl)) (pic_ok L 1) rfl
  ⟨⟨_, _, rfl, plainML _ _⟩, trivial⟩ (ids := [i, q]) (by simp [hne]) (pic_objs hi hq) (fun j => rfl) rfl
end
end Go.Proofs.YtbgfjemppjhmjaaGreat
/- What is to be shown of functions. Printed by a program. No condition. -/
namespace Go.Proofs.YtbgfjemppjhmjaaGreat
set_option linter.unusedSimpArgs false
open Go Go.K
set_option maxRecDepth 100000
set_option maxHeartbeats 4000000
set_option linter.unusedVariables false
noncomputable section
def Rgone (F G : List ((Int × Int) × Bool)) (m : Msg) : Prop :=
 ((((m.ki : Int) == 3) = true -> (true = true /\ wk (.bool true : Value) (rn (sg 4 []) 3 (.bool (goneF F G m) : Value)) /\ (True))) /\ (((m.ki : Int) == 3) = false -> ((klookE prog 79 (.bool false) (.agg #[nI m.au,nI m.nu]) false (nmE F) = some (.bool (getA (m.au,m.nu) false F))) /\ (((getA (m.au,m.nu) false F) = true -> (true = true /\ wk (.bool true : Value) (rn (sg 4 []) 3 (.bool (goneF F G m) : Value)) /\ (True))) /\ ((getA (m.au,m.nu) false F) = false -> ((klookE prog 79 (.bool false) (.agg #[nI m.au,nI m.nu]) false (nmE G) = some (.bool (getA (m.au,m.nu) false G))) /\ (true = true /\ wk (.bool (getA (m.au,m.nu) false G) : Value) (rn (sg 4 []) 3 (.bool (goneF F G m) : Value)) /\ (True))))))))
theorem Egone (F G : List ((Int × Int) × Bool)) (m : Msg) : vF prog msk (dm 0) 100000 true 40 true 163 [.agg #[nI m.au,nI m.nu,nI m.at_,nI m.ki,nI m.sh,nI m.ce,nI m.va],.pointer (some ⟨0,0,none⟩),.pointer (some ⟨1,0,none⟩)] (readsK [.cells true 0 [.map (some 2)],.cells true 0 [.map (some 3)],.map (nmE F),.map (nmE G)]) (some [])
 (.go 5 (.gfork (.go 3 (.again [])) (.go 10 (.val (.bool (getA (m.au,m.nu) false F)) (.go 1 (.gfork (.go 1 (.again [])) (.go 10 (.val (.bool (getA (m.au,m.nu) false G)) (.go 1 (.again []))))))))))
 (newK ((readsK [.cells true 0 [.map (some 2)],.cells true 0 [.map (some 3)],.map (nmE F),.map (nmE G)]) : HT).n 3 (.bool (goneF F G m)) []) = Rgone F G m:=by kernel_rfl
abbrev kpj : List Nat:=[]
abbrev kp2 : Prop:=(.map none : Value) = .map none /\ (.map (some 2) : Value) = .map (some 2) /\ (.pointer (some ⟨3,0,none⟩) : Value) = .pointer (some ⟨3,0,none⟩) /\ True
abbrev kpq (L : List Msg) : KObj:=.iter 1 (heldE L).length kpj
abbrev kpl : Prop:=(True) /\ (True)
abbrev kpn (L : List Msg) : Prop:=List.length (heldE L) = (heldE L).length
abbrev kp9 (L : List Msg) (n_0 : Nat):=L.getD n_0 zeroM
abbrev kp5 (L : List Msg) (n_0 : Nat) : Value:=.tuple #[.agg #[nI (kp9 L n_0).au,nI (kp9 L n_0).nu,nI (kp9 L n_0).at_,nI (kp9 L n_0).ki,nI (kp9 L n_0).sh,nI (kp9 L n_0).ce,nI (kp9 L n_0).va],.bool true]
abbrev kpd (L : List Msg) (n_0 : Nat) (x0 : List Nat):=getA ((kp9 L n_0).au,(kp9 L n_0).nu) false (forgF L x0)
abbrev kph (L : List Msg) (n_0 : Nat) (x0 : List Nat):=nmE (putA ((kp9 L n_0).au,(kp9 L n_0).nu) (hasA ((kp9 L n_0).au,(kp9 L n_0).nu) (forgF L x0)) (forgF L x0))
abbrev kp0 : Prop:=(.pointer (some ⟨0,0,none⟩) : Value) = .pointer (some ⟨0,0,none⟩) /\ (.slice none 0 0 : Value) = .slice none 0 0 /\ (.pointer (some ⟨4,0,none⟩) : Value) = .pointer (some ⟨4,0,none⟩) /\ (.pointer (some ⟨6,0,none⟩) : Value) = .pointer (some ⟨6,0,none⟩) /\ (.pointer (some ⟨7,0,none⟩) : Value) = .pointer (some ⟨7,0,none⟩) /\ True
abbrev kp6 (L : List Msg) (x2 : List Nat) (x0 : List Nat) (n_0 : Nat) : Prop:=∃ x2' : List Nat,(SeenI L x2') /\ (List.length L - List.length x2') < (List.length L - List.length x2) /\ true = true /\ kp0 /\ ((some (.map (nmE (wdF L (forgF L x0) x2)) : KObj) = some (.map (nmE (wdF L (forgF L x0) x2')) : KObj) /\ belowO 8 (.map (nmE (wdF L (forgF L x0) x2')) : KObj) = true) /\ (some (.iter 1 (heldE L).length (x2 ++ [n_0]) : KObj) = some (.iter 1 (heldE L).length x2' : KObj) /\ belowO 8 (.iter 1 (heldE L).length x2' : KObj) = true) /\ True) /\ (True) /\ (True)
abbrev kp1 : Value:=.func (.func 163) #[] #[.pointer (some ⟨4,0,none⟩),.pointer (some ⟨6,0,none⟩)]
abbrev kp8 (L : List Msg) : Int:=((srtM L).length : Nat)
abbrev kpe (L : List Msg) : Prop:=kp1 = .func (.func 163) #[] #[.pointer (some ⟨4,0,none⟩),.pointer (some ⟨6,0,none⟩)] /\ wkR (slQ 8 1 (srtM L).length) /\ (nI (kp8 L) : Value) = nI (kp8 L) /\ True
abbrev kpc (L : List Msg) (n_0 : Nat) : Value:=.agg #[nI ((srtM L).getD n_0 zeroM).au,nI ((srtM L).getD n_0 zeroM).nu,nI ((srtM L).getD n_0 zeroM).at_,nI ((srtM L).getD n_0 zeroM).ki,nI ((srtM L).getD n_0 zeroM).sh,nI ((srtM L).getD n_0 zeroM).ce,nI ((srtM L).getD n_0 zeroM).va]
abbrev kpk (L : List Msg) (x0 : List Nat) (x2 : List Nat) : Prop:=(someR (.cells true 0 [.map (some 2)])) /\ (someR (.cells true 0 [.map (some 5)])) /\ (someR (.map (nmE (forgF L x0)))) /\ (someR (.map (nmE (wdF L (forgF L x0) x2)))) /\ True
abbrev kpg (H' : Heap) (L : List Msg) (x0 : List Nat) (x2 : List Nat) : Prop:=H'[4]? = some (.cells true 0 [.map (some 2)] : KObj) /\ H'[6]? = some (.cells true 0 [.map (some 5)] : KObj) /\ H'[2]? = some (.map (nmE (forgF L x0)) : KObj) /\ H'[5]? = some (.map (nmE (wdF L (forgF L x0) x2)) : KObj) /\ True
abbrev kpo (L : List Msg) (x0 : List Nat) (x2 : List Nat) (n_0 : Nat):=goneF (forgF L x0) (wdF L (forgF L x0) x2) ((srtM L).getD n_0 zeroM)
abbrev kpa (L : List Msg) : Prop:=true = true /\ wk (slQ 8 1 (srtM L).length : Value) (rn (sg 2 [(2,8)]) 3 (slQ 2 2 (liveL L).length : Value)) /\ (wkO (.cells true 7 ((srtM L).flatMap msgC) : KObj) (rno (sg 2 [(2,8)]) 3 (.cells true 7 ((liveL L).flatMap msgC) : KObj)) /\ True)
abbrev kp7 (L : List Msg) : Prop:=kp1 = .func (.func 163) #[] #[.pointer (some ⟨4,0,none⟩),.pointer (some ⟨6,0,none⟩)] /\ wkR (slQ 8 1 (srtM L).length) /\ (.slice none 0 0 : Value) = .slice none 0 0 /\ True
abbrev kpf (L : List Msg) (n_1 : Nat):=keepQ (stayB L) (srtM L) n_1
abbrev kp4 (L : List Msg) (n_1 : Nat):=midQ (stayB L) (srtM L) n_1
abbrev kpb (L : List Msg) (n_1 : Nat) : Value:=.agg #[nI ((kp4 L n_1).getD n_1 zeroM).au,nI ((kp4 L n_1).getD n_1 zeroM).nu,nI ((kp4 L n_1).getD n_1 zeroM).at_,nI ((kp4 L n_1).getD n_1 zeroM).ki,nI ((kp4 L n_1).getD n_1 zeroM).sh,nI ((kp4 L n_1).getD n_1 zeroM).ce,nI ((kp4 L n_1).getD n_1 zeroM).va]
abbrev kpm (L : List Msg) (x0 : List Nat) (x2 : List Nat) (n_1 : Nat):=goneF (forgF L x0) (wdF L (forgF L x0) x2) ((kp4 L n_1).getD n_1 zeroM)
abbrev kp3 (L : List Msg) (n_1 : Nat) : Int:=((kpf L n_1).length : Nat)
abbrev kpi (L : List Msg) (n_2' : Nat) : KObj:=.cells true 7 ((midQ (stayB L) (srtM L) n_2').flatMap msgC)
def Rlive (L : List Msg) : Prop :=
 (true = true /\ (SeenI L kpj) /\ (true = true /\ kp2 /\ ((some (.map (nmE []) : KObj) = some (.map (nmE (forgF L kpj)) : KObj) /\ belowO 4 (.map (nmE (forgF L kpj)) : KObj) = true) /\ (some (.iter 1 (heldE L).length [] : KObj) = some (kpq L) /\ belowO 4 (kpq L) = true) /\ True) /\ kpl) /\ (∀ x0 : List Nat,true = true) /\ ∀ x0 : List Nat,(SeenI L x0) -> ((kpn L) /\ (∀ n_0 : Nat,n_0 < (heldE L).length -> n_0 ∉ x0 -> ((kpn L) /\ (entryE (heldE L) (x0 ++ [n_0]) = some (kp5 L n_0)) /\ ((klookE prog 79 (.bool false) (.agg #[nI (kp9 L n_0).au,nI (kp9 L n_0).nu]) true (nmE (forgF L x0)) = some (.tuple #[.bool (kpd L n_0 x0),.bool (hasA ((kp9 L n_0).au,(kp9 L n_0).nu) (forgF L x0))])) /\ ((ksetE prog 79 (.agg #[nI (kp9 L n_0).au,nI (kp9 L n_0).nu]) (.bool (hasA ((kp9 L n_0).au,(kp9 L n_0).nu) (forgF L x0))) (nmE (forgF L x0)) = some (kph L n_0 x0)) /\ (∃ x0' : List Nat,(SeenI L x0') /\ (List.length L - List.length x0') < (List.length L - List.length x0) /\ true = true /\ kp2 /\ ((some (.map (kph L n_0 x0) : KObj) = some (.map (nmE (forgF L x0')) : KObj) /\ belowO 4 (.map (nmE (forgF L x0')) : KObj) = true) /\ (some (.iter 1 (heldE L).length (x0 ++ [n_0]) : KObj) = some (.iter 1 (heldE L).length x0' : KObj) /\ belowO 4 (.iter 1 (heldE L).length x0' : KObj) = true) /\ True) /\ kpl))))) /\ ((∀ n_0 : Nat,n_0 < (heldE L).length -> n_0 ∈ x0) -> (true = true /\ (SeenI L kpj) /\ (true = true /\ kp0 /\ ((some (.map (nmE []) : KObj) = some (.map (nmE (wdF L (forgF L x0) kpj)) : KObj) /\ belowO 8 (.map (nmE (wdF L (forgF L x0) kpj)) : KObj) = true) /\ (some (.iter 1 (heldE L).length [] : KObj) = some (kpq L) /\ belowO 8 (kpq L) = true) /\ True) /\ kpl) /\ (∀ x2 : List Nat,true = true) /\ ∀ x2 : List Nat,(SeenI L x2) -> ((kpn L) /\ (∀ n_0 : Nat,n_0 < (heldE L).length -> n_0 ∉ x2 -> ((kpn L) /\ (entryE (heldE L) (x2 ++ [n_0]) = some (kp5 L n_0)) /\ (((((kp9 L n_0).ki : Int) == 3) = true -> ((klookE prog 79 (.bool false) (.agg #[nI (kp9 L n_0).au,nI (kp9 L n_0).nu]) false (nmE (forgF L x0)) = some (.bool (kpd L n_0 x0))) /\ (((!(kpd L n_0 x0)) = true -> ((ksetE prog 79 (.agg #[nI (kp9 L n_0).au,nI (kp9 L n_0).va]) (.bool true) (nmE (wdF L (forgF L x0) x2)) = some (nmE (putA ((kp9 L n_0).au,(kp9 L n_0).va) true (wdF L (forgF L x0) x2)))) /\ (∃ x2' : List Nat,(SeenI L x2') /\ (List.length L - List.length x2') < (List.length L - List.length x2) /\ true = true /\ kp0 /\ ((some (.map (nmE (putA ((kp9 L n_0).au,(kp9 L n_0).va) true (wdF L (forgF L x0) x2))) : KObj) = some (.map (nmE (wdF L (forgF L x0) x2')) : KObj) /\ belowO 8 (.map (nmE (wdF L (forgF L x0) x2')) : KObj) = true) /\ (some (.iter 1 (heldE L).length (x2 ++ [n_0]) : KObj) = some (.iter 1 (heldE L).length x2' : KObj) /\ belowO 8 (.iter 1 (heldE L).length x2' : KObj) = true) /\ True) /\ kpl))) /\ ((!(kpd L n_0 x0)) = false -> (kp6 L x2 x0 n_0))))) /\ ((((kp9 L n_0).ki : Int) == 3) = false -> (kp6 L x2 x0 n_0))))) /\ ((∀ n_0 : Nat,n_0 < (heldE L).length -> n_0 ∈ x2) -> (((someR (.cells true 0 [.map (some 1)])) /\ (someR (.map (heldE L))) /\ True) /\ (∀ H' : Heap,H'.length = 8 -> (H'[0]? = some (.cells true 0 [.map (some 1)] : KObj) /\ H'[1]? = some (.map (heldE L) : KObj) /\ True) -> KCall prog 95 [.pointer (some ⟨0,0,none⟩)] H' [] (Is (slQ 8 1 (srtM L).length) (H' ++ [(.cells true 7 ((srtM L).flatMap msgC) : KObj)]))) /\ (true = true /\ (0 <= List.length (srtM L) /\ ((srtM L).take 0).all (stayB L) = true) /\ (true = true /\ ((nI 0 : Value) = nI ((0 : Nat) : Int) /\ kpe L) /\ (True) /\ kpl) /\ (∀ n_0 : Nat,true = true) /\ ∀ n_0 : Nat,(n_0 <= List.length (srtM L) /\ ((srtM L).take n_0).all (stayB L) = true) -> (((decide (((n_0 : Int) : Int) < (kp8 L))) = true -> (((0 : Int) <= (n_0 : Int) /\ ((n_0 : Int) : Int) < (kp8 L)) /\ ((partA 7 ((srtM L).flatMap msgC) (0 + Int.toNat (n_0 : Int) * 7) = some (kpc L n_0)) /\ ((kpk L x0 x2) /\ (∀ H' : Heap,H'.length = 9 -> (kpg H' L x0 x2) -> KCall prog 163 [.agg #[nI ((srtM L).getD n_0 zeroM).au,nI ((srtM L).getD n_0 zeroM).nu,nI ((srtM L).getD n_0 zeroM).at_,nI ((srtM L).getD n_0 zeroM).ki,nI ((srtM L).getD n_0 zeroM).sh,nI ((srtM L).getD n_0 zeroM).ce,nI ((srtM L).getD n_0 zeroM).va],.pointer (some ⟨4,0,none⟩),.pointer (some ⟨6,0,none⟩)] H' [] (Is (.bool (kpo L x0 x2 n_0)) H')) /\ (((kpo L x0 x2 n_0) = true -> (((((n_0 : Int) : Int) == (-1)) = true -> (kpa L)) /\ ((((n_0 : Int) : Int) == (-1)) = false -> ((nI (IntKind.wrap .i64 ((n_0 : Int) + 1)) : Value) = nI ((n_0 : Int) + 1) /\ (true = true /\ ((n_0 + 1) <= List.length (srtM L) /\ (keepQ (stayB L) (srtM L) (n_0 + 1)).length < (n_0 + 1)) /\ (true = true /\ ((nI ((n_0 : Int) + 1) : Value) = nI (((n_0 + 1) : Nat) : Int) /\ (nI (n_0 : Int) : Value) = nI (((keepQ (stayB L) (srtM L) (n_0 + 1)).length : Nat) : Int) /\ kp7 L) /\ ((some (.cells true 7 ((srtM L).flatMap msgC) : KObj) = some (.cells true 7 ((midQ (stayB L) (srtM L) (n_0 + 1)).flatMap msgC) : KObj) /\ belowO 9 (.cells true 7 ((midQ (stayB L) (srtM L) (n_0 + 1)).flatMap msgC) : KObj) = true) /\ True) /\ kpl) /\ (∀ n_1 : Nat,true = true) /\ ∀ n_1 : Nat,(n_1 <= List.length (srtM L) /\ (kpf L n_1).length < n_1) -> (((decide (((n_1 : Int) : Int) < (kp8 L))) = true -> (((0 : Int) <= (n_1 : Int) /\ ((n_1 : Int) : Int) < (kp8 L)) /\ ((partA 7 ((kp4 L n_1).flatMap msgC) (0 + Int.toNat (n_1 : Int) * 7) = some (kpb L n_1)) /\ ((kpk L x0 x2) /\ (∀ H' : Heap,H'.length = 10 -> (kpg H' L x0 x2) -> KCall prog 163 [.agg #[nI ((kp4 L n_1).getD n_1 zeroM).au,nI ((kp4 L n_1).getD n_1 zeroM).nu,nI ((kp4 L n_1).getD n_1 zeroM).at_,nI ((kp4 L n_1).getD n_1 zeroM).ki,nI ((kp4 L n_1).getD n_1 zeroM).sh,nI ((kp4 L n_1).getD n_1 zeroM).ce,nI ((kp4 L n_1).getD n_1 zeroM).va],.pointer (some ⟨4,0,none⟩),.pointer (some ⟨6,0,none⟩)] H' [] (Is (.bool (kpm L x0 x2 n_1)) H')) /\ (((!(kpm L x0 x2 n_1)) = true -> (((0 : Int) <= (kp3 L n_1) /\ ((kp3 L n_1) : Int) < (kp8 L)) /\ (((0 + Int.toNat (kp3 L n_1) * 7) + 7 <= List.length ((kp4 L n_1).flatMap msgC)) /\ true = true /\ ((nI (IntKind.wrap .i64 ((kp3 L n_1) + 1)) : Value) = nI ((kp3 L n_1) + 1) /\ ((nI (IntKind.wrap .i64 ((n_1 : Int) + 1)) : Value) = nI ((n_1 : Int) + 1) /\ (∃ n_2' : Nat,(n_2' <= List.length (srtM L) /\ (keepQ (stayB L) (srtM L) n_2').length < n_2') /\ (List.length (srtM L) - n_2') < (List.length (srtM L) - n_1) /\ true = true /\ ((nI ((n_1 : Int) + 1) : Value) = nI (n_2' : Int) /\ (nI ((kp3 L n_1) + 1) : Value) = nI (((keepQ (stayB L) (srtM L) n_2').length : Nat) : Int) /\ kp7 L) /\ ((some (.cells true 7 (setl ((kp4 L n_1).flatMap msgC) (0 + Int.toNat (kp3 L n_1) * 7) [nI ((kp4 L n_1).getD n_1 zeroM).au,nI ((kp4 L n_1).getD n_1 zeroM).nu,nI ((kp4 L n_1).getD n_1 zeroM).at_,nI ((kp4 L n_1).getD n_1 zeroM).ki,nI ((kp4 L n_1).getD n_1 zeroM).sh,nI ((kp4 L n_1).getD n_1 zeroM).ce,nI ((kp4 L n_1).getD n_1 zeroM).va]) : KObj) = some (kpi L n_2') /\ belowO 9 (kpi L n_2') = true) /\ True) /\ kpl)))))) /\ ((!(kpm L x0 x2 n_1)) = false -> ((nI (IntKind.wrap .i64 ((n_1 : Int) + 1)) : Value) = nI ((n_1 : Int) + 1) /\ (∃ n_2' : Nat,(n_2' <= List.length (srtM L) /\ (keepQ (stayB L) (srtM L) n_2').length < n_2') /\ (List.length (srtM L) - n_2') < (List.length (srtM L) - n_1) /\ true = true /\ ((nI ((n_1 : Int) + 1) : Value) = nI (n_2' : Int) /\ (nI (kp3 L n_1) : Value) = nI (((keepQ (stayB L) (srtM L) n_2').length : Nat) : Int) /\ kp7 L) /\ ((some (.cells true 7 ((kp4 L n_1).flatMap msgC) : KObj) = some (kpi L n_2') /\ belowO 9 (kpi L n_2') = true) /\ True) /\ kpl)))))))) /\ ((decide (((n_1 : Int) : Int) < (kp8 L))) = false -> ((((true = false ∨ 7 = 0 ∨ 7 = 7) /\ (srtM L).length <= (srtM L).length) /\ ((srtM L).length <= (srtM L).length) /\ ((0 : Int) <= (kp3 L n_1) /\ ((kp3 L n_1) : Int) <= (kp8 L))) /\ ((.slice (some ⟨8,(0 + (kp3 L n_1).toNat * 7),some 2⟩) ((srtM L).length - (kp3 L n_1).toNat) ((srtM L).length - (kp3 L n_1).toNat) : Value) = .slice (some ⟨8,(0 + (kp3 L n_1).toNat * 7),some 2⟩) ((srtM L).length - (kpf L n_1).length) ((srtM L).length - (kpf L n_1).length) /\ (((0 + (kp3 L n_1).toNat * 7) + ((srtM L).length - (kpf L n_1).length) * 7 <= List.length ((kp4 L n_1).flatMap msgC)) /\ true = true /\ ((((true = false ∨ 7 = 0 ∨ 7 = 7) /\ (kp3 L n_1).toNat <= (srtM L).length) /\ ((0 : Int) <= (kp3 L n_1) /\ ((kp3 L n_1) : Int) <= (kp8 L)) /\ (0 <= (kp3 L n_1).toNat)) /\ ((slQ 8 2 ((kp3 L n_1).toNat - 0) : Value) = slQ 8 2 (kpf L n_1).length /\ (true = true /\ wk (slQ 8 2 (kpf L n_1).length : Value) (rn (sg 2 [(2,8)]) 3 (slQ 2 2 (liveL L).length : Value)) /\ (wkO (.cells true 7 (setl ((kp4 L n_1).flatMap msgC) (0 + (kp3 L n_1).toNat * 7) (krep [nI 0,nI 0,nI 0,nI 0,nI 0,nI 0,nI 0] ((srtM L).length - (kpf L n_1).length))) : KObj) (rno (sg 2 [(2,8)]) 3 (.cells true 7 ((liveL L).flatMap msgC) : KObj)) /\ True)))))))))))))) /\ ((kpo L x0 x2 n_0) = false -> ((nI (IntKind.wrap .i64 ((n_0 : Int) + 1)) : Value) = nI ((n_0 : Int) + 1) /\ (∃ n_1' : Nat,(n_1' <= List.length (srtM L) /\ ((srtM L).take n_1').all (stayB L) = true) /\ (List.length (srtM L) - n_1') < (List.length (srtM L) - n_0) /\ true = true /\ ((nI ((n_0 : Int) + 1) : Value) = nI (n_1' : Int) /\ kpe L) /\ (True) /\ kpl)))))))) /\ ((decide (((n_0 : Int) : Int) < (kp8 L))) = false -> (kpa L)))))))))))
abbrev kpp (L : List Msg) (x0 : List Nat) (x2 : List Nat) : List (Nat × KObj):=[(4,.cells true 0 [.map (some 2)]),(6,.cells true 0 [.map (some 5)]),(2,.map (nmE (forgF L x0))),(5,.map (nmE (wdF L (forgF L x0) x2)))]
abbrev kpr : Hint:=.keep (.go 0 (.again [(2,8)]))
theorem Elive (L : List Msg) : vF prog msk (dm 0) 100000 true 40 true 98 [.pointer (some ⟨0,0,none⟩)] (readsK [.cells true 0 [.map (some 1)],.map (heldE L)]) (some [])
 (.go 10 (.inv 3 (List Nat) (kpj) [] [2,3] (fun x0 => [(2,.map none),(3,.map (some 2)),(12,.pointer (some ⟨3,0,none⟩))]) (fun x0 => [(2,true,.map (nmE (forgF L x0))),(3,true,.iter 1 (heldE L).length x0)]) (fun x0 => []) (fun x0 => []) (fun x0 => (SeenI L x0)) (fun x0 => (List.length L - List.length x0)) (fun x0 => .nxt (fun n_0 => .go 1 (.val (kp5 L n_0) (.go 13 (.val (.tuple #[.bool (kpd L n_0 x0),.bool (hasA ((kp9 L n_0).au,(kp9 L n_0).nu) (forgF L x0))]) (.go 16 (.mset (kph L n_0 x0) (.again []))))))) (.go 13 (.inv 3 (List Nat) (kpj) [] [5,7] (fun x2 => [(0,.pointer (some ⟨0,0,none⟩)),(2,.slice none 0 0),(3,.pointer (some ⟨4,0,none⟩)),(4,.pointer (some ⟨6,0,none⟩)),(13,.pointer (some ⟨7,0,none⟩))]) (fun x2 => [(5,true,.map (nmE (wdF L (forgF L x0) x2))),(7,true,.iter 1 (heldE L).length x2)]) (fun x2 => []) (fun x2 => []) (fun x2 => (SeenI L x2)) (fun x2 => (List.length L - List.length x2)) (fun x2 => .nxt (fun n_0 => .go 1 (.val (kp5 L n_0) (.go 6 (.gfork (.go 10 (.val (.bool (kpd L n_0 x0)) (.go 1 (.fork (.go 5 (.mset (nmE (putA ((kp9 L n_0).au,(kp9 L n_0).va) true (wdF L (forgF L x0) x2))) (.again []))) (.again []))))) (.go 1 (.again [])))))) (.go 2 (.ans [(0,.cells true 0 [.map (some 1)]),(1,.map (heldE L))] (slQ 8 1 (srtM L).length) [.cells true 7 ((srtM L).flatMap msgC)] (.go 0 (.into (some [2,3,4,5,6,7,8]) (.go 7 (.inv 3 (Nat) (0) [] [] (fun n_0 => [(8,nI (n_0 : Int)),(1,.func (.func 163) #[] #[.pointer (some ⟨4,0,none⟩),.pointer (some ⟨6,0,none⟩)]),(0,slQ 8 1 (srtM L).length),(7,nI (kp8 L))]) (fun n_0 => []) (fun n_0 => []) (fun n_0 => []) (fun n_0 => (n_0 <= List.length (srtM L) /\ ((srtM L).take n_0).all (stayB L) = true)) (fun n_0 => (List.length (srtM L) - n_0)) (fun n_0 => .go 0 (.fork (.go 4 (.need (.val (kpc L n_0) (.ans (kpp L x0 x2) (.bool (kpo L x0 x2 n_0)) [] (.fork (.go 4 (.fork (.go 1 kpr) (.go 1 (.slot 15 (nI ((n_0 : Int) + 1)) (.go 0 (.inv 3 (Nat) ((n_0 + 1)) [] [8] (fun n_1 => [(6,nI (n_1 : Int)),(5,nI (kp3 L n_1)),(1,.func (.func 163) #[] #[.pointer (some ⟨4,0,none⟩),.pointer (some ⟨6,0,none⟩)]),(0,slQ 8 1 (srtM L).length),(4,.slice none 0 0)]) (fun n_1 => [(8,true,.cells true 7 ((kp4 L n_1).flatMap msgC))]) (fun n_1 => []) (fun n_1 => []) (fun n_1 => (n_1 <= List.length (srtM L) /\ (kpf L n_1).length < n_1)) (fun n_1 => (List.length (srtM L) - n_1)) (fun n_1 => .go 3 (.fork (.go 1 (.need (.val (kpb L n_1) (.go 3 (.ans (kpp L x0 x2) (.bool (kpm L x0 x2 n_1)) [] (.go 0 (.fork (.go 2 (.need (.need (.go 1 (.slot 35 (nI ((kp3 L n_1) + 1)) (.go 2 (.slot 21 (nI ((n_1 : Int) + 1)) (.go 0 (.again []))))))))) (.go 1 (.slot 21 (nI ((n_1 : Int) + 1)) (.go 0 (.again []))))))))))) (.go 1 (.need (.slot 38 (.slice (some ⟨8,(0 + (kp3 L n_1).toNat * 7),some 2⟩) ((srtM L).length - (kpf L n_1).length) ((srtM L).length - (kpf L n_1).length)) (.need (.go 1 (.need (.slot 41 (slQ 8 2 (kpf L n_1).length) (.go 0 kpr)))))))))))))))) (.go 0 (.slot 18 (nI ((n_0 : Int) + 1)) (.go 0 (.again []))))))))) (.go 6 kpr)))))))))))))))
 (newK ((readsK [.cells true 0 [.map (some 1)],.map (heldE L)]) : HT).n 3 (slQ 2 2 (liveL L).length) [(false,.cells true 7 ((liveL L).flatMap msgC))]) = Rlive L:=by kernel_rfl
end
end Go.Proofs.YtbgfjemppjhmjaaGreat
