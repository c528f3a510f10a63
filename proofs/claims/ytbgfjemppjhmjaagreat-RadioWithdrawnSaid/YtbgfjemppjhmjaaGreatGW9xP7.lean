/- Radio: forged names, what is withdrawn, notices: plain laws. No condition. -/
import Derived.Test.YtbgfjemppjhmjaaGreatGO3gxW8
import Derived.Test.YtbgfjemppjhmjaaGreatGW2xP2
namespace Go.Proofs.YtbgfjemppjhmjaaGreat
set_option linter.unusedSimpArgs false
open Go Go.K
set_option linter.unusedVariables false
theorem put_keys {κ β : Type} [DecidableEq κ] (k : κ) (v : β) : ∀ F : List (κ × β), hasA k F = true -> (putA k v F).map (·.1) = F.map (·.1)
 | [], h => by cases h
 | e :: F, h => by
  unfold hasA at h; unfold putA
  by_cases q : e.1 = k
  ·rw [if_pos q, List.map_cons, List.map_cons, q]
  ·rw [if_neg q] at h ⊢
   rw [List.map_cons, List.map_cons, put_keys k v F h]
theorem put_nodup {κ β : Type} [DecidableEq κ] (k : κ) (v : β) (F : List (κ × β)) (h : (F.map (·.1)).Nodup) : ((putA k v F).map (·.1)).Nodup := by
 cases hk : hasA k F with
 | true => rw [put_keys k v F hk]; exact h
 | false =>
  rw [putA_no k v F hk, List.map_append]
  refine List.nodup_append.2 ⟨h, (by simp), fun a ha b hb e => ?_⟩
  have hb' : b = k := by simpa using hb
  have : hasA k F = true := (hasA_iff k F).2 (by rw [<- hb', <- e]; exact ha)
  rw [hk] at this; cases this
theorem forgF_nodup (L : List Msg) : ∀ s, ((forgF L s).map (·.1)).Nodup := by
 refine snoc_ind List.nodup_nil fun s i h => ?_
 rw [forgF_snoc]
 exact put_nodup _ _ _ h
theorem get_mem {κ : Type} [DecidableEq κ] (k : κ) : ∀ F : List (κ × Bool), (F.map (·.1)).Nodup -> ((k, true) ∈ F ↔ getA k false F = true)
 | [], _ => by simp [getA]
 | e :: F, h => by
  rw [List.map_cons, List.nodup_cons] at h
  unfold getA
  rw [List.mem_cons]
  by_cases q : e.1 = k
  ·rw [if_pos q]
   constructor
   ·rintro (w | w)
    ·rw [<- w]
    ·exact absurd (List.mem_map_of_mem (f := (·.1)) w) (by rw [<- q] at *; exact h.1)
   ·intro w; exact .inl (by rw [<- q, <- w])
  ·rw [if_neg q, get_mem k F h.2]
   exact ⟨fun w => w.resolve_left fun w => q (by rw [<- w]), .inr⟩
theorem rangeG {α : Type} (d : α) (F : List α) : (List.range F.length).map (fun i => F.getD i d) = F := by
 refine List.ext_getElem? fun i => ?_
 rw [List.getElem?_map]
 by_cases h : i < F.length
 ·rw [List.getElem?_range h, List.getElem?_eq_getElem h]
  simp [List.getD_eq_getElem?_getD, h]
 ·rw [List.getElem?_eq_none (by simpa using Nat.le_of_not_lt h), List.getElem?_eq_none (Nat.le_of_not_lt h)]; rfl
theorem pickN {F : List ((Int × Int) × Bool)} {s : List Nat} (hs : s.Perm (List.range F.length)) : (s.map fun i => F.getD i zeroN).Perm F := by
 have := hs.map fun i => F.getD i zeroN
 rwa [rangeG] at this
theorem fgP_mem {F : List ((Int × Int) × Bool)} {s : List Nat} (hs : s.Perm (List.range F.length)) (hn : (F.map (·.1)).Nodup) (n : Int × Int) : n ∈ fgP F s ↔ getA n false F = true := by
 rw [<- get_mem n F hn]
 unfold fgP
 rw [List.mem_map]
 constructor
 ·rintro ⟨e, h1, h2⟩
  rw [List.mem_filter] at h1
  have := (pickN hs).mem_iff.1 h1.1
  rw [show (n, true) = e from by rw [<- h2, <- h1.2]]; exact this
 ·intro h
  exact ⟨(n, true), List.mem_filter.2 ⟨(pickN hs).mem_iff.2 h, rfl⟩, rfl⟩
theorem fgP_nodup {F : List ((Int × Int) × Bool)} {s : List Nat} (hs : s.Perm (List.range F.length)) (hn : (F.map (·.1)).Nodup) : (fgP F s).Nodup := by
 have h1 : (fgP F s).Perm ((F.filter (·.2)).map (·.1)) := ((pickN hs).filter _).map _
 rw [h1.nodup_iff]
 exact (List.Sublist.map _ List.filter_sublist).nodup hn
theorem fgP_forg {L : List Msg} {s t : List Nat} (hs : s.Perm (List.range L.length)) (ht : t.Perm (List.range (forgF L s).length)) (n : Int × Int) : n ∈ fgP (forgF L s) t ↔ forgB L n.1 n.2 = true := by
 rw [fgP_mem ht (forgF_nodup L s), <- forgF_all hs n.1 n.2]
theorem srtN_perm (l : List (Int × Int)) : (srtN l).Perm l := List.mergeSort_perm _ _
theorem srtN_sorted (l : List (Int × Int)) : (srtN l).Pairwise fun a b => a.1 * 256 + a.2 <= b.1 * 256 + b.2 := by
 have h := List.pairwise_mergeSort (le := fun a b : Int × Int => decide (a.1 * 256 + a.2 <= b.1 * 256 + b.2)) (fun a b c h1 h2 => by simp at *; omega) (fun a b => by simp; omega) l
 exact h.imp fun h => by simpa using h
def okN (n : Int × Int) : Prop := 1 <= n.2 /\ n.2 <= 200
theorem sortedN_one {A B : List (Int × Int)} (hp : A.Perm B) (hk : ∀ n ∈ A, okN n) (ha : A.Pairwise fun a b => a.1 * 256 + a.2 <= b.1 * 256 + b.2) (hb : B.Pairwise fun a b => a.1 * 256 + a.2 <= b.1 * 256 + b.2) : A = B := by
 refine List.Perm.eq_of_pairwise (fun a b h1 h2 h3 h4 => ?_) ha hb hp
 have q1 := hk a h1
 have q2 := hk b (hp.mem_iff.2 h2)
 unfold okN at q1 q2
 obtain ⟨a1, a2⟩ := a
 obtain ⟨b1, b2⟩ := b
 simp only at q1 q2 h3 h4
 rw [Prod.mk.injEq]; omega
theorem forgB_ok {L : List Msg} (hk : ∀ m ∈ L, okM m = true) {a n : Int} (h : forgB L a n = true) : (1 <= a /\ a <= 4) /\ 1 <= n /\ n <= 200 := by
 have h2 : 2 <= (namedL L a n).length := of_decide_eq_true h
 have h3 : 0 < (namedL L a n).length := by omega
 have h4 := List.getElem_mem h3
 unfold namedL at h4
 rw [List.mem_filter, Bool.and_eq_true] at h4
 have := okM_spec (hk _ h4.1)
 have e1 := of_decide_eq_true h4.2.1
 have e2 := of_decide_eq_true h4.2.2
 omega
theorem fg_any {L : List Msg} (hk : ∀ m ∈ L, okM m = true) {s t : List Nat} (hs : s.Perm (List.range L.length)) (ht : t.Perm (List.range (forgF L s).length)) {B : List (Int × Int)} (hp : B.Perm (fgP (forgF L s) t)) (hb : B.Pairwise fun a b => a.1 * 256 + a.2 <= b.1 * 256 + b.2) : B = fgL L := by
 have hq : (fgP (forgF L s) t).Perm (fgP (forgF L (List.range L.length)) (List.range (forgF L (List.range L.length)).length)) := by
  refine (List.perm_ext_iff_of_nodup (fgP_nodup ht (forgF_nodup L s)) (fgP_nodup (List.Perm.refl _) (forgF_nodup L _))).2 fun n => ?_
  rw [fgP_forg hs ht, fgP_forg (List.Perm.refl _) (List.Perm.refl _)]
 refine sortedN_one (hp.trans (hq.trans (srtN_perm _).symm)) (fun n hn => ?_) hb (srtN_sorted _)
 have := (fgP_forg hs ht n).1 (hp.mem_iff.1 hn)
 exact (forgB_ok hk this).2
theorem fgL_mem {L : List Msg} (n : Int × Int) : n ∈ fgL L ↔ forgB L n.1 n.2 = true := by
 unfold fgL
 rw [(srtN_perm _).mem_iff, fgP_forg (List.Perm.refl _) (List.Perm.refl _)]
theorem maxN_mem {N : List Msg} : ∀ x, x < N.length -> maxN N x ∈ N
 | 0, h => by
  show N.getD 0 zeroM ∈ N
  rw [List.getD_eq_getElem?_getD, List.getElem?_eq_getElem h]; exact List.getElem_mem h
 | x + 1, h => by
  unfold maxN
  split
  ·rw [List.getD_eq_getElem?_getD, List.getElem?_eq_getElem h]; exact List.getElem_mem h
  ·exact maxN_mem x (by omega)
theorem ordT_at {a b : Msg} (h : ¬ 0 < ordT a b) : a.at_ <= b.at_ := by
 unfold ordT orI at h
 split at h <;> omega
theorem ordT_at2 {a b : Msg} (h : 0 < ordT a b) : b.at_ <= a.at_ := by
 unfold ordT orI at h
 split at h <;> omega
theorem maxN_max {N : List Msg} : ∀ x, ∀ i, i <= x -> (N.getD i zeroM).at_ <= (maxN N x).at_
 | 0, i, h => by
  have : i = 0 := by omega
  rw [this]; exact Int.le_refl _
 | x + 1, i, h => by
  unfold maxN
  by_cases e : i = x + 1
  ·rw [e]
   split
   ·exact Int.le_refl _
   ·rename_i q; exact ordT_at q
  ·have ih := maxN_max (N := N) x i (by omega)
   split
   ·rename_i q; exact Int.le_trans ih (ordT_at2 q)
   ·exact ih
theorem maxN_congr {A B : List Msg} : ∀ x, (∀ i, i <= x -> A.getD i zeroM = B.getD i zeroM) -> maxN A x = maxN B x
 | 0, h => h 0 (Nat.le_refl _)
 | x + 1, h => by
  unfold maxN
  rw [h (x + 1) (Nat.le_refl _), maxN_congr x fun i hi => h i (by omega)]
theorem delQ_pre (q : Msg -> Bool) (M : List Msg) {i : Nat} (h : i < (M.filter q).length) : (delQ q M).getD i zeroM = (M.filter q).getD i zeroM := by
 unfold delQ
 rw [List.getD_eq_getElem?_getD, List.getD_eq_getElem?_getD, List.getElem?_append_left h]
theorem isNo_spec {c : Int} {m : Msg} : isNo c m = true ↔ m.ki = 2 /\ m.ce = c := by
 unfold isNo notNo
 simp
theorem not_told {L : List Msg} {m : Msg} (hm : m ∈ liveL L) (h2 : m.ki = 2) : notErr L m.ce = 0 /\ (notM L m.ce).ce = m.ce /\ (notM L m.ce).ki = 2 /\ m.at_ <= (notM L m.ce).at_ := by
 have hin : m ∈ notL L m.ce := List.mem_filter.2 ⟨hm, isNo_spec.2 ⟨h2, rfl⟩⟩
 have hl : 0 < (notL L m.ce).length := List.length_pos_of_mem hin
 have hne : ¬ (notL L m.ce).length = 0 := by omega
 have e : notM L m.ce = maxN (notL L m.ce) ((notL L m.ce).length - 1) := by
  unfold notM
  rw [if_neg hne]
  refine maxN_congr _ fun i hi => delQ_pre _ _ ?_
  show i < (notL L m.ce).length
  omega
 have h3 := maxN_mem (N := notL L m.ce) ((notL L m.ce).length - 1) (by omega)
 obtain ⟨i, hi, hi2⟩ := List.getElem_of_mem hin
 have h4 := maxN_max (N := notL L m.ce) ((notL L m.ce).length - 1) i (by omega)
 rw [show (notL L m.ce).getD i zeroM = m from by rw [List.getD_eq_getElem?_getD, List.getElem?_eq_getElem hi, Option.getD_some, hi2]] at h4
 rw [e]
 have h5 := isNo_spec.1 (List.mem_filter.1 h3).2
 exact ⟨if_neg hne, h5.2, h5.1, h4⟩
theorem live_mem {L : List Msg} {m : Msg} : m ∈ liveL L ↔ m ∈ L /\ goneB L m = false := by
 unfold liveL
 rw [List.mem_filter, srtM_mem]
 simp
end Go.Proofs.YtbgfjemppjhmjaaGreat
/- Radio: the messages of the chapter's example. No condition. -/
namespace Go.Proofs.YtbgfjemppjhmjaaGreat
set_option linter.unusedSimpArgs false
open Go Go.K
set_option linter.unusedVariables false
abbrev mA : Msg := ⟨1, 5, 9, 3, 0, 0, 2⟩
abbrev mB : Msg := ⟨1, 2, 10, 1, 7, 3, 0⟩
abbrev mC : Msg := ⟨1, 5, 9, 1, 8, 0, 0⟩
theorem srtM_is {A B : List Msg} (hp : A.Perm B) (hk : ∀ m ∈ A, okM m = true) (hb : B.Pairwise fun a b => keyM a <= keyM b) : srtM A = B :=
 sorted_one ((srtM_perm A).trans hp) (fun m hm => hk m (srtM_mem.1 hm)) (srtM_sorted A) hb
theorem okAB : ∀ m ∈ [mA, mB], okM m = true := by decide
theorem okABC : ∀ m ∈ [mA, mB, mC], okM m = true := by decide
theorem srtAB : srtM [mA, mB] = [mB, mA] := srtM_is (List.Perm.swap ..) okAB (by decide)
theorem srtABC : srtM [mA, mB, mC] = [mB, mC, mA] := srtM_is (((List.Perm.swap mB mA [mC])).trans (List.Perm.cons _ (List.Perm.swap ..))) okABC (by decide)
theorem liveAB : liveL [mA, mB] = [] := by unfold liveL; rw [srtAB]; rfl
theorem liveABC : liveL [mA, mB, mC] = [mB] := by unfold liveL; rw [srtABC]; rfl
theorem gapsAB : gapsL [mA, mB] 1 = [(1, 1), (3, 4)] := by unfold gapsL; rw [srtAB]; rfl
end Go.Proofs.YtbgfjemppjhmjaaGreat
/- What is to be shown of functions. Printed by a program. No condition. -/
namespace Go.Proofs.YtbgfjemppjhmjaaGreat
set_option linter.unusedSimpArgs false
open Go Go.K
set_option maxRecDepth 100000
set_option maxHeartbeats 4000000
set_option linter.unusedVariables false
noncomputable section
def Rawake (sp : Value)  : Prop :=
 ((True) /\ (∀ H' : Heap, H'.length = 0 -> (True) -> KCall prog 54 [] H' [] (Is (.tuple #[.pointer (some ⟨0, 0, none⟩), .int .i64 0]) (H' ++ [(.cells true 0 [.map (some 1)] : KObj), (.map (heldE []) : KObj)]))) /\ (((some (.cells true 0 [.map (some 1)] : KObj) = some (.cells true 0 [.map (some 1)] : KObj)) /\ (some (.map (heldE []) : KObj) = some (.map (heldE []) : KObj)) /\ True) /\ (∀ H' : Heap, H'.length = 2 -> (H'[0]? = some (.cells true 0 [.map (some 1)] : KObj) /\ H'[1]? = some (.map (heldE []) : KObj) /\ True) -> KCall prog 31 [.pointer (some ⟨0, 0, none⟩), .agg #[.int .i64 1, .int .i64 5, .int .i64 9, .int .i64 3, .int .i64 0, .int .i64 0, .int .i64 2]] H' [1] (Is (.tuple #[.bool true, .int .i64 0]) (List.set H' 1 (.map (heldE [mA]) : KObj)))) /\ (((some (.cells true 0 [.map (some 1)] : KObj) = some (.cells true 0 [.map (some 1)] : KObj)) /\ (some (.map (heldE [mA]) : KObj) = some (.map (heldE [mA]) : KObj)) /\ True) /\ (∀ H' : Heap, H'.length = 2 -> (H'[0]? = some (.cells true 0 [.map (some 1)] : KObj) /\ H'[1]? = some (.map (heldE [mA]) : KObj) /\ True) -> KCall prog 31 [.pointer (some ⟨0, 0, none⟩), .agg #[.int .i64 1, .int .i64 2, .int .i64 10, .int .i64 1, .int .i64 7, .int .i64 3, .int .i64 0]] H' [1] (Is (.tuple #[.bool true, .int .i64 0]) (List.set H' 1 (.map (heldE [mA, mB]) : KObj)))) /\ (((some (.cells true 0 [.map (some 1)] : KObj) = some (.cells true 0 [.map (some 1)] : KObj)) /\ (some (.map (heldE [mA, mB]) : KObj) = some (.map (heldE [mA, mB]) : KObj)) /\ True) /\ (∀ H' : Heap, H'.length = 2 -> (H'[0]? = some (.cells true 0 [.map (some 1)] : KObj) /\ H'[1]? = some (.map (heldE [mA, mB]) : KObj) /\ True) -> KCall prog 34 [.pointer (some ⟨0, 0, none⟩)] H' [] (Is (.tuple #[.slice (some ⟨2, 0, some 2⟩) 0 0, .int .i64 0]) (H' ++ [(.cells true 7 [] : KObj)]))) /\ (((some (.cells true 0 [.map (some 1)] : KObj) = some (.cells true 0 [.map (some 1)] : KObj)) /\ (some (.map (heldE [mA, mB]) : KObj) = some (.map (heldE [mA, mB]) : KObj)) /\ True) /\ (∀ H' : Heap, H'.length = 3 -> (H'[0]? = some (.cells true 0 [.map (some 1)] : KObj) /\ H'[1]? = some (.map (heldE [mA, mB]) : KObj) /\ True) -> KCall prog 33 [.pointer (some ⟨0, 0, none⟩), .int .i64 1] H' [] (Is (.tuple #[.slice (some ⟨3, 0, some 1⟩) 2 2, .int .i64 0]) (H' ++ [(.cells true 2 [.int .i64 1, .int .i64 1, .int .i64 3, .int .i64 4] : KObj)]))) /\ (((some (.cells true 0 [.map (some 1)] : KObj) = some (.cells true 0 [.map (some 1)] : KObj)) /\ (some (.map (heldE [mA, mB]) : KObj) = some (.map (heldE [mA, mB]) : KObj)) /\ True) /\ (∀ H' : Heap, H'.length = 5 -> (H'[0]? = some (.cells true 0 [.map (some 1)] : KObj) /\ H'[1]? = some (.map (heldE [mA, mB]) : KObj) /\ True) -> KCall prog 31 [.pointer (some ⟨0, 0, none⟩), .agg #[.int .i64 1, .int .i64 5, .int .i64 9, .int .i64 1, .int .i64 8, .int .i64 0, .int .i64 0]] H' [1] (Is (.tuple #[.bool true, .int .i64 0]) (List.set H' 1 (.map (heldE [mA, mB, mC]) : KObj)))) /\ (((some (.cells true 0 [.map (some 1)] : KObj) = some (.cells true 0 [.map (some 1)] : KObj)) /\ (some (.map (heldE [mA, mB, mC]) : KObj) = some (.map (heldE [mA, mB, mC]) : KObj)) /\ True) /\ (∀ H' : Heap, H'.length = 5 -> (H'[0]? = some (.cells true 0 [.map (some 1)] : KObj) /\ H'[1]? = some (.map (heldE [mA, mB, mC]) : KObj) /\ True) -> KCall prog 34 [.pointer (some ⟨0, 0, none⟩)] H' [] (Is (.tuple #[.slice (some ⟨5, 0, some 2⟩) 1 1, .int .i64 0]) (H' ++ [(.cells true 7 [.int .i64 1, .int .i64 2, .int .i64 10, .int .i64 1, .int .i64 7, .int .i64 3, .int .i64 0] : KObj)]))) /\ (((some (.cells true 1 [.bool false, .bool false, .bool false, .bool false, .bool false] : KObj) = some (.cells true 1 [.bool false, .bool false, .bool false, .bool false, .bool false] : KObj)) /\ (some (.cells true 2 [.int .i64 0, .int .i64 0, .int .i64 30, .int .i64 4, .int .i64 40, .int .i64 2] : KObj) = some (.cells true 2 [.int .i64 0, .int .i64 0, .int .i64 30, .int .i64 4, .int .i64 40, .int .i64 2] : KObj)) /\ True) /\ (∀ H' : Heap, H'.length = 23 -> (H'[15]? = some (.cells true 1 [.bool false, .bool false, .bool false, .bool false, .bool false] : KObj) /\ H'[21]? = some (.cells true 2 [.int .i64 0, .int .i64 0, .int .i64 30, .int .i64 4, .int .i64 40, .int .i64 2] : KObj) /\ True) -> KCall prog 24 [.agg #[.int .i64 5, .int .i64 1, .slice (some ⟨15, 0, none⟩) 5 5, .int .i64 10, .slice (some ⟨21, 0, none⟩) 3 3]] H' [] (Is (.tuple #[.slice (some ⟨23, 0, none⟩) 3 3, .int .i64 0]) (H' ++ [(.cells true 1 [.bool true, .bool false, .bool true] : KObj)]))) /\ (((some (.cells true 1 [.bool false, .bool false, .bool false, .bool false, .bool false] : KObj) = some (.cells true 1 [.bool false, .bool false, .bool false, .bool false, .bool false] : KObj)) /\ (some (.cells true 2 [.int .i64 0, .int .i64 0, .int .i64 40, .int .i64 2] : KObj) = some (.cells true 2 [.int .i64 0, .int .i64 0, .int .i64 40, .int .i64 2] : KObj)) /\ True) /\ (∀ H' : Heap, H'.length = 26 -> (H'[15]? = some (.cells true 1 [.bool false, .bool false, .bool false, .bool false, .bool false] : KObj) /\ H'[25]? = some (.cells true 2 [.int .i64 0, .int .i64 0, .int .i64 40, .int .i64 2] : KObj) /\ True) -> KCall prog 18 [.agg #[.int .i64 5, .int .i64 1, .slice (some ⟨15, 0, none⟩) 5 5, .int .i64 10, .slice (some ⟨25, 0, none⟩) 2 2], .int .i64 25] H' [] (Is (.tuple #[.slice (some ⟨26, 0, none⟩) 2 2, .int .i64 0]) (H' ++ [(.cells true 1 [.int .i64 1, .int .i64 2] : KObj)]))) /\ (((some (.cells true 1 [.bool false, .bool false, .bool false, .bool false, .bool false] : KObj) = some (.cells true 1 [.bool false, .bool false, .bool false, .bool false, .bool false] : KObj)) /\ (some (.cells true 2 [.int .i64 0, .int .i64 0, .int .i64 40, .int .i64 2] : KObj) = some (.cells true 2 [.int .i64 0, .int .i64 0, .int .i64 40, .int .i64 2] : KObj)) /\ True) /\ (∀ H' : Heap, H'.length = 27 -> (H'[15]? = some (.cells true 1 [.bool false, .bool false, .bool false, .bool false, .bool false] : KObj) /\ H'[25]? = some (.cells true 2 [.int .i64 0, .int .i64 0, .int .i64 40, .int .i64 2] : KObj) /\ True) -> KCall prog 19 [.agg #[.int .i64 5, .int .i64 1, .slice (some ⟨15, 0, none⟩) 5 5, .int .i64 10, .slice (some ⟨25, 0, none⟩) 2 2], .int .i64 1] H' [] (Is (.tuple #[.slice (some ⟨27, 0, none⟩) 1 1, .int .i64 0]) (H' ++ [(.cells true 2 [.int .i64 10, .int .i64 30] : KObj)]))) /\ (.bool true : Value) = sp))))))))))
theorem Eawake (sp : Value)  : vF prog msk (dm 0) 100000 true 40 true 14 [] ⟨0, .leaf⟩ (some [])
  (.go 0 (.ans [] (.tuple #[.pointer (some ⟨0, 0, none⟩), .int .i64 0]) [.cells true 0 [.map (some 1)], .map (heldE [])] (.go 13 (.answ [(0, .cells true 0 [.map (some 1)]), (1, .map (heldE []))] (.tuple #[.bool true, .int .i64 0]) [(1, .map (heldE [mA]))] [] (.go 6 (.answ [(0, .cells true 0 [.map (some 1)]), (1, .map (heldE [mA]))] (.tuple #[.bool true, .int .i64 0]) [(1, .map (heldE [mA, mB]))] [] (.go 5 (.ans [(0, .cells true 0 [.map (some 1)]), (1, .map (heldE [mA, mB]))] (.tuple #[.slice (some ⟨2, 0, some 2⟩) 0 0, .int .i64 0]) [.cells true 7 []] (.go 5 (.ans [(0, .cells true 0 [.map (some 1)]), (1, .map (heldE [mA, mB]))] (.tuple #[.slice (some ⟨3, 0, some 1⟩) 2 2, .int .i64 0]) [.cells true 2 [.int .i64 1, .int .i64 1, .int .i64 3, .int .i64 4]] (.go 92 (.answ [(0, .cells true 0 [.map (some 1)]), (1, .map (heldE [mA, mB]))] (.tuple #[.bool true, .int .i64 0]) [(1, .map (heldE [mA, mB, mC]))] [] (.go 4 (.ans [(0, .cells true 0 [.map (some 1)]), (1, .map (heldE [mA, mB, mC]))] (.tuple #[.slice (some ⟨5, 0, some 2⟩) 1 1, .int .i64 0]) [.cells true 7 [.int .i64 1, .int .i64 2, .int .i64 10, .int .i64 1, .int .i64 7, .int .i64 3, .int .i64 0]] (.go 117 (.ans [(15, .cells true 1 [.bool false, .bool false, .bool false, .bool false, .bool false]), (21, .cells true 2 [.int .i64 0, .int .i64 0, .int .i64 30, .int .i64 4, .int .i64 40, .int .i64 2])] (.tuple #[.slice (some ⟨23, 0, none⟩) 3 3, .int .i64 0]) [.cells true 1 [.bool true, .bool false, .bool true]] (.go 16 (.ans [(15, .cells true 1 [.bool false, .bool false, .bool false, .bool false, .bool false]), (25, .cells true 2 [.int .i64 0, .int .i64 0, .int .i64 40, .int .i64 2])] (.tuple #[.slice (some ⟨26, 0, none⟩) 2 2, .int .i64 0]) [.cells true 1 [.int .i64 1, .int .i64 2]] (.go 5 (.ans [(15, .cells true 1 [.bool false, .bool false, .bool false, .bool false, .bool false]), (25, .cells true 2 [.int .i64 0, .int .i64 0, .int .i64 40, .int .i64 2])] (.tuple #[.slice (some ⟨27, 0, none⟩) 1 1, .int .i64 0]) [.cells true 2 [.int .i64 10, .int .i64 30]] (.auto)))))))))))))))))))))
  (fun v _ _ => v = sp) = Rawake sp  := by kernel_rfl
end
end Go.Proofs.YtbgfjemppjhmjaaGreat
/- Radio: maps of numbers that are known,and the greatest value in one. No condition. -/
namespace Go.Proofs.YtbgfjemppjhmjaaGreat
set_option linter.unusedSimpArgs false
open Go Go.K
set_option linter.unusedVariables false
noncomputable section
abbrev sL (i n c : Nat) : Value:=.slice (some ⟨i,0,none⟩) n c
abbrev mapI (F : List (Int × Int)) : List (Value × Value):=encA (fun k : Int => .int .i64 k) (fun v : Int => .int .i64 v) F
def SeenL (n : Nat) (s : List Nat) : Prop:=s.Nodup /\ ∀ i ∈ s,i < n
def maxS (E : List (Int × Int)) (s : List Nat) : Int:=s.foldl (fun n i => if (List.getD E i (0,0)).2 > n then (List.getD E i (0,0)).2 else n) 0
def maxI (E : List (Int × Int)) : Int:=E.foldl (fun n e => if e.2 > n then e.2 else n) 0
theorem seenL_0 (n : Nat) : SeenL n []:=⟨List.nodup_nil,fun i h => by cases h⟩
theorem seenL_snoc {n : Nat} {s : List Nat} {i : Nat} (h : SeenL n s) (hi : i < n) (hn : i ∉ s) : SeenL n (s ++ [i]) :=
 ⟨List.nodup_append.2 ⟨h.1,(by simp),fun a ha b hb e => hn (by rw [List.mem_singleton.1 hb] at e; exact e ▸ ha)⟩,fun j hj => by
  rcases List.mem_append.1 hj with h1 | h1
  ·exact h.2 j h1
  ·rw [List.mem_singleton.1 h1]; exact hi⟩
theorem seenL_len {n : Nat} {s : List Nat} (h : SeenL n s) : s.length <= n:=by
 have h2:=seen_len (L:=List.replicate n zeroM) (s:=s) ⟨h.1,fun i hi => by rw [List.length_replicate]; exact h.2 i hi⟩
 rwa [List.length_replicate] at h2
theorem seenL_more {n : Nat} {s : List Nat} {i : Nat} (h : SeenL n s) (hi : i < n) (hn : i ∉ s) : n - (s ++ [i]).length < n - s.length:=by
 have:=seenL_len (seenL_snoc h hi hn)
 rw [List.length_append] at this ⊢
 simp only [List.length_cons,List.length_nil] at this ⊢
 omega
theorem maxS_snoc (E : List (Int × Int)) (s : List Nat) (i : Nat) : maxS E (s ++ [i]) = if (List.getD E i (0,0)).2 > maxS E s then (List.getD E i (0,0)).2 else maxS E s:=by
 unfold maxS; rw [List.foldl_append]; rfl
theorem maxS_all {E : List (Int × Int)} {s : List Nat} (h : SeenL E.length s) (h3 : ∀ i,i < E.length -> i ∈ s) {k : Int} (hk : maxI E = k) : maxS E s = k:=by
 have hp : s.Perm (List.range E.length):=seen_perm h.1 h.2 h3
 rw [<- hk]
 have e1 : maxS E s = maxS E (List.range E.length):=by
  unfold maxS
  refine hp.foldl_eq' (fun x _ y _ z => ?_) 0
  repeat' split
  all_goals omega
 rw [e1]
 have e2 : maxI E = maxI ((List.range E.length).map fun i => E.getD i (0,0)):=by rw [rangeG]
 rw [e2]
 unfold maxS maxI
 rw [List.foldl_map]
theorem entI (E : List (Int × Int)) {i : Nat} (hi : i < E.length) (s : List Nat) : entryE (mapI E) (s ++ [i]) = some (.tuple #[.int .i64 (List.getD E i (0,0)).1,.int .i64 (List.getD E i (0,0)).2]):=by
 unfold mapI
 rw [entry_A (0,0) hi]
end
end Go.Proofs.YtbgfjemppjhmjaaGreat
/- Closed calls of the chapter's examples. Printed by a program. No condition. -/
namespace Go.Proofs.YtbgfjemppjhmjaaGreat
set_option linter.unusedSimpArgs false
open Go Go.K
set_option maxRecDepth 1000000
set_option maxHeartbeats 4000000
set_option linter.unusedVariables false
noncomputable section
attribute [local irreducible] vF
def R106_733418866 : Prop :=
 (/-N ⟨(by kernel_rfl),REST⟩-/(ksetE prog 3 (nI 0) (nI 1) (mapI []) = some (mapI [(0,1)])) /\ (/-N ⟨(by kernel_rfl),REST⟩-/(ksetE prog 3 (nI 1) (nI 1) (mapI [(0,1)]) = some (mapI [(0,1),(1,1)])) /\ (/-N ⟨(by kernel_rfl),REST⟩-/(ksetE prog 3 (nI 2) (nI 1) (mapI [(0,1),(1,1)]) = some (mapI [(0,1),(1,1),(2,1)])) /\ (/-N ⟨(by kernel_rfl),REST⟩-/(klookE prog 3 (nI 0) (nI 2) false (mapI [(0,1),(1,1),(2,1)]) = some (nI 1)) /\ (/-N ⟨(by kernel_rfl),REST⟩-/(klookE prog 3 (nI 0) (nI 0) false (mapI [(0,1),(1,1),(2,1)]) = some (nI 1)) /\ (/-N ⟨(by kernel_rfl),REST⟩-/(ksetE prog 3 (nI 2) (nI 2) (mapI [(0,1),(1,1),(2,1)]) = some (mapI [(0,1),(1,1),(2,2)])) /\ (true = true /\ wk (.map (some 11) : Value) (rn (sg 8 [(8,11)]) 3 (.map (some 8) : Value)) /\ (wkO (.map (mapI [(0,1),(1,1),(2,2)]) : KObj) (rno (sg 8 [(8,11)]) 3 (.map (mapI [(0,1),(1,1),(2,2)]) : KObj)) /\ True))))))))
theorem E106_733418866 : vF prog msk (dm 0) 100000 true 40 true 106 [.pointer (some ⟨0,0,none⟩),sL 1 3 3] (readsT 0 [[nI 5,nI 1,sL 2 5 5,nI 10,sL 3 3 3,sL 4 3 3],[nI 0,nI 1,nI 2],[.bool false,.bool false,.bool false,.bool false,.bool false],[nI 0,nI 0,nI 30,nI 4,nI 40,nI 2],[sL 5 5 5,sL 6 5 5,sL 7 5 5],[nI 0,nI 1,nI 2,nI 3,nI 4],[nI 4,nI 3,nI 2,nI 1,nI 0],[nI 2,nI 1,nI 0,nI 1,nI 2]]) (some [])
 (.go 14 (.into (some [8,9,10]) (.go 3 (.into (some [8,9,10]) (.go 11 (.into (some [8,9,10]) (.go 120 (.mset (mapI [(0,1)]) (.go 17 (.mset (mapI [(0,1),(1,1)]) (.go 108 (.mset (mapI [(0,1),(1,1),(2,1)]) (.go 97 (.val (nI 1) (.go 1 (.val (nI 1) (.go 1 (.mset (mapI [(0,1),(1,1),(2,2)]) (.go 100 (.again [(8,11)]))))))))))))))))))))
 (newK (readsT 0 [[nI 5,nI 1,sL 2 5 5,nI 10,sL 3 3 3,sL 4 3 3],[nI 0,nI 1,nI 2],[.bool false,.bool false,.bool false,.bool false,.bool false],[nI 0,nI 0,nI 30,nI 4,nI 40,nI 2],[sL 5 5 5,sL 6 5 5,sL 7 5 5],[nI 0,nI 1,nI 2,nI 3,nI 4],[nI 4,nI 3,nI 2,nI 1,nI 0],[nI 2,nI 1,nI 0,nI 1,nI 2]]).n 3 (.map (some 8)) [(false,.map (mapI [(0,1),(1,1),(2,2)]))]) = R106_733418866:=by kernel_rfl
theorem P106_733418866 : R106_733418866:=⟨(by kernel_rfl),⟨(by kernel_rfl),⟨(by kernel_rfl),⟨(by kernel_rfl),⟨(by kernel_rfl),⟨(by kernel_rfl),⟨rfl,wk_of_eq rfl,wkO_of_eq rfl,trivial⟩⟩⟩⟩⟩⟩⟩
theorem C106_733418866 {H : Heap} (ids : List Nat) (h : InsA H (sgR 0 ids) ids [[nI 5,nI 1,sL 2 5 5,nI 10,sL 3 3 3,sL 4 3 3],[nI 0,nI 1,nI 2],[.bool false,.bool false,.bool false,.bool false,.bool false],[nI 0,nI 0,nI 30,nI 4,nI 40,nI 2],[sL 5 5 5,sL 6 5 5,sL 7 5 5],[nI 0,nI 1,nI 2,nI 3,nI 4],[nI 4,nI 3,nI 2,nI 1,nI 0],[nI 2,nI 1,nI 0,nI 1,nI 2]]) : KCall prog 106 (([.pointer (some ⟨0,0,none⟩),sL 1 3 3] : List Value).map (rn (sgR 0 ids) 3)) H [] (Is (rn (sgUp 8 H.length) 3 (.map (some 8))) (H ++ [rno (sgUp 8 H.length) 3 (.map (mapI [(0,1),(1,1),(2,2)]))])) :=
 valNA (css:=[[nI 5,nI 1,sL 2 5 5,nI 10,sL 3 3 3,sL 4 3 3],[nI 0,nI 1,nI 2],[.bool false,.bool false,.bool false,.bool false,.bool false],[nI 0,nI 0,nI 30,nI 4,nI 40,nI 2],[sL 5 5 5,sL 6 5 5,sL 7 5 5],[nI 0,nI 1,nI 2,nI 3,nI 4],[nI 4,nI 3,nI 2,nI 1,nI 0],[nI 2,nI 1,nI 0,nI 1,nI 2]]) (v:=.map (some 8)) (new:=[(false,.map (mapI [(0,1),(1,1),(2,2)]))]) (Eq.mpr E106_733418866 P106_733418866) rfl rfl rfl rfl ids h.len h.get
def R106_276827979 : Prop :=
 (/-N ⟨(by kernel_rfl),REST⟩-/(ksetE prog 3 (nI 0) (nI 1) (mapI []) = some (mapI [(0,1)])) /\ (/-N ⟨(by kernel_rfl),REST⟩-/(ksetE prog 3 (nI 2) (nI 1) (mapI [(0,1)]) = some (mapI [(0,1),(2,1)])) /\ (/-N ⟨(by kernel_rfl),REST⟩-/(klookE prog 3 (nI 0) (nI 2) false (mapI [(0,1),(2,1)]) = some (nI 1)) /\ (/-N ⟨(by kernel_rfl),REST⟩-/(klookE prog 3 (nI 0) (nI 0) false (mapI [(0,1),(2,1)]) = some (nI 1)) /\ (/-N ⟨(by kernel_rfl),REST⟩-/(ksetE prog 3 (nI 2) (nI 2) (mapI [(0,1),(2,1)]) = some (mapI [(0,1),(2,2)])) /\ (true = true /\ wk (.map (some 11) : Value) (rn (sg 8 [(8,11)]) 3 (.map (some 8) : Value)) /\ (wkO (.map (mapI [(0,1),(2,2)]) : KObj) (rno (sg 8 [(8,11)]) 3 (.map (mapI [(0,1),(2,2)]) : KObj)) /\ True)))))))
theorem E106_276827979 : vF prog msk (dm 0) 100000 true 40 true 106 [.pointer (some ⟨0,0,none⟩),sL 1 2 3] (readsT 0 [[nI 5,nI 1,sL 2 5 5,nI 10,sL 3 3 3,sL 4 3 3],[nI 0,nI 2,nI 0],[.bool false,.bool false,.bool false,.bool false,.bool false],[nI 0,nI 0,nI 30,nI 4,nI 40,nI 2],[sL 5 5 5,sL 6 5 5,sL 7 5 5],[nI 0,nI 1,nI 2,nI 3,nI 4],[nI 4,nI 3,nI 2,nI 1,nI 0],[nI 2,nI 1,nI 0,nI 1,nI 2]]) (some [])
 (.go 14 (.into (some [8,9,10]) (.go 3 (.into (some [8,9,10]) (.go 11 (.into (some [8,9,10]) (.go 72 (.mset (mapI [(0,1)]) (.go 17 (.mset (mapI [(0,1),(2,1)]) (.go 97 (.val (nI 1) (.go 1 (.val (nI 1) (.go 1 (.mset (mapI [(0,1),(2,2)]) (.go 9 (.again [(8,11)]))))))))))))))))))
 (newK (readsT 0 [[nI 5,nI 1,sL 2 5 5,nI 10,sL 3 3 3,sL 4 3 3],[nI 0,nI 2,nI 0],[.bool false,.bool false,.bool false,.bool false,.bool false],[nI 0,nI 0,nI 30,nI 4,nI 40,nI 2],[sL 5 5 5,sL 6 5 5,sL 7 5 5],[nI 0,nI 1,nI 2,nI 3,nI 4],[nI 4,nI 3,nI 2,nI 1,nI 0],[nI 2,nI 1,nI 0,nI 1,nI 2]]).n 3 (.map (some 8)) [(false,.map (mapI [(0,1),(2,2)]))]) = R106_276827979:=by kernel_rfl
theorem P106_276827979 : R106_276827979:=⟨(by kernel_rfl),⟨(by kernel_rfl),⟨(by kernel_rfl),⟨(by kernel_rfl),⟨(by kernel_rfl),⟨rfl,wk_of_eq rfl,wkO_of_eq rfl,trivial⟩⟩⟩⟩⟩⟩
theorem C106_276827979 {H : Heap} (ids : List Nat) (h : InsA H (sgR 0 ids) ids [[nI 5,nI 1,sL 2 5 5,nI 10,sL 3 3 3,sL 4 3 3],[nI 0,nI 2,nI 0],[.bool false,.bool false,.bool false,.bool false,.bool false],[nI 0,nI 0,nI 30,nI 4,nI 40,nI 2],[sL 5 5 5,sL 6 5 5,sL 7 5 5],[nI 0,nI 1,nI 2,nI 3,nI 4],[nI 4,nI 3,nI 2,nI 1,nI 0],[nI 2,nI 1,nI 0,nI 1,nI 2]]) : KCall prog 106 (([.pointer (some ⟨0,0,none⟩),sL 1 2 3] : List Value).map (rn (sgR 0 ids) 3)) H [] (Is (rn (sgUp 8 H.length) 3 (.map (some 8))) (H ++ [rno (sgUp 8 H.length) 3 (.map (mapI [(0,1),(2,2)]))])) :=
 valNA (css:=[[nI 5,nI 1,sL 2 5 5,nI 10,sL 3 3 3,sL 4 3 3],[nI 0,nI 2,nI 0],[.bool false,.bool false,.bool false,.bool false,.bool false],[nI 0,nI 0,nI 30,nI 4,nI 40,nI 2],[sL 5 5 5,sL 6 5 5,sL 7 5 5],[nI 0,nI 1,nI 2,nI 3,nI 4],[nI 4,nI 3,nI 2,nI 1,nI 0],[nI 2,nI 1,nI 0,nI 1,nI 2]]) (v:=.map (some 8)) (new:=[(false,.map (mapI [(0,1),(2,2)]))]) (Eq.mpr E106_276827979 P106_276827979) rfl rfl rfl rfl ids h.len h.get
def R106_671112452 : Prop :=
 (/-N ⟨(by kernel_rfl),REST⟩-/(ksetE prog 3 (nI 0) (nI 1) (mapI []) = some (mapI [(0,1)])) /\ (/-N ⟨(by kernel_rfl),REST⟩-/(ksetE prog 3 (nI 2) (nI 1) (mapI [(0,1)]) = some (mapI [(0,1),(2,1)])) /\ (/-N ⟨(by kernel_rfl),REST⟩-/(klookE prog 3 (nI 0) (nI 2) false (mapI [(0,1),(2,1)]) = some (nI 1)) /\ (/-N ⟨(by kernel_rfl),REST⟩-/(klookE prog 3 (nI 0) (nI 0) false (mapI [(0,1),(2,1)]) = some (nI 1)) /\ (/-N ⟨(by kernel_rfl),REST⟩-/(ksetE prog 3 (nI 2) (nI 2) (mapI [(0,1),(2,1)]) = some (mapI [(0,1),(2,2)])) /\ (true = true /\ wk (.map (some 11) : Value) (rn (sg 8 [(8,11)]) 3 (.map (some 8) : Value)) /\ (wkO (.map (mapI [(0,1),(2,2)]) : KObj) (rno (sg 8 [(8,11)]) 3 (.map (mapI [(0,1),(2,2)]) : KObj)) /\ True)))))))
theorem E106_671112452 : vF prog msk (dm 0) 100000 true 40 true 106 [.pointer (some ⟨0,0,none⟩),sL 1 2 2] (readsT 0 [[nI 5,nI 1,sL 2 5 5,nI 10,sL 3 3 3,sL 4 3 3],[nI 0,nI 2],[.bool false,.bool false,.bool false,.bool false,.bool false],[nI 0,nI 0,nI 30,nI 4,nI 40,nI 2],[sL 5 5 5,sL 6 5 5,sL 7 5 5],[nI 0,nI 1,nI 2,nI 3,nI 4],[nI 4,nI 3,nI 2,nI 1,nI 0],[nI 2,nI 1,nI 0,nI 1,nI 2]]) (some [])
 (.go 14 (.into (some [8,9,10]) (.go 3 (.into (some [8,9,10]) (.go 11 (.into (some [8,9,10]) (.go 72 (.mset (mapI [(0,1)]) (.go 17 (.mset (mapI [(0,1),(2,1)]) (.go 97 (.val (nI 1) (.go 1 (.val (nI 1) (.go 1 (.mset (mapI [(0,1),(2,2)]) (.go 9 (.again [(8,11)]))))))))))))))))))
 (newK (readsT 0 [[nI 5,nI 1,sL 2 5 5,nI 10,sL 3 3 3,sL 4 3 3],[nI 0,nI 2],[.bool false,.bool false,.bool false,.bool false,.bool false],[nI 0,nI 0,nI 30,nI 4,nI 40,nI 2],[sL 5 5 5,sL 6 5 5,sL 7 5 5],[nI 0,nI 1,nI 2,nI 3,nI 4],[nI 4,nI 3,nI 2,nI 1,nI 0],[nI 2,nI 1,nI 0,nI 1,nI 2]]).n 3 (.map (some 8)) [(false,.map (mapI [(0,1),(2,2)]))]) = R106_671112452:=by kernel_rfl
theorem P106_671112452 : R106_671112452:=⟨(by kernel_rfl),⟨(by kernel_rfl),⟨(by kernel_rfl),⟨(by kernel_rfl),⟨(by kernel_rfl),⟨rfl,wk_of_eq rfl,wkO_of_eq rfl,trivial⟩⟩⟩⟩⟩⟩
theorem C106_671112452 {H : Heap} (ids : List Nat) (h : InsA H (sgR 0 ids) ids [[nI 5,nI 1,sL 2 5 5,nI 10,sL 3 3 3,sL 4 3 3],[nI 0,nI 2],[.bool false,.bool false,.bool false,.bool false,.bool false],[nI 0,nI 0,nI 30,nI 4,nI 40,nI 2],[sL 5 5 5,sL 6 5 5,sL 7 5 5],[nI 0,nI 1,nI 2,nI 3,nI 4],[nI 4,nI 3,nI 2,nI 1,nI 0],[nI 2,nI 1,nI 0,nI 1,nI 2]]) : KCall prog 106 (([.pointer (some ⟨0,0,none⟩),sL 1 2 2] : List Value).map (rn (sgR 0 ids) 3)) H [] (Is (rn (sgUp 8 H.length) 3 (.map (some 8))) (H ++ [rno (sgUp 8 H.length) 3 (.map (mapI [(0,1),(2,2)]))])) :=
 valNA (css:=[[nI 5,nI 1,sL 2 5 5,nI 10,sL 3 3 3,sL 4 3 3],[nI 0,nI 2],[.bool false,.bool false,.bool false,.bool false,.bool false],[nI 0,nI 0,nI 30,nI 4,nI 40,nI 2],[sL 5 5 5,sL 6 5 5,sL 7 5 5],[nI 0,nI 1,nI 2,nI 3,nI 4],[nI 4,nI 3,nI 2,nI 1,nI 0],[nI 2,nI 1,nI 0,nI 1,nI 2]]) (v:=.map (some 8)) (new:=[(false,.map (mapI [(0,1),(2,2)]))]) (Eq.mpr E106_671112452 P106_671112452) rfl rfl rfl rfl ids h.len h.get
end
end Go.Proofs.YtbgfjemppjhmjaaGreat
/- Closed calls of the chapter's examples. Printed by a program. No condition. -/
namespace Go.Proofs.YtbgfjemppjhmjaaGreat
set_option linter.unusedSimpArgs false
open Go Go.K
set_option maxRecDepth 1000000
set_option maxHeartbeats 4000000
set_option linter.unusedVariables false
noncomputable section
attribute [local irreducible] vF
def R83_733418866 (sp : Value) : Prop :=
 (((someR (.cells false 0 [nI 5,nI 1,sL 2 5 5,nI 10,sL 3 3 3,sL 4 3 3] : KObj)) /\ (someR (.cells false 0 [nI 0,nI 1,nI 2] : KObj)) /\ (someR (.cells false 0 [.bool false,.bool false,.bool false,.bool false,.bool false] : KObj)) /\ (someR (.cells false 0 [nI 0,nI 0,nI 30,nI 4,nI 40,nI 2] : KObj)) /\ (someR (.cells false 0 [sL 5 5 5,sL 6 5 5,sL 7 5 5] : KObj)) /\ (someR (.cells false 0 [nI 0,nI 1,nI 2,nI 3,nI 4] : KObj)) /\ (someR (.cells false 0 [nI 4,nI 3,nI 2,nI 1,nI 0] : KObj)) /\ (someR (.cells false 0 [nI 2,nI 1,nI 0,nI 1,nI 2] : KObj)) /\ True) /\ (∀ H' : Heap,H'.length = 8 -> (H'[0]? = some (.cells false 0 [nI 5,nI 1,sL 2 5 5,nI 10,sL 3 3 3,sL 4 3 3] : KObj) /\ H'[1]? = some (.cells false 0 [nI 0,nI 1,nI 2] : KObj) /\ H'[2]? = some (.cells false 0 [.bool false,.bool false,.bool false,.bool false,.bool false] : KObj) /\ H'[3]? = some (.cells false 0 [nI 0,nI 0,nI 30,nI 4,nI 40,nI 2] : KObj) /\ H'[4]? = some (.cells false 0 [sL 5 5 5,sL 6 5 5,sL 7 5 5] : KObj) /\ H'[5]? = some (.cells false 0 [nI 0,nI 1,nI 2,nI 3,nI 4] : KObj) /\ H'[6]? = some (.cells false 0 [nI 4,nI 3,nI 2,nI 1,nI 0] : KObj) /\ H'[7]? = some (.cells false 0 [nI 2,nI 1,nI 0,nI 1,nI 2] : KObj) /\ True) -> /-N ⟨⟨rfl,rfl,rfl,rfl,rfl,rfl,rfl,rfl,trivial⟩,fun H' hl h => (by have k:=C106_733418866 (H:=H') [0,1,2,3,4,5,6,7] ⟨⟨_,_,h.1⟩,⟨_,_,h.2.1⟩,⟨_,_,h.2.2.1⟩,⟨_,_,h.2.2.2.1⟩,⟨_,_,h.2.2.2.2.1⟩,⟨_,_,h.2.2.2.2.2.1⟩,⟨_,_,h.2.2.2.2.2.2.1⟩,⟨_,_,h.2.2.2.2.2.2.2.1⟩,trivial⟩; rw [hl] at k; exact k),REST⟩-/KCall prog 106 [.pointer (some ⟨0,0,none⟩),sL 1 3 3] H' [] (Is (.map (some 8)) (H' ++ [(.map (mapI [(0,1),(1,1),(2,2)]) : KObj)]))) /\ (true = true /\ (SeenL (List.length ([(0,1),(1,1),(2,2)] : List (Int × Int))) ([] : List Nat)) /\ (true = true /\ ((nI 0 : Value) = nI (maxS [(0,1),(1,1),(2,2)] ([] : List Nat)) /\ (nI 0 : Value) = nI 0 /\ (.pointer (some ⟨9,0,none⟩) : Value) = .pointer (some ⟨9,0,none⟩) /\ True) /\ ((some (.iter 8 (List.length (mapI [(0,1),(1,1),(2,2)])) [] : KObj) = some (.iter 8 (List.length (mapI [(0,1),(1,1),(2,2)])) ([] : List Nat) : KObj) /\ belowO 10 (.iter 8 (List.length (mapI [(0,1),(1,1),(2,2)])) ([] : List Nat) : KObj) = true) /\ True) /\ (True) /\ (True)) /\ (∀ x1 : List Nat,true = true) /\ ∀ x1 : List Nat,(SeenL (List.length ([(0,1),(1,1),(2,2)] : List (Int × Int))) x1) -> ((List.length (mapI [(0,1),(1,1),(2,2)]) = (List.length (mapI [(0,1),(1,1),(2,2)]))) /\ (∀ x2 : Nat,x2 < (List.length (mapI [(0,1),(1,1),(2,2)])) -> x2 ∉ x1 -> ((List.length (mapI [(0,1),(1,1),(2,2)]) = (List.length (mapI [(0,1),(1,1),(2,2)]))) /\ (entryE (mapI [(0,1),(1,1),(2,2)]) (x1 ++ [x2]) = some (.tuple #[nI (List.getD ([(0,1),(1,1),(2,2)] : List (Int × Int)) x2 (0,0)).1,nI (List.getD ([(0,1),(1,1),(2,2)] : List (Int × Int)) x2 (0,0)).2])) /\ (∃ x1' : List Nat,(SeenL (List.length ([(0,1),(1,1),(2,2)] : List (Int × Int))) x1') /\ (List.length ([(0,1),(1,1),(2,2)] : List (Int × Int)) - List.length x1') < (List.length ([(0,1),(1,1),(2,2)] : List (Int × Int)) - List.length x1) /\ true = true /\ ((nI (if ((List.getD ([(0,1),(1,1),(2,2)] : List (Int × Int)) x2 (0,0)).2 : Int) > (maxS [(0,1),(1,1),(2,2)] x1) then ((List.getD ([(0,1),(1,1),(2,2)] : List (Int × Int)) x2 (0,0)).2 : Int) else (maxS [(0,1),(1,1),(2,2)] x1)) : Value) = nI (maxS [(0,1),(1,1),(2,2)] x1') /\ (nI 0 : Value) = nI 0 /\ (.pointer (some ⟨9,0,none⟩) : Value) = .pointer (some ⟨9,0,none⟩) /\ True) /\ ((some (.iter 8 (List.length (mapI [(0,1),(1,1),(2,2)])) (x1 ++ [x2]) : KObj) = some (.iter 8 (List.length (mapI [(0,1),(1,1),(2,2)])) x1' : KObj) /\ belowO 10 (.iter 8 (List.length (mapI [(0,1),(1,1),(2,2)])) x1' : KObj) = true) /\ True) /\ (True) /\ (True)))) /\ ((∀ x2 : Nat,x2 < (List.length (mapI [(0,1),(1,1),(2,2)])) -> x2 ∈ x1) -> (nI (maxS [(0,1),(1,1),(2,2)] x1) : Value) = sp))))
theorem E83_733418866 (sp : Value) : vF prog msk (dm 0) 100000 true 40 true 83 [.pointer (some ⟨0,0,none⟩),sL 1 3 3] (readsT 0 [[nI 5,nI 1,sL 2 5 5,nI 10,sL 3 3 3,sL 4 3 3],[nI 0,nI 1,nI 2],[.bool false,.bool false,.bool false,.bool false,.bool false],[nI 0,nI 0,nI 30,nI 4,nI 40,nI 2],[sL 5 5 5,sL 6 5 5,sL 7 5 5],[nI 0,nI 1,nI 2,nI 3,nI 4],[nI 4,nI 3,nI 2,nI 1,nI 0],[nI 2,nI 1,nI 0,nI 1,nI 2]]) (some [])
 (.go 3 (.ans [(0,.cells false 0 [nI 5,nI 1,sL 2 5 5,nI 10,sL 3 3 3,sL 4 3 3]),(1,.cells false 0 [nI 0,nI 1,nI 2]),(2,.cells false 0 [.bool false,.bool false,.bool false,.bool false,.bool false]),(3,.cells false 0 [nI 0,nI 0,nI 30,nI 4,nI 40,nI 2]),(4,.cells false 0 [sL 5 5 5,sL 6 5 5,sL 7 5 5]),(5,.cells false 0 [nI 0,nI 1,nI 2,nI 3,nI 4]),(6,.cells false 0 [nI 4,nI 3,nI 2,nI 1,nI 0]),(7,.cells false 0 [nI 2,nI 1,nI 0,nI 1,nI 2])] (.map (some 8)) [.map (mapI [(0,1),(1,1),(2,2)])] (.go 0 (.inv 3 (List Nat) (([] : List Nat)) [] [9] (fun x1 => [(5,nI (maxS [(0,1),(1,1),(2,2)] x1)),(4,nI 0),(11,.pointer (some ⟨9,0,none⟩))]) (fun x1 => [(9,true,.iter 8 (List.length (mapI [(0,1),(1,1),(2,2)])) x1)]) (fun x1 => []) (fun x1 => []) (fun x1 => (SeenL (List.length ([(0,1),(1,1),(2,2)] : List (Int × Int))) x1)) (fun x1 => (List.length ([(0,1),(1,1),(2,2)] : List (Int × Int)) - List.length x1)) (fun x1 => .nxt (fun x2 => .go 1 (.val (.tuple #[nI (List.getD ([(0,1),(1,1),(2,2)] : List (Int × Int)) x2 (0,0)).1,nI (List.getD ([(0,1),(1,1),(2,2)] : List (Int × Int)) x2 (0,0)).2]) (.go 5 (.again [])))) (.auto))))))
 (fun v _ _ => v = sp) = R83_733418866 sp:=by kernel_rfl
theorem P83_733418866 : R83_733418866 (nI 2):=⟨⟨rfl,rfl,rfl,rfl,rfl,rfl,rfl,rfl,trivial⟩,fun H' hl h => (by have k:=C106_733418866 (H:=H') [0,1,2,3,4,5,6,7] ⟨⟨_,_,h.1⟩,⟨_,_,h.2.1⟩,⟨_,_,h.2.2.1⟩,⟨_,_,h.2.2.2.1⟩,⟨_,_,h.2.2.2.2.1⟩,⟨_,_,h.2.2.2.2.2.1⟩,⟨_,_,h.2.2.2.2.2.2.1⟩,⟨_,_,h.2.2.2.2.2.2.2.1⟩,trivial⟩; rw [hl] at k; exact k),⟨rfl,seenL_0 _,⟨rfl,⟨rfl,rfl,rfl,trivial⟩,⟨⟨rfl,rfl⟩,trivial⟩,trivial,trivial⟩,fun _ => rfl,fun x hx => ⟨rfl,fun i hi hn => ⟨rfl,entI _ hi x,x ++ [i],seenL_snoc hx hi hn,seenL_more hx hi hn,rfl,⟨(by rw [maxS_snoc]),rfl,rfl,trivial⟩,⟨⟨rfl,rfl⟩,trivial⟩,trivial,trivial⟩,fun hall => iEq (maxS_all hx hall rfl)⟩⟩⟩
theorem C83_733418866 {H : Heap} (ids : List Nat) (h : InsA H (sgR 0 ids) ids [[nI 5,nI 1,sL 2 5 5,nI 10,sL 3 3 3,sL 4 3 3],[nI 0,nI 1,nI 2],[.bool false,.bool false,.bool false,.bool false,.bool false],[nI 0,nI 0,nI 30,nI 4,nI 40,nI 2],[sL 5 5 5,sL 6 5 5,sL 7 5 5],[nI 0,nI 1,nI 2,nI 3,nI 4],[nI 4,nI 3,nI 2,nI 1,nI 0],[nI 2,nI 1,nI 0,nI 1,nI 2]]) : KCall prog 83 (([.pointer (some ⟨0,0,none⟩),sL 1 3 3] : List Value).map (rn (sgR 0 ids) 3)) H [] (Is (nI 2) H) :=
 valRA (css:=[[nI 5,nI 1,sL 2 5 5,nI 10,sL 3 3 3,sL 4 3 3],[nI 0,nI 1,nI 2],[.bool false,.bool false,.bool false,.bool false,.bool false],[nI 0,nI 0,nI 30,nI 4,nI 40,nI 2],[sL 5 5 5,sL 6 5 5,sL 7 5 5],[nI 0,nI 1,nI 2,nI 3,nI 4],[nI 4,nI 3,nI 2,nI 1,nI 0],[nI 2,nI 1,nI 0,nI 1,nI 2]]) (Eq.mpr (E83_733418866 _) P83_733418866) rfl ids h.len h.get
def R83_276827979 (sp : Value) : Prop :=
 (((someR (.cells false 0 [nI 5,nI 1,sL 2 5 5,nI 10,sL 3 3 3,sL 4 3 3] : KObj)) /\ (someR (.cells false 0 [nI 0,nI 2,nI 0] : KObj)) /\ (someR (.cells false 0 [.bool false,.bool false,.bool false,.bool false,.bool false] : KObj)) /\ (someR (.cells false 0 [nI 0,nI 0,nI 30,nI 4,nI 40,nI 2] : KObj)) /\ (someR (.cells false 0 [sL 5 5 5,sL 6 5 5,sL 7 5 5] : KObj)) /\ (someR (.cells false 0 [nI 0,nI 1,nI 2,nI 3,nI 4] : KObj)) /\ (someR (.cells false 0 [nI 4,nI 3,nI 2,nI 1,nI 0] : KObj)) /\ (someR (.cells false 0 [nI 2,nI 1,nI 0,nI 1,nI 2] : KObj)) /\ True) /\ (∀ H' : Heap,H'.length = 8 -> (H'[0]? = some (.cells false 0 [nI 5,nI 1,sL 2 5 5,nI 10,sL 3 3 3,sL 4 3 3] : KObj) /\ H'[1]? = some (.cells false 0 [nI 0,nI 2,nI 0] : KObj) /\ H'[2]? = some (.cells false 0 [.bool false,.bool false,.bool false,.bool false,.bool false] : KObj) /\ H'[3]? = some (.cells false 0 [nI 0,nI 0,nI 30,nI 4,nI 40,nI 2] : KObj) /\ H'[4]? = some (.cells false 0 [sL 5 5 5,sL 6 5 5,sL 7 5 5] : KObj) /\ H'[5]? = some (.cells false 0 [nI 0,nI 1,nI 2,nI 3,nI 4] : KObj) /\ H'[6]? = some (.cells false 0 [nI 4,nI 3,nI 2,nI 1,nI 0] : KObj) /\ H'[7]? = some (.cells false 0 [nI 2,nI 1,nI 0,nI 1,nI 2] : KObj) /\ True) -> /-N ⟨⟨rfl,rfl,rfl,rfl,rfl,rfl,rfl,rfl,trivial⟩,fun H' hl h => (by have k:=C106_276827979 (H:=H') [0,1,2,3,4,5,6,7] ⟨⟨_,_,h.1⟩,⟨_,_,h.2.1⟩,⟨_,_,h.2.2.1⟩,⟨_,_,h.2.2.2.1⟩,⟨_,_,h.2.2.2.2.1⟩,⟨_,_,h.2.2.2.2.2.1⟩,⟨_,_,h.2.2.2.2.2.2.1⟩,⟨_,_,h.2.2.2.2.2.2.2.1⟩,trivial⟩; rw [hl] at k; exact k),REST⟩-/KCall prog 106 [.pointer (some ⟨0,0,none⟩),sL 1 2 3] H' [] (Is (.map (some 8)) (H' ++ [(.map (mapI [(0,1),(2,2)]) : KObj)]))) /\ (true = true /\ (SeenL (List.length ([(0,1),(2,2)] : List (Int × Int))) ([] : List Nat)) /\ (true = true /\ ((nI 0 : Value) = nI (maxS [(0,1),(2,2)] ([] : List Nat)) /\ (nI 0 : Value) = nI 0 /\ (.pointer (some ⟨9,0,none⟩) : Value) = .pointer (some ⟨9,0,none⟩) /\ True) /\ ((some (.iter 8 (List.length (mapI [(0,1),(2,2)])) [] : KObj) = some (.iter 8 (List.length (mapI [(0,1),(2,2)])) ([] : List Nat) : KObj) /\ belowO 10 (.iter 8 (List.length (mapI [(0,1),(2,2)])) ([] : List Nat) : KObj) = true) /\ True) /\ (True) /\ (True)) /\ (∀ x1 : List Nat,true = true) /\ ∀ x1 : List Nat,(SeenL (List.length ([(0,1),(2,2)] : List (Int × Int))) x1) -> ((List.length (mapI [(0,1),(2,2)]) = (List.length (mapI [(0,1),(2,2)]))) /\ (∀ x2 : Nat,x2 < (List.length (mapI [(0,1),(2,2)])) -> x2 ∉ x1 -> ((List.length (mapI [(0,1),(2,2)]) = (List.length (mapI [(0,1),(2,2)]))) /\ (entryE (mapI [(0,1),(2,2)]) (x1 ++ [x2]) = some (.tuple #[nI (List.getD ([(0,1),(2,2)] : List (Int × Int)) x2 (0,0)).1,nI (List.getD ([(0,1),(2,2)] : List (Int × Int)) x2 (0,0)).2])) /\ (∃ x1' : List Nat,(SeenL (List.length ([(0,1),(2,2)] : List (Int × Int))) x1') /\ (List.length ([(0,1),(2,2)] : List (Int × Int)) - List.length x1') < (List.length ([(0,1),(2,2)] : List (Int × Int)) - List.length x1) /\ true = true /\ ((nI (if ((List.getD ([(0,1),(2,2)] : List (Int × Int)) x2 (0,0)).2 : Int) > (maxS [(0,1),(2,2)] x1) then ((List.getD ([(0,1),(2,2)] : List (Int × Int)) x2 (0,0)).2 : Int) else (maxS [(0,1),(2,2)] x1)) : Value) = nI (maxS [(0,1),(2,2)] x1') /\ (nI 0 : Value) = nI 0 /\ (.pointer (some ⟨9,0,none⟩) : Value) = .pointer (some ⟨9,0,none⟩) /\ True) /\ ((some (.iter 8 (List.length (mapI [(0,1),(2,2)])) (x1 ++ [x2]) : KObj) = some (.iter 8 (List.length (mapI [(0,1),(2,2)])) x1' : KObj) /\ belowO 10 (.iter 8 (List.length (mapI [(0,1),(2,2)])) x1' : KObj) = true) /\ True) /\ (True) /\ (True)))) /\ ((∀ x2 : Nat,x2 < (List.length (mapI [(0,1),(2,2)])) -> x2 ∈ x1) -> (nI (maxS [(0,1),(2,2)] x1) : Value) = sp))))
theorem E83_276827979 (sp : Value) : vF prog msk (dm 0) 100000 true 40 true 83 [.pointer (some ⟨0,0,none⟩),sL 1 2 3] (readsT 0 [[nI 5,nI 1,sL 2 5 5,nI 10,sL 3 3 3,sL 4 3 3],[nI 0,nI 2,nI 0],[.bool false,.bool false,.bool false,.bool false,.bool false],[nI 0,nI 0,nI 30,nI 4,nI 40,nI 2],[sL 5 5 5,sL 6 5 5,sL 7 5 5],[nI 0,nI 1,nI 2,nI 3,nI 4],[nI 4,nI 3,nI 2,nI 1,nI 0],[nI 2,nI 1,nI 0,nI 1,nI 2]]) (some [])
 (.go 3 (.ans [(0,.cells false 0 [nI 5,nI 1,sL 2 5 5,nI 10,sL 3 3 3,sL 4 3 3]),(1,.cells false 0 [nI 0,nI 2,nI 0]),(2,.cells false 0 [.bool false,.bool false,.bool false,.bool false,.bool false]),(3,.cells false 0 [nI 0,nI 0,nI 30,nI 4,nI 40,nI 2]),(4,.cells false 0 [sL 5 5 5,sL 6 5 5,sL 7 5 5]),(5,.cells false 0 [nI 0,nI 1,nI 2,nI 3,nI 4]),(6,.cells false 0 [nI 4,nI 3,nI 2,nI 1,nI 0]),(7,.cells false 0 [nI 2,nI 1,nI 0,nI 1,nI 2])] (.map (some 8)) [.map (mapI [(0,1),(2,2)])] (.go 0 (.inv 3 (List Nat) (([] : List Nat)) [] [9] (fun x1 => [(5,nI (maxS [(0,1),(2,2)] x1)),(4,nI 0),(11,.pointer (some ⟨9,0,none⟩))]) (fun x1 => [(9,true,.iter 8 (List.length (mapI [(0,1),(2,2)])) x1)]) (fun x1 => []) (fun x1 => []) (fun x1 => (SeenL (List.length ([(0,1),(2,2)] : List (Int × Int))) x1)) (fun x1 => (List.length ([(0,1),(2,2)] : List (Int × Int)) - List.length x1)) (fun x1 => .nxt (fun x2 => .go 1 (.val (.tuple #[nI (List.getD ([(0,1),(2,2)] : List (Int × Int)) x2 (0,0)).1,nI (List.getD ([(0,1),(2,2)] : List (Int × Int)) x2 (0,0)).2]) (.go 5 (.again [])))) (.auto))))))
 (fun v _ _ => v = sp) = R83_276827979 sp:=by kernel_rfl
theorem P83_276827979 : R83_276827979 (nI 2):=⟨⟨rfl,rfl,rfl,rfl,rfl,rfl,rfl,rfl,trivial⟩,fun H' hl h => (by have k:=C106_276827979 (H:=H') [0,1,2,3,4,5,6,7] ⟨⟨_,_,h.1⟩,⟨_,_,h.2.1⟩,⟨_,_,h.2.2.1⟩,⟨_,_,h.2.2.2.1⟩,⟨_,_,h.2.2.2.2.1⟩,⟨_,_,h.2.2.2.2.2.1⟩,⟨_,_,h.2.2.2.2.2.2.1⟩,⟨_,_,h.2.2.2.2.2.2.2.1⟩,trivial⟩; rw [hl] at k; exact k),⟨rfl,seenL_0 _,⟨rfl,⟨rfl,rfl,rfl,trivial⟩,⟨⟨rfl,rfl⟩,trivial⟩,trivial,trivial⟩,fun _ => rfl,fun x hx => ⟨rfl,fun i hi hn => ⟨rfl,entI _ hi x,x ++ [i],seenL_snoc hx hi hn,seenL_more hx hi hn,rfl,⟨(by rw [maxS_snoc]),rfl,rfl,trivial⟩,⟨⟨rfl,rfl⟩,trivial⟩,trivial,trivial⟩,fun hall => iEq (maxS_all hx hall rfl)⟩⟩⟩
theorem C83_276827979 {H : Heap} (ids : List Nat) (h : InsA H (sgR 0 ids) ids [[nI 5,nI 1,sL 2 5 5,nI 10,sL 3 3 3,sL 4 3 3],[nI 0,nI 2,nI 0],[.bool false,.bool false,.bool false,.bool false,.bool false],[nI 0,nI 0,nI 30,nI 4,nI 40,nI 2],[sL 5 5 5,sL 6 5 5,sL 7 5 5],[nI 0,nI 1,nI 2,nI 3,nI 4],[nI 4,nI 3,nI 2,nI 1,nI 0],[nI 2,nI 1,nI 0,nI 1,nI 2]]) : KCall prog 83 (([.pointer (some ⟨0,0,none⟩),sL 1 2 3] : List Value).map (rn (sgR 0 ids) 3)) H [] (Is (nI 2) H) :=
 valRA (css:=[[nI 5,nI 1,sL 2 5 5,nI 10,sL 3 3 3,sL 4 3 3],[nI 0,nI 2,nI 0],[.bool false,.bool false,.bool false,.bool false,.bool false],[nI 0,nI 0,nI 30,nI 4,nI 40,nI 2],[sL 5 5 5,sL 6 5 5,sL 7 5 5],[nI 0,nI 1,nI 2,nI 3,nI 4],[nI 4,nI 3,nI 2,nI 1,nI 0],[nI 2,nI 1,nI 0,nI 1,nI 2]]) (Eq.mpr (E83_276827979 _) P83_276827979) rfl ids h.len h.get
def R83_671112452 (sp : Value) : Prop :=
 (((someR (.cells false 0 [nI 5,nI 1,sL 2 5 5,nI 10,sL 3 3 3,sL 4 3 3] : KObj)) /\ (someR (.cells false 0 [nI 0,nI 2] : KObj)) /\ (someR (.cells false 0 [.bool false,.bool false,.bool false,.bool false,.bool false] : KObj)) /\ (someR (.cells false 0 [nI 0,nI 0,nI 30,nI 4,nI 40,nI 2] : KObj)) /\ (someR (.cells false 0 [sL 5 5 5,sL 6 5 5,sL 7 5 5] : KObj)) /\ (someR (.cells false 0 [nI 0,nI 1,nI 2,nI 3,nI 4] : KObj)) /\ (someR (.cells false 0 [nI 4,nI 3,nI 2,nI 1,nI 0] : KObj)) /\ (someR (.cells false 0 [nI 2,nI 1,nI 0,nI 1,nI 2] : KObj)) /\ True) /\ (∀ H' : Heap,H'.length = 8 -> (H'[0]? = some (.cells false 0 [nI 5,nI 1,sL 2 5 5,nI 10,sL 3 3 3,sL 4 3 3] : KObj) /\ H'[1]? = some (.cells false 0 [nI 0,nI 2] : KObj) /\ H'[2]? = some (.cells false 0 [.bool false,.bool false,.bool false,.bool false,.bool false] : KObj) /\ H'[3]? = some (.cells false 0 [nI 0,nI 0,nI 30,nI 4,nI 40,nI 2] : KObj) /\ H'[4]? = some (.cells false 0 [sL 5 5 5,sL 6 5 5,sL 7 5 5] : KObj) /\ H'[5]? = some (.cells false 0 [nI 0,nI 1,nI 2,nI 3,nI 4] : KObj) /\ H'[6]? = some (.cells false 0 [nI 4,nI 3,nI 2,nI 1,nI 0] : KObj) /\ H'[7]? = some (.cells false 0 [nI 2,nI 1,nI 0,nI 1,nI 2] : KObj) /\ True) -> /-N ⟨⟨rfl,rfl,rfl,rfl,rfl,rfl,rfl,rfl,trivial⟩,fun H' hl h => (by have k:=C106_671112452 (H:=H') [0,1,2,3,4,5,6,7] ⟨⟨_,_,h.1⟩,⟨_,_,h.2.1⟩,⟨_,_,h.2.2.1⟩,⟨_,_,h.2.2.2.1⟩,⟨_,_,h.2.2.2.2.1⟩,⟨_,_,h.2.2.2.2.2.1⟩,⟨_,_,h.2.2.2.2.2.2.1⟩,⟨_,_,h.2.2.2.2.2.2.2.1⟩,trivial⟩; rw [hl] at k; exact k),REST⟩-/KCall prog 106 [.pointer (some ⟨0,0,none⟩),sL 1 2 2] H' [] (Is (.map (some 8)) (H' ++ [(.map (mapI [(0,1),(2,2)]) : KObj)]))) /\ (true = true /\ (SeenL (List.length ([(0,1),(2,2)] : List (Int × Int))) ([] : List Nat)) /\ (true = true /\ ((nI 0 : Value) = nI (maxS [(0,1),(2,2)] ([] : List Nat)) /\ (nI 0 : Value) = nI 0 /\ (.pointer (some ⟨9,0,none⟩) : Value) = .pointer (some ⟨9,0,none⟩) /\ True) /\ ((some (.iter 8 (List.length (mapI [(0,1),(2,2)])) [] : KObj) = some (.iter 8 (List.length (mapI [(0,1),(2,2)])) ([] : List Nat) : KObj) /\ belowO 10 (.iter 8 (List.length (mapI [(0,1),(2,2)])) ([] : List Nat) : KObj) = true) /\ True) /\ (True) /\ (True)) /\ (∀ x1 : List Nat,true = true) /\ ∀ x1 : List Nat,(SeenL (List.length ([(0,1),(2,2)] : List (Int × Int))) x1) -> ((List.length (mapI [(0,1),(2,2)]) = (List.length (mapI [(0,1),(2,2)]))) /\ (∀ x2 : Nat,x2 < (List.length (mapI [(0,1),(2,2)])) -> x2 ∉ x1 -> ((List.length (mapI [(0,1),(2,2)]) = (List.length (mapI [(0,1),(2,2)]))) /\ (entryE (mapI [(0,1),(2,2)]) (x1 ++ [x2]) = some (.tuple #[nI (List.getD ([(0,1),(2,2)] : List (Int × Int)) x2 (0,0)).1,nI (List.getD ([(0,1),(2,2)] : List (Int × Int)) x2 (0,0)).2])) /\ (∃ x1' : List Nat,(SeenL (List.length ([(0,1),(2,2)] : List (Int × Int))) x1') /\ (List.length ([(0,1),(2,2)] : List (Int × Int)) - List.length x1') < (List.length ([(0,1),(2,2)] : List (Int × Int)) - List.length x1) /\ true = true /\ ((nI (if ((List.getD ([(0,1),(2,2)] : List (Int × Int)) x2 (0,0)).2 : Int) > (maxS [(0,1),(2,2)] x1) then ((List.getD ([(0,1),(2,2)] : List (Int × Int)) x2 (0,0)).2 : Int) else (maxS [(0,1),(2,2)] x1)) : Value) = nI (maxS [(0,1),(2,2)] x1') /\ (nI 0 : Value) = nI 0 /\ (.pointer (some ⟨9,0,none⟩) : Value) = .pointer (some ⟨9,0,none⟩) /\ True) /\ ((some (.iter 8 (List.length (mapI [(0,1),(2,2)])) (x1 ++ [x2]) : KObj) = some (.iter 8 (List.length (mapI [(0,1),(2,2)])) x1' : KObj) /\ belowO 10 (.iter 8 (List.length (mapI [(0,1),(2,2)])) x1' : KObj) = true) /\ True) /\ (True) /\ (True)))) /\ ((∀ x2 : Nat,x2 < (List.length (mapI [(0,1),(2,2)])) -> x2 ∈ x1) -> (nI (maxS [(0,1),(2,2)] x1) : Value) = sp))))
theorem E83_671112452 (sp : Value) : vF prog msk (dm 0) 100000 true 40 true 83 [.pointer (some ⟨0,0,none⟩),sL 1 2 2] (readsT 0 [[nI 5,nI 1,sL 2 5 5,nI 10,sL 3 3 3,sL 4 3 3],[nI 0,nI 2],[.bool false,.bool false,.bool false,.bool false,.bool false],[nI 0,nI 0,nI 30,nI 4,nI 40,nI 2],[sL 5 5 5,sL 6 5 5,sL 7 5 5],[nI 0,nI 1,nI 2,nI 3,nI 4],[nI 4,nI 3,nI 2,nI 1,nI 0],[nI 2,nI 1,nI 0,nI 1,nI 2]]) (some [])
 (.go 3 (.ans [(0,.cells false 0 [nI 5,nI 1,sL 2 5 5,nI 10,sL 3 3 3,sL 4 3 3]),(1,.cells false 0 [nI 0,nI 2]),(2,.cells false 0 [.bool false,.bool false,.bool false,.bool false,.bool false]),(3,.cells false 0 [nI 0,nI 0,nI 30,nI 4,nI 40,nI 2]),(4,.cells false 0 [sL 5 5 5,sL 6 5 5,sL 7 5 5]),(5,.cells false 0 [nI 0,nI 1,nI 2,nI 3,nI 4]),(6,.cells false 0 [nI 4,nI 3,nI 2,nI 1,nI 0]),(7,.cells false 0 [nI 2,nI 1,nI 0,nI 1,nI 2])] (.map (some 8)) [.map (mapI [(0,1),(2,2)])] (.go 0 (.inv 3 (List Nat) (([] : List Nat)) [] [9] (fun x1 => [(5,nI (maxS [(0,1),(2,2)] x1)),(4,nI 0),(11,.pointer (some ⟨9,0,none⟩))]) (fun x1 => [(9,true,.iter 8 (List.length (mapI [(0,1),(2,2)])) x1)]) (fun x1 => []) (fun x1 => []) (fun x1 => (SeenL (List.length ([(0,1),(2,2)] : List (Int × Int))) x1)) (fun x1 => (List.length ([(0,1),(2,2)] : List (Int × Int)) - List.length x1)) (fun x1 => .nxt (fun x2 => .go 1 (.val (.tuple #[nI (List.getD ([(0,1),(2,2)] : List (Int × Int)) x2 (0,0)).1,nI (List.getD ([(0,1),(2,2)] : List (Int × Int)) x2 (0,0)).2]) (.go 5 (.again [])))) (.auto))))))
 (fun v _ _ => v = sp) = R83_671112452 sp:=by kernel_rfl
theorem P83_671112452 : R83_671112452 (nI 2):=⟨⟨rfl,rfl,rfl,rfl,rfl,rfl,rfl,rfl,trivial⟩,fun H' hl h => (by have k:=C106_671112452 (H:=H') [0,1,2,3,4,5,6,7] ⟨⟨_,_,h.1⟩,⟨_,_,h.2.1⟩,⟨_,_,h.2.2.1⟩,⟨_,_,h.2.2.2.1⟩,⟨_,_,h.2.2.2.2.1⟩,⟨_,_,h.2.2.2.2.2.1⟩,⟨_,_,h.2.2.2.2.2.2.1⟩,⟨_,_,h.2.2.2.2.2.2.2.1⟩,trivial⟩; rw [hl] at k; exact k),⟨rfl,seenL_0 _,⟨rfl,⟨rfl,rfl,rfl,trivial⟩,⟨⟨rfl,rfl⟩,trivial⟩,trivial,trivial⟩,fun _ => rfl,fun x hx => ⟨rfl,fun i hi hn => ⟨rfl,entI _ hi x,x ++ [i],seenL_snoc hx hi hn,seenL_more hx hi hn,rfl,⟨(by rw [maxS_snoc]),rfl,rfl,trivial⟩,⟨⟨rfl,rfl⟩,trivial⟩,trivial,trivial⟩,fun hall => iEq (maxS_all hx hall rfl)⟩⟩⟩
theorem C83_671112452 {H : Heap} (ids : List Nat) (h : InsA H (sgR 0 ids) ids [[nI 5,nI 1,sL 2 5 5,nI 10,sL 3 3 3,sL 4 3 3],[nI 0,nI 2],[.bool false,.bool false,.bool false,.bool false,.bool false],[nI 0,nI 0,nI 30,nI 4,nI 40,nI 2],[sL 5 5 5,sL 6 5 5,sL 7 5 5],[nI 0,nI 1,nI 2,nI 3,nI 4],[nI 4,nI 3,nI 2,nI 1,nI 0],[nI 2,nI 1,nI 0,nI 1,nI 2]]) : KCall prog 83 (([.pointer (some ⟨0,0,none⟩),sL 1 2 2] : List Value).map (rn (sgR 0 ids) 3)) H [] (Is (nI 2) H) :=
 valRA (css:=[[nI 5,nI 1,sL 2 5 5,nI 10,sL 3 3 3,sL 4 3 3],[nI 0,nI 2],[.bool false,.bool false,.bool false,.bool false,.bool false],[nI 0,nI 0,nI 30,nI 4,nI 40,nI 2],[sL 5 5 5,sL 6 5 5,sL 7 5 5],[nI 0,nI 1,nI 2,nI 3,nI 4],[nI 4,nI 3,nI 2,nI 1,nI 0],[nI 2,nI 1,nI 0,nI 1,nI 2]]) (Eq.mpr (E83_671112452 _) P83_671112452) rfl ids h.len h.get
end
end Go.Proofs.YtbgfjemppjhmjaaGreat
/- Closed calls of the chapter's examples. Printed by a program. No condition. -/
namespace Go.Proofs.YtbgfjemppjhmjaaGreat
set_option linter.unusedSimpArgs false
open Go Go.K
set_option maxRecDepth 1000000
set_option maxHeartbeats 4000000
set_option linter.unusedVariables false
noncomputable section
attribute [local irreducible] vF
def R41_956383489 (sp : Value) : Prop :=
 (nI 0 : Value) = sp
theorem E41_956383489 (sp : Value) : vF prog msk (dm 0) 100000 true 40 true 41 [.agg #[nI 5,nI 1,sL 0 5 5,nI 10,sL 1 3 3]] (readsT 0 [[.bool false,.bool false,.bool false,.bool false,.bool false],[nI 0,nI 0,nI 30,nI 4,nI 40,nI 2]]) (some [])
 (.auto)
 (fun v _ _ => v = sp) = R41_956383489 sp:=by kernel_rfl
theorem P41_956383489 : R41_956383489 (nI 0):=rfl
theorem C41_956383489 {H : Heap} (ids : List Nat) (h : InsA H (sgR 0 ids) ids [[.bool false,.bool false,.bool false,.bool false,.bool false],[nI 0,nI 0,nI 30,nI 4,nI 40,nI 2]]) : KCall prog 41 (([.agg #[nI 5,nI 1,sL 0 5 5,nI 10,sL 1 3 3]] : List Value).map (rn (sgR 0 ids) 3)) H [] (Is (nI 0) H) :=
 valRA (css:=[[.bool false,.bool false,.bool false,.bool false,.bool false],[nI 0,nI 0,nI 30,nI 4,nI 40,nI 2]]) (Eq.mpr (E41_956383489 _) P41_956383489) rfl ids h.len h.get
def R114_868361596 : Prop :=
 (true = true /\ wk (sL 2 5 5 : Value) (rn (sg 1 [(1,2)]) 3 (sL 1 5 5 : Value)) /\ (wkO (.cells true 1 [nI 0,nI 1,nI 2,nI 3,nI 4] : KObj) (rno (sg 1 [(1,2)]) 3 (.cells true 1 [nI 0,nI 1,nI 2,nI 3,nI 4] : KObj)) /\ True))
theorem E114_868361596 : vF prog msk (dm 0) 100000 true 40 true 114 [.agg #[nI 5,nI 1,sL 0 5 5],nI 0] (readsT 0 [[.bool false,.bool false,.bool false,.bool false,.bool false]]) (some [])
 (.go 1543 (.again [(1,2)]))
 (newK (readsT 0 [[.bool false,.bool false,.bool false,.bool false,.bool false]]).n 3 (sL 1 5 5) [(false,.cells true 1 [nI 0,nI 1,nI 2,nI 3,nI 4])]) = R114_868361596:=by kernel_rfl
theorem P114_868361596 : R114_868361596:=⟨rfl,wk_of_eq rfl,wkO_of_eq rfl,trivial⟩
theorem C114_868361596 {H : Heap} (ids : List Nat) (h : InsA H (sgR 0 ids) ids [[.bool false,.bool false,.bool false,.bool false,.bool false]]) : KCall prog 114 (([.agg #[nI 5,nI 1,sL 0 5 5],nI 0] : List Value).map (rn (sgR 0 ids) 3)) H [] (Is (rn (sgUp 1 H.length) 3 (sL 1 5 5)) (H ++ [rno (sgUp 1 H.length) 3 (.cells true 1 [nI 0,nI 1,nI 2,nI 3,nI 4])])) :=
 valNA (css:=[[.bool false,.bool false,.bool false,.bool false,.bool false]]) (v:=sL 1 5 5) (new:=[(false,.cells true 1 [nI 0,nI 1,nI 2,nI 3,nI 4])]) (Eq.mpr E114_868361596 P114_868361596) rfl rfl rfl rfl ids h.len h.get
def R114_16177380 : Prop :=
 (true = true /\ wk (sL 2 5 5 : Value) (rn (sg 1 [(1,2)]) 3 (sL 1 5 5 : Value)) /\ (wkO (.cells true 1 [nI 4,nI 3,nI 2,nI 1,nI 0] : KObj) (rno (sg 1 [(1,2)]) 3 (.cells true 1 [nI 4,nI 3,nI 2,nI 1,nI 0] : KObj)) /\ True))
theorem E114_16177380 : vF prog msk (dm 0) 100000 true 40 true 114 [.agg #[nI 5,nI 1,sL 0 5 5],nI 4] (readsT 0 [[.bool false,.bool false,.bool false,.bool false,.bool false]]) (some [])
 (.go 1543 (.again [(1,2)]))
 (newK (readsT 0 [[.bool false,.bool false,.bool false,.bool false,.bool false]]).n 3 (sL 1 5 5) [(false,.cells true 1 [nI 4,nI 3,nI 2,nI 1,nI 0])]) = R114_16177380:=by kernel_rfl
theorem P114_16177380 : R114_16177380:=⟨rfl,wk_of_eq rfl,wkO_of_eq rfl,trivial⟩
theorem C114_16177380 {H : Heap} (ids : List Nat) (h : InsA H (sgR 0 ids) ids [[.bool false,.bool false,.bool false,.bool false,.bool false]]) : KCall prog 114 (([.agg #[nI 5,nI 1,sL 0 5 5],nI 4] : List Value).map (rn (sgR 0 ids) 3)) H [] (Is (rn (sgUp 1 H.length) 3 (sL 1 5 5)) (H ++ [rno (sgUp 1 H.length) 3 (.cells true 1 [nI 4,nI 3,nI 2,nI 1,nI 0])])) :=
 valNA (css:=[[.bool false,.bool false,.bool false,.bool false,.bool false]]) (v:=sL 1 5 5) (new:=[(false,.cells true 1 [nI 4,nI 3,nI 2,nI 1,nI 0])]) (Eq.mpr E114_16177380 P114_16177380) rfl rfl rfl rfl ids h.len h.get
def R114_391959661 : Prop :=
 (true = true /\ wk (sL 2 5 5 : Value) (rn (sg 1 [(1,2)]) 3 (sL 1 5 5 : Value)) /\ (wkO (.cells true 1 [nI 2,nI 1,nI 0,nI 1,nI 2] : KObj) (rno (sg 1 [(1,2)]) 3 (.cells true 1 [nI 2,nI 1,nI 0,nI 1,nI 2] : KObj)) /\ True))
theorem E114_391959661 : vF prog msk (dm 0) 100000 true 40 true 114 [.agg #[nI 5,nI 1,sL 0 5 5],nI 2] (readsT 0 [[.bool false,.bool false,.bool false,.bool false,.bool false]]) (some [])
 (.go 1543 (.again [(1,2)]))
 (newK (readsT 0 [[.bool false,.bool false,.bool false,.bool false,.bool false]]).n 3 (sL 1 5 5) [(false,.cells true 1 [nI 2,nI 1,nI 0,nI 1,nI 2])]) = R114_391959661:=by kernel_rfl
theorem P114_391959661 : R114_391959661:=⟨rfl,wk_of_eq rfl,wkO_of_eq rfl,trivial⟩
theorem C114_391959661 {H : Heap} (ids : List Nat) (h : InsA H (sgR 0 ids) ids [[.bool false,.bool false,.bool false,.bool false,.bool false]]) : KCall prog 114 (([.agg #[nI 5,nI 1,sL 0 5 5],nI 2] : List Value).map (rn (sgR 0 ids) 3)) H [] (Is (rn (sgUp 1 H.length) 3 (sL 1 5 5)) (H ++ [rno (sgUp 1 H.length) 3 (.cells true 1 [nI 2,nI 1,nI 0,nI 1,nI 2])])) :=
 valNA (css:=[[.bool false,.bool false,.bool false,.bool false,.bool false]]) (v:=sL 1 5 5) (new:=[(false,.cells true 1 [nI 2,nI 1,nI 0,nI 1,nI 2])]) (Eq.mpr E114_391959661 P114_391959661) rfl rfl rfl rfl ids h.len h.get
def R41_417788160 (sp : Value) : Prop :=
 (nI 0 : Value) = sp
theorem E41_417788160 (sp : Value) : vF prog msk (dm 0) 100000 true 40 true 41 [.agg #[nI 5,nI 1,sL 0 5 5,nI 10,sL 1 2 2]] (readsT 0 [[.bool false,.bool false,.bool false,.bool false,.bool false],[nI 0,nI 0,nI 40,nI 2]]) (some [])
 (.auto)
 (fun v _ _ => v = sp) = R41_417788160 sp:=by kernel_rfl
theorem P41_417788160 : R41_417788160 (nI 0):=rfl
theorem C41_417788160 {H : Heap} (ids : List Nat) (h : InsA H (sgR 0 ids) ids [[.bool false,.bool false,.bool false,.bool false,.bool false],[nI 0,nI 0,nI 40,nI 2]]) : KCall prog 41 (([.agg #[nI 5,nI 1,sL 0 5 5,nI 10,sL 1 2 2]] : List Value).map (rn (sgR 0 ids) 3)) H [] (Is (nI 0) H) :=
 valRA (css:=[[.bool false,.bool false,.bool false,.bool false,.bool false],[nI 0,nI 0,nI 40,nI 2]]) (Eq.mpr (E41_417788160 _) P41_417788160) rfl ids h.len h.get
end
end Go.Proofs.YtbgfjemppjhmjaaGreat
/- Closed calls of the chapter's examples. Printed by a program. No condition. -/
namespace Go.Proofs.YtbgfjemppjhmjaaGreat
set_option linter.unusedSimpArgs false
open Go Go.K
set_option maxRecDepth 1000000
set_option maxHeartbeats 4000000
set_option linter.unusedVariables false
noncomputable section
attribute [local irreducible] vF
def R24_956383489 : Prop :=
 (((someR (.cells false 0 [.bool false,.bool false,.bool false,.bool false,.bool false] : KObj)) /\ (someR (.cells false 0 [nI 0,nI 0,nI 30,nI 4,nI 40,nI 2] : KObj)) /\ True) /\ (∀ H' : Heap,H'.length = 4 -> (H'[0]? = some (.cells false 0 [.bool false,.bool false,.bool false,.bool false,.bool false] : KObj) /\ H'[1]? = some (.cells false 0 [nI 0,nI 0,nI 30,nI 4,nI 40,nI 2] : KObj) /\ True) -> /-N ⟨⟨rfl,rfl,trivial⟩,fun H' _ h => C41_956383489 [0,1] ⟨⟨_,_,h.1⟩,⟨_,_,h.2.1⟩,trivial⟩,REST⟩-/KCall prog 41 [.agg #[nI 5,nI 1,sL 0 5 5,nI 10,sL 1 3 3]] H' [] (Is (nI 0) H')) /\ (((someR (.cells false 0 [.bool false,.bool false,.bool false,.bool false,.bool false] : KObj)) /\ True) /\ (∀ H' : Heap,H'.length = 6 -> (H'[0]? = some (.cells false 0 [.bool false,.bool false,.bool false,.bool false,.bool false] : KObj) /\ True) -> /-N ⟨⟨rfl,trivial⟩,fun H' hl h => (by have k:=C114_868361596 (H:=H') [0] ⟨⟨_,_,h.1⟩,trivial⟩; rw [hl] at k; exact k),REST⟩-/KCall prog 114 [.agg #[nI 5,nI 1,sL 0 5 5],nI 0] H' [] (Is (sL 6 5 5) (H' ++ [(.cells true 1 [nI 0,nI 1,nI 2,nI 3,nI 4] : KObj)]))) /\ (((someR (.cells false 0 [.bool false,.bool false,.bool false,.bool false,.bool false] : KObj)) /\ True) /\ (∀ H' : Heap,H'.length = 10 -> (H'[0]? = some (.cells false 0 [.bool false,.bool false,.bool false,.bool false,.bool false] : KObj) /\ True) -> /-N ⟨⟨rfl,trivial⟩,fun H' hl h => (by have k:=C114_16177380 (H:=H') [0] ⟨⟨_,_,h.1⟩,trivial⟩; rw [hl] at k; exact k),REST⟩-/KCall prog 114 [.agg #[nI 5,nI 1,sL 0 5 5],nI 4] H' [] (Is (sL 10 5 5) (H' ++ [(.cells true 1 [nI 4,nI 3,nI 2,nI 1,nI 0] : KObj)]))) /\ (((someR (.cells false 0 [.bool false,.bool false,.bool false,.bool false,.bool false] : KObj)) /\ True) /\ (∀ H' : Heap,H'.length = 14 -> (H'[0]? = some (.cells false 0 [.bool false,.bool false,.bool false,.bool false,.bool false] : KObj) /\ True) -> /-N ⟨⟨rfl,trivial⟩,fun H' hl h => (by have k:=C114_391959661 (H:=H') [0] ⟨⟨_,_,h.1⟩,trivial⟩; rw [hl] at k; exact k),REST⟩-/KCall prog 114 [.agg #[nI 5,nI 1,sL 0 5 5],nI 2] H' [] (Is (sL 14 5 5) (H' ++ [(.cells true 1 [nI 2,nI 1,nI 0,nI 1,nI 2] : KObj)]))) /\ (((someR (.cells true 0 [nI 5,nI 1,sL 0 5 5,nI 10,sL 1 3 3,sL 16 3 3] : KObj)) /\ (someR (.cells true 1 [nI 0,nI 1,nI 2] : KObj)) /\ (someR (.cells false 0 [.bool false,.bool false,.bool false,.bool false,.bool false] : KObj)) /\ (someR (.cells false 0 [nI 0,nI 0,nI 30,nI 4,nI 40,nI 2] : KObj)) /\ (someR (.cells true 1 [sL 6 5 5,sL 10 5 5,sL 14 5 5] : KObj)) /\ (someR (.cells true 1 [nI 0,nI 1,nI 2,nI 3,nI 4] : KObj)) /\ (someR (.cells true 1 [nI 4,nI 3,nI 2,nI 1,nI 0] : KObj)) /\ (someR (.cells true 1 [nI 2,nI 1,nI 0,nI 1,nI 2] : KObj)) /\ True) /\ (∀ H' : Heap,H'.length = 24 -> (H'[4]? = some (.cells true 0 [nI 5,nI 1,sL 0 5 5,nI 10,sL 1 3 3,sL 16 3 3] : KObj) /\ H'[23]? = some (.cells true 1 [nI 0,nI 1,nI 2] : KObj) /\ H'[0]? = some (.cells false 0 [.bool false,.bool false,.bool false,.bool false,.bool false] : KObj) /\ H'[1]? = some (.cells false 0 [nI 0,nI 0,nI 30,nI 4,nI 40,nI 2] : KObj) /\ H'[16]? = some (.cells true 1 [sL 6 5 5,sL 10 5 5,sL 14 5 5] : KObj) /\ H'[6]? = some (.cells true 1 [nI 0,nI 1,nI 2,nI 3,nI 4] : KObj) /\ H'[10]? = some (.cells true 1 [nI 4,nI 3,nI 2,nI 1,nI 0] : KObj) /\ H'[14]? = some (.cells true 1 [nI 2,nI 1,nI 0,nI 1,nI 2] : KObj) /\ True) -> /-N ⟨⟨rfl,rfl,rfl,rfl,rfl,rfl,rfl,rfl,trivial⟩,fun H' _ h => C83_733418866 [4,23,0,1,16,6,10,14] ⟨⟨_,_,h.1⟩,⟨_,_,h.2.1⟩,⟨_,_,h.2.2.1⟩,⟨_,_,h.2.2.2.1⟩,⟨_,_,h.2.2.2.2.1⟩,⟨_,_,h.2.2.2.2.2.1⟩,⟨_,_,h.2.2.2.2.2.2.1⟩,⟨_,_,h.2.2.2.2.2.2.2.1⟩,trivial⟩,REST⟩-/KCall prog 83 [.pointer (some ⟨4,0,none⟩),sL 23 3 3] H' [] (Is (nI 2) H')) /\ (((someR (.cells true 0 [nI 5,nI 1,sL 0 5 5,nI 10,sL 1 3 3,sL 16 3 3] : KObj)) /\ (someR (.cells true 1 [nI 0,nI 2,nI 0] : KObj)) /\ (someR (.cells false 0 [.bool false,.bool false,.bool false,.bool false,.bool false] : KObj)) /\ (someR (.cells false 0 [nI 0,nI 0,nI 30,nI 4,nI 40,nI 2] : KObj)) /\ (someR (.cells true 1 [sL 6 5 5,sL 10 5 5,sL 14 5 5] : KObj)) /\ (someR (.cells true 1 [nI 0,nI 1,nI 2,nI 3,nI 4] : KObj)) /\ (someR (.cells true 1 [nI 4,nI 3,nI 2,nI 1,nI 0] : KObj)) /\ (someR (.cells true 1 [nI 2,nI 1,nI 0,nI 1,nI 2] : KObj)) /\ True) /\ (∀ H' : Heap,H'.length = 27 -> (H'[4]? = some (.cells true 0 [nI 5,nI 1,sL 0 5 5,nI 10,sL 1 3 3,sL 16 3 3] : KObj) /\ H'[26]? = some (.cells true 1 [nI 0,nI 2,nI 0] : KObj) /\ H'[0]? = some (.cells false 0 [.bool false,.bool false,.bool false,.bool false,.bool false] : KObj) /\ H'[1]? = some (.cells false 0 [nI 0,nI 0,nI 30,nI 4,nI 40,nI 2] : KObj) /\ H'[16]? = some (.cells true 1 [sL 6 5 5,sL 10 5 5,sL 14 5 5] : KObj) /\ H'[6]? = some (.cells true 1 [nI 0,nI 1,nI 2,nI 3,nI 4] : KObj) /\ H'[10]? = some (.cells true 1 [nI 4,nI 3,nI 2,nI 1,nI 0] : KObj) /\ H'[14]? = some (.cells true 1 [nI 2,nI 1,nI 0,nI 1,nI 2] : KObj) /\ True) -> /-N ⟨⟨rfl,rfl,rfl,rfl,rfl,rfl,rfl,rfl,trivial⟩,fun H' _ h => C83_276827979 [4,26,0,1,16,6,10,14] ⟨⟨_,_,h.1⟩,⟨_,_,h.2.1⟩,⟨_,_,h.2.2.1⟩,⟨_,_,h.2.2.2.1⟩,⟨_,_,h.2.2.2.2.1⟩,⟨_,_,h.2.2.2.2.2.1⟩,⟨_,_,h.2.2.2.2.2.2.1⟩,⟨_,_,h.2.2.2.2.2.2.2.1⟩,trivial⟩,REST⟩-/KCall prog 83 [.pointer (some ⟨4,0,none⟩),sL 26 2 3] H' [] (Is (nI 2) H')) /\ (((someR (.cells true 0 [nI 5,nI 1,sL 0 5 5,nI 10,sL 1 3 3,sL 16 3 3] : KObj)) /\ (someR (.cells true 1 [nI 0,nI 2] : KObj)) /\ (someR (.cells false 0 [.bool false,.bool false,.bool false,.bool false,.bool false] : KObj)) /\ (someR (.cells false 0 [nI 0,nI 0,nI 30,nI 4,nI 40,nI 2] : KObj)) /\ (someR (.cells true 1 [sL 6 5 5,sL 10 5 5,sL 14 5 5] : KObj)) /\ (someR (.cells true 1 [nI 0,nI 1,nI 2,nI 3,nI 4] : KObj)) /\ (someR (.cells true 1 [nI 4,nI 3,nI 2,nI 1,nI 0] : KObj)) /\ (someR (.cells true 1 [nI 2,nI 1,nI 0,nI 1,nI 2] : KObj)) /\ True) /\ (∀ H' : Heap,H'.length = 37 -> (H'[4]? = some (.cells true 0 [nI 5,nI 1,sL 0 5 5,nI 10,sL 1 3 3,sL 16 3 3] : KObj) /\ H'[36]? = some (.cells true 1 [nI 0,nI 2] : KObj) /\ H'[0]? = some (.cells false 0 [.bool false,.bool false,.bool false,.bool false,.bool false] : KObj) /\ H'[1]? = some (.cells false 0 [nI 0,nI 0,nI 30,nI 4,nI 40,nI 2] : KObj) /\ H'[16]? = some (.cells true 1 [sL 6 5 5,sL 10 5 5,sL 14 5 5] : KObj) /\ H'[6]? = some (.cells true 1 [nI 0,nI 1,nI 2,nI 3,nI 4] : KObj) /\ H'[10]? = some (.cells true 1 [nI 4,nI 3,nI 2,nI 1,nI 0] : KObj) /\ H'[14]? = some (.cells true 1 [nI 2,nI 1,nI 0,nI 1,nI 2] : KObj) /\ True) -> /-N ⟨⟨rfl,rfl,rfl,rfl,rfl,rfl,rfl,rfl,trivial⟩,fun H' _ h => C83_671112452 [4,36,0,1,16,6,10,14] ⟨⟨_,_,h.1⟩,⟨_,_,h.2.1⟩,⟨_,_,h.2.2.1⟩,⟨_,_,h.2.2.2.1⟩,⟨_,_,h.2.2.2.2.1⟩,⟨_,_,h.2.2.2.2.2.1⟩,⟨_,_,h.2.2.2.2.2.2.1⟩,⟨_,_,h.2.2.2.2.2.2.2.1⟩,trivial⟩,REST⟩-/KCall prog 83 [.pointer (some ⟨4,0,none⟩),sL 36 2 2] H' [] (Is (nI 2) H')) /\ (true = true /\ wk (.tuple #[sL 38 3 3,nI 0] : Value) (rn (sg 2 [(2,38)]) 3 (.tuple #[sL 2 3 3,nI 0] : Value)) /\ (wkO (.cells true 1 [.bool true,.bool false,.bool true] : KObj) (rno (sg 2 [(2,38)]) 3 (.cells true 1 [.bool true,.bool false,.bool true] : KObj)) /\ True)))))))))
theorem E24_956383489 : vF prog msk (dm 0) 100000 true 40 true 24 [.agg #[nI 5,nI 1,sL 0 5 5,nI 10,sL 1 3 3]] (readsT 0 [[.bool false,.bool false,.bool false,.bool false,.bool false],[nI 0,nI 0,nI 30,nI 4,nI 40,nI 2]]) (some [])
 (.go 8 (.ans [(0,.cells false 0 [.bool false,.bool false,.bool false,.bool false,.bool false]),(1,.cells false 0 [nI 0,nI 0,nI 30,nI 4,nI 40,nI 2])] (nI 0) [] (.go 30 (.ans [(0,.cells false 0 [.bool false,.bool false,.bool false,.bool false,.bool false])] (sL 6 5 5) [.cells true 1 [nI 0,nI 1,nI 2,nI 3,nI 4]] (.into (some [3,4,5,6]) (.go 28 (.ans [(0,.cells false 0 [.bool false,.bool false,.bool false,.bool false,.bool false])] (sL 10 5 5) [.cells true 1 [nI 4,nI 3,nI 2,nI 1,nI 0]] (.into (some (List.range' 3 8)) (.go 28 (.ans [(0,.cells false 0 [.bool false,.bool false,.bool false,.bool false,.bool false])] (sL 14 5 5) [.cells true 1 [nI 2,nI 1,nI 0,nI 1,nI 2]] (.into (some (List.range' 3 12)) (.go 77 (.ans [(4,.cells true 0 [nI 5,nI 1,sL 0 5 5,nI 10,sL 1 3 3,sL 16 3 3]),(23,.cells true 1 [nI 0,nI 1,nI 2]),(0,.cells false 0 [.bool false,.bool false,.bool false,.bool false,.bool false]),(1,.cells false 0 [nI 0,nI 0,nI 30,nI 4,nI 40,nI 2]),(16,.cells true 1 [sL 6 5 5,sL 10 5 5,sL 14 5 5]),(6,.cells true 1 [nI 0,nI 1,nI 2,nI 3,nI 4]),(10,.cells true 1 [nI 4,nI 3,nI 2,nI 1,nI 0]),(14,.cells true 1 [nI 2,nI 1,nI 0,nI 1,nI 2])] (nI 2) [] (.go 24 (.into (some (List.range' 2 25)) (.go 367 (.ans [(4,.cells true 0 [nI 5,nI 1,sL 0 5 5,nI 10,sL 1 3 3,sL 16 3 3]),(26,.cells true 1 [nI 0,nI 2,nI 0]),(0,.cells false 0 [.bool false,.bool false,.bool false,.bool false,.bool false]),(1,.cells false 0 [nI 0,nI 0,nI 30,nI 4,nI 40,nI 2]),(16,.cells true 1 [sL 6 5 5,sL 10 5 5,sL 14 5 5]),(6,.cells true 1 [nI 0,nI 1,nI 2,nI 3,nI 4]),(10,.cells true 1 [nI 4,nI 3,nI 2,nI 1,nI 0]),(14,.cells true 1 [nI 2,nI 1,nI 0,nI 1,nI 2])] (nI 2) [] (.go 30 (.into (some (List.range' 2 30)) (.go 280 (.into (some (List.range' 2 30)) (.go 76 (.into (some (List.range' 2 35)) (.go 257 (.ans [(4,.cells true 0 [nI 5,nI 1,sL 0 5 5,nI 10,sL 1 3 3,sL 16 3 3]),(36,.cells true 1 [nI 0,nI 2]),(0,.cells false 0 [.bool false,.bool false,.bool false,.bool false,.bool false]),(1,.cells false 0 [nI 0,nI 0,nI 30,nI 4,nI 40,nI 2]),(16,.cells true 1 [sL 6 5 5,sL 10 5 5,sL 14 5 5]),(6,.cells true 1 [nI 0,nI 1,nI 2,nI 3,nI 4]),(10,.cells true 1 [nI 4,nI 3,nI 2,nI 1,nI 0]),(14,.cells true 1 [nI 2,nI 1,nI 0,nI 1,nI 2])] (nI 2) [] (.go 19 (.again [(2,38)])))))))))))))))))))))))))))
 (newK (readsT 0 [[.bool false,.bool false,.bool false,.bool false,.bool false],[nI 0,nI 0,nI 30,nI 4,nI 40,nI 2]]).n 3 (.tuple #[sL 2 3 3,nI 0]) [(false,.cells true 1 [.bool true,.bool false,.bool true])]) = R24_956383489:=by kernel_rfl
theorem P24_956383489 : R24_956383489:=⟨⟨rfl,rfl,trivial⟩,fun H' _ h => C41_956383489 [0,1] ⟨⟨_,_,h.1⟩,⟨_,_,h.2.1⟩,trivial⟩,⟨⟨rfl,trivial⟩,fun H' hl h => (by have k:=C114_868361596 (H:=H') [0] ⟨⟨_,_,h.1⟩,trivial⟩; rw [hl] at k; exact k),⟨⟨rfl,trivial⟩,fun H' hl h => (by have k:=C114_16177380 (H:=H') [0] ⟨⟨_,_,h.1⟩,trivial⟩; rw [hl] at k; exact k),⟨⟨rfl,trivial⟩,fun H' hl h => (by have k:=C114_391959661 (H:=H') [0] ⟨⟨_,_,h.1⟩,trivial⟩; rw [hl] at k; exact k),⟨⟨rfl,rfl,rfl,rfl,rfl,rfl,rfl,rfl,trivial⟩,fun H' _ h => C83_733418866 [4,23,0,1,16,6,10,14] ⟨⟨_,_,h.1⟩,⟨_,_,h.2.1⟩,⟨_,_,h.2.2.1⟩,⟨_,_,h.2.2.2.1⟩,⟨_,_,h.2.2.2.2.1⟩,⟨_,_,h.2.2.2.2.2.1⟩,⟨_,_,h.2.2.2.2.2.2.1⟩,⟨_,_,h.2.2.2.2.2.2.2.1⟩,trivial⟩,⟨⟨rfl,rfl,rfl,rfl,rfl,rfl,rfl,rfl,trivial⟩,fun H' _ h => C83_276827979 [4,26,0,1,16,6,10,14] ⟨⟨_,_,h.1⟩,⟨_,_,h.2.1⟩,⟨_,_,h.2.2.1⟩,⟨_,_,h.2.2.2.1⟩,⟨_,_,h.2.2.2.2.1⟩,⟨_,_,h.2.2.2.2.2.1⟩,⟨_,_,h.2.2.2.2.2.2.1⟩,⟨_,_,h.2.2.2.2.2.2.2.1⟩,trivial⟩,⟨⟨rfl,rfl,rfl,rfl,rfl,rfl,rfl,rfl,trivial⟩,fun H' _ h => C83_671112452 [4,36,0,1,16,6,10,14] ⟨⟨_,_,h.1⟩,⟨_,_,h.2.1⟩,⟨_,_,h.2.2.1⟩,⟨_,_,h.2.2.2.1⟩,⟨_,_,h.2.2.2.2.1⟩,⟨_,_,h.2.2.2.2.2.1⟩,⟨_,_,h.2.2.2.2.2.2.1⟩,⟨_,_,h.2.2.2.2.2.2.2.1⟩,trivial⟩,⟨rfl,wk_of_eq rfl,wkO_of_eq rfl,trivial⟩⟩⟩⟩⟩⟩⟩⟩
theorem C24_956383489 {H : Heap} (ids : List Nat) (h : InsA H (sgR 0 ids) ids [[.bool false,.bool false,.bool false,.bool false,.bool false],[nI 0,nI 0,nI 30,nI 4,nI 40,nI 2]]) : KCall prog 24 (([.agg #[nI 5,nI 1,sL 0 5 5,nI 10,sL 1 3 3]] : List Value).map (rn (sgR 0 ids) 3)) H [] (Is (rn (sgUp 2 H.length) 3 (.tuple #[sL 2 3 3,nI 0])) (H ++ [rno (sgUp 2 H.length) 3 (.cells true 1 [.bool true,.bool false,.bool true])])) :=
 valNA (css:=[[.bool false,.bool false,.bool false,.bool false,.bool false],[nI 0,nI 0,nI 30,nI 4,nI 40,nI 2]]) (v:=.tuple #[sL 2 3 3,nI 0]) (new:=[(false,.cells true 1 [.bool true,.bool false,.bool true])]) (Eq.mpr E24_956383489 P24_956383489) rfl rfl rfl rfl ids h.len h.get
end
end Go.Proofs.YtbgfjemppjhmjaaGreat
/- Closed calls of the chapter's examples. Printed by a program. No condition. -/
namespace Go.Proofs.YtbgfjemppjhmjaaGreat
set_option linter.unusedSimpArgs false
open Go Go.K
set_option maxRecDepth 1000000
set_option maxHeartbeats 4000000
set_option linter.unusedVariables false
noncomputable section
attribute [local irreducible] vF
def R18_377635839 : Prop :=
 (((someR (.cells false 0 [.bool false,.bool false,.bool false,.bool false,.bool false] : KObj)) /\ (someR (.cells false 0 [nI 0,nI 0,nI 40,nI 2] : KObj)) /\ True) /\ (∀ H' : Heap,H'.length = 5 -> (H'[0]? = some (.cells false 0 [.bool false,.bool false,.bool false,.bool false,.bool false] : KObj) /\ H'[1]? = some (.cells false 0 [nI 0,nI 0,nI 40,nI 2] : KObj) /\ True) -> /-N ⟨⟨rfl,rfl,trivial⟩,fun H' _ h => C41_417788160 [0,1] ⟨⟨_,_,h.1⟩,⟨_,_,h.2.1⟩,trivial⟩,REST⟩-/KCall prog 41 [.agg #[nI 5,nI 1,sL 0 5 5,nI 10,sL 1 2 2]] H' [] (Is (nI 0) H')) /\ (((someR (.cells false 0 [.bool false,.bool false,.bool false,.bool false,.bool false] : KObj)) /\ True) /\ (∀ H' : Heap,H'.length = 7 -> (H'[0]? = some (.cells false 0 [.bool false,.bool false,.bool false,.bool false,.bool false] : KObj) /\ True) -> /-N ⟨⟨rfl,trivial⟩,fun H' hl h => (by have k:=C114_868361596 (H:=H') [0] ⟨⟨_,_,h.1⟩,trivial⟩; rw [hl] at k; exact k),REST⟩-/KCall prog 114 [.agg #[nI 5,nI 1,sL 0 5 5],nI 0] H' [] (Is (sL 7 5 5) (H' ++ [(.cells true 1 [nI 0,nI 1,nI 2,nI 3,nI 4] : KObj)]))) /\ (((someR (.cells false 0 [.bool false,.bool false,.bool false,.bool false,.bool false] : KObj)) /\ True) /\ (∀ H' : Heap,H'.length = 11 -> (H'[0]? = some (.cells false 0 [.bool false,.bool false,.bool false,.bool false,.bool false] : KObj) /\ True) -> /-N ⟨⟨rfl,trivial⟩,fun H' hl h => (by have k:=C114_391959661 (H:=H') [0] ⟨⟨_,_,h.1⟩,trivial⟩; rw [hl] at k; exact k),REST⟩-/KCall prog 114 [.agg #[nI 5,nI 1,sL 0 5 5],nI 2] H' [] (Is (sL 11 5 5) (H' ++ [(.cells true 1 [nI 2,nI 1,nI 0,nI 1,nI 2] : KObj)]))) /\ (true = true /\ wk (.tuple #[sL 33 2 2,nI 0] : Value) (rn (sg 2 [(2,33)]) 3 (.tuple #[sL 2 2 2,nI 0] : Value)) /\ (wkO (.cells true 1 [nI 1,nI 2] : KObj) (rno (sg 2 [(2,33)]) 3 (.cells true 1 [nI 1,nI 2] : KObj)) /\ True)))))
theorem E18_377635839 : vF prog msk (dm 0) 100000 true 40 true 18 [.agg #[nI 5,nI 1,sL 0 5 5,nI 10,sL 1 2 2],nI 25] (readsT 0 [[.bool false,.bool false,.bool false,.bool false,.bool false],[nI 0,nI 0,nI 40,nI 2]]) (some [])
 (.go 9 (.ans [(0,.cells false 0 [.bool false,.bool false,.bool false,.bool false,.bool false]),(1,.cells false 0 [nI 0,nI 0,nI 40,nI 2])] (nI 0) [] (.go 30 (.ans [(0,.cells false 0 [.bool false,.bool false,.bool false,.bool false,.bool false])] (sL 7 5 5) [.cells true 1 [nI 0,nI 1,nI 2,nI 3,nI 4]] (.into (some [4,5,6,7]) (.go 28 (.ans [(0,.cells false 0 [.bool false,.bool false,.bool false,.bool false,.bool false])] (sL 11 5 5) [.cells true 1 [nI 2,nI 1,nI 0,nI 1,nI 2]] (.into (some (List.range' 4 8)) (.go 1310 (.again [(2,33)]))))))))))
 (newK (readsT 0 [[.bool false,.bool false,.bool false,.bool false,.bool false],[nI 0,nI 0,nI 40,nI 2]]).n 3 (.tuple #[sL 2 2 2,nI 0]) [(false,.cells true 1 [nI 1,nI 2])]) = R18_377635839:=by kernel_rfl
theorem P18_377635839 : R18_377635839:=⟨⟨rfl,rfl,trivial⟩,fun H' _ h => C41_417788160 [0,1] ⟨⟨_,_,h.1⟩,⟨_,_,h.2.1⟩,trivial⟩,⟨⟨rfl,trivial⟩,fun H' hl h => (by have k:=C114_868361596 (H:=H') [0] ⟨⟨_,_,h.1⟩,trivial⟩; rw [hl] at k; exact k),⟨⟨rfl,trivial⟩,fun H' hl h => (by have k:=C114_391959661 (H:=H') [0] ⟨⟨_,_,h.1⟩,trivial⟩; rw [hl] at k; exact k),⟨rfl,wk_of_eq rfl,wkO_of_eq rfl,trivial⟩⟩⟩⟩
theorem C18_377635839 {H : Heap} (ids : List Nat) (h : InsA H (sgR 0 ids) ids [[.bool false,.bool false,.bool false,.bool false,.bool false],[nI 0,nI 0,nI 40,nI 2]]) : KCall prog 18 (([.agg #[nI 5,nI 1,sL 0 5 5,nI 10,sL 1 2 2],nI 25] : List Value).map (rn (sgR 0 ids) 3)) H [] (Is (rn (sgUp 2 H.length) 3 (.tuple #[sL 2 2 2,nI 0])) (H ++ [rno (sgUp 2 H.length) 3 (.cells true 1 [nI 1,nI 2])])) :=
 valNA (css:=[[.bool false,.bool false,.bool false,.bool false,.bool false],[nI 0,nI 0,nI 40,nI 2]]) (v:=.tuple #[sL 2 2 2,nI 0]) (new:=[(false,.cells true 1 [nI 1,nI 2])]) (Eq.mpr E18_377635839 P18_377635839) rfl rfl rfl rfl ids h.len h.get
def R19_643444466 : Prop :=
 (((someR (.cells false 0 [.bool false,.bool false,.bool false,.bool false,.bool false] : KObj)) /\ (someR (.cells false 0 [nI 0,nI 0,nI 40,nI 2] : KObj)) /\ True) /\ (∀ H' : Heap,H'.length = 4 -> (H'[0]? = some (.cells false 0 [.bool false,.bool false,.bool false,.bool false,.bool false] : KObj) /\ H'[1]? = some (.cells false 0 [nI 0,nI 0,nI 40,nI 2] : KObj) /\ True) -> /-N ⟨⟨rfl,rfl,trivial⟩,fun H' _ h => C41_417788160 [0,1] ⟨⟨_,_,h.1⟩,⟨_,_,h.2.1⟩,trivial⟩,REST⟩-/KCall prog 41 [.agg #[nI 5,nI 1,sL 0 5 5,nI 10,sL 1 2 2]] H' [] (Is (nI 0) H')) /\ (((someR (.cells false 0 [.bool false,.bool false,.bool false,.bool false,.bool false] : KObj)) /\ True) /\ (∀ H' : Heap,H'.length = 6 -> (H'[0]? = some (.cells false 0 [.bool false,.bool false,.bool false,.bool false,.bool false] : KObj) /\ True) -> /-N ⟨⟨rfl,trivial⟩,fun H' hl h => (by have k:=C114_868361596 (H:=H') [0] ⟨⟨_,_,h.1⟩,trivial⟩; rw [hl] at k; exact k),REST⟩-/KCall prog 114 [.agg #[nI 5,nI 1,sL 0 5 5],nI 0] H' [] (Is (sL 6 5 5) (H' ++ [(.cells true 1 [nI 0,nI 1,nI 2,nI 3,nI 4] : KObj)]))) /\ (((someR (.cells false 0 [.bool false,.bool false,.bool false,.bool false,.bool false] : KObj)) /\ True) /\ (∀ H' : Heap,H'.length = 10 -> (H'[0]? = some (.cells false 0 [.bool false,.bool false,.bool false,.bool false,.bool false] : KObj) /\ True) -> /-N ⟨⟨rfl,trivial⟩,fun H' hl h => (by have k:=C114_391959661 (H:=H') [0] ⟨⟨_,_,h.1⟩,trivial⟩; rw [hl] at k; exact k),REST⟩-/KCall prog 114 [.agg #[nI 5,nI 1,sL 0 5 5],nI 2] H' [] (Is (sL 10 5 5) (H' ++ [(.cells true 1 [nI 2,nI 1,nI 0,nI 1,nI 2] : KObj)]))) /\ (true = true /\ wk (.tuple #[sL 24 1 1,nI 0] : Value) (rn (sg 2 [(2,24)]) 3 (.tuple #[sL 2 1 1,nI 0] : Value)) /\ (wkO (.cells true 2 [nI 10,nI 30] : KObj) (rno (sg 2 [(2,24)]) 3 (.cells true 2 [nI 10,nI 30] : KObj)) /\ True)))))
theorem E19_643444466 : vF prog msk (dm 0) 100000 true 40 true 19 [.agg #[nI 5,nI 1,sL 0 5 5,nI 10,sL 1 2 2],nI 1] (readsT 0 [[.bool false,.bool false,.bool false,.bool false,.bool false],[nI 0,nI 0,nI 40,nI 2]]) (some [])
 (.go 8 (.ans [(0,.cells false 0 [.bool false,.bool false,.bool false,.bool false,.bool false]),(1,.cells false 0 [nI 0,nI 0,nI 40,nI 2])] (nI 0) [] (.go 30 (.ans [(0,.cells false 0 [.bool false,.bool false,.bool false,.bool false,.bool false])] (sL 6 5 5) [.cells true 1 [nI 0,nI 1,nI 2,nI 3,nI 4]] (.into (some [3,4,5,6]) (.go 28 (.ans [(0,.cells false 0 [.bool false,.bool false,.bool false,.bool false,.bool false])] (sL 10 5 5) [.cells true 1 [nI 2,nI 1,nI 0,nI 1,nI 2]] (.into (some (List.range' 3 8)) (.go 372 (.into (some (List.range' 2 17)) (.go 29 (.into (some (List.range' 2 17)) (.go 12 (.into (some (List.range' 2 17)) (.go 155 (.again [(2,24)]))))))))))))))))
 (newK (readsT 0 [[.bool false,.bool false,.bool false,.bool false,.bool false],[nI 0,nI 0,nI 40,nI 2]]).n 3 (.tuple #[sL 2 1 1,nI 0]) [(false,.cells true 2 [nI 10,nI 30])]) = R19_643444466:=by kernel_rfl
theorem P19_643444466 : R19_643444466:=⟨⟨rfl,rfl,trivial⟩,fun H' _ h => C41_417788160 [0,1] ⟨⟨_,_,h.1⟩,⟨_,_,h.2.1⟩,trivial⟩,⟨⟨rfl,trivial⟩,fun H' hl h => (by have k:=C114_868361596 (H:=H') [0] ⟨⟨_,_,h.1⟩,trivial⟩; rw [hl] at k; exact k),⟨⟨rfl,trivial⟩,fun H' hl h => (by have k:=C114_391959661 (H:=H') [0] ⟨⟨_,_,h.1⟩,trivial⟩; rw [hl] at k; exact k),⟨rfl,wk_of_eq rfl,wkO_of_eq rfl,trivial⟩⟩⟩⟩
theorem C19_643444466 {H : Heap} (ids : List Nat) (h : InsA H (sgR 0 ids) ids [[.bool false,.bool false,.bool false,.bool false,.bool false],[nI 0,nI 0,nI 40,nI 2]]) : KCall prog 19 (([.agg #[nI 5,nI 1,sL 0 5 5,nI 10,sL 1 2 2],nI 1] : List Value).map (rn (sgR 0 ids) 3)) H [] (Is (rn (sgUp 2 H.length) 3 (.tuple #[sL 2 1 1,nI 0])) (H ++ [rno (sgUp 2 H.length) 3 (.cells true 2 [nI 10,nI 30])])) :=
 valNA (css:=[[.bool false,.bool false,.bool false,.bool false,.bool false],[nI 0,nI 0,nI 40,nI 2]]) (v:=.tuple #[sL 2 1 1,nI 0]) (new:=[(false,.cells true 2 [nI 10,nI 30])]) (Eq.mpr E19_643444466 P19_643444466) rfl rfl rfl rfl ids h.len h.get
end
end Go.Proofs.YtbgfjemppjhmjaaGreat
/- Radio: the examples of the chapter (awake). No condition. -/
namespace Go.Proofs.YtbgfjemppjhmjaaGreat
open Go Go.K
set_option maxRecDepth 100000
set_option linter.unusedVariables false
set_option linter.unusedSimpArgs false
noncomputable section
attribute [local irreducible] vF
theorem hvAwake : Rawake (.bool true) := by
 unfold Rawake
 refine ⟨trivial, fun H' hl h => ?_, ⟨rfl, rfl, trivial⟩, fun H' hl h => ?_, ⟨rfl, rfl, trivial⟩, fun H' hl h => ?_, ⟨rfl, rfl, trivial⟩, fun H' hl h => ?_, ⟨rfl, rfl, trivial⟩, fun H' hl h => ?_, ⟨rfl, rfl, trivial⟩, fun H' hl h => ?_, ⟨rfl, rfl, trivial⟩, fun H' hl h => ?_, ⟨rfl, rfl, trivial⟩, fun H' hl h => ?_, ⟨rfl, rfl, trivial⟩, fun H' hl h => ?_, ⟨rfl, rfl, trivial⟩, fun H' hl h => ?_, rfl⟩
 ·have := kNew H'
  rw [hl] at this; exact this
 ·have := kAdd [] mA h.1 h.2.1
  rw [show addL [] mA = [mA] by decide, show addB [] mA = true by decide, show addErr [] mA = 0 by decide] at this; exact this
 ·have := kAdd [mA] mB h.1 h.2.1
  rw [show addL [mA] mB = [mA, mB] by decide, show addB [mA] mB = true by decide, show addErr [mA] mB = 0 by decide] at this; exact this
 ·have := kLive okAB (by decide) (H := H') (by decide) h.1 h.2.1
  rw [hl, liveAB] at this; exact this
 ·have := kGaps (a := 1) okAB (by decide) (by decide) (by decide) (H := H') (by decide) h.1 h.2.1
  rw [hl, gapsAB] at this; exact this
 ·have := kAdd [mA, mB] mC h.1 h.2.1
  rw [show addL [mA, mB] mC = [mA, mB, mC] by decide, show addB [mA, mB] mC = true by decide, show addErr [mA, mB] mC = 0 by decide] at this; exact this
 ·have := kLive okABC (by decide) (H := H') (by decide) h.1 h.2.1
  rw [hl, liveABC] at this; exact this
 ·have k := C24_956383489 (H := H') [15, 21] ⟨⟨_, _, h.1⟩, ⟨_, _, h.2.1⟩, trivial⟩
  rw [hl] at k; exact k
 ·have k := C18_377635839 (H := H') [15, 25] ⟨⟨_, _, h.1⟩, ⟨_, _, h.2.1⟩, trivial⟩
  rw [hl] at k; exact k
 ·have k := C19_643444466 (H := H') [15, 25] ⟨⟨_, _, h.1⟩, ⟨_, _, h.2.1⟩, trivial⟩
  rw [hl] at k; exact k
theorem kAwake (H : Heap) : KCall prog 14 [] H [] (Is (.bool true) H) :=
 valB (v := .bool true) (css := []) (ids := []) (Eq.mpr (Eawake _) hvAwake) (hv := rfl) (hi := trivial) (ha := rfl)
end
end Go.Proofs.YtbgfjemppjhmjaaGreat
/- What is to be shown of functions. Printed by a program. No condition. -/
namespace Go.Proofs.YtbgfjemppjhmjaaGreat
set_option linter.unusedSimpArgs false
open Go Go.K
set_option maxRecDepth 100000
set_option maxHeartbeats 4000000
set_option linter.unusedVariables false
noncomputable section
def RPick (sp : Value) (x n : Int) : Prop :=
 (((decide ((n : Int) < 1)) = true -> (.int .i64 0 : Value) = sp) /\ ((decide ((n : Int) < 1)) = false -> (((n : Int) ≠ 0) /\ (((decide (((Int.tmod x n) : Int) < 0)) = true -> ((.int .i64 (IntKind.wrap .i64 ((Int.tmod x n) + n)) : Value) = .int .i64 ((Int.tmod x n) + n) /\ (.int .i64 ((Int.tmod x n) + n) : Value) = sp)) /\ ((decide (((Int.tmod x n) : Int) < 0)) = false -> (.int .i64 (Int.tmod x n) : Value) = sp)))))
theorem EPick (sp : Value) (x n : Int) : vF prog msk (dm 0) 100000 true 40 true 16 [.int .i64 x, .int .i64 n] ⟨0, .leaf⟩ (some [])
 (.go 2 (.fork (.auto) (.go 1 (.need (.go 2 (.fork (.go 2 (.slot 15 (.int .i64 ((Int.tmod x n) + n)) (.auto))) (.auto)))))))
 (fun v _ _ => v = sp) = RPick sp x n := by kernel_rfl
def RNext (L : List Int) (n m : Int) : Prop :=
 (((decide ((0 : Int) < (((List.length L) : Nat) : Int))) = true -> ((((((List.length L) : Nat) : Int) : Int) ≠ 0) /\ (((0 : Int) <= (Int.tmod n (((List.length L) : Nat) : Int)) /\ ((Int.tmod n (((List.length L) : Nat) : Int)) : Int) < (((List.length L) : Nat) : Int)) /\ (((List.flatMap intC L)[(Int.toNat (Int.tmod n (((List.length L) : Nat) : Int)) * 1)]? = some (.int .i64 (List.getD L (Int.toNat (Int.tmod n (((List.length L) : Nat) : Int))) 0))) /\ ((((((List.length L) : Nat) : Int) : Int) ≠ 0) /\ (∃ y0 : Int, (.int .i64 (IntKind.wrap .i64 (Int.tdiv n (((List.length L) : Nat) : Int))) : Value) = .int .i64 y0 /\ (∃ y1 : Int, (.int .i64 (IntKind.wrap .i64 ((List.getD L (Int.toNat (Int.tmod n (((List.length L) : Nat) : Int))) 0) + y0)) : Value) = .int .i64 y1 /\ ((True) /\ (∀ H' : Heap, H'.length = 1 -> (True) -> KCall prog 16 [.int .i64 y1, .int .i64 m] H' [] (Is (.int .i64 (y1 % m)) H')) /\ (true = true /\ wk (.int .i64 (y1 % m) : Value) (rn (sg 1 []) 3 (.int .i64 (dN L n m) : Value)) /\ ((some (.cells true 0 [.iface ((List.length L) + 1) (.agg ⟨(List.flatMap intC L)⟩), .int .i64 (IntKind.wrap .i64 (n + 1))] : KObj) = some (.cells true 0 [.iface ((List.length L) + 1) (.agg ⟨(List.flatMap intC L)⟩), .int .i64 (n + 1)] : KObj) /\ belowO 1 (.cells true 0 [.iface ((List.length L) + 1) (.agg ⟨(List.flatMap intC L)⟩), .int .i64 (n + 1)] : KObj) = true) /\ True) /\ (True)))))))))) /\ ((decide ((0 : Int) < (((List.length L) : Nat) : Int))) = false -> ((True) /\ (∀ H' : Heap, H'.length = 1 -> (True) -> KCall prog 16 [.int .i64 0, .int .i64 m] H' [] (Is (.int .i64 (0 % m)) H')) /\ (true = true /\ wk (.int .i64 (0 % m) : Value) (rn (sg 1 []) 3 (.int .i64 (dN L n m) : Value)) /\ ((some (.cells true 0 [.iface ((List.length L) + 1) (.agg ⟨(List.flatMap intC L)⟩), .int .i64 (IntKind.wrap .i64 (n + 1))] : KObj) = some (.cells true 0 [.iface ((List.length L) + 1) (.agg ⟨(List.flatMap intC L)⟩), .int .i64 (n + 1)] : KObj) /\ belowO 1 (.cells true 0 [.iface ((List.length L) + 1) (.agg ⟨(List.flatMap intC L)⟩), .int .i64 (n + 1)] : KObj) = true) /\ True) /\ (True)))))
theorem ENext (L : List Int) (n m : Int) : vF prog msk (dm 0) 100000 true 40 true 27 [.pointer (some ⟨0, 0, none⟩), .int .i64 m] (readsW 0 0 (digC L n) []) (some [0])
 (.go 7 (.fork (.go 12 (.need (.need (.val (.int .i64 (List.getD L (Int.toNat (Int.tmod n (((List.length L) : Nat) : Int))) 0)) (.go 8 (.need (.bind Int (fun y0 => .slot 37 (.int .i64 y0) (.go 0 (.bind Int (fun y1 => .slot 38 (.int .i64 y1) (.go 10 (.ans [] (.int .i64 (y1 % m)) [] (.go 0 (.keep (.again [])))))))))))))))) (.go 9 (.ans [] (.int .i64 (0 % m)) [] (.go 0 (.keep (.again [])))))))
 (newKW ((readsW 0 0 (digC L n) []) : HT).n 3 0 (.cells true 0 [.iface ((List.length L) + 1) (.agg ⟨(List.flatMap intC L)⟩), .int .i64 (n + 1)]) (.int .i64 (dN L n m)) []) = RNext L n m := by kernel_rfl
end
end Go.Proofs.YtbgfjemppjhmjaaGreat
/- Radio: numbers. No condition. -/
namespace Go.Proofs.YtbgfjemppjhmjaaGreat
open Go Go.K
set_option maxRecDepth 100000
set_option linter.unusedVariables false
set_option linter.unusedSimpArgs false
noncomputable section
attribute [local irreducible] vF
theorem tmod_emod {x n : Int} (hn : 1 <= n) : (Int.tmod x n < 0 -> Int.tmod x n + n = x % n) /\ (¬ Int.tmod x n < 0 -> Int.tmod x n = x % n) /\ -n < Int.tmod x n /\ Int.tmod x n < n := by
 have h1 := Int.mul_tdiv_add_tmod x n
 have h2 := Int.lt_tmod_of_pos x (by omega : 0 < n)
 have h3 := Int.tmod_lt_of_pos x (by omega : 0 < n)
 refine ⟨fun h => ?_, fun h => ?_, h2, h3⟩
 ·have : x = (Int.tmod x n + n) + n * (x.tdiv n - 1) := by rw [Int.mul_sub]; omega
  rw [this, Int.add_mul_emod_self_left, <- this]
  exact (Int.emod_eq_of_lt (by omega) (by omega)).symm
 ·have : x = Int.tmod x n + n * x.tdiv n := by omega
  conv => rhs; rw [this, Int.add_mul_emod_self_left]
  exact (Int.emod_eq_of_lt (by omega) (by omega)).symm
theorem kPick (x n : Int) (h1 : 1 <= n) (h2 : n <= 9223372036854775807) (H : Heap) : KCall prog 16 [.int .i64 x, .int .i64 n] H [] (Is (.int .i64 (x % n)) H) := by
 refine valK 40 (fun _ => rfl) rfl (Eq.mpr (EPick _ x n) ?_) H
 obtain ⟨t1, t2, t3, t4⟩ := tmod_emod (x := x) h1
 unfold RPick
 exact forkD (fun h => by omega) (fun _ => ⟨by omega, forkD (fun h => ⟨vI64 (by omega), iEq (t1 h)⟩) (fun h => iEq (t2 h))⟩)
theorem plainDig (m : Nat) (L : List Int) (n : Int) : (digC L n).all (belowC m) = true := by
 show ((L.flatMap intC).all (belowD m) && (true && true)) = true
 rw [all_belowD]; rfl
theorem digO (m : Nat) (L : List Int) (n : Int) : belowO m (.cells true 0 (digC L n)) = true := plainDig m L n
theorem tmod_len {L : List Int} {n : Int} (hn : 0 <= n) (hL : 0 < L.length) : 0 <= Int.tmod n ((L.length : Nat) : Int) /\ Int.tmod n ((L.length : Nat) : Int) < ((L.length : Nat) : Int) := by
 rw [Int.tmod_eq_emod_of_nonneg hn]
 exact ⟨Int.emod_nonneg _ (by omega), Int.emod_lt_of_pos _ (by omega)⟩
theorem kNext (L : List Int) (n m : Int) (hn : 0 <= n /\ n <= 1000000000) (hm : 1 <= m /\ m <= 1000000000) {H : Heap} {D : Nat} (hD : H[D]? = some (.cells true 0 (digC L n))) :
  KCall prog 27 [.pointer (some ⟨D, 0, none⟩), .int .i64 m] H [D] (Is (.int .i64 (dN L n m)) (H.set D (.cells true 0 (digC L (n + 1))))) := by
 have key : KCall prog 27 [.pointer (some ⟨D, 0, none⟩), .int .i64 m] H [D] (Is (.int .i64 (dN L n m)) (H.set D (.cells true 0 (digC L (n + 1))) ++ [])) := by
  refine valW (fun _ => .int .i64 (dN L n m)) (css := []) (new := []) (Eq.mpr (ENext L n m) ?_) (plainDig 0 L n) (plainDig 0 L (n + 1)) trivial trivial rfl rfl (fun _ => rfl) hD (ids := []) trivial (by simp) rfl
  unfold RNext
  have hw : IntKind.wrap .i64 (n + 1) = n + 1 := wI64 (by omega)
  refine forkD (fun k => ?_) (fun k => ?_)
  ·have hL : 0 < L.length := by omega
   have hd : dVal L n = IntKind.wrap .i64 (L.getD (Int.toNat (Int.tmod n ((L.length : Nat) : Int))) 0 + IntKind.wrap .i64 (Int.tdiv n ((L.length : Nat) : Int))) := if_pos hL
   have hb := tmod_len hn.1 hL
   refine ⟨by omega, hb, intAt (by omega) (by omega), by omega, _, rfl, _, rfl, trivial, fun H' _ _ => kPick _ _ (by omega) (by omega) H', rfl, ?_, ⟨⟨by rw [hw], digO _ _ _⟩, trivial⟩, trivial⟩
   unfold dN
   rw [hd]; exact wk_refl _
  ·have hd : dVal L n = 0 := if_neg (by omega)
   refine ⟨trivial, fun H' _ _ => kPick _ _ (by omega) (by omega) H', rfl, ?_, ⟨⟨by rw [hw], digO _ _ _⟩, trivial⟩, trivial⟩
   unfold dN
   rw [hd]; exact wk_refl _
 rw [List.append_nil] at key
 exact key
end
end Go.Proofs.YtbgfjemppjhmjaaGreat
