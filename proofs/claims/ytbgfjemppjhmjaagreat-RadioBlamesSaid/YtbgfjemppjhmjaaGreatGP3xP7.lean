/- Radio: live messages. No condition. -/
import Derived.Test.YtbgfjemppjhmjaaGreatGW2xO3g
import Derived.Test.YtbgfjemppjhmjaaGreatGK27xW1
import Derived.Shelf.SlMaps.Clone
import Derived.Ground.SlmcProg
import Derived.Test.YtbgfjemppjhmjaaGreatChecked
namespace Go.Proofs.YtbgfjemppjhmjaaGreat
open Go Go.K
set_option maxRecDepth 100000
set_option linter.unusedVariables false
set_option linter.unusedSimpArgs false
noncomputable section
attribute [local irreducible] vF
theorem lookN (F : List ((Int × Int) × Bool)) (a n : Int) (ok : Bool) : klookE prog 79 (.bool false) (nmV (a, n)) ok (nmE F) = some (ktup ok (.bool (getA (a, n) false F)) (hasA (a, n) F)) :=
 look_A (key := nmV) (val := fun b => .bool b) keqN (a, n) false rfl ok F
theorem setN (F : List ((Int × Int) × Bool)) (a n : Int) (b : Bool) : ksetE prog 79 (nmV (a, n)) (.bool b) (nmE F) = some (nmE (putA (a, n) b F)) :=
 set_A (key := nmV) (val := fun b => .bool b) keqN eqN (a, n) b F
theorem nm_below (F : List ((Int × Int) × Bool)) (n : Nat) : belowO n (.map (nmE F)) = true := by
 show (nmE F).all _ = true
 unfold nmE encA
 rw [List.all_map, List.all_eq_true]
 intro m _; rfl
theorem nm_rno (F : List ((Int × Int) × Bool)) (σ : Nat -> Option Nat) : rno σ 3 (.map (nmE F)) = .map (nmE F) := by
 show KObj.map ((nmE F).map _) = _
 congr 1
 unfold nmE encA
 simp only [List.map_map]
 exact List.map_congr_left fun m _ => rfl
theorem nm_ok (F : List ((Int × Int) × Bool)) : rnoOk 3 (.map (nmE F)) = true := by
 show (nmE F).all _ = true
 unfold nmE encA
 rw [List.all_map, List.all_eq_true]
 intro m _; rfl
theorem hvG (F G : List ((Int × Int) × Bool)) (m : Msg) : Rgone F G m := by
 delta Rgone goneF
 refine ⟨fun a => ⟨rfl, ?_, trivial⟩, fun a => ⟨lookN _ _ _ false, fun b => ⟨rfl, ?_, trivial⟩, fun b => ⟨lookN _ _ _ false, rfl, ?_, trivial⟩⟩⟩
 ·rw [show decide (m.ki = 3) = true from a]; exact wk_refl _
 ·rw [b, Bool.or_true]; exact wk_refl _
 ·rw [show decide (m.ki = 3) = false from a, b]; exact wk_refl _
theorem kGone (F G : List ((Int × Int) × Bool)) (m : Msg) {H : Heap} {i j k l : Nat} (hnd : [i, j, k, l].Nodup) (hi : H[i]? = some (.cells true 0 [.map (some k)])) (hj : H[j]? = some (.cells true 0 [.map (some l)])) (hk : H[k]? = some (.map (nmE F))) (hl : H[l]? = some (.map (nmE G))) :
  KCall prog 163 [msgV m, .pointer (some ⟨i, 0, none⟩), .pointer (some ⟨j, 0, none⟩)] H [] (Is (.bool (goneF F G m)) H) := by
 have key := valKs (fun _ => .bool (goneF F G m)) (os := [.cells true 0 [.map (some 2)], .cells true 0 [.map (some 3)], .map (nmE F), .map (nmE G)]) (new := []) (Eq.mpr (Egone F G m) (hvG F G m))
  (by show (true && (true && (rnoOk 3 (.map (nmE F)) && (rnoOk 3 (.map (nmE G)) && true)))) = true; rw [nm_ok, nm_ok]; rfl) rfl trivial (ids := [i, j, k, l]) hnd (H := H)
  ⟨hi, hj, by rw [nm_rno]; exact hk, by rw [nm_rno]; exact hl, trivial⟩ (fun j => rfl) (args' := [msgV m, .pointer (some ⟨i, 0, none⟩), .pointer (some ⟨j, 0, none⟩)]) rfl
 rwa [List.append_nil] at key
theorem partM {l : List Msg} {k off : Nat} (h : k < l.length) (ho : off = k * 7) : partA 7 (l.flatMap msgC) off = some (msgV (l.getD k zeroM)) := part_at (n := 7) (d := zeroM) (c := 0) (m := 7) msgC_len h (by omega) (by omega)
theorem setQ {xs : List Msg} {k off : Nat} (hk : k < xs.length) (ho : off = k * 7) (y : Msg) : (some (KObj.cells true 7 (setl (xs.flatMap msgC) off (msgC y))) : Option KObj) = some (.cells true 7 ((xs.set k y).flatMap msgC)) := by
 subst ho
 rw [flat_set msgC_len xs k hk y]
theorem cells_rno (xs : List Msg) (σ : Nat -> Option Nat) : rno σ 3 (.cells true 7 (xs.flatMap msgC)) = .cells true 7 (xs.flatMap msgC) := congrArg (KObj.cells true 7) (rnCl (d := 0) (plainML 0 xs)).1
theorem wkO_self (xs : List Msg) (σ : Nat -> Option Nat) : wkO (.cells true 7 (xs.flatMap msgC)) (rno σ 3 (.cells true 7 (xs.flatMap msgC))) := wkO_of_eq (cells_rno xs σ).symm
theorem wkO_pre {own : Bool} {z : Nat} (A X : List Value) : wkO (.cells own z (A ++ X)) (.cells own z A) := by
 refine ⟨rfl, rfl, fun ρ r w ho => ?_, fun _ _ h => by cases h⟩
 obtain ⟨k1, k2, cs2, ty, fz, k3, k4, k5, k6⟩ := ho
 refine ⟨k1, k2, cs2, ty, fz, k3, k4, k5, fun i x hx => k6 i x ?_⟩
 rw [List.getElem?_append_left (List.getElem?_eq_some_iff.1 hx).1]; exact hx
theorem wkO_del {A B : List Msg} {off : Nat} (ho : off = A.length * 7) (n : List Value) (σ : Nat -> Option Nat) : wkO (.cells true 7 (setl ((A ++ B).flatMap msgC) off n)) (rno σ 3 (.cells true 7 (A.flatMap msgC))) := by
 rw [cells_rno, List.flatMap_append, ho, show A.length * 7 = (A.flatMap msgC).length + 0 from by rw [flat_len msgC_len, Nat.add_zero], setl_app]
 exact wkO_pre _ _
theorem hv4 {L : List Msg} (hk : ∀ m ∈ L, okM m = true) (hl : L.length <= 2000) : Rlive L := by
 delta Rlive kpj kp2 kpq kpl kpn kp9 kp5 kpd kph kp0 kp6 kp1 kp8 kpe kpc kpk kpg kpo kpa kp7 kpf kp4 kpb kpm kp3 kpi
 refine ⟨rfl, seen_0 L, ?_, fun _ => rfl, fun s hs => ⟨rfl, fun i hi hn => ⟨rfl, entM L (by rwa [held_len] at hi) s, lookN _ _ _ true, setN _ _ _ _, ?_⟩, fun hall => ?_⟩⟩
 ·repeat' first | exact nm_below _ _ | exact rfl | exact wk_refl _ | exact wks_nil | apply And.intro
 ·have hi' : i < L.length := by rwa [held_len] at hi
  refine ⟨s ++ [i], seen_snoc hs hi' hn, seen_more hs hi' hn, ?_⟩
  rw [forgF_snoc]
  repeat' first | exact nm_below _ _ | exact rfl | exact wk_refl _ | exact wks_nil | apply And.intro
 ·have hall1 : s.Perm (List.range L.length) := seen_all hs fun i hi => hall i (by rwa [held_len])
  refine ⟨rfl, seen_0 L, ?_, fun _ => rfl, fun t ht => ⟨rfl, fun i hi hn => ⟨rfl, entM L (by rwa [held_len] at hi) t, ?_⟩, fun hall => ?_⟩⟩
  ·repeat' first | exact nm_below _ _ | exact rfl | exact wk_refl _ | exact wks_nil | apply And.intro
  ·have hi' : i < L.length := by rwa [held_len] at hi
   refine ⟨fun a => ⟨lookN _ _ _ false, fun b => ⟨setN _ _ _ _, t ++ [i], seen_snoc ht hi' hn, seen_more ht hi' hn, ?_⟩, fun b => ⟨t ++ [i], seen_snoc ht hi' hn, seen_more ht hi' hn, ?_⟩⟩, fun a => ⟨t ++ [i], seen_snoc ht hi' hn, seen_more ht hi' hn, ?_⟩⟩
   ·rw [wdF_snoc, if_pos ⟨eq_of_beq a, notB b⟩]
    repeat' first | exact nm_below _ _ | exact rfl | exact wk_refl _ | exact wks_nil | apply And.intro
   ·rw [wdF_snoc, if_neg (fun q => by rw [notB2 b] at q; cases q.2)]
    repeat' first | exact nm_below _ _ | exact rfl | exact wk_refl _ | exact wks_nil | apply And.intro
   ·rw [wdF_snoc, if_neg (fun q => by rw [q.1] at a; cases a)]
    repeat' first | exact nm_below _ _ | exact rfl | exact wk_refl _ | exact wks_nil | apply And.intro
  ·have hall2 : t.Perm (List.range L.length) := seen_all ht fun i hi => hall i (by rwa [held_len])
   have hG : ∀ m, goneF (forgF L s) (wdF L (forgF L s) t) m = goneB L m := fun m => goneF_all hall1 hall2 m
   have hS := srtM_len L
   have hn : [4, 6, 2, 5].Nodup := by decide
   refine ⟨⟨rfl, rfl, trivial⟩, fun H' hl' h => ?_, rfl, ⟨Nat.zero_le _, rfl⟩, ?_, fun _ => rfl, fun x hx => ⟨fun a => ?_, fun a => ?_⟩⟩
   ·have := kSorted hk hl (H := H') (by decide) h.1 h.2.1
    rw [hl'] at this; exact this
   ·repeat' first | exact rfl | exact wk_refl _ | exact wks_nil | apply And.intro
   ·have hx1 : x < (srtM L).length := by have := of_decide_eq_true a; omega
    refine ⟨⟨by omega, by omega⟩, partM hx1 (by omega), ⟨rfl, rfl, rfl, rfl, trivial⟩, fun H' _ h => kGone _ _ _ hn h.1 h.2.1 h.2.2.1 h.2.2.2.1, fun g => ⟨fun c => absurd (eq_of_beq c) (by omega), fun c => ?_⟩, fun g => ?_⟩
    ·rw [hG] at g
     have hq : stayB L ((srtM L).getD x zeroM) = false := by unfold stayB; rw [g]; rfl
     have hkl : (keepQ (stayB L) (srtM L) (x + 1)).length = x := by rw [keepQ_0 hx1 hq, keepQ_all hx.2, List.length_take]; omega
     refine ⟨vI64 (by omega), rfl, ⟨hx1, by omega⟩, ?_, fun _ => rfl, fun y hy => ⟨fun b => ?_, fun b => ?_⟩⟩
     ·rw [hkl, midQ_0 hx1 hq, midQ_all hx.2 hx.1]
      repeat' first | exact plainML _ _ | exact rfl | exact wk_refl _ | exact wks_nil | apply And.intro
     ·have hy1 : y < (srtM L).length := by have := of_decide_eq_true b; omega
      have hml := midQ_len (q := stayB L) (M := srtM L) hy.1
      refine ⟨⟨by omega, by omega⟩, partM (by omega) (by omega), ⟨rfl, rfl, rfl, rfl, trivial⟩, fun H' _ h => kGone _ _ _ hn h.1 h.2.1 h.2.2.1 h.2.2.2.1, ?_⟩
      rw [hG, midQ_at hy1]
      refine ⟨fun g2 => ?_, fun g2 => ?_⟩
      ·have hq : stayB L ((srtM L).getD y zeroM) = true := g2
       have hy2 := hy.2
       have hle : (keepQ (stayB L) (srtM L) (y + 1)).length = (keepQ (stayB L) (srtM L) y).length + 1 := by rw [keepQ_1 hy1 hq, List.length_append]; rfl
       refine ⟨⟨by omega, by omega⟩, by rw [flat_len msgC_len, hml]; omega, rfl, vI64 (by omega), vI64 (by omega), y + 1, ⟨by omega, by omega⟩, by omega, rfl, ?_⟩
       rw [hle, midQ_1 hy1 hq]
       repeat' first | (exact setQ (by omega) (by omega) _) | exact plainML _ _ | exact rfl | exact wk_refl _ | exact wks_nil | apply And.intro
      ·have hq : stayB L ((srtM L).getD y zeroM) = false := g2
       have hy2 := hy.2
       refine ⟨vI64 (by omega), y + 1, ⟨by omega, by rw [keepQ_0 hy1 hq]; omega⟩, by omega, rfl, ?_⟩
       rw [keepQ_0 hy1 hq, midQ_0 hy1 hq]
       repeat' first | exact plainML _ _ | exact rfl | exact wk_refl _ | exact wks_nil | apply And.intro
     ·have hy1 : y = (srtM L).length := by have := of_decide_eq_false b; omega
      have hml := midQ_len (q := stayB L) (M := srtM L) hy.1
      have hy2 := hy.2
      have e : keepQ (stayB L) (srtM L) y = liveL L := by rw [hy1, keepQ_end]; rfl
      refine ⟨⟨⟨.inr (.inr rfl), Nat.le_refl _⟩, Nat.le_refl _, by omega, by omega⟩, rfl, by rw [flat_len msgC_len, hml]; omega, rfl, ⟨⟨.inr (.inr rfl), by omega⟩, ⟨by omega, by omega⟩, Nat.zero_le _⟩, rfl, rfl, ?_, ?_, trivial⟩
      ·rw [e]; exact wk_refl _
      ·rw [<- e]; exact wkO_del (by omega) _ _
    ·rw [hG] at g
     have hq : stayB L ((srtM L).getD x zeroM) = true := by unfold stayB; rw [g]; rfl
     refine ⟨vI64 (by omega), x + 1, ⟨by omega, ?_⟩, by omega, rfl, ?_⟩
     ·rw [List.take_succ_eq_append_getElem hx1, List.all_append, hx.2, List.all_cons]
      rw [show (srtM L).getD x zeroM = (srtM L)[x] from by simp [List.getD_eq_getElem?_getD, hx1]] at hq
      rw [hq]; rfl
     ·repeat' first | exact rfl | exact wk_refl _ | exact wks_nil | apply And.intro
   ·have hx1 : x = (srtM L).length := by have := of_decide_eq_false a; omega
    have hall3 : liveL L = srtM L := by
     show (srtM L).filter (stayB L) = srtM L
     have := hx.2
     rw [hx1, List.take_length, List.all_eq_true] at this
     exact List.filter_eq_self.2 this
    rw [hall3]
    repeat' first | exact wk_QR | exact wkO_self _ _ | exact rfl | exact wk_refl _ | exact wks_nil | apply And.intro
theorem kLive0 {L : List Msg} (hk : ∀ m ∈ L, okM m = true) (hl : L.length <= 2000) {H : Heap} {i q : Nat} (hne : i ≠ q) (hi : H[i]? = some (.cells true 0 [.map (some q)])) (hq : H[q]? = some (.map (heldE L))) :
  KCall prog 98 [.pointer (some ⟨i, 0, none⟩)] H [] (Is (.slice (some ⟨H.length, 0, some 2⟩) (liveL L).length (liveL L).length) (H ++ [.cells true 7 ((liveL L).flatMap msgC)])) :=
 valKp (fun j => .slice (some ⟨j, 0, some 2⟩) (liveL L).length (liveL L).length) (os := [.cells true 0 [.map (some 1)], .map (heldE L)]) (Eq.mpr (Elive L) (hv4 hk hl)) (pic_ok L 1) rfl
  ⟨⟨_, _, rfl, plainML _ _⟩, trivial⟩ (ids := [i, q]) (by simp [hne]) (pic_objs hi hq) (fun j => rfl) rfl
end
end Go.Proofs.YtbgfjemppjhmjaaGreat
/- What is to be shown of functions. Printed by a program. No condition. -/
namespace Go.Proofs.YtbgfjemppjhmjaaGreat
set_option linter.unusedSimpArgs false
open Go Go.K
set_option maxRecDepth 100000
set_option maxHeartbeats 4000000
set_option linter.unusedVariables false
noncomputable section
def RliveP (L : List Msg) : Prop :=
 (((some (.cells true 0 [.map (some 1)] : KObj) = some (.cells true 0 [.map (some 1)] : KObj)) /\ (some (.map (heldE L) : KObj) = some (.map (heldE L) : KObj)) /\ True) /\ (∀ H' : Heap,H'.length = 2 -> (H'[0]? = some (.cells true 0 [.map (some 1)] : KObj) /\ H'[1]? = some (.map (heldE L) : KObj) /\ True) -> KCall prog 98 [.pointer (some ⟨0,0,none⟩)] H' [] (Is (.slice (some ⟨2,0,some 2⟩) (List.length (liveL L)) (List.length (liveL L))) (H' ++ [(.cells true 7 (List.flatMap msgC (liveL L)) : KObj)]))) /\ (true = true /\ wk (.tuple #[.slice (some ⟨2,0,some 2⟩) (List.length (liveL L)) (List.length (liveL L)),.int .i64 0] : Value) (rn (sg 2 [(2,2)]) 3 (.tuple #[.slice (some ⟨2,0,some 2⟩) (List.length (liveL L)) (List.length (liveL L)),.int .i64 0] : Value)) /\ ((some (.cells true 7 (List.flatMap msgC (liveL L)) : KObj) = some (.cells true 7 (List.flatMap msgC (liveL L)) : KObj) /\ belowO 2 (.cells true 7 (List.flatMap msgC (liveL L)) : KObj) = true) /\ True)))
theorem EliveP (L : List Msg) : vF prog msk (dm 0) 100000 true 40 true 34 [.pointer (some ⟨0,0,none⟩)] (readsK [.cells true 0 [.map (some 1)],.map (heldE L)]) (some [])
 (.go 16 (.ans [(0,.cells true 0 [.map (some 1)]),(1,.map (heldE L))] (.slice (some ⟨2,0,some 2⟩) (List.length (liveL L)) (List.length (liveL L))) [.cells true 7 (List.flatMap msgC (liveL L))] (.go 1 (.again [(2,2)]))))
 (newK ((readsK [.cells true 0 [.map (some 1)],.map (heldE L)]) : HT).n 3 (.tuple #[.slice (some ⟨2,0,some 2⟩) (List.length (liveL L)) (List.length (liveL L)),.int .i64 0]) [(true,.cells true 7 (List.flatMap msgC (liveL L)))]) = RliveP L:=by kernel_rfl
end
end Go.Proofs.YtbgfjemppjhmjaaGreat
/- The library's Clone of maps, laid at this program (written by the kit's own tool). No condition. -/
namespace Go.Proofs.YtbgfjemppjhmjaaGreat
set_option linter.unusedSimpArgs false
set_option linter.unusedVariables false
open Go Go.Shelf
end Go.Proofs.YtbgfjemppjhmjaaGreat
/- The library's Clone of a map, by the kit's contract, over canonical memory. No condition. -/
namespace Go.K
set_option linter.unusedSimpArgs false
open Go Go.Proofs
set_option linter.unusedVariables false
variable {P : Program}
end Go.K
/- Radio: messages, live ones, copies, what lacks, two pictures together. No condition. -/
namespace Go.Proofs.YtbgfjemppjhmjaaGreat
open Go Go.K
set_option maxRecDepth 100000
set_option linter.unusedVariables false
set_option linter.unusedSimpArgs false
noncomputable section
attribute [local irreducible] vF
theorem kLive {L : List Msg} (hk : ∀ m ∈ L, okM m = true) (hl : L.length <= 2000) {H : Heap} {i q : Nat} (hne : i ≠ q) (hi : H[i]? = some (.cells true 0 [.map (some q)])) (hq : H[q]? = some (.map (heldE L))) :
  KCall prog 34 [.pointer (some ⟨i, 0, none⟩)] H [] (Is (.tuple #[.slice (some ⟨H.length, 0, some 2⟩) (liveL L).length (liveL L).length, .int .i64 0]) (H ++ [.cells true 7 ((liveL L).flatMap msgC)])) := by
 refine valKp (fun j => .tuple #[.slice (some ⟨j, 0, some 2⟩) (liveL L).length (liveL L).length, .int .i64 0]) (os := [.cells true 0 [.map (some 1)], .map (heldE L)]) (b := true) (Eq.mpr (EliveP L) ?_) (pic_ok L 1) rfl
  ⟨⟨_, _, rfl, plainML _ _⟩, trivial⟩ (ids := [i, q]) (by simp [hne]) (pic_objs hi hq) (fun j => rfl) rfl
 refine ⟨⟨rfl, rfl, trivial⟩, fun H' hl' h => ?_, rfl, wk_refl _, ⟨rfl, plainML _ _⟩, trivial⟩
 have := kLive0 hk hl (H := H') (by decide) h.1 h.2.1
 rw [hl'] at this; exact this
end
end Go.Proofs.YtbgfjemppjhmjaaGreat
/- Radio: gaps, as plain functions. No condition. -/
namespace Go.Proofs.YtbgfjemppjhmjaaGreat
set_option linter.unusedSimpArgs false
open Go Go.K
set_option linter.unusedVariables false
def zeroSp : Int × Int := (0, 0)
abbrev spC (x : Int × Int) : List Value := [.int .i64 x.1, .int .i64 x.2]
def gStep (a : Int) (st : Int × Int × List (Int × Int)) (m : Msg) : Int × Int × List (Int × Int) :=
 if m.au = a /\ m.nu ≠ st.1 then (m.nu, m.nu + 1, if st.2.1 < m.nu then st.2.2 ++ [(st.2.1, m.nu - 1)] else st.2.2) else st
def gapS (M : List Msg) (a : Int) (x : Nat) : Int × Int × List (Int × Int) := (M.take x).foldl (gStep a) (0, 1, [])
def gapsL (L : List Msg) (a : Int) : List (Int × Int) := (gapS (srtM L) a (srtM L).length).2.2
theorem gapS_succ {M : List Msg} {x : Nat} (hx : x < M.length) (a : Int) : gapS M a (x + 1) = gStep a (gapS M a x) (M.getD x zeroM) := by
 unfold gapS
 rw [List.take_succ_eq_append_getElem hx, List.foldl_append]
 rw [show M.getD x zeroM = M[x] from by simp [List.getD_eq_getElem?_getD, hx]]; rfl
theorem gapS_len (M : List Msg) (a : Int) : ∀ x, (gapS M a x).2.2.length <= x := by
 intro x
 induction x with
 | zero => exact Nat.le_refl _
 | succ x ih =>
  rcases Nat.lt_or_ge x M.length with h | h
  ·rw [gapS_succ h]
   unfold gStep
   split
   ·show (if (gapS M a x).2.1 < (M.getD x zeroM).nu then (gapS M a x).2.2 ++ [((gapS M a x).2.1, (M.getD x zeroM).nu - 1)] else (gapS M a x).2.2).length <= x + 1
    split
    ·rw [List.length_append]; simp only [List.length_cons, List.length_nil]; omega
    ·omega
   ·omega
  ·have : gapS M a (x + 1) = gapS M a x := by unfold gapS; rw [List.take_of_length_le (by omega), List.take_of_length_le h]
   rw [this]; omega
theorem gStep_0 {a : Int} {st : Int × Int × List (Int × Int)} {m : Msg} (h : m.au ≠ a ∨ m.nu = st.1) : gStep a st m = st := if_neg fun q => h.elim (fun e => e q.1) (fun e => q.2 e)
theorem gStep_1 {a : Int} {st : Int × Int × List (Int × Int)} {m : Msg} (h1 : m.au = a) (h2 : m.nu ≠ st.1) (h3 : st.2.1 < m.nu) : gStep a st m = (m.nu, m.nu + 1, st.2.2 ++ [(st.2.1, m.nu - 1)]) := by
 unfold gStep; rw [if_pos ⟨h1, h2⟩, if_pos h3]
theorem gStep_2 {a : Int} {st : Int × Int × List (Int × Int)} {m : Msg} (h1 : m.au = a) (h2 : m.nu ≠ st.1) (h3 : ¬ st.2.1 < m.nu) : gStep a st m = (m.nu, m.nu + 1, st.2.2) := by
 unfold gStep; rw [if_pos ⟨h1, h2⟩, if_neg h3]
end Go.Proofs.YtbgfjemppjhmjaaGreat
/- What is to be shown of functions. Printed by a program. No condition. -/
namespace Go.Proofs.YtbgfjemppjhmjaaGreat
set_option linter.unusedSimpArgs false
open Go Go.K
set_option maxRecDepth 100000
set_option maxHeartbeats 4000000
set_option linter.unusedVariables false
noncomputable section
abbrev ks5 (L : List Msg) (a : Int) : Value:=.tuple #[.slice (some ⟨2,0,some 1⟩) (List.length (gapsL L a)) (List.length (gapsL L a)),.int .i64 0]
abbrev kse (L : List Msg) (a : Int) : Prop:=true = true /\ wk (.tuple #[.slice none 0 0,.int .i64 6] : Value) (rn (sg 2 []) 3 (ks5 L a)) /\ (True /\ True)
abbrev ksh : KObj:=.cells true 0 [.map (some 1)]
abbrev ksa (L : List Msg):=List.length (srtM L)
abbrev ks1 (L : List Msg) : Prop:=(.pointer (some ⟨5,0,none⟩) : Value) = .pointer (some ⟨5,0,none⟩) /\ (.func (.yield 6) #[] #[] : Value) = .func (.yield 6) #[] #[] /\ wk (.slice (some ⟨7,0,some 1⟩) (ksa L) (ksa L) : Value) (.slice (some ⟨7,0,some 1⟩) (ksa L) (ksa L) : Value) /\ (.int .i64 (((ksa L) : Nat) : Int) : Value) = .int .i64 (((ksa L) : Nat) : Int) /\ True
abbrev ks0 (a : Int) : Prop:=(lrecOk prog 33 0 /\ (.func (.func 161) #[] #[.pointer (some ⟨4,0,none⟩),.pointer (some ⟨5,0,none⟩)] : Value) = .func (.func 161) #[] #[.pointer (some ⟨4,0,none⟩),.pointer (some ⟨5,0,none⟩)] /\ (.int .i64 a : Value) = .int .i64 a /\ (.pointer (some ⟨0,0,none⟩) : Value) = .pointer (some ⟨0,0,none⟩) /\ (.pointer (some ⟨3,0,none⟩) : Value) = .pointer (some ⟨3,0,none⟩) /\ (.pointer (some ⟨2,0,none⟩) : Value) = .pointer (some ⟨2,0,none⟩) /\ (.bool false : Value) = .bool false /\ (.bool (decide ((a : Int) <= 4)) : Value) = .bool (decide ((a : Int) <= 4)) /\ (.int .i64 a : Value) = .int .i64 a /\ (.bool false : Value) = .bool false /\ (.pointer (some ⟨0,0,none⟩) : Value) = .pointer (some ⟨0,0,none⟩) /\ (.int .i64 0 : Value) = .int .i64 0 /\ (.slice none 0 0 : Value) = .slice none 0 0 /\ (.pointer (some ⟨0,0,none⟩) : Value) = .pointer (some ⟨0,0,none⟩) /\ (.int .i64 a : Value) = .int .i64 a /\ True) /\ True
abbrev ks8 (x1 : Nat) : Int:=(x1 : Nat)
abbrev ks3 (L : List Msg) (x1 : Nat):=List.getD (srtM L) x1 zeroM
abbrev ks7 (L : List Msg) (x1 : Nat) : Value:=.agg #[.int .i64 (ks3 L x1).au,.int .i64 (ks3 L x1).nu,.int .i64 (ks3 L x1).at_,.int .i64 (ks3 L x1).ki,.int .i64 (ks3 L x1).sh,.int .i64 (ks3 L x1).ce,.int .i64 (ks3 L x1).va]
abbrev ks4 (L : List Msg) (a : Int) (x1 : Nat):=List.length (gapS (srtM L) a x1).2.2
abbrev ksd (L : List Msg) (a : Int) (x1' : Nat) : KObj:=.cells true 0 [.slice (some ⟨8,0,some 1⟩) (List.length (gapS (srtM L) a x1').2.2) (List.length (gapS (srtM L) a x1').2.2)]
abbrev ksf (L : List Msg) (a : Int) (x1 : Nat):=List.flatMap spC (gapS (srtM L) a x1).2.2
abbrev ks9 (L : List Msg) (a : Int) (x1' : Nat) : KObj:=.cells true 2 (List.flatMap spC (gapS (srtM L) a x1').2.2)
abbrev ks2 (x1 : Nat) (L : List Msg) (a : Int) : Prop:=(.int .i64 (IntKind.wrap .i64 ((ks8 x1) + 1)) : Value) = .int .i64 ((ks8 x1) + 1) /\ (∃ x1' : Nat,(x1' <= List.length (srtM L)) /\ (List.length (srtM L) - x1') < (List.length (srtM L) - x1) /\ true = true /\ ((.int .i64 ((ks8 x1) + 1) : Value) = .int .i64 ((x1' : Nat) : Int) /\ (.int .i64 (gapS (srtM L) a x1).1 : Value) = .int .i64 (gapS (srtM L) a x1').1 /\ ks1 L) /\ (wkO (.cells true 0 [.slice (some ⟨8,0,some 1⟩) (ks4 L a x1) (ks4 L a x1)] : KObj) (rno (sg 8 [(8,8)]) 3 (ksd L a x1')) /\ (some (.cells true 0 [.int .i64 (gapS (srtM L) a x1).2.1] : KObj) = some (.cells true 0 [.int .i64 (gapS (srtM L) a x1').2.1] : KObj) /\ belowO 8 (.cells true 0 [.int .i64 (gapS (srtM L) a x1').2.1] : KObj) = true) /\ True) /\ ((some (.cells true 2 (ksf L a x1) : KObj) = some (ks9 L a x1') /\ belowO 8 (ks9 L a x1') = true) /\ True) /\ (ks0 a))
abbrev ksb (L : List Msg) (a : Int) (x1 : Nat) : List Value:=[.int .i64 (gapS (srtM L) a x1).2.1,.int .i64 ((ks3 L x1).nu - 1)]
abbrev ksg (x1 : Nat) (x1' : Nat) (L : List Msg) (a : Int) : Prop:=(.int .i64 ((ks8 x1) + 1) : Value) = .int .i64 ((x1' : Nat) : Int) /\ (.int .i64 (ks3 L x1).nu : Value) = .int .i64 (gapS (srtM L) a x1').1 /\ ks1 L
abbrev ks6 (L : List Msg) (x1 : Nat) (a : Int) (x1' : Nat) : Prop:=(some (.cells true 0 [.int .i64 ((ks3 L x1).nu + 1)] : KObj) = some (.cells true 0 [.int .i64 (gapS (srtM L) a x1').2.1] : KObj) /\ belowO 8 (.cells true 0 [.int .i64 (gapS (srtM L) a x1').2.1] : KObj) = true) /\ True
def Rgaps (L : List Msg) (a : Int) : Prop :=
 (((decide ((1 : Int) <= a)) = true -> (((!(decide ((a : Int) <= 4))) = true -> (kse L a)) /\ ((!(decide ((a : Int) <= 4))) = false -> (((some ksh = some ksh) /\ (some (.map (heldE L) : KObj) = some (.map (heldE L) : KObj)) /\ True) /\ (∀ H' : Heap,H'.length = 7 -> (H'[0]? = some ksh /\ H'[1]? = some (.map (heldE L) : KObj) /\ True) -> KCall prog 95 [.pointer (some ⟨0,0,none⟩)] H' [] (Is (.slice (some ⟨7,0,some 1⟩) (ksa L) (ksa L)) (H' ++ [(.cells true 7 (List.flatMap msgC (srtM L)) : KObj)]))) /\ (true = true /\ (0 <= List.length (srtM L)) /\ (true = true /\ ((.int .i64 0 : Value) = .int .i64 ((0 : Nat) : Int) /\ (.int .i64 0 : Value) = .int .i64 (gapS (srtM L) a 0).1 /\ ks1 L) /\ (wkO (.cells true 0 [.slice none 0 0] : KObj) (rno (sg 8 []) 3 (.cells true 0 [.slice (some ⟨8,0,some 1⟩) (List.length (gapS (srtM L) a 0).2.2) (List.length (gapS (srtM L) a 0).2.2)] : KObj)) /\ (some (.cells true 0 [.int .i64 1] : KObj) = some (.cells true 0 [.int .i64 (gapS (srtM L) a 0).2.1] : KObj) /\ belowO 8 (.cells true 0 [.int .i64 (gapS (srtM L) a 0).2.1] : KObj) = true) /\ True) /\ (True /\ True) /\ (ks0 a)) /\ (∀ x1 : Nat,true = true) /\ ∀ x1 : Nat,(x1 <= List.length (srtM L)) -> (((decide (((ks8 x1) : Int) < (((ksa L) : Nat) : Int))) = true -> (((0 : Int) <= (ks8 x1) /\ ((ks8 x1) : Int) < (((ksa L) : Nat) : Int)) /\ ((partA 7 (List.flatMap msgC (srtM L)) (0 + Int.toNat (ks8 x1) * 7) = some (ks7 L x1)) /\ (((((ks3 L x1).au : Int) != a) = true -> (ks2 x1 L a)) /\ ((((ks3 L x1).au : Int) != a) = false -> (((((ks3 L x1).nu : Int) == (gapS (srtM L) a x1).1) = true -> (ks2 x1 L a)) /\ ((((ks3 L x1).nu : Int) == (gapS (srtM L) a x1).1) = false -> (((decide (((gapS (srtM L) a x1).2.1 : Int) < (ks3 L x1).nu)) = true -> ((.int .i64 (IntKind.wrap .i64 ((ks3 L x1).nu - 1)) : Value) = .int .i64 ((ks3 L x1).nu - 1) /\ ((((ks4 L a x1) + 1) * 16 <= 2 ^ 44 /\ 1 ≠ 0 /\ ((ks4 L a x1) <= (ks4 L a x1) /\ 0 + (ks4 L a x1) * 2 <= List.length (ksf L a x1)) /\ (1 <= 1 /\ 0 + 1 * 2 <= List.length (ksb L a x1)) /\ ((List.take (1 * 2) (List.drop 0 (ksb L a x1))) : List Value).all (fun v => one1 v) = true) /\ true = true /\ ((.int .i64 (IntKind.wrap .i64 ((ks3 L x1).nu + 1)) : Value) = .int .i64 ((ks3 L x1).nu + 1) /\ ((.int .i64 (IntKind.wrap .i64 ((ks8 x1) + 1)) : Value) = .int .i64 ((ks8 x1) + 1) /\ (∃ x1' : Nat,(x1' <= List.length (srtM L)) /\ (List.length (srtM L) - x1') < (List.length (srtM L) - x1) /\ true = true /\ (ksg x1 x1' L a) /\ (wkO (.cells true 0 [.slice (some ⟨11,0,none⟩) ((ks4 L a x1) + 1) ((ks4 L a x1) + 1)] : KObj) (rno (sg 8 [(8,11)]) 3 (ksd L a x1')) /\ ks6 L x1 a x1') /\ ((some (.cells true 2 ((List.take ((ks4 L a x1) * 2) (List.drop 0 (ksf L a x1))) ++ (List.take (1 * 2) (List.drop 0 (ksb L a x1)))) : KObj) = some (ks9 L a x1') /\ belowO 8 (ks9 L a x1') = true) /\ True) /\ (ks0 a))))))) /\ ((decide (((gapS (srtM L) a x1).2.1 : Int) < (ks3 L x1).nu)) = false -> ((.int .i64 (IntKind.wrap .i64 ((ks3 L x1).nu + 1)) : Value) = .int .i64 ((ks3 L x1).nu + 1) /\ ((.int .i64 (IntKind.wrap .i64 ((ks8 x1) + 1)) : Value) = .int .i64 ((ks8 x1) + 1) /\ (∃ x1' : Nat,(x1' <= List.length (srtM L)) /\ (List.length (srtM L) - x1') < (List.length (srtM L) - x1) /\ true = true /\ (ksg x1 x1' L a) /\ (wkO (.cells true 0 [.slice (some ⟨8,0,some 1⟩) (ks4 L a x1) (ks4 L a x1)] : KObj) (rno (sg 8 [(8,8)]) 3 (ksd L a x1')) /\ ks6 L x1 a x1') /\ ((some (.cells true 2 (ksf L a x1) : KObj) = some (ks9 L a x1') /\ belowO 8 (ks9 L a x1') = true) /\ True) /\ (ks0 a))))))))))))) /\ ((decide (((ks8 x1) : Int) < (((ksa L) : Nat) : Int))) = false -> (true = true /\ wk (.tuple #[.slice (some ⟨8,0,some 1⟩) (ks4 L a x1) (ks4 L a x1),.int .i64 0] : Value) (rn (sg 2 [(2,8)]) 3 (ks5 L a)) /\ ((some (.cells true 2 (ksf L a x1) : KObj) = some (.cells true 2 (List.flatMap spC (gapsL L a)) : KObj) /\ belowO 2 (.cells true 2 (List.flatMap spC (gapsL L a)) : KObj) = true) /\ True))))))))) /\ ((decide ((1 : Int) <= a)) = false -> (kse L a)))
abbrev ksc (x1 : Nat) : Hint:=.slot 30 (.int .i64 ((ks8 x1) + 1)) (.go 0 (.again [(8,8)]))
theorem Egaps (L : List Msg) (a : Int) : vF prog msk (dm 0) 100000 true 40 true 33 [.pointer (some ⟨0,0,none⟩),.int .i64 a] (readsK [.cells true 0 [.map (some 1)],.map (heldE L)]) (some [])
 (.go 22 (.gfork (.go 5 (.fork (.go 1 (.again [])) (.go 10 (.into (some [2,3,4,5]) (.go 1 (.ans [(0,.cells true 0 [.map (some 1)]),(1,.map (heldE L))] (.slice (some ⟨7,0,some 1⟩) (ksa L) (ksa L)) [.cells true 7 (List.flatMap msgC (srtM L))] (.go 1 (.inv 3 (Nat) (0) [] [2,3,6] (fun x1 => [(10,.int .i64 (ks8 x1)),(4,.int .i64 (gapS (srtM L) a x1).1),(2,.pointer (some ⟨5,0,none⟩)),(0,.func (.yield 6) #[] #[]),(8,.slice (some ⟨7,0,some 1⟩) (ksa L) (ksa L)),(9,.int .i64 (((ksa L) : Nat) : Int))]) (fun x1 => [(2,false,.cells true 0 [.slice (some ⟨8,0,some 1⟩) (ks4 L a x1) (ks4 L a x1)]),(3,true,.cells true 0 [.int .i64 (gapS (srtM L) a x1).2.1])]) (fun x1 => [(true,.cells true 2 (ksf L a x1))]) (fun x1 => [(6,[(16,.func (.func 161) #[] #[.pointer (some ⟨4,0,none⟩),.pointer (some ⟨5,0,none⟩)]),(15,.int .i64 a),(14,.pointer (some ⟨0,0,none⟩)),(7,.pointer (some ⟨3,0,none⟩)),(6,.pointer (some ⟨2,0,none⟩)),(13,.bool false),(12,.bool (decide ((a : Int) <= 4))),(11,.int .i64 a),(10,.bool false),(9,.pointer (some ⟨0,0,none⟩)),(5,.int .i64 0),(4,.slice none 0 0),(0,.pointer (some ⟨0,0,none⟩)),(1,.int .i64 a)])]) (fun x1 => (x1 <= List.length (srtM L))) (fun x1 => (List.length (srtM L) - x1)) (fun x1 => .go 0 (.fork (.need (.val (ks7 L x1) (.go 6 (.gfork (.go 2 (ksc x1)) (.go 4 (.fork (.go 0 (ksc x1)) (.go 4 (.into (some [2,3,6,8,9]) (.go 3 (.fork (.go 3 (.slot 24 (.int .i64 ((ks3 L x1).nu - 1)) (.go 1 (.need (.go 2 (.slot 29 (.int .i64 ((ks3 L x1).nu + 1)) (.go 3 (.slot 30 (.int .i64 ((ks8 x1) + 1)) (.go 0 (.again [(8,11)])))))))))) (.go 1 (.slot 29 (.int .i64 ((ks3 L x1).nu + 1)) (.go 3 (ksc x1)))))))))))))) (.go 2 (.again [(2,8)])))))))))))) (.go 5 (.again []))))
 (newK ((readsK [.cells true 0 [.map (some 1)],.map (heldE L)]) : HT).n 3 (.tuple #[.slice (some ⟨2,0,some 1⟩) (List.length (gapsL L a)) (List.length (gapsL L a)),.int .i64 0]) [(true,.cells true 2 (List.flatMap spC (gapsL L a)))]) = Rgaps L a:=by kernel_rfl
end
end Go.Proofs.YtbgfjemppjhmjaaGreat
/- Radio: gaps. No condition. -/
namespace Go.Proofs.YtbgfjemppjhmjaaGreat
open Go Go.K
set_option maxRecDepth 100000
set_option linter.unusedVariables false
set_option linter.unusedSimpArgs false
noncomputable section
attribute [local irreducible] vF
theorem neB2 {x y : Int} (h : (x != y) = true) : x ≠ y := by simpa using h
theorem eqB2 {x y : Int} (h : (x != y) = false) : x = y := by simpa using h
theorem spC_len (x : Int × Int) : (spC x).length = 2 := rfl
theorem plainSp (n : Nat) (l : List (Int × Int)) : (l.flatMap spC).all (belowC n) = true := plain_flat (fun _ => rfl) l
theorem hv10 {L : List Msg} {a : Int} (hk : ∀ m ∈ L, okM m = true) (hl : L.length <= 2000) (h1 : 1 <= a) (h4 : a <= 4) : Rgaps L a := by
 have hS := srtM_len L
 delta Rgaps ks5 kse ksh ksa ks1 ks0 ks8 ks3 ks7 ks4 ksd ksf ks9 ks2 ksb ksg ks6
 refine ⟨fun b => ⟨fun c => (by rw [decide_eq_true h4] at c; cases c), fun c => ⟨⟨rfl, rfl, trivial⟩, fun H' hl' h => ?_, rfl, Nat.zero_le _, ?_, fun _ => rfl, fun x hx => ⟨fun d => ?_, fun d => ?_⟩⟩⟩, fun b => (by rw [decide_eq_true h1] at b; cases b)⟩
 ·have := kSorted hk hl (H := H') (by decide) h.1 h.2.1
  rw [hl'] at this; exact this
 ·repeat' first | exact wk_nil _ _ _ (.inl rfl) | exact plainSp _ _ | exact rfl | exact wk_refl _ | refine wkO_cells ?_ | exact wks_nil | exact wk_nil _ _ _ (.inl rfl) | (refine And.intro (by omega) ?_) | apply And.intro
 ·have hx1 : x < (srtM L).length := by have := of_decide_eq_true d; omega
  have hm := okM_spec (hk _ (srtM_mem.1 (getD_mem (d := zeroM) hx1)))
  refine ⟨⟨by omega, by omega⟩, partM hx1 (by omega), fun e => ⟨vI64 (by omega), x + 1, by omega, by omega, rfl, ?_⟩, fun e => ⟨fun f => ⟨vI64 (by omega), x + 1, by omega, by omega, rfl, ?_⟩, fun f => ?_⟩⟩
  ·rw [gapS_succ hx1, gStep_0 (.inl (neB2 e))]
   repeat' first | exact plainSp _ _ | exact wk_refl _ | exact rfl | exact wk_refl _ | refine wkO_cells ?_ | exact wks_nil | exact wk_nil _ _ _ (.inl rfl) | (refine And.intro (by omega) ?_) | apply And.intro
  ·rw [gapS_succ hx1, gStep_0 (.inr (eq_of_beq f))]
   repeat' first | exact plainSp _ _ | exact wk_refl _ | exact rfl | exact wk_refl _ | refine wkO_cells ?_ | exact wks_nil | exact wk_nil _ _ _ (.inl rfl) | (refine And.intro (by omega) ?_) | apply And.intro
  ·have ea : ((srtM L).getD x zeroM).au = a := eqB2 e
   have en : ((srtM L).getD x zeroM).nu ≠ (gapS (srtM L) a x).1 := fun q => by rw [q] at f; simp at f
   have gl := gapS_len (srtM L) a x
   refine ⟨fun g => ⟨vI64 (by omega), ?_, rfl, vI64 (by omega), vI64 (by omega), x + 1, by omega, by omega, rfl, ?_⟩, fun g => ⟨vI64 (by omega), vI64 (by omega), x + 1, by omega, by omega, rfl, ?_⟩⟩
   ·repeat' first | exact flat_le spC_len _ | exact Nat.le_refl 2 | exact rfl | exact wk_refl _ | refine wkO_cells ?_ | exact wks_nil | exact wk_nil _ _ _ (.inl rfl) | (refine And.intro (by omega) ?_) | apply And.intro
   ·rw [gapS_succ hx1, gStep_1 ea en (of_decide_eq_true g)]
    repeat' first | exact plainSp _ _ | exact wk_snoc rfl | exact ob_snoc spC_len rfl rfl | exact rfl | exact wk_refl _ | refine wkO_cells ?_ | exact wks_nil | exact wk_nil _ _ _ (.inl rfl) | (refine And.intro (by omega) ?_) | apply And.intro
   ·rw [gapS_succ hx1, gStep_2 ea en (of_decide_eq_false g)]
    repeat' first | exact plainSp _ _ | exact wk_refl _ | exact rfl | exact wk_refl _ | refine wkO_cells ?_ | exact wks_nil | exact wk_nil _ _ _ (.inl rfl) | (refine And.intro (by omega) ?_) | apply And.intro
 ·have hx1 : x = (srtM L).length := by have := of_decide_eq_false d; omega
  rw [hx1]
  exact ⟨rfl, wk_refl _, ⟨rfl, plainSp _ _⟩, trivial⟩
theorem kGaps {L : List Msg} {a : Int} (hk : ∀ m ∈ L, okM m = true) (hl : L.length <= 2000) (h1 : 1 <= a) (h4 : a <= 4) {H : Heap} {i q : Nat} (hne : i ≠ q) (hi : H[i]? = some (.cells true 0 [.map (some q)])) (hq : H[q]? = some (.map (heldE L))) :
  KCall prog 33 [.pointer (some ⟨i, 0, none⟩), .int .i64 a] H [] (Is (.tuple #[.slice (some ⟨H.length, 0, some 1⟩) (gapsL L a).length (gapsL L a).length, .int .i64 0]) (H ++ [.cells true 2 ((gapsL L a).flatMap spC)])) :=
 valKp (fun j => .tuple #[.slice (some ⟨j, 0, some 1⟩) (gapsL L a).length (gapsL L a).length, .int .i64 0]) (os := [.cells true 0 [.map (some 1)], .map (heldE L)]) (Eq.mpr (Egaps L a) (hv10 hk hl h1 h4)) (pic_ok L 1) rfl
  ⟨⟨_, _, rfl, plainSp _ _⟩, trivial⟩ (ids := [i, q]) (by simp [hne]) (pic_objs hi hq) (fun j => rfl) rfl
end
end Go.Proofs.YtbgfjemppjhmjaaGreat
/- Radio: messages that are made of numbers, as plain functions. No condition. -/
namespace Go.Proofs.YtbgfjemppjhmjaaGreat
set_option linter.unusedSimpArgs false
open Go Go.K
set_option linter.unusedVariables false
abbrev digC (L : List Int) (n : Int) : List Value := [.iface (L.length + 1) (.agg ⟨L.flatMap intC⟩), .int .i64 n]
def dVal (L : List Int) (n : Int) : Int := if 0 < L.length then IntKind.wrap .i64 (L.getD (Int.toNat (Int.tmod n ((L.length : Nat) : Int))) 0 + IntKind.wrap .i64 (Int.tdiv n ((L.length : Nat) : Int))) else 0
def dN (L : List Int) (n m : Int) : Int := dVal L n % m
theorem dN_bd (L : List Int) (n : Int) {m : Int} (hm : 1 <= m) : 0 <= dN L n m /\ dN L n m < m := by
 unfold dN
 exact ⟨Int.emod_nonneg _ (by omega), Int.emod_lt_of_pos _ (by omega)⟩
end Go.Proofs.YtbgfjemppjhmjaaGreat
/- Radio: what gaps are. No condition. -/
namespace Go.Proofs.YtbgfjemppjhmjaaGreat
set_option linter.unusedSimpArgs false
open Go Go.K
set_option linter.unusedVariables false
def numB (L : List Msg) (a n : Int) : Bool := L.any fun m => decide (m.au = a) && decide (m.nu = n)
def grtS (M : List Msg) (a : Int) (x : Nat) : Int := (M.take x).foldl (fun g m => if m.au = a then (if m.nu > g then m.nu else g) else g) 0
structure GapI (M : List Msg) (a : Int) (x : Nat) : Prop where
 nx : (gapS M a x).2.1 = (gapS M a x).1 + 1
 bd : 0 <= (gapS M a x).1 /\ (gapS M a x).1 <= 200
 gr : grtS M a x = (gapS M a x).1
 le : ∀ m ∈ M.take x, m.au = a -> m.nu <= (gapS M a x).1
 at_ : (gapS M a x).1 = 0 ∨ ∃ m ∈ M.take x, m.au = a /\ m.nu = (gapS M a x).1
 gb : ∀ g ∈ (gapS M a x).2.2, 1 <= g.1 /\ g.1 <= g.2 /\ g.2 < (gapS M a x).1
 cov : ∀ n, 1 <= n -> n <= (gapS M a x).1 -> numB (M.take x) a n = true ∨ ∃ g ∈ (gapS M a x).2.2, g.1 <= n /\ n <= g.2
 no : ∀ g ∈ (gapS M a x).2.2, ∀ n, g.1 <= n -> n <= g.2 -> numB (M.take x) a n = false
 pw : (gapS M a x).2.2.Pairwise fun g h => g.2 < h.1
end Go.Proofs.YtbgfjemppjhmjaaGreat
/- Radio: forged names, what is withdrawn, notices: plain laws. No condition. -/
namespace Go.Proofs.YtbgfjemppjhmjaaGreat
set_option linter.unusedSimpArgs false
open Go Go.K
set_option linter.unusedVariables false
theorem rangeG {α : Type} (d : α) (F : List α) : (List.range F.length).map (fun i => F.getD i d) = F := by
 refine List.ext_getElem? fun i => ?_
 rw [List.getElem?_map]
 by_cases h : i < F.length
 ·rw [List.getElem?_range h, List.getElem?_eq_getElem h]
  simp [List.getD_eq_getElem?_getD, h]
 ·rw [List.getElem?_eq_none (by simpa using Nat.le_of_not_lt h), List.getElem?_eq_none (Nat.le_of_not_lt h)]; rfl
end Go.Proofs.YtbgfjemppjhmjaaGreat
/- Radio: the messages of the chapter's example. No condition. -/
namespace Go.Proofs.YtbgfjemppjhmjaaGreat
set_option linter.unusedSimpArgs false
open Go Go.K
set_option linter.unusedVariables false
abbrev mA : Msg := ⟨1, 5, 9, 3, 0, 0, 2⟩
abbrev mB : Msg := ⟨1, 2, 10, 1, 7, 3, 0⟩
abbrev mC : Msg := ⟨1, 5, 9, 1, 8, 0, 0⟩
theorem srtM_is {A B : List Msg} (hp : A.Perm B) (hk : ∀ m ∈ A, okM m = true) (hb : B.Pairwise fun a b => keyM a <= keyM b) : srtM A = B :=
 sorted_one ((srtM_perm A).trans hp) (fun m hm => hk m (srtM_mem.1 hm)) (srtM_sorted A) hb
theorem okAB : ∀ m ∈ [mA, mB], okM m = true := by decide
theorem okABC : ∀ m ∈ [mA, mB, mC], okM m = true := by decide
theorem srtAB : srtM [mA, mB] = [mB, mA] := srtM_is (List.Perm.swap ..) okAB (by decide)
theorem srtABC : srtM [mA, mB, mC] = [mB, mC, mA] := srtM_is (((List.Perm.swap mB mA [mC])).trans (List.Perm.cons _ (List.Perm.swap ..))) okABC (by decide)
theorem liveAB : liveL [mA, mB] = [] := by unfold liveL; rw [srtAB]; rfl
theorem liveABC : liveL [mA, mB, mC] = [mB] := by unfold liveL; rw [srtABC]; rfl
theorem gapsAB : gapsL [mA, mB] 1 = [(1, 1), (3, 4)] := by unfold gapsL; rw [srtAB]; rfl
end Go.Proofs.YtbgfjemppjhmjaaGreat
/- What is to be shown of functions. Printed by a program. No condition. -/
namespace Go.Proofs.YtbgfjemppjhmjaaGreat
set_option linter.unusedSimpArgs false
open Go Go.K
set_option maxRecDepth 100000
set_option maxHeartbeats 4000000
set_option linter.unusedVariables false
noncomputable section
def Rawake (sp : Value)  : Prop :=
 ((True) /\ (∀ H' : Heap,H'.length = 0 -> (True) -> KCall prog 54 [] H' [] (Is (.tuple #[.pointer (some ⟨0,0,none⟩),.int .i64 0]) (H' ++ [(.cells true 0 [.map (some 1)] : KObj),(.map (heldE []) : KObj)]))) /\ (((some (.cells true 0 [.map (some 1)] : KObj) = some (.cells true 0 [.map (some 1)] : KObj)) /\ (some (.map (heldE []) : KObj) = some (.map (heldE []) : KObj)) /\ True) /\ (∀ H' : Heap,H'.length = 2 -> (H'[0]? = some (.cells true 0 [.map (some 1)] : KObj) /\ H'[1]? = some (.map (heldE []) : KObj) /\ True) -> KCall prog 31 [.pointer (some ⟨0,0,none⟩),.agg #[.int .i64 1,.int .i64 5,.int .i64 9,.int .i64 3,.int .i64 0,.int .i64 0,.int .i64 2]] H' [1] (Is (.tuple #[.bool true,.int .i64 0]) (List.set H' 1 (.map (heldE [mA]) : KObj)))) /\ (((some (.cells true 0 [.map (some 1)] : KObj) = some (.cells true 0 [.map (some 1)] : KObj)) /\ (some (.map (heldE [mA]) : KObj) = some (.map (heldE [mA]) : KObj)) /\ True) /\ (∀ H' : Heap,H'.length = 2 -> (H'[0]? = some (.cells true 0 [.map (some 1)] : KObj) /\ H'[1]? = some (.map (heldE [mA]) : KObj) /\ True) -> KCall prog 31 [.pointer (some ⟨0,0,none⟩),.agg #[.int .i64 1,.int .i64 2,.int .i64 10,.int .i64 1,.int .i64 7,.int .i64 3,.int .i64 0]] H' [1] (Is (.tuple #[.bool true,.int .i64 0]) (List.set H' 1 (.map (heldE [mA,mB]) : KObj)))) /\ (((some (.cells true 0 [.map (some 1)] : KObj) = some (.cells true 0 [.map (some 1)] : KObj)) /\ (some (.map (heldE [mA,mB]) : KObj) = some (.map (heldE [mA,mB]) : KObj)) /\ True) /\ (∀ H' : Heap,H'.length = 2 -> (H'[0]? = some (.cells true 0 [.map (some 1)] : KObj) /\ H'[1]? = some (.map (heldE [mA,mB]) : KObj) /\ True) -> KCall prog 34 [.pointer (some ⟨0,0,none⟩)] H' [] (Is (.tuple #[.slice (some ⟨2,0,some 2⟩) 0 0,.int .i64 0]) (H' ++ [(.cells true 7 [] : KObj)]))) /\ (((some (.cells true 0 [.map (some 1)] : KObj) = some (.cells true 0 [.map (some 1)] : KObj)) /\ (some (.map (heldE [mA,mB]) : KObj) = some (.map (heldE [mA,mB]) : KObj)) /\ True) /\ (∀ H' : Heap,H'.length = 3 -> (H'[0]? = some (.cells true 0 [.map (some 1)] : KObj) /\ H'[1]? = some (.map (heldE [mA,mB]) : KObj) /\ True) -> KCall prog 33 [.pointer (some ⟨0,0,none⟩),.int .i64 1] H' [] (Is (.tuple #[.slice (some ⟨3,0,some 1⟩) 2 2,.int .i64 0]) (H' ++ [(.cells true 2 [.int .i64 1,.int .i64 1,.int .i64 3,.int .i64 4] : KObj)]))) /\ (((some (.cells true 0 [.map (some 1)] : KObj) = some (.cells true 0 [.map (some 1)] : KObj)) /\ (some (.map (heldE [mA,mB]) : KObj) = some (.map (heldE [mA,mB]) : KObj)) /\ True) /\ (∀ H' : Heap,H'.length = 5 -> (H'[0]? = some (.cells true 0 [.map (some 1)] : KObj) /\ H'[1]? = some (.map (heldE [mA,mB]) : KObj) /\ True) -> KCall prog 31 [.pointer (some ⟨0,0,none⟩),.agg #[.int .i64 1,.int .i64 5,.int .i64 9,.int .i64 1,.int .i64 8,.int .i64 0,.int .i64 0]] H' [1] (Is (.tuple #[.bool true,.int .i64 0]) (List.set H' 1 (.map (heldE [mA,mB,mC]) : KObj)))) /\ (((some (.cells true 0 [.map (some 1)] : KObj) = some (.cells true 0 [.map (some 1)] : KObj)) /\ (some (.map (heldE [mA,mB,mC]) : KObj) = some (.map (heldE [mA,mB,mC]) : KObj)) /\ True) /\ (∀ H' : Heap,H'.length = 5 -> (H'[0]? = some (.cells true 0 [.map (some 1)] : KObj) /\ H'[1]? = some (.map (heldE [mA,mB,mC]) : KObj) /\ True) -> KCall prog 34 [.pointer (some ⟨0,0,none⟩)] H' [] (Is (.tuple #[.slice (some ⟨5,0,some 2⟩) 1 1,.int .i64 0]) (H' ++ [(.cells true 7 [.int .i64 1,.int .i64 2,.int .i64 10,.int .i64 1,.int .i64 7,.int .i64 3,.int .i64 0] : KObj)]))) /\ (((some (.cells true 1 [.bool false,.bool false,.bool false,.bool false,.bool false] : KObj) = some (.cells true 1 [.bool false,.bool false,.bool false,.bool false,.bool false] : KObj)) /\ (some (.cells true 2 [.int .i64 0,.int .i64 0,.int .i64 30,.int .i64 4,.int .i64 40,.int .i64 2] : KObj) = some (.cells true 2 [.int .i64 0,.int .i64 0,.int .i64 30,.int .i64 4,.int .i64 40,.int .i64 2] : KObj)) /\ True) /\ (∀ H' : Heap,H'.length = 23 -> (H'[15]? = some (.cells true 1 [.bool false,.bool false,.bool false,.bool false,.bool false] : KObj) /\ H'[21]? = some (.cells true 2 [.int .i64 0,.int .i64 0,.int .i64 30,.int .i64 4,.int .i64 40,.int .i64 2] : KObj) /\ True) -> KCall prog 24 [.agg #[.int .i64 5,.int .i64 1,.slice (some ⟨15,0,none⟩) 5 5,.int .i64 10,.slice (some ⟨21,0,none⟩) 3 3]] H' [] (Is (.tuple #[.slice (some ⟨23,0,none⟩) 3 3,.int .i64 0]) (H' ++ [(.cells true 1 [.bool true,.bool false,.bool true] : KObj)]))) /\ (((some (.cells true 1 [.bool false,.bool false,.bool false,.bool false,.bool false] : KObj) = some (.cells true 1 [.bool false,.bool false,.bool false,.bool false,.bool false] : KObj)) /\ (some (.cells true 2 [.int .i64 0,.int .i64 0,.int .i64 40,.int .i64 2] : KObj) = some (.cells true 2 [.int .i64 0,.int .i64 0,.int .i64 40,.int .i64 2] : KObj)) /\ True) /\ (∀ H' : Heap,H'.length = 26 -> (H'[15]? = some (.cells true 1 [.bool false,.bool false,.bool false,.bool false,.bool false] : KObj) /\ H'[25]? = some (.cells true 2 [.int .i64 0,.int .i64 0,.int .i64 40,.int .i64 2] : KObj) /\ True) -> KCall prog 18 [.agg #[.int .i64 5,.int .i64 1,.slice (some ⟨15,0,none⟩) 5 5,.int .i64 10,.slice (some ⟨25,0,none⟩) 2 2],.int .i64 25] H' [] (Is (.tuple #[.slice (some ⟨26,0,none⟩) 2 2,.int .i64 0]) (H' ++ [(.cells true 1 [.int .i64 1,.int .i64 2] : KObj)]))) /\ (((some (.cells true 1 [.bool false,.bool false,.bool false,.bool false,.bool false] : KObj) = some (.cells true 1 [.bool false,.bool false,.bool false,.bool false,.bool false] : KObj)) /\ (some (.cells true 2 [.int .i64 0,.int .i64 0,.int .i64 40,.int .i64 2] : KObj) = some (.cells true 2 [.int .i64 0,.int .i64 0,.int .i64 40,.int .i64 2] : KObj)) /\ True) /\ (∀ H' : Heap,H'.length = 27 -> (H'[15]? = some (.cells true 1 [.bool false,.bool false,.bool false,.bool false,.bool false] : KObj) /\ H'[25]? = some (.cells true 2 [.int .i64 0,.int .i64 0,.int .i64 40,.int .i64 2] : KObj) /\ True) -> KCall prog 19 [.agg #[.int .i64 5,.int .i64 1,.slice (some ⟨15,0,none⟩) 5 5,.int .i64 10,.slice (some ⟨25,0,none⟩) 2 2],.int .i64 1] H' [] (Is (.tuple #[.slice (some ⟨27,0,none⟩) 1 1,.int .i64 0]) (H' ++ [(.cells true 2 [.int .i64 10,.int .i64 30] : KObj)]))) /\ (.bool true : Value) = sp))))))))))
theorem Eawake (sp : Value)  : vF prog msk (dm 0) 100000 true 40 true 14 [] ⟨0,.leaf⟩ (some [])
 (.go 0 (.ans [] (.tuple #[.pointer (some ⟨0,0,none⟩),.int .i64 0]) [.cells true 0 [.map (some 1)],.map (heldE [])] (.go 13 (.answ [(0,.cells true 0 [.map (some 1)]),(1,.map (heldE []))] (.tuple #[.bool true,.int .i64 0]) [(1,.map (heldE [mA]))] [] (.go 6 (.answ [(0,.cells true 0 [.map (some 1)]),(1,.map (heldE [mA]))] (.tuple #[.bool true,.int .i64 0]) [(1,.map (heldE [mA,mB]))] [] (.go 5 (.ans [(0,.cells true 0 [.map (some 1)]),(1,.map (heldE [mA,mB]))] (.tuple #[.slice (some ⟨2,0,some 2⟩) 0 0,.int .i64 0]) [.cells true 7 []] (.go 5 (.ans [(0,.cells true 0 [.map (some 1)]),(1,.map (heldE [mA,mB]))] (.tuple #[.slice (some ⟨3,0,some 1⟩) 2 2,.int .i64 0]) [.cells true 2 [.int .i64 1,.int .i64 1,.int .i64 3,.int .i64 4]] (.go 92 (.answ [(0,.cells true 0 [.map (some 1)]),(1,.map (heldE [mA,mB]))] (.tuple #[.bool true,.int .i64 0]) [(1,.map (heldE [mA,mB,mC]))] [] (.go 4 (.ans [(0,.cells true 0 [.map (some 1)]),(1,.map (heldE [mA,mB,mC]))] (.tuple #[.slice (some ⟨5,0,some 2⟩) 1 1,.int .i64 0]) [.cells true 7 [.int .i64 1,.int .i64 2,.int .i64 10,.int .i64 1,.int .i64 7,.int .i64 3,.int .i64 0]] (.go 117 (.ans [(15,.cells true 1 [.bool false,.bool false,.bool false,.bool false,.bool false]),(21,.cells true 2 [.int .i64 0,.int .i64 0,.int .i64 30,.int .i64 4,.int .i64 40,.int .i64 2])] (.tuple #[.slice (some ⟨23,0,none⟩) 3 3,.int .i64 0]) [.cells true 1 [.bool true,.bool false,.bool true]] (.go 16 (.ans [(15,.cells true 1 [.bool false,.bool false,.bool false,.bool false,.bool false]),(25,.cells true 2 [.int .i64 0,.int .i64 0,.int .i64 40,.int .i64 2])] (.tuple #[.slice (some ⟨26,0,none⟩) 2 2,.int .i64 0]) [.cells true 1 [.int .i64 1,.int .i64 2]] (.go 5 (.ans [(15,.cells true 1 [.bool false,.bool false,.bool false,.bool false,.bool false]),(25,.cells true 2 [.int .i64 0,.int .i64 0,.int .i64 40,.int .i64 2])] (.tuple #[.slice (some ⟨27,0,none⟩) 1 1,.int .i64 0]) [.cells true 2 [.int .i64 10,.int .i64 30]] (.auto)))))))))))))))))))))
 (fun v _ _ => v = sp) = Rawake sp :=by kernel_rfl
end
end Go.Proofs.YtbgfjemppjhmjaaGreat
/- Radio: maps of numbers that are known,and the greatest value in one. No condition. -/
namespace Go.Proofs.YtbgfjemppjhmjaaGreat
set_option linter.unusedSimpArgs false
open Go Go.K
set_option linter.unusedVariables false
noncomputable section
abbrev sL (i n c : Nat) : Value:=.slice (some ⟨i,0,none⟩) n c
abbrev mapI (F : List (Int × Int)) : List (Value × Value):=encA (fun k : Int => .int .i64 k) (fun v : Int => .int .i64 v) F
def SeenL (n : Nat) (s : List Nat) : Prop:=s.Nodup /\ ∀ i ∈ s,i < n
def maxS (E : List (Int × Int)) (s : List Nat) : Int:=s.foldl (fun n i => if (List.getD E i (0,0)).2 > n then (List.getD E i (0,0)).2 else n) 0
def maxI (E : List (Int × Int)) : Int:=E.foldl (fun n e => if e.2 > n then e.2 else n) 0
theorem seenL_0 (n : Nat) : SeenL n []:=⟨List.nodup_nil,fun i h => by cases h⟩
theorem seenL_snoc {n : Nat} {s : List Nat} {i : Nat} (h : SeenL n s) (hi : i < n) (hn : i ∉ s) : SeenL n (s ++ [i]) :=
 ⟨List.nodup_append.2 ⟨h.1,(by simp),fun a ha b hb e => hn (by rw [List.mem_singleton.1 hb] at e; exact e ▸ ha)⟩,fun j hj => by
  rcases List.mem_append.1 hj with h1 | h1
  ·exact h.2 j h1
  ·rw [List.mem_singleton.1 h1]; exact hi⟩
theorem seenL_len {n : Nat} {s : List Nat} (h : SeenL n s) : s.length <= n:=by
 have h2:=seen_len (L:=List.replicate n zeroM) (s:=s) ⟨h.1,fun i hi => by rw [List.length_replicate]; exact h.2 i hi⟩
 rwa [List.length_replicate] at h2
theorem seenL_more {n : Nat} {s : List Nat} {i : Nat} (h : SeenL n s) (hi : i < n) (hn : i ∉ s) : n - (s ++ [i]).length < n - s.length:=by
 have:=seenL_len (seenL_snoc h hi hn)
 rw [List.length_append] at this ⊢
 simp only [List.length_cons,List.length_nil] at this ⊢
 omega
theorem maxS_snoc (E : List (Int × Int)) (s : List Nat) (i : Nat) : maxS E (s ++ [i]) = if (List.getD E i (0,0)).2 > maxS E s then (List.getD E i (0,0)).2 else maxS E s:=by
 unfold maxS; rw [List.foldl_append]; rfl
theorem maxS_all {E : List (Int × Int)} {s : List Nat} (h : SeenL E.length s) (h3 : ∀ i,i < E.length -> i ∈ s) {k : Int} (hk : maxI E = k) : maxS E s = k:=by
 have hp : s.Perm (List.range E.length):=seen_perm h.1 h.2 h3
 rw [<- hk]
 have e1 : maxS E s = maxS E (List.range E.length):=by
  unfold maxS
  refine hp.foldl_eq' (fun x _ y _ z => ?_) 0
  repeat' split
  all_goals omega
 rw [e1]
 have e2 : maxI E = maxI ((List.range E.length).map fun i => E.getD i (0,0)):=by rw [rangeG]
 rw [e2]
 unfold maxS maxI
 rw [List.foldl_map]
theorem entI (E : List (Int × Int)) {i : Nat} (hi : i < E.length) (s : List Nat) : entryE (mapI E) (s ++ [i]) = some (.tuple #[.int .i64 (List.getD E i (0,0)).1,.int .i64 (List.getD E i (0,0)).2]):=by
 unfold mapI
 rw [entry_A (0,0) hi]
abbrev kz0 : List Value:=[.bool false,.bool false,.bool false,.bool false,.bool false]
abbrev kz14 : Prop:=(nI 0 : Value) = nI 0 /\ (.pointer (some ⟨9,0,none⟩) : Value) = .pointer (some ⟨9,0,none⟩) /\ True
abbrev kzo:=mapI [(0,1),(2,2)]
abbrev kz1 (sp : Value) : Prop:=true = true /\ (SeenL (List.length ([(0,1),(2,2)] : List (Int × Int))) ([] : List Nat)) /\ (true = true /\ ((nI 0 : Value) = nI (maxS [(0,1),(2,2)] ([] : List Nat)) /\ kz14) /\ ((some (.iter 8 (List.length kzo) [] : KObj) = some (.iter 8 (List.length kzo) ([] : List Nat) : KObj) /\ belowO 10 (.iter 8 (List.length kzo) ([] : List Nat) : KObj) = true) /\ True) /\ (True) /\ (True)) /\ (∀ x1 : List Nat,true = true) /\ ∀ x1 : List Nat,(SeenL (List.length ([(0,1),(2,2)] : List (Int × Int))) x1) -> ((List.length kzo = (List.length kzo)) /\ (∀ x2 : Nat,x2 < (List.length kzo) -> x2 ∉ x1 -> ((List.length kzo = (List.length kzo)) /\ (entryE kzo (x1 ++ [x2]) = some (.tuple #[nI (List.getD ([(0,1),(2,2)] : List (Int × Int)) x2 (0,0)).1,nI (List.getD ([(0,1),(2,2)] : List (Int × Int)) x2 (0,0)).2])) /\ (∃ x1' : List Nat,(SeenL (List.length ([(0,1),(2,2)] : List (Int × Int))) x1') /\ (List.length ([(0,1),(2,2)] : List (Int × Int)) - List.length x1') < (List.length ([(0,1),(2,2)] : List (Int × Int)) - List.length x1) /\ true = true /\ ((nI (if ((List.getD ([(0,1),(2,2)] : List (Int × Int)) x2 (0,0)).2 : Int) > (maxS [(0,1),(2,2)] x1) then ((List.getD ([(0,1),(2,2)] : List (Int × Int)) x2 (0,0)).2 : Int) else (maxS [(0,1),(2,2)] x1)) : Value) = nI (maxS [(0,1),(2,2)] x1') /\ kz14) /\ ((some (.iter 8 (List.length kzo) (x1 ++ [x2]) : KObj) = some (.iter 8 (List.length kzo) x1' : KObj) /\ belowO 10 (.iter 8 (List.length kzo) x1' : KObj) = true) /\ True) /\ (True) /\ (True)))) /\ ((∀ x2 : Nat,x2 < (List.length kzo) -> x2 ∈ x1) -> (nI (maxS [(0,1),(2,2)] x1) : Value) = sp))
abbrev kz2 : List Value:=[nI 0,nI 0,nI 30,nI 4,nI 40,nI 2]
abbrev kz3 : List Value:=[nI 5,nI 1,sL 2 5 5,nI 10,sL 3 3 3,sL 4 3 3]
abbrev kz4 : List Value:=[nI 0,nI 1,nI 2,nI 3,nI 4]
abbrev kz5 : List Value:=[nI 2,nI 1,nI 0,nI 1,nI 2]
abbrev kz6 : List Value:=[nI 4,nI 3,nI 2,nI 1,nI 0]
abbrev kz7 : KObj:=.cells false 0 kz0
abbrev kz8 : Hint:=.go 0 (.inv 3 (List Nat) (([] : List Nat)) [] [9] (fun x1 => [(5,nI (maxS [(0,1),(2,2)] x1)),(4,nI 0),(11,.pointer (some ⟨9,0,none⟩))]) (fun x1 => [(9,true,.iter 8 (List.length kzo) x1)]) (fun x1 => []) (fun x1 => []) (fun x1 => (SeenL (List.length ([(0,1),(2,2)] : List (Int × Int))) x1)) (fun x1 => (List.length ([(0,1),(2,2)] : List (Int × Int)) - List.length x1)) (fun x1 => .nxt (fun x2 => .go 1 (.val (.tuple #[nI (List.getD ([(0,1),(2,2)] : List (Int × Int)) x2 (0,0)).1,nI (List.getD ([(0,1),(2,2)] : List (Int × Int)) x2 (0,0)).2]) (.go 5 (.again [])))) (.auto)))
abbrev kz9 : Prop:=(ksetE prog 3 (nI 0) (nI 1) (mapI []) = some (mapI [(0,1)])) /\ ((ksetE prog 3 (nI 2) (nI 1) (mapI [(0,1)]) = some (mapI [(0,1),(2,1)])) /\ ((klookE prog 3 (nI 0) (nI 2) false (mapI [(0,1),(2,1)]) = some (nI 1)) /\ ((klookE prog 3 (nI 0) (nI 0) false (mapI [(0,1),(2,1)]) = some (nI 1)) /\ ((ksetE prog 3 (nI 2) (nI 2) (mapI [(0,1),(2,1)]) = some kzo) /\ (true = true /\ wk (.map (some 11) : Value) (rn (sg 8 [(8,11)]) 3 (.map (some 8) : Value)) /\ (wkO (.map kzo : KObj) (rno (sg 8 [(8,11)]) 3 (.map kzo : KObj)) /\ True))))))
abbrev kza:=mapI [(0,1),(1,1),(2,2)]
abbrev kz18 : KObj:=.cells true 1 kz5
abbrev kzb (H' : Heap) : Prop:=H'[0]? = some kz7 /\ H'[1]? = some (.cells false 0 kz2 : KObj) /\ H'[16]? = some (.cells true 1 [sL 6 5 5,sL 10 5 5,sL 14 5 5] : KObj) /\ H'[6]? = some (.cells true 1 kz4 : KObj) /\ H'[10]? = some (.cells true 1 kz6 : KObj) /\ H'[14]? = some kz18 /\ True
abbrev kzc (H' : Heap) : Prop:=H'[2]? = some kz7 /\ H'[3]? = some (.cells false 0 kz2 : KObj) /\ H'[4]? = some (.cells false 0 [sL 5 5 5,sL 6 5 5,sL 7 5 5] : KObj) /\ H'[5]? = some (.cells false 0 kz4 : KObj) /\ H'[6]? = some (.cells false 0 kz6 : KObj) /\ H'[7]? = some (.cells false 0 kz5 : KObj) /\ True
abbrev kzd : List (Int × Int):=[(0,1),(1,1),(2,2)]
abbrev kze : Prop:=(someR kz7) /\ (someR (.cells false 0 kz2 : KObj)) /\ (someR (.cells false 0 [sL 5 5 5,sL 6 5 5,sL 7 5 5] : KObj)) /\ (someR (.cells false 0 kz4 : KObj)) /\ (someR (.cells false 0 kz6 : KObj)) /\ (someR (.cells false 0 kz5 : KObj)) /\ True
abbrev kzf : Prop:=(someR kz7) /\ (someR (.cells false 0 kz2 : KObj)) /\ (someR (.cells true 1 [sL 6 5 5,sL 10 5 5,sL 14 5 5] : KObj)) /\ (someR (.cells true 1 kz4 : KObj)) /\ (someR (.cells true 1 kz6 : KObj)) /\ (someR kz18) /\ True
abbrev kzg : List Value:=[nI 5,nI 1,sL 0 5 5,nI 10,sL 1 3 3,sL 16 3 3]
abbrev kzh : List Value:=[nI 0,nI 0,nI 40,nI 2]
abbrev kzi : Hint:=.go 14 (.into (some [8,9,10]) (.go 3 (.into (some [8,9,10]) (.go 11 (.into (some [8,9,10]) (.go 72 (.mset (mapI [(0,1)]) (.go 17 (.mset (mapI [(0,1),(2,1)]) (.go 97 (.val (nI 1) (.go 1 (.val (nI 1) (.go 1 (.mset kzo (.go 9 (.again [(8,11)])))))))))))))))))
abbrev kzj : Nat × KObj:=(0,.cells false 0 kz0)
abbrev kzy : List Value:=[nI 0,nI 1,nI 2]
abbrev kzk:=readsT 0 [kz3,kzy,kz0,kz2,[sL 5 5 5,sL 6 5 5,sL 7 5 5],kz4,kz6,kz5]
abbrev kzz : List Value:=[nI 0,nI 2,nI 0]
abbrev kzl:=readsT 0 [kz3,kzz,kz0,kz2,[sL 5 5 5,sL 6 5 5,sL 7 5 5],kz4,kz6,kz5]
abbrev kz1g (H' : Heap) : Prop:=H'[0]? = some kz7 /\ True
abbrev kz1c : List Value:=[.agg #[nI 5,nI 1,sL 0 5 5],nI 0]
abbrev kzm : Prop:=∀ H' : Heap,H'.length = 6 -> (kz1g H') -> KCall prog 114 kz1c H' [] (Is (sL 6 5 5) (H' ++ [(.cells true 1 kz4 : KObj)]))
abbrev kzn : List Value:=[.agg #[nI 5,nI 1,sL 0 5 5,nI 10,sL 1 3 3]]
abbrev kzp:=readsT 0 [kz3,[nI 0,nI 2],kz0,kz2,[sL 5 5 5,sL 6 5 5,sL 7 5 5],kz4,kz6,kz5]
abbrev kzr : List Value:=[.pointer (some ⟨0,0,none⟩),sL 1 3 3]
abbrev kzs : List Value:=[.pointer (some ⟨0,0,none⟩),sL 1 2 3]
abbrev kzt : List Value:=[.pointer (some ⟨0,0,none⟩),sL 1 2 2]
abbrev kzu : List Value:=[.bool true,.bool false,.bool true]
abbrev kzv:=List.length kza
abbrev kzw : List Value:=[.agg #[nI 5,nI 1,sL 0 5 5,nI 10,sL 1 2 2]]
abbrev kzx : List Value:=[.agg #[nI 5,nI 1,sL 0 5 5],nI 2]
abbrev kz10 : Value:=.map (some 8)
abbrev kz11 : KObj:=.cells false 0 kz3
abbrev kz12 : KObj:=.cells true 0 kzg
abbrev kz13:=mapI [(0,1),(1,1),(2,1)]
abbrev kz15 : Prop:=(someR kz7) /\ True
abbrev kz16 : Nat × KObj:=(16,.cells true 1 [sL 6 5 5,sL 10 5 5,sL 14 5 5])
abbrev kz17 : Nat × KObj:=(4,.cells false 0 [sL 5 5 5,sL 6 5 5,sL 7 5 5])
abbrev kz19:=rn (sg 1 [(1,2)]) 3 (sL 1 5 5 : Value)
abbrev kz1a : KObj:=.cells false 0 kzh
abbrev kz1b:=readsT 0 [kz0,kzh]
abbrev kz1d : List Value:=[.agg #[nI 5,nI 1,sL 0 5 5],nI 4]
abbrev kz1e (x2 : Nat):=List.getD kzd x2 (0,0)
abbrev kz1f:=readsT 0 [kz0]
abbrev kz1h : Nat × KObj:=(1,.cells false 0 kz2)
abbrev kz1i (x1 : List Nat):=maxS [(0,1),(1,1),(2,2)] x1
abbrev kz1j : List Value:=[.agg #[nI 5,nI 1,sL 0 5 5,nI 10,sL 1 2 2],nI 25]
abbrev kz1k : List Value:=[.agg #[nI 5,nI 1,sL 0 5 5,nI 10,sL 1 2 2],nI 1]
abbrev kz1l : Hint:=.go 1543 (.again [(1,2)])
end
end Go.Proofs.YtbgfjemppjhmjaaGreat
/- Closed calls of the chapter's examples. Printed by a program. No condition. -/
namespace Go.Proofs.YtbgfjemppjhmjaaGreat
set_option linter.unusedSimpArgs false
open Go Go.K
set_option maxRecDepth 1000000
set_option maxHeartbeats 4000000
set_option linter.unusedVariables false
noncomputable section
attribute [local irreducible] vF
def R106_2 : Prop :=
 ((ksetE prog 3 (nI 0) (nI 1) (mapI []) = some (mapI [(0,1)])) /\ ((ksetE prog 3 (nI 1) (nI 1) (mapI [(0,1)]) = some (mapI [(0,1),(1,1)])) /\ ((ksetE prog 3 (nI 2) (nI 1) (mapI [(0,1),(1,1)]) = some kz13) /\ ((klookE prog 3 (nI 0) (nI 2) false kz13 = some (nI 1)) /\ ((klookE prog 3 (nI 0) (nI 0) false kz13 = some (nI 1)) /\ ((ksetE prog 3 (nI 2) (nI 2) kz13 = some kza) /\ (true = true /\ wk (.map (some 11) : Value) (rn (sg 8 [(8,11)]) 3 (.map (some 8) : Value)) /\ (wkO (.map kza : KObj) (rno (sg 8 [(8,11)]) 3 (.map kza : KObj)) /\ True))))))))
theorem E106_2 : vF prog msk (dm 0) 100000 true 40 true 106 kzr kzk (some [])
 (.go 14 (.into (some [8,9,10]) (.go 3 (.into (some [8,9,10]) (.go 11 (.into (some [8,9,10]) (.go 120 (.mset (mapI [(0,1)]) (.go 17 (.mset (mapI [(0,1),(1,1)]) (.go 108 (.mset kz13 (.go 97 (.val (nI 1) (.go 1 (.val (nI 1) (.go 1 (.mset kza (.go 100 (.again [(8,11)]))))))))))))))))))))
 (newK kzk.n 3 kz10 [(false,.map kza)]) = R106_2:=by kernel_rfl
theorem P106_2 : R106_2:=⟨by kernel_rfl,⟨by kernel_rfl,⟨by kernel_rfl,⟨by kernel_rfl,⟨by kernel_rfl,⟨by kernel_rfl,⟨rfl,wk_of_eq rfl,wkO_of_eq rfl,trivial⟩⟩⟩⟩⟩⟩⟩
theorem C106_2 {H : Heap} (ids : List Nat) (h : InsA H (sgR 0 ids) ids [kz3,kzy,kz0,kz2,[sL 5 5 5,sL 6 5 5,sL 7 5 5],kz4,kz6,kz5]) : KCall prog 106 ((kzr : List Value).map (rn (sgR 0 ids) 3)) H [] (Is (rn (sgUp 8 H.length) 3 kz10) (H ++ [rno (sgUp 8 H.length) 3 (.map kza)])) :=
 valNA (css:=[kz3,kzy,kz0,kz2,[sL 5 5 5,sL 6 5 5,sL 7 5 5],kz4,kz6,kz5]) (v:=.map (some 8)) (new:=[(false,.map kza)]) (Eq.mpr E106_2 P106_2) rfl rfl rfl rfl ids h.len h.get
def R106_0 : Prop :=
 kz9
theorem E106_0 : vF prog msk (dm 0) 100000 true 40 true 106 kzs kzl (some [])
 kzi
 (newK kzl.n 3 kz10 [(false,.map kzo)]) = R106_0:=by kernel_rfl
theorem P106_0 : R106_0:=⟨by kernel_rfl,⟨by kernel_rfl,⟨by kernel_rfl,⟨by kernel_rfl,⟨by kernel_rfl,⟨rfl,wk_of_eq rfl,wkO_of_eq rfl,trivial⟩⟩⟩⟩⟩⟩
theorem C106_0 {H : Heap} (ids : List Nat) (h : InsA H (sgR 0 ids) ids [kz3,kzz,kz0,kz2,[sL 5 5 5,sL 6 5 5,sL 7 5 5],kz4,kz6,kz5]) : KCall prog 106 ((kzs : List Value).map (rn (sgR 0 ids) 3)) H [] (Is (rn (sgUp 8 H.length) 3 kz10) (H ++ [rno (sgUp 8 H.length) 3 (.map kzo)])) :=
 valNA (css:=[kz3,kzz,kz0,kz2,[sL 5 5 5,sL 6 5 5,sL 7 5 5],kz4,kz6,kz5]) (v:=.map (some 8)) (new:=[(false,.map kzo)]) (Eq.mpr E106_0 P106_0) rfl rfl rfl rfl ids h.len h.get
def R106_1 : Prop :=
 kz9
theorem E106_1 : vF prog msk (dm 0) 100000 true 40 true 106 kzt kzp (some [])
 kzi
 (newK kzp.n 3 kz10 [(false,.map kzo)]) = R106_1:=by kernel_rfl
theorem P106_1 : R106_1:=⟨by kernel_rfl,⟨by kernel_rfl,⟨by kernel_rfl,⟨by kernel_rfl,⟨by kernel_rfl,⟨rfl,wk_of_eq rfl,wkO_of_eq rfl,trivial⟩⟩⟩⟩⟩⟩
theorem C106_1 {H : Heap} (ids : List Nat) (h : InsA H (sgR 0 ids) ids [kz3,[nI 0,nI 2],kz0,kz2,[sL 5 5 5,sL 6 5 5,sL 7 5 5],kz4,kz6,kz5]) : KCall prog 106 ((kzt : List Value).map (rn (sgR 0 ids) 3)) H [] (Is (rn (sgUp 8 H.length) 3 kz10) (H ++ [rno (sgUp 8 H.length) 3 (.map kzo)])) :=
 valNA (css:=[kz3,[nI 0,nI 2],kz0,kz2,[sL 5 5 5,sL 6 5 5,sL 7 5 5],kz4,kz6,kz5]) (v:=.map (some 8)) (new:=[(false,.map kzo)]) (Eq.mpr E106_1 P106_1) rfl rfl rfl rfl ids h.len h.get
end
end Go.Proofs.YtbgfjemppjhmjaaGreat
/- Closed calls of the chapter's examples. Printed by a program. No condition. -/
namespace Go.Proofs.YtbgfjemppjhmjaaGreat
set_option linter.unusedSimpArgs false
open Go Go.K
set_option maxRecDepth 1000000
set_option maxHeartbeats 4000000
set_option linter.unusedVariables false
noncomputable section
attribute [local irreducible] vF
def R83_d (sp : Value) : Prop :=
 (((someR kz11) /\ (someR (.cells false 0 kzy : KObj)) /\ kze) /\ (∀ H' : Heap,H'.length = 8 -> (H'[0]? = some kz11 /\ H'[1]? = some (.cells false 0 kzy : KObj) /\ kzc H') -> KCall prog 106 kzr H' [] (Is kz10 (H' ++ [(.map kza : KObj)]))) /\ (true = true /\ (SeenL (List.length kzd) ([] : List Nat)) /\ (true = true /\ ((nI 0 : Value) = nI (maxS [(0,1),(1,1),(2,2)] ([] : List Nat)) /\ kz14) /\ ((some (.iter 8 kzv [] : KObj) = some (.iter 8 kzv ([] : List Nat) : KObj) /\ belowO 10 (.iter 8 kzv ([] : List Nat) : KObj) = true) /\ True) /\ (True) /\ (True)) /\ (∀ x1 : List Nat,true = true) /\ ∀ x1 : List Nat,(SeenL (List.length kzd) x1) -> ((List.length kza = kzv) /\ (∀ x2 : Nat,x2 < kzv -> x2 ∉ x1 -> ((List.length kza = kzv) /\ (entryE kza (x1 ++ [x2]) = some (.tuple #[nI (kz1e x2).1,nI (kz1e x2).2])) /\ (∃ x1' : List Nat,(SeenL (List.length kzd) x1') /\ (List.length kzd - List.length x1') < (List.length kzd - List.length x1) /\ true = true /\ ((nI (if ((kz1e x2).2 : Int) > (kz1i x1) then ((kz1e x2).2 : Int) else (kz1i x1)) : Value) = nI (maxS [(0,1),(1,1),(2,2)] x1') /\ kz14) /\ ((some (.iter 8 kzv (x1 ++ [x2]) : KObj) = some (.iter 8 kzv x1' : KObj) /\ belowO 10 (.iter 8 kzv x1' : KObj) = true) /\ True) /\ (True) /\ (True)))) /\ ((∀ x2 : Nat,x2 < kzv -> x2 ∈ x1) -> (nI (kz1i x1) : Value) = sp))))
theorem E83_d (sp : Value) : vF prog msk (dm 0) 100000 true 40 true 83 kzr kzk (some [])
 (.go 3 (.ans [(0,.cells false 0 kz3),(1,.cells false 0 kzy),(2,.cells false 0 kz0),(3,.cells false 0 kz2),kz17,(5,.cells false 0 kz4),(6,.cells false 0 kz6),(7,.cells false 0 kz5)] kz10 [.map kza] (.go 0 (.inv 3 (List Nat) (([] : List Nat)) [] [9] (fun x1 => [(5,nI (kz1i x1)),(4,nI 0),(11,.pointer (some ⟨9,0,none⟩))]) (fun x1 => [(9,true,.iter 8 kzv x1)]) (fun x1 => []) (fun x1 => []) (fun x1 => (SeenL (List.length kzd) x1)) (fun x1 => (List.length kzd - List.length x1)) (fun x1 => .nxt (fun x2 => .go 1 (.val (.tuple #[nI (kz1e x2).1,nI (kz1e x2).2]) (.go 5 (.again [])))) (.auto))))))
 (fun v _ _ => v = sp) = R83_d sp:=by kernel_rfl
theorem P83_d : R83_d (nI 2):=⟨⟨rfl,rfl,rfl,rfl,rfl,rfl,rfl,rfl,trivial⟩,fun H' hl h => (by have k:=C106_2 (H:=H') [0,1,2,3,4,5,6,7] ⟨⟨_,_,h.1⟩,⟨_,_,h.2.1⟩,⟨_,_,h.2.2.1⟩,⟨_,_,h.2.2.2.1⟩,⟨_,_,h.2.2.2.2.1⟩,⟨_,_,h.2.2.2.2.2.1⟩,⟨_,_,h.2.2.2.2.2.2.1⟩,⟨_,_,h.2.2.2.2.2.2.2.1⟩,trivial⟩; rw [hl] at k; exact k),⟨rfl,seenL_0 _,⟨rfl,⟨rfl,rfl,rfl,trivial⟩,⟨⟨rfl,rfl⟩,trivial⟩,trivial,trivial⟩,fun _ => rfl,fun x hx => ⟨rfl,fun i hi hn => ⟨rfl,entI _ hi x,x ++ [i],seenL_snoc hx hi hn,seenL_more hx hi hn,rfl,⟨(by rw [maxS_snoc]),rfl,rfl,trivial⟩,⟨⟨rfl,rfl⟩,trivial⟩,trivial,trivial⟩,fun hall => iEq (maxS_all hx hall rfl)⟩⟩⟩
theorem C83_d {H : Heap} (ids : List Nat) (h : InsA H (sgR 0 ids) ids [kz3,kzy,kz0,kz2,[sL 5 5 5,sL 6 5 5,sL 7 5 5],kz4,kz6,kz5]) : KCall prog 83 ((kzr : List Value).map (rn (sgR 0 ids) 3)) H [] (Is (nI 2) H) :=
 valRA (css:=[kz3,kzy,kz0,kz2,[sL 5 5 5,sL 6 5 5,sL 7 5 5],kz4,kz6,kz5]) (Eq.mpr (E83_d _) P83_d) rfl ids h.len h.get
def R83_b (sp : Value) : Prop :=
 (((someR kz11) /\ (someR (.cells false 0 kzz : KObj)) /\ kze) /\ (∀ H' : Heap,H'.length = 8 -> (H'[0]? = some kz11 /\ H'[1]? = some (.cells false 0 kzz : KObj) /\ kzc H') -> KCall prog 106 kzs H' [] (Is kz10 (H' ++ [(.map kzo : KObj)]))) /\ (kz1 sp))
theorem E83_b (sp : Value) : vF prog msk (dm 0) 100000 true 40 true 83 kzs kzl (some [])
 (.go 3 (.ans [(0,.cells false 0 kz3),(1,.cells false 0 kzz),(2,.cells false 0 kz0),(3,.cells false 0 kz2),kz17,(5,.cells false 0 kz4),(6,.cells false 0 kz6),(7,.cells false 0 kz5)] kz10 [.map kzo] kz8))
 (fun v _ _ => v = sp) = R83_b sp:=by kernel_rfl
theorem P83_b : R83_b (nI 2):=⟨⟨rfl,rfl,rfl,rfl,rfl,rfl,rfl,rfl,trivial⟩,fun H' hl h => (by have k:=C106_0 (H:=H') [0,1,2,3,4,5,6,7] ⟨⟨_,_,h.1⟩,⟨_,_,h.2.1⟩,⟨_,_,h.2.2.1⟩,⟨_,_,h.2.2.2.1⟩,⟨_,_,h.2.2.2.2.1⟩,⟨_,_,h.2.2.2.2.2.1⟩,⟨_,_,h.2.2.2.2.2.2.1⟩,⟨_,_,h.2.2.2.2.2.2.2.1⟩,trivial⟩; rw [hl] at k; exact k),⟨rfl,seenL_0 _,⟨rfl,⟨rfl,rfl,rfl,trivial⟩,⟨⟨rfl,rfl⟩,trivial⟩,trivial,trivial⟩,fun _ => rfl,fun x hx => ⟨rfl,fun i hi hn => ⟨rfl,entI _ hi x,x ++ [i],seenL_snoc hx hi hn,seenL_more hx hi hn,rfl,⟨(by rw [maxS_snoc]),rfl,rfl,trivial⟩,⟨⟨rfl,rfl⟩,trivial⟩,trivial,trivial⟩,fun hall => iEq (maxS_all hx hall rfl)⟩⟩⟩
theorem C83_b {H : Heap} (ids : List Nat) (h : InsA H (sgR 0 ids) ids [kz3,kzz,kz0,kz2,[sL 5 5 5,sL 6 5 5,sL 7 5 5],kz4,kz6,kz5]) : KCall prog 83 ((kzs : List Value).map (rn (sgR 0 ids) 3)) H [] (Is (nI 2) H) :=
 valRA (css:=[kz3,kzz,kz0,kz2,[sL 5 5 5,sL 6 5 5,sL 7 5 5],kz4,kz6,kz5]) (Eq.mpr (E83_b _) P83_b) rfl ids h.len h.get
def R83_c (sp : Value) : Prop :=
 (((someR kz11) /\ (someR (.cells false 0 [nI 0,nI 2] : KObj)) /\ kze) /\ (∀ H' : Heap,H'.length = 8 -> (H'[0]? = some kz11 /\ H'[1]? = some (.cells false 0 [nI 0,nI 2] : KObj) /\ kzc H') -> KCall prog 106 kzt H' [] (Is kz10 (H' ++ [(.map kzo : KObj)]))) /\ (kz1 sp))
theorem E83_c (sp : Value) : vF prog msk (dm 0) 100000 true 40 true 83 kzt kzp (some [])
 (.go 3 (.ans [(0,.cells false 0 kz3),(1,.cells false 0 [nI 0,nI 2]),(2,.cells false 0 kz0),(3,.cells false 0 kz2),kz17,(5,.cells false 0 kz4),(6,.cells false 0 kz6),(7,.cells false 0 kz5)] kz10 [.map kzo] kz8))
 (fun v _ _ => v = sp) = R83_c sp:=by kernel_rfl
theorem P83_c : R83_c (nI 2):=⟨⟨rfl,rfl,rfl,rfl,rfl,rfl,rfl,rfl,trivial⟩,fun H' hl h => (by have k:=C106_1 (H:=H') [0,1,2,3,4,5,6,7] ⟨⟨_,_,h.1⟩,⟨_,_,h.2.1⟩,⟨_,_,h.2.2.1⟩,⟨_,_,h.2.2.2.1⟩,⟨_,_,h.2.2.2.2.1⟩,⟨_,_,h.2.2.2.2.2.1⟩,⟨_,_,h.2.2.2.2.2.2.1⟩,⟨_,_,h.2.2.2.2.2.2.2.1⟩,trivial⟩; rw [hl] at k; exact k),⟨rfl,seenL_0 _,⟨rfl,⟨rfl,rfl,rfl,trivial⟩,⟨⟨rfl,rfl⟩,trivial⟩,trivial,trivial⟩,fun _ => rfl,fun x hx => ⟨rfl,fun i hi hn => ⟨rfl,entI _ hi x,x ++ [i],seenL_snoc hx hi hn,seenL_more hx hi hn,rfl,⟨(by rw [maxS_snoc]),rfl,rfl,trivial⟩,⟨⟨rfl,rfl⟩,trivial⟩,trivial,trivial⟩,fun hall => iEq (maxS_all hx hall rfl)⟩⟩⟩
theorem C83_c {H : Heap} (ids : List Nat) (h : InsA H (sgR 0 ids) ids [kz3,[nI 0,nI 2],kz0,kz2,[sL 5 5 5,sL 6 5 5,sL 7 5 5],kz4,kz6,kz5]) : KCall prog 83 ((kzt : List Value).map (rn (sgR 0 ids) 3)) H [] (Is (nI 2) H) :=
 valRA (css:=[kz3,[nI 0,nI 2],kz0,kz2,[sL 5 5 5,sL 6 5 5,sL 7 5 5],kz4,kz6,kz5]) (Eq.mpr (E83_c _) P83_c) rfl ids h.len h.get
end
end Go.Proofs.YtbgfjemppjhmjaaGreat
/- Closed calls of the chapter's examples. Printed by a program. No condition. -/
namespace Go.Proofs.YtbgfjemppjhmjaaGreat
set_option linter.unusedSimpArgs false
open Go Go.K
set_option maxRecDepth 1000000
set_option maxHeartbeats 4000000
set_option linter.unusedVariables false
noncomputable section
attribute [local irreducible] vF
def R41_a (sp : Value) : Prop :=
 (nI 0 : Value) = sp
theorem E41_a (sp : Value) : vF prog msk (dm 0) 100000 true 40 true 41 kzn (readsT 0 [kz0,kz2]) (some [])
 (.auto)
 (fun v _ _ => v = sp) = R41_a sp:=by kernel_rfl
theorem P41_a : R41_a (nI 0):=rfl
theorem C41_a {H : Heap} (ids : List Nat) (h : InsA H (sgR 0 ids) ids [kz0,kz2]) : KCall prog 41 ((kzn : List Value).map (rn (sgR 0 ids) 3)) H [] (Is (nI 0) H) :=
 valRA (css:=[kz0,kz2]) (Eq.mpr (E41_a _) P41_a) rfl ids h.len h.get
def R114_5 : Prop :=
 (true = true /\ wk (sL 2 5 5 : Value) kz19 /\ (wkO (.cells true 1 kz4 : KObj) (rno (sg 1 [(1,2)]) 3 (.cells true 1 kz4 : KObj)) /\ True))
theorem E114_5 : vF prog msk (dm 0) 100000 true 40 true 114 kz1c kz1f (some [])
 kz1l
 (newK kz1f.n 3 (sL 1 5 5) [(false,.cells true 1 kz4)]) = R114_5:=by kernel_rfl
theorem P114_5 : R114_5:=⟨rfl,wk_of_eq rfl,wkO_of_eq rfl,trivial⟩
theorem C114_5 {H : Heap} (ids : List Nat) (h : InsA H (sgR 0 ids) ids [kz0]) : KCall prog 114 ((kz1c : List Value).map (rn (sgR 0 ids) 3)) H [] (Is (rn (sgUp 1 H.length) 3 (sL 1 5 5)) (H ++ [rno (sgUp 1 H.length) 3 (.cells true 1 kz4)])) :=
 valNA (css:=[kz0]) (v:=sL 1 5 5) (new:=[(false,.cells true 1 kz4)]) (Eq.mpr E114_5 P114_5) rfl rfl rfl rfl ids h.len h.get
def R114_3 : Prop :=
 (true = true /\ wk (sL 2 5 5 : Value) kz19 /\ (wkO (.cells true 1 kz6 : KObj) (rno (sg 1 [(1,2)]) 3 (.cells true 1 kz6 : KObj)) /\ True))
theorem E114_3 : vF prog msk (dm 0) 100000 true 40 true 114 kz1d kz1f (some [])
 kz1l
 (newK kz1f.n 3 (sL 1 5 5) [(false,.cells true 1 kz6)]) = R114_3:=by kernel_rfl
theorem P114_3 : R114_3:=⟨rfl,wk_of_eq rfl,wkO_of_eq rfl,trivial⟩
theorem C114_3 {H : Heap} (ids : List Nat) (h : InsA H (sgR 0 ids) ids [kz0]) : KCall prog 114 ((kz1d : List Value).map (rn (sgR 0 ids) 3)) H [] (Is (rn (sgUp 1 H.length) 3 (sL 1 5 5)) (H ++ [rno (sgUp 1 H.length) 3 (.cells true 1 kz6)])) :=
 valNA (css:=[kz0]) (v:=sL 1 5 5) (new:=[(false,.cells true 1 kz6)]) (Eq.mpr E114_3 P114_3) rfl rfl rfl rfl ids h.len h.get
def R114_4 : Prop :=
 (true = true /\ wk (sL 2 5 5 : Value) kz19 /\ (wkO kz18 (rno (sg 1 [(1,2)]) 3 kz18) /\ True))
theorem E114_4 : vF prog msk (dm 0) 100000 true 40 true 114 kzx kz1f (some [])
 kz1l
 (newK kz1f.n 3 (sL 1 5 5) [(false,.cells true 1 kz5)]) = R114_4:=by kernel_rfl
theorem P114_4 : R114_4:=⟨rfl,wk_of_eq rfl,wkO_of_eq rfl,trivial⟩
theorem C114_4 {H : Heap} (ids : List Nat) (h : InsA H (sgR 0 ids) ids [kz0]) : KCall prog 114 ((kzx : List Value).map (rn (sgR 0 ids) 3)) H [] (Is (rn (sgUp 1 H.length) 3 (sL 1 5 5)) (H ++ [rno (sgUp 1 H.length) 3 (.cells true 1 kz5)])) :=
 valNA (css:=[kz0]) (v:=sL 1 5 5) (new:=[(false,.cells true 1 kz5)]) (Eq.mpr E114_4 P114_4) rfl rfl rfl rfl ids h.len h.get
def R41_9 (sp : Value) : Prop :=
 (nI 0 : Value) = sp
theorem E41_9 (sp : Value) : vF prog msk (dm 0) 100000 true 40 true 41 kzw kz1b (some [])
 (.auto)
 (fun v _ _ => v = sp) = R41_9 sp:=by kernel_rfl
theorem P41_9 : R41_9 (nI 0):=rfl
theorem C41_9 {H : Heap} (ids : List Nat) (h : InsA H (sgR 0 ids) ids [kz0,kzh]) : KCall prog 41 ((kzw : List Value).map (rn (sgR 0 ids) 3)) H [] (Is (nI 0) H) :=
 valRA (css:=[kz0,kzh]) (Eq.mpr (E41_9 _) P41_9) rfl ids h.len h.get
end
end Go.Proofs.YtbgfjemppjhmjaaGreat
/- Closed calls of the chapter's examples. Printed by a program. No condition. -/
namespace Go.Proofs.YtbgfjemppjhmjaaGreat
set_option linter.unusedSimpArgs false
open Go Go.K
set_option maxRecDepth 1000000
set_option maxHeartbeats 4000000
set_option linter.unusedVariables false
noncomputable section
attribute [local irreducible] vF
def R24_8 : Prop :=
 (((someR kz7) /\ (someR (.cells false 0 kz2 : KObj)) /\ True) /\ (∀ H' : Heap,H'.length = 4 -> (H'[0]? = some kz7 /\ H'[1]? = some (.cells false 0 kz2 : KObj) /\ True) -> KCall prog 41 kzn H' [] (Is (nI 0) H')) /\ (kz15 /\ kzm /\ (kz15 /\ (∀ H' : Heap,H'.length = 10 -> (kz1g H') -> KCall prog 114 kz1d H' [] (Is (sL 10 5 5) (H' ++ [(.cells true 1 kz6 : KObj)]))) /\ (kz15 /\ (∀ H' : Heap,H'.length = 14 -> (kz1g H') -> KCall prog 114 kzx H' [] (Is (sL 14 5 5) (H' ++ [kz18]))) /\ (((someR kz12) /\ (someR (.cells true 1 kzy : KObj)) /\ kzf) /\ (∀ H' : Heap,H'.length = 24 -> (H'[4]? = some kz12 /\ H'[23]? = some (.cells true 1 kzy : KObj) /\ kzb H') -> KCall prog 83 [.pointer (some ⟨4,0,none⟩),sL 23 3 3] H' [] (Is (nI 2) H')) /\ (((someR kz12) /\ (someR (.cells true 1 kzz : KObj)) /\ kzf) /\ (∀ H' : Heap,H'.length = 27 -> (H'[4]? = some kz12 /\ H'[26]? = some (.cells true 1 kzz : KObj) /\ kzb H') -> KCall prog 83 [.pointer (some ⟨4,0,none⟩),sL 26 2 3] H' [] (Is (nI 2) H')) /\ (((someR kz12) /\ (someR (.cells true 1 [nI 0,nI 2] : KObj)) /\ kzf) /\ (∀ H' : Heap,H'.length = 37 -> (H'[4]? = some kz12 /\ H'[36]? = some (.cells true 1 [nI 0,nI 2] : KObj) /\ kzb H') -> KCall prog 83 [.pointer (some ⟨4,0,none⟩),sL 36 2 2] H' [] (Is (nI 2) H')) /\ (true = true /\ wk (.tuple #[sL 38 3 3,nI 0] : Value) (rn (sg 2 [(2,38)]) 3 (.tuple #[sL 2 3 3,nI 0] : Value)) /\ (wkO (.cells true 1 kzu : KObj) (rno (sg 2 [(2,38)]) 3 (.cells true 1 kzu : KObj)) /\ True)))))))))
theorem E24_8 : vF prog msk (dm 0) 100000 true 40 true 24 kzn (readsT 0 [kz0,kz2]) (some [])
 (.go 8 (.ans [kzj,kz1h] (nI 0) [] (.go 30 (.ans [kzj] (sL 6 5 5) [.cells true 1 kz4] (.into (some [3,4,5,6]) (.go 28 (.ans [kzj] (sL 10 5 5) [.cells true 1 kz6] (.into (some (List.range' 3 8)) (.go 28 (.ans [kzj] (sL 14 5 5) [.cells true 1 kz5] (.into (some (List.range' 3 12)) (.go 77 (.ans [(4,.cells true 0 kzg),(23,.cells true 1 kzy),kzj,kz1h,kz16,(6,.cells true 1 kz4),(10,.cells true 1 kz6),(14,.cells true 1 kz5)] (nI 2) [] (.go 24 (.into (some (List.range' 2 25)) (.go 367 (.ans [(4,.cells true 0 kzg),(26,.cells true 1 kzz),kzj,kz1h,kz16,(6,.cells true 1 kz4),(10,.cells true 1 kz6),(14,.cells true 1 kz5)] (nI 2) [] (.go 30 (.into (some (List.range' 2 30)) (.go 280 (.into (some (List.range' 2 30)) (.go 76 (.into (some (List.range' 2 35)) (.go 257 (.ans [(4,.cells true 0 kzg),(36,.cells true 1 [nI 0,nI 2]),kzj,kz1h,kz16,(6,.cells true 1 kz4),(10,.cells true 1 kz6),(14,.cells true 1 kz5)] (nI 2) [] (.go 19 (.again [(2,38)])))))))))))))))))))))))))))
 (newK (readsT 0 [kz0,kz2]).n 3 (.tuple #[sL 2 3 3,nI 0]) [(false,.cells true 1 kzu)]) = R24_8:=by kernel_rfl
theorem P24_8 : R24_8:=⟨⟨rfl,rfl,trivial⟩,fun H' _ h => C41_a [0,1] ⟨⟨_,_,h.1⟩,⟨_,_,h.2.1⟩,trivial⟩,⟨⟨rfl,trivial⟩,fun H' hl h => (by have k:=C114_5 (H:=H') [0] ⟨⟨_,_,h.1⟩,trivial⟩; rw [hl] at k; exact k),⟨⟨rfl,trivial⟩,fun H' hl h => (by have k:=C114_3 (H:=H') [0] ⟨⟨_,_,h.1⟩,trivial⟩; rw [hl] at k; exact k),⟨⟨rfl,trivial⟩,fun H' hl h => (by have k:=C114_4 (H:=H') [0] ⟨⟨_,_,h.1⟩,trivial⟩; rw [hl] at k; exact k),⟨⟨rfl,rfl,rfl,rfl,rfl,rfl,rfl,rfl,trivial⟩,fun H' _ h => C83_d [4,23,0,1,16,6,10,14] ⟨⟨_,_,h.1⟩,⟨_,_,h.2.1⟩,⟨_,_,h.2.2.1⟩,⟨_,_,h.2.2.2.1⟩,⟨_,_,h.2.2.2.2.1⟩,⟨_,_,h.2.2.2.2.2.1⟩,⟨_,_,h.2.2.2.2.2.2.1⟩,⟨_,_,h.2.2.2.2.2.2.2.1⟩,trivial⟩,⟨⟨rfl,rfl,rfl,rfl,rfl,rfl,rfl,rfl,trivial⟩,fun H' _ h => C83_b [4,26,0,1,16,6,10,14] ⟨⟨_,_,h.1⟩,⟨_,_,h.2.1⟩,⟨_,_,h.2.2.1⟩,⟨_,_,h.2.2.2.1⟩,⟨_,_,h.2.2.2.2.1⟩,⟨_,_,h.2.2.2.2.2.1⟩,⟨_,_,h.2.2.2.2.2.2.1⟩,⟨_,_,h.2.2.2.2.2.2.2.1⟩,trivial⟩,⟨⟨rfl,rfl,rfl,rfl,rfl,rfl,rfl,rfl,trivial⟩,fun H' _ h => C83_c [4,36,0,1,16,6,10,14] ⟨⟨_,_,h.1⟩,⟨_,_,h.2.1⟩,⟨_,_,h.2.2.1⟩,⟨_,_,h.2.2.2.1⟩,⟨_,_,h.2.2.2.2.1⟩,⟨_,_,h.2.2.2.2.2.1⟩,⟨_,_,h.2.2.2.2.2.2.1⟩,⟨_,_,h.2.2.2.2.2.2.2.1⟩,trivial⟩,⟨rfl,wk_of_eq rfl,wkO_of_eq rfl,trivial⟩⟩⟩⟩⟩⟩⟩⟩
theorem C24_8 {H : Heap} (ids : List Nat) (h : InsA H (sgR 0 ids) ids [kz0,kz2]) : KCall prog 24 ((kzn : List Value).map (rn (sgR 0 ids) 3)) H [] (Is (rn (sgUp 2 H.length) 3 (.tuple #[sL 2 3 3,nI 0])) (H ++ [rno (sgUp 2 H.length) 3 (.cells true 1 kzu)])) :=
 valNA (css:=[kz0,kz2]) (v:=.tuple #[sL 2 3 3,nI 0]) (new:=[(false,.cells true 1 kzu)]) (Eq.mpr E24_8 P24_8) rfl rfl rfl rfl ids h.len h.get
end
end Go.Proofs.YtbgfjemppjhmjaaGreat
/- Closed calls of the chapter's examples. Printed by a program. No condition. -/
namespace Go.Proofs.YtbgfjemppjhmjaaGreat
set_option linter.unusedSimpArgs false
open Go Go.K
set_option maxRecDepth 1000000
set_option maxHeartbeats 4000000
set_option linter.unusedVariables false
noncomputable section
attribute [local irreducible] vF
def R18_6 : Prop :=
 (((someR kz7) /\ (someR kz1a) /\ True) /\ (∀ H' : Heap,H'.length = 5 -> (H'[0]? = some kz7 /\ H'[1]? = some kz1a /\ True) -> KCall prog 41 kzw H' [] (Is (nI 0) H')) /\ (kz15 /\ (∀ H' : Heap,H'.length = 7 -> (kz1g H') -> KCall prog 114 kz1c H' [] (Is (sL 7 5 5) (H' ++ [(.cells true 1 kz4 : KObj)]))) /\ (kz15 /\ (∀ H' : Heap,H'.length = 11 -> (kz1g H') -> KCall prog 114 kzx H' [] (Is (sL 11 5 5) (H' ++ [kz18]))) /\ (true = true /\ wk (.tuple #[sL 33 2 2,nI 0] : Value) (rn (sg 2 [(2,33)]) 3 (.tuple #[sL 2 2 2,nI 0] : Value)) /\ (wkO (.cells true 1 [nI 1,nI 2] : KObj) (rno (sg 2 [(2,33)]) 3 (.cells true 1 [nI 1,nI 2] : KObj)) /\ True)))))
theorem E18_6 : vF prog msk (dm 0) 100000 true 40 true 18 kz1j kz1b (some [])
 (.go 9 (.ans [kzj,(1,.cells false 0 kzh)] (nI 0) [] (.go 30 (.ans [kzj] (sL 7 5 5) [.cells true 1 kz4] (.into (some [4,5,6,7]) (.go 28 (.ans [kzj] (sL 11 5 5) [.cells true 1 kz5] (.into (some (List.range' 4 8)) (.go 1310 (.again [(2,33)]))))))))))
 (newK kz1b.n 3 (.tuple #[sL 2 2 2,nI 0]) [(false,.cells true 1 [nI 1,nI 2])]) = R18_6:=by kernel_rfl
theorem P18_6 : R18_6:=⟨⟨rfl,rfl,trivial⟩,fun H' _ h => C41_9 [0,1] ⟨⟨_,_,h.1⟩,⟨_,_,h.2.1⟩,trivial⟩,⟨⟨rfl,trivial⟩,fun H' hl h => (by have k:=C114_5 (H:=H') [0] ⟨⟨_,_,h.1⟩,trivial⟩; rw [hl] at k; exact k),⟨⟨rfl,trivial⟩,fun H' hl h => (by have k:=C114_4 (H:=H') [0] ⟨⟨_,_,h.1⟩,trivial⟩; rw [hl] at k; exact k),⟨rfl,wk_of_eq rfl,wkO_of_eq rfl,trivial⟩⟩⟩⟩
theorem C18_6 {H : Heap} (ids : List Nat) (h : InsA H (sgR 0 ids) ids [kz0,kzh]) : KCall prog 18 ((kz1j : List Value).map (rn (sgR 0 ids) 3)) H [] (Is (rn (sgUp 2 H.length) 3 (.tuple #[sL 2 2 2,nI 0])) (H ++ [rno (sgUp 2 H.length) 3 (.cells true 1 [nI 1,nI 2])])) :=
 valNA (css:=[kz0,kzh]) (v:=.tuple #[sL 2 2 2,nI 0]) (new:=[(false,.cells true 1 [nI 1,nI 2])]) (Eq.mpr E18_6 P18_6) rfl rfl rfl rfl ids h.len h.get
def R19_7 : Prop :=
 (((someR kz7) /\ (someR kz1a) /\ True) /\ (∀ H' : Heap,H'.length = 4 -> (H'[0]? = some kz7 /\ H'[1]? = some kz1a /\ True) -> KCall prog 41 kzw H' [] (Is (nI 0) H')) /\ (kz15 /\ kzm /\ (kz15 /\ (∀ H' : Heap,H'.length = 10 -> (kz1g H') -> KCall prog 114 kzx H' [] (Is (sL 10 5 5) (H' ++ [kz18]))) /\ (true = true /\ wk (.tuple #[sL 24 1 1,nI 0] : Value) (rn (sg 2 [(2,24)]) 3 (.tuple #[sL 2 1 1,nI 0] : Value)) /\ (wkO (.cells true 2 [nI 10,nI 30] : KObj) (rno (sg 2 [(2,24)]) 3 (.cells true 2 [nI 10,nI 30] : KObj)) /\ True)))))
theorem E19_7 : vF prog msk (dm 0) 100000 true 40 true 19 kz1k kz1b (some [])
 (.go 8 (.ans [kzj,(1,.cells false 0 kzh)] (nI 0) [] (.go 30 (.ans [kzj] (sL 6 5 5) [.cells true 1 kz4] (.into (some [3,4,5,6]) (.go 28 (.ans [kzj] (sL 10 5 5) [.cells true 1 kz5] (.into (some (List.range' 3 8)) (.go 372 (.into (some (List.range' 2 17)) (.go 29 (.into (some (List.range' 2 17)) (.go 12 (.into (some (List.range' 2 17)) (.go 155 (.again [(2,24)]))))))))))))))))
 (newK kz1b.n 3 (.tuple #[sL 2 1 1,nI 0]) [(false,.cells true 2 [nI 10,nI 30])]) = R19_7:=by kernel_rfl
theorem P19_7 : R19_7:=⟨⟨rfl,rfl,trivial⟩,fun H' _ h => C41_9 [0,1] ⟨⟨_,_,h.1⟩,⟨_,_,h.2.1⟩,trivial⟩,⟨⟨rfl,trivial⟩,fun H' hl h => (by have k:=C114_5 (H:=H') [0] ⟨⟨_,_,h.1⟩,trivial⟩; rw [hl] at k; exact k),⟨⟨rfl,trivial⟩,fun H' hl h => (by have k:=C114_4 (H:=H') [0] ⟨⟨_,_,h.1⟩,trivial⟩; rw [hl] at k; exact k),⟨rfl,wk_of_eq rfl,wkO_of_eq rfl,trivial⟩⟩⟩⟩
theorem C19_7 {H : Heap} (ids : List Nat) (h : InsA H (sgR 0 ids) ids [kz0,kzh]) : KCall prog 19 ((kz1k : List Value).map (rn (sgR 0 ids) 3)) H [] (Is (rn (sgUp 2 H.length) 3 (.tuple #[sL 2 1 1,nI 0])) (H ++ [rno (sgUp 2 H.length) 3 (.cells true 2 [nI 10,nI 30])])) :=
 valNA (css:=[kz0,kzh]) (v:=.tuple #[sL 2 1 1,nI 0]) (new:=[(false,.cells true 2 [nI 10,nI 30])]) (Eq.mpr E19_7 P19_7) rfl rfl rfl rfl ids h.len h.get
end
end Go.Proofs.YtbgfjemppjhmjaaGreat
/- Radio: the examples of the chapter (awake). No condition. -/
namespace Go.Proofs.YtbgfjemppjhmjaaGreat
open Go Go.K
set_option maxRecDepth 100000
set_option linter.unusedVariables false
set_option linter.unusedSimpArgs false
noncomputable section
attribute [local irreducible] vF
theorem hvAwake : Rawake (.bool true) := by
 unfold Rawake
 refine ⟨trivial, fun H' hl h => ?_, ⟨rfl, rfl, trivial⟩, fun H' hl h => ?_, ⟨rfl, rfl, trivial⟩, fun H' hl h => ?_, ⟨rfl, rfl, trivial⟩, fun H' hl h => ?_, ⟨rfl, rfl, trivial⟩, fun H' hl h => ?_, ⟨rfl, rfl, trivial⟩, fun H' hl h => ?_, ⟨rfl, rfl, trivial⟩, fun H' hl h => ?_, ⟨rfl, rfl, trivial⟩, fun H' hl h => ?_, ⟨rfl, rfl, trivial⟩, fun H' hl h => ?_, ⟨rfl, rfl, trivial⟩, fun H' hl h => ?_, rfl⟩
 ·have := kNew H'
  rw [hl] at this; exact this
 ·have := kAdd [] mA h.1 h.2.1
  rw [show addL [] mA = [mA] by decide, show addB [] mA = true by decide, show addErr [] mA = 0 by decide] at this; exact this
 ·have := kAdd [mA] mB h.1 h.2.1
  rw [show addL [mA] mB = [mA, mB] by decide, show addB [mA] mB = true by decide, show addErr [mA] mB = 0 by decide] at this; exact this
 ·have := kLive okAB (by decide) (H := H') (by decide) h.1 h.2.1
  rw [hl, liveAB] at this; exact this
 ·have := kGaps (a := 1) okAB (by decide) (by decide) (by decide) (H := H') (by decide) h.1 h.2.1
  rw [hl, gapsAB] at this; exact this
 ·have := kAdd [mA, mB] mC h.1 h.2.1
  rw [show addL [mA, mB] mC = [mA, mB, mC] by decide, show addB [mA, mB] mC = true by decide, show addErr [mA, mB] mC = 0 by decide] at this; exact this
 ·have := kLive okABC (by decide) (H := H') (by decide) h.1 h.2.1
  rw [hl, liveABC] at this; exact this
 ·have k := C24_8 (H := H') [15, 21] ⟨⟨_, _, h.1⟩, ⟨_, _, h.2.1⟩, trivial⟩
  rw [hl] at k; exact k
 ·have k := C18_6 (H := H') [15, 25] ⟨⟨_, _, h.1⟩, ⟨_, _, h.2.1⟩, trivial⟩
  rw [hl] at k; exact k
 ·have k := C19_7 (H := H') [15, 25] ⟨⟨_, _, h.1⟩, ⟨_, _, h.2.1⟩, trivial⟩
  rw [hl] at k; exact k
theorem kAwake (H : Heap) : KCall prog 14 [] H [] (Is (.bool true) H) :=
 valB (v := .bool true) (css := []) (ids := []) (Eq.mpr (Eawake _) hvAwake) (hv := rfl) (hi := trivial) (ha := rfl)
end
end Go.Proofs.YtbgfjemppjhmjaaGreat
/- What is to be shown of functions. Printed by a program. No condition. -/
namespace Go.Proofs.YtbgfjemppjhmjaaGreat
set_option linter.unusedSimpArgs false
open Go Go.K
set_option maxRecDepth 100000
set_option maxHeartbeats 4000000
set_option linter.unusedVariables false
noncomputable section
def RPick (sp : Value) (x n : Int) : Prop :=
 (((decide ((n : Int) < 1)) = true -> (.int .i64 0 : Value) = sp) /\ ((decide ((n : Int) < 1)) = false -> (((n : Int) ≠ 0) /\ (((decide (((Int.tmod x n) : Int) < 0)) = true -> ((.int .i64 (IntKind.wrap .i64 ((Int.tmod x n) + n)) : Value) = .int .i64 ((Int.tmod x n) + n) /\ (.int .i64 ((Int.tmod x n) + n) : Value) = sp)) /\ ((decide (((Int.tmod x n) : Int) < 0)) = false -> (.int .i64 (Int.tmod x n) : Value) = sp)))))
theorem EPick (sp : Value) (x n : Int) : vF prog msk (dm 0) 100000 true 40 true 16 [.int .i64 x,.int .i64 n] ⟨0,.leaf⟩ (some [])
 (.go 2 (.fork (.auto) (.go 1 (.need (.go 2 (.fork (.go 2 (.slot 15 (.int .i64 ((Int.tmod x n) + n)) (.auto))) (.auto)))))))
 (fun v _ _ => v = sp) = RPick sp x n:=by kernel_rfl
def RNext (L : List Int) (n m : Int) : Prop :=
 (((decide ((0 : Int) < (((List.length L) : Nat) : Int))) = true -> ((((((List.length L) : Nat) : Int) : Int) ≠ 0) /\ (((0 : Int) <= (Int.tmod n (((List.length L) : Nat) : Int)) /\ ((Int.tmod n (((List.length L) : Nat) : Int)) : Int) < (((List.length L) : Nat) : Int)) /\ (((List.flatMap intC L)[(Int.toNat (Int.tmod n (((List.length L) : Nat) : Int)) * 1)]? = some (.int .i64 (List.getD L (Int.toNat (Int.tmod n (((List.length L) : Nat) : Int))) 0))) /\ ((((((List.length L) : Nat) : Int) : Int) ≠ 0) /\ (∃ y0 : Int,(.int .i64 (IntKind.wrap .i64 (Int.tdiv n (((List.length L) : Nat) : Int))) : Value) = .int .i64 y0 /\ (∃ y1 : Int,(.int .i64 (IntKind.wrap .i64 ((List.getD L (Int.toNat (Int.tmod n (((List.length L) : Nat) : Int))) 0) + y0)) : Value) = .int .i64 y1 /\ ((True) /\ (∀ H' : Heap,H'.length = 1 -> (True) -> KCall prog 16 [.int .i64 y1,.int .i64 m] H' [] (Is (.int .i64 (y1 % m)) H')) /\ (true = true /\ wk (.int .i64 (y1 % m) : Value) (rn (sg 1 []) 3 (.int .i64 (dN L n m) : Value)) /\ ((some (.cells true 0 [.iface ((List.length L) + 1) (.agg ⟨(List.flatMap intC L)⟩),.int .i64 (IntKind.wrap .i64 (n + 1))] : KObj) = some (.cells true 0 [.iface ((List.length L) + 1) (.agg ⟨(List.flatMap intC L)⟩),.int .i64 (n + 1)] : KObj) /\ belowO 1 (.cells true 0 [.iface ((List.length L) + 1) (.agg ⟨(List.flatMap intC L)⟩),.int .i64 (n + 1)] : KObj) = true) /\ True) /\ (True)))))))))) /\ ((decide ((0 : Int) < (((List.length L) : Nat) : Int))) = false -> ((True) /\ (∀ H' : Heap,H'.length = 1 -> (True) -> KCall prog 16 [.int .i64 0,.int .i64 m] H' [] (Is (.int .i64 (0 % m)) H')) /\ (true = true /\ wk (.int .i64 (0 % m) : Value) (rn (sg 1 []) 3 (.int .i64 (dN L n m) : Value)) /\ ((some (.cells true 0 [.iface ((List.length L) + 1) (.agg ⟨(List.flatMap intC L)⟩),.int .i64 (IntKind.wrap .i64 (n + 1))] : KObj) = some (.cells true 0 [.iface ((List.length L) + 1) (.agg ⟨(List.flatMap intC L)⟩),.int .i64 (n + 1)] : KObj) /\ belowO 1 (.cells true 0 [.iface ((List.length L) + 1) (.agg ⟨(List.flatMap intC L)⟩),.int .i64 (n + 1)] : KObj) = true) /\ True) /\ (True)))))
theorem ENext (L : List Int) (n m : Int) : vF prog msk (dm 0) 100000 true 40 true 27 [.pointer (some ⟨0,0,none⟩),.int .i64 m] (readsW 0 0 (digC L n) []) (some [0])
 (.go 7 (.fork (.go 12 (.need (.need (.val (.int .i64 (List.getD L (Int.toNat (Int.tmod n (((List.length L) : Nat) : Int))) 0)) (.go 8 (.need (.bind Int (fun y0 => .slot 37 (.int .i64 y0) (.go 0 (.bind Int (fun y1 => .slot 38 (.int .i64 y1) (.go 10 (.ans [] (.int .i64 (y1 % m)) [] (.go 0 (.keep (.again [])))))))))))))))) (.go 9 (.ans [] (.int .i64 (0 % m)) [] (.go 0 (.keep (.again [])))))))
 (newKW ((readsW 0 0 (digC L n) []) : HT).n 3 0 (.cells true 0 [.iface ((List.length L) + 1) (.agg ⟨(List.flatMap intC L)⟩),.int .i64 (n + 1)]) (.int .i64 (dN L n m)) []) = RNext L n m:=by kernel_rfl
end
end Go.Proofs.YtbgfjemppjhmjaaGreat
/- Radio: numbers. No condition. -/
namespace Go.Proofs.YtbgfjemppjhmjaaGreat
open Go Go.K
set_option maxRecDepth 100000
set_option linter.unusedVariables false
set_option linter.unusedSimpArgs false
noncomputable section
attribute [local irreducible] vF
theorem tmod_emod {x n : Int} (hn : 1 <= n) : (Int.tmod x n < 0 -> Int.tmod x n + n = x % n) /\ (¬ Int.tmod x n < 0 -> Int.tmod x n = x % n) /\ -n < Int.tmod x n /\ Int.tmod x n < n := by
 have h1 := Int.mul_tdiv_add_tmod x n
 have h2 := Int.lt_tmod_of_pos x (by omega : 0 < n)
 have h3 := Int.tmod_lt_of_pos x (by omega : 0 < n)
 refine ⟨fun h => ?_, fun h => ?_, h2, h3⟩
 ·have : x = (Int.tmod x n + n) + n * (x.tdiv n - 1) := by rw [Int.mul_sub]; omega
  rw [this, Int.add_mul_emod_self_left, <- this]
  exact (Int.emod_eq_of_lt (by omega) (by omega)).symm
 ·have : x = Int.tmod x n + n * x.tdiv n := by omega
  conv => rhs; rw [this, Int.add_mul_emod_self_left]
  exact (Int.emod_eq_of_lt (by omega) (by omega)).symm
theorem kPick (x n : Int) (h1 : 1 <= n) (h2 : n <= 9223372036854775807) (H : Heap) : KCall prog 16 [.int .i64 x, .int .i64 n] H [] (Is (.int .i64 (x % n)) H) := by
 refine valK 40 (fun _ => rfl) rfl (Eq.mpr (EPick _ x n) ?_) H
 obtain ⟨t1, t2, t3, t4⟩ := tmod_emod (x := x) h1
 unfold RPick
 exact forkD (fun h => by omega) (fun _ => ⟨by omega, forkD (fun h => ⟨vI64 (by omega), iEq (t1 h)⟩) (fun h => iEq (t2 h))⟩)
theorem plainDig (m : Nat) (L : List Int) (n : Int) : (digC L n).all (belowC m) = true := by
 show ((L.flatMap intC).all (belowD m) && (true && true)) = true
 rw [all_belowD]; rfl
theorem digO (m : Nat) (L : List Int) (n : Int) : belowO m (.cells true 0 (digC L n)) = true := plainDig m L n
theorem tmod_len {L : List Int} {n : Int} (hn : 0 <= n) (hL : 0 < L.length) : 0 <= Int.tmod n ((L.length : Nat) : Int) /\ Int.tmod n ((L.length : Nat) : Int) < ((L.length : Nat) : Int) := by
 rw [Int.tmod_eq_emod_of_nonneg hn]
 exact ⟨Int.emod_nonneg _ (by omega), Int.emod_lt_of_pos _ (by omega)⟩
theorem kNext (L : List Int) (n m : Int) (hn : 0 <= n /\ n <= 1000000000) (hm : 1 <= m /\ m <= 1000000000) {H : Heap} {D : Nat} (hD : H[D]? = some (.cells true 0 (digC L n))) :
  KCall prog 27 [.pointer (some ⟨D, 0, none⟩), .int .i64 m] H [D] (Is (.int .i64 (dN L n m)) (H.set D (.cells true 0 (digC L (n + 1))))) := by
 have key : KCall prog 27 [.pointer (some ⟨D, 0, none⟩), .int .i64 m] H [D] (Is (.int .i64 (dN L n m)) (H.set D (.cells true 0 (digC L (n + 1))) ++ [])) := by
  refine valW (fun _ => .int .i64 (dN L n m)) (css := []) (new := []) (Eq.mpr (ENext L n m) ?_) (plainDig 0 L n) (plainDig 0 L (n + 1)) trivial trivial rfl rfl (fun _ => rfl) hD (ids := []) trivial (by simp) rfl
  unfold RNext
  have hw : IntKind.wrap .i64 (n + 1) = n + 1 := wI64 (by omega)
  refine forkD (fun k => ?_) (fun k => ?_)
  ·have hL : 0 < L.length := by omega
   have hd : dVal L n = IntKind.wrap .i64 (L.getD (Int.toNat (Int.tmod n ((L.length : Nat) : Int))) 0 + IntKind.wrap .i64 (Int.tdiv n ((L.length : Nat) : Int))) := if_pos hL
   have hb := tmod_len hn.1 hL
   refine ⟨by omega, hb, intAt (by omega) (by omega), by omega, _, rfl, _, rfl, trivial, fun H' _ _ => kPick _ _ (by omega) (by omega) H', rfl, ?_, ⟨⟨by rw [hw], digO _ _ _⟩, trivial⟩, trivial⟩
   unfold dN
   rw [hd]; exact wk_refl _
  ·have hd : dVal L n = 0 := if_neg (by omega)
   refine ⟨trivial, fun H' _ _ => kPick _ _ (by omega) (by omega) H', rfl, ?_, ⟨⟨by rw [hw], digO _ _ _⟩, trivial⟩, trivial⟩
   unfold dN
   rw [hd]; exact wk_refl _
 rw [List.append_nil] at key
 exact key
end
end Go.Proofs.YtbgfjemppjhmjaaGreat
