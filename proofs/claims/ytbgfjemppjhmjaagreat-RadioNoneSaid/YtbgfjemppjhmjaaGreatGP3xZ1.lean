/- Radio: live messages. No condition. -/
import Derived.Test.YtbgfjemppjhmjaaGreatGR0bxO3g
import Derived.Test.YtbgfjemppjhmjaaGreatGK27xK44
import Derived.Shelf.SlMaps.Clone
import Derived.Ground.SlmcProg
import Derived.Test.YtbgfjemppjhmjaaGreatChecked
namespace Go.Proofs.YtbgfjemppjhmjaaGreat
open Go Go.K
set_option maxRecDepth 100000
set_option linter.unusedVariables false
set_option linter.unusedSimpArgs false
noncomputable section
attribute [local irreducible] vF
theorem lookN (F : List ((Int × Int) × Bool)) (a n : Int) (ok : Bool) : klookE prog 79 (.bool false) (nmV (a, n)) ok (nmE F) = some (ktup ok (.bool (getA (a, n) false F)) (hasA (a, n) F)) :=
 look_A (key := nmV) (val := fun b => .bool b) keqN (a, n) false rfl ok F
theorem setN (F : List ((Int × Int) × Bool)) (a n : Int) (b : Bool) : ksetE prog 79 (nmV (a, n)) (.bool b) (nmE F) = some (nmE (putA (a, n) b F)) :=
 set_A (key := nmV) (val := fun b => .bool b) keqN eqN (a, n) b F
theorem nm_below (F : List ((Int × Int) × Bool)) (n : Nat) : belowO n (.map (nmE F)) = true := by
 show (nmE F).all _ = true
 unfold nmE encA
 rw [List.all_map, List.all_eq_true]
 intro m _; rfl
theorem nm_rno (F : List ((Int × Int) × Bool)) (σ : Nat -> Option Nat) : rno σ 3 (.map (nmE F)) = .map (nmE F) := by
 show KObj.map ((nmE F).map _) = _
 congr 1
 unfold nmE encA
 simp only [List.map_map]
 exact List.map_congr_left fun m _ => rfl
theorem nm_ok (F : List ((Int × Int) × Bool)) : rnoOk 3 (.map (nmE F)) = true := by
 show (nmE F).all _ = true
 unfold nmE encA
 rw [List.all_map, List.all_eq_true]
 intro m _; rfl
theorem hvG (F G : List ((Int × Int) × Bool)) (m : Msg) : Rgone F G m := by
 unfold Rgone goneF
 refine ⟨fun a => ⟨rfl, ?_, trivial⟩, fun a => ⟨lookN _ _ _ false, fun b => ⟨rfl, ?_, trivial⟩, fun b => ⟨lookN _ _ _ false, rfl, ?_, trivial⟩⟩⟩
 ·rw [show decide (m.ki = 3) = true from a]; exact wk_refl _
 ·rw [b, Bool.or_true]; exact wk_refl _
 ·rw [show decide (m.ki = 3) = false from a, b]; exact wk_refl _
theorem kGone (F G : List ((Int × Int) × Bool)) (m : Msg) {H : Heap} {i j k l : Nat} (hnd : [i, j, k, l].Nodup) (hi : H[i]? = some (.cells true 0 [.map (some k)])) (hj : H[j]? = some (.cells true 0 [.map (some l)])) (hk : H[k]? = some (.map (nmE F))) (hl : H[l]? = some (.map (nmE G))) :
  KCall prog 163 [msgV m, .pointer (some ⟨i, 0, none⟩), .pointer (some ⟨j, 0, none⟩)] H [] (Is (.bool (goneF F G m)) H) := by
 have key := valKs (fun _ => .bool (goneF F G m)) (os := [.cells true 0 [.map (some 2)], .cells true 0 [.map (some 3)], .map (nmE F), .map (nmE G)]) (new := []) (Eq.mpr (Egone F G m) (hvG F G m))
  (by show (true && (true && (rnoOk 3 (.map (nmE F)) && (rnoOk 3 (.map (nmE G)) && true)))) = true; rw [nm_ok, nm_ok]; rfl) rfl trivial (ids := [i, j, k, l]) hnd (H := H)
  ⟨hi, hj, by rw [nm_rno]; exact hk, by rw [nm_rno]; exact hl, trivial⟩ (fun j => rfl) (args' := [msgV m, .pointer (some ⟨i, 0, none⟩), .pointer (some ⟨j, 0, none⟩)]) rfl
 rwa [List.append_nil] at key
theorem partM {l : List Msg} {k off : Nat} (h : k < l.length) (ho : off = k * 7) : partA 7 (l.flatMap msgC) off = some (msgV (l.getD k zeroM)) := part_at (n := 7) (d := zeroM) (c := 0) (m := 7) msgC_len h (by omega) (by omega)
theorem setQ {xs : List Msg} {k off : Nat} (hk : k < xs.length) (ho : off = k * 7) (y : Msg) : (some (KObj.cells true 7 (setl (xs.flatMap msgC) off (msgC y))) : Option KObj) = some (.cells true 7 ((xs.set k y).flatMap msgC)) := by
 subst ho
 rw [flat_set msgC_len xs k hk y]
theorem cells_rno (xs : List Msg) (σ : Nat -> Option Nat) : rno σ 3 (.cells true 7 (xs.flatMap msgC)) = .cells true 7 (xs.flatMap msgC) := congrArg (KObj.cells true 7) (rnCl (d := 0) (plainML 0 xs)).1
theorem wkO_self (xs : List Msg) (σ : Nat -> Option Nat) : wkO (.cells true 7 (xs.flatMap msgC)) (rno σ 3 (.cells true 7 (xs.flatMap msgC))) := wkO_of_eq (cells_rno xs σ).symm
theorem wkO_pre {own : Bool} {z : Nat} (A X : List Value) : wkO (.cells own z (A ++ X)) (.cells own z A) := by
 refine ⟨rfl, rfl, fun ρ r w ho => ?_, fun _ _ h => by cases h⟩
 obtain ⟨k1, k2, cs2, ty, fz, k3, k4, k5, k6⟩ := ho
 refine ⟨k1, k2, cs2, ty, fz, k3, k4, k5, fun i x hx => k6 i x ?_⟩
 rw [List.getElem?_append_left (List.getElem?_eq_some_iff.1 hx).1]; exact hx
theorem wkO_del {A B : List Msg} {off : Nat} (ho : off = A.length * 7) (n : List Value) (σ : Nat -> Option Nat) : wkO (.cells true 7 (setl ((A ++ B).flatMap msgC) off n)) (rno σ 3 (.cells true 7 (A.flatMap msgC))) := by
 rw [cells_rno, List.flatMap_append, ho, show A.length * 7 = (A.flatMap msgC).length + 0 from by rw [flat_len msgC_len, Nat.add_zero], setl_app]
 exact wkO_pre _ _
theorem hv4 {L : List Msg} (hk : ∀ m ∈ L, okM m = true) (hl : L.length <= 2000) : Rlive L := by
 unfold Rlive
 refine ⟨rfl, seen_0 L, ?_, fun _ => rfl, fun s hs => ⟨rfl, fun i hi hn => ⟨rfl, entM L (by rwa [held_len] at hi) s, lookN _ _ _ true, setN _ _ _ _, ?_⟩, fun hall => ?_⟩⟩
 ·repeat' first | exact nm_below _ _ | exact trivial | exact rfl | exact wk_refl _ | refine wkO_cells ?_ | refine wks_cons ?_ ?_ | exact wks_nil | exact wk_nil _ _ _ (.inl rfl) | (exact wk_Q (by omega)) | refine wk_tupL ?_ | refine wk_aggL ?_ | refine joinMax ?_ ?_ ?_ | refine joinMin ?_ ?_ ?_ | refine toMax ?_ | refine toMin ?_ | refine ⟨rfl, ?_⟩ | refine ⟨trivial, ?_⟩ | (refine forkD (fun h => ?_) (fun h => ?_)) | (refine forkNe (fun h => ?_) (fun h => ?_)) | (refine forkEq (fun h => ?_) (fun h => ?_)) | refine forkNot ?_ | (refine ⟨vI64 (by omega), ?_⟩) | (refine And.intro (by omega) ?_) | apply And.intro | (exact iEq (by omega)) | (exact vI64 (by omega))
 ·have hi' : i < L.length := by rwa [held_len] at hi
  refine ⟨s ++ [i], seen_snoc hs hi' hn, seen_more hs hi' hn, ?_⟩
  rw [forgF_snoc]
  repeat' first | exact nm_below _ _ | exact trivial | exact rfl | exact wk_refl _ | refine wkO_cells ?_ | refine wks_cons ?_ ?_ | exact wks_nil | exact wk_nil _ _ _ (.inl rfl) | (exact wk_Q (by omega)) | refine wk_tupL ?_ | refine wk_aggL ?_ | refine joinMax ?_ ?_ ?_ | refine joinMin ?_ ?_ ?_ | refine toMax ?_ | refine toMin ?_ | refine ⟨rfl, ?_⟩ | refine ⟨trivial, ?_⟩ | (refine forkD (fun h => ?_) (fun h => ?_)) | (refine forkNe (fun h => ?_) (fun h => ?_)) | (refine forkEq (fun h => ?_) (fun h => ?_)) | refine forkNot ?_ | (refine ⟨vI64 (by omega), ?_⟩) | (refine And.intro (by omega) ?_) | apply And.intro | (exact iEq (by omega)) | (exact vI64 (by omega))
 ·have hall1 : s.Perm (List.range L.length) := seen_all hs fun i hi => hall i (by rwa [held_len])
  refine ⟨rfl, seen_0 L, ?_, fun _ => rfl, fun t ht => ⟨rfl, fun i hi hn => ⟨rfl, entM L (by rwa [held_len] at hi) t, ?_⟩, fun hall => ?_⟩⟩
  ·repeat' first | exact nm_below _ _ | exact trivial | exact rfl | exact wk_refl _ | refine wkO_cells ?_ | refine wks_cons ?_ ?_ | exact wks_nil | exact wk_nil _ _ _ (.inl rfl) | (exact wk_Q (by omega)) | refine wk_tupL ?_ | refine wk_aggL ?_ | refine joinMax ?_ ?_ ?_ | refine joinMin ?_ ?_ ?_ | refine toMax ?_ | refine toMin ?_ | refine ⟨rfl, ?_⟩ | refine ⟨trivial, ?_⟩ | (refine forkD (fun h => ?_) (fun h => ?_)) | (refine forkNe (fun h => ?_) (fun h => ?_)) | (refine forkEq (fun h => ?_) (fun h => ?_)) | refine forkNot ?_ | (refine ⟨vI64 (by omega), ?_⟩) | (refine And.intro (by omega) ?_) | apply And.intro | (exact iEq (by omega)) | (exact vI64 (by omega))
  ·have hi' : i < L.length := by rwa [held_len] at hi
   refine ⟨fun a => ⟨lookN _ _ _ false, fun b => ⟨setN _ _ _ _, t ++ [i], seen_snoc ht hi' hn, seen_more ht hi' hn, ?_⟩, fun b => ⟨t ++ [i], seen_snoc ht hi' hn, seen_more ht hi' hn, ?_⟩⟩, fun a => ⟨t ++ [i], seen_snoc ht hi' hn, seen_more ht hi' hn, ?_⟩⟩
   ·rw [wdF_snoc, if_pos ⟨eq_of_beq a, notB b⟩]
    repeat' first | exact nm_below _ _ | exact trivial | exact rfl | exact wk_refl _ | refine wkO_cells ?_ | refine wks_cons ?_ ?_ | exact wks_nil | exact wk_nil _ _ _ (.inl rfl) | (exact wk_Q (by omega)) | refine wk_tupL ?_ | refine wk_aggL ?_ | refine joinMax ?_ ?_ ?_ | refine joinMin ?_ ?_ ?_ | refine toMax ?_ | refine toMin ?_ | refine ⟨rfl, ?_⟩ | refine ⟨trivial, ?_⟩ | (refine forkD (fun h => ?_) (fun h => ?_)) | (refine forkNe (fun h => ?_) (fun h => ?_)) | (refine forkEq (fun h => ?_) (fun h => ?_)) | refine forkNot ?_ | (refine ⟨vI64 (by omega), ?_⟩) | (refine And.intro (by omega) ?_) | apply And.intro | (exact iEq (by omega)) | (exact vI64 (by omega))
   ·rw [wdF_snoc, if_neg (fun q => by rw [notB2 b] at q; cases q.2)]
    repeat' first | exact nm_below _ _ | exact trivial | exact rfl | exact wk_refl _ | refine wkO_cells ?_ | refine wks_cons ?_ ?_ | exact wks_nil | exact wk_nil _ _ _ (.inl rfl) | (exact wk_Q (by omega)) | refine wk_tupL ?_ | refine wk_aggL ?_ | refine joinMax ?_ ?_ ?_ | refine joinMin ?_ ?_ ?_ | refine toMax ?_ | refine toMin ?_ | refine ⟨rfl, ?_⟩ | refine ⟨trivial, ?_⟩ | (refine forkD (fun h => ?_) (fun h => ?_)) | (refine forkNe (fun h => ?_) (fun h => ?_)) | (refine forkEq (fun h => ?_) (fun h => ?_)) | refine forkNot ?_ | (refine ⟨vI64 (by omega), ?_⟩) | (refine And.intro (by omega) ?_) | apply And.intro | (exact iEq (by omega)) | (exact vI64 (by omega))
   ·rw [wdF_snoc, if_neg (fun q => by rw [q.1] at a; cases a)]
    repeat' first | exact nm_below _ _ | exact trivial | exact rfl | exact wk_refl _ | refine wkO_cells ?_ | refine wks_cons ?_ ?_ | exact wks_nil | exact wk_nil _ _ _ (.inl rfl) | (exact wk_Q (by omega)) | refine wk_tupL ?_ | refine wk_aggL ?_ | refine joinMax ?_ ?_ ?_ | refine joinMin ?_ ?_ ?_ | refine toMax ?_ | refine toMin ?_ | refine ⟨rfl, ?_⟩ | refine ⟨trivial, ?_⟩ | (refine forkD (fun h => ?_) (fun h => ?_)) | (refine forkNe (fun h => ?_) (fun h => ?_)) | (refine forkEq (fun h => ?_) (fun h => ?_)) | refine forkNot ?_ | (refine ⟨vI64 (by omega), ?_⟩) | (refine And.intro (by omega) ?_) | apply And.intro | (exact iEq (by omega)) | (exact vI64 (by omega))
  ·have hall2 : t.Perm (List.range L.length) := seen_all ht fun i hi => hall i (by rwa [held_len])
   have hG : ∀ m, goneF (forgF L s) (wdF L (forgF L s) t) m = goneB L m := fun m => goneF_all hall1 hall2 m
   have hS := srtM_len L
   have hn : [4, 6, 2, 5].Nodup := by decide
   refine ⟨⟨rfl, rfl, trivial⟩, fun H' hl' h => ?_, rfl, ⟨Nat.zero_le _, rfl⟩, ?_, fun _ => rfl, fun x hx => ⟨fun a => ?_, fun a => ?_⟩⟩
   ·have := kSorted hk hl (H := H') (by decide) h.1 h.2.1
    rw [hl'] at this; exact this
   ·repeat' first | exact trivial | exact rfl | exact wk_refl _ | refine wkO_cells ?_ | refine wks_cons ?_ ?_ | exact wks_nil | exact wk_nil _ _ _ (.inl rfl) | (exact wk_Q (by omega)) | refine wk_tupL ?_ | refine wk_aggL ?_ | refine joinMax ?_ ?_ ?_ | refine joinMin ?_ ?_ ?_ | refine toMax ?_ | refine toMin ?_ | refine ⟨rfl, ?_⟩ | refine ⟨trivial, ?_⟩ | (refine forkD (fun h => ?_) (fun h => ?_)) | (refine forkNe (fun h => ?_) (fun h => ?_)) | (refine forkEq (fun h => ?_) (fun h => ?_)) | refine forkNot ?_ | (refine ⟨vI64 (by omega), ?_⟩) | (refine And.intro (by omega) ?_) | apply And.intro | (exact iEq (by omega)) | (exact vI64 (by omega))
   ·have hx1 : x < (srtM L).length := by have := of_decide_eq_true a; omega
    refine ⟨⟨by omega, by omega⟩, partM hx1 (by omega), ⟨rfl, rfl, rfl, rfl, trivial⟩, fun H' _ h => kGone _ _ _ hn h.1 h.2.1 h.2.2.1 h.2.2.2.1, fun g => ⟨fun c => absurd (eq_of_beq c) (by omega), fun c => ?_⟩, fun g => ?_⟩
    ·rw [hG] at g
     have hq : stayB L ((srtM L).getD x zeroM) = false := by unfold stayB; rw [g]; rfl
     have hkl : (keepQ (stayB L) (srtM L) (x + 1)).length = x := by rw [keepQ_0 hx1 hq, keepQ_all hx.2, List.length_take]; omega
     refine ⟨vI64 (by omega), rfl, ⟨hx1, by omega⟩, ?_, fun _ => rfl, fun y hy => ⟨fun b => ?_, fun b => ?_⟩⟩
     ·rw [hkl, midQ_0 hx1 hq, midQ_all hx.2 hx.1]
      repeat' first | exact plainML _ _ | exact trivial | exact rfl | exact wk_refl _ | refine wkO_cells ?_ | refine wks_cons ?_ ?_ | exact wks_nil | exact wk_nil _ _ _ (.inl rfl) | (exact wk_Q (by omega)) | refine wk_tupL ?_ | refine wk_aggL ?_ | refine joinMax ?_ ?_ ?_ | refine joinMin ?_ ?_ ?_ | refine toMax ?_ | refine toMin ?_ | refine ⟨rfl, ?_⟩ | refine ⟨trivial, ?_⟩ | (refine forkD (fun h => ?_) (fun h => ?_)) | (refine forkNe (fun h => ?_) (fun h => ?_)) | (refine forkEq (fun h => ?_) (fun h => ?_)) | refine forkNot ?_ | (refine ⟨vI64 (by omega), ?_⟩) | (refine And.intro (by omega) ?_) | apply And.intro | (exact iEq (by omega)) | (exact vI64 (by omega))
     ·have hy1 : y < (srtM L).length := by have := of_decide_eq_true b; omega
      have hml := midQ_len (q := stayB L) (M := srtM L) hy.1
      refine ⟨⟨by omega, by omega⟩, partM (by omega) (by omega), ⟨rfl, rfl, rfl, rfl, trivial⟩, fun H' _ h => kGone _ _ _ hn h.1 h.2.1 h.2.2.1 h.2.2.2.1, ?_⟩
      rw [hG, midQ_at hy1]
      refine ⟨fun g2 => ?_, fun g2 => ?_⟩
      ·have hq : stayB L ((srtM L).getD y zeroM) = true := g2
       have hy2 := hy.2
       have hle : (keepQ (stayB L) (srtM L) (y + 1)).length = (keepQ (stayB L) (srtM L) y).length + 1 := by rw [keepQ_1 hy1 hq, List.length_append]; rfl
       refine ⟨⟨by omega, by omega⟩, by rw [flat_len msgC_len, hml]; omega, rfl, vI64 (by omega), vI64 (by omega), y + 1, ⟨by omega, by omega⟩, by omega, rfl, ?_⟩
       rw [hle, midQ_1 hy1 hq]
       repeat' first | (exact setQ (by omega) (by omega) _) | exact plainML _ _ | exact trivial | exact rfl | exact wk_refl _ | refine wkO_cells ?_ | refine wks_cons ?_ ?_ | exact wks_nil | exact wk_nil _ _ _ (.inl rfl) | (exact wk_Q (by omega)) | refine wk_tupL ?_ | refine wk_aggL ?_ | refine joinMax ?_ ?_ ?_ | refine joinMin ?_ ?_ ?_ | refine toMax ?_ | refine toMin ?_ | refine ⟨rfl, ?_⟩ | refine ⟨trivial, ?_⟩ | (refine forkD (fun h => ?_) (fun h => ?_)) | (refine forkNe (fun h => ?_) (fun h => ?_)) | (refine forkEq (fun h => ?_) (fun h => ?_)) | refine forkNot ?_ | (refine ⟨vI64 (by omega), ?_⟩) | (refine And.intro (by omega) ?_) | apply And.intro | (exact iEq (by omega)) | (exact vI64 (by omega))
      ·have hq : stayB L ((srtM L).getD y zeroM) = false := g2
       have hy2 := hy.2
       refine ⟨vI64 (by omega), y + 1, ⟨by omega, by rw [keepQ_0 hy1 hq]; omega⟩, by omega, rfl, ?_⟩
       rw [keepQ_0 hy1 hq, midQ_0 hy1 hq]
       repeat' first | exact plainML _ _ | exact trivial | exact rfl | exact wk_refl _ | refine wkO_cells ?_ | refine wks_cons ?_ ?_ | exact wks_nil | exact wk_nil _ _ _ (.inl rfl) | (exact wk_Q (by omega)) | refine wk_tupL ?_ | refine wk_aggL ?_ | refine joinMax ?_ ?_ ?_ | refine joinMin ?_ ?_ ?_ | refine toMax ?_ | refine toMin ?_ | refine ⟨rfl, ?_⟩ | refine ⟨trivial, ?_⟩ | (refine forkD (fun h => ?_) (fun h => ?_)) | (refine forkNe (fun h => ?_) (fun h => ?_)) | (refine forkEq (fun h => ?_) (fun h => ?_)) | refine forkNot ?_ | (refine ⟨vI64 (by omega), ?_⟩) | (refine And.intro (by omega) ?_) | apply And.intro | (exact iEq (by omega)) | (exact vI64 (by omega))
     ·have hy1 : y = (srtM L).length := by have := of_decide_eq_false b; omega
      have hml := midQ_len (q := stayB L) (M := srtM L) hy.1
      have hy2 := hy.2
      have e : keepQ (stayB L) (srtM L) y = liveL L := by rw [hy1, keepQ_end]; rfl
      refine ⟨⟨⟨.inr (.inr rfl), Nat.le_refl _⟩, Nat.le_refl _, by omega, by omega⟩, rfl, by rw [flat_len msgC_len, hml]; omega, rfl, ⟨⟨.inr (.inr rfl), by omega⟩, ⟨by omega, by omega⟩, Nat.zero_le _⟩, rfl, rfl, ?_, ?_, trivial⟩
      ·rw [e]; exact wk_refl _
      ·rw [<- e]; exact wkO_del (by omega) _ _
    ·rw [hG] at g
     have hq : stayB L ((srtM L).getD x zeroM) = true := by unfold stayB; rw [g]; rfl
     refine ⟨vI64 (by omega), x + 1, ⟨by omega, ?_⟩, by omega, rfl, ?_⟩
     ·rw [List.take_succ_eq_append_getElem hx1, List.all_append, hx.2, List.all_cons]
      rw [show (srtM L).getD x zeroM = (srtM L)[x] from by simp [List.getD_eq_getElem?_getD, hx1]] at hq
      rw [hq]; rfl
     ·repeat' first | exact trivial | exact rfl | exact wk_refl _ | refine wkO_cells ?_ | refine wks_cons ?_ ?_ | exact wks_nil | exact wk_nil _ _ _ (.inl rfl) | (exact wk_Q (by omega)) | refine wk_tupL ?_ | refine wk_aggL ?_ | refine joinMax ?_ ?_ ?_ | refine joinMin ?_ ?_ ?_ | refine toMax ?_ | refine toMin ?_ | refine ⟨rfl, ?_⟩ | refine ⟨trivial, ?_⟩ | (refine forkD (fun h => ?_) (fun h => ?_)) | (refine forkNe (fun h => ?_) (fun h => ?_)) | (refine forkEq (fun h => ?_) (fun h => ?_)) | refine forkNot ?_ | (refine ⟨vI64 (by omega), ?_⟩) | (refine And.intro (by omega) ?_) | apply And.intro | (exact iEq (by omega)) | (exact vI64 (by omega))
   ·have hx1 : x = (srtM L).length := by have := of_decide_eq_false a; omega
    have hall3 : liveL L = srtM L := by
     show (srtM L).filter (stayB L) = srtM L
     have := hx.2
     rw [hx1, List.take_length, List.all_eq_true] at this
     exact List.filter_eq_self.2 this
    rw [hall3]
    repeat' first | exact wk_QR | exact wkO_self _ _ | exact trivial | exact rfl | exact wk_refl _ | refine wkO_cells ?_ | refine wks_cons ?_ ?_ | exact wks_nil | exact wk_nil _ _ _ (.inl rfl) | (exact wk_Q (by omega)) | refine wk_tupL ?_ | refine wk_aggL ?_ | refine joinMax ?_ ?_ ?_ | refine joinMin ?_ ?_ ?_ | refine toMax ?_ | refine toMin ?_ | refine ⟨rfl, ?_⟩ | refine ⟨trivial, ?_⟩ | (refine forkD (fun h => ?_) (fun h => ?_)) | (refine forkNe (fun h => ?_) (fun h => ?_)) | (refine forkEq (fun h => ?_) (fun h => ?_)) | refine forkNot ?_ | (refine ⟨vI64 (by omega), ?_⟩) | (refine And.intro (by omega) ?_) | apply And.intro | (exact iEq (by omega)) | (exact vI64 (by omega))
theorem kLive0 {L : List Msg} (hk : ∀ m ∈ L, okM m = true) (hl : L.length <= 2000) {H : Heap} {i q : Nat} (hne : i ≠ q) (hi : H[i]? = some (.cells true 0 [.map (some q)])) (hq : H[q]? = some (.map (heldE L))) :
  KCall prog 98 [.pointer (some ⟨i, 0, none⟩)] H [] (Is (.slice (some ⟨H.length, 0, some 2⟩) (liveL L).length (liveL L).length) (H ++ [.cells true 7 ((liveL L).flatMap msgC)])) :=
 valKp (fun j => .slice (some ⟨j, 0, some 2⟩) (liveL L).length (liveL L).length) (os := [.cells true 0 [.map (some 1)], .map (heldE L)]) (Eq.mpr (Elive L) (hv4 hk hl)) (pic_ok L 1) rfl
  ⟨⟨_, _, rfl, plainML _ _⟩, trivial⟩ (ids := [i, q]) (by simp [hne]) (pic_objs hi hq) (fun j => rfl) rfl
end
end Go.Proofs.YtbgfjemppjhmjaaGreat
/- What is to be shown of functions. Printed by a program. No condition. -/
namespace Go.Proofs.YtbgfjemppjhmjaaGreat
set_option linter.unusedSimpArgs false
open Go Go.K
set_option maxRecDepth 100000
set_option maxHeartbeats 4000000
set_option linter.unusedVariables false
noncomputable section
def RliveP (L : List Msg) : Prop :=
 (((some (.cells true 0 [.map (some 1)] : KObj) = some (.cells true 0 [.map (some 1)] : KObj)) /\ (some (.map (heldE L) : KObj) = some (.map (heldE L) : KObj)) /\ True) /\ (∀ H' : Heap, H'.length = 2 -> (H'[0]? = some (.cells true 0 [.map (some 1)] : KObj) /\ H'[1]? = some (.map (heldE L) : KObj) /\ True) -> KCall prog 98 [.pointer (some ⟨0, 0, none⟩)] H' [] (Is (.slice (some ⟨2, 0, some 2⟩) (List.length (liveL L)) (List.length (liveL L))) (H' ++ [(.cells true 7 (List.flatMap msgC (liveL L)) : KObj)]))) /\ (true = true /\ wk (.tuple #[.slice (some ⟨2, 0, some 2⟩) (List.length (liveL L)) (List.length (liveL L)), .int .i64 0] : Value) (rn (sg 2 [(2, 2)]) 3 (.tuple #[.slice (some ⟨2, 0, some 2⟩) (List.length (liveL L)) (List.length (liveL L)), .int .i64 0] : Value)) /\ ((some (.cells true 7 (List.flatMap msgC (liveL L)) : KObj) = some (.cells true 7 (List.flatMap msgC (liveL L)) : KObj) /\ belowO 2 (.cells true 7 (List.flatMap msgC (liveL L)) : KObj) = true) /\ True)))
theorem EliveP (L : List Msg) : vF prog msk (dm 0) 100000 true 40 true 34 [.pointer (some ⟨0, 0, none⟩)] (readsK [.cells true 0 [.map (some 1)], .map (heldE L)]) (some [])
 (.go 16 (.ans [(0, .cells true 0 [.map (some 1)]), (1, .map (heldE L))] (.slice (some ⟨2, 0, some 2⟩) (List.length (liveL L)) (List.length (liveL L))) [.cells true 7 (List.flatMap msgC (liveL L))] (.go 1 (.again [(2, 2)]))))
 (newK ((readsK [.cells true 0 [.map (some 1)], .map (heldE L)]) : HT).n 3 (.tuple #[.slice (some ⟨2, 0, some 2⟩) (List.length (liveL L)) (List.length (liveL L)), .int .i64 0]) [(true, .cells true 7 (List.flatMap msgC (liveL L)))]) = RliveP L := by kernel_rfl
end
end Go.Proofs.YtbgfjemppjhmjaaGreat
/- The library's Clone of maps, laid at this program (written by the kit's own tool). No condition. -/
namespace Go.Proofs.YtbgfjemppjhmjaaGreat
set_option linter.unusedSimpArgs false
set_option linter.unusedVariables false
open Go Go.Shelf
end Go.Proofs.YtbgfjemppjhmjaaGreat
/- The library's Clone of a map, by the kit's contract, over canonical memory. No condition. -/
namespace Go.K
set_option linter.unusedSimpArgs false
open Go Go.Proofs
set_option linter.unusedVariables false
variable {P : Program}
end Go.K
/- Radio: messages, live ones, copies, what lacks, two pictures together. No condition. -/
namespace Go.Proofs.YtbgfjemppjhmjaaGreat
open Go Go.K
set_option maxRecDepth 100000
set_option linter.unusedVariables false
set_option linter.unusedSimpArgs false
noncomputable section
attribute [local irreducible] vF
theorem kLive {L : List Msg} (hk : ∀ m ∈ L, okM m = true) (hl : L.length <= 2000) {H : Heap} {i q : Nat} (hne : i ≠ q) (hi : H[i]? = some (.cells true 0 [.map (some q)])) (hq : H[q]? = some (.map (heldE L))) :
  KCall prog 34 [.pointer (some ⟨i, 0, none⟩)] H [] (Is (.tuple #[.slice (some ⟨H.length, 0, some 2⟩) (liveL L).length (liveL L).length, .int .i64 0]) (H ++ [.cells true 7 ((liveL L).flatMap msgC)])) := by
 refine valKp (fun j => .tuple #[.slice (some ⟨j, 0, some 2⟩) (liveL L).length (liveL L).length, .int .i64 0]) (os := [.cells true 0 [.map (some 1)], .map (heldE L)]) (b := true) (Eq.mpr (EliveP L) ?_) (pic_ok L 1) rfl
  ⟨⟨_, _, rfl, plainML _ _⟩, trivial⟩ (ids := [i, q]) (by simp [hne]) (pic_objs hi hq) (fun j => rfl) rfl
 refine ⟨⟨rfl, rfl, trivial⟩, fun H' hl' h => ?_, rfl, wk_refl _, ⟨rfl, plainML _ _⟩, trivial⟩
 have := kLive0 hk hl (H := H') (by decide) h.1 h.2.1
 rw [hl'] at this; exact this
end
end Go.Proofs.YtbgfjemppjhmjaaGreat
/- Radio: gaps, as plain functions. No condition. -/
namespace Go.Proofs.YtbgfjemppjhmjaaGreat
set_option linter.unusedSimpArgs false
open Go Go.K
set_option linter.unusedVariables false
abbrev spC (x : Int × Int) : List Value := [.int .i64 x.1, .int .i64 x.2]
def gStep (a : Int) (st : Int × Int × List (Int × Int)) (m : Msg) : Int × Int × List (Int × Int) :=
 if m.au = a /\ m.nu ≠ st.1 then (m.nu, m.nu + 1, if st.2.1 < m.nu then st.2.2 ++ [(st.2.1, m.nu - 1)] else st.2.2) else st
def gapS (M : List Msg) (a : Int) (x : Nat) : Int × Int × List (Int × Int) := (M.take x).foldl (gStep a) (0, 1, [])
def gapsL (L : List Msg) (a : Int) : List (Int × Int) := (gapS (srtM L) a (srtM L).length).2.2
theorem gapS_succ {M : List Msg} {x : Nat} (hx : x < M.length) (a : Int) : gapS M a (x + 1) = gStep a (gapS M a x) (M.getD x zeroM) := by
 unfold gapS
 rw [List.take_succ_eq_append_getElem hx, List.foldl_append]
 rw [show M.getD x zeroM = M[x] from by simp [List.getD_eq_getElem?_getD, hx]]; rfl
theorem gapS_len (M : List Msg) (a : Int) : ∀ x, (gapS M a x).2.2.length <= x := by
 intro x
 induction x with
 | zero => exact Nat.le_refl _
 | succ x ih =>
  rcases Nat.lt_or_ge x M.length with h | h
  ·rw [gapS_succ h]
   unfold gStep
   split
   ·show (if (gapS M a x).2.1 < (M.getD x zeroM).nu then (gapS M a x).2.2 ++ [((gapS M a x).2.1, (M.getD x zeroM).nu - 1)] else (gapS M a x).2.2).length <= x + 1
    split
    ·rw [List.length_append]; simp only [List.length_cons, List.length_nil]; omega
    ·omega
   ·omega
  ·have : gapS M a (x + 1) = gapS M a x := by unfold gapS; rw [List.take_of_length_le (by omega), List.take_of_length_le h]
   rw [this]; omega
theorem gStep_0 {a : Int} {st : Int × Int × List (Int × Int)} {m : Msg} (h : m.au ≠ a ∨ m.nu = st.1) : gStep a st m = st := if_neg fun q => h.elim (fun e => e q.1) (fun e => q.2 e)
theorem gStep_1 {a : Int} {st : Int × Int × List (Int × Int)} {m : Msg} (h1 : m.au = a) (h2 : m.nu ≠ st.1) (h3 : st.2.1 < m.nu) : gStep a st m = (m.nu, m.nu + 1, st.2.2 ++ [(st.2.1, m.nu - 1)]) := by
 unfold gStep; rw [if_pos ⟨h1, h2⟩, if_pos h3]
theorem gStep_2 {a : Int} {st : Int × Int × List (Int × Int)} {m : Msg} (h1 : m.au = a) (h2 : m.nu ≠ st.1) (h3 : ¬ st.2.1 < m.nu) : gStep a st m = (m.nu, m.nu + 1, st.2.2) := by
 unfold gStep; rw [if_pos ⟨h1, h2⟩, if_neg h3]
end Go.Proofs.YtbgfjemppjhmjaaGreat
/- What is to be shown of functions. Printed by a program. No condition. -/
namespace Go.Proofs.YtbgfjemppjhmjaaGreat
set_option linter.unusedSimpArgs false
open Go Go.K
set_option maxRecDepth 100000
set_option maxHeartbeats 4000000
set_option linter.unusedVariables false
noncomputable section
def Rgaps (L : List Msg) (a : Int) : Prop :=
 (((decide ((1 : Int) <= a)) = true -> (((!(decide ((a : Int) <= 4))) = true -> (true = true /\ wk (.tuple #[.slice none 0 0, .int .i64 6] : Value) (rn (sg 2 []) 3 (.tuple #[.slice (some ⟨2, 0, some 1⟩) (List.length (gapsL L a)) (List.length (gapsL L a)), .int .i64 0] : Value)) /\ (True /\ True))) /\ ((!(decide ((a : Int) <= 4))) = false -> (((some (.cells true 0 [.map (some 1)] : KObj) = some (.cells true 0 [.map (some 1)] : KObj)) /\ (some (.map (heldE L) : KObj) = some (.map (heldE L) : KObj)) /\ True) /\ (∀ H' : Heap, H'.length = 7 -> (H'[0]? = some (.cells true 0 [.map (some 1)] : KObj) /\ H'[1]? = some (.map (heldE L) : KObj) /\ True) -> KCall prog 95 [.pointer (some ⟨0, 0, none⟩)] H' [] (Is (.slice (some ⟨7, 0, some 1⟩) (List.length (srtM L)) (List.length (srtM L))) (H' ++ [(.cells true 7 (List.flatMap msgC (srtM L)) : KObj)]))) /\ (true = true /\ (0 <= List.length (srtM L)) /\ (true = true /\ ((.int .i64 0 : Value) = .int .i64 ((0 : Nat) : Int) /\ (.int .i64 0 : Value) = .int .i64 (gapS (srtM L) a 0).1 /\ (.pointer (some ⟨5, 0, none⟩) : Value) = .pointer (some ⟨5, 0, none⟩) /\ (.func (.yield 6) #[] #[] : Value) = .func (.yield 6) #[] #[] /\ wk (.slice (some ⟨7, 0, some 1⟩) (List.length (srtM L)) (List.length (srtM L)) : Value) (.slice (some ⟨7, 0, some 1⟩) (List.length (srtM L)) (List.length (srtM L)) : Value) /\ (.int .i64 (((List.length (srtM L)) : Nat) : Int) : Value) = .int .i64 (((List.length (srtM L)) : Nat) : Int) /\ True) /\ (wkO (.cells true 0 [.slice none 0 0] : KObj) (rno (sg 8 []) 3 (.cells true 0 [.slice (some ⟨8, 0, some 1⟩) (List.length (gapS (srtM L) a 0).2.2) (List.length (gapS (srtM L) a 0).2.2)] : KObj)) /\ (some (.cells true 0 [.int .i64 1] : KObj) = some (.cells true 0 [.int .i64 (gapS (srtM L) a 0).2.1] : KObj) /\ belowO 8 (.cells true 0 [.int .i64 (gapS (srtM L) a 0).2.1] : KObj) = true) /\ True) /\ (True /\ True) /\ ((lrecOk prog 33 0 /\ (.func (.func 161) #[] #[.pointer (some ⟨4, 0, none⟩), .pointer (some ⟨5, 0, none⟩)] : Value) = .func (.func 161) #[] #[.pointer (some ⟨4, 0, none⟩), .pointer (some ⟨5, 0, none⟩)] /\ (.int .i64 a : Value) = .int .i64 a /\ (.pointer (some ⟨0, 0, none⟩) : Value) = .pointer (some ⟨0, 0, none⟩) /\ (.pointer (some ⟨3, 0, none⟩) : Value) = .pointer (some ⟨3, 0, none⟩) /\ (.pointer (some ⟨2, 0, none⟩) : Value) = .pointer (some ⟨2, 0, none⟩) /\ (.bool false : Value) = .bool false /\ (.bool (decide ((a : Int) <= 4)) : Value) = .bool (decide ((a : Int) <= 4)) /\ (.int .i64 a : Value) = .int .i64 a /\ (.bool false : Value) = .bool false /\ (.pointer (some ⟨0, 0, none⟩) : Value) = .pointer (some ⟨0, 0, none⟩) /\ (.int .i64 0 : Value) = .int .i64 0 /\ (.slice none 0 0 : Value) = .slice none 0 0 /\ (.pointer (some ⟨0, 0, none⟩) : Value) = .pointer (some ⟨0, 0, none⟩) /\ (.int .i64 a : Value) = .int .i64 a /\ True) /\ True)) /\ (∀ x1 : Nat, true = true) /\ ∀ x1 : Nat, (x1 <= List.length (srtM L)) -> (((decide ((((x1 : Nat) : Int) : Int) < (((List.length (srtM L)) : Nat) : Int))) = true -> (((0 : Int) <= ((x1 : Nat) : Int) /\ (((x1 : Nat) : Int) : Int) < (((List.length (srtM L)) : Nat) : Int)) /\ ((partA 7 (List.flatMap msgC (srtM L)) (0 + Int.toNat ((x1 : Nat) : Int) * 7) = some (.agg #[.int .i64 (List.getD (srtM L) x1 zeroM).au, .int .i64 (List.getD (srtM L) x1 zeroM).nu, .int .i64 (List.getD (srtM L) x1 zeroM).at_, .int .i64 (List.getD (srtM L) x1 zeroM).ki, .int .i64 (List.getD (srtM L) x1 zeroM).sh, .int .i64 (List.getD (srtM L) x1 zeroM).ce, .int .i64 (List.getD (srtM L) x1 zeroM).va])) /\ (((((List.getD (srtM L) x1 zeroM).au : Int) != a) = true -> ((.int .i64 (IntKind.wrap .i64 (((x1 : Nat) : Int) + 1)) : Value) = .int .i64 (((x1 : Nat) : Int) + 1) /\ (∃ x1' : Nat, (x1' <= List.length (srtM L)) /\ (List.length (srtM L) - x1') < (List.length (srtM L) - x1) /\ true = true /\ ((.int .i64 (((x1 : Nat) : Int) + 1) : Value) = .int .i64 ((x1' : Nat) : Int) /\ (.int .i64 (gapS (srtM L) a x1).1 : Value) = .int .i64 (gapS (srtM L) a x1').1 /\ (.pointer (some ⟨5, 0, none⟩) : Value) = .pointer (some ⟨5, 0, none⟩) /\ (.func (.yield 6) #[] #[] : Value) = .func (.yield 6) #[] #[] /\ wk (.slice (some ⟨7, 0, some 1⟩) (List.length (srtM L)) (List.length (srtM L)) : Value) (.slice (some ⟨7, 0, some 1⟩) (List.length (srtM L)) (List.length (srtM L)) : Value) /\ (.int .i64 (((List.length (srtM L)) : Nat) : Int) : Value) = .int .i64 (((List.length (srtM L)) : Nat) : Int) /\ True) /\ (wkO (.cells true 0 [.slice (some ⟨8, 0, some 1⟩) (List.length (gapS (srtM L) a x1).2.2) (List.length (gapS (srtM L) a x1).2.2)] : KObj) (rno (sg 8 [(8, 8)]) 3 (.cells true 0 [.slice (some ⟨8, 0, some 1⟩) (List.length (gapS (srtM L) a x1').2.2) (List.length (gapS (srtM L) a x1').2.2)] : KObj)) /\ (some (.cells true 0 [.int .i64 (gapS (srtM L) a x1).2.1] : KObj) = some (.cells true 0 [.int .i64 (gapS (srtM L) a x1').2.1] : KObj) /\ belowO 8 (.cells true 0 [.int .i64 (gapS (srtM L) a x1').2.1] : KObj) = true) /\ True) /\ ((some (.cells true 2 (List.flatMap spC (gapS (srtM L) a x1).2.2) : KObj) = some (.cells true 2 (List.flatMap spC (gapS (srtM L) a x1').2.2) : KObj) /\ belowO 8 (.cells true 2 (List.flatMap spC (gapS (srtM L) a x1').2.2) : KObj) = true) /\ True) /\ ((lrecOk prog 33 0 /\ (.func (.func 161) #[] #[.pointer (some ⟨4, 0, none⟩), .pointer (some ⟨5, 0, none⟩)] : Value) = .func (.func 161) #[] #[.pointer (some ⟨4, 0, none⟩), .pointer (some ⟨5, 0, none⟩)] /\ (.int .i64 a : Value) = .int .i64 a /\ (.pointer (some ⟨0, 0, none⟩) : Value) = .pointer (some ⟨0, 0, none⟩) /\ (.pointer (some ⟨3, 0, none⟩) : Value) = .pointer (some ⟨3, 0, none⟩) /\ (.pointer (some ⟨2, 0, none⟩) : Value) = .pointer (some ⟨2, 0, none⟩) /\ (.bool false : Value) = .bool false /\ (.bool (decide ((a : Int) <= 4)) : Value) = .bool (decide ((a : Int) <= 4)) /\ (.int .i64 a : Value) = .int .i64 a /\ (.bool false : Value) = .bool false /\ (.pointer (some ⟨0, 0, none⟩) : Value) = .pointer (some ⟨0, 0, none⟩) /\ (.int .i64 0 : Value) = .int .i64 0 /\ (.slice none 0 0 : Value) = .slice none 0 0 /\ (.pointer (some ⟨0, 0, none⟩) : Value) = .pointer (some ⟨0, 0, none⟩) /\ (.int .i64 a : Value) = .int .i64 a /\ True) /\ True)))) /\ ((((List.getD (srtM L) x1 zeroM).au : Int) != a) = false -> (((((List.getD (srtM L) x1 zeroM).nu : Int) == (gapS (srtM L) a x1).1) = true -> ((.int .i64 (IntKind.wrap .i64 (((x1 : Nat) : Int) + 1)) : Value) = .int .i64 (((x1 : Nat) : Int) + 1) /\ (∃ x1' : Nat, (x1' <= List.length (srtM L)) /\ (List.length (srtM L) - x1') < (List.length (srtM L) - x1) /\ true = true /\ ((.int .i64 (((x1 : Nat) : Int) + 1) : Value) = .int .i64 ((x1' : Nat) : Int) /\ (.int .i64 (gapS (srtM L) a x1).1 : Value) = .int .i64 (gapS (srtM L) a x1').1 /\ (.pointer (some ⟨5, 0, none⟩) : Value) = .pointer (some ⟨5, 0, none⟩) /\ (.func (.yield 6) #[] #[] : Value) = .func (.yield 6) #[] #[] /\ wk (.slice (some ⟨7, 0, some 1⟩) (List.length (srtM L)) (List.length (srtM L)) : Value) (.slice (some ⟨7, 0, some 1⟩) (List.length (srtM L)) (List.length (srtM L)) : Value) /\ (.int .i64 (((List.length (srtM L)) : Nat) : Int) : Value) = .int .i64 (((List.length (srtM L)) : Nat) : Int) /\ True) /\ (wkO (.cells true 0 [.slice (some ⟨8, 0, some 1⟩) (List.length (gapS (srtM L) a x1).2.2) (List.length (gapS (srtM L) a x1).2.2)] : KObj) (rno (sg 8 [(8, 8)]) 3 (.cells true 0 [.slice (some ⟨8, 0, some 1⟩) (List.length (gapS (srtM L) a x1').2.2) (List.length (gapS (srtM L) a x1').2.2)] : KObj)) /\ (some (.cells true 0 [.int .i64 (gapS (srtM L) a x1).2.1] : KObj) = some (.cells true 0 [.int .i64 (gapS (srtM L) a x1').2.1] : KObj) /\ belowO 8 (.cells true 0 [.int .i64 (gapS (srtM L) a x1').2.1] : KObj) = true) /\ True) /\ ((some (.cells true 2 (List.flatMap spC (gapS (srtM L) a x1).2.2) : KObj) = some (.cells true 2 (List.flatMap spC (gapS (srtM L) a x1').2.2) : KObj) /\ belowO 8 (.cells true 2 (List.flatMap spC (gapS (srtM L) a x1').2.2) : KObj) = true) /\ True) /\ ((lrecOk prog 33 0 /\ (.func (.func 161) #[] #[.pointer (some ⟨4, 0, none⟩), .pointer (some ⟨5, 0, none⟩)] : Value) = .func (.func 161) #[] #[.pointer (some ⟨4, 0, none⟩), .pointer (some ⟨5, 0, none⟩)] /\ (.int .i64 a : Value) = .int .i64 a /\ (.pointer (some ⟨0, 0, none⟩) : Value) = .pointer (some ⟨0, 0, none⟩) /\ (.pointer (some ⟨3, 0, none⟩) : Value) = .pointer (some ⟨3, 0, none⟩) /\ (.pointer (some ⟨2, 0, none⟩) : Value) = .pointer (some ⟨2, 0, none⟩) /\ (.bool false : Value) = .bool false /\ (.bool (decide ((a : Int) <= 4)) : Value) = .bool (decide ((a : Int) <= 4)) /\ (.int .i64 a : Value) = .int .i64 a /\ (.bool false : Value) = .bool false /\ (.pointer (some ⟨0, 0, none⟩) : Value) = .pointer (some ⟨0, 0, none⟩) /\ (.int .i64 0 : Value) = .int .i64 0 /\ (.slice none 0 0 : Value) = .slice none 0 0 /\ (.pointer (some ⟨0, 0, none⟩) : Value) = .pointer (some ⟨0, 0, none⟩) /\ (.int .i64 a : Value) = .int .i64 a /\ True) /\ True)))) /\ ((((List.getD (srtM L) x1 zeroM).nu : Int) == (gapS (srtM L) a x1).1) = false -> (((decide (((gapS (srtM L) a x1).2.1 : Int) < (List.getD (srtM L) x1 zeroM).nu)) = true -> ((.int .i64 (IntKind.wrap .i64 ((List.getD (srtM L) x1 zeroM).nu - 1)) : Value) = .int .i64 ((List.getD (srtM L) x1 zeroM).nu - 1) /\ ((((List.length (gapS (srtM L) a x1).2.2) + 1) * 16 <= 2 ^ 44 /\ 1 ≠ 0 /\ ((List.length (gapS (srtM L) a x1).2.2) <= (List.length (gapS (srtM L) a x1).2.2) /\ 0 + (List.length (gapS (srtM L) a x1).2.2) * 2 <= List.length (List.flatMap spC (gapS (srtM L) a x1).2.2)) /\ (1 <= 1 /\ 0 + 1 * 2 <= List.length ([.int .i64 (gapS (srtM L) a x1).2.1, .int .i64 ((List.getD (srtM L) x1 zeroM).nu - 1)] : List Value)) /\ ((List.take (1 * 2) (List.drop 0 ([.int .i64 (gapS (srtM L) a x1).2.1, .int .i64 ((List.getD (srtM L) x1 zeroM).nu - 1)] : List Value))) : List Value).all (fun v => one1 v) = true) /\ true = true /\ ((.int .i64 (IntKind.wrap .i64 ((List.getD (srtM L) x1 zeroM).nu + 1)) : Value) = .int .i64 ((List.getD (srtM L) x1 zeroM).nu + 1) /\ ((.int .i64 (IntKind.wrap .i64 (((x1 : Nat) : Int) + 1)) : Value) = .int .i64 (((x1 : Nat) : Int) + 1) /\ (∃ x1' : Nat, (x1' <= List.length (srtM L)) /\ (List.length (srtM L) - x1') < (List.length (srtM L) - x1) /\ true = true /\ ((.int .i64 (((x1 : Nat) : Int) + 1) : Value) = .int .i64 ((x1' : Nat) : Int) /\ (.int .i64 (List.getD (srtM L) x1 zeroM).nu : Value) = .int .i64 (gapS (srtM L) a x1').1 /\ (.pointer (some ⟨5, 0, none⟩) : Value) = .pointer (some ⟨5, 0, none⟩) /\ (.func (.yield 6) #[] #[] : Value) = .func (.yield 6) #[] #[] /\ wk (.slice (some ⟨7, 0, some 1⟩) (List.length (srtM L)) (List.length (srtM L)) : Value) (.slice (some ⟨7, 0, some 1⟩) (List.length (srtM L)) (List.length (srtM L)) : Value) /\ (.int .i64 (((List.length (srtM L)) : Nat) : Int) : Value) = .int .i64 (((List.length (srtM L)) : Nat) : Int) /\ True) /\ (wkO (.cells true 0 [.slice (some ⟨11, 0, none⟩) ((List.length (gapS (srtM L) a x1).2.2) + 1) ((List.length (gapS (srtM L) a x1).2.2) + 1)] : KObj) (rno (sg 8 [(8, 11)]) 3 (.cells true 0 [.slice (some ⟨8, 0, some 1⟩) (List.length (gapS (srtM L) a x1').2.2) (List.length (gapS (srtM L) a x1').2.2)] : KObj)) /\ (some (.cells true 0 [.int .i64 ((List.getD (srtM L) x1 zeroM).nu + 1)] : KObj) = some (.cells true 0 [.int .i64 (gapS (srtM L) a x1').2.1] : KObj) /\ belowO 8 (.cells true 0 [.int .i64 (gapS (srtM L) a x1').2.1] : KObj) = true) /\ True) /\ ((some (.cells true 2 ((List.take ((List.length (gapS (srtM L) a x1).2.2) * 2) (List.drop 0 (List.flatMap spC (gapS (srtM L) a x1).2.2))) ++ (List.take (1 * 2) (List.drop 0 ([.int .i64 (gapS (srtM L) a x1).2.1, .int .i64 ((List.getD (srtM L) x1 zeroM).nu - 1)] : List Value)))) : KObj) = some (.cells true 2 (List.flatMap spC (gapS (srtM L) a x1').2.2) : KObj) /\ belowO 8 (.cells true 2 (List.flatMap spC (gapS (srtM L) a x1').2.2) : KObj) = true) /\ True) /\ ((lrecOk prog 33 0 /\ (.func (.func 161) #[] #[.pointer (some ⟨4, 0, none⟩), .pointer (some ⟨5, 0, none⟩)] : Value) = .func (.func 161) #[] #[.pointer (some ⟨4, 0, none⟩), .pointer (some ⟨5, 0, none⟩)] /\ (.int .i64 a : Value) = .int .i64 a /\ (.pointer (some ⟨0, 0, none⟩) : Value) = .pointer (some ⟨0, 0, none⟩) /\ (.pointer (some ⟨3, 0, none⟩) : Value) = .pointer (some ⟨3, 0, none⟩) /\ (.pointer (some ⟨2, 0, none⟩) : Value) = .pointer (some ⟨2, 0, none⟩) /\ (.bool false : Value) = .bool false /\ (.bool (decide ((a : Int) <= 4)) : Value) = .bool (decide ((a : Int) <= 4)) /\ (.int .i64 a : Value) = .int .i64 a /\ (.bool false : Value) = .bool false /\ (.pointer (some ⟨0, 0, none⟩) : Value) = .pointer (some ⟨0, 0, none⟩) /\ (.int .i64 0 : Value) = .int .i64 0 /\ (.slice none 0 0 : Value) = .slice none 0 0 /\ (.pointer (some ⟨0, 0, none⟩) : Value) = .pointer (some ⟨0, 0, none⟩) /\ (.int .i64 a : Value) = .int .i64 a /\ True) /\ True))))))) /\ ((decide (((gapS (srtM L) a x1).2.1 : Int) < (List.getD (srtM L) x1 zeroM).nu)) = false -> ((.int .i64 (IntKind.wrap .i64 ((List.getD (srtM L) x1 zeroM).nu + 1)) : Value) = .int .i64 ((List.getD (srtM L) x1 zeroM).nu + 1) /\ ((.int .i64 (IntKind.wrap .i64 (((x1 : Nat) : Int) + 1)) : Value) = .int .i64 (((x1 : Nat) : Int) + 1) /\ (∃ x1' : Nat, (x1' <= List.length (srtM L)) /\ (List.length (srtM L) - x1') < (List.length (srtM L) - x1) /\ true = true /\ ((.int .i64 (((x1 : Nat) : Int) + 1) : Value) = .int .i64 ((x1' : Nat) : Int) /\ (.int .i64 (List.getD (srtM L) x1 zeroM).nu : Value) = .int .i64 (gapS (srtM L) a x1').1 /\ (.pointer (some ⟨5, 0, none⟩) : Value) = .pointer (some ⟨5, 0, none⟩) /\ (.func (.yield 6) #[] #[] : Value) = .func (.yield 6) #[] #[] /\ wk (.slice (some ⟨7, 0, some 1⟩) (List.length (srtM L)) (List.length (srtM L)) : Value) (.slice (some ⟨7, 0, some 1⟩) (List.length (srtM L)) (List.length (srtM L)) : Value) /\ (.int .i64 (((List.length (srtM L)) : Nat) : Int) : Value) = .int .i64 (((List.length (srtM L)) : Nat) : Int) /\ True) /\ (wkO (.cells true 0 [.slice (some ⟨8, 0, some 1⟩) (List.length (gapS (srtM L) a x1).2.2) (List.length (gapS (srtM L) a x1).2.2)] : KObj) (rno (sg 8 [(8, 8)]) 3 (.cells true 0 [.slice (some ⟨8, 0, some 1⟩) (List.length (gapS (srtM L) a x1').2.2) (List.length (gapS (srtM L) a x1').2.2)] : KObj)) /\ (some (.cells true 0 [.int .i64 ((List.getD (srtM L) x1 zeroM).nu + 1)] : KObj) = some (.cells true 0 [.int .i64 (gapS (srtM L) a x1').2.1] : KObj) /\ belowO 8 (.cells true 0 [.int .i64 (gapS (srtM L) a x1').2.1] : KObj) = true) /\ True) /\ ((some (.cells true 2 (List.flatMap spC (gapS (srtM L) a x1).2.2) : KObj) = some (.cells true 2 (List.flatMap spC (gapS (srtM L) a x1').2.2) : KObj) /\ belowO 8 (.cells true 2 (List.flatMap spC (gapS (srtM L) a x1').2.2) : KObj) = true) /\ True) /\ ((lrecOk prog 33 0 /\ (.func (.func 161) #[] #[.pointer (some ⟨4, 0, none⟩), .pointer (some ⟨5, 0, none⟩)] : Value) = .func (.func 161) #[] #[.pointer (some ⟨4, 0, none⟩), .pointer (some ⟨5, 0, none⟩)] /\ (.int .i64 a : Value) = .int .i64 a /\ (.pointer (some ⟨0, 0, none⟩) : Value) = .pointer (some ⟨0, 0, none⟩) /\ (.pointer (some ⟨3, 0, none⟩) : Value) = .pointer (some ⟨3, 0, none⟩) /\ (.pointer (some ⟨2, 0, none⟩) : Value) = .pointer (some ⟨2, 0, none⟩) /\ (.bool false : Value) = .bool false /\ (.bool (decide ((a : Int) <= 4)) : Value) = .bool (decide ((a : Int) <= 4)) /\ (.int .i64 a : Value) = .int .i64 a /\ (.bool false : Value) = .bool false /\ (.pointer (some ⟨0, 0, none⟩) : Value) = .pointer (some ⟨0, 0, none⟩) /\ (.int .i64 0 : Value) = .int .i64 0 /\ (.slice none 0 0 : Value) = .slice none 0 0 /\ (.pointer (some ⟨0, 0, none⟩) : Value) = .pointer (some ⟨0, 0, none⟩) /\ (.int .i64 a : Value) = .int .i64 a /\ True) /\ True))))))))))))) /\ ((decide ((((x1 : Nat) : Int) : Int) < (((List.length (srtM L)) : Nat) : Int))) = false -> (true = true /\ wk (.tuple #[.slice (some ⟨8, 0, some 1⟩) (List.length (gapS (srtM L) a x1).2.2) (List.length (gapS (srtM L) a x1).2.2), .int .i64 0] : Value) (rn (sg 2 [(2, 8)]) 3 (.tuple #[.slice (some ⟨2, 0, some 1⟩) (List.length (gapsL L a)) (List.length (gapsL L a)), .int .i64 0] : Value)) /\ ((some (.cells true 2 (List.flatMap spC (gapS (srtM L) a x1).2.2) : KObj) = some (.cells true 2 (List.flatMap spC (gapsL L a)) : KObj) /\ belowO 2 (.cells true 2 (List.flatMap spC (gapsL L a)) : KObj) = true) /\ True))))))))) /\ ((decide ((1 : Int) <= a)) = false -> (true = true /\ wk (.tuple #[.slice none 0 0, .int .i64 6] : Value) (rn (sg 2 []) 3 (.tuple #[.slice (some ⟨2, 0, some 1⟩) (List.length (gapsL L a)) (List.length (gapsL L a)), .int .i64 0] : Value)) /\ (True /\ True))))
theorem Egaps (L : List Msg) (a : Int) : vF prog msk (dm 0) 100000 true 40 true 33 [.pointer (some ⟨0, 0, none⟩), .int .i64 a] (readsK [.cells true 0 [.map (some 1)], .map (heldE L)]) (some [])
 (.go 22 (.gfork (.go 5 (.fork (.go 1 (.again [])) (.go 10 (.into (some [2, 3, 4, 5]) (.go 1 (.ans [(0, .cells true 0 [.map (some 1)]), (1, .map (heldE L))] (.slice (some ⟨7, 0, some 1⟩) (List.length (srtM L)) (List.length (srtM L))) [.cells true 7 (List.flatMap msgC (srtM L))] (.go 1 (.inv 3 (Nat) (0) [] [2, 3, 6] (fun x1 => [(10, .int .i64 ((x1 : Nat) : Int)), (4, .int .i64 (gapS (srtM L) a x1).1), (2, .pointer (some ⟨5, 0, none⟩)), (0, .func (.yield 6) #[] #[]), (8, .slice (some ⟨7, 0, some 1⟩) (List.length (srtM L)) (List.length (srtM L))), (9, .int .i64 (((List.length (srtM L)) : Nat) : Int))]) (fun x1 => [(2, false, .cells true 0 [.slice (some ⟨8, 0, some 1⟩) (List.length (gapS (srtM L) a x1).2.2) (List.length (gapS (srtM L) a x1).2.2)]), (3, true, .cells true 0 [.int .i64 (gapS (srtM L) a x1).2.1])]) (fun x1 => [(true, .cells true 2 (List.flatMap spC (gapS (srtM L) a x1).2.2))]) (fun x1 => [(6, [(16, .func (.func 161) #[] #[.pointer (some ⟨4, 0, none⟩), .pointer (some ⟨5, 0, none⟩)]), (15, .int .i64 a), (14, .pointer (some ⟨0, 0, none⟩)), (7, .pointer (some ⟨3, 0, none⟩)), (6, .pointer (some ⟨2, 0, none⟩)), (13, .bool false), (12, .bool (decide ((a : Int) <= 4))), (11, .int .i64 a), (10, .bool false), (9, .pointer (some ⟨0, 0, none⟩)), (5, .int .i64 0), (4, .slice none 0 0), (0, .pointer (some ⟨0, 0, none⟩)), (1, .int .i64 a)])]) (fun x1 => (x1 <= List.length (srtM L))) (fun x1 => (List.length (srtM L) - x1)) (fun x1 => .go 0 (.fork (.need (.val (.agg #[.int .i64 (List.getD (srtM L) x1 zeroM).au, .int .i64 (List.getD (srtM L) x1 zeroM).nu, .int .i64 (List.getD (srtM L) x1 zeroM).at_, .int .i64 (List.getD (srtM L) x1 zeroM).ki, .int .i64 (List.getD (srtM L) x1 zeroM).sh, .int .i64 (List.getD (srtM L) x1 zeroM).ce, .int .i64 (List.getD (srtM L) x1 zeroM).va]) (.go 6 (.gfork (.go 2 (.slot 30 (.int .i64 (((x1 : Nat) : Int) + 1)) (.go 0 (.again [(8, 8)])))) (.go 4 (.fork (.go 0 (.slot 30 (.int .i64 (((x1 : Nat) : Int) + 1)) (.go 0 (.again [(8, 8)])))) (.go 4 (.into (some [2, 3, 6, 8, 9]) (.go 3 (.fork (.go 3 (.slot 24 (.int .i64 ((List.getD (srtM L) x1 zeroM).nu - 1)) (.go 1 (.need (.go 2 (.slot 29 (.int .i64 ((List.getD (srtM L) x1 zeroM).nu + 1)) (.go 3 (.slot 30 (.int .i64 (((x1 : Nat) : Int) + 1)) (.go 0 (.again [(8, 11)])))))))))) (.go 1 (.slot 29 (.int .i64 ((List.getD (srtM L) x1 zeroM).nu + 1)) (.go 3 (.slot 30 (.int .i64 (((x1 : Nat) : Int) + 1)) (.go 0 (.again [(8, 8)])))))))))))))))) (.go 2 (.again [(2, 8)])))))))))))) (.go 5 (.again []))))
 (newK ((readsK [.cells true 0 [.map (some 1)], .map (heldE L)]) : HT).n 3 (.tuple #[.slice (some ⟨2, 0, some 1⟩) (List.length (gapsL L a)) (List.length (gapsL L a)), .int .i64 0]) [(true, .cells true 2 (List.flatMap spC (gapsL L a)))]) = Rgaps L a := by kernel_rfl
end
end Go.Proofs.YtbgfjemppjhmjaaGreat
/- Radio: gaps. No condition. -/
namespace Go.Proofs.YtbgfjemppjhmjaaGreat
open Go Go.K
set_option maxRecDepth 100000
set_option linter.unusedVariables false
set_option linter.unusedSimpArgs false
noncomputable section
attribute [local irreducible] vF
theorem neB2 {x y : Int} (h : (x != y) = true) : x ≠ y := by simpa using h
theorem eqB2 {x y : Int} (h : (x != y) = false) : x = y := by simpa using h
theorem spC_len (x : Int × Int) : (spC x).length = 2 := rfl
theorem plainSp (n : Nat) (l : List (Int × Int)) : (l.flatMap spC).all (belowC n) = true := plain_flat (fun _ => rfl) l
theorem lrec33 : lrecOk prog 33 0 := lrecOk_of (by kernel_rfl)
theorem hv10 {L : List Msg} {a : Int} (hk : ∀ m ∈ L, okM m = true) (hl : L.length <= 2000) (h1 : 1 <= a) (h4 : a <= 4) : Rgaps L a := by
 have hS := srtM_len L
 unfold Rgaps
 refine ⟨fun b => ⟨fun c => (by rw [decide_eq_true h4] at c; cases c), fun c => ⟨⟨rfl, rfl, trivial⟩, fun H' hl' h => ?_, rfl, Nat.zero_le _, ?_, fun _ => rfl, fun x hx => ⟨fun d => ?_, fun d => ?_⟩⟩⟩, fun b => (by rw [decide_eq_true h1] at b; cases b)⟩
 ·have := kSorted hk hl (H := H') (by decide) h.1 h.2.1
  rw [hl'] at this; exact this
 ·repeat' first | exact lrec33 | exact wk_nil _ _ _ (.inl rfl) | exact plainSp _ _ | exact trivial | exact rfl | exact wk_refl _ | refine wkO_cells ?_ | refine wks_cons ?_ ?_ | exact wks_nil | exact wk_nil _ _ _ (.inl rfl) | (exact wk_Q (by omega)) | refine wk_tupL ?_ | refine wk_aggL ?_ | refine joinMax ?_ ?_ ?_ | refine joinMin ?_ ?_ ?_ | refine toMax ?_ | refine toMin ?_ | refine ⟨rfl, ?_⟩ | refine ⟨trivial, ?_⟩ | (refine forkD (fun h => ?_) (fun h => ?_)) | (refine forkNe (fun h => ?_) (fun h => ?_)) | (refine forkEq (fun h => ?_) (fun h => ?_)) | refine forkNot ?_ | (refine ⟨vI64 (by omega), ?_⟩) | (refine And.intro (by omega) ?_) | apply And.intro | (exact iEq (by omega)) | (exact vI64 (by omega))
 ·have hx1 : x < (srtM L).length := by have := of_decide_eq_true d; omega
  have hm := okM_spec (hk _ (srtM_mem.1 (getD_mem (d := zeroM) hx1)))
  refine ⟨⟨by omega, by omega⟩, partM hx1 (by omega), fun e => ⟨vI64 (by omega), x + 1, by omega, by omega, rfl, ?_⟩, fun e => ⟨fun f => ⟨vI64 (by omega), x + 1, by omega, by omega, rfl, ?_⟩, fun f => ?_⟩⟩
  ·rw [gapS_succ hx1, gStep_0 (.inl (neB2 e))]
   repeat' first | exact lrec33 | exact plainSp _ _ | exact wk_refl _ | exact trivial | exact rfl | exact wk_refl _ | refine wkO_cells ?_ | refine wks_cons ?_ ?_ | exact wks_nil | exact wk_nil _ _ _ (.inl rfl) | (exact wk_Q (by omega)) | refine wk_tupL ?_ | refine wk_aggL ?_ | refine joinMax ?_ ?_ ?_ | refine joinMin ?_ ?_ ?_ | refine toMax ?_ | refine toMin ?_ | refine ⟨rfl, ?_⟩ | refine ⟨trivial, ?_⟩ | (refine forkD (fun h => ?_) (fun h => ?_)) | (refine forkNe (fun h => ?_) (fun h => ?_)) | (refine forkEq (fun h => ?_) (fun h => ?_)) | refine forkNot ?_ | (refine ⟨vI64 (by omega), ?_⟩) | (refine And.intro (by omega) ?_) | apply And.intro | (exact iEq (by omega)) | (exact vI64 (by omega))
  ·rw [gapS_succ hx1, gStep_0 (.inr (eq_of_beq f))]
   repeat' first | exact lrec33 | exact plainSp _ _ | exact wk_refl _ | exact trivial | exact rfl | exact wk_refl _ | refine wkO_cells ?_ | refine wks_cons ?_ ?_ | exact wks_nil | exact wk_nil _ _ _ (.inl rfl) | (exact wk_Q (by omega)) | refine wk_tupL ?_ | refine wk_aggL ?_ | refine joinMax ?_ ?_ ?_ | refine joinMin ?_ ?_ ?_ | refine toMax ?_ | refine toMin ?_ | refine ⟨rfl, ?_⟩ | refine ⟨trivial, ?_⟩ | (refine forkD (fun h => ?_) (fun h => ?_)) | (refine forkNe (fun h => ?_) (fun h => ?_)) | (refine forkEq (fun h => ?_) (fun h => ?_)) | refine forkNot ?_ | (refine ⟨vI64 (by omega), ?_⟩) | (refine And.intro (by omega) ?_) | apply And.intro | (exact iEq (by omega)) | (exact vI64 (by omega))
  ·have ea : ((srtM L).getD x zeroM).au = a := eqB2 e
   have en : ((srtM L).getD x zeroM).nu ≠ (gapS (srtM L) a x).1 := fun q => by rw [q] at f; simp at f
   have gl := gapS_len (srtM L) a x
   refine ⟨fun g => ⟨vI64 (by omega), ?_, rfl, vI64 (by omega), vI64 (by omega), x + 1, by omega, by omega, rfl, ?_⟩, fun g => ⟨vI64 (by omega), vI64 (by omega), x + 1, by omega, by omega, rfl, ?_⟩⟩
   ·repeat' first | exact flat_le spC_len _ | exact Nat.le_refl 2 | exact trivial | exact rfl | exact wk_refl _ | refine wkO_cells ?_ | refine wks_cons ?_ ?_ | exact wks_nil | exact wk_nil _ _ _ (.inl rfl) | (exact wk_Q (by omega)) | refine wk_tupL ?_ | refine wk_aggL ?_ | refine joinMax ?_ ?_ ?_ | refine joinMin ?_ ?_ ?_ | refine toMax ?_ | refine toMin ?_ | refine ⟨rfl, ?_⟩ | refine ⟨trivial, ?_⟩ | (refine forkD (fun h => ?_) (fun h => ?_)) | (refine forkNe (fun h => ?_) (fun h => ?_)) | (refine forkEq (fun h => ?_) (fun h => ?_)) | refine forkNot ?_ | (refine ⟨vI64 (by omega), ?_⟩) | (refine And.intro (by omega) ?_) | apply And.intro | (exact iEq (by omega)) | (exact vI64 (by omega))
   ·rw [gapS_succ hx1, gStep_1 ea en (of_decide_eq_true g)]
    repeat' first | exact lrec33 | exact plainSp _ _ | exact wk_snoc rfl | exact ob_snoc spC_len rfl rfl | exact trivial | exact rfl | exact wk_refl _ | refine wkO_cells ?_ | refine wks_cons ?_ ?_ | exact wks_nil | exact wk_nil _ _ _ (.inl rfl) | (exact wk_Q (by omega)) | refine wk_tupL ?_ | refine wk_aggL ?_ | refine joinMax ?_ ?_ ?_ | refine joinMin ?_ ?_ ?_ | refine toMax ?_ | refine toMin ?_ | refine ⟨rfl, ?_⟩ | refine ⟨trivial, ?_⟩ | (refine forkD (fun h => ?_) (fun h => ?_)) | (refine forkNe (fun h => ?_) (fun h => ?_)) | (refine forkEq (fun h => ?_) (fun h => ?_)) | refine forkNot ?_ | (refine ⟨vI64 (by omega), ?_⟩) | (refine And.intro (by omega) ?_) | apply And.intro | (exact iEq (by omega)) | (exact vI64 (by omega))
   ·rw [gapS_succ hx1, gStep_2 ea en (of_decide_eq_false g)]
    repeat' first | exact lrec33 | exact plainSp _ _ | exact wk_refl _ | exact trivial | exact rfl | exact wk_refl _ | refine wkO_cells ?_ | refine wks_cons ?_ ?_ | exact wks_nil | exact wk_nil _ _ _ (.inl rfl) | (exact wk_Q (by omega)) | refine wk_tupL ?_ | refine wk_aggL ?_ | refine joinMax ?_ ?_ ?_ | refine joinMin ?_ ?_ ?_ | refine toMax ?_ | refine toMin ?_ | refine ⟨rfl, ?_⟩ | refine ⟨trivial, ?_⟩ | (refine forkD (fun h => ?_) (fun h => ?_)) | (refine forkNe (fun h => ?_) (fun h => ?_)) | (refine forkEq (fun h => ?_) (fun h => ?_)) | refine forkNot ?_ | (refine ⟨vI64 (by omega), ?_⟩) | (refine And.intro (by omega) ?_) | apply And.intro | (exact iEq (by omega)) | (exact vI64 (by omega))
 ·have hx1 : x = (srtM L).length := by have := of_decide_eq_false d; omega
  rw [hx1]
  exact ⟨rfl, wk_refl _, ⟨rfl, plainSp _ _⟩, trivial⟩
theorem kGaps {L : List Msg} {a : Int} (hk : ∀ m ∈ L, okM m = true) (hl : L.length <= 2000) (h1 : 1 <= a) (h4 : a <= 4) {H : Heap} {i q : Nat} (hne : i ≠ q) (hi : H[i]? = some (.cells true 0 [.map (some q)])) (hq : H[q]? = some (.map (heldE L))) :
  KCall prog 33 [.pointer (some ⟨i, 0, none⟩), .int .i64 a] H [] (Is (.tuple #[.slice (some ⟨H.length, 0, some 1⟩) (gapsL L a).length (gapsL L a).length, .int .i64 0]) (H ++ [.cells true 2 ((gapsL L a).flatMap spC)])) :=
 valKp (fun j => .tuple #[.slice (some ⟨j, 0, some 1⟩) (gapsL L a).length (gapsL L a).length, .int .i64 0]) (os := [.cells true 0 [.map (some 1)], .map (heldE L)]) (Eq.mpr (Egaps L a) (hv10 hk hl h1 h4)) (pic_ok L 1) rfl
  ⟨⟨_, _, rfl, plainSp _ _⟩, trivial⟩ (ids := [i, q]) (by simp [hne]) (pic_objs hi hq) (fun j => rfl) rfl
end
end Go.Proofs.YtbgfjemppjhmjaaGreat
/- Radio: what gaps are. No condition. -/
namespace Go.Proofs.YtbgfjemppjhmjaaGreat
set_option linter.unusedSimpArgs false
open Go Go.K
set_option linter.unusedVariables false
def numB (L : List Msg) (a n : Int) : Bool := L.any fun m => decide (m.au = a) && decide (m.nu = n)
def grtS (M : List Msg) (a : Int) (x : Nat) : Int := (M.take x).foldl (fun g m => if m.au = a then (if m.nu > g then m.nu else g) else g) 0
structure GapI (M : List Msg) (a : Int) (x : Nat) : Prop where
 nx : (gapS M a x).2.1 = (gapS M a x).1 + 1
 bd : 0 <= (gapS M a x).1 /\ (gapS M a x).1 <= 200
 gr : grtS M a x = (gapS M a x).1
 le : ∀ m ∈ M.take x, m.au = a -> m.nu <= (gapS M a x).1
 at_ : (gapS M a x).1 = 0 ∨ ∃ m ∈ M.take x, m.au = a /\ m.nu = (gapS M a x).1
 gb : ∀ g ∈ (gapS M a x).2.2, 1 <= g.1 /\ g.1 <= g.2 /\ g.2 < (gapS M a x).1
 cov : ∀ n, 1 <= n -> n <= (gapS M a x).1 -> numB (M.take x) a n = true ∨ ∃ g ∈ (gapS M a x).2.2, g.1 <= n /\ n <= g.2
 no : ∀ g ∈ (gapS M a x).2.2, ∀ n, g.1 <= n -> n <= g.2 -> numB (M.take x) a n = false
 pw : (gapS M a x).2.2.Pairwise fun g h => g.2 < h.1
end Go.Proofs.YtbgfjemppjhmjaaGreat
/- Radio: forged names, what is withdrawn, notices: plain laws. No condition. -/
namespace Go.Proofs.YtbgfjemppjhmjaaGreat
set_option linter.unusedSimpArgs false
open Go Go.K
set_option linter.unusedVariables false
theorem rangeG {α : Type} (d : α) (F : List α) : (List.range F.length).map (fun i => F.getD i d) = F := by
 refine List.ext_getElem? fun i => ?_
 rw [List.getElem?_map]
 by_cases h : i < F.length
 ·rw [List.getElem?_range h, List.getElem?_eq_getElem h]
  simp [List.getD_eq_getElem?_getD, h]
 ·rw [List.getElem?_eq_none (by simpa using Nat.le_of_not_lt h), List.getElem?_eq_none (Nat.le_of_not_lt h)]; rfl
end Go.Proofs.YtbgfjemppjhmjaaGreat
/- Radio: the messages of the chapter's example. No condition. -/
namespace Go.Proofs.YtbgfjemppjhmjaaGreat
set_option linter.unusedSimpArgs false
open Go Go.K
set_option linter.unusedVariables false
abbrev mA : Msg := ⟨1, 5, 9, 3, 0, 0, 2⟩
abbrev mB : Msg := ⟨1, 2, 10, 1, 7, 3, 0⟩
abbrev mC : Msg := ⟨1, 5, 9, 1, 8, 0, 0⟩
theorem srtM_is {A B : List Msg} (hp : A.Perm B) (hk : ∀ m ∈ A, okM m = true) (hb : B.Pairwise fun a b => keyM a <= keyM b) : srtM A = B :=
 sorted_one ((srtM_perm A).trans hp) (fun m hm => hk m (srtM_mem.1 hm)) (srtM_sorted A) hb
theorem okAB : ∀ m ∈ [mA, mB], okM m = true := by decide
theorem okABC : ∀ m ∈ [mA, mB, mC], okM m = true := by decide
theorem srtAB : srtM [mA, mB] = [mB, mA] := srtM_is (List.Perm.swap ..) okAB (by decide)
theorem srtABC : srtM [mA, mB, mC] = [mB, mC, mA] := srtM_is (((List.Perm.swap mB mA [mC])).trans (List.Perm.cons _ (List.Perm.swap ..))) okABC (by decide)
theorem liveAB : liveL [mA, mB] = [] := by unfold liveL; rw [srtAB]; rfl
theorem liveABC : liveL [mA, mB, mC] = [mB] := by unfold liveL; rw [srtABC]; rfl
theorem gapsAB : gapsL [mA, mB] 1 = [(1, 1), (3, 4)] := by unfold gapsL; rw [srtAB]; rfl
end Go.Proofs.YtbgfjemppjhmjaaGreat
/- What is to be shown of functions. Printed by a program. No condition. -/
namespace Go.Proofs.YtbgfjemppjhmjaaGreat
set_option linter.unusedSimpArgs false
open Go Go.K
set_option maxRecDepth 100000
set_option maxHeartbeats 4000000
set_option linter.unusedVariables false
noncomputable section
def Rawake (sp : Value)  : Prop :=
 ((True) /\ (∀ H' : Heap, H'.length = 0 -> (True) -> KCall prog 54 [] H' [] (Is (.tuple #[.pointer (some ⟨0, 0, none⟩), .int .i64 0]) (H' ++ [(.cells true 0 [.map (some 1)] : KObj), (.map (heldE []) : KObj)]))) /\ (((some (.cells true 0 [.map (some 1)] : KObj) = some (.cells true 0 [.map (some 1)] : KObj)) /\ (some (.map (heldE []) : KObj) = some (.map (heldE []) : KObj)) /\ True) /\ (∀ H' : Heap, H'.length = 2 -> (H'[0]? = some (.cells true 0 [.map (some 1)] : KObj) /\ H'[1]? = some (.map (heldE []) : KObj) /\ True) -> KCall prog 31 [.pointer (some ⟨0, 0, none⟩), .agg #[.int .i64 1, .int .i64 5, .int .i64 9, .int .i64 3, .int .i64 0, .int .i64 0, .int .i64 2]] H' [1] (Is (.tuple #[.bool true, .int .i64 0]) (List.set H' 1 (.map (heldE [mA]) : KObj)))) /\ (((some (.cells true 0 [.map (some 1)] : KObj) = some (.cells true 0 [.map (some 1)] : KObj)) /\ (some (.map (heldE [mA]) : KObj) = some (.map (heldE [mA]) : KObj)) /\ True) /\ (∀ H' : Heap, H'.length = 2 -> (H'[0]? = some (.cells true 0 [.map (some 1)] : KObj) /\ H'[1]? = some (.map (heldE [mA]) : KObj) /\ True) -> KCall prog 31 [.pointer (some ⟨0, 0, none⟩), .agg #[.int .i64 1, .int .i64 2, .int .i64 10, .int .i64 1, .int .i64 7, .int .i64 3, .int .i64 0]] H' [1] (Is (.tuple #[.bool true, .int .i64 0]) (List.set H' 1 (.map (heldE [mA, mB]) : KObj)))) /\ (((some (.cells true 0 [.map (some 1)] : KObj) = some (.cells true 0 [.map (some 1)] : KObj)) /\ (some (.map (heldE [mA, mB]) : KObj) = some (.map (heldE [mA, mB]) : KObj)) /\ True) /\ (∀ H' : Heap, H'.length = 2 -> (H'[0]? = some (.cells true 0 [.map (some 1)] : KObj) /\ H'[1]? = some (.map (heldE [mA, mB]) : KObj) /\ True) -> KCall prog 34 [.pointer (some ⟨0, 0, none⟩)] H' [] (Is (.tuple #[.slice (some ⟨2, 0, some 2⟩) 0 0, .int .i64 0]) (H' ++ [(.cells true 7 [] : KObj)]))) /\ (((some (.cells true 0 [.map (some 1)] : KObj) = some (.cells true 0 [.map (some 1)] : KObj)) /\ (some (.map (heldE [mA, mB]) : KObj) = some (.map (heldE [mA, mB]) : KObj)) /\ True) /\ (∀ H' : Heap, H'.length = 3 -> (H'[0]? = some (.cells true 0 [.map (some 1)] : KObj) /\ H'[1]? = some (.map (heldE [mA, mB]) : KObj) /\ True) -> KCall prog 33 [.pointer (some ⟨0, 0, none⟩), .int .i64 1] H' [] (Is (.tuple #[.slice (some ⟨3, 0, some 1⟩) 2 2, .int .i64 0]) (H' ++ [(.cells true 2 [.int .i64 1, .int .i64 1, .int .i64 3, .int .i64 4] : KObj)]))) /\ (((some (.cells true 0 [.map (some 1)] : KObj) = some (.cells true 0 [.map (some 1)] : KObj)) /\ (some (.map (heldE [mA, mB]) : KObj) = some (.map (heldE [mA, mB]) : KObj)) /\ True) /\ (∀ H' : Heap, H'.length = 5 -> (H'[0]? = some (.cells true 0 [.map (some 1)] : KObj) /\ H'[1]? = some (.map (heldE [mA, mB]) : KObj) /\ True) -> KCall prog 31 [.pointer (some ⟨0, 0, none⟩), .agg #[.int .i64 1, .int .i64 5, .int .i64 9, .int .i64 1, .int .i64 8, .int .i64 0, .int .i64 0]] H' [1] (Is (.tuple #[.bool true, .int .i64 0]) (List.set H' 1 (.map (heldE [mA, mB, mC]) : KObj)))) /\ (((some (.cells true 0 [.map (some 1)] : KObj) = some (.cells true 0 [.map (some 1)] : KObj)) /\ (some (.map (heldE [mA, mB, mC]) : KObj) = some (.map (heldE [mA, mB, mC]) : KObj)) /\ True) /\ (∀ H' : Heap, H'.length = 5 -> (H'[0]? = some (.cells true 0 [.map (some 1)] : KObj) /\ H'[1]? = some (.map (heldE [mA, mB, mC]) : KObj) /\ True) -> KCall prog 34 [.pointer (some ⟨0, 0, none⟩)] H' [] (Is (.tuple #[.slice (some ⟨5, 0, some 2⟩) 1 1, .int .i64 0]) (H' ++ [(.cells true 7 [.int .i64 1, .int .i64 2, .int .i64 10, .int .i64 1, .int .i64 7, .int .i64 3, .int .i64 0] : KObj)]))) /\ (((some (.cells true 1 [.bool false, .bool false, .bool false, .bool false, .bool false] : KObj) = some (.cells true 1 [.bool false, .bool false, .bool false, .bool false, .bool false] : KObj)) /\ (some (.cells true 2 [.int .i64 0, .int .i64 0, .int .i64 30, .int .i64 4, .int .i64 40, .int .i64 2] : KObj) = some (.cells true 2 [.int .i64 0, .int .i64 0, .int .i64 30, .int .i64 4, .int .i64 40, .int .i64 2] : KObj)) /\ True) /\ (∀ H' : Heap, H'.length = 23 -> (H'[15]? = some (.cells true 1 [.bool false, .bool false, .bool false, .bool false, .bool false] : KObj) /\ H'[21]? = some (.cells true 2 [.int .i64 0, .int .i64 0, .int .i64 30, .int .i64 4, .int .i64 40, .int .i64 2] : KObj) /\ True) -> KCall prog 24 [.agg #[.int .i64 5, .int .i64 1, .slice (some ⟨15, 0, none⟩) 5 5, .int .i64 10, .slice (some ⟨21, 0, none⟩) 3 3]] H' [] (Is (.tuple #[.slice (some ⟨23, 0, none⟩) 3 3, .int .i64 0]) (H' ++ [(.cells true 1 [.bool true, .bool false, .bool true] : KObj)]))) /\ (((some (.cells true 1 [.bool false, .bool false, .bool false, .bool false, .bool false] : KObj) = some (.cells true 1 [.bool false, .bool false, .bool false, .bool false, .bool false] : KObj)) /\ (some (.cells true 2 [.int .i64 0, .int .i64 0, .int .i64 40, .int .i64 2] : KObj) = some (.cells true 2 [.int .i64 0, .int .i64 0, .int .i64 40, .int .i64 2] : KObj)) /\ True) /\ (∀ H' : Heap, H'.length = 26 -> (H'[15]? = some (.cells true 1 [.bool false, .bool false, .bool false, .bool false, .bool false] : KObj) /\ H'[25]? = some (.cells true 2 [.int .i64 0, .int .i64 0, .int .i64 40, .int .i64 2] : KObj) /\ True) -> KCall prog 18 [.agg #[.int .i64 5, .int .i64 1, .slice (some ⟨15, 0, none⟩) 5 5, .int .i64 10, .slice (some ⟨25, 0, none⟩) 2 2], .int .i64 25] H' [] (Is (.tuple #[.slice (some ⟨26, 0, none⟩) 2 2, .int .i64 0]) (H' ++ [(.cells true 1 [.int .i64 1, .int .i64 2] : KObj)]))) /\ (((some (.cells true 1 [.bool false, .bool false, .bool false, .bool false, .bool false] : KObj) = some (.cells true 1 [.bool false, .bool false, .bool false, .bool false, .bool false] : KObj)) /\ (some (.cells true 2 [.int .i64 0, .int .i64 0, .int .i64 40, .int .i64 2] : KObj) = some (.cells true 2 [.int .i64 0, .int .i64 0, .int .i64 40, .int .i64 2] : KObj)) /\ True) /\ (∀ H' : Heap, H'.length = 27 -> (H'[15]? = some (.cells true 1 [.bool false, .bool false, .bool false, .bool false, .bool false] : KObj) /\ H'[25]? = some (.cells true 2 [.int .i64 0, .int .i64 0, .int .i64 40, .int .i64 2] : KObj) /\ True) -> KCall prog 19 [.agg #[.int .i64 5, .int .i64 1, .slice (some ⟨15, 0, none⟩) 5 5, .int .i64 10, .slice (some ⟨25, 0, none⟩) 2 2], .int .i64 1] H' [] (Is (.tuple #[.slice (some ⟨27, 0, none⟩) 1 1, .int .i64 0]) (H' ++ [(.cells true 2 [.int .i64 10, .int .i64 30] : KObj)]))) /\ (.bool true : Value) = sp))))))))))
theorem Eawake (sp : Value)  : vF prog msk (dm 0) 100000 true 40 true 14 [] ⟨0, .leaf⟩ (some [])
  (.go 0 (.ans [] (.tuple #[.pointer (some ⟨0, 0, none⟩), .int .i64 0]) [.cells true 0 [.map (some 1)], .map (heldE [])] (.go 13 (.answ [(0, .cells true 0 [.map (some 1)]), (1, .map (heldE []))] (.tuple #[.bool true, .int .i64 0]) [(1, .map (heldE [mA]))] [] (.go 6 (.answ [(0, .cells true 0 [.map (some 1)]), (1, .map (heldE [mA]))] (.tuple #[.bool true, .int .i64 0]) [(1, .map (heldE [mA, mB]))] [] (.go 5 (.ans [(0, .cells true 0 [.map (some 1)]), (1, .map (heldE [mA, mB]))] (.tuple #[.slice (some ⟨2, 0, some 2⟩) 0 0, .int .i64 0]) [.cells true 7 []] (.go 5 (.ans [(0, .cells true 0 [.map (some 1)]), (1, .map (heldE [mA, mB]))] (.tuple #[.slice (some ⟨3, 0, some 1⟩) 2 2, .int .i64 0]) [.cells true 2 [.int .i64 1, .int .i64 1, .int .i64 3, .int .i64 4]] (.go 92 (.answ [(0, .cells true 0 [.map (some 1)]), (1, .map (heldE [mA, mB]))] (.tuple #[.bool true, .int .i64 0]) [(1, .map (heldE [mA, mB, mC]))] [] (.go 4 (.ans [(0, .cells true 0 [.map (some 1)]), (1, .map (heldE [mA, mB, mC]))] (.tuple #[.slice (some ⟨5, 0, some 2⟩) 1 1, .int .i64 0]) [.cells true 7 [.int .i64 1, .int .i64 2, .int .i64 10, .int .i64 1, .int .i64 7, .int .i64 3, .int .i64 0]] (.go 117 (.ans [(15, .cells true 1 [.bool false, .bool false, .bool false, .bool false, .bool false]), (21, .cells true 2 [.int .i64 0, .int .i64 0, .int .i64 30, .int .i64 4, .int .i64 40, .int .i64 2])] (.tuple #[.slice (some ⟨23, 0, none⟩) 3 3, .int .i64 0]) [.cells true 1 [.bool true, .bool false, .bool true]] (.go 16 (.ans [(15, .cells true 1 [.bool false, .bool false, .bool false, .bool false, .bool false]), (25, .cells true 2 [.int .i64 0, .int .i64 0, .int .i64 40, .int .i64 2])] (.tuple #[.slice (some ⟨26, 0, none⟩) 2 2, .int .i64 0]) [.cells true 1 [.int .i64 1, .int .i64 2]] (.go 5 (.ans [(15, .cells true 1 [.bool false, .bool false, .bool false, .bool false, .bool false]), (25, .cells true 2 [.int .i64 0, .int .i64 0, .int .i64 40, .int .i64 2])] (.tuple #[.slice (some ⟨27, 0, none⟩) 1 1, .int .i64 0]) [.cells true 2 [.int .i64 10, .int .i64 30]] (.auto)))))))))))))))))))))
  (fun v _ _ => v = sp) = Rawake sp  := by kernel_rfl
end
end Go.Proofs.YtbgfjemppjhmjaaGreat
/- Radio: maps of numbers that are known,and the greatest value in one. No condition. -/
namespace Go.Proofs.YtbgfjemppjhmjaaGreat
set_option linter.unusedSimpArgs false
open Go Go.K
set_option linter.unusedVariables false
noncomputable section
abbrev sL (i n c : Nat) : Value:=.slice (some ⟨i,0,none⟩) n c
abbrev mapI (F : List (Int × Int)) : List (Value × Value):=encA (fun k : Int => .int .i64 k) (fun v : Int => .int .i64 v) F
def SeenL (n : Nat) (s : List Nat) : Prop:=s.Nodup /\ ∀ i ∈ s,i < n
def maxS (E : List (Int × Int)) (s : List Nat) : Int:=s.foldl (fun n i => if (List.getD E i (0,0)).2 > n then (List.getD E i (0,0)).2 else n) 0
def maxI (E : List (Int × Int)) : Int:=E.foldl (fun n e => if e.2 > n then e.2 else n) 0
theorem seenL_0 (n : Nat) : SeenL n []:=⟨List.nodup_nil,fun i h => by cases h⟩
theorem seenL_snoc {n : Nat} {s : List Nat} {i : Nat} (h : SeenL n s) (hi : i < n) (hn : i ∉ s) : SeenL n (s ++ [i]) :=
 ⟨List.nodup_append.2 ⟨h.1,(by simp),fun a ha b hb e => hn (by rw [List.mem_singleton.1 hb] at e; exact e ▸ ha)⟩,fun j hj => by
  rcases List.mem_append.1 hj with h1 | h1
  ·exact h.2 j h1
  ·rw [List.mem_singleton.1 h1]; exact hi⟩
theorem seenL_len {n : Nat} {s : List Nat} (h : SeenL n s) : s.length <= n:=by
 have h2:=seen_len (L:=List.replicate n zeroM) (s:=s) ⟨h.1,fun i hi => by rw [List.length_replicate]; exact h.2 i hi⟩
 rwa [List.length_replicate] at h2
theorem seenL_more {n : Nat} {s : List Nat} {i : Nat} (h : SeenL n s) (hi : i < n) (hn : i ∉ s) : n - (s ++ [i]).length < n - s.length:=by
 have:=seenL_len (seenL_snoc h hi hn)
 rw [List.length_append] at this ⊢
 simp only [List.length_cons,List.length_nil] at this ⊢
 omega
theorem maxS_snoc (E : List (Int × Int)) (s : List Nat) (i : Nat) : maxS E (s ++ [i]) = if (List.getD E i (0,0)).2 > maxS E s then (List.getD E i (0,0)).2 else maxS E s:=by
 unfold maxS; rw [List.foldl_append]; rfl
theorem maxS_all {E : List (Int × Int)} {s : List Nat} (h : SeenL E.length s) (h3 : ∀ i,i < E.length -> i ∈ s) {k : Int} (hk : maxI E = k) : maxS E s = k:=by
 have hp : s.Perm (List.range E.length):=seen_perm h.1 h.2 h3
 rw [<- hk]
 have e1 : maxS E s = maxS E (List.range E.length):=by
  unfold maxS
  refine hp.foldl_eq' (fun x _ y _ z => ?_) 0
  repeat' split
  all_goals omega
 rw [e1]
 have e2 : maxI E = maxI ((List.range E.length).map fun i => E.getD i (0,0)):=by rw [rangeG]
 rw [e2]
 unfold maxS maxI
 rw [List.foldl_map]
theorem entI (E : List (Int × Int)) {i : Nat} (hi : i < E.length) (s : List Nat) : entryE (mapI E) (s ++ [i]) = some (.tuple #[.int .i64 (List.getD E i (0,0)).1,.int .i64 (List.getD E i (0,0)).2]):=by
 unfold mapI
 rw [entry_A (0,0) hi]
end
end Go.Proofs.YtbgfjemppjhmjaaGreat
/- Closed calls of the chapter's examples. Printed by a program. No condition. -/
namespace Go.Proofs.YtbgfjemppjhmjaaGreat
set_option linter.unusedSimpArgs false
open Go Go.K
set_option maxRecDepth 1000000
set_option maxHeartbeats 4000000
set_option linter.unusedVariables false
noncomputable section
attribute [local irreducible] vF
def R106_733418866 : Prop :=
 (/-N ⟨(by kernel_rfl),REST⟩-/(ksetE prog 3 (nI 0) (nI 1) (mapI []) = some (mapI [(0,1)])) /\ (/-N ⟨(by kernel_rfl),REST⟩-/(ksetE prog 3 (nI 1) (nI 1) (mapI [(0,1)]) = some (mapI [(0,1),(1,1)])) /\ (/-N ⟨(by kernel_rfl),REST⟩-/(ksetE prog 3 (nI 2) (nI 1) (mapI [(0,1),(1,1)]) = some (mapI [(0,1),(1,1),(2,1)])) /\ (/-N ⟨(by kernel_rfl),REST⟩-/(klookE prog 3 (nI 0) (nI 2) false (mapI [(0,1),(1,1),(2,1)]) = some (nI 1)) /\ (/-N ⟨(by kernel_rfl),REST⟩-/(klookE prog 3 (nI 0) (nI 0) false (mapI [(0,1),(1,1),(2,1)]) = some (nI 1)) /\ (/-N ⟨(by kernel_rfl),REST⟩-/(ksetE prog 3 (nI 2) (nI 2) (mapI [(0,1),(1,1),(2,1)]) = some (mapI [(0,1),(1,1),(2,2)])) /\ (true = true /\ wk (.map (some 11) : Value) (rn (sg 8 [(8,11)]) 3 (.map (some 8) : Value)) /\ (wkO (.map (mapI [(0,1),(1,1),(2,2)]) : KObj) (rno (sg 8 [(8,11)]) 3 (.map (mapI [(0,1),(1,1),(2,2)]) : KObj)) /\ True))))))))
theorem E106_733418866 : vF prog msk (dm 0) 100000 true 40 true 106 [.pointer (some ⟨0,0,none⟩),sL 1 3 3] (readsT 0 [[nI 5,nI 1,sL 2 5 5,nI 10,sL 3 3 3,sL 4 3 3],[nI 0,nI 1,nI 2],[.bool false,.bool false,.bool false,.bool false,.bool false],[nI 0,nI 0,nI 30,nI 4,nI 40,nI 2],[sL 5 5 5,sL 6 5 5,sL 7 5 5],[nI 0,nI 1,nI 2,nI 3,nI 4],[nI 4,nI 3,nI 2,nI 1,nI 0],[nI 2,nI 1,nI 0,nI 1,nI 2]]) (some [])
 (.go 14 (.into (some [8,9,10]) (.go 3 (.into (some [8,9,10]) (.go 11 (.into (some [8,9,10]) (.go 120 (.mset (mapI [(0,1)]) (.go 17 (.mset (mapI [(0,1),(1,1)]) (.go 108 (.mset (mapI [(0,1),(1,1),(2,1)]) (.go 97 (.val (nI 1) (.go 1 (.val (nI 1) (.go 1 (.mset (mapI [(0,1),(1,1),(2,2)]) (.go 100 (.again [(8,11)]))))))))))))))))))))
 (newK (readsT 0 [[nI 5,nI 1,sL 2 5 5,nI 10,sL 3 3 3,sL 4 3 3],[nI 0,nI 1,nI 2],[.bool false,.bool false,.bool false,.bool false,.bool false],[nI 0,nI 0,nI 30,nI 4,nI 40,nI 2],[sL 5 5 5,sL 6 5 5,sL 7 5 5],[nI 0,nI 1,nI 2,nI 3,nI 4],[nI 4,nI 3,nI 2,nI 1,nI 0],[nI 2,nI 1,nI 0,nI 1,nI 2]]).n 3 (.map (some 8)) [(false,.map (mapI [(0,1),(1,1),(2,2)]))]) = R106_733418866:=by kernel_rfl
theorem P106_733418866 : R106_733418866:=⟨(by kernel_rfl),⟨(by kernel_rfl),⟨(by kernel_rfl),⟨(by kernel_rfl),⟨(by kernel_rfl),⟨(by kernel_rfl),⟨rfl,wk_of_eq rfl,wkO_of_eq rfl,trivial⟩⟩⟩⟩⟩⟩⟩
theorem C106_733418866 {H : Heap} (ids : List Nat) (h : InsA H (sgR 0 ids) ids [[nI 5,nI 1,sL 2 5 5,nI 10,sL 3 3 3,sL 4 3 3],[nI 0,nI 1,nI 2],[.bool false,.bool false,.bool false,.bool false,.bool false],[nI 0,nI 0,nI 30,nI 4,nI 40,nI 2],[sL 5 5 5,sL 6 5 5,sL 7 5 5],[nI 0,nI 1,nI 2,nI 3,nI 4],[nI 4,nI 3,nI 2,nI 1,nI 0],[nI 2,nI 1,nI 0,nI 1,nI 2]]) : KCall prog 106 (([.pointer (some ⟨0,0,none⟩),sL 1 3 3] : List Value).map (rn (sgR 0 ids) 3)) H [] (Is (rn (sgUp 8 H.length) 3 (.map (some 8))) (H ++ [rno (sgUp 8 H.length) 3 (.map (mapI [(0,1),(1,1),(2,2)]))])) :=
 valNA (css:=[[nI 5,nI 1,sL 2 5 5,nI 10,sL 3 3 3,sL 4 3 3],[nI 0,nI 1,nI 2],[.bool false,.bool false,.bool false,.bool false,.bool false],[nI 0,nI 0,nI 30,nI 4,nI 40,nI 2],[sL 5 5 5,sL 6 5 5,sL 7 5 5],[nI 0,nI 1,nI 2,nI 3,nI 4],[nI 4,nI 3,nI 2,nI 1,nI 0],[nI 2,nI 1,nI 0,nI 1,nI 2]]) (v:=.map (some 8)) (new:=[(false,.map (mapI [(0,1),(1,1),(2,2)]))]) (Eq.mpr E106_733418866 P106_733418866) rfl rfl rfl rfl ids h.len h.get
def R106_276827979 : Prop :=
 (/-N ⟨(by kernel_rfl),REST⟩-/(ksetE prog 3 (nI 0) (nI 1) (mapI []) = some (mapI [(0,1)])) /\ (/-N ⟨(by kernel_rfl),REST⟩-/(ksetE prog 3 (nI 2) (nI 1) (mapI [(0,1)]) = some (mapI [(0,1),(2,1)])) /\ (/-N ⟨(by kernel_rfl),REST⟩-/(klookE prog 3 (nI 0) (nI 2) false (mapI [(0,1),(2,1)]) = some (nI 1)) /\ (/-N ⟨(by kernel_rfl),REST⟩-/(klookE prog 3 (nI 0) (nI 0) false (mapI [(0,1),(2,1)]) = some (nI 1)) /\ (/-N ⟨(by kernel_rfl),REST⟩-/(ksetE prog 3 (nI 2) (nI 2) (mapI [(0,1),(2,1)]) = some (mapI [(0,1),(2,2)])) /\ (true = true /\ wk (.map (some 11) : Value) (rn (sg 8 [(8,11)]) 3 (.map (some 8) : Value)) /\ (wkO (.map (mapI [(0,1),(2,2)]) : KObj) (rno (sg 8 [(8,11)]) 3 (.map (mapI [(0,1),(2,2)]) : KObj)) /\ True)))))))
theorem E106_276827979 : vF prog msk (dm 0) 100000 true 40 true 106 [.pointer (some ⟨0,0,none⟩),sL 1 2 3] (readsT 0 [[nI 5,nI 1,sL 2 5 5,nI 10,sL 3 3 3,sL 4 3 3],[nI 0,nI 2,nI 0],[.bool false,.bool false,.bool false,.bool false,.bool false],[nI 0,nI 0,nI 30,nI 4,nI 40,nI 2],[sL 5 5 5,sL 6 5 5,sL 7 5 5],[nI 0,nI 1,nI 2,nI 3,nI 4],[nI 4,nI 3,nI 2,nI 1,nI 0],[nI 2,nI 1,nI 0,nI 1,nI 2]]) (some [])
 (.go 14 (.into (some [8,9,10]) (.go 3 (.into (some [8,9,10]) (.go 11 (.into (some [8,9,10]) (.go 72 (.mset (mapI [(0,1)]) (.go 17 (.mset (mapI [(0,1),(2,1)]) (.go 97 (.val (nI 1) (.go 1 (.val (nI 1) (.go 1 (.mset (mapI [(0,1),(2,2)]) (.go 9 (.again [(8,11)]))))))))))))))))))
 (newK (readsT 0 [[nI 5,nI 1,sL 2 5 5,nI 10,sL 3 3 3,sL 4 3 3],[nI 0,nI 2,nI 0],[.bool false,.bool false,.bool false,.bool false,.bool false],[nI 0,nI 0,nI 30,nI 4,nI 40,nI 2],[sL 5 5 5,sL 6 5 5,sL 7 5 5],[nI 0,nI 1,nI 2,nI 3,nI 4],[nI 4,nI 3,nI 2,nI 1,nI 0],[nI 2,nI 1,nI 0,nI 1,nI 2]]).n 3 (.map (some 8)) [(false,.map (mapI [(0,1),(2,2)]))]) = R106_276827979:=by kernel_rfl
theorem P106_276827979 : R106_276827979:=⟨(by kernel_rfl),⟨(by kernel_rfl),⟨(by kernel_rfl),⟨(by kernel_rfl),⟨(by kernel_rfl),⟨rfl,wk_of_eq rfl,wkO_of_eq rfl,trivial⟩⟩⟩⟩⟩⟩
theorem C106_276827979 {H : Heap} (ids : List Nat) (h : InsA H (sgR 0 ids) ids [[nI 5,nI 1,sL 2 5 5,nI 10,sL 3 3 3,sL 4 3 3],[nI 0,nI 2,nI 0],[.bool false,.bool false,.bool false,.bool false,.bool false],[nI 0,nI 0,nI 30,nI 4,nI 40,nI 2],[sL 5 5 5,sL 6 5 5,sL 7 5 5],[nI 0,nI 1,nI 2,nI 3,nI 4],[nI 4,nI 3,nI 2,nI 1,nI 0],[nI 2,nI 1,nI 0,nI 1,nI 2]]) : KCall prog 106 (([.pointer (some ⟨0,0,none⟩),sL 1 2 3] : List Value).map (rn (sgR 0 ids) 3)) H [] (Is (rn (sgUp 8 H.length) 3 (.map (some 8))) (H ++ [rno (sgUp 8 H.length) 3 (.map (mapI [(0,1),(2,2)]))])) :=
 valNA (css:=[[nI 5,nI 1,sL 2 5 5,nI 10,sL 3 3 3,sL 4 3 3],[nI 0,nI 2,nI 0],[.bool false,.bool false,.bool false,.bool false,.bool false],[nI 0,nI 0,nI 30,nI 4,nI 40,nI 2],[sL 5 5 5,sL 6 5 5,sL 7 5 5],[nI 0,nI 1,nI 2,nI 3,nI 4],[nI 4,nI 3,nI 2,nI 1,nI 0],[nI 2,nI 1,nI 0,nI 1,nI 2]]) (v:=.map (some 8)) (new:=[(false,.map (mapI [(0,1),(2,2)]))]) (Eq.mpr E106_276827979 P106_276827979) rfl rfl rfl rfl ids h.len h.get
def R106_671112452 : Prop :=
 (/-N ⟨(by kernel_rfl),REST⟩-/(ksetE prog 3 (nI 0) (nI 1) (mapI []) = some (mapI [(0,1)])) /\ (/-N ⟨(by kernel_rfl),REST⟩-/(ksetE prog 3 (nI 2) (nI 1) (mapI [(0,1)]) = some (mapI [(0,1),(2,1)])) /\ (/-N ⟨(by kernel_rfl),REST⟩-/(klookE prog 3 (nI 0) (nI 2) false (mapI [(0,1),(2,1)]) = some (nI 1)) /\ (/-N ⟨(by kernel_rfl),REST⟩-/(klookE prog 3 (nI 0) (nI 0) false (mapI [(0,1),(2,1)]) = some (nI 1)) /\ (/-N ⟨(by kernel_rfl),REST⟩-/(ksetE prog 3 (nI 2) (nI 2) (mapI [(0,1),(2,1)]) = some (mapI [(0,1),(2,2)])) /\ (true = true /\ wk (.map (some 11) : Value) (rn (sg 8 [(8,11)]) 3 (.map (some 8) : Value)) /\ (wkO (.map (mapI [(0,1),(2,2)]) : KObj) (rno (sg 8 [(8,11)]) 3 (.map (mapI [(0,1),(2,2)]) : KObj)) /\ True)))))))
theorem E106_671112452 : vF prog msk (dm 0) 100000 true 40 true 106 [.pointer (some ⟨0,0,none⟩),sL 1 2 2] (readsT 0 [[nI 5,nI 1,sL 2 5 5,nI 10,sL 3 3 3,sL 4 3 3],[nI 0,nI 2],[.bool false,.bool false,.bool false,.bool false,.bool false],[nI 0,nI 0,nI 30,nI 4,nI 40,nI 2],[sL 5 5 5,sL 6 5 5,sL 7 5 5],[nI 0,nI 1,nI 2,nI 3,nI 4],[nI 4,nI 3,nI 2,nI 1,nI 0],[nI 2,nI 1,nI 0,nI 1,nI 2]]) (some [])
 (.go 14 (.into (some [8,9,10]) (.go 3 (.into (some [8,9,10]) (.go 11 (.into (some [8,9,10]) (.go 72 (.mset (mapI [(0,1)]) (.go 17 (.mset (mapI [(0,1),(2,1)]) (.go 97 (.val (nI 1) (.go 1 (.val (nI 1) (.go 1 (.mset (mapI [(0,1),(2,2)]) (.go 9 (.again [(8,11)]))))))))))))))))))
 (newK (readsT 0 [[nI 5,nI 1,sL 2 5 5,nI 10,sL 3 3 3,sL 4 3 3],[nI 0,nI 2],[.bool false,.bool false,.bool false,.bool false,.bool false],[nI 0,nI 0,nI 30,nI 4,nI 40,nI 2],[sL 5 5 5,sL 6 5 5,sL 7 5 5],[nI 0,nI 1,nI 2,nI 3,nI 4],[nI 4,nI 3,nI 2,nI 1,nI 0],[nI 2,nI 1,nI 0,nI 1,nI 2]]).n 3 (.map (some 8)) [(false,.map (mapI [(0,1),(2,2)]))]) = R106_671112452:=by kernel_rfl
theorem P106_671112452 : R106_671112452:=⟨(by kernel_rfl),⟨(by kernel_rfl),⟨(by kernel_rfl),⟨(by kernel_rfl),⟨(by kernel_rfl),⟨rfl,wk_of_eq rfl,wkO_of_eq rfl,trivial⟩⟩⟩⟩⟩⟩
theorem C106_671112452 {H : Heap} (ids : List Nat) (h : InsA H (sgR 0 ids) ids [[nI 5,nI 1,sL 2 5 5,nI 10,sL 3 3 3,sL 4 3 3],[nI 0,nI 2],[.bool false,.bool false,.bool false,.bool false,.bool false],[nI 0,nI 0,nI 30,nI 4,nI 40,nI 2],[sL 5 5 5,sL 6 5 5,sL 7 5 5],[nI 0,nI 1,nI 2,nI 3,nI 4],[nI 4,nI 3,nI 2,nI 1,nI 0],[nI 2,nI 1,nI 0,nI 1,nI 2]]) : KCall prog 106 (([.pointer (some ⟨0,0,none⟩),sL 1 2 2] : List Value).map (rn (sgR 0 ids) 3)) H [] (Is (rn (sgUp 8 H.length) 3 (.map (some 8))) (H ++ [rno (sgUp 8 H.length) 3 (.map (mapI [(0,1),(2,2)]))])) :=
 valNA (css:=[[nI 5,nI 1,sL 2 5 5,nI 10,sL 3 3 3,sL 4 3 3],[nI 0,nI 2],[.bool false,.bool false,.bool false,.bool false,.bool false],[nI 0,nI 0,nI 30,nI 4,nI 40,nI 2],[sL 5 5 5,sL 6 5 5,sL 7 5 5],[nI 0,nI 1,nI 2,nI 3,nI 4],[nI 4,nI 3,nI 2,nI 1,nI 0],[nI 2,nI 1,nI 0,nI 1,nI 2]]) (v:=.map (some 8)) (new:=[(false,.map (mapI [(0,1),(2,2)]))]) (Eq.mpr E106_671112452 P106_671112452) rfl rfl rfl rfl ids h.len h.get
end
end Go.Proofs.YtbgfjemppjhmjaaGreat
/- Closed calls of the chapter's examples. Printed by a program. No condition. -/
namespace Go.Proofs.YtbgfjemppjhmjaaGreat
set_option linter.unusedSimpArgs false
open Go Go.K
set_option maxRecDepth 1000000
set_option maxHeartbeats 4000000
set_option linter.unusedVariables false
noncomputable section
attribute [local irreducible] vF
def R83_733418866 (sp : Value) : Prop :=
 (((someR (.cells false 0 [nI 5,nI 1,sL 2 5 5,nI 10,sL 3 3 3,sL 4 3 3] : KObj)) /\ (someR (.cells false 0 [nI 0,nI 1,nI 2] : KObj)) /\ (someR (.cells false 0 [.bool false,.bool false,.bool false,.bool false,.bool false] : KObj)) /\ (someR (.cells false 0 [nI 0,nI 0,nI 30,nI 4,nI 40,nI 2] : KObj)) /\ (someR (.cells false 0 [sL 5 5 5,sL 6 5 5,sL 7 5 5] : KObj)) /\ (someR (.cells false 0 [nI 0,nI 1,nI 2,nI 3,nI 4] : KObj)) /\ (someR (.cells false 0 [nI 4,nI 3,nI 2,nI 1,nI 0] : KObj)) /\ (someR (.cells false 0 [nI 2,nI 1,nI 0,nI 1,nI 2] : KObj)) /\ True) /\ (∀ H' : Heap,H'.length = 8 -> (H'[0]? = some (.cells false 0 [nI 5,nI 1,sL 2 5 5,nI 10,sL 3 3 3,sL 4 3 3] : KObj) /\ H'[1]? = some (.cells false 0 [nI 0,nI 1,nI 2] : KObj) /\ H'[2]? = some (.cells false 0 [.bool false,.bool false,.bool false,.bool false,.bool false] : KObj) /\ H'[3]? = some (.cells false 0 [nI 0,nI 0,nI 30,nI 4,nI 40,nI 2] : KObj) /\ H'[4]? = some (.cells false 0 [sL 5 5 5,sL 6 5 5,sL 7 5 5] : KObj) /\ H'[5]? = some (.cells false 0 [nI 0,nI 1,nI 2,nI 3,nI 4] : KObj) /\ H'[6]? = some (.cells false 0 [nI 4,nI 3,nI 2,nI 1,nI 0] : KObj) /\ H'[7]? = some (.cells false 0 [nI 2,nI 1,nI 0,nI 1,nI 2] : KObj) /\ True) -> /-N ⟨⟨rfl,rfl,rfl,rfl,rfl,rfl,rfl,rfl,trivial⟩,fun H' hl h => (by have k:=C106_733418866 (H:=H') [0,1,2,3,4,5,6,7] ⟨⟨_,_,h.1⟩,⟨_,_,h.2.1⟩,⟨_,_,h.2.2.1⟩,⟨_,_,h.2.2.2.1⟩,⟨_,_,h.2.2.2.2.1⟩,⟨_,_,h.2.2.2.2.2.1⟩,⟨_,_,h.2.2.2.2.2.2.1⟩,⟨_,_,h.2.2.2.2.2.2.2.1⟩,trivial⟩; rw [hl] at k; exact k),REST⟩-/KCall prog 106 [.pointer (some ⟨0,0,none⟩),sL 1 3 3] H' [] (Is (.map (some 8)) (H' ++ [(.map (mapI [(0,1),(1,1),(2,2)]) : KObj)]))) /\ (true = true /\ (SeenL (List.length ([(0,1),(1,1),(2,2)] : List (Int × Int))) ([] : List Nat)) /\ (true = true /\ ((nI 0 : Value) = nI (maxS [(0,1),(1,1),(2,2)] ([] : List Nat)) /\ (nI 0 : Value) = nI 0 /\ (.pointer (some ⟨9,0,none⟩) : Value) = .pointer (some ⟨9,0,none⟩) /\ True) /\ ((some (.iter 8 (List.length (mapI [(0,1),(1,1),(2,2)])) [] : KObj) = some (.iter 8 (List.length (mapI [(0,1),(1,1),(2,2)])) ([] : List Nat) : KObj) /\ belowO 10 (.iter 8 (List.length (mapI [(0,1),(1,1),(2,2)])) ([] : List Nat) : KObj) = true) /\ True) /\ (True) /\ (True)) /\ (∀ x1 : List Nat,true = true) /\ ∀ x1 : List Nat,(SeenL (List.length ([(0,1),(1,1),(2,2)] : List (Int × Int))) x1) -> ((List.length (mapI [(0,1),(1,1),(2,2)]) = (List.length (mapI [(0,1),(1,1),(2,2)]))) /\ (∀ x2 : Nat,x2 < (List.length (mapI [(0,1),(1,1),(2,2)])) -> x2 ∉ x1 -> ((List.length (mapI [(0,1),(1,1),(2,2)]) = (List.length (mapI [(0,1),(1,1),(2,2)]))) /\ (entryE (mapI [(0,1),(1,1),(2,2)]) (x1 ++ [x2]) = some (.tuple #[nI (List.getD ([(0,1),(1,1),(2,2)] : List (Int × Int)) x2 (0,0)).1,nI (List.getD ([(0,1),(1,1),(2,2)] : List (Int × Int)) x2 (0,0)).2])) /\ (∃ x1' : List Nat,(SeenL (List.length ([(0,1),(1,1),(2,2)] : List (Int × Int))) x1') /\ (List.length ([(0,1),(1,1),(2,2)] : List (Int × Int)) - List.length x1') < (List.length ([(0,1),(1,1),(2,2)] : List (Int × Int)) - List.length x1) /\ true = true /\ ((nI (if ((List.getD ([(0,1),(1,1),(2,2)] : List (Int × Int)) x2 (0,0)).2 : Int) > (maxS [(0,1),(1,1),(2,2)] x1) then ((List.getD ([(0,1),(1,1),(2,2)] : List (Int × Int)) x2 (0,0)).2 : Int) else (maxS [(0,1),(1,1),(2,2)] x1)) : Value) = nI (maxS [(0,1),(1,1),(2,2)] x1') /\ (nI 0 : Value) = nI 0 /\ (.pointer (some ⟨9,0,none⟩) : Value) = .pointer (some ⟨9,0,none⟩) /\ True) /\ ((some (.iter 8 (List.length (mapI [(0,1),(1,1),(2,2)])) (x1 ++ [x2]) : KObj) = some (.iter 8 (List.length (mapI [(0,1),(1,1),(2,2)])) x1' : KObj) /\ belowO 10 (.iter 8 (List.length (mapI [(0,1),(1,1),(2,2)])) x1' : KObj) = true) /\ True) /\ (True) /\ (True)))) /\ ((∀ x2 : Nat,x2 < (List.length (mapI [(0,1),(1,1),(2,2)])) -> x2 ∈ x1) -> (nI (maxS [(0,1),(1,1),(2,2)] x1) : Value) = sp))))
theorem E83_733418866 (sp : Value) : vF prog msk (dm 0) 100000 true 40 true 83 [.pointer (some ⟨0,0,none⟩),sL 1 3 3] (readsT 0 [[nI 5,nI 1,sL 2 5 5,nI 10,sL 3 3 3,sL 4 3 3],[nI 0,nI 1,nI 2],[.bool false,.bool false,.bool false,.bool false,.bool false],[nI 0,nI 0,nI 30,nI 4,nI 40,nI 2],[sL 5 5 5,sL 6 5 5,sL 7 5 5],[nI 0,nI 1,nI 2,nI 3,nI 4],[nI 4,nI 3,nI 2,nI 1,nI 0],[nI 2,nI 1,nI 0,nI 1,nI 2]]) (some [])
 (.go 3 (.ans [(0,.cells false 0 [nI 5,nI 1,sL 2 5 5,nI 10,sL 3 3 3,sL 4 3 3]),(1,.cells false 0 [nI 0,nI 1,nI 2]),(2,.cells false 0 [.bool false,.bool false,.bool false,.bool false,.bool false]),(3,.cells false 0 [nI 0,nI 0,nI 30,nI 4,nI 40,nI 2]),(4,.cells false 0 [sL 5 5 5,sL 6 5 5,sL 7 5 5]),(5,.cells false 0 [nI 0,nI 1,nI 2,nI 3,nI 4]),(6,.cells false 0 [nI 4,nI 3,nI 2,nI 1,nI 0]),(7,.cells false 0 [nI 2,nI 1,nI 0,nI 1,nI 2])] (.map (some 8)) [.map (mapI [(0,1),(1,1),(2,2)])] (.go 0 (.inv 3 (List Nat) (([] : List Nat)) [] [9] (fun x1 => [(5,nI (maxS [(0,1),(1,1),(2,2)] x1)),(4,nI 0),(11,.pointer (some ⟨9,0,none⟩))]) (fun x1 => [(9,true,.iter 8 (List.length (mapI [(0,1),(1,1),(2,2)])) x1)]) (fun x1 => []) (fun x1 => []) (fun x1 => (SeenL (List.length ([(0,1),(1,1),(2,2)] : List (Int × Int))) x1)) (fun x1 => (List.length ([(0,1),(1,1),(2,2)] : List (Int × Int)) - List.length x1)) (fun x1 => .nxt (fun x2 => .go 1 (.val (.tuple #[nI (List.getD ([(0,1),(1,1),(2,2)] : List (Int × Int)) x2 (0,0)).1,nI (List.getD ([(0,1),(1,1),(2,2)] : List (Int × Int)) x2 (0,0)).2]) (.go 5 (.again [])))) (.auto))))))
 (fun v _ _ => v = sp) = R83_733418866 sp:=by kernel_rfl
theorem P83_733418866 : R83_733418866 (nI 2):=⟨⟨rfl,rfl,rfl,rfl,rfl,rfl,rfl,rfl,trivial⟩,fun H' hl h => (by have k:=C106_733418866 (H:=H') [0,1,2,3,4,5,6,7] ⟨⟨_,_,h.1⟩,⟨_,_,h.2.1⟩,⟨_,_,h.2.2.1⟩,⟨_,_,h.2.2.2.1⟩,⟨_,_,h.2.2.2.2.1⟩,⟨_,_,h.2.2.2.2.2.1⟩,⟨_,_,h.2.2.2.2.2.2.1⟩,⟨_,_,h.2.2.2.2.2.2.2.1⟩,trivial⟩; rw [hl] at k; exact k),⟨rfl,seenL_0 _,⟨rfl,⟨rfl,rfl,rfl,trivial⟩,⟨⟨rfl,rfl⟩,trivial⟩,trivial,trivial⟩,fun _ => rfl,fun x hx => ⟨rfl,fun i hi hn => ⟨rfl,entI _ hi x,x ++ [i],seenL_snoc hx hi hn,seenL_more hx hi hn,rfl,⟨(by rw [maxS_snoc]),rfl,rfl,trivial⟩,⟨⟨rfl,rfl⟩,trivial⟩,trivial,trivial⟩,fun hall => iEq (maxS_all hx hall rfl)⟩⟩⟩
theorem C83_733418866 {H : Heap} (ids : List Nat) (h : InsA H (sgR 0 ids) ids [[nI 5,nI 1,sL 2 5 5,nI 10,sL 3 3 3,sL 4 3 3],[nI 0,nI 1,nI 2],[.bool false,.bool false,.bool false,.bool false,.bool false],[nI 0,nI 0,nI 30,nI 4,nI 40,nI 2],[sL 5 5 5,sL 6 5 5,sL 7 5 5],[nI 0,nI 1,nI 2,nI 3,nI 4],[nI 4,nI 3,nI 2,nI 1,nI 0],[nI 2,nI 1,nI 0,nI 1,nI 2]]) : KCall prog 83 (([.pointer (some ⟨0,0,none⟩),sL 1 3 3] : List Value).map (rn (sgR 0 ids) 3)) H [] (Is (nI 2) H) :=
 valRA (css:=[[nI 5,nI 1,sL 2 5 5,nI 10,sL 3 3 3,sL 4 3 3],[nI 0,nI 1,nI 2],[.bool false,.bool false,.bool false,.bool false,.bool false],[nI 0,nI 0,nI 30,nI 4,nI 40,nI 2],[sL 5 5 5,sL 6 5 5,sL 7 5 5],[nI 0,nI 1,nI 2,nI 3,nI 4],[nI 4,nI 3,nI 2,nI 1,nI 0],[nI 2,nI 1,nI 0,nI 1,nI 2]]) (Eq.mpr (E83_733418866 _) P83_733418866) rfl ids h.len h.get
def R83_276827979 (sp : Value) : Prop :=
 (((someR (.cells false 0 [nI 5,nI 1,sL 2 5 5,nI 10,sL 3 3 3,sL 4 3 3] : KObj)) /\ (someR (.cells false 0 [nI 0,nI 2,nI 0] : KObj)) /\ (someR (.cells false 0 [.bool false,.bool false,.bool false,.bool false,.bool false] : KObj)) /\ (someR (.cells false 0 [nI 0,nI 0,nI 30,nI 4,nI 40,nI 2] : KObj)) /\ (someR (.cells false 0 [sL 5 5 5,sL 6 5 5,sL 7 5 5] : KObj)) /\ (someR (.cells false 0 [nI 0,nI 1,nI 2,nI 3,nI 4] : KObj)) /\ (someR (.cells false 0 [nI 4,nI 3,nI 2,nI 1,nI 0] : KObj)) /\ (someR (.cells false 0 [nI 2,nI 1,nI 0,nI 1,nI 2] : KObj)) /\ True) /\ (∀ H' : Heap,H'.length = 8 -> (H'[0]? = some (.cells false 0 [nI 5,nI 1,sL 2 5 5,nI 10,sL 3 3 3,sL 4 3 3] : KObj) /\ H'[1]? = some (.cells false 0 [nI 0,nI 2,nI 0] : KObj) /\ H'[2]? = some (.cells false 0 [.bool false,.bool false,.bool false,.bool false,.bool false] : KObj) /\ H'[3]? = some (.cells false 0 [nI 0,nI 0,nI 30,nI 4,nI 40,nI 2] : KObj) /\ H'[4]? = some (.cells false 0 [sL 5 5 5,sL 6 5 5,sL 7 5 5] : KObj) /\ H'[5]? = some (.cells false 0 [nI 0,nI 1,nI 2,nI 3,nI 4] : KObj) /\ H'[6]? = some (.cells false 0 [nI 4,nI 3,nI 2,nI 1,nI 0] : KObj) /\ H'[7]? = some (.cells false 0 [nI 2,nI 1,nI 0,nI 1,nI 2] : KObj) /\ True) -> /-N ⟨⟨rfl,rfl,rfl,rfl,rfl,rfl,rfl,rfl,trivial⟩,fun H' hl h => (by have k:=C106_276827979 (H:=H') [0,1,2,3,4,5,6,7] ⟨⟨_,_,h.1⟩,⟨_,_,h.2.1⟩,⟨_,_,h.2.2.1⟩,⟨_,_,h.2.2.2.1⟩,⟨_,_,h.2.2.2.2.1⟩,⟨_,_,h.2.2.2.2.2.1⟩,⟨_,_,h.2.2.2.2.2.2.1⟩,⟨_,_,h.2.2.2.2.2.2.2.1⟩,trivial⟩; rw [hl] at k; exact k),REST⟩-/KCall prog 106 [.pointer (some ⟨0,0,none⟩),sL 1 2 3] H' [] (Is (.map (some 8)) (H' ++ [(.map (mapI [(0,1),(2,2)]) : KObj)]))) /\ (true = true /\ (SeenL (List.length ([(0,1),(2,2)] : List (Int × Int))) ([] : List Nat)) /\ (true = true /\ ((nI 0 : Value) = nI (maxS [(0,1),(2,2)] ([] : List Nat)) /\ (nI 0 : Value) = nI 0 /\ (.pointer (some ⟨9,0,none⟩) : Value) = .pointer (some ⟨9,0,none⟩) /\ True) /\ ((some (.iter 8 (List.length (mapI [(0,1),(2,2)])) [] : KObj) = some (.iter 8 (List.length (mapI [(0,1),(2,2)])) ([] : List Nat) : KObj) /\ belowO 10 (.iter 8 (List.length (mapI [(0,1),(2,2)])) ([] : List Nat) : KObj) = true) /\ True) /\ (True) /\ (True)) /\ (∀ x1 : List Nat,true = true) /\ ∀ x1 : List Nat,(SeenL (List.length ([(0,1),(2,2)] : List (Int × Int))) x1) -> ((List.length (mapI [(0,1),(2,2)]) = (List.length (mapI [(0,1),(2,2)]))) /\ (∀ x2 : Nat,x2 < (List.length (mapI [(0,1),(2,2)])) -> x2 ∉ x1 -> ((List.length (mapI [(0,1),(2,2)]) = (List.length (mapI [(0,1),(2,2)]))) /\ (entryE (mapI [(0,1),(2,2)]) (x1 ++ [x2]) = some (.tuple #[nI (List.getD ([(0,1),(2,2)] : List (Int × Int)) x2 (0,0)).1,nI (List.getD ([(0,1),(2,2)] : List (Int × Int)) x2 (0,0)).2])) /\ (∃ x1' : List Nat,(SeenL (List.length ([(0,1),(2,2)] : List (Int × Int))) x1') /\ (List.length ([(0,1),(2,2)] : List (Int × Int)) - List.length x1') < (List.length ([(0,1),(2,2)] : List (Int × Int)) - List.length x1) /\ true = true /\ ((nI (if ((List.getD ([(0,1),(2,2)] : List (Int × Int)) x2 (0,0)).2 : Int) > (maxS [(0,1),(2,2)] x1) then ((List.getD ([(0,1),(2,2)] : List (Int × Int)) x2 (0,0)).2 : Int) else (maxS [(0,1),(2,2)] x1)) : Value) = nI (maxS [(0,1),(2,2)] x1') /\ (nI 0 : Value) = nI 0 /\ (.pointer (some ⟨9,0,none⟩) : Value) = .pointer (some ⟨9,0,none⟩) /\ True) /\ ((some (.iter 8 (List.length (mapI [(0,1),(2,2)])) (x1 ++ [x2]) : KObj) = some (.iter 8 (List.length (mapI [(0,1),(2,2)])) x1' : KObj) /\ belowO 10 (.iter 8 (List.length (mapI [(0,1),(2,2)])) x1' : KObj) = true) /\ True) /\ (True) /\ (True)))) /\ ((∀ x2 : Nat,x2 < (List.length (mapI [(0,1),(2,2)])) -> x2 ∈ x1) -> (nI (maxS [(0,1),(2,2)] x1) : Value) = sp))))
theorem E83_276827979 (sp : Value) : vF prog msk (dm 0) 100000 true 40 true 83 [.pointer (some ⟨0,0,none⟩),sL 1 2 3] (readsT 0 [[nI 5,nI 1,sL 2 5 5,nI 10,sL 3 3 3,sL 4 3 3],[nI 0,nI 2,nI 0],[.bool false,.bool false,.bool false,.bool false,.bool false],[nI 0,nI 0,nI 30,nI 4,nI 40,nI 2],[sL 5 5 5,sL 6 5 5,sL 7 5 5],[nI 0,nI 1,nI 2,nI 3,nI 4],[nI 4,nI 3,nI 2,nI 1,nI 0],[nI 2,nI 1,nI 0,nI 1,nI 2]]) (some [])
 (.go 3 (.ans [(0,.cells false 0 [nI 5,nI 1,sL 2 5 5,nI 10,sL 3 3 3,sL 4 3 3]),(1,.cells false 0 [nI 0,nI 2,nI 0]),(2,.cells false 0 [.bool false,.bool false,.bool false,.bool false,.bool false]),(3,.cells false 0 [nI 0,nI 0,nI 30,nI 4,nI 40,nI 2]),(4,.cells false 0 [sL 5 5 5,sL 6 5 5,sL 7 5 5]),(5,.cells false 0 [nI 0,nI 1,nI 2,nI 3,nI 4]),(6,.cells false 0 [nI 4,nI 3,nI 2,nI 1,nI 0]),(7,.cells false 0 [nI 2,nI 1,nI 0,nI 1,nI 2])] (.map (some 8)) [.map (mapI [(0,1),(2,2)])] (.go 0 (.inv 3 (List Nat) (([] : List Nat)) [] [9] (fun x1 => [(5,nI (maxS [(0,1),(2,2)] x1)),(4,nI 0),(11,.pointer (some ⟨9,0,none⟩))]) (fun x1 => [(9,true,.iter 8 (List.length (mapI [(0,1),(2,2)])) x1)]) (fun x1 => []) (fun x1 => []) (fun x1 => (SeenL (List.length ([(0,1),(2,2)] : List (Int × Int))) x1)) (fun x1 => (List.length ([(0,1),(2,2)] : List (Int × Int)) - List.length x1)) (fun x1 => .nxt (fun x2 => .go 1 (.val (.tuple #[nI (List.getD ([(0,1),(2,2)] : List (Int × Int)) x2 (0,0)).1,nI (List.getD ([(0,1),(2,2)] : List (Int × Int)) x2 (0,0)).2]) (.go 5 (.again [])))) (.auto))))))
 (fun v _ _ => v = sp) = R83_276827979 sp:=by kernel_rfl
theorem P83_276827979 : R83_276827979 (nI 2):=⟨⟨rfl,rfl,rfl,rfl,rfl,rfl,rfl,rfl,trivial⟩,fun H' hl h => (by have k:=C106_276827979 (H:=H') [0,1,2,3,4,5,6,7] ⟨⟨_,_,h.1⟩,⟨_,_,h.2.1⟩,⟨_,_,h.2.2.1⟩,⟨_,_,h.2.2.2.1⟩,⟨_,_,h.2.2.2.2.1⟩,⟨_,_,h.2.2.2.2.2.1⟩,⟨_,_,h.2.2.2.2.2.2.1⟩,⟨_,_,h.2.2.2.2.2.2.2.1⟩,trivial⟩; rw [hl] at k; exact k),⟨rfl,seenL_0 _,⟨rfl,⟨rfl,rfl,rfl,trivial⟩,⟨⟨rfl,rfl⟩,trivial⟩,trivial,trivial⟩,fun _ => rfl,fun x hx => ⟨rfl,fun i hi hn => ⟨rfl,entI _ hi x,x ++ [i],seenL_snoc hx hi hn,seenL_more hx hi hn,rfl,⟨(by rw [maxS_snoc]),rfl,rfl,trivial⟩,⟨⟨rfl,rfl⟩,trivial⟩,trivial,trivial⟩,fun hall => iEq (maxS_all hx hall rfl)⟩⟩⟩
theorem C83_276827979 {H : Heap} (ids : List Nat) (h : InsA H (sgR 0 ids) ids [[nI 5,nI 1,sL 2 5 5,nI 10,sL 3 3 3,sL 4 3 3],[nI 0,nI 2,nI 0],[.bool false,.bool false,.bool false,.bool false,.bool false],[nI 0,nI 0,nI 30,nI 4,nI 40,nI 2],[sL 5 5 5,sL 6 5 5,sL 7 5 5],[nI 0,nI 1,nI 2,nI 3,nI 4],[nI 4,nI 3,nI 2,nI 1,nI 0],[nI 2,nI 1,nI 0,nI 1,nI 2]]) : KCall prog 83 (([.pointer (some ⟨0,0,none⟩),sL 1 2 3] : List Value).map (rn (sgR 0 ids) 3)) H [] (Is (nI 2) H) :=
 valRA (css:=[[nI 5,nI 1,sL 2 5 5,nI 10,sL 3 3 3,sL 4 3 3],[nI 0,nI 2,nI 0],[.bool false,.bool false,.bool false,.bool false,.bool false],[nI 0,nI 0,nI 30,nI 4,nI 40,nI 2],[sL 5 5 5,sL 6 5 5,sL 7 5 5],[nI 0,nI 1,nI 2,nI 3,nI 4],[nI 4,nI 3,nI 2,nI 1,nI 0],[nI 2,nI 1,nI 0,nI 1,nI 2]]) (Eq.mpr (E83_276827979 _) P83_276827979) rfl ids h.len h.get
def R83_671112452 (sp : Value) : Prop :=
 (((someR (.cells false 0 [nI 5,nI 1,sL 2 5 5,nI 10,sL 3 3 3,sL 4 3 3] : KObj)) /\ (someR (.cells false 0 [nI 0,nI 2] : KObj)) /\ (someR (.cells false 0 [.bool false,.bool false,.bool false,.bool false,.bool false] : KObj)) /\ (someR (.cells false 0 [nI 0,nI 0,nI 30,nI 4,nI 40,nI 2] : KObj)) /\ (someR (.cells false 0 [sL 5 5 5,sL 6 5 5,sL 7 5 5] : KObj)) /\ (someR (.cells false 0 [nI 0,nI 1,nI 2,nI 3,nI 4] : KObj)) /\ (someR (.cells false 0 [nI 4,nI 3,nI 2,nI 1,nI 0] : KObj)) /\ (someR (.cells false 0 [nI 2,nI 1,nI 0,nI 1,nI 2] : KObj)) /\ True) /\ (∀ H' : Heap,H'.length = 8 -> (H'[0]? = some (.cells false 0 [nI 5,nI 1,sL 2 5 5,nI 10,sL 3 3 3,sL 4 3 3] : KObj) /\ H'[1]? = some (.cells false 0 [nI 0,nI 2] : KObj) /\ H'[2]? = some (.cells false 0 [.bool false,.bool false,.bool false,.bool false,.bool false] : KObj) /\ H'[3]? = some (.cells false 0 [nI 0,nI 0,nI 30,nI 4,nI 40,nI 2] : KObj) /\ H'[4]? = some (.cells false 0 [sL 5 5 5,sL 6 5 5,sL 7 5 5] : KObj) /\ H'[5]? = some (.cells false 0 [nI 0,nI 1,nI 2,nI 3,nI 4] : KObj) /\ H'[6]? = some (.cells false 0 [nI 4,nI 3,nI 2,nI 1,nI 0] : KObj) /\ H'[7]? = some (.cells false 0 [nI 2,nI 1,nI 0,nI 1,nI 2] : KObj) /\ True) -> /-N ⟨⟨rfl,rfl,rfl,rfl,rfl,rfl,rfl,rfl,trivial⟩,fun H' hl h => (by have k:=C106_671112452 (H:=H') [0,1,2,3,4,5,6,7] ⟨⟨_,_,h.1⟩,⟨_,_,h.2.1⟩,⟨_,_,h.2.2.1⟩,⟨_,_,h.2.2.2.1⟩,⟨_,_,h.2.2.2.2.1⟩,⟨_,_,h.2.2.2.2.2.1⟩,⟨_,_,h.2.2.2.2.2.2.1⟩,⟨_,_,h.2.2.2.2.2.2.2.1⟩,trivial⟩; rw [hl] at k; exact k),REST⟩-/KCall prog 106 [.pointer (some ⟨0,0,none⟩),sL 1 2 2] H' [] (Is (.map (some 8)) (H' ++ [(.map (mapI [(0,1),(2,2)]) : KObj)]))) /\ (true = true /\ (SeenL (List.length ([(0,1),(2,2)] : List (Int × Int))) ([] : List Nat)) /\ (true = true /\ ((nI 0 : Value) = nI (maxS [(0,1),(2,2)] ([] : List Nat)) /\ (nI 0 : Value) = nI 0 /\ (.pointer (some ⟨9,0,none⟩) : Value) = .pointer (some ⟨9,0,none⟩) /\ True) /\ ((some (.iter 8 (List.length (mapI [(0,1),(2,2)])) [] : KObj) = some (.iter 8 (List.length (mapI [(0,1),(2,2)])) ([] : List Nat) : KObj) /\ belowO 10 (.iter 8 (List.length (mapI [(0,1),(2,2)])) ([] : List Nat) : KObj) = true) /\ True) /\ (True) /\ (True)) /\ (∀ x1 : List Nat,true = true) /\ ∀ x1 : List Nat,(SeenL (List.length ([(0,1),(2,2)] : List (Int × Int))) x1) -> ((List.length (mapI [(0,1),(2,2)]) = (List.length (mapI [(0,1),(2,2)]))) /\ (∀ x2 : Nat,x2 < (List.length (mapI [(0,1),(2,2)])) -> x2 ∉ x1 -> ((List.length (mapI [(0,1),(2,2)]) = (List.length (mapI [(0,1),(2,2)]))) /\ (entryE (mapI [(0,1),(2,2)]) (x1 ++ [x2]) = some (.tuple #[nI (List.getD ([(0,1),(2,2)] : List (Int × Int)) x2 (0,0)).1,nI (List.getD ([(0,1),(2,2)] : List (Int × Int)) x2 (0,0)).2])) /\ (∃ x1' : List Nat,(SeenL (List.length ([(0,1),(2,2)] : List (Int × Int))) x1') /\ (List.length ([(0,1),(2,2)] : List (Int × Int)) - List.length x1') < (List.length ([(0,1),(2,2)] : List (Int × Int)) - List.length x1) /\ true = true /\ ((nI (if ((List.getD ([(0,1),(2,2)] : List (Int × Int)) x2 (0,0)).2 : Int) > (maxS [(0,1),(2,2)] x1) then ((List.getD ([(0,1),(2,2)] : List (Int × Int)) x2 (0,0)).2 : Int) else (maxS [(0,1),(2,2)] x1)) : Value) = nI (maxS [(0,1),(2,2)] x1') /\ (nI 0 : Value) = nI 0 /\ (.pointer (some ⟨9,0,none⟩) : Value) = .pointer (some ⟨9,0,none⟩) /\ True) /\ ((some (.iter 8 (List.length (mapI [(0,1),(2,2)])) (x1 ++ [x2]) : KObj) = some (.iter 8 (List.length (mapI [(0,1),(2,2)])) x1' : KObj) /\ belowO 10 (.iter 8 (List.length (mapI [(0,1),(2,2)])) x1' : KObj) = true) /\ True) /\ (True) /\ (True)))) /\ ((∀ x2 : Nat,x2 < (List.length (mapI [(0,1),(2,2)])) -> x2 ∈ x1) -> (nI (maxS [(0,1),(2,2)] x1) : Value) = sp))))
theorem E83_671112452 (sp : Value) : vF prog msk (dm 0) 100000 true 40 true 83 [.pointer (some ⟨0,0,none⟩),sL 1 2 2] (readsT 0 [[nI 5,nI 1,sL 2 5 5,nI 10,sL 3 3 3,sL 4 3 3],[nI 0,nI 2],[.bool false,.bool false,.bool false,.bool false,.bool false],[nI 0,nI 0,nI 30,nI 4,nI 40,nI 2],[sL 5 5 5,sL 6 5 5,sL 7 5 5],[nI 0,nI 1,nI 2,nI 3,nI 4],[nI 4,nI 3,nI 2,nI 1,nI 0],[nI 2,nI 1,nI 0,nI 1,nI 2]]) (some [])
 (.go 3 (.ans [(0,.cells false 0 [nI 5,nI 1,sL 2 5 5,nI 10,sL 3 3 3,sL 4 3 3]),(1,.cells false 0 [nI 0,nI 2]),(2,.cells false 0 [.bool false,.bool false,.bool false,.bool false,.bool false]),(3,.cells false 0 [nI 0,nI 0,nI 30,nI 4,nI 40,nI 2]),(4,.cells false 0 [sL 5 5 5,sL 6 5 5,sL 7 5 5]),(5,.cells false 0 [nI 0,nI 1,nI 2,nI 3,nI 4]),(6,.cells false 0 [nI 4,nI 3,nI 2,nI 1,nI 0]),(7,.cells false 0 [nI 2,nI 1,nI 0,nI 1,nI 2])] (.map (some 8)) [.map (mapI [(0,1),(2,2)])] (.go 0 (.inv 3 (List Nat) (([] : List Nat)) [] [9] (fun x1 => [(5,nI (maxS [(0,1),(2,2)] x1)),(4,nI 0),(11,.pointer (some ⟨9,0,none⟩))]) (fun x1 => [(9,true,.iter 8 (List.length (mapI [(0,1),(2,2)])) x1)]) (fun x1 => []) (fun x1 => []) (fun x1 => (SeenL (List.length ([(0,1),(2,2)] : List (Int × Int))) x1)) (fun x1 => (List.length ([(0,1),(2,2)] : List (Int × Int)) - List.length x1)) (fun x1 => .nxt (fun x2 => .go 1 (.val (.tuple #[nI (List.getD ([(0,1),(2,2)] : List (Int × Int)) x2 (0,0)).1,nI (List.getD ([(0,1),(2,2)] : List (Int × Int)) x2 (0,0)).2]) (.go 5 (.again [])))) (.auto))))))
 (fun v _ _ => v = sp) = R83_671112452 sp:=by kernel_rfl
theorem P83_671112452 : R83_671112452 (nI 2):=⟨⟨rfl,rfl,rfl,rfl,rfl,rfl,rfl,rfl,trivial⟩,fun H' hl h => (by have k:=C106_671112452 (H:=H') [0,1,2,3,4,5,6,7] ⟨⟨_,_,h.1⟩,⟨_,_,h.2.1⟩,⟨_,_,h.2.2.1⟩,⟨_,_,h.2.2.2.1⟩,⟨_,_,h.2.2.2.2.1⟩,⟨_,_,h.2.2.2.2.2.1⟩,⟨_,_,h.2.2.2.2.2.2.1⟩,⟨_,_,h.2.2.2.2.2.2.2.1⟩,trivial⟩; rw [hl] at k; exact k),⟨rfl,seenL_0 _,⟨rfl,⟨rfl,rfl,rfl,trivial⟩,⟨⟨rfl,rfl⟩,trivial⟩,trivial,trivial⟩,fun _ => rfl,fun x hx => ⟨rfl,fun i hi hn => ⟨rfl,entI _ hi x,x ++ [i],seenL_snoc hx hi hn,seenL_more hx hi hn,rfl,⟨(by rw [maxS_snoc]),rfl,rfl,trivial⟩,⟨⟨rfl,rfl⟩,trivial⟩,trivial,trivial⟩,fun hall => iEq (maxS_all hx hall rfl)⟩⟩⟩
theorem C83_671112452 {H : Heap} (ids : List Nat) (h : InsA H (sgR 0 ids) ids [[nI 5,nI 1,sL 2 5 5,nI 10,sL 3 3 3,sL 4 3 3],[nI 0,nI 2],[.bool false,.bool false,.bool false,.bool false,.bool false],[nI 0,nI 0,nI 30,nI 4,nI 40,nI 2],[sL 5 5 5,sL 6 5 5,sL 7 5 5],[nI 0,nI 1,nI 2,nI 3,nI 4],[nI 4,nI 3,nI 2,nI 1,nI 0],[nI 2,nI 1,nI 0,nI 1,nI 2]]) : KCall prog 83 (([.pointer (some ⟨0,0,none⟩),sL 1 2 2] : List Value).map (rn (sgR 0 ids) 3)) H [] (Is (nI 2) H) :=
 valRA (css:=[[nI 5,nI 1,sL 2 5 5,nI 10,sL 3 3 3,sL 4 3 3],[nI 0,nI 2],[.bool false,.bool false,.bool false,.bool false,.bool false],[nI 0,nI 0,nI 30,nI 4,nI 40,nI 2],[sL 5 5 5,sL 6 5 5,sL 7 5 5],[nI 0,nI 1,nI 2,nI 3,nI 4],[nI 4,nI 3,nI 2,nI 1,nI 0],[nI 2,nI 1,nI 0,nI 1,nI 2]]) (Eq.mpr (E83_671112452 _) P83_671112452) rfl ids h.len h.get
end
end Go.Proofs.YtbgfjemppjhmjaaGreat
/- Closed calls of the chapter's examples. Printed by a program. No condition. -/
namespace Go.Proofs.YtbgfjemppjhmjaaGreat
set_option linter.unusedSimpArgs false
open Go Go.K
set_option maxRecDepth 1000000
set_option maxHeartbeats 4000000
set_option linter.unusedVariables false
noncomputable section
attribute [local irreducible] vF
def R41_956383489 (sp : Value) : Prop :=
 (nI 0 : Value) = sp
theorem E41_956383489 (sp : Value) : vF prog msk (dm 0) 100000 true 40 true 41 [.agg #[nI 5,nI 1,sL 0 5 5,nI 10,sL 1 3 3]] (readsT 0 [[.bool false,.bool false,.bool false,.bool false,.bool false],[nI 0,nI 0,nI 30,nI 4,nI 40,nI 2]]) (some [])
 (.auto)
 (fun v _ _ => v = sp) = R41_956383489 sp:=by kernel_rfl
theorem P41_956383489 : R41_956383489 (nI 0):=rfl
theorem C41_956383489 {H : Heap} (ids : List Nat) (h : InsA H (sgR 0 ids) ids [[.bool false,.bool false,.bool false,.bool false,.bool false],[nI 0,nI 0,nI 30,nI 4,nI 40,nI 2]]) : KCall prog 41 (([.agg #[nI 5,nI 1,sL 0 5 5,nI 10,sL 1 3 3]] : List Value).map (rn (sgR 0 ids) 3)) H [] (Is (nI 0) H) :=
 valRA (css:=[[.bool false,.bool false,.bool false,.bool false,.bool false],[nI 0,nI 0,nI 30,nI 4,nI 40,nI 2]]) (Eq.mpr (E41_956383489 _) P41_956383489) rfl ids h.len h.get
def R114_868361596 : Prop :=
 (true = true /\ wk (sL 2 5 5 : Value) (rn (sg 1 [(1,2)]) 3 (sL 1 5 5 : Value)) /\ (wkO (.cells true 1 [nI 0,nI 1,nI 2,nI 3,nI 4] : KObj) (rno (sg 1 [(1,2)]) 3 (.cells true 1 [nI 0,nI 1,nI 2,nI 3,nI 4] : KObj)) /\ True))
theorem E114_868361596 : vF prog msk (dm 0) 100000 true 40 true 114 [.agg #[nI 5,nI 1,sL 0 5 5],nI 0] (readsT 0 [[.bool false,.bool false,.bool false,.bool false,.bool false]]) (some [])
 (.go 1543 (.again [(1,2)]))
 (newK (readsT 0 [[.bool false,.bool false,.bool false,.bool false,.bool false]]).n 3 (sL 1 5 5) [(false,.cells true 1 [nI 0,nI 1,nI 2,nI 3,nI 4])]) = R114_868361596:=by kernel_rfl
theorem P114_868361596 : R114_868361596:=⟨rfl,wk_of_eq rfl,wkO_of_eq rfl,trivial⟩
theorem C114_868361596 {H : Heap} (ids : List Nat) (h : InsA H (sgR 0 ids) ids [[.bool false,.bool false,.bool false,.bool false,.bool false]]) : KCall prog 114 (([.agg #[nI 5,nI 1,sL 0 5 5],nI 0] : List Value).map (rn (sgR 0 ids) 3)) H [] (Is (rn (sgUp 1 H.length) 3 (sL 1 5 5)) (H ++ [rno (sgUp 1 H.length) 3 (.cells true 1 [nI 0,nI 1,nI 2,nI 3,nI 4])])) :=
 valNA (css:=[[.bool false,.bool false,.bool false,.bool false,.bool false]]) (v:=sL 1 5 5) (new:=[(false,.cells true 1 [nI 0,nI 1,nI 2,nI 3,nI 4])]) (Eq.mpr E114_868361596 P114_868361596) rfl rfl rfl rfl ids h.len h.get
def R114_16177380 : Prop :=
 (true = true /\ wk (sL 2 5 5 : Value) (rn (sg 1 [(1,2)]) 3 (sL 1 5 5 : Value)) /\ (wkO (.cells true 1 [nI 4,nI 3,nI 2,nI 1,nI 0] : KObj) (rno (sg 1 [(1,2)]) 3 (.cells true 1 [nI 4,nI 3,nI 2,nI 1,nI 0] : KObj)) /\ True))
theorem E114_16177380 : vF prog msk (dm 0) 100000 true 40 true 114 [.agg #[nI 5,nI 1,sL 0 5 5],nI 4] (readsT 0 [[.bool false,.bool false,.bool false,.bool false,.bool false]]) (some [])
 (.go 1543 (.again [(1,2)]))
 (newK (readsT 0 [[.bool false,.bool false,.bool false,.bool false,.bool false]]).n 3 (sL 1 5 5) [(false,.cells true 1 [nI 4,nI 3,nI 2,nI 1,nI 0])]) = R114_16177380:=by kernel_rfl
theorem P114_16177380 : R114_16177380:=⟨rfl,wk_of_eq rfl,wkO_of_eq rfl,trivial⟩
theorem C114_16177380 {H : Heap} (ids : List Nat) (h : InsA H (sgR 0 ids) ids [[.bool false,.bool false,.bool false,.bool false,.bool false]]) : KCall prog 114 (([.agg #[nI 5,nI 1,sL 0 5 5],nI 4] : List Value).map (rn (sgR 0 ids) 3)) H [] (Is (rn (sgUp 1 H.length) 3 (sL 1 5 5)) (H ++ [rno (sgUp 1 H.length) 3 (.cells true 1 [nI 4,nI 3,nI 2,nI 1,nI 0])])) :=
 valNA (css:=[[.bool false,.bool false,.bool false,.bool false,.bool false]]) (v:=sL 1 5 5) (new:=[(false,.cells true 1 [nI 4,nI 3,nI 2,nI 1,nI 0])]) (Eq.mpr E114_16177380 P114_16177380) rfl rfl rfl rfl ids h.len h.get
def R114_391959661 : Prop :=
 (true = true /\ wk (sL 2 5 5 : Value) (rn (sg 1 [(1,2)]) 3 (sL 1 5 5 : Value)) /\ (wkO (.cells true 1 [nI 2,nI 1,nI 0,nI 1,nI 2] : KObj) (rno (sg 1 [(1,2)]) 3 (.cells true 1 [nI 2,nI 1,nI 0,nI 1,nI 2] : KObj)) /\ True))
theorem E114_391959661 : vF prog msk (dm 0) 100000 true 40 true 114 [.agg #[nI 5,nI 1,sL 0 5 5],nI 2] (readsT 0 [[.bool false,.bool false,.bool false,.bool false,.bool false]]) (some [])
 (.go 1543 (.again [(1,2)]))
 (newK (readsT 0 [[.bool false,.bool false,.bool false,.bool false,.bool false]]).n 3 (sL 1 5 5) [(false,.cells true 1 [nI 2,nI 1,nI 0,nI 1,nI 2])]) = R114_391959661:=by kernel_rfl
theorem P114_391959661 : R114_391959661:=⟨rfl,wk_of_eq rfl,wkO_of_eq rfl,trivial⟩
theorem C114_391959661 {H : Heap} (ids : List Nat) (h : InsA H (sgR 0 ids) ids [[.bool false,.bool false,.bool false,.bool false,.bool false]]) : KCall prog 114 (([.agg #[nI 5,nI 1,sL 0 5 5],nI 2] : List Value).map (rn (sgR 0 ids) 3)) H [] (Is (rn (sgUp 1 H.length) 3 (sL 1 5 5)) (H ++ [rno (sgUp 1 H.length) 3 (.cells true 1 [nI 2,nI 1,nI 0,nI 1,nI 2])])) :=
 valNA (css:=[[.bool false,.bool false,.bool false,.bool false,.bool false]]) (v:=sL 1 5 5) (new:=[(false,.cells true 1 [nI 2,nI 1,nI 0,nI 1,nI 2])]) (Eq.mpr E114_391959661 P114_391959661) rfl rfl rfl rfl ids h.len h.get
def R41_417788160 (sp : Value) : Prop :=
 (nI 0 : Value) = sp
theorem E41_417788160 (sp : Value) : vF prog msk (dm 0) 100000 true 40 true 41 [.agg #[nI 5,nI 1,sL 0 5 5,nI 10,sL 1 2 2]] (readsT 0 [[.bool false,.bool false,.bool false,.bool false,.bool false],[nI 0,nI 0,nI 40,nI 2]]) (some [])
 (.auto)
 (fun v _ _ => v = sp) = R41_417788160 sp:=by kernel_rfl
theorem P41_417788160 : R41_417788160 (nI 0):=rfl
theorem C41_417788160 {H : Heap} (ids : List Nat) (h : InsA H (sgR 0 ids) ids [[.bool false,.bool false,.bool false,.bool false,.bool false],[nI 0,nI 0,nI 40,nI 2]]) : KCall prog 41 (([.agg #[nI 5,nI 1,sL 0 5 5,nI 10,sL 1 2 2]] : List Value).map (rn (sgR 0 ids) 3)) H [] (Is (nI 0) H) :=
 valRA (css:=[[.bool false,.bool false,.bool false,.bool false,.bool false],[nI 0,nI 0,nI 40,nI 2]]) (Eq.mpr (E41_417788160 _) P41_417788160) rfl ids h.len h.get
end
end Go.Proofs.YtbgfjemppjhmjaaGreat
