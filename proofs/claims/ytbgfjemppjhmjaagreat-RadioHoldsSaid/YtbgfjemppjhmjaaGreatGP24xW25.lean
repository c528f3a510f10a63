/- Radio: a track at work: can, agree, all, conflicts. No condition. -/
import Derived.Test.YtbgfjemppjhmjaaGreatGW20xO24g
import Derived.Test.YtbgfjemppjhmjaaGreatGP3xP7
import Derived.Test.YtbgfjemppjhmjaaGreatGW2xO3g
namespace Go.Proofs.YtbgfjemppjhmjaaGreat
open Go Go.K
set_option maxRecDepth 100000
set_option linter.unusedVariables false
set_option linter.unusedSimpArgs false
noncomputable section
attribute [local irreducible] vF
structure RowsOk (a : List Bool) (ss : List (Int × Int)) (rr : List (List Int)) : Prop where
 len : rr.length = ss.length
 row : ∀ k, k < ss.length -> (rr.getD k []).length = a.length /\ ∀ c, c < a.length -> 0 <= (rr.getD k []).getD c 0 /\ (rr.getD k []).getD c 0 <= farI
theorem spAt0 {l : List (Int × Int)} {k off : Nat} (h : k < l.length) (ho : off = k * 2) : (l.flatMap spC)[off]? = some (.int .i64 (l.getD k zeroSp).1) := cell_at (c := 0) (d := zeroSp) spC_len h (by omega) rfl
theorem spAt1 {l : List (Int × Int)} {k off : Nat} (h : k < l.length) (ho : off = k * 2 + 1) : (l.flatMap spC)[off]? = some (.int .i64 (l.getD k zeroSp).2) := cell_at (c := 1) (d := zeroSp) spC_len h (by omega) rfl
theorem hvCan {o1 o2 : Bool} {z1 z2 : Nat} {w h : Int} {a : List Bool} {p : Int} {ss : List (Int × Int)} {rr : List (List Int)} {i : Nat} {c m : Int} (t : TrOk w h a p ss) (r : RowsOk a ss rr) (hi : i < ss.length) (hc : 0 <= c /\ c < (a.length : Int)) (hm : -1000000 <= m /\ m <= 1000000) : Rcan o1 o2 z1 z2 w h a p ss rr i c m := by
 have hl := r.len
 obtain ⟨r1, r2⟩ := r.row i hi
 have hb := r2 (Int.toNat c) (by omega)
 have hs := t.bd hi
 have hp := t.pace
 delta Rcan kq6 kq4 kqa
 refine ⟨⟨by omega, by omega⟩, inL_at (by omega) (by omega), ⟨hc.1, by rw [r1]; exact hc.2⟩, intAt (by omega) (by omega), fun k => ?_, fun k => ?_⟩
 ·have h1 := of_decide_eq_true k
  obtain ⟨e, he⟩ : ∃ e, (rr.getD i []).getD (Int.toNat c) 0 = e := ⟨_, rfl⟩
  rw [he] at h1 hb
  have hep : 0 <= e * p /\ e * p <= 1073741824 * 1000 := ⟨Int.mul_nonneg hb.1 (by omega), Int.mul_le_mul (by omega) hp.2 (by omega) (by omega)⟩
  refine ⟨by rw [he]; exact vI64 (by omega), ⟨by omega, by omega⟩, spAt0 hi (by omega), vI64 (by omega), ⟨by omega, by omega⟩, spAt0 hi (by omega), vI64 (by omega), rfl, wk_of_eq ?_, trivial⟩
  show Value.bool _ = Value.bool _
  congr 1
  unfold canB
  rw [he, decide_eq_true (show e < farI from h1), Bool.true_and]; rfl
 ·refine ⟨rfl, wk_of_eq ?_, trivial⟩
  show Value.bool _ = Value.bool _
  congr 1
  unfold canB
  have h1 := of_decide_eq_false k
  rw [decide_eq_false (show ¬ _ < farI from h1)]; rfl
def WkAt (H : Heap) (o1 o2 : Bool) (z1 z2 : Nat) (w h : Int) (a : List Bool) (p : Int) (ss : List (Int × Int)) (rr : List (List Int)) (i j r q : Nat) : Prop :=
 [i, j, r, q].Nodup /\ H[i]? = some (.cells o1 z1 (a.flatMap boolC)) /\ H[j]? = some (.cells o2 z2 (ss.flatMap spC)) /\ H[r]? = some (.cells true 0 (wkCs w h a p ss rr i j q)) /\ H[q]? = some (.cells true 1 (inL rr))
theorem wkA_ok (o1 o2 : Bool) (z1 z2 : Nat) (w h : Int) (a : List Bool) (p : Int) (ss : List (Int × Int)) (rr : List (List Int)) : [KObj.cells o1 z1 (a.flatMap boolC), .cells o2 z2 (ss.flatMap spC), .cells true 0 (wkCs w h a p ss rr 0 1 3), .cells true 1 (inL rr)].all (rnoOk 3) = true := by
 show (rnoOk 3 (.cells o1 z1 (a.flatMap boolC)) && (rnoOk 3 (.cells o2 z2 (ss.flatMap spC)) && (rnoOk 3 (.cells true 0 (wkCs w h a p ss rr 0 1 3)) && (rnoOk 3 (.cells true 1 (inL rr)) && true)))) = true
 rw [boolRok, spRok, inLRok]; rfl
theorem WkAt.objs {H : Heap} {o1 o2 : Bool} {z1 z2 : Nat} {w h : Int} {a : List Bool} {p : Int} {ss : List (Int × Int)} {rr : List (List Int)} {i j r q : Nat} (k : WkAt H o1 o2 z1 z2 w h a p ss rr i j r q) :
  objsAt H (sgI [i, j, r, q]) [i, j, r, q] [.cells o1 z1 (a.flatMap boolC), .cells o2 z2 (ss.flatMap spC), .cells true 0 (wkCs w h a p ss rr 0 1 3), .cells true 1 (inL rr)] :=
 ⟨by rw [boolRno]; exact k.2.1, by rw [spRno]; exact k.2.2.1, k.2.2.2.1, by rw [inLRno]; exact k.2.2.2.2, trivial⟩
theorem kCan {w h : Int} {a : List Bool} {p : Int} {ss : List (Int × Int)} {rr : List (List Int)} (t : TrOk w h a p ss) (rk : RowsOk a ss rr) {x : Nat} {c m : Int} (hx : x < ss.length) (hc : 0 <= c /\ c < (a.length : Int)) (hm : -1000000 <= m /\ m <= 1000000) {H : Heap} {o1 o2 : Bool} {z1 z2 i j r q : Nat} (k : WkAt H o1 o2 z1 z2 w h a p ss rr i j r q) :
  KCall prog 79 [.pointer (some ⟨r, 0, none⟩), .int .i64 (x : Int), .int .i64 c, .int .i64 m] H [] (Is (.bool (canB p ss rr x c m)) H) := by
 have key := valKs (fun _ => .bool (canB p ss rr x c m)) (new := []) (Eq.mpr (Ecan o1 o2 z1 z2 w h a p ss rr x c m) (hvCan t rk hx hc hm)) (wkA_ok ..) rfl trivial k.1 k.objs (fun j => rfl) (args' := [.pointer (some ⟨r, 0, none⟩), .int .i64 (x : Int), .int .i64 c, .int .i64 m]) rfl
 rwa [List.append_nil] at key
theorem kAgree {w h : Int} {a : List Bool} {p : Int} {ss : List (Int × Int)} {rr : List (List Int)} (t : TrOk w h a p ss) (rk : RowsOk a ss rr) {x y : Nat} (hx : x < ss.length) (hy : y < ss.length) {H : Heap} {o1 o2 : Bool} {z1 z2 i j r q : Nat} (k : WkAt H o1 o2 z1 z2 w h a p ss rr i j r q) :
  KCall prog 87 [.pointer (some ⟨r, 0, none⟩), .int .i64 (x : Int), .int .i64 (y : Int)] H [] (Is (.bool (agrB p ss rr x y)) H) := by
 have hb := t.bd hy
 have key := valKs (fun _ => .bool (agrB p ss rr x y)) (new := []) (Eq.mpr (Eagree o1 o2 z1 z2 w h a p ss rr x y) (show Ragree o1 o2 z1 z2 w h a p ss rr x y by
   delta Ragree kq4 kq5 kq6
   exact ⟨⟨by omega, by omega⟩, spAt1 hy (by omega), ⟨by omega, by omega⟩, spAt0 hy (by omega), ⟨rfl, rfl, rfl, rfl, trivial⟩, fun H' _ h' => kCan t rk hx hb.2 (by omega) ⟨by decide, h'.2.1, h'.2.2.1, h'.1, h'.2.2.2.1⟩, rfl, wk_refl _, trivial⟩)) (wkA_ok ..) rfl trivial k.1 k.objs (fun j => rfl) (args' := [.pointer (some ⟨r, 0, none⟩), .int .i64 (x : Int), .int .i64 (y : Int)]) rfl
 rwa [List.append_nil] at key
theorem allL_len (n : Nat) : (allL n).length = n := tabP_len ..
theorem allL_succ (n : Nat) : allL (n + 1) = allL n ++ [(n : Int)] := tabP_succ ..
theorem hvAll {o1 o2 : Bool} {z1 z2 : Nat} {w h : Int} {a : List Bool} {p : Int} {ss : List (Int × Int)} {rr : List (List Int)} (hs : ss.length <= 100000) : Rall o1 o2 z1 z2 w h a p ss rr := by
 delta Rall kq4 kq3 kq8
 refine ⟨rfl, Nat.zero_le _, ?_, fun _ => rfl, fun x hx => ⟨fun k => ?_, fun k => ?_⟩⟩
 ·repeat' first | exact wk_nil _ _ _ (.inl rfl) | exact rfl | exact wk_refl _ | exact wks_nil | exact wk_nil _ _ _ (.inl rfl) | apply And.intro
 ·have h1 : x < ss.length := by have := of_decide_eq_true k; omega
  have hl := allL_len x
  refine ⟨⟨by omega, by decide, ⟨Nat.le_refl _, by rw [flat_len intC_len]; omega⟩, ⟨Nat.le_refl _, by simp⟩, rfl⟩, rfl, vI64 (by omega), x + 1, by omega, by omega, rfl, ?_⟩
  repeat' first | exact wk_snoc (allL_succ x) | exact ob_snoc intC_len (allL_succ x) rfl | exact plainIL _ _ | exact rfl | exact wk_refl _ | exact wks_nil | exact wk_nil _ _ _ (.inl rfl) | apply And.intro
 ·have h1 : x = ss.length := by have := of_decide_eq_false k; omega
  rw [h1]
  repeat' first | exact plainIL _ _ | exact rfl | exact wk_refl _ | exact wks_nil | exact wk_nil _ _ _ (.inl rfl) | apply And.intro
theorem kAll {w h : Int} {a : List Bool} {p : Int} {ss : List (Int × Int)} {rr : List (List Int)} (hs : ss.length <= 100000) {H : Heap} {o1 o2 : Bool} {z1 z2 i j r q : Nat} (k : WkAt H o1 o2 z1 z2 w h a p ss rr i j r q) :
  KCall prog 77 [.pointer (some ⟨r, 0, none⟩)] H [] (Is (.slice (some ⟨H.length, 0, some 1⟩) (allL ss.length).length (allL ss.length).length) (H ++ [.cells true 1 ((allL ss.length).flatMap intC)])) :=
 valKs (fun j => .slice (some ⟨j, 0, some 1⟩) (allL ss.length).length (allL ss.length).length) (new := [.cells true 1 ((allL ss.length).flatMap intC)]) (Eq.mpr (Eall o1 o2 z1 z2 w h a p ss rr) (hvAll hs)) (wkA_ok ..) rfl ⟨⟨_, _, rfl, plainIL _ _⟩, trivial⟩ k.1 k.objs (fun j => rfl) rfl
theorem cfRow_le (p : Int) (ss : List (Int × Int)) (rr : List (List Int)) (x y : Nat) : (cfRow p ss rr x y).length <= y := by
 unfold cfRow
 rw [List.length_map]
 exact Nat.le_trans (List.length_filter_le ..) (by simp)
theorem cfRow_0 (p : Int) (ss : List (Int × Int)) (rr : List (List Int)) (x : Nat) : cfRow p ss rr x (x + 1) = [] := by
 unfold cfRow
 rw [List.filter_eq_nil_iff.2 (fun k hk => by
  have := List.mem_range.1 hk
  rw [decide_eq_false (by omega)]; simp)]
 rfl
theorem cfRow_yes {p : Int} {ss : List (Int × Int)} {rr : List (List Int)} {x y : Nat} (h : x < y) (e : agrB p ss rr x y = false) : cfRow p ss rr x (y + 1) = cfRow p ss rr x y ++ [((x : Int), (y : Int))] := by
 unfold cfRow
 rw [List.range_succ, List.filter_append, List.map_append]
 simp [h, e]
theorem cfRow_no {p : Int} {ss : List (Int × Int)} {rr : List (List Int)} {x y : Nat} (e : agrB p ss rr x y = true) : cfRow p ss rr x (y + 1) = cfRow p ss rr x y := by
 unfold cfRow
 rw [List.range_succ, List.filter_append, List.map_append]
 simp [e]
theorem cfTo_succ (p : Int) (ss : List (Int × Int)) (rr : List (List Int)) (x : Nat) : cfTo p ss rr (x + 1) = cfTo p ss rr x ++ cfRow p ss rr x ss.length := by
 unfold cfTo
 rw [List.range_succ, List.flatMap_append]; simp
theorem cfTo_le (p : Int) (ss : List (Int × Int)) (rr : List (List Int)) (x : Nat) : (cfTo p ss rr x).length <= x * ss.length := by
 induction x with
 | zero => simp [cfTo]
 | succ x ih =>
  rw [cfTo_succ, List.length_append]
  have := cfRow_le p ss rr x ss.length
  rw [Nat.succ_mul]; omega
theorem spB (n : Nat) (l : List (Int × Int)) : belowO n (.cells true 2 (l.flatMap spC)) = true := plainSp n l
theorem wkQL {α : Type} {id : Nat} {L M : List α} (h : L = M) : wk (.slice (some ⟨id, 0, some 1⟩) L.length L.length) (.slice (some ⟨id, 0, some 1⟩) M.length M.length) := by rw [h]; exact wk_refl _
theorem obE {own : Bool} {z : Nat} {L M : List (Int × Int)} (h : L = M) : (some (KObj.cells own z (L.flatMap spC)) : Option KObj) = some (.cells own z (M.flatMap spC)) := by rw [h]
theorem hvConf {o1 o2 : Bool} {z1 z2 : Nat} {w h : Int} {a : List Bool} {p : Int} {ss : List (Int × Int)} {rr : List (List Int)} (t : TrOk w h a p ss) (rk : RowsOk a ss rr) : Rconf o1 o2 z1 z2 w h a p ss rr := by
 have hs := t.few
 delta Rconf kq4 kq3 kq9 kq8 kq2 kq5 kq7
 refine ⟨rfl, Nat.zero_le _, ?_, fun _ => rfl, fun x hx => ⟨fun k => ?_, fun k => ?_⟩⟩
 ·repeat' first | exact wk_nil _ _ _ (.inl rfl) | exact rfl | exact wk_refl _ | exact wks_nil | exact wk_nil _ _ _ (.inl rfl) | apply And.intro
 ·have h1 : x < ss.length := by have := of_decide_eq_true k; omega
  refine ⟨vI64 (by omega), rfl, ⟨by omega, .inr rfl⟩, ?_, fun _ => rfl, fun y hy => ⟨fun ky => ?_, fun ky => ?_⟩⟩
  ·have e0 : cfTo p ss rr x = cfTo p ss rr x ++ cfRow p ss rr x (x + 1) := by rw [cfRow_0, List.append_nil]
   repeat' first | exact wkQL e0 | exact obE e0 | exact spB _ _ | exact rfl | exact wk_refl _ | exact wks_nil | exact wk_nil _ _ _ (.inl rfl) | apply And.intro
  ·have h2 : y < ss.length := by have := of_decide_eq_true ky; omega
   have hle : (cfTo p ss rr x ++ cfRow p ss rr x y).length <= 500 := by
    rw [List.length_append]
    have a1 := cfTo_le p ss rr x
    have a2 := cfRow_le p ss rr x y
    have a3 : x * ss.length <= 20 * 20 := Nat.mul_le_mul (by omega) hs
    omega
   refine ⟨⟨rfl, rfl, rfl, rfl, trivial⟩, fun H' _ h' => kAgree t rk h1 h2 ⟨by decide, h'.2.1, h'.2.2.1, h'.1, h'.2.2.2.1⟩, fun b => ?_, fun b => ?_⟩
   ·have e0 : cfTo p ss rr x ++ cfRow p ss rr x (y + 1) = (cfTo p ss rr x ++ cfRow p ss rr x y) ++ [((x : Int), (y : Int))] := by rw [cfRow_yes hy.1 (notB b), List.append_assoc]
    refine ⟨⟨by omega, by decide, ⟨Nat.le_refl _, by rw [flat_len spC_len]; omega⟩, ⟨Nat.le_refl _, by simp⟩, rfl⟩, rfl, vI64 (by omega), y + 1, ⟨by omega, by omega⟩, by omega, rfl, ?_⟩
    repeat' first | exact wk_snoc e0 | exact ob_snoc spC_len e0 rfl | exact spB _ _ | exact rfl | exact wk_refl _ | exact wks_nil | exact wk_nil _ _ _ (.inl rfl) | apply And.intro
   ·have e0 : cfTo p ss rr x ++ cfRow p ss rr x y = cfTo p ss rr x ++ cfRow p ss rr x (y + 1) := by rw [cfRow_no (notB2 b)]
    refine ⟨vI64 (by omega), y + 1, ⟨by omega, by omega⟩, by omega, rfl, ?_⟩
    repeat' first | exact wkQL e0 | exact obE e0 | exact spB _ _ | exact rfl | exact wk_refl _ | exact wks_nil | exact wk_nil _ _ _ (.inl rfl) | apply And.intro
  ·have h2 : y = ss.length := by have := of_decide_eq_false ky; omega
   have e0 : cfTo p ss rr x ++ cfRow p ss rr x y = cfTo p ss rr (x + 1) := by rw [cfTo_succ, h2]
   refine ⟨vI64 (by omega), x + 1, by omega, by omega, rfl, ?_⟩
   repeat' first | exact wkQL e0 | exact obE e0 | exact spB _ _ | exact rfl | exact wk_refl _ | exact wks_nil | exact wk_nil _ _ _ (.inl rfl) | apply And.intro
 ·have h1 : x = ss.length := by have := of_decide_eq_false k; omega
  rw [h1]
  repeat' first | exact spB _ _ | exact rfl | exact wk_refl _ | exact wks_nil | exact wk_nil _ _ _ (.inl rfl) | apply And.intro
theorem kConf {w h : Int} {a : List Bool} {p : Int} {ss : List (Int × Int)} {rr : List (List Int)} (t : TrOk w h a p ss) (rk : RowsOk a ss rr) {H : Heap} {o1 o2 : Bool} {z1 z2 i j r q : Nat} (k : WkAt H o1 o2 z1 z2 w h a p ss rr i j r q) :
  KCall prog 74 [.pointer (some ⟨r, 0, none⟩)] H [] (Is (.slice (some ⟨H.length, 0, some 1⟩) (cfTo p ss rr ss.length).length (cfTo p ss rr ss.length).length) (H ++ [.cells true 2 ((cfTo p ss rr ss.length).flatMap spC)])) :=
 valKs (fun j => .slice (some ⟨j, 0, some 1⟩) (cfTo p ss rr ss.length).length (cfTo p ss rr ss.length).length) (new := [.cells true 2 ((cfTo p ss rr ss.length).flatMap spC)]) (Eq.mpr (Econf o1 o2 z1 z2 w h a p ss rr) (hvConf t rk)) (wkA_ok ..) rfl ⟨⟨_, _, rfl, plainSp _ _⟩, trivial⟩ k.1 k.objs (fun j => rfl) rfl
end
end Go.Proofs.YtbgfjemppjhmjaaGreat
/- Radio: where a ship can be and when, as plain functions. No condition. -/
namespace Go.Proofs.YtbgfjemppjhmjaaGreat
set_option linter.unusedSimpArgs false
open Go Go.K
set_option linter.unusedVariables false
noncomputable section
def mnI (x y : Int) : Int := if y < x then y else x
def clrB (p : Int) (ss : List (Int × Int)) (rr : List (List Int)) (c m : Int) (x : Nat) : Bool := (List.range x).all fun i => canB p ss rr i c m
def whL (a : List Bool) (p : Int) (ss : List (Int × Int)) (rr : List (List Int)) (m : Int) (x : Nat) : List Int := ((List.range x).filter fun c : Nat => seaB a c && clrB p ss rr c m ss.length).map fun c : Nat => (c : Int)
def lsT (ss : List (Int × Int)) (x : Nat) : Int := (ss.take x).foldl (fun b s => mnI b s.1) 100000
def msT (ss : List (Int × Int)) (x : Nat) : Int := (ss.take x).foldl (fun b s => mxI b s.1) 0
def stC (rr : List (List Int)) (i : Nat) (c : Int) : Int := (rr.getD i []).getD (Int.toNat c) 0
def notT (p : Int) (ss : List (Int × Int)) (rr : List (List Int)) (c : Int) (x : Nat) : List (Int × Int) := tabP (fun i : Nat => ((ss.getD i zeroSp).1 - stC rr i c * p + 1, (ss.getD i zeroSp).1 + stC rr i c * p - 1)) x
def farT (rr : List (List Int)) (c : Int) (x : Nat) : Bool := (List.range x).any fun i => decide (stC rr i c = farI)
def scan (most : Int) (st : Int × List (Int × Int)) (x : Int × Int) : Int × List (Int × Int) :=
 if x.1 > x.2 then st else (mxI st.1 (x.2 + 1), if x.1 > st.1 /\ st.1 <= most then st.2 ++ [(st.1, mnI (x.1 - 1) most)] else st.2)
def scanT (least most : Int) (S : List (Int × Int)) (k : Nat) : Int × List (Int × Int) := (S.take k).foldl (scan most) (least, [])
def notF (N : List (Int × Int)) (m : Int) : Bool := N.any fun x => decide (x.1 <= m) && decide (m <= x.2)
def addR (l : List (Int × Int)) (m : Int) : List (Int × Int) := match l.getLast? with
 | some x => if x.2 + 1 = m then l.dropLast ++ [(x.1, m)] else l ++ [(m, m)]
 | none => [(m, m)]
def runs (f : Int -> Bool) (lo : Int) : Nat -> List (Int × Int)
 | 0 => []
 | n + 1 => if f (lo + (n : Int)) = true then addR (runs f lo n) (lo + (n : Int)) else runs f lo n
def tmL (p : Int) (ss : List (Int × Int)) (rr : List (List Int)) (c : Int) : List (Int × Int) :=
 if farT rr c ss.length = true then [] else runs (fun m => !notF (notT p ss rr c ss.length) m) (lsT ss ss.length) (Int.toNat (msT ss ss.length - lsT ss ss.length + 1))
def SortS (L M : List (Int × Int)) : Prop := L.Perm M /\ M.Pairwise fun x y => x.1 <= y.1
def wtW (L : List Int) (n : Int) : Int := 2 + dN L n 5
def wtH (L : List Int) (n : Int) : Int := 2 + dN L (n + 1) 4
end
end Go.Proofs.YtbgfjemppjhmjaaGreat
/- What is to be shown of functions. Printed by a program. No condition. -/
namespace Go.Proofs.YtbgfjemppjhmjaaGreat
set_option linter.unusedSimpArgs false
open Go Go.K
set_option maxRecDepth 100000
set_option maxHeartbeats 4000000
set_option linter.unusedVariables false
noncomputable section
abbrev kd5 (w : Int) (h : Int) (a : List Bool) (ss : List (Int × Int)):=rowT w h a ss ss.length
abbrev kd3 (w : Int) (h : Int) (a : List Bool) (p : Int) (ss : List (Int × Int)) : List Value:=[nI w,nI h,slQ 0 2 a.length,nI p,slQ 1 2 ss.length,slQ 5 1 (kd5 w h a ss).length]
abbrev kdb (a : List Bool) (p : Int) (ss : List (Int × Int)) (w : Int) (h : Int) (m : Int) : Value:=.tuple #[slQ 2 1 (whL a p ss (kd5 w h a ss) m a.length).length,nI 0]
abbrev kd8 (w : Int) (h : Int) (a : List Bool) (p : Int) (ss : List (Int × Int)) (o1 : Bool) (z1 : Nat) (o2 : Bool) (z2 : Nat) : Prop:=(someR (.cells true 0 (kd3 w h a p ss))) /\ (someR (.cells o1 z1 (a.flatMap boolC))) /\ (someR (.cells o2 z2 (ss.flatMap spC))) /\ (someR (.cells true 1 (inL (kd5 w h a ss)))) /\ True
abbrev kd6 (H' : Heap) (w : Int) (h : Int) (a : List Bool) (p : Int) (ss : List (Int × Int)) (o1 : Bool) (z1 : Nat) (o2 : Bool) (z2 : Nat) : Prop:=H'[4]? = some (.cells true 0 (kd3 w h a p ss) : KObj) /\ H'[0]? = some (.cells o1 z1 (a.flatMap boolC) : KObj) /\ H'[1]? = some (.cells o2 z2 (ss.flatMap spC) : KObj) /\ H'[5]? = some (.cells true 1 (inL (kd5 w h a ss)) : KObj) /\ True
abbrev kd4 (a : List Bool) : Prop:=(.pointer (some ⟨3,0,none⟩) : Value) = .pointer (some ⟨3,0,none⟩) /\ (.slice none 0 0 : Value) = .slice none 0 0 /\ (nI 0 : Value) = nI 0 /\ (.pointer (some ⟨6,0,none⟩) : Value) = .pointer (some ⟨6,0,none⟩) /\ (nI ((a.length : Nat) : Int) : Value) = nI ((a.length : Nat) : Int) /\ True
abbrev kd9 (ss : List (Int × Int)):=allL ss.length
abbrev kd0 : Value:=.func (.func 78) #[] #[.pointer (some ⟨6,0,none⟩),.pointer (some ⟨9,0,none⟩),.pointer (some ⟨3,0,none⟩)]
abbrev kd7 (ss : List (Int × Int)) : Prop:=kd0 = .func (.func 78) #[] #[.pointer (some ⟨6,0,none⟩),.pointer (some ⟨9,0,none⟩),.pointer (some ⟨3,0,none⟩)] /\ wkR (slQ 10 1 (kd9 ss).length) /\ (nI (((kd9 ss).length : Nat) : Int) : Value) = nI (((kd9 ss).length : Nat) : Int) /\ True
abbrev kd2 (a : List Bool) (p : Int) (ss : List (Int × Int)) (w : Int) (h : Int) (m : Int) (n_0 : Nat) : Prop:=(((whL a p ss (kd5 w h a ss) m n_0).length + 1) * 8 <= 2 ^ 44 /\ 1 ≠ 0 /\ ((whL a p ss (kd5 w h a ss) m n_0).length <= (whL a p ss (kd5 w h a ss) m n_0).length /\ 0 + (whL a p ss (kd5 w h a ss) m n_0).length * 1 <= List.length ((whL a p ss (kd5 w h a ss) m n_0).flatMap intC)) /\ (1 <= 1 /\ 0 + 1 * 1 <= List.length ([nI (n_0 : Int)] : List Value)) /\ (((([nI (n_0 : Int)] : List Value).drop 0).take (1 * 1)) : List Value).all (fun v => one1 v) = true) /\ true = true /\ ((nI (IntKind.wrap .i64 ((n_0 : Int) + 1)) : Value) = nI ((n_0 : Int) + 1) /\ (∃ n_2' : Nat,(n_2' <= List.length a) /\ (List.length a - n_2') < (List.length a - n_0) /\ true = true /\ ((nI ((n_0 : Int) + 1) : Value) = nI (n_2' : Int) /\ wk (.slice (some ⟨12,0,none⟩) ((whL a p ss (kd5 w h a ss) m n_0).length + 1) ((whL a p ss (kd5 w h a ss) m n_0).length + 1) : Value) (slQ 12 1 (whL a p ss (kd5 w h a ss) m n_2').length : Value) /\ kd4 a) /\ (True) /\ ((some (.cells true 1 (((((whL a p ss (kd5 w h a ss) m n_0).flatMap intC).drop 0).take ((whL a p ss (kd5 w h a ss) m n_0).length * 1)) ++ ((([nI (n_0 : Int)] : List Value).drop 0).take (1 * 1))) : KObj) = some (.cells true 1 ((whL a p ss (kd5 w h a ss) m n_2').flatMap intC) : KObj) /\ belowO 8 (.cells true 1 ((whL a p ss (kd5 w h a ss) m n_2').flatMap intC) : KObj) = true) /\ True) /\ (True)))
def Rwhere (o1 o2 : Bool) (z1 z2 : Nat) (w h : Int) (a : List Bool) (p : Int) (ss : List (Int × Int)) (m : Int) : Prop :=
 (((someR (.cells o1 z1 (a.flatMap boolC))) /\ (someR (.cells o2 z2 (ss.flatMap spC))) /\ True) /\ (∀ H' : Heap,H'.length = 4 -> (H'[0]? = some (.cells o1 z1 (a.flatMap boolC) : KObj) /\ H'[1]? = some (.cells o2 z2 (ss.flatMap spC) : KObj) /\ True) -> KCall prog 72 [.agg #[nI w,nI h,slQ 0 2 a.length,nI p,slQ 1 2 ss.length]] H' [] (Is (.tuple #[.pointer (some ⟨4,0,none⟩),nI 0]) (H' ++ [(.cells true 0 (kd3 w h a p ss) : KObj),(.cells true 1 (inL (kd5 w h a ss)) : KObj)]))) /\ (((decide ((0 : Int) <= m)) = true -> (((!(decide ((m : Int) <= 100000))) = true -> (true = true /\ wk (.tuple #[.slice none 0 0,nI 6] : Value) (rn (sg 2 []) 3 (kdb a p ss w h m)) /\ (True /\ True))) /\ ((!(decide ((m : Int) <= 100000))) = false -> ((kd8 w h a p ss o1 z1 o2 z2) /\ (∀ H' : Heap,H'.length = 7 -> (kd6 H' w h a p ss o1 z1 o2 z2) -> KCall prog 74 [.pointer (some ⟨4,0,none⟩)] H' [] (Is (slQ 7 1 (cfTo p ss (kd5 w h a ss) ss.length).length) (H' ++ [(.cells true 2 ((cfTo p ss (kd5 w h a ss) ss.length).flatMap spC) : KObj)]))) /\ (((decide ((0 : Int) < (((cfTo p ss (kd5 w h a ss) ss.length).length : Nat) : Int))) = true -> (true = true /\ wk (.tuple #[.slice none 0 0,nI 9] : Value) (rn (sg 2 []) 3 (kdb a p ss w h m)) /\ (True /\ True))) /\ ((decide ((0 : Int) < (((cfTo p ss (kd5 w h a ss) ss.length).length : Nat) : Int))) = false -> (true = true /\ (0 <= List.length a) /\ (true = true /\ ((nI 0 : Value) = nI ((0 : Nat) : Int) /\ wk (.slice none 0 0 : Value) (slQ 0 1 (whL a p ss (kd5 w h a ss) m 0).length : Value) /\ kd4 a) /\ (True) /\ (True /\ True) /\ (True)) /\ (∀ n_0 : Nat,true = true) /\ ∀ n_0 : Nat,(n_0 <= List.length a) -> (((decide (((n_0 : Int) : Int) < ((a.length : Nat) : Int))) = true -> (((someR (.cells o1 z1 (a.flatMap boolC))) /\ True) /\ (∀ H' : Heap,H'.length = 10 -> (H'[0]? = some (.cells o1 z1 (a.flatMap boolC) : KObj) /\ True) -> KCall prog 75 [.agg #[nI w,nI h,slQ 0 2 a.length],nI (n_0 : Int)] H' [] (Is (.bool (seaB a (n_0 : Int))) H')) /\ (((seaB a (n_0 : Int)) = true -> ((kd8 w h a p ss o1 z1 o2 z2) /\ (∀ H' : Heap,H'.length = 10 -> (kd6 H' w h a p ss o1 z1 o2 z2) -> KCall prog 77 [.pointer (some ⟨4,0,none⟩)] H' [] (Is (slQ 10 1 (kd9 ss).length) (H' ++ [(.cells true 1 ((kd9 ss).flatMap intC) : KObj)]))) /\ (true = true /\ ((0) <= List.length (kd9 ss) /\ clrB p ss (kd5 w h a ss) (n_0 : Int) m (0) = true) /\ (true = true /\ ((nI 0 : Value) = nI (((0) : Nat) : Int) /\ kd7 ss) /\ (True) /\ (True) /\ (True)) /\ (∀ n_1 : Nat,true = true) /\ ∀ n_1 : Nat,(n_1 <= List.length (kd9 ss) /\ clrB p ss (kd5 w h a ss) (n_0 : Int) m n_1 = true) -> (((decide (((n_1 : Int) : Int) < (((kd9 ss).length : Nat) : Int))) = true -> (((0 : Int) <= (n_1 : Int) /\ ((n_1 : Int) : Int) < (((kd9 ss).length : Nat) : Int)) /\ ((((kd9 ss).flatMap intC)[(0 + Int.toNat (n_1 : Int) * 1)]? = some (nI ((kd9 ss).getD n_1 0))) /\ ((kd8 w h a p ss o1 z1 o2 z2) /\ (∀ H' : Heap,H'.length = 11 -> (kd6 H' w h a p ss o1 z1 o2 z2) -> KCall prog 79 [.pointer (some ⟨4,0,none⟩),nI ((kd9 ss).getD n_1 0),nI (n_0 : Int),nI m] H' [] (Is (.bool (canB p ss (kd5 w h a ss) ((kd9 ss).getD n_1 0).toNat (n_0 : Int) m)) H')) /\ (((!(canB p ss (kd5 w h a ss) ((kd9 ss).getD n_1 0).toNat (n_0 : Int) m)) = true -> (((!(decide ((0 : Int) <= (n_1 : Int)))) = true -> (kd2 a p ss w h m n_0)) /\ ((!(decide ((0 : Int) <= (n_1 : Int)))) = false -> ((nI (IntKind.wrap .i64 ((n_0 : Int) + 1)) : Value) = nI ((n_0 : Int) + 1) /\ (∃ n_2' : Nat,(n_2' <= List.length a) /\ (List.length a - n_2') < (List.length a - n_0) /\ true = true /\ ((nI ((n_0 : Int) + 1) : Value) = nI (n_2' : Int) /\ wk (slQ 8 1 (whL a p ss (kd5 w h a ss) m n_0).length : Value) (slQ 8 1 (whL a p ss (kd5 w h a ss) m n_2').length : Value) /\ kd4 a) /\ (True) /\ ((some (.cells true 1 ((whL a p ss (kd5 w h a ss) m n_0).flatMap intC) : KObj) = some (.cells true 1 ((whL a p ss (kd5 w h a ss) m n_2').flatMap intC) : KObj) /\ belowO 8 (.cells true 1 ((whL a p ss (kd5 w h a ss) m n_2').flatMap intC) : KObj) = true) /\ True) /\ (True)))))) /\ ((!(canB p ss (kd5 w h a ss) ((kd9 ss).getD n_1 0).toNat (n_0 : Int) m)) = false -> ((nI (IntKind.wrap .i64 ((n_1 : Int) + 1)) : Value) = nI ((n_1 : Int) + 1) /\ (∃ n_2' : Nat,(n_2' <= List.length (kd9 ss) /\ clrB p ss (kd5 w h a ss) (n_0 : Int) m n_2' = true) /\ (List.length (kd9 ss) - n_2') < (List.length (kd9 ss) - n_1) /\ true = true /\ ((nI ((n_1 : Int) + 1) : Value) = nI (n_2' : Int) /\ kd7 ss) /\ (True) /\ (True) /\ (True))))))))) /\ ((decide (((n_1 : Int) : Int) < (((kd9 ss).length : Nat) : Int))) = false -> (kd2 a p ss w h m n_0)))))) /\ ((seaB a (n_0 : Int)) = false -> ((nI (IntKind.wrap .i64 ((n_0 : Int) + 1)) : Value) = nI ((n_0 : Int) + 1) /\ (∃ n_1' : Nat,(n_1' <= List.length a) /\ (List.length a - n_1') < (List.length a - n_0) /\ true = true /\ ((nI ((n_0 : Int) + 1) : Value) = nI (n_1' : Int) /\ wk (slQ 8 1 (whL a p ss (kd5 w h a ss) m n_0).length : Value) (slQ 8 1 (whL a p ss (kd5 w h a ss) m n_1').length : Value) /\ kd4 a) /\ (True) /\ ((some (.cells true 1 ((whL a p ss (kd5 w h a ss) m n_0).flatMap intC) : KObj) = some (.cells true 1 ((whL a p ss (kd5 w h a ss) m n_1').flatMap intC) : KObj) /\ belowO 8 (.cells true 1 ((whL a p ss (kd5 w h a ss) m n_1').flatMap intC) : KObj) = true) /\ True) /\ (True))))))) /\ ((decide (((n_0 : Int) : Int) < ((a.length : Nat) : Int))) = false -> (true = true /\ wk (.tuple #[slQ 8 1 (whL a p ss (kd5 w h a ss) m n_0).length,nI 0] : Value) (rn (sg 2 [(2,8)]) 3 (kdb a p ss w h m)) /\ ((some (.cells true 1 ((whL a p ss (kd5 w h a ss) m n_0).flatMap intC) : KObj) = some (.cells true 1 ((whL a p ss (kd5 w h a ss) m a.length).flatMap intC) : KObj) /\ belowO 2 (.cells true 1 ((whL a p ss (kd5 w h a ss) m a.length).flatMap intC) : KObj) = true) /\ True))))))))))) /\ ((decide ((0 : Int) <= m)) = false -> (true = true /\ wk (.tuple #[.slice none 0 0,nI 6] : Value) (rn (sg 2 []) 3 (kdb a p ss w h m)) /\ (True /\ True)))))
abbrev kda (w : Int) (h : Int) (a : List Bool) (p : Int) (ss : List (Int × Int)) (o1 : Bool) (z1 : Nat) (o2 : Bool) (z2 : Nat) : List (Nat × KObj):=[(4,.cells true 0 (kd3 w h a p ss)),(0,.cells o1 z1 (a.flatMap boolC)),(1,.cells o2 z2 (ss.flatMap spC)),(5,.cells true 1 (inL (kd5 w h a ss)))]
abbrev kd1 (qn0 : Nat) (qn1 : Nat) (qn2 : Nat) : Hint:=.go qn0 (.slot 56 (nI ((qn1 : Int) + 1)) (.go 0 (.again [(8,qn2)])))
theorem Ewhere (o1 o2 : Bool) (z1 z2 : Nat) (w h : Int) (a : List Bool) (p : Int) (ss : List (Int × Int)) (m : Int) : vF prog msk (dm 0) 100000 true 40 true 18 [.agg #[nI w,nI h,slQ 0 2 a.length,nI p,slQ 1 2 ss.length],nI m] (readsK [.cells o1 z1 (a.flatMap boolC),.cells o2 z2 (ss.flatMap spC)]) (some [])
 (.go 4 (.ans [(0,.cells o1 z1 (a.flatMap boolC)),(1,.cells o2 z2 (ss.flatMap spC))] (.tuple #[.pointer (some ⟨4,0,none⟩),nI 0]) [.cells true 0 (kd3 w h a p ss),.cells true 1 (inL (kd5 w h a ss))] (.go 16 (.gfork (.go 6 (.fork (.go 1 (.again [])) (.go 0 (.ans (kda w h a p ss o1 z1 o2 z2) (slQ 7 1 (cfTo p ss (kd5 w h a ss) ss.length).length) [.cells true 2 ((cfTo p ss (kd5 w h a ss) ss.length).flatMap spC)] (.go 2 (.fork (.go 1 (.again [])) (.go 8 (.inv 3 (Nat) (0) [] [] (fun n_0 => [(35,nI (n_0 : Int)),(8,slQ 8 1 (whL a p ss (kd5 w h a ss) m n_0).length),(3,.pointer (some ⟨3,0,none⟩)),(4,.slice none 0 0),(5,nI 0),(6,.pointer (some ⟨6,0,none⟩)),(34,nI ((a.length : Nat) : Int))]) (fun n_0 => []) (fun n_0 => [(true,.cells true 1 ((whL a p ss (kd5 w h a ss) m n_0).flatMap intC))]) (fun n_0 => []) (fun n_0 => (n_0 <= List.length a)) (fun n_0 => (List.length a - n_0)) (fun n_0 => .go 0 (.fork (.go 8 (.ans [(0,.cells o1 z1 (a.flatMap boolC))] (.bool (seaB a (n_0 : Int))) [] (.go 0 (.gfork (.go 1 (.ans (kda w h a p ss o1 z1 o2 z2) (slQ 10 1 (kd9 ss).length) [.cells true 1 ((kd9 ss).flatMap intC)] (.go 8 (.inv 3 (Nat) ((0)) [] [] (fun n_1 => [(8,nI (n_1 : Int)),(1,.func (.func 78) #[] #[.pointer (some ⟨6,0,none⟩),.pointer (some ⟨9,0,none⟩),.pointer (some ⟨3,0,none⟩)]),(0,slQ 10 1 (kd9 ss).length),(7,nI (((kd9 ss).length : Nat) : Int))]) (fun n_1 => []) (fun n_1 => []) (fun n_1 => []) (fun n_1 => (n_1 <= List.length (kd9 ss) /\ clrB p ss (kd5 w h a ss) (n_0 : Int) m n_1 = true)) (fun n_1 => (List.length (kd9 ss) - n_1)) (fun n_1 => .go 0 (.fork (.go 4 (.need (.val (nI ((kd9 ss).getD n_1 0)) (.go 5 (.ans (kda w h a p ss o1 z1 o2 z2) (.bool (canB p ss (kd5 w h a ss) ((kd9 ss).getD n_1 0).toNat (n_0 : Int) m)) [] (.go 1 (.fork (.go 5 (.fork (.go 2 (.need (kd1 1 n_0 12))) (kd1 0 n_0 8))) (.go 0 (.slot 18 (nI ((n_1 : Int) + 1)) (.go 0 (.again []))))))))))) (.go 8 (.need (kd1 1 n_0 12))))))))) (kd1 2 n_0 8))))) (.go 2 (.again [(2,8)])))))))))))) (.go 6 (.again []))))))
 (newK ((readsK [.cells o1 z1 (a.flatMap boolC),.cells o2 z2 (ss.flatMap spC)]) : HT).n 3 (.tuple #[slQ 2 1 (whL a p ss (kd5 w h a ss) m a.length).length,nI 0]) [(true,.cells true 1 ((whL a p ss (kd5 w h a ss) m a.length).flatMap intC))]) = Rwhere o1 o2 z1 z2 w h a p ss m:=by kernel_rfl
end
end Go.Proofs.YtbgfjemppjhmjaaGreat
/- Radio: where a ship can be. No condition. -/
namespace Go.Proofs.YtbgfjemppjhmjaaGreat
open Go Go.K
set_option maxRecDepth 100000
set_option linter.unusedVariables false
set_option linter.unusedSimpArgs false
noncomputable section
attribute [local irreducible] vF
theorem nodupI : ∀ (X l : List Int), X.Nodup -> (∀ m ∈ X, m ∈ l) -> X.length <= l.length
 | [], _, _, _ => Nat.zero_le _
 | a :: X, l, h, hs => by
  rw [List.nodup_cons] at h
  have ih := nodupI X (l.erase a) h.2 fun m hm => (List.mem_erase_of_ne fun e => h.1 (by rw [<- e]; exact hm)).2 (hs m (List.mem_cons_of_mem _ hm))
  have ha := hs a (List.mem_cons_self ..)
  rw [List.length_erase_of_mem ha] at ih
  have := List.length_pos_of_mem ha
  rw [List.length_cons]; omega
theorem lst_one {w h : Int} {a : List Bool} {f c : Int} {n m : Nat} (x : Lst w h a f c n) (y : Lst w h a f c m) : n = m := by
 have := x.2 m y.1
 have := y.2 n x.1
 omega
theorem wy_in {w h : Int} {a : List Bool} {f c : Int} {n : Nat} (b : BasOk w h a.length) (hf : 0 <= f /\ f < (a.length : Int)) (q : Wy w h a f n c) : 0 <= c /\ c < (a.length : Int) := by
 cases q with
 | base => exact hf
 | step j hj hw hb => exact nb_in b hb.1.1 hb.1.2
theorem lst_chain {w h : Int} {a : List Bool} {f : Int} (b : BasOk w h a.length) (hf : 0 <= f /\ f < (a.length : Int)) : ∀ (n : Nat) (c : Int), Lst w h a f c n -> ∃ X : List Int, X.Nodup /\ X.length = n + 1 /\ ∀ x ∈ X, (0 <= x /\ x < (a.length : Int)) /\ ∃ k, k <= n /\ Lst w h a f x k := by
 intro n
 induction n with
 | zero => exact fun c q => ⟨[c], by simp, rfl, fun x hx => by rw [List.mem_singleton.1 hx]; exact ⟨wy_in b hf q.1, 0, Nat.le_refl _, q⟩⟩
 | succ n ih =>
  intro c q
  have q0 := q
  obtain ⟨q1, q2⟩ := q
  cases q1 with
  | @step _ i j hj hw hb =>
   have hp : Lst w h a f i n := ⟨hw, fun m hm => by have := q2 (m + 1) (.step j hj hm hb); omega⟩
   obtain ⟨X, x1, x2, x3⟩ := ih i hp
   refine ⟨nbT w i j :: X, List.nodup_cons.2 ⟨fun hx => ?_, x1⟩, by rw [List.length_cons, x2], fun x hx => ?_⟩
   ·obtain ⟨_, k, k1, k2⟩ := x3 _ hx
    have := lst_one k2 q0
    omega
   ·rcases List.mem_cons.1 hx with rfl | hx
    ·exact ⟨nb_in b hb.1.1 hb.1.2, n + 1, Nat.le_refl _, q0⟩
    ·obtain ⟨y1, k, k1, k2⟩ := x3 _ hx
     exact ⟨y1, k, by omega, k2⟩
theorem lst_le {w h : Int} {a : List Bool} {f c : Int} {n : Nat} (b : BasOk w h a.length) (hf : 0 <= f /\ f < (a.length : Int)) (q : Lst w h a f c n) : n + 1 <= a.length := by
 obtain ⟨X, x1, x2, x3⟩ := lst_chain b hf n c q
 have := nodupI X ((List.range a.length).map fun k : Nat => (k : Int)) x1 (fun x hx => by
  have := (x3 x hx).1
  exact List.mem_map.2 ⟨Int.toNat x, List.mem_range.2 (by omega), by omega⟩)
 rw [List.length_map, List.length_range] at this
 omega
theorem wy_lst {w h : Int} {a : List Bool} {f c : Int} : ∀ {n : Nat}, Wy w h a f n c -> ∃ m, m <= n /\ Lst w h a f c m := by
 intro n
 induction n using Nat.strongRecOn with
 | ind n ih =>
  intro q
  by_cases hx : ∃ m, m < n /\ Wy w h a f m c
  ·obtain ⟨m, hm, hq⟩ := hx
   obtain ⟨k, k1, k2⟩ := ih m hm hq
   exact ⟨k, by omega, k2⟩
  ·exact ⟨n, Nat.le_refl _, q, fun m hm => Nat.le_of_not_lt fun hl => hx ⟨m, hl, hm⟩⟩
theorem dstI_bd {w h : Int} {a : List Bool} {f : Int} (b : BasOk w h a.length) (hf : 0 <= f /\ f < (a.length : Int)) (c : Int) : 0 <= dstI w h a f c /\ (dstI w h a f c < 1024 ∨ dstI w h a f c = farI) := by
 by_cases q : ∃ n, Lst w h a f c n
 ·obtain ⟨n, hn⟩ := q
  have := lst_le b hf hn
  have h1 := b.n1
  have h2 := b.p1
  rw [dst_is hn]; omega
 ·have e : dstI w h a f c = farI := by unfold dstI; rw [dif_neg q]
  rw [e]; unfold farI; omega
theorem dstL_row {w h : Int} {a : List Bool} {f : Int} (b : BasOk w h a.length) (hf : 0 <= f /\ f < (a.length : Int)) : (dstL w h a f).length = a.length /\ ∀ c, c < a.length -> 0 <= (dstL w h a f).getD c 0 /\ (dstL w h a f).getD c 0 <= farI := by
 refine ⟨tabP_len .., fun c hc => ?_⟩
 rw [show (dstL w h a f).getD c 0 = dstI w h a f (c : Int) from tabP_get hc]
 have := dstI_bd b hf (c : Int)
 unfold farI at *
 omega
theorem rowsOk {w h : Int} {a : List Bool} {p : Int} {ss : List (Int × Int)} (t : TrOk w h a p ss) : RowsOk a ss (trkRows w h a ss) :=
 ⟨rowT_len .., fun k hk => by
  have e : (trkRows w h a ss).getD k [] = dstL w h a (ss.getD k zeroSp).2 := tabP_get hk
  rw [e]
  exact dstL_row t.bas (t.bd hk).2⟩
theorem clrB_succ {p : Int} {ss : List (Int × Int)} {rr : List (List Int)} {c m : Int} {x : Nat} (h : clrB p ss rr c m x = true) (h1 : canB p ss rr x c m = true) : clrB p ss rr c m (x + 1) = true := by
 unfold clrB at h ⊢
 rw [List.range_succ, List.all_append, h, List.all_cons, h1]; rfl
theorem clrB_no {p : Int} {ss : List (Int × Int)} {rr : List (List Int)} {c m : Int} {x n : Nat} (hx : x < n) (h1 : canB p ss rr x c m = false) : clrB p ss rr c m n = false := by
 unfold clrB
 rw [Bool.eq_false_iff]
 intro h
 rw [List.all_eq_true] at h
 have := h x (List.mem_range.2 hx)
 rw [h1] at this; cases this
theorem whL_yes {a : List Bool} {p : Int} {ss : List (Int × Int)} {rr : List (List Int)} {m : Int} {x : Nat} (h1 : seaB a x = true) (h2 : clrB p ss rr x m ss.length = true) : whL a p ss rr m (x + 1) = whL a p ss rr m x ++ [(x : Int)] := by
 unfold whL
 rw [List.range_succ, List.filter_append, List.map_append]
 simp [h1, h2]
theorem whL_no {a : List Bool} {p : Int} {ss : List (Int × Int)} {rr : List (List Int)} {m : Int} {x : Nat} (h : (seaB a x && clrB p ss rr x m ss.length) = false) : whL a p ss rr m (x + 1) = whL a p ss rr m x := by
 unfold whL
 rw [List.range_succ, List.filter_append, List.map_append]
 simp only [List.filter_cons, h]
 simp
theorem whL_le (a : List Bool) (p : Int) (ss : List (Int × Int)) (rr : List (List Int)) (m : Int) (x : Nat) : (whL a p ss rr m x).length <= x := by
 unfold whL
 rw [List.length_map]
 exact Nat.le_trans (List.length_filter_le ..) (by simp)
theorem obI {own : Bool} {z : Nat} {L M : List Int} (h : L = M) : (some (KObj.cells own z (L.flatMap intC)) : Option KObj) = some (.cells own z (M.flatMap intC)) := by rw [h]
theorem allL_at {n x : Nat} (h : x < n) : (allL n).getD x 0 = (x : Int) := tabP_get h
theorem hvWhere {o1 o2 : Bool} {z1 z2 : Nat} {w h : Int} {a : List Bool} {p : Int} {ss : List (Int × Int)} {m : Int} (t : TrOk w h a p ss) (e0 : errT w h a p ss = 0) (hm : 0 <= m /\ m <= 100000) (hc : cfTo p ss (trkRows w h a ss) ss.length = []) : Rwhere o1 o2 z1 z2 w h a p ss m := by
 have hs := t.few
 have hn := t.bas.n1
 have hp1 := t.bas.p1
 have ha : a.length <= 1024 := by omega
 have rk := rowsOk t
 delta Rwhere kd5 kd3 kdb kd8 kd6 kd4 kd9 kd0 kd7 kd2
 refine ⟨⟨rfl, rfl, trivial⟩, fun H' hH h => (by have := kOpen0 (by omega) (by omega) e0 (by decide) h.1 h.2.1; rw [hH] at this; exact this), fun k1 => ⟨fun k2 => absurd (of_decide_eq_false (notB k2)) (by omega), fun k2 => ⟨⟨rfl, rfl, rfl, rfl, trivial⟩, fun H' hH h => hH ▸ kConf t rk ⟨by decide, h.2.1, h.2.2.1, h.1, h.2.2.2.1⟩, fun k3 => ?_, fun k3 => ?_⟩⟩, fun k1 => absurd (of_decide_eq_false k1) (by omega)⟩
 ·have := of_decide_eq_true k3
  rw [show (rowT w h a ss ss.length) = trkRows w h a ss from rfl, hc] at this
  exact absurd this (by simp)
 refine ⟨rfl, Nat.zero_le _, ?_, fun _ => rfl, fun x hx => ⟨fun k => ?_, fun k => ?_⟩⟩
 ·repeat' first | exact wk_nil _ _ _ (.inl rfl) | exact rfl | exact wk_refl _ | exact wks_nil | exact wk_nil _ _ _ (.inl rfl) | apply And.intro
 ·have h1 : x < a.length := by have := of_decide_eq_true k; omega
  have hle := whL_le a p ss (rowT w h a ss ss.length) m x
  have hyes : seaB a x = true -> clrB p ss (rowT w h a ss ss.length) x m ss.length = true -> whL a p ss (rowT w h a ss ss.length) m (x + 1) = whL a p ss (rowT w h a ss ss.length) m x ++ [(x : Int)] := whL_yes
  refine ⟨⟨rfl, trivial⟩, fun H' _ h => kSea _ _ _ _ (by omega) h.1, fun b => ⟨⟨rfl, rfl, rfl, rfl, trivial⟩, fun H' hH h => hH ▸ kAll (by omega) ⟨by decide, h.2.1, h.2.2.1, h.1, h.2.2.2.1⟩, rfl, ⟨Nat.zero_le _, rfl⟩, ?_, fun _ => rfl, fun y hy => ⟨fun ky => ?_, fun ky => ?_⟩⟩, fun b => ?_⟩
  ·repeat' first | exact rfl | exact wk_refl _ | exact wks_nil | exact wk_nil _ _ _ (.inl rfl) | apply And.intro
  ·have h2 : y < ss.length := by have := of_decide_eq_true ky; rw [allL_len] at this; omega
   have e1 := allL_at h2
   have hl := allL_len ss.length
   rw [e1]
   refine ⟨⟨by omega, by omega⟩, by rw [intAt (k := y) (by omega) (by omega), e1], ⟨rfl, rfl, rfl, rfl, trivial⟩, fun H' _ h => kCan t rk h2 ⟨by omega, by omega⟩ (by omega) ⟨by decide, h.2.1, h.2.2.1, h.1, h.2.2.2.1⟩, fun q => ⟨fun q2 => absurd (of_decide_eq_false (notB q2)) (by omega), fun q2 => ?_⟩, fun q => ?_⟩
   ·have e2 : whL a p ss (rowT w h a ss ss.length) m x = whL a p ss (rowT w h a ss ss.length) m (x + 1) := (whL_no (by rw [clrB_no h2 (notB q), Bool.and_false])).symm
    refine ⟨vI64 (by omega), x + 1, by omega, by omega, rfl, ?_⟩
    repeat' first | exact wkQL e2 | exact obI e2 | exact plainIL _ _ | exact rfl | exact wk_refl _ | exact wks_nil | exact wk_nil _ _ _ (.inl rfl) | apply And.intro
   ·refine ⟨vI64 (by omega), y + 1, ⟨by omega, clrB_succ hy.2 (notB2 q)⟩, by omega, rfl, ?_⟩
    repeat' first | exact rfl | exact wk_refl _ | exact wks_nil | exact wk_nil _ _ _ (.inl rfl) | apply And.intro
  ·have h2 : y = ss.length := by have := of_decide_eq_false ky; have := hy.1; rw [allL_len] at *; omega
   have e2 := hyes b (h2 ▸ hy.2)
   refine ⟨⟨by omega, by decide, ⟨Nat.le_refl _, by rw [flat_len intC_len]; omega⟩, ⟨Nat.le_refl _, by simp⟩, rfl⟩, rfl, vI64 (by omega), x + 1, by omega, by omega, rfl, ?_⟩
   repeat' first | exact wk_snoc e2 | exact ob_snoc intC_len e2 rfl | exact plainIL _ _ | exact rfl | exact wk_refl _ | exact wks_nil | exact wk_nil _ _ _ (.inl rfl) | apply And.intro
  ·have e2 : whL a p ss (rowT w h a ss ss.length) m x = whL a p ss (rowT w h a ss ss.length) m (x + 1) := (whL_no (by rw [b, Bool.false_and])).symm
   refine ⟨vI64 (by omega), x + 1, by omega, by omega, rfl, ?_⟩
   repeat' first | exact wkQL e2 | exact obI e2 | exact plainIL _ _ | exact rfl | exact wk_refl _ | exact wks_nil | exact wk_nil _ _ _ (.inl rfl) | apply And.intro
 ·have h1 : x = a.length := by have := of_decide_eq_false k; omega
  rw [h1]
  repeat' first | exact plainIL _ _ | exact rfl | exact wk_refl _ | exact wks_nil | exact wk_nil _ _ _ (.inl rfl) | apply And.intro
theorem kWhere {w h : Int} {a : List Bool} {p : Int} {ss : List (Int × Int)} {m : Int} (e0 : errT w h a p ss = 0) (hm : 0 <= m /\ m <= 100000) (hc : cfTo p ss (trkRows w h a ss) ss.length = []) {H : Heap} {i j : Nat} (hne : i ≠ j) {o1 o2 : Bool} {z1 z2 : Nat} (hi : H[i]? = some (.cells o1 z1 (a.flatMap boolC))) (hj : H[j]? = some (.cells o2 z2 (ss.flatMap spC))) :
  KCall prog 18 [trkV w h a p ss i j, .int .i64 m] H [] (Is (.tuple #[.slice (some ⟨H.length, 0, some 1⟩) (whL a p ss (trkRows w h a ss) m a.length).length (whL a p ss (trkRows w h a ss) m a.length).length, .int .i64 0]) (H ++ [.cells true 1 ((whL a p ss (trkRows w h a ss) m a.length).flatMap intC)])) :=
 valKs (fun j => .tuple #[.slice (some ⟨j, 0, some 1⟩) (whL a p ss (trkRows w h a ss) m a.length).length (whL a p ss (trkRows w h a ss) m a.length).length, .int .i64 0]) (new := [.cells true 1 ((whL a p ss (trkRows w h a ss) m a.length).flatMap intC)]) (Eq.mpr (Ewhere o1 o2 z1 z2 w h a p ss m) (hvWhere (trOk e0) e0 hm hc)) (trk_ok ..) rfl ⟨⟨_, _, rfl, plainIL _ _⟩, trivial⟩ (ids := [i, j]) (by simp [hne]) (trk_objs hi hj) (fun j => rfl) rfl
end
end Go.Proofs.YtbgfjemppjhmjaaGreat
/- Radio: the minutes at which a ship can be in a cell: plain laws. No condition. -/
namespace Go.Proofs.YtbgfjemppjhmjaaGreat
set_option linter.unusedSimpArgs false
open Go Go.K
set_option linter.unusedVariables false
theorem addR_nil (m : Int) : addR [] m = [(m, m)] := rfl
theorem addR_snoc (l : List (Int × Int)) (x : Int × Int) (m : Int) : addR (l ++ [x]) m = if x.2 + 1 = m then l ++ [(x.1, m)] else l ++ [x] ++ [(m, m)] := by
 unfold addR
 simp
theorem runs_succ (f : Int -> Bool) (lo : Int) (n : Nat) : runs f lo (n + 1) = if f (lo + (n : Int)) = true then addR (runs f lo n) (lo + (n : Int)) else runs f lo n := rfl
structure RunI (f : Int -> Bool) (lo hi : Int) (l : List (Int × Int)) : Prop where
 mem : ∀ x ∈ l, lo <= x.1 /\ x.1 <= x.2 /\ x.2 < hi /\ ∀ m, x.1 <= m -> m <= x.2 -> f m = true
 cov : ∀ m, lo <= m -> m < hi -> f m = true -> ∃ x ∈ l, x.1 <= m /\ m <= x.2
 gap : l.Pairwise fun x y => x.2 + 1 < y.1
theorem runs_I (f : Int -> Bool) (lo : Int) (n : Nat) : RunI f lo (lo + (n : Int)) (runs f lo n) := by
 induction n with
 | zero => exact ⟨fun x hx => (by cases hx), fun m h1 h2 => by omega, List.Pairwise.nil⟩
 | succ n ih =>
  rw [runs_succ]
  obtain ⟨h1, h2, h3⟩ := ih
  by_cases hf : f (lo + (n : Int)) = true
  ·rw [if_pos hf]
   rcases List.eq_nil_or_concat (runs f lo n) with e | ⟨L, x, e⟩
   ·rw [e] at h1 h2 ⊢
    rw [addR_nil]
    refine ⟨fun x hx => ?_, fun m m1 m2 m3 => ?_, List.pairwise_singleton ..⟩
    ·rw [List.mem_singleton.1 hx]
     exact ⟨by dsimp only; omega, by dsimp only; omega, by dsimp only; omega, fun m m1 m2 => by dsimp only at m1 m2; rw [show m = lo + (n : Int) from by omega]; exact hf⟩
    ·by_cases hm : m = lo + (n : Int)
     ·exact ⟨_, List.mem_singleton.2 rfl, by dsimp only; omega, by dsimp only; omega⟩
     ·obtain ⟨x, hx, _⟩ := h2 m m1 (by omega) m3
      cases hx
   ·rw [List.concat_eq_append] at e
    rw [e] at h1 h2 h3 ⊢
    rw [addR_snoc]
    have hx := h1 x (List.mem_append_right _ (List.mem_singleton.2 rfl))
    have h4 := List.pairwise_append.1 h3
    by_cases he : x.2 + 1 = lo + (n : Int)
    ·rw [if_pos he]
     refine ⟨fun y hy => ?_, fun m m1 m2 m3 => ?_, List.pairwise_append.2 ⟨h4.1, List.pairwise_singleton .., fun y hy z hz => ?_⟩⟩
     ·rcases List.mem_append.1 hy with hy | hy
      ·have := h1 y (List.mem_append_left _ hy)
       exact ⟨this.1, this.2.1, by omega, this.2.2.2⟩
      ·rw [List.mem_singleton.1 hy]
       refine ⟨hx.1, by dsimp only; omega, by dsimp only; omega, fun m m1 m2 => ?_⟩
       dsimp only at m1 m2
       by_cases hm : m = lo + (n : Int)
       ·rw [hm]; exact hf
       ·exact hx.2.2.2 m m1 (by omega)
     ·by_cases hm : m = lo + (n : Int)
      ·exact ⟨_, List.mem_append_right _ (List.mem_singleton.2 rfl), by dsimp only; omega, by dsimp only; omega⟩
      ·obtain ⟨y, hy, y1, y2⟩ := h2 m m1 (by omega) m3
       rcases List.mem_append.1 hy with hy | hy
       ·exact ⟨y, List.mem_append_left _ hy, y1, y2⟩
       ·rw [List.mem_singleton.1 hy] at y1 y2
        exact ⟨_, List.mem_append_right _ (List.mem_singleton.2 rfl), y1, by dsimp only; omega⟩
     ·rw [List.mem_singleton.1 hz]
      exact h4.2.2 y hy x (List.mem_singleton.2 rfl)
    ·rw [if_neg he]
     refine ⟨fun y hy => ?_, fun m m1 m2 m3 => ?_, List.pairwise_append.2 ⟨h3, List.pairwise_singleton .., fun y hy z hz => ?_⟩⟩
     ·rcases List.mem_append.1 hy with hy | hy
      ·have := h1 y hy
       exact ⟨this.1, this.2.1, by omega, this.2.2.2⟩
      ·rw [List.mem_singleton.1 hy]
       exact ⟨by dsimp only; omega, by dsimp only; omega, by dsimp only; omega, fun m m1 m2 => by dsimp only at m1 m2; rw [show m = lo + (n : Int) from by omega]; exact hf⟩
     ·by_cases hm : m = lo + (n : Int)
      ·exact ⟨_, List.mem_append_right _ (List.mem_singleton.2 rfl), by dsimp only; omega, by dsimp only; omega⟩
      ·obtain ⟨y, hy, y1, y2⟩ := h2 m m1 (by omega) m3
       exact ⟨y, List.mem_append_left _ hy, y1, y2⟩
     ·rw [List.mem_singleton.1 hz]
      dsimp only
      rcases List.mem_append.1 hy with hy | hy
      ·have := h4.2.2 y hy x (List.mem_singleton.2 rfl)
       omega
      ·rw [List.mem_singleton.1 hy]; omega
  ·rw [if_neg hf]
   refine ⟨fun y hy => ?_, fun m m1 m2 m3 => ?_, h3⟩
   ·have := h1 y hy
    exact ⟨this.1, this.2.1, by omega, this.2.2.2⟩
   ·by_cases hm : m = lo + (n : Int)
    ·rw [hm] at m3; exact absurd m3 hf
    ·exact h2 m m1 (by omega) m3
theorem runs_skip (f : Int -> Bool) (lo : Int) (n : Nat) : ∀ k : Nat, (∀ m, lo + (n : Int) <= m -> m < lo + (n : Int) + (k : Int) -> f m = false) -> runs f lo (n + k) = runs f lo n
 | 0, _ => rfl
 | k + 1, h => by
  rw [show n + (k + 1) = (n + k) + 1 from rfl, runs_succ, if_neg (by rw [h _ (by omega) (by omega)]; exact Bool.noConfusion)]
  exact runs_skip f lo n k fun m m1 m2 => h m m1 (by omega)
theorem runs_new (f : Int -> Bool) (lo : Int) (n : Nat) (h0 : n = 0 ∨ f (lo + (n : Int) - 1) = false) : ∀ k : Nat, (∀ m, lo + (n : Int) <= m -> m <= lo + (n : Int) + (k : Int) -> f m = true) -> runs f lo (n + k + 1) = runs f lo n ++ [(lo + (n : Int), lo + (n : Int) + (k : Int))]
 | 0, h => by
  rw [Nat.add_zero, runs_succ, if_pos (h _ (by omega) (by omega))]
  rcases List.eq_nil_or_concat (runs f lo n) with e | ⟨L, x, e⟩
  ·rw [e, addR_nil]; simp
  ·rw [List.concat_eq_append] at e
   have hx := (runs_I f lo n).mem x (by rw [e]; exact List.mem_append_right _ (List.mem_singleton.2 rfl))
   rw [e, addR_snoc, if_neg (fun q => ?_)]
   ·simp
   ·rcases h0 with rfl | h0
    ·cases L <;> cases e
    ·have := hx.2.2.2 x.2 hx.2.1 (Int.le_refl _)
     rw [show x.2 = lo + (n : Int) - 1 from by omega, h0] at this
     cases this
 | k + 1, h => by
  have ih := runs_new f lo n h0 k fun m m1 m2 => h m m1 (by omega)
  rw [show n + (k + 1) + 1 = (n + k + 1) + 1 from rfl, runs_succ, if_pos (h _ (by omega) (by omega)), ih, addR_snoc, if_pos (by dsimp only; omega)]
  congr 2
  apply Prod.ext
  ·rfl
  ·dsimp only; omega
theorem runs_le (f : Int -> Bool) (lo : Int) : ∀ n, (runs f lo n).length <= n
 | 0 => Nat.le_refl _
 | n + 1 => by
  have ih := runs_le f lo n
  rw [runs_succ]
  split
  ·rcases List.eq_nil_or_concat (runs f lo n) with e | ⟨L, x, e⟩
   ·rw [e, addR_nil]; simp
   ·rw [List.concat_eq_append] at e
    rw [e] at ih ⊢
    rw [addR_snoc]
    split <;> simp only [List.length_append, List.length_singleton] at * <;> omega
  ·omega
structure ScI (N : List (Int × Int)) (least most : Int) (D : List (Int × Int)) (st : Int × List (Int × Int)) : Prop where
 lo : least <= st.1
 edge : st.1 = least ∨ ∃ y ∈ D, y.1 <= y.2 /\ y.2 + 1 = st.1
 past : ∀ y ∈ D, y.1 <= y.2 -> y.2 + 1 <= st.1
 inN : ∀ y ∈ D, y ∈ N ∨ most < y.1
 out : st.2 = runs (fun m => !notF N m) least (Int.toNat (mnI (most + 1) st.1 - least))
theorem notF_yes {N : List (Int × Int)} {m : Int} {y : Int × Int} (h : y ∈ N) (h1 : y.1 <= m) (h2 : m <= y.2) : (!notF N m) = false := by
 have : notF N m = true := by
  unfold notF
  rw [List.any_eq_true]
  exact ⟨y, h, by rw [decide_eq_true h1, decide_eq_true h2]; rfl⟩
 rw [this]; rfl
theorem notF_no {N : List (Int × Int)} {m : Int} (h : ∀ y ∈ N, ¬ (y.1 <= m /\ m <= y.2)) : (!notF N m) = true := by
 have : notF N m = false := by
  rw [Bool.eq_false_iff]
  intro q
  unfold notF at q
  rw [List.any_eq_true] at q
  obtain ⟨y, hy, q⟩ := q
  rw [Bool.and_eq_true, decide_eq_true_eq, decide_eq_true_eq] at q
  exact h y hy q
 rw [this]; rfl
theorem mnI_1 {x y : Int} (h : y < x) : mnI x y = y := by unfold mnI; rw [if_pos h]
theorem mnI_2 {x y : Int} (h : ¬ y < x) : mnI x y = x := by unfold mnI; rw [if_neg h]
theorem ScI.step {N : List (Int × Int)} {least most : Int} {D : List (Int × Int)} {st : Int × List (Int × Int)} {x : Int × Int} (hl : least <= most) (s : ScI N least most D st) (hx : x ∈ N ∨ most < x.1) (hN : ∀ y ∈ N, y ∈ D ∨ x.1 <= y.1) : ScI N least most (D ++ [x]) (scan most st x) := by
 obtain ⟨s1, s2, s3, s4, s5⟩ := s
 have hin : ∀ y ∈ D ++ [x], y ∈ N ∨ most < y.1 := fun y hy => by
  rcases List.mem_append.1 hy with hy | hy
  ·exact s4 y hy
  ·rw [List.mem_singleton.1 hy]; exact hx
 have hself : x ∈ D ++ [x] := List.mem_append_right _ (List.mem_singleton.2 rfl)
 unfold scan
 by_cases h0 : x.1 > x.2
 ·rw [if_pos h0]
  refine ⟨s1, s2.imp id (fun ⟨y, hy, q⟩ => ⟨y, List.mem_append_left _ hy, q⟩), fun y hy h => ?_, hin, s5⟩
  rcases List.mem_append.1 hy with hy | hy
  ·exact s3 y hy h
  ·rw [List.mem_singleton.1 hy] at h; omega
 rw [if_neg h0]
 have hmx : mxI st.1 (x.2 + 1) = st.1 /\ x.2 + 1 <= st.1 ∨ mxI st.1 (x.2 + 1) = x.2 + 1 /\ st.1 < x.2 + 1 := by unfold mxI; split <;> omega
 refine ⟨?_, ?_, fun y hy h => ?_, hin, ?_⟩
 ·dsimp only; omega
 ·dsimp only
  rcases hmx with ⟨e, q⟩ | ⟨e, q⟩
  ·rw [e]; exact s2.imp id (fun ⟨y, hy, q⟩ => ⟨y, List.mem_append_left _ hy, q⟩)
  ·rw [e]; exact .inr ⟨x, hself, by omega, rfl⟩
 ·dsimp only
  rcases List.mem_append.1 hy with hy | hy
  ·have := s3 y hy h; omega
  ·rw [List.mem_singleton.1 hy]; omega
 ·dsimp only
  by_cases hem : x.1 > st.1 /\ st.1 <= most
  ·rw [if_pos hem]
   have e1 : mxI st.1 (x.2 + 1) = x.2 + 1 := by rcases hmx with ⟨_, q⟩ | ⟨e, _⟩ <;> omega
   rw [e1]
   rw [mnI_1 (show st.1 < most + 1 by omega)] at s5
   obtain ⟨n, hn⟩ : ∃ n : Nat, (n : Int) = st.1 - least := ⟨Int.toNat (st.1 - least), by omega⟩
   have en : Int.toNat (st.1 - least) = n := by omega
   rw [en] at s5
   have elo : least + (n : Int) = st.1 := by omega
   obtain ⟨u, hu⟩ : ∃ u, mnI (x.1 - 1) most = u := ⟨_, rfl⟩
   have hub : (u = most /\ most < x.1 - 1) ∨ (u = x.1 - 1 /\ x.1 - 1 <= most) := by
    rw [<- hu]; unfold mnI; split <;> omega
   obtain ⟨k, hk⟩ : ∃ k : Nat, (k : Int) = u - st.1 := ⟨Int.toNat (u - st.1), by omega⟩
   have hnew := runs_new (fun m => !notF N m) least n (by
    rcases s2 with e | ⟨y, hy, y1, y2⟩
    ·exact .inl (by omega)
    ·refine .inr ?_
     rcases s4 y hy with h | h
     ·exact notF_yes h (by omega) (by omega)
     ·omega) k (fun m m1 m2 => notF_no fun y hy q => by
      rcases hN y hy with h | h
      ·have := s3 y h (by omega); omega
      ·omega)
   rw [hu, s5]
   have ek : least + (n : Int) + (k : Int) = u := by omega
   rw [ek, elo] at hnew
   rw [<- hnew]
   rcases hub with ⟨h1, h2⟩ | ⟨h1, h2⟩
   ·rw [mnI_2 (by omega)]
    rw [show Int.toNat (most + 1 - least) = n + k + 1 from by omega]
   ·by_cases h3 : x.1 <= most
    ·have hxN : x ∈ N := hx.resolve_right (by omega)
     obtain ⟨v, hv⟩ : ∃ v, mnI (most + 1) (x.2 + 1) = v := ⟨_, rfl⟩
     have hvb : (v = x.2 + 1 /\ x.2 < most) ∨ (v = most + 1 /\ most <= x.2) := by rw [<- hv]; unfold mnI; split <;> omega
     rw [hv]
     obtain ⟨j, hj⟩ : ∃ j : Nat, (j : Int) = v - (least + ((n + k + 1 : Nat) : Int)) := ⟨Int.toNat (v - (least + ((n + k + 1 : Nat) : Int))), by omega⟩
     rw [show Int.toNat (v - least) = n + k + 1 + j from by omega]
     exact (runs_skip _ _ _ j fun m m1 m2 => notF_yes hxN (by omega) (by omega)).symm
    ·rw [mnI_2 (by omega)]
     rw [show Int.toNat (most + 1 - least) = n + k + 1 from by omega]
  ·rw [if_neg hem, s5]
   rcases hmx with ⟨e, q⟩ | ⟨e, q⟩
   ·rw [e]
   ·rw [e]
    by_cases h1 : st.1 <= most
    ·have h2 : x.1 <= st.1 := by omega
     have hxN : x ∈ N := hx.resolve_right (by omega)
     rw [mnI_1 (show st.1 < most + 1 by omega)]
     obtain ⟨v, hv⟩ : ∃ v, mnI (most + 1) (x.2 + 1) = v := ⟨_, rfl⟩
     have hvb : (v = x.2 + 1 /\ x.2 < most) ∨ (v = most + 1 /\ most <= x.2) := by rw [<- hv]; unfold mnI; split <;> omega
     rw [hv]
     obtain ⟨j, hj⟩ : ∃ j : Nat, (j : Int) = v - st.1 := ⟨Int.toNat (v - st.1), by omega⟩
     rw [show Int.toNat (v - least) = Int.toNat (st.1 - least) + j from by omega]
     exact (runs_skip _ _ _ j fun m m1 m2 => notF_yes hxN (by omega) (by omega)).symm
    ·rw [mnI_2 (show ¬ st.1 < most + 1 by omega), mnI_2 (by omega)]
theorem scanT_succ (least most : Int) (S : List (Int × Int)) {k : Nat} (hk : k < S.length) : scanT least most S (k + 1) = scan most (scanT least most S k) (S.getD k zeroSp) := by
 unfold scanT
 rw [List.take_succ_eq_append_getElem hk, List.foldl_append, List.getD_eq_getElem?_getD, List.getElem?_eq_getElem hk]; rfl
theorem scan_I {N M : List (Int × Int)} {least most : Int} (hl : least <= most) (hs : SortS N M) : ∀ k, k <= (M ++ [(most + 1, most + 1)]).length -> ScI N least most ((M ++ [(most + 1, most + 1)]).take k) (scanT least most (M ++ [(most + 1, most + 1)]) k)
 | 0, _ => by
  have e : ([] : List (Int × Int)) = runs (fun m => !notF N m) least (Int.toNat (mnI (most + 1) least - least)) := by
   rw [mnI_1 (by omega), Int.sub_self]; rfl
  exact ⟨Int.le_refl _, .inl rfl, fun y hy => (by cases hy), fun y hy => (by cases hy), e⟩
 | k + 1, hk => by
  have ih := scan_I hl hs k (by omega)
  rw [scanT_succ _ _ _ (by omega), List.take_succ_eq_append_getElem (by omega)]
  have e : (M ++ [(most + 1, most + 1)]).getD k zeroSp = (M ++ [(most + 1, most + 1)])[k] := by rw [List.getD_eq_getElem?_getD, List.getElem?_eq_getElem (by omega)]; rfl
  rw [e]
  rw [List.length_append, List.length_singleton] at hk
  refine ih.step hl ?_ fun y hy => ?_
  ·by_cases h : k < M.length
   ·rw [List.getElem_append_left h]
    exact .inl (hs.1.mem_iff.2 (List.getElem_mem h))
   ·rw [List.getElem_append_right (by omega)]
    refine .inr ?_
    simp only [show k - M.length = 0 from by omega, List.getElem_cons_zero]; omega
  ·obtain ⟨i, hi, rfl⟩ := List.mem_iff_getElem.1 (hs.1.mem_iff.1 hy)
   by_cases hik : i < k
   ·refine .inl ?_
    rw [List.mem_iff_getElem]
    refine ⟨i, by rw [List.length_take, List.length_append, List.length_singleton]; omega, ?_⟩
    rw [List.getElem_take, List.getElem_append_left hi]
   ·refine .inr ?_
    rw [List.getElem_append_left (by omega)]
    by_cases h : k = i
    ·subst h; exact Int.le_refl _
    ·exact List.pairwise_iff_getElem.1 hs.2 k i (by omega) hi (by omega)
theorem scan_all {N M : List (Int × Int)} {least most : Int} (hl : least <= most) (hs : SortS N M) : (scanT least most (M ++ [(most + 1, most + 1)]) (M ++ [(most + 1, most + 1)]).length).2 = runs (fun m => !notF N m) least (Int.toNat (most - least + 1)) := by
 have h := scan_I hl hs _ (Nat.le_refl _)
 rw [List.take_length] at h
 have h1 := h.past (most + 1, most + 1) (List.mem_append_right _ (List.mem_singleton.2 rfl)) (Int.le_refl _)
 rw [h.out, mnI_2 (by dsimp only at h1; omega)]
 congr 1; omega
end Go.Proofs.YtbgfjemppjhmjaaGreat
/- What is to be shown of functions. Printed by a program. No condition. -/
namespace Go.Proofs.YtbgfjemppjhmjaaGreat
set_option linter.unusedSimpArgs false
open Go Go.K
set_option maxRecDepth 100000
set_option maxHeartbeats 4000000
set_option linter.unusedVariables false
noncomputable section
abbrev kef (a : List Bool):=a.flatMap boolC
abbrev ke3 (w : Int) (h : Int) (a : List Bool) (ss : List (Int × Int)):=rowT w h a ss ss.length
abbrev ke8 (w : Int) (h : Int) (a : List Bool) (p : Int) (ss : List (Int × Int)) : List Value:=[nI w,nI h,slQ 0 2 a.length,nI p,slQ 1 2 ss.length,slQ 4 1 (ke3 w h a ss).length]
abbrev ked (p : Int) (ss : List (Int × Int)) (w : Int) (h : Int) (a : List Bool) (c : Int):=rn (sg 2 []) 3 (.tuple #[slQ 2 1 (tmL p ss (ke3 w h a ss) c).length,nI 0] : Value)
abbrev keh : Prop:=True /\ True
abbrev kei (ss : List (Int × Int)) : Int:=(ss.length : Nat)
abbrev ke9 (c : Int) (ss : List (Int × Int)) : Prop:=(nI c : Value) = nI c /\ (.pointer (some ⟨3,0,none⟩) : Value) = .pointer (some ⟨3,0,none⟩) /\ wkR (slQ 1 2 ss.length) /\ (nI (kei ss) : Value) = nI (kei ss) /\ True
abbrev kee (ss : List (Int × Int)) (n_0 : Nat):=ss.getD n_0 zeroSp
abbrev kea (p : Int) (ss : List (Int × Int)) (w : Int) (h : Int) (a : List Bool) (c : Int) (n_0 : Nat):=notT p ss (ke3 w h a ss) c n_0
abbrev ke7 (ss : List (Int × Int)) (n_0 : Nat) (w : Int) (h : Int) (a : List Bool) (c : Int) (p : Int) : List Value:=[nI (((kee ss n_0).1 - ((((ke3 w h a ss).getD n_0 []).getD c.toNat 0) * p)) + 1),nI (((kee ss n_0).1 + ((((ke3 w h a ss).getD n_0 []).getD c.toNat 0) * p)) - 1)]
abbrev kej (ss : List (Int × Int)) (n_0 : Nat) : List Value:=[nI ((msT ss n_0) + 1),nI ((msT ss n_0) + 1)]
abbrev ke4 (ss : List (Int × Int)):=msT ss ss.length
abbrev ke5 (ss : List (Int × Int)) (n_0 : Nat) (p : Int) (w : Int) (h : Int) (a : List Bool) (c : Int) : Prop:=(nI (msT ss n_0) : Value) = nI (msT ss n_0) /\ (.slice (some ⟨8,0,none⟩) ((kea p ss w h a c n_0).length + 1) ((kea p ss w h a c n_0).length + 1) : Value) = .slice (some ⟨8,0,none⟩) ((kea p ss w h a c n_0).length + 1) ((kea p ss w h a c n_0).length + 1) /\ (nI ((((kea p ss w h a c n_0).length + 1) : Nat) : Int) : Value) = nI ((((kea p ss w h a c n_0).length + 1) : Nat) : Int) /\ True
abbrev kek (r4 : List (Int × Int)) (ss : List (Int × Int)) (n_1 : Nat):=decide ((((r4 ++ [((ke4 ss) + 1,(ke4 ss) + 1)]).getD n_1 zeroSp).2 : Int) < ((r4 ++ [((ke4 ss) + 1,(ke4 ss) + 1)]).getD n_1 zeroSp).1)
abbrev ke1 (ss : List (Int × Int)) (r4 : List (Int × Int)) (n_1 : Nat):=scanT (lsT ss ss.length) (ke4 ss) (r4 ++ [((ke4 ss) + 1,(ke4 ss) + 1)]) n_1
abbrev keg (ss : List (Int × Int)) (r4 : List (Int × Int)) (n_1 : Nat):=List.length (ke1 ss r4 n_1).2
abbrev keb (ss : List (Int × Int)) (r4 : List (Int × Int)) (n_2' : Nat):=scanT (lsT ss ss.length) (ke4 ss) (r4 ++ [((ke4 ss) + 1,(ke4 ss) + 1)]) n_2'
abbrev ke6 (ss : List (Int × Int)) (r4 : List (Int × Int)) (n_1 : Nat) (n_0 : Nat) : List Value:=[nI (ke1 ss r4 n_1).1,nI (if ((msT ss n_0) : Int) < (((r4 ++ [((ke4 ss) + 1,(ke4 ss) + 1)]).getD n_1 zeroSp).1 - 1) then ((msT ss n_0) : Int) else (((r4 ++ [((ke4 ss) + 1,(ke4 ss) + 1)]).getD n_1 zeroSp).1 - 1))]
abbrev kec (ss : List (Int × Int)) (r4 : List (Int × Int)) (n_3' : Nat):=scanT (lsT ss ss.length) (ke4 ss) (r4 ++ [((ke4 ss) + 1,(ke4 ss) + 1)]) n_3'
abbrev ke2 (r4 : List (Int × Int)) (ss : List (Int × Int)) (n_1 : Nat) (n_0 : Nat) (p : Int) (w : Int) (h : Int) (a : List Bool) (c : Int) : Prop:=(nI (IntKind.wrap .i64 (((r4 ++ [((ke4 ss) + 1,(ke4 ss) + 1)]).getD n_1 zeroSp).2 + 1)) : Value) = nI (((r4 ++ [((ke4 ss) + 1,(ke4 ss) + 1)]).getD n_1 zeroSp).2 + 1) /\ (∃ i_2 : Int,(nI (if ((((r4 ++ [((ke4 ss) + 1,(ke4 ss) + 1)]).getD n_1 zeroSp).2 + 1) : Int) > (ke1 ss r4 n_1).1 then ((((r4 ++ [((ke4 ss) + 1,(ke4 ss) + 1)]).getD n_1 zeroSp).2 + 1) : Int) else (ke1 ss r4 n_1).1) : Value) = nI i_2 /\ ((nI (IntKind.wrap .i64 ((n_1 : Int) + 1)) : Value) = nI ((n_1 : Int) + 1) /\ (∃ n_3' : Nat,(n_3' <= List.length (r4 ++ [((ke4 ss) + 1,(ke4 ss) + 1)])) /\ (List.length (r4 ++ [((ke4 ss) + 1,(ke4 ss) + 1)]) - n_3') < (List.length (r4 ++ [((ke4 ss) + 1,(ke4 ss) + 1)]) - n_1) /\ true = true /\ ((nI ((n_1 : Int) + 1) : Value) = nI (n_3' : Int) /\ wk (slQ 9 1 (keg ss r4 n_1) : Value) (slQ 9 1 (List.length (kec ss r4 n_3').2) : Value) /\ (nI i_2 : Value) = nI (kec ss r4 n_3').1 /\ ke5 ss n_0 p w h a c) /\ ((keptR 9 (.cells true 2 ((r4 ++ [((ke4 ss) + 1,(ke4 ss) + 1)]).flatMap spC))) /\ True) /\ ((some (.cells true 2 (((ke1 ss r4 n_1).2).flatMap spC) : KObj) = some (.cells true 2 (((kec ss r4 n_3').2).flatMap spC) : KObj) /\ belowO 9 (.cells true 2 (((kec ss r4 n_3').2).flatMap spC) : KObj) = true) /\ True) /\ (True))))
def Rtimes (o1 o2 : Bool) (z1 z2 : Nat) (w h : Int) (a : List Bool) (p : Int) (ss : List (Int × Int)) (c : Int) : Prop :=
 (((someR (.cells o1 z1 (kef a))) /\ (someR (.cells o2 z2 (ss.flatMap spC))) /\ True) /\ (∀ H' : Heap,H'.length = 3 -> (H'[0]? = some (.cells o1 z1 (kef a) : KObj) /\ H'[1]? = some (.cells o2 z2 (ss.flatMap spC) : KObj) /\ True) -> KCall prog 72 [.agg #[nI w,nI h,slQ 0 2 a.length,nI p,slQ 1 2 ss.length]] H' [] (Is (.tuple #[.pointer (some ⟨3,0,none⟩),nI 0]) (H' ++ [(.cells true 0 (ke8 w h a p ss) : KObj),(.cells true 1 (inL (ke3 w h a ss)) : KObj)]))) /\ (((someR (.cells o1 z1 (kef a))) /\ True) /\ (∀ H' : Heap,H'.length = 5 -> (H'[0]? = some (.cells o1 z1 (kef a) : KObj) /\ True) -> KCall prog 75 [.agg #[nI w,nI h,slQ 0 2 a.length],nI c] H' [] (Is (.bool (seaB a c)) H')) /\ (((!(seaB a c)) = true -> (true = true /\ wk (.tuple #[.slice none 0 0,nI 1] : Value) (ked p ss w h a c) /\ keh)) /\ ((!(seaB a c)) = false -> (((someR (.cells true 0 (ke8 w h a p ss))) /\ (someR (.cells o1 z1 (kef a))) /\ (someR (.cells o2 z2 (ss.flatMap spC))) /\ (someR (.cells true 1 (inL (ke3 w h a ss)))) /\ True) /\ (∀ H' : Heap,H'.length = 5 -> (H'[3]? = some (.cells true 0 (ke8 w h a p ss) : KObj) /\ H'[0]? = some (.cells o1 z1 (kef a) : KObj) /\ H'[1]? = some (.cells o2 z2 (ss.flatMap spC) : KObj) /\ H'[4]? = some (.cells true 1 (inL (ke3 w h a ss)) : KObj) /\ True) -> KCall prog 74 [.pointer (some ⟨3,0,none⟩)] H' [] (Is (slQ 5 1 (cfTo p ss (ke3 w h a ss) ss.length).length) (H' ++ [(.cells true 2 ((cfTo p ss (ke3 w h a ss) ss.length).flatMap spC) : KObj)]))) /\ (((decide ((0 : Int) < (((cfTo p ss (ke3 w h a ss) ss.length).length : Nat) : Int))) = true -> (true = true /\ wk (.tuple #[.slice none 0 0,nI 9] : Value) (ked p ss w h a c) /\ keh)) /\ ((decide ((0 : Int) < (((cfTo p ss (ke3 w h a ss) ss.length).length : Nat) : Int))) = false -> (((((kei ss) : Int) == 0) = true -> (true = true /\ wk (.tuple #[.slice none 0 0,nI 4] : Value) (ked p ss w h a c) /\ keh)) /\ ((((kei ss) : Int) == 0) = false -> (true = true /\ (0 <= List.length ss /\ farT (ke3 w h a ss) c 0 = false) /\ (true = true /\ ((nI 0 : Value) = nI ((0 : Nat) : Int) /\ wk (.slice none 0 0 : Value) (slQ 0 1 (notT p ss (ke3 w h a ss) c 0).length : Value) /\ (nI 100000 : Value) = nI (lsT ss 0) /\ (nI 0 : Value) = nI (msT ss 0) /\ ke9 c ss) /\ (True) /\ keh /\ (True)) /\ (∀ n_0 : Nat,true = true) /\ ∀ n_0 : Nat,(n_0 <= List.length ss /\ farT (ke3 w h a ss) c n_0 = false) -> (((decide (((n_0 : Int) : Int) < (kei ss))) = true -> (((0 : Int) <= (n_0 : Int) /\ ((n_0 : Int) : Int) < (kei ss)) /\ ((partA 2 (ss.flatMap spC) (0 + Int.toNat (n_0 : Int) * 2) = some (.agg #[nI (kee ss n_0).1,nI (kee ss n_0).2])) /\ (((0 : Int) <= (n_0 : Int) /\ ((n_0 : Int) : Int) < (((ke3 w h a ss).length : Nat) : Int)) /\ (((inL (ke3 w h a ss))[(0 + Int.toNat (n_0 : Int) * 1)]? = some (.iface (((ke3 w h a ss).getD n_0 []).length + 1) (.agg ⟨(((ke3 w h a ss).getD n_0 []).flatMap intC)⟩))) /\ (((0 : Int) <= c /\ (c : Int) < ((((ke3 w h a ss).getD n_0 []).length : Nat) : Int)) /\ (((((ke3 w h a ss).getD n_0 []).flatMap intC)[(Int.toNat c * 1)]? = some (nI (((ke3 w h a ss).getD n_0 []).getD c.toNat 0))) /\ (((((((ke3 w h a ss).getD n_0 []).getD c.toNat 0) : Int) == 1073741824) = true -> (true = true /\ wk (.tuple #[.slice none 0 0,nI 0] : Value) (ked p ss w h a c) /\ keh)) /\ ((((((ke3 w h a ss).getD n_0 []).getD c.toNat 0) : Int) == 1073741824) = false -> ((nI (IntKind.wrap .i64 ((((ke3 w h a ss).getD n_0 []).getD c.toNat 0) * p)) : Value) = nI ((((ke3 w h a ss).getD n_0 []).getD c.toNat 0) * p) /\ ((nI (IntKind.wrap .i64 ((kee ss n_0).1 - ((((ke3 w h a ss).getD n_0 []).getD c.toNat 0) * p))) : Value) = nI ((kee ss n_0).1 - ((((ke3 w h a ss).getD n_0 []).getD c.toNat 0) * p)) /\ ((nI (IntKind.wrap .i64 (((kee ss n_0).1 - ((((ke3 w h a ss).getD n_0 []).getD c.toNat 0) * p)) + 1)) : Value) = nI (((kee ss n_0).1 - ((((ke3 w h a ss).getD n_0 []).getD c.toNat 0) * p)) + 1) /\ ((nI (IntKind.wrap .i64 ((((ke3 w h a ss).getD n_0 []).getD c.toNat 0) * p)) : Value) = nI ((((ke3 w h a ss).getD n_0 []).getD c.toNat 0) * p) /\ ((nI (IntKind.wrap .i64 ((kee ss n_0).1 + ((((ke3 w h a ss).getD n_0 []).getD c.toNat 0) * p))) : Value) = nI ((kee ss n_0).1 + ((((ke3 w h a ss).getD n_0 []).getD c.toNat 0) * p)) /\ ((nI (IntKind.wrap .i64 (((kee ss n_0).1 + ((((ke3 w h a ss).getD n_0 []).getD c.toNat 0) * p)) - 1)) : Value) = nI (((kee ss n_0).1 + ((((ke3 w h a ss).getD n_0 []).getD c.toNat 0) * p)) - 1) /\ ((((kea p ss w h a c n_0).length + 1) * 16 <= 2 ^ 44 /\ 1 ≠ 0 /\ ((kea p ss w h a c n_0).length <= (kea p ss w h a c n_0).length /\ 0 + (kea p ss w h a c n_0).length * 2 <= List.length ((kea p ss w h a c n_0).flatMap spC)) /\ (1 <= 1 /\ 0 + 1 * 2 <= List.length (ke7 ss n_0 w h a c p)) /\ ((((ke7 ss n_0 w h a c p).drop 0).take (1 * 2)) : List Value).all (fun v => one1 v) = true) /\ true = true /\ ((nI (IntKind.wrap .i64 ((n_0 : Int) + 1)) : Value) = nI ((n_0 : Int) + 1) /\ (∃ n_1' : Nat,(n_1' <= List.length ss /\ farT (ke3 w h a ss) c n_1' = false) /\ (List.length ss - n_1') < (List.length ss - n_0) /\ true = true /\ ((nI ((n_0 : Int) + 1) : Value) = nI (n_1' : Int) /\ wk (.slice (some ⟨9,0,none⟩) ((kea p ss w h a c n_0).length + 1) ((kea p ss w h a c n_0).length + 1) : Value) (slQ 9 1 (notT p ss (ke3 w h a ss) c n_1').length : Value) /\ (nI (if ((kee ss n_0).1 : Int) < (lsT ss n_0) then ((kee ss n_0).1 : Int) else (lsT ss n_0)) : Value) = nI (lsT ss n_1') /\ (nI (if ((kee ss n_0).1 : Int) > (msT ss n_0) then ((kee ss n_0).1 : Int) else (msT ss n_0)) : Value) = nI (msT ss n_1') /\ ke9 c ss) /\ (True) /\ ((some (.cells true 2 (((((kea p ss w h a c n_0).flatMap spC).drop 0).take ((kea p ss w h a c n_0).length * 2)) ++ (((ke7 ss n_0 w h a c p).drop 0).take (1 * 2))) : KObj) = some (.cells true 2 ((notT p ss (ke3 w h a ss) c n_1').flatMap spC) : KObj) /\ belowO 6 (.cells true 2 ((notT p ss (ke3 w h a ss) c n_1').flatMap spC) : KObj) = true) /\ True) /\ (True))))))))))))))))))) /\ ((decide (((n_0 : Int) : Int) < (kei ss))) = false -> (((someR (.cells true 2 ((kea p ss w h a c n_0).flatMap spC))) /\ True) /\ (∀ H' : Heap,H'.length = 7 -> (H'[6]? = some (.cells true 2 ((kea p ss w h a c n_0).flatMap spC) : KObj) /\ True) -> KCall prog 81 [slQ 6 1 (kea p ss w h a c n_0).length,.func (.func 82) #[] #[]] H' [6] (fun y H2 => ∃ z : List (Int × Int),(SortS (kea p ss w h a c n_0) z) /\ y = .tuple #[] /\ H2 = (List.set H' 6 (.cells true 2 (z.flatMap spC) : KObj)))) /\ (∀ r4 : List (Int × Int),(SortS (kea p ss w h a c n_0) r4) -> ((nI (IntKind.wrap .i64 ((msT ss n_0) + 1)) : Value) = nI ((msT ss n_0) + 1) /\ ((nI (IntKind.wrap .i64 ((msT ss n_0) + 1)) : Value) = nI ((msT ss n_0) + 1) /\ ((((kea p ss w h a c n_0).length + 1) * 16 <= 2 ^ 44 /\ 1 ≠ 0 /\ ((kea p ss w h a c n_0).length <= (kea p ss w h a c n_0).length /\ 0 + (kea p ss w h a c n_0).length * 2 <= List.length (r4.flatMap spC)) /\ (1 <= 1 /\ 0 + 1 * 2 <= List.length (kej ss n_0)) /\ ((((kej ss n_0).drop 0).take (1 * 2)) : List Value).all (fun v => one1 v) = true) /\ true = true /\ (true = true /\ (0 <= List.length (r4 ++ [((ke4 ss) + 1,(ke4 ss) + 1)])) /\ (true = true /\ ((nI 0 : Value) = nI ((0 : Nat) : Int) /\ wk (.slice none 0 0 : Value) (slQ 0 1 (List.length (scanT (lsT ss ss.length) (ke4 ss) (r4 ++ [((ke4 ss) + 1,(ke4 ss) + 1)]) 0).2) : Value) /\ (nI (lsT ss n_0) : Value) = nI (scanT (lsT ss ss.length) (ke4 ss) (r4 ++ [((ke4 ss) + 1,(ke4 ss) + 1)]) 0).1 /\ ke5 ss n_0 p w h a c) /\ ((some (.cells true 2 ((((r4.flatMap spC).drop 0).take ((kea p ss w h a c n_0).length * 2)) ++ (((kej ss n_0).drop 0).take (1 * 2))) : KObj) = some (.cells true 2 ((r4 ++ [((ke4 ss) + 1,(ke4 ss) + 1)]).flatMap spC) : KObj) /\ belowO 9 (.cells true 2 ((r4 ++ [((ke4 ss) + 1,(ke4 ss) + 1)]).flatMap spC) : KObj) = true) /\ True) /\ keh /\ (True)) /\ (∀ n_1 : Nat,true = true) /\ ∀ n_1 : Nat,(n_1 <= List.length (r4 ++ [((ke4 ss) + 1,(ke4 ss) + 1)])) -> (((decide (((n_1 : Int) : Int) < ((((kea p ss w h a c n_0).length + 1) : Nat) : Int))) = true -> (((0 : Int) <= (n_1 : Int) /\ ((n_1 : Int) : Int) < ((((kea p ss w h a c n_0).length + 1) : Nat) : Int)) /\ ((partA 2 ((r4 ++ [((ke4 ss) + 1,(ke4 ss) + 1)]).flatMap spC) (0 + Int.toNat (n_1 : Int) * 2) = some (.agg #[nI ((r4 ++ [((ke4 ss) + 1,(ke4 ss) + 1)]).getD n_1 zeroSp).1,nI ((r4 ++ [((ke4 ss) + 1,(ke4 ss) + 1)]).getD n_1 zeroSp).2])) /\ (((kek r4 ss n_1) = true -> ((nI (IntKind.wrap .i64 ((n_1 : Int) + 1)) : Value) = nI ((n_1 : Int) + 1) /\ (∃ n_2' : Nat,(n_2' <= List.length (r4 ++ [((ke4 ss) + 1,(ke4 ss) + 1)])) /\ (List.length (r4 ++ [((ke4 ss) + 1,(ke4 ss) + 1)]) - n_2') < (List.length (r4 ++ [((ke4 ss) + 1,(ke4 ss) + 1)]) - n_1) /\ true = true /\ ((nI ((n_1 : Int) + 1) : Value) = nI (n_2' : Int) /\ wk (slQ 9 1 (keg ss r4 n_1) : Value) (slQ 9 1 (List.length (keb ss r4 n_2').2) : Value) /\ (nI (ke1 ss r4 n_1).1 : Value) = nI (keb ss r4 n_2').1 /\ ke5 ss n_0 p w h a c) /\ ((keptR 9 (.cells true 2 ((r4 ++ [((ke4 ss) + 1,(ke4 ss) + 1)]).flatMap spC))) /\ True) /\ ((some (.cells true 2 (((ke1 ss r4 n_1).2).flatMap spC) : KObj) = some (.cells true 2 (((keb ss r4 n_2').2).flatMap spC) : KObj) /\ belowO 9 (.cells true 2 (((keb ss r4 n_2').2).flatMap spC) : KObj) = true) /\ True) /\ (True)))) /\ ((kek r4 ss n_1) = false -> (((decide (((ke1 ss r4 n_1).1 : Int) < ((r4 ++ [((ke4 ss) + 1,(ke4 ss) + 1)]).getD n_1 zeroSp).1)) = true -> (((decide (((ke1 ss r4 n_1).1 : Int) <= (msT ss n_0))) = true -> ((nI (IntKind.wrap .i64 (((r4 ++ [((ke4 ss) + 1,(ke4 ss) + 1)]).getD n_1 zeroSp).1 - 1)) : Value) = nI (((r4 ++ [((ke4 ss) + 1,(ke4 ss) + 1)]).getD n_1 zeroSp).1 - 1) /\ ((((keg ss r4 n_1) + 1) * 16 <= 2 ^ 44 /\ 1 ≠ 0 /\ ((keg ss r4 n_1) <= (keg ss r4 n_1) /\ 0 + (keg ss r4 n_1) * 2 <= List.length (((ke1 ss r4 n_1).2).flatMap spC)) /\ (1 <= 1 /\ 0 + 1 * 2 <= List.length (ke6 ss r4 n_1 n_0)) /\ ((((ke6 ss r4 n_1 n_0).drop 0).take (1 * 2)) : List Value).all (fun v => one1 v) = true) /\ true = true /\ ((nI (IntKind.wrap .i64 (((r4 ++ [((ke4 ss) + 1,(ke4 ss) + 1)]).getD n_1 zeroSp).2 + 1)) : Value) = nI (((r4 ++ [((ke4 ss) + 1,(ke4 ss) + 1)]).getD n_1 zeroSp).2 + 1) /\ (∃ i_2 : Int,(nI (if ((((r4 ++ [((ke4 ss) + 1,(ke4 ss) + 1)]).getD n_1 zeroSp).2 + 1) : Int) > (ke1 ss r4 n_1).1 then ((((r4 ++ [((ke4 ss) + 1,(ke4 ss) + 1)]).getD n_1 zeroSp).2 + 1) : Int) else (ke1 ss r4 n_1).1) : Value) = nI i_2 /\ ((nI (IntKind.wrap .i64 ((n_1 : Int) + 1)) : Value) = nI ((n_1 : Int) + 1) /\ (∃ n_3' : Nat,(n_3' <= List.length (r4 ++ [((ke4 ss) + 1,(ke4 ss) + 1)])) /\ (List.length (r4 ++ [((ke4 ss) + 1,(ke4 ss) + 1)]) - n_3') < (List.length (r4 ++ [((ke4 ss) + 1,(ke4 ss) + 1)]) - n_1) /\ true = true /\ ((nI ((n_1 : Int) + 1) : Value) = nI (n_3' : Int) /\ wk (.slice (some ⟨12,0,none⟩) ((keg ss r4 n_1) + 1) ((keg ss r4 n_1) + 1) : Value) (slQ 12 1 (List.length (kec ss r4 n_3').2) : Value) /\ (nI i_2 : Value) = nI (kec ss r4 n_3').1 /\ ke5 ss n_0 p w h a c) /\ ((keptR 9 (.cells true 2 ((r4 ++ [((ke4 ss) + 1,(ke4 ss) + 1)]).flatMap spC))) /\ True) /\ ((some (.cells true 2 ((((((ke1 ss r4 n_1).2).flatMap spC).drop 0).take ((keg ss r4 n_1) * 2)) ++ (((ke6 ss r4 n_1 n_0).drop 0).take (1 * 2))) : KObj) = some (.cells true 2 (((kec ss r4 n_3').2).flatMap spC) : KObj) /\ belowO 9 (.cells true 2 (((kec ss r4 n_3').2).flatMap spC) : KObj) = true) /\ True) /\ (True)))))))) /\ ((decide (((ke1 ss r4 n_1).1 : Int) <= (msT ss n_0))) = false -> (ke2 r4 ss n_1 n_0 p w h a c)))) /\ ((decide (((ke1 ss r4 n_1).1 : Int) < ((r4 ++ [((ke4 ss) + 1,(ke4 ss) + 1)]).getD n_1 zeroSp).1)) = false -> (ke2 r4 ss n_1 n_0 p w h a c)))))))) /\ ((decide (((n_1 : Int) : Int) < ((((kea p ss w h a c n_0).length + 1) : Nat) : Int))) = false -> (true = true /\ wk (.tuple #[slQ 9 1 (keg ss r4 n_1),nI 0] : Value) (rn (sg 2 [(2,9)]) 3 (.tuple #[slQ 2 1 (tmL p ss (ke3 w h a ss) c).length,nI 0] : Value)) /\ ((some (.cells true 2 (((ke1 ss r4 n_1).2).flatMap spC) : KObj) = some (.cells true 2 ((tmL p ss (ke3 w h a ss) c).flatMap spC) : KObj) /\ belowO 2 (.cells true 2 ((tmL p ss (ke3 w h a ss) c).flatMap spC) : KObj) = true) /\ True))))))))))))))))))))))
abbrev ke0 (qn0 : Nat) (qn1 : Nat) : Hint:=.go 0 (.bind Int (fun i_2 => .slot 144 (nI i_2) (.go 1 (.slot 145 (nI ((qn0 : Int) + 1)) (.go 0 (.again [(9,qn1)]))))))
theorem Etimes (o1 o2 : Bool) (z1 z2 : Nat) (w h : Int) (a : List Bool) (p : Int) (ss : List (Int × Int)) (c : Int) : vF prog msk (dm 0) 100000 true 40 true 19 [.agg #[nI w,nI h,slQ 0 2 a.length,nI p,slQ 1 2 ss.length],nI c] (readsK [.cells o1 z1 (kef a),.cells o2 z2 (ss.flatMap spC)]) (some [])
 (.go 3 (.ans [(0,.cells o1 z1 (kef a)),(1,.cells o2 z2 (ss.flatMap spC))] (.tuple #[.pointer (some ⟨3,0,none⟩),nI 0]) [.cells true 0 (ke8 w h a p ss),.cells true 1 (inL (ke3 w h a ss))] (.go 11 (.ans [(0,.cells o1 z1 (kef a))] (.bool (seaB a c)) [] (.go 1 (.fork (.go 1 (.again [])) (.go 0 (.ans [(3,.cells true 0 (ke8 w h a p ss)),(0,.cells o1 z1 (kef a)),(1,.cells o2 z2 (ss.flatMap spC)),(4,.cells true 1 (inL (ke3 w h a ss)))] (slQ 5 1 (cfTo p ss (ke3 w h a ss) ss.length).length) [.cells true 2 ((cfTo p ss (ke3 w h a ss) ss.length).flatMap spC)] (.go 2 (.fork (.go 1 (.again [])) (.go 7 (.fork (.go 1 (.again [])) (.go 9 (.inv 3 (Nat) (0) [] [] (fun n_0 => [(52,nI (n_0 : Int)),(8,slQ 6 1 (kea p ss w h a c n_0).length),(9,nI (lsT ss n_0)),(10,nI (msT ss n_0)),(1,nI c),(6,.pointer (some ⟨3,0,none⟩)),(50,slQ 1 2 ss.length),(51,nI (kei ss))]) (fun n_0 => []) (fun n_0 => [(true,.cells true 2 ((kea p ss w h a c n_0).flatMap spC))]) (fun n_0 => []) (fun n_0 => (n_0 <= List.length ss /\ farT (ke3 w h a ss) c n_0 = false)) (fun n_0 => (List.length ss - n_0)) (fun n_0 => .go 0 (.fork (.go 0 (.need (.val (.agg #[nI (kee ss n_0).1,nI (kee ss n_0).2]) (.go 24 (.need (.val (.iface (((ke3 w h a ss).getD n_0 []).length + 1) (.agg ⟨(((ke3 w h a ss).getD n_0 []).flatMap intC)⟩)) (.go 0 (.need (.val (nI (((ke3 w h a ss).getD n_0 []).getD c.toNat 0)) (.go 3 (.fork (.go 1 (.again [])) (.go 9 (.slot 82 (nI ((((ke3 w h a ss).getD n_0 []).getD c.toNat 0) * p)) (.go 0 (.slot 83 (nI ((kee ss n_0).1 - ((((ke3 w h a ss).getD n_0 []).getD c.toNat 0) * p))) (.go 0 (.slot 84 (nI (((kee ss n_0).1 - ((((ke3 w h a ss).getD n_0 []).getD c.toNat 0) * p)) + 1)) (.go 8 (.slot 93 (nI ((((ke3 w h a ss).getD n_0 []).getD c.toNat 0) * p)) (.go 0 (.slot 94 (nI ((kee ss n_0).1 + ((((ke3 w h a ss).getD n_0 []).getD c.toNat 0) * p))) (.go 0 (.slot 95 (nI (((kee ss n_0).1 + ((((ke3 w h a ss).getD n_0 []).getD c.toNat 0) * p)) - 1)) (.go 1 (.need (.go 1 (.slot 99 (nI ((n_0 : Int) + 1)) (.go 0 (.again [(6,9)]))))))))))))))))))))))))))))) (.go 0 (.anse [(6,.cells true 2 ((kea p ss w h a c n_0).flatMap spC))] [6] (List (Int × Int)) (fun r4 => (SortS (kea p ss w h a c n_0) r4)) (fun r4 => .tuple #[]) (fun r4 => [(6,.cells true 2 (r4.flatMap spC))]) (fun r4 => []) (fun r4 => .go 5 (.slot 105 (nI ((msT ss n_0) + 1)) (.go 1 (.slot 107 (nI ((msT ss n_0) + 1)) (.go 1 (.need (.go 1 (.inv 3 (Nat) (0) [] [8] (fun n_1 => [(112,nI (n_1 : Int)),(14,slQ 9 1 (keg ss r4 n_1)),(15,nI (ke1 ss r4 n_1).1),(10,nI (msT ss n_0)),(110,.slice (some ⟨8,0,none⟩) ((kea p ss w h a c n_0).length + 1) ((kea p ss w h a c n_0).length + 1)),(111,nI ((((kea p ss w h a c n_0).length + 1) : Nat) : Int))]) (fun n_1 => [(8,true,.cells true 2 ((r4 ++ [((ke4 ss) + 1,(ke4 ss) + 1)]).flatMap spC))]) (fun n_1 => [(true,.cells true 2 (((ke1 ss r4 n_1).2).flatMap spC))]) (fun n_1 => []) (fun n_1 => (n_1 <= List.length (r4 ++ [((ke4 ss) + 1,(ke4 ss) + 1)]))) (fun n_1 => (List.length (r4 ++ [((ke4 ss) + 1,(ke4 ss) + 1)]) - n_1)) (fun n_1 => .go 0 (.fork (.need (.val (.agg #[nI ((r4 ++ [((ke4 ss) + 1,(ke4 ss) + 1)]).getD n_1 zeroSp).1,nI ((r4 ++ [((ke4 ss) + 1,(ke4 ss) + 1)]).getD n_1 zeroSp).2]) (.go 6 (.fork (.go 0 (.slot 145 (nI ((n_1 : Int) + 1)) (.go 0 (.again [(9,9)])))) (.go 4 (.gfork (.go 3 (.fork (.go 4 (.slot 134 (nI (((r4 ++ [((ke4 ss) + 1,(ke4 ss) + 1)]).getD n_1 zeroSp).1 - 1)) (.go 3 (.need (.go 4 (.slot 143 (nI (((r4 ++ [((ke4 ss) + 1,(ke4 ss) + 1)]).getD n_1 zeroSp).2 + 1)) (ke0 n_1 12))))))) (.go 3 (.slot 143 (nI (((r4 ++ [((ke4 ss) + 1,(ke4 ss) + 1)]).getD n_1 zeroSp).2 + 1)) (ke0 n_1 9))))) (.go 5 (.slot 143 (nI (((r4 ++ [((ke4 ss) + 1,(ke4 ss) + 1)]).getD n_1 zeroSp).2 + 1)) (ke0 n_1 9))))))))) (.go 2 (.again [(2,9)]))))))))))))))))))))))))))))))
 (newK ((readsK [.cells o1 z1 (kef a),.cells o2 z2 (ss.flatMap spC)]) : HT).n 3 (.tuple #[slQ 2 1 (tmL p ss (ke3 w h a ss) c).length,nI 0]) [(true,.cells true 2 ((tmL p ss (ke3 w h a ss) c).flatMap spC))]) = Rtimes o1 o2 z1 z2 w h a p ss c:=by kernel_rfl
end
end Go.Proofs.YtbgfjemppjhmjaaGreat
/- What is to be shown of functions. Printed by a program. No condition. -/
namespace Go.Proofs.YtbgfjemppjhmjaaGreat
set_option linter.unusedSimpArgs false
open Go Go.K
set_option maxRecDepth 100000
set_option maxHeartbeats 4000000
set_option linter.unusedVariables false
noncomputable section
def RcmpS (sp : Value) (a b : Int × Int) : Prop :=
 ((.int .i64 (IntKind.wrap .i64 (a.1 - b.1)) : Value) = .int .i64 (a.1 - b.1) /\ (.int .i64 (a.1 - b.1) : Value) = sp)
theorem EcmpS (sp : Value) (a b : Int × Int) : vF prog msk (dm 0) 100000 true 40 true 82 [.agg #[.int .i64 a.1,.int .i64 a.2],.agg #[.int .i64 b.1,.int .i64 b.2]] ⟨0,.leaf⟩ (some [])
 (.go 7 (.slot 9 (.int .i64 (a.1 - b.1)) (.auto)))
 (fun v _ _ => v = sp) = RcmpS sp a b:=by kernel_rfl
end
end Go.Proofs.YtbgfjemppjhmjaaGreat
/- Radio: the minutes at which a ship can be in a cell. No condition. -/
namespace Go.Proofs.YtbgfjemppjhmjaaGreat
open Go Go.K Go.Sort
set_option maxRecDepth 100000
set_option linter.unusedVariables false
set_option linter.unusedSimpArgs false
noncomputable section
attribute [local irreducible] vF
abbrev spA (n : Int × Int) : Value := .agg ⟨spC n⟩
def okS2 (n : Int × Int) : Prop := -2000000000000 <= n.1 /\ n.1 <= 2000000000000
theorem kCmpS {a b : Int × Int} (ha : okS2 a) (hb : okS2 b) (H : Heap) : KCall prog 82 [spA a, spA b] H [] (Is (.int .i64 (a.1 - b.1)) H) := by
 refine valB (v := .int .i64 (a.1 - b.1)) (css := []) (ids := []) (Eq.mpr (EcmpS _ a b) ?_) (hv := rfl) (hi := trivial) (ha := rfl)
 unfold okS2 at ha hb
 exact ⟨vI64 (by omega), rfl⟩
theorem entersSS : Enters prog 81 := entersF Tryz.func81 (by kernel_rfl) (by kernel_rfl)
theorem entersCS : Enters prog 82 := entersF Tryz.func82 (by kernel_rfl) (by kernel_rfl)
abbrev OkSp := {n : Int × Int // okS2 n}
theorem swoS : SWO (ltOf fun x y : OkSp => x.1.1 - y.1.1) := by
 have h : ∀ x y : OkSp, ltOf (fun x y : OkSp => x.1.1 - y.1.1) x y = decide (x.1.1 < y.1.1) := fun x y => decide_eq_decide.2 (by dsimp only; omega)
 refine ⟨fun x => ?_, fun x y z h1 h2 => ?_, fun x y z h1 h2 => ?_⟩
 ·rw [h]; exact decide_eq_false (by omega)
 ·rw [h] at h1 h2 ⊢; have := of_decide_eq_true h1; have := of_decide_eq_true h2; exact decide_eq_true (by omega)
 ·rw [h] at h1 h2 ⊢; have := of_decide_eq_false h1; have := of_decide_eq_false h2; exact decide_eq_false (by omega)
theorem okSubS : ∀ (L : List (Int × Int)), (∀ m ∈ L, okS2 m) -> ∃ L' : List OkSp, L'.map (·.1) = L
 | [], _ => ⟨[], rfl⟩
 | m :: L, h => by
  obtain ⟨L', e⟩ := okSubS L fun x hx => h x (List.mem_cons_of_mem _ hx)
  exact ⟨⟨m, h m (List.mem_cons_self ..)⟩ :: L', by rw [List.map_cons, e]⟩
theorem flatSubS : ∀ (L' : List OkSp), L'.flatMap (fun x => spC x.1) = (L'.map (·.1)).flatMap spC
 | [] => rfl
 | x :: L' => by rw [List.flatMap_cons, flatSubS L']; rfl
theorem kSortS {L0 : List (Int × Int)} (hk : ∀ m ∈ L0, okS2 m) (h0 : 0 < L0.length) (hl : L0.length < 4000000) {H : Heap} {id : Nat} (ho : H[id]? = some (.cells true 2 (L0.flatMap spC))) :
  KCall prog 81 [.slice (some ⟨id, 0, some 1⟩) L0.length L0.length, .func (.func 82) #[] #[]] H [id] (fun v' H' => ∃ z, SortS L0 z /\ v' = .tuple #[] /\ H' = H.set id (.cells true 2 (z.flatMap spC))) := by
 obtain ⟨L', e⟩ := okSubS L0 hk
 have hl' : L'.length = L0.length := by rw [<- e, List.length_map]
 rw [<- e, <- flatSubS] at ho
 have key := kSortFuncN (P := prog) sortS 2 (by omega) Tryz.isAgg47 Tryz.sizeOf47 (fun x : OkSp => spC x.1) (fun x => rfl) (fun x y => x.1.1 - y.1.1) swoS 82
  (fun ρ x v v' hv hr => by
   simp only [List.mem_cons, List.not_mem_nil, or_false] at hv
   rcases hv with rfl | rfl <;> cases hr <;> rfl)
  entersCS entersSS (fun x y n => kCmpS x.2 y.2 _) (.inr rfl) (L0 := L') (by omega) (by omega) ho (Q := fun v' H' => ∃ z, SortS L0 z /\ v' = .tuple #[] /\ H' = H.set id (.cells true 2 (z.flatMap spC)))
  (fun L1 hp hs => ⟨L1.map (·.1), ⟨by rw [<- e]; exact (hp.map _).symm, by
   rw [List.pairwise_map]
   refine hs.imp fun {x y} h => ?_
   have h2 : ¬ y.1.1 - x.1.1 < 0 := of_decide_eq_false h
   omega⟩, rfl, by rw [flatSubS]⟩)
 rw [hl'] at key
 exact key
theorem lsT_succ {ss : List (Int × Int)} {x : Nat} (hx : x < ss.length) : lsT ss (x + 1) = mnI (lsT ss x) (ss.getD x zeroSp).1 := by
 unfold lsT
 rw [List.take_succ_eq_append_getElem hx, List.foldl_append, List.getD_eq_getElem?_getD, List.getElem?_eq_getElem hx]; rfl
theorem msT_succ {ss : List (Int × Int)} {x : Nat} (hx : x < ss.length) : msT ss (x + 1) = mxI (msT ss x) (ss.getD x zeroSp).1 := by
 unfold msT
 rw [List.take_succ_eq_append_getElem hx, List.foldl_append, List.getD_eq_getElem?_getD, List.getElem?_eq_getElem hx]; rfl
theorem lm_bd {ss : List (Int × Int)} (h : ∀ s ∈ ss, 0 <= s.1 /\ s.1 <= 100000) : ∀ x, x <= ss.length -> (0 <= lsT ss x /\ lsT ss x <= 100000) /\ (0 <= msT ss x /\ msT ss x <= 100000) /\ ∀ k, k < x -> lsT ss x <= (ss.getD k zeroSp).1 /\ (ss.getD k zeroSp).1 <= msT ss x
 | 0, _ => ⟨⟨(by decide : (0 : Int) <= 100000), Int.le_refl _⟩, ⟨Int.le_refl 0, (by decide : (0 : Int) <= 100000)⟩, fun k hk => by omega⟩
 | x + 1, hx => by
  obtain ⟨h1, h2, h3⟩ := lm_bd h x (by omega)
  have h4 := h _ (getD_mem (d := zeroSp) (show x < ss.length by omega))
  rw [lsT_succ (by omega), msT_succ (by omega)]
  have e1 : mnI (lsT ss x) (ss.getD x zeroSp).1 <= lsT ss x /\ mnI (lsT ss x) (ss.getD x zeroSp).1 <= (ss.getD x zeroSp).1 /\ 0 <= mnI (lsT ss x) (ss.getD x zeroSp).1 := by unfold mnI; split <;> omega
  have e2 : msT ss x <= mxI (msT ss x) (ss.getD x zeroSp).1 /\ (ss.getD x zeroSp).1 <= mxI (msT ss x) (ss.getD x zeroSp).1 /\ mxI (msT ss x) (ss.getD x zeroSp).1 <= 100000 := by unfold mxI; split <;> omega
  refine ⟨by omega, by omega, fun k hk => ?_⟩
  by_cases hkx : k = x
  ·rw [hkx]; omega
  ·have := h3 k (by omega); omega
theorem notT_succ (p : Int) (ss : List (Int × Int)) (rr : List (List Int)) (c : Int) (x : Nat) : notT p ss rr c (x + 1) = notT p ss rr c x ++ [((ss.getD x zeroSp).1 - stC rr x c * p + 1, (ss.getD x zeroSp).1 + stC rr x c * p - 1)] := tabP_succ ..
theorem notT_len (p : Int) (ss : List (Int × Int)) (rr : List (List Int)) (c : Int) (x : Nat) : (notT p ss rr c x).length = x := tabP_len ..
theorem farT_no {rr : List (List Int)} {c : Int} {x : Nat} (h : farT rr c x = false) (h1 : stC rr x c ≠ farI) : farT rr c (x + 1) = false := by
 unfold farT at h ⊢
 rw [List.range_succ, List.any_append, h, List.any_cons, decide_eq_false h1]; rfl
theorem farT_yes {rr : List (List Int)} {c : Int} {x n : Nat} (hx : x < n) (h1 : stC rr x c = farI) : farT rr c n = true := by
 unfold farT
 rw [List.any_eq_true]
 exact ⟨x, List.mem_range.2 hx, decide_eq_true h1⟩
theorem scanT_len (least most : Int) (S : List (Int × Int)) : ∀ k, k <= S.length -> (scanT least most S k).2.length <= k
 | 0, _ => Nat.le_refl _
 | k + 1, hk => by
  have ih := scanT_len least most S k (by omega)
  rw [scanT_succ _ _ _ (by omega)]
  unfold scan
  split
  ·omega
  ·dsimp only
   split
   ·rw [List.length_append, List.length_singleton]; omega
   ·omega
theorem ep_bd {e p : Int} (he : 0 <= e /\ e <= farI) (hp : 1 <= p /\ p <= 1000) : 0 <= e * p /\ e * p <= 1073741824000 := by
 have h1 : e * p <= 1073741824 * 1000 := Int.mul_le_mul he.2 hp.2 (by omega) (by omega)
 exact ⟨Int.mul_nonneg he.1 (by omega), h1⟩
theorem notT_bd {w h : Int} {a : List Bool} {p : Int} {ss : List (Int × Int)} {rr : List (List Int)} {c : Int} (t : TrOk w h a p ss) (rk : RowsOk a ss rr) (hc : 0 <= c /\ c < (a.length : Int)) : ∀ y ∈ notT p ss rr c ss.length, (-1100000000000 <= y.1 /\ y.1 <= 1100000000000) /\ (-1100000000000 <= y.2 /\ y.2 <= 1100000000000) := by
 intro y hy
 obtain ⟨k, hk, rfl⟩ := List.mem_map.1 hy
 have hk := List.mem_range.1 hk
 have h1 := ((rk.row k hk).2 (Int.toNat c) (by omega))
 have h2 := ep_bd (show 0 <= stC rr k c /\ stC rr k c <= farI from h1) t.pace
 have h3 := (t.bd hk).1
 dsimp only
 omega
theorem hvTimes {o1 o2 : Bool} {z1 z2 : Nat} {w h : Int} {a : List Bool} {p : Int} {ss : List (Int × Int)} {c : Int} (t : TrOk w h a p ss) (e0 : errT w h a p ss = 0) (hsea : seaB a c = true) (hne : 0 < ss.length) (hcf : cfTo p ss (trkRows w h a ss) ss.length = []) : Rtimes o1 o2 z1 z2 w h a p ss c := by
 have hs := t.few
 have hn := t.bas.n1
 have hp1 := t.bas.p1
 have ha : a.length <= 1024 := by omega
 have rk := rowsOk t
 have hc := (seaB_in hsea).1
 obtain ⟨rr, hrr⟩ : ∃ rr, rowT w h a ss ss.length = rr := ⟨_, rfl⟩
 have hcf' := hcf
 have rk' := rk
 rw [show trkRows w h a ss = rr from hrr] at hcf' rk'
 have hlr := rk'.len
 have hrow := fun k hk => rk'.row k hk
 have hlm := lm_bd (ss := ss) (fun s hm => (t.seen s hm).1)
 have hNb := notT_bd t rk' hc
 delta Rtimes kef ke3 ke8 ked keh kei ke9 kee kea ke7 kej ke4 ke5 kek ke1 keg keb ke6 kec ke2
 refine ⟨⟨rfl, rfl, trivial⟩, fun H' hH h => (by have := kOpen0 (by omega) (by omega) e0 (by decide) h.1 h.2.1; rw [hH] at this; exact this), ⟨rfl, trivial⟩, fun H' _ h => kSea _ _ _ _ (by omega) h.1, fun k => absurd hsea (by rw [notB k]; exact Bool.noConfusion), fun _ => ⟨⟨rfl, rfl, rfl, rfl, trivial⟩, fun H' hH h => hH ▸ kConf t rk ⟨by decide, h.2.1, h.2.2.1, h.1, h.2.2.2.1⟩, fun k3 => ?_, fun k3 => ⟨fun k4 => absurd (eq_of_beq k4) (by omega), fun _ => ?_⟩⟩⟩
 ·have := of_decide_eq_true k3
  rw [show (rowT w h a ss ss.length) = trkRows w h a ss from rfl, hcf] at this
  exact absurd this (by simp)
 rw [hrr]
 refine ⟨rfl, ⟨Nat.zero_le _, rfl⟩, ?_, fun _ => rfl, fun x hx => ⟨fun k => ?_, fun k => ?_⟩⟩
 ·repeat' first | exact wk_nil _ _ _ (.inl rfl) | exact rfl | exact wk_refl _ | exact wks_nil | exact wk_nil _ _ _ (.inl rfl) | apply And.intro
 ·have h1 : x < ss.length := by have := of_decide_eq_true k; omega
  obtain ⟨r1, r2⟩ := hrow x h1
  have hb := r2 (Int.toNat c) (by omega)
  have ht := (t.bd h1).1
  obtain ⟨b1, b2, _⟩ := hlm x (by omega)
  have hNl := notT_len p ss rr c x
  refine ⟨⟨by omega, by omega⟩, spPart h1 (by omega), ⟨by omega, by omega⟩, inL_at (by omega) (by omega), ⟨hc.1, by rw [r1]; exact hc.2⟩, intAt (by omega) (by omega), fun q => ⟨rfl, ?_⟩, fun q => ?_⟩
  ·have hfar : farT rr c ss.length = true := farT_yes h1 (eq_of_beq q)
   have e : tmL p ss rr c = [] := by unfold tmL; rw [if_pos hfar]
   rw [e]
   exact ⟨wk_tupL (wks_cons (wk_nil _ _ _ (.inl rfl)) (wks_cons (wk_refl _) wks_nil)), trivial, trivial⟩
  ·have hq : stC rr x c ≠ farI := fun e => by
    have e2 : (rr.getD x []).getD (Int.toNat c) 0 = 1073741824 := e
    rw [e2] at q; cases q
   have hsucc := notT_succ p ss rr c x
   unfold stC at hsucc
   obtain ⟨e, he⟩ : ∃ e, (rr.getD x []).getD (Int.toNat c) 0 = e := ⟨_, rfl⟩
   rw [he] at hb hsucc ⊢
   have hep := ep_bd hb t.pace
   obtain ⟨ep, hepe⟩ : ∃ ep, e * p = ep := ⟨_, rfl⟩
   rw [hepe] at hep hsucc ⊢
   refine ⟨vI64 (by omega), vI64 (by omega), vI64 (by omega), vI64 (by omega), vI64 (by omega), vI64 (by omega), ⟨by omega, by decide, ⟨Nat.le_refl _, by rw [flat_len spC_len]; omega⟩, ⟨Nat.le_refl _, by simp⟩, rfl⟩, rfl, vI64 (by omega), x + 1, ⟨by omega, farT_no hx.2 hq⟩, by omega, rfl, ?_⟩
   repeat' first | exact wk_snoc hsucc | exact ob_snoc spC_len hsucc rfl | exact spB _ _ | exact congrArg (Value.int .i64) (lsT_succ h1).symm | exact congrArg (Value.int .i64) (msT_succ h1).symm | exact rfl | exact wk_refl _ | exact wks_nil | exact wk_nil _ _ _ (.inl rfl) | apply And.intro
 ·have h1 : x = ss.length := by have := of_decide_eq_false k; omega
  have hfar := hx.2
  subst h1
  have hNl := notT_len p ss rr c ss.length
  obtain ⟨b1, b2, b3⟩ := hlm ss.length (Nat.le_refl _)
  have hlm0 : lsT ss ss.length <= msT ss ss.length := by have := b3 0 hne; omega
  refine ⟨⟨rfl, trivial⟩, fun H' _ h => kSortS (fun m hm => ?_) (by omega) (by omega) h.1, fun M hM => ?_⟩
  ·have := hNb m hm
   unfold okS2; omega
  have hfin := scan_all hlm0 hM
  have htm : tmL p ss rr c = runs (fun m => !notF (notT p ss rr c ss.length) m) (lsT ss ss.length) (Int.toNat (msT ss ss.length - lsT ss ss.length + 1)) := by
   unfold tmL; rw [if_neg (by rw [hfar]; exact Bool.noConfusion)]
  rw [<- htm] at hfin
  have hMl := hM.1.length_eq
  have hMb : ∀ y ∈ M, (-1100000000000 <= y.1 /\ y.1 <= 1100000000000) /\ (-1100000000000 <= y.2 /\ y.2 <= 1100000000000) := fun y hy => hNb y (hM.1.mem_iff.2 hy)
  clear hNb htm hM b3 hlm hx k
  generalize hmost : msT ss ss.length = most at *
  generalize hleast : lsT ss ss.length = least at *
  generalize hN : notT p ss rr c ss.length = N at *
  refine ⟨vI64 (by omega), vI64 (by omega), ⟨by omega, by decide, ⟨Nat.le_refl _, by rw [flat_len spC_len]; omega⟩, ⟨Nat.le_refl _, by simp⟩, rfl⟩, rfl, rfl, Nat.zero_le _, ?_, fun _ => rfl, fun y hy => ⟨fun ky => ?_, fun ky => ?_⟩⟩
  ·rw [hMl]
   repeat' first | exact wk_nil _ _ _ (.inl rfl) | exact iEq rfl | exact ob_snoc spC_len rfl rfl | exact spB _ _ | exact rfl | exact wk_refl _ | exact wks_nil | exact wk_nil _ _ _ (.inl rfl) | apply And.intro
  ·have hSl : (M ++ [(most + 1, most + 1)]).length = N.length + 1 := by rw [List.length_append, List.length_singleton, hMl]
   have hSb : ∀ z ∈ M ++ [(most + 1, most + 1)], (-1100000000000 <= z.1 /\ z.1 <= 1100000000000) /\ (-1100000000000 <= z.2 /\ z.2 <= 1100000000000) := fun z hz => by
    rcases List.mem_append.1 hz with hz | hz
    ·exact hMb z hz
    ·rw [List.mem_singleton.1 hz]; dsimp only; omega
   have hyl : y < (M ++ [(most + 1, most + 1)]).length := by have := of_decide_eq_true ky; omega
   clear hMb hfin
   generalize hS : M ++ [(most + 1, most + 1)] = S at *
   have hst := scanT_succ least most S hyl
   have hsl := scanT_len least most S y (by omega)
   have hxb := hSb _ (getD_mem (d := zeroSp) hyl)
   refine ⟨⟨by omega, by omega⟩, spPart hyl (by omega), ?_⟩
   unfold scan at hst
   generalize hx : S.getD y zeroSp = x at *
   generalize hsc : scanT least most S y = st at *
   refine ⟨fun c0 => ⟨vI64 (by omega), y + 1, by omega, by omega, rfl, ?_⟩, fun c0 => ⟨fun c1 => ⟨fun c2 => ?_, fun c2 => ?_⟩, fun c1 => ?_⟩⟩
   ·have h0 : x.1 > x.2 := of_decide_eq_true c0
    rw [if_pos h0] at hst
    rw [hst]
    repeat' first | exact spB _ _ | exact rfl | exact wk_refl _ | exact wks_nil | exact wk_nil _ _ _ (.inl rfl) | apply And.intro
   ·have h0 : ¬ x.1 > x.2 := of_decide_eq_false c0
    have h1 : x.1 > st.1 /\ st.1 <= most := ⟨of_decide_eq_true c1, of_decide_eq_true c2⟩
    rw [if_neg h0, if_pos h1] at hst
    refine ⟨vI64 (by omega), ⟨by omega, by decide, ⟨Nat.le_refl _, by rw [flat_len spC_len]; omega⟩, ⟨Nat.le_refl _, by simp⟩, rfl⟩, rfl, vI64 (by omega), mxI st.1 (x.2 + 1), rfl, vI64 (by omega), y + 1, by omega, by omega, rfl, ?_⟩
    rw [hst]
    repeat' first | exact wk_snoc rfl | exact ob_snoc spC_len rfl rfl | exact spB _ _ | exact rfl | exact wk_refl _ | exact wks_nil | exact wk_nil _ _ _ (.inl rfl) | apply And.intro
   ·have h0 : ¬ x.1 > x.2 := of_decide_eq_false c0
    have h1 : ¬ (x.1 > st.1 /\ st.1 <= most) := fun q => absurd (of_decide_eq_false c2) (by omega)
    rw [if_neg h0, if_neg h1] at hst
    refine ⟨vI64 (by omega), mxI st.1 (x.2 + 1), rfl, vI64 (by omega), y + 1, by omega, by omega, rfl, ?_⟩
    rw [hst]
    repeat' first | exact spB _ _ | exact rfl | exact wk_refl _ | exact wks_nil | exact wk_nil _ _ _ (.inl rfl) | apply And.intro
   ·have h0 : ¬ x.1 > x.2 := of_decide_eq_false c0
    have h1 : ¬ (x.1 > st.1 /\ st.1 <= most) := fun q => absurd (of_decide_eq_false c1) (by omega)
    rw [if_neg h0, if_neg h1] at hst
    refine ⟨vI64 (by omega), mxI st.1 (x.2 + 1), rfl, vI64 (by omega), y + 1, by omega, by omega, rfl, ?_⟩
    rw [hst]
    repeat' first | exact spB _ _ | exact rfl | exact wk_refl _ | exact wks_nil | exact wk_nil _ _ _ (.inl rfl) | apply And.intro
  ·have h2 : y = (M ++ [(most + 1, most + 1)]).length := by
    have := of_decide_eq_false ky
    rw [List.length_append, List.length_singleton] at *
    omega
   subst h2
   rw [hfin]
   repeat' first | exact spB _ _ | exact rfl | exact wk_refl _ | exact wks_nil | exact wk_nil _ _ _ (.inl rfl) | apply And.intro
theorem kTimes {w h : Int} {a : List Bool} {p : Int} {ss : List (Int × Int)} {c : Int} (e0 : errT w h a p ss = 0) (hsea : seaB a c = true) (hne0 : 0 < ss.length) (hcf : cfTo p ss (trkRows w h a ss) ss.length = []) {H : Heap} {i j : Nat} (hne : i ≠ j) {o1 o2 : Bool} {z1 z2 : Nat} (hi : H[i]? = some (.cells o1 z1 (a.flatMap boolC))) (hj : H[j]? = some (.cells o2 z2 (ss.flatMap spC))) :
  KCall prog 19 [trkV w h a p ss i j, .int .i64 c] H [] (Is (.tuple #[.slice (some ⟨H.length, 0, some 1⟩) (tmL p ss (trkRows w h a ss) c).length (tmL p ss (trkRows w h a ss) c).length, .int .i64 0]) (H ++ [.cells true 2 ((tmL p ss (trkRows w h a ss) c).flatMap spC)])) :=
 valKs (fun j => .tuple #[.slice (some ⟨j, 0, some 1⟩) (tmL p ss (trkRows w h a ss) c).length (tmL p ss (trkRows w h a ss) c).length, .int .i64 0]) (new := [.cells true 2 ((tmL p ss (trkRows w h a ss) c).flatMap spC)]) (Eq.mpr (Etimes o1 o2 z1 z2 w h a p ss c) (hvTimes (trOk e0) e0 hsea hne0 hcf)) (trk_ok ..) rfl ⟨⟨_, _, rfl, plainSp _ _⟩, trivial⟩ (ids := [i, j]) (by simp [hne]) (trk_objs hi hj) (fun j => rfl) rfl
end
end Go.Proofs.YtbgfjemppjhmjaaGreat
/- Radio: basins and ways made of numbers, as plain functions. No condition. -/
namespace Go.Proofs.YtbgfjemppjhmjaaGreat
set_option linter.unusedSimpArgs false
open Go Go.K
set_option linter.unusedVariables false
def wtLand (L : List Int) (k : Nat) : List Bool := tabP (fun i : Nat => decide (0 < i) && decide (dN L ((i : Int) + 1) 7 = 0)) k
def wtN (k : Nat) : Int := 2 + ((k - 1 : Nat) : Int)
def sdx (d : Int) : Int := List.getD [1, 0, -1, 0] (Int.toNat d) 0
def sdy (d : Int) : Int := List.getD [0, 1, 0, -1] (Int.toNat d) 0
structure Sl where
 now : Int
 q : Int
 at_ : List Int
def slU (L : List Int) (w : Int) (s : Sl) : Int := Int.tmod s.now w + sdx (dN L (s.q + 1) 4)
def slV (L : List Int) (w : Int) (s : Sl) : Int := Int.tdiv s.now w + sdy (dN L (s.q + 1) 4)
def slOk (L : List Int) (w h : Int) (a : List Bool) (s : Sl) : Bool := decide (0 <= slU L w s) && (decide (slU L w s < w) && (decide (0 <= slV L w s) && (decide (slV L w s < h) && !(List.getD a (Int.toNat (slV L w s * w + slU L w s)) false))))
def slPut (s : Sl) (x : Nat) : List Int := s.at_ ++ List.replicate x (-1)
def slStep (L : List Int) (w h : Int) (a : List Bool) (p : Int) (s : Sl) : Sl :=
 if dN L s.q 3 > 0 then (if slOk L w h a s = true then ⟨slV L w s * w + slU L w s, s.q + 1 + 1, slPut s (Int.toNat (p - 1)) ++ [slV L w s * w + slU L w s]⟩ else ⟨s.now, s.q + 1 + 1, s.at_ ++ [s.now]⟩)
 else ⟨s.now, s.q + 1, s.at_ ++ [s.now]⟩
def slRun (L : List Int) (w h : Int) (a : List Bool) (p : Int) : Nat -> Sl -> Sl
 | 0, s => s
 | m + 1, s => if s.at_.length <= 120 then slRun L w h a p m (slStep L w h a p s) else s
def slF (L : List Int) (w h : Int) (a : List Bool) (p q : Int) : Sl := slRun L w h a p 120 ⟨0, q, [0]⟩
end Go.Proofs.YtbgfjemppjhmjaaGreat
/- Radio: ways made of numbers: what the loop keeps. No condition. -/
namespace Go.Proofs.YtbgfjemppjhmjaaGreat
set_option linter.unusedSimpArgs false
open Go Go.K
set_option linter.unusedVariables false
structure SlI (L : List Int) (w h : Int) (a : List Bool) (p q : Int) (s : Sl) : Prop where
 now : 0 <= s.now /\ s.now < (a.length : Int)
 cnt : 0 <= s.q /\ s.q <= q + 2 * (s.at_.length : Int)
 len : 1 <= s.at_.length /\ s.at_.length <= 160
 run : ∃ m, 121 <= m + s.at_.length /\ slRun L w h a p m s = slF L w h a p q
end Go.Proofs.YtbgfjemppjhmjaaGreat
