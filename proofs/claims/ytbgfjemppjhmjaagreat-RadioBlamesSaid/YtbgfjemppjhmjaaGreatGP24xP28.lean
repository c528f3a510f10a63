/- Radio: a track at work: can, agree, all, conflicts. No condition. -/
import Derived.Test.YtbgfjemppjhmjaaGreatGW20xO24g
import Derived.Test.YtbgfjemppjhmjaaGreatGP3xP7
import Derived.Test.YtbgfjemppjhmjaaGreatGW2xO3g
namespace Go.Proofs.YtbgfjemppjhmjaaGreat
open Go Go.K
set_option maxRecDepth 100000
set_option linter.unusedVariables false
set_option linter.unusedSimpArgs false
noncomputable section
attribute [local irreducible] vF
structure RowsOk (a : List Bool) (ss : List (Int × Int)) (rr : List (List Int)) : Prop where
 len : rr.length = ss.length
 row : ∀ k, k < ss.length -> (rr.getD k []).length = a.length /\ ∀ c, c < a.length -> 0 <= (rr.getD k []).getD c 0 /\ (rr.getD k []).getD c 0 <= farI
theorem spAt0 {l : List (Int × Int)} {k off : Nat} (h : k < l.length) (ho : off = k * 2) : (l.flatMap spC)[off]? = some (.int .i64 (l.getD k zeroSp).1) := cell_at (c := 0) (d := zeroSp) spC_len h (by omega) rfl
theorem spAt1 {l : List (Int × Int)} {k off : Nat} (h : k < l.length) (ho : off = k * 2 + 1) : (l.flatMap spC)[off]? = some (.int .i64 (l.getD k zeroSp).2) := cell_at (c := 1) (d := zeroSp) spC_len h (by omega) rfl
theorem hvCan {o1 o2 : Bool} {z1 z2 : Nat} {w h : Int} {a : List Bool} {p : Int} {ss : List (Int × Int)} {rr : List (List Int)} {i : Nat} {c m : Int} (t : TrOk w h a p ss) (r : RowsOk a ss rr) (hi : i < ss.length) (hc : 0 <= c /\ c < (a.length : Int)) (hm : -1000000 <= m /\ m <= 1000000) : Rcan o1 o2 z1 z2 w h a p ss rr i c m := by
 have hl := r.len
 obtain ⟨r1, r2⟩ := r.row i hi
 have hb := r2 (Int.toNat c) (by omega)
 have hs := t.bd hi
 have hp := t.pace
 delta Rcan kq6 kq4 kqa
 refine ⟨⟨by omega, by omega⟩, inL_at (by omega) (by omega), ⟨hc.1, by rw [r1]; exact hc.2⟩, intAt (by omega) (by omega), fun k => ?_, fun k => ?_⟩
 ·have h1 := of_decide_eq_true k
  obtain ⟨e, he⟩ : ∃ e, (rr.getD i []).getD (Int.toNat c) 0 = e := ⟨_, rfl⟩
  rw [he] at h1 hb
  have hep : 0 <= e * p /\ e * p <= 1073741824 * 1000 := ⟨Int.mul_nonneg hb.1 (by omega), Int.mul_le_mul (by omega) hp.2 (by omega) (by omega)⟩
  refine ⟨by rw [he]; exact vI64 (by omega), ⟨by omega, by omega⟩, spAt0 hi (by omega), vI64 (by omega), ⟨by omega, by omega⟩, spAt0 hi (by omega), vI64 (by omega), rfl, wk_of_eq ?_, trivial⟩
  show Value.bool _ = Value.bool _
  congr 1
  unfold canB
  rw [he, decide_eq_true (show e < farI from h1), Bool.true_and]; rfl
 ·refine ⟨rfl, wk_of_eq ?_, trivial⟩
  show Value.bool _ = Value.bool _
  congr 1
  unfold canB
  have h1 := of_decide_eq_false k
  rw [decide_eq_false (show ¬ _ < farI from h1)]; rfl
def WkAt (H : Heap) (o1 o2 : Bool) (z1 z2 : Nat) (w h : Int) (a : List Bool) (p : Int) (ss : List (Int × Int)) (rr : List (List Int)) (i j r q : Nat) : Prop :=
 [i, j, r, q].Nodup /\ H[i]? = some (.cells o1 z1 (a.flatMap boolC)) /\ H[j]? = some (.cells o2 z2 (ss.flatMap spC)) /\ H[r]? = some (.cells true 0 (wkCs w h a p ss rr i j q)) /\ H[q]? = some (.cells true 1 (inL rr))
theorem wkA_ok (o1 o2 : Bool) (z1 z2 : Nat) (w h : Int) (a : List Bool) (p : Int) (ss : List (Int × Int)) (rr : List (List Int)) : [KObj.cells o1 z1 (a.flatMap boolC), .cells o2 z2 (ss.flatMap spC), .cells true 0 (wkCs w h a p ss rr 0 1 3), .cells true 1 (inL rr)].all (rnoOk 3) = true := by
 show (rnoOk 3 (.cells o1 z1 (a.flatMap boolC)) && (rnoOk 3 (.cells o2 z2 (ss.flatMap spC)) && (rnoOk 3 (.cells true 0 (wkCs w h a p ss rr 0 1 3)) && (rnoOk 3 (.cells true 1 (inL rr)) && true)))) = true
 rw [boolRok, spRok, inLRok]; rfl
theorem WkAt.objs {H : Heap} {o1 o2 : Bool} {z1 z2 : Nat} {w h : Int} {a : List Bool} {p : Int} {ss : List (Int × Int)} {rr : List (List Int)} {i j r q : Nat} (k : WkAt H o1 o2 z1 z2 w h a p ss rr i j r q) :
  objsAt H (sgI [i, j, r, q]) [i, j, r, q] [.cells o1 z1 (a.flatMap boolC), .cells o2 z2 (ss.flatMap spC), .cells true 0 (wkCs w h a p ss rr 0 1 3), .cells true 1 (inL rr)] :=
 ⟨by rw [boolRno]; exact k.2.1, by rw [spRno]; exact k.2.2.1, k.2.2.2.1, by rw [inLRno]; exact k.2.2.2.2, trivial⟩
theorem kCan {w h : Int} {a : List Bool} {p : Int} {ss : List (Int × Int)} {rr : List (List Int)} (t : TrOk w h a p ss) (rk : RowsOk a ss rr) {x : Nat} {c m : Int} (hx : x < ss.length) (hc : 0 <= c /\ c < (a.length : Int)) (hm : -1000000 <= m /\ m <= 1000000) {H : Heap} {o1 o2 : Bool} {z1 z2 i j r q : Nat} (k : WkAt H o1 o2 z1 z2 w h a p ss rr i j r q) :
  KCall prog 79 [.pointer (some ⟨r, 0, none⟩), .int .i64 (x : Int), .int .i64 c, .int .i64 m] H [] (Is (.bool (canB p ss rr x c m)) H) := by
 have key := valKs (fun _ => .bool (canB p ss rr x c m)) (new := []) (Eq.mpr (Ecan o1 o2 z1 z2 w h a p ss rr x c m) (hvCan t rk hx hc hm)) (wkA_ok ..) rfl trivial k.1 k.objs (fun j => rfl) (args' := [.pointer (some ⟨r, 0, none⟩), .int .i64 (x : Int), .int .i64 c, .int .i64 m]) rfl
 rwa [List.append_nil] at key
theorem kAgree {w h : Int} {a : List Bool} {p : Int} {ss : List (Int × Int)} {rr : List (List Int)} (t : TrOk w h a p ss) (rk : RowsOk a ss rr) {x y : Nat} (hx : x < ss.length) (hy : y < ss.length) {H : Heap} {o1 o2 : Bool} {z1 z2 i j r q : Nat} (k : WkAt H o1 o2 z1 z2 w h a p ss rr i j r q) :
  KCall prog 87 [.pointer (some ⟨r, 0, none⟩), .int .i64 (x : Int), .int .i64 (y : Int)] H [] (Is (.bool (agrB p ss rr x y)) H) := by
 have hb := t.bd hy
 have key := valKs (fun _ => .bool (agrB p ss rr x y)) (new := []) (Eq.mpr (Eagree o1 o2 z1 z2 w h a p ss rr x y) (show Ragree o1 o2 z1 z2 w h a p ss rr x y by
   delta Ragree kq4 kq5 kq6
   exact ⟨⟨by omega, by omega⟩, spAt1 hy (by omega), ⟨by omega, by omega⟩, spAt0 hy (by omega), ⟨rfl, rfl, rfl, rfl, trivial⟩, fun H' _ h' => kCan t rk hx hb.2 (by omega) ⟨by decide, h'.2.1, h'.2.2.1, h'.1, h'.2.2.2.1⟩, rfl, wk_refl _, trivial⟩)) (wkA_ok ..) rfl trivial k.1 k.objs (fun j => rfl) (args' := [.pointer (some ⟨r, 0, none⟩), .int .i64 (x : Int), .int .i64 (y : Int)]) rfl
 rwa [List.append_nil] at key
theorem allL_len (n : Nat) : (allL n).length = n := tabP_len ..
theorem allL_succ (n : Nat) : allL (n + 1) = allL n ++ [(n : Int)] := tabP_succ ..
theorem hvAll {o1 o2 : Bool} {z1 z2 : Nat} {w h : Int} {a : List Bool} {p : Int} {ss : List (Int × Int)} {rr : List (List Int)} (hs : ss.length <= 100000) : Rall o1 o2 z1 z2 w h a p ss rr := by
 delta Rall kq4 kq3 kq8
 refine ⟨rfl, Nat.zero_le _, ?_, fun _ => rfl, fun x hx => ⟨fun k => ?_, fun k => ?_⟩⟩
 ·repeat' first | exact wk_nil _ _ _ (.inl rfl) | exact rfl | exact wk_refl _ | exact wks_nil | exact wk_nil _ _ _ (.inl rfl) | apply And.intro
 ·have h1 : x < ss.length := by have := of_decide_eq_true k; omega
  have hl := allL_len x
  refine ⟨⟨by omega, by decide, ⟨Nat.le_refl _, by rw [flat_len intC_len]; omega⟩, ⟨Nat.le_refl _, by simp⟩, rfl⟩, rfl, vI64 (by omega), x + 1, by omega, by omega, rfl, ?_⟩
  repeat' first | exact wk_snoc (allL_succ x) | exact ob_snoc intC_len (allL_succ x) rfl | exact plainIL _ _ | exact rfl | exact wk_refl _ | exact wks_nil | exact wk_nil _ _ _ (.inl rfl) | apply And.intro
 ·have h1 : x = ss.length := by have := of_decide_eq_false k; omega
  rw [h1]
  repeat' first | exact plainIL _ _ | exact rfl | exact wk_refl _ | exact wks_nil | exact wk_nil _ _ _ (.inl rfl) | apply And.intro
theorem kAll {w h : Int} {a : List Bool} {p : Int} {ss : List (Int × Int)} {rr : List (List Int)} (hs : ss.length <= 100000) {H : Heap} {o1 o2 : Bool} {z1 z2 i j r q : Nat} (k : WkAt H o1 o2 z1 z2 w h a p ss rr i j r q) :
  KCall prog 77 [.pointer (some ⟨r, 0, none⟩)] H [] (Is (.slice (some ⟨H.length, 0, some 1⟩) (allL ss.length).length (allL ss.length).length) (H ++ [.cells true 1 ((allL ss.length).flatMap intC)])) :=
 valKs (fun j => .slice (some ⟨j, 0, some 1⟩) (allL ss.length).length (allL ss.length).length) (new := [.cells true 1 ((allL ss.length).flatMap intC)]) (Eq.mpr (Eall o1 o2 z1 z2 w h a p ss rr) (hvAll hs)) (wkA_ok ..) rfl ⟨⟨_, _, rfl, plainIL _ _⟩, trivial⟩ k.1 k.objs (fun j => rfl) rfl
theorem cfRow_le (p : Int) (ss : List (Int × Int)) (rr : List (List Int)) (x y : Nat) : (cfRow p ss rr x y).length <= y := by
 unfold cfRow
 rw [List.length_map]
 exact Nat.le_trans (List.length_filter_le ..) (by simp)
theorem cfRow_0 (p : Int) (ss : List (Int × Int)) (rr : List (List Int)) (x : Nat) : cfRow p ss rr x (x + 1) = [] := by
 unfold cfRow
 rw [List.filter_eq_nil_iff.2 (fun k hk => by
  have := List.mem_range.1 hk
  rw [decide_eq_false (by omega)]; simp)]
 rfl
theorem cfRow_yes {p : Int} {ss : List (Int × Int)} {rr : List (List Int)} {x y : Nat} (h : x < y) (e : agrB p ss rr x y = false) : cfRow p ss rr x (y + 1) = cfRow p ss rr x y ++ [((x : Int), (y : Int))] := by
 unfold cfRow
 rw [List.range_succ, List.filter_append, List.map_append]
 simp [h, e]
theorem cfRow_no {p : Int} {ss : List (Int × Int)} {rr : List (List Int)} {x y : Nat} (e : agrB p ss rr x y = true) : cfRow p ss rr x (y + 1) = cfRow p ss rr x y := by
 unfold cfRow
 rw [List.range_succ, List.filter_append, List.map_append]
 simp [e]
theorem cfTo_succ (p : Int) (ss : List (Int × Int)) (rr : List (List Int)) (x : Nat) : cfTo p ss rr (x + 1) = cfTo p ss rr x ++ cfRow p ss rr x ss.length := by
 unfold cfTo
 rw [List.range_succ, List.flatMap_append]; simp
theorem cfTo_le (p : Int) (ss : List (Int × Int)) (rr : List (List Int)) (x : Nat) : (cfTo p ss rr x).length <= x * ss.length := by
 induction x with
 | zero => simp [cfTo]
 | succ x ih =>
  rw [cfTo_succ, List.length_append]
  have := cfRow_le p ss rr x ss.length
  rw [Nat.succ_mul]; omega
theorem spB (n : Nat) (l : List (Int × Int)) : belowO n (.cells true 2 (l.flatMap spC)) = true := plainSp n l
theorem wkQL {α : Type} {id : Nat} {L M : List α} (h : L = M) : wk (.slice (some ⟨id, 0, some 1⟩) L.length L.length) (.slice (some ⟨id, 0, some 1⟩) M.length M.length) := by rw [h]; exact wk_refl _
theorem obE {own : Bool} {z : Nat} {L M : List (Int × Int)} (h : L = M) : (some (KObj.cells own z (L.flatMap spC)) : Option KObj) = some (.cells own z (M.flatMap spC)) := by rw [h]
theorem hvConf {o1 o2 : Bool} {z1 z2 : Nat} {w h : Int} {a : List Bool} {p : Int} {ss : List (Int × Int)} {rr : List (List Int)} (t : TrOk w h a p ss) (rk : RowsOk a ss rr) : Rconf o1 o2 z1 z2 w h a p ss rr := by
 have hs := t.few
 delta Rconf kq4 kq3 kq9 kq8 kq2 kq5 kq7
 refine ⟨rfl, Nat.zero_le _, ?_, fun _ => rfl, fun x hx => ⟨fun k => ?_, fun k => ?_⟩⟩
 ·repeat' first | exact wk_nil _ _ _ (.inl rfl) | exact rfl | exact wk_refl _ | exact wks_nil | exact wk_nil _ _ _ (.inl rfl) | apply And.intro
 ·have h1 : x < ss.length := by have := of_decide_eq_true k; omega
  refine ⟨vI64 (by omega), rfl, ⟨by omega, .inr rfl⟩, ?_, fun _ => rfl, fun y hy => ⟨fun ky => ?_, fun ky => ?_⟩⟩
  ·have e0 : cfTo p ss rr x = cfTo p ss rr x ++ cfRow p ss rr x (x + 1) := by rw [cfRow_0, List.append_nil]
   repeat' first | exact wkQL e0 | exact obE e0 | exact spB _ _ | exact rfl | exact wk_refl _ | exact wks_nil | exact wk_nil _ _ _ (.inl rfl) | apply And.intro
  ·have h2 : y < ss.length := by have := of_decide_eq_true ky; omega
   have hle : (cfTo p ss rr x ++ cfRow p ss rr x y).length <= 500 := by
    rw [List.length_append]
    have a1 := cfTo_le p ss rr x
    have a2 := cfRow_le p ss rr x y
    have a3 : x * ss.length <= 20 * 20 := Nat.mul_le_mul (by omega) hs
    omega
   refine ⟨⟨rfl, rfl, rfl, rfl, trivial⟩, fun H' _ h' => kAgree t rk h1 h2 ⟨by decide, h'.2.1, h'.2.2.1, h'.1, h'.2.2.2.1⟩, fun b => ?_, fun b => ?_⟩
   ·have e0 : cfTo p ss rr x ++ cfRow p ss rr x (y + 1) = (cfTo p ss rr x ++ cfRow p ss rr x y) ++ [((x : Int), (y : Int))] := by rw [cfRow_yes hy.1 (notB b), List.append_assoc]
    refine ⟨⟨by omega, by decide, ⟨Nat.le_refl _, by rw [flat_len spC_len]; omega⟩, ⟨Nat.le_refl _, by simp⟩, rfl⟩, rfl, vI64 (by omega), y + 1, ⟨by omega, by omega⟩, by omega, rfl, ?_⟩
    repeat' first | exact wk_snoc e0 | exact ob_snoc spC_len e0 rfl | exact spB _ _ | exact rfl | exact wk_refl _ | exact wks_nil | exact wk_nil _ _ _ (.inl rfl) | apply And.intro
   ·have e0 : cfTo p ss rr x ++ cfRow p ss rr x y = cfTo p ss rr x ++ cfRow p ss rr x (y + 1) := by rw [cfRow_no (notB2 b)]
    refine ⟨vI64 (by omega), y + 1, ⟨by omega, by omega⟩, by omega, rfl, ?_⟩
    repeat' first | exact wkQL e0 | exact obE e0 | exact spB _ _ | exact rfl | exact wk_refl _ | exact wks_nil | exact wk_nil _ _ _ (.inl rfl) | apply And.intro
  ·have h2 : y = ss.length := by have := of_decide_eq_false ky; omega
   have e0 : cfTo p ss rr x ++ cfRow p ss rr x y = cfTo p ss rr (x + 1) := by rw [cfTo_succ, h2]
   refine ⟨vI64 (by omega), x + 1, by omega, by omega, rfl, ?_⟩
   repeat' first | exact wkQL e0 | exact obE e0 | exact spB _ _ | exact rfl | exact wk_refl _ | exact wks_nil | exact wk_nil _ _ _ (.inl rfl) | apply And.intro
 ·have h1 : x = ss.length := by have := of_decide_eq_false k; omega
  rw [h1]
  repeat' first | exact spB _ _ | exact rfl | exact wk_refl _ | exact wks_nil | exact wk_nil _ _ _ (.inl rfl) | apply And.intro
theorem kConf {w h : Int} {a : List Bool} {p : Int} {ss : List (Int × Int)} {rr : List (List Int)} (t : TrOk w h a p ss) (rk : RowsOk a ss rr) {H : Heap} {o1 o2 : Bool} {z1 z2 i j r q : Nat} (k : WkAt H o1 o2 z1 z2 w h a p ss rr i j r q) :
  KCall prog 74 [.pointer (some ⟨r, 0, none⟩)] H [] (Is (.slice (some ⟨H.length, 0, some 1⟩) (cfTo p ss rr ss.length).length (cfTo p ss rr ss.length).length) (H ++ [.cells true 2 ((cfTo p ss rr ss.length).flatMap spC)])) :=
 valKs (fun j => .slice (some ⟨j, 0, some 1⟩) (cfTo p ss rr ss.length).length (cfTo p ss rr ss.length).length) (new := [.cells true 2 ((cfTo p ss rr ss.length).flatMap spC)]) (Eq.mpr (Econf o1 o2 z1 z2 w h a p ss rr) (hvConf t rk)) (wkA_ok ..) rfl ⟨⟨_, _, rfl, plainSp _ _⟩, trivial⟩ k.1 k.objs (fun j => rfl) rfl
end
end Go.Proofs.YtbgfjemppjhmjaaGreat
/- Radio: where a ship can be and when, as plain functions. No condition. -/
namespace Go.Proofs.YtbgfjemppjhmjaaGreat
set_option linter.unusedSimpArgs false
open Go Go.K
set_option linter.unusedVariables false
noncomputable section
def mnI (x y : Int) : Int := if y < x then y else x
def clrB (p : Int) (ss : List (Int × Int)) (rr : List (List Int)) (c m : Int) (x : Nat) : Bool := (List.range x).all fun i => canB p ss rr i c m
def whL (a : List Bool) (p : Int) (ss : List (Int × Int)) (rr : List (List Int)) (m : Int) (x : Nat) : List Int := ((List.range x).filter fun c : Nat => seaB a c && clrB p ss rr c m ss.length).map fun c : Nat => (c : Int)
def scan (most : Int) (st : Int × List (Int × Int)) (x : Int × Int) : Int × List (Int × Int) :=
 if x.1 > x.2 then st else (mxI st.1 (x.2 + 1), if x.1 > st.1 /\ st.1 <= most then st.2 ++ [(st.1, mnI (x.1 - 1) most)] else st.2)
def notF (N : List (Int × Int)) (m : Int) : Bool := N.any fun x => decide (x.1 <= m) && decide (m <= x.2)
def addR (l : List (Int × Int)) (m : Int) : List (Int × Int) := match l.getLast? with
 | some x => if x.2 + 1 = m then l.dropLast ++ [(x.1, m)] else l ++ [(m, m)]
 | none => [(m, m)]
def runs (f : Int -> Bool) (lo : Int) : Nat -> List (Int × Int)
 | 0 => []
 | n + 1 => if f (lo + (n : Int)) = true then addR (runs f lo n) (lo + (n : Int)) else runs f lo n
def wtW (L : List Int) (n : Int) : Int := 2 + dN L n 5
def wtH (L : List Int) (n : Int) : Int := 2 + dN L (n + 1) 4
end
end Go.Proofs.YtbgfjemppjhmjaaGreat
/- What is to be shown of functions. Printed by a program. No condition. -/
namespace Go.Proofs.YtbgfjemppjhmjaaGreat
set_option linter.unusedSimpArgs false
open Go Go.K
set_option maxRecDepth 100000
set_option maxHeartbeats 4000000
set_option linter.unusedVariables false
noncomputable section
abbrev kd5 (w : Int) (h : Int) (a : List Bool) (ss : List (Int × Int)):=rowT w h a ss ss.length
abbrev kd3 (w : Int) (h : Int) (a : List Bool) (p : Int) (ss : List (Int × Int)) : List Value:=[nI w,nI h,slQ 0 2 a.length,nI p,slQ 1 2 ss.length,slQ 5 1 (kd5 w h a ss).length]
abbrev kdb (a : List Bool) (p : Int) (ss : List (Int × Int)) (w : Int) (h : Int) (m : Int) : Value:=.tuple #[slQ 2 1 (whL a p ss (kd5 w h a ss) m a.length).length,nI 0]
abbrev kd8 (w : Int) (h : Int) (a : List Bool) (p : Int) (ss : List (Int × Int)) (o1 : Bool) (z1 : Nat) (o2 : Bool) (z2 : Nat) : Prop:=(someR (.cells true 0 (kd3 w h a p ss))) /\ (someR (.cells o1 z1 (a.flatMap boolC))) /\ (someR (.cells o2 z2 (ss.flatMap spC))) /\ (someR (.cells true 1 (inL (kd5 w h a ss)))) /\ True
abbrev kd6 (H' : Heap) (w : Int) (h : Int) (a : List Bool) (p : Int) (ss : List (Int × Int)) (o1 : Bool) (z1 : Nat) (o2 : Bool) (z2 : Nat) : Prop:=H'[4]? = some (.cells true 0 (kd3 w h a p ss) : KObj) /\ H'[0]? = some (.cells o1 z1 (a.flatMap boolC) : KObj) /\ H'[1]? = some (.cells o2 z2 (ss.flatMap spC) : KObj) /\ H'[5]? = some (.cells true 1 (inL (kd5 w h a ss)) : KObj) /\ True
abbrev kd4 (a : List Bool) : Prop:=(.pointer (some ⟨3,0,none⟩) : Value) = .pointer (some ⟨3,0,none⟩) /\ (.slice none 0 0 : Value) = .slice none 0 0 /\ (nI 0 : Value) = nI 0 /\ (.pointer (some ⟨6,0,none⟩) : Value) = .pointer (some ⟨6,0,none⟩) /\ (nI ((a.length : Nat) : Int) : Value) = nI ((a.length : Nat) : Int) /\ True
abbrev kd9 (ss : List (Int × Int)):=allL ss.length
abbrev kd0 : Value:=.func (.func 78) #[] #[.pointer (some ⟨6,0,none⟩),.pointer (some ⟨9,0,none⟩),.pointer (some ⟨3,0,none⟩)]
abbrev kd7 (ss : List (Int × Int)) : Prop:=kd0 = .func (.func 78) #[] #[.pointer (some ⟨6,0,none⟩),.pointer (some ⟨9,0,none⟩),.pointer (some ⟨3,0,none⟩)] /\ wkR (slQ 10 1 (kd9 ss).length) /\ (nI (((kd9 ss).length : Nat) : Int) : Value) = nI (((kd9 ss).length : Nat) : Int) /\ True
abbrev kd2 (a : List Bool) (p : Int) (ss : List (Int × Int)) (w : Int) (h : Int) (m : Int) (n_0 : Nat) : Prop:=(((whL a p ss (kd5 w h a ss) m n_0).length + 1) * 8 <= 2 ^ 44 /\ 1 ≠ 0 /\ ((whL a p ss (kd5 w h a ss) m n_0).length <= (whL a p ss (kd5 w h a ss) m n_0).length /\ 0 + (whL a p ss (kd5 w h a ss) m n_0).length * 1 <= List.length ((whL a p ss (kd5 w h a ss) m n_0).flatMap intC)) /\ (1 <= 1 /\ 0 + 1 * 1 <= List.length ([nI (n_0 : Int)] : List Value)) /\ (((([nI (n_0 : Int)] : List Value).drop 0).take (1 * 1)) : List Value).all (fun v => one1 v) = true) /\ true = true /\ ((nI (IntKind.wrap .i64 ((n_0 : Int) + 1)) : Value) = nI ((n_0 : Int) + 1) /\ (∃ n_2' : Nat,(n_2' <= List.length a) /\ (List.length a - n_2') < (List.length a - n_0) /\ true = true /\ ((nI ((n_0 : Int) + 1) : Value) = nI (n_2' : Int) /\ wk (.slice (some ⟨12,0,none⟩) ((whL a p ss (kd5 w h a ss) m n_0).length + 1) ((whL a p ss (kd5 w h a ss) m n_0).length + 1) : Value) (slQ 12 1 (whL a p ss (kd5 w h a ss) m n_2').length : Value) /\ kd4 a) /\ (True) /\ ((some (.cells true 1 (((((whL a p ss (kd5 w h a ss) m n_0).flatMap intC).drop 0).take ((whL a p ss (kd5 w h a ss) m n_0).length * 1)) ++ ((([nI (n_0 : Int)] : List Value).drop 0).take (1 * 1))) : KObj) = some (.cells true 1 ((whL a p ss (kd5 w h a ss) m n_2').flatMap intC) : KObj) /\ belowO 8 (.cells true 1 ((whL a p ss (kd5 w h a ss) m n_2').flatMap intC) : KObj) = true) /\ True) /\ (True)))
def Rwhere (o1 o2 : Bool) (z1 z2 : Nat) (w h : Int) (a : List Bool) (p : Int) (ss : List (Int × Int)) (m : Int) : Prop :=
 (((someR (.cells o1 z1 (a.flatMap boolC))) /\ (someR (.cells o2 z2 (ss.flatMap spC))) /\ True) /\ (∀ H' : Heap,H'.length = 4 -> (H'[0]? = some (.cells o1 z1 (a.flatMap boolC) : KObj) /\ H'[1]? = some (.cells o2 z2 (ss.flatMap spC) : KObj) /\ True) -> KCall prog 72 [.agg #[nI w,nI h,slQ 0 2 a.length,nI p,slQ 1 2 ss.length]] H' [] (Is (.tuple #[.pointer (some ⟨4,0,none⟩),nI 0]) (H' ++ [(.cells true 0 (kd3 w h a p ss) : KObj),(.cells true 1 (inL (kd5 w h a ss)) : KObj)]))) /\ (((decide ((0 : Int) <= m)) = true -> (((!(decide ((m : Int) <= 100000))) = true -> (true = true /\ wk (.tuple #[.slice none 0 0,nI 6] : Value) (rn (sg 2 []) 3 (kdb a p ss w h m)) /\ (True /\ True))) /\ ((!(decide ((m : Int) <= 100000))) = false -> ((kd8 w h a p ss o1 z1 o2 z2) /\ (∀ H' : Heap,H'.length = 7 -> (kd6 H' w h a p ss o1 z1 o2 z2) -> KCall prog 74 [.pointer (some ⟨4,0,none⟩)] H' [] (Is (slQ 7 1 (cfTo p ss (kd5 w h a ss) ss.length).length) (H' ++ [(.cells true 2 ((cfTo p ss (kd5 w h a ss) ss.length).flatMap spC) : KObj)]))) /\ (((decide ((0 : Int) < (((cfTo p ss (kd5 w h a ss) ss.length).length : Nat) : Int))) = true -> (true = true /\ wk (.tuple #[.slice none 0 0,nI 9] : Value) (rn (sg 2 []) 3 (kdb a p ss w h m)) /\ (True /\ True))) /\ ((decide ((0 : Int) < (((cfTo p ss (kd5 w h a ss) ss.length).length : Nat) : Int))) = false -> (true = true /\ (0 <= List.length a) /\ (true = true /\ ((nI 0 : Value) = nI ((0 : Nat) : Int) /\ wk (.slice none 0 0 : Value) (slQ 0 1 (whL a p ss (kd5 w h a ss) m 0).length : Value) /\ kd4 a) /\ (True) /\ (True /\ True) /\ (True)) /\ (∀ n_0 : Nat,true = true) /\ ∀ n_0 : Nat,(n_0 <= List.length a) -> (((decide (((n_0 : Int) : Int) < ((a.length : Nat) : Int))) = true -> (((someR (.cells o1 z1 (a.flatMap boolC))) /\ True) /\ (∀ H' : Heap,H'.length = 10 -> (H'[0]? = some (.cells o1 z1 (a.flatMap boolC) : KObj) /\ True) -> KCall prog 75 [.agg #[nI w,nI h,slQ 0 2 a.length],nI (n_0 : Int)] H' [] (Is (.bool (seaB a (n_0 : Int))) H')) /\ (((seaB a (n_0 : Int)) = true -> ((kd8 w h a p ss o1 z1 o2 z2) /\ (∀ H' : Heap,H'.length = 10 -> (kd6 H' w h a p ss o1 z1 o2 z2) -> KCall prog 77 [.pointer (some ⟨4,0,none⟩)] H' [] (Is (slQ 10 1 (kd9 ss).length) (H' ++ [(.cells true 1 ((kd9 ss).flatMap intC) : KObj)]))) /\ (true = true /\ ((0) <= List.length (kd9 ss) /\ clrB p ss (kd5 w h a ss) (n_0 : Int) m (0) = true) /\ (true = true /\ ((nI 0 : Value) = nI (((0) : Nat) : Int) /\ kd7 ss) /\ (True) /\ (True) /\ (True)) /\ (∀ n_1 : Nat,true = true) /\ ∀ n_1 : Nat,(n_1 <= List.length (kd9 ss) /\ clrB p ss (kd5 w h a ss) (n_0 : Int) m n_1 = true) -> (((decide (((n_1 : Int) : Int) < (((kd9 ss).length : Nat) : Int))) = true -> (((0 : Int) <= (n_1 : Int) /\ ((n_1 : Int) : Int) < (((kd9 ss).length : Nat) : Int)) /\ ((((kd9 ss).flatMap intC)[(0 + Int.toNat (n_1 : Int) * 1)]? = some (nI ((kd9 ss).getD n_1 0))) /\ ((kd8 w h a p ss o1 z1 o2 z2) /\ (∀ H' : Heap,H'.length = 11 -> (kd6 H' w h a p ss o1 z1 o2 z2) -> KCall prog 79 [.pointer (some ⟨4,0,none⟩),nI ((kd9 ss).getD n_1 0),nI (n_0 : Int),nI m] H' [] (Is (.bool (canB p ss (kd5 w h a ss) ((kd9 ss).getD n_1 0).toNat (n_0 : Int) m)) H')) /\ (((!(canB p ss (kd5 w h a ss) ((kd9 ss).getD n_1 0).toNat (n_0 : Int) m)) = true -> (((!(decide ((0 : Int) <= (n_1 : Int)))) = true -> (kd2 a p ss w h m n_0)) /\ ((!(decide ((0 : Int) <= (n_1 : Int)))) = false -> ((nI (IntKind.wrap .i64 ((n_0 : Int) + 1)) : Value) = nI ((n_0 : Int) + 1) /\ (∃ n_2' : Nat,(n_2' <= List.length a) /\ (List.length a - n_2') < (List.length a - n_0) /\ true = true /\ ((nI ((n_0 : Int) + 1) : Value) = nI (n_2' : Int) /\ wk (slQ 8 1 (whL a p ss (kd5 w h a ss) m n_0).length : Value) (slQ 8 1 (whL a p ss (kd5 w h a ss) m n_2').length : Value) /\ kd4 a) /\ (True) /\ ((some (.cells true 1 ((whL a p ss (kd5 w h a ss) m n_0).flatMap intC) : KObj) = some (.cells true 1 ((whL a p ss (kd5 w h a ss) m n_2').flatMap intC) : KObj) /\ belowO 8 (.cells true 1 ((whL a p ss (kd5 w h a ss) m n_2').flatMap intC) : KObj) = true) /\ True) /\ (True)))))) /\ ((!(canB p ss (kd5 w h a ss) ((kd9 ss).getD n_1 0).toNat (n_0 : Int) m)) = false -> ((nI (IntKind.wrap .i64 ((n_1 : Int) + 1)) : Value) = nI ((n_1 : Int) + 1) /\ (∃ n_2' : Nat,(n_2' <= List.length (kd9 ss) /\ clrB p ss (kd5 w h a ss) (n_0 : Int) m n_2' = true) /\ (List.length (kd9 ss) - n_2') < (List.length (kd9 ss) - n_1) /\ true = true /\ ((nI ((n_1 : Int) + 1) : Value) = nI (n_2' : Int) /\ kd7 ss) /\ (True) /\ (True) /\ (True))))))))) /\ ((decide (((n_1 : Int) : Int) < (((kd9 ss).length : Nat) : Int))) = false -> (kd2 a p ss w h m n_0)))))) /\ ((seaB a (n_0 : Int)) = false -> ((nI (IntKind.wrap .i64 ((n_0 : Int) + 1)) : Value) = nI ((n_0 : Int) + 1) /\ (∃ n_1' : Nat,(n_1' <= List.length a) /\ (List.length a - n_1') < (List.length a - n_0) /\ true = true /\ ((nI ((n_0 : Int) + 1) : Value) = nI (n_1' : Int) /\ wk (slQ 8 1 (whL a p ss (kd5 w h a ss) m n_0).length : Value) (slQ 8 1 (whL a p ss (kd5 w h a ss) m n_1').length : Value) /\ kd4 a) /\ (True) /\ ((some (.cells true 1 ((whL a p ss (kd5 w h a ss) m n_0).flatMap intC) : KObj) = some (.cells true 1 ((whL a p ss (kd5 w h a ss) m n_1').flatMap intC) : KObj) /\ belowO 8 (.cells true 1 ((whL a p ss (kd5 w h a ss) m n_1').flatMap intC) : KObj) = true) /\ True) /\ (True))))))) /\ ((decide (((n_0 : Int) : Int) < ((a.length : Nat) : Int))) = false -> (true = true /\ wk (.tuple #[slQ 8 1 (whL a p ss (kd5 w h a ss) m n_0).length,nI 0] : Value) (rn (sg 2 [(2,8)]) 3 (kdb a p ss w h m)) /\ ((some (.cells true 1 ((whL a p ss (kd5 w h a ss) m n_0).flatMap intC) : KObj) = some (.cells true 1 ((whL a p ss (kd5 w h a ss) m a.length).flatMap intC) : KObj) /\ belowO 2 (.cells true 1 ((whL a p ss (kd5 w h a ss) m a.length).flatMap intC) : KObj) = true) /\ True))))))))))) /\ ((decide ((0 : Int) <= m)) = false -> (true = true /\ wk (.tuple #[.slice none 0 0,nI 6] : Value) (rn (sg 2 []) 3 (kdb a p ss w h m)) /\ (True /\ True)))))
abbrev kda (w : Int) (h : Int) (a : List Bool) (p : Int) (ss : List (Int × Int)) (o1 : Bool) (z1 : Nat) (o2 : Bool) (z2 : Nat) : List (Nat × KObj):=[(4,.cells true 0 (kd3 w h a p ss)),(0,.cells o1 z1 (a.flatMap boolC)),(1,.cells o2 z2 (ss.flatMap spC)),(5,.cells true 1 (inL (kd5 w h a ss)))]
abbrev kd1 (qn0 : Nat) (qn1 : Nat) (qn2 : Nat) : Hint:=.go qn0 (.slot 56 (nI ((qn1 : Int) + 1)) (.go 0 (.again [(8,qn2)])))
theorem Ewhere (o1 o2 : Bool) (z1 z2 : Nat) (w h : Int) (a : List Bool) (p : Int) (ss : List (Int × Int)) (m : Int) : vF prog msk (dm 0) 100000 true 40 true 18 [.agg #[nI w,nI h,slQ 0 2 a.length,nI p,slQ 1 2 ss.length],nI m] (readsK [.cells o1 z1 (a.flatMap boolC),.cells o2 z2 (ss.flatMap spC)]) (some [])
 (.go 4 (.ans [(0,.cells o1 z1 (a.flatMap boolC)),(1,.cells o2 z2 (ss.flatMap spC))] (.tuple #[.pointer (some ⟨4,0,none⟩),nI 0]) [.cells true 0 (kd3 w h a p ss),.cells true 1 (inL (kd5 w h a ss))] (.go 16 (.gfork (.go 6 (.fork (.go 1 (.again [])) (.go 0 (.ans (kda w h a p ss o1 z1 o2 z2) (slQ 7 1 (cfTo p ss (kd5 w h a ss) ss.length).length) [.cells true 2 ((cfTo p ss (kd5 w h a ss) ss.length).flatMap spC)] (.go 2 (.fork (.go 1 (.again [])) (.go 8 (.inv 3 (Nat) (0) [] [] (fun n_0 => [(35,nI (n_0 : Int)),(8,slQ 8 1 (whL a p ss (kd5 w h a ss) m n_0).length),(3,.pointer (some ⟨3,0,none⟩)),(4,.slice none 0 0),(5,nI 0),(6,.pointer (some ⟨6,0,none⟩)),(34,nI ((a.length : Nat) : Int))]) (fun n_0 => []) (fun n_0 => [(true,.cells true 1 ((whL a p ss (kd5 w h a ss) m n_0).flatMap intC))]) (fun n_0 => []) (fun n_0 => (n_0 <= List.length a)) (fun n_0 => (List.length a - n_0)) (fun n_0 => .go 0 (.fork (.go 8 (.ans [(0,.cells o1 z1 (a.flatMap boolC))] (.bool (seaB a (n_0 : Int))) [] (.go 0 (.gfork (.go 1 (.ans (kda w h a p ss o1 z1 o2 z2) (slQ 10 1 (kd9 ss).length) [.cells true 1 ((kd9 ss).flatMap intC)] (.go 8 (.inv 3 (Nat) ((0)) [] [] (fun n_1 => [(8,nI (n_1 : Int)),(1,.func (.func 78) #[] #[.pointer (some ⟨6,0,none⟩),.pointer (some ⟨9,0,none⟩),.pointer (some ⟨3,0,none⟩)]),(0,slQ 10 1 (kd9 ss).length),(7,nI (((kd9 ss).length : Nat) : Int))]) (fun n_1 => []) (fun n_1 => []) (fun n_1 => []) (fun n_1 => (n_1 <= List.length (kd9 ss) /\ clrB p ss (kd5 w h a ss) (n_0 : Int) m n_1 = true)) (fun n_1 => (List.length (kd9 ss) - n_1)) (fun n_1 => .go 0 (.fork (.go 4 (.need (.val (nI ((kd9 ss).getD n_1 0)) (.go 5 (.ans (kda w h a p ss o1 z1 o2 z2) (.bool (canB p ss (kd5 w h a ss) ((kd9 ss).getD n_1 0).toNat (n_0 : Int) m)) [] (.go 1 (.fork (.go 5 (.fork (.go 2 (.need (kd1 1 n_0 12))) (kd1 0 n_0 8))) (.go 0 (.slot 18 (nI ((n_1 : Int) + 1)) (.go 0 (.again []))))))))))) (.go 8 (.need (kd1 1 n_0 12))))))))) (kd1 2 n_0 8))))) (.go 2 (.again [(2,8)])))))))))))) (.go 6 (.again []))))))
 (newK ((readsK [.cells o1 z1 (a.flatMap boolC),.cells o2 z2 (ss.flatMap spC)]) : HT).n 3 (.tuple #[slQ 2 1 (whL a p ss (kd5 w h a ss) m a.length).length,nI 0]) [(true,.cells true 1 ((whL a p ss (kd5 w h a ss) m a.length).flatMap intC))]) = Rwhere o1 o2 z1 z2 w h a p ss m:=by kernel_rfl
end
end Go.Proofs.YtbgfjemppjhmjaaGreat
/- Radio: where a ship can be. No condition. -/
namespace Go.Proofs.YtbgfjemppjhmjaaGreat
open Go Go.K
set_option maxRecDepth 100000
set_option linter.unusedVariables false
set_option linter.unusedSimpArgs false
noncomputable section
attribute [local irreducible] vF
theorem nodupI : ∀ (X l : List Int), X.Nodup -> (∀ m ∈ X, m ∈ l) -> X.length <= l.length
 | [], _, _, _ => Nat.zero_le _
 | a :: X, l, h, hs => by
  rw [List.nodup_cons] at h
  have ih := nodupI X (l.erase a) h.2 fun m hm => (List.mem_erase_of_ne fun e => h.1 (by rw [<- e]; exact hm)).2 (hs m (List.mem_cons_of_mem _ hm))
  have ha := hs a (List.mem_cons_self ..)
  rw [List.length_erase_of_mem ha] at ih
  have := List.length_pos_of_mem ha
  rw [List.length_cons]; omega
theorem lst_one {w h : Int} {a : List Bool} {f c : Int} {n m : Nat} (x : Lst w h a f c n) (y : Lst w h a f c m) : n = m := by
 have := x.2 m y.1
 have := y.2 n x.1
 omega
theorem wy_in {w h : Int} {a : List Bool} {f c : Int} {n : Nat} (b : BasOk w h a.length) (hf : 0 <= f /\ f < (a.length : Int)) (q : Wy w h a f n c) : 0 <= c /\ c < (a.length : Int) := by
 cases q with
 | base => exact hf
 | step j hj hw hb => exact nb_in b hb.1.1 hb.1.2
theorem lst_chain {w h : Int} {a : List Bool} {f : Int} (b : BasOk w h a.length) (hf : 0 <= f /\ f < (a.length : Int)) : ∀ (n : Nat) (c : Int), Lst w h a f c n -> ∃ X : List Int, X.Nodup /\ X.length = n + 1 /\ ∀ x ∈ X, (0 <= x /\ x < (a.length : Int)) /\ ∃ k, k <= n /\ Lst w h a f x k := by
 intro n
 induction n with
 | zero => exact fun c q => ⟨[c], by simp, rfl, fun x hx => by rw [List.mem_singleton.1 hx]; exact ⟨wy_in b hf q.1, 0, Nat.le_refl _, q⟩⟩
 | succ n ih =>
  intro c q
  have q0 := q
  obtain ⟨q1, q2⟩ := q
  cases q1 with
  | @step _ i j hj hw hb =>
   have hp : Lst w h a f i n := ⟨hw, fun m hm => by have := q2 (m + 1) (.step j hj hm hb); omega⟩
   obtain ⟨X, x1, x2, x3⟩ := ih i hp
   refine ⟨nbT w i j :: X, List.nodup_cons.2 ⟨fun hx => ?_, x1⟩, by rw [List.length_cons, x2], fun x hx => ?_⟩
   ·obtain ⟨_, k, k1, k2⟩ := x3 _ hx
    have := lst_one k2 q0
    omega
   ·rcases List.mem_cons.1 hx with rfl | hx
    ·exact ⟨nb_in b hb.1.1 hb.1.2, n + 1, Nat.le_refl _, q0⟩
    ·obtain ⟨y1, k, k1, k2⟩ := x3 _ hx
     exact ⟨y1, k, by omega, k2⟩
theorem lst_le {w h : Int} {a : List Bool} {f c : Int} {n : Nat} (b : BasOk w h a.length) (hf : 0 <= f /\ f < (a.length : Int)) (q : Lst w h a f c n) : n + 1 <= a.length := by
 obtain ⟨X, x1, x2, x3⟩ := lst_chain b hf n c q
 have := nodupI X ((List.range a.length).map fun k : Nat => (k : Int)) x1 (fun x hx => by
  have := (x3 x hx).1
  exact List.mem_map.2 ⟨Int.toNat x, List.mem_range.2 (by omega), by omega⟩)
 rw [List.length_map, List.length_range] at this
 omega
theorem wy_lst {w h : Int} {a : List Bool} {f c : Int} : ∀ {n : Nat}, Wy w h a f n c -> ∃ m, m <= n /\ Lst w h a f c m := by
 intro n
 induction n using Nat.strongRecOn with
 | ind n ih =>
  intro q
  by_cases hx : ∃ m, m < n /\ Wy w h a f m c
  ·obtain ⟨m, hm, hq⟩ := hx
   obtain ⟨k, k1, k2⟩ := ih m hm hq
   exact ⟨k, by omega, k2⟩
  ·exact ⟨n, Nat.le_refl _, q, fun m hm => Nat.le_of_not_lt fun hl => hx ⟨m, hl, hm⟩⟩
theorem dstI_bd {w h : Int} {a : List Bool} {f : Int} (b : BasOk w h a.length) (hf : 0 <= f /\ f < (a.length : Int)) (c : Int) : 0 <= dstI w h a f c /\ (dstI w h a f c < 1024 ∨ dstI w h a f c = farI) := by
 by_cases q : ∃ n, Lst w h a f c n
 ·obtain ⟨n, hn⟩ := q
  have := lst_le b hf hn
  have h1 := b.n1
  have h2 := b.p1
  rw [dst_is hn]; omega
 ·have e : dstI w h a f c = farI := by unfold dstI; rw [dif_neg q]
  rw [e]; unfold farI; omega
theorem dstL_row {w h : Int} {a : List Bool} {f : Int} (b : BasOk w h a.length) (hf : 0 <= f /\ f < (a.length : Int)) : (dstL w h a f).length = a.length /\ ∀ c, c < a.length -> 0 <= (dstL w h a f).getD c 0 /\ (dstL w h a f).getD c 0 <= farI := by
 refine ⟨tabP_len .., fun c hc => ?_⟩
 rw [show (dstL w h a f).getD c 0 = dstI w h a f (c : Int) from tabP_get hc]
 have := dstI_bd b hf (c : Int)
 unfold farI at *
 omega
theorem rowsOk {w h : Int} {a : List Bool} {p : Int} {ss : List (Int × Int)} (t : TrOk w h a p ss) : RowsOk a ss (trkRows w h a ss) :=
 ⟨rowT_len .., fun k hk => by
  have e : (trkRows w h a ss).getD k [] = dstL w h a (ss.getD k zeroSp).2 := tabP_get hk
  rw [e]
  exact dstL_row t.bas (t.bd hk).2⟩
theorem clrB_succ {p : Int} {ss : List (Int × Int)} {rr : List (List Int)} {c m : Int} {x : Nat} (h : clrB p ss rr c m x = true) (h1 : canB p ss rr x c m = true) : clrB p ss rr c m (x + 1) = true := by
 unfold clrB at h ⊢
 rw [List.range_succ, List.all_append, h, List.all_cons, h1]; rfl
theorem clrB_no {p : Int} {ss : List (Int × Int)} {rr : List (List Int)} {c m : Int} {x n : Nat} (hx : x < n) (h1 : canB p ss rr x c m = false) : clrB p ss rr c m n = false := by
 unfold clrB
 rw [Bool.eq_false_iff]
 intro h
 rw [List.all_eq_true] at h
 have := h x (List.mem_range.2 hx)
 rw [h1] at this; cases this
theorem whL_yes {a : List Bool} {p : Int} {ss : List (Int × Int)} {rr : List (List Int)} {m : Int} {x : Nat} (h1 : seaB a x = true) (h2 : clrB p ss rr x m ss.length = true) : whL a p ss rr m (x + 1) = whL a p ss rr m x ++ [(x : Int)] := by
 unfold whL
 rw [List.range_succ, List.filter_append, List.map_append]
 simp [h1, h2]
theorem whL_no {a : List Bool} {p : Int} {ss : List (Int × Int)} {rr : List (List Int)} {m : Int} {x : Nat} (h : (seaB a x && clrB p ss rr x m ss.length) = false) : whL a p ss rr m (x + 1) = whL a p ss rr m x := by
 unfold whL
 rw [List.range_succ, List.filter_append, List.map_append]
 simp only [List.filter_cons, h]
 simp
theorem whL_le (a : List Bool) (p : Int) (ss : List (Int × Int)) (rr : List (List Int)) (m : Int) (x : Nat) : (whL a p ss rr m x).length <= x := by
 unfold whL
 rw [List.length_map]
 exact Nat.le_trans (List.length_filter_le ..) (by simp)
theorem obI {own : Bool} {z : Nat} {L M : List Int} (h : L = M) : (some (KObj.cells own z (L.flatMap intC)) : Option KObj) = some (.cells own z (M.flatMap intC)) := by rw [h]
theorem allL_at {n x : Nat} (h : x < n) : (allL n).getD x 0 = (x : Int) := tabP_get h
theorem hvWhere {o1 o2 : Bool} {z1 z2 : Nat} {w h : Int} {a : List Bool} {p : Int} {ss : List (Int × Int)} {m : Int} (t : TrOk w h a p ss) (e0 : errT w h a p ss = 0) (hm : 0 <= m /\ m <= 100000) (hc : cfTo p ss (trkRows w h a ss) ss.length = []) : Rwhere o1 o2 z1 z2 w h a p ss m := by
 have hs := t.few
 have hn := t.bas.n1
 have hp1 := t.bas.p1
 have ha : a.length <= 1024 := by omega
 have rk := rowsOk t
 delta Rwhere kd5 kd3 kdb kd8 kd6 kd4 kd9 kd0 kd7 kd2
 refine ⟨⟨rfl, rfl, trivial⟩, fun H' hH h => (by have := kOpen0 (by omega) (by omega) e0 (by decide) h.1 h.2.1; rw [hH] at this; exact this), fun k1 => ⟨fun k2 => absurd (of_decide_eq_false (notB k2)) (by omega), fun k2 => ⟨⟨rfl, rfl, rfl, rfl, trivial⟩, fun H' hH h => hH ▸ kConf t rk ⟨by decide, h.2.1, h.2.2.1, h.1, h.2.2.2.1⟩, fun k3 => ?_, fun k3 => ?_⟩⟩, fun k1 => absurd (of_decide_eq_false k1) (by omega)⟩
 ·have := of_decide_eq_true k3
  rw [show (rowT w h a ss ss.length) = trkRows w h a ss from rfl, hc] at this
  exact absurd this (by simp)
 refine ⟨rfl, Nat.zero_le _, ?_, fun _ => rfl, fun x hx => ⟨fun k => ?_, fun k => ?_⟩⟩
 ·repeat' first | exact wk_nil _ _ _ (.inl rfl) | exact rfl | exact wk_refl _ | exact wks_nil | exact wk_nil _ _ _ (.inl rfl) | apply And.intro
 ·have h1 : x < a.length := by have := of_decide_eq_true k; omega
  have hle := whL_le a p ss (rowT w h a ss ss.length) m x
  have hyes : seaB a x = true -> clrB p ss (rowT w h a ss ss.length) x m ss.length = true -> whL a p ss (rowT w h a ss ss.length) m (x + 1) = whL a p ss (rowT w h a ss ss.length) m x ++ [(x : Int)] := whL_yes
  refine ⟨⟨rfl, trivial⟩, fun H' _ h => kSea _ _ _ _ (by omega) h.1, fun b => ⟨⟨rfl, rfl, rfl, rfl, trivial⟩, fun H' hH h => hH ▸ kAll (by omega) ⟨by decide, h.2.1, h.2.2.1, h.1, h.2.2.2.1⟩, rfl, ⟨Nat.zero_le _, rfl⟩, ?_, fun _ => rfl, fun y hy => ⟨fun ky => ?_, fun ky => ?_⟩⟩, fun b => ?_⟩
  ·repeat' first | exact rfl | exact wk_refl _ | exact wks_nil | exact wk_nil _ _ _ (.inl rfl) | apply And.intro
  ·have h2 : y < ss.length := by have := of_decide_eq_true ky; rw [allL_len] at this; omega
   have e1 := allL_at h2
   have hl := allL_len ss.length
   rw [e1]
   refine ⟨⟨by omega, by omega⟩, by rw [intAt (k := y) (by omega) (by omega), e1], ⟨rfl, rfl, rfl, rfl, trivial⟩, fun H' _ h => kCan t rk h2 ⟨by omega, by omega⟩ (by omega) ⟨by decide, h.2.1, h.2.2.1, h.1, h.2.2.2.1⟩, fun q => ⟨fun q2 => absurd (of_decide_eq_false (notB q2)) (by omega), fun q2 => ?_⟩, fun q => ?_⟩
   ·have e2 : whL a p ss (rowT w h a ss ss.length) m x = whL a p ss (rowT w h a ss ss.length) m (x + 1) := (whL_no (by rw [clrB_no h2 (notB q), Bool.and_false])).symm
    refine ⟨vI64 (by omega), x + 1, by omega, by omega, rfl, ?_⟩
    repeat' first | exact wkQL e2 | exact obI e2 | exact plainIL _ _ | exact rfl | exact wk_refl _ | exact wks_nil | exact wk_nil _ _ _ (.inl rfl) | apply And.intro
   ·refine ⟨vI64 (by omega), y + 1, ⟨by omega, clrB_succ hy.2 (notB2 q)⟩, by omega, rfl, ?_⟩
    repeat' first | exact rfl | exact wk_refl _ | exact wks_nil | exact wk_nil _ _ _ (.inl rfl) | apply And.intro
  ·have h2 : y = ss.length := by have := of_decide_eq_false ky; have := hy.1; rw [allL_len] at *; omega
   have e2 := hyes b (h2 ▸ hy.2)
   refine ⟨⟨by omega, by decide, ⟨Nat.le_refl _, by rw [flat_len intC_len]; omega⟩, ⟨Nat.le_refl _, by simp⟩, rfl⟩, rfl, vI64 (by omega), x + 1, by omega, by omega, rfl, ?_⟩
   repeat' first | exact wk_snoc e2 | exact ob_snoc intC_len e2 rfl | exact plainIL _ _ | exact rfl | exact wk_refl _ | exact wks_nil | exact wk_nil _ _ _ (.inl rfl) | apply And.intro
  ·have e2 : whL a p ss (rowT w h a ss ss.length) m x = whL a p ss (rowT w h a ss ss.length) m (x + 1) := (whL_no (by rw [b, Bool.false_and])).symm
   refine ⟨vI64 (by omega), x + 1, by omega, by omega, rfl, ?_⟩
   repeat' first | exact wkQL e2 | exact obI e2 | exact plainIL _ _ | exact rfl | exact wk_refl _ | exact wks_nil | exact wk_nil _ _ _ (.inl rfl) | apply And.intro
 ·have h1 : x = a.length := by have := of_decide_eq_false k; omega
  rw [h1]
  repeat' first | exact plainIL _ _ | exact rfl | exact wk_refl _ | exact wks_nil | exact wk_nil _ _ _ (.inl rfl) | apply And.intro
theorem kWhere {w h : Int} {a : List Bool} {p : Int} {ss : List (Int × Int)} {m : Int} (e0 : errT w h a p ss = 0) (hm : 0 <= m /\ m <= 100000) (hc : cfTo p ss (trkRows w h a ss) ss.length = []) {H : Heap} {i j : Nat} (hne : i ≠ j) {o1 o2 : Bool} {z1 z2 : Nat} (hi : H[i]? = some (.cells o1 z1 (a.flatMap boolC))) (hj : H[j]? = some (.cells o2 z2 (ss.flatMap spC))) :
  KCall prog 18 [trkV w h a p ss i j, .int .i64 m] H [] (Is (.tuple #[.slice (some ⟨H.length, 0, some 1⟩) (whL a p ss (trkRows w h a ss) m a.length).length (whL a p ss (trkRows w h a ss) m a.length).length, .int .i64 0]) (H ++ [.cells true 1 ((whL a p ss (trkRows w h a ss) m a.length).flatMap intC)])) :=
 valKs (fun j => .tuple #[.slice (some ⟨j, 0, some 1⟩) (whL a p ss (trkRows w h a ss) m a.length).length (whL a p ss (trkRows w h a ss) m a.length).length, .int .i64 0]) (new := [.cells true 1 ((whL a p ss (trkRows w h a ss) m a.length).flatMap intC)]) (Eq.mpr (Ewhere o1 o2 z1 z2 w h a p ss m) (hvWhere (trOk e0) e0 hm hc)) (trk_ok ..) rfl ⟨⟨_, _, rfl, plainIL _ _⟩, trivial⟩ (ids := [i, j]) (by simp [hne]) (trk_objs hi hj) (fun j => rfl) rfl
end
end Go.Proofs.YtbgfjemppjhmjaaGreat
/- Radio: the minutes at which a ship can be in a cell: plain laws. No condition. -/
namespace Go.Proofs.YtbgfjemppjhmjaaGreat
set_option linter.unusedSimpArgs false
open Go Go.K
set_option linter.unusedVariables false
theorem addR_nil (m : Int) : addR [] m = [(m, m)] := rfl
theorem addR_snoc (l : List (Int × Int)) (x : Int × Int) (m : Int) : addR (l ++ [x]) m = if x.2 + 1 = m then l ++ [(x.1, m)] else l ++ [x] ++ [(m, m)] := by
 unfold addR
 simp
theorem runs_succ (f : Int -> Bool) (lo : Int) (n : Nat) : runs f lo (n + 1) = if f (lo + (n : Int)) = true then addR (runs f lo n) (lo + (n : Int)) else runs f lo n := rfl
structure RunI (f : Int -> Bool) (lo hi : Int) (l : List (Int × Int)) : Prop where
 mem : ∀ x ∈ l, lo <= x.1 /\ x.1 <= x.2 /\ x.2 < hi /\ ∀ m, x.1 <= m -> m <= x.2 -> f m = true
 cov : ∀ m, lo <= m -> m < hi -> f m = true -> ∃ x ∈ l, x.1 <= m /\ m <= x.2
 gap : l.Pairwise fun x y => x.2 + 1 < y.1
theorem runs_I (f : Int -> Bool) (lo : Int) (n : Nat) : RunI f lo (lo + (n : Int)) (runs f lo n) := by
 induction n with
 | zero => exact ⟨fun x hx => (by cases hx), fun m h1 h2 => by omega, List.Pairwise.nil⟩
 | succ n ih =>
  rw [runs_succ]
  obtain ⟨h1, h2, h3⟩ := ih
  by_cases hf : f (lo + (n : Int)) = true
  ·rw [if_pos hf]
   rcases List.eq_nil_or_concat (runs f lo n) with e | ⟨L, x, e⟩
   ·rw [e] at h1 h2 ⊢
    rw [addR_nil]
    refine ⟨fun x hx => ?_, fun m m1 m2 m3 => ?_, List.pairwise_singleton ..⟩
    ·rw [List.mem_singleton.1 hx]
     exact ⟨by dsimp only; omega, by dsimp only; omega, by dsimp only; omega, fun m m1 m2 => by dsimp only at m1 m2; rw [show m = lo + (n : Int) from by omega]; exact hf⟩
    ·by_cases hm : m = lo + (n : Int)
     ·exact ⟨_, List.mem_singleton.2 rfl, by dsimp only; omega, by dsimp only; omega⟩
     ·obtain ⟨x, hx, _⟩ := h2 m m1 (by omega) m3
      cases hx
   ·rw [List.concat_eq_append] at e
    rw [e] at h1 h2 h3 ⊢
    rw [addR_snoc]
    have hx := h1 x (List.mem_append_right _ (List.mem_singleton.2 rfl))
    have h4 := List.pairwise_append.1 h3
    by_cases he : x.2 + 1 = lo + (n : Int)
    ·rw [if_pos he]
     refine ⟨fun y hy => ?_, fun m m1 m2 m3 => ?_, List.pairwise_append.2 ⟨h4.1, List.pairwise_singleton .., fun y hy z hz => ?_⟩⟩
     ·rcases List.mem_append.1 hy with hy | hy
      ·have := h1 y (List.mem_append_left _ hy)
       exact ⟨this.1, this.2.1, by omega, this.2.2.2⟩
      ·rw [List.mem_singleton.1 hy]
       refine ⟨hx.1, by dsimp only; omega, by dsimp only; omega, fun m m1 m2 => ?_⟩
       dsimp only at m1 m2
       by_cases hm : m = lo + (n : Int)
       ·rw [hm]; exact hf
       ·exact hx.2.2.2 m m1 (by omega)
     ·by_cases hm : m = lo + (n : Int)
      ·exact ⟨_, List.mem_append_right _ (List.mem_singleton.2 rfl), by dsimp only; omega, by dsimp only; omega⟩
      ·obtain ⟨y, hy, y1, y2⟩ := h2 m m1 (by omega) m3
       rcases List.mem_append.1 hy with hy | hy
       ·exact ⟨y, List.mem_append_left _ hy, y1, y2⟩
       ·rw [List.mem_singleton.1 hy] at y1 y2
        exact ⟨_, List.mem_append_right _ (List.mem_singleton.2 rfl), y1, by dsimp only; omega⟩
     ·rw [List.mem_singleton.1 hz]
      exact h4.2.2 y hy x (List.mem_singleton.2 rfl)
    ·rw [if_neg he]
     refine ⟨fun y hy => ?_, fun m m1 m2 m3 => ?_, List.pairwise_append.2 ⟨h3, List.pairwise_singleton .., fun y hy z hz => ?_⟩⟩
     ·rcases List.mem_append.1 hy with hy | hy
      ·have := h1 y hy
       exact ⟨this.1, this.2.1, by omega, this.2.2.2⟩
      ·rw [List.mem_singleton.1 hy]
       exact ⟨by dsimp only; omega, by dsimp only; omega, by dsimp only; omega, fun m m1 m2 => by dsimp only at m1 m2; rw [show m = lo + (n : Int) from by omega]; exact hf⟩
     ·by_cases hm : m = lo + (n : Int)
      ·exact ⟨_, List.mem_append_right _ (List.mem_singleton.2 rfl), by dsimp only; omega, by dsimp only; omega⟩
      ·obtain ⟨y, hy, y1, y2⟩ := h2 m m1 (by omega) m3
       exact ⟨y, List.mem_append_left _ hy, y1, y2⟩
     ·rw [List.mem_singleton.1 hz]
      dsimp only
      rcases List.mem_append.1 hy with hy | hy
      ·have := h4.2.2 y hy x (List.mem_singleton.2 rfl)
       omega
      ·rw [List.mem_singleton.1 hy]; omega
  ·rw [if_neg hf]
   refine ⟨fun y hy => ?_, fun m m1 m2 m3 => ?_, h3⟩
   ·have := h1 y hy
    exact ⟨this.1, this.2.1, by omega, this.2.2.2⟩
   ·by_cases hm : m = lo + (n : Int)
    ·rw [hm] at m3; exact absurd m3 hf
    ·exact h2 m m1 (by omega) m3
theorem runs_skip (f : Int -> Bool) (lo : Int) (n : Nat) : ∀ k : Nat, (∀ m, lo + (n : Int) <= m -> m < lo + (n : Int) + (k : Int) -> f m = false) -> runs f lo (n + k) = runs f lo n
 | 0, _ => rfl
 | k + 1, h => by
  rw [show n + (k + 1) = (n + k) + 1 from rfl, runs_succ, if_neg (by rw [h _ (by omega) (by omega)]; exact Bool.noConfusion)]
  exact runs_skip f lo n k fun m m1 m2 => h m m1 (by omega)
theorem runs_new (f : Int -> Bool) (lo : Int) (n : Nat) (h0 : n = 0 ∨ f (lo + (n : Int) - 1) = false) : ∀ k : Nat, (∀ m, lo + (n : Int) <= m -> m <= lo + (n : Int) + (k : Int) -> f m = true) -> runs f lo (n + k + 1) = runs f lo n ++ [(lo + (n : Int), lo + (n : Int) + (k : Int))]
 | 0, h => by
  rw [Nat.add_zero, runs_succ, if_pos (h _ (by omega) (by omega))]
  rcases List.eq_nil_or_concat (runs f lo n) with e | ⟨L, x, e⟩
  ·rw [e, addR_nil]; simp
  ·rw [List.concat_eq_append] at e
   have hx := (runs_I f lo n).mem x (by rw [e]; exact List.mem_append_right _ (List.mem_singleton.2 rfl))
   rw [e, addR_snoc, if_neg (fun q => ?_)]
   ·simp
   ·rcases h0 with rfl | h0
    ·cases L <;> cases e
    ·have := hx.2.2.2 x.2 hx.2.1 (Int.le_refl _)
     rw [show x.2 = lo + (n : Int) - 1 from by omega, h0] at this
     cases this
 | k + 1, h => by
  have ih := runs_new f lo n h0 k fun m m1 m2 => h m m1 (by omega)
  rw [show n + (k + 1) + 1 = (n + k + 1) + 1 from rfl, runs_succ, if_pos (h _ (by omega) (by omega)), ih, addR_snoc, if_pos (by dsimp only; omega)]
  congr 2
  apply Prod.ext
  ·rfl
  ·dsimp only; omega
structure ScI (N : List (Int × Int)) (least most : Int) (D : List (Int × Int)) (st : Int × List (Int × Int)) : Prop where
 lo : least <= st.1
 edge : st.1 = least ∨ ∃ y ∈ D, y.1 <= y.2 /\ y.2 + 1 = st.1
 past : ∀ y ∈ D, y.1 <= y.2 -> y.2 + 1 <= st.1
 inN : ∀ y ∈ D, y ∈ N ∨ most < y.1
 out : st.2 = runs (fun m => !notF N m) least (Int.toNat (mnI (most + 1) st.1 - least))
theorem notF_yes {N : List (Int × Int)} {m : Int} {y : Int × Int} (h : y ∈ N) (h1 : y.1 <= m) (h2 : m <= y.2) : (!notF N m) = false := by
 have : notF N m = true := by
  unfold notF
  rw [List.any_eq_true]
  exact ⟨y, h, by rw [decide_eq_true h1, decide_eq_true h2]; rfl⟩
 rw [this]; rfl
theorem notF_no {N : List (Int × Int)} {m : Int} (h : ∀ y ∈ N, ¬ (y.1 <= m /\ m <= y.2)) : (!notF N m) = true := by
 have : notF N m = false := by
  rw [Bool.eq_false_iff]
  intro q
  unfold notF at q
  rw [List.any_eq_true] at q
  obtain ⟨y, hy, q⟩ := q
  rw [Bool.and_eq_true, decide_eq_true_eq, decide_eq_true_eq] at q
  exact h y hy q
 rw [this]; rfl
theorem mnI_1 {x y : Int} (h : y < x) : mnI x y = y := by unfold mnI; rw [if_pos h]
theorem mnI_2 {x y : Int} (h : ¬ y < x) : mnI x y = x := by unfold mnI; rw [if_neg h]
theorem ScI.step {N : List (Int × Int)} {least most : Int} {D : List (Int × Int)} {st : Int × List (Int × Int)} {x : Int × Int} (hl : least <= most) (s : ScI N least most D st) (hx : x ∈ N ∨ most < x.1) (hN : ∀ y ∈ N, y ∈ D ∨ x.1 <= y.1) : ScI N least most (D ++ [x]) (scan most st x) := by
 obtain ⟨s1, s2, s3, s4, s5⟩ := s
 have hin : ∀ y ∈ D ++ [x], y ∈ N ∨ most < y.1 := fun y hy => by
  rcases List.mem_append.1 hy with hy | hy
  ·exact s4 y hy
  ·rw [List.mem_singleton.1 hy]; exact hx
 have hself : x ∈ D ++ [x] := List.mem_append_right _ (List.mem_singleton.2 rfl)
 unfold scan
 by_cases h0 : x.1 > x.2
 ·rw [if_pos h0]
  refine ⟨s1, s2.imp id (fun ⟨y, hy, q⟩ => ⟨y, List.mem_append_left _ hy, q⟩), fun y hy h => ?_, hin, s5⟩
  rcases List.mem_append.1 hy with hy | hy
  ·exact s3 y hy h
  ·rw [List.mem_singleton.1 hy] at h; omega
 rw [if_neg h0]
 have hmx : mxI st.1 (x.2 + 1) = st.1 /\ x.2 + 1 <= st.1 ∨ mxI st.1 (x.2 + 1) = x.2 + 1 /\ st.1 < x.2 + 1 := by unfold mxI; split <;> omega
 refine ⟨?_, ?_, fun y hy h => ?_, hin, ?_⟩
 ·dsimp only; omega
 ·dsimp only
  rcases hmx with ⟨e, q⟩ | ⟨e, q⟩
  ·rw [e]; exact s2.imp id (fun ⟨y, hy, q⟩ => ⟨y, List.mem_append_left _ hy, q⟩)
  ·rw [e]; exact .inr ⟨x, hself, by omega, rfl⟩
 ·dsimp only
  rcases List.mem_append.1 hy with hy | hy
  ·have := s3 y hy h; omega
  ·rw [List.mem_singleton.1 hy]; omega
 ·dsimp only
  by_cases hem : x.1 > st.1 /\ st.1 <= most
  ·rw [if_pos hem]
   have e1 : mxI st.1 (x.2 + 1) = x.2 + 1 := by rcases hmx with ⟨_, q⟩ | ⟨e, _⟩ <;> omega
   rw [e1]
   rw [mnI_1 (show st.1 < most + 1 by omega)] at s5
   obtain ⟨n, hn⟩ : ∃ n : Nat, (n : Int) = st.1 - least := ⟨Int.toNat (st.1 - least), by omega⟩
   have en : Int.toNat (st.1 - least) = n := by omega
   rw [en] at s5
   have elo : least + (n : Int) = st.1 := by omega
   obtain ⟨u, hu⟩ : ∃ u, mnI (x.1 - 1) most = u := ⟨_, rfl⟩
   have hub : (u = most /\ most < x.1 - 1) ∨ (u = x.1 - 1 /\ x.1 - 1 <= most) := by
    rw [<- hu]; unfold mnI; split <;> omega
   obtain ⟨k, hk⟩ : ∃ k : Nat, (k : Int) = u - st.1 := ⟨Int.toNat (u - st.1), by omega⟩
   have hnew := runs_new (fun m => !notF N m) least n (by
    rcases s2 with e | ⟨y, hy, y1, y2⟩
    ·exact .inl (by omega)
    ·refine .inr ?_
     rcases s4 y hy with h | h
     ·exact notF_yes h (by omega) (by omega)
     ·omega) k (fun m m1 m2 => notF_no fun y hy q => by
      rcases hN y hy with h | h
      ·have := s3 y h (by omega); omega
      ·omega)
   rw [hu, s5]
   have ek : least + (n : Int) + (k : Int) = u := by omega
   rw [ek, elo] at hnew
   rw [<- hnew]
   rcases hub with ⟨h1, h2⟩ | ⟨h1, h2⟩
   ·rw [mnI_2 (by omega)]
    rw [show Int.toNat (most + 1 - least) = n + k + 1 from by omega]
   ·by_cases h3 : x.1 <= most
    ·have hxN : x ∈ N := hx.resolve_right (by omega)
     obtain ⟨v, hv⟩ : ∃ v, mnI (most + 1) (x.2 + 1) = v := ⟨_, rfl⟩
     have hvb : (v = x.2 + 1 /\ x.2 < most) ∨ (v = most + 1 /\ most <= x.2) := by rw [<- hv]; unfold mnI; split <;> omega
     rw [hv]
     obtain ⟨j, hj⟩ : ∃ j : Nat, (j : Int) = v - (least + ((n + k + 1 : Nat) : Int)) := ⟨Int.toNat (v - (least + ((n + k + 1 : Nat) : Int))), by omega⟩
     rw [show Int.toNat (v - least) = n + k + 1 + j from by omega]
     exact (runs_skip _ _ _ j fun m m1 m2 => notF_yes hxN (by omega) (by omega)).symm
    ·rw [mnI_2 (by omega)]
     rw [show Int.toNat (most + 1 - least) = n + k + 1 from by omega]
  ·rw [if_neg hem, s5]
   rcases hmx with ⟨e, q⟩ | ⟨e, q⟩
   ·rw [e]
   ·rw [e]
    by_cases h1 : st.1 <= most
    ·have h2 : x.1 <= st.1 := by omega
     have hxN : x ∈ N := hx.resolve_right (by omega)
     rw [mnI_1 (show st.1 < most + 1 by omega)]
     obtain ⟨v, hv⟩ : ∃ v, mnI (most + 1) (x.2 + 1) = v := ⟨_, rfl⟩
     have hvb : (v = x.2 + 1 /\ x.2 < most) ∨ (v = most + 1 /\ most <= x.2) := by rw [<- hv]; unfold mnI; split <;> omega
     rw [hv]
     obtain ⟨j, hj⟩ : ∃ j : Nat, (j : Int) = v - st.1 := ⟨Int.toNat (v - st.1), by omega⟩
     rw [show Int.toNat (v - least) = Int.toNat (st.1 - least) + j from by omega]
     exact (runs_skip _ _ _ j fun m m1 m2 => notF_yes hxN (by omega) (by omega)).symm
    ·rw [mnI_2 (show ¬ st.1 < most + 1 by omega), mnI_2 (by omega)]
end Go.Proofs.YtbgfjemppjhmjaaGreat
/- Radio: basins and ways made of numbers, as plain functions. No condition. -/
namespace Go.Proofs.YtbgfjemppjhmjaaGreat
set_option linter.unusedSimpArgs false
open Go Go.K
set_option linter.unusedVariables false
def wtLand (L : List Int) (k : Nat) : List Bool := tabP (fun i : Nat => decide (0 < i) && decide (dN L ((i : Int) + 1) 7 = 0)) k
def wtN (k : Nat) : Int := 2 + ((k - 1 : Nat) : Int)
def sdx (d : Int) : Int := List.getD [1, 0, -1, 0] (Int.toNat d) 0
def sdy (d : Int) : Int := List.getD [0, 1, 0, -1] (Int.toNat d) 0
structure Sl where
 now : Int
 q : Int
 at_ : List Int
def slU (L : List Int) (w : Int) (s : Sl) : Int := Int.tmod s.now w + sdx (dN L (s.q + 1) 4)
def slV (L : List Int) (w : Int) (s : Sl) : Int := Int.tdiv s.now w + sdy (dN L (s.q + 1) 4)
def slOk (L : List Int) (w h : Int) (a : List Bool) (s : Sl) : Bool := decide (0 <= slU L w s) && (decide (slU L w s < w) && (decide (0 <= slV L w s) && (decide (slV L w s < h) && !(List.getD a (Int.toNat (slV L w s * w + slU L w s)) false))))
def slPut (s : Sl) (x : Nat) : List Int := s.at_ ++ List.replicate x (-1)
def slStep (L : List Int) (w h : Int) (a : List Bool) (p : Int) (s : Sl) : Sl :=
 if dN L s.q 3 > 0 then (if slOk L w h a s = true then ⟨slV L w s * w + slU L w s, s.q + 1 + 1, slPut s (Int.toNat (p - 1)) ++ [slV L w s * w + slU L w s]⟩ else ⟨s.now, s.q + 1 + 1, s.at_ ++ [s.now]⟩)
 else ⟨s.now, s.q + 1, s.at_ ++ [s.now]⟩
def slRun (L : List Int) (w h : Int) (a : List Bool) (p : Int) : Nat -> Sl -> Sl
 | 0, s => s
 | m + 1, s => if s.at_.length <= 120 then slRun L w h a p m (slStep L w h a p s) else s
def slF (L : List Int) (w h : Int) (a : List Bool) (p q : Int) : Sl := slRun L w h a p 120 ⟨0, q, [0]⟩
end Go.Proofs.YtbgfjemppjhmjaaGreat
/- Radio: ways made of numbers: what the loop keeps. No condition. -/
namespace Go.Proofs.YtbgfjemppjhmjaaGreat
set_option linter.unusedSimpArgs false
open Go Go.K
set_option linter.unusedVariables false
structure SlI (L : List Int) (w h : Int) (a : List Bool) (p q : Int) (s : Sl) : Prop where
 now : 0 <= s.now /\ s.now < (a.length : Int)
 cnt : 0 <= s.q /\ s.q <= q + 2 * (s.at_.length : Int)
 len : 1 <= s.at_.length /\ s.at_.length <= 160
 run : ∃ m, 121 <= m + s.at_.length /\ slRun L w h a p m s = slF L w h a p q
end Go.Proofs.YtbgfjemppjhmjaaGreat
/- What is to be shown of functions. Printed by a program. No condition. -/
namespace Go.Proofs.YtbgfjemppjhmjaaGreat
set_option linter.unusedSimpArgs false
open Go Go.K
set_option maxRecDepth 100000
set_option maxHeartbeats 4000000
set_option linter.unusedVariables false
noncomputable section
abbrev khm (L : List Int) : Prop:=wkR (slQ 0 2 L.length) /\ True
abbrev khh : Prop:=(True) /\ (True) /\ (True)
abbrev khk : Prop:=∀ n_0 : Nat,true = true
abbrev khg (n_0 : Nat) (L : List Int):=decide (((n_0 : Int) : Int) < ((L.length : Nat) : Int))
abbrev kh3 (qn0 : Nat) (qd0 : List Int) : Prop:=(0 : Int) <= (qn0 : Int) /\ ((qn0 : Int) : Int) < ((qd0.length : Nat) : Int)
abbrev kh2 (qd0 : List Int) (qn0 : Nat) : Prop:=(qd0.flatMap intC)[(0 + Int.toNat (qn0 : Int) * 1)]? = some (nI (qd0.getD qn0 0))
abbrev khf (n_0 : Nat) : Value:=nI (IntKind.wrap .i64 ((n_0 : Int) + 1))
abbrev kho : Value:=.bool false
abbrev kh4 (qn0 : Nat) (qn1 : Nat) : Hint:=.fork (.auto) (.go 1 (.slot qn0 (nI ((qn1 : Int) + 1)) (.go 0 (.again []))))
def Rsame (sp : Value) (L M : List Int) : Prop :=
 ((((((L.length : Nat) : Int) : Int) != ((M.length : Nat) : Int)) = true -> kho = sp) /\ (((((L.length : Nat) : Int) : Int) != ((M.length : Nat) : Int)) = false -> (true = true /\ (0 <= List.length L /\ List.take 0 L = List.take 0 M) /\ (true = true /\ ((nI 0 : Value) = nI ((0 : Nat) : Int) /\ wkR (slQ 1 2 M.length) /\ khm L) /\ khh) /\ khk /\ ∀ n_0 : Nat,(n_0 <= List.length L /\ List.take n_0 L = List.take n_0 M) -> (((khg n_0 L) = true -> ((kh3 n_0 L) /\ ((kh2 L n_0) /\ ((kh3 n_0 M) /\ ((kh2 M n_0) /\ (((((L.getD n_0 0) : Int) != (M.getD n_0 0)) = true -> kho = sp) /\ ((((L.getD n_0 0) : Int) != (M.getD n_0 0)) = false -> ((khf n_0) = nI ((n_0 : Int) + 1) /\ (∃ n_1' : Nat,(n_1' <= List.length L /\ List.take n_1' L = List.take n_1' M) /\ (List.length L - n_1') < (List.length L - n_0) /\ true = true /\ ((nI ((n_0 : Int) + 1) : Value) = nI (n_1' : Int) /\ wkR (slQ 1 2 M.length) /\ khm L) /\ khh))))))))) /\ ((khg n_0 L) = false -> (.bool true : Value) = sp)))))
theorem Esame (sp : Value) (L M : List Int) : vF prog msk (dm 0) 100000 true 40 true 22 [slQ 0 2 L.length,slQ 1 2 M.length] (readsT 0 [L.flatMap intC,M.flatMap intC]) (some [])
 (.go 5 (.fork (.auto) (.go 0 (.inv 3 (Nat) (0) [] [] (fun n_0 => [(5,nI (n_0 : Int)),(1,slQ 1 2 M.length),(0,slQ 0 2 L.length)]) (fun n_0 => []) (fun n_0 => []) (fun n_0 => []) (fun n_0 => (n_0 <= List.length L /\ List.take n_0 L = List.take n_0 M)) (fun n_0 => (List.length L - n_0)) (fun n_0 => .go 3 (.fork (.go 1 (.need (.val (nI (L.getD n_0 0)) (.go 1 (.need (.val (nI (M.getD n_0 0)) (.go 0 (kh4 16 n_0)))))))) (.auto)))))))
 (fun v _ _ => v = sp) = Rsame sp L M:=by kernel_rfl
abbrev khe (L : List Int) : Value:=.agg ⟨(L.flatMap intC)⟩
abbrev khl (qd0 : List Int) : Value:=.agg ⟨(qd0.flatMap intC)⟩
abbrev kha (qd0 : List Int) : KObj:=.cells true 0 [.iface (qd0.length + 1) (khl qd0),nI (0 + 1)]
abbrev khp (L : List Int) : List Value:=[.iface (L.length + 1) (khe L),nI (0 + 1)]
abbrev kh8 (qd0 : List Int) : KObj:=.cells true 0 [.iface (qd0.length + 1) (khl qd0),nI ((0 + 1) + 1)]
abbrev khb (qd0 : List Int) : KObj:=.cells true 0 [.iface (qd0.length + 1) (khl qd0),nI (wtN 0)]
abbrev kh0 (qd0 : List Int) (qn0 : Nat) : KObj:=.cells true 0 [.iface (qd0.length + 1) (khl qd0),nI (wtN qn0)]
abbrev kh6 (qd0 : List Int) (qn0 : Nat) : Prop:=(wtLand qd0 qn0).length <= (wtLand qd0 qn0).length /\ 0 + (wtLand qd0 qn0).length * 1 <= List.length ((wtLand qd0 qn0).flatMap boolC)
abbrev khn (L : List Int) (n_0 : Nat) : List Value:=[.bool (((dN L (wtN n_0) 7) : Int) == 0)]
abbrev kh1 (qn0 : Nat) (qn1 : Nat) : Prop:=(nI ((qn0 : Int) + 1) : Value) = nI (qn1 : Int) /\ (.pointer (some ⟨0,0,none⟩) : Value) = .pointer (some ⟨0,0,none⟩) /\ (.pointer (some ⟨1,0,none⟩) : Value) = .pointer (some ⟨1,0,none⟩) /\ (.pointer (some ⟨2,0,none⟩) : Value) = .pointer (some ⟨2,0,none⟩) /\ True
abbrev kh5 (qd0 : List Int) (qn0 : Nat) : KObj:=.cells true 0 [nI (wtW qd0 0),nI (wtH qd0 0),.slice (some ⟨5,0,none⟩) ((wtLand qd0 qn0).length + 1) ((wtLand qd0 qn0).length + 1)]
abbrev khc (qd0 : List Int) (qn0 : Nat):=rno (sg 3 [(3,5)]) 3 (.cells true 0 [nI (wtW qd0 0),nI (wtH qd0 0),slQ 3 1 (wtLand qd0 qn0).length] : KObj)
abbrev khj (L : List Int) (n_1' : Nat) : KObj:=.cells true 1 ((wtLand L n_1').flatMap boolC)
abbrev khq : List Value:=[.bool false]
abbrev khi (L : List Int):=wtLand L (wtW L 0 * wtH L 0).toNat
abbrev kh7 (qd0 : List Int) : KObj:=.cells true 0 [.iface (qd0.length + 1) (khl qd0),nI (wtN (wtW qd0 0 * wtH qd0 0).toNat)]
def Rwaters (L : List Int) : Prop :=
 (((someR (.cells true 0 [.iface (L.length + 1) (khe L),nI 0])) /\ True) /\ (∀ H' : Heap,H'.length = 2 -> (H'[0]? = some (.cells true 0 [.iface (L.length + 1) (khe L),nI 0] : KObj) /\ True) -> KCall prog 27 [.pointer (some ⟨0,0,none⟩),nI 5] H' [0] (Is (nI (dN L 0 5)) (List.set H' 0 (kha L)))) /\ ((nI (IntKind.wrap .i64 (2 + (dN L 0 5))) : Value) = nI (2 + (dN L 0 5)) /\ (((someR (.cells true 0 (khp L))) /\ True) /\ (∀ H' : Heap,H'.length = 2 -> (H'[0]? = some (kha L) /\ True) -> KCall prog 27 [.pointer (some ⟨0,0,none⟩),nI 4] H' [0] (Is (nI (dN L (0 + 1) 4)) (List.set H' 0 (kh8 L)))) /\ ((nI (IntKind.wrap .i64 (2 + (dN L (0 + 1) 4))) : Value) = nI (2 + (dN L (0 + 1) 4)) /\ (true = true /\ (0 <= Int.toNat (wtW L 0 * wtH L 0)) /\ (true = true /\ ((nI 0 : Value) = nI ((0 : Nat) : Int) /\ (.pointer (some ⟨0,0,none⟩) : Value) = .pointer (some ⟨0,0,none⟩) /\ (.pointer (some ⟨1,0,none⟩) : Value) = .pointer (some ⟨1,0,none⟩) /\ (.pointer (some ⟨2,0,none⟩) : Value) = .pointer (some ⟨2,0,none⟩) /\ True) /\ (wkO (.cells true 0 [nI (2 + (dN L 0 5)),nI (2 + (dN L (0 + 1) 4)),.slice none 0 0] : KObj) (rno (sg 3 []) 3 (.cells true 0 [nI (wtW L 0),nI (wtH L 0),slQ 3 1 (wtLand L 0).length] : KObj)) /\ (some (kh8 L) = some (khb L) /\ belowO 3 (khb L) = true) /\ True) /\ (True /\ True) /\ (True)) /\ khk /\ ∀ n_0 : Nat,(n_0 <= Int.toNat (wtW L 0 * wtH L 0)) -> ((nI (IntKind.wrap .i64 ((wtW L 0) * (wtH L 0))) : Value) = nI ((wtW L 0) * (wtH L 0)) /\ (((decide (((n_0 : Int) : Int) < ((wtW L 0) * (wtH L 0)))) = true -> (((decide ((0 : Int) < (n_0 : Int))) = true -> (((someR (.cells true 0 [.iface (L.length + 1) (khe L),nI (wtN n_0)])) /\ True) /\ (∀ H' : Heap,H'.length = 4 -> (H'[0]? = some (kh0 L n_0) /\ True) -> KCall prog 27 [.pointer (some ⟨0,0,none⟩),nI 7] H' [0] (Is (nI (dN L (wtN n_0) 7)) (List.set H' 0 (.cells true 0 [.iface (L.length + 1) (khe L),nI ((wtN n_0) + 1)] : KObj)))) /\ ((((wtLand L n_0).length + 1) * 1 <= 2 ^ 44 /\ 1 ≠ 0 /\ (kh6 L n_0) /\ (1 <= 1 /\ 0 + 1 * 1 <= List.length (khn L n_0)) /\ ((((khn L n_0).drop 0).take (1 * 1)) : List Value).all (fun v => one1 v) = true) /\ true = true /\ ((khf n_0) = nI ((n_0 : Int) + 1) /\ (∃ n_1' : Nat,(n_1' <= Int.toNat (wtW L 0 * wtH L 0)) /\ (Int.toNat (wtW L 0 * wtH L 0) - n_1') < (Int.toNat (wtW L 0 * wtH L 0) - n_0) /\ true = true /\ (kh1 n_0 n_1') /\ (wkO (kh5 L n_0) (khc L n_1') /\ (some (.cells true 0 [.iface (L.length + 1) (khe L),nI ((wtN n_0) + 1)] : KObj) = some (kh0 L n_1') /\ belowO 3 (kh0 L n_1') = true) /\ True) /\ ((some (.cells true 1 (((((wtLand L n_0).flatMap boolC).drop 0).take ((wtLand L n_0).length * 1)) ++ (((khn L n_0).drop 0).take (1 * 1))) : KObj) = some (khj L n_1') /\ belowO 3 (khj L n_1') = true) /\ True) /\ (True)))))) /\ ((decide ((0 : Int) < (n_0 : Int))) = false -> ((((wtLand L n_0).length + 1) * 1 <= 2 ^ 44 /\ 1 ≠ 0 /\ (kh6 L n_0) /\ (1 <= 1 /\ 0 + 1 * 1 <= List.length khq) /\ (((khq.drop 0).take (1 * 1)) : List Value).all (fun v => one1 v) = true) /\ true = true /\ ((khf n_0) = nI ((n_0 : Int) + 1) /\ (∃ n_1' : Nat,(n_1' <= Int.toNat (wtW L 0 * wtH L 0)) /\ (Int.toNat (wtW L 0 * wtH L 0) - n_1') < (Int.toNat (wtW L 0 * wtH L 0) - n_0) /\ true = true /\ (kh1 n_0 n_1') /\ (wkO (kh5 L n_0) (khc L n_1') /\ (some (kh0 L n_0) = some (kh0 L n_1') /\ belowO 3 (kh0 L n_1') = true) /\ True) /\ ((some (.cells true 1 (((((wtLand L n_0).flatMap boolC).drop 0).take ((wtLand L n_0).length * 1)) ++ ((khq.drop 0).take (1 * 1))) : KObj) = some (khj L n_1') /\ belowO 3 (khj L n_1') = true) /\ True) /\ (True))))))) /\ ((decide (((n_0 : Int) : Int) < ((wtW L 0) * (wtH L 0)))) = false -> (true = true /\ wk (.agg #[nI (wtW L 0),nI (wtH L 0),slQ 3 1 (wtLand L n_0).length] : Value) (rn (sg 1 [(1,3)]) 3 (.agg #[nI (wtW L 0),nI (wtH L 0),slQ 1 1 (khi L).length] : Value)) /\ ((some (kh0 L n_0) = some (kh7 L) /\ belowO 1 (kh7 L) = true) /\ True) /\ ((some (.cells true 1 ((wtLand L n_0).flatMap boolC) : KObj) = some (.cells true 1 ((khi L).flatMap boolC) : KObj) /\ belowO 1 (.cells true 1 ((khi L).flatMap boolC) : KObj) = true) /\ True))))))))))
abbrev khr (n_0 : Nat) : Hint:=.need (.go 3 (.slot 20 (nI ((n_0 : Int) + 1)) (.go 0 (.again [(3,5)]))))
theorem Ewaters (L : List Int) : vF prog msk (dm 0) 100000 true 40 true 15 [.pointer (some ⟨0,0,none⟩)] (readsW 0 0 (digC L 0) []) (some [0])
 (.go 1 (.answ [(0,.cells true 0 [.iface (L.length + 1) (khe L),nI 0])] (nI (dN L 0 5)) [(0,.cells true 0 (khp L))] [] (.go 0 (.slot 7 (nI (2 + (dN L 0 5))) (.go 0 (.answ [(0,.cells true 0 (khp L))] (nI (dN L (0 + 1) 4)) [(0,.cells true 0 [.iface (L.length + 1) (khe L),nI ((0 + 1) + 1)])] [] (.go 0 (.slot 10 (nI (2 + (dN L (0 + 1) 4))) (.go 3 (.inv 3 (Nat) (0) [] [2,0] (fun n_0 => [(4,nI (n_0 : Int)),(0,.pointer (some ⟨0,0,none⟩)),(2,.pointer (some ⟨1,0,none⟩)),(3,.pointer (some ⟨2,0,none⟩))]) (fun n_0 => [(2,false,.cells true 0 [nI (wtW L 0),nI (wtH L 0),slQ 3 1 (wtLand L n_0).length]),(0,true,.cells true 0 [.iface (L.length + 1) (khe L),nI (wtN n_0)])]) (fun n_0 => [(true,.cells true 1 ((wtLand L n_0).flatMap boolC))]) (fun n_0 => []) (fun n_0 => (n_0 <= Int.toNat (wtW L 0 * wtH L 0))) (fun n_0 => (Int.toNat (wtW L 0 * wtH L 0) - n_0)) (fun n_0 => .go 5 (.slot 17 (nI ((wtW L 0) * (wtH L 0))) (.go 0 (.fork (.go 4 (.gfork (.go 0 (.answ [(0,.cells true 0 [.iface (L.length + 1) (khe L),nI (wtN n_0)])] (nI (dN L (wtN n_0) 7)) [(0,.cells true 0 [.iface (L.length + 1) (khe L),nI ((wtN n_0) + 1)])] [] (.go 2 (khr n_0)))) (.go 1 (khr n_0)))) (.go 1 (.keep (.again [(1,3)])))))))))))))))))
 (newKW ((readsW 0 0 (digC L 0) []) : HT).n 3 0 (.cells true 0 [.iface (L.length + 1) (khe L),nI (wtN (wtW L 0 * wtH L 0).toNat)]) (.agg #[nI (wtW L 0),nI (wtH L 0),slQ 1 1 (khi L).length]) [(true,.cells true 1 ((khi L).flatMap boolC))]) = Rwaters L:=by kernel_rfl
end
end Go.Proofs.YtbgfjemppjhmjaaGreat
/- Radio: has, covers, same numbers; a basin made of numbers. No condition. -/
namespace Go.Proofs.YtbgfjemppjhmjaaGreat
open Go Go.K
set_option maxRecDepth 100000
set_option linter.unusedVariables false
set_option linter.unusedSimpArgs false
noncomputable section
attribute [local irreducible] vF
theorem take_succ_eq {L M : List Int} {x : Nat} (h1 : x < L.length) (h2 : x < M.length) (h : L.take x = M.take x) (e : L.getD x 0 = M.getD x 0) : L.take (x + 1) = M.take (x + 1) := by
 rw [List.take_succ_eq_append_getElem h1, List.take_succ_eq_append_getElem h2, h]
 simp only [List.getD_eq_getElem?_getD, List.getElem?_eq_getElem h1, List.getElem?_eq_getElem h2, Option.getD_some] at e
 rw [e]
theorem kSame (L M : List Int) (hl : L.length <= 1000000) (hm : M.length <= 1000000) {H : Heap} {i j : Nat} {o1 o2 : Bool} {z1 z2 : Nat} (hi : H[i]? = some (.cells o1 z1 (L.flatMap intC))) (hj : H[j]? = some (.cells o2 z2 (M.flatMap intC))) :
  KCall prog 22 [.slice (some ⟨i, 0, some 2⟩) L.length L.length, .slice (some ⟨j, 0, some 2⟩) M.length M.length] H [] (Is (.bool (decide (L = M))) H) := by
 refine valRx (css := [L.flatMap intC, M.flatMap intC]) (v := .bool (decide (L = M))) (ids := [i, j]) (Eq.mpr (Esame _ L M) ?_) ⟨plainIL _ _, plainIL _ _, trivial⟩ rfl ⟨⟨_, _, hi⟩, ⟨_, _, hj⟩, trivial⟩ rfl
 delta Rsame kho khm khh khk khg kh3 kh2 khf
 refine ⟨fun k => ?_, fun k => ?_⟩
 ·rw [decide_eq_false (fun e => by rw [e] at k; simp at k)]
 have hlm : L.length = M.length := by have := eqB2 k; omega
 refine ⟨rfl, ⟨Nat.zero_le _, rfl⟩, ?_, fun _ => rfl, fun x hx => ⟨fun k => ?_, fun k => ?_⟩⟩
 ·repeat' first | exact rfl | exact wk_refl _ | refine wkO_cells ?_ | exact wks_nil | exact wk_nil _ _ _ (.inl rfl) | apply And.intro
 ·have h1 : x < L.length := by have := of_decide_eq_true k; omega
  refine ⟨⟨by omega, by omega⟩, intAt h1 (by omega), ⟨by omega, by omega⟩, intAt (by omega) (by omega), fun b => ?_, fun b => ?_⟩
  ·rw [decide_eq_false (fun e => by rw [e] at b; simp at b)]
  ·refine ⟨vI64 (by omega), x + 1, ⟨by omega, take_succ_eq h1 (by omega) hx.2 (eqB2 b)⟩, by omega, rfl, ?_⟩
   repeat' first | exact rfl | exact wk_refl _ | refine wkO_cells ?_ | exact wks_nil | exact wk_nil _ _ _ (.inl rfl) | apply And.intro
 ·have h1 : x = L.length := by have := of_decide_eq_false k; omega
  have := hx.2
  rw [h1, List.take_length, hlm, List.take_length] at this
  rw [decide_eq_true this]
theorem wtW_bd (L : List Int) (n : Int) : 2 <= wtW L n /\ wtW L n <= 6 := by have := dN_bd L n (m := 5) (by omega); unfold wtW; omega
theorem wtH_bd (L : List Int) (n : Int) : 2 <= wtH L n /\ wtH L n <= 5 := by have := dN_bd L (n + 1) (m := 4) (by omega); unfold wtH; omega
theorem wtWH_bd (L : List Int) (n : Int) : 4 <= wtW L n * wtH L n /\ wtW L n * wtH L n <= 30 := by
 have h1 := wtW_bd L n
 have h2 := wtH_bd L n
 have h3 : 2 * 2 <= wtW L n * wtH L n := Int.mul_le_mul h1.1 h2.1 (by omega) (by omega)
 have h4 : wtW L n * wtH L n <= 6 * 5 := Int.mul_le_mul h1.2 h2.2 (by omega) (by omega)
 omega
theorem wtLand_len (L : List Int) (k : Nat) : (wtLand L k).length = k := tabP_len ..
theorem wtLand_succ (L : List Int) (k : Nat) : wtLand L (k + 1) = wtLand L k ++ [decide (0 < k) && decide (dN L ((k : Int) + 1) 7 = 0)] := tabP_succ ..
theorem blB (n : Nat) (l : List Bool) : belowO n (.cells true 1 (l.flatMap boolC)) = true := plainBL n l
theorem digB (n : Nat) (L : List Int) (k : Int) : belowO n (.cells true 0 (digC L k)) = true := plainDig n L k
theorem dig_eq {L : List Int} {a b : Int} (h : a = b) : (some (KObj.cells true 0 [.iface (L.length + 1) (.agg ⟨L.flatMap intC⟩), .int .i64 a]) : Option KObj) = some (.cells true 0 [.iface (L.length + 1) (.agg ⟨L.flatMap intC⟩), .int .i64 b]) := by rw [h]
theorem hvWaters (L : List Int) : Rwaters L := by
 have hw := wtW_bd L 0
 have hh := wtH_bd L 0
 have hwh := wtWH_bd L 0
 have b1 := dN_bd L 0 (m := 5) (by omega)
 have b2 := dN_bd L (0 + 1) (m := 4) (by omega)
 have kN : ∀ (q : Int) (m : Int) (c : Nat), (0 <= q /\ q <= 1000000000) -> (1 <= m /\ m <= 1000000000) -> ∀ H' : Heap, H'.length = c -> (H'[0]? = some (.cells true 0 (digC L q)) /\ True) -> KCall prog 27 [.pointer (some ⟨0, 0, none⟩), .int .i64 m] H' [0] (Is (.int .i64 (dN L q m)) (List.set H' 0 (.cells true 0 (digC L (q + 1))))) :=
  fun q m c h1 h2 H' _ h => kNext L q m h1 h2 h.1
 delta Rwaters khe khl kha khp kh8 khb khk kh0 kh6 khn khf kh1 kh5 khc khj khq khi kh7
 refine ⟨⟨rfl, trivial⟩, kN _ _ _ (by omega) (by omega), vI64 (by omega), ⟨rfl, trivial⟩, kN _ _ _ (by omega) (by omega), vI64 (by omega), rfl, Nat.zero_le _, ?_, fun _ => rfl, fun x hx => ⟨vI64 (by omega), fun k => ⟨fun k0 => ?_, fun k0 => ?_⟩, fun k => ?_⟩⟩
 ·repeat' first | exact wk_nil _ _ _ (.inl rfl) | exact digB _ _ _ | exact rfl | exact wk_refl _ | refine wkO_cells ?_ | exact wks_nil | exact wk_nil _ _ _ (.inl rfl) | apply And.intro
 ·have h1 : 0 < x := by have := of_decide_eq_true k0; omega
  have h2 : (x : Int) < wtW L 0 * wtH L 0 := of_decide_eq_true k
  have hl := wtLand_len L x
  have en : wtN x = (x : Int) + 1 := by unfold wtN; omega
  have en2 : wtN x + 1 = wtN (x + 1) := by unfold wtN; omega
  have es : wtLand L (x + 1) = wtLand L x ++ [dN L (wtN x) 7 == 0] := by
   rw [wtLand_succ, en, decide_eq_true h1, Bool.true_and]; rfl
  refine ⟨⟨rfl, trivial⟩, kN _ _ _ (by unfold wtN; omega) (by omega), ⟨by omega, by decide, ⟨Nat.le_refl _, by rw [flat_len boolC_len]; omega⟩, ⟨Nat.le_refl _, by simp⟩, rfl⟩, rfl, vI64 (by omega), x + 1, by omega, by omega, rfl, ?_⟩
  repeat' first | exact wk_snoc es | exact ob_snoc boolC_len es rfl | exact blB _ _ | exact digB _ _ _ | exact dig_eq en2 | exact rfl | exact wk_refl _ | refine wkO_cells ?_ | exact wks_nil | exact wk_nil _ _ _ (.inl rfl) | apply And.intro
 ·have h1 : x = 0 := by have := of_decide_eq_false k0; omega
  have hl := wtLand_len L x
  have en2 : wtN x = wtN (x + 1) := by unfold wtN; omega
  have es : wtLand L (x + 1) = wtLand L x ++ [false] := by
   rw [wtLand_succ, decide_eq_false (by omega)]; rfl
  refine ⟨⟨by omega, by decide, ⟨Nat.le_refl _, by rw [flat_len boolC_len]; omega⟩, ⟨Nat.le_refl _, by simp⟩, rfl⟩, rfl, vI64 (by omega), x + 1, by omega, by omega, rfl, ?_⟩
  repeat' first | exact wk_snoc es | exact ob_snoc boolC_len es rfl | exact blB _ _ | exact digB _ _ _ | exact dig_eq en2 | exact rfl | exact wk_refl _ | refine wkO_cells ?_ | exact wks_nil | exact wk_nil _ _ _ (.inl rfl) | apply And.intro
 ·have h1 : x = Int.toNat (wtW L 0 * wtH L 0) := by have := of_decide_eq_false k; omega
  rw [h1]
  repeat' first | exact blB _ _ | exact digB _ _ _ | exact rfl | exact wk_refl _ | refine wkO_cells ?_ | exact wks_nil | exact wk_nil _ _ _ (.inl rfl) | apply And.intro
abbrev wtLd (L : List Int) : List Bool := wtLand L (Int.toNat (wtW L 0 * wtH L 0))
theorem kWaters (L : List Int) {H : Heap} {D : Nat} (hD : H[D]? = some (.cells true 0 (digC L 0))) :
  KCall prog 15 [.pointer (some ⟨D, 0, none⟩)] H [D] (Is (.agg #[.int .i64 (wtW L 0), .int .i64 (wtH L 0), .slice (some ⟨H.length, 0, some 1⟩) (wtLd L).length (wtLd L).length]) (H.set D (.cells true 0 (digC L (wtN (Int.toNat (wtW L 0 * wtH L 0))))) ++ [.cells true 1 ((wtLd L).flatMap boolC)])) :=
 valW (fun j => .agg #[.int .i64 (wtW L 0), .int .i64 (wtH L 0), .slice (some ⟨j, 0, some 1⟩) (wtLd L).length (wtLd L).length]) (css := []) (new := [.cells true 1 ((wtLd L).flatMap boolC)]) (Eq.mpr (Ewaters L) (hvWaters L)) (plainDig 0 L _) (plainDig 0 L _) trivial
  ⟨⟨_, _, rfl, plainBL _ _⟩, trivial⟩ rfl rfl (fun _ => rfl) hD (ids := []) trivial (by simp) rfl
end
end Go.Proofs.YtbgfjemppjhmjaaGreat
/- What is to be shown of functions. Printed by a program. No condition. -/
namespace Go.Proofs.YtbgfjemppjhmjaaGreat
set_option linter.unusedSimpArgs false
open Go Go.K
set_option maxRecDepth 100000
set_option maxHeartbeats 4000000
set_option linter.unusedVariables false
noncomputable section
abbrev kf5 (p : Int) : Prop:=(nI 120 : Value) = nI 120 /\ (nI p : Value) = nI p /\ (.pointer (some ⟨0,0,none⟩) : Value) = .pointer (some ⟨0,0,none⟩) /\ (.pointer (some ⟨2,0,none⟩) : Value) = .pointer (some ⟨2,0,none⟩) /\ (.slice none 0 0 : Value) = .slice none 0 0 /\ True
abbrev kf7 (L : List Int) : Value:=.agg ⟨(L.flatMap intC)⟩
abbrev kfd (x0 : Sl):=List.length x0.at_
abbrev kfi (L : List Int) (x0 : Sl) : List Value:=[.iface (L.length + 1) (kf7 L),nI x0.q]
abbrev kfa (L : List Int) (x0 : Sl) : List Value:=[.iface (L.length + 1) (kf7 L),nI (x0.q + 1)]
abbrev kfl (L : List Int) (x0 : Sl) : List Value:=[.iface (L.length + 1) (kf7 L),nI ((x0.q + 1) + 1)]
abbrev kf3 : List Int:=[1,0,-1,0]
abbrev kf4 (L : List Int) (x0 : Sl):=kf3.getD (dN L (x0.q + 1) 4).toNat 0
abbrev kf1 : List Int:=[0,1,0,-1]
abbrev kf2 (L : List Int) (x0 : Sl):=kf1.getD (dN L (x0.q + 1) 4).toNat 0
abbrev kfb (x0 : Sl) (w : Int):=Int.tmod x0.now w
abbrev kf8 (x0 : Sl) (w : Int):=Int.tdiv x0.now w
abbrev kf9 (a : List Bool) (x0 : Sl) (w : Int) (L : List Int):=a.getD ((((kf8 x0 w) + (kf2 L x0)) * w) + ((kfb x0 w) + (kf4 L x0))).toNat false
abbrev kf6 (p : Int) (x0 : Sl) (w : Int) (L : List Int) : Prop:=(.slice none 0 0 : Value) = .slice none 0 0 /\ (.pointer (some ⟨2,0,none⟩) : Value) = .pointer (some ⟨2,0,none⟩) /\ (.pointer (some ⟨0,0,none⟩) : Value) = .pointer (some ⟨0,0,none⟩) /\ (nI p : Value) = nI p /\ (nI 120 : Value) = nI 120 /\ (nI x0.now : Value) = nI x0.now /\ (.pointer (some ⟨6,0,none⟩) : Value) = .pointer (some ⟨6,0,none⟩) /\ (nI ((kfb x0 w) + (kf4 L x0)) : Value) = nI ((kfb x0 w) + (kf4 L x0)) /\ (nI ((kf8 x0 w) + (kf2 L x0)) : Value) = nI ((kf8 x0 w) + (kf2 L x0)) /\ True
abbrev kfj (x0 : Sl):=List.flatMap intC x0.at_
abbrev kfh (x0 : Sl) (n_0 : Nat) : Prop:=(slPut x0 n_0).length <= (slPut x0 n_0).length /\ 0 + (slPut x0 n_0).length * 1 <= List.length ((slPut x0 n_0).flatMap intC)
abbrev kfk (x0 : Sl) (n_0 : Nat) : Value:=.slice (some ⟨9,0,none⟩) ((slPut x0 n_0).length + 1) ((slPut x0 n_0).length + 1)
abbrev kfg (x0 : Sl) (w : Int) (L : List Int) : List Value:=[nI ((((kf8 x0 w) + (kf2 L x0)) * w) + ((kfb x0 w) + (kf4 L x0)))]
abbrev kfc (L : List Int) (x0' : Sl) : KObj:=.cells true 0 [.iface (L.length + 1) (kf7 L),nI x0'.q]
abbrev kff (x0' : Sl) : KObj:=.cells true 1 (List.flatMap intC x0'.at_)
abbrev kf0 (x0 : Sl) (L : List Int) (w : Int) (h : Int) (a : List Bool) (p : Int) (q : Int) : Prop:=(((kfd x0) + 1) * 8 <= 2 ^ 44 /\ 1 ≠ 0 /\ ((kfd x0) <= (kfd x0) /\ 0 + (kfd x0) * 1 <= List.length (kfj x0)) /\ (1 <= 1 /\ 0 + 1 * 1 <= List.length ([nI x0.now] : List Value)) /\ (((([nI x0.now] : List Value).drop 0).take (1 * 1)) : List Value).all (fun v => one1 v) = true) /\ true = true /\ (∃ x0' : Sl,(SlI L w h a p q x0') /\ (400 - List.length x0'.at_) < (400 - List.length x0.at_) /\ true = true /\ ((nI x0.now : Value) = nI x0'.now /\ wk (.slice (some ⟨8,0,none⟩) ((kfd x0) + 1) ((kfd x0) + 1) : Value) (slQ 8 1 (List.length x0'.at_) : Value) /\ kf5 p) /\ ((some (.cells true 0 (kfl L x0) : KObj) = some (kfc L x0') /\ belowO 4 (kfc L x0') = true) /\ True /\ True) /\ ((some (.cells true 1 ((((kfj x0).drop 0).take ((kfd x0) * 1)) ++ ((([nI x0.now] : List Value).drop 0).take (1 * 1))) : KObj) = some (kff x0') /\ belowO 4 (kff x0') = true) /\ True) /\ (True))
def Rsails (L : List Int) (z : Nat) (w h : Int) (a : List Bool) (p q : Int) : Prop :=
 (true = true /\ (SlI L w h a p q (Sl.mk 0 q [0])) /\ (true = true /\ ((nI 0 : Value) = nI (Sl.mk 0 q [0]).now /\ wk (.slice (some ⟨3,0,none⟩) 1 1 : Value) (slQ 3 1 (List.length (Sl.mk 0 q [0]).at_) : Value) /\ kf5 p) /\ ((some (.cells true 0 [.iface (L.length + 1) (kf7 L),nI q] : KObj) = some (.cells true 0 [.iface (L.length + 1) (kf7 L),nI (Sl.mk 0 q [0]).q] : KObj) /\ belowO 4 (.cells true 0 [.iface (L.length + 1) (kf7 L),nI (Sl.mk 0 q [0]).q] : KObj) = true) /\ True /\ True) /\ ((some (.cells true 1 [nI 0] : KObj) = some (.cells true 1 (List.flatMap intC (Sl.mk 0 q [0]).at_) : KObj) /\ belowO 4 (.cells true 1 (List.flatMap intC (Sl.mk 0 q [0]).at_) : KObj) = true) /\ True) /\ (True)) /\ (∀ x0 : Sl,true = true) /\ ∀ x0 : Sl,(SlI L w h a p q x0) -> (((decide (((((kfd x0) : Nat) : Int) : Int) <= 120)) = true -> (((someR (.cells true 0 (kfi L x0))) /\ True) /\ (∀ H' : Heap,H'.length = 5 -> (H'[0]? = some (.cells true 0 (kfi L x0) : KObj) /\ True) -> KCall prog 27 [.pointer (some ⟨0,0,none⟩),nI 3] H' [0] (Is (nI (dN L x0.q 3)) (List.set H' 0 (.cells true 0 (kfa L x0) : KObj)))) /\ (((decide ((0 : Int) < (dN L x0.q 3))) = true -> (((someR (.cells true 0 (kfa L x0))) /\ True) /\ (∀ H' : Heap,H'.length = 6 -> (H'[0]? = some (.cells true 0 (kfa L x0) : KObj) /\ True) -> KCall prog 27 [.pointer (some ⟨0,0,none⟩),nI 4] H' [0] (Is (nI (dN L (x0.q + 1) 4)) (List.set H' 0 (.cells true 0 (kfl L x0) : KObj)))) /\ (((0 : Int) <= (dN L (x0.q + 1) 4) /\ ((dN L (x0.q + 1) 4) : Int) < ((4 : Nat) : Int)) /\ ((partA 2 ([nI 1,nI 0,nI 0,nI 1,nI (-1),nI 0,nI 0,nI (-1)] : List Value) (0 + Int.toNat (dN L (x0.q + 1) 4) * 2) = some (.agg #[nI (kf4 L x0),nI (kf2 L x0)])) /\ (((w : Int) ≠ 0) /\ ((nI (IntKind.wrap .i64 ((kfb x0 w) + (kf4 L x0))) : Value) = nI ((kfb x0 w) + (kf4 L x0)) /\ (((w : Int) ≠ 0) /\ ((nI (IntKind.wrap .i64 (kf8 x0 w)) : Value) = nI (kf8 x0 w) /\ ((nI (IntKind.wrap .i64 ((kf8 x0 w) + (kf2 L x0))) : Value) = nI ((kf8 x0 w) + (kf2 L x0)) /\ (((decide ((0 : Int) <= ((kfb x0 w) + (kf4 L x0)))) = true -> (((decide ((((kfb x0 w) + (kf4 L x0)) : Int) < w)) = true -> (((decide ((0 : Int) <= ((kf8 x0 w) + (kf2 L x0)))) = true -> (((decide ((((kf8 x0 w) + (kf2 L x0)) : Int) < h)) = true -> ((nI (IntKind.wrap .i64 (((kf8 x0 w) + (kf2 L x0)) * w)) : Value) = nI (((kf8 x0 w) + (kf2 L x0)) * w) /\ ((nI (IntKind.wrap .i64 ((((kf8 x0 w) + (kf2 L x0)) * w) + ((kfb x0 w) + (kf4 L x0)))) : Value) = nI ((((kf8 x0 w) + (kf2 L x0)) * w) + ((kfb x0 w) + (kf4 L x0))) /\ (((0 : Int) <= ((((kf8 x0 w) + (kf2 L x0)) * w) + ((kfb x0 w) + (kf4 L x0))) /\ (((((kf8 x0 w) + (kf2 L x0)) * w) + ((kfb x0 w) + (kf4 L x0))) : Int) < ((a.length : Nat) : Int)) /\ (((a.flatMap boolC)[(0 + Int.toNat ((((kf8 x0 w) + (kf2 L x0)) * w) + ((kfb x0 w) + (kf4 L x0))) * 1)]? = some (.bool (kf9 a x0 w L))) /\ (((!(kf9 a x0 w L)) = true -> (true = true /\ (((0 : Nat) : Int) <= p - 1) /\ (true = true /\ ((nI 1 : Value) = nI (((0 : Nat) : Int) + 1) /\ wk (slQ 4 1 (kfd x0) : Value) (slQ 4 1 (slPut x0 0).length : Value) /\ kf6 p x0 w L) /\ (True /\ True) /\ ((some (.cells true 1 (kfj x0) : KObj) = some (.cells true 1 ((slPut x0 0).flatMap intC) : KObj) /\ belowO 7 (.cells true 1 ((slPut x0 0).flatMap intC) : KObj) = true) /\ True) /\ (True)) /\ (∀ n_0 : Nat,true = true) /\ ∀ n_0 : Nat,((n_0 : Int) <= p - 1) -> (((decide ((((n_0 : Int) + 1) : Int) < p)) = true -> ((((slPut x0 n_0).length + 1) * 8 <= 2 ^ 44 /\ 1 ≠ 0 /\ (kfh x0 n_0) /\ (1 <= 1 /\ 0 + 1 * 1 <= List.length ([nI (-1)] : List Value)) /\ (((([nI (-1)] : List Value).drop 0).take (1 * 1)) : List Value).all (fun v => one1 v) = true) /\ true = true /\ ((nI (IntKind.wrap .i64 (((n_0 : Int) + 1) + 1)) : Value) = nI (((n_0 : Int) + 1) + 1) /\ (∃ n_1' : Nat,((n_1' : Int) <= p - 1) /\ (Int.toNat p - n_1') < (Int.toNat p - n_0) /\ true = true /\ ((nI (((n_0 : Int) + 1) + 1) : Value) = nI ((n_1' : Int) + 1) /\ wk (kfk x0 n_0) (slQ 9 1 (slPut x0 n_1').length : Value) /\ kf6 p x0 w L) /\ (True /\ True) /\ ((some (.cells true 1 (((((slPut x0 n_0).flatMap intC).drop 0).take ((slPut x0 n_0).length * 1)) ++ ((([nI (-1)] : List Value).drop 0).take (1 * 1))) : KObj) = some (.cells true 1 ((slPut x0 n_1').flatMap intC) : KObj) /\ belowO 7 (.cells true 1 ((slPut x0 n_1').flatMap intC) : KObj) = true) /\ True) /\ (True))))) /\ ((decide ((((n_0 : Int) + 1) : Int) < p)) = false -> ((nI (IntKind.wrap .i64 (((kf8 x0 w) + (kf2 L x0)) * w)) : Value) = nI (((kf8 x0 w) + (kf2 L x0)) * w) /\ ((nI (IntKind.wrap .i64 ((((kf8 x0 w) + (kf2 L x0)) * w) + ((kfb x0 w) + (kf4 L x0)))) : Value) = nI ((((kf8 x0 w) + (kf2 L x0)) * w) + ((kfb x0 w) + (kf4 L x0))) /\ ((((slPut x0 n_0).length + 1) * 8 <= 2 ^ 44 /\ 1 ≠ 0 /\ (kfh x0 n_0) /\ (1 <= 1 /\ 0 + 1 * 1 <= List.length (kfg x0 w L)) /\ ((((kfg x0 w L).drop 0).take (1 * 1)) : List Value).all (fun v => one1 v) = true) /\ true = true /\ (∃ x0' : Sl,(SlI L w h a p q x0') /\ (400 - List.length x0'.at_) < (400 - List.length x0.at_) /\ true = true /\ ((nI ((((kf8 x0 w) + (kf2 L x0)) * w) + ((kfb x0 w) + (kf4 L x0))) : Value) = nI x0'.now /\ wk (kfk x0 n_0) (slQ 9 1 (List.length x0'.at_) : Value) /\ kf5 p) /\ ((some (.cells true 0 (kfl L x0) : KObj) = some (kfc L x0') /\ belowO 4 (kfc L x0') = true) /\ True /\ True) /\ ((some (.cells true 1 (((((slPut x0 n_0).flatMap intC).drop 0).take ((slPut x0 n_0).length * 1)) ++ (((kfg x0 w L).drop 0).take (1 * 1))) : KObj) = some (kff x0') /\ belowO 4 (kff x0') = true) /\ True) /\ (True))))))))) /\ ((!(kf9 a x0 w L)) = false -> (kf0 x0 L w h a p q)))))))) /\ ((decide ((((kf8 x0 w) + (kf2 L x0)) : Int) < h)) = false -> (kf0 x0 L w h a p q)))) /\ ((decide ((0 : Int) <= ((kf8 x0 w) + (kf2 L x0)))) = false -> (kf0 x0 L w h a p q)))) /\ ((decide ((((kfb x0 w) + (kf4 L x0)) : Int) < w)) = false -> (kf0 x0 L w h a p q)))) /\ ((decide ((0 : Int) <= ((kfb x0 w) + (kf4 L x0)))) = false -> (kf0 x0 L w h a p q)))))))))))) /\ ((decide ((0 : Int) < (dN L x0.q 3))) = false -> ((((kfd x0) + 1) * 8 <= 2 ^ 44 /\ 1 ≠ 0 /\ ((kfd x0) <= (kfd x0) /\ 0 + (kfd x0) * 1 <= List.length (kfj x0)) /\ (1 <= 1 /\ 0 + 1 * 1 <= List.length ([nI x0.now] : List Value)) /\ (((([nI x0.now] : List Value).drop 0).take (1 * 1)) : List Value).all (fun v => one1 v) = true) /\ true = true /\ (∃ x0' : Sl,(SlI L w h a p q x0') /\ (400 - List.length x0'.at_) < (400 - List.length x0.at_) /\ true = true /\ ((nI x0.now : Value) = nI x0'.now /\ wk (.slice (some ⟨6,0,none⟩) ((kfd x0) + 1) ((kfd x0) + 1) : Value) (slQ 6 1 (List.length x0'.at_) : Value) /\ kf5 p) /\ ((some (.cells true 0 (kfa L x0) : KObj) = some (kfc L x0') /\ belowO 4 (kfc L x0') = true) /\ True /\ True) /\ ((some (.cells true 1 ((((kfj x0).drop 0).take ((kfd x0) * 1)) ++ ((([nI x0.now] : List Value).drop 0).take (1 * 1))) : KObj) = some (kff x0') /\ belowO 4 (kff x0') = true) /\ True) /\ (True))))))) /\ ((decide (((((kfd x0) : Nat) : Int) : Int) <= 120)) = false -> ((((true = false ∨ 1 = 0 ∨ 1 = 1) /\ 121 <= (kfd x0)) /\ ((0 : Int) <= 121 /\ (121 : Int) <= (((kfd x0) : Nat) : Int)) /\ (0 <= 121)) /\ (true = true /\ wk (slQ 4 2 121 : Value) (rn (sg 2 [(2,4)]) 3 (slQ 2 2 121 : Value)) /\ ((some (.cells true 0 (kfi L x0) : KObj) = some (.cells true 0 [.iface (L.length + 1) (kf7 L),nI ((slF L w h a p q).q)] : KObj) /\ belowO 2 (.cells true 0 [.iface (L.length + 1) (kf7 L),nI ((slF L w h a p q).q)] : KObj) = true) /\ True) /\ ((some (.cells true 1 (kfj x0) : KObj) = some (.cells true 1 (List.flatMap intC (slF L w h a p q).at_) : KObj) /\ belowO 2 (.cells true 1 (List.flatMap intC (slF L w h a p q).at_) : KObj) = true) /\ True))))))
abbrev kfe : Hint:=.need (.go 0 (.again [(4,8)]))
theorem Esails (L : List Int) (z : Nat) (w h : Int) (a : List Bool) (p q : Int) : vF prog msk (dm 0) 100000 true 40 true 17 [.pointer (some ⟨0,0,none⟩),.agg #[nI w,nI h,slQ 1 2 a.length],nI p,nI 120] (readsW 0 0 (digC L q) [a.flatMap boolC]) (some [0])
 (.go 4 (.inv 3 (Sl) ((Sl.mk 0 q [0])) [(4,3)] [0,3] (fun x0 => [(10,nI x0.now),(9,slQ 4 1 (kfd x0)),(3,nI 120),(2,nI p),(0,.pointer (some ⟨0,0,none⟩)),(5,.pointer (some ⟨2,0,none⟩)),(8,.slice none 0 0)]) (fun x0 => [(0,true,.cells true 0 (kfi L x0)),(3,false,.dead)]) (fun x0 => [(true,.cells true 1 (kfj x0))]) (fun x0 => []) (fun x0 => (SlI L w h a p q x0)) (fun x0 => (400 - List.length x0.at_)) (fun x0 => .go 3 (.fork (.go 0 (.answ [(0,.cells true 0 (kfi L x0))] (nI (dN L x0.q 3)) [(0,.cells true 0 (kfa L x0))] [] (.go 0 (.fork (.go 5 (.answ [(0,.cells true 0 (kfa L x0))] (nI (dN L (x0.q + 1) 4)) [(0,.cells true 0 (kfl L x0))] [] (.need (.val (.agg #[nI (kf4 L x0),nI (kf2 L x0)]) (.go 4 (.need (.go 2 (.slot 38 (nI ((kfb x0 w) + (kf4 L x0))) (.go 2 (.need (.slot 42 (nI (kf8 x0 w)) (.go 2 (.slot 45 (nI ((kf8 x0 w) + (kf2 L x0))) (.go 4 (.gfork (.go 5 (.gfork (.go 3 (.gfork (.go 5 (.gfork (.go 5 (.slot 70 (nI (((kf8 x0 w) + (kf2 L x0)) * w)) (.go 1 (.slot 72 (nI ((((kf8 x0 w) + (kf2 L x0)) * w) + ((kfb x0 w) + (kf4 L x0)))) (.need (.val (.bool (kf9 a x0 w L)) (.go 1 (.fork (.go 0 (.inv 3 (Nat) (0) [(7,4)] [4] (fun n_0 => [(14,nI ((n_0 : Int) + 1)),(9,slQ 7 1 (slPut x0 n_0).length),(8,.slice none 0 0),(5,.pointer (some ⟨2,0,none⟩)),(0,.pointer (some ⟨0,0,none⟩)),(2,nI p),(3,nI 120),(10,nI x0.now),(11,.pointer (some ⟨6,0,none⟩)),(12,nI ((kfb x0 w) + (kf4 L x0))),(13,nI ((kf8 x0 w) + (kf2 L x0)))]) (fun n_0 => [(4,false,.dead)]) (fun n_0 => [(true,.cells true 1 ((slPut x0 n_0).flatMap intC))]) (fun n_0 => []) (fun n_0 => ((n_0 : Int) <= p - 1)) (fun n_0 => (Int.toNat p - n_0)) (fun n_0 => .go 2 (.fork (.go 1 (.need (.go 2 (.slot 81 (nI (((n_0 : Int) + 1) + 1)) (.go 0 (.again [(7,9)])))))) (.go 3 (.slot 88 (nI (((kf8 x0 w) + (kf2 L x0)) * w)) (.go 1 (.slot 90 (nI ((((kf8 x0 w) + (kf2 L x0)) * w) + ((kfb x0 w) + (kf4 L x0)))) (.go 3 (.need (.go 0 (.again [(4,9)])))))))))))) (.go 2 kfe))))))))) (.go 4 kfe))) (.go 6 kfe))) (.go 8 kfe))) (.go 10 kfe)))))))))))))))) (.go 2 (.need (.go 0 (.again [(4,6)])))))))) (.go 2 (.need (.go 0 (.keep (.again [(2,4)])))))))))
 (newKW ((readsW 0 0 (digC L q) [a.flatMap boolC]) : HT).n 3 0 (.cells true 0 [.iface (L.length + 1) (kf7 L),nI ((slF L w h a p q).q)]) (slQ 2 2 121) [(true,.cells true 1 (List.flatMap intC (slF L w h a p q).at_))]) = Rsails L z w h a p q:=by kernel_rfl
end
end Go.Proofs.YtbgfjemppjhmjaaGreat
/- Radio: ways made of numbers. No condition. -/
namespace Go.Proofs.YtbgfjemppjhmjaaGreat
open Go Go.K
set_option maxRecDepth 100000
set_option linter.unusedVariables false
set_option linter.unusedSimpArgs false
noncomputable section
attribute [local irreducible] vF
theorem slPut_0 (s : Sl) : slPut s 0 = s.at_ := by unfold slPut; simp
theorem slPut_succ (s : Sl) (x : Nat) : slPut s (x + 1) = slPut s x ++ [-1] := by
 unfold slPut
 rw [List.replicate_succ', List.append_assoc]
theorem slPut_len (s : Sl) (x : Nat) : (slPut s x).length = s.at_.length + x := by unfold slPut; rw [List.length_append, List.length_replicate]
theorem slStep_len (L : List Int) (w h : Int) (a : List Bool) (p : Int) (s : Sl) : s.at_.length + 1 <= (slStep L w h a p s).at_.length := by
 unfold slStep
 split
 ·split
  ·dsimp only; rw [List.length_append, slPut_len, List.length_singleton]; omega
  ·dsimp only; rw [List.length_append, List.length_singleton]; omega
 ·dsimp only; rw [List.length_append, List.length_singleton]; omega
theorem slRun_done {L : List Int} {w h : Int} {a : List Bool} {p : Int} {s : Sl} (hs : ¬ s.at_.length <= 120) : ∀ m, slRun L w h a p m s = s
 | 0 => rfl
 | m + 1 => by unfold slRun; rw [if_neg hs]
theorem slI_0 {L : List Int} {w h : Int} {a : List Bool} {p q : Int} (hn : 0 < a.length) (hq : 0 <= q) : SlI L w h a p q ⟨0, q, [0]⟩ := by
 refine ⟨?_, ?_, ?_, 120, ?_, rfl⟩
 ·dsimp only; omega
 ·show 0 <= q /\ q <= q + 2 * ((1 : Nat) : Int); omega
 ·show 1 <= 1 /\ 1 <= 160; omega
 ·show 121 <= 120 + 1; omega
theorem slI_step {L : List Int} {w h : Int} {a : List Bool} {p q : Int} {s : Sl} (b : BasOk w h a.length) (hp : 1 <= p /\ p <= 30) (i : SlI L w h a p q s) (hs : s.at_.length <= 120) : SlI L w h a p q (slStep L w h a p s) := by
 obtain ⟨i1, i2, i3, m, i4, i5⟩ := i
 have hlen := slStep_len L w h a p s
 have hrun : ∃ m, 121 <= m + (slStep L w h a p s).at_.length /\ slRun L w h a p m (slStep L w h a p s) = slF L w h a p q := by
  cases m with
  | zero => omega
  | succ m =>
   refine ⟨m, by omega, ?_⟩
   rw [<- i5]
   show _ = (if s.at_.length <= 120 then _ else _)
   rw [if_pos hs]
 refine ⟨?_, ?_, ?_, hrun⟩
 ·unfold slStep
  split
  ·split
   ·rename_i h1 h2
    unfold slOk at h2
    simp only [Bool.and_eq_true, decide_eq_true_eq] at h2
    exact nb_in b ⟨h2.1, by omega⟩ ⟨h2.2.2.1, by omega⟩
   ·exact i1
  ·exact i1
 ·unfold slStep
  split
  ·split
   ·dsimp only; rw [List.length_append, slPut_len, List.length_singleton]; omega
   ·dsimp only; rw [List.length_append, List.length_singleton]; omega
  ·dsimp only; rw [List.length_append, List.length_singleton]; omega
 ·refine ⟨by omega, ?_⟩
  unfold slStep
  split
  ·split
   ·dsimp only; rw [List.length_append, slPut_len, List.length_singleton]; omega
   ·dsimp only; rw [List.length_append, List.length_singleton]; omega
  ·dsimp only; rw [List.length_append, List.length_singleton]; omega
theorem dirPart {d : Int} (hd : 0 <= d /\ d < 4) : partA 2 ([nI 1, nI 0, nI 0, nI 1, nI (-1), nI 0, nI 0, nI (-1)] : List Value) (0 + Int.toNat d * 2) = some (.agg #[nI (List.getD ([1, 0, -1, 0] : List Int) (Int.toNat d) 0), nI (List.getD ([0, 1, 0, -1] : List Int) (Int.toNat d) 0)]) := by
 have : d = 0 ∨ d = 1 ∨ d = 2 ∨ d = 3 := by omega
 rcases this with rfl | rfl | rfl | rfl <;> rfl
theorem sd_bd {d : Int} (hd : 0 <= d /\ d < 4) : (-1 <= sdx d /\ sdx d <= 1) /\ (-1 <= sdy d /\ sdy d <= 1) := by
 have : d = 0 ∨ d = 1 ∨ d = 2 ∨ d = 3 := by omega
 rcases this with rfl | rfl | rfl | rfl <;> decide
theorem hvSails {L : List Int} {z : Nat} {w h : Int} {a : List Bool} {p q : Int} (b : BasOk w h a.length) (hp : 1 <= p /\ p <= 30) (hq : 0 <= q /\ q <= 1000) : Rsails L z w h a p q := by
 have hw := b.w1
 have hh := b.h1
 have hn := b.n1
 have hp1 := b.p1
 have hwh := mul_bd hw hh
 have kN : ∀ (q : Int) (m : Int) (c : Nat), (0 <= q /\ q <= 1000000000) -> (1 <= m /\ m <= 1000000000) -> ∀ H' : Heap, H'.length = c -> (H'[0]? = some (.cells true 0 (digC L q)) /\ True) -> KCall prog 27 [.pointer (some ⟨0, 0, none⟩), .int .i64 m] H' [0] (Is (.int .i64 (dN L q m)) (List.set H' 0 (.cells true 0 (digC L (q + 1))))) :=
  fun q m c h1 h2 H' _ h => kNext L q m h1 h2 h.1
 delta Rsails kf5 kf7 kfd kfi kfa kfl kf3 kf4 kf1 kf2 kfb kf8 kf9 kf6 kfj kfh kfk kfg kfc kff kf0
 refine ⟨rfl, slI_0 (by omega) hq.1, ?_, fun _ => rfl, fun s hs => ⟨fun k => ?_, fun k => ?_⟩⟩
 ·repeat' first | (exact wk_Q (by decide)) | exact digB _ _ _ | exact intB _ _ | exact rfl | exact wk_refl _ | exact wks_nil | apply And.intro
 ·have hl : s.at_.length <= 120 := by have := of_decide_eq_true k; omega
  have hst := slI_step b hp hs hl
  have hsl := slStep_len L w h a p s
  have hi := hs.now
  have hcn := hs.cnt
  have hl1 := hs.len
  obtain ⟨d1, d2, d3⟩ := divm b hi
  have b1 := dN_bd L s.q (m := 3) (by omega)
  have b2 := dN_bd L (s.q + 1) (m := 4) (by omega)
  have hsd := sd_bd b2
  refine ⟨⟨rfl, trivial⟩, kN _ _ _ (by omega) (by omega), fun k1 => ?_, fun k1 => ?_⟩
  ·have g1 : dN L s.q 3 > 0 := of_decide_eq_true k1
   have hno : slOk L w h a s = false -> slStep L w h a p s = ⟨s.now, s.q + 1 + 1, s.at_ ++ [s.now]⟩ := fun e => by unfold slStep; rw [if_pos g1, if_neg (by rw [e]; exact Bool.noConfusion)]
   have eU : Int.tmod s.now w + List.getD ([1, 0, -1, 0] : List Int) (Int.toNat (dN L (s.q + 1) 4)) 0 = slU L w s := rfl
   have eV : Int.tdiv s.now w + List.getD ([0, 1, 0, -1] : List Int) (Int.toNat (dN L (s.q + 1) 4)) 0 = slV L w s := rfl
   have bu : -1 <= slU L w s /\ slU L w s <= 64 := by unfold slU; omega
   have bv : -1 <= slV L w s /\ slV L w s <= 64 := by unfold slV; omega
   refine ⟨⟨rfl, trivial⟩, kN _ _ _ (by omega) (by omega), ⟨b2.1, b2.2⟩, dirPart b2, by omega, vI64 (by rw [eU]; omega), by omega, vI64 (by omega), vI64 (by rw [eV]; omega), ?_⟩
   rw [eU, eV]
   generalize hU : slU L w s = u at *
   generalize hV : slV L w s = v at *
   refine ⟨fun c1 => ⟨fun c2 => ⟨fun c3 => ⟨fun c4 => ?_, fun c4 => ?_⟩, fun c3 => ?_⟩, fun c2 => ?_⟩, fun c1 => ?_⟩
   ·have hu : 0 <= u /\ u <= w - 1 := ⟨of_decide_eq_true c1, by have := of_decide_eq_true c2; omega⟩
    have hv : 0 <= v /\ v <= h - 1 := ⟨of_decide_eq_true c3, by have := of_decide_eq_true c4; omega⟩
    have hin := nb_in b hu hv
    have hvw : 0 <= v * w := Int.mul_nonneg hv.1 (by omega)
    refine ⟨vI64 (by omega), vI64 (by omega), hin, boolAt (by omega) (by omega), fun l1 => ⟨rfl, by omega, ?_, fun _ => rfl, fun x hx => ⟨fun kx => ?_, fun kx => ?_⟩⟩, fun l1 => ?_⟩
    ·rw [slPut_0]
     repeat' first | exact intB _ _ | exact rfl | exact wk_refl _ | exact wks_nil | apply And.intro
    ·have hpl := slPut_len s x
     have hk := of_decide_eq_true kx
     refine ⟨⟨by omega, by decide, ⟨Nat.le_refl _, by rw [flat_len intC_len]; omega⟩, ⟨Nat.le_refl _, by simp⟩, rfl⟩, rfl, vI64 (by omega), x + 1, by omega, by omega, rfl, ?_⟩
     repeat' first | exact wk_snoc (slPut_succ s x) | exact ob_snoc intC_len (slPut_succ s x) rfl | exact intB _ _ | exact rfl | exact wk_refl _ | exact wks_nil | apply And.intro
    ·have hpl := slPut_len s x
     have hk := of_decide_eq_false kx
     have hx2 : x = Int.toNat (p - 1) := by omega
     have hyes : slStep L w h a p s = ⟨v * w + u, s.q + 1 + 1, slPut s x ++ [v * w + u]⟩ := by
      unfold slStep
      rw [if_pos g1, if_pos (by unfold slOk; rw [hU, hV, c1, c2, c3, c4, l1]; rfl), hU, hV, hx2]
     rw [hyes] at hst hsl
     refine ⟨vI64 (by omega), vI64 (by omega), ⟨by omega, by decide, ⟨Nat.le_refl _, by rw [flat_len intC_len]; omega⟩, ⟨Nat.le_refl _, by simp⟩, rfl⟩, rfl, _, hst, by have := hst.len; omega, rfl, ?_⟩
     repeat' first | exact wk_snoc rfl | exact ob_snoc intC_len rfl rfl | exact intB _ _ | exact digB _ _ _ | exact rfl | exact wk_refl _ | exact wks_nil | apply And.intro
    ·have e := hno (by unfold slOk; rw [hU, hV, c1, c2, c3, c4, l1]; rfl)
     rw [e] at hst hsl
     refine ⟨⟨by omega, by decide, ⟨Nat.le_refl _, by rw [flat_len intC_len]; omega⟩, ⟨Nat.le_refl _, by simp⟩, rfl⟩, rfl, _, hst, by have := hst.len; omega, rfl, ?_⟩
     repeat' first | exact wk_snoc rfl | exact ob_snoc intC_len rfl rfl | exact intB _ _ | exact digB _ _ _ | exact rfl | exact wk_refl _ | exact wks_nil | apply And.intro
   ·have e := hno (by unfold slOk; rw [hU, hV, c1, c2, c3, c4]; rfl)
    rw [e] at hst hsl
    refine ⟨⟨by omega, by decide, ⟨Nat.le_refl _, by rw [flat_len intC_len]; omega⟩, ⟨Nat.le_refl _, by simp⟩, rfl⟩, rfl, _, hst, by have := hst.len; omega, rfl, ?_⟩
    repeat' first | exact wk_snoc rfl | exact ob_snoc intC_len rfl rfl | exact intB _ _ | exact digB _ _ _ | exact rfl | exact wk_refl _ | exact wks_nil | apply And.intro
   ·have e := hno (by unfold slOk; rw [hU, hV, c1, c2, c3]; rfl)
    rw [e] at hst hsl
    refine ⟨⟨by omega, by decide, ⟨Nat.le_refl _, by rw [flat_len intC_len]; omega⟩, ⟨Nat.le_refl _, by simp⟩, rfl⟩, rfl, _, hst, by have := hst.len; omega, rfl, ?_⟩
    repeat' first | exact wk_snoc rfl | exact ob_snoc intC_len rfl rfl | exact intB _ _ | exact digB _ _ _ | exact rfl | exact wk_refl _ | exact wks_nil | apply And.intro
   ·have e := hno (by unfold slOk; rw [hU, hV, c1, c2]; rfl)
    rw [e] at hst hsl
    refine ⟨⟨by omega, by decide, ⟨Nat.le_refl _, by rw [flat_len intC_len]; omega⟩, ⟨Nat.le_refl _, by simp⟩, rfl⟩, rfl, _, hst, by have := hst.len; omega, rfl, ?_⟩
    repeat' first | exact wk_snoc rfl | exact ob_snoc intC_len rfl rfl | exact intB _ _ | exact digB _ _ _ | exact rfl | exact wk_refl _ | exact wks_nil | apply And.intro
   ·have e := hno (by unfold slOk; rw [hU, hV, c1]; rfl)
    rw [e] at hst hsl
    refine ⟨⟨by omega, by decide, ⟨Nat.le_refl _, by rw [flat_len intC_len]; omega⟩, ⟨Nat.le_refl _, by simp⟩, rfl⟩, rfl, _, hst, by have := hst.len; omega, rfl, ?_⟩
    repeat' first | exact wk_snoc rfl | exact ob_snoc intC_len rfl rfl | exact intB _ _ | exact digB _ _ _ | exact rfl | exact wk_refl _ | exact wks_nil | apply And.intro
  ·have e : slStep L w h a p s = ⟨s.now, s.q + 1, s.at_ ++ [s.now]⟩ := by unfold slStep; rw [if_neg (of_decide_eq_false k1)]
   rw [e] at hst hsl
   refine ⟨⟨by omega, by decide, ⟨Nat.le_refl _, by rw [flat_len intC_len]; omega⟩, ⟨Nat.le_refl _, by simp⟩, rfl⟩, rfl, _, hst, by have := hst.len; omega, rfl, ?_⟩
   repeat' first | exact wk_snoc rfl | exact ob_snoc intC_len rfl rfl | exact intB _ _ | exact digB _ _ _ | exact rfl | exact wk_refl _ | exact wks_nil | apply And.intro
 ·have hl : ¬ s.at_.length <= 120 := fun e => absurd (of_decide_eq_false k) (by omega)
  have e : s = slF L w h a p q := by
   obtain ⟨m, m1, m2⟩ := hs.run
   rw [slRun_done hl] at m2
   exact m2
  refine ⟨⟨⟨.inr (.inr rfl), by omega⟩, ⟨by omega, by omega⟩, by omega⟩, ?_⟩
  rw [e]
  repeat' first | exact intB _ _ | exact digB _ _ _ | exact rfl | exact wk_refl _ | exact wks_nil | apply And.intro
theorem kSails {L : List Int} {w h : Int} {a : List Bool} {p q : Int} (b : BasOk w h a.length) (hp : 1 <= p /\ p <= 30) (hq : 0 <= q /\ q <= 1000) {H : Heap} {D i : Nat} {own : Bool} {z : Nat} (hne : D ≠ i) (hD : H[D]? = some (.cells true 0 (digC L q))) (hi : H[i]? = some (.cells own z (a.flatMap boolC))) :
  KCall prog 17 [.pointer (some ⟨D, 0, none⟩), basV w h i a.length, .int .i64 p, .int .i64 120] H [D] (Is (.slice (some ⟨H.length, 0, some 2⟩) 121 121) (H.set D (.cells true 0 (digC L (slF L w h a p q).q)) ++ [.cells true 1 ((slF L w h a p q).at_.flatMap intC)])) :=
 valW (fun j => .slice (some ⟨j, 0, some 2⟩) 121 121) (css := [a.flatMap boolC]) (new := [.cells true 1 ((slF L w h a p q).at_.flatMap intC)]) (Eq.mpr (Esails L 0 w h a p q) (hvSails b hp hq)) (plainDig 0 L _) (plainDig 0 L _) ⟨plainBL _ _, trivial⟩
  ⟨⟨_, _, rfl, plainIL _ _⟩, trivial⟩ rfl rfl (fun _ => rfl) hD (ids := [i]) ⟨⟨_, _, hi⟩, trivial⟩ (by simp [hne]) rfl
end
end Go.Proofs.YtbgfjemppjhmjaaGreat
