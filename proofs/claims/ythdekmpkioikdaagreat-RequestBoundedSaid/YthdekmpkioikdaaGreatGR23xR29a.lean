/- Request: contracts of what makes fleets, requests and policies of numbers. No condition. -/
import Derived.Test.YthdekmpkioikdaaGreatGR18gxR18h
import Derived.Test.YthdekmpkioikdaaGreatGR20xR23g
import Derived.Test.YthdekmpkioikdaaGreatGZ6xR19f
import Derived.Test.YthdekmpkioikdaaGreatGR4xZ1
namespace Go.Proofs.YthdekmpkioikdaaGreat
open Go Go.K
set_option maxRecDepth 100000
set_option linter.unusedVariables false
set_option linter.unusedSimpArgs false
noncomputable section
attribute [local irreducible] vF
theorem plainDig (m : Nat) (L : List Int) (n : Int) : (digC L n).all (belowC m) = true := by
 show ((L.flatMap intC).all (belowD m) && (true && true)) = true
 rw [all_belowD]; rfl
theorem digO (m : Nat) (L : List Int) (n : Int) : belowO m (.cells true 0 (digC L n)) = true := plainDig m L n
theorem digE {L : List Int} {a b : Int} (h : a = b) : (some (KObj.cells true 0 (digC L a)) : Option KObj) = some (KObj.cells true 0 (digC L b)) := by rw [h]
theorem dN_bd (L : List Int) (n : Int) {m : Int} (hm : 1 <= m) : 0 <= dN L n m /\ dN L n m < m := by
 unfold dN
 exact ⟨Int.emod_nonneg _ (by omega), Int.emod_lt_of_pos _ (by omega)⟩
theorem tmod_len {L : List Int} {n : Int} (hn : 0 <= n) (hL : 0 < L.length) : 0 <= Int.tmod n ((L.length : Nat) : Int) /\ Int.tmod n ((L.length : Nat) : Int) < ((L.length : Nat) : Int) := by
 rw [Int.tmod_eq_emod_of_nonneg hn]
 exact ⟨Int.emod_nonneg _ (by omega), Int.emod_lt_of_pos _ (by omega)⟩
theorem kNext (L : List Int) (n m : Int) (hn : 0 <= n /\ n <= 1000000000) (hm : 1 <= m /\ m <= 1000000000) {H : Heap} {D : Nat} (hD : H[D]? = some (.cells true 0 (digC L n))) :
  KCall prog 71 [.pointer (some ⟨D, 0, none⟩), .int .i64 m] H [D] (Is (.int .i64 (dN L n m)) (H.set D (.cells true 0 (digC L (n + 1))))) := by
 have key : KCall prog 71 [.pointer (some ⟨D, 0, none⟩), .int .i64 m] H [D] (Is (.int .i64 (dN L n m)) (H.set D (.cells true 0 (digC L (n + 1))) ++ [])) := by
  refine valW (fun _ => .int .i64 (dN L n m)) (css := []) (new := []) (Eq.mpr (ENext L n m) ?_) (plainDig 0 L n) (plainDig 0 L (n + 1)) trivial trivial rfl rfl (fun _ => rfl) hD (ids := []) trivial (by simp) rfl
  delta RNext jop jo1 jo7 jo1d joo
  have hw : IntKind.wrap .i64 (n + 1) = n + 1 := wI64 (by omega)
  refine forkD (fun k => ?_) (fun k => ?_)
  ·have hL : 0 < L.length := by omega
   have hd : dVal L n = IntKind.wrap .i64 (L.getD (Int.toNat (Int.tmod n ((L.length : Nat) : Int))) 0 + IntKind.wrap .i64 (Int.tdiv n ((L.length : Nat) : Int))) := if_pos hL
   have hb := tmod_len hn.1 hL
   refine ⟨by omega, hb, intAt (by omega) (by omega), by omega, _, rfl, _, rfl, trivial, fun H' _ _ => kPick _ _ (by omega) (by omega) H', rfl, ?_, ⟨⟨by rw [hw], digO _ _ _⟩, trivial⟩, trivial⟩
   unfold dN
   rw [hd]; exact wk_refl _
  ·have hd : dVal L n = 0 := if_neg (by omega)
   refine ⟨trivial, fun H' _ _ => kPick _ _ (by omega) (by omega) H', rfl, ?_, ⟨⟨by rw [hw], digO _ _ _⟩, trivial⟩, trivial⟩
   unfold dN
   rw [hd]; exact wk_refl _
 rw [List.append_nil] at key
 exact key
theorem shW_in (L : List Int) (n : Int) : 1 <= shW L n /\ shW L n <= 5 := by
 have := dN_bd L n (m := 5) (by omega)
 unfold shW; omega
theorem shR_in (L : List Int) (n : Int) : 1 <= shR L n /\ shR L n <= 12 := by
 have := dN_bd L (n + 1) (m := 12) (by omega)
 unfold shR; omega
theorem shQ_0 (L : List Int) (n : Int) : shQ L n 0 = n + 1 + 1 := by simp [shQ]
theorem shQ_s (L : List Int) (n : Int) (i : Nat) : shQ L n (i + 1) = shQ L n i + shW L n := by
 unfold shQ
 rw [show ((i + 1 : Nat) : Int) = (i : Int) + 1 by omega, Int.add_mul, Int.one_mul]; omega
theorem shQ_in (L : List Int) (n : Int) : ∀ i : Nat, n + 2 + (i : Int) <= shQ L n i /\ shQ L n i <= n + 2 + 5 * (i : Int)
 | 0 => by rw [shQ_0]; omega
 | i + 1 => by
  have := shQ_in L n i
  have := shW_in L n
  rw [shQ_s]; omega
theorem rwL_len (L : List Int) (q far : Int) (i : Nat) : ∀ k : Nat, (rwL L q far i k).length = k
 | 0 => rfl
 | k + 1 => by
  show (rwL L q far i k ++ [_]).length = k + 1
  rw [List.length_append, rwL_len L q far i k]; rfl
theorem shT_len (L : List Int) (n : Int) : ∀ i : Nat, (shT L n i).length = i
 | 0 => rfl
 | i + 1 => by
  show (shT L n i ++ [_]).length = i + 1
  rw [List.length_append, shT_len L n i]; rfl
theorem brL_len (L : List Int) (n : Int) : ∀ i : Nat, (brL L n i).length = i
 | 0 => rfl
 | i + 1 => by
  show (brL L n i ++ [_]).length = i + 1
  rw [List.length_append, brL_len L n i]; rfl
theorem inL_sn (T : List (List Int)) (r : List Int) : List.take (T.length * 1) (List.drop 0 (inL T)) ++ List.take (1 * 1) (List.drop 0 [inV r]) = inL (T ++ [r]) := by
 unfold inL
 rw [List.drop_zero, Nat.mul_one, List.take_of_length_le (by rw [List.length_map]; exact Nat.le_refl _), List.map_append]; rfl
set_option maxHeartbeats 4000000 in
theorem kShips (L : List Int) (n m : Int) (hn : 0 <= n /\ n <= 100000000) (hm : 1 <= m /\ m <= 1000) {H : Heap} {N : Nat} (hN : H.length = N) {D : Nat} (hD : H[D]? = some (.cells true 0 (digC L n))) :
  KCall prog 26 [.pointer (some ⟨D, 0, none⟩), nI m] H [D] (Is (fleetV (shF L n m) N (N + 1) 1) (H.set D (.cells true 0 (digC L (shN L n m))) ++ [.cells true 1 (inL (shF L n m).t), .cells true 1 ((shF L n m).b.flatMap intC)])) := by
 subst hN
 refine valW (fun i => fleetV (shF L n m) i (i + 1) 1) (css := []) (new := [.cells true 1 (inL (shF L n m).t), .cells true 1 ((shF L n m).b.flatMap intC)]) (Eq.mpr (Eships L n m) ?_) (plainDig 0 L n) (plainDig 0 L _) trivial ⟨⟨_, _, rfl, inL_b 0 _⟩, ⟨_, _, rfl, plainIL 0 _⟩, trivial⟩ rfl rfl (fun _ => rfl) hD (ids := []) trivial (by simp) rfl
 have w := shW_in L n
 have w2 : 1 + dN L n 5 = shW L n := rfl
 have fr := shR_in L n
 have fr2 : 1 + dN L (n + 1) 12 = shR L n := rfl
 delta Rships jo1 jom jo7 jo1d jod jo1e jo17 jof joj jo1q jo1l jo3 jo1s jox jot job jo1r jo1o jou joe joy jo13 jo1p joh jo12 jo1t jok jos jo1f
 rw [w2, fr2]
 refine ⟨⟨rfl, trivial⟩, fun H' _ hd => kNext L n 5 (by omega) (by omega) hd.1, vI64 (by omega), ⟨rfl, trivial⟩, fun H' _ hd => kNext L (n + 1) 12 (by omega) (by omega) hd.1, vI64 (by omega), rfl, Nat.zero_le _, ?_, fun _ => rfl, ?_⟩
 ·rw [shQ_0]
  repeat' first | exact inL_b _ _ | exact plainIL _ _ | exact plainRQ _ _ | exact digO _ _ _ | exact wk_nil _ _ _ (.inr rfl) | exact trivial | exact rfl | exact wk_refl _ | refine wkO_cells ?_ | refine wks_cons ?_ ?_ | exact wks_nil | exact wk_nil _ _ _ (.inl rfl) | (exact wk_Q (by omega)) | refine wk_tupL ?_ | refine wk_aggL ?_ | refine joinMax ?_ ?_ ?_ | refine joinMin ?_ ?_ ?_ | refine toMax ?_ | refine toMin ?_ | refine ⟨rfl, ?_⟩ | refine ⟨trivial, ?_⟩ | (refine forkD (fun h => ?_) (fun h => ?_)) | (refine forkNe (fun h => ?_) (fun h => ?_)) | (refine forkEq (fun h => ?_) (fun h => ?_)) | refine forkNot ?_ | (refine ⟨vI64 (by omega), ?_⟩) | (refine And.intro (by omega) ?_) | apply And.intro | (exact iEq (by omega)) | (exact vI64 (by omega))
 intro i hi
 have qi := shQ_in L n i
 refine forkD (fun c => ?_) (fun c => ?_)
 ·have hiW : i < Int.toNat (shW L n) := by omega
  refine ⟨rfl, Nat.zero_le _, ?_, fun _ => rfl, ?_⟩
  ·rw [show shQ L n i + ((0 : Nat) : Int) = shQ L n i by omega]
   repeat' first | exact inL_b _ _ | exact plainIL _ _ | exact plainRQ _ _ | exact digO _ _ _ | exact wk_nil _ _ _ (.inr rfl) | exact trivial | exact rfl | exact wk_refl _ | refine wkO_cells ?_ | refine wks_cons ?_ ?_ | exact wks_nil | exact wk_nil _ _ _ (.inl rfl) | (exact wk_Q (by omega)) | refine wk_tupL ?_ | refine wk_aggL ?_ | refine joinMax ?_ ?_ ?_ | refine joinMin ?_ ?_ ?_ | refine toMax ?_ | refine toMin ?_ | refine ⟨rfl, ?_⟩ | refine ⟨trivial, ?_⟩ | (refine forkD (fun h => ?_) (fun h => ?_)) | (refine forkNe (fun h => ?_) (fun h => ?_)) | (refine forkEq (fun h => ?_) (fun h => ?_)) | refine forkNot ?_ | (refine ⟨vI64 (by omega), ?_⟩) | (refine And.intro (by omega) ?_) | apply And.intro | (exact iEq (by omega)) | (exact vI64 (by omega))
  intro k hk
  have hl := rwL_len L (shQ L n i) (shR L n) i k
  refine forkD (fun c2 => ?_) (fun c2 => ?_)
  ·refine ⟨vI64 (by omega), ⟨rfl, trivial⟩, fun H' _ hd => kNext L _ _ (by omega) (by omega) hd.1, forkEq (fun e => ?_) (fun e => ?_)⟩
   ·have hs : rwL L (shQ L n i) (shR L n) i (k + 1) = rwL L (shQ L n i) (shR L n) i k ++ [0] := by
     show _ ++ [if (i : Int) = (k : Int) then (0 : Int) else _] = _
     rw [if_pos e]
    refine ⟨⟨by rw [hl]; omega, by decide, ⟨Nat.le_refl _, flat_le intC_len _⟩, ⟨Nat.le_refl _, Nat.le_refl _⟩, rfl⟩, rfl, vI64 (by omega), k + 1, by omega, by omega, rfl, ?_⟩
    repeat' first | exact inL_b _ _ | exact plainIL _ _ | exact plainRQ _ _ | exact digO _ _ _ | exact wk_nil _ _ _ (.inr rfl) | exact wk_snoc hs | exact ob_snoc intC_len hs rfl | (exact digE (by omega)) | exact trivial | exact rfl | exact wk_refl _ | refine wkO_cells ?_ | refine wks_cons ?_ ?_ | exact wks_nil | exact wk_nil _ _ _ (.inl rfl) | (exact wk_Q (by omega)) | refine wk_tupL ?_ | refine wk_aggL ?_ | refine joinMax ?_ ?_ ?_ | refine joinMin ?_ ?_ ?_ | refine toMax ?_ | refine toMin ?_ | refine ⟨rfl, ?_⟩ | refine ⟨trivial, ?_⟩ | (refine forkD (fun h => ?_) (fun h => ?_)) | (refine forkNe (fun h => ?_) (fun h => ?_)) | (refine forkEq (fun h => ?_) (fun h => ?_)) | refine forkNot ?_ | (refine ⟨vI64 (by omega), ?_⟩) | (refine And.intro (by omega) ?_) | apply And.intro | (exact iEq (by omega)) | (exact vI64 (by omega))
   ·have hs : rwL L (shQ L n i) (shR L n) i (k + 1) = rwL L (shQ L n i) (shR L n) i k ++ [dN L (shQ L n i + (k : Int)) (shR L n + 1)] := by
     show _ ++ [if (i : Int) = (k : Int) then (0 : Int) else _] = _
     rw [if_neg e]
    refine ⟨⟨by rw [hl]; omega, by decide, ⟨Nat.le_refl _, flat_le intC_len _⟩, ⟨Nat.le_refl _, Nat.le_refl _⟩, rfl⟩, rfl, vI64 (by omega), k + 1, by omega, by omega, rfl, ?_⟩
    repeat' first | exact inL_b _ _ | exact plainIL _ _ | exact plainRQ _ _ | exact digO _ _ _ | exact wk_nil _ _ _ (.inr rfl) | exact wk_snoc hs | exact ob_snoc intC_len hs rfl | (exact digE (by omega)) | exact trivial | exact rfl | exact wk_refl _ | refine wkO_cells ?_ | refine wks_cons ?_ ?_ | exact wks_nil | exact wk_nil _ _ _ (.inl rfl) | (exact wk_Q (by omega)) | refine wk_tupL ?_ | refine wk_aggL ?_ | refine joinMax ?_ ?_ ?_ | refine joinMin ?_ ?_ ?_ | refine toMax ?_ | refine toMin ?_ | refine ⟨rfl, ?_⟩ | refine ⟨trivial, ?_⟩ | (refine forkD (fun h => ?_) (fun h => ?_)) | (refine forkNe (fun h => ?_) (fun h => ?_)) | (refine forkEq (fun h => ?_) (fun h => ?_)) | refine forkNot ?_ | (refine ⟨vI64 (by omega), ?_⟩) | (refine And.intro (by omega) ?_) | apply And.intro | (exact iEq (by omega)) | (exact vI64 (by omega))
  ·obtain rfl : k = Int.toNat (shW L n) := by omega
   have hT := shT_len L n i
   have qs := shQ_s L n i
   have hs : shT L n (i + 1) = shT L n i ++ [rwL L (shQ L n i) (shR L n) i (Int.toNat (shW L n))] := rfl
   have hb := inL_sn (shT L n i) (rwL L (shQ L n i) (shR L n) i (Int.toNat (shW L n)))
   rw [<- hs] at hb
   refine ⟨⟨by rw [hT]; omega, by decide, ⟨Nat.le_refl _, by rw [inL_len]; omega⟩, ⟨Nat.le_refl _, Nat.le_refl _⟩, rfl⟩, rfl, vI64 (by omega), i + 1, by omega, by omega, rfl, ?_⟩
   repeat' first | exact inL_b _ _ | exact plainIL _ _ | exact plainRQ _ _ | exact digO _ _ _ | exact wk_nil _ _ _ (.inr rfl) | exact wk_snoc hs | (exact congrArg (fun l => some (KObj.cells true 1 l)) hb) | (exact digE (by omega)) | exact trivial | exact rfl | exact wk_refl _ | refine wkO_cells ?_ | refine wks_cons ?_ ?_ | exact wks_nil | exact wk_nil _ _ _ (.inl rfl) | (exact wk_Q (by omega)) | refine wk_tupL ?_ | refine wk_aggL ?_ | refine joinMax ?_ ?_ ?_ | refine joinMin ?_ ?_ ?_ | refine toMax ?_ | refine toMin ?_ | refine ⟨rfl, ?_⟩ | refine ⟨trivial, ?_⟩ | (refine forkD (fun h => ?_) (fun h => ?_)) | (refine forkNe (fun h => ?_) (fun h => ?_)) | (refine forkEq (fun h => ?_) (fun h => ?_)) | refine forkNot ?_ | (refine ⟨vI64 (by omega), ?_⟩) | (refine And.intro (by omega) ?_) | apply And.intro | (exact iEq (by omega)) | (exact vI64 (by omega))
 obtain rfl : i = Int.toNat (shW L n) := by omega
 have eE : shE L n = shQ L n (Int.toNat (shW L n)) := rfl
 refine ⟨rfl, ⟨Nat.zero_le _, rfl⟩, ?_, fun _ => rfl, ?_⟩
 ·rw [show shE L n + 2 * ((0 : Nat) : Int) = shQ L n (Int.toNat (shW L n)) by omega]
  repeat' first | exact inL_b _ _ | exact plainIL _ _ | exact plainRQ _ _ | exact digO _ _ _ | exact wk_nil _ _ _ (.inr rfl) | exact trivial | exact rfl | exact wk_refl _ | refine wkO_cells ?_ | refine wks_cons ?_ ?_ | exact wks_nil | exact wk_nil _ _ _ (.inl rfl) | (exact wk_Q (by omega)) | refine wk_tupL ?_ | refine wk_aggL ?_ | refine joinMax ?_ ?_ ?_ | refine joinMin ?_ ?_ ?_ | refine toMax ?_ | refine toMin ?_ | refine ⟨rfl, ?_⟩ | refine ⟨trivial, ?_⟩ | (refine forkD (fun h => ?_) (fun h => ?_)) | (refine forkNe (fun h => ?_) (fun h => ?_)) | (refine forkEq (fun h => ?_) (fun h => ?_)) | refine forkNot ?_ | (refine ⟨vI64 (by omega), ?_⟩) | (refine And.intro (by omega) ?_) | apply And.intro | (exact iEq (by omega)) | (exact vI64 (by omega))
 rintro x ⟨hx, hf⟩
 try dsimp only
 have hd0 := dN_bd L (shE L n + 2 * (x : Int)) (m := m) (by omega)
 have hbl := brL_len L n x
 refine ⟨⟨rfl, trivial⟩, fun H' _ hd => kNext L _ _ (by omega) (by omega) hd.1, forkD (fun c2 => ?_) (fun c2 => ?_)⟩
 ·have hs : brL L n (x + 1) = brL L n x ++ [dN L (shE L n + 2 * (x : Int) + 1) (shW L n)] := rfl
  refine ⟨⟨rfl, trivial⟩, fun H' _ hd => kNext L _ _ (by omega) (by omega) hd.1, ⟨by rw [hbl]; omega, by decide, ⟨Nat.le_refl _, flat_le intC_len _⟩, ⟨Nat.le_refl _, Nat.le_refl _⟩, rfl⟩, rfl, vI64 (by omega), x + 1, ⟨by omega, firstN_succ hf (decide_eq_false (by omega))⟩, by omega, rfl, ?_⟩
  repeat' first | exact inL_b _ _ | exact plainIL _ _ | exact plainRQ _ _ | exact digO _ _ _ | exact wk_nil _ _ _ (.inr rfl) | exact wk_snoc hs | exact ob_snoc intC_len hs rfl | (exact digE (by omega)) | exact trivial | exact rfl | exact wk_refl _ | refine wkO_cells ?_ | refine wks_cons ?_ ?_ | exact wks_nil | exact wk_nil _ _ _ (.inl rfl) | (exact wk_Q (by omega)) | refine wk_tupL ?_ | refine wk_aggL ?_ | refine joinMax ?_ ?_ ?_ | refine joinMin ?_ ?_ ?_ | refine toMax ?_ | refine toMin ?_ | refine ⟨rfl, ?_⟩ | refine ⟨trivial, ?_⟩ | (refine forkD (fun h => ?_) (fun h => ?_)) | (refine forkNe (fun h => ?_) (fun h => ?_)) | (refine forkEq (fun h => ?_) (fun h => ?_)) | refine forkNot ?_ | (refine ⟨vI64 (by omega), ?_⟩) | (refine And.intro (by omega) ?_) | apply And.intro | (exact iEq (by omega)) | (exact vI64 (by omega))
 ·have hX : shX L n m = x := firstN_at hf (decide_eq_true (by omega)) (by omega)
  have e1 : (shF L n m).t = shT L n (Int.toNat (shW L n)) := rfl
  have e2 : (shF L n m).b = brL L n x := by show brL L n (shX L n m) = _; rw [hX]
  have e3 : shN L n m = shE L n + 2 * (x : Int) + 1 := by unfold shN; rw [hX]
  rw [e1, e2, e3]
  repeat' first | exact inL_b _ _ | exact plainIL _ _ | exact plainRQ _ _ | exact digO _ _ _ | exact wk_nil _ _ _ (.inr rfl) | exact trivial | exact rfl | exact wk_refl _ | refine wkO_cells ?_ | refine wks_cons ?_ ?_ | exact wks_nil | exact wk_nil _ _ _ (.inl rfl) | (exact wk_Q (by omega)) | refine wk_tupL ?_ | refine wk_aggL ?_ | refine joinMax ?_ ?_ ?_ | refine joinMin ?_ ?_ ?_ | refine toMax ?_ | refine toMin ?_ | refine ⟨rfl, ?_⟩ | refine ⟨trivial, ?_⟩ | (refine forkD (fun h => ?_) (fun h => ?_)) | (refine forkNe (fun h => ?_) (fun h => ?_)) | (refine forkEq (fun h => ?_) (fun h => ?_)) | refine forkNot ?_ | (refine ⟨vI64 (by omega), ?_⟩) | (refine And.intro (by omega) ?_) | apply And.intro | (exact iEq (by omega)) | (exact vI64 (by omega))
theorem kRule (L : List Int) (n : Int) (hn : 0 <= n /\ n <= 100000000) {H : Heap} {D : Nat} (hD : H[D]? = some (.cells true 0 (digC L n))) :
  KCall prog 28 [.pointer (some ⟨D, 0, none⟩)] H [D] (Is (.agg ⟨polC (rlP L n)⟩) (H.set D (.cells true 0 (digC L (n + 1 + 1 + 1 + 1 + 1))))) := by
 have key : KCall prog 28 [.pointer (some ⟨D, 0, none⟩)] H [D] (Is (.agg ⟨polC (rlP L n)⟩) (H.set D (.cells true 0 (digC L (n + 1 + 1 + 1 + 1 + 1))) ++ [])) := by
  refine valW (fun _ => .agg ⟨polC (rlP L n)⟩) (css := []) (new := []) (Eq.mpr (Erule L n) ?_) (plainDig 0 L n) (plainDig 0 L _) trivial trivial rfl rfl (fun _ => rfl) hD (ids := []) trivial (by simp) rfl
  delta Rrule jo1 jom jo7 jo1d jod jo1e joq jon jo1b jo1k
  repeat' first | exact trivial | exact rfl | exact digO _ _ _ | exact wk_refl _ | (refine ⟨⟨rfl, trivial⟩, fun H' _ hd => kNext L _ _ (by omega) (by omega) hd.1, ?_⟩) | refine ⟨rfl, ?_⟩ | apply And.intro
 rw [List.append_nil] at key
 exact key
end
end Go.Proofs.YthdekmpkioikdaaGreat
/- Request: the contract of what makes requests of numbers; what is made is right. No condition. -/
namespace Go.Proofs.YthdekmpkioikdaaGreat
open Go Go.K
set_option maxRecDepth 100000
set_option linter.unusedVariables false
set_option linter.unusedSimpArgs false
noncomputable section
attribute [local irreducible] vF
def asR1 (L : List Int) (a w : Int) (x : Nat) (s : AsS) : Rq := ⟨Int.tmod (7 * (x : Int)) 31, s.h + dN L s.n a, dN L (s.n + 1 + 1 + 1) w, dN L (s.n + 1 + 1 + 1 + 1) w, 1 + dN L (s.n + 1 + 1 + 1 + 1 + 1) 15, 1 + dN L (s.n + 1 + 1 + 1 + 1 + 1 + 1) 3, 1 + dN L (s.n + 1 + 1) 60⟩
def asR0 (L : List Int) (a w : Int) (x : Nat) (s : AsS) : Rq := ⟨Int.tmod (7 * (x : Int)) 31, s.h + dN L s.n a, dN L (s.n + 1 + 1) w, dN L (s.n + 1 + 1 + 1) w, 1 + dN L (s.n + 1 + 1 + 1 + 1) 15, 1 + dN L (s.n + 1 + 1 + 1 + 1 + 1) 3, 0⟩
theorem asV_1 {L : List Int} {a w : Int} {x : Nat} {s : AsS} (e : dN L (s.n + 1) 3 = 0) : asV L a w x s = ⟨s.l ++ [asR1 L a w x s], s.n + 1 + 1 + 1 + 1 + 1 + 1 + 1, s.h + dN L s.n a⟩ := if_pos e
theorem asV_0 {L : List Int} {a w : Int} {x : Nat} {s : AsS} (e : dN L (s.n + 1) 3 ≠ 0) : asV L a w x s = ⟨s.l ++ [asR0 L a w x s], s.n + 1 + 1 + 1 + 1 + 1 + 1, s.h + dN L s.n a⟩ := if_neg e
theorem asS_in (L : List Int) (n w : Int) : ∀ x : Nat, (asS L n w x).l.length = x /\ n + 2 <= (asS L n w x).n /\ (asS L n w x).n <= n + 2 + 7 * (x : Int) /\ 0 <= (asS L n w x).h /\ (asS L n w x).h <= 14 * (x : Int)
 | 0 => by
  show ([] : List Rq).length = 0 /\ n + 2 <= n + 1 + 1 /\ n + 1 + 1 <= _ /\ (0 : Int) <= 0 /\ (0 : Int) <= _
  exact ⟨rfl, by omega, by omega, by omega, by omega⟩
 | x + 1 => by
  obtain ⟨h1, h2, h3, h4, h5⟩ := asS_in L n w x
  have ha := dN_bd L (n + 1) (m := 15) (by omega)
  have ha2 : asA L n = 1 + dN L (n + 1) 15 := rfl
  have hb := dN_bd L (asS L n w x).n (m := asA L n) (by omega)
  have e : asS L n w (x + 1) = asV L (asA L n) w x (asS L n w x) := rfl
  by_cases c : dN L ((asS L n w x).n + 1) 3 = 0
  ·rw [e, asV_1 c]
   refine ⟨by rw [List.length_append, h1]; rfl, ?_, ?_, ?_, ?_⟩
   ·show _ <= (asS L n w x).n + 1 + 1 + 1 + 1 + 1 + 1 + 1; omega
   ·show (asS L n w x).n + 1 + 1 + 1 + 1 + 1 + 1 + 1 <= _; omega
   ·show 0 <= (asS L n w x).h + dN L (asS L n w x).n (asA L n); omega
   ·show (asS L n w x).h + dN L (asS L n w x).n (asA L n) <= _; omega
  ·rw [e, asV_0 c]
   refine ⟨by rw [List.length_append, h1]; rfl, ?_, ?_, ?_, ?_⟩
   ·show _ <= (asS L n w x).n + 1 + 1 + 1 + 1 + 1 + 1; omega
   ·show (asS L n w x).n + 1 + 1 + 1 + 1 + 1 + 1 <= _; omega
   ·show 0 <= (asS L n w x).h + dN L (asS L n w x).n (asA L n); omega
   ·show (asS L n w x).h + dN L (asS L n w x).n (asA L n) <= _; omega
set_option maxHeartbeats 4000000 in
theorem kAsks (L : List Int) (n : Int) (f : Fleet) (m : Int) (hn : 0 <= n /\ n <= 100000000) (hm : 0 <= m /\ m <= 1000) (hT : 1 <= f.t.length /\ f.t.length <= 1000) {H : Heap} {N : Nat} (hN : H.length = N) {D : Nat} (hD : H[D]? = some (.cells true 0 (digC L n))) {i j : Nat} {o1 o2 : Bool} {z1 z2 : Nat} (e1 : H[i]? = some (.cells o1 z1 (inL f.t))) (e2 : H[j]? = some (.cells o2 z2 (f.b.flatMap intC))) (hi : D ≠ i) (hj : D ≠ j) :
  KCall prog 27 [.pointer (some ⟨D, 0, none⟩), fleetV f i j, nI m] H [D] (Is (slQ N 1 (asL L n m (f.t.length : Nat)).length) (H.set D (.cells true 0 (digC L (asN L n m (f.t.length : Nat)))) ++ [.cells true 7 ((asL L n m (f.t.length : Nat)).flatMap rqC)])) := by
 subst hN
 refine valW (fun i => slQ i 1 (asL L n m (f.t.length : Nat)).length) (css := [inL f.t, f.b.flatMap intC]) (new := [.cells true 7 ((asL L n m (f.t.length : Nat)).flatMap rqC)]) (Eq.mpr (Easks L n f m) ?_) (plainDig 0 L n) (plainDig 0 L _) ⟨inL_b 0 _, plainIL 0 _, trivial⟩ ⟨⟨_, _, rfl, plainRQ 0 _⟩, trivial⟩ rfl rfl (fun _ => rfl) hD (ids := [i, j]) ⟨⟨_, _, e1⟩, ⟨_, _, e2⟩, trivial⟩ (by simp [hi, hj]) rfl
 have a2 : 1 + dN L (n + 1) 15 = asA L n := rfl
 have ab := dN_bd L (n + 1) (m := 15) (by omega)
 have kb := dN_bd L n (m := m + 1) (by omega)
 have kK : ((asK L n m : Nat) : Int) = dN L n (m + 1) := by unfold asK; omega
 delta Rasks jo1 jom jo7 jo1d jo1g jod jo1e jo17 jo4 jo6 jow jo1l jo0 jo18 jo1j joz jo1h jog joc jo9 jol jo8 jo11 joa jov jo16 jo10 jo2 jo1p joi jor jo19 jo1c jo14 jo5
 rw [a2]
 refine ⟨vI64 (by omega), ⟨rfl, trivial⟩, fun H' _ hd => kNext L _ _ (by omega) (by omega) hd.1, ⟨rfl, trivial⟩, fun H' _ hd => kNext L _ _ (by omega) (by omega) hd.1, vI64 (by omega), rfl, Nat.zero_le _, ?_, fun _ => rfl, ?_⟩
 ·repeat' first | exact inL_b _ _ | exact plainIL _ _ | exact plainRQ _ _ | exact digO _ _ _ | exact wk_nil _ _ _ (.inr rfl) | exact trivial | exact rfl | exact wk_refl _ | refine wkO_cells ?_ | refine wks_cons ?_ ?_ | exact wks_nil | exact wk_nil _ _ _ (.inl rfl) | (exact wk_Q (by omega)) | refine wk_tupL ?_ | refine wk_aggL ?_ | refine joinMax ?_ ?_ ?_ | refine joinMin ?_ ?_ ?_ | refine toMax ?_ | refine toMin ?_ | refine ⟨rfl, ?_⟩ | refine ⟨trivial, ?_⟩ | (refine forkD (fun h => ?_) (fun h => ?_)) | (refine forkNe (fun h => ?_) (fun h => ?_)) | (refine forkEq (fun h => ?_) (fun h => ?_)) | refine forkNot ?_ | (refine ⟨vI64 (by omega), ?_⟩) | (refine And.intro (by omega) ?_) | apply And.intro | (exact iEq (by omega)) | (exact vI64 (by omega))
 intro x hx
 obtain ⟨s1, s2, s3, s4, s5⟩ := asS_in L n ((f.t.length : Nat) : Int) x
 have e : asS L n ((f.t.length : Nat) : Int) (x + 1) = asV L (asA L n) ((f.t.length : Nat) : Int) x (asS L n ((f.t.length : Nat) : Int) x) := rfl
 generalize hS : asS L n ((f.t.length : Nat) : Int) x = S at *
 have hb := dN_bd L S.n (m := asA L n) (by omega)
 have h60 := dN_bd L (S.n + 1 + 1) (m := 60) (by omega)
 have hA := dN_bd L (S.n + 1 + 1 + 1 + 1 + 1) (m := 15) (by omega)
 have hB := dN_bd L (S.n + 1 + 1 + 1 + 1 + 1 + 1) (m := 3) (by omega)
 have hC := dN_bd L (S.n + 1 + 1 + 1 + 1) (m := 15) (by omega)
 have hE := dN_bd L (S.n + 1 + 1 + 1 + 1 + 1) (m := 3) (by omega)
 refine forkD (fun c => ?_) (fun c => ?_)
 ·refine ⟨⟨rfl, trivial⟩, fun H' _ hd => kNext L _ _ (by omega) (by omega) hd.1, vI64 (by omega), ⟨rfl, trivial⟩, fun H' _ hd => kNext L _ _ (by omega) (by omega) hd.1, forkEq (fun c0 => ?_) (fun c0 => ?_)⟩
  ·rw [asV_1 c0] at e
   have hs : (asS L n ((f.t.length : Nat) : Int) (x + 1)).l = S.l ++ [asR1 L (asA L n) ((f.t.length : Nat) : Int) x S] := by rw [e]
   have hq : (asS L n ((f.t.length : Nat) : Int) (x + 1)).n = S.n + 1 + 1 + 1 + 1 + 1 + 1 + 1 := by rw [e]
   have hh : (asS L n ((f.t.length : Nat) : Int) (x + 1)).h = S.h + dN L S.n (asA L n) := by rw [e]
   refine ⟨⟨rfl, trivial⟩, fun H' _ hd => kNext L _ _ (by omega) (by omega) hd.1, vI64 (by omega), vI64 (by omega), ⟨rfl, trivial⟩, fun H' _ hd => kNext L _ _ (by omega) (by omega) hd.1, ⟨rfl, trivial⟩, fun H' _ hd => kNext L _ _ (by omega) (by omega) hd.1, ⟨rfl, trivial⟩, fun H' _ hd => kNext L _ _ (by omega) (by omega) hd.1, vI64 (by omega), ⟨rfl, trivial⟩, fun H' _ hd => kNext L _ _ (by omega) (by omega) hd.1, vI64 (by omega), ⟨by rw [s1]; omega, by decide, ⟨Nat.le_refl _, flat_le rqC_len _⟩, ⟨Nat.le_refl _, Nat.le_refl _⟩, rfl⟩, rfl, vI64 (by omega), x + 1, by omega, by omega, rfl, ?_⟩
   rw [hh, hq]
   repeat' first | exact inL_b _ _ | exact plainIL _ _ | exact plainRQ _ _ | exact digO _ _ _ | exact wk_nil _ _ _ (.inr rfl) | exact wk_snoc hs | exact ob_snoc rqC_len hs rfl | exact trivial | exact rfl | exact wk_refl _ | refine wkO_cells ?_ | refine wks_cons ?_ ?_ | exact wks_nil | exact wk_nil _ _ _ (.inl rfl) | (exact wk_Q (by omega)) | refine wk_tupL ?_ | refine wk_aggL ?_ | refine joinMax ?_ ?_ ?_ | refine joinMin ?_ ?_ ?_ | refine toMax ?_ | refine toMin ?_ | refine ⟨rfl, ?_⟩ | refine ⟨trivial, ?_⟩ | (refine forkD (fun h => ?_) (fun h => ?_)) | (refine forkNe (fun h => ?_) (fun h => ?_)) | (refine forkEq (fun h => ?_) (fun h => ?_)) | refine forkNot ?_ | (refine ⟨vI64 (by omega), ?_⟩) | (refine And.intro (by omega) ?_) | apply And.intro | (exact iEq (by omega)) | (exact vI64 (by omega))
  ·rw [asV_0 c0] at e
   have hs : (asS L n ((f.t.length : Nat) : Int) (x + 1)).l = S.l ++ [asR0 L (asA L n) ((f.t.length : Nat) : Int) x S] := by rw [e]
   have hq : (asS L n ((f.t.length : Nat) : Int) (x + 1)).n = S.n + 1 + 1 + 1 + 1 + 1 + 1 := by rw [e]
   have hh : (asS L n ((f.t.length : Nat) : Int) (x + 1)).h = S.h + dN L S.n (asA L n) := by rw [e]
   refine ⟨vI64 (by omega), ⟨rfl, trivial⟩, fun H' _ hd => kNext L _ _ (by omega) (by omega) hd.1, ⟨rfl, trivial⟩, fun H' _ hd => kNext L _ _ (by omega) (by omega) hd.1, ⟨rfl, trivial⟩, fun H' _ hd => kNext L _ _ (by omega) (by omega) hd.1, vI64 (by omega), ⟨rfl, trivial⟩, fun H' _ hd => kNext L _ _ (by omega) (by omega) hd.1, vI64 (by omega), ⟨by rw [s1]; omega, by decide, ⟨Nat.le_refl _, flat_le rqC_len _⟩, ⟨Nat.le_refl _, Nat.le_refl _⟩, rfl⟩, rfl, vI64 (by omega), x + 1, by omega, by omega, rfl, ?_⟩
   rw [hh, hq]
   repeat' first | exact inL_b _ _ | exact plainIL _ _ | exact plainRQ _ _ | exact digO _ _ _ | exact wk_nil _ _ _ (.inr rfl) | exact wk_snoc hs | exact ob_snoc rqC_len hs rfl | exact trivial | exact rfl | exact wk_refl _ | refine wkO_cells ?_ | refine wks_cons ?_ ?_ | exact wks_nil | exact wk_nil _ _ _ (.inl rfl) | (exact wk_Q (by omega)) | refine wk_tupL ?_ | refine wk_aggL ?_ | refine joinMax ?_ ?_ ?_ | refine joinMin ?_ ?_ ?_ | refine toMax ?_ | refine toMin ?_ | refine ⟨rfl, ?_⟩ | refine ⟨trivial, ?_⟩ | (refine forkD (fun h => ?_) (fun h => ?_)) | (refine forkNe (fun h => ?_) (fun h => ?_)) | (refine forkEq (fun h => ?_) (fun h => ?_)) | refine forkNot ?_ | (refine ⟨vI64 (by omega), ?_⟩) | (refine And.intro (by omega) ?_) | apply And.intro | (exact iEq (by omega)) | (exact vI64 (by omega))
 ·obtain rfl : x = asK L n m := by omega
  have e1 : asL L n m ((f.t.length : Nat) : Int) = S.l := by unfold asL; rw [hS]
  have e2 : asN L n m ((f.t.length : Nat) : Int) = S.n := by unfold asN; rw [hS]
  rw [e1, e2]
  repeat' first | exact inL_b _ _ | exact plainIL _ _ | exact plainRQ _ _ | exact digO _ _ _ | exact wk_nil _ _ _ (.inr rfl) | exact trivial | exact rfl | exact wk_refl _ | refine wkO_cells ?_ | refine wks_cons ?_ ?_ | exact wks_nil | exact wk_nil _ _ _ (.inl rfl) | (exact wk_Q (by omega)) | refine wk_tupL ?_ | refine wk_aggL ?_ | refine joinMax ?_ ?_ ?_ | refine joinMin ?_ ?_ ?_ | refine toMax ?_ | refine toMin ?_ | refine ⟨rfl, ?_⟩ | refine ⟨trivial, ?_⟩ | (refine forkD (fun h => ?_) (fun h => ?_)) | (refine forkNe (fun h => ?_) (fun h => ?_)) | (refine forkEq (fun h => ?_) (fun h => ?_)) | refine forkNot ?_ | (refine ⟨vI64 (by omega), ?_⟩) | (refine And.intro (by omega) ?_) | apply And.intro | (exact iEq (by omega)) | (exact vI64 (by omega))
end
end Go.Proofs.YthdekmpkioikdaaGreat
/- Request: what is made of numbers is right. Plain laws. No condition. -/
namespace Go.Proofs.YthdekmpkioikdaaGreat
set_option linter.unusedSimpArgs false
open Go Go.K
set_option linter.unusedVariables false
noncomputable section
theorem getD_app {α : Type} {l : List α} {r d : α} {i : Nat} : (l ++ [r]).getD i d = if i < l.length then l.getD i d else if i = l.length then r else d := by
 rw [List.getD_eq_getElem?_getD]
 by_cases h : i < l.length
 ·rw [if_pos h, List.getElem?_append_left h, <- List.getD_eq_getElem?_getD]
 ·rw [if_neg h, List.getElem?_append_right (by omega)]
  by_cases e : i = l.length
  ·rw [if_pos e, e, Nat.sub_self]; rfl
  ·rw [if_neg e, List.getElem?_eq_none (by show 1 <= _; omega)]; rfl
theorem rwL_at (L : List Int) (q far : Int) (i : Nat) : ∀ (k j : Nat), j < k -> (rwL L q far i k).getD j 0 = if (i : Int) = (j : Int) then 0 else dN L (q + (j : Int)) (far + 1)
 | 0, j, h => absurd h (Nat.not_lt_zero _)
 | k + 1, j, h => by
  show (rwL L q far i k ++ [_]).getD j 0 = _
  rw [getD_app, rwL_len]
  by_cases c : j < k
  ·rw [if_pos c, rwL_at L q far i k j c]
  ·rw [if_neg c, if_pos (show j = k by omega), show j = k by omega]
theorem shT_at (L : List Int) (n : Int) : ∀ (i j : Nat), j < i -> (shT L n i).getD j [] = rwL L (shQ L n j) (shR L n) j (Int.toNat (shW L n))
 | 0, j, h => absurd h (Nat.not_lt_zero _)
 | i + 1, j, h => by
  show (shT L n i ++ [_]).getD j [] = _
  rw [getD_app, shT_len]
  by_cases c : j < i
  ·rw [if_pos c, shT_at L n i j c]
  ·rw [if_neg c, if_pos (show j = i by omega), show j = i by omega]
theorem brL_at (L : List Int) (n : Int) : ∀ (i j : Nat), j < i -> (brL L n i).getD j 0 = dN L (shE L n + 2 * (j : Int) + 1) (shW L n)
 | 0, j, h => absurd h (Nat.not_lt_zero _)
 | i + 1, j, h => by
  show (brL L n i ++ [_]).getD j 0 = _
  rw [getD_app, brL_len]
  by_cases c : j < i
  ·rw [if_pos c, brL_at L n i j c]
  ·rw [if_neg c, if_pos (show j = i by omega), show j = i by omega]
theorem firstN_pos {c : Nat -> Bool} (h : c 0 = false) : ∀ {n : Nat}, 0 < n -> 1 <= firstN c n
 | 0, hn => absurd hn (Nat.not_lt_zero _)
 | n + 1, _ => by
  unfold firstN
  rcases Nat.eq_zero_or_pos n with e | e
  ·subst e
   rw [if_neg (Nat.not_lt_zero _), h, if_neg (by decide)]; omega
  ·have := firstN_pos h e
   split
   ·exact this
   ·split <;> omega
theorem shX_in (L : List Int) (n : Int) {m : Int} (hm : 1 <= m) : 1 <= shX L n m /\ (shX L n m : Int) <= m := by
 have h0 := dN_bd L (shE L n + 2 * ((0 : Nat) : Int)) hm
 refine ⟨firstN_pos (decide_eq_false (by omega)) (by omega), ?_⟩
 have hl := firstN_le (shC L n m) (Int.toNat m + 1)
 have hX : shX L n m = firstN (shC L n m) (Int.toNat m + 1) := rfl
 by_cases c : shX L n m = Int.toNat m + 1
 ·-- at m itself the property holds
  exfalso
  have hk : ∀ k, k <= Int.toNat m -> firstN (shC L n m) (k + 1) = k + 1 -> shC L n m k = false := fun k _ hk => by
   cases e : shC L n m k with
   | false => rfl
   | true =>
    have e2 : firstN (shC L n m) k <= k := firstN_le _ k
    unfold firstN at hk
    by_cases q : firstN (shC L n m) k < k
    ·rw [if_pos q] at hk; omega
    ·rw [if_neg q, if_pos e] at hk; omega
  have h1 := hk (Int.toNat m) (Nat.le_refl _) (by omega)
  have hd := dN_bd L (shE L n + 2 * ((Int.toNat m : Nat) : Int)) hm
  have h1 : decide (dN L (shE L n + 2 * ((Int.toNat m : Nat) : Int)) m < ((Int.toNat m : Nat) : Int)) = false := h1
  have := of_decide_eq_false h1
  omega
 ·omega
theorem shF_ok (L : List Int) (n : Int) : FlOk (shF L n 3) := by
 have w := shW_in L n
 have fr := shR_in L n
 have x := shX_in L n (m := 3) (by omega)
 have lt : (shF L n 3).t.length = Int.toNat (shW L n) := shT_len L n _
 have lb : (shF L n 3).b.length = shX L n 3 := brL_len L n _
 refine ⟨by omega, by omega, by omega, by omega, fun k hk => ?_, fun k j hk => ?_, fun k hk => ?_⟩
 ·rw [lt] at hk ⊢
  rw [show (shF L n 3).t.getD k [] = _ from shT_at L n _ k hk, rwL_len]
 ·rw [lt] at hk
  rw [show (shF L n 3).t.getD k [] = _ from shT_at L n _ k hk]
  by_cases c : j < Int.toNat (shW L n)
  ·rw [rwL_at _ _ _ _ _ _ c]
   split
   ·omega
   ·have := dN_bd L (shQ L n k + (j : Int)) (m := shR L n + 1) (by omega); omega
  ·rw [List.getD_eq_getElem?_getD, List.getElem?_eq_none (by rw [rwL_len]; omega)]
   show 0 <= (0 : Int) /\ (0 : Int) <= 100
   omega
 ·rw [lb] at hk
  rw [lt, show (shF L n 3).b.getD k 0 = _ from brL_at L n _ k hk]
  have := dN_bd L (shE L n + 2 * (k : Int) + 1) (m := shW L n) (by omega)
  omega
theorem errUp_no {e : Nat -> Int} : ∀ {n : Nat}, (∀ k, k < n -> e k = 0) -> errUp e n = 0
 | 0, _ => rfl
 | n + 1, h => errUp_succ (errUp_no fun k hk => h k (by omega)) (h n (by omega))
theorem any_none {α : Type} {l : List α} {d : α} {p : α -> Bool} (h : ∀ k, k < l.length -> p (l.getD k d) = false) : l.any p = false := by
 rw [List.any_eq_false]
 intro x hx
 obtain ⟨k, hk⟩ := List.mem_iff_getElem?.1 hx
 have hl := (List.getElem?_eq_some_iff.1 hk).1
 have := h k hl
 rw [List.getD_eq_getElem?_getD, hk] at this
 exact fun c => by rw [show (some x).getD d = x from rfl] at this; rw [this] at c; cases c
theorem errFl_ok {f : Fleet} (o : FlOk f) (hd : ∀ k, k < f.t.length -> (f.t.getD k []).getD k 0 = 0) : errFl f = 0 := by
 have n1 := o.n1
 have n2 := o.n2
 have b1 := o.b1
 have b2 := o.b2
 unfold errFl
 rw [if_neg (by rw [inB_1 (show (1 : Int) <= (f.t.length : Int) by omega) (by omega), inB_1 (show (1 : Int) <= (f.b.length : Int) by omega) (by omega)]; decide)]
 rw [errUp_no fun k hk => by
  unfold errRow badRow
  rw [decide_eq_false (show ¬ (f.t.getD k []).length ≠ f.t.length from fun c => c (o.row k hk)), decide_eq_false (show ¬ (f.t.getD k []).getD k 0 ≠ 0 from fun c => c (hd k hk)), any_none (d := 0) fun j _ => by
   have := o.el k j hk
   unfold badT
   rw [inB_1 this.1 this.2]; rfl]
  rfl, first2_2 rfl, any_none (d := 0) fun j hj => by
   have := o.br j hj
   unfold badA
   rw [inB_1 this.1 this.2]; rfl]
 rfl
theorem shF_diag (L : List Int) (n : Int) : ∀ k, k < (shF L n 3).t.length -> ((shF L n 3).t.getD k []).getD k 0 = 0 := fun k hk => by
 rw [show (shF L n 3).t.length = Int.toNat (shW L n) from shT_len L n _] at hk
 rw [show (shF L n 3).t.getD k [] = _ from shT_at L n _ k hk, rwL_at _ _ _ _ _ _ hk, if_pos rfl]
theorem errPol_ok (L : List Int) (n : Int) : errPol (rlP L n) = 0 := by
 have h1 := dN_bd L n (m := 6) (by omega)
 have h2 := dN_bd L (n + 1) (m := 40) (by omega)
 have h3 := dN_bd L (n + 1 + 1) (m := 4) (by omega)
 have h4 := dN_bd L (n + 1 + 1 + 1) (m := 10) (by omega)
 have h5 := dN_bd L (n + 1 + 1 + 1 + 1) (m := 100) (by omega)
 unfold errPol
 rw [inB_1 (show 0 <= (rlP L n).ov from h1.1) (show (rlP L n).ov <= 30 by have : (rlP L n).ov = dN L n 6 := rfl; omega), inB_1 (show 0 <= (rlP L n).warn from h2.1) (show (rlP L n).warn <= 10000 by have : (rlP L n).warn = dN L (n + 1) 40 := rfl; omega)]
 rw [if_neg]
 intro c
 have : ([(rlP L n).w0, (rlP L n).w1, (rlP L n).w2].any badW) = false := by
  show (badW (dN L (n + 1 + 1) 4) || (badW (dN L (n + 1 + 1 + 1) 10) || (badW (dN L (n + 1 + 1 + 1 + 1) 100) || false))) = false
  unfold badW
  rw [inB_1 h3.1 (by omega), inB_1 h4.1 (by omega), inB_1 h5.1 (by omega)]; rfl
 rw [this] at c
 cases c
structure MadeR (w : Int) (i : Nat) (r : Rq) : Prop where
 id : r.id = Int.tmod (7 * (i : Int)) 31
 at_ : 0 <= r.at_ /\ r.at_ <= 14 * ((i : Int) + 1)
 place : 0 <= r.place /\ r.place < w
 dest : 0 <= r.dest /\ r.dest < w
 len : 1 <= r.len /\ r.len <= 15
 prio : 1 <= r.prio /\ r.prio <= 3
 limit : 0 <= r.limit /\ r.limit <= 60
theorem asS_made (L : List Int) (n w : Int) (hw : 1 <= w) : ∀ x : Nat, (∀ i, i < x -> MadeR w i ((asS L n w x).l.getD i zeroQ)) /\ (∀ i, i < x -> ((asS L n w x).l.getD i zeroQ).at_ <= (asS L n w x).h) /\ ∀ i j, i <= j -> j < x -> ((asS L n w x).l.getD i zeroQ).at_ <= ((asS L n w x).l.getD j zeroQ).at_
 | 0 => ⟨fun i h => absurd h (Nat.not_lt_zero _), fun i h => absurd h (Nat.not_lt_zero _), fun i j _ h => absurd h (Nat.not_lt_zero _)⟩
 | x + 1 => by
  obtain ⟨g1, g2, g3⟩ := asS_made L n w hw x
  obtain ⟨s1, _, _, s4, s5⟩ := asS_in L n w x
  have ha := dN_bd L (n + 1) (m := 15) (by omega)
  have ha2 : asA L n = 1 + dN L (n + 1) 15 := rfl
  have e : asS L n w (x + 1) = asV L (asA L n) w x (asS L n w x) := rfl
  generalize asS L n w x = S at *
  have hb := dN_bd L S.n (m := asA L n) (by omega)
  have key : ∃ r, (asS L n w (x + 1)).l = S.l ++ [r] /\ (asS L n w (x + 1)).h = S.h + dN L S.n (asA L n) /\ r.at_ = S.h + dN L S.n (asA L n) /\ MadeR w x r := by
   by_cases c : dN L (S.n + 1) 3 = 0
   ·rw [e, asV_1 c]
    have h1 := dN_bd L (S.n + 1 + 1 + 1) (m := w) hw
    have h2 := dN_bd L (S.n + 1 + 1 + 1 + 1) (m := w) hw
    have h3 := dN_bd L (S.n + 1 + 1 + 1 + 1 + 1) (m := 15) (by omega)
    have h4 := dN_bd L (S.n + 1 + 1 + 1 + 1 + 1 + 1) (m := 3) (by omega)
    have h5 := dN_bd L (S.n + 1 + 1) (m := 60) (by omega)
    exact ⟨asR1 L (asA L n) w x S, rfl, rfl, rfl, rfl, ⟨by show 0 <= S.h + _; omega, by show S.h + _ <= _; omega⟩, h1, h2, ⟨by show 1 <= 1 + _; omega, by show 1 + _ <= (15 : Int); omega⟩, ⟨by show 1 <= 1 + _; omega, by show 1 + _ <= (3 : Int); omega⟩, ⟨by show 0 <= 1 + _; omega, by show 1 + _ <= (60 : Int); omega⟩⟩
   ·rw [e, asV_0 c]
    have h1 := dN_bd L (S.n + 1 + 1) (m := w) hw
    have h2 := dN_bd L (S.n + 1 + 1 + 1) (m := w) hw
    have h3 := dN_bd L (S.n + 1 + 1 + 1 + 1) (m := 15) (by omega)
    have h4 := dN_bd L (S.n + 1 + 1 + 1 + 1 + 1) (m := 3) (by omega)
    exact ⟨asR0 L (asA L n) w x S, rfl, rfl, rfl, rfl, ⟨by show 0 <= S.h + _; omega, by show S.h + _ <= _; omega⟩, h1, h2, ⟨by show 1 <= 1 + _; omega, by show 1 + _ <= (15 : Int); omega⟩, ⟨by show 1 <= 1 + _; omega, by show 1 + _ <= (3 : Int); omega⟩, ⟨by show (0 : Int) <= 0; omega, by show (0 : Int) <= 60; omega⟩⟩
  obtain ⟨r, k1, k2, k3, k4⟩ := key
  have gl : ∀ i, i < x -> (asS L n w (x + 1)).l.getD i zeroQ = S.l.getD i zeroQ := fun i hi => by rw [k1, getD_app, if_pos (by omega)]
  have gr : (asS L n w (x + 1)).l.getD x zeroQ = r := by rw [k1, getD_app, if_neg (by omega), if_pos s1.symm]
  refine ⟨fun i hi => ?_, fun i hi => ?_, fun i j hij hj => ?_⟩
  ·rcases Nat.lt_or_ge i x with q | q
   ·rw [gl i q]; exact g1 i q
   ·rw [show i = x by omega, gr]; exact k4
  ·rw [k2]
   rcases Nat.lt_or_ge i x with q | q
   ·rw [gl i q]; have := g2 i q; omega
   ·rw [show i = x by omega, gr, k3]; omega
  ·rcases Nat.lt_or_ge j x with q | q
   ·rw [gl i (by omega), gl j q]; exact g3 i j hij q
   ·rw [show j = x by omega, gr, k3]
    rcases Nat.lt_or_ge i x with q2 | q2
    ·rw [gl i q2]; have := g2 i q2; omega
    ·rw [show i = x by omega, gr, k3]; omega
theorem as_id {i j : Nat} (hi : i < 31) (hj : j < i) : Int.tmod (7 * (j : Int)) 31 ≠ Int.tmod (7 * (i : Int)) 31 := by
 rw [Int.tmod_eq_emod_of_nonneg (by omega), Int.tmod_eq_emod_of_nonneg (by omega)]
 omega
theorem asL_len {L : List Int} {n m w : Int} (hm : 0 <= m) : ((asL L n m w).length : Int) <= m := by
 have h := (asS_in L n w (asK L n m)).1
 have hd := dN_bd L n (m := m + 1) (by omega)
 have : (asL L n m w).length = asK L n m := h
 rw [this]; unfold asK; omega
theorem asL_ok {L : List Int} {n m : Int} {f : Fleet} (hm : 0 <= m /\ m <= 30) (ht : 1 <= f.t.length) : LsOk f.t.length (asL L n m (f.t.length : Nat)) /\ ∀ i j, i <= j -> j < (asL L n m (f.t.length : Nat)).length -> ((asL L n m (f.t.length : Nat)).getD i zeroQ).at_ <= ((asL L n m (f.t.length : Nat)).getD j zeroQ).at_ := by
 have hl := asL_len (L := L) (n := n) (w := ((f.t.length : Nat) : Int)) hm.1
 have h0 : (asL L n m (f.t.length : Nat)).length = asK L n m := (asS_in L n _ (asK L n m)).1
 obtain ⟨g1, _, g3⟩ := asS_made L n ((f.t.length : Nat) : Int) (by omega) (asK L n m)
 refine ⟨⟨by omega, fun k hk => ?_, fun k j hk hj => ?_⟩, fun i j hij hj => g3 i j hij (by omega)⟩
 ·have r : MadeR _ k ((asL L n m (f.t.length : Nat)).getD k zeroQ) := g1 k (by omega)
  have hid := r.id
  rw [Int.tmod_eq_emod_of_nonneg (by omega)] at hid
  exact ⟨by omega, by have := r.at_; omega, by have := r.place; omega, by have := r.dest; omega, by have := r.len; omega, r.prio, by have := r.limit; omega⟩
 ·have r1 : MadeR _ k ((asL L n m (f.t.length : Nat)).getD k zeroQ) := g1 k (by omega)
  have r2 : MadeR _ j ((asL L n m (f.t.length : Nat)).getD j zeroQ) := g1 j (by omega)
  rw [r1.id, r2.id]
  exact as_id (by omega) hj
theorem errRq_ok {n : Nat} {l : List Rq} (o : LsOk n l) : errRq n l = 0 := by
 unfold errRq
 rw [if_neg (by have := o.len; omega)]
 refine errUp_no fun k hk => ?_
 have r := o.ok k hk
 unfold errRq1 badRq
 rw [inB_1 r.id.1 r.id.2, inB_1 r.at_.1 r.at_.2, inB_1 r.place.1 r.place.2, inB_1 r.dest.1 r.dest.2, inB_1 r.len.1 r.len.2, inB_1 r.prio.1 r.prio.2, inB_1 r.limit.1 r.limit.2]
 rw [if_neg (by decide), if_neg]
 rw [any_none (d := zeroQ) fun j hj => ?_]
 ·decide
 ·rw [List.length_take] at hj
  have e : (l.take k).getD j zeroQ = l.getD j zeroQ := by
   rw [List.getD_eq_getElem?_getD, List.getElem?_take, if_pos (by omega), <- List.getD_eq_getElem?_getD]
  unfold sameId
  rw [e]
  exact decide_eq_false (o.ne k j hk (by omega))
theorem errAll_ok {f : Fleet} {p : Pol} {l : List Rq} (h1 : errFl f = 0) (h2 : errPol p = 0) (h3 : errRq f.t.length l = 0) : errAll f p l = 0 := by
 unfold errAll
 rw [h1, h2, h3]; rfl
end
end Go.Proofs.YthdekmpkioikdaaGreat
/- Request: requests that are asked for later change no decision before. Plain laws. No condition. -/
namespace Go.Proofs.YthdekmpkioikdaaGreat
set_option linter.unusedSimpArgs false
open Go Go.K
set_option linter.unusedVariables false
noncomputable section
theorem take_at {l : List Rq} {n i : Nat} (h : i < n) : (l.take n).getD i zeroQ = l.getD i zeroQ := by
 rw [List.getD_eq_getElem?_getD, List.getElem?_take, if_pos h, <- List.getD_eq_getElem?_getD]
theorem LsOk.take {k n : Nat} {l : List Rq} (o : LsOk k l) : LsOk k (l.take n) := by
 have ol := o.len
 refine ⟨by rw [List.length_take]; omega, fun i hi => ?_, fun i j hi hj => ?_⟩
 ·rw [List.length_take] at hi
  rw [take_at (by omega)]; exact o.ok i (by omega)
 ·rw [List.length_take] at hi
  rw [take_at (by omega), take_at (by omega)]; exact o.ne i j (by omega) hj
end
end Go.Proofs.YthdekmpkioikdaaGreat
/- Request: what the laws of made numbers speak of. No condition. -/
namespace Go.Proofs.YthdekmpkioikdaaGreat
set_option linter.unusedSimpArgs false
set_option linter.unusedVariables false
open Go Go.K
def mkF (L : List Int) : Fleet := shF L 0 3
def mkA (L : List Int) : Int := shN L 0 3
def mkQ (L : List Int) (m : Int) : List Rq := asL L (mkA L) m (((mkF L).t.length : Nat) : Int)
def mkB (L : List Int) (m : Int) : Int := asN L (mkA L) m (((mkF L).t.length : Nat) : Int)
def mkP (L : List Int) (m : Int) : Pol := rlP L (mkB L m)
def mkH (L : List Int) (m : Int) : List Sv := playF (mkF L) (mkP L m) (mkQ L m)
end Go.Proofs.YthdekmpkioikdaaGreat
/- Request: the made fleet, requests and policy are right; their runs. No condition. -/
namespace Go.Proofs.YthdekmpkioikdaaGreat
set_option linter.unusedSimpArgs false
open Go Go.K
set_option linter.unusedVariables false
noncomputable section
attribute [local irreducible] vF
theorem mkF_ok (L : List Int) : FlOk (mkF L) := shF_ok L 0
theorem mkA_bd (L : List Int) : 0 <= mkA L /\ mkA L <= 100 := by
 have a := shW_in L 0
 have b := shQ_in L 0 (Int.toNat (shW L 0))
 have c := shX_in L 0 (m := 3) (by omega)
 unfold mkA shN shE
 omega
theorem mkQ_ok (L : List Int) {m : Int} (hm : 0 <= m /\ m <= 30) : LsOk (mkF L).t.length (mkQ L m) /\ ∀ i j, i <= j -> j < (mkQ L m).length -> ((mkQ L m).getD i zeroQ).at_ <= ((mkQ L m).getD j zeroQ).at_ := asL_ok hm (mkF_ok L).n1
theorem mkQ_len (L : List Int) {m : Int} (hm : 0 <= m) : ((mkQ L m).length : Int) <= m := asL_len hm
theorem mkB_bd (L : List Int) {m : Int} (hm : 0 <= m /\ m <= 30) : 0 <= mkB L m /\ mkB L m <= 1000 := by
 have a := mkA_bd L
 have b := asS_in L (mkA L) (((mkF L).t.length : Nat) : Int) (asK L (mkA L) m)
 have d := dN_bd L (mkA L) (m := m + 1) (by omega)
 have e : ((asK L (mkA L) m : Nat) : Int) <= m := by unfold asK; omega
 unfold mkB asN
 omega
theorem mkErr0 (L : List Int) {m : Int} (hm : 0 <= m /\ m <= 30) : errAll (mkF L) (mkP L m) (mkQ L m) = 0 :=
 errAll_ok (errFl_ok (mkF_ok L) (shF_diag L 0)) (errPol_ok L _) (errRq_ok (mkQ_ok L hm).1)
theorem fRun_ok {f : Fleet} {p : Pol} {l : List Rq} (h : errAll f p l = 0) : fRun f p l = (playF f p l, 0) := if_pos h
theorem mkF_in (L : List Int) : (mkF L).t.length <= 4294967296 /\ (mkF L).b.length <= 4294967296 /\ shortI (mkF L).t := by
 have o := mkF_ok L
 have a := o.n2
 have b := o.b2
 exact ⟨by omega, by omega, fun k hk => by have := o.row k hk; omega⟩
theorem kShipsM (L : List Int) {H : Heap} {N : Nat} (hN : H.length = N) {D : Nat} (hD : H[D]? = some (.cells true 0 (digC L 0))) :
  KCall prog 26 [.pointer (some ⟨D, 0, none⟩), nI 3] H [D] (Is (fleetV (mkF L) N (N + 1) 1) (H.set D (.cells true 0 (digC L (mkA L))) ++ [.cells true 1 (inL (mkF L).t), .cells true 1 ((mkF L).b.flatMap intC)])) := kShips L 0 3 (by omega) (by omega) hN hD
theorem kAsksM (L : List Int) {m : Int} (hm : 0 <= m /\ m <= 30) {H : Heap} {N : Nat} (hN : H.length = N) {D : Nat} (hD : H[D]? = some (.cells true 0 (digC L (mkA L)))) {i j : Nat} {o1 o2 : Bool} {z1 z2 : Nat} (e1 : H[i]? = some (.cells o1 z1 (inL (mkF L).t))) (e2 : H[j]? = some (.cells o2 z2 ((mkF L).b.flatMap intC))) (hi : D ≠ i) (hj : D ≠ j) :
  KCall prog 27 [.pointer (some ⟨D, 0, none⟩), fleetV (mkF L) i j, nI m] H [D] (Is (slQ N 1 (mkQ L m).length) (H.set D (.cells true 0 (digC L (mkB L m))) ++ [.cells true 7 ((mkQ L m).flatMap rqC)])) :=
 kAsks L (mkA L) (mkF L) m (by have := mkA_bd L; omega) (by omega) (by have := (mkF_ok L).n1; have := (mkF_ok L).n2; omega) hN hD e1 e2 hi hj
theorem kRuleM (L : List Int) {m : Int} (hm : 0 <= m /\ m <= 30) {H : Heap} {D : Nat} (hD : H[D]? = some (.cells true 0 (digC L (mkB L m)))) :
  KCall prog 28 [.pointer (some ⟨D, 0, none⟩)] H [D] (Is (.agg ⟨polC (mkP L m)⟩) (H.set D (.cells true 0 (digC L (mkB L m + 1 + 1 + 1 + 1 + 1))))) :=
 kRule L (mkB L m) (by have := mkB_bd L hm; omega) hD
theorem kRunM (L : List Int) {m : Int} (hm : 0 <= m /\ m <= 30) {H : Heap} {N : Nat} (hN : H.length = N) {i0 i1 i2 : Nat} {o0 o1 o2 : Bool} {z0 z1 z2 : Nat} (e0 : H[i0]? = some (.cells o0 z0 (inL (mkF L).t))) (e1 : H[i1]? = some (.cells o1 z1 ((mkF L).b.flatMap intC))) (e2 : H[i2]? = some (.cells o2 z2 ((mkQ L m).flatMap rqC))) :
  KCall prog 29 [fleetV (mkF L) i0 i1, .agg ⟨polC (mkP L m)⟩, .slice (some ⟨i2, 0, some 2⟩) (mkQ L m).length (mkQ L m).length] H [] (Is (.tuple #[.slice (some ⟨N, 0, some 2⟩) (mkH L m).length (mkH L m).length, .int .i64 0]) (H ++ [.cells true 5 ((mkH L m).flatMap svC)])) := by
 have h := kRun (mkF L) (mkP L m) (mkQ L m) (mkF_in L).1 (mkF_in L).2.1 (mkF_in L).2.2 hN e0 e1 e2
 rw [fRun_ok (mkErr0 L hm)] at h
 exact h
theorem mkH_len (L : List Int) {m : Int} (hm : 0 <= m /\ m <= 30) : (mkH L m).length = (mkQ L m).length := playF_len (mkF_ok L) (mkQ_ok L hm).1
end
end Go.Proofs.YthdekmpkioikdaaGreat
/- Request: RequestLater. No condition. -/
namespace Go.Proofs.YthdekmpkioikdaaGreat
open Go Go.K
set_option maxRecDepth 100000
set_option linter.unusedVariables false
set_option linter.unusedSimpArgs false
noncomputable section
attribute [local irreducible] vF
theorem deepI_rn (σ : Nat -> Option Nat) (L : List Int) (vs : List Value) (h : vs.all (belowC 0) = true) : (Value.iface (L.length + 1) (.agg ⟨L.flatMap intC⟩) :: vs).map (rn σ 5) = Value.iface (L.length + 1) (.agg ⟨L.flatMap intC⟩) :: vs :=
 (rnCl (σ := σ) (d := 2) (l := Value.iface (L.length + 1) (.agg ⟨L.flatMap intC⟩) :: vs) (by
  show ((L.flatMap intC).all (belowD 0) && vs.all (belowC 0)) = true
  rw [all_belowD, h]; rfl)).1
end
end Go.Proofs.YthdekmpkioikdaaGreat
/- Request: what is true of each decision of a policy's history. No condition. -/
namespace Go.Proofs.YthdekmpkioikdaaGreat
set_option linter.unusedSimpArgs false
open Go Go.K
set_option linter.unusedVariables false
noncomputable section
attribute [local irreducible] vF
def lastT (h : List Sv) : Nat -> Int
 | 0 => 0
 | k + 1 => (svAt h k).tk
theorem lastT_app {h : List Sv} {s : Sv} : ∀ {k : Nat}, k <= h.length -> lastT (h ++ [s]) k = lastT h k
 | 0, _ => rfl
 | k + 1, hk => by show (svAt _ _).tk = (svAt _ _).tk; rw [svAt_l (by omega)]
structure DecI (f : Fleet) (p : Pol) (l : List Rq) (h : List Sv) (k : Nat) : Prop where
 dec : decAt f p l (h.take k) (svAt h k).tk = some (svAt h k)
 mono : lastT h k <= (svAt h k).tk
 idle : ∀ x : Int, lastT h k <= x -> x < (svAt h k).tk -> decAt f p l (h.take k) x = none
 top : (svAt h k).tk <= 20000
theorem DecI.app {f : Fleet} {p : Pol} {l : List Rq} {h : List Sv} {s : Sv} {k : Nat} (hk : k < h.length) (d : DecI f p l h k) : DecI f p l (h ++ [s]) k := by
 refine ⟨?_, ?_, ?_, ?_⟩
 ·rw [svAt_l hk, take_app (by omega)]; exact d.dec
 ·rw [svAt_l hk, lastT_app (by omega)]; exact d.mono
 ·rw [svAt_l hk, lastT_app (by omega), take_app (by omega)]; exact d.idle
 ·rw [svAt_l hk]; exact d.top
theorem playS_dec {f : Fleet} {p : Pol} {l : List Rq} (o : FlOk f) (ol : LsOk f.t.length l) : ∀ (m hour : Nat) (h : List Sv), PlayI f p l hour h -> (∀ k, k < h.length -> DecI f p l h k) -> lastT h h.length <= (hour : Int) -> (∀ x : Int, lastT h h.length <= x -> x < (hour : Int) -> decAt f p l h x = none) ->
  GoodH f l (playS f p l m (hour : Int) h) /\ ∀ k, k < (playS f p l m (hour : Int) h).length -> DecI f p l (playS f p l m (hour : Int) h) k
 | 0, hour, h, i, hd, _, _ => ⟨i.good, hd⟩
 | m + 1, hour, h, i, hd, h1, h2 => by
  by_cases c : l.length <= h.length
  ·rw [show playS f p l (m + 1) (hour : Int) h = h from if_pos c]; exact ⟨i.good, hd⟩
  ·have hn := i.now (by omega)
   have l30 := ol.len
   have hl := i.len
   cases e : decAt f p l h (hour : Int) with
   | some s =>
    have e2 : playS f p l (m + 1) (hour : Int) h = playS f p l m (hour : Int) (h ++ [s]) := by
     show (if l.length <= h.length then h else _) = _
     rw [if_neg c, e]
    obtain ⟨a, b, _, _, es, _⟩ := dec_some e
    have et : s.tk = (hour : Int) := by rw [es]; rfl
    have hlen : (h ++ [s]).length = h.length + 1 := by rw [List.length_append]; rfl
    have lt : lastT (h ++ [s]) (h ++ [s]).length = (hour : Int) := by rw [hlen]; show (svAt _ _).tk = _; rw [svAt_r, et]
    rw [e2]
    refine playS_dec o ol m hour _ (playI_dec o ol i (by omega) e) (fun k hk => ?_) (by rw [lt]; exact Int.le_refl _) (fun x q1 q2 => by rw [lt] at q1; omega)
    rw [hlen] at hk
    rcases Nat.lt_or_ge k h.length with q | q
    ·exact (hd k q).app q
    ·obtain rfl : k = h.length := by omega
     refine ⟨?_, ?_, ?_, ?_⟩
     ·rw [svAt_r, take_app (Nat.le_refl _), List.take_length, et]; exact e
     ·rw [svAt_r, lastT_app (Nat.le_refl _), et]; exact h1
     ·rw [svAt_r, lastT_app (Nat.le_refl _), take_app (Nat.le_refl _), List.take_length, et]; exact h2
     ·rw [svAt_r, et]; omega
   | none =>
    have e2 : playS f p l (m + 1) (hour : Int) h = playS f p l m ((hour + 1 : Nat) : Int) h := by
     show (if l.length <= h.length then h else _) = _
     rw [if_neg c, e]; rfl
    rw [e2]
    refine playS_dec o ol m (hour + 1) h (playI_next o ol i (fun _ => e) (.inl (by omega))) hd (by omega) (fun x q1 q2 => ?_)
    rcases Int.lt_or_le x (hour : Int) with q | q
    ·exact h2 x q1 q
    ·rw [show x = (hour : Int) by omega]; exact e
theorem play_dec {f : Fleet} {p : Pol} {l : List Rq} (o : FlOk f) (ol : LsOk f.t.length l) : GoodH f l (playF f p l) /\ ∀ k, k < (playF f p l).length -> DecI f p l (playF f p l) k :=
 playS_dec o ol 40000 0 [] (playI_0 ol.len) (fun k hk => absurd hk (Nat.not_lt_zero _)) (by show (0 : Int) <= 0; omega) (fun x q1 q2 => by have q1 : (0 : Int) <= x := q1; omega)
theorem sv_take {h : List Sv} {k j : Nat} (hj : j < k) : svAt (h.take k) j = svAt h j := by
 unfold svAt; rw [List.getD_eq_getElem?_getD, List.getElem?_take, if_pos hj, <- List.getD_eq_getElem?_getD]
theorem frH_take (f : Fleet) (h : List Sv) {k : Nat} : ∀ {j : Nat}, j <= k -> frH f (h.take k) j = frH f h j
 | 0, _ => rfl
 | j + 1, hj => by
  show List.set _ _ _ = List.set _ _ _
  rw [frH_take f h (show j <= k by omega), sv_take (show j < k by omega)]
theorem plH_take (f : Fleet) (l : List Rq) (h : List Sv) {k : Nat} : ∀ {j : Nat}, j <= k -> plH f l (h.take k) j = plH f l h j
 | 0, _ => rfl
 | j + 1, hj => by
  show List.set _ _ _ = List.set _ _ _
  rw [plH_take f l h (show j <= k by omega), sv_take (show j < k by omega)]
theorem brH_take (f : Fleet) (l : List Rq) (h : List Sv) {k : Nat} (hk : k <= h.length) : brH f l (h.take k) (h.take k).length = brH f l h k := by
 rw [take_len hk]
 unfold brH
 rw [frH_take f h (Nat.le_refl _), plH_take f l h (Nat.le_refl _)]
theorem DecI.facts {f : Fleet} {p : Pol} {l : List Rq} {h : List Sv} {k : Nat} (hk : k < h.length) (d : DecI f p l h k) :
  (0 <= (svAt h k).rq /\ (svAt h k).rq < (l.length : Int)) /\ (0 <= (svAt h k).br /\ (svAt h k).br < (f.b.length : Int)) /\ (rqAt l (svAt h k).rq).at_ <= (svAt h k).tk /\ (frH f h k).getD (Int.toNat (svAt h k).br) 0 <= (svAt h k).tk /\ (svAt h k).bg = bgH f l h k /\ (svAt h k).nd = bgH f l h k + (rqAt l (svAt h k).rq).len /\ (svAt h k).rq = bestAt p l (h.take k) (svAt h k).tk := by
 obtain ⟨i, b, hi, hb, es, h1, h2, h3, h4, h5⟩ := dec_some d.dec
 rw [brH_take f l h (by omega), brH_at hb] at h5
 have e1 : (svAt h k).rq = (i : Int) := by rw [es]; rfl
 have e2 : (svAt h k).br = (b : Int) := by rw [es]; rfl
 have e3 : (svAt h k).bg = (svAt h k).tk + trav f ((brH f l (h.take k) (h.take k).length).getD (Int.toNat (b : Int)) zeroB).at_ (rqAt l (i : Int)).place := by
  conv => lhs; rw [es]
  rfl
 have e4 : (svAt h k).nd = (svAt h k).bg + (rqAt l (i : Int)).len := by
  conv => lhs; rw [es]
  conv => rhs; rw [es]
  rfl
 have e5 : (svAt h k).bg = bgH f l h k := by
  rw [e3, brH_take f l h (by omega), Int.toNat_natCast, brH_at hb]
  unfold bgH
  rw [e1, e2, Int.toNat_natCast]
 have e6 : rqAt l (i : Int) = l.getD i zeroQ := by unfold rqAt; rw [Int.toNat_natCast]
 refine ⟨by rw [e1]; omega, by rw [e2]; omega, by rw [e1, e6]; exact h4, by rw [e2, Int.toNat_natCast]; exact h5, e5, by rw [e4, e5, e1], by rw [e1, h1]⟩
end
end Go.Proofs.YthdekmpkioikdaaGreat
/- Request: contracts over what is made of numbers, for RequestFair. No condition. -/
namespace Go.Proofs.YthdekmpkioikdaaGreat
set_option linter.unusedSimpArgs false
open Go Go.K
set_option linter.unusedVariables false
noncomputable section
attribute [local irreducible] vF
theorem good_ne {f : Fleet} {l : List Rq} {h : List Sv} (g : GoodH f l h) {j k : Nat} (hk : k < h.length) (hj : j < k) : (svAt h j).rq ≠ (svAt h k).rq := fun e => by
 have n := g.ne k hk
 have hm : svAt h j ∈ h.take k := by
  have : (h.take k).getD j zeroV = svAt h j := sv_take hj
  rw [<- this]; exact getD_mem (by rw [List.length_take]; omega)
 rw [List.any_eq_false] at n
 exact n _ hm (decide_eq_true e)
theorem mkErrs (L : List Int) {m : Int} (hm : 0 <= m /\ m <= 30) : errFl (mkF L) = 0 /\ errPol (mkP L m) = 0 /\ errRq (mkF L).t.length (mkQ L m) = 0 :=
 ⟨errFl_ok (mkF_ok L) (shF_diag L 0), errPol_ok L _, errRq_ok (mkQ_ok L hm).1⟩
section
variable (L : List Int) {m : Int} (hm : 0 <= m /\ m <= 30) {H : Heap} {i0 i1 i2 : Nat} {o0 o1 o2 : Bool} {z0 z1 z2 : Nat} (e0 : H[i0]? = some (.cells o0 z0 (inL (mkF L).t))) (e1 : H[i1]? = some (.cells o1 z1 ((mkF L).b.flatMap intC))) (e2 : H[i2]? = some (.cells o2 z2 ((mkQ L m).flatMap rqC)))
include hm e0 e1 e2
end
end
end Go.Proofs.YthdekmpkioikdaaGreat
/- Request: no request waits longer than the bound; a breaker that is free is not idle while a request waits. Plain laws. No condition. -/
namespace Go.Proofs.YthdekmpkioikdaaGreat
set_option linter.unusedSimpArgs false
open Go Go.K
set_option linter.unusedVariables false
noncomputable section
attribute [local irreducible] vF
theorem crN_pre {p : Nat -> Bool} : ∀ {n : Nat}, (∀ i j, i <= j -> j < n -> p j = true -> p i = true) -> crN p n <= n /\ (∀ i, i < crN p n -> p i = true) /\ ∀ i, crN p n <= i -> i < n -> p i = false
 | 0, _ => ⟨Nat.le_refl _, fun i h => absurd h (Nat.not_lt_zero _), fun i _ h => absurd h (Nat.not_lt_zero _)⟩
 | n + 1, h => by
  obtain ⟨a, b, c⟩ := crN_pre (n := n) fun i j hi hj => h i j hi (by omega)
  rw [crN_succ]
  cases e : p n with
  | false =>
   rw [if_neg (by decide)]
   refine ⟨by omega, b, fun i hi hn => ?_⟩
   rcases Nat.lt_or_ge i n with q | q
   ·exact c i hi q
   ·rw [show i = n by omega]; exact e
  | true =>
   have hall : crN p n = n := by
    rcases Nat.lt_or_ge (crN p n) n with q | q
    ·have := c (crN p n) (Nat.le_refl _) q
     rw [h (crN p n) n (by omega) (by omega) e] at this; cases this
    ·omega
   rw [if_pos rfl, hall]
   exact ⟨Nat.le_refl _, fun i hi => h i n (by omega) (by omega) e, fun i h1 h2 => absurd h1 (by omega)⟩
def tkB (h : List Sv) (x : Int) (k : Nat) : Bool := decide ((svAt h k).tk <= x)
def nT (h : List Sv) (x : Int) : Nat := crN (tkB h x) h.length
def brN (h : List Sv) (k : Nat) : Nat := Int.toNat (svAt h k).br
structure Hist (f : Fleet) (p : Pol) (l : List Rq) (h : List Sv) : Prop where
 good : GoodH f l h
 dec : ∀ k, k < h.length -> DecI f p l h k
 fl : FlOk f
 ls : LsOk f.t.length l
def Busy (f : Fleet) (h : List Sv) (x : Int) : Prop := ∀ b, b < f.b.length -> x < (frH f h (nT h x)).getD b 0
def busyB (h : List Sv) (x : Int) (k : Nat) : Bool := decide ((svAt h k).tk <= x) && decide (x < (svAt h k).nd)
theorem fr_succS {f : Fleet} {h : List Sv} {k b : Nat} (hb : b < f.b.length) : (frH f h (k + 1)).getD b 0 = if brN h k = b then (svAt h k).nd else (frH f h k).getD b 0 := by
 show ((frH f h k).set _ _).getD b 0 = _
 rw [getD_setN (by rw [frH_len]; exact hb)]; rfl
theorem fr_0S {f : Fleet} {h : List Sv} {b : Nat} (hb : b < f.b.length) : (frH f h 0).getD b 0 = 0 := by
 show (List.replicate _ (0 : Int)).getD b 0 = 0
 rw [List.getD_eq_getElem?_getD, List.getElem?_replicate, if_pos hb]; rfl
section
variable {f : Fleet} {p : Pol} {l : List Rq} {h : List Sv} (i : Hist f p l h)
include i
theorem Hist.tk0 : ∀ k, k < h.length -> 0 <= (svAt h k).tk
 | 0, hk => (i.dec 0 hk).mono
 | k + 1, hk => Int.le_trans (Hist.tk0 k (by omega)) (i.dec (k + 1) hk).mono
theorem Hist.mono {j : Nat} : ∀ k, j <= k -> k < h.length -> (svAt h j).tk <= (svAt h k).tk
 | 0, hj, hk => by rw [show j = 0 by omega]; exact Int.le_refl _
 | k + 1, hj, hk => by
  rcases Nat.lt_or_ge k j with q | q
  ·rw [show j = k + 1 by omega]; exact Int.le_refl _
  ·exact Int.le_trans (Hist.mono k q (by omega)) (i.dec (k + 1) hk).mono
theorem Hist.cut (x : Int) : nT h x <= h.length /\ (∀ k, k < nT h x -> (svAt h k).tk <= x) /\ ∀ k, nT h x <= k -> k < h.length -> x < (svAt h k).tk := by
 obtain ⟨a, b, c⟩ := crN_pre (p := tkB h x) (n := h.length) fun u v hu hv e => by
  have e : decide _ = true := e
  have := i.mono v hu hv
  exact decide_eq_true (Int.le_trans this (of_decide_eq_true e))
 refine ⟨a, fun k hk => of_decide_eq_true (b k hk), fun k h1 h2 => ?_⟩
 have := of_decide_eq_false (c k h1 h2)
 omega
theorem Hist.cut_le {x : Int} {k : Nat} (hk : k < h.length) (hx : x < (svAt h k).tk) : nT h x <= k := by
 rcases Nat.lt_or_ge k (nT h x) with q | q
 ·have := (i.cut x).2.1 k q; omega
 ·exact q
theorem Hist.facts {k : Nat} (hk : k < h.length) : (0 <= (svAt h k).rq /\ (svAt h k).rq < (l.length : Int)) /\ brN h k < f.b.length /\ 0 <= (rqAt l (svAt h k).rq).at_ /\ (rqAt l (svAt h k).rq).at_ <= (svAt h k).tk /\ (frH f h k).getD (brN h k) 0 <= (svAt h k).tk /\ (svAt h k).tk < (svAt h k).nd /\ (svAt h k).nd <= (svAt h k).tk + trav f ((plH f l h k).getD (brN h k) 0) (rqAt l (svAt h k).rq).place + (rqAt l (svAt h k).rq).len := by
 obtain ⟨q1, q2, q3, q4, q5, q6, _⟩ := (i.dec k hk).facts hk
 have hb : brN h k < f.b.length := by unfold brN; omega
 have r := i.ls.ok (Int.toNat (svAt h k).rq) (by omega)
 have tv := trav_in i.fl (b := (rqAt l (svAt h k).rq).place) (plH_in i.fl i.ls h k (brN h k) hb)
 have e : bgH f l h k = (svAt h k).tk + trav f ((plH f l h k).getD (brN h k) 0) (rqAt l (svAt h k).rq).place := rfl
 have hl : 1 <= (rqAt l (svAt h k).rq).len := r.len.1
 have ha : 0 <= (rqAt l (svAt h k).rq).at_ := r.at_.1
 refine ⟨q1, hb, ha, q3, q4, ?_, ?_⟩
 ·rw [q6, e]; omega
 ·rw [q6, e]; omega
theorem Hist.fr_mono {b : Nat} (hb : b < f.b.length) {j : Nat} : ∀ k, j <= k -> k <= h.length -> (frH f h j).getD b 0 <= (frH f h k).getD b 0
 | 0, hj, hk => by rw [show j = 0 by omega]; exact Int.le_refl _
 | k + 1, hj, hk => by
  rcases Nat.lt_or_ge k j with q | q
  ·rw [show j = k + 1 by omega]; exact Int.le_refl _
  ·refine Int.le_trans (Hist.fr_mono hb k q (by omega)) ?_
   obtain ⟨_, _, _, _, c, d, _⟩ := i.facts (k := k) (by omega)
   rw [fr_succS hb]
   split
   ·rename_i e; subst e; omega
   ·exact Int.le_refl _
theorem Hist.busy {k : Nat} (hk : k < h.length) {x : Int} (h1 : (rqAt l (svAt h k).rq).at_ <= x) (h2 : x < (svAt h k).tk) : Busy f h x := by
 obtain ⟨a1, a2, a3, _⟩ := i.facts hk
 obtain ⟨c1, c2, c3⟩ := i.cut x
 have hn := i.cut_le hk h2
 have d := i.dec (nT h x) (by omega)
 have e : decAt f p l (h.take (nT h x)) x = none := by
  refine d.idle x ?_ (c3 _ (Nat.le_refl _) (by omega))
  cases q : nT h x with
  | zero => show (0 : Int) <= x; omega
  | succ m => exact c2 m (by omega)
 rcases dec_none e with w | w
 ·exfalso
  have := w (Int.toNat (svAt h k).rq) (by omega) (by
   rw [Int.toNat_of_nonneg a1.1]
   have g := i.good.ne k hk
   rw [List.any_eq_false] at g ⊢
   intro s hs
   refine g s ?_
   have : h.take (nT h x) = (h.take k).take (nT h x) := by rw [List.take_take, Nat.min_eq_left hn]
   rw [this] at hs
   exact List.mem_of_mem_take hs)
  have : x < (rqAt l (svAt h k).rq).at_ := this
  omega
 ·intro b hb
  have := w b hb
  rw [brH_take f l h (by omega), brH_at hb] at this
  exact this
theorem Hist.count_to {x : Int} (hx : 0 <= x) : ∀ j, j <= nT h x -> crN (busyB h x) j = crN (fun b => decide (x < (frH f h j).getD b 0)) f.b.length
 | 0, _ => by
  refine Eq.symm ?_
  have : ∀ m, m <= f.b.length -> crN (fun b => decide (x < (frH f h 0).getD b 0)) m = 0 := by
   intro m
   induction m with
   | zero => intro _; rfl
   | succ m ih => intro hm; rw [crN_succ, ih (by omega), decide_eq_false (by rw [fr_0S (by omega)]; omega)]; rfl
  exact this _ (Nat.le_refl _)
 | j + 1, hj => by
  obtain ⟨c1, c2, c3⟩ := i.cut x
  have ih := Hist.count_to hx j (by omega)
  obtain ⟨a1, a2, a3, a4, a5, a6, a7⟩ := i.facts (k := j) (by omega)
  have t := c2 j (by omega)
  rw [crN_succ, ih]
  have eb : busyB h x j = decide (x < (svAt h j).nd) := by unfold busyB; rw [decide_eq_true t, Bool.true_and]
  rw [eb]
  by_cases q : x < (svAt h j).nd
  ·rw [if_pos (decide_eq_true q)]
   have := crN_one (p := fun b => decide (x < (frH f h j).getD b 0)) (i0 := brN h j) (decide_eq_false (by omega)) (n := f.b.length)
   rw [if_pos a2] at this
   rw [<- this]
   refine crN_eq fun b hb => ?_
   rw [fr_succS hb]
   by_cases e : brN h j = b
   ·rw [if_pos e, decide_eq_true q, decide_eq_true e.symm, Bool.or_true]
   ·rw [if_neg e, decide_eq_false (show ¬ b = brN h j from fun c => e c.symm), Bool.or_false]
  ·rw [if_neg (by rw [decide_eq_false q]; decide)]
   refine crN_eq fun b hb => ?_
   rw [fr_succS hb]
   by_cases e : brN h j = b
   ·rw [if_pos e, decide_eq_false q]
    subst e
    exact decide_eq_false (by omega)
   ·rw [if_neg e]
theorem Hist.count {x : Int} (hx : 0 <= x) (hB : Busy f h x) : crN (busyB h x) h.length = f.b.length := by
 obtain ⟨c1, c2, c3⟩ := i.cut x
 have key : ∀ m, nT h x <= m -> m <= h.length -> crN (busyB h x) m = crN (busyB h x) (nT h x) := by
  intro m
  induction m with
  | zero => intro h1 _; rw [show nT h x = 0 by omega]
  | succ m ih =>
   intro h1 h2
   rcases Nat.lt_or_ge m (nT h x) with q | q
   ·rw [show nT h x = m + 1 by omega]
   ·rw [crN_succ, ih q (by omega)]
    have : busyB h x m = false := by
     unfold busyB
     rw [decide_eq_false (by have := c3 m q (by omega); omega)]; rfl
    rw [this]; rfl
 rw [key _ c1 (Nat.le_refl _), i.count_to hx _ (Nat.le_refl _), crN_eq (r := fun _ => true) fun b hb => decide_eq_true (hB b hb)]
 exact crN_true _
end
end
end Go.Proofs.YthdekmpkioikdaaGreat
/- Request: the bound. Plain laws. No condition. -/
namespace Go.Proofs.YthdekmpkioikdaaGreat
set_option linter.unusedSimpArgs false
open Go Go.K
set_option linter.unusedVariables false
noncomputable section
attribute [local irreducible] vF
theorem lastW_ge {c : Nat -> Bool} {w : Nat} (hc : c w = true) (hw : 0 < w) : ∀ k, w <= k -> w <= lastW c k
 | 0, h => absurd h (by omega)
 | k + 1, h => by
  unfold lastW
  split
  ·exact h
  ·rename_i q
   rcases Nat.lt_or_ge k w with z | z
   ·exfalso; rw [show k + 1 = w by omega] at q; exact q hc
   ·exact lastW_ge hc hw k z
def sumTo (c : Nat -> Nat) : Nat -> Nat
 | 0 => 0
 | m + 1 => sumTo c m + c m
theorem sumTo_eq {c d : Nat -> Nat} : ∀ {m : Nat}, (∀ b, b < m -> c b = d b) -> sumTo c m = sumTo d m
 | 0, _ => rfl
 | m + 1, h => by show sumTo c m + c m = sumTo d m + d m; rw [sumTo_eq fun b hb => h b (by omega), h m (by omega)]
theorem sumTo_inc {c : Nat -> Nat} {b0 : Nat} : ∀ {m : Nat}, sumTo (fun b => c b + if b0 = b then 1 else 0) m = sumTo c m + if b0 < m then 1 else 0
 | 0 => rfl
 | m + 1 => by
  show sumTo _ m + (c m + _) = sumTo c m + c m + _
  rw [sumTo_inc]
  by_cases e : b0 = m
  ·rw [if_pos e, if_neg (by omega), if_pos (by omega)]; omega
  ·rw [if_neg e]
   by_cases q : b0 < m
   ·rw [if_pos q, if_pos (by omega)]; omega
   ·rw [if_neg q, if_neg (by omega)]; omega
theorem sumTo_lb {c : Nat -> Nat} {v : Nat} : ∀ {m : Nat}, (∀ b, b < m -> v <= c b) -> m * v <= sumTo c m
 | 0, _ => by rw [Nat.zero_mul]; exact Nat.zero_le _
 | m + 1, h => by
  show (m + 1) * v <= sumTo c m + c m
  rw [Nat.succ_mul]
  have := sumTo_lb (m := m) fun b hb => h b (by omega)
  have := h m (by omega)
  omega
theorem sumTo_lb1 {c : Nat -> Nat} {v b0 : Nat} : ∀ {m : Nat}, (∀ b, b < m -> v <= c b) -> b0 < m -> v + 1 <= c b0 -> m * v + 1 <= sumTo c m
 | 0, _, h, _ => absurd h (Nat.not_lt_zero _)
 | m + 1, h, hb, h1 => by
  show (m + 1) * v + 1 <= sumTo c m + c m
  rw [Nat.succ_mul]
  have hm := h m (by omega)
  by_cases e : b0 = m
  ·subst e
   have := sumTo_lb (m := b0) fun b hb => h b (by omega)
   omega
  ·have := sumTo_lb1 (m := m) (fun b hb => h b (by omega)) (by omega) h1
   omega
def cB (h : List Sv) (n0 b : Nat) : Nat -> Nat
 | 0 => 0
 | j + 1 => cB h n0 b j + if n0 <= j /\ brN h j = b then 1 else 0
section
variable {f : Fleet} {p : Pol} {l : List Rq} {h : List Sv} (i : Hist f p l h)
include i
theorem cB_sum (n0 : Nat) : ∀ j, j <= h.length -> sumTo (fun b => cB h n0 b j) f.b.length = j - n0
 | 0, _ => by
  have : ∀ m, sumTo (fun b => cB h n0 b 0) m = 0 := by
   intro m
   induction m with
   | zero => rfl
   | succ m ih => show sumTo _ m + 0 = 0; rw [ih]
  rw [this]; omega
 | j + 1, hj => by
  have ih := cB_sum n0 j (by omega)
  obtain ⟨_, hb, _⟩ := i.facts (k := j) (by omega)
  by_cases q : n0 <= j
  ·rw [sumTo_eq (d := fun b => cB h n0 b j + if brN h j = b then 1 else 0) fun b _ => by
    show cB h n0 b j + _ = _
    by_cases e : brN h j = b
    ·rw [if_pos ⟨q, e⟩, if_pos e]
    ·rw [if_neg (fun c => e c.2), if_neg e]]
   rw [sumTo_inc, ih, if_pos hb]; omega
  ·rw [sumTo_eq (d := fun b => cB h n0 b j) fun b _ => by
    show cB h n0 b j + _ = _
    rw [if_neg (fun c => q c.1), Nat.add_zero], ih]
   omega
variable {S : Int} (hS : ∀ k, k < h.length -> (svAt h k).nd <= (svAt h k).tk + S)
include hS
theorem fr_upto {a : Int} (ha : 0 <= a) (hS1 : 1 <= S) {b : Nat} (hb : b < f.b.length) : ∀ j, j <= nT h (a - 1) -> (frH f h j).getD b 0 <= a - 1 + S
 | 0, _ => by rw [fr_0S hb]; omega
 | j + 1, hj => by
  obtain ⟨c1, c2, _⟩ := i.cut (a - 1)
  have ih := fr_upto ha hS1 hb j (by omega)
  rw [fr_succS hb]
  split
  ·have := hS j (by omega)
   have := c2 j (by omega)
   omega
  ·exact ih
theorem fr_grow {a T : Int} (hB : ∀ x, a <= x -> x < T -> Busy f h x) {b : Nat} (hb : b < f.b.length) (hS1 : 1 <= S) : ∀ j, nT h (a - 1) <= j -> j <= nT h (T - 1) -> max ((frH f h j).getD b 0) a <= max ((frH f h (nT h (a - 1))).getD b 0) a + S * (cB h (nT h (a - 1)) b j : Int)
 | 0, h1, h2 => by
  rw [show nT h (a - 1) = 0 by omega]
  show _ <= _ + S * ((0 : Nat) : Int)
  rw [Int.natCast_zero, Int.mul_zero]; omega
 | j + 1, h1, h2 => by
  obtain ⟨c1, c2, c3⟩ := i.cut (T - 1)
  obtain ⟨e1, e2, e3⟩ := i.cut (a - 1)
  rcases Nat.lt_or_ge j (nT h (a - 1)) with q | q
  ·have e0 : ∀ j, j <= nT h (a - 1) -> cB h (nT h (a - 1)) b j = 0 := by
    intro j
    induction j with
    | zero => intro _; rfl
    | succ j ih => intro hj; show cB h _ b j + _ = 0; rw [ih (by omega), if_neg (fun c => absurd c.1 (by omega))]
   rw [show j + 1 = nT h (a - 1) by omega, e0 _ (Nat.le_refl _), Int.natCast_zero, Int.mul_zero]; omega
  ·have ih := fr_grow hB hb hS1 j q (by omega)
   have t1 := c2 j (by omega)
   have t0 := e3 j q (by omega)
   rw [fr_succS hb]
   have ec : cB h (nT h (a - 1)) b (j + 1) = cB h (nT h (a - 1)) b j + if nT h (a - 1) <= j /\ brN h j = b then 1 else 0 := rfl
   by_cases e : brN h j = b
   ·rw [if_pos e, ec, if_pos ⟨q, e⟩]
    have hs := hS j (by omega)
    have ht : (svAt h j).tk <= max ((frH f h j).getD b 0) a := by
     refine Int.not_lt.1 fun c => ?_
     have bx := hB ((svAt h j).tk - 1) (by omega) (by omega) b hb
     have hn : nT h ((svAt h j).tk - 1) <= j := i.cut_le (by omega) (by omega)
     have := i.fr_mono hb j hn (by omega)
     omega
    rw [show ((cB h (nT h (a - 1)) b j + 1 : Nat) : Int) = (cB h (nT h (a - 1)) b j : Int) + 1 by omega, Int.mul_add, Int.mul_one]
    omega
   ·rw [if_neg e, ec, if_neg (fun c => e c.2), Nat.add_zero]
    exact ih
end
theorem cnt_hold {l : List Rq} {q : Prem} (hb : 0 <= q.burst) (hp : 1 <= q.period) (h : l.all (fun x => l.all (pairOk l q x)) = true) {a b : Int} (hab : a <= b + 1) : (cntIn l a b l.length : Int) <= q.burst + (b - a + 1) / q.period := by
 have cr : ∀ a b : Int, cntIn l a b l.length = crN (fun k => decide (a <= (l.getD k zeroQ).at_) && decide ((l.getD k zeroQ).at_ <= b)) l.length := fun a b => by
  show ((l.take l.length).filter _).length = _
  rw [List.take_length]
  have : ∀ (L : List Rq) (p : Rq -> Bool), (L.filter p).length = crN (fun k => p (L.getD k zeroQ)) L.length := by
   intro L p
   have e : L = (List.range L.length).map fun k => L.getD k zeroQ := by
    refine List.ext_getElem? fun k => ?_
    rw [List.getElem?_map]
    by_cases c : k < L.length
    ·rw [List.getElem?_range c, List.getElem?_eq_getElem c]
     show _ = some (L.getD k zeroQ)
     rw [List.getD_eq_getElem?_getD, List.getElem?_eq_getElem c]; rfl
    ·rw [List.getElem?_eq_none (by omega), List.getElem?_eq_none (by rw [List.length_range]; omega)]; rfl
   conv => lhs; rw [e]
   rw [List.filter_map, List.length_map]; rfl
  exact this _ _
 have h0 : 0 <= (b - a + 1) / q.period := Int.ediv_nonneg (by omega) (by omega)
 let P : Nat -> Prop := fun k => a <= (l.getD k zeroQ).at_ /\ (l.getD k zeroQ).at_ <= b
 rcases Classical.em (∃ k, k < l.length /\ P k) with w | w
 ·-- the first and the last one
  have ext : ∀ (g : Nat -> Int) (n : Nat), (∃ k, k < n /\ P k) -> ∃ k, k < n /\ P k /\ ∀ j, j < n -> P j -> g k <= g j := by
   intro g n
   induction n with
   | zero => rintro ⟨k, hk, _⟩; exact absurd hk (Nat.not_lt_zero _)
   | succ n ih =>
    rintro ⟨k, hk, pk⟩
    rcases Classical.em (∃ k, k < n /\ P k) with c | c
    ·obtain ⟨k, hk, pk, hm⟩ := ih c
     rcases Classical.em (P n /\ g n < g k) with d | d
     ·refine ⟨n, by omega, d.1, fun j hj pj => ?_⟩
      rcases Nat.lt_or_ge j n with q | q
      ·have := hm j q pj; omega
      ·rw [show j = n by omega]; exact Int.le_refl _
     ·refine ⟨k, by omega, pk, fun j hj pj => ?_⟩
      rcases Nat.lt_or_ge j n with q | q
      ·exact hm j q pj
      ·have e : j = n := by omega
       subst e
       exact Int.not_lt.1 fun c => d ⟨pj, c⟩
    ·refine ⟨k, hk, pk, fun j hj pj => ?_⟩
     have e1 : k = n := by
      rcases Nat.lt_or_ge k n with q | q
      ·exact absurd ⟨k, q, pk⟩ c
      ·omega
     have e2 : j = n := by
      rcases Nat.lt_or_ge j n with q | q
      ·exact absurd ⟨j, q, pj⟩ c
      ·omega
     rw [e1, e2]; exact Int.le_refl _
  obtain ⟨x, hx, px, mx⟩ := ext (fun k => (l.getD k zeroQ).at_) l.length w
  obtain ⟨y, hy, py, my⟩ := ext (fun k => -(l.getD k zeroQ).at_) l.length w
  have hl : cntIn l a b l.length <= cntIn l (l.getD x zeroQ).at_ (l.getD y zeroQ).at_ l.length := by
   rw [cr, cr]
   refine crN_mono fun t ht c => ?_
   rw [Bool.and_eq_true, decide_eq_true_eq, decide_eq_true_eq] at c ⊢
   have m1 := mx t ht c
   have m2 := my t ht c
   exact ⟨m1, by omega⟩
  have g := List.all_eq_true.1 (List.all_eq_true.1 h _ (getD_mem (d := zeroQ) hx)) _ (getD_mem (d := zeroQ) hy)
  unfold pairOk at g
  rw [Bool.or_eq_true] at g
  rcases g with g | g
  ·have := of_decide_eq_true g
   have := mx y hy py
   omega
  ·unfold tight at g
   have g := of_decide_eq_true g
   have hd : ((l.getD y zeroQ).at_ - (l.getD x zeroQ).at_ + 1) / q.period <= (b - a + 1) / q.period := Int.ediv_le_ediv (by omega) (by have := px.1; have := py.2; omega)
   omega
 ·have e : cntIn l a b l.length = 0 := by
   rw [cr]
   have : ∀ m, m <= l.length -> crN (fun k => decide (a <= (l.getD k zeroQ).at_) && decide ((l.getD k zeroQ).at_ <= b)) m = 0 := by
    intro m
    induction m with
    | zero => intro _; rfl
    | succ m ih =>
     intro hm
     rw [crN_succ, ih (by omega), if_neg]
     intro c
     rw [Bool.and_eq_true, decide_eq_true_eq, decide_eq_true_eq] at c
     exact w ⟨m, by omega, c⟩
   exact this _ (Nat.le_refl _)
  rw [e]; omega
theorem w_top {m P S b W : Int} (hP : 1 <= P) (hS : 1 <= S) (hm : 1 <= m) (hb : 0 <= b) (hW : 0 <= W) (hPm : S < P * m) (hc : m * ((W + S - 1) / S - 1) + 2 <= b + W / P) : W <= (b + m) * P * S := by
 have q1 : W <= ((W + S - 1) / S) * S := by
  have := Int.lt_ediv_add_one_mul_self (W + S - 1) (show 0 < S by omega)
  rw [Int.add_mul, Int.one_mul] at this
  omega
 have q2 : (W / P) * P <= W := Int.ediv_mul_le W (by omega)
 generalize (W + S - 1) / S = Q at *
 generalize W / P = V at *
 have hPS : 0 <= P * S := Int.mul_nonneg (by omega) (by omega)
 have e1 := Int.mul_le_mul_of_nonneg_right hc hPS
 have e2 : (V * P) * S <= W * S := Int.mul_le_mul_of_nonneg_right q2 (by omega)
 have e3 : (m * P) * W <= (m * P) * (Q * S) := Int.mul_le_mul_of_nonneg_left q1 (Int.mul_nonneg (by omega) (by omega))
 have e4 : W * 1 <= W * (P * m - S) := Int.mul_le_mul_of_nonneg_left (by omega) hW
 have e5 : (m * (Q - 1) + 2) * (P * S) = (m * P) * (Q * S) - m * (P * S) + 2 * (P * S) := by
  rw [Int.add_mul, Int.mul_sub, Int.sub_mul, Int.mul_one]
  congr 2
  simp only [Int.mul_comm, Int.mul_left_comm]
 have e6 : (b + V) * (P * S) = b * (P * S) + (V * P) * S := by
  rw [Int.add_mul]; congr 1; simp only [Int.mul_assoc]
 have e7 : (b + m) * P * S = b * (P * S) + m * (P * S) := by
  rw [Int.mul_assoc, Int.add_mul]
 have e8 : W * (P * m - S) = (m * P) * W - W * S := by
  rw [Int.mul_sub]; congr 1; rw [Int.mul_comm P m, Int.mul_comm]
 rw [e7]
 omega
theorem Hist.bound {f : Fleet} {p : Pol} {l : List Rq} {h : List Sv} (i : Hist f p l h) {q : Prem} (oq : PreOk q) (hh : holdOk f l q = true) (he : ¬ q.period * (f.b.length : Int) <= q.service) {k : Nat} (hk : k < h.length) : (svAt h k).tk - (rqAt l (svAt h k).rq).at_ <= (lastW (boundC f.b.length q) (topW f q) : Int) := by
 obtain ⟨a1, a2, a3, a4, a5, a6, a7⟩ := i.facts hk
 rcases Int.lt_or_le (rqAt l (svAt h k).rq).at_ (svAt h k).tk with hw | hw
 rotate_left
 ·omega
 have hS1 := oq.service.1
 have hP1 := oq.period.1
 have hB0 := oq.burst.1
 have hfit : ∀ x ∈ l, fits f q x = true := fun x hx => by
  have := List.all_eq_true.1 hh x hx
  unfold holdAt at this
  exact (Bool.and_eq_true _ _ ▸ this).1
 have hpair : l.all (fun x => l.all (pairOk l q x)) = true := by
  rw [hold_split, rows_pairs] at hh
  exact (Bool.and_eq_true _ _ ▸ hh).2
 have hS : ∀ j, j < h.length -> (svAt h j).nd <= (svAt h j).tk + q.service := fun j hj => by
  obtain ⟨b1, b2, b3, b4, b5, b6, b7⟩ := i.facts hj
  have hf := hfit (rqAt l (svAt h j).rq) (getD_mem (by omega))
  unfold fits at hf
  have hf := of_decide_eq_true hf
  have pin := plH_in i.fl i.ls h j (brN h j) b2
  have hr := Int.toNat_of_nonneg pin.1
  have hrow : Int.toNat ((plH f l h j).getD (brN h j) 0) < f.t.length := by omega
  have tv : trav f ((plH f l h j).getD (brN h j) 0) (rqAt l (svAt h j).rq).place <= farTo f f.t.length := by
   unfold trav farTo
   rw [List.take_length]
   have pl := (i.ls.ok (Int.toNat (svAt h j).rq) (by omega)).place
   have pl : 0 <= (rqAt l (svAt h j).rq).place /\ (rqAt l (svAt h j).rq).place <= (f.t.length : Int) - 1 := pl
   have hrl := i.fl.row _ hrow
   have up : ∀ (L : List Int) (x : Int), x ∈ L -> x <= maxL L := fun L => by
    have : ∀ (L : List Int) (c : Int), c <= L.foldl max c /\ ∀ x ∈ L, x <= L.foldl max c := by
     intro L
     induction L with
     | nil => intro c; exact ⟨Int.le_refl _, fun x hx => by cases hx⟩
     | cons y L ih =>
      intro c
      obtain ⟨g1, g2⟩ := ih (max c y)
      refine ⟨by show c <= L.foldl max (max c y); omega, fun x hx => ?_⟩
      show x <= L.foldl max (max c y)
      rcases List.mem_cons.1 hx with rfl | hx
      ·omega
      ·exact g2 x hx
    exact fun x hx => (this L 0).2 x hx
   refine Int.le_trans (up _ _ (getD_mem (by omega))) (up _ _ (List.mem_map.2 ⟨_, getD_mem hrow, rfl⟩))
  omega
 have hT0 : ((rqAt l (svAt h k).rq).at_).toNat < ((rqAt l (svAt h k).rq).at_).toNat + 1 := Nat.lt_succ_self _
 obtain ⟨a, ha, hPa, hmin⟩ := @leastN (fun a => ∀ x : Int, (a : Int) <= x -> x < (svAt h k).tk -> Busy f h x) (fun _ => Classical.propDecidable _) _ ⟨_, hT0, fun x h1 h2 => i.busy hk (by omega) h2⟩
 have hA : (a : Int) <= (rqAt l (svAt h k).rq).at_ := by omega
 have hidle : ∃ b0, b0 < f.b.length /\ (frH f h (nT h ((a : Int) - 1))).getD b0 0 <= (a : Int) := by
  rcases Nat.eq_zero_or_pos a with e | e
  ·refine ⟨0, by have := i.fl.b1; omega, ?_⟩
   have : nT h ((a : Int) - 1) = 0 := by
    refine Nat.eq_zero_of_not_pos fun c => ?_
    obtain ⟨c1, c2, _⟩ := i.cut ((a : Int) - 1)
    have := c2 0 c
    have := i.tk0 0 (by omega)
    omega
   rw [this, fr_0S (by have := i.fl.b1; omega)]; omega
  ·have hn := hmin (a - 1) (by omega)
   have hnb : ¬ Busy f h ((a : Int) - 1) := fun c => hn fun x h1 h2 => by
    rcases Int.lt_or_le x (a : Int) with z | z
    ·rw [show x = (a : Int) - 1 by omega]; exact c
    ·exact hPa x z h2
   refine Classical.byContradiction fun c => hnb fun b hb => ?_
   refine Int.not_le.1 fun d => c ⟨b, hb, by omega⟩
 obtain ⟨T, eT⟩ : ∃ T, (svAt h k).tk = T := ⟨_, rfl⟩
 simp only [eT] at hPa hmin hw a4 a5 a6 a7 ⊢
 obtain ⟨e1, e2, e3⟩ := i.cut ((a : Int) - 1)
 obtain ⟨c1, c2, c3⟩ := i.cut (T - 1)
 have hnn : nT h ((a : Int) - 1) <= nT h (T - 1) := by
  refine Nat.not_lt.1 fun c => ?_
  have := e2 (nT h (T - 1)) c
  have := c3 (nT h (T - 1)) (Nat.le_refl _) (by omega)
  omega
 obtain ⟨W, eW⟩ : ∃ W : Nat, (W : Int) = T - (a : Int) := ⟨Int.toNat (T - a), by omega⟩
 have hW : 0 < W := by omega
 obtain ⟨Q, eQ⟩ : ∃ Q : Nat, (Q : Int) = ((W : Int) + q.service - 1) / q.service := ⟨Int.toNat (((W : Int) + q.service - 1) / q.service), by
  have := Int.ediv_nonneg (a := (W : Int) + q.service - 1) (b := q.service) (by omega) (by omega)
  omega⟩
 have hQ1 : 1 <= Q := by
  have : 1 <= ((W : Int) + q.service - 1) / q.service := by
   rw [Int.le_ediv_iff_mul_le (by omega)]; omega
  omega
 have grow : ∀ b, b < f.b.length -> T <= max ((frH f h (nT h ((a : Int) - 1))).getD b 0) (a : Int) + q.service * (cB h (nT h ((a : Int) - 1)) b (nT h (T - 1)) : Int) := fun b hb => by
  have g := fr_grow i hS hPa hb hS1 (nT h (T - 1)) hnn (Nat.le_refl _)
  have := hPa (T - 1) (by omega) (by omega) b hb
  omega
 have lb : ∀ b, b < f.b.length -> Q - 1 <= cB h (nT h ((a : Int) - 1)) b (nT h (T - 1)) := fun b hb => by
  have g := grow b hb
  have u := fr_upto i hS (a := (a : Int)) (by omega) hS1 hb _ (Nat.le_refl _)
  generalize cB h (nT h ((a : Int) - 1)) b (nT h (T - 1)) = c at *
  have : (Q : Int) <= (c : Int) + 1 := by
   rw [eQ]
   have : ((W : Int) + q.service - 1) / q.service < (c : Int) + 2 := by
    rw [Int.ediv_lt_iff_lt_mul (by omega), Int.add_mul]
    rw [Int.mul_comm] at g
    omega
   omega
  omega
 obtain ⟨b0, hb0, hi0⟩ := hidle
 have lb0 : Q - 1 + 1 <= cB h (nT h ((a : Int) - 1)) b0 (nT h (T - 1)) := by
  have g := grow b0 hb0
  rw [show max ((frH f h (nT h ((a : Int) - 1))).getD b0 0) (a : Int) = (a : Int) by omega] at g
  generalize cB h (nT h ((a : Int) - 1)) b0 (nT h (T - 1)) = c at *
  have : (Q : Int) <= (c : Int) := by
   rw [eQ]
   have : ((W : Int) + q.service - 1) / q.service < (c : Int) + 1 := by
    rw [Int.ediv_lt_iff_lt_mul (by omega), Int.add_mul, Int.one_mul]
    rw [Int.mul_comm] at g
    omega
   omega
  omega
 have sum := sumTo_lb1 lb hb0 lb0
 rw [cB_sum i _ _ c1] at sum
 have inWin : ∀ j, j < h.length -> (a : Int) <= (svAt h j).tk -> (svAt h j).tk < T ∨ j = k -> (a : Int) <= (rqAt l (svAt h j).rq).at_ /\ (rqAt l (svAt h j).rq).at_ <= T - 1 := fun j hj h1 h2 => by
  obtain ⟨b1, b2, b3, b4, _⟩ := i.facts hj
  have lo : (a : Int) <= (rqAt l (svAt h j).rq).at_ := by
   refine Int.not_lt.1 fun c => ?_
   have hb := i.busy hj (x := (a : Int) - 1) (by omega) (by omega)
   refine hmin (a - 1) (by omega) fun x h3 h4 => ?_
   rcases Int.lt_or_le x (a : Int) with z | z
   ·rw [show x = (a : Int) - 1 by omega]; exact hb
   ·exact hPa x z h4
  refine ⟨lo, ?_⟩
  rcases h2 with h2 | h2
  ·omega
  ·subst h2; omega
 have hkT : nT h (T - 1) <= k := i.cut_le hk (by omega)
 let J : List Nat := ((List.range (nT h (T - 1) - nT h ((a : Int) - 1))).map fun j => Int.toNat (svAt h (nT h ((a : Int) - 1) + j)).rq) ++ [Int.toNat (svAt h k).rq]
 have hJ : J.length = nT h (T - 1) - nT h ((a : Int) - 1) + 1 := by
  show List.length (_ ++ _) = _
  rw [List.length_append, List.length_map, List.length_range]; rfl
 have ndJ : J.Nodup := by
  show List.Nodup (_ ++ _)
  rw [List.nodup_append]
  refine ⟨?_, by simp, ?_⟩
  ·rw [List.nodup_iff_pairwise_ne, List.pairwise_map]
   refine List.Pairwise.imp_of_mem (R := fun a b => a < b) ?_ List.pairwise_lt_range
   intro u v hu hv huv e
   rw [List.mem_range] at hu hv
   have := good_ne i.good (j := nT h ((a : Int) - 1) + u) (k := nT h ((a : Int) - 1) + v) (by omega) (by omega)
   have r1 := i.good.rq (nT h ((a : Int) - 1) + u) (by omega)
   have r2 := i.good.rq (nT h ((a : Int) - 1) + v) (by omega)
   omega
  ·intro x hx y hy
   rw [List.mem_singleton] at hy
   obtain ⟨u, hu, rfl⟩ := List.mem_map.1 hx
   rw [List.mem_range] at hu
   subst hy
   have := good_ne i.good (j := nT h ((a : Int) - 1) + u) (k := k) hk (by omega)
   have r1 := i.good.rq (nT h ((a : Int) - 1) + u) (by omega)
   omega
 have sub : J ⊆ (List.range l.length).filter fun t => decide ((a : Int) <= (l.getD t zeroQ).at_) && decide ((l.getD t zeroQ).at_ <= T - 1) := by
  intro x hx
  rw [List.mem_filter, List.mem_range, Bool.and_eq_true, decide_eq_true_eq, decide_eq_true_eq]
  rcases List.mem_append.1 hx with hx | hx
  ·obtain ⟨u, hu, rfl⟩ := List.mem_map.1 hx
   rw [List.mem_range] at hu
   have r1 := i.good.rq (nT h ((a : Int) - 1) + u) (by omega)
   have t1 := e3 (nT h ((a : Int) - 1) + u) (by omega) (by omega)
   have t2 := c2 (nT h ((a : Int) - 1) + u) (by omega)
   exact ⟨by omega, inWin _ (by omega) (by omega) (.inl (by omega))⟩
  ·rw [List.mem_singleton] at hx
   subst hx
   exact ⟨by omega, inWin k hk (by omega) (.inr rfl)⟩
 have hlen := ndJ.length_le_of_subset sub
 rw [hJ] at hlen
 have hcnt := cnt_hold (l := l) (q := q) hB0 hP1 hpair (a := (a : Int)) (b := T - 1) (by omega)
 have hcr : cntIn l (a : Int) (T - 1) l.length = ((List.range l.length).filter fun t => decide ((a : Int) <= (l.getD t zeroQ).at_) && decide ((l.getD t zeroQ).at_ <= T - 1)).length := by
  unfold cntIn
  rw [List.take_length]
  have e : l = (List.range l.length).map fun k => l.getD k zeroQ := by
   refine List.ext_getElem? fun k => ?_
   rw [List.getElem?_map]
   by_cases c : k < l.length
   ·rw [List.getElem?_range c, List.getElem?_eq_getElem c]
    show _ = some (l.getD k zeroQ)
    rw [List.getD_eq_getElem?_getD, List.getElem?_eq_getElem c]; rfl
   ·rw [List.getElem?_eq_none (by omega), List.getElem?_eq_none (by rw [List.length_range]; omega)]; rfl
  conv => lhs; rw [e]
  rw [List.filter_map, List.length_map]; rfl
 rw [hcr] at hcnt
 have hc : (f.b.length : Int) * (((W : Int) + q.service - 1) / q.service - 1) + 2 <= q.burst + (W : Int) / q.period := by
  rw [<- eQ]
  rw [show T - 1 - (a : Int) + 1 = (W : Int) by omega] at hcnt
  have : ((f.b.length * (Q - 1) : Nat) : Int) = (f.b.length : Int) * ((Q : Int) - 1) := by
   rw [Int.natCast_mul]; congr 1; omega
  omega
 have hbc : boundC f.b.length q W = true := decide_eq_true hc
 have htop : W <= topW f q := by
  have := w_top (m := (f.b.length : Int)) (P := q.period) (S := q.service) (b := q.burst) (W := (W : Int)) hP1 hS1 (by have := i.fl.b1; omega) hB0 (by omega) (by omega) hc
  unfold topW
  omega
 have := lastW_ge hbc hW _ htop
 omega
end
end Go.Proofs.YthdekmpkioikdaaGreat
/- Request: what RequestBounded speaks of. No condition. -/
namespace Go.Proofs.YthdekmpkioikdaaGreat
set_option linter.unusedSimpArgs false
set_option linter.unusedVariables false
open Go Go.K
def lenTo (l : List Rq) (k : Nat) : Int := maxL ((l.take k).map Rq.len)
def mkR (L : List Int) (y b : Int) : Prem := ⟨b, 1 + y % 30, max (farTo (mkF L) (mkF L).t.length + lenTo (mkQ L 25) (mkQ L 25).length) 1⟩
end Go.Proofs.YthdekmpkioikdaaGreat
