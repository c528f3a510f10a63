/- Radio: the examples of the chapter (awake). No condition. -/
import Derived.Test.YtbgfjemppjhmjaaGreatGO7gxZ5
import Derived.Test.YtbgfjemppjhmjaaGreatGK27xW1
import Derived.Test.YtbgfjemppjhmjaaGreatGW2xP2
namespace Go.Proofs.YtbgfjemppjhmjaaGreat
open Go Go.K
set_option maxRecDepth 100000
set_option linter.unusedVariables false
set_option linter.unusedSimpArgs false
noncomputable section
attribute [local irreducible] vF
theorem hvAwake : Rawake (.bool true) := by
 unfold Rawake
 refine ⟨trivial, fun H' hl h => ?_, ⟨rfl, rfl, trivial⟩, fun H' hl h => ?_, ⟨rfl, rfl, trivial⟩, fun H' hl h => ?_, ⟨rfl, rfl, trivial⟩, fun H' hl h => ?_, ⟨rfl, rfl, trivial⟩, fun H' hl h => ?_, ⟨rfl, rfl, trivial⟩, fun H' hl h => ?_, ⟨rfl, rfl, trivial⟩, fun H' hl h => ?_, ⟨rfl, rfl, trivial⟩, fun H' hl h => ?_, ⟨rfl, rfl, trivial⟩, fun H' hl h => ?_, ⟨rfl, rfl, trivial⟩, fun H' hl h => ?_, rfl⟩
 ·have := kNew H'
  rw [hl] at this; exact this
 ·have := kAdd [] mA h.1 h.2.1
  rw [show addL [] mA = [mA] by decide, show addB [] mA = true by decide, show addErr [] mA = 0 by decide] at this; exact this
 ·have := kAdd [mA] mB h.1 h.2.1
  rw [show addL [mA] mB = [mA, mB] by decide, show addB [mA] mB = true by decide, show addErr [mA] mB = 0 by decide] at this; exact this
 ·have := kLive okAB (by decide) (H := H') (by decide) h.1 h.2.1
  rw [hl, liveAB] at this; exact this
 ·have := kGaps (a := 1) okAB (by decide) (by decide) (by decide) (H := H') (by decide) h.1 h.2.1
  rw [hl, gapsAB] at this; exact this
 ·have := kAdd [mA, mB] mC h.1 h.2.1
  rw [show addL [mA, mB] mC = [mA, mB, mC] by decide, show addB [mA, mB] mC = true by decide, show addErr [mA, mB] mC = 0 by decide] at this; exact this
 ·have := kLive okABC (by decide) (H := H') (by decide) h.1 h.2.1
  rw [hl, liveABC] at this; exact this
 ·have k := C24_956383489 (H := H') [15, 21] ⟨⟨_, _, h.1⟩, ⟨_, _, h.2.1⟩, trivial⟩
  rw [hl] at k; exact k
 ·have k := C18_377635839 (H := H') [15, 25] ⟨⟨_, _, h.1⟩, ⟨_, _, h.2.1⟩, trivial⟩
  rw [hl] at k; exact k
 ·have k := C19_643444466 (H := H') [15, 25] ⟨⟨_, _, h.1⟩, ⟨_, _, h.2.1⟩, trivial⟩
  rw [hl] at k; exact k
theorem kAwake (H : Heap) : KCall prog 14 [] H [] (Is (.bool true) H) :=
 valB (v := .bool true) (css := []) (ids := []) (Eq.mpr (Eawake _) hvAwake) (hv := rfl) (hi := trivial) (ha := rfl)
end
end Go.Proofs.YtbgfjemppjhmjaaGreat
/- What is to be shown of functions. Printed by a program. No condition. -/
namespace Go.Proofs.YtbgfjemppjhmjaaGreat
set_option linter.unusedSimpArgs false
open Go Go.K
set_option maxRecDepth 100000
set_option maxHeartbeats 4000000
set_option linter.unusedVariables false
noncomputable section
def RPick (sp : Value) (x n : Int) : Prop :=
 (((decide ((n : Int) < 1)) = true -> (.int .i64 0 : Value) = sp) /\ ((decide ((n : Int) < 1)) = false -> (((n : Int) ≠ 0) /\ (((decide (((Int.tmod x n) : Int) < 0)) = true -> ((.int .i64 (IntKind.wrap .i64 ((Int.tmod x n) + n)) : Value) = .int .i64 ((Int.tmod x n) + n) /\ (.int .i64 ((Int.tmod x n) + n) : Value) = sp)) /\ ((decide (((Int.tmod x n) : Int) < 0)) = false -> (.int .i64 (Int.tmod x n) : Value) = sp)))))
theorem EPick (sp : Value) (x n : Int) : vF prog msk (dm 0) 100000 true 40 true 16 [.int .i64 x, .int .i64 n] ⟨0, .leaf⟩ (some [])
 (.go 2 (.fork (.auto) (.go 1 (.need (.go 2 (.fork (.go 2 (.slot 15 (.int .i64 ((Int.tmod x n) + n)) (.auto))) (.auto)))))))
 (fun v _ _ => v = sp) = RPick sp x n := by kernel_rfl
def RNext (L : List Int) (n m : Int) : Prop :=
 (((decide ((0 : Int) < (((List.length L) : Nat) : Int))) = true -> ((((((List.length L) : Nat) : Int) : Int) ≠ 0) /\ (((0 : Int) <= (Int.tmod n (((List.length L) : Nat) : Int)) /\ ((Int.tmod n (((List.length L) : Nat) : Int)) : Int) < (((List.length L) : Nat) : Int)) /\ (((List.flatMap intC L)[(Int.toNat (Int.tmod n (((List.length L) : Nat) : Int)) * 1)]? = some (.int .i64 (List.getD L (Int.toNat (Int.tmod n (((List.length L) : Nat) : Int))) 0))) /\ ((((((List.length L) : Nat) : Int) : Int) ≠ 0) /\ (∃ y0 : Int, (.int .i64 (IntKind.wrap .i64 (Int.tdiv n (((List.length L) : Nat) : Int))) : Value) = .int .i64 y0 /\ (∃ y1 : Int, (.int .i64 (IntKind.wrap .i64 ((List.getD L (Int.toNat (Int.tmod n (((List.length L) : Nat) : Int))) 0) + y0)) : Value) = .int .i64 y1 /\ ((True) /\ (∀ H' : Heap, H'.length = 1 -> (True) -> KCall prog 16 [.int .i64 y1, .int .i64 m] H' [] (Is (.int .i64 (y1 % m)) H')) /\ (true = true /\ wk (.int .i64 (y1 % m) : Value) (rn (sg 1 []) 3 (.int .i64 (dN L n m) : Value)) /\ ((some (.cells true 0 [.iface ((List.length L) + 1) (.agg ⟨(List.flatMap intC L)⟩), .int .i64 (IntKind.wrap .i64 (n + 1))] : KObj) = some (.cells true 0 [.iface ((List.length L) + 1) (.agg ⟨(List.flatMap intC L)⟩), .int .i64 (n + 1)] : KObj) /\ belowO 1 (.cells true 0 [.iface ((List.length L) + 1) (.agg ⟨(List.flatMap intC L)⟩), .int .i64 (n + 1)] : KObj) = true) /\ True) /\ (True)))))))))) /\ ((decide ((0 : Int) < (((List.length L) : Nat) : Int))) = false -> ((True) /\ (∀ H' : Heap, H'.length = 1 -> (True) -> KCall prog 16 [.int .i64 0, .int .i64 m] H' [] (Is (.int .i64 (0 % m)) H')) /\ (true = true /\ wk (.int .i64 (0 % m) : Value) (rn (sg 1 []) 3 (.int .i64 (dN L n m) : Value)) /\ ((some (.cells true 0 [.iface ((List.length L) + 1) (.agg ⟨(List.flatMap intC L)⟩), .int .i64 (IntKind.wrap .i64 (n + 1))] : KObj) = some (.cells true 0 [.iface ((List.length L) + 1) (.agg ⟨(List.flatMap intC L)⟩), .int .i64 (n + 1)] : KObj) /\ belowO 1 (.cells true 0 [.iface ((List.length L) + 1) (.agg ⟨(List.flatMap intC L)⟩), .int .i64 (n + 1)] : KObj) = true) /\ True) /\ (True)))))
theorem ENext (L : List Int) (n m : Int) : vF prog msk (dm 0) 100000 true 40 true 27 [.pointer (some ⟨0, 0, none⟩), .int .i64 m] (readsW 0 0 (digC L n) []) (some [0])
 (.go 7 (.fork (.go 12 (.need (.need (.val (.int .i64 (List.getD L (Int.toNat (Int.tmod n (((List.length L) : Nat) : Int))) 0)) (.go 8 (.need (.bind Int (fun y0 => .slot 37 (.int .i64 y0) (.go 0 (.bind Int (fun y1 => .slot 38 (.int .i64 y1) (.go 10 (.ans [] (.int .i64 (y1 % m)) [] (.go 0 (.keep (.again [])))))))))))))))) (.go 9 (.ans [] (.int .i64 (0 % m)) [] (.go 0 (.keep (.again [])))))))
 (newKW ((readsW 0 0 (digC L n) []) : HT).n 3 0 (.cells true 0 [.iface ((List.length L) + 1) (.agg ⟨(List.flatMap intC L)⟩), .int .i64 (n + 1)]) (.int .i64 (dN L n m)) []) = RNext L n m := by kernel_rfl
end
end Go.Proofs.YtbgfjemppjhmjaaGreat
/- Radio: numbers. No condition. -/
namespace Go.Proofs.YtbgfjemppjhmjaaGreat
open Go Go.K
set_option maxRecDepth 100000
set_option linter.unusedVariables false
set_option linter.unusedSimpArgs false
noncomputable section
attribute [local irreducible] vF
theorem tmod_emod {x n : Int} (hn : 1 <= n) : (Int.tmod x n < 0 -> Int.tmod x n + n = x % n) /\ (¬ Int.tmod x n < 0 -> Int.tmod x n = x % n) /\ -n < Int.tmod x n /\ Int.tmod x n < n := by
 have h1 := Int.mul_tdiv_add_tmod x n
 have h2 := Int.lt_tmod_of_pos x (by omega : 0 < n)
 have h3 := Int.tmod_lt_of_pos x (by omega : 0 < n)
 refine ⟨fun h => ?_, fun h => ?_, h2, h3⟩
 ·have : x = (Int.tmod x n + n) + n * (x.tdiv n - 1) := by rw [Int.mul_sub]; omega
  rw [this, Int.add_mul_emod_self_left, <- this]
  exact (Int.emod_eq_of_lt (by omega) (by omega)).symm
 ·have : x = Int.tmod x n + n * x.tdiv n := by omega
  conv => rhs; rw [this, Int.add_mul_emod_self_left]
  exact (Int.emod_eq_of_lt (by omega) (by omega)).symm
theorem kPick (x n : Int) (h1 : 1 <= n) (h2 : n <= 9223372036854775807) (H : Heap) : KCall prog 16 [.int .i64 x, .int .i64 n] H [] (Is (.int .i64 (x % n)) H) := by
 refine valK 40 (fun _ => rfl) rfl (Eq.mpr (EPick _ x n) ?_) H
 obtain ⟨t1, t2, t3, t4⟩ := tmod_emod (x := x) h1
 unfold RPick
 exact forkD (fun h => by omega) (fun _ => ⟨by omega, forkD (fun h => ⟨vI64 (by omega), iEq (t1 h)⟩) (fun h => iEq (t2 h))⟩)
theorem plainDig (m : Nat) (L : List Int) (n : Int) : (digC L n).all (belowC m) = true := by
 show ((L.flatMap intC).all (belowD m) && (true && true)) = true
 rw [all_belowD]; rfl
theorem digO (m : Nat) (L : List Int) (n : Int) : belowO m (.cells true 0 (digC L n)) = true := plainDig m L n
theorem tmod_len {L : List Int} {n : Int} (hn : 0 <= n) (hL : 0 < L.length) : 0 <= Int.tmod n ((L.length : Nat) : Int) /\ Int.tmod n ((L.length : Nat) : Int) < ((L.length : Nat) : Int) := by
 rw [Int.tmod_eq_emod_of_nonneg hn]
 exact ⟨Int.emod_nonneg _ (by omega), Int.emod_lt_of_pos _ (by omega)⟩
theorem kNext (L : List Int) (n m : Int) (hn : 0 <= n /\ n <= 1000000000) (hm : 1 <= m /\ m <= 1000000000) {H : Heap} {D : Nat} (hD : H[D]? = some (.cells true 0 (digC L n))) :
  KCall prog 27 [.pointer (some ⟨D, 0, none⟩), .int .i64 m] H [D] (Is (.int .i64 (dN L n m)) (H.set D (.cells true 0 (digC L (n + 1))))) := by
 have key : KCall prog 27 [.pointer (some ⟨D, 0, none⟩), .int .i64 m] H [D] (Is (.int .i64 (dN L n m)) (H.set D (.cells true 0 (digC L (n + 1))) ++ [])) := by
  refine valW (fun _ => .int .i64 (dN L n m)) (css := []) (new := []) (Eq.mpr (ENext L n m) ?_) (plainDig 0 L n) (plainDig 0 L (n + 1)) trivial trivial rfl rfl (fun _ => rfl) hD (ids := []) trivial (by simp) rfl
  unfold RNext
  have hw : IntKind.wrap .i64 (n + 1) = n + 1 := wI64 (by omega)
  refine forkD (fun k => ?_) (fun k => ?_)
  ·have hL : 0 < L.length := by omega
   have hd : dVal L n = IntKind.wrap .i64 (L.getD (Int.toNat (Int.tmod n ((L.length : Nat) : Int))) 0 + IntKind.wrap .i64 (Int.tdiv n ((L.length : Nat) : Int))) := if_pos hL
   have hb := tmod_len hn.1 hL
   refine ⟨by omega, hb, intAt (by omega) (by omega), by omega, _, rfl, _, rfl, trivial, fun H' _ _ => kPick _ _ (by omega) (by omega) H', rfl, ?_, ⟨⟨by rw [hw], digO _ _ _⟩, trivial⟩, trivial⟩
   unfold dN
   rw [hd]; exact wk_refl _
  ·have hd : dVal L n = 0 := if_neg (by omega)
   refine ⟨trivial, fun H' _ _ => kPick _ _ (by omega) (by omega) H', rfl, ?_, ⟨⟨by rw [hw], digO _ _ _⟩, trivial⟩, trivial⟩
   unfold dN
   rw [hd]; exact wk_refl _
 rw [List.append_nil] at key
 exact key
end
end Go.Proofs.YtbgfjemppjhmjaaGreat
/- What is to be shown of functions. Printed by a program. No condition. -/
namespace Go.Proofs.YtbgfjemppjhmjaaGreat
set_option linter.unusedSimpArgs false
open Go Go.K
set_option maxRecDepth 100000
set_option maxHeartbeats 4000000
set_option linter.unusedVariables false
noncomputable section
def RSaid (L : List Int) (n : Int) (k : Nat) : Prop :=
 (true = true /\ (0 <= k) /\ (true = true /\ ((.int .i64 0 : Value) = .int .i64 ((0 : Nat) : Int) /\ wk (.slice none 0 0 : Value) (.slice (some ⟨0, 0, some 1⟩) (List.length (saidS L n 0).1) (List.length (saidS L n 0).1) : Value) /\ (.int .i64 ((k : Nat) : Int) : Value) = .int .i64 ((k : Nat) : Int) /\ (.pointer (some ⟨0, 0, none⟩) : Value) = .pointer (some ⟨0, 0, none⟩) /\ (.slice none 0 0 : Value) = .slice none 0 0 /\ True) /\ ((some (.cells true 0 [.iface ((List.length L) + 1) (.agg ⟨(List.flatMap intC L)⟩), .int .i64 n] : KObj) = some (.cells true 0 [.iface ((List.length L) + 1) (.agg ⟨(List.flatMap intC L)⟩), .int .i64 (saidS L n 0).2] : KObj) /\ belowO 1 (.cells true 0 [.iface ((List.length L) + 1) (.agg ⟨(List.flatMap intC L)⟩), .int .i64 (saidS L n 0).2] : KObj) = true) /\ True) /\ (True /\ True) /\ (True)) /\ (∀ x0 : Nat, true = true) /\ ∀ x0 : Nat, (x0 <= k) -> (((decide ((((x0 : Nat) : Int) : Int) < ((k : Nat) : Int))) = true -> (((some (.cells true 0 [.iface ((List.length L) + 1) (.agg ⟨(List.flatMap intC L)⟩), .int .i64 (saidS L n x0).2] : KObj) = some (.cells true 0 [.iface ((List.length L) + 1) (.agg ⟨(List.flatMap intC L)⟩), .int .i64 (saidS L n x0).2] : KObj)) /\ True) /\ (∀ H' : Heap, H'.length = 2 -> (H'[0]? = some (.cells true 0 [.iface ((List.length L) + 1) (.agg ⟨(List.flatMap intC L)⟩), .int .i64 (saidS L n x0).2] : KObj) /\ True) -> KCall prog 27 [.pointer (some ⟨0, 0, none⟩), .int .i64 4] H' [0] (Is (.int .i64 (dN L (saidS L n x0).2 4)) (List.set H' 0 (.cells true 0 [.iface ((List.length L) + 1) (.agg ⟨(List.flatMap intC L)⟩), .int .i64 ((saidS L n x0).2 + 1)] : KObj)))) /\ ((.int .i64 (IntKind.wrap .i64 (1 + (dN L (saidS L n x0).2 4))) : Value) = .int .i64 (1 + (dN L (saidS L n x0).2 4)) /\ (((some (.cells true 0 [.iface ((List.length L) + 1) (.agg ⟨(List.flatMap intC L)⟩), .int .i64 ((saidS L n x0).2 + 1)] : KObj) = some (.cells true 0 [.iface ((List.length L) + 1) (.agg ⟨(List.flatMap intC L)⟩), .int .i64 ((saidS L n x0).2 + 1)] : KObj)) /\ True) /\ (∀ H' : Heap, H'.length = 2 -> (H'[0]? = some (.cells true 0 [.iface ((List.length L) + 1) (.agg ⟨(List.flatMap intC L)⟩), .int .i64 ((saidS L n x0).2 + 1)] : KObj) /\ True) -> KCall prog 27 [.pointer (some ⟨0, 0, none⟩), .int .i64 12] H' [0] (Is (.int .i64 (dN L ((saidS L n x0).2 + 1) 12)) (List.set H' 0 (.cells true 0 [.iface ((List.length L) + 1) (.agg ⟨(List.flatMap intC L)⟩), .int .i64 (((saidS L n x0).2 + 1) + 1)] : KObj)))) /\ ((.int .i64 (IntKind.wrap .i64 (1 + (dN L ((saidS L n x0).2 + 1) 12))) : Value) = .int .i64 (1 + (dN L ((saidS L n x0).2 + 1) 12)) /\ (((some (.cells true 0 [.iface ((List.length L) + 1) (.agg ⟨(List.flatMap intC L)⟩), .int .i64 (((saidS L n x0).2 + 1) + 1)] : KObj) = some (.cells true 0 [.iface ((List.length L) + 1) (.agg ⟨(List.flatMap intC L)⟩), .int .i64 (((saidS L n x0).2 + 1) + 1)] : KObj)) /\ True) /\ (∀ H' : Heap, H'.length = 2 -> (H'[0]? = some (.cells true 0 [.iface ((List.length L) + 1) (.agg ⟨(List.flatMap intC L)⟩), .int .i64 (((saidS L n x0).2 + 1) + 1)] : KObj) /\ True) -> KCall prog 27 [.pointer (some ⟨0, 0, none⟩), .int .i64 50] H' [0] (Is (.int .i64 (dN L (((saidS L n x0).2 + 1) + 1) 50)) (List.set H' 0 (.cells true 0 [.iface ((List.length L) + 1) (.agg ⟨(List.flatMap intC L)⟩), .int .i64 ((((saidS L n x0).2 + 1) + 1) + 1)] : KObj)))) /\ (((some (.cells true 0 [.iface ((List.length L) + 1) (.agg ⟨(List.flatMap intC L)⟩), .int .i64 ((((saidS L n x0).2 + 1) + 1) + 1)] : KObj) = some (.cells true 0 [.iface ((List.length L) + 1) (.agg ⟨(List.flatMap intC L)⟩), .int .i64 ((((saidS L n x0).2 + 1) + 1) + 1)] : KObj)) /\ True) /\ (∀ H' : Heap, H'.length = 2 -> (H'[0]? = some (.cells true 0 [.iface ((List.length L) + 1) (.agg ⟨(List.flatMap intC L)⟩), .int .i64 ((((saidS L n x0).2 + 1) + 1) + 1)] : KObj) /\ True) -> KCall prog 27 [.pointer (some ⟨0, 0, none⟩), .int .i64 3] H' [0] (Is (.int .i64 (dN L ((((saidS L n x0).2 + 1) + 1) + 1) 3)) (List.set H' 0 (.cells true 0 [.iface ((List.length L) + 1) (.agg ⟨(List.flatMap intC L)⟩), .int .i64 (((((saidS L n x0).2 + 1) + 1) + 1) + 1)] : KObj)))) /\ ((.int .i64 (IntKind.wrap .i64 (1 + (dN L ((((saidS L n x0).2 + 1) + 1) + 1) 3))) : Value) = .int .i64 (1 + (dN L ((((saidS L n x0).2 + 1) + 1) + 1) 3)) /\ (((((1 + (dN L ((((saidS L n x0).2 + 1) + 1) + 1) 3)) : Int) == 1) = true -> (((some (.cells true 0 [.iface ((List.length L) + 1) (.agg ⟨(List.flatMap intC L)⟩), .int .i64 (((((saidS L n x0).2 + 1) + 1) + 1) + 1)] : KObj) = some (.cells true 0 [.iface ((List.length L) + 1) (.agg ⟨(List.flatMap intC L)⟩), .int .i64 (((((saidS L n x0).2 + 1) + 1) + 1) + 1)] : KObj)) /\ True) /\ (∀ H' : Heap, H'.length = 3 -> (H'[0]? = some (.cells true 0 [.iface ((List.length L) + 1) (.agg ⟨(List.flatMap intC L)⟩), .int .i64 (((((saidS L n x0).2 + 1) + 1) + 1) + 1)] : KObj) /\ True) -> KCall prog 27 [.pointer (some ⟨0, 0, none⟩), .int .i64 3] H' [0] (Is (.int .i64 (dN L (((((saidS L n x0).2 + 1) + 1) + 1) + 1) 3)) (List.set H' 0 (.cells true 0 [.iface ((List.length L) + 1) (.agg ⟨(List.flatMap intC L)⟩), .int .i64 ((((((saidS L n x0).2 + 1) + 1) + 1) + 1) + 1)] : KObj)))) /\ ((.int .i64 (IntKind.wrap .i64 (1 + (dN L (((((saidS L n x0).2 + 1) + 1) + 1) + 1) 3))) : Value) = .int .i64 (1 + (dN L (((((saidS L n x0).2 + 1) + 1) + 1) + 1) 3)) /\ (((some (.cells true 0 [.iface ((List.length L) + 1) (.agg ⟨(List.flatMap intC L)⟩), .int .i64 ((((((saidS L n x0).2 + 1) + 1) + 1) + 1) + 1)] : KObj) = some (.cells true 0 [.iface ((List.length L) + 1) (.agg ⟨(List.flatMap intC L)⟩), .int .i64 ((((((saidS L n x0).2 + 1) + 1) + 1) + 1) + 1)] : KObj)) /\ True) /\ (∀ H' : Heap, H'.length = 3 -> (H'[0]? = some (.cells true 0 [.iface ((List.length L) + 1) (.agg ⟨(List.flatMap intC L)⟩), .int .i64 ((((((saidS L n x0).2 + 1) + 1) + 1) + 1) + 1)] : KObj) /\ True) -> KCall prog 27 [.pointer (some ⟨0, 0, none⟩), .int .i64 9] H' [0] (Is (.int .i64 (dN L ((((((saidS L n x0).2 + 1) + 1) + 1) + 1) + 1) 9)) (List.set H' 0 (.cells true 0 [.iface ((List.length L) + 1) (.agg ⟨(List.flatMap intC L)⟩), .int .i64 (((((((saidS L n x0).2 + 1) + 1) + 1) + 1) + 1) + 1)] : KObj)))) /\ ((((List.length (saidS L n x0).1) + 1) * 56 <= 2 ^ 44 /\ 1 ≠ 0 /\ ((List.length (saidS L n x0).1) <= (List.length (saidS L n x0).1) /\ 0 + (List.length (saidS L n x0).1) * 7 <= List.length (List.flatMap msgC (saidS L n x0).1)) /\ (1 <= 1 /\ 0 + 1 * 7 <= List.length ([.int .i64 (1 + (dN L (saidS L n x0).2 4)), .int .i64 (1 + (dN L ((saidS L n x0).2 + 1) 12)), .int .i64 (dN L (((saidS L n x0).2 + 1) + 1) 50), .int .i64 (1 + (dN L ((((saidS L n x0).2 + 1) + 1) + 1) 3)), .int .i64 (1 + (dN L (((((saidS L n x0).2 + 1) + 1) + 1) + 1) 3)), .int .i64 (dN L ((((((saidS L n x0).2 + 1) + 1) + 1) + 1) + 1) 9), .int .i64 0] : List Value)) /\ ((List.take (1 * 7) (List.drop 0 ([.int .i64 (1 + (dN L (saidS L n x0).2 4)), .int .i64 (1 + (dN L ((saidS L n x0).2 + 1) 12)), .int .i64 (dN L (((saidS L n x0).2 + 1) + 1) 50), .int .i64 (1 + (dN L ((((saidS L n x0).2 + 1) + 1) + 1) 3)), .int .i64 (1 + (dN L (((((saidS L n x0).2 + 1) + 1) + 1) + 1) 3)), .int .i64 (dN L ((((((saidS L n x0).2 + 1) + 1) + 1) + 1) + 1) 9), .int .i64 0] : List Value))) : List Value).all (fun v => one1 v) = true) /\ true = true /\ ((.int .i64 (IntKind.wrap .i64 (((x0 : Nat) : Int) + 1)) : Value) = .int .i64 (((x0 : Nat) : Int) + 1) /\ (∃ x0' : Nat, (x0' <= k) /\ (k - x0') < (k - x0) /\ true = true /\ ((.int .i64 (((x0 : Nat) : Int) + 1) : Value) = .int .i64 ((x0' : Nat) : Int) /\ wk (.slice (some ⟨4, 0, none⟩) ((List.length (saidS L n x0).1) + 1) ((List.length (saidS L n x0).1) + 1) : Value) (.slice (some ⟨4, 0, some 1⟩) (List.length (saidS L n x0').1) (List.length (saidS L n x0').1) : Value) /\ (.int .i64 ((k : Nat) : Int) : Value) = .int .i64 ((k : Nat) : Int) /\ (.pointer (some ⟨0, 0, none⟩) : Value) = .pointer (some ⟨0, 0, none⟩) /\ (.slice none 0 0 : Value) = .slice none 0 0 /\ True) /\ ((some (.cells true 0 [.iface ((List.length L) + 1) (.agg ⟨(List.flatMap intC L)⟩), .int .i64 (((((((saidS L n x0).2 + 1) + 1) + 1) + 1) + 1) + 1)] : KObj) = some (.cells true 0 [.iface ((List.length L) + 1) (.agg ⟨(List.flatMap intC L)⟩), .int .i64 (saidS L n x0').2] : KObj) /\ belowO 1 (.cells true 0 [.iface ((List.length L) + 1) (.agg ⟨(List.flatMap intC L)⟩), .int .i64 (saidS L n x0').2] : KObj) = true) /\ True) /\ ((some (.cells true 7 ((List.take ((List.length (saidS L n x0).1) * 7) (List.drop 0 (List.flatMap msgC (saidS L n x0).1))) ++ (List.take (1 * 7) (List.drop 0 ([.int .i64 (1 + (dN L (saidS L n x0).2 4)), .int .i64 (1 + (dN L ((saidS L n x0).2 + 1) 12)), .int .i64 (dN L (((saidS L n x0).2 + 1) + 1) 50), .int .i64 (1 + (dN L ((((saidS L n x0).2 + 1) + 1) + 1) 3)), .int .i64 (1 + (dN L (((((saidS L n x0).2 + 1) + 1) + 1) + 1) 3)), .int .i64 (dN L ((((((saidS L n x0).2 + 1) + 1) + 1) + 1) + 1) 9), .int .i64 0] : List Value)))) : KObj) = some (.cells true 7 (List.flatMap msgC (saidS L n x0').1) : KObj) /\ belowO 1 (.cells true 7 (List.flatMap msgC (saidS L n x0').1) : KObj) = true) /\ True) /\ (True)))))))) /\ ((((1 + (dN L ((((saidS L n x0).2 + 1) + 1) + 1) 3)) : Int) == 1) = false -> (((((1 + (dN L ((((saidS L n x0).2 + 1) + 1) + 1) 3)) : Int) == 2) = true -> (((some (.cells true 0 [.iface ((List.length L) + 1) (.agg ⟨(List.flatMap intC L)⟩), .int .i64 (((((saidS L n x0).2 + 1) + 1) + 1) + 1)] : KObj) = some (.cells true 0 [.iface ((List.length L) + 1) (.agg ⟨(List.flatMap intC L)⟩), .int .i64 (((((saidS L n x0).2 + 1) + 1) + 1) + 1)] : KObj)) /\ True) /\ (∀ H' : Heap, H'.length = 3 -> (H'[0]? = some (.cells true 0 [.iface ((List.length L) + 1) (.agg ⟨(List.flatMap intC L)⟩), .int .i64 (((((saidS L n x0).2 + 1) + 1) + 1) + 1)] : KObj) /\ True) -> KCall prog 27 [.pointer (some ⟨0, 0, none⟩), .int .i64 4] H' [0] (Is (.int .i64 (dN L (((((saidS L n x0).2 + 1) + 1) + 1) + 1) 4)) (List.set H' 0 (.cells true 0 [.iface ((List.length L) + 1) (.agg ⟨(List.flatMap intC L)⟩), .int .i64 ((((((saidS L n x0).2 + 1) + 1) + 1) + 1) + 1)] : KObj)))) /\ (((some (.cells true 0 [.iface ((List.length L) + 1) (.agg ⟨(List.flatMap intC L)⟩), .int .i64 ((((((saidS L n x0).2 + 1) + 1) + 1) + 1) + 1)] : KObj) = some (.cells true 0 [.iface ((List.length L) + 1) (.agg ⟨(List.flatMap intC L)⟩), .int .i64 ((((((saidS L n x0).2 + 1) + 1) + 1) + 1) + 1)] : KObj)) /\ True) /\ (∀ H' : Heap, H'.length = 3 -> (H'[0]? = some (.cells true 0 [.iface ((List.length L) + 1) (.agg ⟨(List.flatMap intC L)⟩), .int .i64 ((((((saidS L n x0).2 + 1) + 1) + 1) + 1) + 1)] : KObj) /\ True) -> KCall prog 27 [.pointer (some ⟨0, 0, none⟩), .int .i64 5] H' [0] (Is (.int .i64 (dN L ((((((saidS L n x0).2 + 1) + 1) + 1) + 1) + 1) 5)) (List.set H' 0 (.cells true 0 [.iface ((List.length L) + 1) (.agg ⟨(List.flatMap intC L)⟩), .int .i64 (((((((saidS L n x0).2 + 1) + 1) + 1) + 1) + 1) + 1)] : KObj)))) /\ ((((List.length (saidS L n x0).1) + 1) * 56 <= 2 ^ 44 /\ 1 ≠ 0 /\ ((List.length (saidS L n x0).1) <= (List.length (saidS L n x0).1) /\ 0 + (List.length (saidS L n x0).1) * 7 <= List.length (List.flatMap msgC (saidS L n x0).1)) /\ (1 <= 1 /\ 0 + 1 * 7 <= List.length ([.int .i64 (1 + (dN L (saidS L n x0).2 4)), .int .i64 (1 + (dN L ((saidS L n x0).2 + 1) 12)), .int .i64 (dN L (((saidS L n x0).2 + 1) + 1) 50), .int .i64 (1 + (dN L ((((saidS L n x0).2 + 1) + 1) + 1) 3)), .int .i64 0, .int .i64 (dN L (((((saidS L n x0).2 + 1) + 1) + 1) + 1) 4), .int .i64 (dN L ((((((saidS L n x0).2 + 1) + 1) + 1) + 1) + 1) 5)] : List Value)) /\ ((List.take (1 * 7) (List.drop 0 ([.int .i64 (1 + (dN L (saidS L n x0).2 4)), .int .i64 (1 + (dN L ((saidS L n x0).2 + 1) 12)), .int .i64 (dN L (((saidS L n x0).2 + 1) + 1) 50), .int .i64 (1 + (dN L ((((saidS L n x0).2 + 1) + 1) + 1) 3)), .int .i64 0, .int .i64 (dN L (((((saidS L n x0).2 + 1) + 1) + 1) + 1) 4), .int .i64 (dN L ((((((saidS L n x0).2 + 1) + 1) + 1) + 1) + 1) 5)] : List Value))) : List Value).all (fun v => one1 v) = true) /\ true = true /\ ((.int .i64 (IntKind.wrap .i64 (((x0 : Nat) : Int) + 1)) : Value) = .int .i64 (((x0 : Nat) : Int) + 1) /\ (∃ x0' : Nat, (x0' <= k) /\ (k - x0') < (k - x0) /\ true = true /\ ((.int .i64 (((x0 : Nat) : Int) + 1) : Value) = .int .i64 ((x0' : Nat) : Int) /\ wk (.slice (some ⟨4, 0, none⟩) ((List.length (saidS L n x0).1) + 1) ((List.length (saidS L n x0).1) + 1) : Value) (.slice (some ⟨4, 0, some 1⟩) (List.length (saidS L n x0').1) (List.length (saidS L n x0').1) : Value) /\ (.int .i64 ((k : Nat) : Int) : Value) = .int .i64 ((k : Nat) : Int) /\ (.pointer (some ⟨0, 0, none⟩) : Value) = .pointer (some ⟨0, 0, none⟩) /\ (.slice none 0 0 : Value) = .slice none 0 0 /\ True) /\ ((some (.cells true 0 [.iface ((List.length L) + 1) (.agg ⟨(List.flatMap intC L)⟩), .int .i64 (((((((saidS L n x0).2 + 1) + 1) + 1) + 1) + 1) + 1)] : KObj) = some (.cells true 0 [.iface ((List.length L) + 1) (.agg ⟨(List.flatMap intC L)⟩), .int .i64 (saidS L n x0').2] : KObj) /\ belowO 1 (.cells true 0 [.iface ((List.length L) + 1) (.agg ⟨(List.flatMap intC L)⟩), .int .i64 (saidS L n x0').2] : KObj) = true) /\ True) /\ ((some (.cells true 7 ((List.take ((List.length (saidS L n x0).1) * 7) (List.drop 0 (List.flatMap msgC (saidS L n x0).1))) ++ (List.take (1 * 7) (List.drop 0 ([.int .i64 (1 + (dN L (saidS L n x0).2 4)), .int .i64 (1 + (dN L ((saidS L n x0).2 + 1) 12)), .int .i64 (dN L (((saidS L n x0).2 + 1) + 1) 50), .int .i64 (1 + (dN L ((((saidS L n x0).2 + 1) + 1) + 1) 3)), .int .i64 0, .int .i64 (dN L (((((saidS L n x0).2 + 1) + 1) + 1) + 1) 4), .int .i64 (dN L ((((((saidS L n x0).2 + 1) + 1) + 1) + 1) + 1) 5)] : List Value)))) : KObj) = some (.cells true 7 (List.flatMap msgC (saidS L n x0').1) : KObj) /\ belowO 1 (.cells true 7 (List.flatMap msgC (saidS L n x0').1) : KObj) = true) /\ True) /\ (True))))))) /\ ((((1 + (dN L ((((saidS L n x0).2 + 1) + 1) + 1) 3)) : Int) == 2) = false -> (((some (.cells true 0 [.iface ((List.length L) + 1) (.agg ⟨(List.flatMap intC L)⟩), .int .i64 (((((saidS L n x0).2 + 1) + 1) + 1) + 1)] : KObj) = some (.cells true 0 [.iface ((List.length L) + 1) (.agg ⟨(List.flatMap intC L)⟩), .int .i64 (((((saidS L n x0).2 + 1) + 1) + 1) + 1)] : KObj)) /\ True) /\ (∀ H' : Heap, H'.length = 3 -> (H'[0]? = some (.cells true 0 [.iface ((List.length L) + 1) (.agg ⟨(List.flatMap intC L)⟩), .int .i64 (((((saidS L n x0).2 + 1) + 1) + 1) + 1)] : KObj) /\ True) -> KCall prog 27 [.pointer (some ⟨0, 0, none⟩), .int .i64 12] H' [0] (Is (.int .i64 (dN L (((((saidS L n x0).2 + 1) + 1) + 1) + 1) 12)) (List.set H' 0 (.cells true 0 [.iface ((List.length L) + 1) (.agg ⟨(List.flatMap intC L)⟩), .int .i64 ((((((saidS L n x0).2 + 1) + 1) + 1) + 1) + 1)] : KObj)))) /\ ((.int .i64 (IntKind.wrap .i64 (1 + (dN L (((((saidS L n x0).2 + 1) + 1) + 1) + 1) 12))) : Value) = .int .i64 (1 + (dN L (((((saidS L n x0).2 + 1) + 1) + 1) + 1) 12)) /\ ((((List.length (saidS L n x0).1) + 1) * 56 <= 2 ^ 44 /\ 1 ≠ 0 /\ ((List.length (saidS L n x0).1) <= (List.length (saidS L n x0).1) /\ 0 + (List.length (saidS L n x0).1) * 7 <= List.length (List.flatMap msgC (saidS L n x0).1)) /\ (1 <= 1 /\ 0 + 1 * 7 <= List.length ([.int .i64 (1 + (dN L (saidS L n x0).2 4)), .int .i64 (1 + (dN L ((saidS L n x0).2 + 1) 12)), .int .i64 (dN L (((saidS L n x0).2 + 1) + 1) 50), .int .i64 (1 + (dN L ((((saidS L n x0).2 + 1) + 1) + 1) 3)), .int .i64 0, .int .i64 0, .int .i64 (1 + (dN L (((((saidS L n x0).2 + 1) + 1) + 1) + 1) 12))] : List Value)) /\ ((List.take (1 * 7) (List.drop 0 ([.int .i64 (1 + (dN L (saidS L n x0).2 4)), .int .i64 (1 + (dN L ((saidS L n x0).2 + 1) 12)), .int .i64 (dN L (((saidS L n x0).2 + 1) + 1) 50), .int .i64 (1 + (dN L ((((saidS L n x0).2 + 1) + 1) + 1) 3)), .int .i64 0, .int .i64 0, .int .i64 (1 + (dN L (((((saidS L n x0).2 + 1) + 1) + 1) + 1) 12))] : List Value))) : List Value).all (fun v => one1 v) = true) /\ true = true /\ ((.int .i64 (IntKind.wrap .i64 (((x0 : Nat) : Int) + 1)) : Value) = .int .i64 (((x0 : Nat) : Int) + 1) /\ (∃ x0' : Nat, (x0' <= k) /\ (k - x0') < (k - x0) /\ true = true /\ ((.int .i64 (((x0 : Nat) : Int) + 1) : Value) = .int .i64 ((x0' : Nat) : Int) /\ wk (.slice (some ⟨4, 0, none⟩) ((List.length (saidS L n x0).1) + 1) ((List.length (saidS L n x0).1) + 1) : Value) (.slice (some ⟨4, 0, some 1⟩) (List.length (saidS L n x0').1) (List.length (saidS L n x0').1) : Value) /\ (.int .i64 ((k : Nat) : Int) : Value) = .int .i64 ((k : Nat) : Int) /\ (.pointer (some ⟨0, 0, none⟩) : Value) = .pointer (some ⟨0, 0, none⟩) /\ (.slice none 0 0 : Value) = .slice none 0 0 /\ True) /\ ((some (.cells true 0 [.iface ((List.length L) + 1) (.agg ⟨(List.flatMap intC L)⟩), .int .i64 ((((((saidS L n x0).2 + 1) + 1) + 1) + 1) + 1)] : KObj) = some (.cells true 0 [.iface ((List.length L) + 1) (.agg ⟨(List.flatMap intC L)⟩), .int .i64 (saidS L n x0').2] : KObj) /\ belowO 1 (.cells true 0 [.iface ((List.length L) + 1) (.agg ⟨(List.flatMap intC L)⟩), .int .i64 (saidS L n x0').2] : KObj) = true) /\ True) /\ ((some (.cells true 7 ((List.take ((List.length (saidS L n x0).1) * 7) (List.drop 0 (List.flatMap msgC (saidS L n x0).1))) ++ (List.take (1 * 7) (List.drop 0 ([.int .i64 (1 + (dN L (saidS L n x0).2 4)), .int .i64 (1 + (dN L ((saidS L n x0).2 + 1) 12)), .int .i64 (dN L (((saidS L n x0).2 + 1) + 1) 50), .int .i64 (1 + (dN L ((((saidS L n x0).2 + 1) + 1) + 1) 3)), .int .i64 0, .int .i64 0, .int .i64 (1 + (dN L (((((saidS L n x0).2 + 1) + 1) + 1) + 1) 12))] : List Value)))) : KObj) = some (.cells true 7 (List.flatMap msgC (saidS L n x0').1) : KObj) /\ belowO 1 (.cells true 7 (List.flatMap msgC (saidS L n x0').1) : KObj) = true) /\ True) /\ (True)))))))))))))))))) /\ ((decide ((((x0 : Nat) : Int) : Int) < ((k : Nat) : Int))) = false -> (true = true /\ wk (.slice (some ⟨1, 0, some 1⟩) (List.length (saidS L n x0).1) (List.length (saidS L n x0).1) : Value) (rn (sg 1 [(1, 1)]) 3 (.slice (some ⟨1, 0, some 1⟩) (List.length (saidS L n k).1) (List.length (saidS L n k).1) : Value)) /\ ((some (.cells true 0 [.iface ((List.length L) + 1) (.agg ⟨(List.flatMap intC L)⟩), .int .i64 (saidS L n x0).2] : KObj) = some (.cells true 0 [.iface ((List.length L) + 1) (.agg ⟨(List.flatMap intC L)⟩), .int .i64 (saidS L n k).2] : KObj) /\ belowO 1 (.cells true 0 [.iface ((List.length L) + 1) (.agg ⟨(List.flatMap intC L)⟩), .int .i64 (saidS L n k).2] : KObj) = true) /\ True) /\ ((some (.cells true 7 (List.flatMap msgC (saidS L n x0).1) : KObj) = some (.cells true 7 (List.flatMap msgC (saidS L n k).1) : KObj) /\ belowO 1 (.cells true 7 (List.flatMap msgC (saidS L n k).1) : KObj) = true) /\ True)))))
theorem ESaid (L : List Int) (n : Int) (k : Nat) : vF prog msk (dm 0) 100000 true 40 true 25 [.pointer (some ⟨0, 0, none⟩), .int .i64 ((k : Nat) : Int)] (readsW 0 0 (digC L n) []) (some [0])
 (.go 2 (.inv 3 (Nat) (0) [] [0] (fun x0 => [(6, .int .i64 ((x0 : Nat) : Int)), (5, .slice (some ⟨1, 0, some 1⟩) (List.length (saidS L n x0).1) (List.length (saidS L n x0).1)), (1, .int .i64 ((k : Nat) : Int)), (0, .pointer (some ⟨0, 0, none⟩)), (4, .slice none 0 0)]) (fun x0 => [(0, true, .cells true 0 [.iface ((List.length L) + 1) (.agg ⟨(List.flatMap intC L)⟩), .int .i64 (saidS L n x0).2])]) (fun x0 => [(true, .cells true 7 (List.flatMap msgC (saidS L n x0).1))]) (fun x0 => []) (fun x0 => (x0 <= k)) (fun x0 => (k - x0)) (fun x0 => .go 2 (.fork (.go 0 (.answ [(0, .cells true 0 [.iface ((List.length L) + 1) (.agg ⟨(List.flatMap intC L)⟩), .int .i64 (saidS L n x0).2])] (.int .i64 (dN L (saidS L n x0).2 4)) [(0, .cells true 0 [.iface ((List.length L) + 1) (.agg ⟨(List.flatMap intC L)⟩), .int .i64 ((saidS L n x0).2 + 1)])] [] (.go 0 (.slot 15 (.int .i64 (1 + (dN L (saidS L n x0).2 4))) (.go 0 (.answ [(0, .cells true 0 [.iface ((List.length L) + 1) (.agg ⟨(List.flatMap intC L)⟩), .int .i64 ((saidS L n x0).2 + 1)])] (.int .i64 (dN L ((saidS L n x0).2 + 1) 12)) [(0, .cells true 0 [.iface ((List.length L) + 1) (.agg ⟨(List.flatMap intC L)⟩), .int .i64 (((saidS L n x0).2 + 1) + 1)])] [] (.go 0 (.slot 18 (.int .i64 (1 + (dN L ((saidS L n x0).2 + 1) 12))) (.go 0 (.answ [(0, .cells true 0 [.iface ((List.length L) + 1) (.agg ⟨(List.flatMap intC L)⟩), .int .i64 (((saidS L n x0).2 + 1) + 1)])] (.int .i64 (dN L (((saidS L n x0).2 + 1) + 1) 50)) [(0, .cells true 0 [.iface ((List.length L) + 1) (.agg ⟨(List.flatMap intC L)⟩), .int .i64 ((((saidS L n x0).2 + 1) + 1) + 1)])] [] (.go 0 (.answ [(0, .cells true 0 [.iface ((List.length L) + 1) (.agg ⟨(List.flatMap intC L)⟩), .int .i64 ((((saidS L n x0).2 + 1) + 1) + 1)])] (.int .i64 (dN L ((((saidS L n x0).2 + 1) + 1) + 1) 3)) [(0, .cells true 0 [.iface ((List.length L) + 1) (.agg ⟨(List.flatMap intC L)⟩), .int .i64 (((((saidS L n x0).2 + 1) + 1) + 1) + 1)])] [] (.go 0 (.slot 23 (.int .i64 (1 + (dN L ((((saidS L n x0).2 + 1) + 1) + 1) 3))) (.go 6 (.fork (.go 0 (.answ [(0, .cells true 0 [.iface ((List.length L) + 1) (.agg ⟨(List.flatMap intC L)⟩), .int .i64 (((((saidS L n x0).2 + 1) + 1) + 1) + 1)])] (.int .i64 (dN L (((((saidS L n x0).2 + 1) + 1) + 1) + 1) 3)) [(0, .cells true 0 [.iface ((List.length L) + 1) (.agg ⟨(List.flatMap intC L)⟩), .int .i64 ((((((saidS L n x0).2 + 1) + 1) + 1) + 1) + 1)])] [] (.go 0 (.slot 35 (.int .i64 (1 + (dN L (((((saidS L n x0).2 + 1) + 1) + 1) + 1) 3))) (.go 0 (.answ [(0, .cells true 0 [.iface ((List.length L) + 1) (.agg ⟨(List.flatMap intC L)⟩), .int .i64 ((((((saidS L n x0).2 + 1) + 1) + 1) + 1) + 1)])] (.int .i64 (dN L ((((((saidS L n x0).2 + 1) + 1) + 1) + 1) + 1) 9)) [(0, .cells true 0 [.iface ((List.length L) + 1) (.agg ⟨(List.flatMap intC L)⟩), .int .i64 (((((((saidS L n x0).2 + 1) + 1) + 1) + 1) + 1) + 1)])] [] (.go 6 (.need (.go 2 (.slot 12 (.int .i64 (((x0 : Nat) : Int) + 1)) (.go 0 (.again [(1, 4)])))))))))))) (.go 1 (.fork (.go 0 (.answ [(0, .cells true 0 [.iface ((List.length L) + 1) (.agg ⟨(List.flatMap intC L)⟩), .int .i64 (((((saidS L n x0).2 + 1) + 1) + 1) + 1)])] (.int .i64 (dN L (((((saidS L n x0).2 + 1) + 1) + 1) + 1) 4)) [(0, .cells true 0 [.iface ((List.length L) + 1) (.agg ⟨(List.flatMap intC L)⟩), .int .i64 ((((((saidS L n x0).2 + 1) + 1) + 1) + 1) + 1)])] [] (.go 0 (.answ [(0, .cells true 0 [.iface ((List.length L) + 1) (.agg ⟨(List.flatMap intC L)⟩), .int .i64 ((((((saidS L n x0).2 + 1) + 1) + 1) + 1) + 1)])] (.int .i64 (dN L ((((((saidS L n x0).2 + 1) + 1) + 1) + 1) + 1) 5)) [(0, .cells true 0 [.iface ((List.length L) + 1) (.agg ⟨(List.flatMap intC L)⟩), .int .i64 (((((((saidS L n x0).2 + 1) + 1) + 1) + 1) + 1) + 1)])] [] (.go 6 (.need (.go 2 (.slot 12 (.int .i64 (((x0 : Nat) : Int) + 1)) (.go 0 (.again [(1, 4)])))))))))) (.go 0 (.answ [(0, .cells true 0 [.iface ((List.length L) + 1) (.agg ⟨(List.flatMap intC L)⟩), .int .i64 (((((saidS L n x0).2 + 1) + 1) + 1) + 1)])] (.int .i64 (dN L (((((saidS L n x0).2 + 1) + 1) + 1) + 1) 12)) [(0, .cells true 0 [.iface ((List.length L) + 1) (.agg ⟨(List.flatMap intC L)⟩), .int .i64 ((((((saidS L n x0).2 + 1) + 1) + 1) + 1) + 1)])] [] (.go 0 (.slot 29 (.int .i64 (1 + (dN L (((((saidS L n x0).2 + 1) + 1) + 1) + 1) 12))) (.go 4 (.need (.go 2 (.slot 12 (.int .i64 (((x0 : Nat) : Int) + 1)) (.go 0 (.again [(1, 4)])))))))))))))))))))))))))))) (.go 1 (.keep (.again [(1, 1)])))))))
 (newKW ((readsW 0 0 (digC L n) []) : HT).n 3 0 (.cells true 0 [.iface ((List.length L) + 1) (.agg ⟨(List.flatMap intC L)⟩), .int .i64 (saidS L n k).2]) (.slice (some ⟨1, 0, some 1⟩) (List.length (saidS L n k).1) (List.length (saidS L n k).1)) [(true, .cells true 7 (List.flatMap msgC (saidS L n k).1))]) = RSaid L n k := by kernel_rfl
end
end Go.Proofs.YtbgfjemppjhmjaaGreat
/- Radio: messages that are made of numbers. No condition. -/
namespace Go.Proofs.YtbgfjemppjhmjaaGreat
open Go Go.K
set_option maxRecDepth 100000
set_option linter.unusedVariables false
set_option linter.unusedSimpArgs false
noncomputable section
attribute [local irreducible] vF
theorem hv11 (L : List Int) (n : Int) (k : Nat) (hn : 0 <= n /\ n <= 1000000) (hk : k <= 1000) : RSaid L n k := by
 unfold RSaid
 refine ⟨rfl, Nat.zero_le _, ?_, fun _ => rfl, fun x hx => ⟨fun a => ?_, fun a => ?_⟩⟩
 ·repeat' first | exact digO _ _ _ | exact plainML _ _ | exact wk_nil _ _ _ (.inl rfl) | exact trivial | exact rfl | exact wk_refl _ | refine wkO_cells ?_ | refine wks_cons ?_ ?_ | exact wks_nil | exact wk_nil _ _ _ (.inl rfl) | (exact wk_Q (by omega)) | refine wk_tupL ?_ | refine wk_aggL ?_ | refine joinMax ?_ ?_ ?_ | refine joinMin ?_ ?_ ?_ | refine toMax ?_ | refine toMin ?_ | refine ⟨rfl, ?_⟩ | refine ⟨trivial, ?_⟩ | (refine forkD (fun h => ?_) (fun h => ?_)) | (refine forkNe (fun h => ?_) (fun h => ?_)) | (refine forkEq (fun h => ?_) (fun h => ?_)) | refine forkNot ?_ | (refine ⟨vI64 (by omega), ?_⟩) | (refine And.intro (by omega) ?_) | apply And.intro | (exact iEq (by omega)) | (exact vI64 (by omega))
 ·have h1 : x < k := by have := of_decide_eq_true a; omega
  obtain ⟨l1, l2, l3, l4⟩ := saidS_ok L n x
  have b1 := dN_bd L (saidS L n x).2 (m := 4) (by omega)
  have b2 := dN_bd L ((saidS L n x).2 + 1) (m := 12) (by omega)
  have b3 := dN_bd L ((saidS L n x).2 + 1 + 1) (m := 50) (by omega)
  have b4 := dN_bd L ((saidS L n x).2 + 1 + 1 + 1) (m := 3) (by omega)
  have b5 := dN_bd L ((saidS L n x).2 + 1 + 1 + 1 + 1) (m := 3) (by omega)
  have b9 := dN_bd L ((saidS L n x).2 + 1 + 1 + 1 + 1) (m := 12) (by omega)
  have kN : ∀ (q : Int) (m : Int) (c : Nat), (0 <= q /\ q <= 1000000000) -> (1 <= m /\ m <= 1000000000) -> ∀ H' : Heap, H'.length = c -> (H'[0]? = some (.cells true 0 (digC L q)) /\ True) -> KCall prog 27 [.pointer (some ⟨0, 0, none⟩), .int .i64 m] H' [0] (Is (.int .i64 (dN L q m)) (List.set H' 0 (.cells true 0 (digC L (q + 1))))) :=
   fun q m c h1 h2 H' _ h => kNext L q m h1 h2 h.1
  refine ⟨⟨rfl, trivial⟩, kN _ _ _ (by omega) (by omega), vI64 (by omega), ⟨rfl, trivial⟩, kN _ _ _ (by omega) (by omega), vI64 (by omega), ⟨rfl, trivial⟩, kN _ _ _ (by omega) (by omega), ⟨rfl, trivial⟩, kN _ _ _ (by omega) (by omega), vI64 (by omega), ?_⟩
  refine ⟨fun c => ⟨⟨rfl, trivial⟩, kN _ _ _ (by omega) (by omega), vI64 (by omega), ⟨rfl, trivial⟩, kN _ _ _ (by omega) (by omega), ?_, rfl, vI64 (by omega), x + 1, by omega, by omega, rfl, ?_⟩,
   fun c => ⟨fun d => ⟨⟨rfl, trivial⟩, kN _ _ _ (by omega) (by omega), ⟨rfl, trivial⟩, kN _ _ _ (by omega) (by omega), ?_, rfl, vI64 (by omega), x + 1, by omega, by omega, rfl, ?_⟩,
    fun d => ⟨⟨rfl, trivial⟩, kN _ _ _ (by omega) (by omega), vI64 (by omega), ?_, rfl, vI64 (by omega), x + 1, by omega, by omega, rfl, ?_⟩⟩⟩
  ·repeat' first | exact flat_le msgC_len _ | exact Nat.le_refl 7 | exact trivial | exact rfl | exact wk_refl _ | refine wkO_cells ?_ | refine wks_cons ?_ ?_ | exact wks_nil | exact wk_nil _ _ _ (.inl rfl) | (exact wk_Q (by omega)) | refine wk_tupL ?_ | refine wk_aggL ?_ | refine joinMax ?_ ?_ ?_ | refine joinMin ?_ ?_ ?_ | refine toMax ?_ | refine toMin ?_ | refine ⟨rfl, ?_⟩ | refine ⟨trivial, ?_⟩ | (refine forkD (fun h => ?_) (fun h => ?_)) | (refine forkNe (fun h => ?_) (fun h => ?_)) | (refine forkEq (fun h => ?_) (fun h => ?_)) | refine forkNot ?_ | (refine ⟨vI64 (by omega), ?_⟩) | (refine And.intro (by omega) ?_) | apply And.intro | (exact iEq (by omega)) | (exact vI64 (by omega))
  ·simp only [saidS]
   rw [if_pos (eq_of_beq c)]
   repeat' first | exact digO _ _ _ | exact plainML _ _ | exact wk_snoc rfl | exact ob_snoc msgC_len rfl rfl | exact trivial | exact rfl | exact wk_refl _ | refine wkO_cells ?_ | refine wks_cons ?_ ?_ | exact wks_nil | exact wk_nil _ _ _ (.inl rfl) | (exact wk_Q (by omega)) | refine wk_tupL ?_ | refine wk_aggL ?_ | refine joinMax ?_ ?_ ?_ | refine joinMin ?_ ?_ ?_ | refine toMax ?_ | refine toMin ?_ | refine ⟨rfl, ?_⟩ | refine ⟨trivial, ?_⟩ | (refine forkD (fun h => ?_) (fun h => ?_)) | (refine forkNe (fun h => ?_) (fun h => ?_)) | (refine forkEq (fun h => ?_) (fun h => ?_)) | refine forkNot ?_ | (refine ⟨vI64 (by omega), ?_⟩) | (refine And.intro (by omega) ?_) | apply And.intro | (exact iEq (by omega)) | (exact vI64 (by omega))
  ·repeat' first | exact flat_le msgC_len _ | exact Nat.le_refl 7 | exact trivial | exact rfl | exact wk_refl _ | refine wkO_cells ?_ | refine wks_cons ?_ ?_ | exact wks_nil | exact wk_nil _ _ _ (.inl rfl) | (exact wk_Q (by omega)) | refine wk_tupL ?_ | refine wk_aggL ?_ | refine joinMax ?_ ?_ ?_ | refine joinMin ?_ ?_ ?_ | refine toMax ?_ | refine toMin ?_ | refine ⟨rfl, ?_⟩ | refine ⟨trivial, ?_⟩ | (refine forkD (fun h => ?_) (fun h => ?_)) | (refine forkNe (fun h => ?_) (fun h => ?_)) | (refine forkEq (fun h => ?_) (fun h => ?_)) | refine forkNot ?_ | (refine ⟨vI64 (by omega), ?_⟩) | (refine And.intro (by omega) ?_) | apply And.intro | (exact iEq (by omega)) | (exact vI64 (by omega))
  ·simp only [saidS]
   rw [if_neg (fun q => by rw [q] at c; cases c), if_pos (eq_of_beq d)]
   repeat' first | exact digO _ _ _ | exact plainML _ _ | exact wk_snoc rfl | exact ob_snoc msgC_len rfl rfl | exact trivial | exact rfl | exact wk_refl _ | refine wkO_cells ?_ | refine wks_cons ?_ ?_ | exact wks_nil | exact wk_nil _ _ _ (.inl rfl) | (exact wk_Q (by omega)) | refine wk_tupL ?_ | refine wk_aggL ?_ | refine joinMax ?_ ?_ ?_ | refine joinMin ?_ ?_ ?_ | refine toMax ?_ | refine toMin ?_ | refine ⟨rfl, ?_⟩ | refine ⟨trivial, ?_⟩ | (refine forkD (fun h => ?_) (fun h => ?_)) | (refine forkNe (fun h => ?_) (fun h => ?_)) | (refine forkEq (fun h => ?_) (fun h => ?_)) | refine forkNot ?_ | (refine ⟨vI64 (by omega), ?_⟩) | (refine And.intro (by omega) ?_) | apply And.intro | (exact iEq (by omega)) | (exact vI64 (by omega))
  ·repeat' first | exact flat_le msgC_len _ | exact Nat.le_refl 7 | exact trivial | exact rfl | exact wk_refl _ | refine wkO_cells ?_ | refine wks_cons ?_ ?_ | exact wks_nil | exact wk_nil _ _ _ (.inl rfl) | (exact wk_Q (by omega)) | refine wk_tupL ?_ | refine wk_aggL ?_ | refine joinMax ?_ ?_ ?_ | refine joinMin ?_ ?_ ?_ | refine toMax ?_ | refine toMin ?_ | refine ⟨rfl, ?_⟩ | refine ⟨trivial, ?_⟩ | (refine forkD (fun h => ?_) (fun h => ?_)) | (refine forkNe (fun h => ?_) (fun h => ?_)) | (refine forkEq (fun h => ?_) (fun h => ?_)) | refine forkNot ?_ | (refine ⟨vI64 (by omega), ?_⟩) | (refine And.intro (by omega) ?_) | apply And.intro | (exact iEq (by omega)) | (exact vI64 (by omega))
  ·simp only [saidS]
   rw [if_neg (fun q => by rw [q] at c; cases c), if_neg (fun q => by rw [q] at d; cases d)]
   repeat' first | exact digO _ _ _ | exact plainML _ _ | exact wk_snoc rfl | exact ob_snoc msgC_len rfl rfl | exact trivial | exact rfl | exact wk_refl _ | refine wkO_cells ?_ | refine wks_cons ?_ ?_ | exact wks_nil | exact wk_nil _ _ _ (.inl rfl) | (exact wk_Q (by omega)) | refine wk_tupL ?_ | refine wk_aggL ?_ | refine joinMax ?_ ?_ ?_ | refine joinMin ?_ ?_ ?_ | refine toMax ?_ | refine toMin ?_ | refine ⟨rfl, ?_⟩ | refine ⟨trivial, ?_⟩ | (refine forkD (fun h => ?_) (fun h => ?_)) | (refine forkNe (fun h => ?_) (fun h => ?_)) | (refine forkEq (fun h => ?_) (fun h => ?_)) | refine forkNot ?_ | (refine ⟨vI64 (by omega), ?_⟩) | (refine And.intro (by omega) ?_) | apply And.intro | (exact iEq (by omega)) | (exact vI64 (by omega))
 ·have h1 : x = k := by have := of_decide_eq_false a; omega
  subst h1
  repeat' first | exact digO _ _ _ | exact plainML _ _ | exact wk_refl _ | exact trivial | exact rfl | exact wk_refl _ | refine wkO_cells ?_ | refine wks_cons ?_ ?_ | exact wks_nil | exact wk_nil _ _ _ (.inl rfl) | (exact wk_Q (by omega)) | refine wk_tupL ?_ | refine wk_aggL ?_ | refine joinMax ?_ ?_ ?_ | refine joinMin ?_ ?_ ?_ | refine toMax ?_ | refine toMin ?_ | refine ⟨rfl, ?_⟩ | refine ⟨trivial, ?_⟩ | (refine forkD (fun h => ?_) (fun h => ?_)) | (refine forkNe (fun h => ?_) (fun h => ?_)) | (refine forkEq (fun h => ?_) (fun h => ?_)) | refine forkNot ?_ | (refine ⟨vI64 (by omega), ?_⟩) | (refine And.intro (by omega) ?_) | apply And.intro | (exact iEq (by omega)) | (exact vI64 (by omega))
theorem kSaid (L : List Int) (n : Int) (k : Nat) (hn : 0 <= n /\ n <= 1000000) (hk : k <= 1000) {H : Heap} {D : Nat} (hD : H[D]? = some (.cells true 0 (digC L n))) :
  KCall prog 25 [.pointer (some ⟨D, 0, none⟩), .int .i64 (k : Int)] H [D] (Is (.slice (some ⟨H.length, 0, some 1⟩) (saidS L n k).1.length (saidS L n k).1.length) (H.set D (.cells true 0 (digC L (saidS L n k).2)) ++ [.cells true 7 ((saidS L n k).1.flatMap msgC)])) :=
 valW (fun j => .slice (some ⟨j, 0, some 1⟩) (saidS L n k).1.length (saidS L n k).1.length) (css := []) (new := [.cells true 7 ((saidS L n k).1.flatMap msgC)]) (Eq.mpr (ESaid L n k) (hv11 L n k hn hk)) (plainDig 0 L n) (plainDig 0 L _) trivial
  ⟨⟨_, _, rfl, plainML _ _⟩, trivial⟩ rfl rfl (fun _ => rfl) hD (ids := []) trivial (by simp) rfl
end
end Go.Proofs.YtbgfjemppjhmjaaGreat
/- What is to be shown of functions. Printed by a program. No condition. -/
namespace Go.Proofs.YtbgfjemppjhmjaaGreat
set_option linter.unusedSimpArgs false
open Go Go.K
set_option maxRecDepth 100000
set_option maxHeartbeats 4000000
set_option linter.unusedVariables false
noncomputable section
def RmergeP (L : List Msg) : Prop :=
 (((some (.map (heldE L) : KObj) = some (.map (heldE L) : KObj)) /\ True) /\ (∀ H' : Heap, H'.length = 2 -> (H'[1]? = some (.map (heldE L) : KObj) /\ True) -> KCall prog 92 [.map (some 1)] H' [] (Is (.map (some 2)) (H' ++ [(.map (heldE L) : KObj)]))) /\ (true = true /\ (SeenI L ([] : List Nat)) /\ (true = true /\ ((.map (some 2) : Value) = .map (some 2) /\ (.pointer (some ⟨4, 0, none⟩) : Value) = .pointer (some ⟨4, 0, none⟩) /\ True) /\ ((some (.map (heldE L) : KObj) = some (.map (heldE L) : KObj) /\ belowO 5 (.map (heldE L) : KObj) = true) /\ (some (.iter 1 (List.length (heldE L)) [] : KObj) = some (.iter 1 (List.length (heldE L)) ([] : List Nat) : KObj) /\ belowO 5 (.iter 1 (List.length (heldE L)) ([] : List Nat) : KObj) = true) /\ True) /\ (True) /\ (True)) /\ (∀ x1 : List Nat, true = true) /\ ∀ x1 : List Nat, (SeenI L x1) -> ((List.length (heldE L) = (List.length (heldE L))) /\ (∀ x2 : Nat, x2 < (List.length (heldE L)) -> x2 ∉ x1 -> ((List.length (heldE L) = (List.length (heldE L))) /\ (entryE (heldE L) (x1 ++ [x2]) = some (.tuple #[.agg #[.int .i64 (List.getD L x2 zeroM).au, .int .i64 (List.getD L x2 zeroM).nu, .int .i64 (List.getD L x2 zeroM).at_, .int .i64 (List.getD L x2 zeroM).ki, .int .i64 (List.getD L x2 zeroM).sh, .int .i64 (List.getD L x2 zeroM).ce, .int .i64 (List.getD L x2 zeroM).va], .bool true])) /\ ((ksetE prog 64 (.agg #[.int .i64 (List.getD L x2 zeroM).au, .int .i64 (List.getD L x2 zeroM).nu, .int .i64 (List.getD L x2 zeroM).at_, .int .i64 (List.getD L x2 zeroM).ki, .int .i64 (List.getD L x2 zeroM).sh, .int .i64 (List.getD L x2 zeroM).ce, .int .i64 (List.getD L x2 zeroM).va]) (.bool true) (heldE L) = some (heldE (addM L (List.getD L x2 zeroM)))) /\ (∃ x1' : List Nat, (SeenI L x1') /\ (List.length L - List.length x1') < (List.length L - List.length x1) /\ true = true /\ ((.map (some 2) : Value) = .map (some 2) /\ (.pointer (some ⟨4, 0, none⟩) : Value) = .pointer (some ⟨4, 0, none⟩) /\ True) /\ ((some (.map (heldE (addM L (List.getD L x2 zeroM))) : KObj) = some (.map (heldE L) : KObj) /\ belowO 5 (.map (heldE L) : KObj) = true) /\ (some (.iter 1 (List.length (heldE L)) (x1 ++ [x2]) : KObj) = some (.iter 1 (List.length (heldE L)) x1' : KObj) /\ belowO 5 (.iter 1 (List.length (heldE L)) x1' : KObj) = true) /\ True) /\ (True) /\ (True))))) /\ ((∀ x2 : Nat, x2 < (List.length (heldE L)) -> x2 ∈ x1) -> (((decide ((1500 : Int) < (((List.length (heldE L)) : Nat) : Int))) = true -> (true = true /\ wk (.tuple #[.pointer none, .int .i64 2] : Value) (rn (sg 2 []) 3 (.tuple #[.pointer (some ⟨2, 0, none⟩), .int .i64 0] : Value)) /\ (True /\ True /\ True))) /\ ((decide ((1500 : Int) < (((List.length (heldE L)) : Nat) : Int))) = false -> (true = true /\ wk (.tuple #[.pointer (some ⟨3, 0, none⟩), .int .i64 0] : Value) (rn (sg 2 [(2, 3), (3, 2)]) 3 (.tuple #[.pointer (some ⟨2, 0, none⟩), .int .i64 0] : Value)) /\ (wkO (.cells true 0 [.map (some 2)] : KObj) (rno (sg 2 [(2, 3), (3, 2)]) 3 (.cells true 0 [.map (some 3)] : KObj)) /\ (some (.map (heldE L) : KObj) = some (.map (heldE L) : KObj) /\ belowO 2 (.map (heldE L) : KObj) = true) /\ True))))))))
theorem EmergeP (L : List Msg) : vF prog msk (dm 0) 100000 true 40 true 29 [.pointer (some ⟨0, 0, none⟩), .pointer (some ⟨0, 0, none⟩)] (readsK [.cells true 0 [.map (some 1)], .map (heldE L)]) (some [])
 (.go 34 (.ans [(1, .map (heldE L))] (.map (some 2)) [.map (heldE L)] (.go 10 (.into (some [2]) (.go 1 (.inv 3 (List Nat) (([] : List Nat)) [] [2, 4] (fun x1 => [(0, .map (some 2)), (7, .pointer (some ⟨4, 0, none⟩))]) (fun x1 => [(2, true, .map (heldE L)), (4, true, .iter 1 (List.length (heldE L)) x1)]) (fun x1 => []) (fun x1 => []) (fun x1 => (SeenI L x1)) (fun x1 => (List.length L - List.length x1)) (fun x1 => .nxt (fun x2 => .go 1 (.val (.tuple #[.agg #[.int .i64 (List.getD L x2 zeroM).au, .int .i64 (List.getD L x2 zeroM).nu, .int .i64 (List.getD L x2 zeroM).at_, .int .i64 (List.getD L x2 zeroM).ki, .int .i64 (List.getD L x2 zeroM).sh, .int .i64 (List.getD L x2 zeroM).ce, .int .i64 (List.getD L x2 zeroM).va], .bool true]) (.go 7 (.mset (heldE (addM L (List.getD L x2 zeroM))) (.again []))))) (.go 1 (.keep (.go 5 (.fork (.go 1 (.again [])) (.go 2 (.again [(2, 3), (3, 2)])))))))))))))
 (newK ((readsK [.cells true 0 [.map (some 1)], .map (heldE L)]) : HT).n 3 (.tuple #[.pointer (some ⟨2, 0, none⟩), .int .i64 0]) [(false, .cells true 0 [.map (some 3)]), (true, .map (heldE L))]) = RmergeP L := by kernel_rfl
end
end Go.Proofs.YtbgfjemppjhmjaaGreat
/- Radio: a picture together with itself. No condition. -/
namespace Go.Proofs.YtbgfjemppjhmjaaGreat
open Go Go.K
set_option maxRecDepth 100000
set_option linter.unusedVariables false
set_option linter.unusedSimpArgs false
noncomputable section
attribute [local irreducible] vF
theorem hv12 {L : List Msg} (hl : L.length <= 1500) : RmergeP L := by
 unfold RmergeP
 refine ⟨⟨rfl, trivial⟩, fun H' hl' h => ?_, rfl, seen_0 L, ?_, fun _ => rfl, fun s hs => ⟨rfl, fun i hi hn => ⟨rfl, entM L (by rwa [held_len] at hi) s, setM _ _, ?_⟩, fun hall => ?_⟩⟩
 ·have := kCloneM (H := H') h.1
  rw [hl'] at this; exact this
 ·repeat' first | exact held_below _ _ | exact trivial | exact rfl | exact wk_refl _ | refine wkO_cells ?_ | refine wks_cons ?_ ?_ | exact wks_nil | exact wk_nil _ _ _ (.inl rfl) | (exact wk_Q (by omega)) | refine wk_tupL ?_ | refine wk_aggL ?_ | refine joinMax ?_ ?_ ?_ | refine joinMin ?_ ?_ ?_ | refine toMax ?_ | refine toMin ?_ | refine ⟨rfl, ?_⟩ | refine ⟨trivial, ?_⟩ | (refine forkD (fun h => ?_) (fun h => ?_)) | (refine forkNe (fun h => ?_) (fun h => ?_)) | (refine forkEq (fun h => ?_) (fun h => ?_)) | refine forkNot ?_ | (refine ⟨vI64 (by omega), ?_⟩) | (refine And.intro (by omega) ?_) | apply And.intro | (exact iEq (by omega)) | (exact vI64 (by omega))
 ·have hi' : i < L.length := by rwa [held_len] at hi
  refine ⟨s ++ [i], seen_snoc hs hi' hn, seen_more hs hi' hn, ?_⟩
  rw [show addM L (L.getD i zeroM) = L from if_pos (getD_mem hi')]
  repeat' first | exact held_below _ _ | exact trivial | exact rfl | exact wk_refl _ | refine wkO_cells ?_ | refine wks_cons ?_ ?_ | exact wks_nil | exact wk_nil _ _ _ (.inl rfl) | (exact wk_Q (by omega)) | refine wk_tupL ?_ | refine wk_aggL ?_ | refine joinMax ?_ ?_ ?_ | refine joinMin ?_ ?_ ?_ | refine toMax ?_ | refine toMin ?_ | refine ⟨rfl, ?_⟩ | refine ⟨trivial, ?_⟩ | (refine forkD (fun h => ?_) (fun h => ?_)) | (refine forkNe (fun h => ?_) (fun h => ?_)) | (refine forkEq (fun h => ?_) (fun h => ?_)) | refine forkNot ?_ | (refine ⟨vI64 (by omega), ?_⟩) | (refine And.intro (by omega) ?_) | apply And.intro | (exact iEq (by omega)) | (exact vI64 (by omega))
 ·rw [held_len]
  exact ⟨fun a => absurd (of_decide_eq_true a) (by omega), fun a => ⟨rfl, wk_of_eq rfl, wkO_of_eq rfl, ⟨rfl, held_below _ _⟩, trivial⟩⟩
theorem kMergeP {L : List Msg} (hl : L.length <= 1500) {H : Heap} {i q : Nat} (hne : i ≠ q) (hi : H[i]? = some (.cells true 0 [.map (some q)])) (hq : H[q]? = some (.map (heldE L))) :
  KCall prog 29 [.pointer (some ⟨i, 0, none⟩), .pointer (some ⟨i, 0, none⟩)] H [] (Is (.tuple #[.pointer (some ⟨H.length, 0, none⟩), .int .i64 0]) (H ++ [.cells true 0 [.map (some (H.length + 1))], .map (heldE L)])) := by
 have key := vcK mskOk mixed glob0 40 (os := [.cells true 0 [.map (some 1)], .map (heldE L)]) (v := .tuple #[.pointer (some ⟨2, 0, none⟩), .int .i64 0])
  (new := [(false, .cells true 0 [.map (some 3)]), (true, .map (heldE L))]) (Eq.mpr (EmergeP L) (hv12 hl)) (pic_ok L 1) rfl
  (by show ((rnoOk 3 (.cells true 0 [.map (some 3)]) && true) && ((rnoOk 3 (.map (heldE L)) && true) && true)) = true; rw [held_ok]; rfl) (H := H) (ids := [i, q]) (by simp [hne]) (pic_objs hi hq)
 have e : (List.map (rno (sgNew (sgI [i, q]) 2 H.length) 3) ([(false, KObj.cells true 0 [.map (some 3)]), (true, KObj.map (heldE L))].map (·.2))) = [.cells true 0 [.map (some (H.length + 1))], .map (heldE L)] := by
  show [rno _ 3 (.cells true 0 [.map (some 3)]), rno _ 3 (.map (heldE L))] = _
  rw [held_rno]; rfl
 have e2 : ([KObj.cells true 0 [.map (some 1)], .map (heldE L)] : List KObj).length = 2 := rfl
 rw [e2, e] at key
 exact key
end
end Go.Proofs.YtbgfjemppjhmjaaGreat
/- Radio: pictures that tell one another: words. No condition. -/
namespace Go.Proofs.YtbgfjemppjhmjaaGreat
set_option linter.unusedSimpArgs false
open Go Go.K
set_option linter.unusedVariables false
def sd (A : List Int) (n : Int) : List Msg := (saidS A 0 (Int.toNat (n % 41))).1
def sdN (A : List Int) (n : Int) : Int := (saidS A 0 (Int.toNat (n % 41))).2
theorem sd_ok (A : List Int) (n : Int) : (sd A n).length <= 40 /\ (∀ m ∈ sd A n, okM m = true) /\ 0 <= sdN A n /\ sdN A n <= 1000 := by
 obtain ⟨h1, h2, h3, h4⟩ := saidS_ok A 0 (Int.toNat (n % 41))
 have := Int.emod_nonneg n (b := 41) (by omega)
 have := Int.emod_lt_of_pos n (b := 41) (by omega)
 unfold sd sdN
 exact ⟨by omega, h4, by omega, by omega⟩
end Go.Proofs.YtbgfjemppjhmjaaGreat
/- Radio: lists of numbers in laws' arguments. No condition. -/
namespace Go.Proofs.YtbgfjemppjhmjaaGreat
set_option linter.unusedSimpArgs false
set_option linter.unusedVariables false
open Go Go.K
noncomputable section
abbrev dI (L : List Int) : Value := .iface (L.length + 1) (.agg ⟨L.flatMap intC⟩)
theorem dI_b (L : List Int) : belowC 0 (dI L) = true := all_belowD 0 L
theorem args_rn {vs : List Value} (h : vs.all (belowC 0) = true) (σ : Nat -> Option Nat) : vs.map (rn σ 5) = vs := (rnCl (σ := σ) (d := 2) h).1
end
end Go.Proofs.YtbgfjemppjhmjaaGreat
/- Radio: pictures that tell one another: the law. No condition. -/
namespace Go.Proofs.YtbgfjemppjhmjaaGreat
open Go Go.K
set_option maxRecDepth 100000
set_option linter.unusedVariables false
set_option linter.unusedSimpArgs false
noncomputable section
attribute [local irreducible] vF
theorem kPick41 (x : Int) (H : Heap) : KCall prog 16 [.int .i64 x, .int .i64 41] H [] (Is (.int .i64 ((Int.toNat (x % 41) : Nat) : Int)) H) := by
 have h0 := Int.emod_nonneg x (b := 41) (by omega)
 have := kPick x 41 (by omega) (by omega) H
 rw [show ((Int.toNat (x % 41) : Nat) : Int) = x % 41 by omega]; exact this
theorem kSd (A : List Int) (n : Int) {H : Heap} {D : Nat} (hD : H[D]? = some (.cells true 0 (digC A 0))) :
  KCall prog 25 [.pointer (some ⟨D, 0, none⟩), .int .i64 ((Int.toNat (n % 41) : Nat) : Int)] H [D] (Is (.slice (some ⟨H.length, 0, some 1⟩) (sd A n).length (sd A n).length) (H.set D (.cells true 0 (digC A (sdN A n))) ++ [.cells true 7 ((sd A n).flatMap msgC)])) := by
 have h0 := Int.emod_nonneg n (b := 41) (by omega)
 have h1 := Int.emod_lt_of_pos n (b := 41) (by omega)
 exact kSaid A 0 (Int.toNat (n % 41)) (by omega) (by omega) hD
end
end Go.Proofs.YtbgfjemppjhmjaaGreat
/- Radio: messages that come in any order: plain laws. No condition. -/
namespace Go.Proofs.YtbgfjemppjhmjaaGreat
set_option linter.unusedSimpArgs false
open Go Go.K
set_option linter.unusedVariables false
theorem nodup_sub : ∀ (X l : List Msg), X.Nodup -> (∀ m ∈ X, m ∈ l) -> X.length <= l.length
 | [], _, _, _ => Nat.zero_le _
 | a :: X, l, h, hs => by
  rw [List.nodup_cons] at h
  have ih := nodup_sub X (l.erase a) h.2 fun m hm => (List.mem_erase_of_ne fun e => h.1 (by rw [<- e]; exact hm)).2 (hs m (List.mem_cons_of_mem _ hm))
  have ha := hs a (List.mem_cons_self ..)
  rw [List.length_erase_of_mem ha] at ih
  have := List.length_pos_of_mem ha
  rw [List.length_cons]; omega
theorem swap_mem {C : List Msg} {r i : Nat} (hr : r <= C.length) (hi : i < r) (m : Msg) : m ∈ C.take r ↔ m = C.getD i zeroM ∨ m ∈ (C.set i (C.getD (r - 1) zeroM)).take (r - 1) := by
 have ht : ∀ (X : List Msg) (n : Nat), n <= X.length -> (m ∈ X.take n ↔ ∃ k, k < n /\ X.getD k zeroM = m) := by
  intro X n hn
  rw [List.mem_iff_getElem]
  constructor
  ·rintro ⟨k, hk, e⟩
   rw [List.length_take] at hk
   refine ⟨k, by omega, ?_⟩
   rw [<- e, List.getElem_take, List.getD_eq_getElem?_getD, List.getElem?_eq_getElem (by omega)]; rfl
  ·rintro ⟨k, hk, e⟩
   refine ⟨k, by rw [List.length_take]; omega, ?_⟩
   rw [<- e, List.getElem_take, List.getD_eq_getElem?_getD, List.getElem?_eq_getElem (by omega)]; rfl
 rw [ht C r hr, ht _ (r - 1) (by rw [List.length_set]; omega)]
 have hs : ∀ k, (C.set i (C.getD (r - 1) zeroM)).getD k zeroM = if k = i then C.getD (r - 1) zeroM else C.getD k zeroM := by
  intro k
  rw [List.getD_eq_getElem?_getD, List.getElem?_set]
  by_cases e : i = k
  ·rw [if_pos e, if_pos (by omega), if_pos e.symm]; rfl
  ·rw [if_neg e, if_neg fun q => e q.symm, List.getD_eq_getElem?_getD]
 constructor
 ·rintro ⟨k, hk, e⟩
  by_cases h1 : k = i
  ·exact .inl (by rw [<- e, h1])
  ·by_cases h2 : k = r - 1
   ·exact .inr ⟨i, by omega, by rw [hs, if_pos rfl, <- h2, e]⟩
   ·exact .inr ⟨k, by omega, by rw [hs, if_neg h1, e]⟩
 ·rintro (e | ⟨k, hk, e⟩)
  ·exact ⟨i, hi, e.symm⟩
  ·rw [hs] at e
   by_cases h1 : k = i
   ·rw [if_pos h1] at e; exact ⟨r - 1, by omega, e⟩
   ·rw [if_neg h1] at e; exact ⟨k, by omega, e⟩
structure OSt where
 o : List Msg
 c : List Msg
 r : Nat
 p0 : List Msg
 p1 : List Msg
 p2 : List Msg
 d : Int
structure OrdI (l : List Msg) (s : OSt) : Prop where
 mo : ∀ m, m ∈ l ↔ m ∈ s.o ∨ m ∈ s.c.take s.r
 mp : ∀ m, m ∈ l ↔ m ∈ s.p0 ∨ m ∈ s.p1 ∨ m ∈ s.p2 ∨ m ∈ s.c.take s.r
 rl : s.r <= s.c.length
 cl : s.c.length = l.length
 ol : s.o.length <= 300
 pl : s.p0.length + s.p1.length + s.p2.length = s.o.length
 dl : 0 <= s.d /\ s.d = 3 * (s.o.length : Int)
theorem ordI_0 (l : List Msg) : OrdI l ⟨[], l, l.length, [], [], [], 0⟩ := by
 constructor <;> simp
end Go.Proofs.YtbgfjemppjhmjaaGreat
/- Radio: messages in any order: words of the law. No condition. -/
namespace Go.Proofs.YtbgfjemppjhmjaaGreat
set_option linter.unusedSimpArgs false
open Go Go.K
set_option linter.unusedVariables false
def oSt0 (A : List Int) (n : Int) : OSt := ⟨[], sd A n, (sd A n).length, [], [], [], 0⟩
end Go.Proofs.YtbgfjemppjhmjaaGreat
