/- What is to be shown of functions. Printed by a program. No condition. -/
import Derived.Test.YtkkgnalgmebfjaaGA4xO1
import Derived.Test.YtkkgnalgmebfjaaGD5xE1a
import Derived.Test.YtkkgnalgmebfjaaRows
import Derived.JoinedCond
import Derived.Test.YtkkgnalgmebfjaaGD0xD4
import Derived.Test.YtkkgnalgmebfjaaGK27xK40
namespace Go.Proofs.Ytkkgnalgmebfjaa
set_option linter.unusedSimpArgs false
open Go Go.K
set_option maxRecDepth 100000
set_option maxHeartbeats 4000000
set_option linter.unusedVariables false
noncomputable section
def Rfsome (L : List Int) (n lo hi : Int) : Prop :=
  ((nI (IntKind.wrap .i64 (hi - lo)) : Value) = nI (hi - lo) ∧ ((nI (IntKind.wrap .i64 ((hi - lo) + 1)) : Value) = nI ((hi - lo) + 1) ∧ (((someR (.cells true 0 [.iface (L.length + 1) (.agg ⟨(L.flatMap intC)⟩), nI n])) ∧ True) ∧ (∀ H' : Heap, H'.length = 3 → (H'[0]? = some (.cells true 0 [.iface (L.length + 1) (.agg ⟨(L.flatMap intC)⟩), nI n] : KObj) ∧ True) → KCall prog 40 [.pointer (some ⟨0, 0, none⟩), nI ((hi - lo) + 1)] H' [0] (Is (nI (dN L n ((hi - lo) + 1))) (List.set H' 0 (.cells true 0 [.iface (L.length + 1) (.agg ⟨(L.flatMap intC)⟩), nI (n + 1)] : KObj)))) ∧ ((nI (IntKind.wrap .i64 (lo + (dN L n ((hi - lo) + 1)))) : Value) = nI (lo + (dN L n ((hi - lo) + 1))) ∧ (true = true ∧ wk (nI (lo + (dN L n ((hi - lo) + 1))) : Value) (rn (sg 2 []) 3 (nI (lo + (dN L n ((hi - lo) + 1))) : Value)) ∧ ((keptR 2 (.cells true 0 [.iface (L.length + 1) (.agg ⟨(L.flatMap intC)⟩), nI (n + 1)])) ∧ True) ∧ (True))))))
theorem Efsome (L : List Int) (n lo hi : Int) : vF prog msk (dm 0) 100000 true 40 true 57 [.agg #[nI lo, nI hi], .pointer (some ⟨1, 0, none⟩)] (readsW 0 0 (digC L n) [[.pointer (some ⟨0, 0, none⟩)]]) (some [0])
  (.go 9 (.slot 11 (nI (hi - lo)) (.go 0 (.slot 12 (nI ((hi - lo) + 1)) (.answ [(0, .cells true 0 [.iface (L.length + 1) (.agg ⟨(L.flatMap intC)⟩), nI n])] (nI (dN L n ((hi - lo) + 1))) [(0, .cells true 0 [.iface (L.length + 1) (.agg ⟨(L.flatMap intC)⟩), nI (n + 1)])] [] (.go 0 (.slot 14 (nI (lo + (dN L n ((hi - lo) + 1)))) (.go 0 (.keep (.again []))))))))))
  (newKW ((readsW 0 0 (digC L n) [[.pointer (some ⟨0, 0, none⟩)]]) : HT).n 3 0 (.cells true 0 [.iface (L.length + 1) (.agg ⟨(L.flatMap intC)⟩), nI (n + 1)]) (nI (lo + (dN L n ((hi - lo) + 1)))) []) = Rfsome L n lo hi := by kernel_rfl
def RHoldsLaw (sp : Value) (L : List Int) (hours : Int) : Prop :=
  (((someR (.cells true 0 [.iface (L.length + 1) (.agg ⟨(L.flatMap intC)⟩), nI 0])) ∧ True) ∧ (∀ H' : Heap, H'.length = 2 → (H'[0]? = some (.cells true 0 [.iface (L.length + 1) (.agg ⟨(L.flatMap intC)⟩), nI 0] : KObj) ∧ True) → KCall prog 11 [.pointer (some ⟨0, 0, none⟩)] H' [0] (Is (.agg #[nI (kW L), nI (kH L), slQ 2 1 (kA L).length]) ((List.set H' 0 (.cells true 0 [.iface (L.length + 1) (.agg ⟨(L.flatMap intC)⟩), nI (k1 L)] : KObj)) ++ [(.cells true 1 ((kA L).flatMap boolC) : KObj)]))) ∧ (((someR (.cells true 0 [.iface (L.length + 1) (.agg ⟨(L.flatMap intC)⟩), nI (k1 L)])) ∧ (someR (.cells true 1 ((kA L).flatMap boolC))) ∧ True) ∧ (∀ H' : Heap, H'.length = 4 → (H'[0]? = some (.cells true 0 [.iface (L.length + 1) (.agg ⟨(L.flatMap intC)⟩), nI (k1 L)] : KObj) ∧ H'[2]? = some (.cells true 1 ((kA L).flatMap boolC) : KObj) ∧ True) → KCall prog 12 [.pointer (some ⟨0, 0, none⟩), .agg #[nI (kW L), nI (kH L), slQ 2 1 (kA L).length]] H' [0] (Is (slQ 4 1 (kX L).length) ((List.set H' 0 (.cells true 0 [.iface (L.length + 1) (.agg ⟨(L.flatMap intC)⟩), nI (k2 L)] : KObj)) ++ [(.cells true 4 ((kX L).flatMap iceC) : KObj)]))) ∧ (((someR (.cells true 0 [.iface (L.length + 1) (.agg ⟨(L.flatMap intC)⟩), nI (k2 L)])) ∧ (someR (.cells true 1 ((kA L).flatMap boolC))) ∧ (someR (.cells true 4 ((kX L).flatMap iceC))) ∧ True) ∧ (∀ H' : Heap, H'.length = 5 → (H'[0]? = some (.cells true 0 [.iface (L.length + 1) (.agg ⟨(L.flatMap intC)⟩), nI (k2 L)] : KObj) ∧ H'[2]? = some (.cells true 1 ((kA L).flatMap boolC) : KObj) ∧ H'[4]? = some (.cells true 4 ((kX L).flatMap iceC) : KObj) ∧ True) → KCall prog 41 [.pointer (some ⟨0, 0, none⟩), .agg #[nI (kW L), nI (kH L), slQ 2 1 (kA L).length], slQ 4 1 (kX L).length] H' [0] (Is (.agg #[nI (kW L), nI (kH L), nI (tHr L), slQ 5 1 (tC L).length]) ((List.set H' 0 (.cells true 0 [.iface (L.length + 1) (.agg ⟨(L.flatMap intC)⟩), nI (t3 L)] : KObj)) ++ [(.cells true 8 ((tC L).flatMap cellC) : KObj)]))) ∧ (((someR (.cells true 0 [.iface (L.length + 1) (.agg ⟨(L.flatMap intC)⟩), nI (t3 L)])) ∧ True) ∧ (∀ H' : Heap, H'.length = 8 → (H'[0]? = some (.cells true 0 [.iface (L.length + 1) (.agg ⟨(L.flatMap intC)⟩), nI (t3 L)] : KObj) ∧ True) → KCall prog 40 [.pointer (some ⟨0, 0, none⟩), nI 101] H' [0] (Is (nI (dN L (t3 L) 101)) (List.set H' 0 (.cells true 0 [.iface (L.length + 1) (.agg ⟨(L.flatMap intC)⟩), nI ((t3 L) + 1)] : KObj)))) ∧ (((someR (.cells true 0 [.iface (L.length + 1) (.agg ⟨(L.flatMap intC)⟩), nI ((t3 L) + 1)])) ∧ True) ∧ (∀ H' : Heap, H'.length = 8 → (H'[0]? = some (.cells true 0 [.iface (L.length + 1) (.agg ⟨(L.flatMap intC)⟩), nI ((t3 L) + 1)] : KObj) ∧ True) → KCall prog 40 [.pointer (some ⟨0, 0, none⟩), nI 101] H' [0] (Is (nI (dN L ((t3 L) + 1) 101)) (List.set H' 0 (.cells true 0 [.iface (L.length + 1) (.agg ⟨(L.flatMap intC)⟩), nI (((t3 L) + 1) + 1)] : KObj)))) ∧ (((someR (.cells true 0 [.iface (L.length + 1) (.agg ⟨(L.flatMap intC)⟩), nI (((t3 L) + 1) + 1)])) ∧ True) ∧ (∀ H' : Heap, H'.length = 8 → (H'[0]? = some (.cells true 0 [.iface (L.length + 1) (.agg ⟨(L.flatMap intC)⟩), nI (((t3 L) + 1) + 1)] : KObj) ∧ True) → KCall prog 40 [.pointer (some ⟨0, 0, none⟩), nI 101] H' [0] (Is (nI (dN L (((t3 L) + 1) + 1) 101)) (List.set H' 0 (.cells true 0 [.iface (L.length + 1) (.agg ⟨(L.flatMap intC)⟩), nI ((((t3 L) + 1) + 1) + 1)] : KObj)))) ∧ (((someR (.cells true 0 [.iface (L.length + 1) (.agg ⟨(L.flatMap intC)⟩), nI ((((t3 L) + 1) + 1) + 1)])) ∧ True) ∧ (∀ H' : Heap, H'.length = 8 → (H'[0]? = some (.cells true 0 [.iface (L.length + 1) (.agg ⟨(L.flatMap intC)⟩), nI ((((t3 L) + 1) + 1) + 1)] : KObj) ∧ True) → KCall prog 40 [.pointer (some ⟨0, 0, none⟩), nI 30] H' [0] (Is (nI (dN L ((((t3 L) + 1) + 1) + 1) 30)) (List.set H' 0 (.cells true 0 [.iface (L.length + 1) (.agg ⟨(L.flatMap intC)⟩), nI (((((t3 L) + 1) + 1) + 1) + 1)] : KObj)))) ∧ (((someR (.cells true 0 [.iface (L.length + 1) (.agg ⟨(L.flatMap intC)⟩), nI (((((t3 L) + 1) + 1) + 1) + 1)])) ∧ True) ∧ (∀ H' : Heap, H'.length = 8 → (H'[0]? = some (.cells true 0 [.iface (L.length + 1) (.agg ⟨(L.flatMap intC)⟩), nI (((((t3 L) + 1) + 1) + 1) + 1)] : KObj) ∧ True) → KCall prog 40 [.pointer (some ⟨0, 0, none⟩), nI 101] H' [0] (Is (nI (dN L (((((t3 L) + 1) + 1) + 1) + 1) 101)) (List.set H' 0 (.cells true 0 [.iface (L.length + 1) (.agg ⟨(L.flatMap intC)⟩), nI ((((((t3 L) + 1) + 1) + 1) + 1) + 1)] : KObj)))) ∧ (((someR (.cells true 0 [.iface (L.length + 1) (.agg ⟨(L.flatMap intC)⟩), nI ((((((t3 L) + 1) + 1) + 1) + 1) + 1)])) ∧ True) ∧ (∀ H' : Heap, H'.length = 8 → (H'[0]? = some (.cells true 0 [.iface (L.length + 1) (.agg ⟨(L.flatMap intC)⟩), nI ((((((t3 L) + 1) + 1) + 1) + 1) + 1)] : KObj) ∧ True) → KCall prog 40 [.pointer (some ⟨0, 0, none⟩), nI 101] H' [0] (Is (nI (dN L ((((((t3 L) + 1) + 1) + 1) + 1) + 1) 101)) (List.set H' 0 (.cells true 0 [.iface (L.length + 1) (.agg ⟨(L.flatMap intC)⟩), nI (((((((t3 L) + 1) + 1) + 1) + 1) + 1) + 1)] : KObj)))) ∧ (((someR (.cells true 0 [.iface (L.length + 1) (.agg ⟨(L.flatMap intC)⟩), nI (((((((t3 L) + 1) + 1) + 1) + 1) + 1) + 1)])) ∧ True) ∧ (∀ H' : Heap, H'.length = 8 → (H'[0]? = some (.cells true 0 [.iface (L.length + 1) (.agg ⟨(L.flatMap intC)⟩), nI (((((((t3 L) + 1) + 1) + 1) + 1) + 1) + 1)] : KObj) ∧ True) → KCall prog 40 [.pointer (some ⟨0, 0, none⟩), nI 101] H' [0] (Is (nI (dN L (((((((t3 L) + 1) + 1) + 1) + 1) + 1) + 1) 101)) (List.set H' 0 (.cells true 0 [.iface (L.length + 1) (.agg ⟨(L.flatMap intC)⟩), nI ((((((((t3 L) + 1) + 1) + 1) + 1) + 1) + 1) + 1)] : KObj)))) ∧ (((someR (.cells true 0 [.iface (L.length + 1) (.agg ⟨(L.flatMap intC)⟩), nI ((((((((t3 L) + 1) + 1) + 1) + 1) + 1) + 1) + 1)])) ∧ True) ∧ (∀ H' : Heap, H'.length = 8 → (H'[0]? = some (.cells true 0 [.iface (L.length + 1) (.agg ⟨(L.flatMap intC)⟩), nI ((((((((t3 L) + 1) + 1) + 1) + 1) + 1) + 1) + 1)] : KObj) ∧ True) → KCall prog 40 [.pointer (some ⟨0, 0, none⟩), nI 30] H' [0] (Is (nI (dN L ((((((((t3 L) + 1) + 1) + 1) + 1) + 1) + 1) + 1) 30)) (List.set H' 0 (.cells true 0 [.iface (L.length + 1) (.agg ⟨(L.flatMap intC)⟩), nI (((((((((t3 L) + 1) + 1) + 1) + 1) + 1) + 1) + 1) + 1)] : KObj)))) ∧ ((True) ∧ (∀ H' : Heap, H'.length = 8 → (True) → KCall prog 38 [nI hours, nI 7] H' [] (Is (nI (hours % 7)) H')) ∧ (true = true ∧ (((0 : Nat) : Int) ≤ hours % 7) ∧ (true = true ∧ ((nI 0 : Value) = nI ((0 : Nat) : Int) ∧ wk (.slice none 0 0 : Value) (slQ 0 1 (hl L 0).length : Value) ∧ (.bool false : Value) = .bool false ∧ (.pointer (some ⟨1, 0, none⟩) : Value) = .pointer (some ⟨1, 0, none⟩) ∧ (.pointer (some ⟨3, 0, none⟩) : Value) = .pointer (some ⟨3, 0, none⟩) ∧ wkR (slQ 4 1 (kX L).length) ∧ (.pointer (some ⟨6, 0, none⟩) : Value) = .pointer (some ⟨6, 0, none⟩) ∧ (.pointer (some ⟨7, 0, none⟩) : Value) = .pointer (some ⟨7, 0, none⟩) ∧ (nI (hours % 7) : Value) = nI (hours % 7) ∧ True) ∧ ((some (.cells true 0 [.iface (L.length + 1) (.agg ⟨(L.flatMap intC)⟩), nI (((((((((t3 L) + 1) + 1) + 1) + 1) + 1) + 1) + 1) + 1)] : KObj) = some (.cells true 0 [.iface (L.length + 1) (.agg ⟨(L.flatMap intC)⟩), nI (hp L 0)] : KObj) ∧ belowO 8 (.cells true 0 [.iface (L.length + 1) (.agg ⟨(L.flatMap intC)⟩), nI (hp L 0)] : KObj) = true) ∧ (keptR 8 (.cells true 0 [.pointer (some ⟨0, 0, none⟩)])) ∧ (keptR 8 (.cells true 0 [nI (kW L), nI (kH L), slQ 2 1 (kA L).length])) ∧ (keptR 8 (.cells true 0 [nI (kW L), nI (kH L), nI (tHr L), slQ 5 1 (tC L).length])) ∧ (keptR 8 (.cells true 0 [nI (dN L (t3 L) 101), nI (dN L ((t3 L) + 1) 101), nI (dN L (((t3 L) + 1) + 1) 101), nI (dN L ((((t3 L) + 1) + 1) + 1) 30), nI (dN L (((((t3 L) + 1) + 1) + 1) + 1) 101), nI (dN L ((((((t3 L) + 1) + 1) + 1) + 1) + 1) 101), nI (dN L (((((((t3 L) + 1) + 1) + 1) + 1) + 1) + 1) 101), nI (dN L ((((((((t3 L) + 1) + 1) + 1) + 1) + 1) + 1) + 1) 30)])) ∧ True) ∧ (True ∧ True) ∧ (True)) ∧ (∀ x12 : Nat, true = true) ∧ ∀ x12 : Nat, ((x12 : Int) ≤ hours % 7) → (((decide (((x12 : Int) : Int) < (hours % 7))) = true → (((someR (.cells true 0 [.iface (L.length + 1) (.agg ⟨(L.flatMap intC)⟩), nI (hp L x12)])) ∧ (someR (.cells true 1 ((kA L).flatMap boolC))) ∧ True) ∧ (∀ H' : Heap, H'.length = 9 → (H'[0]? = some (.cells true 0 [.iface (L.length + 1) (.agg ⟨(L.flatMap intC)⟩), nI (hp L x12)] : KObj) ∧ H'[2]? = some (.cells true 1 ((kA L).flatMap boolC) : KObj) ∧ True) → KCall prog 13 [.pointer (some ⟨0, 0, none⟩), .agg #[nI (kW L), nI (kH L), slQ 2 1 (kA L).length]] H' [0] (Is (slQ 9 1 (List.length (curs L (hp L x12) (kA L).length).1)) ((List.set H' 0 (.cells true 0 [.iface (L.length + 1) (.agg ⟨(L.flatMap intC)⟩), nI (curs L (hp L x12) (kA L).length).2] : KObj)) ++ [(.cells true 4 (List.flatMap flowC (curs L (hp L x12) (kA L).length).1) : KObj)]))) ∧ ((((hl L x12).length + 1) * 24 ≤ 2 ^ 44 ∧ 1 ≠ 0 ∧ ((hl L x12).length ≤ (hl L x12).length ∧ 0 + (hl L x12).length * 1 ≤ List.length (flL (hl L x12))) ∧ (1 ≤ 1 ∧ 0 + 1 * 1 ≤ List.length ([.iface ((List.length (curs L (hp L x12) (kA L).length).1) + 1) (.agg ⟨(List.flatMap flowC (curs L (hp L x12) (kA L).length).1)⟩)] : List Value)) ∧ (((([.iface ((List.length (curs L (hp L x12) (kA L).length).1) + 1) (.agg ⟨(List.flatMap flowC (curs L (hp L x12) (kA L).length).1)⟩)] : List Value).drop 0).take (1 * 1)) : List Value).all (fun v => one1 v) = true) ∧ true = true ∧ ((nI (IntKind.wrap .i64 ((x12 : Int) + 1)) : Value) = nI ((x12 : Int) + 1) ∧ (∃ x12' : Nat, ((x12' : Int) ≤ hours % 7) ∧ (Int.toNat (hours % 7) - x12') < (Int.toNat (hours % 7) - x12) ∧ true = true ∧ ((nI ((x12 : Int) + 1) : Value) = nI (x12' : Int) ∧ wk (.slice (some ⟨11, 0, none⟩) ((hl L x12).length + 1) ((hl L x12).length + 1) : Value) (slQ 11 1 (hl L x12').length : Value) ∧ (.bool false : Value) = .bool false ∧ (.pointer (some ⟨1, 0, none⟩) : Value) = .pointer (some ⟨1, 0, none⟩) ∧ (.pointer (some ⟨3, 0, none⟩) : Value) = .pointer (some ⟨3, 0, none⟩) ∧ wkR (slQ 4 1 (kX L).length) ∧ (.pointer (some ⟨6, 0, none⟩) : Value) = .pointer (some ⟨6, 0, none⟩) ∧ (.pointer (some ⟨7, 0, none⟩) : Value) = .pointer (some ⟨7, 0, none⟩) ∧ (nI (hours % 7) : Value) = nI (hours % 7) ∧ True) ∧ ((some (.cells true 0 [.iface (L.length + 1) (.agg ⟨(L.flatMap intC)⟩), nI (curs L (hp L x12) (kA L).length).2] : KObj) = some (.cells true 0 [.iface (L.length + 1) (.agg ⟨(L.flatMap intC)⟩), nI (hp L x12')] : KObj) ∧ belowO 8 (.cells true 0 [.iface (L.length + 1) (.agg ⟨(L.flatMap intC)⟩), nI (hp L x12')] : KObj) = true) ∧ (keptR 8 (.cells true 0 [.pointer (some ⟨0, 0, none⟩)])) ∧ (keptR 8 (.cells true 0 [nI (kW L), nI (kH L), slQ 2 1 (kA L).length])) ∧ (keptR 8 (.cells true 0 [nI (kW L), nI (kH L), nI (tHr L), slQ 5 1 (tC L).length])) ∧ (keptR 8 (.cells true 0 [nI (dN L (t3 L) 101), nI (dN L ((t3 L) + 1) 101), nI (dN L (((t3 L) + 1) + 1) 101), nI (dN L ((((t3 L) + 1) + 1) + 1) 30), nI (dN L (((((t3 L) + 1) + 1) + 1) + 1) 101), nI (dN L ((((((t3 L) + 1) + 1) + 1) + 1) + 1) 101), nI (dN L (((((((t3 L) + 1) + 1) + 1) + 1) + 1) + 1) 101), nI (dN L ((((((((t3 L) + 1) + 1) + 1) + 1) + 1) + 1) + 1) 30)])) ∧ True) ∧ ((some (.cells true 1 ((((flL (hl L x12)).drop 0).take ((hl L x12).length * 1)) ++ ((([.iface ((List.length (curs L (hp L x12) (kA L).length).1) + 1) (.agg ⟨(List.flatMap flowC (curs L (hp L x12) (kA L).length).1)⟩)] : List Value).drop 0).take (1 * 1))) : KObj) = some (.cells true 1 (flL (hl L x12')) : KObj) ∧ belowO 8 (.cells true 1 (flL (hl L x12')) : KObj) = true) ∧ True) ∧ (True)))))) ∧ ((decide (((x12 : Int) : Int) < (hours % 7))) = false → (((someR (.cells true 1 ((kA L).flatMap boolC))) ∧ (someR (.cells true 1 (flL (hl L x12)))) ∧ (someR (.cells true 8 ((tC L).flatMap cellC))) ∧ True) ∧ (∀ H' : Heap, H'.length = 9 → (H'[2]? = some (.cells true 1 ((kA L).flatMap boolC) : KObj) ∧ H'[8]? = some (.cells true 1 (flL (hl L x12)) : KObj) ∧ H'[5]? = some (.cells true 8 ((tC L).flatMap cellC) : KObj) ∧ True) → KCall prog 55 [.agg #[nI (kW L), nI (kH L), slQ 2 1 (kA L).length], slQ 8 1 (hl L x12).length, .agg #[nI (kW L), nI (kH L), nI (tHr L), slQ 5 1 (tC L).length], .agg #[nI (dN L (t3 L) 101), nI (dN L ((t3 L) + 1) 101), nI (dN L (((t3 L) + 1) + 1) 101), nI (dN L ((((t3 L) + 1) + 1) + 1) 30), nI (dN L (((((t3 L) + 1) + 1) + 1) + 1) 101), nI (dN L ((((((t3 L) + 1) + 1) + 1) + 1) + 1) 101), nI (dN L (((((((t3 L) + 1) + 1) + 1) + 1) + 1) + 1) 101), nI (dN L ((((((((t3 L) + 1) + 1) + 1) + 1) + 1) + 1) + 1) 30)]] H' [] (Is (.tuple #[slQ 9 1 (hR L x12).length, nI 0]) (H' ++ [(.cells true 4 ((hR L x12).flatMap chD) : KObj)]))) ∧ ((((0 : Int) != 0) = true → (.bool false : Value) = sp) ∧ (((0 : Int) != 0) = false → ((nI (IntKind.wrap .i64 ((hours % 7) + 1)) : Value) = nI ((hours % 7) + 1) ∧ (((((((hR L x12).length : Nat) : Int) : Int) != ((hours % 7) + 1)) = true → (.bool false : Value) = sp) ∧ ((((((hR L x12).length : Nat) : Int) : Int) != ((hours % 7) + 1)) = false → (true = true ∧ (((0 : Nat) : Int) ≤ hours % 7) ∧ (true = true ∧ ((nI 0 : Value) = nI ((0 : Nat) : Int) ∧ wk (slQ 4 1 (kX L).length : Value) (slQ 4 1 (hF L x12 0).length : Value) ∧ (nI (hours % 7) : Value) = nI (hours % 7) ∧ (.pointer (some ⟨7, 0, none⟩) : Value) = .pointer (some ⟨7, 0, none⟩) ∧ (.pointer (some ⟨6, 0, none⟩) : Value) = .pointer (some ⟨6, 0, none⟩) ∧ (.pointer (some ⟨3, 0, none⟩) : Value) = .pointer (some ⟨3, 0, none⟩) ∧ (.pointer (some ⟨1, 0, none⟩) : Value) = .pointer (some ⟨1, 0, none⟩) ∧ wkR (slQ 8 1 (hl L x12).length) ∧ wkR (slQ 9 1 (hR L x12).length) ∧ True) ∧ ((some (.cells true 0 [.iface (L.length + 1) (.agg ⟨(L.flatMap intC)⟩), nI (hp L x12)] : KObj) = some (.cells true 0 [.iface (L.length + 1) (.agg ⟨(L.flatMap intC)⟩), nI (hP L x12 0)] : KObj) ∧ belowO 10 (.cells true 0 [.iface (L.length + 1) (.agg ⟨(L.flatMap intC)⟩), nI (hP L x12 0)] : KObj) = true) ∧ True ∧ (keptR 10 (.cells true 0 [.pointer (some ⟨0, 0, none⟩)])) ∧ (keptR 10 (.cells true 0 [nI (kW L), nI (kH L), slQ 2 1 (kA L).length])) ∧ (keptR 10 (.cells true 0 [nI (kW L), nI (kH L), nI (tHr L), slQ 5 1 (tC L).length])) ∧ (keptR 10 (.cells true 0 [nI (dN L (t3 L) 101), nI (dN L ((t3 L) + 1) 101), nI (dN L (((t3 L) + 1) + 1) 101), nI (dN L ((((t3 L) + 1) + 1) + 1) 30), nI (dN L (((((t3 L) + 1) + 1) + 1) + 1) 101), nI (dN L ((((((t3 L) + 1) + 1) + 1) + 1) + 1) 101), nI (dN L (((((((t3 L) + 1) + 1) + 1) + 1) + 1) + 1) 101), nI (dN L ((((((((t3 L) + 1) + 1) + 1) + 1) + 1) + 1) + 1) 30)])) ∧ True) ∧ ((some (.cells true 4 ((kX L).flatMap iceC) : KObj) = some (.cells true 4 ((hF L x12 0).flatMap iceC) : KObj) ∧ belowO 10 (.cells true 4 ((hF L x12 0).flatMap iceC) : KObj) = true) ∧ True) ∧ (True)) ∧ (∀ x14 : Nat, true = true) ∧ ∀ x14 : Nat, ((x14 : Int) ≤ hours % 7) → (((decide (((x14 : Int) : Int) ≤ (hours % 7))) = true → (((0 : Int) ≤ (x14 : Int) ∧ ((x14 : Int) : Int) < (((hR L x12).length : Nat) : Int)) ∧ ((partA 4 ((hR L x12).flatMap chD) (0 + Int.toNat (x14 : Int) * 4) = some (.agg #[nI (kW L), nI (kH L), nI ((tHr L) + (x14 : Int)), .iface ((hC L x12 x14).length + 1) (.agg ⟨((hC L x12 x14).flatMap cellC)⟩)])) ∧ (((someR (.cells true 4 ((hF L x12 x14).flatMap iceC))) ∧ True) ∧ (∀ H' : Heap, H'.length = 11 → (H'[10]? = some (.cells true 4 ((hF L x12 x14).flatMap iceC) : KObj) ∧ True) → KCall prog 56 [.agg #[nI (kW L), nI (kH L), nI ((tHr L) + (x14 : Int)), .iface ((hC L x12 x14).length + 1) (.agg ⟨((hC L x12 x14).flatMap cellC)⟩)], slQ 10 1 (hF L x12 x14).length] H' [] (Is (.tuple #[.bool (hH L x12 x14).1, nI (hH L x12 x14).2]) H')) ∧ (((((hH L x12 x14).2 : Int) != 0) = true → (.bool false : Value) = sp) ∧ ((((hH L x12 x14).2 : Int) != 0) = false → (((!(hH L x12 x14).1) = true → (.bool false : Value) = sp) ∧ ((!(hH L x12 x14).1) = false → (((0 : Int) ≤ (x14 : Int) ∧ ((x14 : Int) : Int) < (((hR L x12).length : Nat) : Int)) ∧ ((((hR L x12).flatMap chD)[((0 + Int.toNat (x14 : Int) * 4) + 2)]? = some (nI ((tHr L) + (x14 : Int)))) ∧ ((nI (IntKind.wrap .i64 ((tHr L) + (x14 : Int))) : Value) = nI ((tHr L) + (x14 : Int)) ∧ ((((((tHr L) + (x14 : Int)) : Int) != ((tHr L) + (x14 : Int))) = true → (.bool false : Value) = sp) ∧ (((((tHr L) + (x14 : Int)) : Int) != ((tHr L) + (x14 : Int))) = false → (((((x14 : Int) : Int) == (hours % 7)) = true → ((True) ∧ (∀ H' : Heap, H'.length = 11 → (True) → KCall prog 16 [] H' [] (Is (.bool true) H')) ∧ (.bool true : Value) = sp)) ∧ ((((x14 : Int) : Int) == (hours % 7)) = false → (((0 : Int) ≤ (x14 : Int) ∧ ((x14 : Int) : Int) < (((hl L x12).length : Nat) : Int)) ∧ (((flL (hl L x12))[(0 + Int.toNat (x14 : Int) * 1)]? = some (.iface (((hl L x12).getD x14 []).length + 1) (.agg ⟨(((hl L x12).getD x14 []).flatMap flowC)⟩))) ∧ (((someR (.cells true 0 [.iface (L.length + 1) (.agg ⟨(L.flatMap intC)⟩), nI (hP L x12 x14)])) ∧ True) ∧ (∀ H' : Heap, H'.length = 11 → (H'[0]? = some (.cells true 0 [.iface (L.length + 1) (.agg ⟨(L.flatMap intC)⟩), nI (hP L x12 x14)] : KObj) ∧ True) → KCall prog 14 [.pointer (some ⟨0, 0, none⟩), .iface (((hl L x12).getD x14 []).length + 1) (.agg ⟨(((hl L x12).getD x14 []).flatMap flowC)⟩)] H' [0] (Is (.tuple #[slQ 11 1 (List.length (hM L x12 x14).1), .bool true]) ((List.set H' 0 (.cells true 0 [.iface (L.length + 1) (.agg ⟨(L.flatMap intC)⟩), nI (hM L x12 x14).2] : KObj)) ++ [(.cells true 2 (List.flatMap moveC (hM L x12 x14).1) : KObj)]))) ∧ (((0 : Int) ≤ (x14 : Int) ∧ ((x14 : Int) : Int) < (((hl L x12).length : Nat) : Int)) ∧ (((flL (hl L x12))[(0 + Int.toNat (x14 : Int) * 1)]? = some (.iface (((hl L x12).getD x14 []).length + 1) (.agg ⟨(((hl L x12).getD x14 []).flatMap flowC)⟩))) ∧ (((someR (.cells true 1 ((kA L).flatMap boolC))) ∧ (someR (.cells true 4 ((hF L x12 x14).flatMap iceC))) ∧ (someR (.cells true 2 (List.flatMap moveC (hM L x12 x14).1))) ∧ True) ∧ (∀ H' : Heap, H'.length = 12 → (H'[2]? = some (.cells true 1 ((kA L).flatMap boolC) : KObj) ∧ H'[10]? = some (.cells true 4 ((hF L x12 x14).flatMap iceC) : KObj) ∧ H'[11]? = some (.cells true 2 (List.flatMap moveC (hM L x12 x14).1) : KObj) ∧ True) → KCall prog 15 [.agg #[nI (kW L), nI (kH L), slQ 2 1 (kA L).length], .iface (((hl L x12).getD x14 []).length + 1) (.agg ⟨(((hl L x12).getD x14 []).flatMap flowC)⟩), slQ 10 1 (hF L x12 x14).length, slQ 11 1 (List.length (hM L x12 x14).1)] H' [] (Is (.tuple #[slQ 12 1 (List.length (hD L x12 x14).1), slQ 13 1 (List.length (hD L x12 x14).2.1), nI (hD L x12 x14).2.2]) (H' ++ [(.cells true 4 (List.flatMap iceC (hD L x12 x14).1) : KObj), (.cells true 1 (List.flatMap intC (hD L x12 x14).2.1) : KObj)]))) ∧ (((((hD L x12 x14).2.2 : Int) != 0) = true → (.bool false : Value) = sp) ∧ ((((hD L x12 x14).2.2 : Int) != 0) = false → (((((((List.length (hD L x12 x14).1) : Nat) : Int) : Int) != (((hF L x12 x14).length : Nat) : Int)) = true → (.bool false : Value) = sp) ∧ ((((((List.length (hD L x12 x14).1) : Nat) : Int) : Int) != (((hF L x12 x14).length : Nat) : Int)) = false → (true = true ∧ (0 ≤ List.length (kA L)) ∧ (true = true ∧ ((nI 0 : Value) = nI ((0 : Nat) : Int) ∧ wkR (slQ 9 1 (hR L x12).length) ∧ wkR (slQ 8 1 (hl L x12).length) ∧ (.pointer (some ⟨1, 0, none⟩) : Value) = .pointer (some ⟨1, 0, none⟩) ∧ (.pointer (some ⟨3, 0, none⟩) : Value) = .pointer (some ⟨3, 0, none⟩) ∧ (.pointer (some ⟨6, 0, none⟩) : Value) = .pointer (some ⟨6, 0, none⟩) ∧ (.pointer (some ⟨7, 0, none⟩) : Value) = .pointer (some ⟨7, 0, none⟩) ∧ (nI (hours % 7) : Value) = nI (hours % 7) ∧ wkR (slQ 10 1 (hF L x12 x14).length) ∧ (nI (x14 : Int) : Value) = nI (x14 : Int) ∧ (.bool (hH L x12 x14).1 : Value) = .bool (hH L x12 x14).1 ∧ (nI (hH L x12 x14).2 : Value) = nI (hH L x12 x14).2 ∧ wkR (slQ 11 1 (List.length (hM L x12 x14).1)) ∧ (.bool true : Value) = .bool true ∧ wkR (slQ 12 1 (List.length (hD L x12 x14).1)) ∧ (nI (hD L x12 x14).2.2 : Value) = nI (hD L x12 x14).2.2 ∧ True) ∧ ((some (.cells true 0 [.iface (L.length + 1) (.agg ⟨(L.flatMap intC)⟩), nI (hM L x12 x14).2] : KObj) = some (.cells true 0 [.iface (L.length + 1) (.agg ⟨(L.flatMap intC)⟩), nI (hQ L x12 x14 0)] : KObj) ∧ belowO 14 (.cells true 0 [.iface (L.length + 1) (.agg ⟨(L.flatMap intC)⟩), nI (hQ L x12 x14 0)] : KObj) = true) ∧ (some (.cells true 4 (List.flatMap iceC (hD L x12 x14).1) : KObj) = some (.cells true 4 ((hG L x12 x14 0).flatMap iceC) : KObj) ∧ belowO 14 (.cells true 4 ((hG L x12 x14 0).flatMap iceC) : KObj) = true) ∧ (keptR 14 (.cells true 0 [.pointer (some ⟨0, 0, none⟩)])) ∧ (keptR 14 (.cells true 0 [nI (kW L), nI (kH L), slQ 2 1 (kA L).length])) ∧ (keptR 14 (.cells true 0 [nI (kW L), nI (kH L), nI (tHr L), slQ 5 1 (tC L).length])) ∧ (keptR 14 (.cells true 0 [nI (dN L (t3 L) 101), nI (dN L ((t3 L) + 1) 101), nI (dN L (((t3 L) + 1) + 1) 101), nI (dN L ((((t3 L) + 1) + 1) + 1) 30), nI (dN L (((((t3 L) + 1) + 1) + 1) + 1) 101), nI (dN L ((((((t3 L) + 1) + 1) + 1) + 1) + 1) 101), nI (dN L (((((((t3 L) + 1) + 1) + 1) + 1) + 1) + 1) 101), nI (dN L ((((((((t3 L) + 1) + 1) + 1) + 1) + 1) + 1) + 1) 30)])) ∧ True) ∧ (True) ∧ (True)) ∧ (∀ x18 : Nat, true = true) ∧ ∀ x18 : Nat, (x18 ≤ List.length (kA L)) → (((decide (((x18 : Int) : Int) < (((List.length (hD L x12 x14).1) : Nat) : Int))) = true → (((0 : Int) ≤ (x18 : Int) ∧ ((x18 : Int) : Int) < (((kA L).length : Nat) : Int)) ∧ ((((kA L).flatMap boolC)[(0 + Int.toNat (x18 : Int) * 1)]? = some (.bool ((kA L).getD x18 false))) ∧ ((((kA L).getD x18 false) = true → ((nI (IntKind.wrap .i64 ((x18 : Int) + 1)) : Value) = nI ((x18 : Int) + 1) ∧ (∃ x18' : Nat, (x18' ≤ List.length (kA L)) ∧ (List.length (kA L) - x18') < (List.length (kA L) - x18) ∧ true = true ∧ ((nI ((x18 : Int) + 1) : Value) = nI (x18' : Int) ∧ wkR (slQ 9 1 (hR L x12).length) ∧ wkR (slQ 8 1 (hl L x12).length) ∧ (.pointer (some ⟨1, 0, none⟩) : Value) = .pointer (some ⟨1, 0, none⟩) ∧ (.pointer (some ⟨3, 0, none⟩) : Value) = .pointer (some ⟨3, 0, none⟩) ∧ (.pointer (some ⟨6, 0, none⟩) : Value) = .pointer (some ⟨6, 0, none⟩) ∧ (.pointer (some ⟨7, 0, none⟩) : Value) = .pointer (some ⟨7, 0, none⟩) ∧ (nI (hours % 7) : Value) = nI (hours % 7) ∧ wkR (slQ 10 1 (hF L x12 x14).length) ∧ (nI (x14 : Int) : Value) = nI (x14 : Int) ∧ (.bool (hH L x12 x14).1 : Value) = .bool (hH L x12 x14).1 ∧ (nI (hH L x12 x14).2 : Value) = nI (hH L x12 x14).2 ∧ wkR (slQ 11 1 (List.length (hM L x12 x14).1)) ∧ (.bool true : Value) = .bool true ∧ wkR (slQ 12 1 (List.length (hD L x12 x14).1)) ∧ (nI (hD L x12 x14).2.2 : Value) = nI (hD L x12 x14).2.2 ∧ True) ∧ ((some (.cells true 0 [.iface (L.length + 1) (.agg ⟨(L.flatMap intC)⟩), nI (hQ L x12 x14 x18)] : KObj) = some (.cells true 0 [.iface (L.length + 1) (.agg ⟨(L.flatMap intC)⟩), nI (hQ L x12 x14 x18')] : KObj) ∧ belowO 14 (.cells true 0 [.iface (L.length + 1) (.agg ⟨(L.flatMap intC)⟩), nI (hQ L x12 x14 x18')] : KObj) = true) ∧ (some (.cells true 4 ((hG L x12 x14 x18).flatMap iceC) : KObj) = some (.cells true 4 ((hG L x12 x14 x18').flatMap iceC) : KObj) ∧ belowO 14 (.cells true 4 ((hG L x12 x14 x18').flatMap iceC) : KObj) = true) ∧ (keptR 14 (.cells true 0 [.pointer (some ⟨0, 0, none⟩)])) ∧ (keptR 14 (.cells true 0 [nI (kW L), nI (kH L), slQ 2 1 (kA L).length])) ∧ (keptR 14 (.cells true 0 [nI (kW L), nI (kH L), nI (tHr L), slQ 5 1 (tC L).length])) ∧ (keptR 14 (.cells true 0 [nI (dN L (t3 L) 101), nI (dN L ((t3 L) + 1) 101), nI (dN L (((t3 L) + 1) + 1) 101), nI (dN L ((((t3 L) + 1) + 1) + 1) 30), nI (dN L (((((t3 L) + 1) + 1) + 1) + 1) 101), nI (dN L ((((((t3 L) + 1) + 1) + 1) + 1) + 1) 101), nI (dN L (((((((t3 L) + 1) + 1) + 1) + 1) + 1) + 1) 101), nI (dN L ((((((((t3 L) + 1) + 1) + 1) + 1) + 1) + 1) + 1) 30)])) ∧ True) ∧ (True) ∧ (True)))) ∧ (((kA L).getD x18 false) = false → (((0 : Int) ≤ (x18 : Int) ∧ ((x18 : Int) : Int) < (((List.length (hD L x12 x14).1) : Nat) : Int)) ∧ ((((hG L x12 x14 x18).flatMap iceC)[((0 + Int.toNat (x18 : Int) * 4) + 0)]? = some (nI ((hG L x12 x14 x18).getD x18 zeroI).conc)) ∧ (((0 : Int) ≤ (x18 : Int) ∧ ((x18 : Int) : Int) < (((List.length (hD L x12 x14).1) : Nat) : Int)) ∧ ((((hG L x12 x14 x18).flatMap iceC)[((0 + Int.toNat (x18 : Int) * 4) + 0)]? = some (nI ((hG L x12 x14 x18).getD x18 zeroI).conc)) ∧ (((0 : Int) ≤ (x18 : Int) ∧ ((x18 : Int) : Int) < (((List.length (hD L x12 x14).1) : Nat) : Int)) ∧ ((((hG L x12 x14 x18).flatMap iceC)[((0 + Int.toNat (x18 : Int) * 4) + 1)]? = some (nI ((hG L x12 x14 x18).getD x18 zeroI).thick)) ∧ (((0 : Int) ≤ (x18 : Int) ∧ ((x18 : Int) : Int) < (((List.length (hD L x12 x14).1) : Nat) : Int)) ∧ ((((hG L x12 x14 x18).flatMap iceC)[((0 + Int.toNat (x18 : Int) * 4) + 1)]? = some (nI ((hG L x12 x14 x18).getD x18 zeroI).thick)) ∧ (((0 : Int) ≤ (x18 : Int) ∧ ((x18 : Int) : Int) < (((List.length (hD L x12 x14).1) : Nat) : Int)) ∧ ((((hG L x12 x14 x18).flatMap iceC)[((0 + Int.toNat (x18 : Int) * 4) + 2)]? = some (nI ((hG L x12 x14 x18).getD x18 zeroI).ridge)) ∧ (((0 : Int) ≤ (x18 : Int) ∧ ((x18 : Int) : Int) < (((List.length (hD L x12 x14).1) : Nat) : Int)) ∧ ((((hG L x12 x14 x18).flatMap iceC)[((0 + Int.toNat (x18 : Int) * 4) + 2)]? = some (nI ((hG L x12 x14 x18).getD x18 zeroI).ridge)) ∧ (((0 : Int) ≤ (x18 : Int) ∧ ((x18 : Int) : Int) < (((List.length (hD L x12 x14).1) : Nat) : Int)) ∧ ((((hG L x12 x14 x18).flatMap iceC)[((0 + Int.toNat (x18 : Int) * 4) + 3)]? = some (nI ((hG L x12 x14 x18).getD x18 zeroI).press)) ∧ (((0 : Int) ≤ (x18 : Int) ∧ ((x18 : Int) : Int) < (((List.length (hD L x12 x14).1) : Nat) : Int)) ∧ ((((hG L x12 x14 x18).flatMap iceC)[((0 + Int.toNat (x18 : Int) * 4) + 3)]? = some (nI ((hG L x12 x14 x18).getD x18 zeroI).press)) ∧ (∃ r19 : Cell × Int, ((True) ∧ (∀ H' : Heap, H'.length = 15 → (True) → KCall prog 53 [.agg #[nI ((hG L x12 x14 x18).getD x18 zeroI).conc, nI ((hG L x12 x14 x18).getD x18 zeroI).conc, nI ((hG L x12 x14 x18).getD x18 zeroI).thick, nI ((hG L x12 x14 x18).getD x18 zeroI).thick, nI ((hG L x12 x14 x18).getD x18 zeroI).ridge, nI ((hG L x12 x14 x18).getD x18 zeroI).ridge, nI ((hG L x12 x14 x18).getD x18 zeroI).press, nI ((hG L x12 x14 x18).getD x18 zeroI).press], .agg #[nI (dN L (t3 L) 101), nI (dN L ((t3 L) + 1) 101), nI (dN L (((t3 L) + 1) + 1) 101), nI (dN L ((((t3 L) + 1) + 1) + 1) 30), nI (dN L (((((t3 L) + 1) + 1) + 1) + 1) 101), nI (dN L ((((((t3 L) + 1) + 1) + 1) + 1) + 1) 101), nI (dN L (((((((t3 L) + 1) + 1) + 1) + 1) + 1) + 1) 101), nI (dN L ((((((((t3 L) + 1) + 1) + 1) + 1) + 1) + 1) + 1) 30)], nI 1] H' [] (Is (.tuple #[.agg #[nI r19.1.conc.lo, nI r19.1.conc.hi, nI r19.1.thick.lo, nI r19.1.thick.hi, nI r19.1.ridge.lo, nI r19.1.ridge.hi, nI r19.1.press.lo, nI r19.1.press.hi], nI r19.2]) H')) ∧ ((((r19.2 : Int) != 0) = true → (.bool false : Value) = sp) ∧ (((r19.2 : Int) != 0) = false → (((someR (.cells true 0 [.iface (L.length + 1) (.agg ⟨(L.flatMap intC)⟩), nI (hQ L x12 x14 x18)])) ∧ (someR (.cells true 0 [.pointer (some ⟨0, 0, none⟩)])) ∧ True) ∧ (∀ H' : Heap, H'.length = 16 → (H'[0]? = some (.cells true 0 [.iface (L.length + 1) (.agg ⟨(L.flatMap intC)⟩), nI (hQ L x12 x14 x18)] : KObj) ∧ H'[1]? = some (.cells true 0 [.pointer (some ⟨0, 0, none⟩)] : KObj) ∧ True) → KCall prog 57 [.agg #[nI r19.1.conc.lo, nI r19.1.conc.hi], .pointer (some ⟨1, 0, none⟩)] H' [0] (Is (nI (r19.1.conc.lo + (dN L (hQ L x12 x14 x18) ((r19.1.conc.hi - r19.1.conc.lo) + 1)))) (List.set H' 0 (.cells true 0 [.iface (L.length + 1) (.agg ⟨(L.flatMap intC)⟩), nI ((hQ L x12 x14 x18) + 1)] : KObj)))) ∧ (((someR (.cells true 0 [.iface (L.length + 1) (.agg ⟨(L.flatMap intC)⟩), nI ((hQ L x12 x14 x18) + 1)])) ∧ (someR (.cells true 0 [.pointer (some ⟨0, 0, none⟩)])) ∧ True) ∧ (∀ H' : Heap, H'.length = 16 → (H'[0]? = some (.cells true 0 [.iface (L.length + 1) (.agg ⟨(L.flatMap intC)⟩), nI ((hQ L x12 x14 x18) + 1)] : KObj) ∧ H'[1]? = some (.cells true 0 [.pointer (some ⟨0, 0, none⟩)] : KObj) ∧ True) → KCall prog 57 [.agg #[nI r19.1.thick.lo, nI r19.1.thick.hi], .pointer (some ⟨1, 0, none⟩)] H' [0] (Is (nI (r19.1.thick.lo + (dN L ((hQ L x12 x14 x18) + 1) ((r19.1.thick.hi - r19.1.thick.lo) + 1)))) (List.set H' 0 (.cells true 0 [.iface (L.length + 1) (.agg ⟨(L.flatMap intC)⟩), nI (((hQ L x12 x14 x18) + 1) + 1)] : KObj)))) ∧ (((someR (.cells true 0 [.iface (L.length + 1) (.agg ⟨(L.flatMap intC)⟩), nI (((hQ L x12 x14 x18) + 1) + 1)])) ∧ (someR (.cells true 0 [.pointer (some ⟨0, 0, none⟩)])) ∧ True) ∧ (∀ H' : Heap, H'.length = 16 → (H'[0]? = some (.cells true 0 [.iface (L.length + 1) (.agg ⟨(L.flatMap intC)⟩), nI (((hQ L x12 x14 x18) + 1) + 1)] : KObj) ∧ H'[1]? = some (.cells true 0 [.pointer (some ⟨0, 0, none⟩)] : KObj) ∧ True) → KCall prog 57 [.agg #[nI r19.1.ridge.lo, nI r19.1.ridge.hi], .pointer (some ⟨1, 0, none⟩)] H' [0] (Is (nI (r19.1.ridge.lo + (dN L (((hQ L x12 x14 x18) + 1) + 1) ((r19.1.ridge.hi - r19.1.ridge.lo) + 1)))) (List.set H' 0 (.cells true 0 [.iface (L.length + 1) (.agg ⟨(L.flatMap intC)⟩), nI ((((hQ L x12 x14 x18) + 1) + 1) + 1)] : KObj)))) ∧ (((someR (.cells true 0 [.iface (L.length + 1) (.agg ⟨(L.flatMap intC)⟩), nI ((((hQ L x12 x14 x18) + 1) + 1) + 1)])) ∧ (someR (.cells true 0 [.pointer (some ⟨0, 0, none⟩)])) ∧ True) ∧ (∀ H' : Heap, H'.length = 16 → (H'[0]? = some (.cells true 0 [.iface (L.length + 1) (.agg ⟨(L.flatMap intC)⟩), nI ((((hQ L x12 x14 x18) + 1) + 1) + 1)] : KObj) ∧ H'[1]? = some (.cells true 0 [.pointer (some ⟨0, 0, none⟩)] : KObj) ∧ True) → KCall prog 57 [.agg #[nI r19.1.press.lo, nI r19.1.press.hi], .pointer (some ⟨1, 0, none⟩)] H' [0] (Is (nI (r19.1.press.lo + (dN L ((((hQ L x12 x14 x18) + 1) + 1) + 1) ((r19.1.press.hi - r19.1.press.lo) + 1)))) (List.set H' 0 (.cells true 0 [.iface (L.length + 1) (.agg ⟨(L.flatMap intC)⟩), nI (((((hQ L x12 x14 x18) + 1) + 1) + 1) + 1)] : KObj)))) ∧ (((0 : Int) ≤ (x18 : Int) ∧ ((x18 : Int) : Int) < (((List.length (hD L x12 x14).1) : Nat) : Int)) ∧ (((0 + Int.toNat (x18 : Int) * 4) + 4 ≤ List.length ((hG L x12 x14 x18).flatMap iceC)) ∧ true = true ∧ ((nI (IntKind.wrap .i64 ((x18 : Int) + 1)) : Value) = nI ((x18 : Int) + 1) ∧ (∃ x18' : Nat, (x18' ≤ List.length (kA L)) ∧ (List.length (kA L) - x18') < (List.length (kA L) - x18) ∧ true = true ∧ ((nI ((x18 : Int) + 1) : Value) = nI (x18' : Int) ∧ wkR (slQ 9 1 (hR L x12).length) ∧ wkR (slQ 8 1 (hl L x12).length) ∧ (.pointer (some ⟨1, 0, none⟩) : Value) = .pointer (some ⟨1, 0, none⟩) ∧ (.pointer (some ⟨3, 0, none⟩) : Value) = .pointer (some ⟨3, 0, none⟩) ∧ (.pointer (some ⟨6, 0, none⟩) : Value) = .pointer (some ⟨6, 0, none⟩) ∧ (.pointer (some ⟨7, 0, none⟩) : Value) = .pointer (some ⟨7, 0, none⟩) ∧ (nI (hours % 7) : Value) = nI (hours % 7) ∧ wkR (slQ 10 1 (hF L x12 x14).length) ∧ (nI (x14 : Int) : Value) = nI (x14 : Int) ∧ (.bool (hH L x12 x14).1 : Value) = .bool (hH L x12 x14).1 ∧ (nI (hH L x12 x14).2 : Value) = nI (hH L x12 x14).2 ∧ wkR (slQ 11 1 (List.length (hM L x12 x14).1)) ∧ (.bool true : Value) = .bool true ∧ wkR (slQ 12 1 (List.length (hD L x12 x14).1)) ∧ (nI (hD L x12 x14).2.2 : Value) = nI (hD L x12 x14).2.2 ∧ True) ∧ ((some (.cells true 0 [.iface (L.length + 1) (.agg ⟨(L.flatMap intC)⟩), nI (((((hQ L x12 x14 x18) + 1) + 1) + 1) + 1)] : KObj) = some (.cells true 0 [.iface (L.length + 1) (.agg ⟨(L.flatMap intC)⟩), nI (hQ L x12 x14 x18')] : KObj) ∧ belowO 14 (.cells true 0 [.iface (L.length + 1) (.agg ⟨(L.flatMap intC)⟩), nI (hQ L x12 x14 x18')] : KObj) = true) ∧ (some (.cells true 4 (setl ((hG L x12 x14 x18).flatMap iceC) (0 + Int.toNat (x18 : Int) * 4) [nI (r19.1.conc.lo + (dN L (hQ L x12 x14 x18) ((r19.1.conc.hi - r19.1.conc.lo) + 1))), nI (r19.1.thick.lo + (dN L ((hQ L x12 x14 x18) + 1) ((r19.1.thick.hi - r19.1.thick.lo) + 1))), nI (r19.1.ridge.lo + (dN L (((hQ L x12 x14 x18) + 1) + 1) ((r19.1.ridge.hi - r19.1.ridge.lo) + 1))), nI (r19.1.press.lo + (dN L ((((hQ L x12 x14 x18) + 1) + 1) + 1) ((r19.1.press.hi - r19.1.press.lo) + 1)))]) : KObj) = some (.cells true 4 ((hG L x12 x14 x18').flatMap iceC) : KObj) ∧ belowO 14 (.cells true 4 ((hG L x12 x14 x18').flatMap iceC) : KObj) = true) ∧ (keptR 14 (.cells true 0 [.pointer (some ⟨0, 0, none⟩)])) ∧ (keptR 14 (.cells true 0 [nI (kW L), nI (kH L), slQ 2 1 (kA L).length])) ∧ (keptR 14 (.cells true 0 [nI (kW L), nI (kH L), nI (tHr L), slQ 5 1 (tC L).length])) ∧ (keptR 14 (.cells true 0 [nI (dN L (t3 L) 101), nI (dN L ((t3 L) + 1) 101), nI (dN L (((t3 L) + 1) + 1) 101), nI (dN L ((((t3 L) + 1) + 1) + 1) 30), nI (dN L (((((t3 L) + 1) + 1) + 1) + 1) 101), nI (dN L ((((((t3 L) + 1) + 1) + 1) + 1) + 1) 101), nI (dN L (((((((t3 L) + 1) + 1) + 1) + 1) + 1) + 1) 101), nI (dN L ((((((((t3 L) + 1) + 1) + 1) + 1) + 1) + 1) + 1) 30)])) ∧ True) ∧ (True) ∧ (True)))))))))))))))))))))))))))))))))) ∧ ((decide (((x18 : Int) : Int) < (((List.length (hD L x12 x14).1) : Nat) : Int))) = false → ((nI (IntKind.wrap .i64 ((x14 : Int) + 1)) : Value) = nI ((x14 : Int) + 1) ∧ (∃ x14' : Nat, ((x14' : Int) ≤ hours % 7) ∧ (Int.toNat (hours % 7) - x14') < (Int.toNat (hours % 7) - x14) ∧ true = true ∧ ((nI ((x14 : Int) + 1) : Value) = nI (x14' : Int) ∧ wk (slQ 12 1 (List.length (hD L x12 x14).1) : Value) (slQ 12 1 (hF L x12 x14').length : Value) ∧ (nI (hours % 7) : Value) = nI (hours % 7) ∧ (.pointer (some ⟨7, 0, none⟩) : Value) = .pointer (some ⟨7, 0, none⟩) ∧ (.pointer (some ⟨6, 0, none⟩) : Value) = .pointer (some ⟨6, 0, none⟩) ∧ (.pointer (some ⟨3, 0, none⟩) : Value) = .pointer (some ⟨3, 0, none⟩) ∧ (.pointer (some ⟨1, 0, none⟩) : Value) = .pointer (some ⟨1, 0, none⟩) ∧ wkR (slQ 8 1 (hl L x12).length) ∧ wkR (slQ 9 1 (hR L x12).length) ∧ True) ∧ ((some (.cells true 0 [.iface (L.length + 1) (.agg ⟨(L.flatMap intC)⟩), nI (hQ L x12 x14 x18)] : KObj) = some (.cells true 0 [.iface (L.length + 1) (.agg ⟨(L.flatMap intC)⟩), nI (hP L x12 x14')] : KObj) ∧ belowO 10 (.cells true 0 [.iface (L.length + 1) (.agg ⟨(L.flatMap intC)⟩), nI (hP L x12 x14')] : KObj) = true) ∧ True ∧ (keptR 10 (.cells true 0 [.pointer (some ⟨0, 0, none⟩)])) ∧ (keptR 10 (.cells true 0 [nI (kW L), nI (kH L), slQ 2 1 (kA L).length])) ∧ (keptR 10 (.cells true 0 [nI (kW L), nI (kH L), nI (tHr L), slQ 5 1 (tC L).length])) ∧ (keptR 10 (.cells true 0 [nI (dN L (t3 L) 101), nI (dN L ((t3 L) + 1) 101), nI (dN L (((t3 L) + 1) + 1) 101), nI (dN L ((((t3 L) + 1) + 1) + 1) 30), nI (dN L (((((t3 L) + 1) + 1) + 1) + 1) 101), nI (dN L ((((((t3 L) + 1) + 1) + 1) + 1) + 1) 101), nI (dN L (((((((t3 L) + 1) + 1) + 1) + 1) + 1) + 1) 101), nI (dN L ((((((((t3 L) + 1) + 1) + 1) + 1) + 1) + 1) + 1) 30)])) ∧ True) ∧ ((some (.cells true 4 ((hG L x12 x14 x18).flatMap iceC) : KObj) = some (.cells true 4 ((hF L x12 x14').flatMap iceC) : KObj) ∧ belowO 10 (.cells true 4 ((hF L x12 x14').flatMap iceC) : KObj) = true) ∧ True) ∧ (True))))))))))))))))))))))))))))))) ∧ ((decide (((x14 : Int) : Int) ≤ (hours % 7))) = false → ((True) ∧ (∀ H' : Heap, H'.length = 11 → (True) → KCall prog 16 [] H' [] (Is (.bool true) H')) ∧ (.bool true : Value) = sp)))))))))))))))))))))))))
theorem EHoldsLaw (sp : Value) (L : List Int) (hours : Int) : vF prog msk (dm 0) 100000 true 40 true 10 [.iface (L.length + 1) (.agg ⟨(L.flatMap intC)⟩), nI hours] ⟨0, .leaf⟩ (some [])
  (.go 6 (.answ [(0, .cells true 0 [.iface (L.length + 1) (.agg ⟨(L.flatMap intC)⟩), nI 0])] (.agg #[nI (kW L), nI (kH L), slQ 2 1 (kA L).length]) [(0, .cells true 0 [.iface (L.length + 1) (.agg ⟨(L.flatMap intC)⟩), nI (k1 L)])] [.cells true 1 ((kA L).flatMap boolC)] (.go 3 (.answ [(0, .cells true 0 [.iface (L.length + 1) (.agg ⟨(L.flatMap intC)⟩), nI (k1 L)]), (2, .cells true 1 ((kA L).flatMap boolC))] (slQ 4 1 (kX L).length) [(0, .cells true 0 [.iface (L.length + 1) (.agg ⟨(L.flatMap intC)⟩), nI (k2 L)])] [.cells true 4 ((kX L).flatMap iceC)] (.go 3 (.answ [(0, .cells true 0 [.iface (L.length + 1) (.agg ⟨(L.flatMap intC)⟩), nI (k2 L)]), (2, .cells true 1 ((kA L).flatMap boolC)), (4, .cells true 4 ((kX L).flatMap iceC))] (.agg #[nI (kW L), nI (kH L), nI (tHr L), slQ 5 1 (tC L).length]) [(0, .cells true 0 [.iface (L.length + 1) (.agg ⟨(L.flatMap intC)⟩), nI (t3 L)])] [.cells true 8 ((tC L).flatMap cellC)] (.go 10 (.answ [(0, .cells true 0 [.iface (L.length + 1) (.agg ⟨(L.flatMap intC)⟩), nI (t3 L)])] (nI (dN L (t3 L) 101)) [(0, .cells true 0 [.iface (L.length + 1) (.agg ⟨(L.flatMap intC)⟩), nI ((t3 L) + 1)])] [] (.answ [(0, .cells true 0 [.iface (L.length + 1) (.agg ⟨(L.flatMap intC)⟩), nI ((t3 L) + 1)])] (nI (dN L ((t3 L) + 1) 101)) [(0, .cells true 0 [.iface (L.length + 1) (.agg ⟨(L.flatMap intC)⟩), nI (((t3 L) + 1) + 1)])] [] (.answ [(0, .cells true 0 [.iface (L.length + 1) (.agg ⟨(L.flatMap intC)⟩), nI (((t3 L) + 1) + 1)])] (nI (dN L (((t3 L) + 1) + 1) 101)) [(0, .cells true 0 [.iface (L.length + 1) (.agg ⟨(L.flatMap intC)⟩), nI ((((t3 L) + 1) + 1) + 1)])] [] (.answ [(0, .cells true 0 [.iface (L.length + 1) (.agg ⟨(L.flatMap intC)⟩), nI ((((t3 L) + 1) + 1) + 1)])] (nI (dN L ((((t3 L) + 1) + 1) + 1) 30)) [(0, .cells true 0 [.iface (L.length + 1) (.agg ⟨(L.flatMap intC)⟩), nI (((((t3 L) + 1) + 1) + 1) + 1)])] [] (.go 0 (.answ [(0, .cells true 0 [.iface (L.length + 1) (.agg ⟨(L.flatMap intC)⟩), nI (((((t3 L) + 1) + 1) + 1) + 1)])] (nI (dN L (((((t3 L) + 1) + 1) + 1) + 1) 101)) [(0, .cells true 0 [.iface (L.length + 1) (.agg ⟨(L.flatMap intC)⟩), nI ((((((t3 L) + 1) + 1) + 1) + 1) + 1)])] [] (.answ [(0, .cells true 0 [.iface (L.length + 1) (.agg ⟨(L.flatMap intC)⟩), nI ((((((t3 L) + 1) + 1) + 1) + 1) + 1)])] (nI (dN L ((((((t3 L) + 1) + 1) + 1) + 1) + 1) 101)) [(0, .cells true 0 [.iface (L.length + 1) (.agg ⟨(L.flatMap intC)⟩), nI (((((((t3 L) + 1) + 1) + 1) + 1) + 1) + 1)])] [] (.answ [(0, .cells true 0 [.iface (L.length + 1) (.agg ⟨(L.flatMap intC)⟩), nI (((((((t3 L) + 1) + 1) + 1) + 1) + 1) + 1)])] (nI (dN L (((((((t3 L) + 1) + 1) + 1) + 1) + 1) + 1) 101)) [(0, .cells true 0 [.iface (L.length + 1) (.agg ⟨(L.flatMap intC)⟩), nI ((((((((t3 L) + 1) + 1) + 1) + 1) + 1) + 1) + 1)])] [] (.answ [(0, .cells true 0 [.iface (L.length + 1) (.agg ⟨(L.flatMap intC)⟩), nI ((((((((t3 L) + 1) + 1) + 1) + 1) + 1) + 1) + 1)])] (nI (dN L ((((((((t3 L) + 1) + 1) + 1) + 1) + 1) + 1) + 1) 30)) [(0, .cells true 0 [.iface (L.length + 1) (.agg ⟨(L.flatMap intC)⟩), nI (((((((((t3 L) + 1) + 1) + 1) + 1) + 1) + 1) + 1) + 1)])] [] (.go 3 (.ans [] (nI (hours % 7)) [] (.go 2 (.inv 3 (Nat) (0) [] [0, 1, 3, 6, 7] (fun x12 => [(12, nI (x12 : Int)), (11, slQ 8 1 (hl L x12).length), (4, .bool false), (5, .pointer (some ⟨1, 0, none⟩)), (6, .pointer (some ⟨3, 0, none⟩)), (7, slQ 4 1 (kX L).length), (8, .pointer (some ⟨6, 0, none⟩)), (9, .pointer (some ⟨7, 0, none⟩)), (10, nI (hours % 7))]) (fun x12 => [(0, true, .cells true 0 [.iface (L.length + 1) (.agg ⟨(L.flatMap intC)⟩), nI (hp L x12)]), (1, true, .cells true 0 [.pointer (some ⟨0, 0, none⟩)]), (3, true, .cells true 0 [nI (kW L), nI (kH L), slQ 2 1 (kA L).length]), (6, true, .cells true 0 [nI (kW L), nI (kH L), nI (tHr L), slQ 5 1 (tC L).length]), (7, true, .cells true 0 [nI (dN L (t3 L) 101), nI (dN L ((t3 L) + 1) 101), nI (dN L (((t3 L) + 1) + 1) 101), nI (dN L ((((t3 L) + 1) + 1) + 1) 30), nI (dN L (((((t3 L) + 1) + 1) + 1) + 1) 101), nI (dN L ((((((t3 L) + 1) + 1) + 1) + 1) + 1) 101), nI (dN L (((((((t3 L) + 1) + 1) + 1) + 1) + 1) + 1) 101), nI (dN L ((((((((t3 L) + 1) + 1) + 1) + 1) + 1) + 1) + 1) 30)])]) (fun x12 => [(true, .cells true 1 (flL (hl L x12)))]) (fun x12 => []) (fun x12 => ((x12 : Int) ≤ hours % 7)) (fun x12 => (Int.toNat (hours % 7) - x12)) (fun x12 => .go 2 (.fork (.go 1 (.answ [(0, .cells true 0 [.iface (L.length + 1) (.agg ⟨(L.flatMap intC)⟩), nI (hp L x12)]), (2, .cells true 1 ((kA L).flatMap boolC))] (slQ 9 1 (List.length (curs L (hp L x12) (kA L).length).1)) [(0, .cells true 0 [.iface (L.length + 1) (.agg ⟨(L.flatMap intC)⟩), nI (curs L (hp L x12) (kA L).length).2])] [.cells true 4 (List.flatMap flowC (curs L (hp L x12) (kA L).length).1)] (.go 2 (.frz [71] (.go 0 (.need (.go 2 (.slot 66 (nI ((x12 : Int) + 1)) (.go 0 (.again [(8, 11)])))))))))) (.go 3 (.ans [(2, .cells true 1 ((kA L).flatMap boolC)), (8, .cells true 1 (flL (hl L x12))), (5, .cells true 8 ((tC L).flatMap cellC))] (.tuple #[slQ 9 1 (hR L x12).length, nI 0]) [.cells true 4 ((hR L x12).flatMap chD)] (.go 7 (.gfork (.auto) (.go 3 (.slot 88 (nI ((hours % 7) + 1)) (.go 1 (.fork (.auto) (.go 0 (.inv 3 (Nat) (0) [(10, 4)] [0, 4, 1, 3, 6, 7] (fun x14 => [(16, nI (x14 : Int)), (7, slQ 10 1 (hF L x12 x14).length), (10, nI (hours % 7)), (9, .pointer (some ⟨7, 0, none⟩)), (8, .pointer (some ⟨6, 0, none⟩)), (6, .pointer (some ⟨3, 0, none⟩)), (5, .pointer (some ⟨1, 0, none⟩)), (11, slQ 8 1 (hl L x12).length), (14, slQ 9 1 (hR L x12).length)]) (fun x14 => [(0, true, .cells true 0 [.iface (L.length + 1) (.agg ⟨(L.flatMap intC)⟩), nI (hP L x12 x14)]), (4, false, .dead), (1, true, .cells true 0 [.pointer (some ⟨0, 0, none⟩)]), (3, true, .cells true 0 [nI (kW L), nI (kH L), slQ 2 1 (kA L).length]), (6, true, .cells true 0 [nI (kW L), nI (kH L), nI (tHr L), slQ 5 1 (tC L).length]), (7, true, .cells true 0 [nI (dN L (t3 L) 101), nI (dN L ((t3 L) + 1) 101), nI (dN L (((t3 L) + 1) + 1) 101), nI (dN L ((((t3 L) + 1) + 1) + 1) 30), nI (dN L (((((t3 L) + 1) + 1) + 1) + 1) 101), nI (dN L ((((((t3 L) + 1) + 1) + 1) + 1) + 1) 101), nI (dN L (((((((t3 L) + 1) + 1) + 1) + 1) + 1) + 1) 101), nI (dN L ((((((((t3 L) + 1) + 1) + 1) + 1) + 1) + 1) + 1) 30)])]) (fun x14 => [(true, .cells true 4 ((hF L x12 x14).flatMap iceC))]) (fun x14 => []) (fun x14 => ((x14 : Int) ≤ hours % 7)) (fun x14 => (Int.toNat (hours % 7) - x14)) (fun x14 => .go 2 (.fork (.go 1 (.need (.val (.agg #[nI (kW L), nI (kH L), nI ((tHr L) + (x14 : Int)), .iface ((hC L x12 x14).length + 1) (.agg ⟨((hC L x12 x14).flatMap cellC)⟩)]) (.go 0 (.ans [(10, .cells true 4 ((hF L x12 x14).flatMap iceC))] (.tuple #[.bool (hH L x12 x14).1, nI (hH L x12 x14).2]) [] (.go 7 (.gfork (.auto) (.go 3 (.gfork (.auto) (.go 1 (.need (.go 0 (.val (nI ((tHr L) + (x14 : Int))) (.go 3 (.slot 120 (nI ((tHr L) + (x14 : Int))) (.go 1 (.fork (.auto) (.go 2 (.fork (.ans [] (.bool true) [] (.auto)) (.go 2 (.need (.val (.iface (((hl L x12).getD x14 []).length + 1) (.agg ⟨(((hl L x12).getD x14 []).flatMap flowC)⟩)) (.answ [(0, .cells true 0 [.iface (L.length + 1) (.agg ⟨(L.flatMap intC)⟩), nI (hP L x12 x14)])] (.tuple #[slQ 11 1 (List.length (hM L x12 x14).1), .bool true]) [(0, .cells true 0 [.iface (L.length + 1) (.agg ⟨(L.flatMap intC)⟩), nI (hM L x12 x14).2])] [.cells true 2 (List.flatMap moveC (hM L x12 x14).1)] (.go 10 (.need (.val (.iface (((hl L x12).getD x14 []).length + 1) (.agg ⟨(((hl L x12).getD x14 []).flatMap flowC)⟩)) (.go 1 (.ans [(2, .cells true 1 ((kA L).flatMap boolC)), (10, .cells true 4 ((hF L x12 x14).flatMap iceC)), (11, .cells true 2 (List.flatMap moveC (hM L x12 x14).1))] (.tuple #[slQ 12 1 (List.length (hD L x12 x14).1), slQ 13 1 (List.length (hD L x12 x14).2.1), nI (hD L x12 x14).2.2]) [.cells true 4 (List.flatMap iceC (hD L x12 x14).1), .cells true 1 (List.flatMap intC (hD L x12 x14).2.1)] (.go 9 (.gfork (.auto) (.go 5 (.fork (.auto) (.go 0 (.inv 3 (Nat) (0) [] [0, 12, 1, 3, 6, 7] (fun x18 => [(24, nI (x18 : Int)), (14, slQ 9 1 (hR L x12).length), (11, slQ 8 1 (hl L x12).length), (5, .pointer (some ⟨1, 0, none⟩)), (6, .pointer (some ⟨3, 0, none⟩)), (8, .pointer (some ⟨6, 0, none⟩)), (9, .pointer (some ⟨7, 0, none⟩)), (10, nI (hours % 7)), (7, slQ 10 1 (hF L x12 x14).length), (16, nI (x14 : Int)), (17, .bool (hH L x12 x14).1), (18, nI (hH L x12 x14).2), (19, slQ 11 1 (List.length (hM L x12 x14).1)), (20, .bool true), (21, slQ 12 1 (List.length (hD L x12 x14).1)), (23, nI (hD L x12 x14).2.2)]) (fun x18 => [(0, true, .cells true 0 [.iface (L.length + 1) (.agg ⟨(L.flatMap intC)⟩), nI (hQ L x12 x14 x18)]), (12, true, .cells true 4 ((hG L x12 x14 x18).flatMap iceC)), (1, true, .cells true 0 [.pointer (some ⟨0, 0, none⟩)]), (3, true, .cells true 0 [nI (kW L), nI (kH L), slQ 2 1 (kA L).length]), (6, true, .cells true 0 [nI (kW L), nI (kH L), nI (tHr L), slQ 5 1 (tC L).length]), (7, true, .cells true 0 [nI (dN L (t3 L) 101), nI (dN L ((t3 L) + 1) 101), nI (dN L (((t3 L) + 1) + 1) 101), nI (dN L ((((t3 L) + 1) + 1) + 1) 30), nI (dN L (((((t3 L) + 1) + 1) + 1) + 1) 101), nI (dN L ((((((t3 L) + 1) + 1) + 1) + 1) + 1) 101), nI (dN L (((((((t3 L) + 1) + 1) + 1) + 1) + 1) + 1) 101), nI (dN L ((((((((t3 L) + 1) + 1) + 1) + 1) + 1) + 1) + 1) 30)])]) (fun x18 => []) (fun x18 => []) (fun x18 => (x18 ≤ List.length (kA L))) (fun x18 => (List.length (kA L) - x18)) (fun x18 => .go 3 (.fork (.go 2 (.need (.val (.bool ((kA L).getD x18 false)) (.fork (.go 1 (.slot 163 (nI ((x18 : Int) + 1)) (.go 0 (.again [])))) (.go 1 (.need (.go 0 (.val (nI ((hG L x12 x14 x18).getD x18 zeroI).conc) (.go 1 (.need (.go 0 (.val (nI ((hG L x12 x14 x18).getD x18 zeroI).conc) (.go 2 (.need (.go 0 (.val (nI ((hG L x12 x14 x18).getD x18 zeroI).thick) (.go 1 (.need (.go 0 (.val (nI ((hG L x12 x14 x18).getD x18 zeroI).thick) (.go 2 (.need (.go 0 (.val (nI ((hG L x12 x14 x18).getD x18 zeroI).ridge) (.go 1 (.need (.go 0 (.val (nI ((hG L x12 x14 x18).getD x18 zeroI).ridge) (.go 2 (.need (.go 0 (.val (nI ((hG L x12 x14 x18).getD x18 zeroI).press) (.go 1 (.need (.go 0 (.val (nI ((hG L x12 x14 x18).getD x18 zeroI).press) (.go 5 (.bind (Cell × Int) (fun r19 => .ans [] (.tuple #[.agg #[nI r19.1.conc.lo, nI r19.1.conc.hi, nI r19.1.thick.lo, nI r19.1.thick.hi, nI r19.1.ridge.lo, nI r19.1.ridge.hi, nI r19.1.press.lo, nI r19.1.press.hi], nI r19.2]) [] (.go 7 (.fork (.auto) (.go 15 (.answ [(0, .cells true 0 [.iface (L.length + 1) (.agg ⟨(L.flatMap intC)⟩), nI (hQ L x12 x14 x18)]), (1, .cells true 0 [.pointer (some ⟨0, 0, none⟩)])] (nI (r19.1.conc.lo + (dN L (hQ L x12 x14 x18) ((r19.1.conc.hi - r19.1.conc.lo) + 1)))) [(0, .cells true 0 [.iface (L.length + 1) (.agg ⟨(L.flatMap intC)⟩), nI ((hQ L x12 x14 x18) + 1)])] [] (.answ [(0, .cells true 0 [.iface (L.length + 1) (.agg ⟨(L.flatMap intC)⟩), nI ((hQ L x12 x14 x18) + 1)]), (1, .cells true 0 [.pointer (some ⟨0, 0, none⟩)])] (nI (r19.1.thick.lo + (dN L ((hQ L x12 x14 x18) + 1) ((r19.1.thick.hi - r19.1.thick.lo) + 1)))) [(0, .cells true 0 [.iface (L.length + 1) (.agg ⟨(L.flatMap intC)⟩), nI (((hQ L x12 x14 x18) + 1) + 1)])] [] (.answ [(0, .cells true 0 [.iface (L.length + 1) (.agg ⟨(L.flatMap intC)⟩), nI (((hQ L x12 x14 x18) + 1) + 1)]), (1, .cells true 0 [.pointer (some ⟨0, 0, none⟩)])] (nI (r19.1.ridge.lo + (dN L (((hQ L x12 x14 x18) + 1) + 1) ((r19.1.ridge.hi - r19.1.ridge.lo) + 1)))) [(0, .cells true 0 [.iface (L.length + 1) (.agg ⟨(L.flatMap intC)⟩), nI ((((hQ L x12 x14 x18) + 1) + 1) + 1)])] [] (.answ [(0, .cells true 0 [.iface (L.length + 1) (.agg ⟨(L.flatMap intC)⟩), nI ((((hQ L x12 x14 x18) + 1) + 1) + 1)]), (1, .cells true 0 [.pointer (some ⟨0, 0, none⟩)])] (nI (r19.1.press.lo + (dN L ((((hQ L x12 x14 x18) + 1) + 1) + 1) ((r19.1.press.hi - r19.1.press.lo) + 1)))) [(0, .cells true 0 [.iface (L.length + 1) (.agg ⟨(L.flatMap intC)⟩), nI (((((hQ L x12 x14 x18) + 1) + 1) + 1) + 1)])] [] (.go 0 (.need (.need (.go 1 (.slot 163 (nI ((x18 : Int) + 1)) (.go 0 (.again []))))))))))))))))))))))))))))))))))))))))))))))))))))) (.go 3 (.slot 95 (nI ((x14 : Int) + 1)) (.go 0 (.again [(10, 12)])))))))))))))))))))))))))))))))))))))))) (.ans [] (.bool true) [] (.auto))))))))))))))))))))))))))))))))))))
  (fun v _ _ => v = sp) = RHoldsLaw sp L hours := by kernel_rfl
end
end Go.Proofs.Ytkkgnalgmebfjaa
/- DriftHolds: what its numbers make. No condition. -/
namespace Go.Proofs.Ytkkgnalgmebfjaa
set_option linter.unusedSimpArgs false
open Go Go.K
set_option linter.unusedVariables false
noncomputable section
theorem fP_ok (L : List Int) (p : Int) : ∀ x, (fP L p x).1.length = x ∧ (p ≤ (fP L p x).2 ∧ (fP L p x).2 ≤ p + 200 * (x : Int)) ∧ ∀ k, k < x → ((fP L p x).1.getD k []).length = (kA L).length ∧ ∀ f ∈ (fP L p x).1.getD k [], rightF f
  | 0 => ⟨rfl, by show p ≤ p ∧ p ≤ _; omega, fun k hk => by omega⟩
  | x + 1 => by
    obtain ⟨i1, i2, i3⟩ := fP_ok L p x
    obtain ⟨c1, c2, c3⟩ := curL_ok L (fP L p x).2 ((fP L p x).2 + 1 + 1) (kA L).length
    have c4 : (curs L (fP L p x).2 (kA L).length).2 = (fP L p x).2 + 1 + 1 + 6 * ((kA L).length : Int) := c2
    have hk := (k_bd L).2.2
    refine ⟨by show (_ ++ [_]).length = _; rw [List.length_append, i1]; rfl, ?_, fun k hk => ?_⟩
    · show p ≤ (curs L (fP L p x).2 (kA L).length).2 ∧ (curs L (fP L p x).2 (kA L).length).2 ≤ _
      rw [c4]; omega
    show ((_ ++ [_] : List (List Flow)).getD k []).length = _ ∧ ∀ f ∈ (_ ++ [_] : List (List Flow)).getD k [], rightF f
    rw [List.getD_eq_getElem?_getD]
    by_cases q : k < x
    · rw [List.getElem?_append_left (by omega), ← List.getD_eq_getElem?_getD]
      exact i3 k q
    · obtain rfl : k = x := by omega
      rw [List.getElem?_append_right (by omega), i1, Nat.sub_self]
      exact ⟨c1, c3⟩
theorem kA_4 (L : List Int) : 4 ≤ (kA L).length := by
  have h := wat_prod L 0
  have h2 := watA_len L 0
  show 4 ≤ (watA L 0).length
  omega
theorem p0_bd (L : List Int) : 0 ≤ p0 L ∧ p0 L ≤ 3008 := by
  have := (t_bd L).1
  unfold p0; omega
theorem hm_ok (L : List Int) : rightR (hm L) := by
  have h1 := dN_bd L (t3 L) (m := 101) (by decide)
  have h2 := dN_bd L (t3 L + 1) (m := 101) (by decide)
  have h3 := dN_bd L (t3 L + 1 + 1) (m := 101) (by decide)
  have h4 := dN_bd L (t3 L + 1 + 1 + 1) (m := 30) (by decide)
  have h5 := dN_bd L (t3 L + 1 + 1 + 1 + 1) (m := 101) (by decide)
  have h6 := dN_bd L (t3 L + 1 + 1 + 1 + 1 + 1) (m := 101) (by decide)
  have h7 := dN_bd L (t3 L + 1 + 1 + 1 + 1 + 1 + 1) (m := 101) (by decide)
  have h8 := dN_bd L (t3 L + 1 + 1 + 1 + 1 + 1 + 1 + 1) (m := 30) (by decide)
  unfold rightR rateI hm hRt
  dsimp only
  omega
theorem hl_ok (L : List Int) (n : Nat) : (hl L n).length = n ∧ (0 ≤ hp L n ∧ hp L n ≤ 3008 + 200 * (n : Int)) ∧ ∀ k, k < n → ((hl L n).getD k []).length = (kA L).length ∧ ∀ f ∈ (hl L n).getD k [], rightF f := by
  obtain ⟨h1, h2, h3⟩ := fP_ok L (p0 L) n
  have h4 := p0_bd L
  exact ⟨h1, by unfold hp; omega, h3⟩
theorem hRun (L : List Int) {n : Nat} (hn : n ≤ 6) : RunOk (kW L) (kH L) (kA L) (hl L n) (tHr L) (tC L) (hm L) := by
  obtain ⟨h1, _, h3⟩ := hl_ok L n
  obtain ⟨c1, c2⟩ := tC_ok L
  have ht := (t_bd L).2.2
  exact ⟨kB_ok L, by omega, hm_ok L, fun k hk => h3 k (by omega), c1, fun k hk => ⟨(c2 k hk).1, (c2 k hk).2.2⟩, ht.1, by omega⟩
theorem grw_1 {L : List Int} {m : Rates} {a : List Bool} {xs : List Ice} {p : Int} {k : Nat} (h : a.getD k false = true) : grw L m a xs p (k + 1) = grw L m a xs p k := if_pos h
theorem grw_2 {L : List Int} {m : Rates} {a : List Bool} {xs : List Ice} {p : Int} {k : Nat} (h : a.getD k false = false) : grw L m a xs p (k + 1) = ((grw L m a xs p k).1.set k (grI L m (grw L m a xs p k).2 ((grw L m a xs p k).1.getD k zeroI)), (grw L m a xs p k).2 + 1 + 1 + 1 + 1) := if_neg (by rw [h]; exact Bool.false_ne_true)
theorem grw_ok (L : List Int) (m : Rates) (a : List Bool) (xs : List Ice) (p : Int) : ∀ {k : Nat}, k ≤ xs.length → (grw L m a xs p k).1.length = xs.length ∧ (p ≤ (grw L m a xs p k).2 ∧ (grw L m a xs p k).2 ≤ p + 4 * (k : Int)) ∧
    ∀ j, j < xs.length → (j < k → a.getD j false = false → ∃ q, (grw L m a xs p k).1.getD j zeroI = grI L m q (xs.getD j zeroI)) ∧ ((k ≤ j ∨ a.getD j false = true) → (grw L m a xs p k).1.getD j zeroI = xs.getD j zeroI)
  | 0, _ => ⟨rfl, by show p ≤ p ∧ p ≤ _; omega, fun j hj => ⟨fun h => by omega, fun _ => rfl⟩⟩
  | k + 1, hk => by
    obtain ⟨i1, i2, i3⟩ := grw_ok L m a xs p (k := k) (by omega)
    cases ha : a.getD k false with
    | true =>
      rw [grw_1 ha]
      refine ⟨i1, by omega, fun j hj => ⟨fun h1 h2 => ?_, fun h => (i3 j hj).2 (h.elim (fun q => .inl (by omega)) .inr)⟩⟩
      have : j ≠ k := fun e => by rw [e, ha] at h2; cases h2
      exact (i3 j hj).1 (by omega) h2
    | false =>
      rw [grw_2 ha]
      have hk0 := (i3 k (by omega)).2 (.inl (Nat.le_refl _))
      refine ⟨by rw [List.length_set]; exact i1, by dsimp only; omega, fun j hj => ⟨fun h1 h2 => ?_, fun h => ?_⟩⟩
      · rw [getD_set (by omega)]
        by_cases q : j = k
        · rw [if_pos q, hk0, q]; exact ⟨_, rfl⟩
        · rw [if_neg q]; exact (i3 j hj).1 (by omega) h2
      · rw [getD_set (by omega), if_neg (fun q => ?_)]
        · exact (i3 j hj).2 (h.elim (fun q => .inl (by omega)) .inr)
        · rcases h with h | h
          · omega
          · rw [q, ha] at h; cases h
structure HsOk (L : List Int) (n i : Nat) : Prop where
  len : (hF L n i).length = (kA L).length
  x : ∀ k, k < (kA L).length → rightI ((hF L n i).getD k zeroI) ∧ ((kA L).getD k false = true → (hF L n i).getD k zeroI = zeroI) ∧ hasC ((hC L n i).getD k zeroC) ((hF L n i).getD k zeroI)
  p : 0 ≤ hP L n i ∧ hP L n i ≤ 5000 + 200 * (i : Int)
theorem hM_ok (L : List Int) {n i : Nat} (hi : i < n) : (hM L n i).1.length = (kA L).length ∧ (hM L n i).2 = hP L n i + ((kA L).length : Int) ∧ ∀ k, k < (kA L).length → inMv (((hl L n).getD i []).getD k zeroF) ((hM L n i).1.getD k zeroM) = true := by
  obtain ⟨r1, r2⟩ := (hl_ok L n).2.2 i hi
  obtain ⟨m1, m2⟩ := mvgL_len L ((hl L n).getD i []) (hP L n i) ((hl L n).getD i []).length
  refine ⟨m1.trans r1, ?_, fun k hk => kM_ok L _ (hP L n i) r2 _ (Nat.le_refl _) k (by omega)⟩
  have : (hM L n i).2 = (mvgL L ((hl L n).getD i []) (hP L n i) ((hl L n).getD i []).length).2 := rfl
  rw [this, m2, r1]
theorem hDr_ok (L : List Int) {n i : Nat} (o : HsOk L n i) : DrOk (kW L) (kH L) (kA L) (hF L n i) (hM L n i).1 :=
  ⟨kB_ok L, o.len, fun k hk => (o.x k (by rw [← o.len]; exact hk)).1, fun k hk => (o.x k (by rw [← o.len]; exact hk)).2.1⟩
theorem hD_eq (L : List Int) {n i : Nat} (hi : i < n) (o : HsOk L n i) : hD L n i = (driftI (kW L) (kH L) (kA L) (hF L n i) (hM L n i).1, driftE (kW L) (kH L) (kA L) (hF L n i) (hM L n i).1, 0) := by
  obtain ⟨r1, r2⟩ := (hl_ok L n).2.2 i hi
  obtain ⟨m1, m2, m3⟩ := hM_ok L hi
  exact if_pos (errDr_0 (hDr_ok L o) (wat_ok L 0) r1 r2 m1 fun k hk _ => m3 k hk)
theorem hD_in (L : List Int) {n i : Nat} (hn : n ≤ 6) (hi : i < n) (o : HsOk L n i) : (hD L n i).1.length = (kA L).length ∧ ∀ k, k < (kA L).length → rightI ((hD L n i).1.getD k zeroI) ∧ ((kA L).getD k false = true → (hD L n i).1.getD k zeroI = zeroI) ∧ hasC (stepC (kW L) (kH L) (kA L) ((hl L n).getD i []) (hC L n i) k) ((hD L n i).1.getD k zeroI) := by
  rw [hD_eq L hi o]
  obtain ⟨m1, m2, m3⟩ := hM_ok L hi
  have so := ((run_ok (hRun L hn) (i := i) (by rw [(hl_ok L n).1]; omega)).2 (by rw [(hl_ok L n).1]; exact hi)).1
  refine ⟨drift_len .., fun k hk => ?_⟩
  have h1 := drift_has (T := k) so o.len (fun k hk => ⟨(o.x k hk).1, (o.x k hk).2.2⟩) m3 hk
  refine ⟨has_right (step_right so k) h1, fun ha => ?_, h1⟩
  show (driftI _ _ _ _ _).getD k zeroI = _
  rw [drift_get hk, land_0 _ _ ha]; rfl
theorem hC_succ (L : List Int) (n i : Nat) : hC L n (i + 1) = agL (kA L) (hm L) (stepL (kW L) (kH L) (kA L) ((hl L n).getD i []) (hC L n i)) (kA L).length := rfl
theorem hs_ok (L : List Int) {n : Nat} (hn : n ≤ 6) : ∀ {i : Nat}, i ≤ n → HsOk L n i
  | 0, _ => by
    obtain ⟨x1, x2⟩ := kX_ok L
    obtain ⟨c1, c2⟩ := tC_ok L
    have hp0 := (hl_ok L n).2.1
    exact ⟨x1, fun k hk => ⟨(x2 k hk).1, (x2 k hk).2, (c2 k hk).2.1⟩, by show 0 ≤ hp L n ∧ hp L n ≤ _; omega⟩
  | i + 1, hi => by
    have o := hs_ok L hn (i := i) (by omega)
    obtain ⟨d1, d2⟩ := hD_in L hn (show i < n by omega) o
    obtain ⟨m1, m2, m3⟩ := hM_ok L (show i < n by omega)
    have hb := (k_bd L).2.2
    have so := ((run_ok (hRun L hn) (i := i) (by rw [(hl_ok L n).1]; omega)).2 (by rw [(hl_ok L n).1]; omega)).1
    obtain ⟨g1, g2, g3⟩ := grw_ok L (hm L) (kA L) (hD L n i).1 (hM L n i).2 (k := (hD L n i).1.length) (Nat.le_refl _)
    have e1 : hF L n (i + 1) = (grw L (hm L) (kA L) (hD L n i).1 (hM L n i).2 (hD L n i).1.length).1 := rfl
    have e2 : hP L n (i + 1) = (grw L (hm L) (kA L) (hD L n i).1 (hM L n i).2 (hD L n i).1.length).2 := rfl
    have hop := o.p
    refine ⟨by rw [e1, g1, d1], fun k hk => ?_, by rw [e2]; omega⟩
    obtain ⟨x1, x2, x3⟩ := d2 k hk
    obtain ⟨y1, y2⟩ := g3 k (by omega)
    have hgc : (hC L n (i + 1)).getD k zeroC = if k < (kA L).length ∧ (kA L).getD k false = false then (fAge (stepC (kW L) (kH L) (kA L) ((hl L n).getD i []) (hC L n i) k) (hm L) 1).1 else stepC (kW L) (kH L) (kA L) ((hl L n).getD i []) (hC L n i) k := by
      rw [hC_succ, agL_get (by rw [stepL_len]; exact hk), stepL_get hk]
    rw [e1, hgc]
    cases ha : (kA L).getD k false with
    | true =>
      rw [y2 (.inr ha), if_neg (fun q => by cases q.2)]
      exact ⟨x1, fun _ => x2 ha, x3⟩
    | false =>
      obtain ⟨q, hq⟩ := y1 (by omega) ha
      have hr : rightC (stepC (kW L) (kH L) (kA L) ((hl L n).getD i []) (hC L n i) k) := step_right so k
      rw [hq, if_pos ⟨hk, rfl⟩, fAge_h hr (hm_ok L)]
      have hpt := ptC_ok x1
      have hag := (ageC_ok hpt (hm_ok L) (show (0 : Int) ≤ 1 by decide)).1
      have hz : hasC (ageC (ptC ((hD L n i).1.getD k zeroI)) (hm L) 1) (grI L (hm L) q ((hD L n i).1.getD k zeroI)) := by
        unfold grI
        rw [fAge_h hpt (hm_ok L)]
        exact grY_has (rightC_ok hag)
      exact ⟨has_right hag hz, (fun q => by cases q), age_has x3 hz⟩
theorem hG_at (L : List Int) {n i k : Nat} (hk : k < (hD L n i).1.length) : (hG L n i k).getD k zeroI = (hD L n i).1.getD k zeroI :=
  ((grw_ok L (hm L) (kA L) (hD L n i).1 (hM L n i).2 (k := k) (by omega)).2.2 k hk).2 (.inl (Nat.le_refl _))
/-- Each chart of the run holds its field. -/
theorem hH_ok (L : List Int) {n i : Nat} (hn : n ≤ 6) (hi : i ≤ n) : hH L n i = (true, 0) := by
  have o := hs_ok L hn hi
  have rn := hRun L hn
  have hb := kB_ok L
  have ht := rn.t0
  have ht1 := rn.t1
  have hll := (hl_ok L n).1
  obtain ⟨c1, _⟩ := run_ok rn (i := i) (by omega)
  have cl : (hC L n i).length = (kA L).length := runC_len _ _ _ _ _ rn.cl i
  have hbn := hb.n1
  have e1 : errChart (kW L) (kH L) (tHr L + (i : Int)) (hC L n i) = 0 := by
    unfold errChart
    rw [first2_2 (errSize_iff.2 ⟨hb.w1, hb.h1, hb.p1, by omega⟩), if_pos (by omega)]
    refine errs_all fun c hm => ?_
    obtain ⟨k, hk, rfl⟩ := mem_getD (d := zeroC) hm
    exact errCell_iff.2 (c1 k (by omega)).1
  have e2 : errs errIce (hF L n i) = 0 := errs_all fun x hm => by
    obtain ⟨k, hk, rfl⟩ := mem_getD (d := zeroI) hm
    exact errIce_iff.2 (o.x k (by rw [← o.len]; exact hk)).1
  have e3 : hasTo (hC L n i) (hF L n i) (hF L n i).length := fun k hk => (o.x k (by rw [← o.len]; exact hk)).2.2
  unfold hH fHolds
  rw [if_pos e1, if_pos (by rw [o.len, cl]), if_pos e2]
  simp only [e3, decide_true]
end
end Go.Proofs.Ytkkgnalgmebfjaa
/- DriftHolds returns true. No condition. -/
namespace Go.Proofs.Ytkkgnalgmebfjaa
open Go Go.K
set_option maxRecDepth 100000
set_option linter.unusedVariables false
set_option linter.unusedSimpArgs false
noncomputable section
attribute [local irreducible] vF
theorem ob_flow {X Y : List (List Flow)} {S : List Flow} {v : Value} (hY : Y = X ++ [S]) (hv : v = flV S) : (some (KObj.cells true 1 (List.take (X.length * 1) (List.drop 0 (flL X)) ++ List.take (1 * 1) (List.drop 0 [v]))) : Option KObj) = some (.cells true 1 (flL Y)) := by
  subst hv hY
  have e1 : flL (X ++ [S]) = flL X ++ [flV S] := List.map_append ..
  have e2 : List.take (X.length * 1) (List.drop 0 (flL X)) = flL X := by rw [List.drop_zero, List.take_of_length_le (by rw [flL_len]; omega)]
  rw [e1, e2]; rfl
theorem wk_QN {id n : Nat} (h0 : 0 < n) : wk (.slice (some ⟨id, 0, some 1⟩) n n) (.slice (some ⟨id, 0, none⟩) n n) := by
  intro ρ x h
  cases h with
  | sliceQn => exact absurd h0 (Nat.lt_irrefl 0)
  | sliceQe => exact absurd h0 (Nat.lt_irrefl 0)
  | sliceQ h hp hl hc ho => exact .slice h hl hc ho
theorem ksome (L : List Int) (n lo hi : Int) (hn : 0 ≤ n ∧ n ≤ 900000000) (h : lo ≤ hi ∧ (0 ≤ lo ∧ hi ≤ 1000)) {H : Heap} {D : Nat} (hD : H[D]? = some (.cells true 0 (digC L n))) {b : Nat} {own : Bool} {z : Nat} (hb : H[b]? = some (.cells own z [.pointer (some ⟨D, 0, none⟩)])) (hne : D ≠ b) :
    KCall prog 57 [.agg #[.int .i64 lo, .int .i64 hi], .pointer (some ⟨b, 0, none⟩)] H [D] (Is (.int .i64 (lo + dN L n (hi - lo + 1))) (H.set D (.cells true 0 (digC L (n + 1))))) := by
  have hdb := dN_bd L n (m := hi - lo + 1) (by omega)
  have key := vcWA (P := prog) (f := 57) (H := H) (D := D) (z := 0) (c0 := digC L n) (c1 := digC L (n + 1)) (css := [[.pointer (some ⟨0, 0, none⟩)]]) mskOk mixed 40 (v := .int .i64 (lo + dN L n (hi - lo + 1))) (new := [])
    (by rw [glob0]; exact Eq.mpr (Efsome L n lo hi) (by
          unfold Rfsome
          refine ⟨vI64 (by omega), vI64 (by omega), ⟨rfl, trivial⟩, fun H' _ hd => kNext L n _ (by omega) (by omega) hd.1, vI64 (by omega), ?_⟩
          repeat' first | exact plainBL _ _ | exact chD_b _ _ | exact plainC _ _ | exact flL_b _ _ | exact plainXL _ _ | exact digO _ _ _ | exact trivial | exact rfl | exact wk_refl _ | refine wkO_cells ?_ | refine wks_cons ?_ ?_ | exact wks_nil | exact wk_nil _ _ _ (.inl rfl) | (exact wk_Q (by omega)) | refine wk_tupL ?_ | refine wk_aggL ?_ | refine joinMax ?_ ?_ ?_ | refine joinMin ?_ ?_ ?_ | refine toMax ?_ | refine toMin ?_ | refine ⟨rfl, ?_⟩ | refine ⟨trivial, ?_⟩ | (refine forkD (fun h => ?_) (fun h => ?_)) | (refine forkNe (fun h => ?_) (fun h => ?_)) | (refine forkEq (fun h => ?_) (fun h => ?_)) | refine forkNot ?_ | (refine ⟨vI64 (by omega), ?_⟩) | (refine And.intro (by omega) ?_) | apply And.intro | (exact iEq (by omega)) | (exact vI64 (by omega))
          )) (plainDig 0 L n) (plainDig 0 L _) rfl rfl rfl rfl hD [b] rfl
    (fun k cs hk => by
      match k with
      | 0 => cases hk; rw [glob0]; exact ⟨b, own, z, rfl, hb⟩) (by simpa using hne)
  rw [glob0] at key
  have e : H.set D (.cells true 0 (digC L (n + 1))) ++ ([] : Heap) = H.set D (.cells true 0 (digC L (n + 1))) := List.append_nil _
  rw [← e]
  exact key
theorem age_lo {c : Cell} {m : Rates} (h : rightC (ageC c m 1)) : ((ageC c m 1).conc.lo ≤ (ageC c m 1).conc.hi ∧ (0 ≤ (ageC c m 1).conc.lo ∧ (ageC c m 1).conc.hi ≤ 1000)) ∧ ((ageC c m 1).thick.lo ≤ (ageC c m 1).thick.hi ∧ (0 ≤ (ageC c m 1).thick.lo ∧ (ageC c m 1).thick.hi ≤ 1000)) ∧
    ((ageC c m 1).ridge.lo ≤ (ageC c m 1).ridge.hi ∧ (0 ≤ (ageC c m 1).ridge.lo ∧ (ageC c m 1).ridge.hi ≤ 1000)) ∧ ((ageC c m 1).press.lo ≤ (ageC c m 1).press.hi ∧ (0 ≤ (ageC c m 1).press.lo ∧ (ageC c m 1).press.hi ≤ 1000)) := by
  unfold rightC rightSp at h
  omega
set_option maxHeartbeats 4000000 in
theorem kHoldsLaw (L : List Int) (hours : Int) (H : Heap) : KCall prog F.polynyalaw02_DriftHolds [.iface (L.length + 1) (.agg ⟨L.flatMap intC⟩), .int .i64 hours] H [] (Is (.bool true) H) := by
  refine valK 40 (fun σ => ?_) rfl (Eq.mpr (EHoldsLaw (.bool true) L hours) ?_) H
  · have := inV_rn σ 2 L; show [rn σ (2 + 3) (inV L), Value.int .i64 hours] = _; rw [this]; rfl
  unfold RHoldsLaw
  obtain ⟨n, hn⟩ : ∃ n : Nat, hours % 7 = (n : Int) := ⟨Int.toNat (hours % 7), by omega⟩
  have hn6 : n ≤ 6 := by omega
  have hpk : ∀ H', KCall prog F.polynyakit_Pick [.int .i64 hours, .int .i64 7] H' [] (Is (.int .i64 (n : Int)) H') := fun H' => by
    have := kPick hours 7 (by decide) (by decide) H'
    rw [hn] at this; exact this
  rw [hn, show Int.toNat ((n : Nat) : Int) = n from rfl]
  clear hn
  obtain ⟨⟨b1, b2⟩, b3, b4⟩ := k_bd L
  have hb := kB_ok L
  have hkp := kA_4 L
  have hbn := hb.n1
  obtain ⟨u1, u2, u3⟩ := t_bd L
  obtain ⟨x1, x2⟩ := kX_ok L
  obtain ⟨c1, c2⟩ := tC_ok L
  have hNX : ∀ {p m : Int}, 0 ≤ p ∧ p ≤ 900000000 → 1 ≤ m ∧ m ≤ 1000000000 → ∀ (H' : Heap), H'.length = 8 → H'[0]? = some (.cells true 0 (digC L p)) ∧ True → KCall prog 40 [.pointer (some ⟨0, 0, none⟩), .int .i64 m] H' [0] (Is (.int .i64 (dN L p m)) (H'.set 0 (.cells true 0 (digC L (p + 1))))) := fun h1 h2 H' _ hd => kNext L _ _ (by omega) h2 hd.1
  refine ⟨⟨rfl, trivial⟩, fun H' hl hd => kWaters L 0 (by omega) hl hd.1, ⟨rfl, rfl, trivial⟩, fun H' hl hd => (kField L (k1 L) (by omega) (kW L) (kH L) (kA L) (by omega) hl hd.1 hd.2.1 (by decide)).wkA ⟨wk_refl _, wk_aggL ⟨wk_refl _, wk_refl _, wk_QR, trivial⟩, trivial⟩,
    ⟨rfl, rfl, rfl, trivial⟩, fun H' hl hd => (kHolding L (k2 L) (by omega) (kW L) (kH L) (kA L) (kX L) x1 (by omega) (fun k hk => x2 k (by omega)) hl hd.1 hd.2.1 hd.2.2.1 (by decide)).wkA ⟨wk_refl _, wk_aggL ⟨wk_refl _, wk_refl _, wk_QR, trivial⟩, wk_QR, trivial⟩,
    ⟨rfl, trivial⟩, hNX (by omega) (by decide), ⟨rfl, trivial⟩, hNX (by omega) (by decide), ⟨rfl, trivial⟩, hNX (by omega) (by decide), ⟨rfl, trivial⟩, hNX (by omega) (by decide), ⟨rfl, trivial⟩, hNX (by omega) (by decide), ⟨rfl, trivial⟩, hNX (by omega) (by decide), ⟨rfl, trivial⟩, hNX (by omega) (by decide), ⟨rfl, trivial⟩, hNX (by omega) (by decide),
    trivial, fun H' _ _ => hpk H', rfl, by omega, ?_, fun _ => rfl, ?_⟩
  · repeat' first | exact plainBL _ _ | exact chD_b _ _ | exact plainC _ _ | exact flL_b _ _ | exact plainXL _ _ | exact digO _ _ _ | exact trivial | exact rfl | exact wk_refl _ | refine wkO_cells ?_ | refine wks_cons ?_ ?_ | exact wks_nil | exact wk_nil _ _ _ (.inl rfl) | (exact wk_Q (by omega)) | refine wk_tupL ?_ | refine wk_aggL ?_ | refine joinMax ?_ ?_ ?_ | refine joinMin ?_ ?_ ?_ | refine toMax ?_ | refine toMin ?_ | refine ⟨rfl, ?_⟩ | refine ⟨trivial, ?_⟩ | (refine forkD (fun h => ?_) (fun h => ?_)) | (refine forkNe (fun h => ?_) (fun h => ?_)) | (refine forkEq (fun h => ?_) (fun h => ?_)) | refine forkNot ?_ | (refine ⟨vI64 (by omega), ?_⟩) | (refine And.intro (by omega) ?_) | apply And.intro | (exact iEq (by omega)) | (exact vI64 (by omega))
  intro x hx
  obtain ⟨f1, f2, f3⟩ := hl_ok L x
  refine forkD (fun k => ?_) (fun k => ?_)
  · refine ⟨⟨rfl, rfl, trivial⟩, fun H' hl2 hd => (kCurrents L (hp L x) (by omega) (kW L) (kH L) (kA L) (by omega) hl2 hd.1 hd.2.1 (by decide)).wkA ⟨wk_refl _, wk_aggL ⟨wk_refl _, wk_refl _, wk_QR, trivial⟩, trivial⟩, ⟨by omega, by decide, ⟨Nat.le_refl _, by rw [flL_len]; omega⟩, ⟨Nat.le_refl _, Nat.le_refl _⟩, rfl⟩, rfl, vI64 (by omega), x + 1, by omega, by omega, rfl, ?_⟩
    repeat' first | (exact wk_QF (by rw [(hl_ok L (x + 1)).1, f1]) (by omega)) | exact ob_flow rfl rfl | exact plainBL _ _ | exact chD_b _ _ | exact plainC _ _ | exact flL_b _ _ | exact plainXL _ _ | exact digO _ _ _ | exact trivial | exact rfl | exact wk_refl _ | refine wkO_cells ?_ | refine wks_cons ?_ ?_ | exact wks_nil | exact wk_nil _ _ _ (.inl rfl) | (exact wk_Q (by omega)) | refine wk_tupL ?_ | refine wk_aggL ?_ | refine joinMax ?_ ?_ ?_ | refine joinMin ?_ ?_ ?_ | refine toMax ?_ | refine toMin ?_ | refine ⟨rfl, ?_⟩ | refine ⟨trivial, ?_⟩ | (refine forkD (fun h => ?_) (fun h => ?_)) | (refine forkNe (fun h => ?_) (fun h => ?_)) | (refine forkEq (fun h => ?_) (fun h => ?_)) | refine forkNot ?_ | (refine ⟨vI64 (by omega), ?_⟩) | (refine And.intro (by omega) ?_) | apply And.intro | (exact iEq (by omega)) | (exact vI64 (by omega))
  obtain rfl : x = n := by omega
  clear k hx hpk hNX
  have hrn := hRun L hn6
  have hrl : (hR L x).length = x + 1 := by unfold hR; rw [runL_len, f1]
  have hRg : ∀ k, k ≤ x → (hR L x).getD k zeroChart = ⟨kW L, kH L, tHr L + (k : Int), hC L x k⟩ := fun k hk => by unfold hR hC; exact runL_get (by omega)
  refine ⟨⟨rfl, rfl, rfl, trivial⟩, fun H' hl2 hd => (kRun hrn hl2 hd.1 hd.2.1 hd.2.2.1).wkA ⟨wk_aggL ⟨wk_refl _, wk_refl _, wk_QR, trivial⟩, wk_QR, wk_aggL ⟨wk_refl _, wk_refl _, wk_refl _, wk_QN (by omega), trivial⟩, wk_refl _, trivial⟩,
    forkNe (fun q => absurd rfl q) (fun _ => ⟨vI64 (by omega), forkNe (fun q => absurd (by omega) q) (fun _ => ⟨rfl, by omega, ?_, fun _ => rfl, ?_⟩)⟩)⟩
  · repeat' first | exact plainBL _ _ | exact chD_b _ _ | exact plainC _ _ | exact flL_b _ _ | exact plainXL _ _ | exact digO _ _ _ | exact trivial | exact rfl | exact wk_refl _ | refine wkO_cells ?_ | refine wks_cons ?_ ?_ | exact wks_nil | exact wk_nil _ _ _ (.inl rfl) | (exact wk_Q (by omega)) | refine wk_tupL ?_ | refine wk_aggL ?_ | refine joinMax ?_ ?_ ?_ | refine joinMin ?_ ?_ ?_ | refine toMax ?_ | refine toMin ?_ | refine ⟨rfl, ?_⟩ | refine ⟨trivial, ?_⟩ | (refine forkD (fun h => ?_) (fun h => ?_)) | (refine forkNe (fun h => ?_) (fun h => ?_)) | (refine forkEq (fun h => ?_) (fun h => ?_)) | refine forkNot ?_ | (refine ⟨vI64 (by omega), ?_⟩) | (refine And.intro (by omega) ?_) | apply And.intro | (exact iEq (by omega)) | (exact vI64 (by omega))
  intro y hy
  have o := hs_ok L hn6 (i := y) (by omega)
  have hH := hH_ok L hn6 (i := y) (by omega)
  have hol := o.len
  have hop := o.p
  refine forkD (fun k => ?_) (fun k => absurd k (by omega))
  refine ⟨by omega, ?_, ⟨rfl, trivial⟩, fun H' _ hd => (kHoldsV (kW L) (kH L) (tHr L + (y : Int)) (hC L x y) (hF L x y) hd.1).wkA ⟨wk_refl _, wk_QR, trivial⟩, ?_⟩
  · have := part_at (n := 4) (f := chD) (d := zeroChart) (xs := hR L x) (k := y) (c := 0) (m := 4) (off := 0 + Int.toNat ((y : Nat) : Int) * 4) chD_len (by omega) (by omega) (by omega)
    rw [hRg y (by omega)] at this
    exact this
  rw [hH]
  refine forkNe (fun q => absurd rfl q) (fun _ => forkNot (forkB (fun _ => ⟨by omega, ?_, vI64 (by omega), forkF (bne_self_eq_false _) (forkEq (fun _ => ⟨trivial, fun H' _ _ => kAwake H', rfl⟩) (fun hne => ?_))⟩) (fun q => by cases q)))
  · have := cell_at (n := 4) (f := chD) (d := zeroChart) (xs := hR L x) (k := y) (c := 2) (off := (0 + Int.toNat ((y : Nat) : Int) * 4) + 2) (v := .int .i64 (tHr L + (y : Int))) chD_len (by omega) (by omega) (by rw [hRg y (by omega)]; rfl)
    exact this
  have hlt : y < x := by omega
  obtain ⟨r1, r2⟩ := f3 y hlt
  obtain ⟨m1, m2, m3⟩ := hM_ok L hlt
  have hDe := hD_eq L hlt o
  obtain ⟨d1, d2⟩ := hD_in L hn6 hlt o
  have hD2 : (hD L x y).2.2 = 0 := by rw [hDe]
  refine ⟨by omega, flL_at (by omega) (by omega), ⟨rfl, trivial⟩, fun H' hl2 hd => kMovingV L (hP L x y) (by omega) _ (by omega) r2 hl2 hd.1, by omega, flL_at (by omega) (by omega), ⟨rfl, rfl, rfl, trivial⟩,
    fun H' hl2 hd => (kDriftV (kW L) (kH L) (kA L) ((hl L x).getD y []) (hF L x y) (hM L x y).1 (by omega) (by omega) hl2 hd.1 hd.2.1 hd.2.2.1).wkA ⟨wk_aggL ⟨wk_refl _, wk_refl _, wk_QR, trivial⟩, wk_refl _, wk_QR, wk_QR, trivial⟩, ?_⟩
  rw [hD2]
  refine forkNe (fun q => absurd rfl q) (fun _ => forkNe (fun q => absurd (by omega) q) (fun _ => ⟨rfl, Nat.zero_le _, ?_, fun _ => rfl, ?_⟩))
  · repeat' first | exact plainBL _ _ | exact chD_b _ _ | exact plainC _ _ | exact flL_b _ _ | exact plainXL _ _ | exact digO _ _ _ | exact trivial | exact rfl | exact wk_refl _ | refine wkO_cells ?_ | refine wks_cons ?_ ?_ | exact wks_nil | exact wk_nil _ _ _ (.inl rfl) | (exact wk_Q (by omega)) | refine wk_tupL ?_ | refine wk_aggL ?_ | refine joinMax ?_ ?_ ?_ | refine joinMin ?_ ?_ ?_ | refine toMax ?_ | refine toMin ?_ | refine ⟨rfl, ?_⟩ | refine ⟨trivial, ?_⟩ | (refine forkD (fun h => ?_) (fun h => ?_)) | (refine forkNe (fun h => ?_) (fun h => ?_)) | (refine forkEq (fun h => ?_) (fun h => ?_)) | refine forkNot ?_ | (refine ⟨vI64 (by omega), ?_⟩) | (refine And.intro (by omega) ?_) | apply And.intro | (exact iEq (by omega)) | (exact vI64 (by omega))
  intro z hz
  obtain ⟨g1, g2, g3⟩ := grw_ok L (hm L) (kA L) (hD L x y).1 (hM L x y).2 (k := z) (by omega)
  have e1 : hG L x y z = (grw L (hm L) (kA L) (hD L x y).1 (hM L x y).2 z).1 := rfl
  have e2 : hQ L x y z = (grw L (hm L) (kA L) (hD L x y).1 (hM L x y).2 z).2 := rfl
  rw [← e1] at g1
  rw [← e2] at g2
  refine forkD (fun k2 => ?_) (fun k2 => ?_)
  · have hlz : z < (kA L).length := by omega
    refine ⟨by omega, boolAt hlz (by omega), forkB (fun ha => ?_) (fun ha => ?_)⟩
    · have e3 : hG L x y (z + 1) = hG L x y z := congrArg Prod.fst (grw_1 ha)
      have e4 : hQ L x y (z + 1) = hQ L x y z := congrArg Prod.snd (grw_1 ha)
      refine ⟨vI64 (by omega), z + 1, by omega, by omega, rfl, ?_⟩
      rw [e3, e4]
      repeat' first | exact plainBL _ _ | exact chD_b _ _ | exact plainC _ _ | exact flL_b _ _ | exact plainXL _ _ | exact digO _ _ _ | exact trivial | exact rfl | exact wk_refl _ | refine wkO_cells ?_ | refine wks_cons ?_ ?_ | exact wks_nil | exact wk_nil _ _ _ (.inl rfl) | (exact wk_Q (by omega)) | refine wk_tupL ?_ | refine wk_aggL ?_ | refine joinMax ?_ ?_ ?_ | refine joinMin ?_ ?_ ?_ | refine toMax ?_ | refine toMin ?_ | refine ⟨rfl, ?_⟩ | refine ⟨trivial, ?_⟩ | (refine forkD (fun h => ?_) (fun h => ?_)) | (refine forkNe (fun h => ?_) (fun h => ?_)) | (refine forkEq (fun h => ?_) (fun h => ?_)) | refine forkNot ?_ | (refine ⟨vI64 (by omega), ?_⟩) | (refine And.intro (by omega) ?_) | apply And.intro | (exact iEq (by omega)) | (exact vI64 (by omega))
    · have hx0 := (d2 z hlz).1
      have hga := hG_at L (n := x) (i := y) (k := z) (by omega)
      have hpt := ptC_ok hx0
      have hfa := fAge_h hpt (hm_ok L)
      have hag := (ageC_ok hpt (hm_ok L) (show (0 : Int) ≤ 1 by decide)).1
      obtain ⟨w1, w2, w3, w4⟩ := age_lo hag
      have e3 : hG L x y (z + 1) = (hG L x y z).set z (grI L (hm L) (hQ L x y z) ((hG L x y z).getD z zeroI)) := congrArg Prod.fst (grw_2 ha)
      have e4 : hQ L x y (z + 1) = hQ L x y z + 1 + 1 + 1 + 1 := congrArg Prod.snd (grw_2 ha)
      have hat : ∀ {c : Nat} {v : Value}, c < 4 → (iceC ((hG L x y z).getD z zeroI))[c]? = some v → ((hG L x y z).flatMap iceC)[(0 + Int.toNat ((z : Nat) : Int) * 4) + c]? = some v := fun hc hv => cell_at (n := 4) (d := zeroI) iceC_len (by omega) (by omega) hv
      refine ⟨by omega, hat (by decide) rfl, by omega, hat (by decide) rfl, by omega, hat (by decide) rfl, by omega, hat (by decide) rfl, by omega, hat (by decide) rfl, by omega, hat (by decide) rfl, by omega, hat (by decide) rfl, by omega, hat (by decide) rfl, ?_⟩
      rw [hga] at e3 ⊢
      refine ⟨(ageC (ptC ((hD L x y).1.getD z zeroI)) (hm L) 1, 0), trivial, fun H' _ _ => ?_, ?_⟩
      · have := kAge (ptC ((hD L x y).1.getD z zeroI)) (hm L) 1 H'
        rw [hfa] at this; exact this
      dsimp only
      refine forkNe (fun q => absurd rfl q) (fun _ => ⟨⟨rfl, rfl, trivial⟩, fun H' _ hd => ksome L _ _ _ (by omega) w1 hd.1 hd.2.1 (by decide), ⟨rfl, rfl, trivial⟩, fun H' _ hd => ksome L _ _ _ (by omega) w2 hd.1 hd.2.1 (by decide), ⟨rfl, rfl, trivial⟩, fun H' _ hd => ksome L _ _ _ (by omega) w3 hd.1 hd.2.1 (by decide), ⟨rfl, rfl, trivial⟩, fun H' _ hd => ksome L _ _ _ (by omega) w4 hd.1 hd.2.1 (by decide),
        by omega, by rw [flat_len iceC_len]; omega, rfl, vI64 (by omega), z + 1, by omega, by omega, rfl, ?_⟩)
      have hgr : grI L (hm L) (hQ L x y z) ((hD L x y).1.getD z zeroI) = grY L (hQ L x y z) (ageC (ptC ((hD L x y).1.getD z zeroI)) (hm L) 1) := by unfold grI; rw [hfa]
      have hob : setl ((hG L x y z).flatMap iceC) (0 + Int.toNat ((z : Nat) : Int) * 4) (iceC (grY L (hQ L x y z) (ageC (ptC ((hD L x y).1.getD z zeroI)) (hm L) 1))) = (hG L x y (z + 1)).flatMap iceC := by
        rw [show 0 + Int.toNat ((z : Nat) : Int) * 4 = z * 4 by omega, flat_set iceC_len _ _ (by omega) _, ← hgr, ← e3]
      rw [e4]
      repeat' first | (exact congrArg (fun q => some (KObj.cells true 4 q)) hob) | exact plainBL _ _ | exact chD_b _ _ | exact plainC _ _ | exact flL_b _ _ | exact plainXL _ _ | exact digO _ _ _ | exact trivial | exact rfl | exact wk_refl _ | refine wkO_cells ?_ | refine wks_cons ?_ ?_ | exact wks_nil | exact wk_nil _ _ _ (.inl rfl) | (exact wk_Q (by omega)) | refine wk_tupL ?_ | refine wk_aggL ?_ | refine joinMax ?_ ?_ ?_ | refine joinMin ?_ ?_ ?_ | refine toMax ?_ | refine toMin ?_ | refine ⟨rfl, ?_⟩ | refine ⟨trivial, ?_⟩ | (refine forkD (fun h => ?_) (fun h => ?_)) | (refine forkNe (fun h => ?_) (fun h => ?_)) | (refine forkEq (fun h => ?_) (fun h => ?_)) | refine forkNot ?_ | (refine ⟨vI64 (by omega), ?_⟩) | (refine And.intro (by omega) ?_) | apply And.intro | (exact iEq (by omega)) | (exact vI64 (by omega))
  · have hzl : z = (hD L x y).1.length := by omega
    subst hzl
    have e3 : hF L x (y + 1) = hG L x y (hD L x y).1.length := rfl
    have e4 : hP L x (y + 1) = hQ L x y (hD L x y).1.length := rfl
    refine ⟨vI64 (by omega), y + 1, by omega, by omega, rfl, ?_⟩
    rw [e3, e4]
    repeat' first | (exact wk_of_eq (by rw [g1])) | exact plainBL _ _ | exact chD_b _ _ | exact plainC _ _ | exact flL_b _ _ | exact plainXL _ _ | exact digO _ _ _ | exact trivial | exact rfl | exact wk_refl _ | refine wkO_cells ?_ | refine wks_cons ?_ ?_ | exact wks_nil | exact wk_nil _ _ _ (.inl rfl) | (exact wk_Q (by omega)) | refine wk_tupL ?_ | refine wk_aggL ?_ | refine joinMax ?_ ?_ ?_ | refine joinMin ?_ ?_ ?_ | refine toMax ?_ | refine toMin ?_ | refine ⟨rfl, ?_⟩ | refine ⟨trivial, ?_⟩ | (refine forkD (fun h => ?_) (fun h => ?_)) | (refine forkNe (fun h => ?_) (fun h => ?_)) | (refine forkEq (fun h => ?_) (fun h => ?_)) | refine forkNot ?_ | (refine ⟨vI64 (by omega), ?_⟩) | (refine And.intro (by omega) ?_) | apply And.intro | (exact iEq (by omega)) | (exact vI64 (by omega))
end
end Go.Proofs.Ytkkgnalgmebfjaa
/- How laws' arguments are read. No condition. -/
namespace Go.Proofs.Ytkkgnalgmebfjaa
set_option linter.unusedSimpArgs false
open Go Go.K Go.ChangeShapes Go.WideShapes Go.ChangeAt Go.RowKit
set_option maxRecDepth 100000
set_option linter.unusedVariables false
noncomputable section
theorem own : ownKnob Try.prog.godebug = none := by kernel_rfl
theorem sized : slicesSized Try.prog = true := by kernel_rfl
abbrev known (t : TypeId) : Prop := t < Try.prog.types.size
theorem kids : Kids Try.prog known := kids_rows (by kernel_rfl) (by kernel_rfl)
end
end Go.Proofs.Ytkkgnalgmebfjaa
/- Arguments that are read: lists within lists by their values. No condition. -/
namespace Go.K
set_option linter.unusedSimpArgs false
open Go Go.RowKit Go.ChangeAt Go.WideShapes
set_option linter.unusedVariables false
variable {P : Program} {HH : Type} {enc : TypeId × Value → HH}

/-- Plain cells, whose lists are said by their values. -/
def GoodD (P : Program) : Nat → TypeId → List Value → Prop
  | 0, _, _ => False
  | n + 1, t, cs => match P.underlying t with
    | some .bool => ∃ b, cs = [.bool b]
    | some (.int k) => ∃ x, cs = [.int k x] ∧ k.min ≤ x ∧ x ≤ k.max
    | some .string => ∃ s, cs = [.string s]
    | some (.struct fs) => GoodL (GoodD P n) (fs.toList.map (·.type)) cs
    | some (.slice e) => ∃ len ds, cs = [.iface (len + 1) (.agg ⟨ds⟩)] ∧ ds.length = len * P.cellsOf e ∧ len ≤ maxLen ∧ GoodL (GoodD P n) (List.replicate len e) ds
    | _ => False
/-- Plain cells, whose lists lie in blocks, and the lists within these are said by their values. -/
def Good2 (P : Program) (H : Heap) : Nat → TypeId → List Value → Prop
  | 0, _, _ => False
  | n + 1, t, cs => match P.underlying t with
    | some .bool => ∃ b, cs = [.bool b]
    | some (.int k) => ∃ x, cs = [.int k x] ∧ k.min ≤ x ∧ x ≤ k.max
    | some .string => ∃ s, cs = [.string s]
    | some (.struct fs) => GoodL (Good2 P H n) (fs.toList.map (·.type)) cs
    | some (.slice e) => cs = [.slice none 0 0] ∨ cs = [.slice (some ⟨0, 0, some 0⟩) 0 0] ∨
        ∃ id len ds, cs = [.slice (some ⟨id, 0, none⟩) len len] ∧ H[id]? = some (.cells false 0 ds) ∧ ds.length = len * P.cellsOf e ∧ len ≤ maxLen ∧ GoodL (GoodD P n) (List.replicate len e) ds
    | _ => False
theorem Good2.mono {H K : Heap} : ∀ {n : Nat} {t : TypeId} {cs : List Value}, Good2 P H n t cs → Good2 P (H ++ K) n t cs := by
  intro n
  induction n with
  | zero => intro t cs h; exact h
  | succ n ih =>
    intro t cs h
    unfold Good2 at h ⊢
    split at h
    · exact h
    · exact h
    · exact h
    · exact GoodL.mono (fun _ _ => ih) h
    · rcases h with h | h | ⟨id, len, cs', h1, h2, h3, h4, h5⟩
      · exact .inl h
      · exact .inr (.inl h)
      · exact .inr (.inr ⟨id, len, cs', h1, by rw [List.getElem?_append_left (List.getElem?_eq_some_iff.1 h2).1]; exact h2, h3, h4, h5⟩)
    · exact h
/-- Nobody writes below B: what lies there is known. -/
def Low (B : Nat) (ρ : Ren) (W : World) : Prop := (∀ b m ty fz, b < B → W.heap[b]? = some (.cells m ty fz) → ρ.mem b = some m) ∧ ∀ id r, ρ id = some r → r.b < B

theorem deepenL {B : Nat} {ρ : Ren} {H : Heap} {W : World} {n : Nat} (IH : ∀ (t : TypeId) (cs cs' : List Value), Good P H n t cs → VRl ρ cs cs' → ∃ ds, VRl ρ ds cs' ∧ GoodD P n t ds) :
    ∀ (ts : List TypeId) (cs cs' : List Value), GoodL (Good P H n) ts cs → VRl ρ cs cs' → ∃ ds, VRl ρ ds cs' ∧ GoodL (GoodD P n) ts ds := by
  intro ts
  induction ts with
  | nil => intro cs cs' h hv; rw [show cs = [] from h] at hv; exact ⟨[], hv, rfl⟩
  | cons t ts ih =>
    rintro cs cs' ⟨c, rest, rfl, h1, h2⟩ hv
    have hl : (c ++ rest).length = cs'.length := hv.1
    rw [List.length_append] at hl
    have v1 : VRl ρ c (cs'.take c.length) := ⟨by rw [List.length_take]; omega, fun i v v' a b => by
      have hi := (List.getElem?_eq_some_iff.1 a).1
      rw [List.getElem?_take, if_pos hi] at b
      exact hv.2 i v v' (by rw [List.getElem?_append_left hi]; exact a) b⟩
    have v2 : VRl ρ rest (cs'.drop c.length) := ⟨by rw [List.length_drop]; omega, fun i v v' a b => by
      rw [List.getElem?_drop] at b
      exact hv.2 (c.length + i) v v' (by rw [List.getElem?_append_right (by omega), Nat.add_sub_cancel_left]; exact a) b⟩
    obtain ⟨d1, w1, g1⟩ := IH t c _ h1 v1
    obtain ⟨d2, w2, g2⟩ := ih rest _ h2 v2
    refine ⟨d1 ++ d2, ?_, d1, d2, rfl, g1, g2⟩
    have := VRl.append w1 w2
    rw [List.take_append_drop] at this
    exact this
theorem row_reals {ρ : Ren} {r : RI} {cs : List Value} {W : World} (h : ObjRel ρ r (.cells false 0 cs) W) : ∃ m ty fz, W.heap[r.b]? = some (.cells m ty fz) ∧ (cs.length = 0 ∨ cs.length + r.s ≤ m.size) ∧ VRl ρ cs ((m.toList.drop r.s).take cs.length) ∧ m.size = r.n := by
  obtain ⟨_, _, m, ty, fz, hb, hsz, _, hcs⟩ := h
  have hle : cs.length = 0 ∨ cs.length + r.s ≤ m.size := by
    rcases Nat.eq_zero_or_pos cs.length with h0 | h0
    · exact .inl h0
    · right
      obtain ⟨v', g1, _⟩ := hcs (cs.length - 1) _ (List.getElem?_eq_getElem (by omega))
      have := (Array.getElem?_eq_some_iff.1 g1).1
      omega
  refine ⟨m, ty, fz, hb, hle, ⟨?_, fun i v v' a b => ?_⟩, hsz⟩
  · have e : m.toList.length = m.size := Array.length_toList
    rw [List.length_take, List.length_drop, e]
    rcases hle with h | h <;> omega
  · obtain ⟨v2, g1, g2⟩ := hcs i v a
    have hi := (List.getElem?_eq_some_iff.1 a).1
    rw [List.getElem?_take, if_pos hi, List.getElem?_drop, Array.getElem?_toList, Nat.add_comm, g1] at b
    cases b; exact g2
theorem deepen {B : Nat} {ρ : Ren} {H : Heap} {W : World} (hr : Rel P B ρ H W) (hlow : Low B ρ W) : ∀ (n : Nat) (t : TypeId) (cs cs' : List Value), Good P H n t cs → VRl ρ cs cs' → ∃ ds, VRl ρ ds cs' ∧ GoodD P n t ds := by
  intro n
  induction n with
  | zero => intro t cs cs' h; exact h.elim
  | succ n ih =>
    intro t cs cs' h hv
    have single : ∀ v, cs = [v] → ∃ x, cs' = [x] ∧ VR ρ v x := by
      rintro v rfl
      have hl : cs'.length = 1 := hv.1.symm
      obtain ⟨x, rfl⟩ := List.length_eq_one_iff.1 hl
      exact ⟨x, rfl, hv.2 0 v x rfl rfl⟩
    unfold Good at h
    split at h
    · rename_i hu; exact ⟨cs, hv, by unfold GoodD; rw [hu]; exact h⟩
    · rename_i k hu; exact ⟨cs, hv, by unfold GoodD; rw [hu]; exact h⟩
    · rename_i hu; exact ⟨cs, hv, by unfold GoodD; rw [hu]; exact h⟩
    · rename_i fs hu
      obtain ⟨ds, w, g⟩ := deepenL (B := B) (W := W) ih _ cs cs' h hv
      exact ⟨ds, w, by unfold GoodD; rw [hu]; exact g⟩
    · rename_i e hu
      have nilD : ∀ x, (∃ a c, x = .slice a 0 c) → ∃ ds, VRl ρ ds [x] ∧ GoodD P (n + 1) t ds := by
        rintro x ⟨a, c, rfl⟩
        refine ⟨[.iface 1 (.agg ⟨[]⟩)], .cons .deep0 (.nil ρ), ?_⟩
        unfold GoodD
        rw [hu]
        exact ⟨0, [], rfl, by simp, by simp [maxLen], rfl⟩
      rcases h with h | h | ⟨id, len, csi, h1, h2, h3, h4, h5⟩
      · obtain ⟨x, rfl, hx⟩ := single _ h
        cases hx; exact nilD _ ⟨_, _, rfl⟩
      · obtain ⟨x, rfl, hx⟩ := single _ h
        refine nilD _ ?_
        generalize hz : (Value.slice (some ⟨0, 0, some 0⟩) 0 0) = z at hx
        cases hx <;> cases hz
        exact ⟨_, _, rfl⟩
      · obtain ⟨x, rfl, hx⟩ := single _ h1
        rcases Nat.eq_zero_or_pos len with h0 | h0
        · subst h0
          refine nilD _ ?_
          cases hx with
          | slice h hl hc _ => exact ⟨_, _, rfl⟩
          | slice0 h => exact ⟨_, _, rfl⟩
        · obtain ⟨r, cap', hid, hc, rfl⟩ : ∃ r cap', ρ id = some r ∧ len ≤ cap' ∧ x = .slice (some ⟨r.b, 0 + r.s, none⟩) len cap' := by
            generalize hz : (Value.slice (some ⟨id, 0, none⟩) len len) = z at hx
            cases hx <;> cases hz
            · exact ⟨_, _, ‹_›, by omega, rfl⟩
            · exact absurd h0 (Nat.lt_irrefl 0)
          obtain ⟨m, ty, fz, hb, hle, hvr, _⟩ := row_reals (hr.obj id r _ hid h2)
          have hm := hlow.1 r.b m ty fz (hlow.2 id r hid) hb
          obtain ⟨ds, w, g⟩ := deepenL (B := B) (W := W) ih _ csi _ h5 hvr
          have hdl : ds.length = csi.length := by
            have e1 := w.1
            have e2 := hvr.1
            omega
          refine ⟨[.iface (len + 1) (.agg ⟨ds⟩)], .cons ?_ (.nil ρ), ?_⟩
          · rw [Nat.zero_add]
            refine .deep hm h0 hc (by show ds.length = 0 ∨ ds.length + r.s ≤ m.size; rw [hdl]; exact hle) (fun i v v' a b => ?_)
            have hi : i < ds.length := by have := (Array.getElem?_eq_some_iff.1 a).1; simpa using this
            refine w.2 i v v' (by simpa using a) ?_
            rw [List.getElem?_take, if_pos (by omega), List.getElem?_drop, Array.getElem?_toList, Nat.add_comm]; exact b
          · unfold GoodD
            rw [hu]
            exact ⟨len, ds, rfl, by rw [hdl]; exact h3, h4, g⟩
    · exact h.elim
theorem Low.set {B : Nat} {ρ : Ren} {W : World} (h : Low B ρ W) {id : Nat} {ri : RI} (hb : ri.b < B) : Low B (ρ.set id ri) W := by
  refine ⟨h.1, fun i r hi => ?_⟩
  by_cases e : i = id
  · subst e; rw [Ren.set_same] at hi; cases hi; exact hb
  · rw [Ren.set_other e] at hi; exact h.2 i r hi
def GoodV2 (P : Program) (H : Heap) (n : Nat) (t : TypeId) (v : Value) : Prop :=
  match P.underlying t with
  | some (.struct _) => ∃ cs : List Value, v = .agg ⟨cs⟩ ∧ Good2 P H n t cs
  | _ => Good2 P H n t [v]
theorem GoodV2.mono {H K : Heap} {n : Nat} {t : TypeId} {v : Value} (h : GoodV2 P H n t v) : GoodV2 P (H ++ K) n t v := by
  unfold GoodV2 at h ⊢
  split at h
  · obtain ⟨cs, h1, h2⟩ := h; exact ⟨cs, h1, h2.mono⟩
  · exact h.mono
end Go.K
/- Laws whose arguments are said by their values. No condition. -/
namespace Go.K
set_option linter.unusedSimpArgs false
open Go Go.ChangeShapes Go.WideShapes Go.ChangeAt Go.RowKit
set_option linter.unusedVariables false
variable {P : Program} {HH : Type} {enc : TypeId × Value → HH}

def GoodVD (P : Program) (n : Nat) (t : TypeId) (v : Value) : Prop :=
  match P.underlying t with
  | some (.struct _) => ∃ cs : List Value, v = .agg ⟨cs⟩ ∧ GoodD P n t cs
  | _ => GoodD P n t [v]
def GoodAD (P : Program) (n : Nat) : List TypeId → List Value → Prop
  | [], [] => True
  | t :: ts, v :: vs => GoodVD P n t v ∧ GoodAD P n ts vs
  | _, _ => False
theorem bringVD {B : Nat} {W : World} {n : Nat} {t : TypeId} {v v' : Value} {ρ : Ren} {H : Heap} (h : GoodV P H n t v) (hv : VR ρ v v') (hr : Rel P B ρ H W) (hlow : Low B ρ W) : ∃ v2, VR ρ v2 v' ∧ GoodVD P n t v2 := by
  unfold GoodV at h
  split at h
  · rename_i fs hu
    obtain ⟨cs, rfl, h⟩ := h
    cases hv with
    | @agg _ cs' h1 h2 =>
      obtain ⟨ds, w, g⟩ := deepen hr hlow n t cs cs'.toList h ⟨by simpa using h1, fun i a b c d => h2 i a b (by simpa using c) (by simpa using d)⟩
      refine ⟨.agg ⟨ds⟩, .agg (by have := w.1; simpa using this) (fun i a b c d => w.2 i a b (by simpa using c) (by simpa using d)), ?_⟩
      unfold GoodVD; rw [hu]; exact ⟨ds, rfl, g⟩
  · rename_i hns
    obtain ⟨ds, w, g⟩ := deepen hr hlow n t [v] [v'] h (.cons hv (.nil ρ))
    have hl : ds.length = 1 := w.1
    obtain ⟨v2, rfl⟩ := List.length_eq_one_iff.1 hl
    refine ⟨v2, w.2 0 v2 v' rfl rfl, ?_⟩
    unfold GoodVD
    split
    · rename_i fs hu; exact absurd hu (hns fs)
    · exact g
theorem bringAD {B : Nat} {W : World} {n : Nat} {ρ : Ren} {H : Heap} (hr : Rel P B ρ H W) (hlow : Low B ρ W) : ∀ (ts : List TypeId) (vs vs' : List Value), GoodA P H n ts vs → VRl ρ vs vs' → ∃ ws, VRl ρ ws vs' ∧ GoodAD P n ts ws := by
  intro ts
  induction ts with
  | nil =>
    intro vs vs' h hv
    match vs, h with
    | [], _ => exact ⟨[], hv, trivial⟩
  | cons t ts ih =>
    intro vs vs' h hv
    match vs, h with
    | v :: vs, ⟨h1, h2⟩ =>
      match vs', hv with
      | [], hv => exact absurd hv.1 (by simp)
      | v' :: vs', hv =>
        obtain ⟨w1, r1, g1⟩ := bringVD h1 (hv.2 0 v v' rfl rfl) hr hlow
        obtain ⟨ws, r2, g2⟩ := ih vs vs' h2 (show VRl ρ vs vs' from ⟨by have := hv.1; simpa using this, fun i a b c d => hv.2 (i + 1) a b (by simpa using c) (by simpa using d)⟩)
        exact ⟨w1 :: ws, .cons r1 r2, g1, g2⟩
/-- A law's contract in the canonical heap is its contract in every world; arguments are said by their values. -/
theorem law_calls3 {N n b0 : Nat} {ts : List TypeId} {args : Array Value} {W : World} {ds : List (DataW HH)} {ps : List MemPlace} {held : Bool} (hG : P.globals.size ≤ W.heap.size) (hplain : ts.all (plainT P n) = true)
    (hok : ∀ (j : Nat) (t : TypeId) (v : Value), ts[j]? = some t → args.toList[j]? = some v → Value.okWide P W .any b0 t v) (h : DataW.TrodAll enc P W 0 (fun _ => true) held ts args.toList ds ps)
    (hlaw : ∀ (H : Heap) (vs : List Value), GoodAD P n ts vs → KCall P N vs H [] (fun v _ => v = .bool true)) :
    Calls P N args W fun e W' => e = .returned (.bool true) ∧ RowKit.Below W.heap.size W W' := by
  have hr : Rel P W.heap.size ⟨fun g => if g < P.globals.size then some ⟨g, 0, 0, 0, false⟩ else none, fun b => match W.heap[b]? with | some (.cells m _ _) => some m | _ => none, fun _ _ => none⟩ (List.replicate P.globals.size .dead) W := by
    have hdead : ∀ (id : Nat) (o : KObj), (List.replicate P.globals.size KObj.dead)[id]? = some o → o = .dead := fun id o ho => by
      rw [List.getElem?_replicate] at ho
      split at ho
      · cases ho; rfl
      · cases ho
    refine ⟨Nat.le_refl _, fun g hg => ⟨_, if_pos hg, rfl, rfl⟩, fun id r h1 => ?_, fun id r h1 => ?_, fun id r o h1 h2 => ?_, fun id r o h1 h2 h3 => ?_, fun id id' r r' o o' h1 h1' h2 h2' h3 _ _ => ?_, fun b m hm => ⟨?_, fun id r o h1 h2 h3 => ?_⟩, FRel.nofam (fun _ _ _ h => by cases h) (fun _ _ _ h => by cases h) (fun F z cs h => by have := hdead F _ h; cases this)⟩
    · dsimp only at h1
      split at h1
      · simpa using ‹id < _›
      · cases h1
    · dsimp only at h1
      split at h1
      · cases h1; exact Nat.lt_of_lt_of_le ‹id < _› hG
      · cases h1
    · rw [hdead id o h2]; trivial
    · rw [hdead id o h2] at h3; cases h3
    · rw [hdead id o h2] at h3; cases h3
    · dsimp only at hm
      split at hm
      · rename_i m' ty fz e; cases hm; exact ⟨ty, fz, e⟩
      · cases hm
    · rw [hdead id o h2] at h3; cases h3
  have hlow0 : Low W.heap.size ⟨fun g => if g < P.globals.size then some ⟨g, 0, 0, 0, false⟩ else none, fun b => match W.heap[b]? with | some (.cells m _ _) => some m | _ => none, fun _ _ => none⟩ W := by
    refine ⟨fun b m ty fz _ hb => by show (match W.heap[b]? with | some (.cells m _ _) => some m | _ => none) = _; rw [hb], fun id r h1 => ?_⟩
    dsimp only at h1
    split at h1
    · cases h1; exact Nat.lt_of_lt_of_le ‹id < _› hG
    · cases h1
  obtain ⟨ρ', H', vs', e, hv, g⟩ := bring_args rfl ts args.toList ds ps _ _ hplain hok h hr
  have hlow1 : Low W.heap.size ρ' W := ⟨fun b m ty fz h1 h2 => e.le.mem b m (hlow0.1 b m ty fz h1 h2), fun id r h1 => e.rel.lt id r h1⟩
  obtain ⟨ws, hv2, g2⟩ := bringAD e.rel hlow1 ts vs' args.toList g hv
  refine callsIn_wide.1 (((hlaw H' ws g2).2 _ ρ' W args e.rel hv2).mono ?_)
  rintro en w' ⟨v, v', ρ3, H3, rfl, h1, h2, rfl⟩
  cases h1
  exact ⟨rfl, h2.below e.rel⟩
end Go.K
/- How laws' numbers are read. No condition. -/
namespace Go.Proofs.Ytkkgnalgmebfjaa
set_option linter.unusedSimpArgs false
open Go Go.K Go.ChangeShapes Go.WideShapes Go.ChangeAt Go.RowKit
set_option maxRecDepth 100000
set_option linter.unusedVariables false
noncomputable section
theorem goodAD_cons {n : Nat} {t : TypeId} {ts : List TypeId} {vs : List Value} (h : GoodAD Try.prog n (t :: ts) vs) : ∃ v vs', vs = v :: vs' ∧ GoodVD Try.prog n t v ∧ GoodAD Try.prog n ts vs' := by
  cases vs with
  | nil => exact h.elim
  | cons v vs => exact ⟨v, vs, rfl, h.1, h.2⟩
theorem goodAD_nil {n : Nat} {vs : List Value} (h : GoodAD Try.prog n [] vs) : vs = [] := by
  cases vs with
  | nil => rfl
  | cons v vs => exact h.elim
theorem goodD_i64 {n : Nat} {c : List Value} (h : GoodD Try.prog (n + 1) 3 c) : ∃ x : Int, c = [.int .i64 x] ∧ inI x := by
  unfold GoodD at h
  rw [show Try.prog.underlying 3 = some (.int .i64) by kernel_rfl] at h
  obtain ⟨x, rfl, h1, h2⟩ := h
  refine ⟨x, rfl, ?_⟩
  simp only [IntKind.min, IntKind.max, IntKind.signed, IntKind.bits] at h1 h2
  unfold inI
  simp at h1 h2
  omega
theorem goodD_int {v : Value} (h : GoodVD Try.prog 6 3 v) : ∃ x : Int, v = .int .i64 x ∧ inI x := by
  unfold GoodVD at h
  rw [show Try.prog.underlying 3 = some (.int .i64) by kernel_rfl] at h
  obtain ⟨x, h1, h2⟩ := goodD_i64 h
  exact ⟨x, by simpa using h1, h2⟩
/-- A list of numbers. -/
theorem goodD_ints {v : Value} (h : GoodVD Try.prog 6 22 v) : ∃ L : List Int, v = .iface (L.length + 1) (.agg ⟨L.flatMap intC⟩) ∧ L.length ≤ maxLen ∧ ∀ x ∈ L, inI x := by
  unfold GoodVD at h
  rw [show Try.prog.underlying 22 = some (.slice 3) by kernel_rfl] at h
  unfold GoodD at h
  rw [show Try.prog.underlying 22 = some (.slice 3) by kernel_rfl] at h
  obtain ⟨len, ds, h1, h2, h3, h4⟩ := h
  obtain ⟨xs, e1, e2, e3⟩ := goodL_list (f := intC) (q := inI) (fun c hc => goodD_i64 (n := 4) hc) len ds h4
  subst e1 e2
  exact ⟨xs, by simpa using h1, h3, e3⟩
end
end Go.Proofs.Ytkkgnalgmebfjaa
