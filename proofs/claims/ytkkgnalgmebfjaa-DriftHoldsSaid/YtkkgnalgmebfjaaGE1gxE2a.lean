/- What is to be shown of functions. Printed by a program. No condition. -/
import Derived.Test.YtkkgnalgmebfjaaGD5xE1a
namespace Go.Proofs.Ytkkgnalgmebfjaa
set_option linter.unusedSimpArgs false
open Go Go.K
set_option maxRecDepth 100000
set_option maxHeartbeats 4000000
set_option linter.unusedVariables false
noncomputable section
def Rdin (sp : Value) (n lo hi : Int) : Prop :=
  (((decide ((lo : Int) ≤ n)) = true → (.bool (decide ((n : Int) ≤ hi)) : Value) = sp) ∧ ((decide ((lo : Int) ≤ n)) = false → (.bool false : Value) = sp))
theorem Edin (sp : Value) (n lo hi : Int) : vF prog msk (dm 0) 100000 true 40 true 60 [nI n, nI lo, nI hi] ⟨0, .leaf⟩ (some [])
  (.go 4 (.gfork (.auto) (.auto)))
  (fun v _ _ => v = sp) = Rdin sp n lo hi := by kernel_rfl
def RDrift (w h : Int) (a : List Bool) (l : List Flow) (xs : List Ice) (ms : List Move) : Prop :=
  (((someR (.cells false 0 (a.flatMap boolC))) ∧ (someR (.cells false 0 (l.flatMap flowC))) ∧ True) ∧ (∀ H' : Heap, H'.length = 5 → (H'[0]? = some (.cells false 0 (a.flatMap boolC) : KObj) ∧ H'[1]? = some (.cells false 0 (l.flatMap flowC) : KObj) ∧ True) → KCall prog 22 [.agg #[nI w, nI h, slQ 0 2 a.length], slQ 1 2 l.length] H' [] (Is (nI (errFlows w h a.length l)) H')) ∧ (((((errFlows w h a.length l) : Int) != 0) = true → (true = true ∧ wk (.tuple #[.slice none 0 0, .slice none 0 0, nI (errFlows w h a.length l)] : Value) (rn (sg 4 []) 3 (.tuple #[slQ 4 1 (List.length (fDrift w h a l xs ms).1), slQ 5 1 (List.length (fDrift w h a l xs ms).2.1), nI (fDrift w h a l xs ms).2.2] : Value)) ∧ (True ∧ True ∧ True))) ∧ ((((errFlows w h a.length l) : Int) != 0) = false → ((((((xs.length : Nat) : Int) : Int) != ((l.length : Nat) : Int)) = true → (true = true ∧ wk (.tuple #[.slice none 0 0, .slice none 0 0, nI 1] : Value) (rn (sg 4 []) 3 (.tuple #[slQ 4 1 (List.length (fDrift w h a l xs ms).1), slQ 5 1 (List.length (fDrift w h a l xs ms).2.1), nI (fDrift w h a l xs ms).2.2] : Value)) ∧ (True ∧ True ∧ True))) ∧ (((((xs.length : Nat) : Int) : Int) != ((l.length : Nat) : Int)) = false → ((((((ms.length : Nat) : Int) : Int) != ((l.length : Nat) : Int)) = true → (true = true ∧ wk (.tuple #[.slice none 0 0, .slice none 0 0, nI 1] : Value) (rn (sg 4 []) 3 (.tuple #[slQ 4 1 (List.length (fDrift w h a l xs ms).1), slQ 5 1 (List.length (fDrift w h a l xs ms).2.1), nI (fDrift w h a l xs ms).2.2] : Value)) ∧ (True ∧ True ∧ True))) ∧ (((((ms.length : Nat) : Int) : Int) != ((l.length : Nat) : Int)) = false → (true = true ∧ (0 ≤ List.length xs ∧ errUp (mvErr a l xs ms) 0 = 0) ∧ (true = true ∧ ((nI 0 : Value) = nI ((0 : Nat) : Int) ∧ wkR (slQ 3 2 ms.length) ∧ wkR (slQ 2 2 xs.length) ∧ wkR (slQ 1 2 l.length) ∧ (.pointer (some ⟨4, 0, none⟩) : Value) = .pointer (some ⟨4, 0, none⟩) ∧ wkR (slQ 2 2 xs.length) ∧ (nI ((xs.length : Nat) : Int) : Value) = nI ((xs.length : Nat) : Int) ∧ True) ∧ ((keptR 5 (.cells true 0 [nI w, nI h, slQ 0 2 a.length])) ∧ True) ∧ (True) ∧ (True)) ∧ (∀ x1 : Nat, true = true) ∧ ∀ x1 : Nat, (x1 ≤ List.length xs ∧ errUp (mvErr a l xs ms) x1 = 0) → (((decide (((x1 : Int) : Int) < ((xs.length : Nat) : Int))) = true → (((0 : Int) ≤ (x1 : Int) ∧ ((x1 : Int) : Int) < ((xs.length : Nat) : Int)) ∧ ((partA 4 (xs.flatMap iceC) (0 + Int.toNat (x1 : Int) * 4) = some (.agg #[nI (xs.getD x1 zeroI).conc, nI (xs.getD x1 zeroI).thick, nI (xs.getD x1 zeroI).ridge, nI (xs.getD x1 zeroI).press])) ∧ (((0 : Int) ≤ (x1 : Int) ∧ ((x1 : Int) : Int) < ((l.length : Nat) : Int)) ∧ ((partA 4 (l.flatMap flowC) (0 + Int.toNat (x1 : Int) * 4) = some (.agg #[nI (l.getD x1 zeroF).x.lo, nI (l.getD x1 zeroF).x.hi, nI (l.getD x1 zeroF).y.lo, nI (l.getD x1 zeroF).y.hi])) ∧ ((True) ∧ (∀ H' : Heap, H'.length = 6 → (True) → KCall prog 58 [.agg #[nI (l.getD x1 zeroF).x.lo, nI (l.getD x1 zeroF).x.hi, nI (l.getD x1 zeroF).y.lo, nI (l.getD x1 zeroF).y.hi]] H' [] (Is (.tuple #[.agg #[nI (endA (l.getD x1 zeroF)).dx, nI (endA (l.getD x1 zeroF)).dy], .agg #[nI (endZ (l.getD x1 zeroF)).dx, nI (endZ (l.getD x1 zeroF)).dy]]) H')) ∧ ((True) ∧ (∀ H' : Heap, H'.length = 8 → (True) → KCall prog 59 [.agg #[nI (xs.getD x1 zeroI).conc, nI (xs.getD x1 zeroI).thick, nI (xs.getD x1 zeroI).ridge, nI (xs.getD x1 zeroI).press]] H' [] (Is (nI (errIce (xs.getD x1 zeroI))) H')) ∧ (((((errIce (xs.getD x1 zeroI)) : Int) != 0) = true → (true = true ∧ wk (.tuple #[.slice none 0 0, .slice none 0 0, nI (errIce (xs.getD x1 zeroI))] : Value) (rn (sg 4 []) 3 (.tuple #[slQ 4 1 (List.length (fDrift w h a l xs ms).1), slQ 5 1 (List.length (fDrift w h a l xs ms).2.1), nI (fDrift w h a l xs ms).2.2] : Value)) ∧ (True ∧ True ∧ True))) ∧ ((((errIce (xs.getD x1 zeroI)) : Int) != 0) = false → (((0 : Int) ≤ (x1 : Int) ∧ ((x1 : Int) : Int) < ((a.length : Nat) : Int)) ∧ (((a.flatMap boolC)[(0 + Int.toNat (x1 : Int) * 1)]? = some (.bool (a.getD x1 false))) ∧ (((a.getD x1 false) = true → (((!((((xs.getD x1 zeroI).conc : Int) == 0) && ((((xs.getD x1 zeroI).thick : Int) == 0) && ((((xs.getD x1 zeroI).ridge : Int) == 0) && ((((xs.getD x1 zeroI).press : Int) == 0) && true))))) = true → (true = true ∧ wk (.tuple #[.slice none 0 0, .slice none 0 0, nI 30] : Value) (rn (sg 4 []) 3 (.tuple #[slQ 4 1 (List.length (fDrift w h a l xs ms).1), slQ 5 1 (List.length (fDrift w h a l xs ms).2.1), nI (fDrift w h a l xs ms).2.2] : Value)) ∧ (True ∧ True ∧ True))) ∧ ((!((((xs.getD x1 zeroI).conc : Int) == 0) && ((((xs.getD x1 zeroI).thick : Int) == 0) && ((((xs.getD x1 zeroI).ridge : Int) == 0) && ((((xs.getD x1 zeroI).press : Int) == 0) && true))))) = false → (((0 : Int) ≤ (x1 : Int) ∧ ((x1 : Int) : Int) < ((a.length : Nat) : Int)) ∧ (((a.flatMap boolC)[(0 + Int.toNat (x1 : Int) * 1)]? = some (.bool (a.getD x1 false))) ∧ (((!(a.getD x1 false)) = true → (((0 : Int) ≤ (x1 : Int) ∧ ((x1 : Int) : Int) < ((ms.length : Nat) : Int)) ∧ (((ms.flatMap moveC)[((0 + Int.toNat (x1 : Int) * 2) + 0)]? = some (nI (ms.getD x1 zeroM).dx)) ∧ ((True) ∧ (∀ H' : Heap, H'.length = 8 → (True) → KCall prog 60 [nI (ms.getD x1 zeroM).dx, nI (endA (l.getD x1 zeroF)).dx, nI (endZ (l.getD x1 zeroF)).dx] H' [] (Is (.bool ((decide (((endA (l.getD x1 zeroF)).dx : Int) ≤ (ms.getD x1 zeroM).dx)) && (decide (((ms.getD x1 zeroM).dx : Int) ≤ (endZ (l.getD x1 zeroF)).dx)))) H')) ∧ (((!((decide (((endA (l.getD x1 zeroF)).dx : Int) ≤ (ms.getD x1 zeroM).dx)) && (decide (((ms.getD x1 zeroM).dx : Int) ≤ (endZ (l.getD x1 zeroF)).dx)))) = true → (true = true ∧ wk (.tuple #[.slice none 0 0, .slice none 0 0, nI 30] : Value) (rn (sg 4 []) 3 (.tuple #[slQ 4 1 (List.length (fDrift w h a l xs ms).1), slQ 5 1 (List.length (fDrift w h a l xs ms).2.1), nI (fDrift w h a l xs ms).2.2] : Value)) ∧ (True ∧ True ∧ True))) ∧ ((!((decide (((endA (l.getD x1 zeroF)).dx : Int) ≤ (ms.getD x1 zeroM).dx)) && (decide (((ms.getD x1 zeroM).dx : Int) ≤ (endZ (l.getD x1 zeroF)).dx)))) = false → (((0 : Int) ≤ (x1 : Int) ∧ ((x1 : Int) : Int) < ((ms.length : Nat) : Int)) ∧ (((ms.flatMap moveC)[((0 + Int.toNat (x1 : Int) * 2) + 1)]? = some (nI (ms.getD x1 zeroM).dy)) ∧ ((True) ∧ (∀ H' : Heap, H'.length = 8 → (True) → KCall prog 60 [nI (ms.getD x1 zeroM).dy, nI (endA (l.getD x1 zeroF)).dy, nI (endZ (l.getD x1 zeroF)).dy] H' [] (Is (.bool ((decide (((endA (l.getD x1 zeroF)).dy : Int) ≤ (ms.getD x1 zeroM).dy)) && (decide (((ms.getD x1 zeroM).dy : Int) ≤ (endZ (l.getD x1 zeroF)).dy)))) H')) ∧ (((!((decide (((endA (l.getD x1 zeroF)).dy : Int) ≤ (ms.getD x1 zeroM).dy)) && (decide (((ms.getD x1 zeroM).dy : Int) ≤ (endZ (l.getD x1 zeroF)).dy)))) = true → (true = true ∧ wk (.tuple #[.slice none 0 0, .slice none 0 0, nI 30] : Value) (rn (sg 4 []) 3 (.tuple #[slQ 4 1 (List.length (fDrift w h a l xs ms).1), slQ 5 1 (List.length (fDrift w h a l xs ms).2.1), nI (fDrift w h a l xs ms).2.2] : Value)) ∧ (True ∧ True ∧ True))) ∧ ((!((decide (((endA (l.getD x1 zeroF)).dy : Int) ≤ (ms.getD x1 zeroM).dy)) && (decide (((ms.getD x1 zeroM).dy : Int) ≤ (endZ (l.getD x1 zeroF)).dy)))) = false → ((nI (IntKind.wrap .i64 ((x1 : Int) + 1)) : Value) = nI ((x1 : Int) + 1) ∧ (∃ x1' : Nat, (x1' ≤ List.length xs ∧ errUp (mvErr a l xs ms) x1' = 0) ∧ (List.length xs - x1') < (List.length xs - x1) ∧ true = true ∧ ((nI ((x1 : Int) + 1) : Value) = nI (x1' : Int) ∧ wkR (slQ 3 2 ms.length) ∧ wkR (slQ 2 2 xs.length) ∧ wkR (slQ 1 2 l.length) ∧ (.pointer (some ⟨4, 0, none⟩) : Value) = .pointer (some ⟨4, 0, none⟩) ∧ wkR (slQ 2 2 xs.length) ∧ (nI ((xs.length : Nat) : Int) : Value) = nI ((xs.length : Nat) : Int) ∧ True) ∧ ((keptR 5 (.cells true 0 [nI w, nI h, slQ 0 2 a.length])) ∧ True) ∧ (True) ∧ (True)))))))))))))) ∧ ((!(a.getD x1 false)) = false → ((nI (IntKind.wrap .i64 ((x1 : Int) + 1)) : Value) = nI ((x1 : Int) + 1) ∧ (∃ x1' : Nat, (x1' ≤ List.length xs ∧ errUp (mvErr a l xs ms) x1' = 0) ∧ (List.length xs - x1') < (List.length xs - x1) ∧ true = true ∧ ((nI ((x1 : Int) + 1) : Value) = nI (x1' : Int) ∧ wkR (slQ 3 2 ms.length) ∧ wkR (slQ 2 2 xs.length) ∧ wkR (slQ 1 2 l.length) ∧ (.pointer (some ⟨4, 0, none⟩) : Value) = .pointer (some ⟨4, 0, none⟩) ∧ wkR (slQ 2 2 xs.length) ∧ (nI ((xs.length : Nat) : Int) : Value) = nI ((xs.length : Nat) : Int) ∧ True) ∧ ((keptR 5 (.cells true 0 [nI w, nI h, slQ 0 2 a.length])) ∧ True) ∧ (True) ∧ (True)))))))))) ∧ ((a.getD x1 false) = false → (((0 : Int) ≤ (x1 : Int) ∧ ((x1 : Int) : Int) < ((a.length : Nat) : Int)) ∧ (((a.flatMap boolC)[(0 + Int.toNat (x1 : Int) * 1)]? = some (.bool (a.getD x1 false))) ∧ (((!(a.getD x1 false)) = true → (((0 : Int) ≤ (x1 : Int) ∧ ((x1 : Int) : Int) < ((ms.length : Nat) : Int)) ∧ (((ms.flatMap moveC)[((0 + Int.toNat (x1 : Int) * 2) + 0)]? = some (nI (ms.getD x1 zeroM).dx)) ∧ ((True) ∧ (∀ H' : Heap, H'.length = 8 → (True) → KCall prog 60 [nI (ms.getD x1 zeroM).dx, nI (endA (l.getD x1 zeroF)).dx, nI (endZ (l.getD x1 zeroF)).dx] H' [] (Is (.bool ((decide (((endA (l.getD x1 zeroF)).dx : Int) ≤ (ms.getD x1 zeroM).dx)) && (decide (((ms.getD x1 zeroM).dx : Int) ≤ (endZ (l.getD x1 zeroF)).dx)))) H')) ∧ (((!((decide (((endA (l.getD x1 zeroF)).dx : Int) ≤ (ms.getD x1 zeroM).dx)) && (decide (((ms.getD x1 zeroM).dx : Int) ≤ (endZ (l.getD x1 zeroF)).dx)))) = true → (true = true ∧ wk (.tuple #[.slice none 0 0, .slice none 0 0, nI 30] : Value) (rn (sg 4 []) 3 (.tuple #[slQ 4 1 (List.length (fDrift w h a l xs ms).1), slQ 5 1 (List.length (fDrift w h a l xs ms).2.1), nI (fDrift w h a l xs ms).2.2] : Value)) ∧ (True ∧ True ∧ True))) ∧ ((!((decide (((endA (l.getD x1 zeroF)).dx : Int) ≤ (ms.getD x1 zeroM).dx)) && (decide (((ms.getD x1 zeroM).dx : Int) ≤ (endZ (l.getD x1 zeroF)).dx)))) = false → (((0 : Int) ≤ (x1 : Int) ∧ ((x1 : Int) : Int) < ((ms.length : Nat) : Int)) ∧ (((ms.flatMap moveC)[((0 + Int.toNat (x1 : Int) * 2) + 1)]? = some (nI (ms.getD x1 zeroM).dy)) ∧ ((True) ∧ (∀ H' : Heap, H'.length = 8 → (True) → KCall prog 60 [nI (ms.getD x1 zeroM).dy, nI (endA (l.getD x1 zeroF)).dy, nI (endZ (l.getD x1 zeroF)).dy] H' [] (Is (.bool ((decide (((endA (l.getD x1 zeroF)).dy : Int) ≤ (ms.getD x1 zeroM).dy)) && (decide (((ms.getD x1 zeroM).dy : Int) ≤ (endZ (l.getD x1 zeroF)).dy)))) H')) ∧ (((!((decide (((endA (l.getD x1 zeroF)).dy : Int) ≤ (ms.getD x1 zeroM).dy)) && (decide (((ms.getD x1 zeroM).dy : Int) ≤ (endZ (l.getD x1 zeroF)).dy)))) = true → (true = true ∧ wk (.tuple #[.slice none 0 0, .slice none 0 0, nI 30] : Value) (rn (sg 4 []) 3 (.tuple #[slQ 4 1 (List.length (fDrift w h a l xs ms).1), slQ 5 1 (List.length (fDrift w h a l xs ms).2.1), nI (fDrift w h a l xs ms).2.2] : Value)) ∧ (True ∧ True ∧ True))) ∧ ((!((decide (((endA (l.getD x1 zeroF)).dy : Int) ≤ (ms.getD x1 zeroM).dy)) && (decide (((ms.getD x1 zeroM).dy : Int) ≤ (endZ (l.getD x1 zeroF)).dy)))) = false → ((nI (IntKind.wrap .i64 ((x1 : Int) + 1)) : Value) = nI ((x1 : Int) + 1) ∧ (∃ x1' : Nat, (x1' ≤ List.length xs ∧ errUp (mvErr a l xs ms) x1' = 0) ∧ (List.length xs - x1') < (List.length xs - x1) ∧ true = true ∧ ((nI ((x1 : Int) + 1) : Value) = nI (x1' : Int) ∧ wkR (slQ 3 2 ms.length) ∧ wkR (slQ 2 2 xs.length) ∧ wkR (slQ 1 2 l.length) ∧ (.pointer (some ⟨4, 0, none⟩) : Value) = .pointer (some ⟨4, 0, none⟩) ∧ wkR (slQ 2 2 xs.length) ∧ (nI ((xs.length : Nat) : Int) : Value) = nI ((xs.length : Nat) : Int) ∧ True) ∧ ((keptR 5 (.cells true 0 [nI w, nI h, slQ 0 2 a.length])) ∧ True) ∧ (True) ∧ (True)))))))))))))) ∧ ((!(a.getD x1 false)) = false → ((nI (IntKind.wrap .i64 ((x1 : Int) + 1)) : Value) = nI ((x1 : Int) + 1) ∧ (∃ x1' : Nat, (x1' ≤ List.length xs ∧ errUp (mvErr a l xs ms) x1' = 0) ∧ (List.length xs - x1') < (List.length xs - x1) ∧ true = true ∧ ((nI ((x1 : Int) + 1) : Value) = nI (x1' : Int) ∧ wkR (slQ 3 2 ms.length) ∧ wkR (slQ 2 2 xs.length) ∧ wkR (slQ 1 2 l.length) ∧ (.pointer (some ⟨4, 0, none⟩) : Value) = .pointer (some ⟨4, 0, none⟩) ∧ wkR (slQ 2 2 xs.length) ∧ (nI ((xs.length : Nat) : Int) : Value) = nI ((xs.length : Nat) : Int) ∧ True) ∧ ((keptR 5 (.cells true 0 [nI w, nI h, slQ 0 2 a.length])) ∧ True) ∧ (True) ∧ (True)))))))))))))))))))) ∧ ((decide (((x1 : Int) : Int) < ((xs.length : Nat) : Int))) = false → (((0 : Int) ≤ ((l.length : Nat) : Int) ∧ (((l.length : Nat) : Int) : Int) ≤ ((l.length : Nat) : Int) ∧ (((l.length : Nat) : Int) : Int) < 2 ^ 62 ∧ 8 * (((l.length : Nat) : Int) : Int) ≤ 2 ^ 48) ∧ (((0 : Int) ≤ ((l.length : Nat) : Int) ∧ (((l.length : Nat) : Int) : Int) ≤ ((l.length : Nat) : Int) ∧ (((l.length : Nat) : Int) : Int) < 2 ^ 62 ∧ 8 * (((l.length : Nat) : Int) : Int) ≤ 2 ^ 48) ∧ (true = true ∧ (0 ≤ List.length l) ∧ (true = true ∧ ((nI 0 : Value) = nI ((0 : Nat) : Int) ∧ wkR (slQ 2 2 xs.length) ∧ wkR (slQ 3 2 ms.length) ∧ (.pointer (some ⟨5, 0, none⟩) : Value) = .pointer (some ⟨5, 0, none⟩) ∧ (.slice (some ⟨6, 0, none⟩) l.length l.length : Value) = .slice (some ⟨6, 0, none⟩) l.length l.length ∧ (.slice (some ⟨7, 0, none⟩) l.length l.length : Value) = .slice (some ⟨7, 0, none⟩) l.length l.length ∧ (nI ((l.length : Nat) : Int) : Value) = nI ((l.length : Nat) : Int) ∧ True) ∧ (wkO (.cells true 1 (krep [.nilFunc] l.length) : KObj) (rno (sg 10 []) 3 (.cells true 1 (closL 121 8 9 0 l.length) : KObj)) ∧ wkO (.cells true 1 (krep [.nilFunc] l.length) : KObj) (rno (sg 10 []) 3 (.cells true 1 (closL 122 8 9 0 l.length) : KObj)) ∧ (some (.fam 1 [] : KObj) = some (.fam 1 ((List.replicate 0 zeroP).flatMap plC1) : KObj) ∧ belowO 10 (.fam 1 ((List.replicate 0 zeroP).flatMap plC1) : KObj) = true) ∧ (some (.fam 4 [] : KObj) = some (.fam 4 ((List.replicate 0 zeroP).flatMap plC2) : KObj) ∧ belowO 10 (.fam 4 ((List.replicate 0 zeroP).flatMap plC2) : KObj) = true) ∧ True) ∧ (True) ∧ (True)) ∧ (∀ x2 : Nat, true = true) ∧ ∀ x2 : Nat, (x2 ≤ List.length l) → (((decide (((x2 : Int) : Int) < ((l.length : Nat) : Int))) = true → ((List.length ([nI 0] : List Value) = 1 ∧ 0 < 1 ∧ List.length (((List.replicate x2 zeroP).flatMap plC1) : List Value) = x2 * 1) ∧ ((List.length ([nI 0, nI 0, nI 0, nI 0] : List Value) = 4 ∧ 0 < 4 ∧ List.length (((List.replicate x2 zeroP).flatMap plC2) : List Value) = x2 * 4) ∧ (((0 : Int) ≤ (x2 : Int) ∧ ((x2 : Int) : Int) < ((l.length : Nat) : Int)) ∧ (((0 + Int.toNat (x2 : Int) * 1) + 1 ≤ List.length (closL 121 8 9 x2 l.length)) ∧ true = true ∧ (((0 : Int) ≤ (x2 : Int) ∧ ((x2 : Int) : Int) < ((l.length : Nat) : Int)) ∧ (((0 + Int.toNat (x2 : Int) * 1) + 1 ≤ List.length (closL 122 8 9 x2 l.length)) ∧ true = true ∧ ((nI (IntKind.wrap .i64 ((x2 : Int) + 1)) : Value) = nI ((x2 : Int) + 1) ∧ (∃ x2' : Nat, (x2' ≤ List.length l) ∧ (List.length l - x2') < (List.length l - x2) ∧ true = true ∧ ((nI ((x2 : Int) + 1) : Value) = nI (x2' : Int) ∧ wkR (slQ 2 2 xs.length) ∧ wkR (slQ 3 2 ms.length) ∧ (.pointer (some ⟨5, 0, none⟩) : Value) = .pointer (some ⟨5, 0, none⟩) ∧ (.slice (some ⟨6, 0, none⟩) l.length l.length : Value) = .slice (some ⟨6, 0, none⟩) l.length l.length ∧ (.slice (some ⟨7, 0, none⟩) l.length l.length : Value) = .slice (some ⟨7, 0, none⟩) l.length l.length ∧ (nI ((l.length : Nat) : Int) : Value) = nI ((l.length : Nat) : Int) ∧ True) ∧ (wkO (.cells true 1 (setl (closL 121 8 9 x2 l.length) (0 + Int.toNat (x2 : Int) * 1) [.func (.func 121) #[] #[.pointer (some ⟨8, 0, some (x2 + 3)⟩), .pointer (some ⟨9, 0, some (x2 + 3)⟩)]]) : KObj) (rno (sg 10 []) 3 (.cells true 1 (closL 121 8 9 x2' l.length) : KObj)) ∧ wkO (.cells true 1 (setl (closL 122 8 9 x2 l.length) (0 + Int.toNat (x2 : Int) * 1) [.func (.func 122) #[] #[.pointer (some ⟨8, 0, some (x2 + 3)⟩), .pointer (some ⟨9, 0, some (x2 + 3)⟩)]]) : KObj) (rno (sg 10 []) 3 (.cells true 1 (closL 122 8 9 x2' l.length) : KObj)) ∧ (some (.fam 1 (((List.replicate x2 zeroP).flatMap plC1) ++ [nI 0]) : KObj) = some (.fam 1 ((List.replicate x2' zeroP).flatMap plC1) : KObj) ∧ belowO 10 (.fam 1 ((List.replicate x2' zeroP).flatMap plC1) : KObj) = true) ∧ (some (.fam 4 (((List.replicate x2 zeroP).flatMap plC2) ++ [nI 0, nI 0, nI 0, nI 0]) : KObj) = some (.fam 4 ((List.replicate x2' zeroP).flatMap plC2) : KObj) ∧ belowO 10 (.fam 4 ((List.replicate x2' zeroP).flatMap plC2) : KObj) = true) ∧ True) ∧ (True) ∧ (True)))))))))) ∧ ((decide (((x2 : Int) : Int) < ((l.length : Nat) : Int))) = false → (true = true ∧ (0 ≤ List.length xs) ∧ (true = true ∧ ((nI 0 : Value) = nI ((0 : Nat) : Int) ∧ (.slice (some ⟨7, 0, none⟩) l.length l.length : Value) = .slice (some ⟨7, 0, none⟩) l.length l.length ∧ (.slice (some ⟨6, 0, none⟩) l.length l.length : Value) = .slice (some ⟨6, 0, none⟩) l.length l.length ∧ (.pointer (some ⟨5, 0, none⟩) : Value) = .pointer (some ⟨5, 0, none⟩) ∧ wkR (slQ 3 2 ms.length) ∧ wkR (slQ 2 2 xs.length) ∧ (nI ((xs.length : Nat) : Int) : Value) = nI ((xs.length : Nat) : Int) ∧ True) ∧ ((some (.fam 1 ((List.replicate x2 zeroP).flatMap plC1) : KObj) = some (.fam 1 ((plTo w h a xs ms 0).flatMap plC1) : KObj) ∧ belowO 10 (.fam 1 ((plTo w h a xs ms 0).flatMap plC1) : KObj) = true) ∧ (some (.fam 4 ((List.replicate x2 zeroP).flatMap plC2) : KObj) = some (.fam 4 ((plTo w h a xs ms 0).flatMap plC2) : KObj) ∧ belowO 10 (.fam 4 ((plTo w h a xs ms 0).flatMap plC2) : KObj) = true) ∧ (keptR 10 (.cells true 0 [nI w, nI h, slQ 0 2 a.length])) ∧ True) ∧ (True) ∧ (True)) ∧ (∀ x3 : Nat, true = true) ∧ ∀ x3 : Nat, (x3 ≤ List.length xs) → (((decide (((x3 : Int) : Int) < ((xs.length : Nat) : Int))) = true → (((0 : Int) ≤ (x3 : Int) ∧ ((x3 : Int) : Int) < ((xs.length : Nat) : Int)) ∧ ((partA 4 (xs.flatMap iceC) (0 + Int.toNat (x3 : Int) * 4) = some (.agg #[nI (xs.getD x3 zeroI).conc, nI (xs.getD x3 zeroI).thick, nI (xs.getD x3 zeroI).ridge, nI (xs.getD x3 zeroI).press])) ∧ (((someR (.cells false 0 (a.flatMap boolC))) ∧ True) ∧ (∀ H' : Heap, H'.length = 11 → (H'[0]? = some (.cells false 0 (a.flatMap boolC) : KObj) ∧ True) → KCall prog 62 [.agg #[nI w, nI h, slQ 0 2 a.length], nI (x3 : Int)] H' [] (Is (.bool (seaB a (x3 : Int))) H')) ∧ (((seaB a (x3 : Int)) = true → (((0 : Int) ≤ (x3 : Int) ∧ ((x3 : Int) : Int) < ((ms.length : Nat) : Int)) ∧ ((partA 2 (ms.flatMap moveC) (0 + Int.toNat (x3 : Int) * 2) = some (.agg #[nI (ms.getD x3 zeroM).dx, nI (ms.getD x3 zeroM).dy])) ∧ (((someR (.cells false 0 (a.flatMap boolC))) ∧ True) ∧ (∀ H' : Heap, H'.length = 11 → (H'[0]? = some (.cells false 0 (a.flatMap boolC) : KObj) ∧ True) → KCall prog 63 [.agg #[nI w, nI h, slQ 0 2 a.length], nI (x3 : Int), .agg #[nI (ms.getD x3 zeroM).dx, nI (ms.getD x3 zeroM).dy]] H' [] (Is (nI (targ w h a (x3 : Int) (ms.getD x3 zeroM))) H')) ∧ (((0 : Int) ≤ (targ w h a (x3 : Int) (ms.getD x3 zeroM)) ∧ ((targ w h a (x3 : Int) (ms.getD x3 zeroM)) : Int) < ((l.length : Nat) : Int)) ∧ (((closL 121 8 9 x2 l.length)[(0 + Int.toNat (targ w h a (x3 : Int) (ms.getD x3 zeroM)) * 1)]? = some (.func (.func 121) #[] #[.pointer (some ⟨8, 0, some ((targ w h a (x3 : Int) (ms.getD x3 zeroM)).toNat + 3)⟩), .pointer (some ⟨9, 0, some ((targ w h a (x3 : Int) (ms.getD x3 zeroM)).toNat + 3)⟩)])) ∧ (((((xs.getD x3 zeroI).conc : Int) == 0) = true → ((nI (IntKind.wrap .i64 ((x3 : Int) + 1)) : Value) = nI ((x3 : Int) + 1) ∧ (∃ x3' : Nat, (x3' ≤ List.length xs) ∧ (List.length xs - x3') < (List.length xs - x3) ∧ true = true ∧ ((nI ((x3 : Int) + 1) : Value) = nI (x3' : Int) ∧ (.slice (some ⟨7, 0, none⟩) l.length l.length : Value) = .slice (some ⟨7, 0, none⟩) l.length l.length ∧ (.slice (some ⟨6, 0, none⟩) l.length l.length : Value) = .slice (some ⟨6, 0, none⟩) l.length l.length ∧ (.pointer (some ⟨5, 0, none⟩) : Value) = .pointer (some ⟨5, 0, none⟩) ∧ wkR (slQ 3 2 ms.length) ∧ wkR (slQ 2 2 xs.length) ∧ (nI ((xs.length : Nat) : Int) : Value) = nI ((xs.length : Nat) : Int) ∧ True) ∧ ((some (.fam 1 ((plTo w h a xs ms x3).flatMap plC1) : KObj) = some (.fam 1 ((plTo w h a xs ms x3').flatMap plC1) : KObj) ∧ belowO 10 (.fam 1 ((plTo w h a xs ms x3').flatMap plC1) : KObj) = true) ∧ (some (.fam 4 ((plTo w h a xs ms x3).flatMap plC2) : KObj) = some (.fam 4 ((plTo w h a xs ms x3').flatMap plC2) : KObj) ∧ belowO 10 (.fam 4 ((plTo w h a xs ms x3').flatMap plC2) : KObj) = true) ∧ (keptR 10 (.cells true 0 [nI w, nI h, slQ 0 2 a.length])) ∧ True) ∧ (True) ∧ (True)))) ∧ ((((xs.getD x3 zeroI).conc : Int) == 0) = false → ((((plTo w h a xs ms x3).flatMap plC1)[((targ w h a (x3 : Int) (ms.getD x3 zeroM)).toNat * 1 + 0)]? = some (nI ((plTo w h a xs ms x3).getD (targ w h a (x3 : Int) (ms.getD x3 zeroM)).toNat zeroP).s)) ∧ ((nI (IntKind.wrap .i64 (((plTo w h a xs ms x3).getD (targ w h a (x3 : Int) (ms.getD x3 zeroM)).toNat zeroP).s + (xs.getD x3 zeroI).conc)) : Value) = nI (((plTo w h a xs ms x3).getD (targ w h a (x3 : Int) (ms.getD x3 zeroM)).toNat zeroP).s + (xs.getD x3 zeroI).conc) ∧ (((targ w h a (x3 : Int) (ms.getD x3 zeroM)).toNat * 1 + 1 ≤ List.length ((plTo w h a xs ms x3).flatMap plC1)) ∧ true = true ∧ ((((plTo w h a xs ms x3).flatMap plC2)[((targ w h a (x3 : Int) (ms.getD x3 zeroM)).toNat * 4 + 1)]? = some (nI ((plTo w h a xs ms x3).getD (targ w h a (x3 : Int) (ms.getD x3 zeroM)).toNat zeroP).t)) ∧ (∃ y6 : Int, (nI (if ((xs.getD x3 zeroI).thick : Int) > ((plTo w h a xs ms x3).getD (targ w h a (x3 : Int) (ms.getD x3 zeroM)).toNat zeroP).t then ((xs.getD x3 zeroI).thick : Int) else ((plTo w h a xs ms x3).getD (targ w h a (x3 : Int) (ms.getD x3 zeroM)).toNat zeroP).t) : Value) = nI y6 ∧ ((((plTo w h a xs ms x3).flatMap plC2)[((targ w h a (x3 : Int) (ms.getD x3 zeroM)).toNat * 4 + 2)]? = some (nI ((plTo w h a xs ms x3).getD (targ w h a (x3 : Int) (ms.getD x3 zeroM)).toNat zeroP).r)) ∧ (∃ y7 : Int, (nI (if ((xs.getD x3 zeroI).ridge : Int) > ((plTo w h a xs ms x3).getD (targ w h a (x3 : Int) (ms.getD x3 zeroM)).toNat zeroP).r then ((xs.getD x3 zeroI).ridge : Int) else ((plTo w h a xs ms x3).getD (targ w h a (x3 : Int) (ms.getD x3 zeroM)).toNat zeroP).r) : Value) = nI y7 ∧ (((targ w h a (x3 : Int) (ms.getD x3 zeroM)).toNat * 4 + 4 ≤ List.length ((plTo w h a xs ms x3).flatMap plC2)) ∧ true = true ∧ (((targ w h a (x3 : Int) (ms.getD x3 zeroM)).toNat * 4 + 4 ≤ List.length (setl ((plTo w h a xs ms x3).flatMap plC2) ((targ w h a (x3 : Int) (ms.getD x3 zeroM)).toNat * 4 + 1) [nI y6])) ∧ true = true ∧ ((nI (IntKind.wrap .i64 ((x3 : Int) + 1)) : Value) = nI ((x3 : Int) + 1) ∧ (∃ x3' : Nat, (x3' ≤ List.length xs) ∧ (List.length xs - x3') < (List.length xs - x3) ∧ true = true ∧ ((nI ((x3 : Int) + 1) : Value) = nI (x3' : Int) ∧ (.slice (some ⟨7, 0, none⟩) l.length l.length : Value) = .slice (some ⟨7, 0, none⟩) l.length l.length ∧ (.slice (some ⟨6, 0, none⟩) l.length l.length : Value) = .slice (some ⟨6, 0, none⟩) l.length l.length ∧ (.pointer (some ⟨5, 0, none⟩) : Value) = .pointer (some ⟨5, 0, none⟩) ∧ wkR (slQ 3 2 ms.length) ∧ wkR (slQ 2 2 xs.length) ∧ (nI ((xs.length : Nat) : Int) : Value) = nI ((xs.length : Nat) : Int) ∧ True) ∧ ((some (.fam 1 (setl ((plTo w h a xs ms x3).flatMap plC1) ((targ w h a (x3 : Int) (ms.getD x3 zeroM)).toNat * 1 + 0) [nI (((plTo w h a xs ms x3).getD (targ w h a (x3 : Int) (ms.getD x3 zeroM)).toNat zeroP).s + (xs.getD x3 zeroI).conc)]) : KObj) = some (.fam 1 ((plTo w h a xs ms x3').flatMap plC1) : KObj) ∧ belowO 10 (.fam 1 ((plTo w h a xs ms x3').flatMap plC1) : KObj) = true) ∧ (some (.fam 4 (setl (setl ((plTo w h a xs ms x3).flatMap plC2) ((targ w h a (x3 : Int) (ms.getD x3 zeroM)).toNat * 4 + 1) [nI y6]) ((targ w h a (x3 : Int) (ms.getD x3 zeroM)).toNat * 4 + 2) [nI y7]) : KObj) = some (.fam 4 ((plTo w h a xs ms x3').flatMap plC2) : KObj) ∧ belowO 10 (.fam 4 ((plTo w h a xs ms x3').flatMap plC2) : KObj) = true) ∧ (keptR 10 (.cells true 0 [nI w, nI h, slQ 0 2 a.length])) ∧ True) ∧ (True) ∧ (True)))))))))))))))))))) ∧ ((seaB a (x3 : Int)) = false → ((nI (IntKind.wrap .i64 ((x3 : Int) + 1)) : Value) = nI ((x3 : Int) + 1) ∧ (∃ x3' : Nat, (x3' ≤ List.length xs) ∧ (List.length xs - x3') < (List.length xs - x3) ∧ true = true ∧ ((nI ((x3 : Int) + 1) : Value) = nI (x3' : Int) ∧ (.slice (some ⟨7, 0, none⟩) l.length l.length : Value) = .slice (some ⟨7, 0, none⟩) l.length l.length ∧ (.slice (some ⟨6, 0, none⟩) l.length l.length : Value) = .slice (some ⟨6, 0, none⟩) l.length l.length ∧ (.pointer (some ⟨5, 0, none⟩) : Value) = .pointer (some ⟨5, 0, none⟩) ∧ wkR (slQ 3 2 ms.length) ∧ wkR (slQ 2 2 xs.length) ∧ (nI ((xs.length : Nat) : Int) : Value) = nI ((xs.length : Nat) : Int) ∧ True) ∧ ((some (.fam 1 ((plTo w h a xs ms x3).flatMap plC1) : KObj) = some (.fam 1 ((plTo w h a xs ms x3').flatMap plC1) : KObj) ∧ belowO 10 (.fam 1 ((plTo w h a xs ms x3').flatMap plC1) : KObj) = true) ∧ (some (.fam 4 ((plTo w h a xs ms x3).flatMap plC2) : KObj) = some (.fam 4 ((plTo w h a xs ms x3').flatMap plC2) : KObj) ∧ belowO 10 (.fam 4 ((plTo w h a xs ms x3').flatMap plC2) : KObj) = true) ∧ (keptR 10 (.cells true 0 [nI w, nI h, slQ 0 2 a.length])) ∧ True) ∧ (True) ∧ (True))))))))) ∧ ((decide (((x3 : Int) : Int) < ((xs.length : Nat) : Int))) = false → (true = true ∧ (0 ≤ List.length l) ∧ (true = true ∧ ((nI 0 : Value) = nI ((0 : Nat) : Int) ∧ wk (.slice none 0 0 : Value) (slQ 0 1 0 : Value) ∧ wk (.slice none 0 0 : Value) (slQ 0 1 0 : Value) ∧ (.slice (some ⟨7, 0, none⟩) l.length l.length : Value) = .slice (some ⟨7, 0, none⟩) l.length l.length ∧ (nI ((l.length : Nat) : Int) : Value) = nI ((l.length : Nat) : Int) ∧ True) ∧ (True) ∧ (True ∧ True ∧ True) ∧ (True)) ∧ (∀ x4 : Nat, true = true) ∧ ∀ x4 : Nat, (x4 ≤ List.length l) → (((decide (((x4 : Int) : Int) < ((l.length : Nat) : Int))) = true → (((0 : Int) ≤ (x4 : Int) ∧ ((x4 : Int) : Int) < ((l.length : Nat) : Int)) ∧ (((closL 122 8 9 x2 l.length)[(0 + Int.toNat (x4 : Int) * 1)]? = some (.func (.func 122) #[] #[.pointer (some ⟨8, 0, some (x4 + 3)⟩), .pointer (some ⟨9, 0, some (x4 + 3)⟩)])) ∧ ((((plTo w h a xs ms x3).flatMap plC1)[(x4 * 1 + 0)]? = some (nI ((plTo w h a xs ms x3).getD x4 zeroP).s)) ∧ ((nI (IntKind.wrap .i64 (((plTo w h a xs ms x3).getD x4 zeroP).s - 100)) : Value) = nI (((plTo w h a xs ms x3).getD x4 zeroP).s - 100) ∧ ((((plTo w h a xs ms x3).flatMap plC1)[(x4 * 1 + 0)]? = some (nI ((plTo w h a xs ms x3).getD x4 zeroP).s)) ∧ ((nI (IntKind.wrap .i64 (((plTo w h a xs ms x3).getD x4 zeroP).s - (if (0 : Int) > (((plTo w h a xs ms x3).getD x4 zeroP).s - 100) then (0 : Int) else (((plTo w h a xs ms x3).getD x4 zeroP).s - 100)))) : Value) = nI (((plTo w h a xs ms x3).getD x4 zeroP).s - (if (0 : Int) > (((plTo w h a xs ms x3).getD x4 zeroP).s - 100) then (0 : Int) else (((plTo w h a xs ms x3).getD x4 zeroP).s - 100))) ∧ ((((plTo w h a xs ms x3).flatMap plC2)[(x4 * 4 + 1)]? = some (nI ((plTo w h a xs ms x3).getD x4 zeroP).t)) ∧ ((nI (IntKind.wrap .i64 (Int.tdiv (if (0 : Int) > (((plTo w h a xs ms x3).getD x4 zeroP).s - 100) then (0 : Int) else (((plTo w h a xs ms x3).getD x4 zeroP).s - 100)) 10)) : Value) = nI (Int.tdiv (if (0 : Int) > (((plTo w h a xs ms x3).getD x4 zeroP).s - 100) then (0 : Int) else (((plTo w h a xs ms x3).getD x4 zeroP).s - 100)) 10) ∧ ((nI (IntKind.wrap .i64 (((plTo w h a xs ms x3).getD x4 zeroP).t + (Int.tdiv (if (0 : Int) > (((plTo w h a xs ms x3).getD x4 zeroP).s - 100) then (0 : Int) else (((plTo w h a xs ms x3).getD x4 zeroP).s - 100)) 10))) : Value) = nI (((plTo w h a xs ms x3).getD x4 zeroP).t + (Int.tdiv (if (0 : Int) > (((plTo w h a xs ms x3).getD x4 zeroP).s - 100) then (0 : Int) else (((plTo w h a xs ms x3).getD x4 zeroP).s - 100)) 10)) ∧ (∃ y5 : Int, (nI (if (400 : Int) < (((plTo w h a xs ms x3).getD x4 zeroP).t + (Int.tdiv (if (0 : Int) > (((plTo w h a xs ms x3).getD x4 zeroP).s - 100) then (0 : Int) else (((plTo w h a xs ms x3).getD x4 zeroP).s - 100)) 10)) then (400 : Int) else (((plTo w h a xs ms x3).getD x4 zeroP).t + (Int.tdiv (if (0 : Int) > (((plTo w h a xs ms x3).getD x4 zeroP).s - 100) then (0 : Int) else (((plTo w h a xs ms x3).getD x4 zeroP).s - 100)) 10))) : Value) = nI y5 ∧ ((((plTo w h a xs ms x3).flatMap plC2)[(x4 * 4 + 2)]? = some (nI ((plTo w h a xs ms x3).getD x4 zeroP).r)) ∧ ((nI (IntKind.wrap .i64 (Int.tdiv (if (0 : Int) > (((plTo w h a xs ms x3).getD x4 zeroP).s - 100) then (0 : Int) else (((plTo w h a xs ms x3).getD x4 zeroP).s - 100)) 5)) : Value) = nI (Int.tdiv (if (0 : Int) > (((plTo w h a xs ms x3).getD x4 zeroP).s - 100) then (0 : Int) else (((plTo w h a xs ms x3).getD x4 zeroP).s - 100)) 5) ∧ ((nI (IntKind.wrap .i64 (((plTo w h a xs ms x3).getD x4 zeroP).r + (Int.tdiv (if (0 : Int) > (((plTo w h a xs ms x3).getD x4 zeroP).s - 100) then (0 : Int) else (((plTo w h a xs ms x3).getD x4 zeroP).s - 100)) 5))) : Value) = nI (((plTo w h a xs ms x3).getD x4 zeroP).r + (Int.tdiv (if (0 : Int) > (((plTo w h a xs ms x3).getD x4 zeroP).s - 100) then (0 : Int) else (((plTo w h a xs ms x3).getD x4 zeroP).s - 100)) 5)) ∧ (∃ y6 : Int, (nI (if (100 : Int) < (((plTo w h a xs ms x3).getD x4 zeroP).r + (Int.tdiv (if (0 : Int) > (((plTo w h a xs ms x3).getD x4 zeroP).s - 100) then (0 : Int) else (((plTo w h a xs ms x3).getD x4 zeroP).s - 100)) 5)) then (100 : Int) else (((plTo w h a xs ms x3).getD x4 zeroP).r + (Int.tdiv (if (0 : Int) > (((plTo w h a xs ms x3).getD x4 zeroP).s - 100) then (0 : Int) else (((plTo w h a xs ms x3).getD x4 zeroP).s - 100)) 5))) : Value) = nI y6 ∧ ((nI (IntKind.wrap .i64 ((if (0 : Int) > (((plTo w h a xs ms x3).getD x4 zeroP).s - 100) then (0 : Int) else (((plTo w h a xs ms x3).getD x4 zeroP).s - 100)) + 25)) : Value) = nI ((if (0 : Int) > (((plTo w h a xs ms x3).getD x4 zeroP).s - 100) then (0 : Int) else (((plTo w h a xs ms x3).getD x4 zeroP).s - 100)) + 25) ∧ ((nI (IntKind.wrap .i64 (((if (0 : Int) > (((plTo w h a xs ms x3).getD x4 zeroP).s - 100) then (0 : Int) else (((plTo w h a xs ms x3).getD x4 zeroP).s - 100)) + 25) - 1)) : Value) = nI (((if (0 : Int) > (((plTo w h a xs ms x3).getD x4 zeroP).s - 100) then (0 : Int) else (((plTo w h a xs ms x3).getD x4 zeroP).s - 100)) + 25) - 1) ∧ ((nI (IntKind.wrap .i64 (Int.tdiv (((if (0 : Int) > (((plTo w h a xs ms x3).getD x4 zeroP).s - 100) then (0 : Int) else (((plTo w h a xs ms x3).getD x4 zeroP).s - 100)) + 25) - 1) 25)) : Value) = nI (Int.tdiv (((if (0 : Int) > (((plTo w h a xs ms x3).getD x4 zeroP).s - 100) then (0 : Int) else (((plTo w h a xs ms x3).getD x4 zeroP).s - 100)) + 25) - 1) 25) ∧ (∃ y7 : Int, (nI (if (3 : Int) < (Int.tdiv (((if (0 : Int) > (((plTo w h a xs ms x3).getD x4 zeroP).s - 100) then (0 : Int) else (((plTo w h a xs ms x3).getD x4 zeroP).s - 100)) + 25) - 1) 25) then (3 : Int) else (Int.tdiv (((if (0 : Int) > (((plTo w h a xs ms x3).getD x4 zeroP).s - 100) then (0 : Int) else (((plTo w h a xs ms x3).getD x4 zeroP).s - 100)) + 25) - 1) 25)) : Value) = nI y7 ∧ (((x4 + 1) * 32 ≤ 2 ^ 44 ∧ 1 ≠ 0 ∧ (x4 ≤ x4 ∧ 0 + x4 * 4 ≤ List.length (((driftI w h a xs ms).take x4).flatMap iceC)) ∧ (1 ≤ 1 ∧ 0 + 1 * 4 ≤ List.length ([nI (((plTo w h a xs ms x3).getD x4 zeroP).s - (if (0 : Int) > (((plTo w h a xs ms x3).getD x4 zeroP).s - 100) then (0 : Int) else (((plTo w h a xs ms x3).getD x4 zeroP).s - 100))), nI y5, nI y6, nI y7] : List Value)) ∧ (((([nI (((plTo w h a xs ms x3).getD x4 zeroP).s - (if (0 : Int) > (((plTo w h a xs ms x3).getD x4 zeroP).s - 100) then (0 : Int) else (((plTo w h a xs ms x3).getD x4 zeroP).s - 100))), nI y5, nI y6, nI y7] : List Value).drop 0).take (1 * 4)) : List Value).all (fun v => one1 v) = true) ∧ true = true ∧ (((x4 + 1) * 8 ≤ 2 ^ 44 ∧ 1 ≠ 0 ∧ (x4 ≤ x4 ∧ 0 + x4 * 1 ≤ List.length (((driftE w h a xs ms).take x4).flatMap intC)) ∧ (1 ≤ 1 ∧ 0 + 1 * 1 ≤ List.length ([nI (if (0 : Int) > (((plTo w h a xs ms x3).getD x4 zeroP).s - 100) then (0 : Int) else (((plTo w h a xs ms x3).getD x4 zeroP).s - 100))] : List Value)) ∧ (((([nI (if (0 : Int) > (((plTo w h a xs ms x3).getD x4 zeroP).s - 100) then (0 : Int) else (((plTo w h a xs ms x3).getD x4 zeroP).s - 100))] : List Value).drop 0).take (1 * 1)) : List Value).all (fun v => one1 v) = true) ∧ true = true ∧ ((nI (IntKind.wrap .i64 ((x4 : Int) + 1)) : Value) = nI ((x4 : Int) + 1) ∧ (∃ x4' : Nat, (x4' ≤ List.length l) ∧ (List.length l - x4') < (List.length l - x4) ∧ true = true ∧ ((nI ((x4 : Int) + 1) : Value) = nI (x4' : Int) ∧ wk (.slice (some ⟨14, 0, none⟩) (x4 + 1) (x4 + 1) : Value) (slQ 14 1 x4' : Value) ∧ wk (.slice (some ⟨16, 0, none⟩) (x4 + 1) (x4 + 1) : Value) (slQ 16 1 x4' : Value) ∧ (.slice (some ⟨7, 0, none⟩) l.length l.length : Value) = .slice (some ⟨7, 0, none⟩) l.length l.length ∧ (nI ((l.length : Nat) : Int) : Value) = nI ((l.length : Nat) : Int) ∧ True) ∧ (True) ∧ ((some (.cells true 4 ((((((driftI w h a xs ms).take x4).flatMap iceC).drop 0).take (x4 * 4)) ++ ((([nI (((plTo w h a xs ms x3).getD x4 zeroP).s - (if (0 : Int) > (((plTo w h a xs ms x3).getD x4 zeroP).s - 100) then (0 : Int) else (((plTo w h a xs ms x3).getD x4 zeroP).s - 100))), nI y5, nI y6, nI y7] : List Value).drop 0).take (1 * 4))) : KObj) = some (.cells true 4 (((driftI w h a xs ms).take x4').flatMap iceC) : KObj) ∧ belowO 10 (.cells true 4 (((driftI w h a xs ms).take x4').flatMap iceC) : KObj) = true) ∧ (some (.cells true 1 ((((((driftE w h a xs ms).take x4).flatMap intC).drop 0).take (x4 * 1)) ++ ((([nI (if (0 : Int) > (((plTo w h a xs ms x3).getD x4 zeroP).s - 100) then (0 : Int) else (((plTo w h a xs ms x3).getD x4 zeroP).s - 100))] : List Value).drop 0).take (1 * 1))) : KObj) = some (.cells true 1 (((driftE w h a xs ms).take x4').flatMap intC) : KObj) ∧ belowO 10 (.cells true 1 (((driftE w h a xs ms).take x4').flatMap intC) : KObj) = true) ∧ True) ∧ (True)))))))))))))))))))))))) ∧ ((decide (((x4 : Int) : Int) < ((l.length : Nat) : Int))) = false → (true = true ∧ wk (.tuple #[slQ 10 1 x4, slQ 11 1 x4, nI 0] : Value) (rn (sg 4 [(4, 10), (5, 11)]) 3 (.tuple #[slQ 4 1 (List.length (fDrift w h a l xs ms).1), slQ 5 1 (List.length (fDrift w h a l xs ms).2.1), nI (fDrift w h a l xs ms).2.2] : Value)) ∧ ((some (.cells true 4 (((driftI w h a xs ms).take x4).flatMap iceC) : KObj) = some (.cells true 4 (List.flatMap iceC (fDrift w h a l xs ms).1) : KObj) ∧ belowO 4 (.cells true 4 (List.flatMap iceC (fDrift w h a l xs ms).1) : KObj) = true) ∧ (some (.cells true 1 (((driftE w h a xs ms).take x4).flatMap intC) : KObj) = some (.cells true 1 (List.flatMap intC (fDrift w h a l xs ms).2.1) : KObj) ∧ belowO 4 (.cells true 1 (List.flatMap intC (fDrift w h a l xs ms).2.1) : KObj) = true) ∧ True)))))))))))))))))))))))
theorem EDrift (w h : Int) (a : List Bool) (l : List Flow) (xs : List Ice) (ms : List Move) : vF prog msk (dm 0) 100000 true 40 true 15 [.agg #[nI w, nI h, slQ 0 2 a.length], slQ 1 2 l.length, slQ 2 2 xs.length, slQ 3 2 ms.length] (readsT 0 [a.flatMap boolC, l.flatMap flowC, xs.flatMap iceC, ms.flatMap moveC]) (some [])
  (.go 5 (.ans [(0, .cells false 0 (a.flatMap boolC)), (1, .cells false 0 (l.flatMap flowC))] (nI (errFlows w h a.length l)) [] (.go 2 (.fork (.go 3 (.again [])) (.go 5 (.gfork (.go 4 (.again [])) (.go 5 (.fork (.go 2 (.again [])) (.go 2 (.inv 3 (Nat) (0) [] [4] (fun x1 => [(49, nI (x1 : Int)), (3, slQ 3 2 ms.length), (2, slQ 2 2 xs.length), (1, slQ 1 2 l.length), (4, .pointer (some ⟨4, 0, none⟩)), (47, slQ 2 2 xs.length), (48, nI ((xs.length : Nat) : Int))]) (fun x1 => [(4, true, .cells true 0 [nI w, nI h, slQ 0 2 a.length])]) (fun x1 => []) (fun x1 => []) (fun x1 => (x1 ≤ List.length xs ∧ errUp (mvErr a l xs ms) x1 = 0)) (fun x1 => (List.length xs - x1)) (fun x1 => .go 0 (.fork (.go 0 (.need (.val (.agg #[nI (xs.getD x1 zeroI).conc, nI (xs.getD x1 zeroI).thick, nI (xs.getD x1 zeroI).ridge, nI (xs.getD x1 zeroI).press]) (.go 4 (.need (.val (.agg #[nI (l.getD x1 zeroF).x.lo, nI (l.getD x1 zeroF).x.hi, nI (l.getD x1 zeroF).y.lo, nI (l.getD x1 zeroF).y.hi]) (.ans [] (.tuple #[.agg #[nI (endA (l.getD x1 zeroF)).dx, nI (endA (l.getD x1 zeroF)).dy], .agg #[nI (endZ (l.getD x1 zeroF)).dx, nI (endZ (l.getD x1 zeroF)).dy]]) [] (.go 7 (.ans [] (nI (errIce (xs.getD x1 zeroI))) [] (.go 3 (.fork (.go 3 (.again [])) (.go 2 (.need (.val (.bool (a.getD x1 false)) (.go 0 (.gfork (.go 4 (.gfork (.go 5 (.again [])) (.go 2 (.need (.val (.bool (a.getD x1 false)) (.go 1 (.gfork (.go 1 (.need (.go 0 (.val (nI (ms.getD x1 zeroM).dx) (.go 3 (.ans [] (.bool ((decide (((endA (l.getD x1 zeroF)).dx : Int) ≤ (ms.getD x1 zeroM).dx)) && (decide (((ms.getD x1 zeroM).dx : Int) ≤ (endZ (l.getD x1 zeroF)).dx)))) [] (.go 1 (.gfork (.go 7 (.again [])) (.go 1 (.need (.go 0 (.val (nI (ms.getD x1 zeroM).dy) (.go 3 (.ans [] (.bool ((decide (((endA (l.getD x1 zeroF)).dy : Int) ≤ (ms.getD x1 zeroM).dy)) && (decide (((ms.getD x1 zeroM).dy : Int) ≤ (endZ (l.getD x1 zeroF)).dy)))) [] (.go 4 (.fork (.go 2 (.again [])) (.go 0 (.slot 113 (nI ((x1 : Int) + 1)) (.go 0 (.again [])))))))))))))))))))) (.go 4 (.slot 113 (nI ((x1 : Int) + 1)) (.go 0 (.again []))))))))))) (.go 4 (.need (.val (.bool (a.getD x1 false)) (.go 1 (.gfork (.go 1 (.need (.go 0 (.val (nI (ms.getD x1 zeroM).dx) (.go 3 (.ans [] (.bool ((decide (((endA (l.getD x1 zeroF)).dx : Int) ≤ (ms.getD x1 zeroM).dx)) && (decide (((ms.getD x1 zeroM).dx : Int) ≤ (endZ (l.getD x1 zeroF)).dx)))) [] (.go 1 (.gfork (.go 7 (.again [])) (.go 1 (.need (.go 0 (.val (nI (ms.getD x1 zeroM).dy) (.go 3 (.ans [] (.bool ((decide (((endA (l.getD x1 zeroF)).dy : Int) ≤ (ms.getD x1 zeroM).dy)) && (decide (((ms.getD x1 zeroM).dy : Int) ≤ (endZ (l.getD x1 zeroF)).dy)))) [] (.go 4 (.fork (.go 2 (.again [])) (.go 0 (.slot 113 (nI ((x1 : Int) + 1)) (.go 0 (.again [])))))))))))))))))))) (.go 4 (.slot 113 (nI ((x1 : Int) + 1)) (.go 0 (.again []))))))))))))))))))))))))) (.go 5 (.need (.go 1 (.need (.go 1 (.fam [] 0 0 [1, 4] [] (.go 2 (.inv 3 (Nat) (0) [] [6, 7, 8, 9] (fun x2 => [(124, nI (x2 : Int)), (2, slQ 2 2 xs.length), (3, slQ 3 2 ms.length), (17, .pointer (some ⟨5, 0, none⟩)), (18, .slice (some ⟨6, 0, none⟩) l.length l.length), (19, .slice (some ⟨7, 0, none⟩) l.length l.length), (123, nI ((l.length : Nat) : Int))]) (fun x2 => [(6, false, .cells true 1 (closL 121 8 9 x2 l.length)), (7, false, .cells true 1 (closL 122 8 9 x2 l.length)), (8, true, .fam 1 ((List.replicate x2 zeroP).flatMap plC1)), (9, true, .fam 4 ((List.replicate x2 zeroP).flatMap plC2))]) (fun x2 => []) (fun x2 => []) (fun x2 => (x2 ≤ List.length l)) (fun x2 => (List.length l - x2)) (fun x2 => .go 0 (.fork (.go 17 (.fam [(10, 8), (11, 9)] x2 3 [132] [] (.go 2 (.need (.need (.need (.need (.go 0 (.slot 137 (nI ((x2 : Int) + 1)) (.go 0 (.again []))))))))))) (.go 2 (.inv 3 (Nat) (0) [] [8, 9, 5] (fun x3 => [(140, nI (x3 : Int)), (19, .slice (some ⟨7, 0, none⟩) l.length l.length), (18, .slice (some ⟨6, 0, none⟩) l.length l.length), (17, .pointer (some ⟨5, 0, none⟩)), (3, slQ 3 2 ms.length), (138, slQ 2 2 xs.length), (139, nI ((xs.length : Nat) : Int))]) (fun x3 => [(8, true, .fam 1 ((plTo w h a xs ms x3).flatMap plC1)), (9, true, .fam 4 ((plTo w h a xs ms x3).flatMap plC2)), (5, true, .cells true 0 [nI w, nI h, slQ 0 2 a.length])]) (fun x3 => []) (fun x3 => []) (fun x3 => (x3 ≤ List.length xs)) (fun x3 => (List.length xs - x3)) (fun x3 => .go 0 (.fork (.go 0 (.need (.val (.agg #[nI (xs.getD x3 zeroI).conc, nI (xs.getD x3 zeroI).thick, nI (xs.getD x3 zeroI).ridge, nI (xs.getD x3 zeroI).press]) (.go 4 (.ans [(0, .cells false 0 (a.flatMap boolC))] (.bool (seaB a (x3 : Int))) [] (.fork (.go 4 (.need (.val (.agg #[nI (ms.getD x3 zeroM).dx, nI (ms.getD x3 zeroM).dy]) (.go 0 (.ans [(0, .cells false 0 (a.flatMap boolC))] (nI (targ w h a (x3 : Int) (ms.getD x3 zeroM))) [] (.need (.val (.func (.func 121) #[] #[.pointer (some ⟨8, 0, some ((targ w h a (x3 : Int) (ms.getD x3 zeroM)).toNat + 3)⟩), .pointer (some ⟨9, 0, some ((targ w h a (x3 : Int) (ms.getD x3 zeroM)).toNat + 3)⟩)]) (.into (some [8, 9, 5, 10]) (.go 3 (.fork (.keep (.go 0 (.slot 160 (nI ((x3 : Int) + 1)) (.go 0 (.again []))))) (.val (nI ((plTo w h a xs ms x3).getD (targ w h a (x3 : Int) (ms.getD x3 zeroM)).toNat zeroP).s) (.go 2 (.slot 10 (nI (((plTo w h a xs ms x3).getD (targ w h a (x3 : Int) (ms.getD x3 zeroM)).toNat zeroP).s + (xs.getD x3 zeroI).conc)) (.need (.go 0 (.val (nI ((plTo w h a xs ms x3).getD (targ w h a (x3 : Int) (ms.getD x3 zeroM)).toNat zeroP).t) (.go 2 (.bind Int (fun y6 => .slot 15 (nI y6) (.go 0 (.val (nI ((plTo w h a xs ms x3).getD (targ w h a (x3 : Int) (ms.getD x3 zeroM)).toNat zeroP).r) (.go 2 (.bind Int (fun y7 => .slot 20 (nI y7) (.go 0 (.need (.go 0 (.need (.keep (.go 0 (.slot 160 (nI ((x3 : Int) + 1)) (.go 0 (.again []))))))))))))))))))))))))))))))))) (.go 0 (.slot 160 (nI ((x3 : Int) + 1)) (.go 0 (.again [])))))))))) (.go 4 (.inv 3 (Nat) (0) [] [] (fun x4 => [(163, nI (x4 : Int)), (23, slQ 10 1 x4), (24, slQ 11 1 x4), (161, .slice (some ⟨7, 0, none⟩) l.length l.length), (162, nI ((l.length : Nat) : Int))]) (fun x4 => []) (fun x4 => [(true, .cells true 4 (((driftI w h a xs ms).take x4).flatMap iceC)), (true, .cells true 1 (((driftE w h a xs ms).take x4).flatMap intC))]) (fun x4 => []) (fun x4 => (x4 ≤ List.length l)) (fun x4 => (List.length l - x4)) (fun x4 => .go 0 (.fork (.need (.val (.func (.func 122) #[] #[.pointer (some ⟨8, 0, some (x4 + 3)⟩), .pointer (some ⟨9, 0, some (x4 + 3)⟩)]) (.go 4 (.val (nI ((plTo w h a xs ms x3).getD x4 zeroP).s) (.go 0 (.slot 6 (nI (((plTo w h a xs ms x3).getD x4 zeroP).s - 100)) (.go 1 (.val (nI ((plTo w h a xs ms x3).getD x4 zeroP).s) (.go 1 (.slot 10 (nI (((plTo w h a xs ms x3).getD x4 zeroP).s - (if (0 : Int) > (((plTo w h a xs ms x3).getD x4 zeroP).s - 100) then (0 : Int) else (((plTo w h a xs ms x3).getD x4 zeroP).s - 100)))) (.go 0 (.val (nI ((plTo w h a xs ms x3).getD x4 zeroP).t) (.go 1 (.slot 14 (nI (Int.tdiv (if (0 : Int) > (((plTo w h a xs ms x3).getD x4 zeroP).s - 100) then (0 : Int) else (((plTo w h a xs ms x3).getD x4 zeroP).s - 100)) 10)) (.go 0 (.slot 15 (nI (((plTo w h a xs ms x3).getD x4 zeroP).t + (Int.tdiv (if (0 : Int) > (((plTo w h a xs ms x3).getD x4 zeroP).s - 100) then (0 : Int) else (((plTo w h a xs ms x3).getD x4 zeroP).s - 100)) 10))) (.go 0 (.bind Int (fun y5 => .slot 16 (nI y5) (.go 0 (.val (nI ((plTo w h a xs ms x3).getD x4 zeroP).r) (.go 1 (.slot 20 (nI (Int.tdiv (if (0 : Int) > (((plTo w h a xs ms x3).getD x4 zeroP).s - 100) then (0 : Int) else (((plTo w h a xs ms x3).getD x4 zeroP).s - 100)) 5)) (.go 0 (.slot 21 (nI (((plTo w h a xs ms x3).getD x4 zeroP).r + (Int.tdiv (if (0 : Int) > (((plTo w h a xs ms x3).getD x4 zeroP).s - 100) then (0 : Int) else (((plTo w h a xs ms x3).getD x4 zeroP).s - 100)) 5))) (.go 0 (.bind Int (fun y6 => .slot 22 (nI y6) (.go 1 (.slot 24 (nI ((if (0 : Int) > (((plTo w h a xs ms x3).getD x4 zeroP).s - 100) then (0 : Int) else (((plTo w h a xs ms x3).getD x4 zeroP).s - 100)) + 25)) (.go 0 (.slot 25 (nI (((if (0 : Int) > (((plTo w h a xs ms x3).getD x4 zeroP).s - 100) then (0 : Int) else (((plTo w h a xs ms x3).getD x4 zeroP).s - 100)) + 25) - 1)) (.go 0 (.slot 26 (nI (Int.tdiv (((if (0 : Int) > (((plTo w h a xs ms x3).getD x4 zeroP).s - 100) then (0 : Int) else (((plTo w h a xs ms x3).getD x4 zeroP).s - 100)) + 25) - 1) 25)) (.go 0 (.bind Int (fun y7 => .slot 27 (nI y7) (.go 12 (.need (.go 2 (.need (.go 2 (.slot 180 (nI ((x4 : Int) + 1)) (.go 0 (.again [(10, 14), (11, 16)]))))))))))))))))))))))))))))))))))))))))))))) (.go 4 (.again [(4, 10), (5, 11)]))))))))))))))))))))))))))))))))
  (newK ((readsT 0 [a.flatMap boolC, l.flatMap flowC, xs.flatMap iceC, ms.flatMap moveC]) : HT).n 3 (.tuple #[slQ 4 1 (List.length (fDrift w h a l xs ms).1), slQ 5 1 (List.length (fDrift w h a l xs ms).2.1), nI (fDrift w h a l xs ms).2.2]) [(true, .cells true 4 (List.flatMap iceC (fDrift w h a l xs ms).1)), (true, .cells true 1 (List.flatMap intC (fDrift w h a l xs ms).2.1))]) = RDrift w h a l xs ms := by kernel_rfl
end
end Go.Proofs.Ytkkgnalgmebfjaa
/- Drift: helper lemmas: answers with new lists; families of closures. No condition. -/
namespace Go.Proofs.Ytkkgnalgmebfjaa
open Go Go.K
set_option maxRecDepth 100000
set_option linter.unusedVariables false
set_option linter.unusedSimpArgs false
noncomputable section
attribute [local irreducible] vF
/-- Where lists lie. -/
def idsOk (H : Heap) : List Nat → List (List Value) → Prop
  | [], [] => True
  | id :: ids, c :: css => (∃ own z, H[id]? = some (.cells own z c)) ∧ idsOk H ids css
  | _, _ => False
theorem idsOk_len {H : Heap} : ∀ {ids : List Nat} {css : List (List Value)}, idsOk H ids css → ids.length = css.length
  | [], [], _ => rfl
  | _ :: ids, _ :: css, h => by rw [List.length_cons, List.length_cons, idsOk_len h.2]
  | [], _ :: _, h => h.elim
  | _ :: _, [], h => h.elim
theorem idsOk_spec {H : Heap} : ∀ {ids : List Nat} {css : List (List Value)}, idsOk H ids css → ∀ (k : Nat) (c : List Value), css[k]? = some c → ∃ id own z, ids[k]? = some id ∧ H[id]? = some (KObj.cells own z c)
  | [], [], _, k, c, hk => by simp at hk
  | i :: ids, d :: css, h, 0, c, hk => by
    obtain ⟨⟨own, z, e⟩, _⟩ := h
    cases hk
    exact ⟨i, own, z, rfl, e⟩
  | i :: ids, d :: css, h, k + 1, c, hk => by
    obtain ⟨id, own, z, a, b⟩ := idsOk_spec h.2 k c (by simpa using hk)
    exact ⟨id, own, z, by simpa using a, b⟩
  | [], _ :: _, h, _, _, _ => h.elim
  | _ :: _, [], h, _, _, _ => h.elim
def plainAll : List (List Value) → Prop
  | [] => True
  | c :: css => c.all (belowC 0) = true ∧ plainAll css
theorem plainAll_spec : ∀ {css : List (List Value)}, plainAll css → ∀ c ∈ css, c.all (belowC 0) = true
  | [], _, c, h => by cases h
  | d :: css, hp, c, h => by
    rcases List.mem_cons.1 h with rfl | h
    · exact hp.1
    · exact plainAll_spec hp.2 c h
def newAll : List KObj → Prop
  | [] => True
  | o :: os => (∃ z cs, o = .cells true z cs ∧ cs.all (belowC 0) = true) ∧ newAll os
theorem newAll_spec {σ : Nat → Option Nat} : ∀ {os : List KObj}, newAll os → (os.all fun o => rnoOk 3 o && o.owned) = true ∧ os.map (rno σ 3) = os
  | [], _ => ⟨rfl, rfl⟩
  | o :: os, ⟨⟨z, cs, e, h⟩, hs⟩ => by
    subst e
    obtain ⟨a, b⟩ := newAll_spec (σ := σ) hs
    obtain ⟨c, d⟩ := rnCl (σ := σ) (d := 0) h
    refine ⟨?_, ?_⟩
    · rw [List.all_cons, a, Bool.and_true]
      show (rnoOk 3 (.cells true z cs) && true) = true
      rw [Bool.and_true]; exact d
    · rw [List.map_cons, b]
      show KObj.cells true z (cs.map (rn σ 3)) :: os = _
      rw [c]
/-- An answer with new lists. -/
theorem valNs {f : FuncId} {args : List Value} {css : List (List Value)} {h : Hint} (v : Nat → Value) {new : List KObj}
    (hc : vF prog msk (dm 0) 100000 true 40 true f args (readsT 0 css) (some []) h (newK (readsT 0 css).n 3 (v css.length) (new.map fun o => (true, o))))
    (hp : plainAll css) (hn : newAll new) (h1 : rnOk 3 (v css.length) = true) (h2 : rn (sgOnly (0 + css.length)) 3 (v css.length) = v css.length) (h3 : ∀ j, rn (sgUp (0 + css.length) j) 3 (v css.length) = v j)
    {H : Heap} {ids : List Nat} (hi : idsOk H ids css) {args' : List Value} (ha : args.map (rn (sgR 0 ids) 3) = args') :
    KCall prog f args' H [] (Is (v H.length) (H ++ new)) := by
  subst ha
  have e0 : (new.map fun o => (true, o)).map (·.2) = new := by rw [List.map_map]; exact List.map_id _
  have key := valN (css := css) (v := v css.length) (new := new.map fun o => (true, o)) hc (plainAll_spec hp) h1 h2 (by rw [e0]; exact (newAll_spec (σ := fun _ => none) hn).1) (by rw [e0]; exact (newAll_spec hn).2) (H := H) ids (idsOk_len hi) (idsOk_spec hi)
  rw [e0, (newAll_spec hn).2, h3] at key
  exact key
/-! ## Lists within cells -/
theorem setl_app : ∀ (n A B : List Value) (k : Nat), setl (A ++ B) (A.length + k) n = A ++ setl B k n
  | [], A, B, k => rfl
  | v :: n, A, B, k => by
    simp only [setl]
    rw [List.set_append_right _ _ (by omega), show A.length + k - A.length = k by omega, Nat.add_assoc, setl_app n A _ (k + 1)]
theorem setl_appL : ∀ (n A B : List Value) (k : Nat), k + n.length ≤ A.length → setl (A ++ B) k n = setl A k n ++ B
  | [], A, B, k, _ => rfl
  | v :: n, A, B, k, h => by
    simp only [List.length_cons] at h
    simp only [setl]
    rw [List.set_append_left _ _ (by omega), setl_appL n (A.set k v) B (k + 1) (by rw [List.length_set]; omega)]
/-- A part of an element is written. -/
theorem flat_setIn {α : Type} {f : α → List Value} {m c : Nat} {d y : α} {vs : List Value} (hf : ∀ x, (f x).length = m) (xs : List α) (k : Nat) (hk : k < xs.length) (hc : c + vs.length ≤ m) (hy : f y = setl (f (xs.getD k d)) c vs) :
    setl (xs.flatMap f) (k * m + c) vs = (xs.set k y).flatMap f := by
  have e1 : xs = xs.take k ++ xs.getD k d :: xs.drop (k + 1) := by
    rw [show xs.getD k d = xs[k] from by rw [List.getD_eq_getElem?_getD, List.getElem?_eq_getElem hk]; rfl, ← List.drop_eq_getElem_cons hk, List.take_append_drop]
  have e2 : xs.set k y = xs.take k ++ y :: xs.drop (k + 1) := by rw [List.set_eq_take_append_cons_drop, if_pos hk]
  have hl : ((xs.take k).flatMap f).length = k * m := by rw [flat_len hf, List.length_take, Nat.min_eq_left (Nat.le_of_lt hk)]
  rw [e2]
  conv => lhs; rw [e1]
  rw [List.flatMap_append, List.flatMap_cons, List.flatMap_append, List.flatMap_cons, ← hl, setl_app, setl_appL _ _ _ _ (by rw [hf]; exact hc), ← hy]
theorem plC1_len (p : Pl) : (plC1 p).length = 1 := rfl
theorem plC2_len (p : Pl) : (plC2 p).length = 4 := rfl
theorem plainP1 (n : Nat) (l : List Pl) : (l.flatMap plC1).all (belowC n) = true := plain_flat (fun _ => rfl) l
theorem plainP2 (n : Nat) (l : List Pl) : (l.flatMap plC2).all (belowC n) = true := plain_flat (fun _ => rfl) l
theorem plainXL (n : Nat) (l : List Ice) : (l.flatMap iceC).all (belowC n) = true := plain_flat (fun _ => rfl) l
theorem moveAt {l : List Move} {x : Nat} (h : x < l.length) : (l.flatMap moveC)[(0 + Int.toNat ((x : Nat) : Int) * 2) + 0]? = some (.int .i64 (l.getD x zeroM).dx) ∧ (l.flatMap moveC)[(0 + Int.toNat ((x : Nat) : Int) * 2) + 1]? = some (.int .i64 (l.getD x zeroM).dy) :=
  ⟨cell_at (n := 2) (c := 0) (d := zeroM) moveC_len h (by omega) rfl, cell_at (n := 2) (c := 1) (d := zeroM) moveC_len h (by omega) rfl⟩
theorem pl1At {l : List Pl} {x : Nat} (h : x < l.length) : (l.flatMap plC1)[x * 1 + 0]? = some (.int .i64 (l.getD x zeroP).s) := cell_at (n := 1) (c := 0) (d := zeroP) plC1_len h rfl rfl
theorem pl2At {l : List Pl} {x : Nat} (h : x < l.length) : (l.flatMap plC2)[x * 4 + 1]? = some (.int .i64 (l.getD x zeroP).t) ∧ (l.flatMap plC2)[x * 4 + 2]? = some (.int .i64 (l.getD x zeroP).r) :=
  ⟨cell_at (n := 4) (c := 1) (d := zeroP) plC2_len h rfl rfl, cell_at (n := 4) (c := 2) (d := zeroP) plC2_len h rfl rfl⟩
theorem pl1Set {l : List Pl} {x : Nat} (h : x < l.length) (p : Pl) : setl (l.flatMap plC1) (x * 1 + 0) [.int .i64 p.s] = (l.set x p).flatMap plC1 :=
  flat_setIn (d := zeroP) plC1_len l x h (Nat.le_refl _) rfl
theorem pl2Set {l : List Pl} {x : Nat} (h : x < l.length) (p : Pl) : setl (setl (l.flatMap plC2) (x * 4 + 1) [.int .i64 p.t]) (x * 4 + 2) [.int .i64 p.r] = (l.set x p).flatMap plC2 := by
  rw [flat_setIn (d := zeroP) (y := (⟨0, p.t, (l.getD x zeroP).r⟩ : Pl)) plC2_len l x h (show 1 + 1 ≤ 4 by decide) rfl]
  rw [flat_setIn (d := zeroP) (y := p) plC2_len (l.set x _) x (by rw [List.length_set]; exact h) (show 2 + 1 ≤ 4 by decide) ?_, List.set_set]
  rw [show (l.set x (⟨0, p.t, (l.getD x zeroP).r⟩ : Pl)).getD x zeroP = ⟨0, p.t, (l.getD x zeroP).r⟩ from by rw [List.getD_eq_getElem?_getD, List.getElem?_set_self h]; rfl]
  rfl
theorem rep_snoc {α : Type} (x : α) (n : Nat) : List.replicate (n + 1) x = List.replicate n x ++ [x] := by rw [List.replicate_succ']
/-! ## Closures -/
theorem closL_len (f F1 F2 x n : Nat) : (closL f F1 F2 x n).length = n := by simp [closL]
theorem closL_0 (f F1 F2 n : Nat) : closL f F1 F2 0 n = krep [.nilFunc] n := by
  have key : ∀ n, krep [Value.nilFunc] n = List.replicate n .nilFunc := by
    intro n
    induction n with
    | zero => rfl
    | succ n ih => show Value.nilFunc :: krep [.nilFunc] n = _; rw [ih]; rfl
  rw [key]
  refine List.ext_getElem? fun i => ?_
  unfold closL
  rw [List.getElem?_map, List.getElem?_replicate]
  by_cases h : i < n
  · rw [List.getElem?_range h, if_pos h]; rfl
  · rw [List.getElem?_eq_none (by simp; omega), if_neg h]; rfl
theorem closL_get {f F1 F2 x n j : Nat} (h : j < x) (hn : j < n) {off : Nat} (ho : off = j) : (closL f F1 F2 x n)[off]? = some (clos f F1 F2 j) := by
  subst ho
  unfold closL
  rw [List.getElem?_map, List.getElem?_range hn]
  show some (if off < x then _ else _) = _
  rw [if_pos h]
theorem closL_set {f F1 F2 x n : Nat} (h : x < n) {off : Nat} (ho : off = x) : setl (closL f F1 F2 x n) off [clos f F1 F2 x] = closL f F1 F2 (x + 1) n := by
  subst ho
  simp only [setl]
  refine List.ext_getElem? fun i => ?_
  unfold closL
  rw [List.getElem?_set]
  by_cases h1 : off = i
  · subst h1
    rw [if_pos rfl, if_pos (by simpa using h), List.getElem?_map, List.getElem?_range h]
    show _ = some (if off < off + 1 then _ else _)
    rw [if_pos (Nat.lt_succ_self _)]
  · rw [if_neg h1, List.getElem?_map, List.getElem?_map]
    by_cases h2 : i < n
    · rw [List.getElem?_range h2]
      show some (if i < off then _ else _) = some (if i < off + 1 then _ else _)
      by_cases h3 : i < off
      · rw [if_pos h3, if_pos (by omega)]
      · rw [if_neg h3, if_neg (by omega)]
    · rw [List.getElem?_eq_none (by simp; omega)]; rfl
theorem closL_rn {σ : Nat → Option Nat} {f F1 F2 x n : Nat} (h1 : σ F1 = some F1) (h2 : σ F2 = some F2) : (closL f F1 F2 x n).map (rn σ 3) = closL f F1 F2 x n := by
  unfold closL
  rw [List.map_map]
  refine List.map_congr_left fun j _ => ?_
  show rn σ 3 (if j < x then _ else _) = if j < x then _ else _
  by_cases h : j < x
  · rw [if_pos h]
    show Value.func (.func f) ⟨[]⟩ ⟨[rn σ 2 (.pointer (some ⟨F1, 0, some (j + 3)⟩)), rn σ 2 (.pointer (some ⟨F2, 0, some (j + 3)⟩))]⟩ = _
    have e : ∀ F, σ F = some F → rn σ 2 (.pointer (some ⟨F, 0, some (j + 3)⟩)) = .pointer (some ⟨F, 0, some (j + 3)⟩) := fun F hF => by
      show (match σ F with | some id' => Value.pointer (some ⟨id', 0, some (j + 3)⟩) | none => bad) = _
      rw [hF]
    rw [e _ h1, e _ h2]; rfl
  · rw [if_neg h]; rfl
theorem closO {n0 : Nat} {σ : List (Nat × Nat)} {f F1 F2 x n : Nat} {cs : List Value} (h1 : sg n0 σ F1 = some F1) (h2 : sg n0 σ F2 = some F2) (e : cs = closL f F1 F2 x n) : wkO (.cells true 1 cs) (rno (sg n0 σ) 3 (.cells true 1 (closL f F1 F2 x n))) := by
  refine wkO_of_eq ?_
  show _ = KObj.cells true 1 ((closL f F1 F2 x n).map (rn (sg n0 σ) 3))
  rw [closL_rn h1 h2, e]
/-! ## First errors -/
theorem errUp_all {e : Nat → Int} : ∀ {n : Nat}, errUp e n = 0 → ∀ k, k < n → e k = 0
  | 0, _, k, h => by omega
  | n + 1, h0, k, h => by
    have h0 : first2 (errUp e n) (e n) = 0 := h0
    unfold first2 at h0
    split at h0
    · rename_i h1
      rcases Nat.lt_or_ge k n with h2 | h2
      · exact errUp_all h1 k h2
      · obtain rfl : k = n := by omega
        exact h0
    · rename_i h1; exact absurd h0 h1
theorem errUp_at {e : Nat → Int} {k : Nat} (h0 : errUp e k = 0) (hk : e k ≠ 0) : ∀ {n : Nat}, k < n → errUp e n = e k
  | 0, h => by omega
  | n + 1, h => by
    show first2 (errUp e n) (e n) = e k
    rcases Nat.lt_or_ge k n with h2 | h2
    · rw [errUp_at h0 hk h2, first2_1 hk]
    · obtain rfl : k = n := by omega
      rw [h0, first2_2 rfl]
theorem errUp_succ {e : Nat → Int} {k : Nat} (h0 : errUp e k = 0) (h1 : e k = 0) : errUp e (k + 1) = 0 := by
  show first2 (errUp e k) (e k) = 0
  rw [h0, first2_2 rfl, h1]
end
end Go.Proofs.Ytkkgnalgmebfjaa
/- Drift: a field after a step. No condition. -/
namespace Go.Proofs.Ytkkgnalgmebfjaa
open Go Go.K
set_option maxRecDepth 100000
set_option linter.unusedVariables false
set_option linter.unusedSimpArgs false
noncomputable section
attribute [local irreducible] vF
theorem kin (n lo hi : Int) (H : Heap) : KCall prog F.drift_in [.int .i64 n, .int .i64 lo, .int .i64 hi] H [] (Is (.bool (decide (lo ≤ n) && decide (n ≤ hi))) H) := by
  refine valK 40 (fun _ => rfl) rfl (Eq.mpr (Edin _ n lo hi) ?_) H
  unfold Rdin
  refine forkD (fun h => ?_) (fun h => ?_)
  · rw [decide_eq_true h, Bool.true_and]
  · rw [decide_eq_false h, Bool.false_and]
/-! ## Piles -/
theorem plTo_len (w h : Int) (a : List Bool) (xs : List Ice) (ms : List Move) : ∀ k, (plTo w h a xs ms k).length = a.length
  | 0 => by simp [plTo]
  | k + 1 => by
    unfold plTo
    split
    · exact plTo_len w h a xs ms k
    · rw [List.length_set]; exact plTo_len w h a xs ms k
def plOk (k : Nat) (p : Pl) : Prop := (0 ≤ p.s ∧ p.s ≤ 100 * (k : Int)) ∧ (0 ≤ p.t ∧ p.t ≤ 400) ∧ 0 ≤ p.r ∧ p.r ≤ 100
theorem plOk_mono {k m : Nat} (h : k ≤ m) {p : Pl} (hp : plOk k p) : plOk m p := by
  obtain ⟨⟨a, b⟩, c⟩ := hp
  exact ⟨⟨a, by omega⟩, c⟩
theorem plOk_add {k : Nat} {p : Pl} {x : Ice} (hp : plOk k p) (hx : rightI x) : plOk (k + 1) (addP p x) := by
  unfold addP
  split
  · exact plOk_mono (by omega) hp
  · obtain ⟨⟨a, b⟩, c, d⟩ := hp
    obtain ⟨x1, x2, x3, x4⟩ := hx
    refine ⟨⟨?_, ?_⟩, ⟨?_, ?_⟩, ?_, ?_⟩ <;> dsimp only <;> omega
theorem getD_set {α : Type} {l : List α} {d y : α} {i j : Nat} (hi : i < l.length) : (l.set i y).getD j d = if j = i then y else l.getD j d := by
  rw [List.getD_eq_getElem?_getD, List.getElem?_set, List.getD_eq_getElem?_getD]
  by_cases h : i = j
  · rw [if_pos h, if_pos (h ▸ hi), if_pos h.symm]; rfl
  · rw [if_neg h, if_neg (fun e => h e.symm)]
theorem plTo_ok {w h : Int} {a : List Bool} {xs : List Ice} {ms : List Move} : ∀ {k : Nat}, k ≤ xs.length → (∀ i, i < xs.length → rightI (xs.getD i zeroI)) → ∀ j, plOk k ((plTo w h a xs ms k).getD j zeroP)
  | 0, _, hx, j => by
    show plOk 0 ((List.replicate a.length zeroP).getD j zeroP)
    rw [List.getD_eq_getElem?_getD, List.getElem?_replicate]
    split <;> exact ⟨⟨by decide, by decide⟩, ⟨by decide, by decide⟩, by decide, by decide⟩
  | k + 1, hk, hx, j => by
    have ih := plTo_ok (w := w) (h := h) (a := a) (ms := ms) (k := k) (by omega) hx
    unfold plTo
    split
    · exact plOk_mono (by omega) (ih j)
    · by_cases hd : Int.toNat (targ w h a (k : Int) (ms.getD k zeroM)) < (plTo w h a xs ms k).length
      · rw [getD_set hd]
        split
        · exact plOk_add (ih _) (hx k (by omega))
        · exact plOk_mono (by omega) (ih j)
      · rw [List.set_eq_of_length_le (by omega)]
        exact plOk_mono (by omega) (ih j)
theorem mvErr_0 {a : List Bool} {l : List Flow} {xs : List Ice} {ms : List Move} {k : Nat} (h : mvErr a l xs ms k = 0) : rightI (xs.getD k zeroI) ∧ (a.getD k false = true → isZ (xs.getD k zeroI) = true) ∧ (a.getD k false = false → inMv (l.getD k zeroF) (ms.getD k zeroM) = true) := by
  unfold mvErr first2 at h
  split at h
  · rename_i h0
    refine ⟨errIce_iff.1 h0, fun ha => ?_, fun ha => ?_⟩
    · rw [if_pos ha] at h
      split at h
      · assumption
      · omega
    · rw [if_neg (by rw [ha]; exact Bool.false_ne_true)] at h
      split at h
      · assumption
      · omega
  · rename_i h0; exact absurd h h0
theorem mvErr_1 {a : List Bool} {l : List Flow} {xs : List Ice} {ms : List Move} {k : Nat} (h : errIce (xs.getD k zeroI) ≠ 0) : mvErr a l xs ms k = errIce (xs.getD k zeroI) := first2_1 h
theorem mvErr_2 {a : List Bool} {l : List Flow} {xs : List Ice} {ms : List Move} {k : Nat} (h : errIce (xs.getD k zeroI) = 0) (h1 : a.getD k false = true) (h2 : isZ (xs.getD k zeroI) = false) : mvErr a l xs ms k = 30 := by
  unfold mvErr
  rw [first2_2 h, if_pos h1, if_neg (by rw [h2]; exact Bool.false_ne_true)]
theorem mvErr_3 {a : List Bool} {l : List Flow} {xs : List Ice} {ms : List Move} {k : Nat} (h : errIce (xs.getD k zeroI) = 0) (h1 : a.getD k false = false) (h2 : inMv (l.getD k zeroF) (ms.getD k zeroM) = false) : mvErr a l xs ms k = 30 := by
  unfold mvErr
  rw [first2_2 h, if_neg (by rw [h1]; exact Bool.false_ne_true), if_neg (by rw [h2]; exact Bool.false_ne_true)]
theorem mvErr_4 {a : List Bool} {l : List Flow} {xs : List Ice} {ms : List Move} {k : Nat} (h : errIce (xs.getD k zeroI) = 0) (h1 : a.getD k false = true) (h2 : isZ (xs.getD k zeroI) = true) : mvErr a l xs ms k = 0 := by
  unfold mvErr
  rw [first2_2 h, if_pos h1, if_pos h2]
theorem mvErr_5 {a : List Bool} {l : List Flow} {xs : List Ice} {ms : List Move} {k : Nat} (h : errIce (xs.getD k zeroI) = 0) (h1 : a.getD k false = false) (h2 : inMv (l.getD k zeroF) (ms.getD k zeroM) = true) : mvErr a l xs ms k = 0 := by
  unfold mvErr
  rw [first2_2 h, if_neg (by rw [h1]; exact Bool.false_ne_true), if_pos h2]
abbrev drV (i : Nat) (r : List Ice × List Int × Int) : Value := .tuple #[.slice (some ⟨i, 0, some 1⟩) r.1.length r.1.length, .slice (some ⟨i + 1, 0, some 1⟩) r.2.1.length r.2.1.length, .int .i64 r.2.2]
theorem drErr {r : List Ice × List Int × Int} {e : Int} (h : r = ([], [], e)) : true = true ∧ wk (.tuple #[.slice none 0 0, .slice none 0 0, .int .i64 e] : Value) (rn (sg 4 []) 3 (drV 4 r)) ∧ (True ∧ True ∧ True) := by
  subst h
  exact ⟨rfl, wk_tupL ⟨wk_nil _ _ _ (.inl rfl), wk_nil _ _ _ (.inl rfl), wk_refl _, trivial⟩, trivial, trivial, trivial⟩
theorem fDr_e {w h : Int} {a : List Bool} {l : List Flow} {xs : List Ice} {ms : List Move} {e : Int} (h1 : errDr w h a l xs ms = e) (h2 : e ≠ 0) : fDrift w h a l xs ms = ([], [], e) := by
  subst h1
  exact if_neg h2
theorem seaN {a : List Bool} {x : Nat} (h : x < a.length) : seaB a (x : Int) = !(a.getD x false) := by
  unfold seaB
  rw [decide_eq_true (by omega), Bool.true_and, Int.toNat_natCast]
theorem set_same {α : Type} {l : List α} {d : α} {i : Nat} : l.set i (l.getD i d) = l := by
  refine List.ext_getElem? fun j => ?_
  rw [List.getElem?_set]
  by_cases h : i = j
  · subst h
    rw [if_pos rfl, List.getD_eq_getElem?_getD]
    by_cases h2 : i < l.length
    · rw [if_pos h2, List.getElem?_eq_getElem h2]; rfl
    · rw [if_neg h2, List.getElem?_eq_none (by omega)]
  · rw [if_neg h]
theorem inMv_ok {f : Flow} {m : Move} (hf : rightF f) (h : inMv f m = true) : mvOk m := by
  obtain ⟨⟨a1, a2, a3⟩, b1, b2, b3⟩ := hf
  unfold inMv at h
  simp only [Bool.and_eq_true, decide_eq_true_eq] at h
  unfold endA endZ at h
  dsimp only at h
  unfold mvOk
  omega
/-- What a cell's ice does to what has come. -/
theorem plTo_1 {w h : Int} {a : List Bool} {xs : List Ice} {ms : List Move} {k : Nat} (h0 : a.getD k false = true) : plTo w h a xs ms (k + 1) = plTo w h a xs ms k := by
  show (if _ then _ else _) = _
  rw [if_pos h0]
theorem plTo_2 {w h : Int} {a : List Bool} {xs : List Ice} {ms : List Move} {k : Nat} (h0 : a.getD k false = false) : plTo w h a xs ms (k + 1) =
    (plTo w h a xs ms k).set (Int.toNat (targ w h a (k : Int) (ms.getD k zeroM))) (addP ((plTo w h a xs ms k).getD (Int.toNat (targ w h a (k : Int) (ms.getD k zeroM))) zeroP) (xs.getD k zeroI)) := by
  show (if _ then _ else _) = _
  rw [if_neg (by rw [h0]; exact Bool.false_ne_true)]
theorem map_take {α β : Type} {f : α → β} {l : List α} {d : α} {k : Nat} (h : k < l.length) : (l.map f).take (k + 1) = (l.map f).take k ++ [f (l.getD k d)] := by
  rw [List.take_add_one, List.getElem?_map, List.getElem?_eq_getElem h, List.getD_eq_getElem?_getD, List.getElem?_eq_getElem h]; rfl
theorem tdiv_bd {o d : Int} (h : 0 ≤ o) (hd : 1 ≤ d) : 0 ≤ Int.tdiv o d ∧ Int.tdiv o d ≤ o := by
  rw [Int.tdiv_eq_ediv_of_nonneg h]
  exact ⟨Int.ediv_nonneg h (by omega), Int.ediv_le_self d h⟩
theorem kDrift (w h : Int) (a : List Bool) (l : List Flow) (xs : List Ice) (ms : List Move) (hl : l.length ≤ 4294967296) (hx : xs.length ≤ 4294967296) {H : Heap} {L : Nat} (hL : H.length = L) {i0 i1 i2 i3 : Nat} {o0 o1 o2 o3 : Bool} {z0 z1 z2 z3 : Nat} (e0 : H[i0]? = some (.cells o0 z0 (a.flatMap boolC)))
    (e1 : H[i1]? = some (.cells o1 z1 (l.flatMap flowC))) (e2 : H[i2]? = some (.cells o2 z2 (xs.flatMap iceC))) (e3 : H[i3]? = some (.cells o3 z3 (ms.flatMap moveC))) :
    KCall prog F.drift_Drift [basV w h i0 a.length, .slice (some ⟨i1, 0, some 2⟩) l.length l.length, .slice (some ⟨i2, 0, some 2⟩) xs.length xs.length, .slice (some ⟨i3, 0, some 2⟩) ms.length ms.length] H []
      (Is (drV L (fDrift w h a l xs ms)) (H ++ [.cells true 4 ((fDrift w h a l xs ms).1.flatMap iceC), .cells true 1 ((fDrift w h a l xs ms).2.1.flatMap intC)])) := by
  subst hL
  refine valNs (fun i => drV i (fDrift w h a l xs ms)) (css := [a.flatMap boolC, l.flatMap flowC, xs.flatMap iceC, ms.flatMap moveC]) (new := [.cells true 4 ((fDrift w h a l xs ms).1.flatMap iceC), .cells true 1 ((fDrift w h a l xs ms).2.1.flatMap intC)]) (Eq.mpr (EDrift w h a l xs ms) ?_) ⟨plainBL 0 a, plainFL 0 l, plainXL 0 xs, plainML 0 ms, trivial⟩
    ⟨⟨_, _, rfl, plainXL 0 _⟩, ⟨_, _, rfl, plainIL 0 _⟩, trivial⟩ rfl rfl (fun _ => rfl) (ids := [i0, i1, i2, i3]) ⟨⟨_, _, e0⟩, ⟨_, _, e1⟩, ⟨_, _, e2⟩, ⟨_, _, e3⟩, trivial⟩ rfl
  unfold RDrift
  refine ⟨⟨rfl, rfl, trivial⟩, fun H' _ hd => kCheckFlows w h a l hl hd.1 hd.2.1, forkNe (fun h0 => ?_) (fun h0 => ?_)⟩
  · exact drErr (fDr_e (first2_1 h0) h0)
  have hfl := errFlows_0 h0
  have hb := basOk hfl.1
  have hla := hfl.2.1
  have hrf := errF_all hfl.2.2
  have hE : errDr w h a l xs ms = if xs.length = l.length ∧ ms.length = l.length then errUp (mvErr a l xs ms) xs.length else 1 := first2_2 h0
  refine forkNe (fun h1 => ?_) (fun h1 => forkNe (fun h2 => ?_) (fun h2 => ?_))
  · exact drErr (fDr_e (by rw [hE, if_neg (fun q => h1 (by rw [q.1]))]) (by decide))
  · exact drErr (fDr_e (by rw [hE, if_neg (fun q => h2 (by rw [q.2]))]) (by decide))
  have hxl : xs.length = l.length := by omega
  have hml : ms.length = l.length := by omega
  have hE : errDr w h a l xs ms = errUp (mvErr a l xs ms) xs.length := by rw [hE, if_pos ⟨hxl, hml⟩]
  have hn := hb.n1
  have hp := hb.p1
  refine ⟨rfl, ⟨Nat.zero_le _, rfl⟩, ?_, fun _ => rfl, ?_⟩
  · repeat' first | exact trivial | exact rfl | exact wk_refl _ | refine wkO_cells ?_ | refine wks_cons ?_ ?_ | exact wks_nil | exact wk_nil _ _ _ (.inl rfl) | (exact wk_Q (by omega)) | refine wk_tupL ?_ | refine wk_aggL ?_ | refine joinMax ?_ ?_ ?_ | refine joinMin ?_ ?_ ?_ | refine toMax ?_ | refine toMin ?_ | refine ⟨rfl, ?_⟩ | refine ⟨trivial, ?_⟩ | (refine forkD (fun h => ?_) (fun h => ?_)) | (refine forkNe (fun h => ?_) (fun h => ?_)) | (refine forkEq (fun h => ?_) (fun h => ?_)) | refine forkNot ?_ | (refine ⟨vI64 (by omega), ?_⟩) | (refine And.intro (by omega) ?_) | apply And.intro | (exact iEq (by omega)) | (exact vI64 (by omega))
  rintro x1 ⟨j1, j2⟩
  have err : ∀ {e : Int}, x1 < xs.length → mvErr a l xs ms x1 = e → e ≠ 0 → true = true ∧ wk (.tuple #[.slice none 0 0, .slice none 0 0, .int .i64 e] : Value) (rn (sg 4 []) 3 (drV 4 (fDrift w h a l xs ms))) ∧ (True ∧ True ∧ True) := fun {e} hx1 h3 h4 =>
    drErr (fDr_e (by rw [hE, errUp_at j2 (by rw [h3]; exact h4) hx1, h3]) h4)
  refine forkD (fun k1 => ?_) (fun k1 => ?_)
  · have hx1 : x1 < xs.length := by omega
    have hf1 := hrf (l.getD x1 zeroF) (getD_mem (by omega))
    refine ⟨by omega, partIce hx1, by omega, partFlow (by omega), trivial, fun H' _ _ => kends _ hf1 H', trivial, fun H' _ _ => kCheckIce _ H', forkNe (fun h3 => ?_) (fun h3 => ⟨by omega, boolAt (by omega) (by omega), ?_⟩)⟩
    · exact err hx1 (mvErr_1 h3) h3
    refine ⟨fun ha => ⟨fun q => ?_, fun q => ⟨by omega, boolAt (by omega) (by omega), fun q2 => ?_, fun q2 => ?_⟩⟩, fun ha => ⟨by omega, boolAt (by omega) (by omega), fun q2 => ?_, fun q2 => ?_⟩⟩
    · exact err hx1 (mvErr_2 h3 ha (notB q)) (by decide)
    · rw [ha] at q2; cases q2
    · refine ⟨vI64 (by omega), x1 + 1, ⟨by omega, errUp_succ j2 (mvErr_4 h3 ha (notB2 q))⟩, by omega, rfl, ?_⟩
      repeat' first | exact trivial | exact rfl | exact wk_refl _ | refine wkO_cells ?_ | refine wks_cons ?_ ?_ | exact wks_nil | exact wk_nil _ _ _ (.inl rfl) | (exact wk_Q (by omega)) | refine wk_tupL ?_ | refine wk_aggL ?_ | refine joinMax ?_ ?_ ?_ | refine joinMin ?_ ?_ ?_ | refine toMax ?_ | refine toMin ?_ | refine ⟨rfl, ?_⟩ | refine ⟨trivial, ?_⟩ | (refine forkD (fun h => ?_) (fun h => ?_)) | (refine forkNe (fun h => ?_) (fun h => ?_)) | (refine forkEq (fun h => ?_) (fun h => ?_)) | refine forkNot ?_ | (refine ⟨vI64 (by omega), ?_⟩) | (refine And.intro (by omega) ?_) | apply And.intro | (exact iEq (by omega)) | (exact vI64 (by omega))
    · refine ⟨by omega, (moveAt (by omega)).1, trivial, fun H' _ _ => kin _ _ _ H', fun q3 => ?_, fun q3 => ⟨by omega, (moveAt (by omega)).2, trivial, fun H' _ _ => kin _ _ _ H', fun q4 => ?_, fun q4 => ?_⟩⟩
      · exact err hx1 (mvErr_3 h3 ha (by unfold inMv; rw [notB q3, Bool.false_and])) (by decide)
      · exact err hx1 (mvErr_3 h3 ha (by unfold inMv; rw [notB q4, Bool.and_false])) (by decide)
      · refine ⟨vI64 (by omega), x1 + 1, ⟨by omega, errUp_succ j2 (mvErr_5 h3 ha (by unfold inMv; rw [notB2 q3, notB2 q4]; rfl))⟩, by omega, rfl, ?_⟩
        repeat' first | exact trivial | exact rfl | exact wk_refl _ | refine wkO_cells ?_ | refine wks_cons ?_ ?_ | exact wks_nil | exact wk_nil _ _ _ (.inl rfl) | (exact wk_Q (by omega)) | refine wk_tupL ?_ | refine wk_aggL ?_ | refine joinMax ?_ ?_ ?_ | refine joinMin ?_ ?_ ?_ | refine toMax ?_ | refine toMin ?_ | refine ⟨rfl, ?_⟩ | refine ⟨trivial, ?_⟩ | (refine forkD (fun h => ?_) (fun h => ?_)) | (refine forkNe (fun h => ?_) (fun h => ?_)) | (refine forkEq (fun h => ?_) (fun h => ?_)) | refine forkNot ?_ | (refine ⟨vI64 (by omega), ?_⟩) | (refine And.intro (by omega) ?_) | apply And.intro | (exact iEq (by omega)) | (exact vI64 (by omega))
    · rw [ha] at q2; cases q2
  · obtain rfl : x1 = xs.length := by omega
    have hall := errUp_all j2
    have hxI : ∀ i, i < xs.length → rightI (xs.getD i zeroI) := fun i hi => (mvErr_0 (hall i hi)).1
    have hFD : fDrift w h a l xs ms = (driftI w h a xs ms, driftE w h a xs ms, 0) := by unfold fDrift; rw [if_pos (by rw [hE, j2])]
    refine ⟨by omega, by omega, rfl, Nat.zero_le _, ?_, fun _ => rfl, ?_⟩
    · repeat' first | exact closO rfl rfl (closL_0 _ _ _ _).symm | exact trivial | exact rfl | exact wk_refl _ | refine wkO_cells ?_ | refine wks_cons ?_ ?_ | exact wks_nil | exact wk_nil _ _ _ (.inl rfl) | (exact wk_Q (by omega)) | refine wk_tupL ?_ | refine wk_aggL ?_ | refine joinMax ?_ ?_ ?_ | refine joinMin ?_ ?_ ?_ | refine toMax ?_ | refine toMin ?_ | refine ⟨rfl, ?_⟩ | refine ⟨trivial, ?_⟩ | (refine forkD (fun h => ?_) (fun h => ?_)) | (refine forkNe (fun h => ?_) (fun h => ?_)) | (refine forkEq (fun h => ?_) (fun h => ?_)) | refine forkNot ?_ | (refine ⟨vI64 (by omega), ?_⟩) | (refine And.intro (by omega) ?_) | apply And.intro | (exact iEq (by omega)) | (exact vI64 (by omega))
    rintro x2 hx2
    refine forkD (fun k2 => ?_) (fun k2 => ?_)
    · refine ⟨⟨rfl, by omega, by rw [flat_len plC1_len, List.length_replicate]⟩, ⟨rfl, by omega, by rw [flat_len plC2_len, List.length_replicate]⟩, by omega, by rw [closL_len]; omega, rfl, by omega, by rw [closL_len]; omega, rfl, vI64 (by omega), x2 + 1, by omega, by omega, rfl, ?_⟩
      repeat' first | (exact closO rfl rfl (closL_set (by omega) (by omega))) | exact plainP1 _ _ | exact plainP2 _ _ | ((rw [rep_snoc, List.flatMap_append]; rfl)) | exact trivial | exact rfl | exact wk_refl _ | refine wkO_cells ?_ | refine wks_cons ?_ ?_ | exact wks_nil | exact wk_nil _ _ _ (.inl rfl) | (exact wk_Q (by omega)) | refine wk_tupL ?_ | refine wk_aggL ?_ | refine joinMax ?_ ?_ ?_ | refine joinMin ?_ ?_ ?_ | refine toMax ?_ | refine toMin ?_ | refine ⟨rfl, ?_⟩ | refine ⟨trivial, ?_⟩ | (refine forkD (fun h => ?_) (fun h => ?_)) | (refine forkNe (fun h => ?_) (fun h => ?_)) | (refine forkEq (fun h => ?_) (fun h => ?_)) | refine forkNot ?_ | (refine ⟨vI64 (by omega), ?_⟩) | (refine And.intro (by omega) ?_) | apply And.intro | (exact iEq (by omega)) | (exact vI64 (by omega))
    · obtain rfl : x2 = l.length := by omega
      refine ⟨rfl, Nat.zero_le _, ?_, fun _ => rfl, ?_⟩
      · rw [show List.replicate l.length zeroP = plTo w h a xs ms 0 from by rw [hla]; rfl]
        repeat' first | exact plainP1 _ _ | exact plainP2 _ _ | exact trivial | exact rfl | exact wk_refl _ | refine wkO_cells ?_ | refine wks_cons ?_ ?_ | exact wks_nil | exact wk_nil _ _ _ (.inl rfl) | (exact wk_Q (by omega)) | refine wk_tupL ?_ | refine wk_aggL ?_ | refine joinMax ?_ ?_ ?_ | refine joinMin ?_ ?_ ?_ | refine toMax ?_ | refine toMin ?_ | refine ⟨rfl, ?_⟩ | refine ⟨trivial, ?_⟩ | (refine forkD (fun h => ?_) (fun h => ?_)) | (refine forkNe (fun h => ?_) (fun h => ?_)) | (refine forkEq (fun h => ?_) (fun h => ?_)) | refine forkNot ?_ | (refine ⟨vI64 (by omega), ?_⟩) | (refine And.intro (by omega) ?_) | apply And.intro | (exact iEq (by omega)) | (exact vI64 (by omega))
      rintro x3 hx3
      have hpl := plTo_len w h a xs ms x3
      have hpo := plTo_ok (w := w) (h := h) (a := a) (ms := ms) hx3 hxI
      refine forkD (fun k3 => ?_) (fun k3 => ?_)
      · have hx3' : x3 < xs.length := by omega
        refine ⟨by omega, partIce hx3', ⟨rfl, trivial⟩, fun H' _ hd => kis hb hd.1, fun q => ?_, fun q => ?_⟩
        · have hs : a.getD x3 false = false := by rw [seaN (by omega)] at q; exact notB q
          have hmv := inMv_ok (hrf _ (getD_mem (by omega))) ((mvErr_0 (hall x3 hx3')).2.2 hs)
          have hc : 0 ≤ (x3 : Int) ∧ (x3 : Int) < w * h := by omega
          have htb := targ_bd (a := a) hc (ms.getD x3 zeroM)
          have h2 := plTo_2 (w := w) (h := h) (xs := xs) (ms := ms) hs
          have hd : Int.toNat (targ w h a (x3 : Int) (ms.getD x3 zeroM)) < (plTo w h a xs ms x3).length := by omega
          have hP := hpo (Int.toNat (targ w h a (x3 : Int) (ms.getD x3 zeroM)))
          have hX := hxI x3 hx3'
          generalize hP0 : (plTo w h a xs ms x3).getD (Int.toNat (targ w h a (x3 : Int) (ms.getD x3 zeroM))) zeroP = p at *
          refine ⟨by omega, partMove (by omega), ⟨rfl, trivial⟩, fun H' _ hd => ktarget hb hc hmv hd.1, by omega, closL_get (by omega) (by omega) (by omega), forkEq (fun q2 => ?_) (fun q2 => ?_)⟩
          · have h3 : plTo w h a xs ms (x3 + 1) = plTo w h a xs ms x3 := by
              rw [h2, ← hP0, show addP ((plTo w h a xs ms x3).getD (Int.toNat (targ w h a (x3 : Int) (ms.getD x3 zeroM))) zeroP) (xs.getD x3 zeroI) = (plTo w h a xs ms x3).getD (Int.toNat (targ w h a (x3 : Int) (ms.getD x3 zeroM))) zeroP from if_pos q2]
              exact set_same
            refine ⟨vI64 (by omega), x3 + 1, by omega, by omega, rfl, ?_⟩
            rw [h3]
            repeat' first | exact plainP1 _ _ | exact plainP2 _ _ | exact trivial | exact rfl | exact wk_refl _ | refine wkO_cells ?_ | refine wks_cons ?_ ?_ | exact wks_nil | exact wk_nil _ _ _ (.inl rfl) | (exact wk_Q (by omega)) | refine wk_tupL ?_ | refine wk_aggL ?_ | refine joinMax ?_ ?_ ?_ | refine joinMin ?_ ?_ ?_ | refine toMax ?_ | refine toMin ?_ | refine ⟨rfl, ?_⟩ | refine ⟨trivial, ?_⟩ | (refine forkD (fun h => ?_) (fun h => ?_)) | (refine forkNe (fun h => ?_) (fun h => ?_)) | (refine forkEq (fun h => ?_) (fun h => ?_)) | refine forkNot ?_ | (refine ⟨vI64 (by omega), ?_⟩) | (refine And.intro (by omega) ?_) | apply And.intro | (exact iEq (by omega)) | (exact vI64 (by omega))
          · have hA : addP p (xs.getD x3 zeroI) = ⟨p.s + (xs.getD x3 zeroI).conc, max p.t (xs.getD x3 zeroI).thick, max p.r (xs.getD x3 zeroI).ridge⟩ := if_neg q2
            obtain ⟨hp1, hp2, hp3⟩ := hP
            obtain ⟨hx1', hx2', hx3'', hx4'⟩ := hX
            have s1 := pl1Set hd (addP p (xs.getD x3 zeroI))
            have s2 := pl2Set hd (addP p (xs.getD x3 zeroI))
            rw [← h2, hA] at s1 s2
            refine ⟨by rw [← hP0]; exact pl1At hd, vI64 (by omega), by rw [flat_len plC1_len]; omega, rfl, by rw [← hP0]; exact (pl2At hd).1, toMax ⟨by rw [← hP0]; exact (pl2At hd).2, toMax ⟨by rw [flat_len plC2_len]; omega, rfl, ?_, rfl, vI64 (by omega), x3 + 1, by omega, by omega, rfl, ?_⟩⟩⟩
            · rw [setl_length, flat_len plC2_len]; omega
            · rw [s1, s2]
              repeat' first | exact plainP1 _ _ | exact plainP2 _ _ | exact trivial | exact rfl | exact wk_refl _ | refine wkO_cells ?_ | refine wks_cons ?_ ?_ | exact wks_nil | exact wk_nil _ _ _ (.inl rfl) | (exact wk_Q (by omega)) | refine wk_tupL ?_ | refine wk_aggL ?_ | refine joinMax ?_ ?_ ?_ | refine joinMin ?_ ?_ ?_ | refine toMax ?_ | refine toMin ?_ | refine ⟨rfl, ?_⟩ | refine ⟨trivial, ?_⟩ | (refine forkD (fun h => ?_) (fun h => ?_)) | (refine forkNe (fun h => ?_) (fun h => ?_)) | (refine forkEq (fun h => ?_) (fun h => ?_)) | refine forkNot ?_ | (refine ⟨vI64 (by omega), ?_⟩) | (refine And.intro (by omega) ?_) | apply And.intro | (exact iEq (by omega)) | (exact vI64 (by omega))
        · have hs : a.getD x3 false = true := by rw [seaN (by omega)] at q; exact notB2 q
          refine ⟨vI64 (by omega), x3 + 1, by omega, by omega, rfl, ?_⟩
          rw [plTo_1 hs]
          repeat' first | exact plainP1 _ _ | exact plainP2 _ _ | exact trivial | exact rfl | exact wk_refl _ | refine wkO_cells ?_ | refine wks_cons ?_ ?_ | exact wks_nil | exact wk_nil _ _ _ (.inl rfl) | (exact wk_Q (by omega)) | refine wk_tupL ?_ | refine wk_aggL ?_ | refine joinMax ?_ ?_ ?_ | refine joinMin ?_ ?_ ?_ | refine toMax ?_ | refine toMin ?_ | refine ⟨rfl, ?_⟩ | refine ⟨trivial, ?_⟩ | (refine forkD (fun h => ?_) (fun h => ?_)) | (refine forkNe (fun h => ?_) (fun h => ?_)) | (refine forkEq (fun h => ?_) (fun h => ?_)) | refine forkNot ?_ | (refine ⟨vI64 (by omega), ?_⟩) | (refine And.intro (by omega) ?_) | apply And.intro | (exact iEq (by omega)) | (exact vI64 (by omega))
      · obtain rfl : x3 = xs.length := by omega
        refine ⟨rfl, Nat.zero_le _, ?_, fun _ => rfl, ?_⟩
        · repeat' first | exact trivial | exact rfl | exact wk_refl _ | refine wkO_cells ?_ | refine wks_cons ?_ ?_ | exact wks_nil | exact wk_nil _ _ _ (.inl rfl) | (exact wk_Q (by omega)) | refine wk_tupL ?_ | refine wk_aggL ?_ | refine joinMax ?_ ?_ ?_ | refine joinMin ?_ ?_ ?_ | refine toMax ?_ | refine toMin ?_ | refine ⟨rfl, ?_⟩ | refine ⟨trivial, ?_⟩ | (refine forkD (fun h => ?_) (fun h => ?_)) | (refine forkNe (fun h => ?_) (fun h => ?_)) | (refine forkEq (fun h => ?_) (fun h => ?_)) | refine forkNot ?_ | (refine ⟨vI64 (by omega), ?_⟩) | (refine And.intro (by omega) ?_) | apply And.intro | (exact iEq (by omega)) | (exact vI64 (by omega))
        rintro x4 hx4
        have hIl : (driftI w h a xs ms).length = l.length := by unfold driftI; rw [List.length_map, hpl, hla]
        have hEl : (driftE w h a xs ms).length = l.length := by unfold driftE; rw [List.length_map, hpl, hla]
        refine forkD (fun k4 => ?_) (fun k4 => ?_)
        · have hd : x4 < (plTo w h a xs ms xs.length).length := by omega
          have hI : (driftI w h a xs ms).take (x4 + 1) = (driftI w h a xs ms).take x4 ++ [tellP ((plTo w h a xs ms xs.length).getD x4 zeroP)] := map_take hd
          have hO : (driftE w h a xs ms).take (x4 + 1) = (driftE w h a xs ms).take x4 ++ [overP ((plTo w h a xs ms xs.length).getD x4 zeroP)] := map_take hd
          have a1 := pl1At hd
          have a2 := pl2At hd
          obtain ⟨hp1, hp2, hp3⟩ := hpo x4
          generalize (plTo w h a xs ms xs.length).getD x4 zeroP = p at *
          have hov : (if (0 : Int) > p.s - 100 then (0 : Int) else p.s - 100) = overP p := by unfold overP; rw [ite_max]
          have ho : 0 ≤ overP p ∧ overP p ≤ p.s := by unfold overP; omega
          have d1 := tdiv_bd (d := 10) ho.1 (by decide)
          have d2 := tdiv_bd (d := 5) ho.1 (by decide)
          have d3 := tdiv_bd (o := overP p + 25 - 1) (d := 25) (by omega) (by decide)
          have l1 : ((driftI w h a xs ms).take x4).length = x4 := by rw [List.length_take]; omega
          have l2 : ((driftE w h a xs ms).take x4).length = x4 := by rw [List.length_take]; omega
          have b1 := ob_snoc (own := true) iceC_len hI rfl
          have b2 := ob_snoc (own := true) intC_len hO rfl
          rw [l1] at b1
          rw [l2] at b2
          have c1 := flat_le iceC_len ((driftI w h a xs ms).take x4)
          have c2 := flat_le intC_len ((driftE w h a xs ms).take x4)
          rw [l1] at c1
          rw [l2] at c2
          rw [hov]
          refine ⟨by omega, closL_get (by omega) (by omega) (by omega), a1, vI64 (by omega), a1, vI64 (by omega), a2.1, vI64 (by omega), vI64 (by omega), toMin ⟨a2.2, vI64 (by omega), vI64 (by omega), toMin ⟨vI64 (by omega), vI64 (by omega), vI64 (by omega), toMin ?_⟩⟩⟩
          repeat' first | (refine ⟨x4 + 1, by omega, by omega, rfl, ?_⟩) | exact b1 | exact b2 | exact plainXL _ _ | exact plainIL _ _ | exact c1 | exact c2 | exact Nat.le_refl _ | exact trivial | exact rfl | exact wk_refl _ | refine wkO_cells ?_ | refine wks_cons ?_ ?_ | exact wks_nil | exact wk_nil _ _ _ (.inl rfl) | (exact wk_Q (by omega)) | refine wk_tupL ?_ | refine wk_aggL ?_ | refine joinMax ?_ ?_ ?_ | refine joinMin ?_ ?_ ?_ | refine toMax ?_ | refine toMin ?_ | refine ⟨rfl, ?_⟩ | refine ⟨trivial, ?_⟩ | (refine forkD (fun h => ?_) (fun h => ?_)) | (refine forkNe (fun h => ?_) (fun h => ?_)) | (refine forkEq (fun h => ?_) (fun h => ?_)) | refine forkNot ?_ | (refine ⟨vI64 (by omega), ?_⟩) | (refine And.intro (by omega) ?_) | apply And.intro | (exact iEq (by omega)) | (exact vI64 (by omega))
        · obtain rfl : x4 = l.length := by omega
          rw [hFD]
          dsimp only
          rw [show (driftI w h a xs ms).take l.length = driftI w h a xs ms from List.take_of_length_le (by omega), show (driftE w h a xs ms).take l.length = driftE w h a xs ms from List.take_of_length_le (by omega), hIl, hEl]
          repeat' first | exact plainXL _ _ | exact plainIL _ _ | exact trivial | exact rfl | exact wk_refl _ | refine wkO_cells ?_ | refine wks_cons ?_ ?_ | exact wks_nil | exact wk_nil _ _ _ (.inl rfl) | (exact wk_Q (by omega)) | refine wk_tupL ?_ | refine wk_aggL ?_ | refine joinMax ?_ ?_ ?_ | refine joinMin ?_ ?_ ?_ | refine toMax ?_ | refine toMin ?_ | refine ⟨rfl, ?_⟩ | refine ⟨trivial, ?_⟩ | (refine forkD (fun h => ?_) (fun h => ?_)) | (refine forkNe (fun h => ?_) (fun h => ?_)) | (refine forkEq (fun h => ?_) (fun h => ?_)) | refine forkNot ?_ | (refine ⟨vI64 (by omega), ?_⟩) | (refine And.intro (by omega) ?_) | apply And.intro | (exact iEq (by omega)) | (exact vI64 (by omega))
end
end Go.Proofs.Ytkkgnalgmebfjaa
/- Drift: what becomes of a chart after a step. No condition. -/
namespace Go.Proofs.Ytkkgnalgmebfjaa
set_option linter.unusedSimpArgs false
set_option linter.unusedVariables false
open Go Go.K
noncomputable section
def loI (c : Cell) : Ice := ⟨c.conc.lo, c.thick.lo, c.ridge.lo, c.press.lo⟩
def hiI (c : Cell) : Ice := ⟨c.conc.hi, c.thick.hi, c.ridge.hi, c.press.hi⟩
def cellOf (a z : Ice) : Cell := ⟨⟨a.conc, z.conc⟩, ⟨a.thick, z.thick⟩, ⟨a.ridge, z.ridge⟩, ⟨a.press, z.press⟩⟩
def addAt (ps : List Pl) (t : Int) (x : Ice) : List Pl := ps.set (Int.toNat t) (addP (ps.getD (Int.toNat t) zeroP) x)
def addTo (ps : List Pl) (ts : List Int) (x : Ice) : List Pl := ts.foldl (fun ps t => addAt ps t x) ps
/-- Where the ice of a cell can go. -/
def TG (w h : Int) (a : List Bool) (l : List Flow) (k : Nat) : List Int := tgts w h a (k : Int) (l.getD k zeroF)
/-- What may, and what must have come to each cell from the first ones. -/
def mayTo (w h : Int) (a : List Bool) (l : List Flow) (cs : List Cell) : Nat → List Pl
  | 0 => List.replicate a.length zeroP
  | k + 1 => if a.getD k false = true then mayTo w h a l cs k else addTo (mayTo w h a l cs k) (TG w h a l k) (hiI (cs.getD k zeroC))
def mustTo (w h : Int) (a : List Bool) (l : List Flow) (cs : List Cell) : Nat → List Pl
  | 0 => List.replicate a.length zeroP
  | k + 1 => if a.getD k false = true then mustTo w h a l cs k else if (TG w h a l k).length = 1 then addAt (mustTo w h a l cs k) ((TG w h a l k).getD 0 0) (loI (cs.getD k zeroC)) else mustTo w h a l cs k
def stepC (w h : Int) (a : List Bool) (l : List Flow) (cs : List Cell) (k : Nat) : Cell := cellOf (tellP ((mustTo w h a l cs cs.length).getD k zeroP)) (tellP ((mayTo w h a l cs cs.length).getD k zeroP))
def stepL (w h : Int) (a : List Bool) (l : List Flow) (cs : List Cell) : List Cell := tabP (stepC w h a l cs) a.length
def isZC (c : Cell) : Bool := (c.conc.lo == 0 && (c.conc.hi == 0 && true)) && ((c.thick.lo == 0 && (c.thick.hi == 0 && true)) && ((c.ridge.lo == 0 && (c.ridge.hi == 0 && true)) && ((c.press.lo == 0 && (c.press.hi == 0 && true)) && true)))
def errSides (w h w' h' t : Int) (cs : List Cell) : Int := first2 (errChart w' h' t cs) (if w' = w ∧ h' = h then 0 else 1)
def dryErr (a : List Bool) (cs : List Cell) (k : Nat) : Int := if a.getD k false = true then (if isZC (cs.getD k zeroC) = true then 0 else 30) else 0
def errDry (a : List Bool) (cs : List Cell) : Int := errUp (dryErr a cs) cs.length
def errFits (w h : Int) (a : List Bool) (w' h' t : Int) (cs : List Cell) : Int := first2 (errSides w h w' h' t cs) (errDry a cs)
def fStep (w h : Int) (a : List Bool) (l : List Flow) (w' h' t : Int) (cs : List Cell) : Chart × Int :=
  if errFlows w h a.length l = 0 then (if errFits w h a w' h' t cs = 0 then (if t = 10000 then (zeroChart, 6) else (⟨w', h', t + 1, stepL w h a l cs⟩, 0)) else (zeroChart, errFits w h a w' h' t cs)) else (zeroChart, errFlows w h a.length l)
end
end Go.Proofs.Ytkkgnalgmebfjaa
