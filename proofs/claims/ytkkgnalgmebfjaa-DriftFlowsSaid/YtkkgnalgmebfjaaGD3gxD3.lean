/- What is to be shown of functions. Printed by a program. No condition. -/
import Derived.Test.YtkkgnalgmebfjaaGK27xD3a
namespace Go.Proofs.Ytkkgnalgmebfjaa
set_option linter.unusedSimpArgs false
open Go Go.K
set_option maxRecDepth 100000
set_option maxHeartbeats 4000000
set_option linter.unusedVariables false
noncomputable section
def Rmoves (f : Flow) : Prop :=
  ((True) ∧ (∀ H' : Heap, H'.length = 1 → (True) → KCall prog 58 [.agg #[.int .i64 f.x.lo, .int .i64 f.x.hi, .int .i64 f.y.lo, .int .i64 f.y.hi]] H' [] (Is (.tuple #[.agg #[.int .i64 (endA f).dx, .int .i64 (endA f).dy], .agg #[.int .i64 (endZ f).dx, .int .i64 (endZ f).dy]]) H')) ∧ (true = true ∧ (0 ≤ nyF f) ∧ (true = true ∧ ((.int .i64 (endA f).dy : Value) = .int .i64 ((endA f).dy + ((0 : Nat) : Int)) ∧ wk (.slice none 0 0 : Value) (.slice (some ⟨0, 0, some 1⟩) (List.length (mvTo f 0)) (List.length (mvTo f 0)) : Value) ∧ (.slice none 0 0 : Value) = .slice none 0 0 ∧ (.pointer (some ⟨1, 0, none⟩) : Value) = .pointer (some ⟨1, 0, none⟩) ∧ (.pointer (some ⟨2, 0, none⟩) : Value) = .pointer (some ⟨2, 0, none⟩) ∧ True) ∧ ((some (.cells true 0 [.int .i64 f.x.lo, .int .i64 f.x.hi, .int .i64 f.y.lo, .int .i64 f.y.hi] : KObj) = some (.cells true 0 [.int .i64 f.x.lo, .int .i64 f.x.hi, .int .i64 f.y.lo, .int .i64 f.y.hi] : KObj) ∧ belowO 3 (.cells true 0 [.int .i64 f.x.lo, .int .i64 f.x.hi, .int .i64 f.y.lo, .int .i64 f.y.hi] : KObj) = true) ∧ (some (.cells true 0 [.int .i64 (endA f).dx, .int .i64 (endA f).dy] : KObj) = some (.cells true 0 [.int .i64 (endA f).dx, .int .i64 (endA f).dy] : KObj) ∧ belowO 3 (.cells true 0 [.int .i64 (endA f).dx, .int .i64 (endA f).dy] : KObj) = true) ∧ (some (.cells true 0 [.int .i64 (endZ f).dx, .int .i64 (endZ f).dy] : KObj) = some (.cells true 0 [.int .i64 (endZ f).dx, .int .i64 (endZ f).dy] : KObj) ∧ belowO 3 (.cells true 0 [.int .i64 (endZ f).dx, .int .i64 (endZ f).dy] : KObj) = true) ∧ True) ∧ (True ∧ True) ∧ (True)) ∧ (∀ x1 : Nat, true = true) ∧ ∀ x1 : Nat, (x1 ≤ nyF f) → (((decide ((((endA f).dy + ((x1 : Nat) : Int)) : Int) ≤ (endZ f).dy)) = true → (true = true ∧ (0 ≤ nxF f) ∧ (true = true ∧ ((.int .i64 (endA f).dx : Value) = .int .i64 ((endA f).dx + ((0 : Nat) : Int)) ∧ wk (.slice (some ⟨3, 0, some 1⟩) (List.length (mvTo f x1)) (List.length (mvTo f x1)) : Value) (.slice (some ⟨3, 0, some 1⟩) (List.length (mvTo f x1 ++ mvRow f x1 0)) (List.length (mvTo f x1 ++ mvRow f x1 0)) : Value) ∧ (.pointer (some ⟨2, 0, none⟩) : Value) = .pointer (some ⟨2, 0, none⟩) ∧ (.pointer (some ⟨1, 0, none⟩) : Value) = .pointer (some ⟨1, 0, none⟩) ∧ (.slice none 0 0 : Value) = .slice none 0 0 ∧ (.int .i64 ((endA f).dy + ((x1 : Nat) : Int)) : Value) = .int .i64 ((endA f).dy + ((x1 : Nat) : Int)) ∧ True) ∧ (True ∧ (some (.cells true 0 [.int .i64 (endA f).dx, .int .i64 (endA f).dy] : KObj) = some (.cells true 0 [.int .i64 (endA f).dx, .int .i64 (endA f).dy] : KObj) ∧ belowO 4 (.cells true 0 [.int .i64 (endA f).dx, .int .i64 (endA f).dy] : KObj) = true) ∧ (some (.cells true 0 [.int .i64 (endZ f).dx, .int .i64 (endZ f).dy] : KObj) = some (.cells true 0 [.int .i64 (endZ f).dx, .int .i64 (endZ f).dy] : KObj) ∧ belowO 4 (.cells true 0 [.int .i64 (endZ f).dx, .int .i64 (endZ f).dy] : KObj) = true) ∧ True) ∧ ((some (.cells true 2 (List.flatMap moveC (mvTo f x1)) : KObj) = some (.cells true 2 (List.flatMap moveC (mvTo f x1 ++ mvRow f x1 0)) : KObj) ∧ belowO 4 (.cells true 2 (List.flatMap moveC (mvTo f x1 ++ mvRow f x1 0)) : KObj) = true) ∧ True) ∧ (True)) ∧ (∀ x2 : Nat, true = true) ∧ ∀ x2 : Nat, (x2 ≤ nxF f) → (((decide ((((endA f).dx + ((x2 : Nat) : Int)) : Int) ≤ (endZ f).dx)) = true → ((((List.length (mvTo f x1 ++ mvRow f x1 x2)) + 1) * 16 ≤ 2 ^ 44 ∧ 1 ≠ 0 ∧ ((List.length (mvTo f x1 ++ mvRow f x1 x2)) ≤ (List.length (mvTo f x1 ++ mvRow f x1 x2)) ∧ 0 + (List.length (mvTo f x1 ++ mvRow f x1 x2)) * 2 ≤ List.length (List.flatMap moveC (mvTo f x1 ++ mvRow f x1 x2))) ∧ (1 ≤ 1 ∧ 0 + 1 * 2 ≤ List.length ([.int .i64 ((endA f).dx + ((x2 : Nat) : Int)), .int .i64 ((endA f).dy + ((x1 : Nat) : Int))] : List Value)) ∧ ((List.take (1 * 2) (List.drop 0 ([.int .i64 ((endA f).dx + ((x2 : Nat) : Int)), .int .i64 ((endA f).dy + ((x1 : Nat) : Int))] : List Value))) : List Value).all (fun v => one1 v) = true) ∧ true = true ∧ ((.int .i64 (IntKind.wrap .i64 (((endA f).dx + ((x2 : Nat) : Int)) + 1)) : Value) = .int .i64 (((endA f).dx + ((x2 : Nat) : Int)) + 1) ∧ (∃ x2' : Nat, (x2' ≤ nxF f) ∧ (nxF f - x2') < (nxF f - x2) ∧ true = true ∧ ((.int .i64 (((endA f).dx + ((x2 : Nat) : Int)) + 1) : Value) = .int .i64 ((endA f).dx + ((x2' : Nat) : Int)) ∧ wk (.slice (some ⟨6, 0, none⟩) ((List.length (mvTo f x1 ++ mvRow f x1 x2)) + 1) ((List.length (mvTo f x1 ++ mvRow f x1 x2)) + 1) : Value) (.slice (some ⟨6, 0, some 1⟩) (List.length (mvTo f x1 ++ mvRow f x1 x2')) (List.length (mvTo f x1 ++ mvRow f x1 x2')) : Value) ∧ (.pointer (some ⟨2, 0, none⟩) : Value) = .pointer (some ⟨2, 0, none⟩) ∧ (.pointer (some ⟨1, 0, none⟩) : Value) = .pointer (some ⟨1, 0, none⟩) ∧ (.slice none 0 0 : Value) = .slice none 0 0 ∧ (.int .i64 ((endA f).dy + ((x1 : Nat) : Int)) : Value) = .int .i64 ((endA f).dy + ((x1 : Nat) : Int)) ∧ True) ∧ (True ∧ (some (.cells true 0 [.int .i64 (endA f).dx, .int .i64 (endA f).dy] : KObj) = some (.cells true 0 [.int .i64 (endA f).dx, .int .i64 (endA f).dy] : KObj) ∧ belowO 4 (.cells true 0 [.int .i64 (endA f).dx, .int .i64 (endA f).dy] : KObj) = true) ∧ (some (.cells true 0 [.int .i64 (endZ f).dx, .int .i64 (endZ f).dy] : KObj) = some (.cells true 0 [.int .i64 (endZ f).dx, .int .i64 (endZ f).dy] : KObj) ∧ belowO 4 (.cells true 0 [.int .i64 (endZ f).dx, .int .i64 (endZ f).dy] : KObj) = true) ∧ True) ∧ ((some (.cells true 2 ((List.take ((List.length (mvTo f x1 ++ mvRow f x1 x2)) * 2) (List.drop 0 (List.flatMap moveC (mvTo f x1 ++ mvRow f x1 x2)))) ++ (List.take (1 * 2) (List.drop 0 ([.int .i64 ((endA f).dx + ((x2 : Nat) : Int)), .int .i64 ((endA f).dy + ((x1 : Nat) : Int))] : List Value)))) : KObj) = some (.cells true 2 (List.flatMap moveC (mvTo f x1 ++ mvRow f x1 x2')) : KObj) ∧ belowO 4 (.cells true 2 (List.flatMap moveC (mvTo f x1 ++ mvRow f x1 x2')) : KObj) = true) ∧ True) ∧ (True))))) ∧ ((decide ((((endA f).dx + ((x2 : Nat) : Int)) : Int) ≤ (endZ f).dx)) = false → ((.int .i64 (IntKind.wrap .i64 (((endA f).dy + ((x1 : Nat) : Int)) + 1)) : Value) = .int .i64 (((endA f).dy + ((x1 : Nat) : Int)) + 1) ∧ (∃ x1' : Nat, (x1' ≤ nyF f) ∧ (nyF f - x1') < (nyF f - x1) ∧ true = true ∧ ((.int .i64 (((endA f).dy + ((x1 : Nat) : Int)) + 1) : Value) = .int .i64 ((endA f).dy + ((x1' : Nat) : Int)) ∧ wk (.slice (some ⟨4, 0, some 1⟩) (List.length (mvTo f x1 ++ mvRow f x1 x2)) (List.length (mvTo f x1 ++ mvRow f x1 x2)) : Value) (.slice (some ⟨4, 0, some 1⟩) (List.length (mvTo f x1')) (List.length (mvTo f x1')) : Value) ∧ (.slice none 0 0 : Value) = .slice none 0 0 ∧ (.pointer (some ⟨1, 0, none⟩) : Value) = .pointer (some ⟨1, 0, none⟩) ∧ (.pointer (some ⟨2, 0, none⟩) : Value) = .pointer (some ⟨2, 0, none⟩) ∧ True) ∧ ((some (.cells true 0 [.int .i64 f.x.lo, .int .i64 f.x.hi, .int .i64 f.y.lo, .int .i64 f.y.hi] : KObj) = some (.cells true 0 [.int .i64 f.x.lo, .int .i64 f.x.hi, .int .i64 f.y.lo, .int .i64 f.y.hi] : KObj) ∧ belowO 3 (.cells true 0 [.int .i64 f.x.lo, .int .i64 f.x.hi, .int .i64 f.y.lo, .int .i64 f.y.hi] : KObj) = true) ∧ (some (.cells true 0 [.int .i64 (endA f).dx, .int .i64 (endA f).dy] : KObj) = some (.cells true 0 [.int .i64 (endA f).dx, .int .i64 (endA f).dy] : KObj) ∧ belowO 3 (.cells true 0 [.int .i64 (endA f).dx, .int .i64 (endA f).dy] : KObj) = true) ∧ (some (.cells true 0 [.int .i64 (endZ f).dx, .int .i64 (endZ f).dy] : KObj) = some (.cells true 0 [.int .i64 (endZ f).dx, .int .i64 (endZ f).dy] : KObj) ∧ belowO 3 (.cells true 0 [.int .i64 (endZ f).dx, .int .i64 (endZ f).dy] : KObj) = true) ∧ True) ∧ ((some (.cells true 2 (List.flatMap moveC (mvTo f x1 ++ mvRow f x1 x2)) : KObj) = some (.cells true 2 (List.flatMap moveC (mvTo f x1')) : KObj) ∧ belowO 3 (.cells true 2 (List.flatMap moveC (mvTo f x1')) : KObj) = true) ∧ True) ∧ (True))))))) ∧ ((decide ((((endA f).dy + ((x1 : Nat) : Int)) : Int) ≤ (endZ f).dy)) = false → (true = true ∧ wk (.slice (some ⟨3, 0, some 1⟩) (List.length (mvTo f x1)) (List.length (mvTo f x1)) : Value) (rn (sg 0 [(0, 3)]) 3 (.slice (some ⟨0, 0, some 1⟩) (List.length (movesF f)) (List.length (movesF f)) : Value)) ∧ ((some (.cells true 2 (List.flatMap moveC (mvTo f x1)) : KObj) = some (.cells true 2 (List.flatMap moveC (movesF f)) : KObj) ∧ belowO 0 (.cells true 2 (List.flatMap moveC (movesF f)) : KObj) = true) ∧ True))))))
theorem Emoves (f : Flow) : vF prog msk (dm 0) 100000 true 40 true 76 [.agg #[.int .i64 f.x.lo, .int .i64 f.x.hi, .int .i64 f.y.lo, .int .i64 f.y.hi]] ⟨0, .leaf⟩ (some [])
  (.go 2 (.ans [] (.tuple #[.agg #[.int .i64 (endA f).dx, .int .i64 (endA f).dy], .agg #[.int .i64 (endZ f).dx, .int .i64 (endZ f).dy]]) [] (.go 10 (.inv 3 (Nat) (0) [] [0, 1, 2] (fun x1 => [(6, .int .i64 ((endA f).dy + ((x1 : Nat) : Int))), (5, .slice (some ⟨3, 0, some 1⟩) (List.length (mvTo f x1)) (List.length (mvTo f x1))), (2, .slice none 0 0), (3, .pointer (some ⟨1, 0, none⟩)), (4, .pointer (some ⟨2, 0, none⟩))]) (fun x1 => [(0, true, .cells true 0 [.int .i64 f.x.lo, .int .i64 f.x.hi, .int .i64 f.y.lo, .int .i64 f.y.hi]), (1, true, .cells true 0 [.int .i64 (endA f).dx, .int .i64 (endA f).dy]), (2, true, .cells true 0 [.int .i64 (endZ f).dx, .int .i64 (endZ f).dy])]) (fun x1 => [(true, .cells true 2 (List.flatMap moveC (mvTo f x1)))]) (fun x1 => []) (fun x1 => (x1 ≤ nyF f)) (fun x1 => (nyF f - x1)) (fun x1 => .go 3 (.fork (.go 2 (.inv 3 (Nat) (0) [(4, 3)] [3, 1, 2] (fun x2 => [(7, .int .i64 ((endA f).dx + ((x2 : Nat) : Int))), (5, .slice (some ⟨4, 0, some 1⟩) (List.length (mvTo f x1 ++ mvRow f x1 x2)) (List.length (mvTo f x1 ++ mvRow f x1 x2))), (4, .pointer (some ⟨2, 0, none⟩)), (3, .pointer (some ⟨1, 0, none⟩)), (2, .slice none 0 0), (6, .int .i64 ((endA f).dy + ((x1 : Nat) : Int)))]) (fun x2 => [(3, false, .dead), (1, true, .cells true 0 [.int .i64 (endA f).dx, .int .i64 (endA f).dy]), (2, true, .cells true 0 [.int .i64 (endZ f).dx, .int .i64 (endZ f).dy])]) (fun x2 => [(true, .cells true 2 (List.flatMap moveC (mvTo f x1 ++ mvRow f x1 x2)))]) (fun x2 => []) (fun x2 => (x2 ≤ nxF f)) (fun x2 => (nxF f - x2)) (fun x2 => .go 3 (.fork (.go 4 (.need (.go 2 (.slot 28 (.int .i64 (((endA f).dx + ((x2 : Nat) : Int)) + 1)) (.go 0 (.again [(4, 6)])))))) (.go 1 (.slot 20 (.int .i64 (((endA f).dy + ((x1 : Nat) : Int)) + 1)) (.go 0 (.again [(3, 4)])))))))) (.go 1 (.again [(0, 3)]))))))))
  (newK (⟨0, .leaf⟩ : HT).n 3 (.slice (some ⟨0, 0, some 1⟩) (List.length (movesF f)) (List.length (movesF f))) [(true, .cells true 2 (List.flatMap moveC (movesF f)))]) = Rmoves f := by kernel_rfl
def RMoves (f : Flow) : Prop :=
  (((decide (((-2000) : Int) ≤ f.x.lo)) = true → (((decide ((f.x.lo : Int) ≤ 2000)) = true → (((decide ((f.x.lo : Int) ≤ f.x.hi)) = true → (((!(decide ((f.x.hi : Int) ≤ 2000))) = true → (true = true ∧ wk (.tuple #[.slice none 0 0, .int .i64 30] : Value) (rn (sg 0 []) 3 (.tuple #[.slice (some ⟨0, 0, some 1⟩) (List.length (fMoves f).1) (List.length (fMoves f).1), .int .i64 (fMoves f).2] : Value)) ∧ (True ∧ True))) ∧ ((!(decide ((f.x.hi : Int) ≤ 2000))) = false → (((decide (((-2000) : Int) ≤ f.y.lo)) = true → (((decide ((f.y.lo : Int) ≤ 2000)) = true → (((decide ((f.y.lo : Int) ≤ f.y.hi)) = true → (((!(decide ((f.y.hi : Int) ≤ 2000))) = true → (true = true ∧ wk (.tuple #[.slice none 0 0, .int .i64 30] : Value) (rn (sg 0 []) 3 (.tuple #[.slice (some ⟨0, 0, some 1⟩) (List.length (fMoves f).1) (List.length (fMoves f).1), .int .i64 (fMoves f).2] : Value)) ∧ (True ∧ True))) ∧ ((!(decide ((f.y.hi : Int) ≤ 2000))) = false → ((True) ∧ (∀ H' : Heap, H'.length = 1 → (True) → KCall prog 76 [.agg #[.int .i64 f.x.lo, .int .i64 f.x.hi, .int .i64 f.y.lo, .int .i64 f.y.hi]] H' [] (Is (.slice (some ⟨1, 0, some 1⟩) (List.length (movesF f)) (List.length (movesF f))) (H' ++ [(.cells true 2 (List.flatMap moveC (movesF f)) : KObj)]))) ∧ (true = true ∧ wk (.tuple #[.slice (some ⟨1, 0, some 1⟩) (List.length (movesF f)) (List.length (movesF f)), .int .i64 0] : Value) (rn (sg 0 [(0, 1)]) 3 (.tuple #[.slice (some ⟨0, 0, some 1⟩) (List.length (fMoves f).1) (List.length (fMoves f).1), .int .i64 (fMoves f).2] : Value)) ∧ ((some (.cells true 2 (List.flatMap moveC (movesF f)) : KObj) = some (.cells true 2 (List.flatMap moveC (fMoves f).1) : KObj) ∧ belowO 0 (.cells true 2 (List.flatMap moveC (fMoves f).1) : KObj) = true) ∧ True)))))) ∧ ((decide ((f.y.lo : Int) ≤ f.y.hi)) = false → (true = true ∧ wk (.tuple #[.slice none 0 0, .int .i64 30] : Value) (rn (sg 0 []) 3 (.tuple #[.slice (some ⟨0, 0, some 1⟩) (List.length (fMoves f).1) (List.length (fMoves f).1), .int .i64 (fMoves f).2] : Value)) ∧ (True ∧ True))))) ∧ ((decide ((f.y.lo : Int) ≤ 2000)) = false → (true = true ∧ wk (.tuple #[.slice none 0 0, .int .i64 30] : Value) (rn (sg 0 []) 3 (.tuple #[.slice (some ⟨0, 0, some 1⟩) (List.length (fMoves f).1) (List.length (fMoves f).1), .int .i64 (fMoves f).2] : Value)) ∧ (True ∧ True))))) ∧ ((decide (((-2000) : Int) ≤ f.y.lo)) = false → (true = true ∧ wk (.tuple #[.slice none 0 0, .int .i64 30] : Value) (rn (sg 0 []) 3 (.tuple #[.slice (some ⟨0, 0, some 1⟩) (List.length (fMoves f).1) (List.length (fMoves f).1), .int .i64 (fMoves f).2] : Value)) ∧ (True ∧ True))))))) ∧ ((decide ((f.x.lo : Int) ≤ f.x.hi)) = false → (true = true ∧ wk (.tuple #[.slice none 0 0, .int .i64 30] : Value) (rn (sg 0 []) 3 (.tuple #[.slice (some ⟨0, 0, some 1⟩) (List.length (fMoves f).1) (List.length (fMoves f).1), .int .i64 (fMoves f).2] : Value)) ∧ (True ∧ True))))) ∧ ((decide ((f.x.lo : Int) ≤ 2000)) = false → (true = true ∧ wk (.tuple #[.slice none 0 0, .int .i64 30] : Value) (rn (sg 0 []) 3 (.tuple #[.slice (some ⟨0, 0, some 1⟩) (List.length (fMoves f).1) (List.length (fMoves f).1), .int .i64 (fMoves f).2] : Value)) ∧ (True ∧ True))))) ∧ ((decide (((-2000) : Int) ≤ f.x.lo)) = false → (true = true ∧ wk (.tuple #[.slice none 0 0, .int .i64 30] : Value) (rn (sg 0 []) 3 (.tuple #[.slice (some ⟨0, 0, some 1⟩) (List.length (fMoves f).1) (List.length (fMoves f).1), .int .i64 (fMoves f).2] : Value)) ∧ (True ∧ True))))
theorem EMoves (f : Flow) : vF prog msk (dm 0) 100000 true 40 true 26 [.agg #[.int .i64 f.x.lo, .int .i64 f.x.hi, .int .i64 f.y.lo, .int .i64 f.y.hi]] ⟨0, .leaf⟩ (some [])
  (.go 22 (.gfork (.go 5 (.gfork (.go 10 (.gfork (.go 8 (.gfork (.go 9 (.again [])) (.go 15 (.gfork (.go 5 (.gfork (.go 10 (.gfork (.go 8 (.fork (.go 7 (.again [])) (.go 5 (.ans [] (.slice (some ⟨1, 0, some 1⟩) (List.length (movesF f)) (List.length (movesF f))) [.cells true 2 (List.flatMap moveC (movesF f))] (.go 1 (.again [(0, 1)])))))) (.go 14 (.again [])))) (.go 12 (.again [])))) (.go 15 (.again [])))))) (.go 15 (.again [])))) (.go 13 (.again [])))) (.go 16 (.again []))))
  (newK (⟨0, .leaf⟩ : HT).n 3 (.tuple #[.slice (some ⟨0, 0, some 1⟩) (List.length (fMoves f).1) (List.length (fMoves f).1), .int .i64 (fMoves f).2]) [(true, .cells true 2 (List.flatMap moveC (fMoves f).1))]) = RMoves f := by kernel_rfl
def Rrmay (sp : Value) (s : Span) (c : Int) : Prop :=
  ((.int .i64 (IntKind.wrap .i64 (1000 * c)) : Value) = .int .i64 (1000 * c) ∧ ((.int .i64 (IntKind.wrap .i64 ((1000 * c) - 999)) : Value) = .int .i64 ((1000 * c) - 999) ∧ (((decide ((((1000 * c) - 999) : Int) ≤ s.hi)) = true → ((.int .i64 (IntKind.wrap .i64 (1000 * c)) : Value) = .int .i64 (1000 * c) ∧ ((.int .i64 (IntKind.wrap .i64 ((1000 * c) + 999)) : Value) = .int .i64 ((1000 * c) + 999) ∧ (.bool (decide ((s.lo : Int) ≤ ((1000 * c) + 999))) : Value) = sp))) ∧ ((decide ((((1000 * c) - 999) : Int) ≤ s.hi)) = false → (.bool false : Value) = sp))))
theorem Ermay (sp : Value) (s : Span) (c : Int) : vF prog msk (dm 0) 100000 true 40 true 77 [.agg #[.int .i64 s.lo, .int .i64 s.hi], .int .i64 c] ⟨0, .leaf⟩ (some [])
  (.go 5 (.slot 8 (.int .i64 (1000 * c)) (.go 0 (.slot 9 (.int .i64 ((1000 * c) - 999)) (.go 1 (.gfork (.go 3 (.slot 15 (.int .i64 (1000 * c)) (.go 0 (.slot 16 (.int .i64 ((1000 * c) + 999)) (.auto))))) (.auto)))))))
  (fun v _ _ => v = sp) = Rrmay sp s c := by kernel_rfl
def RrMoves (f : Flow) : Prop :=
  (((decide ((f.x.lo : Int) < (-2000))) = true → (true = true ∧ wk (.tuple #[.slice none 0 0, .int .i64 30] : Value) (rn (sg 0 []) 3 (.tuple #[.slice (some ⟨0, 0, some 1⟩) (List.length (fMoves f).1) (List.length (fMoves f).1), .int .i64 (fMoves f).2] : Value)) ∧ (True ∧ True))) ∧ ((decide ((f.x.lo : Int) < (-2000))) = false → (((decide ((2000 : Int) < f.x.hi)) = true → (true = true ∧ wk (.tuple #[.slice none 0 0, .int .i64 30] : Value) (rn (sg 0 []) 3 (.tuple #[.slice (some ⟨0, 0, some 1⟩) (List.length (fMoves f).1) (List.length (fMoves f).1), .int .i64 (fMoves f).2] : Value)) ∧ (True ∧ True))) ∧ ((decide ((2000 : Int) < f.x.hi)) = false → (((decide ((f.x.hi : Int) < f.x.lo)) = true → (true = true ∧ wk (.tuple #[.slice none 0 0, .int .i64 30] : Value) (rn (sg 0 []) 3 (.tuple #[.slice (some ⟨0, 0, some 1⟩) (List.length (fMoves f).1) (List.length (fMoves f).1), .int .i64 (fMoves f).2] : Value)) ∧ (True ∧ True))) ∧ ((decide ((f.x.hi : Int) < f.x.lo)) = false → (((decide ((f.y.lo : Int) < (-2000))) = true → (true = true ∧ wk (.tuple #[.slice none 0 0, .int .i64 30] : Value) (rn (sg 0 []) 3 (.tuple #[.slice (some ⟨0, 0, some 1⟩) (List.length (fMoves f).1) (List.length (fMoves f).1), .int .i64 (fMoves f).2] : Value)) ∧ (True ∧ True))) ∧ ((decide ((f.y.lo : Int) < (-2000))) = false → (((decide ((2000 : Int) < f.y.hi)) = true → (true = true ∧ wk (.tuple #[.slice none 0 0, .int .i64 30] : Value) (rn (sg 0 []) 3 (.tuple #[.slice (some ⟨0, 0, some 1⟩) (List.length (fMoves f).1) (List.length (fMoves f).1), .int .i64 (fMoves f).2] : Value)) ∧ (True ∧ True))) ∧ ((decide ((2000 : Int) < f.y.hi)) = false → (((decide ((f.y.hi : Int) < f.y.lo)) = true → (true = true ∧ wk (.tuple #[.slice none 0 0, .int .i64 30] : Value) (rn (sg 0 []) 3 (.tuple #[.slice (some ⟨0, 0, some 1⟩) (List.length (fMoves f).1) (List.length (fMoves f).1), .int .i64 (fMoves f).2] : Value)) ∧ (True ∧ True))) ∧ ((decide ((f.y.hi : Int) < f.y.lo)) = false → (true = true ∧ (0 ≤ 5) ∧ (true = true ∧ ((.int .i64 (-2) : Value) = .int .i64 (-2 + ((0 : Nat) : Int)) ∧ wk (.slice none 0 0 : Value) (.slice (some ⟨0, 0, some 1⟩) (List.length (rvTo f 0)) (List.length (rvTo f 0)) : Value) ∧ (.pointer (some ⟨0, 0, none⟩) : Value) = .pointer (some ⟨0, 0, none⟩) ∧ (.slice none 0 0 : Value) = .slice none 0 0 ∧ (.int .i64 0 : Value) = .int .i64 0 ∧ True) ∧ ((some (.cells true 0 [.int .i64 f.x.lo, .int .i64 f.x.hi, .int .i64 f.y.lo, .int .i64 f.y.hi] : KObj) = some (.cells true 0 [.int .i64 f.x.lo, .int .i64 f.x.hi, .int .i64 f.y.lo, .int .i64 f.y.hi] : KObj) ∧ belowO 1 (.cells true 0 [.int .i64 f.x.lo, .int .i64 f.x.hi, .int .i64 f.y.lo, .int .i64 f.y.hi] : KObj) = true) ∧ True) ∧ (True ∧ True) ∧ (True)) ∧ (∀ x0 : Nat, true = true) ∧ ∀ x0 : Nat, (x0 ≤ 5) → (((decide (((-2 + ((x0 : Nat) : Int)) : Int) ≤ 2)) = true → (true = true ∧ (0 ≤ 5) ∧ (true = true ∧ ((.int .i64 (-2) : Value) = .int .i64 (-2 + ((0 : Nat) : Int)) ∧ wk (.slice (some ⟨1, 0, some 1⟩) (List.length (rvTo f x0)) (List.length (rvTo f x0)) : Value) (.slice (some ⟨1, 0, some 1⟩) (List.length (rvTo f x0 ++ rvRow f x0 0)) (List.length (rvTo f x0 ++ rvRow f x0 0)) : Value) ∧ (.int .i64 0 : Value) = .int .i64 0 ∧ (.slice none 0 0 : Value) = .slice none 0 0 ∧ (.pointer (some ⟨0, 0, none⟩) : Value) = .pointer (some ⟨0, 0, none⟩) ∧ (.int .i64 (-2 + ((x0 : Nat) : Int)) : Value) = .int .i64 (-2 + ((x0 : Nat) : Int)) ∧ True) ∧ (True ∧ (some (.cells true 0 [.int .i64 f.x.lo, .int .i64 f.x.hi, .int .i64 f.y.lo, .int .i64 f.y.hi] : KObj) = some (.cells true 0 [.int .i64 f.x.lo, .int .i64 f.x.hi, .int .i64 f.y.lo, .int .i64 f.y.hi] : KObj) ∧ belowO 2 (.cells true 0 [.int .i64 f.x.lo, .int .i64 f.x.hi, .int .i64 f.y.lo, .int .i64 f.y.hi] : KObj) = true) ∧ True) ∧ ((some (.cells true 2 (List.flatMap moveC (rvTo f x0)) : KObj) = some (.cells true 2 (List.flatMap moveC (rvTo f x0 ++ rvRow f x0 0)) : KObj) ∧ belowO 2 (.cells true 2 (List.flatMap moveC (rvTo f x0 ++ rvRow f x0 0)) : KObj) = true) ∧ True) ∧ (True)) ∧ (∀ x1 : Nat, true = true) ∧ ∀ x1 : Nat, (x1 ≤ 5) → (((decide (((-2 + ((x1 : Nat) : Int)) : Int) ≤ 2)) = true → ((.int .i64 (IntKind.wrap .i64 (1000 * (-2 + ((x1 : Nat) : Int)))) : Value) = .int .i64 (1000 * (-2 + ((x1 : Nat) : Int))) ∧ ((.int .i64 (IntKind.wrap .i64 ((1000 * (-2 + ((x1 : Nat) : Int))) - 999)) : Value) = .int .i64 ((1000 * (-2 + ((x1 : Nat) : Int))) - 999) ∧ (((decide ((((1000 * (-2 + ((x1 : Nat) : Int))) - 999) : Int) ≤ f.x.hi)) = true → ((.int .i64 (IntKind.wrap .i64 (1000 * (-2 + ((x1 : Nat) : Int)))) : Value) = .int .i64 (1000 * (-2 + ((x1 : Nat) : Int))) ∧ ((.int .i64 (IntKind.wrap .i64 ((1000 * (-2 + ((x1 : Nat) : Int))) + 999)) : Value) = .int .i64 ((1000 * (-2 + ((x1 : Nat) : Int))) + 999) ∧ (((decide ((f.x.lo : Int) ≤ ((1000 * (-2 + ((x1 : Nat) : Int))) + 999))) = true → ((.int .i64 (IntKind.wrap .i64 (1000 * (-2 + ((x0 : Nat) : Int)))) : Value) = .int .i64 (1000 * (-2 + ((x0 : Nat) : Int))) ∧ ((.int .i64 (IntKind.wrap .i64 ((1000 * (-2 + ((x0 : Nat) : Int))) - 999)) : Value) = .int .i64 ((1000 * (-2 + ((x0 : Nat) : Int))) - 999) ∧ (((decide ((((1000 * (-2 + ((x0 : Nat) : Int))) - 999) : Int) ≤ f.y.hi)) = true → ((.int .i64 (IntKind.wrap .i64 (1000 * (-2 + ((x0 : Nat) : Int)))) : Value) = .int .i64 (1000 * (-2 + ((x0 : Nat) : Int))) ∧ ((.int .i64 (IntKind.wrap .i64 ((1000 * (-2 + ((x0 : Nat) : Int))) + 999)) : Value) = .int .i64 ((1000 * (-2 + ((x0 : Nat) : Int))) + 999) ∧ (((decide ((f.y.lo : Int) ≤ ((1000 * (-2 + ((x0 : Nat) : Int))) + 999))) = true → ((((List.length (rvTo f x0 ++ rvRow f x0 x1)) + 1) * 16 ≤ 2 ^ 44 ∧ 1 ≠ 0 ∧ ((List.length (rvTo f x0 ++ rvRow f x0 x1)) ≤ (List.length (rvTo f x0 ++ rvRow f x0 x1)) ∧ 0 + (List.length (rvTo f x0 ++ rvRow f x0 x1)) * 2 ≤ List.length (List.flatMap moveC (rvTo f x0 ++ rvRow f x0 x1))) ∧ (1 ≤ 1 ∧ 0 + 1 * 2 ≤ List.length ([.int .i64 (-2 + ((x1 : Nat) : Int)), .int .i64 (-2 + ((x0 : Nat) : Int))] : List Value)) ∧ ((List.take (1 * 2) (List.drop 0 ([.int .i64 (-2 + ((x1 : Nat) : Int)), .int .i64 (-2 + ((x0 : Nat) : Int))] : List Value))) : List Value).all (fun v => one1 v) = true) ∧ true = true ∧ ((.int .i64 (IntKind.wrap .i64 ((-2 + ((x1 : Nat) : Int)) + 1)) : Value) = .int .i64 ((-2 + ((x1 : Nat) : Int)) + 1) ∧ (∃ x1' : Nat, (x1' ≤ 5) ∧ (5 - x1') < (5 - x1) ∧ true = true ∧ ((.int .i64 ((-2 + ((x1 : Nat) : Int)) + 1) : Value) = .int .i64 (-2 + ((x1' : Nat) : Int)) ∧ wk (.slice (some ⟨4, 0, none⟩) ((List.length (rvTo f x0 ++ rvRow f x0 x1)) + 1) ((List.length (rvTo f x0 ++ rvRow f x0 x1)) + 1) : Value) (.slice (some ⟨4, 0, some 1⟩) (List.length (rvTo f x0 ++ rvRow f x0 x1')) (List.length (rvTo f x0 ++ rvRow f x0 x1')) : Value) ∧ (.int .i64 0 : Value) = .int .i64 0 ∧ (.slice none 0 0 : Value) = .slice none 0 0 ∧ (.pointer (some ⟨0, 0, none⟩) : Value) = .pointer (some ⟨0, 0, none⟩) ∧ (.int .i64 (-2 + ((x0 : Nat) : Int)) : Value) = .int .i64 (-2 + ((x0 : Nat) : Int)) ∧ True) ∧ (True ∧ (some (.cells true 0 [.int .i64 f.x.lo, .int .i64 f.x.hi, .int .i64 f.y.lo, .int .i64 f.y.hi] : KObj) = some (.cells true 0 [.int .i64 f.x.lo, .int .i64 f.x.hi, .int .i64 f.y.lo, .int .i64 f.y.hi] : KObj) ∧ belowO 2 (.cells true 0 [.int .i64 f.x.lo, .int .i64 f.x.hi, .int .i64 f.y.lo, .int .i64 f.y.hi] : KObj) = true) ∧ True) ∧ ((some (.cells true 2 ((List.take ((List.length (rvTo f x0 ++ rvRow f x0 x1)) * 2) (List.drop 0 (List.flatMap moveC (rvTo f x0 ++ rvRow f x0 x1)))) ++ (List.take (1 * 2) (List.drop 0 ([.int .i64 (-2 + ((x1 : Nat) : Int)), .int .i64 (-2 + ((x0 : Nat) : Int))] : List Value)))) : KObj) = some (.cells true 2 (List.flatMap moveC (rvTo f x0 ++ rvRow f x0 x1')) : KObj) ∧ belowO 2 (.cells true 2 (List.flatMap moveC (rvTo f x0 ++ rvRow f x0 x1')) : KObj) = true) ∧ True) ∧ (True))))) ∧ ((decide ((f.y.lo : Int) ≤ ((1000 * (-2 + ((x0 : Nat) : Int))) + 999))) = false → ((.int .i64 (IntKind.wrap .i64 ((-2 + ((x1 : Nat) : Int)) + 1)) : Value) = .int .i64 ((-2 + ((x1 : Nat) : Int)) + 1) ∧ (∃ x1' : Nat, (x1' ≤ 5) ∧ (5 - x1') < (5 - x1) ∧ true = true ∧ ((.int .i64 ((-2 + ((x1 : Nat) : Int)) + 1) : Value) = .int .i64 (-2 + ((x1' : Nat) : Int)) ∧ wk (.slice (some ⟨2, 0, some 1⟩) (List.length (rvTo f x0 ++ rvRow f x0 x1)) (List.length (rvTo f x0 ++ rvRow f x0 x1)) : Value) (.slice (some ⟨2, 0, some 1⟩) (List.length (rvTo f x0 ++ rvRow f x0 x1')) (List.length (rvTo f x0 ++ rvRow f x0 x1')) : Value) ∧ (.int .i64 0 : Value) = .int .i64 0 ∧ (.slice none 0 0 : Value) = .slice none 0 0 ∧ (.pointer (some ⟨0, 0, none⟩) : Value) = .pointer (some ⟨0, 0, none⟩) ∧ (.int .i64 (-2 + ((x0 : Nat) : Int)) : Value) = .int .i64 (-2 + ((x0 : Nat) : Int)) ∧ True) ∧ (True ∧ (some (.cells true 0 [.int .i64 f.x.lo, .int .i64 f.x.hi, .int .i64 f.y.lo, .int .i64 f.y.hi] : KObj) = some (.cells true 0 [.int .i64 f.x.lo, .int .i64 f.x.hi, .int .i64 f.y.lo, .int .i64 f.y.hi] : KObj) ∧ belowO 2 (.cells true 0 [.int .i64 f.x.lo, .int .i64 f.x.hi, .int .i64 f.y.lo, .int .i64 f.y.hi] : KObj) = true) ∧ True) ∧ ((some (.cells true 2 (List.flatMap moveC (rvTo f x0 ++ rvRow f x0 x1)) : KObj) = some (.cells true 2 (List.flatMap moveC (rvTo f x0 ++ rvRow f x0 x1')) : KObj) ∧ belowO 2 (.cells true 2 (List.flatMap moveC (rvTo f x0 ++ rvRow f x0 x1')) : KObj) = true) ∧ True) ∧ (True)))))))) ∧ ((decide ((((1000 * (-2 + ((x0 : Nat) : Int))) - 999) : Int) ≤ f.y.hi)) = false → ((.int .i64 (IntKind.wrap .i64 ((-2 + ((x1 : Nat) : Int)) + 1)) : Value) = .int .i64 ((-2 + ((x1 : Nat) : Int)) + 1) ∧ (∃ x1' : Nat, (x1' ≤ 5) ∧ (5 - x1') < (5 - x1) ∧ true = true ∧ ((.int .i64 ((-2 + ((x1 : Nat) : Int)) + 1) : Value) = .int .i64 (-2 + ((x1' : Nat) : Int)) ∧ wk (.slice (some ⟨2, 0, some 1⟩) (List.length (rvTo f x0 ++ rvRow f x0 x1)) (List.length (rvTo f x0 ++ rvRow f x0 x1)) : Value) (.slice (some ⟨2, 0, some 1⟩) (List.length (rvTo f x0 ++ rvRow f x0 x1')) (List.length (rvTo f x0 ++ rvRow f x0 x1')) : Value) ∧ (.int .i64 0 : Value) = .int .i64 0 ∧ (.slice none 0 0 : Value) = .slice none 0 0 ∧ (.pointer (some ⟨0, 0, none⟩) : Value) = .pointer (some ⟨0, 0, none⟩) ∧ (.int .i64 (-2 + ((x0 : Nat) : Int)) : Value) = .int .i64 (-2 + ((x0 : Nat) : Int)) ∧ True) ∧ (True ∧ (some (.cells true 0 [.int .i64 f.x.lo, .int .i64 f.x.hi, .int .i64 f.y.lo, .int .i64 f.y.hi] : KObj) = some (.cells true 0 [.int .i64 f.x.lo, .int .i64 f.x.hi, .int .i64 f.y.lo, .int .i64 f.y.hi] : KObj) ∧ belowO 2 (.cells true 0 [.int .i64 f.x.lo, .int .i64 f.x.hi, .int .i64 f.y.lo, .int .i64 f.y.hi] : KObj) = true) ∧ True) ∧ ((some (.cells true 2 (List.flatMap moveC (rvTo f x0 ++ rvRow f x0 x1)) : KObj) = some (.cells true 2 (List.flatMap moveC (rvTo f x0 ++ rvRow f x0 x1')) : KObj) ∧ belowO 2 (.cells true 2 (List.flatMap moveC (rvTo f x0 ++ rvRow f x0 x1')) : KObj) = true) ∧ True) ∧ (True)))))))) ∧ ((decide ((f.x.lo : Int) ≤ ((1000 * (-2 + ((x1 : Nat) : Int))) + 999))) = false → ((.int .i64 (IntKind.wrap .i64 ((-2 + ((x1 : Nat) : Int)) + 1)) : Value) = .int .i64 ((-2 + ((x1 : Nat) : Int)) + 1) ∧ (∃ x1' : Nat, (x1' ≤ 5) ∧ (5 - x1') < (5 - x1) ∧ true = true ∧ ((.int .i64 ((-2 + ((x1 : Nat) : Int)) + 1) : Value) = .int .i64 (-2 + ((x1' : Nat) : Int)) ∧ wk (.slice (some ⟨2, 0, some 1⟩) (List.length (rvTo f x0 ++ rvRow f x0 x1)) (List.length (rvTo f x0 ++ rvRow f x0 x1)) : Value) (.slice (some ⟨2, 0, some 1⟩) (List.length (rvTo f x0 ++ rvRow f x0 x1')) (List.length (rvTo f x0 ++ rvRow f x0 x1')) : Value) ∧ (.int .i64 0 : Value) = .int .i64 0 ∧ (.slice none 0 0 : Value) = .slice none 0 0 ∧ (.pointer (some ⟨0, 0, none⟩) : Value) = .pointer (some ⟨0, 0, none⟩) ∧ (.int .i64 (-2 + ((x0 : Nat) : Int)) : Value) = .int .i64 (-2 + ((x0 : Nat) : Int)) ∧ True) ∧ (True ∧ (some (.cells true 0 [.int .i64 f.x.lo, .int .i64 f.x.hi, .int .i64 f.y.lo, .int .i64 f.y.hi] : KObj) = some (.cells true 0 [.int .i64 f.x.lo, .int .i64 f.x.hi, .int .i64 f.y.lo, .int .i64 f.y.hi] : KObj) ∧ belowO 2 (.cells true 0 [.int .i64 f.x.lo, .int .i64 f.x.hi, .int .i64 f.y.lo, .int .i64 f.y.hi] : KObj) = true) ∧ True) ∧ ((some (.cells true 2 (List.flatMap moveC (rvTo f x0 ++ rvRow f x0 x1)) : KObj) = some (.cells true 2 (List.flatMap moveC (rvTo f x0 ++ rvRow f x0 x1')) : KObj) ∧ belowO 2 (.cells true 2 (List.flatMap moveC (rvTo f x0 ++ rvRow f x0 x1')) : KObj) = true) ∧ True) ∧ (True)))))))) ∧ ((decide ((((1000 * (-2 + ((x1 : Nat) : Int))) - 999) : Int) ≤ f.x.hi)) = false → ((.int .i64 (IntKind.wrap .i64 ((-2 + ((x1 : Nat) : Int)) + 1)) : Value) = .int .i64 ((-2 + ((x1 : Nat) : Int)) + 1) ∧ (∃ x1' : Nat, (x1' ≤ 5) ∧ (5 - x1') < (5 - x1) ∧ true = true ∧ ((.int .i64 ((-2 + ((x1 : Nat) : Int)) + 1) : Value) = .int .i64 (-2 + ((x1' : Nat) : Int)) ∧ wk (.slice (some ⟨2, 0, some 1⟩) (List.length (rvTo f x0 ++ rvRow f x0 x1)) (List.length (rvTo f x0 ++ rvRow f x0 x1)) : Value) (.slice (some ⟨2, 0, some 1⟩) (List.length (rvTo f x0 ++ rvRow f x0 x1')) (List.length (rvTo f x0 ++ rvRow f x0 x1')) : Value) ∧ (.int .i64 0 : Value) = .int .i64 0 ∧ (.slice none 0 0 : Value) = .slice none 0 0 ∧ (.pointer (some ⟨0, 0, none⟩) : Value) = .pointer (some ⟨0, 0, none⟩) ∧ (.int .i64 (-2 + ((x0 : Nat) : Int)) : Value) = .int .i64 (-2 + ((x0 : Nat) : Int)) ∧ True) ∧ (True ∧ (some (.cells true 0 [.int .i64 f.x.lo, .int .i64 f.x.hi, .int .i64 f.y.lo, .int .i64 f.y.hi] : KObj) = some (.cells true 0 [.int .i64 f.x.lo, .int .i64 f.x.hi, .int .i64 f.y.lo, .int .i64 f.y.hi] : KObj) ∧ belowO 2 (.cells true 0 [.int .i64 f.x.lo, .int .i64 f.x.hi, .int .i64 f.y.lo, .int .i64 f.y.hi] : KObj) = true) ∧ True) ∧ ((some (.cells true 2 (List.flatMap moveC (rvTo f x0 ++ rvRow f x0 x1)) : KObj) = some (.cells true 2 (List.flatMap moveC (rvTo f x0 ++ rvRow f x0 x1')) : KObj) ∧ belowO 2 (.cells true 2 (List.flatMap moveC (rvTo f x0 ++ rvRow f x0 x1')) : KObj) = true) ∧ True) ∧ (True)))))))) ∧ ((decide (((-2 + ((x1 : Nat) : Int)) : Int) ≤ 2)) = false → ((.int .i64 (IntKind.wrap .i64 ((-2 + ((x0 : Nat) : Int)) + 1)) : Value) = .int .i64 ((-2 + ((x0 : Nat) : Int)) + 1) ∧ (∃ x0' : Nat, (x0' ≤ 5) ∧ (5 - x0') < (5 - x0) ∧ true = true ∧ ((.int .i64 ((-2 + ((x0 : Nat) : Int)) + 1) : Value) = .int .i64 (-2 + ((x0' : Nat) : Int)) ∧ wk (.slice (some ⟨2, 0, some 1⟩) (List.length (rvTo f x0 ++ rvRow f x0 x1)) (List.length (rvTo f x0 ++ rvRow f x0 x1)) : Value) (.slice (some ⟨2, 0, some 1⟩) (List.length (rvTo f x0')) (List.length (rvTo f x0')) : Value) ∧ (.pointer (some ⟨0, 0, none⟩) : Value) = .pointer (some ⟨0, 0, none⟩) ∧ (.slice none 0 0 : Value) = .slice none 0 0 ∧ (.int .i64 0 : Value) = .int .i64 0 ∧ True) ∧ ((some (.cells true 0 [.int .i64 f.x.lo, .int .i64 f.x.hi, .int .i64 f.y.lo, .int .i64 f.y.hi] : KObj) = some (.cells true 0 [.int .i64 f.x.lo, .int .i64 f.x.hi, .int .i64 f.y.lo, .int .i64 f.y.hi] : KObj) ∧ belowO 1 (.cells true 0 [.int .i64 f.x.lo, .int .i64 f.x.hi, .int .i64 f.y.lo, .int .i64 f.y.hi] : KObj) = true) ∧ True) ∧ ((some (.cells true 2 (List.flatMap moveC (rvTo f x0 ++ rvRow f x0 x1)) : KObj) = some (.cells true 2 (List.flatMap moveC (rvTo f x0')) : KObj) ∧ belowO 1 (.cells true 2 (List.flatMap moveC (rvTo f x0')) : KObj) = true) ∧ True) ∧ (True))))))) ∧ ((decide (((-2 + ((x0 : Nat) : Int)) : Int) ≤ 2)) = false → (true = true ∧ wk (.tuple #[.slice (some ⟨1, 0, some 1⟩) (List.length (rvTo f x0)) (List.length (rvTo f x0)), .int .i64 0] : Value) (rn (sg 0 [(0, 1)]) 3 (.tuple #[.slice (some ⟨0, 0, some 1⟩) (List.length (fMoves f).1) (List.length (fMoves f).1), .int .i64 (fMoves f).2] : Value)) ∧ ((some (.cells true 2 (List.flatMap moveC (rvTo f x0)) : KObj) = some (.cells true 2 (List.flatMap moveC (fMoves f).1) : KObj) ∧ belowO 0 (.cells true 2 (List.flatMap moveC (fMoves f).1) : KObj) = true) ∧ True)))))))))))))))))
theorem ErMoves (f : Flow) : vF prog msk (dm 0) 100000 true 40 true 27 [.agg #[.int .i64 f.x.lo, .int .i64 f.x.hi, .int .i64 f.y.lo, .int .i64 f.y.hi]] ⟨0, .leaf⟩ (some [])
  (.go 13 (.gfork (.go 8 (.again [])) (.go 5 (.gfork (.go 6 (.again [])) (.go 7 (.gfork (.go 3 (.again [])) (.go 10 (.gfork (.go 7 (.again [])) (.go 5 (.gfork (.go 5 (.again [])) (.go 7 (.fork (.go 1 (.again [])) (.go 1 (.inv 3 (Nat) (0) [] [0] (fun x0 => [(5, .int .i64 (-2 + ((x0 : Nat) : Int))), (4, .slice (some ⟨1, 0, some 1⟩) (List.length (rvTo f x0)) (List.length (rvTo f x0))), (1, .pointer (some ⟨0, 0, none⟩)), (2, .slice none 0 0), (3, .int .i64 0)]) (fun x0 => [(0, true, .cells true 0 [.int .i64 f.x.lo, .int .i64 f.x.hi, .int .i64 f.y.lo, .int .i64 f.y.hi])]) (fun x0 => [(true, .cells true 2 (List.flatMap moveC (rvTo f x0)))]) (fun x0 => []) (fun x0 => (x0 ≤ 5)) (fun x0 => (5 - x0)) (fun x0 => .go 1 (.fork (.go 0 (.inv 3 (Nat) (0) [(2, 1)] [1, 0] (fun x1 => [(6, .int .i64 (-2 + ((x1 : Nat) : Int))), (4, .slice (some ⟨2, 0, some 1⟩) (List.length (rvTo f x0 ++ rvRow f x0 x1)) (List.length (rvTo f x0 ++ rvRow f x0 x1))), (3, .int .i64 0), (2, .slice none 0 0), (1, .pointer (some ⟨0, 0, none⟩)), (5, .int .i64 (-2 + ((x0 : Nat) : Int)))]) (fun x1 => [(1, false, .dead), (0, true, .cells true 0 [.int .i64 f.x.lo, .int .i64 f.x.hi, .int .i64 f.y.lo, .int .i64 f.y.hi])]) (fun x1 => [(true, .cells true 2 (List.flatMap moveC (rvTo f x0 ++ rvRow f x0 x1)))]) (fun x1 => []) (fun x1 => (x1 ≤ 5)) (fun x1 => (5 - x1)) (fun x1 => .go 1 (.fork (.go 9 (.slot 8 (.int .i64 (1000 * (-2 + ((x1 : Nat) : Int)))) (.go 0 (.slot 9 (.int .i64 ((1000 * (-2 + ((x1 : Nat) : Int))) - 999)) (.go 1 (.gfork (.go 3 (.slot 15 (.int .i64 (1000 * (-2 + ((x1 : Nat) : Int)))) (.go 0 (.slot 16 (.int .i64 ((1000 * (-2 + ((x1 : Nat) : Int))) + 999)) (.go 3 (.gfork (.go 9 (.slot 8 (.int .i64 (1000 * (-2 + ((x0 : Nat) : Int)))) (.go 0 (.slot 9 (.int .i64 ((1000 * (-2 + ((x0 : Nat) : Int))) - 999)) (.go 1 (.gfork (.go 3 (.slot 15 (.int .i64 (1000 * (-2 + ((x0 : Nat) : Int)))) (.go 0 (.slot 16 (.int .i64 ((1000 * (-2 + ((x0 : Nat) : Int))) + 999)) (.go 3 (.fork (.go 4 (.need (.go 2 (.slot 22 (.int .i64 ((-2 + ((x1 : Nat) : Int)) + 1)) (.go 0 (.again [(2, 4)])))))) (.go 1 (.slot 22 (.int .i64 ((-2 + ((x1 : Nat) : Int)) + 1)) (.go 0 (.again [(2, 2)])))))))))) (.go 5 (.slot 22 (.int .i64 ((-2 + ((x1 : Nat) : Int)) + 1)) (.go 0 (.again [(2, 2)])))))))))) (.go 3 (.slot 22 (.int .i64 ((-2 + ((x1 : Nat) : Int)) + 1)) (.go 0 (.again [(2, 2)])))))))))) (.go 6 (.slot 22 (.int .i64 ((-2 + ((x1 : Nat) : Int)) + 1)) (.go 0 (.again [(2, 2)])))))))))) (.go 1 (.slot 18 (.int .i64 ((-2 + ((x0 : Nat) : Int)) + 1)) (.go 0 (.again [(1, 2)])))))))) (.go 2 (.again [(0, 1)]))))))))))))))))))
  (newK (⟨0, .leaf⟩ : HT).n 3 (.tuple #[.slice (some ⟨0, 0, some 1⟩) (List.length (fMoves f).1) (List.length (fMoves f).1), .int .i64 (fMoves f).2]) [(true, .cells true 2 (List.flatMap moveC (fMoves f).1))]) = RrMoves f := by kernel_rfl
def Rtarget (sp : Value) (w h : Int) (a : List Bool) (c : Int) (m : Move) : Prop :=
  (((w : Int) ≠ 0) ∧ ((.int .i64 (IntKind.wrap .i64 ((Int.tmod c w) + m.dx)) : Value) = .int .i64 ((Int.tmod c w) + m.dx) ∧ (((w : Int) ≠ 0) ∧ ((.int .i64 (IntKind.wrap .i64 (Int.tdiv c w)) : Value) = .int .i64 (Int.tdiv c w) ∧ ((.int .i64 (IntKind.wrap .i64 ((Int.tdiv c w) + m.dy)) : Value) = .int .i64 ((Int.tdiv c w) + m.dy) ∧ ((.int .i64 (IntKind.wrap .i64 (w - 1)) : Value) = .int .i64 (w - 1) ∧ (((decide ((0 : Int) ≤ ((Int.tmod c w) + m.dx))) = true → (((!(decide ((((Int.tmod c w) + m.dx) : Int) ≤ (w - 1)))) = true → (.int .i64 c : Value) = sp) ∧ ((!(decide ((((Int.tmod c w) + m.dx) : Int) ≤ (w - 1)))) = false → ((.int .i64 (IntKind.wrap .i64 (h - 1)) : Value) = .int .i64 (h - 1) ∧ (((decide ((0 : Int) ≤ ((Int.tdiv c w) + m.dy))) = true → (((!(decide ((((Int.tdiv c w) + m.dy) : Int) ≤ (h - 1)))) = true → (.int .i64 c : Value) = sp) ∧ ((!(decide ((((Int.tdiv c w) + m.dy) : Int) ≤ (h - 1)))) = false → ((.int .i64 (IntKind.wrap .i64 (((Int.tdiv c w) + m.dy) * w)) : Value) = .int .i64 (((Int.tdiv c w) + m.dy) * w) ∧ ((.int .i64 (IntKind.wrap .i64 ((((Int.tdiv c w) + m.dy) * w) + ((Int.tmod c w) + m.dx))) : Value) = .int .i64 ((((Int.tdiv c w) + m.dy) * w) + ((Int.tmod c w) + m.dx)) ∧ (∃ y0 : Int, (.int .i64 ((((Int.tdiv c w) + m.dy) * w) + ((Int.tmod c w) + m.dx)) : Value) = .int .i64 y0 ∧ (((0 : Int) ≤ y0 ∧ (y0 : Int) < (((List.length a) : Nat) : Int)) ∧ (((List.flatMap boolC a)[(0 + Int.toNat y0 * 1)]? = some (.bool (List.getD a (Int.toNat y0) false))) ∧ (((List.getD a (Int.toNat y0) false) = true → (.int .i64 c : Value) = sp) ∧ ((List.getD a (Int.toNat y0) false) = false → ((.int .i64 (IntKind.wrap .i64 (((Int.tdiv c w) + m.dy) * w)) : Value) = .int .i64 (((Int.tdiv c w) + m.dy) * w) ∧ ((.int .i64 (IntKind.wrap .i64 ((((Int.tdiv c w) + m.dy) * w) + ((Int.tmod c w) + m.dx))) : Value) = .int .i64 ((((Int.tdiv c w) + m.dy) * w) + ((Int.tmod c w) + m.dx)) ∧ (∃ y1 : Int, (.int .i64 ((((Int.tdiv c w) + m.dy) * w) + ((Int.tmod c w) + m.dx)) : Value) = .int .i64 y1 ∧ (.int .i64 y1 : Value) = sp))))))))))))) ∧ ((decide ((0 : Int) ≤ ((Int.tdiv c w) + m.dy))) = false → (.int .i64 c : Value) = sp)))))) ∧ ((decide ((0 : Int) ≤ ((Int.tmod c w) + m.dx))) = false → (.int .i64 c : Value) = sp))))))))
theorem Etarget (sp : Value) (w h : Int) (a : List Bool) (c : Int) (m : Move) : vF prog msk (dm 0) 100000 true 40 true 63 [.agg #[.int .i64 w, .int .i64 h, .slice (some ⟨0, 0, some 2⟩) (List.length a) (List.length a)], .int .i64 c, .agg #[.int .i64 m.dx, .int .i64 m.dy]] (readsT 0 [a.flatMap boolC]) (some [])
  (.go 6 (.need (.go 2 (.slot 16 (.int .i64 ((Int.tmod c w) + m.dx)) (.go 3 (.need (.slot 21 (.int .i64 (Int.tdiv c w)) (.go 2 (.slot 24 (.int .i64 ((Int.tdiv c w) + m.dy)) (.go 6 (.slot 29 (.int .i64 (w - 1)) (.go 5 (.gfork (.go 6 (.gfork (.auto) (.go 4 (.slot 37 (.int .i64 (h - 1)) (.go 5 (.gfork (.go 7 (.gfork (.auto) (.go 7 (.slot 49 (.int .i64 (((Int.tdiv c w) + m.dy) * w)) (.go 1 (.slot 51 (.int .i64 ((((Int.tdiv c w) + m.dy) * w) + ((Int.tmod c w) + m.dx))) (.bind Int (fun y0 => .slot 51 (.int .i64 y0) (.need (.val (.bool (List.getD a (Int.toNat y0) false)) (.go 0 (.fork (.auto) (.go 4 (.slot 60 (.int .i64 (((Int.tdiv c w) + m.dy) * w)) (.go 1 (.slot 62 (.int .i64 ((((Int.tdiv c w) + m.dy) * w) + ((Int.tmod c w) + m.dx))) (.bind Int (fun y1 => .slot 62 (.int .i64 y1) (.auto))))))))))))))))))) (.auto))))))) (.auto))))))))))))))
  (fun v _ _ => v = sp) = Rtarget sp w h a c m := by kernel_rfl
def RrTarget (sp : Value) (w h : Int) (a : List Bool) (c : Int) (m : Move) : Prop :=
  (((w : Int) ≠ 0) ∧ ((.int .i64 (IntKind.wrap .i64 ((Int.tmod c w) + m.dx)) : Value) = .int .i64 ((Int.tmod c w) + m.dx) ∧ (((w : Int) ≠ 0) ∧ ((.int .i64 (IntKind.wrap .i64 (Int.tdiv c w)) : Value) = .int .i64 (Int.tdiv c w) ∧ ((.int .i64 (IntKind.wrap .i64 ((Int.tdiv c w) + m.dy)) : Value) = .int .i64 ((Int.tdiv c w) + m.dy) ∧ (((decide ((((Int.tmod c w) + m.dx) : Int) < 0)) = true → (.int .i64 c : Value) = sp) ∧ ((decide ((((Int.tmod c w) + m.dx) : Int) < 0)) = false → (((decide ((w : Int) ≤ ((Int.tmod c w) + m.dx))) = true → (.int .i64 c : Value) = sp) ∧ ((decide ((w : Int) ≤ ((Int.tmod c w) + m.dx))) = false → (((decide ((((Int.tdiv c w) + m.dy) : Int) < 0)) = true → (.int .i64 c : Value) = sp) ∧ ((decide ((((Int.tdiv c w) + m.dy) : Int) < 0)) = false → (((decide ((h : Int) ≤ ((Int.tdiv c w) + m.dy))) = true → (.int .i64 c : Value) = sp) ∧ ((decide ((h : Int) ≤ ((Int.tdiv c w) + m.dy))) = false → ((.int .i64 (IntKind.wrap .i64 (((Int.tdiv c w) + m.dy) * w)) : Value) = .int .i64 (((Int.tdiv c w) + m.dy) * w) ∧ ((.int .i64 (IntKind.wrap .i64 ((((Int.tdiv c w) + m.dy) * w) + ((Int.tmod c w) + m.dx))) : Value) = .int .i64 ((((Int.tdiv c w) + m.dy) * w) + ((Int.tmod c w) + m.dx)) ∧ (∃ y0 : Int, (.int .i64 ((((Int.tdiv c w) + m.dy) * w) + ((Int.tmod c w) + m.dx)) : Value) = .int .i64 y0 ∧ (((0 : Int) ≤ y0 ∧ (y0 : Int) < (((List.length a) : Nat) : Int)) ∧ (((List.flatMap boolC a)[(0 + Int.toNat y0 * 1)]? = some (.bool (List.getD a (Int.toNat y0) false))) ∧ (((List.getD a (Int.toNat y0) false) = true → (.int .i64 c : Value) = sp) ∧ ((List.getD a (Int.toNat y0) false) = false → ((.int .i64 (IntKind.wrap .i64 (((Int.tdiv c w) + m.dy) * w)) : Value) = .int .i64 (((Int.tdiv c w) + m.dy) * w) ∧ ((.int .i64 (IntKind.wrap .i64 ((((Int.tdiv c w) + m.dy) * w) + ((Int.tmod c w) + m.dx))) : Value) = .int .i64 ((((Int.tdiv c w) + m.dy) * w) + ((Int.tmod c w) + m.dx)) ∧ (∃ y1 : Int, (.int .i64 ((((Int.tdiv c w) + m.dy) * w) + ((Int.tmod c w) + m.dx)) : Value) = .int .i64 y1 ∧ (.int .i64 y1 : Value) = sp)))))))))))))))))))))))
theorem ErTarget (sp : Value) (w h : Int) (a : List Bool) (c : Int) (m : Move) : vF prog msk (dm 0) 100000 true 40 true 126 [.agg #[.int .i64 w, .int .i64 h, .slice (some ⟨0, 0, some 2⟩) (List.length a) (List.length a)], .int .i64 c, .agg #[.int .i64 m.dx, .int .i64 m.dy]] (readsT 0 [a.flatMap boolC]) (some [])
  (.go 5 (.need (.go 2 (.slot 15 (.int .i64 ((Int.tmod c w) + m.dx)) (.go 3 (.need (.slot 19 (.int .i64 (Int.tdiv c w)) (.go 2 (.slot 22 (.int .i64 ((Int.tdiv c w) + m.dy)) (.go 3 (.gfork (.auto) (.go 5 (.gfork (.auto) (.go 3 (.gfork (.auto) (.go 5 (.gfork (.auto) (.go 5 (.slot 47 (.int .i64 (((Int.tdiv c w) + m.dy) * w)) (.go 1 (.slot 49 (.int .i64 ((((Int.tdiv c w) + m.dy) * w) + ((Int.tmod c w) + m.dx))) (.bind Int (fun y0 => .slot 49 (.int .i64 y0) (.need (.val (.bool (List.getD a (Int.toNat y0) false)) (.go 0 (.fork (.auto) (.go 3 (.slot 57 (.int .i64 (((Int.tdiv c w) + m.dy) * w)) (.go 1 (.slot 59 (.int .i64 ((((Int.tdiv c w) + m.dy) * w) + ((Int.tmod c w) + m.dx))) (.bind Int (fun y1 => .slot 59 (.int .i64 y1) (.auto))))))))))))))))))))))))))))))))))
  (fun v _ _ => v = sp) = RrTarget sp w h a c m := by kernel_rfl
def Ris (sp : Value) (w h : Int) (a : List Bool) (c : Int) : Prop :=
  ((.int .i64 (IntKind.wrap .i64 ((((List.length a) : Nat) : Int) - 1)) : Value) = .int .i64 ((((List.length a) : Nat) : Int) - 1) ∧ (((decide ((0 : Int) ≤ c)) = true → (((decide ((c : Int) ≤ ((((List.length a) : Nat) : Int) - 1))) = true → (((0 : Int) ≤ c ∧ (c : Int) < (((List.length a) : Nat) : Int)) ∧ (((List.flatMap boolC a)[(0 + Int.toNat c * 1)]? = some (.bool (List.getD a (Int.toNat c) false))) ∧ (.bool (!(List.getD a (Int.toNat c) false)) : Value) = sp))) ∧ ((decide ((c : Int) ≤ ((((List.length a) : Nat) : Int) - 1))) = false → (.bool false : Value) = sp))) ∧ ((decide ((0 : Int) ≤ c)) = false → (.bool false : Value) = sp)))
theorem Eis (sp : Value) (w h : Int) (a : List Bool) (c : Int) : vF prog msk (dm 0) 100000 true 40 true 62 [.agg #[.int .i64 w, .int .i64 h, .slice (some ⟨0, 0, some 2⟩) (List.length a) (List.length a)], .int .i64 c] (readsT 0 [a.flatMap boolC]) (some [])
  (.go 7 (.slot 10 (.int .i64 ((((List.length a) : Nat) : Int) - 1)) (.go 5 (.gfork (.go 5 (.gfork (.go 3 (.need (.val (.bool (List.getD a (Int.toNat c) false)) (.auto)))) (.auto))) (.auto)))))
  (fun v _ _ => v = sp) = Ris sp w h a c := by kernel_rfl
def RrisSea (sp : Value) (w h : Int) (a : List Bool) (c : Int) : Prop :=
  (((decide ((0 : Int) ≤ c)) = true → ((.int .i64 (IntKind.wrap .i64 (w * h)) : Value) = .int .i64 (w * h) ∧ (((decide ((c : Int) < (w * h))) = true → (((0 : Int) ≤ c ∧ (c : Int) < (((List.length a) : Nat) : Int)) ∧ (((List.flatMap boolC a)[(0 + Int.toNat c * 1)]? = some (.bool (List.getD a (Int.toNat c) false))) ∧ (.bool (!(List.getD a (Int.toNat c) false)) : Value) = sp))) ∧ ((decide ((c : Int) < (w * h))) = false → (.bool false : Value) = sp)))) ∧ ((decide ((0 : Int) ≤ c)) = false → (.bool false : Value) = sp))
theorem ErisSea (sp : Value) (w h : Int) (a : List Bool) (c : Int) : vF prog msk (dm 0) 100000 true 40 true 79 [.agg #[.int .i64 w, .int .i64 h, .slice (some ⟨0, 0, some 2⟩) (List.length a) (List.length a)], .int .i64 c] (readsT 0 [a.flatMap boolC]) (some [])
  (.go 4 (.gfork (.go 5 (.slot 13 (.int .i64 (w * h)) (.go 2 (.gfork (.go 2 (.need (.val (.bool (List.getD a (Int.toNat c) false)) (.auto)))) (.auto))))) (.auto)))
  (fun v _ _ => v = sp) = RrisSea sp w h a c := by kernel_rfl
def Rrlist (l : List Bool) : Prop :=
  (true = true ∧ (0 ≤ List.length l) ∧ (true = true ∧ ((.int .i64 0 : Value) = .int .i64 ((0 : Nat) : Int) ∧ wk (.slice none 0 0 : Value) (.slice (some ⟨0, 0, some 1⟩) (List.length (truesTo l 0)) (List.length (truesTo l 0)) : Value) ∧ wk (.slice (some ⟨0, 0, some 2⟩) (List.length l) (List.length l) : Value) (.slice (some ⟨0, 0, some 2⟩) (List.length l) (List.length l) : Value) ∧ (.slice none 0 0 : Value) = .slice none 0 0 ∧ True) ∧ (True) ∧ (True ∧ True) ∧ (True)) ∧ (∀ x0 : Nat, true = true) ∧ ∀ x0 : Nat, (x0 ≤ List.length l) → (((decide ((((x0 : Nat) : Int) : Int) < (((List.length l) : Nat) : Int))) = true → (((0 : Int) ≤ ((x0 : Nat) : Int) ∧ (((x0 : Nat) : Int) : Int) < (((List.length l) : Nat) : Int)) ∧ (((List.flatMap boolC l)[(0 + Int.toNat ((x0 : Nat) : Int) * 1)]? = some (.bool (List.getD l x0 false))) ∧ (((List.getD l x0 false) = true → ((((List.length (truesTo l x0)) + 1) * 8 ≤ 2 ^ 44 ∧ 1 ≠ 0 ∧ ((List.length (truesTo l x0)) ≤ (List.length (truesTo l x0)) ∧ 0 + (List.length (truesTo l x0)) * 1 ≤ List.length (List.flatMap intC (truesTo l x0))) ∧ (1 ≤ 1 ∧ 0 + 1 * 1 ≤ List.length ([.int .i64 ((x0 : Nat) : Int)] : List Value)) ∧ ((List.take (1 * 1) (List.drop 0 ([.int .i64 ((x0 : Nat) : Int)] : List Value))) : List Value).all (fun v => one1 v) = true) ∧ true = true ∧ ((.int .i64 (IntKind.wrap .i64 (((x0 : Nat) : Int) + 1)) : Value) = .int .i64 (((x0 : Nat) : Int) + 1) ∧ (∃ x0' : Nat, (x0' ≤ List.length l) ∧ (List.length l - x0') < (List.length l - x0) ∧ true = true ∧ ((.int .i64 (((x0 : Nat) : Int) + 1) : Value) = .int .i64 ((x0' : Nat) : Int) ∧ wk (.slice (some ⟨3, 0, none⟩) ((List.length (truesTo l x0)) + 1) ((List.length (truesTo l x0)) + 1) : Value) (.slice (some ⟨3, 0, some 1⟩) (List.length (truesTo l x0')) (List.length (truesTo l x0')) : Value) ∧ wk (.slice (some ⟨0, 0, some 2⟩) (List.length l) (List.length l) : Value) (.slice (some ⟨0, 0, some 2⟩) (List.length l) (List.length l) : Value) ∧ (.slice none 0 0 : Value) = .slice none 0 0 ∧ True) ∧ (True) ∧ ((some (.cells true 1 ((List.take ((List.length (truesTo l x0)) * 1) (List.drop 0 (List.flatMap intC (truesTo l x0)))) ++ (List.take (1 * 1) (List.drop 0 ([.int .i64 ((x0 : Nat) : Int)] : List Value)))) : KObj) = some (.cells true 1 (List.flatMap intC (truesTo l x0')) : KObj) ∧ belowO 1 (.cells true 1 (List.flatMap intC (truesTo l x0')) : KObj) = true) ∧ True) ∧ (True))))) ∧ ((List.getD l x0 false) = false → ((.int .i64 (IntKind.wrap .i64 (((x0 : Nat) : Int) + 1)) : Value) = .int .i64 (((x0 : Nat) : Int) + 1) ∧ (∃ x0' : Nat, (x0' ≤ List.length l) ∧ (List.length l - x0') < (List.length l - x0) ∧ true = true ∧ ((.int .i64 (((x0 : Nat) : Int) + 1) : Value) = .int .i64 ((x0' : Nat) : Int) ∧ wk (.slice (some ⟨1, 0, some 1⟩) (List.length (truesTo l x0)) (List.length (truesTo l x0)) : Value) (.slice (some ⟨1, 0, some 1⟩) (List.length (truesTo l x0')) (List.length (truesTo l x0')) : Value) ∧ wk (.slice (some ⟨0, 0, some 2⟩) (List.length l) (List.length l) : Value) (.slice (some ⟨0, 0, some 2⟩) (List.length l) (List.length l) : Value) ∧ (.slice none 0 0 : Value) = .slice none 0 0 ∧ True) ∧ (True) ∧ ((some (.cells true 1 (List.flatMap intC (truesTo l x0)) : KObj) = some (.cells true 1 (List.flatMap intC (truesTo l x0')) : KObj) ∧ belowO 1 (.cells true 1 (List.flatMap intC (truesTo l x0')) : KObj) = true) ∧ True) ∧ (True)))))))) ∧ ((decide ((((x0 : Nat) : Int) : Int) < (((List.length l) : Nat) : Int))) = false → (true = true ∧ wk (.slice (some ⟨1, 0, some 1⟩) (List.length (truesTo l x0)) (List.length (truesTo l x0)) : Value) (rn (sg 1 [(1, 1)]) 3 (.slice (some ⟨1, 0, some 1⟩) (List.length (truesL l)) (List.length (truesL l)) : Value)) ∧ ((some (.cells true 1 (List.flatMap intC (truesTo l x0)) : KObj) = some (.cells true 1 (List.flatMap intC (truesL l)) : KObj) ∧ belowO 1 (.cells true 1 (List.flatMap intC (truesL l)) : KObj) = true) ∧ True)))))
theorem Erlist (l : List Bool) : vF prog msk (dm 0) 100000 true 40 true 80 [.slice (some ⟨0, 0, some 2⟩) (List.length l) (List.length l)] (readsT 0 [l.flatMap boolC]) (some [])
  (.go 2 (.inv 3 (Nat) (0) [] [] (fun x0 => [(4, .int .i64 ((x0 : Nat) : Int)), (3, .slice (some ⟨1, 0, some 1⟩) (List.length (truesTo l x0)) (List.length (truesTo l x0))), (0, .slice (some ⟨0, 0, some 2⟩) (List.length l) (List.length l)), (2, .slice none 0 0)]) (fun x0 => []) (fun x0 => [(true, .cells true 1 (List.flatMap intC (truesTo l x0)))]) (fun x0 => []) (fun x0 => (x0 ≤ List.length l)) (fun x0 => (List.length l - x0)) (fun x0 => .go 3 (.fork (.go 1 (.need (.val (.bool (List.getD l x0 false)) (.fork (.go 2 (.need (.go 2 (.slot 10 (.int .i64 (((x0 : Nat) : Int) + 1)) (.go 0 (.again [(1, 3)])))))) (.go 1 (.slot 10 (.int .i64 (((x0 : Nat) : Int) + 1)) (.go 0 (.again [(1, 1)])))))))) (.go 1 (.again [(1, 1)]))))))
  (newK ((readsT 0 [l.flatMap boolC]) : HT).n 3 (.slice (some ⟨1, 0, some 1⟩) (List.length (truesL l)) (List.length (truesL l))) [(true, .cells true 1 (List.flatMap intC (truesL l)))]) = Rrlist l := by kernel_rfl
def Rrgoes (w h : Int) (a : List Bool) (c : Int) (f : Flow) : Prop :=
  ((.int .i64 (IntKind.wrap .i64 (w * h)) : Value) = .int .i64 (w * h) ∧ (((0 : Int) ≤ (w * h) ∧ ((w * h) : Int) ≤ (w * h) ∧ ((w * h) : Int) < 2 ^ 62 ∧ 1 * ((w * h) : Int) ≤ 2 ^ 48) ∧ ((True) ∧ (∀ H' : Heap, H'.length = 4 → (True) → KCall prog 27 [.agg #[.int .i64 f.x.lo, .int .i64 f.x.hi, .int .i64 f.y.lo, .int .i64 f.y.hi]] H' [] (Is (.tuple #[.slice (some ⟨4, 0, some 1⟩) (List.length (movesF f)) (List.length (movesF f)), .int .i64 0]) (H' ++ [(.cells true 2 (List.flatMap moveC (movesF f)) : KObj)]))) ∧ (true = true ∧ (0 ≤ List.length (movesF f)) ∧ (true = true ∧ ((.int .i64 0 : Value) = .int .i64 ((0 : Nat) : Int) ∧ (.int .i64 c : Value) = .int .i64 c ∧ (.pointer (some ⟨1, 0, none⟩) : Value) = .pointer (some ⟨1, 0, none⟩) ∧ (.slice none 0 0 : Value) = .slice none 0 0 ∧ (.slice (some ⟨3, 0, none⟩) (Int.toNat (w * h)) (Int.toNat (w * h)) : Value) = .slice (some ⟨3, 0, none⟩) (Int.toNat (w * h)) (Int.toNat (w * h)) ∧ wk (.slice (some ⟨4, 0, some 1⟩) (List.length (movesF f)) (List.length (movesF f)) : Value) (.slice (some ⟨4, 0, some 1⟩) (List.length (movesF f)) (List.length (movesF f)) : Value) ∧ True) ∧ ((some (.cells true 1 (krep [.bool false] (Int.toNat (w * h))) : KObj) = some (.cells true 1 (List.flatMap boolC (goesTo (tgL w h a c f) (Int.toNat (w * h)) 0)) : KObj) ∧ belowO 5 (.cells true 1 (List.flatMap boolC (goesTo (tgL w h a c f) (Int.toNat (w * h)) 0)) : KObj) = true) ∧ (some (.cells true 0 [.int .i64 w, .int .i64 h, .slice (some ⟨0, 0, some 2⟩) (List.length a) (List.length a)] : KObj) = some (.cells true 0 [.int .i64 w, .int .i64 h, .slice (some ⟨0, 0, some 2⟩) (List.length a) (List.length a)] : KObj) ∧ belowO 5 (.cells true 0 [.int .i64 w, .int .i64 h, .slice (some ⟨0, 0, some 2⟩) (List.length a) (List.length a)] : KObj) = true) ∧ True) ∧ (True) ∧ (True)) ∧ (∀ x1 : Nat, true = true) ∧ ∀ x1 : Nat, (x1 ≤ List.length (movesF f)) → (((decide ((((x1 : Nat) : Int) : Int) < (((List.length (movesF f)) : Nat) : Int))) = true → (((0 : Int) ≤ ((x1 : Nat) : Int) ∧ (((x1 : Nat) : Int) : Int) < (((List.length (movesF f)) : Nat) : Int)) ∧ ((partA 2 (List.flatMap moveC (movesF f)) (0 + Int.toNat ((x1 : Nat) : Int) * 2) = some (.agg #[.int .i64 (List.getD (movesF f) x1 zeroM).dx, .int .i64 (List.getD (movesF f) x1 zeroM).dy])) ∧ (∃ r2 : Int, (((some (.cells false 0 (List.flatMap boolC a) : KObj) = some (.cells false 0 (List.flatMap boolC a) : KObj)) ∧ True) ∧ (∀ H' : Heap, H'.length = 5 → (H'[0]? = some (.cells false 0 (List.flatMap boolC a) : KObj) ∧ True) → KCall prog 126 [.agg #[.int .i64 w, .int .i64 h, .slice (some ⟨0, 0, some 2⟩) (List.length a) (List.length a)], .int .i64 c, .agg #[.int .i64 (List.getD (movesF f) x1 zeroM).dx, .int .i64 (List.getD (movesF f) x1 zeroM).dy]] H' [] (Is (.int .i64 r2) H')) ∧ (((0 : Int) ≤ r2 ∧ (r2 : Int) < (((Int.toNat (w * h)) : Nat) : Int)) ∧ (((0 + Int.toNat r2 * 1) + 1 ≤ List.length (List.flatMap boolC (goesTo (tgL w h a c f) (Int.toNat (w * h)) x1))) ∧ true = true ∧ ((.int .i64 (IntKind.wrap .i64 (((x1 : Nat) : Int) + 1)) : Value) = .int .i64 (((x1 : Nat) : Int) + 1) ∧ (∃ x1' : Nat, (x1' ≤ List.length (movesF f)) ∧ (List.length (movesF f) - x1') < (List.length (movesF f) - x1) ∧ true = true ∧ ((.int .i64 (((x1 : Nat) : Int) + 1) : Value) = .int .i64 ((x1' : Nat) : Int) ∧ (.int .i64 c : Value) = .int .i64 c ∧ (.pointer (some ⟨1, 0, none⟩) : Value) = .pointer (some ⟨1, 0, none⟩) ∧ (.slice none 0 0 : Value) = .slice none 0 0 ∧ (.slice (some ⟨3, 0, none⟩) (Int.toNat (w * h)) (Int.toNat (w * h)) : Value) = .slice (some ⟨3, 0, none⟩) (Int.toNat (w * h)) (Int.toNat (w * h)) ∧ wk (.slice (some ⟨4, 0, some 1⟩) (List.length (movesF f)) (List.length (movesF f)) : Value) (.slice (some ⟨4, 0, some 1⟩) (List.length (movesF f)) (List.length (movesF f)) : Value) ∧ True) ∧ ((some (.cells true 1 (setl (List.flatMap boolC (goesTo (tgL w h a c f) (Int.toNat (w * h)) x1)) (0 + Int.toNat r2 * 1) [.bool true]) : KObj) = some (.cells true 1 (List.flatMap boolC (goesTo (tgL w h a c f) (Int.toNat (w * h)) x1')) : KObj) ∧ belowO 5 (.cells true 1 (List.flatMap boolC (goesTo (tgL w h a c f) (Int.toNat (w * h)) x1')) : KObj) = true) ∧ (some (.cells true 0 [.int .i64 w, .int .i64 h, .slice (some ⟨0, 0, some 2⟩) (List.length a) (List.length a)] : KObj) = some (.cells true 0 [.int .i64 w, .int .i64 h, .slice (some ⟨0, 0, some 2⟩) (List.length a) (List.length a)] : KObj) ∧ belowO 5 (.cells true 0 [.int .i64 w, .int .i64 h, .slice (some ⟨0, 0, some 2⟩) (List.length a) (List.length a)] : KObj) = true) ∧ True) ∧ (True) ∧ (True)))))))))) ∧ ((decide ((((x1 : Nat) : Int) : Int) < (((List.length (movesF f)) : Nat) : Int))) = false → (true = true ∧ wk (.slice (some ⟨3, 0, none⟩) (Int.toNat (w * h)) (Int.toNat (w * h)) : Value) (rn (sg 1 [(1, 3)]) 3 (.slice (some ⟨1, 0, some 1⟩) (List.length (goesL w h a c f)) (List.length (goesL w h a c f)) : Value)) ∧ ((some (.cells true 1 (List.flatMap boolC (goesTo (tgL w h a c f) (Int.toNat (w * h)) x1)) : KObj) = some (.cells true 1 (List.flatMap boolC (goesL w h a c f)) : KObj) ∧ belowO 1 (.cells true 1 (List.flatMap boolC (goesL w h a c f)) : KObj) = true) ∧ True))))))))
theorem Ergoes (w h : Int) (a : List Bool) (c : Int) (f : Flow) : vF prog msk (dm 0) 100000 true 40 true 81 [.agg #[.int .i64 w, .int .i64 h, .slice (some ⟨0, 0, some 2⟩) (List.length a) (List.length a)], .agg #[.int .i64 f.x.lo, .int .i64 f.x.hi, .int .i64 f.y.lo, .int .i64 f.y.hi], .int .i64 c] (readsT 0 [a.flatMap boolC]) (some [])
  (.go 7 (.slot 15 (.int .i64 (w * h)) (.need (.go 1 (.ans [] (.tuple #[.slice (some ⟨4, 0, some 1⟩) (List.length (movesF f)) (List.length (movesF f)), .int .i64 0]) [.cells true 2 (List.flatMap moveC (movesF f))] (.go 5 (.inv 3 (Nat) (0) [] [3, 1] (fun x1 => [(10, .int .i64 ((x1 : Nat) : Int)), (2, .int .i64 c), (3, .pointer (some ⟨1, 0, none⟩)), (6, .slice none 0 0), (7, .slice (some ⟨3, 0, none⟩) (Int.toNat (w * h)) (Int.toNat (w * h))), (8, .slice (some ⟨4, 0, some 1⟩) (List.length (movesF f)) (List.length (movesF f)))]) (fun x1 => [(3, true, .cells true 1 (List.flatMap boolC (goesTo (tgL w h a c f) (Int.toNat (w * h)) x1))), (1, true, .cells true 0 [.int .i64 w, .int .i64 h, .slice (some ⟨0, 0, some 2⟩) (List.length a) (List.length a)])]) (fun x1 => []) (fun x1 => []) (fun x1 => (x1 ≤ List.length (movesF f))) (fun x1 => (List.length (movesF f) - x1)) (fun x1 => .go 3 (.fork (.go 4 (.need (.val (.agg #[.int .i64 (List.getD (movesF f) x1 zeroM).dx, .int .i64 (List.getD (movesF f) x1 zeroM).dy]) (.bind (Int) (fun r2 => .ans [(0, .cells false 0 (List.flatMap boolC a))] (.int .i64 r2) [] (.need (.need (.go 1 (.slot 27 (.int .i64 (((x1 : Nat) : Int) + 1)) (.go 0 (.again []))))))))))) (.go 1 (.again [(1, 3)])))))))))))
  (newK ((readsT 0 [a.flatMap boolC]) : HT).n 3 (.slice (some ⟨1, 0, some 1⟩) (List.length (goesL w h a c f)) (List.length (goesL w h a c f))) [(true, .cells true 1 (List.flatMap boolC (goesL w h a c f)))]) = Rrgoes w h a c f := by kernel_rfl
def Rtargets (w h : Int) (a : List Bool) (c : Int) (f : Flow) : Prop :=
  ((True) ∧ (∀ H' : Heap, H'.length = 3 → (True) → KCall prog 76 [.agg #[.int .i64 f.x.lo, .int .i64 f.x.hi, .int .i64 f.y.lo, .int .i64 f.y.hi]] H' [] (Is (.slice (some ⟨3, 0, some 1⟩) (List.length (movesF f)) (List.length (movesF f))) (H' ++ [(.cells true 2 (List.flatMap moveC (movesF f)) : KObj)]))) ∧ (true = true ∧ (0 ≤ List.length (movesF f)) ∧ (true = true ∧ ((.int .i64 0 : Value) = .int .i64 ((0 : Nat) : Int) ∧ wk (.slice none 0 0 : Value) (.slice (some ⟨0, 0, some 1⟩) 0 0 : Value) ∧ (.int .i64 c : Value) = .int .i64 c ∧ (.pointer (some ⟨1, 0, none⟩) : Value) = .pointer (some ⟨1, 0, none⟩) ∧ (.slice none 0 0 : Value) = .slice none 0 0 ∧ wk (.slice (some ⟨3, 0, some 1⟩) (List.length (movesF f)) (List.length (movesF f)) : Value) (.slice (some ⟨3, 0, some 1⟩) (List.length (movesF f)) (List.length (movesF f)) : Value) ∧ (.int .i64 (((List.length (movesF f)) : Nat) : Int) : Value) = .int .i64 (((List.length (movesF f)) : Nat) : Int) ∧ True) ∧ ((some (.cells true 0 [.int .i64 w, .int .i64 h, .slice (some ⟨0, 0, some 2⟩) (List.length a) (List.length a)] : KObj) = some (.cells true 0 [.int .i64 w, .int .i64 h, .slice (some ⟨0, 0, some 2⟩) (List.length a) (List.length a)] : KObj) ∧ belowO 4 (.cells true 0 [.int .i64 w, .int .i64 h, .slice (some ⟨0, 0, some 2⟩) (List.length a) (List.length a)] : KObj) = true) ∧ (some (.cells true 0 [.int .i64 f.x.lo, .int .i64 f.x.hi, .int .i64 f.y.lo, .int .i64 f.y.hi] : KObj) = some (.cells true 0 [.int .i64 f.x.lo, .int .i64 f.x.hi, .int .i64 f.y.lo, .int .i64 f.y.hi] : KObj) ∧ belowO 4 (.cells true 0 [.int .i64 f.x.lo, .int .i64 f.x.hi, .int .i64 f.y.lo, .int .i64 f.y.hi] : KObj) = true) ∧ True) ∧ (True ∧ True) ∧ (True)) ∧ (∀ x1 : Nat, true = true) ∧ ∀ x1 : Nat, (x1 ≤ List.length (movesF f)) → (((decide ((((x1 : Nat) : Int) : Int) < (((List.length (movesF f)) : Nat) : Int))) = true → (((0 : Int) ≤ ((x1 : Nat) : Int) ∧ (((x1 : Nat) : Int) : Int) < (((List.length (movesF f)) : Nat) : Int)) ∧ ((partA 2 (List.flatMap moveC (movesF f)) (0 + Int.toNat ((x1 : Nat) : Int) * 2) = some (.agg #[.int .i64 (List.getD (movesF f) x1 zeroM).dx, .int .i64 (List.getD (movesF f) x1 zeroM).dy])) ∧ (∃ r2 : Int, (((some (.cells false 0 (List.flatMap boolC a) : KObj) = some (.cells false 0 (List.flatMap boolC a) : KObj)) ∧ True) ∧ (∀ H' : Heap, H'.length = 6 → (H'[0]? = some (.cells false 0 (List.flatMap boolC a) : KObj) ∧ True) → KCall prog 63 [.agg #[.int .i64 w, .int .i64 h, .slice (some ⟨0, 0, some 2⟩) (List.length a) (List.length a)], .int .i64 c, .agg #[.int .i64 (List.getD (movesF f) x1 zeroM).dx, .int .i64 (List.getD (movesF f) x1 zeroM).dy]] H' [] (Is (.int .i64 r2) H')) ∧ (((x1 + 1) * 8 ≤ 2 ^ 44 ∧ 1 ≠ 0 ∧ (x1 ≤ x1 ∧ 0 + x1 * 1 ≤ List.length (List.flatMap intC (List.take x1 (tgL w h a c f)))) ∧ (1 ≤ 1 ∧ 0 + 1 * 1 ≤ List.length ([.int .i64 r2] : List Value)) ∧ ((List.take (1 * 1) (List.drop 0 ([.int .i64 r2] : List Value))) : List Value).all (fun v => one1 v) = true) ∧ true = true ∧ ((.int .i64 (IntKind.wrap .i64 (((x1 : Nat) : Int) + 1)) : Value) = .int .i64 (((x1 : Nat) : Int) + 1) ∧ (∃ x1' : Nat, (x1' ≤ List.length (movesF f)) ∧ (List.length (movesF f) - x1') < (List.length (movesF f) - x1) ∧ true = true ∧ ((.int .i64 (((x1 : Nat) : Int) + 1) : Value) = .int .i64 ((x1' : Nat) : Int) ∧ wk (.slice (some ⟨7, 0, none⟩) (x1 + 1) (x1 + 1) : Value) (.slice (some ⟨7, 0, some 1⟩) x1' x1' : Value) ∧ (.int .i64 c : Value) = .int .i64 c ∧ (.pointer (some ⟨1, 0, none⟩) : Value) = .pointer (some ⟨1, 0, none⟩) ∧ (.slice none 0 0 : Value) = .slice none 0 0 ∧ wk (.slice (some ⟨3, 0, some 1⟩) (List.length (movesF f)) (List.length (movesF f)) : Value) (.slice (some ⟨3, 0, some 1⟩) (List.length (movesF f)) (List.length (movesF f)) : Value) ∧ (.int .i64 (((List.length (movesF f)) : Nat) : Int) : Value) = .int .i64 (((List.length (movesF f)) : Nat) : Int) ∧ True) ∧ ((some (.cells true 0 [.int .i64 w, .int .i64 h, .slice (some ⟨0, 0, some 2⟩) (List.length a) (List.length a)] : KObj) = some (.cells true 0 [.int .i64 w, .int .i64 h, .slice (some ⟨0, 0, some 2⟩) (List.length a) (List.length a)] : KObj) ∧ belowO 4 (.cells true 0 [.int .i64 w, .int .i64 h, .slice (some ⟨0, 0, some 2⟩) (List.length a) (List.length a)] : KObj) = true) ∧ (some (.cells true 0 [.int .i64 f.x.lo, .int .i64 f.x.hi, .int .i64 f.y.lo, .int .i64 f.y.hi] : KObj) = some (.cells true 0 [.int .i64 f.x.lo, .int .i64 f.x.hi, .int .i64 f.y.lo, .int .i64 f.y.hi] : KObj) ∧ belowO 4 (.cells true 0 [.int .i64 f.x.lo, .int .i64 f.x.hi, .int .i64 f.y.lo, .int .i64 f.y.hi] : KObj) = true) ∧ True) ∧ ((some (.cells true 1 ((List.take (x1 * 1) (List.drop 0 (List.flatMap intC (List.take x1 (tgL w h a c f))))) ++ (List.take (1 * 1) (List.drop 0 ([.int .i64 r2] : List Value)))) : KObj) = some (.cells true 1 (List.flatMap intC (List.take x1' (tgL w h a c f))) : KObj) ∧ belowO 4 (.cells true 1 (List.flatMap intC (List.take x1' (tgL w h a c f))) : KObj) = true) ∧ True) ∧ (True))))))))) ∧ ((decide ((((x1 : Nat) : Int) : Int) < (((List.length (movesF f)) : Nat) : Int))) = false → (((some (.cells true 1 (List.flatMap intC (List.take x1 (tgL w h a c f))) : KObj) = some (.cells true 1 (List.flatMap intC (List.take x1 (tgL w h a c f))) : KObj)) ∧ True) ∧ (∀ H' : Heap, H'.length = 5 → (H'[4]? = some (.cells true 1 (List.flatMap intC (List.take x1 (tgL w h a c f))) : KObj) ∧ True) → KCall prog 124 [.slice (some ⟨4, 0, some 1⟩) x1 x1] H' [4] (Is (.tuple #[]) (List.set H' 4 (.cells true 1 (List.flatMap intC (srtI (tgL w h a c f))) : KObj)))) ∧ (((decide ((((x1 : Nat) : Int) : Int) < 2)) = true → (true = true ∧ wk (.slice (some ⟨4, 0, some 1⟩) x1 x1 : Value) (rn (sg 1 [(1, 4)]) 3 (.slice (some ⟨1, 0, some 2⟩) (List.length (comp (srtI (tgL w h a c f)))) (List.length (comp (srtI (tgL w h a c f)))) : Value)) ∧ ((some (.cells true 1 (List.flatMap intC (srtI (tgL w h a c f))) : KObj) = some (.cells true 1 (List.flatMap intC ((comp (srtI (tgL w h a c f))) ++ padT (tgL w h a c f))) : KObj) ∧ belowO 1 (.cells true 1 (List.flatMap intC ((comp (srtI (tgL w h a c f))) ++ padT (tgL w h a c f))) : KObj) = true) ∧ True))) ∧ ((decide ((((x1 : Nat) : Int) : Int) < 2)) = false → (true = true ∧ (1 ≤ 1 ∧ 1 ≤ List.length (srtI (tgL w h a c f)) ∧ comp (List.take 1 (srtI (tgL w h a c f))) = List.take 1 (srtI (tgL w h a c f))) ∧ (true = true ∧ ((.int .i64 1 : Value) = .int .i64 ((1 : Nat) : Int) ∧ wk (.slice (some ⟨4, 0, some 1⟩) x1 x1 : Value) (.slice (some ⟨4, 0, some 1⟩) x1 x1 : Value) ∧ True) ∧ ((some (.cells true 1 (List.flatMap intC (srtI (tgL w h a c f))) : KObj) = some (.cells true 1 (List.flatMap intC (srtI (tgL w h a c f))) : KObj) ∧ belowO 5 (.cells true 1 (List.flatMap intC (srtI (tgL w h a c f))) : KObj) = true) ∧ True) ∧ (True) ∧ (True)) ∧ (∀ x3 : Nat, true = true) ∧ ∀ x3 : Nat, (1 ≤ x3 ∧ x3 ≤ List.length (srtI (tgL w h a c f)) ∧ comp (List.take x3 (srtI (tgL w h a c f))) = List.take x3 (srtI (tgL w h a c f))) → (((decide ((((x3 : Nat) : Int) : Int) < ((x1 : Nat) : Int))) = true → (((0 : Int) ≤ ((x3 : Nat) : Int) ∧ (((x3 : Nat) : Int) : Int) < ((x1 : Nat) : Int)) ∧ (((List.flatMap intC (srtI (tgL w h a c f)))[(0 + Int.toNat ((x3 : Nat) : Int) * 1)]? = some (.int .i64 (List.getD (srtI (tgL w h a c f)) x3 0))) ∧ ((.int .i64 (IntKind.wrap .i64 (((x3 : Nat) : Int) - 1)) : Value) = .int .i64 (((x3 : Nat) : Int) - 1) ∧ (((0 : Int) ≤ (((x3 : Nat) : Int) - 1) ∧ ((((x3 : Nat) : Int) - 1) : Int) < ((x1 : Nat) : Int)) ∧ (((List.flatMap intC (srtI (tgL w h a c f)))[(0 + Int.toNat (((x3 : Nat) : Int) - 1) * 1)]? = some (.int .i64 (List.getD (srtI (tgL w h a c f)) (Int.toNat (((x3 : Nat) : Int) - 1)) 0))) ∧ (((((List.getD (srtI (tgL w h a c f)) x3 0) : Int) == (List.getD (srtI (tgL w h a c f)) (Int.toNat (((x3 : Nat) : Int) - 1)) 0)) = true → ((((true = false ∨ 1 = 0 ∨ 1 = 1) ∧ x1 ≤ x1) ∧ (x1 ≤ x1) ∧ ((0 : Int) ≤ ((x3 : Nat) : Int) ∧ (((x3 : Nat) : Int) : Int) ≤ ((x1 : Nat) : Int))) ∧ ((.slice (some ⟨4, (0 + (Int.toNat ((x3 : Nat) : Int)) * 1), some 2⟩) (x1 - (Int.toNat ((x3 : Nat) : Int))) (x1 - (Int.toNat ((x3 : Nat) : Int))) : Value) = .slice (some ⟨4, (0 + (Int.toNat ((x3 : Nat) : Int)) * 1), some 2⟩) (x1 - x3) (x1 - x3) ∧ (true = true ∧ (1 ≤ 1 ∧ (x3 + 1) ≤ List.length (srtI (tgL w h a c f)) ∧ cmpN (srtI (tgL w h a c f)) (x3 + 1) < (x3 + 1)) ∧ (true = true ∧ ((.int .i64 1 : Value) = .int .i64 ((1 : Nat) : Int) ∧ (.int .i64 ((x3 : Nat) : Int) : Value) = .int .i64 (((cmpN (srtI (tgL w h a c f)) (x3 + 1)) : Nat) : Int) ∧ wk (.slice (some ⟨4, 0, some 1⟩) x1 x1 : Value) (.slice (some ⟨4, 0, some 1⟩) x1 x1 : Value) ∧ wk (.slice (some ⟨4, (0 + (Int.toNat ((x3 : Nat) : Int)) * 1), some 2⟩) (x1 - x3) (x1 - x3) : Value) (.slice (some ⟨4, (0 + (Int.toNat ((x3 : Nat) : Int)) * 1), some 2⟩) (x1 - x3) (x1 - x3) : Value) ∧ True) ∧ ((some (.cells true 1 (List.flatMap intC (srtI (tgL w h a c f))) : KObj) = some (.cells true 1 (List.flatMap intC (cmpTo (srtI (tgL w h a c f)) (x3 + 1))) : KObj) ∧ belowO 5 (.cells true 1 (List.flatMap intC (cmpTo (srtI (tgL w h a c f)) (x3 + 1))) : KObj) = true) ∧ True) ∧ (True) ∧ (True)) ∧ (∀ x4 : Nat, true = true) ∧ ∀ x4 : Nat, (1 ≤ x4 ∧ (x3 + x4) ≤ List.length (srtI (tgL w h a c f)) ∧ cmpN (srtI (tgL w h a c f)) (x3 + x4) < (x3 + x4)) → (((decide ((((x4 : Nat) : Int) : Int) < (((x1 - x3) : Nat) : Int))) = true → (((0 : Int) ≤ ((x4 : Nat) : Int) ∧ (((x4 : Nat) : Int) : Int) < (((x1 - x3) : Nat) : Int)) ∧ (((List.flatMap intC (cmpTo (srtI (tgL w h a c f)) (x3 + x4)))[((0 + (Int.toNat ((x3 : Nat) : Int)) * 1) + Int.toNat ((x4 : Nat) : Int) * 1)]? = some (.int .i64 (List.getD (cmpTo (srtI (tgL w h a c f)) (x3 + x4)) (x3 + x4) 0))) ∧ ((.int .i64 (IntKind.wrap .i64 (((x4 : Nat) : Int) - 1)) : Value) = .int .i64 (((x4 : Nat) : Int) - 1) ∧ (((0 : Int) ≤ (((x4 : Nat) : Int) - 1) ∧ ((((x4 : Nat) : Int) - 1) : Int) < (((x1 - x3) : Nat) : Int)) ∧ (((List.flatMap intC (cmpTo (srtI (tgL w h a c f)) (x3 + x4)))[((0 + (Int.toNat ((x3 : Nat) : Int)) * 1) + Int.toNat (((x4 : Nat) : Int) - 1) * 1)]? = some (.int .i64 (List.getD (cmpTo (srtI (tgL w h a c f)) (x3 + x4)) (x3 + (Int.toNat (((x4 : Nat) : Int) - 1))) 0))) ∧ (((((List.getD (cmpTo (srtI (tgL w h a c f)) (x3 + x4)) (x3 + x4) 0) : Int) != (List.getD (cmpTo (srtI (tgL w h a c f)) (x3 + x4)) (x3 + (Int.toNat (((x4 : Nat) : Int) - 1))) 0)) = true → (∃ y5 : Int, (.int .i64 (((cmpN (srtI (tgL w h a c f)) (x3 + x4)) : Nat) : Int) : Value) = .int .i64 y5 ∧ (((0 : Int) ≤ ((x4 : Nat) : Int) ∧ (((x4 : Nat) : Int) : Int) < (((x1 - x3) : Nat) : Int)) ∧ (((List.flatMap intC (cmpTo (srtI (tgL w h a c f)) (x3 + x4)))[((0 + (Int.toNat ((x3 : Nat) : Int)) * 1) + Int.toNat ((x4 : Nat) : Int) * 1)]? = some (.int .i64 (List.getD (cmpTo (srtI (tgL w h a c f)) (x3 + x4)) (x3 + x4) 0))) ∧ (((0 : Int) ≤ y5 ∧ (y5 : Int) < ((x1 : Nat) : Int)) ∧ (((0 + Int.toNat y5 * 1) + 1 ≤ List.length (List.flatMap intC (cmpTo (srtI (tgL w h a c f)) (x3 + x4)))) ∧ true = true ∧ (∃ y6 : Int, (.int .i64 (((cmpN (srtI (tgL w h a c f)) (x3 + x4)) : Nat) : Int) : Value) = .int .i64 y6 ∧ ((.int .i64 (IntKind.wrap .i64 (y6 + 1)) : Value) = .int .i64 (y6 + 1) ∧ ((.int .i64 (IntKind.wrap .i64 (((x4 : Nat) : Int) + 1)) : Value) = .int .i64 (((x4 : Nat) : Int) + 1) ∧ (∃ x4' : Nat, (1 ≤ x4' ∧ (x3 + x4') ≤ List.length (srtI (tgL w h a c f)) ∧ cmpN (srtI (tgL w h a c f)) (x3 + x4') < (x3 + x4')) ∧ (List.length (srtI (tgL w h a c f)) - (x3 + x4')) < (List.length (srtI (tgL w h a c f)) - (x3 + x4)) ∧ true = true ∧ ((.int .i64 (((x4 : Nat) : Int) + 1) : Value) = .int .i64 ((x4' : Nat) : Int) ∧ (.int .i64 (y6 + 1) : Value) = .int .i64 (((cmpN (srtI (tgL w h a c f)) (x3 + x4')) : Nat) : Int) ∧ wk (.slice (some ⟨4, 0, some 1⟩) x1 x1 : Value) (.slice (some ⟨4, 0, some 1⟩) x1 x1 : Value) ∧ wk (.slice (some ⟨4, (0 + (Int.toNat ((x3 : Nat) : Int)) * 1), some 2⟩) (x1 - x3) (x1 - x3) : Value) (.slice (some ⟨4, (0 + (Int.toNat ((x3 : Nat) : Int)) * 1), some 2⟩) (x1 - x3) (x1 - x3) : Value) ∧ True) ∧ ((some (.cells true 1 (setl (List.flatMap intC (cmpTo (srtI (tgL w h a c f)) (x3 + x4))) (0 + Int.toNat y5 * 1) [.int .i64 (List.getD (cmpTo (srtI (tgL w h a c f)) (x3 + x4)) (x3 + x4) 0)]) : KObj) = some (.cells true 1 (List.flatMap intC (cmpTo (srtI (tgL w h a c f)) (x3 + x4'))) : KObj) ∧ belowO 5 (.cells true 1 (List.flatMap intC (cmpTo (srtI (tgL w h a c f)) (x3 + x4'))) : KObj) = true) ∧ True) ∧ (True) ∧ (True))))))))))) ∧ ((((List.getD (cmpTo (srtI (tgL w h a c f)) (x3 + x4)) (x3 + x4) 0) : Int) != (List.getD (cmpTo (srtI (tgL w h a c f)) (x3 + x4)) (x3 + (Int.toNat (((x4 : Nat) : Int) - 1))) 0)) = false → ((.int .i64 (IntKind.wrap .i64 (((x4 : Nat) : Int) + 1)) : Value) = .int .i64 (((x4 : Nat) : Int) + 1) ∧ (∃ x4' : Nat, (1 ≤ x4' ∧ (x3 + x4') ≤ List.length (srtI (tgL w h a c f)) ∧ cmpN (srtI (tgL w h a c f)) (x3 + x4') < (x3 + x4')) ∧ (List.length (srtI (tgL w h a c f)) - (x3 + x4')) < (List.length (srtI (tgL w h a c f)) - (x3 + x4)) ∧ true = true ∧ ((.int .i64 (((x4 : Nat) : Int) + 1) : Value) = .int .i64 ((x4' : Nat) : Int) ∧ (.int .i64 (((cmpN (srtI (tgL w h a c f)) (x3 + x4)) : Nat) : Int) : Value) = .int .i64 (((cmpN (srtI (tgL w h a c f)) (x3 + x4')) : Nat) : Int) ∧ wk (.slice (some ⟨4, 0, some 1⟩) x1 x1 : Value) (.slice (some ⟨4, 0, some 1⟩) x1 x1 : Value) ∧ wk (.slice (some ⟨4, (0 + (Int.toNat ((x3 : Nat) : Int)) * 1), some 2⟩) (x1 - x3) (x1 - x3) : Value) (.slice (some ⟨4, (0 + (Int.toNat ((x3 : Nat) : Int)) * 1), some 2⟩) (x1 - x3) (x1 - x3) : Value) ∧ True) ∧ ((some (.cells true 1 (List.flatMap intC (cmpTo (srtI (tgL w h a c f)) (x3 + x4))) : KObj) = some (.cells true 1 (List.flatMap intC (cmpTo (srtI (tgL w h a c f)) (x3 + x4'))) : KObj) ∧ belowO 5 (.cells true 1 (List.flatMap intC (cmpTo (srtI (tgL w h a c f)) (x3 + x4'))) : KObj) = true) ∧ True) ∧ (True) ∧ (True))))))))))) ∧ ((decide ((((x4 : Nat) : Int) : Int) < (((x1 - x3) : Nat) : Int))) = false → (∃ y5 : Int, (.int .i64 (((cmpN (srtI (tgL w h a c f)) (x3 + x4)) : Nat) : Int) : Value) = .int .i64 y5 ∧ ((((true = false ∨ 1 = 0 ∨ 1 = 1) ∧ x1 ≤ x1) ∧ (x1 ≤ x1) ∧ ((0 : Int) ≤ y5 ∧ (y5 : Int) ≤ ((x1 : Nat) : Int))) ∧ (((0 + (Int.toNat y5) * 1) + (x1 - (Int.toNat y5)) * 1 ≤ List.length (List.flatMap intC (cmpTo (srtI (tgL w h a c f)) (x3 + x4)))) ∧ true = true ∧ (∃ y6 : Int, (.int .i64 (((cmpN (srtI (tgL w h a c f)) (x3 + x4)) : Nat) : Int) : Value) = .int .i64 y6 ∧ ((((true = false ∨ 1 = 0 ∨ 1 = 1) ∧ (Int.toNat y6) ≤ x1) ∧ ((0 : Int) ≤ y6 ∧ (y6 : Int) ≤ ((x1 : Nat) : Int)) ∧ (0 ≤ (Int.toNat y6))) ∧ ((.slice (some ⟨4, 0, some 2⟩) ((Int.toNat y6) - 0) ((Int.toNat y6) - 0) : Value) = .slice (some ⟨4, 0, some 2⟩) (Int.toNat y6) (Int.toNat y6) ∧ (true = true ∧ wk (.slice (some ⟨4, 0, some 2⟩) (Int.toNat y6) (Int.toNat y6) : Value) (rn (sg 1 [(1, 4)]) 3 (.slice (some ⟨1, 0, some 2⟩) (List.length (comp (srtI (tgL w h a c f)))) (List.length (comp (srtI (tgL w h a c f)))) : Value)) ∧ ((some (.cells true 1 (setl (List.flatMap intC (cmpTo (srtI (tgL w h a c f)) (x3 + x4))) (0 + (Int.toNat y5) * 1) (krep [.int .i64 0] (x1 - (Int.toNat y5)))) : KObj) = some (.cells true 1 (List.flatMap intC ((comp (srtI (tgL w h a c f))) ++ padT (tgL w h a c f))) : KObj) ∧ belowO 1 (.cells true 1 (List.flatMap intC ((comp (srtI (tgL w h a c f))) ++ padT (tgL w h a c f))) : KObj) = true) ∧ True)))))))))))))) ∧ ((((List.getD (srtI (tgL w h a c f)) x3 0) : Int) == (List.getD (srtI (tgL w h a c f)) (Int.toNat (((x3 : Nat) : Int) - 1)) 0)) = false → ((.int .i64 (IntKind.wrap .i64 (((x3 : Nat) : Int) + 1)) : Value) = .int .i64 (((x3 : Nat) : Int) + 1) ∧ (∃ x3' : Nat, (1 ≤ x3' ∧ x3' ≤ List.length (srtI (tgL w h a c f)) ∧ comp (List.take x3' (srtI (tgL w h a c f))) = List.take x3' (srtI (tgL w h a c f))) ∧ (List.length (srtI (tgL w h a c f)) - x3') < (List.length (srtI (tgL w h a c f)) - x3) ∧ true = true ∧ ((.int .i64 (((x3 : Nat) : Int) + 1) : Value) = .int .i64 ((x3' : Nat) : Int) ∧ wk (.slice (some ⟨4, 0, some 1⟩) x1 x1 : Value) (.slice (some ⟨4, 0, some 1⟩) x1 x1 : Value) ∧ True) ∧ ((some (.cells true 1 (List.flatMap intC (srtI (tgL w h a c f))) : KObj) = some (.cells true 1 (List.flatMap intC (srtI (tgL w h a c f))) : KObj) ∧ belowO 5 (.cells true 1 (List.flatMap intC (srtI (tgL w h a c f))) : KObj) = true) ∧ True) ∧ (True) ∧ (True))))))))))) ∧ ((decide ((((x3 : Nat) : Int) : Int) < ((x1 : Nat) : Int))) = false → (true = true ∧ wk (.slice (some ⟨4, 0, some 1⟩) x1 x1 : Value) (rn (sg 1 [(1, 4)]) 3 (.slice (some ⟨1, 0, some 2⟩) (List.length (comp (srtI (tgL w h a c f)))) (List.length (comp (srtI (tgL w h a c f)))) : Value)) ∧ ((some (.cells true 1 (List.flatMap intC (srtI (tgL w h a c f))) : KObj) = some (.cells true 1 (List.flatMap intC ((comp (srtI (tgL w h a c f))) ++ padT (tgL w h a c f))) : KObj) ∧ belowO 1 (.cells true 1 (List.flatMap intC ((comp (srtI (tgL w h a c f))) ++ padT (tgL w h a c f))) : KObj) = true) ∧ True))))))))))))
theorem Etargets (w h : Int) (a : List Bool) (c : Int) (f : Flow) : vF prog msk (dm 0) 100000 true 40 true 78 [.agg #[.int .i64 w, .int .i64 h, .slice (some ⟨0, 0, some 2⟩) (List.length a) (List.length a)], .agg #[.int .i64 f.x.lo, .int .i64 f.x.hi, .int .i64 f.y.lo, .int .i64 f.y.hi], .int .i64 c] (readsT 0 [a.flatMap boolC]) (some [])
  (.go 4 (.ans [] (.slice (some ⟨3, 0, some 1⟩) (List.length (movesF f)) (List.length (movesF f))) [.cells true 2 (List.flatMap moveC (movesF f))] (.go 1 (.inv 3 (Nat) (0) [] [1, 2] (fun x1 => [(13, .int .i64 ((x1 : Nat) : Int)), (7, .slice (some ⟨4, 0, some 1⟩) x1 x1), (2, .int .i64 c), (3, .pointer (some ⟨1, 0, none⟩)), (6, .slice none 0 0), (11, .slice (some ⟨3, 0, some 1⟩) (List.length (movesF f)) (List.length (movesF f))), (12, .int .i64 (((List.length (movesF f)) : Nat) : Int))]) (fun x1 => [(1, true, .cells true 0 [.int .i64 w, .int .i64 h, .slice (some ⟨0, 0, some 2⟩) (List.length a) (List.length a)]), (2, true, .cells true 0 [.int .i64 f.x.lo, .int .i64 f.x.hi, .int .i64 f.y.lo, .int .i64 f.y.hi])]) (fun x1 => [(true, .cells true 1 (List.flatMap intC (List.take x1 (tgL w h a c f))))]) (fun x1 => []) (fun x1 => (x1 ≤ List.length (movesF f))) (fun x1 => (List.length (movesF f) - x1)) (fun x1 => .go 0 (.fork (.need (.val (.agg #[.int .i64 (List.getD (movesF f) x1 zeroM).dx, .int .i64 (List.getD (movesF f) x1 zeroM).dy]) (.go 5 (.bind (Int) (fun r2 => .ans [(0, .cells false 0 (List.flatMap boolC a))] (.int .i64 r2) [] (.go 0 (.need (.go 1 (.slot 24 (.int .i64 (((x1 : Nat) : Int) + 1)) (.go 0 (.again [(4, 7)]))))))))))) (.go 0 (.answ [(4, .cells true 1 (List.flatMap intC (List.take x1 (tgL w h a c f))))] (.tuple #[]) [(4, .cells true 1 (List.flatMap intC (srtI (tgL w h a c f))))] (.go 0 (.into (some [1, 2, 3, 4]) (.go 3 (.fork (.go 1 (.keep (.go 0 (.again [(1, 4)])))) (.go 0 (.inv 3 (Nat) (1) [] [4] (fun x3 => [(3, .int .i64 ((x3 : Nat) : Int)), (0, .slice (some ⟨4, 0, some 1⟩) x1 x1)]) (fun x3 => [(4, true, .cells true 1 (List.flatMap intC (srtI (tgL w h a c f))))]) (fun x3 => []) (fun x3 => []) (fun x3 => (1 ≤ x3 ∧ x3 ≤ List.length (srtI (tgL w h a c f)) ∧ comp (List.take x3 (srtI (tgL w h a c f))) = List.take x3 (srtI (tgL w h a c f)))) (fun x3 => (List.length (srtI (tgL w h a c f)) - x3)) (fun x3 => .go 3 (.fork (.go 1 (.need (.val (.int .i64 (List.getD (srtI (tgL w h a c f)) x3 0)) (.go 2 (.slot 22 (.int .i64 (((x3 : Nat) : Int) - 1)) (.need (.val (.int .i64 (List.getD (srtI (tgL w h a c f)) (Int.toNat (((x3 : Nat) : Int) - 1)) 0)) (.go 0 (.fork (.go 1 (.need (.slot 28 (.slice (some ⟨4, (0 + (Int.toNat ((x3 : Nat) : Int)) * 1), some 2⟩) (x1 - x3) (x1 - x3)) (.go 1 (.inv 3 (Nat) (1) [] [4] (fun x4 => [(5, .int .i64 ((x4 : Nat) : Int)), (3, .int .i64 (((cmpN (srtI (tgL w h a c f)) (x3 + x4)) : Nat) : Int)), (0, .slice (some ⟨4, 0, some 1⟩) x1 x1), (4, .slice (some ⟨4, (0 + (Int.toNat ((x3 : Nat) : Int)) * 1), some 2⟩) (x1 - x3) (x1 - x3))]) (fun x4 => [(4, true, .cells true 1 (List.flatMap intC (cmpTo (srtI (tgL w h a c f)) (x3 + x4))))]) (fun x4 => []) (fun x4 => []) (fun x4 => (1 ≤ x4 ∧ (x3 + x4) ≤ List.length (srtI (tgL w h a c f)) ∧ cmpN (srtI (tgL w h a c f)) (x3 + x4) < (x3 + x4))) (fun x4 => (List.length (srtI (tgL w h a c f)) - (x3 + x4))) (fun x4 => .go 3 (.fork (.go 1 (.need (.val (.int .i64 (List.getD (cmpTo (srtI (tgL w h a c f)) (x3 + x4)) (x3 + x4) 0)) (.go 2 (.slot 41 (.int .i64 (((x4 : Nat) : Int) - 1)) (.need (.val (.int .i64 (List.getD (cmpTo (srtI (tgL w h a c f)) (x3 + x4)) (x3 + (Int.toNat (((x4 : Nat) : Int) - 1))) 0)) (.go 0 (.fork (.go 1 (.bind Int (fun y5 => .slot 46 (.int .i64 y5) (.go 1 (.need (.val (.int .i64 (List.getD (cmpTo (srtI (tgL w h a c f)) (x3 + x4)) (x3 + x4) 0)) (.need (.need (.go 0 (.bind Int (fun y6 => .slot 52 (.int .i64 y6) (.go 0 (.slot 53 (.int .i64 (y6 + 1)) (.go 2 (.slot 34 (.int .i64 (((x4 : Nat) : Int) + 1)) (.go 0 (.again []))))))))))))))))) (.go 1 (.slot 34 (.int .i64 (((x4 : Nat) : Int) + 1)) (.go 0 (.again []))))))))))))) (.go 1 (.bind Int (fun y5 => .slot 55 (.int .i64 y5) (.need (.need (.go 1 (.bind Int (fun y6 => .slot 58 (.int .i64 y6) (.need (.slot 59 (.slice (some ⟨4, 0, some 2⟩) (Int.toNat y6) (Int.toNat y6)) (.go 0 (.keep (.go 0 (.again [(1, 4)]))))))))))))))))))))) (.go 1 (.slot 15 (.int .i64 (((x3 : Nat) : Int) + 1)) (.go 0 (.again []))))))))))))) (.go 1 (.keep (.go 0 (.again [(1, 4)]))))))))))))))))))))
  (newK ((readsT 0 [a.flatMap boolC]) : HT).n 3 (.slice (some ⟨1, 0, some 2⟩) (List.length (comp (srtI (tgL w h a c f)))) (List.length (comp (srtI (tgL w h a c f))))) [(true, .cells true 1 (List.flatMap intC ((comp (srtI (tgL w h a c f))) ++ padT (tgL w h a c f))))]) = Rtargets w h a c f := by kernel_rfl
end
end Go.Proofs.Ytkkgnalgmebfjaa
/- Drift: the moves of a flow: what they answer. No condition. -/
namespace Go.Proofs.Ytkkgnalgmebfjaa
open Go Go.K
set_option maxRecDepth 100000
set_option linter.unusedVariables false
set_option linter.unusedSimpArgs false
noncomputable section
attribute [local irreducible] vF
theorem flat_le {α : Type} {f : α → List Value} {n : Nat} (hf : ∀ x, (f x).length = n) (xs : List α) : 0 + xs.length * n ≤ (xs.flatMap f).length := by rw [flat_len hf]; omega
theorem wk_snoc {α : Type} {L M : List α} {x : α} {id : Nat} (hM : M = L ++ [x]) : wk (.slice (some ⟨id, 0, none⟩) (L.length + 1) (L.length + 1)) (.slice (some ⟨id, 0, some 1⟩) M.length M.length) := by
  have : M.length = L.length + 1 := by rw [hM, List.length_append]; rfl
  rw [this]; exact wk_Q (by omega)
theorem ob_snoc {α : Type} {f : α → List Value} {n : Nat} (hf : ∀ x, (f x).length = n) {L M : List α} {x : α} {c : List Value} {own : Bool} (hM : M = L ++ [x]) (hc : f x = c) :
    (some (KObj.cells own n (List.take (L.length * n) (List.drop 0 (L.flatMap f)) ++ List.take (1 * n) (List.drop 0 c))) : Option KObj) = some (.cells own n (M.flatMap f)) := by
  subst hc
  rw [hM, ← flat_snoc hf L x rfl, List.drop_zero, List.drop_zero, List.take_of_length_le (l := f x) (by rw [hf]; omega), List.take_of_length_le (by rw [flat_len hf]; omega)]
/-- An answer with one new list; nothing read. -/
theorem valQ0 {f : FuncId} {args : List Value} {h : Hint} (v : Nat → Value) {z : Nat} {cs : List Value}
    (hc : vF prog msk (dm 0) 100000 true 40 true f args ⟨0, .leaf⟩ (some []) h (newK 0 3 (v 0) [(true, .cells true z cs)]))
    (hp : ∀ n, cs.all (belowC n) = true) (h1 : rnOk 3 (v 0) = true) (h2 : rn (sgOnly 0) 3 (v 0) = v 0) (h3 : ∀ j, rn (sgUp 0 j) 3 (v 0) = v j) (ha : ∀ σ, args.map (rn σ 3) = args) (H : Heap) :
    KCall prog f args H [] (Is (v H.length) (H ++ [.cells true z cs])) := by
  have key := valN (css := []) (v := v 0) (new := [(true, .cells true z cs)]) hc (fun c hc => by cases hc) h1 h2
    (by show ((rnoOk 3 (.cells true z cs) && true) && true) = true
        rw [Bool.and_true, Bool.and_true]; exact (rnCl (σ := fun _ => none) (d := 0) (hp 0)).2)
    (congrArg (fun q => [KObj.cells true z q]) (rnCl (d := 0) (hp 0)).1) (H := H) [] rfl (fun k c hk => by cases hk)
  have e2 : (List.map (fun x : Bool × KObj => x.2) [(true, KObj.cells true z cs)]).map (rno (sgUp (0 + ([] : List (List Value)).length) H.length) 3) = [.cells true z cs] :=
    congrArg (fun q => [KObj.cells true z q]) (rnCl (d := 0) (hp 0)).1
  rw [e2, show rn (sgUp (0 + ([] : List (List Value)).length) H.length) 3 (v 0) = v H.length from h3 _, ha] at key
  exact key
theorem moveC_len (m : Move) : (moveC m).length = 2 := rfl
theorem plainML (n : Nat) (l : List Move) : (l.flatMap moveC).all (belowC n) = true := plain_flat (fun _ => rfl) l
theorem mvRow_len (f : Flow) (j n : Nat) : (mvRow f j n).length = n := tabP_len _ _
theorem mvTo_len (f : Flow) : ∀ j, (mvTo f j).length = j * nxF f
  | 0 => by simp [mvTo]
  | j + 1 => by rw [mvTo, List.length_append, mvTo_len f j, mvRow_len, Nat.add_mul, Nat.one_mul]
theorem mvRow_succ (f : Flow) (j n : Nat) : mvRow f j (n + 1) = mvRow f j n ++ [⟨(endA f).dx + (n : Int), (endA f).dy + (j : Int)⟩] := tabP_succ _ _
theorem ends_bd {f : Flow} (hf : rightF f) : (-2 ≤ (endA f).dx ∧ (endA f).dx ≤ (endZ f).dx ∧ (endZ f).dx ≤ 2) ∧ (-2 ≤ (endA f).dy ∧ (endA f).dy ≤ (endZ f).dy ∧ (endZ f).dy ≤ 2) := by
  obtain ⟨⟨a1, a2, a3⟩, a4, a5, a6⟩ := hf
  unfold endA endZ
  dsimp only
  omega
theorem nx_bd {f : Flow} (hf : rightF f) : 1 ≤ nxF f ∧ nxF f ≤ 5 ∧ ((nxF f : Nat) : Int) = (endZ f).dx - (endA f).dx + 1 := by
  have := ends_bd hf
  unfold nxF
  omega
theorem ny_bd {f : Flow} (hf : rightF f) : 1 ≤ nyF f ∧ nyF f ≤ 5 ∧ ((nyF f : Nat) : Int) = (endZ f).dy - (endA f).dy + 1 := by
  have := ends_bd hf
  unfold nyF
  omega
theorem mvTo_bd {f : Flow} (hf : rightF f) {x : Nat} (hx : x ≤ nyF f) : (mvTo f x).length ≤ 25 := by
  have h1 := nx_bd hf
  have h2 := ny_bd hf
  rw [mvTo_len]
  exact Nat.mul_le_mul (show x ≤ 5 by omega) (show nxF f ≤ 5 by omega)
theorem movesF_bd {f : Flow} (hf : rightF f) : 1 ≤ (movesF f).length ∧ (movesF f).length ≤ 25 := by
  have h1 := nx_bd hf
  have h2 := ny_bd hf
  refine ⟨?_, mvTo_bd hf (Nat.le_refl _)⟩
  unfold movesF
  rw [mvTo_len]
  exact Nat.mul_le_mul (show 1 ≤ nyF f by omega) (show 1 ≤ nxF f by omega)
theorem kmoves (f : Flow) (hf : rightF f) {H : Heap} {L : Nat} (hL : H.length = L) : KCall prog F.drift_Flow_moves [flowV f] H [] (Is (.slice (some ⟨L, 0, some 1⟩) (movesF f).length (movesF f).length) (H ++ [.cells true 2 ((movesF f).flatMap moveC)])) := by
  subst hL
  refine valQ0 (fun i => .slice (some ⟨i, 0, some 1⟩) (movesF f).length (movesF f).length) (Eq.mpr (Emoves f) ?_) (fun n => plainML n _) rfl rfl (fun _ => rfl) (fun _ => rfl) H
  unfold Rmoves
  have eb := ends_bd hf
  have xb := nx_bd hf
  have yb := ny_bd hf
  refine ⟨trivial, fun H' _ _ => kends f hf H', rfl, Nat.zero_le _, ?_, fun _ => rfl, ?_⟩
  · repeat' first
      | exact iEq (by omega)
      | exact trivial
      | exact rfl
      | exact wk_refl _
      | refine wkO_cells ?_
      | refine wks_cons ?_ ?_
      | exact wks_nil
      | exact wk_nil _ _ _ (.inl rfl)
      | exact wk_Q (by omega)
      | refine wk_tupL ?_
      | refine wk_aggL ?_
      | refine joinMax ?_ ?_ ?_
      | refine joinMin ?_ ?_ ?_
      | refine toMax ?_
      | refine toMin ?_
      | refine ⟨rfl, ?_⟩
      | refine ⟨trivial, ?_⟩
      | refine forkD (fun h => ?_) (fun h => ?_)
      | refine forkNe (fun h => ?_) (fun h => ?_)
      | refine forkEq (fun h => ?_) (fun h => ?_)
      | refine forkNot ?_
      | refine ⟨vI64 (by omega), ?_⟩
      | refine And.intro (by omega) ?_
      | apply And.intro
      | exact iEq (by omega)
      | exact vI64 (by omega)
      | fail
  intro x hx
  refine forkD (fun k => ?_) (fun k => ?_)
  · have hx1 : x < nyF f := by omega
    refine ⟨rfl, Nat.zero_le _, ?_, fun _ => rfl, ?_⟩
    · rw [show mvTo f x ++ mvRow f x 0 = mvTo f x from List.append_nil _]
      repeat' first
        | exact iEq (by omega)
        | exact plainML _ _
        | exact trivial
        | exact rfl
        | exact wk_refl _
        | refine wkO_cells ?_
        | refine wks_cons ?_ ?_
        | exact wks_nil
        | exact wk_nil _ _ _ (.inl rfl)
        | exact wk_Q (by omega)
        | refine wk_tupL ?_
        | refine wk_aggL ?_
        | refine joinMax ?_ ?_ ?_
        | refine joinMin ?_ ?_ ?_
        | refine toMax ?_
        | refine toMin ?_
        | refine ⟨rfl, ?_⟩
        | refine ⟨trivial, ?_⟩
        | refine forkD (fun h => ?_) (fun h => ?_)
        | refine forkNe (fun h => ?_) (fun h => ?_)
        | refine forkEq (fun h => ?_) (fun h => ?_)
        | refine forkNot ?_
        | refine ⟨vI64 (by omega), ?_⟩
        | refine And.intro (by omega) ?_
        | apply And.intro
        | exact iEq (by omega)
        | exact vI64 (by omega)
        | fail
    intro y hy
    have hlen : (mvTo f x ++ mvRow f x y).length ≤ 30 := by
      rw [List.length_append, mvRow_len]
      have := mvTo_bd hf (Nat.le_of_lt hx1)
      omega
    refine forkD (fun k2 => ?_) (fun k2 => ?_)
    · have hy1 : y < nxF f := by omega
      have hM : mvTo f x ++ mvRow f x (y + 1) = (mvTo f x ++ mvRow f x y) ++ [⟨(endA f).dx + (y : Int), (endA f).dy + (x : Int)⟩] := by rw [mvRow_succ, List.append_assoc]
      repeat' first
        | refine ⟨y + 1, by omega, by omega, rfl, ?_⟩
        | exact wk_snoc hM
        | exact ob_snoc moveC_len hM rfl
        | exact plainML _ _
        | exact flat_le moveC_len _
        | exact Nat.le_refl _
        | exact trivial
        | exact rfl
        | exact wk_refl _
        | refine wkO_cells ?_
        | refine wks_cons ?_ ?_
        | exact wks_nil
        | exact wk_nil _ _ _ (.inl rfl)
        | exact wk_Q (by omega)
        | refine wk_tupL ?_
        | refine wk_aggL ?_
        | refine joinMax ?_ ?_ ?_
        | refine joinMin ?_ ?_ ?_
        | refine toMax ?_
        | refine toMin ?_
        | refine ⟨rfl, ?_⟩
        | refine ⟨trivial, ?_⟩
        | refine forkD (fun h => ?_) (fun h => ?_)
        | refine forkNe (fun h => ?_) (fun h => ?_)
        | refine forkEq (fun h => ?_) (fun h => ?_)
        | refine forkNot ?_
        | refine ⟨vI64 (by omega), ?_⟩
        | refine And.intro (by omega) ?_
        | apply And.intro
        | exact iEq (by omega)
        | exact vI64 (by omega)
        | fail
    · obtain rfl : y = nxF f := by omega
      repeat' first
        | refine ⟨x + 1, by omega, by omega, rfl, ?_⟩
        | exact plainML _ _
        | exact trivial
        | exact rfl
        | exact wk_refl _
        | refine wkO_cells ?_
        | refine wks_cons ?_ ?_
        | exact wks_nil
        | exact wk_nil _ _ _ (.inl rfl)
        | exact wk_Q (by omega)
        | refine wk_tupL ?_
        | refine wk_aggL ?_
        | refine joinMax ?_ ?_ ?_
        | refine joinMin ?_ ?_ ?_
        | refine toMax ?_
        | refine toMin ?_
        | refine ⟨rfl, ?_⟩
        | refine ⟨trivial, ?_⟩
        | refine forkD (fun h => ?_) (fun h => ?_)
        | refine forkNe (fun h => ?_) (fun h => ?_)
        | refine forkEq (fun h => ?_) (fun h => ?_)
        | refine forkNot ?_
        | refine ⟨vI64 (by omega), ?_⟩
        | refine And.intro (by omega) ?_
        | apply And.intro
        | exact iEq (by omega)
        | exact vI64 (by omega)
        | fail
  · obtain rfl : x = nyF f := by omega
    repeat' first
      | exact plainML _ _
      | exact trivial
      | exact rfl
      | exact wk_refl _
      | refine wkO_cells ?_
      | refine wks_cons ?_ ?_
      | exact wks_nil
      | exact wk_nil _ _ _ (.inl rfl)
      | exact wk_Q (by omega)
      | refine wk_tupL ?_
      | refine wk_aggL ?_
      | refine joinMax ?_ ?_ ?_
      | refine joinMin ?_ ?_ ?_
      | refine toMax ?_
      | refine toMin ?_
      | refine ⟨rfl, ?_⟩
      | refine ⟨trivial, ?_⟩
      | refine forkD (fun h => ?_) (fun h => ?_)
      | refine forkNe (fun h => ?_) (fun h => ?_)
      | refine forkEq (fun h => ?_) (fun h => ?_)
      | refine forkNot ?_
      | refine ⟨vI64 (by omega), ?_⟩
      | refine And.intro (by omega) ?_
      | apply And.intro
      | exact iEq (by omega)
      | exact vI64 (by omega)
      | fail
theorem fMoves_0 {f : Flow} (h : rightF f) : fMoves f = (movesF f, 0) := if_pos h
theorem fMoves_1 {f : Flow} (h : ¬ rightF f) : fMoves f = ([], 30) := if_neg h
abbrev mvsV (i : Nat) (r : List Move × Int) : Value := .tuple #[.slice (some ⟨i, 0, some 1⟩) r.1.length r.1.length, .int .i64 r.2]
theorem kMoves (f : Flow) {H : Heap} {L : Nat} (hL : H.length = L) : KCall prog F.drift_Moves [flowV f] H [] (Is (mvsV L (fMoves f)) (H ++ [.cells true 2 ((fMoves f).1.flatMap moveC)])) := by
  subst hL
  refine valQ0 (fun i => mvsV i (fMoves f)) (Eq.mpr (EMoves f) ?_) (fun n => plainML n _) rfl rfl (fun _ => rfl) (fun _ => rfl) H
  unfold RMoves
  by_cases h : rightF f
  · rw [fMoves_0 h]
    have hf := h
    obtain ⟨⟨a1, a2, a3⟩, a4, a5, a6⟩ := h
    repeat' first
      | refine ⟨trivial, fun H' hl _ => kmoves f hf hl, ?_⟩
      | exact plainML _ _
      | omega
      | exact trivial
      | exact rfl
      | exact wk_refl _
      | refine wkO_cells ?_
      | refine wks_cons ?_ ?_
      | exact wks_nil
      | exact wk_nil _ _ _ (.inl rfl)
      | exact wk_Q (by omega)
      | refine wk_tupL ?_
      | refine wk_aggL ?_
      | refine joinMax ?_ ?_ ?_
      | refine joinMin ?_ ?_ ?_
      | refine toMax ?_
      | refine toMin ?_
      | refine ⟨rfl, ?_⟩
      | refine ⟨trivial, ?_⟩
      | refine forkD (fun h => ?_) (fun h => ?_)
      | refine forkNe (fun h => ?_) (fun h => ?_)
      | refine forkEq (fun h => ?_) (fun h => ?_)
      | refine forkNot ?_
      | refine ⟨vI64 (by omega), ?_⟩
      | refine And.intro (by omega) ?_
      | apply And.intro
      | exact iEq (by omega)
      | exact vI64 (by omega)
      | fail
  · rw [fMoves_1 h]
    unfold rightF rightS at h
    repeat' first
      | omega
      | exact trivial
      | exact rfl
      | exact wk_refl _
      | refine wkO_cells ?_
      | refine wks_cons ?_ ?_
      | exact wks_nil
      | exact wk_nil _ _ _ (.inl rfl)
      | exact wk_Q (by omega)
      | refine wk_tupL ?_
      | refine wk_aggL ?_
      | refine joinMax ?_ ?_ ?_
      | refine joinMin ?_ ?_ ?_
      | refine toMax ?_
      | refine toMin ?_
      | refine ⟨rfl, ?_⟩
      | refine ⟨trivial, ?_⟩
      | refine forkD (fun h => ?_) (fun h => ?_)
      | refine forkNe (fun h => ?_) (fun h => ?_)
      | refine forkEq (fun h => ?_) (fun h => ?_)
      | refine forkNot ?_
      | refine ⟨vI64 (by omega), ?_⟩
      | refine And.intro (by omega) ?_
      | apply And.intro
      | exact iEq (by omega)
      | exact vI64 (by omega)
      | fail
theorem krmay (s : Span) (c : Int) (hc : -1000 ≤ c ∧ c ≤ 1000) (H : Heap) : KCall prog F.polynyaref02_may [spanV s, .int .i64 c] H [] (Is (.bool (mayB s c)) H) := by
  refine valK 40 (fun _ => rfl) rfl (Eq.mpr (Ermay _ s c) ?_) H
  unfold Rrmay mayB
  refine ⟨vI64 (by omega), vI64 (by omega), forkD (fun h => ⟨vI64 (by omega), vI64 (by omega), ?_⟩) (fun h => ?_)⟩
  · rw [decide_eq_true h]; rfl
  · rw [decide_eq_false h]; rfl
theorem rvRow_1 {f : Flow} {j n : Nat} (h : (mayB f.x (-2 + (n : Int)) && mayB f.y (-2 + (j : Int))) = true) : rvRow f j (n + 1) = rvRow f j n ++ [⟨-2 + (n : Int), -2 + (j : Int)⟩] := by
  unfold rvRow; rw [List.range_succ, List.filter_append, List.map_append, List.filter_cons, if_pos h]; rfl
theorem rvRow_2 {f : Flow} {j n : Nat} (h : (mayB f.x (-2 + (n : Int)) && mayB f.y (-2 + (j : Int))) = false) : rvRow f j (n + 1) = rvRow f j n := by
  unfold rvRow; rw [List.range_succ, List.filter_append, List.map_append, List.filter_cons, if_neg (by rw [h]; exact Bool.false_ne_true)]; simp
deriving instance DecidableEq for Move
def gMv (ax ay : Int) (nx : Nat) : Nat → List Move
  | 0 => []
  | j + 1 => gMv ax ay nx j ++ (List.range nx).map fun i : Nat => (⟨ax + (i : Int), ay + (j : Int)⟩ : Move)
def gRv (ax bx ay bz : Int) : Nat → List Move
  | 0 => []
  | j + 1 => gRv ax bx ay bz j ++ ((List.range 5).filter fun i : Nat => decide (ax ≤ -2 + (i : Int) ∧ -2 + (i : Int) ≤ bx) && decide (ay ≤ -2 + (j : Int) ∧ -2 + (j : Int) ≤ bz)).map fun i : Nat => (⟨-2 + (i : Int), -2 + (j : Int)⟩ : Move)
theorem gall : ∀ i i2 j j2 : Fin 5, i ≤ i2 → j ≤ j2 → gRv (-2 + (i.val : Int)) (-2 + (i2.val : Int)) (-2 + (j.val : Int)) (-2 + (j2.val : Int)) 5 = gMv (-2 + (i.val : Int)) (-2 + (j.val : Int)) (i2.val - i.val + 1) (j2.val - j.val + 1) := by decide +kernel
theorem gMv_eq (f : Flow) : ∀ j, mvTo f j = gMv (endA f).dx (endA f).dy (nxF f) j
  | 0 => rfl
  | j + 1 => by rw [mvTo, gMv, gMv_eq f j]; rfl
theorem mayB_eq (s : Span) (c : Int) : mayB s c = decide (s.lo / 1000 ≤ c ∧ c ≤ (s.hi + 999) / 1000) := by
  unfold mayB
  rw [← Bool.decide_and]
  exact decide_eq_decide.2 (by omega)
theorem gRv_eq (f : Flow) : ∀ j, rvTo f j = gRv (endA f).dx (endZ f).dx (endA f).dy (endZ f).dy j
  | 0 => rfl
  | j + 1 => by
    rw [rvTo, gRv, gRv_eq f j]
    unfold rvRow
    congr 2
    exact congrArg (fun p => List.filter p (List.range 5)) (funext fun i => by rw [mayB_eq, mayB_eq]; rfl)
theorem rv_mv {f : Flow} (hf : rightF f) : rvTo f 5 = movesF f := by
  have eb := ends_bd hf
  unfold movesF
  rw [gRv_eq, gMv_eq]
  obtain ⟨i, hi, ei⟩ : ∃ i : Nat, i < 5 ∧ (endA f).dx = -2 + (i : Int) := ⟨Int.toNat ((endA f).dx + 2), by omega, by omega⟩
  obtain ⟨i2, hi2, ei2⟩ : ∃ i : Nat, i < 5 ∧ (endZ f).dx = -2 + (i : Int) := ⟨Int.toNat ((endZ f).dx + 2), by omega, by omega⟩
  obtain ⟨j, hj, ej⟩ : ∃ i : Nat, i < 5 ∧ (endA f).dy = -2 + (i : Int) := ⟨Int.toNat ((endA f).dy + 2), by omega, by omega⟩
  obtain ⟨j2, hj2, ej2⟩ : ∃ i : Nat, i < 5 ∧ (endZ f).dy = -2 + (i : Int) := ⟨Int.toNat ((endZ f).dy + 2), by omega, by omega⟩
  have hx : nxF f = i2 - i + 1 := by unfold nxF; omega
  have hy : nyF f = j2 - j + 1 := by unfold nyF; omega
  rw [hx, hy, ei, ei2, ej, ej2]
  exact gall ⟨i, hi⟩ ⟨i2, hi2⟩ ⟨j, hj⟩ ⟨j2, hj2⟩ (show i ≤ i2 by omega) (show j ≤ j2 by omega)
theorem rvRow_len (f : Flow) (j n : Nat) : (rvRow f j n).length ≤ n := by
  unfold rvRow; rw [List.length_map]; exact Nat.le_trans (List.length_filter_le _ _) (by rw [List.length_range]; exact Nat.le_refl _)
theorem rvTo_len (f : Flow) : ∀ j, (rvTo f j).length ≤ j * 5
  | 0 => by simp [rvTo]
  | j + 1 => by rw [rvTo, List.length_append]; have := rvTo_len f j; have := rvRow_len f j 5; omega
theorem may2 (s t : Span) (c d : Int) : (mayB s c && mayB t d) = decide ((1000 * c - 999 ≤ s.hi ∧ s.lo ≤ 1000 * c + 999) ∧ (1000 * d - 999 ≤ t.hi ∧ t.lo ≤ 1000 * d + 999)) := by
  unfold mayB
  rw [Bool.decide_and, Bool.decide_and, Bool.decide_and]
theorem krMoves (f : Flow) {H : Heap} {L : Nat} (hL : H.length = L) : KCall prog F.polynyaref02_Moves [flowV f] H [] (Is (mvsV L (fMoves f)) (H ++ [.cells true 2 ((fMoves f).1.flatMap moveC)])) := by
  subst hL
  refine valQ0 (fun i => mvsV i (fMoves f)) (Eq.mpr (ErMoves f) ?_) (fun n => plainML n _) rfl rfl (fun _ => rfl) (fun _ => rfl) H
  unfold RrMoves
  by_cases h : rightF f
  · rw [fMoves_0 h, ← rv_mv h]
    have hf := h
    obtain ⟨⟨a1, a2, a3⟩, a4, a5, a6⟩ := h
    refine forkD (fun k => by omega) (fun k => forkD (fun k => by omega) (fun k => forkD (fun k => by omega) (fun k => forkD (fun k => by omega) (fun k => forkD (fun k => by omega) (fun k => forkD (fun k => by omega) (fun k => ⟨rfl, Nat.zero_le _, ?_, fun _ => rfl, ?_⟩))))))
    · repeat' first
        | exact plainML _ _
        | exact trivial
        | exact rfl
        | exact wk_refl _
        | refine wkO_cells ?_
        | refine wks_cons ?_ ?_
        | exact wks_nil
        | exact wk_nil _ _ _ (.inl rfl)
        | exact wk_Q (by omega)
        | refine wk_tupL ?_
        | refine wk_aggL ?_
        | refine joinMax ?_ ?_ ?_
        | refine joinMin ?_ ?_ ?_
        | refine toMax ?_
        | refine toMin ?_
        | refine ⟨rfl, ?_⟩
        | refine ⟨trivial, ?_⟩
        | refine forkD (fun h => ?_) (fun h => ?_)
        | refine forkNe (fun h => ?_) (fun h => ?_)
        | refine forkEq (fun h => ?_) (fun h => ?_)
        | refine forkNot ?_
        | refine ⟨vI64 (by omega), ?_⟩
        | refine And.intro (by omega) ?_
        | apply And.intro
        | exact iEq (by omega)
        | exact vI64 (by omega)
        | fail
    intro x hx
    have hxl := rvTo_len f x
    refine forkD (fun k => ?_) (fun k => ?_)
    · refine ⟨rfl, Nat.zero_le _, ?_, fun _ => rfl, ?_⟩
      · rw [show rvTo f x ++ rvRow f x 0 = rvTo f x from List.append_nil _]
        repeat' first
          | exact plainML _ _
          | exact trivial
          | exact rfl
          | exact wk_refl _
          | refine wkO_cells ?_
          | refine wks_cons ?_ ?_
          | exact wks_nil
          | exact wk_nil _ _ _ (.inl rfl)
          | exact wk_Q (by omega)
          | refine wk_tupL ?_
          | refine wk_aggL ?_
          | refine joinMax ?_ ?_ ?_
          | refine joinMin ?_ ?_ ?_
          | refine toMax ?_
          | refine toMin ?_
          | refine ⟨rfl, ?_⟩
          | refine ⟨trivial, ?_⟩
          | refine forkD (fun h => ?_) (fun h => ?_)
          | refine forkNe (fun h => ?_) (fun h => ?_)
          | refine forkEq (fun h => ?_) (fun h => ?_)
          | refine forkNot ?_
          | refine ⟨vI64 (by omega), ?_⟩
          | refine And.intro (by omega) ?_
          | apply And.intro
          | exact iEq (by omega)
          | exact vI64 (by omega)
          | fail
      intro y hy
      have hlen : (rvTo f x ++ rvRow f x y).length ≤ 30 := by
        rw [List.length_append]
        have := rvRow_len f x y
        omega
      refine forkD (fun k2 => ?_) (fun k2 => ?_)
      · by_cases hb : (1000 * (-2 + (y : Int)) - 999 ≤ f.x.hi ∧ f.x.lo ≤ 1000 * (-2 + (y : Int)) + 999) ∧ (1000 * (-2 + (x : Int)) - 999 ≤ f.y.hi ∧ f.y.lo ≤ 1000 * (-2 + (x : Int)) + 999)
        · have hM : rvTo f x ++ rvRow f x (y + 1) = (rvTo f x ++ rvRow f x y) ++ [⟨-2 + (y : Int), -2 + (x : Int)⟩] := by rw [rvRow_1 (by rw [may2]; exact decide_eq_true hb), List.append_assoc]
          repeat' first
            | refine ⟨y + 1, by omega, by omega, rfl, ?_⟩
            | exact wk_snoc hM
            | exact ob_snoc moveC_len hM rfl
            | exact plainML _ _
            | exact flat_le moveC_len _
            | exact Nat.le_refl _
            | exact trivial
            | exact rfl
            | exact wk_refl _
            | refine wkO_cells ?_
            | refine wks_cons ?_ ?_
            | exact wks_nil
            | exact wk_nil _ _ _ (.inl rfl)
            | exact wk_Q (by omega)
            | refine wk_tupL ?_
            | refine wk_aggL ?_
            | refine joinMax ?_ ?_ ?_
            | refine joinMin ?_ ?_ ?_
            | refine toMax ?_
            | refine toMin ?_
            | refine ⟨rfl, ?_⟩
            | refine ⟨trivial, ?_⟩
            | refine forkD (fun h => ?_) (fun h => ?_)
            | refine forkNe (fun h => ?_) (fun h => ?_)
            | refine forkEq (fun h => ?_) (fun h => ?_)
            | refine forkNot ?_
            | refine ⟨vI64 (by omega), ?_⟩
            | refine And.intro (by omega) ?_
            | apply And.intro
            | exact iEq (by omega)
            | exact vI64 (by omega)
            | omega
            | fail
        · have hM : rvTo f x ++ rvRow f x (y + 1) = rvTo f x ++ rvRow f x y := by rw [rvRow_2 (by rw [may2]; exact decide_eq_false hb)]
          repeat' first
            | refine ⟨y + 1, by omega, by omega, rfl, ?_⟩
            | rw [hM]
            | exact plainML _ _
            | exact trivial
            | exact rfl
            | exact wk_refl _
            | refine wkO_cells ?_
            | refine wks_cons ?_ ?_
            | exact wks_nil
            | exact wk_nil _ _ _ (.inl rfl)
            | exact wk_Q (by omega)
            | refine wk_tupL ?_
            | refine wk_aggL ?_
            | refine joinMax ?_ ?_ ?_
            | refine joinMin ?_ ?_ ?_
            | refine toMax ?_
            | refine toMin ?_
            | refine ⟨rfl, ?_⟩
            | refine ⟨trivial, ?_⟩
            | refine forkD (fun h => ?_) (fun h => ?_)
            | refine forkNe (fun h => ?_) (fun h => ?_)
            | refine forkEq (fun h => ?_) (fun h => ?_)
            | refine forkNot ?_
            | refine ⟨vI64 (by omega), ?_⟩
            | refine And.intro (by omega) ?_
            | apply And.intro
            | exact iEq (by omega)
            | exact vI64 (by omega)
            | omega
            | fail
      · obtain rfl : y = 5 := by omega
        repeat' first
          | refine ⟨x + 1, by omega, by omega, rfl, ?_⟩
          | exact plainML _ _
          | exact trivial
          | exact rfl
          | exact wk_refl _
          | refine wkO_cells ?_
          | refine wks_cons ?_ ?_
          | exact wks_nil
          | exact wk_nil _ _ _ (.inl rfl)
          | exact wk_Q (by omega)
          | refine wk_tupL ?_
          | refine wk_aggL ?_
          | refine joinMax ?_ ?_ ?_
          | refine joinMin ?_ ?_ ?_
          | refine toMax ?_
          | refine toMin ?_
          | refine ⟨rfl, ?_⟩
          | refine ⟨trivial, ?_⟩
          | refine forkD (fun h => ?_) (fun h => ?_)
          | refine forkNe (fun h => ?_) (fun h => ?_)
          | refine forkEq (fun h => ?_) (fun h => ?_)
          | refine forkNot ?_
          | refine ⟨vI64 (by omega), ?_⟩
          | refine And.intro (by omega) ?_
          | apply And.intro
          | exact iEq (by omega)
          | exact vI64 (by omega)
          | fail
    · obtain rfl : x = 5 := by omega
      repeat' first
        | exact plainML _ _
        | exact trivial
        | exact rfl
        | exact wk_refl _
        | refine wkO_cells ?_
        | refine wks_cons ?_ ?_
        | exact wks_nil
        | exact wk_nil _ _ _ (.inl rfl)
        | exact wk_Q (by omega)
        | refine wk_tupL ?_
        | refine wk_aggL ?_
        | refine joinMax ?_ ?_ ?_
        | refine joinMin ?_ ?_ ?_
        | refine toMax ?_
        | refine toMin ?_
        | refine ⟨rfl, ?_⟩
        | refine ⟨trivial, ?_⟩
        | refine forkD (fun h => ?_) (fun h => ?_)
        | refine forkNe (fun h => ?_) (fun h => ?_)
        | refine forkEq (fun h => ?_) (fun h => ?_)
        | refine forkNot ?_
        | refine ⟨vI64 (by omega), ?_⟩
        | refine And.intro (by omega) ?_
        | apply And.intro
        | exact iEq (by omega)
        | exact vI64 (by omega)
        | fail
  · rw [fMoves_1 h]
    unfold rightF rightS at h
    repeat' first
      | fail
      | exact trivial
      | exact rfl
      | exact wk_refl _
      | refine wkO_cells ?_
      | refine wks_cons ?_ ?_
      | exact wks_nil
      | exact wk_nil _ _ _ (.inl rfl)
      | exact wk_Q (by omega)
      | refine wk_tupL ?_
      | refine wk_aggL ?_
      | refine joinMax ?_ ?_ ?_
      | refine joinMin ?_ ?_ ?_
      | refine toMax ?_
      | refine toMin ?_
      | refine ⟨rfl, ?_⟩
      | refine ⟨trivial, ?_⟩
      | refine forkD (fun h => ?_) (fun h => ?_)
      | refine forkNe (fun h => ?_) (fun h => ?_)
      | refine forkEq (fun h => ?_) (fun h => ?_)
      | refine forkNot ?_
      | refine ⟨vI64 (by omega), ?_⟩
      | refine And.intro (by omega) ?_
      | apply And.intro
      | exact iEq (by omega)
      | exact vI64 (by omega)
      | omega
      | fail
end
end Go.Proofs.Ytkkgnalgmebfjaa
