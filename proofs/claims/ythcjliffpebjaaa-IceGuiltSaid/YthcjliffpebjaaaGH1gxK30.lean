/- What is to be shown of functions. Printed by a program. No condition. -/
import Derived.Test.YthcjliffpebjaaaGP1xB1g
import Derived.Shelf.SlSortCmp.Whole1
import Derived.Ground.SlsfProg
import Derived.Test.YthcjliffpebjaaaChecked
import Derived.Test.YthcjliffpebjaaaGK27xP1a
import Derived.Sort.Grow
import Derived.Deep.Draws
namespace Go.Proofs.Ythcjliffpebjaaa
set_option linter.unusedSimpArgs false
open Go Go.K
set_option maxRecDepth 100000
set_option linter.unusedVariables false
noncomputable section
def Rmoved (sp : Value) (x up down by_ most : Int) : Prop :=
  ((.int .i64 (IntKind.wrap .i64 (x - down)) : Value) = .int .i64 (x - down) ∧ ((.int .i64 (IntKind.wrap .i64 (up + down)) : Value) = .int .i64 (up + down) ∧ ((.int .i64 (IntKind.wrap .i64 ((up + down) + 1)) : Value) = .int .i64 ((up + down) + 1) ∧ (∃ r0 : Int, ((True) ∧ (∀ H' : Heap, H'.length = 0 → (True) → KCall prog 17 [.int .i64 by_, .int .i64 ((up + down) + 1)] H' [] (Is (.int .i64 r0) H')) ∧ ((.int .i64 (IntKind.wrap .i64 ((x - down) + r0)) : Value) = .int .i64 ((x - down) + r0) ∧ (∃ y1 : Int, (.int .i64 (if (0 : Int) > ((x - down) + r0) then (0 : Int) else ((x - down) + r0)) : Value) = .int .i64 y1 ∧ (.int .i64 (if (most : Int) < y1 then (most : Int) else y1) : Value) = sp)))))))
theorem Emoved (sp : Value) (x up down by_ most : Int) : vF prog msk (dm 0) 100000 true 40 true 49 [.int .i64 x, .int .i64 up, .int .i64 down, .int .i64 by_, .int .i64 most] ⟨0, .leaf⟩ (some [])
  (.go 3 (.slot 13 (.int .i64 (x - down)) (.go 3 (.slot 17 (.int .i64 (up + down)) (.go 0 (.slot 18 (.int .i64 ((up + down) + 1)) (.bind (Int) (fun r0 => .ans [] (.int .i64 r0) [] (.go 0 (.slot 20 (.int .i64 ((x - down) + r0)) (.go 0 (.bind Int (fun y1 => .slot 21 (.int .i64 y1) (.auto))))))))))))))
  (fun v _ _ => v = sp) = Rmoved sp x up down by_ most := by kernel_rfl
def Rranged (sp : Value) (a b c d : Int) : Prop :=
  (∃ r0 : Int, ((True) ∧ (∀ H' : Heap, H'.length = 1 → (True) → KCall prog 17 [.int .i64 a, .int .i64 101] H' [] (Is (.int .i64 r0) H')) ∧ (∃ r1 : Int, ((True) ∧ (∀ H' : Heap, H'.length = 1 → (True) → KCall prog 17 [.int .i64 b, .int .i64 401] H' [] (Is (.int .i64 r1) H')) ∧ (∃ r2 : Int, ((True) ∧ (∀ H' : Heap, H'.length = 1 → (True) → KCall prog 17 [.int .i64 c, .int .i64 101] H' [] (Is (.int .i64 r2) H')) ∧ (∃ r3 : Int, ((True) ∧ (∀ H' : Heap, H'.length = 1 → (True) → KCall prog 17 [.int .i64 d, .int .i64 4] H' [] (Is (.int .i64 r3) H')) ∧ (.agg #[.int .i64 r0, .int .i64 r1, .int .i64 r2, .int .i64 r3] : Value) = sp))))))))
theorem Eranged (sp : Value) (a b c d : Int) : vF prog msk (dm 0) 100000 true 40 true 22 [.int .i64 a, .int .i64 b, .int .i64 c, .int .i64 d] ⟨0, .leaf⟩ (some [])
  (.go 1 (.bind (Int) (fun r0 => .ans [] (.int .i64 r0) [] (.go 0 (.bind (Int) (fun r1 => .ans [] (.int .i64 r1) [] (.go 0 (.bind (Int) (fun r2 => .ans [] (.int .i64 r2) [] (.go 0 (.bind (Int) (fun r3 => .ans [] (.int .i64 r3) [] (.auto)))))))))))))
  (fun v _ _ => v = sp) = Rranged sp a b c d := by kernel_rfl
def Raround (sp : Value) (x : Ice) (low high : Int) : Prop :=
  (∃ r0 : Int, ((True) ∧ (∀ H' : Heap, H'.length = 5 → (True) → KCall prog 17 [.int .i64 low, .int .i64 30] H' [] (Is (.int .i64 r0) H')) ∧ ((.int .i64 (IntKind.wrap .i64 (x.conc - r0)) : Value) = .int .i64 (x.conc - r0) ∧ (∃ y1 : Int, (.int .i64 (if (0 : Int) > (x.conc - r0) then (0 : Int) else (x.conc - r0)) : Value) = .int .i64 y1 ∧ (∃ r2 : Int, ((True) ∧ (∀ H' : Heap, H'.length = 5 → (True) → KCall prog 17 [.int .i64 high, .int .i64 30] H' [] (Is (.int .i64 r2) H')) ∧ ((.int .i64 (IntKind.wrap .i64 (x.conc + r2)) : Value) = .int .i64 (x.conc + r2) ∧ (∃ y3 : Int, (.int .i64 (if (100 : Int) < (x.conc + r2) then (100 : Int) else (x.conc + r2)) : Value) = .int .i64 y3 ∧ (∃ r4 : Int, ((True) ∧ (∀ H' : Heap, H'.length = 5 → (True) → KCall prog 17 [.int .i64 low, .int .i64 30] H' [] (Is (.int .i64 r4) H')) ∧ ((.int .i64 (IntKind.wrap .i64 (x.thick - r4)) : Value) = .int .i64 (x.thick - r4) ∧ (∃ y5 : Int, (.int .i64 (if (0 : Int) > (x.thick - r4) then (0 : Int) else (x.thick - r4)) : Value) = .int .i64 y5 ∧ (∃ r6 : Int, ((True) ∧ (∀ H' : Heap, H'.length = 5 → (True) → KCall prog 17 [.int .i64 high, .int .i64 30] H' [] (Is (.int .i64 r6) H')) ∧ ((.int .i64 (IntKind.wrap .i64 (x.thick + r6)) : Value) = .int .i64 (x.thick + r6) ∧ (∃ y7 : Int, (.int .i64 (if (400 : Int) < (x.thick + r6) then (400 : Int) else (x.thick + r6)) : Value) = .int .i64 y7 ∧ (∃ r8 : Int, ((True) ∧ (∀ H' : Heap, H'.length = 5 → (True) → KCall prog 17 [.int .i64 low, .int .i64 30] H' [] (Is (.int .i64 r8) H')) ∧ ((.int .i64 (IntKind.wrap .i64 (x.ridge - r8)) : Value) = .int .i64 (x.ridge - r8) ∧ (∃ y9 : Int, (.int .i64 (if (0 : Int) > (x.ridge - r8) then (0 : Int) else (x.ridge - r8)) : Value) = .int .i64 y9 ∧ (∃ r10 : Int, ((True) ∧ (∀ H' : Heap, H'.length = 5 → (True) → KCall prog 17 [.int .i64 high, .int .i64 30] H' [] (Is (.int .i64 r10) H')) ∧ ((.int .i64 (IntKind.wrap .i64 (x.ridge + r10)) : Value) = .int .i64 (x.ridge + r10) ∧ (∃ y11 : Int, (.int .i64 (if (100 : Int) < (x.ridge + r10) then (100 : Int) else (x.ridge + r10)) : Value) = .int .i64 y11 ∧ (∃ r12 : Int, ((True) ∧ (∀ H' : Heap, H'.length = 5 → (True) → KCall prog 17 [.int .i64 low, .int .i64 30] H' [] (Is (.int .i64 r12) H')) ∧ ((.int .i64 (IntKind.wrap .i64 (x.press - r12)) : Value) = .int .i64 (x.press - r12) ∧ (∃ y13 : Int, (.int .i64 (if (0 : Int) > (x.press - r12) then (0 : Int) else (x.press - r12)) : Value) = .int .i64 y13 ∧ (∃ r14 : Int, ((True) ∧ (∀ H' : Heap, H'.length = 5 → (True) → KCall prog 17 [.int .i64 high, .int .i64 30] H' [] (Is (.int .i64 r14) H')) ∧ ((.int .i64 (IntKind.wrap .i64 (x.press + r14)) : Value) = .int .i64 (x.press + r14) ∧ (∃ y15 : Int, (.int .i64 (if (3 : Int) < (x.press + r14) then (3 : Int) else (x.press + r14)) : Value) = .int .i64 y15 ∧ (.agg #[.int .i64 y1, .int .i64 y3, .int .i64 y5, .int .i64 y7, .int .i64 y9, .int .i64 y11, .int .i64 y13, .int .i64 y15] : Value) = sp))))))))))))))))))))))))))))))))
theorem Earound (sp : Value) (x : Ice) (low high : Int) : vF prog msk (dm 0) 100000 true 40 true 24 [.agg #[.int .i64 x.conc, .int .i64 x.thick, .int .i64 x.ridge, .int .i64 x.press], .int .i64 low, .int .i64 high] ⟨0, .leaf⟩ (some [])
  (.go 24 (.bind (Int) (fun r0 => .ans [] (.int .i64 r0) [] (.go 0 (.slot 10 (.int .i64 (x.conc - r0)) (.go 0 (.bind Int (fun y1 => .slot 11 (.int .i64 y1) (.bind (Int) (fun r2 => .ans [] (.int .i64 r2) [] (.go 0 (.slot 15 (.int .i64 (x.conc + r2)) (.go 0 (.bind Int (fun y3 => .slot 17 (.int .i64 y3) (.go 8 (.bind (Int) (fun r4 => .ans [] (.int .i64 r4) [] (.go 0 (.slot 10 (.int .i64 (x.thick - r4)) (.go 0 (.bind Int (fun y5 => .slot 11 (.int .i64 y5) (.bind (Int) (fun r6 => .ans [] (.int .i64 r6) [] (.go 0 (.slot 15 (.int .i64 (x.thick + r6)) (.go 0 (.bind Int (fun y7 => .slot 17 (.int .i64 y7) (.go 8 (.bind (Int) (fun r8 => .ans [] (.int .i64 r8) [] (.go 0 (.slot 10 (.int .i64 (x.ridge - r8)) (.go 0 (.bind Int (fun y9 => .slot 11 (.int .i64 y9) (.bind (Int) (fun r10 => .ans [] (.int .i64 r10) [] (.go 0 (.slot 15 (.int .i64 (x.ridge + r10)) (.go 0 (.bind Int (fun y11 => .slot 17 (.int .i64 y11) (.go 8 (.bind (Int) (fun r12 => .ans [] (.int .i64 r12) [] (.go 0 (.slot 10 (.int .i64 (x.press - r12)) (.go 0 (.bind Int (fun y13 => .slot 11 (.int .i64 y13) (.bind (Int) (fun r14 => .ans [] (.int .i64 r14) [] (.go 0 (.slot 15 (.int .i64 (x.press + r14)) (.go 0 (.bind Int (fun y15 => .slot 17 (.int .i64 y15) (.auto)))))))))))))))))))))))))))))))))))))))))))))))))))))))))))))
  (fun v _ _ => v = sp) = Raround sp x low high := by kernel_rfl
def RCourse (m : Rates) (x : Ice) (ns : List Int) : Prop :=
  (true = true ∧ (0 ≤ 80) ∧ (true = true ∧ ((.int .i64 1 : Value) = .int .i64 (((0 + 1) : Nat) : Int) ∧ wk (.slice (some ⟨3, 0, none⟩) 1 1 : Value) (.slice (some ⟨3, 0, some 1⟩) (0 + 1) (0 + 1) : Value) ∧ (.int .i64 80 : Value) = .int .i64 80 ∧ wk (.slice (some ⟨0, 0, some 2⟩) (List.length ns) (List.length ns) : Value) (.slice (some ⟨0, 0, some 2⟩) (List.length ns) (List.length ns) : Value) ∧ (.pointer (some ⟨1, 0, none⟩) : Value) = .pointer (some ⟨1, 0, none⟩) ∧ (.slice none 0 0 : Value) = .slice none 0 0 ∧ True) ∧ (True ∧ True) ∧ ((some (.cells true 4 [.int .i64 x.conc, .int .i64 x.thick, .int .i64 x.ridge, .int .i64 x.press] : KObj) = some (.cells true 4 (List.flatMap iceC (crsL m x ns (0 + 1))) : KObj) ∧ belowO 4 (.cells true 4 (List.flatMap iceC (crsL m x ns (0 + 1))) : KObj) = true) ∧ True) ∧ (True)) ∧ (∀ x0 : Nat, true = true) ∧ ∀ x0 : Nat, (x0 ≤ 80) → (((decide (((((x0 + 1) : Nat) : Int) : Int) ≤ 80)) = true → (((decide ((0 : Int) < (((List.length ns) : Nat) : Int))) = true → ((((((List.length ns) : Nat) : Int) : Int) ≠ 0) ∧ (∃ y1 : Int, (.int .i64 (Int.tmod (((x0 + 1) : Nat) : Int) (((List.length ns) : Nat) : Int)) : Value) = .int .i64 y1 ∧ (((0 : Int) ≤ y1 ∧ (y1 : Int) < (((List.length ns) : Nat) : Int)) ∧ (((List.flatMap intC ns)[(0 + Int.toNat y1 * 1)]? = some (.int .i64 (List.getD ns (Int.toNat y1) 0))) ∧ ((.int .i64 (IntKind.wrap .i64 ((((x0 + 1) : Nat) : Int) - 1)) : Value) = .int .i64 ((((x0 + 1) : Nat) : Int) - 1) ∧ (((0 : Int) ≤ ((((x0 + 1) : Nat) : Int) - 1) ∧ (((((x0 + 1) : Nat) : Int) - 1) : Int) < (((x0 + 1) : Nat) : Int)) ∧ ((partA 4 (List.flatMap iceC (crsL m x ns (x0 + 1))) (0 + Int.toNat ((((x0 + 1) : Nat) : Int) - 1) * 4) = some (.agg #[.int .i64 (List.getD (crsL m x ns (x0 + 1)) (Int.toNat ((((x0 + 1) : Nat) : Int) - 1)) zeroI).conc, .int .i64 (List.getD (crsL m x ns (x0 + 1)) (Int.toNat ((((x0 + 1) : Nat) : Int) - 1)) zeroI).thick, .int .i64 (List.getD (crsL m x ns (x0 + 1)) (Int.toNat ((((x0 + 1) : Nat) : Int) - 1)) zeroI).ridge, .int .i64 (List.getD (crsL m x ns (x0 + 1)) (Int.toNat ((((x0 + 1) : Nat) : Int) - 1)) zeroI).press])) ∧ (∃ y2 : Int, (.int .i64 (List.getD (crsL m x ns (x0 + 1)) (Int.toNat ((((x0 + 1) : Nat) : Int) - 1)) zeroI).conc : Value) = .int .i64 y2 ∧ ((.int .i64 (IntKind.wrap .i64 (Int.tdiv m.up.conc 24)) : Value) = .int .i64 (Int.tdiv m.up.conc 24) ∧ ((.int .i64 (IntKind.wrap .i64 (Int.tdiv m.down.conc 24)) : Value) = .int .i64 (Int.tdiv m.down.conc 24) ∧ (∃ r3 : Int, ((True) ∧ (∀ H' : Heap, H'.length = 6 → (True) → KCall prog 49 [.int .i64 y2, .int .i64 (Int.tdiv m.up.conc 24), .int .i64 (Int.tdiv m.down.conc 24), .int .i64 (List.getD ns (Int.toNat y1) 0), .int .i64 100] H' [] (Is (.int .i64 r3) H')) ∧ (∃ y4 : Int, (.int .i64 (List.getD (crsL m x ns (x0 + 1)) (Int.toNat ((((x0 + 1) : Nat) : Int) - 1)) zeroI).thick : Value) = .int .i64 y4 ∧ ((.int .i64 (IntKind.wrap .i64 (Int.tdiv m.up.thick 24)) : Value) = .int .i64 (Int.tdiv m.up.thick 24) ∧ ((.int .i64 (IntKind.wrap .i64 (Int.tdiv m.down.thick 24)) : Value) = .int .i64 (Int.tdiv m.down.thick 24) ∧ ((.int .i64 (IntKind.wrap .i64 (Int.tdiv (List.getD ns (Int.toNat y1) 0) 3)) : Value) = .int .i64 (Int.tdiv (List.getD ns (Int.toNat y1) 0) 3) ∧ (∃ r5 : Int, ((True) ∧ (∀ H' : Heap, H'.length = 6 → (True) → KCall prog 49 [.int .i64 y4, .int .i64 (Int.tdiv m.up.thick 24), .int .i64 (Int.tdiv m.down.thick 24), .int .i64 (Int.tdiv (List.getD ns (Int.toNat y1) 0) 3), .int .i64 400] H' [] (Is (.int .i64 r5) H')) ∧ (∃ y6 : Int, (.int .i64 (List.getD (crsL m x ns (x0 + 1)) (Int.toNat ((((x0 + 1) : Nat) : Int) - 1)) zeroI).ridge : Value) = .int .i64 y6 ∧ ((.int .i64 (IntKind.wrap .i64 (Int.tdiv m.up.ridge 24)) : Value) = .int .i64 (Int.tdiv m.up.ridge 24) ∧ ((.int .i64 (IntKind.wrap .i64 (Int.tdiv m.down.ridge 24)) : Value) = .int .i64 (Int.tdiv m.down.ridge 24) ∧ ((.int .i64 (IntKind.wrap .i64 (Int.tdiv (List.getD ns (Int.toNat y1) 0) 5)) : Value) = .int .i64 (Int.tdiv (List.getD ns (Int.toNat y1) 0) 5) ∧ (∃ r7 : Int, ((True) ∧ (∀ H' : Heap, H'.length = 6 → (True) → KCall prog 49 [.int .i64 y6, .int .i64 (Int.tdiv m.up.ridge 24), .int .i64 (Int.tdiv m.down.ridge 24), .int .i64 (Int.tdiv (List.getD ns (Int.toNat y1) 0) 5), .int .i64 100] H' [] (Is (.int .i64 r7) H')) ∧ (∃ y8 : Int, (.int .i64 (List.getD (crsL m x ns (x0 + 1)) (Int.toNat ((((x0 + 1) : Nat) : Int) - 1)) zeroI).press : Value) = .int .i64 y8 ∧ ((.int .i64 (IntKind.wrap .i64 (Int.tdiv m.up.press 24)) : Value) = .int .i64 (Int.tdiv m.up.press 24) ∧ ((.int .i64 (IntKind.wrap .i64 (Int.tdiv m.down.press 24)) : Value) = .int .i64 (Int.tdiv m.down.press 24) ∧ ((.int .i64 (IntKind.wrap .i64 (Int.tdiv (List.getD ns (Int.toNat y1) 0) 7)) : Value) = .int .i64 (Int.tdiv (List.getD ns (Int.toNat y1) 0) 7) ∧ (∃ r9 : Int, ((True) ∧ (∀ H' : Heap, H'.length = 6 → (True) → KCall prog 49 [.int .i64 y8, .int .i64 (Int.tdiv m.up.press 24), .int .i64 (Int.tdiv m.down.press 24), .int .i64 (Int.tdiv (List.getD ns (Int.toNat y1) 0) 7), .int .i64 3] H' [] (Is (.int .i64 r9) H')) ∧ ((((x0 + 1) + 1) * 32 ≤ 2 ^ 44 ∧ 1 ≠ 0 ∧ ((x0 + 1) ≤ (x0 + 1) ∧ 0 + (x0 + 1) * 4 ≤ List.length (List.flatMap iceC (crsL m x ns (x0 + 1)))) ∧ (1 ≤ 1 ∧ 0 + 1 * 4 ≤ List.length ([.int .i64 r3, .int .i64 r5, .int .i64 r7, .int .i64 r9] : List Value)) ∧ ((List.take (1 * 4) (List.drop 0 ([.int .i64 r3, .int .i64 r5, .int .i64 r7, .int .i64 r9] : List Value))) : List Value).all (fun v => one1 v) = true) ∧ true = true ∧ ((.int .i64 (IntKind.wrap .i64 ((((x0 + 1) : Nat) : Int) + 1)) : Value) = .int .i64 ((((x0 + 1) : Nat) : Int) + 1) ∧ (∃ x0' : Nat, (x0' ≤ 80) ∧ (80 - x0') < (80 - x0) ∧ true = true ∧ ((.int .i64 ((((x0 + 1) : Nat) : Int) + 1) : Value) = .int .i64 (((x0' + 1) : Nat) : Int) ∧ wk (.slice (some ⟨7, 0, none⟩) ((x0 + 1) + 1) ((x0 + 1) + 1) : Value) (.slice (some ⟨7, 0, some 1⟩) (x0' + 1) (x0' + 1) : Value) ∧ (.int .i64 80 : Value) = .int .i64 80 ∧ wk (.slice (some ⟨0, 0, some 2⟩) (List.length ns) (List.length ns) : Value) (.slice (some ⟨0, 0, some 2⟩) (List.length ns) (List.length ns) : Value) ∧ (.pointer (some ⟨1, 0, none⟩) : Value) = .pointer (some ⟨1, 0, none⟩) ∧ (.slice none 0 0 : Value) = .slice none 0 0 ∧ True) ∧ (True ∧ True) ∧ ((some (.cells true 4 ((List.take ((x0 + 1) * 4) (List.drop 0 (List.flatMap iceC (crsL m x ns (x0 + 1))))) ++ (List.take (1 * 4) (List.drop 0 ([.int .i64 r3, .int .i64 r5, .int .i64 r7, .int .i64 r9] : List Value)))) : KObj) = some (.cells true 4 (List.flatMap iceC (crsL m x ns (x0' + 1))) : KObj) ∧ belowO 4 (.cells true 4 (List.flatMap iceC (crsL m x ns (x0' + 1))) : KObj) = true) ∧ True) ∧ (True))))))))))))))))))))))))))))))))))) ∧ ((decide ((0 : Int) < (((List.length ns) : Nat) : Int))) = false → ((.int .i64 (IntKind.wrap .i64 ((((x0 + 1) : Nat) : Int) - 1)) : Value) = .int .i64 ((((x0 + 1) : Nat) : Int) - 1) ∧ (((0 : Int) ≤ ((((x0 + 1) : Nat) : Int) - 1) ∧ (((((x0 + 1) : Nat) : Int) - 1) : Int) < (((x0 + 1) : Nat) : Int)) ∧ ((partA 4 (List.flatMap iceC (crsL m x ns (x0 + 1))) (0 + Int.toNat ((((x0 + 1) : Nat) : Int) - 1) * 4) = some (.agg #[.int .i64 (List.getD (crsL m x ns (x0 + 1)) (Int.toNat ((((x0 + 1) : Nat) : Int) - 1)) zeroI).conc, .int .i64 (List.getD (crsL m x ns (x0 + 1)) (Int.toNat ((((x0 + 1) : Nat) : Int) - 1)) zeroI).thick, .int .i64 (List.getD (crsL m x ns (x0 + 1)) (Int.toNat ((((x0 + 1) : Nat) : Int) - 1)) zeroI).ridge, .int .i64 (List.getD (crsL m x ns (x0 + 1)) (Int.toNat ((((x0 + 1) : Nat) : Int) - 1)) zeroI).press])) ∧ (∃ y1 : Int, (.int .i64 (List.getD (crsL m x ns (x0 + 1)) (Int.toNat ((((x0 + 1) : Nat) : Int) - 1)) zeroI).conc : Value) = .int .i64 y1 ∧ ((.int .i64 (IntKind.wrap .i64 (Int.tdiv m.up.conc 24)) : Value) = .int .i64 (Int.tdiv m.up.conc 24) ∧ ((.int .i64 (IntKind.wrap .i64 (Int.tdiv m.down.conc 24)) : Value) = .int .i64 (Int.tdiv m.down.conc 24) ∧ (∃ r2 : Int, ((True) ∧ (∀ H' : Heap, H'.length = 6 → (True) → KCall prog 49 [.int .i64 y1, .int .i64 (Int.tdiv m.up.conc 24), .int .i64 (Int.tdiv m.down.conc 24), .int .i64 0, .int .i64 100] H' [] (Is (.int .i64 r2) H')) ∧ (∃ y3 : Int, (.int .i64 (List.getD (crsL m x ns (x0 + 1)) (Int.toNat ((((x0 + 1) : Nat) : Int) - 1)) zeroI).thick : Value) = .int .i64 y3 ∧ ((.int .i64 (IntKind.wrap .i64 (Int.tdiv m.up.thick 24)) : Value) = .int .i64 (Int.tdiv m.up.thick 24) ∧ ((.int .i64 (IntKind.wrap .i64 (Int.tdiv m.down.thick 24)) : Value) = .int .i64 (Int.tdiv m.down.thick 24) ∧ (∃ r4 : Int, ((True) ∧ (∀ H' : Heap, H'.length = 6 → (True) → KCall prog 49 [.int .i64 y3, .int .i64 (Int.tdiv m.up.thick 24), .int .i64 (Int.tdiv m.down.thick 24), .int .i64 0, .int .i64 400] H' [] (Is (.int .i64 r4) H')) ∧ (∃ y5 : Int, (.int .i64 (List.getD (crsL m x ns (x0 + 1)) (Int.toNat ((((x0 + 1) : Nat) : Int) - 1)) zeroI).ridge : Value) = .int .i64 y5 ∧ ((.int .i64 (IntKind.wrap .i64 (Int.tdiv m.up.ridge 24)) : Value) = .int .i64 (Int.tdiv m.up.ridge 24) ∧ ((.int .i64 (IntKind.wrap .i64 (Int.tdiv m.down.ridge 24)) : Value) = .int .i64 (Int.tdiv m.down.ridge 24) ∧ (∃ r6 : Int, ((True) ∧ (∀ H' : Heap, H'.length = 6 → (True) → KCall prog 49 [.int .i64 y5, .int .i64 (Int.tdiv m.up.ridge 24), .int .i64 (Int.tdiv m.down.ridge 24), .int .i64 0, .int .i64 100] H' [] (Is (.int .i64 r6) H')) ∧ (∃ y7 : Int, (.int .i64 (List.getD (crsL m x ns (x0 + 1)) (Int.toNat ((((x0 + 1) : Nat) : Int) - 1)) zeroI).press : Value) = .int .i64 y7 ∧ ((.int .i64 (IntKind.wrap .i64 (Int.tdiv m.up.press 24)) : Value) = .int .i64 (Int.tdiv m.up.press 24) ∧ ((.int .i64 (IntKind.wrap .i64 (Int.tdiv m.down.press 24)) : Value) = .int .i64 (Int.tdiv m.down.press 24) ∧ (∃ r8 : Int, ((True) ∧ (∀ H' : Heap, H'.length = 6 → (True) → KCall prog 49 [.int .i64 y7, .int .i64 (Int.tdiv m.up.press 24), .int .i64 (Int.tdiv m.down.press 24), .int .i64 0, .int .i64 3] H' [] (Is (.int .i64 r8) H')) ∧ ((((x0 + 1) + 1) * 32 ≤ 2 ^ 44 ∧ 1 ≠ 0 ∧ ((x0 + 1) ≤ (x0 + 1) ∧ 0 + (x0 + 1) * 4 ≤ List.length (List.flatMap iceC (crsL m x ns (x0 + 1)))) ∧ (1 ≤ 1 ∧ 0 + 1 * 4 ≤ List.length ([.int .i64 r2, .int .i64 r4, .int .i64 r6, .int .i64 r8] : List Value)) ∧ ((List.take (1 * 4) (List.drop 0 ([.int .i64 r2, .int .i64 r4, .int .i64 r6, .int .i64 r8] : List Value))) : List Value).all (fun v => one1 v) = true) ∧ true = true ∧ ((.int .i64 (IntKind.wrap .i64 ((((x0 + 1) : Nat) : Int) + 1)) : Value) = .int .i64 ((((x0 + 1) : Nat) : Int) + 1) ∧ (∃ x0' : Nat, (x0' ≤ 80) ∧ (80 - x0') < (80 - x0) ∧ true = true ∧ ((.int .i64 ((((x0 + 1) : Nat) : Int) + 1) : Value) = .int .i64 (((x0' + 1) : Nat) : Int) ∧ wk (.slice (some ⟨7, 0, none⟩) ((x0 + 1) + 1) ((x0 + 1) + 1) : Value) (.slice (some ⟨7, 0, some 1⟩) (x0' + 1) (x0' + 1) : Value) ∧ (.int .i64 80 : Value) = .int .i64 80 ∧ wk (.slice (some ⟨0, 0, some 2⟩) (List.length ns) (List.length ns) : Value) (.slice (some ⟨0, 0, some 2⟩) (List.length ns) (List.length ns) : Value) ∧ (.pointer (some ⟨1, 0, none⟩) : Value) = .pointer (some ⟨1, 0, none⟩) ∧ (.slice none 0 0 : Value) = .slice none 0 0 ∧ True) ∧ (True ∧ True) ∧ ((some (.cells true 4 ((List.take ((x0 + 1) * 4) (List.drop 0 (List.flatMap iceC (crsL m x ns (x0 + 1))))) ++ (List.take (1 * 4) (List.drop 0 ([.int .i64 r2, .int .i64 r4, .int .i64 r6, .int .i64 r8] : List Value)))) : KObj) = some (.cells true 4 (List.flatMap iceC (crsL m x ns (x0' + 1))) : KObj) ∧ belowO 4 (.cells true 4 (List.flatMap iceC (crsL m x ns (x0' + 1))) : KObj) = true) ∧ True) ∧ (True)))))))))))))))))))))))))))))) ∧ ((decide (((((x0 + 1) : Nat) : Int) : Int) ≤ 80)) = false → (true = true ∧ wk (.slice (some ⟨4, 0, some 1⟩) (x0 + 1) (x0 + 1) : Value) (rn (sg 1 [(1, 4)]) 3 (.slice (some ⟨1, 0, some 1⟩) (List.length (crsL m x ns 81)) (List.length (crsL m x ns 81)) : Value)) ∧ ((some (.cells true 4 (List.flatMap iceC (crsL m x ns (x0 + 1))) : KObj) = some (.cells true 4 (List.flatMap iceC (crsL m x ns 81)) : KObj) ∧ belowO 1 (.cells true 4 (List.flatMap iceC (crsL m x ns 81)) : KObj) = true) ∧ True)))))
theorem ECourse (m : Rates) (x : Ice) (ns : List Int) : vF prog msk (dm 0) 100000 true 40 true 21 [.agg #[.int .i64 m.up.conc, .int .i64 m.up.thick, .int .i64 m.up.ridge, .int .i64 m.up.press, .int .i64 m.down.conc, .int .i64 m.down.thick, .int .i64 m.down.ridge, .int .i64 m.down.press], .agg #[.int .i64 x.conc, .int .i64 x.thick, .int .i64 x.ridge, .int .i64 x.press], .slice (some ⟨0, 0, some 2⟩) (List.length ns) (List.length ns), .int .i64 80] (readsT 0 [ns.flatMap intC]) (some [])
  (.go 6 (.inv 3 (Nat) (0) [(4, 3)] [3] (fun x0 => [(10, .int .i64 (((x0 + 1) : Nat) : Int)), (9, .slice (some ⟨4, 0, some 1⟩) (x0 + 1) (x0 + 1)), (3, .int .i64 80), (2, .slice (some ⟨0, 0, some 2⟩) (List.length ns) (List.length ns)), (4, .pointer (some ⟨1, 0, none⟩)), (8, .slice none 0 0)]) (fun x0 => [(3, false, .dead)]) (fun x0 => [(true, .cells true 4 (List.flatMap iceC (crsL m x ns (x0 + 1))))]) (fun x0 => []) (fun x0 => (x0 ≤ 80)) (fun x0 => (80 - x0)) (fun x0 => .go 2 (.fork (.go 3 (.fork (.go 3 (.need (.bind Int (fun y1 => .slot 27 (.int .i64 y1) (.need (.val (.int .i64 (List.getD ns (Int.toNat y1) 0)) (.go 3 (.slot 32 (.int .i64 ((((x0 + 1) : Nat) : Int) - 1)) (.need (.val (.agg #[.int .i64 (List.getD (crsL m x ns (x0 + 1)) (Int.toNat ((((x0 + 1) : Nat) : Int) - 1)) zeroI).conc, .int .i64 (List.getD (crsL m x ns (x0 + 1)) (Int.toNat ((((x0 + 1) : Nat) : Int) - 1)) zeroI).thick, .int .i64 (List.getD (crsL m x ns (x0 + 1)) (Int.toNat ((((x0 + 1) : Nat) : Int) - 1)) zeroI).ridge, .int .i64 (List.getD (crsL m x ns (x0 + 1)) (Int.toNat ((((x0 + 1) : Nat) : Int) - 1)) zeroI).press]) (.go 3 (.bind Int (fun y2 => .slot 36 (.int .i64 y2) (.go 3 (.slot 40 (.int .i64 (Int.tdiv m.up.conc 24)) (.go 3 (.slot 44 (.int .i64 (Int.tdiv m.down.conc 24)) (.go 0 (.bind (Int) (fun r3 => .ans [] (.int .i64 r3) [] (.go 3 (.bind Int (fun y4 => .slot 49 (.int .i64 y4) (.go 3 (.slot 53 (.int .i64 (Int.tdiv m.up.thick 24)) (.go 3 (.slot 57 (.int .i64 (Int.tdiv m.down.thick 24)) (.go 1 (.slot 59 (.int .i64 (Int.tdiv (List.getD ns (Int.toNat y1) 0) 3)) (.bind (Int) (fun r5 => .ans [] (.int .i64 r5) [] (.go 3 (.bind Int (fun y6 => .slot 63 (.int .i64 y6) (.go 3 (.slot 67 (.int .i64 (Int.tdiv m.up.ridge 24)) (.go 3 (.slot 71 (.int .i64 (Int.tdiv m.down.ridge 24)) (.go 1 (.slot 73 (.int .i64 (Int.tdiv (List.getD ns (Int.toNat y1) 0) 5)) (.bind (Int) (fun r7 => .ans [] (.int .i64 r7) [] (.go 3 (.bind Int (fun y8 => .slot 77 (.int .i64 y8) (.go 3 (.slot 81 (.int .i64 (Int.tdiv m.up.press 24)) (.go 3 (.slot 85 (.int .i64 (Int.tdiv m.down.press 24)) (.go 1 (.slot 87 (.int .i64 (Int.tdiv (List.getD ns (Int.toNat y1) 0) 7)) (.bind (Int) (fun r9 => .ans [] (.int .i64 r9) [] (.go 4 (.need (.go 2 (.slot 19 (.int .i64 ((((x0 + 1) : Nat) : Int) + 1)) (.go 0 (.again [(4, 7)]))))))))))))))))))))))))))))))))))))))))))))))))))))))))))) (.go 2 (.slot 32 (.int .i64 ((((x0 + 1) : Nat) : Int) - 1)) (.need (.val (.agg #[.int .i64 (List.getD (crsL m x ns (x0 + 1)) (Int.toNat ((((x0 + 1) : Nat) : Int) - 1)) zeroI).conc, .int .i64 (List.getD (crsL m x ns (x0 + 1)) (Int.toNat ((((x0 + 1) : Nat) : Int) - 1)) zeroI).thick, .int .i64 (List.getD (crsL m x ns (x0 + 1)) (Int.toNat ((((x0 + 1) : Nat) : Int) - 1)) zeroI).ridge, .int .i64 (List.getD (crsL m x ns (x0 + 1)) (Int.toNat ((((x0 + 1) : Nat) : Int) - 1)) zeroI).press]) (.go 3 (.bind Int (fun y1 => .slot 36 (.int .i64 y1) (.go 3 (.slot 40 (.int .i64 (Int.tdiv m.up.conc 24)) (.go 3 (.slot 44 (.int .i64 (Int.tdiv m.down.conc 24)) (.go 0 (.bind (Int) (fun r2 => .ans [] (.int .i64 r2) [] (.go 3 (.bind Int (fun y3 => .slot 49 (.int .i64 y3) (.go 3 (.slot 53 (.int .i64 (Int.tdiv m.up.thick 24)) (.go 3 (.slot 57 (.int .i64 (Int.tdiv m.down.thick 24)) (.go 1 (.bind (Int) (fun r4 => .ans [] (.int .i64 r4) [] (.go 3 (.bind Int (fun y5 => .slot 63 (.int .i64 y5) (.go 3 (.slot 67 (.int .i64 (Int.tdiv m.up.ridge 24)) (.go 3 (.slot 71 (.int .i64 (Int.tdiv m.down.ridge 24)) (.go 1 (.bind (Int) (fun r6 => .ans [] (.int .i64 r6) [] (.go 3 (.bind Int (fun y7 => .slot 77 (.int .i64 y7) (.go 3 (.slot 81 (.int .i64 (Int.tdiv m.up.press 24)) (.go 3 (.slot 85 (.int .i64 (Int.tdiv m.down.press 24)) (.go 1 (.bind (Int) (fun r8 => .ans [] (.int .i64 r8) [] (.go 4 (.need (.go 2 (.slot 19 (.int .i64 ((((x0 + 1) : Nat) : Int) + 1)) (.go 0 (.again [(4, 7)])))))))))))))))))))))))))))))))))))))))))))))))))))) (.go 1 (.again [(1, 4)]))))))
  (newK ((readsT 0 [ns.flatMap intC]) : HT).n 3 (.slice (some ⟨1, 0, some 1⟩) (List.length (crsL m x ns 81)) (List.length (crsL m x ns 81))) [(true, .cells true 4 (List.flatMap iceC (crsL m x ns 81)))]) = RCourse m x ns := by kernel_rfl
def RHolds (sp : Value) (m : Rates) (a b c d : Int) (ns hs : List Int) (x : Ice) : Prop :=
  (((decide ((9 : Int) < (((List.length hs) : Nat) : Int))) = true → ((True) ∧ (∀ H' : Heap, H'.length = 3 → (True) → KCall prog 8 [] H' [] (Is (.bool true) H')) ∧ (.bool true : Value) = sp)) ∧ ((decide ((9 : Int) < (((List.length hs) : Nat) : Int))) = false → (∃ r0 : Int, ((True) ∧ (∀ H' : Heap, H'.length = 4 → (True) → KCall prog 11 [.agg #[.int .i64 m.up.conc, .int .i64 m.up.thick, .int .i64 m.up.ridge, .int .i64 m.up.press, .int .i64 m.down.conc, .int .i64 m.down.thick, .int .i64 m.down.ridge, .int .i64 m.down.press]] H' [] (Is (.int .i64 r0) H')) ∧ ((((r0 : Int) != 0) = true → ((True) ∧ (∀ H' : Heap, H'.length = 4 → (True) → KCall prog 8 [] H' [] (Is (.bool true) H')) ∧ (.bool true : Value) = sp)) ∧ (((r0 : Int) != 0) = false → (∃ r1 : Ice, ((True) ∧ (∀ H' : Heap, H'.length = 4 → (True) → KCall prog 22 [.int .i64 a, .int .i64 b, .int .i64 c, .int .i64 d] H' [] (Is (.agg #[.int .i64 r1.conc, .int .i64 r1.thick, .int .i64 r1.ridge, .int .i64 r1.press]) H')) ∧ (∃ r2 : List Ice, (((some (.cells false 0 (List.flatMap intC ns) : KObj) = some (.cells false 0 (List.flatMap intC ns) : KObj)) ∧ True) ∧ (∀ H' : Heap, H'.length = 4 → (H'[0]? = some (.cells false 0 (List.flatMap intC ns) : KObj) ∧ True) → KCall prog 21 [.agg #[.int .i64 m.up.conc, .int .i64 m.up.thick, .int .i64 m.up.ridge, .int .i64 m.up.press, .int .i64 m.down.conc, .int .i64 m.down.thick, .int .i64 m.down.ridge, .int .i64 m.down.press], .agg #[.int .i64 r1.conc, .int .i64 r1.thick, .int .i64 r1.ridge, .int .i64 r1.press], .slice (some ⟨0, 0, some 2⟩) (List.length ns) (List.length ns), .int .i64 80] H' [] (Is (.slice (some ⟨4, 0, some 1⟩) (List.length r2) (List.length r2)) (H' ++ [(.cells true 4 (List.flatMap iceC r2) : KObj)]))) ∧ (∃ r3 : Bool × Int, (((some (.cells true 4 (List.flatMap iceC r2) : KObj) = some (.cells true 4 (List.flatMap iceC r2) : KObj)) ∧ True) ∧ (∀ H' : Heap, H'.length = 5 → (H'[4]? = some (.cells true 4 (List.flatMap iceC r2) : KObj) ∧ True) → KCall prog 23 [.slice (some ⟨4, 0, some 1⟩) (List.length r2) (List.length r2), .agg #[.int .i64 m.up.conc, .int .i64 m.up.thick, .int .i64 m.up.ridge, .int .i64 m.up.press, .int .i64 m.down.conc, .int .i64 m.down.thick, .int .i64 m.down.ridge, .int .i64 m.down.press]] H' [] (Is (.tuple #[.bool r3.1, .int .i64 r3.2]) H')) ∧ ((((r3.2 : Int) != 0) = true → (.bool false : Value) = sp) ∧ (((r3.2 : Int) != 0) = false → (((!r3.1) = true → (.bool false : Value) = sp) ∧ ((!r3.1) = false → (true = true ∧ (0 ≤ List.length hs) ∧ (true = true ∧ ((.int .i64 0 : Value) = .int .i64 ((0 : Nat) : Int) ∧ (.int .i64 0 : Value) = .int .i64 (lastTo hs 0) ∧ wk (.slice none 0 0 : Value) (.slice (some ⟨0, 0, some 1⟩) 0 0 : Value) ∧ wk (.slice (some ⟨1, 0, some 2⟩) (List.length hs) (List.length hs) : Value) (.slice (some ⟨1, 0, some 2⟩) (List.length hs) (List.length hs) : Value) ∧ (.bool false : Value) = .bool false ∧ (.pointer (some ⟨3, 0, none⟩) : Value) = .pointer (some ⟨3, 0, none⟩) ∧ wk (.slice (some ⟨4, 0, some 1⟩) (List.length r2) (List.length r2) : Value) (.slice (some ⟨4, 0, some 1⟩) (List.length r2) (List.length r2) : Value) ∧ True) ∧ (True) ∧ (True ∧ True) ∧ (True)) ∧ (∀ x4 : Nat, true = true) ∧ ∀ x4 : Nat, (x4 ≤ List.length hs) → (((decide ((((x4 : Nat) : Int) : Int) < (((List.length hs) : Nat) : Int))) = true → (((0 : Int) ≤ ((x4 : Nat) : Int) ∧ (((x4 : Nat) : Int) : Int) < (((List.length hs) : Nat) : Int)) ∧ (((List.flatMap intC hs)[(0 + Int.toNat ((x4 : Nat) : Int) * 1)]? = some (.int .i64 (List.getD hs x4 0))) ∧ (∃ r5 : Int, ((True) ∧ (∀ H' : Heap, H'.length = 6 → (True) → KCall prog 17 [.int .i64 (List.getD hs x4 0), .int .i64 60] H' [] (Is (.int .i64 r5) H')) ∧ (∃ y6 : Int, (.int .i64 (if (r5 : Int) > (lastTo hs x4) then (r5 : Int) else (lastTo hs x4)) : Value) = .int .i64 y6 ∧ ((.int .i64 (IntKind.wrap .i64 (1 + (Int.tmod ((x4 : Nat) : Int) 3))) : Value) = .int .i64 (1 + (Int.tmod ((x4 : Nat) : Int) 3)) ∧ (((0 : Int) ≤ ((x4 : Nat) : Int) ∧ (((x4 : Nat) : Int) : Int) < (((List.length hs) : Nat) : Int)) ∧ (((List.flatMap intC hs)[(0 + Int.toNat ((x4 : Nat) : Int) * 1)]? = some (.int .i64 (List.getD hs x4 0))) ∧ ((.int .i64 (IntKind.wrap .i64 (Int.tdiv (List.getD hs x4 0) 60)) : Value) = .int .i64 (Int.tdiv (List.getD hs x4 0) 60) ∧ (((0 : Int) ≤ r5 ∧ (r5 : Int) < (((List.length r2) : Nat) : Int)) ∧ ((partA 4 (List.flatMap iceC r2) (0 + Int.toNat r5 * 4) = some (.agg #[.int .i64 (List.getD r2 (Int.toNat r5) zeroI).conc, .int .i64 (List.getD r2 (Int.toNat r5) zeroI).thick, .int .i64 (List.getD r2 (Int.toNat r5) zeroI).ridge, .int .i64 (List.getD r2 (Int.toNat r5) zeroI).press])) ∧ (((0 : Int) ≤ ((x4 : Nat) : Int) ∧ (((x4 : Nat) : Int) : Int) < (((List.length hs) : Nat) : Int)) ∧ (((List.flatMap intC hs)[(0 + Int.toNat ((x4 : Nat) : Int) * 1)]? = some (.int .i64 (List.getD hs x4 0))) ∧ ((.int .i64 (IntKind.wrap .i64 (Int.tdiv (List.getD hs x4 0) 7)) : Value) = .int .i64 (Int.tdiv (List.getD hs x4 0) 7) ∧ (((0 : Int) ≤ ((x4 : Nat) : Int) ∧ (((x4 : Nat) : Int) : Int) < (((List.length hs) : Nat) : Int)) ∧ (((List.flatMap intC hs)[(0 + Int.toNat ((x4 : Nat) : Int) * 1)]? = some (.int .i64 (List.getD hs x4 0))) ∧ ((.int .i64 (IntKind.wrap .i64 (Int.tdiv (List.getD hs x4 0) 11)) : Value) = .int .i64 (Int.tdiv (List.getD hs x4 0) 11) ∧ (∃ r7 : Int, ((True) ∧ (∀ H' : Heap, H'.length = 6 → (True) → KCall prog 17 [.int .i64 (Int.tdiv (List.getD hs x4 0) 60), .int .i64 15] H' [] (Is (.int .i64 r7) H')) ∧ ((.int .i64 (IntKind.wrap .i64 (1 + r7)) : Value) = .int .i64 (1 + r7) ∧ (∃ r8 : Cell, ((True) ∧ (∀ H' : Heap, H'.length = 6 → (True) → KCall prog 24 [.agg #[.int .i64 (List.getD r2 (Int.toNat r5) zeroI).conc, .int .i64 (List.getD r2 (Int.toNat r5) zeroI).thick, .int .i64 (List.getD r2 (Int.toNat r5) zeroI).ridge, .int .i64 (List.getD r2 (Int.toNat r5) zeroI).press], .int .i64 (Int.tdiv (List.getD hs x4 0) 7), .int .i64 (Int.tdiv (List.getD hs x4 0) 11)] H' [] (Is (.agg #[.int .i64 r8.conc.lo, .int .i64 r8.conc.hi, .int .i64 r8.thick.lo, .int .i64 r8.thick.hi, .int .i64 r8.ridge.lo, .int .i64 r8.ridge.hi, .int .i64 r8.press.lo, .int .i64 r8.press.hi]) H')) ∧ (((x4 + 1) * 112 ≤ 2 ^ 44 ∧ 1 ≠ 0 ∧ (x4 ≤ x4 ∧ 0 + x4 * 14 ≤ List.length (List.flatMap reportC (repL m x ns hs x4))) ∧ (1 ≤ 1 ∧ 0 + 1 * 14 ≤ List.length ([.int .i64 ((x4 : Nat) : Int), .int .i64 (1 + (Int.tmod ((x4 : Nat) : Int) 3)), .int .i64 r5, .int .i64 0, .int .i64 0, .int .i64 (1 + r7), .int .i64 r8.conc.lo, .int .i64 r8.conc.hi, .int .i64 r8.thick.lo, .int .i64 r8.thick.hi, .int .i64 r8.ridge.lo, .int .i64 r8.ridge.hi, .int .i64 r8.press.lo, .int .i64 r8.press.hi] : List Value)) ∧ ((List.take (1 * 14) (List.drop 0 ([.int .i64 ((x4 : Nat) : Int), .int .i64 (1 + (Int.tmod ((x4 : Nat) : Int) 3)), .int .i64 r5, .int .i64 0, .int .i64 0, .int .i64 (1 + r7), .int .i64 r8.conc.lo, .int .i64 r8.conc.hi, .int .i64 r8.thick.lo, .int .i64 r8.thick.hi, .int .i64 r8.ridge.lo, .int .i64 r8.ridge.hi, .int .i64 r8.press.lo, .int .i64 r8.press.hi] : List Value))) : List Value).all (fun v => one1 v) = true) ∧ true = true ∧ ((.int .i64 (IntKind.wrap .i64 (((x4 : Nat) : Int) + 1)) : Value) = .int .i64 (((x4 : Nat) : Int) + 1) ∧ (∃ x4' : Nat, (x4' ≤ List.length hs) ∧ (List.length hs - x4') < (List.length hs - x4) ∧ true = true ∧ ((.int .i64 (((x4 : Nat) : Int) + 1) : Value) = .int .i64 ((x4' : Nat) : Int) ∧ (.int .i64 y6 : Value) = .int .i64 (lastTo hs x4') ∧ wk (.slice (some ⟨7, 0, none⟩) (x4 + 1) (x4 + 1) : Value) (.slice (some ⟨7, 0, some 1⟩) x4' x4' : Value) ∧ wk (.slice (some ⟨1, 0, some 2⟩) (List.length hs) (List.length hs) : Value) (.slice (some ⟨1, 0, some 2⟩) (List.length hs) (List.length hs) : Value) ∧ (.bool false : Value) = .bool false ∧ (.pointer (some ⟨3, 0, none⟩) : Value) = .pointer (some ⟨3, 0, none⟩) ∧ wk (.slice (some ⟨4, 0, some 1⟩) (List.length r2) (List.length r2) : Value) (.slice (some ⟨4, 0, some 1⟩) (List.length r2) (List.length r2) : Value) ∧ True) ∧ (True) ∧ ((some (.cells true 14 ((List.take (x4 * 14) (List.drop 0 (List.flatMap reportC (repL m x ns hs x4)))) ++ (List.take (1 * 14) (List.drop 0 ([.int .i64 ((x4 : Nat) : Int), .int .i64 (1 + (Int.tmod ((x4 : Nat) : Int) 3)), .int .i64 r5, .int .i64 0, .int .i64 0, .int .i64 (1 + r7), .int .i64 r8.conc.lo, .int .i64 r8.conc.hi, .int .i64 r8.thick.lo, .int .i64 r8.thick.hi, .int .i64 r8.ridge.lo, .int .i64 r8.ridge.hi, .int .i64 r8.press.lo, .int .i64 r8.press.hi] : List Value)))) : KObj) = some (.cells true 14 (List.flatMap reportC (repL m x ns hs x4')) : KObj) ∧ belowO 5 (.cells true 14 (List.flatMap reportC (repL m x ns hs x4')) : KObj) = true) ∧ True) ∧ (True))))))))))))))))))))))))))) ∧ ((decide ((((x4 : Nat) : Int) : Int) < (((List.length hs) : Nat) : Int))) = false → (true = true ∧ (lastTo hs (List.length hs) + 9 * ((0 : Nat) : Int) ≤ 89) ∧ (true = true ∧ ((.int .i64 (lastTo hs x4) : Value) = .int .i64 (lastTo hs (List.length hs) + 9 * ((0 : Nat) : Int)) ∧ wk (.slice (some ⟨4, 0, some 1⟩) (List.length r2) (List.length r2) : Value) (.slice (some ⟨4, 0, some 1⟩) (List.length r2) (List.length r2) : Value) ∧ (.pointer (some ⟨3, 0, none⟩) : Value) = .pointer (some ⟨3, 0, none⟩) ∧ wk (.slice (some ⟨5, 0, some 1⟩) x4 x4 : Value) (.slice (some ⟨5, 0, some 1⟩) x4 x4 : Value) ∧ True) ∧ (True) ∧ (True) ∧ (True)) ∧ (∀ x5 : Nat, true = true) ∧ ∀ x5 : Nat, (lastTo hs (List.length hs) + 9 * ((x5 : Nat) : Int) ≤ 89) → (∃ y6 : Int, (.int .i64 (lastTo hs (List.length hs) + 9 * ((x5 : Nat) : Int)) : Value) = .int .i64 y6 ∧ (((decide ((y6 : Int) ≤ 80)) = true → (∃ y7 : Int, (.int .i64 (lastTo hs (List.length hs) + 9 * ((x5 : Nat) : Int)) : Value) = .int .i64 y7 ∧ (∃ r8 : Cell × Int, (((some (.cells true 14 (List.flatMap reportC (repL m x ns hs x4)) : KObj) = some (.cells true 14 (List.flatMap reportC (repL m x ns hs x4)) : KObj)) ∧ True) ∧ (∀ H' : Heap, H'.length = 6 → (H'[5]? = some (.cells true 14 (List.flatMap reportC (repL m x ns hs x4)) : KObj) ∧ True) → KCall prog 15 [.slice (some ⟨5, 0, some 1⟩) x4 x4, .agg #[.int .i64 m.up.conc, .int .i64 m.up.thick, .int .i64 m.up.ridge, .int .i64 m.up.press, .int .i64 m.down.conc, .int .i64 m.down.thick, .int .i64 m.down.ridge, .int .i64 m.down.press], .int .i64 y7] H' [] (Is (.tuple #[.agg #[.int .i64 r8.1.conc.lo, .int .i64 r8.1.conc.hi, .int .i64 r8.1.thick.lo, .int .i64 r8.1.thick.hi, .int .i64 r8.1.ridge.lo, .int .i64 r8.1.ridge.hi, .int .i64 r8.1.press.lo, .int .i64 r8.1.press.hi], .int .i64 r8.2]) H')) ∧ (∃ y9 : Int, (.int .i64 (lastTo hs (List.length hs) + 9 * ((x5 : Nat) : Int)) : Value) = .int .i64 y9 ∧ (∃ r10 : List (Nat × Nat) × Int, (((some (.cells true 14 (List.flatMap reportC (repL m x ns hs x4)) : KObj) = some (.cells true 14 (List.flatMap reportC (repL m x ns hs x4)) : KObj)) ∧ True) ∧ (∀ H' : Heap, H'.length = 7 → (H'[5]? = some (.cells true 14 (List.flatMap reportC (repL m x ns hs x4)) : KObj) ∧ True) → KCall prog 13 [.slice (some ⟨5, 0, some 1⟩) x4 x4, .agg #[.int .i64 m.up.conc, .int .i64 m.up.thick, .int .i64 m.up.ridge, .int .i64 m.up.press, .int .i64 m.down.conc, .int .i64 m.down.thick, .int .i64 m.down.ridge, .int .i64 m.down.press], .int .i64 y9] H' [] (Is (.tuple #[.slice (some ⟨7, 0, some 1⟩) (List.length r10.1) (List.length r10.1), .int .i64 r10.2]) (H' ++ [(.cells true 2 (List.flatMap pairC r10.1) : KObj)]))) ∧ (∃ y11 : Int, (.int .i64 (lastTo hs (List.length hs) + 9 * ((x5 : Nat) : Int)) : Value) = .int .i64 y11 ∧ (∃ r12 : List Bool × Cell × Int, (((some (.cells true 14 (List.flatMap reportC (repL m x ns hs x4)) : KObj) = some (.cells true 14 (List.flatMap reportC (repL m x ns hs x4)) : KObj)) ∧ True) ∧ (∀ H' : Heap, H'.length = 8 → (H'[5]? = some (.cells true 14 (List.flatMap reportC (repL m x ns hs x4)) : KObj) ∧ True) → KCall prog 14 [.slice (some ⟨5, 0, some 1⟩) x4 x4, .agg #[.int .i64 m.up.conc, .int .i64 m.up.thick, .int .i64 m.up.ridge, .int .i64 m.up.press, .int .i64 m.down.conc, .int .i64 m.down.thick, .int .i64 m.down.ridge, .int .i64 m.down.press], .int .i64 y11] H' [] (Is (.tuple #[.slice (some ⟨8, 0, some 1⟩) (List.length r12.1) (List.length r12.1), .agg #[.int .i64 r12.2.1.conc.lo, .int .i64 r12.2.1.conc.hi, .int .i64 r12.2.1.thick.lo, .int .i64 r12.2.1.thick.hi, .int .i64 r12.2.1.ridge.lo, .int .i64 r12.2.1.ridge.hi, .int .i64 r12.2.1.press.lo, .int .i64 r12.2.1.press.hi], .int .i64 r12.2.2]) (H' ++ [(.cells true 1 (List.flatMap boolC r12.1) : KObj)]))) ∧ ((((r8.2 : Int) != 0) = true → (.bool false : Value) = sp) ∧ (((r8.2 : Int) != 0) = false → ((((r10.2 : Int) != 0) = true → (.bool false : Value) = sp) ∧ (((r10.2 : Int) != 0) = false → ((((r12.2.2 : Int) != 0) = true → (.bool false : Value) = sp) ∧ (((r12.2.2 : Int) != 0) = false → (((((((List.length r10.1) : Nat) : Int) : Int) != 0) = true → (.bool false : Value) = sp) ∧ ((((((List.length r10.1) : Nat) : Int) : Int) != 0) = false → (((!((((r8.1.conc.lo : Int) == r12.2.1.conc.lo) && (((r8.1.conc.hi : Int) == r12.2.1.conc.hi) && true)) && ((((r8.1.thick.lo : Int) == r12.2.1.thick.lo) && (((r8.1.thick.hi : Int) == r12.2.1.thick.hi) && true)) && ((((r8.1.ridge.lo : Int) == r12.2.1.ridge.lo) && (((r8.1.ridge.hi : Int) == r12.2.1.ridge.hi) && true)) && ((((r8.1.press.lo : Int) == r12.2.1.press.lo) && (((r8.1.press.hi : Int) == r12.2.1.press.hi) && true)) && true))))) = true → (.bool false : Value) = sp) ∧ ((!((((r8.1.conc.lo : Int) == r12.2.1.conc.lo) && (((r8.1.conc.hi : Int) == r12.2.1.conc.hi) && true)) && ((((r8.1.thick.lo : Int) == r12.2.1.thick.lo) && (((r8.1.thick.hi : Int) == r12.2.1.thick.hi) && true)) && ((((r8.1.ridge.lo : Int) == r12.2.1.ridge.lo) && (((r8.1.ridge.hi : Int) == r12.2.1.ridge.hi) && true)) && ((((r8.1.press.lo : Int) == r12.2.1.press.lo) && (((r8.1.press.hi : Int) == r12.2.1.press.hi) && true)) && true))))) = false → (((((((List.length r12.1) : Nat) : Int) : Int) != ((x4 : Nat) : Int)) = true → (.bool false : Value) = sp) ∧ ((((((List.length r12.1) : Nat) : Int) : Int) != ((x4 : Nat) : Int)) = false → (true = true ∧ (0 ≤ (List.length r12.1)) ∧ (true = true ∧ ((.int .i64 0 : Value) = .int .i64 ((0 : Nat) : Int) ∧ wk (.slice (some ⟨5, 0, some 1⟩) x4 x4 : Value) (.slice (some ⟨5, 0, some 1⟩) x4 x4 : Value) ∧ (.pointer (some ⟨3, 0, none⟩) : Value) = .pointer (some ⟨3, 0, none⟩) ∧ wk (.slice (some ⟨4, 0, some 1⟩) (List.length r2) (List.length r2) : Value) (.slice (some ⟨4, 0, some 1⟩) (List.length r2) (List.length r2) : Value) ∧ (.int .i64 (lastTo hs (List.length hs) + 9 * ((x5 : Nat) : Int)) : Value) = .int .i64 (lastTo hs (List.length hs) + 9 * ((x5 : Nat) : Int)) ∧ (.pointer (some ⟨6, 0, none⟩) : Value) = .pointer (some ⟨6, 0, none⟩) ∧ (.int .i64 r8.2 : Value) = .int .i64 r8.2 ∧ wk (.slice (some ⟨7, 0, some 1⟩) (List.length r10.1) (List.length r10.1) : Value) (.slice (some ⟨7, 0, some 1⟩) (List.length r10.1) (List.length r10.1) : Value) ∧ (.int .i64 r10.2 : Value) = .int .i64 r10.2 ∧ (.pointer (some ⟨9, 0, none⟩) : Value) = .pointer (some ⟨9, 0, none⟩) ∧ wk (.slice (some ⟨8, 0, some 1⟩) (List.length r12.1) (List.length r12.1) : Value) (.slice (some ⟨8, 0, some 1⟩) (List.length r12.1) (List.length r12.1) : Value) ∧ (.int .i64 r12.2.2 : Value) = .int .i64 r12.2.2 ∧ True) ∧ (True) ∧ (True) ∧ (True)) ∧ (∀ x13 : Nat, true = true) ∧ ∀ x13 : Nat, (x13 ≤ (List.length r12.1)) → (((decide ((((x13 : Nat) : Int) : Int) < (((List.length r12.1) : Nat) : Int))) = true → (((0 : Int) ≤ ((x13 : Nat) : Int) ∧ (((x13 : Nat) : Int) : Int) < (((List.length r12.1) : Nat) : Int)) ∧ (((List.flatMap boolC r12.1)[(0 + Int.toNat ((x13 : Nat) : Int) * 1)]? = some (.bool (List.getD r12.1 x13 false))) ∧ (((!(List.getD r12.1 x13 false)) = true → (.bool false : Value) = sp) ∧ ((!(List.getD r12.1 x13 false)) = false → ((.int .i64 (IntKind.wrap .i64 (((x13 : Nat) : Int) + 1)) : Value) = .int .i64 (((x13 : Nat) : Int) + 1) ∧ (∃ x13' : Nat, (x13' ≤ (List.length r12.1)) ∧ ((List.length r12.1) - x13') < ((List.length r12.1) - x13) ∧ true = true ∧ ((.int .i64 (((x13 : Nat) : Int) + 1) : Value) = .int .i64 ((x13' : Nat) : Int) ∧ wk (.slice (some ⟨5, 0, some 1⟩) x4 x4 : Value) (.slice (some ⟨5, 0, some 1⟩) x4 x4 : Value) ∧ (.pointer (some ⟨3, 0, none⟩) : Value) = .pointer (some ⟨3, 0, none⟩) ∧ wk (.slice (some ⟨4, 0, some 1⟩) (List.length r2) (List.length r2) : Value) (.slice (some ⟨4, 0, some 1⟩) (List.length r2) (List.length r2) : Value) ∧ (.int .i64 (lastTo hs (List.length hs) + 9 * ((x5 : Nat) : Int)) : Value) = .int .i64 (lastTo hs (List.length hs) + 9 * ((x5 : Nat) : Int)) ∧ (.pointer (some ⟨6, 0, none⟩) : Value) = .pointer (some ⟨6, 0, none⟩) ∧ (.int .i64 r8.2 : Value) = .int .i64 r8.2 ∧ wk (.slice (some ⟨7, 0, some 1⟩) (List.length r10.1) (List.length r10.1) : Value) (.slice (some ⟨7, 0, some 1⟩) (List.length r10.1) (List.length r10.1) : Value) ∧ (.int .i64 r10.2 : Value) = .int .i64 r10.2 ∧ (.pointer (some ⟨9, 0, none⟩) : Value) = .pointer (some ⟨9, 0, none⟩) ∧ wk (.slice (some ⟨8, 0, some 1⟩) (List.length r12.1) (List.length r12.1) : Value) (.slice (some ⟨8, 0, some 1⟩) (List.length r12.1) (List.length r12.1) : Value) ∧ (.int .i64 r12.2.2 : Value) = .int .i64 r12.2.2 ∧ True) ∧ (True) ∧ (True) ∧ (True)))))))) ∧ ((decide ((((x13 : Nat) : Int) : Int) < (((List.length r12.1) : Nat) : Int))) = false → (∃ y14 : Int, (.int .i64 (lastTo hs (List.length hs) + 9 * ((x5 : Nat) : Int)) : Value) = .int .i64 y14 ∧ (((0 : Int) ≤ y14 ∧ (y14 : Int) < (((List.length r2) : Nat) : Int)) ∧ ((partA 4 (List.flatMap iceC r2) (0 + Int.toNat y14 * 4) = some (.agg #[.int .i64 (List.getD r2 (Int.toNat y14) zeroI).conc, .int .i64 (List.getD r2 (Int.toNat y14) zeroI).thick, .int .i64 (List.getD r2 (Int.toNat y14) zeroI).ridge, .int .i64 (List.getD r2 (Int.toNat y14) zeroI).press])) ∧ (∃ r15 : Bool × Int, ((True) ∧ (∀ H' : Heap, H'.length = 10 → (True) → KCall prog 25 [.agg #[.int .i64 r8.1.conc.lo, .int .i64 r8.1.conc.hi, .int .i64 r8.1.thick.lo, .int .i64 r8.1.thick.hi, .int .i64 r8.1.ridge.lo, .int .i64 r8.1.ridge.hi, .int .i64 r8.1.press.lo, .int .i64 r8.1.press.hi], .agg #[.int .i64 (List.getD r2 (Int.toNat y14) zeroI).conc, .int .i64 (List.getD r2 (Int.toNat y14) zeroI).thick, .int .i64 (List.getD r2 (Int.toNat y14) zeroI).ridge, .int .i64 (List.getD r2 (Int.toNat y14) zeroI).press]] H' [] (Is (.tuple #[.bool r15.1, .int .i64 r15.2]) H')) ∧ ((((r15.2 : Int) != 0) = true → (.bool false : Value) = sp) ∧ (((r15.2 : Int) != 0) = false → (((!r15.1) = true → (.bool false : Value) = sp) ∧ ((!r15.1) = false → (∃ y16 : Int, (.int .i64 (lastTo hs (List.length hs) + 9 * ((x5 : Nat) : Int)) : Value) = .int .i64 y16 ∧ ((.int .i64 (IntKind.wrap .i64 (y16 + 9)) : Value) = .int .i64 (y16 + 9) ∧ (∃ x5' : Nat, (lastTo hs (List.length hs) + 9 * ((x5' : Nat) : Int) ≤ 89) ∧ (30 - x5') < (30 - x5) ∧ true = true ∧ ((.int .i64 (y16 + 9) : Value) = .int .i64 (lastTo hs (List.length hs) + 9 * ((x5' : Nat) : Int)) ∧ wk (.slice (some ⟨4, 0, some 1⟩) (List.length r2) (List.length r2) : Value) (.slice (some ⟨4, 0, some 1⟩) (List.length r2) (List.length r2) : Value) ∧ (.pointer (some ⟨3, 0, none⟩) : Value) = .pointer (some ⟨3, 0, none⟩) ∧ wk (.slice (some ⟨5, 0, some 1⟩) x4 x4 : Value) (.slice (some ⟨5, 0, some 1⟩) x4 x4 : Value) ∧ True) ∧ (True) ∧ (True) ∧ (True)))))))))))))))))))))))))))))))))))))) ∧ ((decide ((y6 : Int) ≤ 80)) = false → ((True) ∧ (∀ H' : Heap, H'.length = 6 → (True) → KCall prog 8 [] H' [] (Is (.bool true) H')) ∧ (.bool true : Value) = sp))))))))))))))))))))))))
theorem EHolds (sp : Value) (m : Rates) (a b c d : Int) (ns hs : List Int) (x : Ice) : vF prog msk (dm 0) 100000 true 40 true 6 [.agg #[.int .i64 m.up.conc, .int .i64 m.up.thick, .int .i64 m.up.ridge, .int .i64 m.up.press, .int .i64 m.down.conc, .int .i64 m.down.thick, .int .i64 m.down.ridge, .int .i64 m.down.press], .int .i64 a, .int .i64 b, .int .i64 c, .int .i64 d, .slice (some ⟨0, 0, some 2⟩) (List.length ns) (List.length ns), .slice (some ⟨1, 0, some 2⟩) (List.length hs) (List.length hs)] (readsT 0 [ns.flatMap intC, hs.flatMap intC]) (some [])
  (.go 4 (.fork (.ans [] (.bool true) [] (.auto)) (.go 12 (.bind (Int) (fun r0 => .ans [] (.int .i64 r0) [] (.go 0 (.fork (.ans [] (.bool true) [] (.auto)) (.go 5 (.bind (Ice) (fun r1 => .ans [] (.agg #[.int .i64 r1.conc, .int .i64 r1.thick, .int .i64 r1.ridge, .int .i64 r1.press]) [] (.bind (List Ice) (fun r2 => .ans [(0, .cells false 0 (List.flatMap intC ns))] (.slice (some ⟨4, 0, some 1⟩) (List.length r2) (List.length r2)) [.cells true 4 (List.flatMap iceC r2)] (.go 2 (.bind (Bool × Int) (fun r3 => .ans [(4, .cells true 4 (List.flatMap iceC r2))] (.tuple #[.bool r3.1, .int .i64 r3.2]) [] (.go 7 (.gfork (.auto) (.go 2 (.fork (.auto) (.go 2 (.inv 3 (Nat) (0) [] [] (fun x4 => [(21, .int .i64 ((x4 : Nat) : Int)), (20, .int .i64 (lastTo hs x4)), (19, .slice (some ⟨5, 0, some 1⟩) x4 x4), (6, .slice (some ⟨1, 0, some 2⟩) (List.length hs) (List.length hs)), (14, .bool false), (15, .pointer (some ⟨3, 0, none⟩)), (16, .slice (some ⟨4, 0, some 1⟩) (List.length r2) (List.length r2))]) (fun x4 => []) (fun x4 => [(true, .cells true 14 (List.flatMap reportC (repL m x ns hs x4)))]) (fun x4 => []) (fun x4 => (x4 ≤ List.length hs)) (fun x4 => (List.length hs - x4)) (fun x4 => .go 3 (.fork (.go 1 (.need (.val (.int .i64 (List.getD hs x4 0)) (.bind (Int) (fun r5 => .ans [] (.int .i64 r5) [] (.go 3 (.bind Int (fun y6 => .slot 77 (.int .i64 y6) (.go 5 (.slot 82 (.int .i64 (1 + (Int.tmod ((x4 : Nat) : Int) 3))) (.go 2 (.need (.val (.int .i64 (List.getD hs x4 0)) (.go 0 (.slot 88 (.int .i64 (Int.tdiv (List.getD hs x4 0) 60)) (.go 1 (.need (.val (.agg #[.int .i64 (List.getD r2 (Int.toNat r5) zeroI).conc, .int .i64 (List.getD r2 (Int.toNat r5) zeroI).thick, .int .i64 (List.getD r2 (Int.toNat r5) zeroI).ridge, .int .i64 (List.getD r2 (Int.toNat r5) zeroI).press]) (.go 1 (.need (.val (.int .i64 (List.getD hs x4 0)) (.go 0 (.slot 99 (.int .i64 (Int.tdiv (List.getD hs x4 0) 7)) (.go 1 (.need (.val (.int .i64 (List.getD hs x4 0)) (.go 0 (.slot 104 (.int .i64 (Int.tdiv (List.getD hs x4 0) 11)) (.bind (Int) (fun r7 => .ans [] (.int .i64 r7) [] (.go 0 (.slot 90 (.int .i64 (1 + r7)) (.bind (Cell) (fun r8 => .ans [] (.agg #[.int .i64 r8.conc.lo, .int .i64 r8.conc.hi, .int .i64 r8.thick.lo, .int .i64 r8.thick.hi, .int .i64 r8.ridge.lo, .int .i64 r8.ridge.hi, .int .i64 r8.press.lo, .int .i64 r8.press.hi]) [] (.go 1 (.need (.go 2 (.slot 69 (.int .i64 (((x4 : Nat) : Int) + 1)) (.go 0 (.again [(5, 7)])))))))))))))))))))))))))))))))))))))))) (.go 1 (.inv 3 (Nat) (0) [] [] (fun x5 => [(23, .int .i64 (lastTo hs (List.length hs) + 9 * ((x5 : Nat) : Int))), (16, .slice (some ⟨4, 0, some 1⟩) (List.length r2) (List.length r2)), (15, .pointer (some ⟨3, 0, none⟩)), (19, .slice (some ⟨5, 0, some 1⟩) x4 x4)]) (fun x5 => []) (fun x5 => []) (fun x5 => []) (fun x5 => (lastTo hs (List.length hs) + 9 * ((x5 : Nat) : Int) ≤ 89)) (fun x5 => (30 - x5)) (fun x5 => .go 0 (.bind Int (fun y6 => .slot 110 (.int .i64 y6) (.go 0 (.fork (.go 2 (.bind Int (fun y7 => .slot 117 (.int .i64 y7) (.bind (Cell × Int) (fun r8 => .ans [(5, .cells true 14 (List.flatMap reportC (repL m x ns hs x4)))] (.tuple #[.agg #[.int .i64 r8.1.conc.lo, .int .i64 r8.1.conc.hi, .int .i64 r8.1.thick.lo, .int .i64 r8.1.thick.hi, .int .i64 r8.1.ridge.lo, .int .i64 r8.1.ridge.hi, .int .i64 r8.1.press.lo, .int .i64 r8.1.press.hi], .int .i64 r8.2]) [] (.go 8 (.bind Int (fun y9 => .slot 124 (.int .i64 y9) (.bind (List (Nat × Nat) × Int) (fun r10 => .ans [(5, .cells true 14 (List.flatMap reportC (repL m x ns hs x4)))] (.tuple #[.slice (some ⟨7, 0, some 1⟩) (List.length r10.1) (List.length r10.1), .int .i64 r10.2]) [.cells true 2 (List.flatMap pairC r10.1)] (.go 7 (.bind Int (fun y11 => .slot 131 (.int .i64 y11) (.bind (List Bool × Cell × Int) (fun r12 => .ans [(5, .cells true 14 (List.flatMap reportC (repL m x ns hs x4)))] (.tuple #[.slice (some ⟨8, 0, some 1⟩) (List.length r12.1) (List.length r12.1), .agg #[.int .i64 r12.2.1.conc.lo, .int .i64 r12.2.1.conc.hi, .int .i64 r12.2.1.thick.lo, .int .i64 r12.2.1.thick.hi, .int .i64 r12.2.1.ridge.lo, .int .i64 r12.2.1.ridge.hi, .int .i64 r12.2.1.press.lo, .int .i64 r12.2.1.press.hi], .int .i64 r12.2.2]) [.cells true 1 (List.flatMap boolC r12.1)] (.go 10 (.gfork (.auto) (.go 3 (.gfork (.auto) (.go 3 (.gfork (.auto) (.go 4 (.gfork (.auto) (.go 4 (.gfork (.auto) (.go 5 (.fork (.auto) (.go 0 (.inv 3 (Nat) (0) [] [] (fun x13 => [(31, .int .i64 ((x13 : Nat) : Int)), (19, .slice (some ⟨5, 0, some 1⟩) x4 x4), (15, .pointer (some ⟨3, 0, none⟩)), (16, .slice (some ⟨4, 0, some 1⟩) (List.length r2) (List.length r2)), (23, .int .i64 (lastTo hs (List.length hs) + 9 * ((x5 : Nat) : Int))), (24, .pointer (some ⟨6, 0, none⟩)), (25, .int .i64 r8.2), (26, .slice (some ⟨7, 0, some 1⟩) (List.length r10.1) (List.length r10.1)), (27, .int .i64 r10.2), (29, .pointer (some ⟨9, 0, none⟩)), (28, .slice (some ⟨8, 0, some 1⟩) (List.length r12.1) (List.length r12.1)), (30, .int .i64 r12.2.2)]) (fun x13 => []) (fun x13 => []) (fun x13 => []) (fun x13 => (x13 ≤ (List.length r12.1))) (fun x13 => ((List.length r12.1) - x13)) (fun x13 => .go 3 (.fork (.go 1 (.need (.val (.bool (List.getD r12.1 x13 false)) (.go 0 (.fork (.auto) (.go 1 (.slot 168 (.int .i64 (((x13 : Nat) : Int) + 1)) (.go 0 (.again []))))))))) (.go 2 (.bind Int (fun y14 => .slot 177 (.int .i64 y14) (.need (.val (.agg #[.int .i64 (List.getD r2 (Int.toNat y14) zeroI).conc, .int .i64 (List.getD r2 (Int.toNat y14) zeroI).thick, .int .i64 (List.getD r2 (Int.toNat y14) zeroI).ridge, .int .i64 (List.getD r2 (Int.toNat y14) zeroI).press]) (.bind (Bool × Int) (fun r15 => .ans [] (.tuple #[.bool r15.1, .int .i64 r15.2]) [] (.go 7 (.gfork (.auto) (.go 2 (.fork (.auto) (.go 0 (.bind Int (fun y16 => .slot 112 (.int .i64 y16) (.go 0 (.slot 113 (.int .i64 (y16 + 9)) (.go 0 (.again []))))))))))))))))))))))))))))))))))))))))))))))))) (.ans [] (.bool true) [] (.auto))))))))))))))))))))))))))))))))
  (fun v _ _ => v = sp) = RHolds sp m a b c d ns hs x := by kernel_rfl
end
end Go.Proofs.Ythcjliffpebjaaa
/- Ice: IceHolds, plainly: allowed courses; what true reports tell has the ice of the hour. No condition. -/
namespace Go.Proofs.Ythcjliffpebjaaa
set_option linter.unusedSimpArgs false
set_option linter.unusedVariables false
open Go Go.K
noncomputable section
theorem movedF_bd {x up down b most : Int} (hx : 0 ≤ x ∧ x ≤ most) (hu : 0 ≤ up) (hd : 0 ≤ down) : x - down ≤ movedF x up down b most ∧ movedF x up down b most ≤ x + up ∧ 0 ≤ movedF x up down b most ∧ movedF x up down b most ≤ most := by
  have h1 := Int.emod_nonneg b (show up + down + 1 ≠ 0 by omega)
  have h2 := Int.emod_lt_of_pos b (show 0 < up + down + 1 by omega)
  unfold movedF; omega
theorem td_nn {r : Int} (h : 0 ≤ r) : 0 ≤ Int.tdiv r 24 ∧ 24 * Int.tdiv r 24 ≤ r := by
  rw [Int.tdiv_eq_ediv_of_nonneg h]; omega
theorem step_right {m : Rates} {x : Ice} (b : Int) (hm : rightR m) (hx : rightI x) : rightI (stepI m b x) := by
  obtain ⟨⟨u1, u2, u3, u4⟩, d1, d2, d3, d4⟩ := hm
  obtain ⟨x1, x2, x3, x4⟩ := hx
  refine ⟨?_, ?_, ?_, ?_⟩
  · have := movedF_bd (b := b) x1 (td_nn u1.1).1 (td_nn d1.1).1; exact this.2.2
  · have := movedF_bd (b := Int.tdiv b 3) x2 (td_nn u2.1).1 (td_nn d2.1).1; exact this.2.2
  · have := movedF_bd (b := Int.tdiv b 5) x3 (td_nn u3.1).1 (td_nn d3.1).1; exact this.2.2
  · have := movedF_bd (b := Int.tdiv b 7) x4 (td_nn u4.1).1 (td_nn d4.1).1; exact this.2.2
theorem crs_right {m : Rates} {x : Ice} (ns : List Int) (hm : rightR m) (hx : rightI x) (t : Nat) : rightI (crs m x ns t) := by
  induction t with
  | zero => exact hx
  | succ t ih => exact step_right _ hm ih
theorem seq_bd {f : Nat → Int} {D U : Int} (h : ∀ t, f t - D ≤ f (t + 1) ∧ f (t + 1) ≤ f t + U) (s k : Nat) : f s - D * k ≤ f (s + k) ∧ f (s + k) ≤ f s + U * k := by
  induction k with
  | zero => simp
  | succ k ih =>
    have h1 := h (s + k)
    have e1 : D * ((k + 1 : Nat) : Int) = D * k + D := by rw [Int.natCast_add, Int.mul_add]; simp
    have e2 : U * ((k + 1 : Nat) : Int) = U * k + U := by rw [Int.natCast_add, Int.mul_add]; simp
    rw [e1, e2, ← Nat.add_assoc]
    omega
theorem rate_le {r : Int} (hr : 0 ≤ r) (k : Nat) : Int.tdiv r 24 * k ≤ chg r k := by
  have h1 := (td_nn hr).2
  have h2 : 24 * Int.tdiv r 24 * (k : Int) ≤ r * k := Int.mul_le_mul_of_nonneg_right h1 (by omega)
  rw [Int.mul_assoc] at h2
  unfold chg; omega
theorem crs_pair {m : Rates} {x : Ice} (ns : List Int) (hm : rightR m) (hx : rightI x) (s k : Nat) : pairI m (crs m x ns s) (crs m x ns (s + k)) k := by
  have hr := crs_right ns hm hx
  obtain ⟨⟨u1, u2, u3, u4⟩, d1, d2, d3, d4⟩ := hm
  refine ⟨?_, ?_, ?_, ?_⟩
  · have := seq_bd (f := fun t => (crs m x ns t).conc) (fun t => let q := movedF_bd (b := numAt ns (t + 1)) (hr t).1 (td_nn u1.1).1 (td_nn d1.1).1; ⟨q.1, q.2.1⟩) s k
    have a := rate_le u1.1 k; have b := rate_le d1.1 k
    omega
  · have := seq_bd (f := fun t => (crs m x ns t).thick) (fun t => let q := movedF_bd (b := Int.tdiv (numAt ns (t + 1)) 3) (hr t).2.1 (td_nn u2.1).1 (td_nn d2.1).1; ⟨q.1, q.2.1⟩) s k
    have a := rate_le u2.1 k; have b := rate_le d2.1 k
    omega
  · have := seq_bd (f := fun t => (crs m x ns t).ridge) (fun t => let q := movedF_bd (b := Int.tdiv (numAt ns (t + 1)) 5) (hr t).2.2.1 (td_nn u3.1).1 (td_nn d3.1).1; ⟨q.1, q.2.1⟩) s k
    have a := rate_le u3.1 k; have b := rate_le d3.1 k
    omega
  · have := seq_bd (f := fun t => (crs m x ns t).press) (fun t => let q := movedF_bd (b := Int.tdiv (numAt ns (t + 1)) 7) (hr t).2.2.2 (td_nn u4.1).1 (td_nn d4.1).1; ⟨q.1, q.2.1⟩) s k
    have a := rate_le u4.1 k; have b := rate_le d4.1 k
    omega
theorem errs_none {α : Type} {e : α → Int} : ∀ {xs : List α}, (∀ x ∈ xs, e x = 0) → errs e xs = 0
  | [], _ => rfl
  | x :: r, h => by unfold errs; rw [if_pos (h x (by simp))]; exact errs_none fun y hy => h y (by simp [hy])
theorem crsL_get {m : Rates} {x : Ice} {ns : List Int} {n k : Nat} (h : k < n) : (crsL m x ns n).getD k zeroI = crs m x ns k := tabP_get h
theorem crsL_len (m : Rates) (x : Ice) (ns : List Int) (n : Nat) : (crsL m x ns n).length = n := tabP_len ..
theorem crs_allowed {m : Rates} {x : Ice} (ns : List Int) (hm : rightR m) (hx : rightI x) : fAllowed (crsL m x ns 81) m = (true, 0) := by
  refine fAllowed_5 (by rw [crsL_len]; omega) (errs_none fun y hy => ?_) (errRates_iff.2 hm) fun t ht s hs => ?_
  · obtain ⟨k, hk, rfl⟩ := List.mem_map.1 hy
    exact errIce_iff.2 (crs_right ns hm hx k)
  · rw [crsL_len] at ht
    rw [crsL_get (by omega), crsL_get ht]
    have := crs_pair ns hm hx s (t - s)
    rw [show s + (t - s) = t by omega] at this
    rwa [show (((t - s : Nat)) : Int) = (t : Int) - (s : Int) by omega] at this
theorem arS_ok {n low high most : Int} (h : 0 ≤ n ∧ n ≤ most) : rightS (arS n low high most) most ∧ hasS (arS n low high most) n := by
  have g1 := Int.emod_nonneg low (show (30 : Int) ≠ 0 by decide)
  have g3 := Int.emod_nonneg high (show (30 : Int) ≠ 0 by decide)
  unfold rightS hasS arS; dsimp only; omega
theorem arC_ok {x : Ice} {low high : Int} (h : rightI x) : rightC (arC x low high) ∧ hasC (arC x low high) x := by
  obtain ⟨h1, h2, h3, h4⟩ := h
  exact ⟨⟨(arS_ok h1).1, (arS_ok h2).1, (arS_ok h3).1, (arS_ok h4).1⟩, (arS_ok h1).2, (arS_ok h2).2, (arS_ok h3).2, (arS_ok h4).2⟩
theorem said_has {r : Report} {x : Ice} (hx : rightI x) (h : hasC r.cell x) : hasC (saidC r) x := by
  obtain ⟨x1, x2, x3, x4⟩ := hx
  obtain ⟨h1, h2, h3, h4⟩ := h
  unfold saidC
  refine ⟨?_, ?_, ?_, ?_⟩
  · show hasS (if _ then _ else _) _; split; exact h1; exact x1
  · show hasS (if _ then _ else _) _; split; exact h2; exact x2
  · show hasS (if _ then _ else _) _; split; exact h3; exact x3
  · show hasS (if _ then _ else _) _; split; exact h4; exact x4
theorem age_has {s : Span} {u d h y w mx : Int} (hs : hasS s y) (hp : y - chg d h ≤ w ∧ w ≤ y + chg u h) (hw : 0 ≤ w ∧ w ≤ mx) : hasS (ageS s u d h mx) w := by
  unfold hasS at *; unfold ageS; dsimp only; omega
theorem ageC_has {c : Cell} {m : Rates} {h : Int} {y w : Ice} (hc : hasC c y) (hp : pairI m y w h) (hw : rightI w) : hasC (ageC c m h) w :=
  ⟨age_has hc.1 hp.1 hw.1, age_has hc.2.1 hp.2.1 hw.2.1, age_has hc.2.2.1 hp.2.2.1 hw.2.2.1, age_has hc.2.2.2 hp.2.2.2 hw.2.2.2⟩
theorem age_right {s : Span} {u d h mx : Int} (hs : rightS s mx) (hu : 0 ≤ chg u h) (hd : 0 ≤ chg d h) : rightS (ageS s u d h mx) mx := by
  unfold rightS at *; unfold ageS; dsimp only; omega
theorem ageC_right {c : Cell} {m : Rates} {h : Int} (hc : rightC c) (hm : rightR m) (hh : 0 ≤ h ∧ h ≤ 10000) : rightC (ageC c m h) := by
  obtain ⟨⟨u1, u2, u3, u4⟩, d1, d2, d3, d4⟩ := hm
  exact ⟨age_right hc.1 (chg_bd u1 hh).1 (chg_bd d1 hh).1, age_right hc.2.1 (chg_bd u2 hh).1 (chg_bd d2 hh).1, age_right hc.2.2.1 (chg_bd u3 hh).1 (chg_bd d3 hh).1, age_right hc.2.2.2 (chg_bd u4 hh).1 (chg_bd d4 hh).1⟩
/-! ## Cells that have some ice in common -/
theorem meet_has {a b : Cell} {x : Ice} (h1 : hasC a x) (h2 : hasC b x) : hasC (meetC a b) x ∧ okC (meetC a b) := by
  obtain ⟨a1, a2, a3, a4⟩ := h1
  obtain ⟨b1, b2, b3, b4⟩ := h2
  have key : ∀ {s t : Span} {n : Int}, hasS s n → hasS t n → hasS (meetS s t) n ∧ (meetS s t).lo ≤ (meetS s t).hi := by
    intro s t n p q; unfold hasS at *; simp only [meetS]; omega
  exact ⟨⟨(key a1 b1).1, (key a2 b2).1, (key a3 b3).1, (key a4 b4).1⟩, (key a1 b1).2, (key a2 b2).2, (key a3 b3).2, (key a4 b4).2⟩
theorem meet_right {a b : Cell} (h1 : rightC a) (h2 : rightC b) (ho : okC (meetC a b)) : rightC (meetC a b) := by
  obtain ⟨a1, a2, a3, a4⟩ := h1
  obtain ⟨b1, b2, b3, b4⟩ := h2
  obtain ⟨o1, o2, o3, o4⟩ := ho
  have key : ∀ {s t : Span} {n : Int}, rightS s n → rightS t n → (meetS s t).lo ≤ (meetS s t).hi → rightS (meetS s t) n := by
    intro s t n p q o; unfold rightS at *; simp only [meetS] at *; omega
  exact ⟨key a1 b1 o1, key a2 b2 o2, key a3 b3 o3, key a4 b4 o4⟩
theorem whole_has {x : Ice} (h : rightI x) : hasC wholeC x := h
theorem whole_right : rightC wholeC := by unfold rightC rightS wholeC; decide
theorem tog_has {ts : List Cell} {x : Ice} (hx : rightI x) (h : ∀ i, i < ts.length → hasC (ts.getD i zeroC) x ∧ rightC (ts.getD i zeroC)) (s : Nat) : ∀ j, j ≤ ts.length → ∃ c, tog ts s j = some c ∧ hasC c x ∧ rightC c := by
  intro j
  induction j with
  | zero => intro _; exact ⟨wholeC, rfl, whole_has hx, whole_right⟩
  | succ j ih =>
    intro hj
    obtain ⟨c, h1, h2, h3⟩ := ih (by omega)
    obtain ⟨g1, g2⟩ := h j (by omega)
    rw [tog_succ h1]
    split
    · obtain ⟨k1, k2⟩ := meet_has h2 g1
      rw [if_pos k2]
      exact ⟨_, rfl, k1, meet_right h3 g2 k2⟩
    · exact ⟨c, rfl, h2, h3⟩
theorem conf_none {ts : List Cell} (h : ∀ i k, i < ts.length → k < ts.length → okC (meetC (ts.getD i zeroC) (ts.getD k zeroC))) : ∀ n, n ≤ ts.length → conf ts n = [] := by
  intro n
  induction n with
  | zero => intro _; rfl
  | succ n ih =>
    intro hn
    have row : ∀ k, n + 1 + k ≤ ts.length → confRow ts n k = [] := by
      intro k
      induction k with
      | zero => intro _; rfl
      | succ k ihk => intro hk; rw [confRow_a (h n (n + 1 + k) (by omega) (by omega))]; exact ihk (by omega)
    show conf ts n ++ confRow ts n (ts.length - (n + 1)) = []
    rw [ih (by omega), row _ (by omega)]; rfl
def popOk (n : Nat) : Bool := (decide (popc (2 ^ n - 1) = n)) && ((List.range (2 ^ n)).all fun s => decide (popc s ≤ n))
theorem pop_all : (List.range 13).all popOk = true := by kernel_rfl
theorem pop_full {n : Nat} (h : n ≤ 12) : popc (2 ^ n - 1) = n ∧ ∀ s, s < 2 ^ n → popc s ≤ n := by
  have := List.all_eq_true.1 pop_all n (List.mem_range.2 (by omega))
  unfold popOk at this
  rw [Bool.and_eq_true] at this
  exact ⟨of_decide_eq_true this.1, fun s hs => of_decide_eq_true (List.all_eq_true.1 this.2 s (List.mem_range.2 hs))⟩
/-- Where all agree, the first greatest set is that of all. -/
theorem agr_head {ts : List Cell} (hn : ts.length ≤ 12) (h : (togA ts (2 ^ ts.length - 1)).isSome = true) : ∀ j, j + 1 ≤ 2 ^ ts.length → (agr ts (j + 1)).1 = ts.length ∧ ∃ r, (agr ts (j + 1)).2 = (2 ^ ts.length - 1) :: r := by
  obtain ⟨p1, p2⟩ := pop_full hn
  intro j
  induction j with
  | zero =>
    intro _
    rw [agr_c (s := 2 ^ ts.length - 1) rfl (by show ¬ ((_ : Nat) : Int) < -1; omega) h (by show (-1 : Int) < _; omega)]
    exact ⟨by rw [p1], [], rfl⟩
  | succ j ih =>
    intro hj
    obtain ⟨i1, r, i2⟩ := ih (by omega)
    obtain ⟨s, hs⟩ : ∃ s, 2 ^ ts.length - 1 - (j + 1) = s := ⟨_, rfl⟩
    have hp := p2 s (by omega)
    rcases Classical.em ((popc s : Int) < (agr ts (j + 1)).1) with h1 | h1
    · rw [agr_a hs h1]; exact ⟨i1, r, i2⟩
    · cases h2 : (togA ts s).isSome with
      | false => rw [agr_b hs h1 h2]; exact ⟨i1, r, i2⟩
      | true => rw [agr_d hs h1 h2 (by rw [i1]; omega)]; exact ⟨i1, r ++ [s], by rw [i2]; rfl⟩
theorem trust_full {ts : List Cell} (hn : ts.length ≤ 12) (h : (togA ts (2 ^ ts.length - 1)).isSome = true) : trustS ts = 2 ^ ts.length - 1 := by
  have h1 : 1 ≤ 2 ^ ts.length := Nat.one_le_two_pow
  obtain ⟨_, r, h2⟩ := agr_head hn h (2 ^ ts.length - 1) (by omega)
  rw [show 2 ^ ts.length - 1 + 1 = 2 ^ ts.length by omega] at h2
  unfold trustS agrA
  rw [h2]; rfl
theorem inSet_full {n i : Nat} (h : i < n) : inSet n (2 ^ n - 1) i = true := by
  unfold inSet
  rw [Nat.testBit_two_pow_sub_one]
  exact decide_eq_true (by omega)
end
end Go.Proofs.Ythcjliffpebjaaa
/- Ice: IceHolds: functions of courses. No condition. -/
namespace Go.Proofs.Ythcjliffpebjaaa
open Go Go.K
set_option maxRecDepth 100000
set_option linter.unusedVariables false
set_option linter.unusedSimpArgs false
noncomputable section
attribute [local irreducible] vF hasK popc
theorem kmoved (x up down by_ most : Int) (hx : 0 ≤ x ∧ x ≤ 1000) (hu : 0 ≤ up ∧ up ≤ 1000) (hd : 0 ≤ down ∧ down ≤ 1000) (H : Heap) : KCall prog F.polynyalaw01_moved [.int .i64 x, .int .i64 up, .int .i64 down, .int .i64 by_, .int .i64 most] H [] (Is (.int .i64 (movedF x up down by_ most)) H) := by
  refine valK 40 (fun _ => rfl) rfl (Eq.mpr (Emoved _ x up down by_ most) ?_) H
  unfold Rmoved
  have h1 := Int.emod_nonneg by_ (show up + down + 1 ≠ 0 by omega)
  have h2 := Int.emod_lt_of_pos by_ (show 0 < up + down + 1 by omega)
  repeat' first
    | refine ⟨_, trivial, fun H' _ _ => kPick _ _ (by omega) (by omega) H', ?_⟩
    | exact trivial
    | exact rfl
    | exact wk_refl _
    | refine wkO_cells ?_
    | refine wks_cons ?_ ?_
    | exact wks_nil
    | exact wk_nil _ _ _ (.inl rfl)
    | exact wk_Q (by omega)
    | refine wk_tupL ?_
    | refine wk_aggL ?_
    | refine joinMax ?_ ?_ ?_
    | refine joinMin ?_ ?_ ?_
    | refine toMax ?_
    | refine toMin ?_
    | refine ⟨rfl, ?_⟩
    | refine ⟨trivial, ?_⟩
    | refine forkD (fun h => ?_) (fun h => ?_)
    | refine forkNe (fun h => ?_) (fun h => ?_)
    | refine forkEq (fun h => ?_) (fun h => ?_)
    | refine forkNot ?_
    | refine ⟨vI64 (by omega), ?_⟩
    | refine And.intro (by omega) ?_
    | apply And.intro
    | exact iEq (by omega)
    | exact vI64 (by omega)
    | exact iEq (by unfold movedF; rfl)
    | fail
  all_goals exact iEq (by unfold movedF; rw [← ite_max, ← ite_min])
theorem kranged (a b c d : Int) (H : Heap) : KCall prog F.polynyalaw01_ranged [.int .i64 a, .int .i64 b, .int .i64 c, .int .i64 d] H [] (Is (iceV (rangedI a b c d)) H) := by
  refine valK 40 (fun _ => rfl) rfl (Eq.mpr (Eranged _ a b c d) ?_) H
  unfold Rranged
  repeat' first
    | refine ⟨_, trivial, fun H' _ _ => kPick _ _ (by omega) (by omega) H', ?_⟩
    | exact trivial
    | exact rfl
    | exact wk_refl _
    | refine wkO_cells ?_
    | refine wks_cons ?_ ?_
    | exact wks_nil
    | exact wk_nil _ _ _ (.inl rfl)
    | exact wk_Q (by omega)
    | refine wk_tupL ?_
    | refine wk_aggL ?_
    | refine joinMax ?_ ?_ ?_
    | refine joinMin ?_ ?_ ?_
    | refine toMax ?_
    | refine toMin ?_
    | refine ⟨rfl, ?_⟩
    | refine ⟨trivial, ?_⟩
    | refine forkD (fun h => ?_) (fun h => ?_)
    | refine forkNe (fun h => ?_) (fun h => ?_)
    | refine forkEq (fun h => ?_) (fun h => ?_)
    | refine forkNot ?_
    | refine ⟨vI64 (by omega), ?_⟩
    | refine And.intro (by omega) ?_
    | apply And.intro
    | exact iEq (by omega)
    | exact vI64 (by omega)
    | fail
theorem rangedI_right (a b c d : Int) : rightI (rangedI a b c d) := by unfold rightI rangedI; dsimp only; omega
theorem karound (x : Ice) (low high : Int) (hx : rightI x) (H : Heap) : KCall prog F.polynyalaw01_around [iceV x, .int .i64 low, .int .i64 high] H [] (Is (cellV (arC x low high)) H) := by
  refine valK 40 (fun _ => rfl) rfl (Eq.mpr (Earound _ x low high) ?_) H
  unfold Raround
  obtain ⟨h1, h2, h3, h4⟩ := hx
  have g1 := Int.emod_nonneg low (show (30 : Int) ≠ 0 by decide)
  have g2 := Int.emod_lt_of_pos low (show (0 : Int) < 30 by decide)
  have g3 := Int.emod_nonneg high (show (30 : Int) ≠ 0 by decide)
  have g4 := Int.emod_lt_of_pos high (show (0 : Int) < 30 by decide)
  repeat' first
    | refine ⟨_, trivial, fun H' _ _ => kPick _ _ (by omega) (by omega) H', ?_⟩
    | exact trivial
    | exact rfl
    | exact wk_refl _
    | refine wkO_cells ?_
    | refine wks_cons ?_ ?_
    | exact wks_nil
    | exact wk_nil _ _ _ (.inl rfl)
    | exact wk_Q (by omega)
    | refine wk_tupL ?_
    | refine wk_aggL ?_
    | refine joinMax ?_ ?_ ?_
    | refine joinMin ?_ ?_ ?_
    | refine toMax ?_
    | refine toMin ?_
    | refine ⟨rfl, ?_⟩
    | refine ⟨trivial, ?_⟩
    | refine forkD (fun h => ?_) (fun h => ?_)
    | refine forkNe (fun h => ?_) (fun h => ?_)
    | refine forkEq (fun h => ?_) (fun h => ?_)
    | refine forkNot ?_
    | refine ⟨vI64 (by omega), ?_⟩
    | refine And.intro (by omega) ?_
    | apply And.intro
    | exact iEq (by omega)
    | exact vI64 (by omega)
    | fail
theorem intC_len (x : Int) : (intC x).length = 1 := rfl
theorem plainZ (n : Nat) (l : List Int) : (l.flatMap intC).all (belowC n) = true := plain_flat (fun _ => rfl) l
theorem plainI2 (n : Nat) (l : List Ice) : (l.flatMap iceC).all (belowC n) = true := plain_flat (fun _ => rfl) l
theorem cell_int {xs : List Int} {k : Nat} (h : k < xs.length) : (xs.flatMap intC)[0 + k * 1]? = some (.int .i64 (xs.getD k 0)) :=
  cell_at (n := 1) (f := intC) (d := 0) (c := 0) intC_len h (by omega) rfl
theorem partIceK {xs : List Ice} {k : Nat} (h : k < xs.length) : partA 4 (List.flatMap iceC xs) (0 + k * 4) = some (.agg ⟨iceC (List.getD xs k zeroI)⟩) :=
  part_at (f := iceC) (d := zeroI) (c := 0) (m := 4) iceC_len h (by omega) (by decide)
theorem crsL_succ (m : Rates) (x : Ice) (ns : List Int) (t : Nat) : crsL m x ns (t + 1) = crsL m x ns t ++ [crs m x ns t] := tabP_succ ..
theorem td_in {b n : Int} (hb : inI b) (hn : 2 ≤ n) : -9223372036854775808 ≤ Int.tdiv b n ∧ Int.tdiv b n ≤ 9223372036854775807 := by
  unfold inI at hb
  rcases Int.le_total 0 b with h | h
  · rw [Int.tdiv_eq_ediv_of_nonneg h]
    have h1 := Int.ediv_nonneg h (show 0 ≤ n by omega)
    have h2 := Int.ediv_le_self n h
    omega
  · have e : Int.tdiv b n = -(Int.tdiv (-b) n) := by rw [Int.neg_tdiv]; omega
    rw [e, Int.tdiv_eq_ediv_of_nonneg (by omega)]
    have h1 := Int.ediv_nonneg (a := -b) (b := n) (by omega) (by omega)
    have h2 := Int.ediv_le_self (a := -b) n (by omega)
    omega
theorem getD_in {ns : List Int} (h : ∀ x ∈ ns, inI x) (k : Nat) : inI (ns.getD k 0) := by
  rw [List.getD_eq_getElem?_getD]
  cases hk : ns[k]? with
  | none => unfold inI; decide
  | some v => exact h v (List.mem_of_getElem? hk)
theorem kCourse (m : Rates) (x : Ice) (ns : List Int) (hm : rightR m) (hx : rightI x) (hv : ∀ y ∈ ns, inI y) (hn : ns.length ≤ 9223372036854775807) {H : Heap} {L : Nat} (hL : H.length = L) {id : Nat} {own : Bool} {z : Nat} (hid : H[id]? = some (.cells own z (ns.flatMap intC))) :
    KCall prog F.polynyalaw01_Course [ratesV m, iceV x, .slice (some ⟨id, 0, some 2⟩) ns.length ns.length, .int .i64 80] H []
      (Is (.slice (some ⟨L, 0, some 1⟩) (crsL m x ns 81).length (crsL m x ns 81).length) (H ++ [.cells true 4 ((crsL m x ns 81).flatMap iceC)])) := by
  subst hL
  have hr := crs_right ns hm hx
  obtain ⟨⟨u1, u2, u3, u4⟩, d1, d2, d3, d4⟩ := hm
  have a1 := td_nn u1.1; have a2 := td_nn u2.1; have a3 := td_nn u3.1; have a4 := td_nn u4.1
  have b1 := td_nn d1.1; have b2 := td_nn d2.1; have b3 := td_nn d3.1; have b4 := td_nn d4.1
  refine valL (css := [ns.flatMap intC]) (Eq.mpr (ECourse m x ns) ?_) (plainI2 0 _) (one_cs (plainZ 0 ns)) [id] rfl (one_id hid)
  unfold RCourse
  repeat' first
    | refine ⟨rfl, Nat.zero_le _, ?_, fun _ => rfl, ?_⟩
    | exact plainI2 _ _
    | exact trivial
    | exact rfl
    | exact wk_refl _
    | refine wkO_cells ?_
    | refine wks_cons ?_ ?_
    | exact wks_nil
    | exact wk_nil _ _ _ (.inl rfl)
    | exact wk_Q (by omega)
    | refine wk_tupL ?_
    | refine wk_aggL ?_
    | refine joinMax ?_ ?_ ?_
    | refine joinMin ?_ ?_ ?_
    | refine toMax ?_
    | refine toMin ?_
    | refine ⟨rfl, ?_⟩
    | refine ⟨trivial, ?_⟩
    | refine forkD (fun h => ?_) (fun h => ?_)
    | refine forkNe (fun h => ?_) (fun h => ?_)
    | refine forkEq (fun h => ?_) (fun h => ?_)
    | refine forkNot ?_
    | refine ⟨vI64 (by omega), ?_⟩
    | refine And.intro (by omega) ?_
    | apply And.intro
    | exact iEq (by omega)
    | exact vI64 (by omega)
    | fail
  intro t ht
  have e0 : (crsL m x ns (t + 1)).getD (Int.toNat (((t + 1 : Nat) : Int) - 1)) zeroI = crs m x ns t := by
    rw [show Int.toNat (((t + 1 : Nat) : Int) - 1) = t by omega]; exact crsL_get (by omega)
  obtain ⟨r1, r2, r3, r4⟩ := hr t
  refine forkD (fun h => ?_) (fun h => ?_)
  · refine forkD (fun h0 => ?_) (fun h0 => ?_)
    · have hpos : 0 < ns.length := by omega
      have hlt := Nat.mod_lt (t + 1) hpos
      have em : Int.tmod (((t + 1 : Nat)) : Int) ((ns.length : Nat) : Int) = ((((t + 1) % ns.length : Nat)) : Int) := (Int.ofNat_tmod (t + 1) ns.length).symm
      have hb : numAt ns (t + 1) = ns.getD (Int.toNat ((((t + 1) % ns.length : Nat)) : Int)) 0 := by unfold numAt; rw [if_pos hpos, Int.toNat_natCast]
      refine ⟨by omega, _, iEq em, by omega, cell_int (by rw [Int.toNat_natCast]; exact hlt), ?_⟩
      repeat' first
        | refine And.intro (by omega) ?_
        | refine ⟨partIceK (by rw [crsL_len]; omega), ?_⟩
        | refine ⟨vI64 (by omega), ?_⟩
        | refine ⟨vI64 (td_in (getD_in hv _) (by decide)), ?_⟩
        | refine ⟨_, iEq (congrArg Ice.conc e0), ?_⟩
        | refine ⟨_, iEq (congrArg Ice.thick e0), ?_⟩
        | refine ⟨_, iEq (congrArg Ice.ridge e0), ?_⟩
        | refine ⟨_, iEq (congrArg Ice.press e0), ?_⟩
        | refine ⟨_, trivial, fun H' _ _ => kmoved _ _ _ _ _ (by omega) (by omega) (by omega) H', ?_⟩
        | refine ⟨⟨by omega, by decide, ⟨Nat.le_refl _, by rw [flat_len iceC_len, crsL_len]; omega⟩, ⟨by decide, Nat.le_refl _⟩, rfl⟩, rfl, ?_⟩
        | refine ⟨t + 1, by omega, by omega, ?_⟩
        | fail
      rw [crsL_succ m x ns (t + 1), show crs m x ns (t + 1) = stepI m (ns.getD (Int.toNat ((((t + 1) % ns.length : Nat)) : Int)) 0) (crs m x ns t) from by show stepI m (numAt ns (t + 1)) _ = _; rw [hb]]
      repeat' first
        | exact plainI2 _ _
        | exact congrArg (fun l => some (KObj.cells true 4 l)) (flat_snoc iceC_len (crsL m x ns (t + 1)) (stepI m (ns.getD (Int.toNat ((((t + 1) % ns.length : Nat)) : Int)) 0) (crs m x ns t)) (crsL_len ..).symm)
        | exact trivial
        | exact rfl
        | exact wk_refl _
        | refine wkO_cells ?_
        | refine wks_cons ?_ ?_
        | exact wks_nil
        | exact wk_nil _ _ _ (.inl rfl)
        | exact wk_Q (by omega)
        | refine wk_tupL ?_
        | refine wk_aggL ?_
        | refine joinMax ?_ ?_ ?_
        | refine joinMin ?_ ?_ ?_
        | refine toMax ?_
        | refine toMin ?_
        | refine ⟨rfl, ?_⟩
        | refine ⟨trivial, ?_⟩
        | refine forkD (fun h => ?_) (fun h => ?_)
        | refine forkNe (fun h => ?_) (fun h => ?_)
        | refine forkEq (fun h => ?_) (fun h => ?_)
        | refine forkNot ?_
        | refine ⟨vI64 (by omega), ?_⟩
        | refine And.intro (by omega) ?_
        | apply And.intro
        | exact iEq (by omega)
        | exact vI64 (by omega)
        | fail
    · have hb : numAt ns (t + 1) = 0 := by unfold numAt; rw [if_neg (by omega)]
      have h00 : inI 0 := by unfold inI; decide
      repeat' first
        | refine And.intro (by omega) ?_
        | refine ⟨partIceK (by rw [crsL_len]; omega), ?_⟩
        | refine ⟨vI64 (by omega), ?_⟩
        | refine ⟨vI64 (td_in h00 (by decide)), ?_⟩
        | refine ⟨_, iEq (congrArg Ice.conc e0), ?_⟩
        | refine ⟨_, iEq (congrArg Ice.thick e0), ?_⟩
        | refine ⟨_, iEq (congrArg Ice.ridge e0), ?_⟩
        | refine ⟨_, iEq (congrArg Ice.press e0), ?_⟩
        | refine ⟨_, trivial, fun H' _ _ => kmoved _ _ _ _ _ (by omega) (by omega) (by omega) H', ?_⟩
        | refine ⟨⟨by omega, by decide, ⟨Nat.le_refl _, by rw [flat_len iceC_len, crsL_len]; omega⟩, ⟨by decide, Nat.le_refl _⟩, rfl⟩, rfl, ?_⟩
        | refine ⟨t + 1, by omega, by omega, ?_⟩
        | fail
      rw [crsL_succ m x ns (t + 1), show crs m x ns (t + 1) = stepI m 0 (crs m x ns t) from by show stepI m (numAt ns (t + 1)) _ = _; rw [hb]]
      repeat' first
        | exact plainI2 _ _
        | exact congrArg (fun l => some (KObj.cells true 4 l)) (flat_snoc iceC_len (crsL m x ns (t + 1)) (stepI m 0 (crs m x ns t)) (crsL_len ..).symm)
        | exact trivial
        | exact rfl
        | exact wk_refl _
        | refine wkO_cells ?_
        | refine wks_cons ?_ ?_
        | exact wks_nil
        | exact wk_nil _ _ _ (.inl rfl)
        | exact wk_Q (by omega)
        | refine wk_tupL ?_
        | refine wk_aggL ?_
        | refine joinMax ?_ ?_ ?_
        | refine joinMin ?_ ?_ ?_
        | refine toMax ?_
        | refine toMin ?_
        | refine ⟨rfl, ?_⟩
        | refine ⟨trivial, ?_⟩
        | refine forkD (fun h => ?_) (fun h => ?_)
        | refine forkNe (fun h => ?_) (fun h => ?_)
        | refine forkEq (fun h => ?_) (fun h => ?_)
        | refine forkNot ?_
        | refine ⟨vI64 (by omega), ?_⟩
        | refine And.intro (by omega) ?_
        | apply And.intro
        | exact iEq (by omega)
        | exact vI64 (by omega)
        | fail
  · obtain rfl : t = 80 := by omega
    repeat' first
      | exact plainI2 _ _
      | exact trivial
      | exact rfl
      | exact wk_refl _
      | refine wkO_cells ?_
      | refine wks_cons ?_ ?_
      | exact wks_nil
      | exact wk_nil _ _ _ (.inl rfl)
      | exact wk_Q (by omega)
      | refine wk_tupL ?_
      | refine wk_aggL ?_
      | refine joinMax ?_ ?_ ?_
      | refine joinMin ?_ ?_ ?_
      | refine toMax ?_
      | refine toMin ?_
      | refine ⟨rfl, ?_⟩
      | refine ⟨trivial, ?_⟩
      | refine forkD (fun h => ?_) (fun h => ?_)
      | refine forkNe (fun h => ?_) (fun h => ?_)
      | refine forkEq (fun h => ?_) (fun h => ?_)
      | refine forkNot ?_
      | refine ⟨vI64 (by omega), ?_⟩
      | refine And.intro (by omega) ?_
      | apply And.intro
      | exact iEq (by omega)
      | exact vI64 (by omega)
      | fail
end
end Go.Proofs.Ythcjliffpebjaaa
/- Ice: lists of numbers by value: compared, looked through. No condition. -/
namespace Go.Proofs.Ythcjliffpebjaaa
open Go Go.K
set_option maxRecDepth 100000
set_option linter.unusedVariables false
set_option linter.unusedSimpArgs false
noncomputable section
attribute [local irreducible] vF
abbrev dI (l : List Int) : Value := .iface (l.length + 1) (.agg ⟨l.flatMap intC⟩)
theorem plainL (n : Nat) : ∀ l : List Int, (l.flatMap intC).all (belowL n) = true
  | [] => rfl
  | x :: l => by rw [List.flatMap_cons, List.all_append, plainL n l]; rfl
theorem dI_below (l : List Int) : belowC 0 (dI l) = true := by
  show (l.flatMap intC).all (belowD 0) = true
  rw [List.all_eq_true]
  intro v hv
  obtain ⟨x, _, hx⟩ := List.mem_flatMap.1 hv
  rw [List.mem_singleton] at hx; subst hx; rfl
theorem dI_rn (σ : Nat → Option Nat) (d : Nat) (l : List Int) : rn σ (d + 3) (dI l) = dI l := (rnC (dI_below l)).1
def cmpI (a b : Int) : Int := if a < b then -1 else if b < a then 1 else 0
def cmpL : List Int → List Int → Int
  | [], [] => 0
  | [], _ :: _ => -1
  | _ :: _, [] => 1
  | a :: l, b :: m => if cmpI a b ≠ 0 then cmpI a b else cmpL l m
theorem kcmp_int (a b : Int) (H : Heap) : KCall prog 87 [.int .i64 a, .int .i64 b] H [] (Is (.int .i64 (cmpI a b)) H) := by
  refine valK 40 (fun _ => rfl) rfl (Eq.mpr (Ecmp _ a b) ?_) H
  unfold Rcmp cmpI
  refine ⟨fun h => absurd h (by simp), fun _ => ⟨fun h => absurd h (by simp), fun _ => ⟨fun h => ?_, fun h => ⟨fun k => ?_, fun k => ?_⟩⟩⟩⟩
  · have h := of_decide_eq_true h; rw [if_pos h]
  · have h := of_decide_eq_false h; have k := of_decide_eq_true k; rw [if_neg h, if_pos k]
  · have h := of_decide_eq_false h; have k := of_decide_eq_false k; rw [if_neg h, if_neg k]
theorem cmpL_drop : ∀ (x : Nat) (a b : List Int), x ≤ a.length → x ≤ b.length → a.take x = b.take x → cmpL a b = cmpL (a.drop x) (b.drop x)
  | 0, _, _, _, _, _ => rfl
  | x + 1, [], _, h, _, _ => by simp at h
  | x + 1, _ :: _, [], _, h, _ => by simp at h
  | x + 1, a :: l, b :: m, h1, h2, h3 => by
    simp only [List.take_succ_cons, List.cons.injEq] at h3
    obtain ⟨rfl, h3⟩ := h3
    have e : cmpI a a = 0 := by unfold cmpI; rw [if_neg (by omega), if_neg (by omega)]
    show (if cmpI a a ≠ 0 then cmpI a a else cmpL l m) = _
    rw [if_neg (by omega)]
    exact cmpL_drop x l m (by simpa using h1) (by simpa using h2) h3
theorem cell_int0 {xs : List Int} {k : Nat} (h : k < xs.length) : (xs.flatMap intC)[Int.toNat ((k : Nat) : Int) * 1]? = some (.int .i64 (xs.getD k 0)) := by
  have := cell_int h; rw [Nat.zero_add] at this; rw [Int.toNat_natCast]; exact this
theorem kCompare (a b : List Int) (ha : a.length ≤ 4294967296) (hb : b.length ≤ 4294967296) (H : Heap) : KCall prog 66 [dI a, dI b] H [] (Is (.int .i64 (cmpL a b)) H) := by
  refine valK 40 (fun σ => by rw [List.map_cons, List.map_cons, List.map_nil, dI_rn σ 2, dI_rn σ 2]) rfl (Eq.mpr (ECompare _ a b) ?_) H
  unfold RCompare
  repeat' first
    | refine ⟨rfl, ⟨Nat.zero_le _, Nat.zero_le _, rfl⟩, ?_, fun _ => rfl, ?_⟩
    | exact (dI_rn _ 0 _).symm
    | exact trivial
    | exact rfl
    | exact wk_refl _
    | refine wkO_cells ?_
    | refine wks_cons ?_ ?_
    | exact wks_nil
    | exact wk_nil _ _ _ (.inl rfl)
    | exact wk_Q (by omega)
    | refine wk_tupL ?_
    | refine wk_aggL ?_
    | refine joinMax ?_ ?_ ?_
    | refine joinMin ?_ ?_ ?_
    | refine toMax ?_
    | refine toMin ?_
    | refine ⟨rfl, ?_⟩
    | refine ⟨trivial, ?_⟩
    | refine forkD (fun h => ?_) (fun h => ?_)
    | refine forkNe (fun h => ?_) (fun h => ?_)
    | refine forkEq (fun h => ?_) (fun h => ?_)
    | refine forkNot ?_
    | refine ⟨vI64 (by omega), ?_⟩
    | refine And.intro (by omega) ?_
    | apply And.intro
    | exact iEq (by omega)
    | exact vI64 (by omega)
    | fail
  rintro x ⟨h1, h2, h3⟩
  have hd := cmpL_drop x a b h1 h2 h3
  refine forkD (fun h => ?_) (fun h => ?_)
  · have hx : x < a.length := by omega
    have ea : a.drop x = a.getD x 0 :: a.drop (x + 1) := by rw [List.drop_eq_getElem_cons hx, List.getD_eq_getElem?_getD, List.getElem?_eq_getElem hx]; rfl
    refine ⟨⟨by omega, by omega⟩, cell_int0 hx, forkD (fun k => ?_) (fun k => ?_)⟩
    · have eb : b.drop x = [] := List.drop_eq_nil_of_le (by omega)
      exact iEq (by rw [hd, ea, eb]; rfl)
    · have hy : x < b.length := by omega
      have eb : b.drop x = b.getD x 0 :: b.drop (x + 1) := by rw [List.drop_eq_getElem_cons hy, List.getD_eq_getElem?_getD, List.getElem?_eq_getElem hy]; rfl
      have hd2 : cmpL a b = if cmpI (a.getD x 0) (b.getD x 0) ≠ 0 then cmpI (a.getD x 0) (b.getD x 0) else cmpL (a.drop (x + 1)) (b.drop (x + 1)) := by rw [hd, ea, eb]; rfl
      refine ⟨⟨by omega, by omega⟩, cell_int0 hy, _, trivial, fun H' _ _ => kcmp_int _ _ H', forkNe (fun q => ?_) (fun q => ?_)⟩
      · exact iEq (by rw [hd2, if_pos q])
      · have exy : a.getD x 0 = b.getD x 0 := by
          unfold cmpI at q
          split at q
          · omega
          · split at q <;> omega
        refine ⟨vI64 (by omega), x + 1, ⟨by omega, by omega, ?_⟩, by omega, rfl, ?_⟩
        · rw [List.take_add_one, List.take_add_one, h3]
          rw [List.getD_eq_getElem?_getD, List.getElem?_eq_getElem hx, List.getD_eq_getElem?_getD, List.getElem?_eq_getElem hy] at exy
          rw [List.getElem?_eq_getElem hx, List.getElem?_eq_getElem hy]
          exact congrArg (fun z => List.take x b ++ [z]) exy
        · repeat' first
            | exact (dI_rn _ 0 _).symm
            | exact trivial
            | exact rfl
            | exact wk_refl _
            | refine wkO_cells ?_
            | refine wks_cons ?_ ?_
            | exact wks_nil
            | exact wk_nil _ _ _ (.inl rfl)
            | exact wk_Q (by omega)
            | refine wk_tupL ?_
            | refine wk_aggL ?_
            | refine joinMax ?_ ?_ ?_
            | refine joinMin ?_ ?_ ?_
            | refine toMax ?_
            | refine toMin ?_
            | refine ⟨rfl, ?_⟩
            | refine ⟨trivial, ?_⟩
            | refine forkD (fun h => ?_) (fun h => ?_)
            | refine forkNe (fun h => ?_) (fun h => ?_)
            | refine forkEq (fun h => ?_) (fun h => ?_)
            | refine forkNot ?_
            | refine ⟨vI64 (by omega), ?_⟩
            | refine And.intro (by omega) ?_
            | apply And.intro
            | exact iEq (by omega)
            | exact vI64 (by omega)
            | fail
  · obtain rfl : x = a.length := by omega
    have ea : a.drop a.length = [] := List.drop_length
    refine forkD (fun k => ?_) (fun k => ?_)
    · have hy : a.length < b.length := by omega
      exact iEq (by rw [hd, ea, List.drop_eq_getElem_cons hy]; rfl)
    · have eb : b.drop a.length = [] := List.drop_eq_nil_of_le (by omega)
      exact iEq (by rw [hd, ea, eb]; rfl)
theorem mem_take_succ {a : List Int} {x : Nat} (hx : x < a.length) (i : Int) : i ∈ a.take (x + 1) ↔ i ∈ a.take x ∨ i = a.getD x 0 := by
  rw [List.take_add_one, List.getElem?_eq_getElem hx, List.mem_append, List.getD_eq_getElem?_getD, List.getElem?_eq_getElem hx]
  simp
theorem kContains (a : List Int) (i : Int) (ha : a.length ≤ 4294967296) (H : Heap) : KCall prog 42 [dI a, .int .i64 i] H [] (Is (.bool (decide (i ∈ a))) H) := by
  refine valK 40 (fun σ => by rw [List.map_cons, List.map_cons, List.map_nil, dI_rn σ 2]; rfl) rfl (Eq.mpr (EContains _ a i) ?_) H
  unfold RContains
  repeat' first
    | refine ⟨rfl, ⟨Nat.zero_le _, by simp⟩, ?_, fun _ => rfl, ?_⟩
    | exact (dI_rn _ 0 _).symm
    | exact trivial
    | exact rfl
    | exact wk_refl _
    | refine wkO_cells ?_
    | refine wks_cons ?_ ?_
    | exact wks_nil
    | exact wk_nil _ _ _ (.inl rfl)
    | exact wk_Q (by omega)
    | refine wk_tupL ?_
    | refine wk_aggL ?_
    | refine joinMax ?_ ?_ ?_
    | refine joinMin ?_ ?_ ?_
    | refine toMax ?_
    | refine toMin ?_
    | refine ⟨rfl, ?_⟩
    | refine ⟨trivial, ?_⟩
    | refine forkD (fun h => ?_) (fun h => ?_)
    | refine forkNe (fun h => ?_) (fun h => ?_)
    | refine forkEq (fun h => ?_) (fun h => ?_)
    | refine forkNot ?_
    | refine ⟨vI64 (by omega), ?_⟩
    | refine And.intro (by omega) ?_
    | apply And.intro
    | exact iEq (by omega)
    | exact vI64 (by omega)
    | fail
  rintro x ⟨h1, h2⟩
  refine forkD (fun h => ?_) (fun h => ?_)
  · have hx : x < a.length := by omega
    refine ⟨⟨by omega, by omega⟩, cell_int0 hx, forkEq (fun k => ?_) (fun k => ?_)⟩
    · have hm : i ∈ a := List.mem_of_mem_take ((mem_take_succ hx i).2 (.inr k))
      rw [decide_eq_true hm]
      exact congrArg Value.bool (decide_eq_true (by omega))
    · refine ⟨vI64 (by omega), x + 1, ⟨by omega, fun hm => ?_⟩, by omega, rfl, ?_⟩
      · rcases (mem_take_succ hx i).1 hm with g | g
        · exact h2 g
        · exact k g
      · repeat' first
          | exact (dI_rn _ 0 _).symm
          | exact trivial
          | exact rfl
          | exact wk_refl _
          | refine wkO_cells ?_
          | refine wks_cons ?_ ?_
          | exact wks_nil
          | exact wk_nil _ _ _ (.inl rfl)
          | exact wk_Q (by omega)
          | refine wk_tupL ?_
          | refine wk_aggL ?_
          | refine joinMax ?_ ?_ ?_
          | refine joinMin ?_ ?_ ?_
          | refine toMax ?_
          | refine toMin ?_
          | refine ⟨rfl, ?_⟩
          | refine ⟨trivial, ?_⟩
          | refine forkD (fun h => ?_) (fun h => ?_)
          | refine forkNe (fun h => ?_) (fun h => ?_)
          | refine forkEq (fun h => ?_) (fun h => ?_)
          | refine forkNot ?_
          | refine ⟨vI64 (by omega), ?_⟩
          | refine And.intro (by omega) ?_
          | apply And.intro
          | exact iEq (by omega)
          | exact vI64 (by omega)
          | fail
  · obtain rfl : x = a.length := by omega
    rw [List.take_length] at h2
    rw [decide_eq_false h2]
end
end Go.Proofs.Ythcjliffpebjaaa
/- The library's sort, laid at this program (written by the kit's own tool). No condition. -/
namespace Go.Proofs.Ythcjliffpebjaaa
set_option linter.unusedSimpArgs false
set_option linter.unusedVariables false
open Go Go.Shelf
def sortL_ren : Go.Shelf.Ren := ⟨fun | 6 => 65 | 15 => 86 | 14 => 85 | 28 => 99 | 29 => 100 | 20 => 91 | 21 => 92 | 22 => 93 | 23 => 94 | 24 => 95 | 25 => 96 | 26 => 97 | 27 => 98 | 46 => 102 | 47 => 103 | 48 => 104 | 49 => 105 | 50 => 106 | 57 => 107 | n => n, fun | 22 => 36 | 24 => 49 | 25 => 127 | 3 => 3 | 39 => 136 | 0 => 0 | 53 => 139 | 55 => 141 | 4 => 4 | 46 => 144 | 45 => 143 | 50 => 148 | 5 => 5 | 9 => 9 | 66 => 150 | 70 => 154 | 76 => 156 | 77 => 157 | n => n, fun | n => n⟩
theorem sortL : Go.Proofs.SlLaysF.n6 Try.prog sortL_ren := {
  mixed := by kernel_rfl
  f6 := ⟨Try.f65.name, by decide, Try.func65.trans (congrArg some (by kernel_rfl))⟩
  f14 := ⟨Try.f85.name, by decide, Try.func85.trans (congrArg some (by kernel_rfl))⟩
  f15 := Try.func86.trans (congrArg some (by kernel_rfl))
  f20 := ⟨Try.f91.name, by decide, Try.func91.trans (congrArg some (by kernel_rfl))⟩
  f21 := ⟨Try.f92.name, by decide, Try.func92.trans (congrArg some (by kernel_rfl))⟩
  f22 := ⟨Try.f93.name, by decide, Try.func93.trans (congrArg some (by kernel_rfl))⟩
  f23 := ⟨Try.f94.name, by decide, Try.func94.trans (congrArg some (by kernel_rfl))⟩
  f24 := ⟨Try.f95.name, by decide, Try.func95.trans (congrArg some (by kernel_rfl))⟩
  f25 := ⟨Try.f96.name, by decide, Try.func96.trans (congrArg some (by kernel_rfl))⟩
  f26 := ⟨Try.f97.name, by decide, Try.func97.trans (congrArg some (by kernel_rfl))⟩
  f27 := ⟨Try.f98.name, by decide, Try.func98.trans (congrArg some (by kernel_rfl))⟩
  f28 := Try.func99.trans (congrArg some (by kernel_rfl))
  f29 := Try.func100.trans (congrArg some (by kernel_rfl))
  f46 := ⟨Try.f102.name, by decide, Try.func102.trans (congrArg some (by kernel_rfl))⟩
  f47 := Try.func103.trans (congrArg some (by kernel_rfl))
  f48 := Try.func104.trans (congrArg some (by kernel_rfl))
  f49 := ⟨Try.f105.name, by decide, Try.func105.trans (congrArg some (by kernel_rfl))⟩
  f50 := ⟨Try.f106.name, by decide, Try.func106.trans (congrArg some (by kernel_rfl))⟩
  f57 := ⟨Try.f107.name, by decide, Try.func107.trans (congrArg some (by kernel_rfl))⟩
  t0 := Try.underlying0
  a0 := Try.isAgg0
  z0 := Try.sizeOf0
  v0 := Try.zeroValue0
  t3 := Try.underlying3
  a3 := Try.isAgg3
  z3 := Try.sizeOf3
  v3 := Try.zeroValue3
  t4 := Try.underlying4
  a4 := Try.isAgg4
  z4 := Try.sizeOf4
  v4 := Try.zeroValue4
  t5 := Try.underlying5
  a5 := Try.isAgg5
  z5 := Try.sizeOf5
  v5 := Try.zeroValue5
  t9 := Try.underlying9
  a9 := Try.isAgg9
  z9 := Try.sizeOf9
  v9 := Try.zeroValue9
  t22 := Try.underlying36
  a22 := Try.isAgg36
  z22 := Try.sizeOf36
  v22 := Try.zeroValue36
  a24 := Try.isAgg49
  z24 := Try.sizeOf49
  t25 := Try.underlying127
  a25 := Try.isAgg127
  z25 := Try.sizeOf127
  v25 := Try.zeroValue127
  t39 := Try.underlying136
  a39 := Try.isAgg136
  z39 := Try.sizeOf136
  v39 := Try.zeroValue136
  t45 := Try.underlying143
  a45 := Try.isAgg143
  z45 := Try.sizeOf143
  v45 := Try.zeroValue143
  t46 := Try.underlying144
  a46 := Try.isAgg144
  z46 := Try.sizeOf144
  v46 := Try.zeroValue144
  t50 := Try.underlying148
  a50 := Try.isAgg148
  z50 := Try.sizeOf148
  v50 := Try.zeroValue148
  t53 := Try.underlying139
  a53 := Try.isAgg139
  z53 := Try.sizeOf139
  v53 := Try.zeroValue139
  t55 := Try.underlying141
  a55 := Try.isAgg141
  z55 := Try.sizeOf141
  v55 := Try.zeroValue141
  t66 := Try.underlying150
  a66 := Try.isAgg150
  z66 := Try.sizeOf150
  v66 := Try.zeroValue150
  t70 := Try.underlying154
  a70 := Try.isAgg154
  z70 := Try.sizeOf154
  v70 := Try.zeroValue154
  t76 := Try.underlying156
  a76 := Try.isAgg156
  z76 := Try.sizeOf156
  v76 := Try.zeroValue156
  t77 := Try.underlying157
  a77 := Try.isAgg157
  z77 := Try.sizeOf157
  v77 := Try.zeroValue157 }
end Go.Proofs.Ythcjliffpebjaaa
/- The library's sort, by its contract, over canonical memory. No condition. -/
namespace Go.K
set_option linter.unusedSimpArgs false
open Go
set_option linter.unusedVariables false
variable {P : Program}

/-- The world grows, and turns where nothing is said of it. -/
theorem Rel.world {B : Nat} {ρ : Ren} {H : Heap} {w W : World} (hr : Rel P B ρ H w) (b0 : Nat) (hsz : w.heap.size ≤ W.heap.size) (hsame : ∀ b, b < w.heap.size → b ≠ b0 → W.heap[b]? = w.heap[b]?)
    (hfree : ∀ id r o, ρ id = some r → H[id]? = some o → o.alive = true → r.b ≠ b0) (hmem : ∀ m, ρ.mem b0 = some m → False) : Rel P B ρ H W := by
  refine ⟨Nat.le_trans hr.bsize hsz, hr.glob, hr.dom, fun id r h => Nat.lt_of_lt_of_le (hr.lt id r h) hsz, fun id r o h1 h2 => ?_, hr.base, hr.sep, fun b m hb => ⟨?_, (hr.mem b m hb).2⟩⟩
  · by_cases hal : o.alive = true
    · exact (hr.obj id r o h1 h2).mono (Ren.le_refl _) (hsame _ (hr.lt id r h1) (hfree id r o h1 h2 hal))
    · cases o <;> first | trivial | exact absurd rfl hal
  · obtain ⟨ty, fz, e⟩ := (hr.mem b m hb).1
    have hne : b ≠ b0 := by rintro rfl; exact hmem m hb
    exact ⟨ty, fz, (hsame b (Array.getElem?_eq_some_iff.1 e).1 hne).trans e⟩
theorem Post.grown {B base : Nat} {M : List Nat} {ρ ρ' : Ren} {H H' : Heap} {w w1 w2 : World} (p : Post P B base M ρ H w ρ' H' w1) (hsz : w1.heap.size ≤ w2.heap.size) (hsame : ∀ b, b < w1.heap.size → w2.heap[b]? = w1.heap[b]?)
    (hos : w2.os = w1.os) (ht : w2.tape = w1.tape) (ho : w2.output = w1.output) (hd : w1.drawn ≤ w2.drawn) : Post P B base M ρ H w ρ' H' w2 := by
  have hlt : ∀ id r o, ρ' id = some r → H'[id]? = some o → o.alive = true → r.b ≠ w1.heap.size := fun id r o h1 _ _ => by have := p.rel.lt id r h1; omega
  have hm : ∀ m, ρ'.mem w1.heap.size = some m → False := fun m h => by
    obtain ⟨ty, fz, e⟩ := (p.rel.mem _ m h).1
    have := (Array.getElem?_eq_some_iff.1 e).1; omega
  exact ⟨p.rel.world w1.heap.size hsz (fun b h _ => hsame b h) hlt hm, p.ext, p.new, p.len, p.same, Nat.le_trans p.size hsz, fun b h1 h2 => (hsame b (Nat.lt_of_lt_of_le h1 p.size)).trans (p.keep b h1 h2), p.ob, hos.trans p.os, ht.trans p.tape, ho.trans p.output, p.frz, Nat.le_trans p.drawn hd⟩
/-- A world that has grown and drawn. -/
theorem world_eq {w w' : World} (hos : w'.os = w.os) (ht : w'.tape = w.tape) (ho : w'.output = w.output) (hd : w.drawn ≤ w'.drawn) (hsz : w.heap.size ≤ w'.heap.size) (hsame : ∀ b, b < w.heap.size → w'.heap[b]? = w.heap[b]?) :
    ∃ q os', w' = Sort.grow (w.drewN q) os' := by
  refine ⟨w'.drawn - w.drawn, w'.heap.extract w.heap.size w'.heap.size, ?_⟩
  obtain ⟨h, t, d, o, u⟩ := w
  obtain ⟨h', t', d', o', u'⟩ := w'
  simp only at hos ht ho hd hsz hsame
  subst hos ht ho
  unfold Sort.grow World.drewN
  simp only [World.mk.injEq, true_and, and_true]
  refine ⟨?_, by omega⟩
  apply Array.ext_getElem?
  intro i
  rw [Array.getElem?_append]
  split
  · rename_i hi; exact hsame i hi
  · rename_i hi
    rw [Array.getElem?_extract]
    simp only [Nat.min_self]
    split
    · congr 1; omega
    · rw [Array.getElem?_eq_none (by omega)]
/-- A function of values, in whatever world. -/
theorem KCall.everywhere {g : FuncId} {args : List Value} {n : Nat} {v : Value} (h : KCall P g args (List.replicate n .dead) [] (Is v (List.replicate n .dead))) {B : Nat} {ρ : Ren} {H : Heap} {W : World} (hr : Rel P B ρ H W) (hn : H.length ≤ n) {args' : Array Value} (ha : VRl ρ args args'.toList) :
    Calls P g args' W fun e w' => (∃ v', e = .returned v' ∧ ∃ ρ', VR ρ' v v') ∧ ∃ q os', w' = Sort.grow (W.drewN q) os' := by
  have hdead : ∀ (id : Nat) (o : KObj), (List.replicate n KObj.dead)[id]? = some o → o = .dead := fun id o ho => by
    rw [List.getElem?_replicate] at ho
    split at ho
    · cases ho; rfl
    · cases ho
  have hrg : Rel P B ρ (List.replicate n .dead) W := by
    refine ⟨hr.bsize, hr.glob, fun id r h1 => ?_, hr.lt, fun id r o h1 h2 => ?_, fun id r o h1 h2 h3 => ?_, fun id id' r r' o o' h1 h1' h2 h2' h3 _ _ => ?_, fun b m hm => ⟨(hr.mem b m hm).1, fun id r o h1 h2 h3 => ?_⟩⟩
    · rw [List.length_replicate]; exact Nat.lt_of_lt_of_le (hr.dom id r h1) hn
    · rw [hdead id o h2]; trivial
    · rw [hdead id o h2] at h3; cases h3
    · rw [hdead id o h2] at h3; cases h3
    · rw [hdead id o h2] at h3; cases h3
  have hob : ∀ b, ¬ OB ρ (List.replicate n .dead) b := by
    rintro b ⟨id, r, o, h1, h2, h3, _⟩
    rw [hdead id o h2] at h3; cases h3
  refine callsIn_wide.1 ((h.2 B ρ W args' hrg ha).mono ?_)
  rintro e w' ⟨v1, v', ρ', H', rfl, hv', hp, rfl, rfl⟩
  exact ⟨⟨v', rfl, ρ', hv'⟩, world_eq hp.os hp.tape hp.output hp.drawn hp.size (fun b hb => hp.keep b hb (hob b))⟩
end Go.K
/- The library's sort, by the kit's contract, over canonical memory. No condition. -/
namespace Go.K
set_option linter.unusedSimpArgs false
open Go Go.Proofs Go.RowKit Go.Lib Go.Sort
set_option linter.unusedVariables false
variable {P : Program}

theorem kSortFunc {R : Go.Shelf.Ren} (L : SlLaysF.n6 P R) {β : Type} (dv : β → Value) (cf : β → β → Int) (hO : SWO (ltOf cf)) (hanti : ∀ x y, ltOf cf x y = false → ltOf cf y x = false → x = y) (g : Nat)
    (hone : ∀ (ρ : K.Ren) (x : β) (v' : Value), VR ρ (dv x) v' → v'.oneCell' = true) (eg : ∀ args w, (callFunc g args).run P w = .ok (.enter g args) w) (ef : Enters P (R.f 6))
    (hcmp : ∀ x y n, KCall P g [dv x, dv y] (List.replicate n .dead) [] (Is (.int .i64 (cf x y)) (List.replicate n .dead)))
    {H : Heap} {id : Nat} {tag : Option Nat} (htag : tag = none ∨ tag = some 1) {L0 : List β} (h0 : 0 < L0.length) (hlen : L0.length < 4611686018427387904) (ho : H[id]? = some (.cells true 1 (L0.map dv))) :
    KCall P (R.f 6) [.slice (some ⟨id, 0, tag⟩) L0.length L0.length, .func (.func g) #[] #[]] H [id] (Is (.tuple #[]) (H.set id (.cells true 1 ((L0.mergeSort (fun x y => !ltOf cf y x)).map dv)))) := by
  refine ⟨ef, fun B ρ w args' hr ha => ?_⟩
  obtain ⟨x', f', rfl⟩ : ∃ x' f', args' = #[x', f'] := by
    have hl := ha.1
    obtain ⟨l⟩ := args'
    match l, hl with
    | [a, b], _ => exact ⟨a, b, rfl⟩
  have hx := ha.2 0 _ _ rfl rfl
  have hf := ha.2 1 _ _ rfl rfl
  obtain rfl : f' = .func (.func g) #[] #[] := by
    cases hf with
    | func h1 h2 h3 h4 =>
      obtain rfl := Array.eq_empty_of_size_eq_zero (by simpa using h1.symm)
      obtain rfl := Array.eq_empty_of_size_eq_zero (by simpa using h3.symm)
      rfl
  obtain ⟨r, cap', hid, hcap, rfl⟩ : ∃ r cap', ρ id = some r ∧ L0.length ≤ cap' ∧ x' = .slice (some ⟨r.b, 0 + r.s, none⟩) L0.length cap' := by
    generalize L0.length = n at hx h0
    rcases htag with rfl | rfl
    · cases hx with
      | slice h hl hc _ => exact ⟨_, _, h, Nat.le_trans hl hc, rfl⟩
      | slice0 h => exact absurd h0 (Nat.lt_irrefl 0)
    · cases hx with
      | sliceQn => exact absurd h0 (Nat.lt_irrefl 0)
      | sliceQe => exact absurd h0 (Nat.lt_irrefl 0)
      | sliceQ h hp hl hc _ => exact ⟨_, _, h, Nat.le_trans hl hc, rfl⟩
  rw [Nat.zero_add]
  have hobj := hr.obj id r _ hid ho
  obtain ⟨ow, zz, cs', ty, fz, hb, hsz, hfz, hcs⟩ := hobj
  obtain rfl := hfz rfl
  -- the elements
  let α := {p : β × Value // VR ρ (dv p.1) p.2}
  have hel : ∀ i : _root_.Fin L0.length, ∃ v', cs'[i.1 + r.s]? = some v' ∧ VR ρ (dv L0[i.1]) v' := fun i => hcs i.1 _ (by rw [List.getElem?_map, List.getElem?_eq_getElem i.2]; rfl)
  let el : _root_.Fin L0.length → α := fun i => ⟨(L0[i.1], Classical.choose (hel i)), (Classical.choose_spec (hel i)).2⟩
  have hel2 : ∀ i, cs'[i.1 + r.s]? = some (el i).1.2 := fun i => (Classical.choose_spec (hel i)).1
  let d : Array α := Array.ofFn el
  haveI : Inhabited α := ⟨el ⟨0, h0⟩⟩
  let enc : α → Value := fun p => p.1.2
  let cf2 : α → α → Int := fun x y => cf x.1.1 y.1.1
  have hds : d.size = L0.length := Array.size_ofFn
  have hO2 : SWO (ltOf cf2) := ⟨fun x => hO.irrefl x.1.1, fun x y z => hO.trans x.1.1 y.1.1 z.1.1, fun x y z => hO.ntrans x.1.1 y.1.1 z.1.1⟩
  have hdi : ∀ j (hj : j < d.size), d[j]! = el ⟨j, by omega⟩ := fun j hj => by
    rw [getElem!_pos d j hj]; exact Array.getElem_ofFn hj
  have hH : Holds enc w r.b r.s d := fun j hj => by
    have e := hel2 ⟨j, by omega⟩
    refine ⟨?_, ?_⟩
    · rw [hdi j hj]
      simp only [World.cell?, hb, Option.isSome_none, Bool.false_eq_true, if_false]
      rw [Nat.add_comm]; exact e
    · simp [World.frozen?, hb]
  have hblk := hr.lt id r hid
  have h1 : OneCell enc := fun x => hone ρ x.1.1 x.1.2 x.2
  have hcl : CmpLays1 P g #[] enc cf2 r.b r.s d.size w := by
    intro m os dk hdk x y
    have hrd : Rel P B ρ (H.set id .dead) w := (Post.kill (base := 0) (M := []) hr hid ho rfl (fun h => absurd h (Nat.not_lt_zero _))).rel
    have hrW : Rel P B ρ (H.set id .dead) (sortWorld enc w r.b r.s m dk os) := by
      refine hrd.world r.b ?_ ?_ ?_ ?_
      · simp [sortWorld, grow, putRow, mapBlock, ahead]
      · intro b hb1 hb2
        simp only [sortWorld, grow, putRow, mapBlock, ahead]
        rw [Array.getElem?_append_left (by simpa using hb1), Array.getElem?_modify, if_neg (Ne.symm hb2)]
        rfl
      · intro i x o g1 g2 g3
        by_cases e : i = id
        · subst e; rw [List.getElem?_set_self (List.getElem?_eq_some_iff.1 ho).1] at g2; cases g2; cases g3
        · rw [List.getElem?_set_ne (Ne.symm e)] at g2
          exact (hr.sep id i r x _ o hid g1 ho g2 rfl g3 (Ne.symm e)).symm
      · exact fun m h => (hr.mem _ m h).2 id r _ hid ho rfl rfl
    have hval : VRl ρ [dv x.1.1, dv y.1.1] (#[enc x, enc y] : Array Value).toList := by
      refine ⟨rfl, fun i a b g1 g2 => ?_⟩
      match i with
      | 0 => cases g1; cases g2; exact x.2
      | 1 => cases g1; cases g2; exact y.2
      | i + 2 => cases g1
    refine (KCall.everywhere (hcmp x.1.1 y.1.1 _) hrW (Nat.le_refl _) (args' := #[enc x, enc y]) hval).mono ?_
    rintro e w' ⟨⟨v', rfl, ρ', hv⟩, q, os', rfl⟩
    cases hv
    exact ⟨rfl, q, os', rfl⟩
  have hcon := Any.slices_SortFunc L enc h1 cf2 hO2 g #[] r.b r.s cap' d w eg hcl hH hblk (by omega)
  rw [hds] at hcon
  refine callsIn_wide.2 (hcon.mono ?_)
  rintro e w' ⟨rfl, d', n1, os, hperm, hsorted, rfl⟩
  have hsz' : d'.size = L0.length := hperm.1.trans hds
  let c : α → β := fun p => p.1.1
  have hdc : d.toList.map c = L0 := by
    refine List.ext_getElem? fun i => ?_
    rw [List.getElem?_map, Array.getElem?_toList, Array.getElem?_ofFn]
    split
    · rename_i hi; rw [List.getElem?_eq_getElem hi]; rfl
    · rename_i hi; rw [List.getElem?_eq_none (by omega)]; rfl
  have hcj : ∀ j, j < L0.length → ∃ h : j < d'.size, d'[j]! = d'[j] := fun j hj => ⟨by omega, getElem!_pos d' j (by omega)⟩
  have hlist : d'.toList.map c = L0.mergeSort (fun x y => !ltOf cf y x) := by
    haveI : Inhabited β := ⟨L0[0]⟩
    have hmj : ∀ j (hj : j < L0.length), (d'.map c)[j]! = c d'[j]! := fun j hj => by
      rw [getElem!_pos _ j (by simpa [hsz'] using hj), getElem!_pos d' j (by omega), Array.getElem_map]
    have := sorted_unique_holds hO hanti L0.toArray (d'.map c) ⟨by simp [hsz'], fun i hi => ?_, ?_⟩ (fun i j _ h2 h3 => ?_)
    · simpa using this
    · have hi' : L0.length ≤ i := by rcases hi with h | h; omega; simpa using h
      rw [getElem!_neg _ i (by simp [hsz']; omega), getElem!_neg _ i (by simp; omega)]
    · have h := hperm.2.2
      rw [show d'.extract 0 L0.length = d' from by rw [← hsz']; simp, show d.extract 0 L0.length = d from by rw [← hds]; simp] at h
      have := h.map c
      rw [hdc] at this
      have e1 : (d'.map c).extract 0 L0.toArray.size = d'.map c := by
        rw [show L0.toArray.size = (d'.map c).size by simp [hsz']]; simp
      have e2 : L0.toArray.extract 0 L0.toArray.size = L0.toArray := by simp
      rw [e1, e2]
      simpa using this
    · have h3' : j < L0.length := by simpa using h3
      rw [hmj j h3', hmj i (by omega)]
      exact hsorted i j (Nat.zero_le _) h2 h3'
  have hput : ObjRel ρ r (.cells true 1 ((L0.mergeSort (fun x y => !ltOf cf y x)).map dv)) (w.putObj r.b (.cells (putCells enc r.s d' cs') ty (0, 0))) := by
    refine ⟨ow, zz, putCells enc r.s d' cs', ty, (0, 0), World.putObj_heap_same hblk, by simp [putCells, hsz], fun _ => rfl, fun i v hv => ?_⟩
    rw [← hlist, List.map_map, List.getElem?_map] at hv
    obtain ⟨a, ha1, rfl⟩ := Option.map_eq_some_iff.1 hv
    have hi : i < d'.size := by
      have := (List.getElem?_eq_some_iff.1 ha1).1; simpa using this
    obtain ⟨v', e1, _⟩ := hcs i (dv L0[i]) (by rw [List.getElem?_map, List.getElem?_eq_getElem (by omega)]; rfl)
    refine ⟨a.1.2, ?_, a.2⟩
    simp only [putCells, Array.getElem?_mapIdx, e1, Option.map_some]
    rw [if_pos ⟨by omega, by omega⟩, show i + r.s - r.s = i by omega, getElem!_pos d' i hi]
    rw [Array.getElem?_toList, Array.getElem?_eq_getElem hi] at ha1
    cases ha1; rfl
  have p1 := Post.put (base := H.length) (M := [id]) hr hid ho rfl (by rw [hb]; rfl) hput (fun _ => List.mem_singleton.2 rfl)
  have hheap : ∀ b, b < w.heap.size → (sortWorld enc w r.b r.s n1 d' os).heap[b]? = (w.putObj r.b (.cells (putCells enc r.s d' cs') ty (0, 0))).heap[b]? := by
    intro b hb1
    simp only [sortWorld, grow, putRow, mapBlock, ahead]
    rw [Array.getElem?_append_left (by simpa using hb1), Array.getElem?_modify]
    by_cases e : r.b = b
    · subst e
      rw [if_pos rfl, World.putObj_heap_same hblk]
      show Option.map (onCells _) w.heap[r.b]? = _
      rw [hb]; rfl
    · rw [if_neg e, World.putObj_heap_other (Ne.symm e)]; rfl
  have p2 := p1.grown (w2 := sortWorld enc w r.b r.s n1 d' os) (by simp [sortWorld, grow, putRow, mapBlock, ahead, World.putObj]) (fun b hb1 => hheap b (by simpa [World.putObj] using hb1)) rfl rfl rfl (by simp [sortWorld, grow, putRow, mapBlock, ahead, World.putObj])
  exact ⟨.tuple #[], .tuple #[], ρ, _, rfl, .tuple rfl (fun i a b h => by simp at h), p2, rfl, rfl⟩
end Go.K
