/- What is to be shown of functions. Printed by a program. No condition. -/
import Derived.Test.YtkkgnalgmebfjaaGD4xE2a
import Derived.Test.YtkkgnalgmebfjaaE3g
import Derived.Test.YtkkgnalgmebfjaaGK27xK32
namespace Go.Proofs.Ytkkgnalgmebfjaa
set_option linter.unusedSimpArgs false
open Go Go.K
set_option maxRecDepth 100000
set_option maxHeartbeats 4000000
set_option linter.unusedVariables false
noncomputable section
def Rleast (sp : Value) (c : Cell) : Prop :=
  (.agg #[.int .i64 c.conc.lo, .int .i64 c.thick.lo, .int .i64 c.ridge.lo, .int .i64 c.press.lo] : Value) = sp
theorem Eleast (sp : Value) (c : Cell) : vF prog msk (dm 0) 100000 true 40 true 129 [.agg #[.int .i64 c.conc.lo, .int .i64 c.conc.hi, .int .i64 c.thick.lo, .int .i64 c.thick.hi, .int .i64 c.ridge.lo, .int .i64 c.ridge.hi, .int .i64 c.press.lo, .int .i64 c.press.hi]] ⟨0, .leaf⟩ (some [])
  (.auto)
  (fun v _ _ => v = sp) = Rleast sp c := by kernel_rfl
def Rgreatest (sp : Value) (c : Cell) : Prop :=
  (.agg #[.int .i64 c.conc.hi, .int .i64 c.thick.hi, .int .i64 c.ridge.hi, .int .i64 c.press.hi] : Value) = sp
theorem Egreatest (sp : Value) (c : Cell) : vF prog msk (dm 0) 100000 true 40 true 130 [.agg #[.int .i64 c.conc.lo, .int .i64 c.conc.hi, .int .i64 c.thick.lo, .int .i64 c.thick.hi, .int .i64 c.ridge.lo, .int .i64 c.ridge.hi, .int .i64 c.press.lo, .int .i64 c.press.hi]] ⟨0, .leaf⟩ (some [])
  (.auto)
  (fun v _ _ => v = sp) = Rgreatest sp c := by kernel_rfl
def Rsides (sp : Value) (w h : Int) (a : List Bool) (w' h' t : Int) (cs : List Cell) : Prop :=
  (((some (.cells false 0 (List.flatMap cellC cs) : KObj) = some (.cells false 0 (List.flatMap cellC cs) : KObj)) ∧ True) ∧ (∀ H' : Heap, H'.length = 4 → (H'[1]? = some (.cells false 0 (List.flatMap cellC cs) : KObj) ∧ True) → KCall prog 97 [.agg #[.int .i64 w', .int .i64 h', .int .i64 t, .slice (some ⟨1, 0, some 2⟩) (List.length cs) (List.length cs)]] H' [] (Is (.int .i64 (errChart w' h' t cs)) H')) ∧ (((((errChart w' h' t cs) : Int) != 0) = true → (.int .i64 (errChart w' h' t cs) : Value) = sp) ∧ ((((errChart w' h' t cs) : Int) != 0) = false → ((((w' : Int) != w) = true → (.int .i64 1 : Value) = sp) ∧ (((w' : Int) != w) = false → ((((h' : Int) != h) = true → (.int .i64 1 : Value) = sp) ∧ (((h' : Int) != h) = false → (.int .i64 0 : Value) = sp)))))))
theorem Esides (sp : Value) (w h : Int) (a : List Bool) (w' h' t : Int) (cs : List Cell) : vF prog msk (dm 0) 100000 true 40 true 98 [.agg #[.int .i64 w, .int .i64 h, .slice (some ⟨0, 0, some 2⟩) (List.length a) (List.length a)], .agg #[.int .i64 w', .int .i64 h', .int .i64 t, .slice (some ⟨1, 0, some 2⟩) (List.length cs) (List.length cs)]] (readsT 0 [a.flatMap boolC, cs.flatMap cellC]) (some [])
  (.go 3 (.ans [(1, .cells false 0 (List.flatMap cellC cs))] (.int .i64 (errChart w' h' t cs)) [] (.go 3 (.fork (.auto) (.go 5 (.gfork (.auto) (.go 6 (.fork (.auto) (.auto)))))))))
  (fun v _ _ => v = sp) = Rsides sp w h a w' h' t cs := by kernel_rfl
def Rfits (sp : Value) (w h : Int) (a : List Bool) (w' h' t : Int) (cs : List Cell) : Prop :=
  (((some (.cells false 0 (List.flatMap boolC a) : KObj) = some (.cells false 0 (List.flatMap boolC a) : KObj)) ∧ (some (.cells false 0 (List.flatMap cellC cs) : KObj) = some (.cells false 0 (List.flatMap cellC cs) : KObj)) ∧ True) ∧ (∀ H' : Heap, H'.length = 4 → (H'[0]? = some (.cells false 0 (List.flatMap boolC a) : KObj) ∧ H'[1]? = some (.cells false 0 (List.flatMap cellC cs) : KObj) ∧ True) → KCall prog 98 [.agg #[.int .i64 w, .int .i64 h, .slice (some ⟨0, 0, some 2⟩) (List.length a) (List.length a)], .agg #[.int .i64 w', .int .i64 h', .int .i64 t, .slice (some ⟨1, 0, some 2⟩) (List.length cs) (List.length cs)]] H' [] (Is (.int .i64 (errSides w h w' h' t cs)) H')) ∧ (((((errSides w h w' h' t cs) : Int) != 0) = true → (.int .i64 (errSides w h w' h' t cs) : Value) = sp) ∧ ((((errSides w h w' h' t cs) : Int) != 0) = false → (true = true ∧ (0 ≤ List.length cs ∧ errUp (dryErr a cs) 0 = 0) ∧ (true = true ∧ ((.int .i64 0 : Value) = .int .i64 ((0 : Nat) : Int) ∧ (.pointer (some ⟨2, 0, none⟩) : Value) = .pointer (some ⟨2, 0, none⟩) ∧ wk (.slice (some ⟨1, 0, some 2⟩) (List.length cs) (List.length cs) : Value) (.slice (some ⟨1, 0, some 2⟩) (List.length cs) (List.length cs) : Value) ∧ (.int .i64 (((List.length cs) : Nat) : Int) : Value) = .int .i64 (((List.length cs) : Nat) : Int) ∧ True) ∧ (True) ∧ (True) ∧ (True)) ∧ (∀ x1 : Nat, true = true) ∧ ∀ x1 : Nat, (x1 ≤ List.length cs ∧ errUp (dryErr a cs) x1 = 0) → (((decide ((((x1 : Nat) : Int) : Int) < (((List.length cs) : Nat) : Int))) = true → (((0 : Int) ≤ ((x1 : Nat) : Int) ∧ (((x1 : Nat) : Int) : Int) < (((List.length cs) : Nat) : Int)) ∧ ((partA 8 (List.flatMap cellC cs) (0 + Int.toNat ((x1 : Nat) : Int) * 8) = some (.agg #[.int .i64 (List.getD cs x1 zeroC).conc.lo, .int .i64 (List.getD cs x1 zeroC).conc.hi, .int .i64 (List.getD cs x1 zeroC).thick.lo, .int .i64 (List.getD cs x1 zeroC).thick.hi, .int .i64 (List.getD cs x1 zeroC).ridge.lo, .int .i64 (List.getD cs x1 zeroC).ridge.hi, .int .i64 (List.getD cs x1 zeroC).press.lo, .int .i64 (List.getD cs x1 zeroC).press.hi])) ∧ (((0 : Int) ≤ ((x1 : Nat) : Int) ∧ (((x1 : Nat) : Int) : Int) < (((List.length a) : Nat) : Int)) ∧ (((List.flatMap boolC a)[(0 + Int.toNat ((x1 : Nat) : Int) * 1)]? = some (.bool (List.getD a x1 false))) ∧ (((List.getD a x1 false) = true → (((!(((((List.getD cs x1 zeroC).conc.lo : Int) == 0) && ((((List.getD cs x1 zeroC).conc.hi : Int) == 0) && true)) && (((((List.getD cs x1 zeroC).thick.lo : Int) == 0) && ((((List.getD cs x1 zeroC).thick.hi : Int) == 0) && true)) && (((((List.getD cs x1 zeroC).ridge.lo : Int) == 0) && ((((List.getD cs x1 zeroC).ridge.hi : Int) == 0) && true)) && (((((List.getD cs x1 zeroC).press.lo : Int) == 0) && ((((List.getD cs x1 zeroC).press.hi : Int) == 0) && true)) && true))))) = true → (.int .i64 30 : Value) = sp) ∧ ((!(((((List.getD cs x1 zeroC).conc.lo : Int) == 0) && ((((List.getD cs x1 zeroC).conc.hi : Int) == 0) && true)) && (((((List.getD cs x1 zeroC).thick.lo : Int) == 0) && ((((List.getD cs x1 zeroC).thick.hi : Int) == 0) && true)) && (((((List.getD cs x1 zeroC).ridge.lo : Int) == 0) && ((((List.getD cs x1 zeroC).ridge.hi : Int) == 0) && true)) && (((((List.getD cs x1 zeroC).press.lo : Int) == 0) && ((((List.getD cs x1 zeroC).press.hi : Int) == 0) && true)) && true))))) = false → ((.int .i64 (IntKind.wrap .i64 (((x1 : Nat) : Int) + 1)) : Value) = .int .i64 (((x1 : Nat) : Int) + 1) ∧ (∃ x1' : Nat, (x1' ≤ List.length cs ∧ errUp (dryErr a cs) x1' = 0) ∧ (List.length cs - x1') < (List.length cs - x1) ∧ true = true ∧ ((.int .i64 (((x1 : Nat) : Int) + 1) : Value) = .int .i64 ((x1' : Nat) : Int) ∧ (.pointer (some ⟨2, 0, none⟩) : Value) = .pointer (some ⟨2, 0, none⟩) ∧ wk (.slice (some ⟨1, 0, some 2⟩) (List.length cs) (List.length cs) : Value) (.slice (some ⟨1, 0, some 2⟩) (List.length cs) (List.length cs) : Value) ∧ (.int .i64 (((List.length cs) : Nat) : Int) : Value) = .int .i64 (((List.length cs) : Nat) : Int) ∧ True) ∧ (True) ∧ (True) ∧ (True)))))) ∧ ((List.getD a x1 false) = false → ((.int .i64 (IntKind.wrap .i64 (((x1 : Nat) : Int) + 1)) : Value) = .int .i64 (((x1 : Nat) : Int) + 1) ∧ (∃ x1' : Nat, (x1' ≤ List.length cs ∧ errUp (dryErr a cs) x1' = 0) ∧ (List.length cs - x1') < (List.length cs - x1) ∧ true = true ∧ ((.int .i64 (((x1 : Nat) : Int) + 1) : Value) = .int .i64 ((x1' : Nat) : Int) ∧ (.pointer (some ⟨2, 0, none⟩) : Value) = .pointer (some ⟨2, 0, none⟩) ∧ wk (.slice (some ⟨1, 0, some 2⟩) (List.length cs) (List.length cs) : Value) (.slice (some ⟨1, 0, some 2⟩) (List.length cs) (List.length cs) : Value) ∧ (.int .i64 (((List.length cs) : Nat) : Int) : Value) = .int .i64 (((List.length cs) : Nat) : Int) ∧ True) ∧ (True) ∧ (True) ∧ (True)))))))))) ∧ ((decide ((((x1 : Nat) : Int) : Int) < (((List.length cs) : Nat) : Int))) = false → (.int .i64 0 : Value) = sp))))))
theorem Efits (sp : Value) (w h : Int) (a : List Bool) (w' h' t : Int) (cs : List Cell) : vF prog msk (dm 0) 100000 true 40 true 90 [.agg #[.int .i64 w, .int .i64 h, .slice (some ⟨0, 0, some 2⟩) (List.length a) (List.length a)], .agg #[.int .i64 w', .int .i64 h', .int .i64 t, .slice (some ⟨1, 0, some 2⟩) (List.length cs) (List.length cs)]] (readsT 0 [a.flatMap boolC, cs.flatMap cellC]) (some [])
  (.go 4 (.ans [(0, .cells false 0 (List.flatMap boolC a)), (1, .cells false 0 (List.flatMap cellC cs))] (.int .i64 (errSides w h w' h' t cs)) [] (.go 2 (.fork (.auto) (.go 3 (.inv 3 (Nat) (0) [] [] (fun x1 => [(17, .int .i64 ((x1 : Nat) : Int)), (2, .pointer (some ⟨2, 0, none⟩)), (15, .slice (some ⟨1, 0, some 2⟩) (List.length cs) (List.length cs)), (16, .int .i64 (((List.length cs) : Nat) : Int))]) (fun x1 => []) (fun x1 => []) (fun x1 => []) (fun x1 => (x1 ≤ List.length cs ∧ errUp (dryErr a cs) x1 = 0)) (fun x1 => (List.length cs - x1)) (fun x1 => .go 0 (.fork (.go 0 (.need (.val (.agg #[.int .i64 (List.getD cs x1 zeroC).conc.lo, .int .i64 (List.getD cs x1 zeroC).conc.hi, .int .i64 (List.getD cs x1 zeroC).thick.lo, .int .i64 (List.getD cs x1 zeroC).thick.hi, .int .i64 (List.getD cs x1 zeroC).ridge.lo, .int .i64 (List.getD cs x1 zeroC).ridge.hi, .int .i64 (List.getD cs x1 zeroC).press.lo, .int .i64 (List.getD cs x1 zeroC).press.hi]) (.go 5 (.need (.val (.bool (List.getD a x1 false)) (.go 0 (.gfork (.go 3 (.fork (.auto) (.go 0 (.slot 32 (.int .i64 (((x1 : Nat) : Int) + 1)) (.go 0 (.again [])))))) (.go 2 (.slot 32 (.int .i64 (((x1 : Nat) : Int) + 1)) (.go 0 (.again [])))))))))))) (.auto)))))))))
  (fun v _ _ => v = sp) = Rfits sp w h a w' h' t cs := by kernel_rfl
def RStep (w h : Int) (a : List Bool) (l : List Flow) (w' h' t : Int) (cs : List Cell) : Prop :=
  (((some (.cells false 0 (List.flatMap boolC a) : KObj) = some (.cells false 0 (List.flatMap boolC a) : KObj)) ∧ (some (.cells false 0 (List.flatMap flowC l) : KObj) = some (.cells false 0 (List.flatMap flowC l) : KObj)) ∧ True) ∧ (∀ H' : Heap, H'.length = 6 → (H'[0]? = some (.cells false 0 (List.flatMap boolC a) : KObj) ∧ H'[1]? = some (.cells false 0 (List.flatMap flowC l) : KObj) ∧ True) → KCall prog 22 [.agg #[.int .i64 w, .int .i64 h, .slice (some ⟨0, 0, some 2⟩) (List.length a) (List.length a)], .slice (some ⟨1, 0, some 2⟩) (List.length l) (List.length l)] H' [] (Is (.int .i64 (errFlows w h (List.length a) l)) H')) ∧ (((((errFlows w h (List.length a) l) : Int) != 0) = true → (true = true ∧ wk (.tuple #[.agg #[.int .i64 0, .int .i64 0, .int .i64 0, .slice none 0 0], .int .i64 (errFlows w h (List.length a) l)] : Value) (rn (sg 3 []) 3 (.tuple #[.agg #[.int .i64 (fStep w h a l w' h' t cs).1.w, .int .i64 (fStep w h a l w' h' t cs).1.h, .int .i64 (fStep w h a l w' h' t cs).1.hour, .slice (some ⟨3, 0, some 1⟩) (List.length (fStep w h a l w' h' t cs).1.cells) (List.length (fStep w h a l w' h' t cs).1.cells)], .int .i64 (fStep w h a l w' h' t cs).2] : Value)) ∧ (True ∧ True))) ∧ ((((errFlows w h (List.length a) l) : Int) != 0) = false → (((some (.cells false 0 (List.flatMap boolC a) : KObj) = some (.cells false 0 (List.flatMap boolC a) : KObj)) ∧ (some (.cells false 0 (List.flatMap cellC cs) : KObj) = some (.cells false 0 (List.flatMap cellC cs) : KObj)) ∧ True) ∧ (∀ H' : Heap, H'.length = 6 → (H'[0]? = some (.cells false 0 (List.flatMap boolC a) : KObj) ∧ H'[2]? = some (.cells false 0 (List.flatMap cellC cs) : KObj) ∧ True) → KCall prog 90 [.agg #[.int .i64 w, .int .i64 h, .slice (some ⟨0, 0, some 2⟩) (List.length a) (List.length a)], .agg #[.int .i64 w', .int .i64 h', .int .i64 t, .slice (some ⟨2, 0, some 2⟩) (List.length cs) (List.length cs)]] H' [] (Is (.int .i64 (errFits w h a w' h' t cs)) H')) ∧ (((((errFits w h a w' h' t cs) : Int) != 0) = true → (true = true ∧ wk (.tuple #[.agg #[.int .i64 0, .int .i64 0, .int .i64 0, .slice none 0 0], .int .i64 (errFits w h a w' h' t cs)] : Value) (rn (sg 3 []) 3 (.tuple #[.agg #[.int .i64 (fStep w h a l w' h' t cs).1.w, .int .i64 (fStep w h a l w' h' t cs).1.h, .int .i64 (fStep w h a l w' h' t cs).1.hour, .slice (some ⟨3, 0, some 1⟩) (List.length (fStep w h a l w' h' t cs).1.cells) (List.length (fStep w h a l w' h' t cs).1.cells)], .int .i64 (fStep w h a l w' h' t cs).2] : Value)) ∧ (True ∧ True))) ∧ ((((errFits w h a w' h' t cs) : Int) != 0) = false → ((((t : Int) == 10000) = true → (true = true ∧ wk (.tuple #[.agg #[.int .i64 0, .int .i64 0, .int .i64 0, .slice none 0 0], .int .i64 6] : Value) (rn (sg 3 []) 3 (.tuple #[.agg #[.int .i64 (fStep w h a l w' h' t cs).1.w, .int .i64 (fStep w h a l w' h' t cs).1.h, .int .i64 (fStep w h a l w' h' t cs).1.hour, .slice (some ⟨3, 0, some 1⟩) (List.length (fStep w h a l w' h' t cs).1.cells) (List.length (fStep w h a l w' h' t cs).1.cells)], .int .i64 (fStep w h a l w' h' t cs).2] : Value)) ∧ (True ∧ True))) ∧ (((t : Int) == 10000) = false → (((some (.cells false 0 (List.flatMap boolC a) : KObj) = some (.cells false 0 (List.flatMap boolC a) : KObj)) ∧ (some (.cells false 0 (List.flatMap flowC l) : KObj) = some (.cells false 0 (List.flatMap flowC l) : KObj)) ∧ (some (.cells false 0 (List.flatMap cellC cs) : KObj) = some (.cells false 0 (List.flatMap cellC cs) : KObj)) ∧ True) ∧ (∀ H' : Heap, H'.length = 6 → (H'[0]? = some (.cells false 0 (List.flatMap boolC a) : KObj) ∧ H'[1]? = some (.cells false 0 (List.flatMap flowC l) : KObj) ∧ H'[2]? = some (.cells false 0 (List.flatMap cellC cs) : KObj) ∧ True) → KCall prog 91 [.agg #[.int .i64 w, .int .i64 h, .slice (some ⟨0, 0, some 2⟩) (List.length a) (List.length a)], .slice (some ⟨1, 0, some 2⟩) (List.length l) (List.length l), .agg #[.int .i64 w', .int .i64 h', .int .i64 t, .slice (some ⟨2, 0, some 2⟩) (List.length cs) (List.length cs)]] H' [] (Is (.agg #[.int .i64 w', .int .i64 h', .int .i64 (t + 1), .slice (some ⟨6, 0, some 1⟩) (List.length (stepL w h a l cs)) (List.length (stepL w h a l cs))]) (H' ++ [(.cells true 8 (List.flatMap cellC (stepL w h a l cs)) : KObj)]))) ∧ (true = true ∧ wk (.tuple #[.agg #[.int .i64 w', .int .i64 h', .int .i64 (t + 1), .slice (some ⟨6, 0, some 1⟩) (List.length (stepL w h a l cs)) (List.length (stepL w h a l cs))], .int .i64 0] : Value) (rn (sg 3 [(3, 6)]) 3 (.tuple #[.agg #[.int .i64 (fStep w h a l w' h' t cs).1.w, .int .i64 (fStep w h a l w' h' t cs).1.h, .int .i64 (fStep w h a l w' h' t cs).1.hour, .slice (some ⟨3, 0, some 1⟩) (List.length (fStep w h a l w' h' t cs).1.cells) (List.length (fStep w h a l w' h' t cs).1.cells)], .int .i64 (fStep w h a l w' h' t cs).2] : Value)) ∧ ((some (.cells true 8 (List.flatMap cellC (stepL w h a l cs)) : KObj) = some (.cells true 8 (List.flatMap cellC (fStep w h a l w' h' t cs).1.cells) : KObj) ∧ belowO 3 (.cells true 8 (List.flatMap cellC (fStep w h a l w' h' t cs).1.cells) : KObj) = true) ∧ True)))))))))))
theorem EStep (w h : Int) (a : List Bool) (l : List Flow) (w' h' t : Int) (cs : List Cell) : vF prog msk (dm 0) 100000 true 40 true 42 [.agg #[.int .i64 w, .int .i64 h, .slice (some ⟨0, 0, some 2⟩) (List.length a) (List.length a)], .slice (some ⟨1, 0, some 2⟩) (List.length l) (List.length l), .agg #[.int .i64 w', .int .i64 h', .int .i64 t, .slice (some ⟨2, 0, some 2⟩) (List.length cs) (List.length cs)]] (readsT 0 [a.flatMap boolC, l.flatMap flowC, cs.flatMap cellC]) (some [])
  (.go 5 (.ans [(0, .cells false 0 (List.flatMap boolC a)), (1, .cells false 0 (List.flatMap flowC l))] (.int .i64 (errFlows w h (List.length a) l)) [] (.go 2 (.fork (.go 3 (.again [])) (.go 1 (.ans [(0, .cells false 0 (List.flatMap boolC a)), (2, .cells false 0 (List.flatMap cellC cs))] (.int .i64 (errFits w h a w' h' t cs)) [] (.go 2 (.fork (.go 3 (.again [])) (.go 2 (.fork (.go 2 (.again [])) (.go 3 (.ans [(0, .cells false 0 (List.flatMap boolC a)), (1, .cells false 0 (List.flatMap flowC l)), (2, .cells false 0 (List.flatMap cellC cs))] (.agg #[.int .i64 w', .int .i64 h', .int .i64 (t + 1), .slice (some ⟨6, 0, some 1⟩) (List.length (stepL w h a l cs)) (List.length (stepL w h a l cs))]) [.cells true 8 (List.flatMap cellC (stepL w h a l cs))] (.go 1 (.again [(3, 6)]))))))))))))))
  (newK ((readsT 0 [a.flatMap boolC, l.flatMap flowC, cs.flatMap cellC]) : HT).n 3 (.tuple #[.agg #[.int .i64 (fStep w h a l w' h' t cs).1.w, .int .i64 (fStep w h a l w' h' t cs).1.h, .int .i64 (fStep w h a l w' h' t cs).1.hour, .slice (some ⟨3, 0, some 1⟩) (List.length (fStep w h a l w' h' t cs).1.cells) (List.length (fStep w h a l w' h' t cs).1.cells)], .int .i64 (fStep w h a l w' h' t cs).2]) [(true, .cells true 8 (List.flatMap cellC (fStep w h a l w' h' t cs).1.cells))]) = RStep w h a l w' h' t cs := by kernel_rfl
end
end Go.Proofs.Ytkkgnalgmebfjaa
/- Drift: charts that fit a basin; a cell's ends. No condition. -/
namespace Go.Proofs.Ytkkgnalgmebfjaa
open Go Go.K
set_option maxRecDepth 100000
set_option linter.unusedVariables false
set_option linter.unusedSimpArgs false
noncomputable section
attribute [local irreducible] vF
theorem kleast (c : Cell) (H : Heap) : KCall prog F.drift_least [cellV c] H [] (Is (iceV (loI c)) H) := by
  refine valK 40 (fun _ => rfl) rfl (Eq.mpr (Eleast _ c) ?_) H
  unfold Rleast
  rfl
theorem kgreatest (c : Cell) (H : Heap) : KCall prog F.drift_greatest [cellV c] H [] (Is (iceV (hiI c)) H) := by
  refine valK 40 (fun _ => rfl) rfl (Eq.mpr (Egreatest _ c) ?_) H
  unfold Rgreatest
  rfl
theorem ksides (w h : Int) (a : List Bool) (w' h' t : Int) (cs : List Cell) {H : Heap} {i0 i1 : Nat} {o0 o1 : Bool} {z0 z1 : Nat} (e0 : H[i0]? = some (.cells o0 z0 (a.flatMap boolC))) (e1 : H[i1]? = some (.cells o1 z1 (cs.flatMap cellC))) :
    KCall prog F.drift_sides [basV w h i0 a.length, .agg #[.int .i64 w', .int .i64 h', .int .i64 t, .slice (some ⟨i1, 0, some 2⟩) cs.length cs.length]] H [] (Is (.int .i64 (errSides w h w' h' t cs)) H) := by
  refine valR (Eq.mpr (Esides _ w h a w' h' t cs) ?_) (twoCs (plainBL 0 a) (plainC 0 cs)) rfl [i0, i1] rfl (twoId e0 e1)
  unfold Rsides
  refine ⟨⟨rfl, trivial⟩, fun H' _ hd => kCheckChart w' h' t cs hd.1, forkNe (fun h0 => ?_) (fun h0 => ?_)⟩
  · exact iEq (first2_1 h0).symm
  have e : errSides w h w' h' t cs = if w' = w ∧ h' = h then 0 else 1 := first2_2 h0
  rw [e]
  refine forkNe (fun h1 => ?_) (fun h1 => forkNe (fun h2 => ?_) (fun h2 => ?_))
  · rw [if_neg (fun q => h1 q.1)]
  · rw [if_neg (fun q => h2 q.2)]
  · rw [if_pos ⟨h1, h2⟩]
theorem errChart_len {w h t : Int} {cs : List Cell} (e : errChart w h t cs = 0) : (cs.length : Int) = w * h ∧ errs errCell cs = 0 := by
  unfold errChart first2 at e
  split at e
  · split at e
    · rename_i h1; exact ⟨h1, e⟩
    · omega
  · rename_i h0; exact absurd e h0
theorem dry_1 {a : List Bool} {cs : List Cell} {k : Nat} (h : a.getD k false = true) (h2 : isZC (cs.getD k zeroC) = false) : dryErr a cs k = 30 := by
  unfold dryErr
  rw [if_pos h, if_neg (by rw [h2]; exact Bool.false_ne_true)]
theorem dry_2 {a : List Bool} {cs : List Cell} {k : Nat} (h : a.getD k false = true → isZC (cs.getD k zeroC) = true) : dryErr a cs k = 0 := by
  unfold dryErr
  by_cases q : a.getD k false = true
  · rw [if_pos q, if_pos (h q)]
  · rw [if_neg q]
theorem sides_0 {w h w' h' t : Int} {cs : List Cell} (e : errSides w h w' h' t cs = 0) : errChart w' h' t cs = 0 ∧ w' = w ∧ h' = h := by
  unfold errSides first2 at e
  split at e
  · rename_i h0
    split at e
    · rename_i h1; exact ⟨h0, h1⟩
    · omega
  · rename_i h0; exact absurd e h0
theorem kfits {w h : Int} {a : List Bool} (b : BasOk w h a.length) (w' h' t : Int) (cs : List Cell) {H : Heap} {i0 i1 : Nat} {o0 o1 : Bool} {z0 z1 : Nat} (e0 : H[i0]? = some (.cells o0 z0 (a.flatMap boolC))) (e1 : H[i1]? = some (.cells o1 z1 (cs.flatMap cellC))) :
    KCall prog F.drift_fits [basV w h i0 a.length, .agg #[.int .i64 w', .int .i64 h', .int .i64 t, .slice (some ⟨i1, 0, some 2⟩) cs.length cs.length]] H [] (Is (.int .i64 (errFits w h a w' h' t cs)) H) := by
  refine valR (Eq.mpr (Efits _ w h a w' h' t cs) ?_) (twoCs (plainBL 0 a) (plainC 0 cs)) rfl [i0, i1] rfl (twoId e0 e1)
  unfold Rfits
  refine ⟨⟨rfl, rfl, trivial⟩, fun H' _ hd => ksides w h a w' h' t cs hd.1 hd.2.1, forkNe (fun h0 => ?_) (fun h0 => ?_)⟩
  · exact iEq (first2_1 h0).symm
  have e : errFits w h a w' h' t cs = errDry a cs := first2_2 h0
  obtain ⟨s1, s2, s3⟩ := sides_0 h0
  obtain ⟨s4, _⟩ := errChart_len s1
  subst s2 s3
  have hn := b.n1
  have hp := b.p1
  rw [e]
  refine ⟨rfl, ⟨Nat.zero_le _, rfl⟩, ?_, fun _ => rfl, ?_⟩
  · repeat' first | exact trivial | exact rfl | exact wk_refl _ | refine wkO_cells ?_ | refine wks_cons ?_ ?_ | exact wks_nil | exact wk_nil _ _ _ (.inl rfl) | (exact wk_Q (by omega)) | refine wk_tupL ?_ | refine wk_aggL ?_ | refine joinMax ?_ ?_ ?_ | refine joinMin ?_ ?_ ?_ | refine toMax ?_ | refine toMin ?_ | refine ⟨rfl, ?_⟩ | refine ⟨trivial, ?_⟩ | (refine forkD (fun h => ?_) (fun h => ?_)) | (refine forkNe (fun h => ?_) (fun h => ?_)) | (refine forkEq (fun h => ?_) (fun h => ?_)) | refine forkNot ?_ | (refine ⟨vI64 (by omega), ?_⟩) | (refine And.intro (by omega) ?_) | apply And.intro | (exact iEq (by omega)) | (exact vI64 (by omega))
  rintro x ⟨j1, j2⟩
  refine forkD (fun k1 => ?_) (fun k1 => ?_)
  · have hx : x < cs.length := by omega
    refine ⟨by omega, partCell hx, by omega, boolAt (by omega) (by omega), fun ha => ⟨fun q => ?_, fun q => ?_⟩, fun ha => ?_⟩
    · exact iEq (by unfold errDry; rw [errUp_at j2 (by rw [dry_1 ha (notB q)]; decide) hx, dry_1 ha (notB q)])
    · refine ⟨vI64 (by omega), x + 1, ⟨by omega, errUp_succ j2 (dry_2 fun _ => notB2 q)⟩, by omega, rfl, ?_⟩
      repeat' first | exact trivial | exact rfl | exact wk_refl _ | refine wkO_cells ?_ | refine wks_cons ?_ ?_ | exact wks_nil | exact wk_nil _ _ _ (.inl rfl) | (exact wk_Q (by omega)) | refine wk_tupL ?_ | refine wk_aggL ?_ | refine joinMax ?_ ?_ ?_ | refine joinMin ?_ ?_ ?_ | refine toMax ?_ | refine toMin ?_ | refine ⟨rfl, ?_⟩ | refine ⟨trivial, ?_⟩ | (refine forkD (fun h => ?_) (fun h => ?_)) | (refine forkNe (fun h => ?_) (fun h => ?_)) | (refine forkEq (fun h => ?_) (fun h => ?_)) | refine forkNot ?_ | (refine ⟨vI64 (by omega), ?_⟩) | (refine And.intro (by omega) ?_) | apply And.intro | (exact iEq (by omega)) | (exact vI64 (by omega))
    · refine ⟨vI64 (by omega), x + 1, ⟨by omega, errUp_succ j2 (dry_2 fun q => by rw [ha] at q; cases q)⟩, by omega, rfl, ?_⟩
      repeat' first | exact trivial | exact rfl | exact wk_refl _ | refine wkO_cells ?_ | refine wks_cons ?_ ?_ | exact wks_nil | exact wk_nil _ _ _ (.inl rfl) | (exact wk_Q (by omega)) | refine wk_tupL ?_ | refine wk_aggL ?_ | refine joinMax ?_ ?_ ?_ | refine joinMin ?_ ?_ ?_ | refine toMax ?_ | refine toMin ?_ | refine ⟨rfl, ?_⟩ | refine ⟨trivial, ?_⟩ | (refine forkD (fun h => ?_) (fun h => ?_)) | (refine forkNe (fun h => ?_) (fun h => ?_)) | (refine forkEq (fun h => ?_) (fun h => ?_)) | refine forkNot ?_ | (refine ⟨vI64 (by omega), ?_⟩) | (refine And.intro (by omega) ?_) | apply And.intro | (exact iEq (by omega)) | (exact vI64 (by omega))
  · obtain rfl : x = cs.length := by omega
    exact iEq j2.symm
end
end Go.Proofs.Ytkkgnalgmebfjaa
/- Drift: a chart after a step. No condition. -/
namespace Go.Proofs.Ytkkgnalgmebfjaa
open Go Go.K
set_option maxRecDepth 100000
set_option linter.unusedVariables false
set_option linter.unusedSimpArgs false
noncomputable section
attribute [local irreducible] vF
theorem addAt_len (ps : List Pl) (t : Int) (x : Ice) : (addAt ps t x).length = ps.length := List.length_set
theorem addTo_len : ∀ (ts : List Int) (ps : List Pl) (x : Ice), (addTo ps ts x).length = ps.length
  | [], ps, x => rfl
  | t :: ts, ps, x => (addTo_len ts (addAt ps t x) x).trans (addAt_len ps t x)
theorem addTo_snoc (ts : List Int) (t : Int) (ps : List Pl) (x : Ice) : addTo ps (ts ++ [t]) x = addAt (addTo ps ts x) t x := by
  unfold addTo
  rw [List.foldl_append]; rfl
theorem mayTo_len (w h : Int) (a : List Bool) (l : List Flow) (cs : List Cell) : ∀ k, (mayTo w h a l cs k).length = a.length
  | 0 => by simp [mayTo]
  | k + 1 => by
    unfold mayTo
    split
    · exact mayTo_len w h a l cs k
    · rw [addTo_len]; exact mayTo_len w h a l cs k
theorem mustTo_len (w h : Int) (a : List Bool) (l : List Flow) (cs : List Cell) : ∀ k, (mustTo w h a l cs k).length = a.length
  | 0 => by simp [mustTo]
  | k + 1 => by
    unfold mustTo
    split
    · exact mustTo_len w h a l cs k
    · split
      · rw [addAt_len]; exact mustTo_len w h a l cs k
      · exact mustTo_len w h a l cs k
theorem plOk_at {m : Nat} {ps : List Pl} {t : Int} {x : Ice} (h : ∀ j, plOk m (ps.getD j zeroP)) (hx : rightI x) (j : Nat) : plOk (m + 1) ((addAt ps t x).getD j zeroP) := by
  unfold addAt
  by_cases hd : Int.toNat t < ps.length
  · rw [getD_set hd]
    split
    · exact plOk_add (h _) hx
    · exact plOk_mono (by omega) (h j)
  · rw [List.set_eq_of_length_le (by omega)]
    exact plOk_mono (by omega) (h j)
theorem plOk_to {x : Ice} (hx : rightI x) : ∀ (ts : List Int) {m : Nat} {ps : List Pl}, (∀ j, plOk m (ps.getD j zeroP)) → ∀ j, plOk (m + ts.length) ((addTo ps ts x).getD j zeroP)
  | [], m, ps, h, j => h j
  | t :: ts, m, ps, h, j => by
    have := plOk_to hx ts (m := m + 1) (ps := addAt ps t x) (plOk_at h hx) j
    rw [List.length_cons, show m + (ts.length + 1) = m + 1 + ts.length by omega]; exact this
theorem plOk_rep (n j : Nat) : plOk 0 ((List.replicate n zeroP).getD j zeroP) := by
  rw [List.getD_eq_getElem?_getD, List.getElem?_replicate]
  split <;> exact ⟨⟨by decide, by decide⟩, ⟨by decide, by decide⟩, by decide, by decide⟩
theorem TG_len {w h : Int} {a : List Bool} {l : List Flow} {k : Nat} (b : BasOk w h a.length) (hc : 0 ≤ (k : Int) ∧ (k : Int) < w * h) (hf : rightF (l.getD k zeroF)) : (TG w h a l k).length ≤ 25 := by
  unfold TG
  rw [← tgts_comp b hc]
  have h1 := comp_len (srtI (tgL w h a (k : Int) (l.getD k zeroF)))
  have h2 := srt_len (tgL w h a (k : Int) (l.getD k zeroF))
  have h3 := tgL_len w h a (k : Int) (l.getD k zeroF)
  have h4 := (movesF_bd hf).2
  omega
theorem TG_bd {w h : Int} {a : List Bool} {l : List Flow} {k : Nat} (b : BasOk w h a.length) {t : Int} (ht : t ∈ TG w h a l k) : 0 ≤ t ∧ t < (a.length : Int) := by
  unfold TG tgts truesL at ht
  obtain ⟨i, h1, _, rfl⟩ := truesTo_mem.1 ht
  have hn := b.n1
  unfold goesL at h1
  rw [tabP_len] at h1
  omega
theorem rightC_lo {c : Cell} (h : rightC c) : rightI (loI c) := by
  obtain ⟨⟨a1, a2, a3, a4⟩, ⟨b1, b2, b3, b4⟩, ⟨c1, c2, c3, c4⟩, ⟨d1, d2, d3, d4⟩⟩ := h
  exact ⟨⟨a1, a2⟩, ⟨b1, b2⟩, ⟨c1, c2⟩, d1, d2⟩
theorem rightC_hi {c : Cell} (h : rightC c) : rightI (hiI c) := by
  obtain ⟨⟨a1, a2, a3, a4⟩, ⟨b1, b2, b3, b4⟩, ⟨c1, c2, c3, c4⟩, ⟨d1, d2, d3, d4⟩⟩ := h
  refine ⟨⟨?_, a4⟩, ⟨?_, b4⟩, ⟨?_, c4⟩, ?_, d4⟩ <;> (unfold hiI; dsimp only; omega)
/-- What a step needs. -/
structure StepOk (w h : Int) (a : List Bool) (l : List Flow) (cs : List Cell) : Prop where
  b : BasOk w h a.length
  l1 : l.length = a.length
  f : ∀ f ∈ l, rightF f
  n : cs.length = a.length
  c : ∀ c ∈ cs, rightC c
theorem StepOk.fl {w h : Int} {a : List Bool} {l : List Flow} {cs : List Cell} (o : StepOk w h a l cs) {k : Nat} (hk : k < cs.length) : rightF (l.getD k zeroF) := o.f _ (getD_mem (by have := o.l1; have := o.n; omega))
theorem StepOk.ce {w h : Int} {a : List Bool} {l : List Flow} {cs : List Cell} (o : StepOk w h a l cs) {k : Nat} (hk : k < cs.length) : rightC (cs.getD k zeroC) := o.c _ (getD_mem hk)
theorem mayTo_ok {w h : Int} {a : List Bool} {l : List Flow} {cs : List Cell} (o : StepOk w h a l cs) : ∀ {k : Nat}, k ≤ cs.length → ∀ j, plOk (25 * k) ((mayTo w h a l cs k).getD j zeroP)
  | 0, _, j => plOk_rep _ _
  | k + 1, hk, j => by
    have ih := mayTo_ok o (k := k) (by omega)
    unfold mayTo
    split
    · exact plOk_mono (by omega) (ih j)
    · have hb := o.b.n1
      have := o.n
      have hl := TG_len (a := a) (l := l) (k := k) o.b ⟨by omega, by omega⟩ (o.fl (by omega))
      exact plOk_mono (by omega) (plOk_to (rightC_hi (o.ce (by omega))) (TG w h a l k) ih j)
theorem mustTo_ok {w h : Int} {a : List Bool} {l : List Flow} {cs : List Cell} (o : StepOk w h a l cs) : ∀ {k : Nat}, k ≤ cs.length → ∀ j, plOk (25 * k) ((mustTo w h a l cs k).getD j zeroP)
  | 0, _, j => plOk_rep _ _
  | k + 1, hk, j => by
    have ih := mustTo_ok o (k := k) (by omega)
    unfold mustTo
    split
    · exact plOk_mono (by omega) (ih j)
    · split
      · exact plOk_mono (by omega) (plOk_at ih (rightC_lo (o.ce (by omega))) j)
      · exact plOk_mono (by omega) (ih j)
theorem kTGs {w h : Int} {a : List Bool} {c : Int} {f : Flow} (b : BasOk w h a.length) (hc : 0 ≤ c ∧ c < w * h) (hf : rightF f) {H : Heap} {L : Nat} (hL : H.length = L) {id : Nat} {own : Bool} {z : Nat} (hid : H[id]? = some (.cells own z (a.flatMap boolC))) :
    KCall prog F.drift_sea_targets [basV w h id a.length, flowV f, .int .i64 c] H [] (Is (.slice (some ⟨L, 0, some 2⟩) (tgts w h a c f).length (tgts w h a c f).length) (H ++ [.cells true 1 ((tgts w h a c f ++ padT (tgL w h a c f)).flatMap intC)])) := by
  have := ktargets b hc hf hL hid
  rw [tgts_comp b hc] at this; exact this
theorem intAtL {a p : List Int} {k : Nat} (h : k < a.length) {off : Nat} (ho : off = k) : ((a ++ p).flatMap intC)[off]? = some (.int .i64 (a.getD k 0)) := by
  have := intAt (a := a ++ p) (k := k) (by rw [List.length_append]; omega) ho
  rw [this, List.getD_eq_getElem?_getD, List.getElem?_append_left h, ← List.getD_eq_getElem?_getD]
theorem take_snoc {α : Type} {l : List α} {d : α} {k : Nat} (h : k < l.length) : l.take (k + 1) = l.take k ++ [l.getD k d] := by
  rw [List.take_add_one, List.getElem?_eq_getElem h, List.getD_eq_getElem?_getD, List.getElem?_eq_getElem h]; rfl
theorem addAt_0 {ps : List Pl} {t : Int} {x : Ice} (h : x.conc = 0) : addAt ps t x = ps := by
  unfold addAt
  rw [show addP (ps.getD (Int.toNat t) zeroP) x = ps.getD (Int.toNat t) zeroP from if_pos h]
  exact set_same
theorem tell_ok {m : Nat} {p : Pl} (h : plOk m p) : 0 ≤ overP p ∧ overP p ≤ p.s := by
  obtain ⟨⟨h1, h2⟩, _⟩ := h
  unfold overP; omega
set_option maxHeartbeats 2000000 in
theorem kstep {w h : Int} {a : List Bool} {l : List Flow} {cs : List Cell} (o : StepOk w h a l cs) (w' h' t : Int) (ht : 0 ≤ t ∧ t ≤ 10000) {H : Heap} {L : Nat} (hL : H.length = L) {i0 i1 i2 : Nat} {o0 o1 o2 : Bool} {z0 z1 z2 : Nat} (e0 : H[i0]? = some (.cells o0 z0 (a.flatMap boolC)))
    (e1 : H[i1]? = some (.cells o1 z1 (l.flatMap flowC))) (e2 : H[i2]? = some (.cells o2 z2 (cs.flatMap cellC))) :
    KCall prog F.drift_sea_step [basV w h i0 a.length, .slice (some ⟨i1, 0, some 2⟩) l.length l.length, .agg #[.int .i64 w', .int .i64 h', .int .i64 t, .slice (some ⟨i2, 0, some 2⟩) cs.length cs.length]] H []
      (Is (.agg #[.int .i64 w', .int .i64 h', .int .i64 (t + 1), .slice (some ⟨L, 0, some 1⟩) (stepL w h a l cs).length (stepL w h a l cs).length]) (H ++ [.cells true 8 ((stepL w h a l cs).flatMap cellC)])) := by
  subst hL
  refine valNs (fun i => .agg #[.int .i64 w', .int .i64 h', .int .i64 (t + 1), .slice (some ⟨i, 0, some 1⟩) (stepL w h a l cs).length (stepL w h a l cs).length]) (css := [a.flatMap boolC, l.flatMap flowC, cs.flatMap cellC]) (new := [.cells true 8 ((stepL w h a l cs).flatMap cellC)]) (Eq.mpr (Estep w h a l w' h' t cs) ?_) ⟨plainBL 0 a, plainFL 0 l, plainC 0 cs, trivial⟩
    ⟨⟨_, _, rfl, plainC 0 _⟩, trivial⟩ rfl rfl (fun _ => rfl) (ids := [i0, i1, i2]) ⟨⟨_, _, e0⟩, ⟨_, _, e1⟩, ⟨_, _, e2⟩, trivial⟩ rfl
  unfold Rstep
  have hb := o.b
  have hn := o.b.n1
  have hp := o.b.p1
  have hla := o.l1
  have hca := o.n
  refine ⟨by omega, by omega, by omega, by omega, rfl, Nat.zero_le _, ?_, fun _ => rfl, ?_⟩
  · repeat' first | exact closO rfl rfl (closL_0 _ _ _ _).symm | exact trivial | exact rfl | exact wk_refl _ | refine wkO_cells ?_ | refine wks_cons ?_ ?_ | exact wks_nil | exact wk_nil _ _ _ (.inl rfl) | (exact wk_Q (by omega)) | refine wk_tupL ?_ | refine wk_aggL ?_ | refine joinMax ?_ ?_ ?_ | refine joinMin ?_ ?_ ?_ | refine toMax ?_ | refine toMin ?_ | refine ⟨rfl, ?_⟩ | refine ⟨trivial, ?_⟩ | (refine forkD (fun h => ?_) (fun h => ?_)) | (refine forkNe (fun h => ?_) (fun h => ?_)) | (refine forkEq (fun h => ?_) (fun h => ?_)) | refine forkNot ?_ | (refine ⟨vI64 (by omega), ?_⟩) | (refine And.intro (by omega) ?_) | apply And.intro | (exact iEq (by omega)) | (exact vI64 (by omega))
  intro x0 hx0
  refine forkD (fun k0 => ?_) (fun k0 => ?_)
  · refine ⟨⟨rfl, by omega, by rw [flat_len plC1_len, List.length_replicate]⟩, ⟨rfl, by omega, by rw [flat_len plC2_len, List.length_replicate]⟩, by omega, by rw [closL_len]; omega, rfl, by omega, by rw [closL_len]; omega, rfl,
      ⟨rfl, by omega, by rw [flat_len plC1_len, List.length_replicate]⟩, ⟨rfl, by omega, by rw [flat_len plC2_len, List.length_replicate]⟩, by omega, by rw [closL_len]; omega, rfl, by omega, by rw [closL_len]; omega, rfl, vI64 (by omega), x0 + 1, by omega, by omega, rfl, ?_⟩
    repeat' first | (exact closO rfl rfl (closL_set (by omega) (by omega))) | exact plainP1 _ _ | exact plainP2 _ _ | ((rw [rep_snoc, List.flatMap_append]; rfl)) | exact trivial | exact rfl | exact wk_refl _ | refine wkO_cells ?_ | refine wks_cons ?_ ?_ | exact wks_nil | exact wk_nil _ _ _ (.inl rfl) | (exact wk_Q (by omega)) | refine wk_tupL ?_ | refine wk_aggL ?_ | refine joinMax ?_ ?_ ?_ | refine joinMin ?_ ?_ ?_ | refine toMax ?_ | refine toMin ?_ | refine ⟨rfl, ?_⟩ | refine ⟨trivial, ?_⟩ | (refine forkD (fun h => ?_) (fun h => ?_)) | (refine forkNe (fun h => ?_) (fun h => ?_)) | (refine forkEq (fun h => ?_) (fun h => ?_)) | refine forkNot ?_ | (refine ⟨vI64 (by omega), ?_⟩) | (refine And.intro (by omega) ?_) | apply And.intro | (exact iEq (by omega)) | (exact vI64 (by omega))
  obtain rfl : x0 = a.length := by omega
  refine ⟨rfl, Nat.zero_le _, ?_, fun _ => rfl, ?_⟩
  · repeat' first | exact plainP1 _ _ | exact plainP2 _ _ | exact trivial | exact rfl | exact wk_refl _ | refine wkO_cells ?_ | refine wks_cons ?_ ?_ | exact wks_nil | exact wk_nil _ _ _ (.inl rfl) | (exact wk_Q (by omega)) | refine wk_tupL ?_ | refine wk_aggL ?_ | refine joinMax ?_ ?_ ?_ | refine joinMin ?_ ?_ ?_ | refine toMax ?_ | refine toMin ?_ | refine ⟨rfl, ?_⟩ | refine ⟨trivial, ?_⟩ | (refine forkD (fun h => ?_) (fun h => ?_)) | (refine forkNe (fun h => ?_) (fun h => ?_)) | (refine forkEq (fun h => ?_) (fun h => ?_)) | refine forkNot ?_ | (refine ⟨vI64 (by omega), ?_⟩) | (refine And.intro (by omega) ?_) | apply And.intro | (exact iEq (by omega)) | (exact vI64 (by omega))
  intro x1 hx1
  have hMl := mustTo_len w h a l cs x1
  have hAl := mayTo_len w h a l cs x1
  have hMo := mustTo_ok o hx1
  have hAo := mayTo_ok o hx1
  refine forkD (fun k1 => ?_) (fun k1 => ?_)
  · have hx : x1 < cs.length := by omega
    refine ⟨by omega, partCell hx, by omega, boolAt (by omega) (by omega), fun ha => ?_, fun ha => ?_⟩
    · have s1 : mustTo w h a l cs (x1 + 1) = mustTo w h a l cs x1 := if_pos ha
      have s2 : mayTo w h a l cs (x1 + 1) = mayTo w h a l cs x1 := if_pos ha
      refine ⟨vI64 (by omega), x1 + 1, by omega, by omega, rfl, ?_⟩
      rw [s1, s2]
      repeat' first | exact plainP1 _ _ | exact plainP2 _ _ | exact trivial | exact rfl | exact wk_refl _ | refine wkO_cells ?_ | refine wks_cons ?_ ?_ | exact wks_nil | exact wk_nil _ _ _ (.inl rfl) | (exact wk_Q (by omega)) | refine wk_tupL ?_ | refine wk_aggL ?_ | refine joinMax ?_ ?_ ?_ | refine joinMin ?_ ?_ ?_ | refine toMax ?_ | refine toMin ?_ | refine ⟨rfl, ?_⟩ | refine ⟨trivial, ?_⟩ | (refine forkD (fun h => ?_) (fun h => ?_)) | (refine forkNe (fun h => ?_) (fun h => ?_)) | (refine forkEq (fun h => ?_) (fun h => ?_)) | refine forkNot ?_ | (refine ⟨vI64 (by omega), ?_⟩) | (refine And.intro (by omega) ?_) | apply And.intro | (exact iEq (by omega)) | (exact vI64 (by omega))
    have hf := o.fl hx
    have hc := o.ce hx
    have hcl := rightC_lo hc
    have hch := rightC_hi hc
    have hc0 : 0 ≤ (x1 : Int) ∧ (x1 : Int) < w * h := by omega
    have hna : ¬ a.getD x1 false = true := by rw [ha]; exact Bool.false_ne_true
    have hTl := TG_len (a := a) (l := l) (k := x1) hb hc0 hf
    have hTb : ∀ {k}, k < (TG w h a l x1).length → 0 ≤ (TG w h a l x1).getD k 0 ∧ (TG w h a l x1).getD k 0 < (a.length : Int) := fun hk => TG_bd hb (getD_mem hk)
    have hmay : mayTo w h a l cs (x1 + 1) = addTo (mayTo w h a l cs x1) (TG w h a l x1) (hiI (cs.getD x1 zeroC)) := if_neg hna
    have hmust : mustTo w h a l cs (x1 + 1) = if (TG w h a l x1).length = 1 then addAt (mustTo w h a l cs x1) ((TG w h a l x1).getD 0 0) (loI (cs.getD x1 zeroC)) else mustTo w h a l cs x1 := if_neg hna
    rw [show tgts w h a (x1 : Int) (l.getD x1 zeroF) = TG w h a l x1 from rfl]
    refine ⟨by omega, partFlow (by omega), ⟨rfl, trivial⟩, fun H' hl hd => kTGs hb hc0 hf hl hd.1, forkEq (fun q1 => ⟨by omega, intAtL (by omega) rfl, hTb (by omega), closL_get (by have := hTb (k := 0) (by omega); omega) (by have := hTb (k := 0) (by omega); omega) (by omega), trivial, fun H' _ _ => kleast _ H', forkEq (fun q2 => ?_) (fun q2 => ?_)⟩) (fun q1 => ?_)⟩
    have hm : mustTo w h a l cs (x1 + 1) = mustTo w h a l cs x1 := by rw [hmust, if_pos (by omega)]; exact addAt_0 q2
    rw [← hm]
    rotate_left
    have ht0 := hTb (k := 0) (by omega)
    have hd : Int.toNat ((TG w h a l x1).getD 0 0) < (mustTo w h a l cs x1).length := by omega
    have hP := hMo (Int.toNat ((TG w h a l x1).getD 0 0))
    have hm : mustTo w h a l cs (x1 + 1) = (mustTo w h a l cs x1).set (Int.toNat ((TG w h a l x1).getD 0 0)) (addP ((mustTo w h a l cs x1).getD (Int.toNat ((TG w h a l x1).getD 0 0)) zeroP) (loI (cs.getD x1 zeroC))) := by rw [hmust, if_pos (by omega)]; rfl
    have a1 := pl1At hd
    have a2 := pl2At hd
    generalize (mustTo w h a l cs x1).getD (Int.toNat ((TG w h a l x1).getD 0 0)) zeroP = p at *
    have hA : addP p (loI (cs.getD x1 zeroC)) = ⟨p.s + (cs.getD x1 zeroC).conc.lo, max p.t (cs.getD x1 zeroC).thick.lo, max p.r (cs.getD x1 zeroC).ridge.lo⟩ := if_neg q2
    have s1 := pl1Set hd (addP p (loI (cs.getD x1 zeroC)))
    have s2 := pl2Set hd (addP p (loI (cs.getD x1 zeroC)))
    rw [← hm, hA] at s1 s2
    obtain ⟨hp1, hp2, hp3⟩ := hP
    obtain ⟨hx1', hx2', hx3', hx4'⟩ := hcl
    unfold loI at hx1' hx2' hx3'
    dsimp only at hx1' hx2' hx3'
    refine ⟨a1, vI64 (by omega), by rw [flat_len plC1_len]; omega, rfl, a2.1, toMax ⟨a2.2, toMax ⟨by rw [flat_len plC2_len]; omega, rfl, by rw [setl_length, flat_len plC2_len]; omega, rfl, ?_⟩⟩⟩
    rw [s1, s2]
    rotate_left
    have hm : mustTo w h a l cs (x1 + 1) = mustTo w h a l cs x1 := by rw [hmust, if_neg (by omega)]
    rw [← hm]
    rotate_left
    all_goals
      refine ⟨rfl, Nat.zero_le _, ?_, fun _ => rfl, ?_⟩
      · repeat' first | exact plainP1 _ _ | exact plainP2 _ _ | exact trivial | exact rfl | exact wk_refl _ | refine wkO_cells ?_ | refine wks_cons ?_ ?_ | exact wks_nil | exact wk_nil _ _ _ (.inl rfl) | (exact wk_Q (by omega)) | refine wk_tupL ?_ | refine wk_aggL ?_ | refine joinMax ?_ ?_ ?_ | refine joinMin ?_ ?_ ?_ | refine toMax ?_ | refine toMin ?_ | refine ⟨rfl, ?_⟩ | refine ⟨trivial, ?_⟩ | (refine forkD (fun h => ?_) (fun h => ?_)) | (refine forkNe (fun h => ?_) (fun h => ?_)) | (refine forkEq (fun h => ?_) (fun h => ?_)) | refine forkNot ?_ | (refine ⟨vI64 (by omega), ?_⟩) | (refine And.intro (by omega) ?_) | apply And.intro | (exact iEq (by omega)) | (exact vI64 (by omega))
      intro y hy
      have hPl := addTo_len ((TG w h a l x1).take y) (mayTo w h a l cs x1) (hiI (cs.getD x1 zeroC))
      have hPo := plOk_to hch ((TG w h a l x1).take y) hAo
      have hly : ((TG w h a l x1).take y).length = y := by rw [List.length_take]; omega
      rw [hly] at hPo
      refine forkD (fun k5 => ?_) (fun k5 => ?_)
      · have hy' : y < (TG w h a l x1).length := by omega
        have ht0 := hTb hy'
        have hsn : addTo (mayTo w h a l cs x1) ((TG w h a l x1).take (y + 1)) (hiI (cs.getD x1 zeroC)) = addAt (addTo (mayTo w h a l cs x1) ((TG w h a l x1).take y) (hiI (cs.getD x1 zeroC))) ((TG w h a l x1).getD y 0) (hiI (cs.getD x1 zeroC)) := by
          rw [take_snoc (d := 0) hy', addTo_snoc]
        refine ⟨by omega, intAtL hy' (by omega), ht0, closL_get (by omega) (by omega) (by omega), trivial, fun H' _ _ => kgreatest _ H', forkEq (fun q6 => ?_) (fun q6 => ?_)⟩
        · have h3 : addTo (mayTo w h a l cs x1) ((TG w h a l x1).take (y + 1)) (hiI (cs.getD x1 zeroC)) = addTo (mayTo w h a l cs x1) ((TG w h a l x1).take y) (hiI (cs.getD x1 zeroC)) := by rw [hsn]; exact addAt_0 q6
          refine ⟨vI64 (by omega), y + 1, by omega, by omega, rfl, ?_⟩
          rw [h3]
          repeat' first | exact plainP1 _ _ | exact plainP2 _ _ | exact trivial | exact rfl | exact wk_refl _ | refine wkO_cells ?_ | refine wks_cons ?_ ?_ | exact wks_nil | exact wk_nil _ _ _ (.inl rfl) | (exact wk_Q (by omega)) | refine wk_tupL ?_ | refine wk_aggL ?_ | refine joinMax ?_ ?_ ?_ | refine joinMin ?_ ?_ ?_ | refine toMax ?_ | refine toMin ?_ | refine ⟨rfl, ?_⟩ | refine ⟨trivial, ?_⟩ | (refine forkD (fun h => ?_) (fun h => ?_)) | (refine forkNe (fun h => ?_) (fun h => ?_)) | (refine forkEq (fun h => ?_) (fun h => ?_)) | refine forkNot ?_ | (refine ⟨vI64 (by omega), ?_⟩) | (refine And.intro (by omega) ?_) | apply And.intro | (exact iEq (by omega)) | (exact vI64 (by omega))
        · generalize addTo (mayTo w h a l cs x1) ((TG w h a l x1).take y) (hiI (cs.getD x1 zeroC)) = P at *
          have hd : Int.toNat ((TG w h a l x1).getD y 0) < P.length := by omega
          have hP := hPo (Int.toNat ((TG w h a l x1).getD y 0))
          have a1 := pl1At hd
          have a2 := pl2At hd
          have hsn : addTo (mayTo w h a l cs x1) ((TG w h a l x1).take (y + 1)) (hiI (cs.getD x1 zeroC)) = P.set (Int.toNat ((TG w h a l x1).getD y 0)) (addP (P.getD (Int.toNat ((TG w h a l x1).getD y 0)) zeroP) (hiI (cs.getD x1 zeroC))) := hsn
          generalize P.getD (Int.toNat ((TG w h a l x1).getD y 0)) zeroP = p at *
          have hA : addP p (hiI (cs.getD x1 zeroC)) = ⟨p.s + (cs.getD x1 zeroC).conc.hi, max p.t (cs.getD x1 zeroC).thick.hi, max p.r (cs.getD x1 zeroC).ridge.hi⟩ := if_neg q6
          have s1 := pl1Set hd (addP p (hiI (cs.getD x1 zeroC)))
          have s2 := pl2Set hd (addP p (hiI (cs.getD x1 zeroC)))
          rw [← hsn, hA] at s1 s2
          obtain ⟨hp1, hp2, hp3⟩ := hP
          obtain ⟨hx1', hx2', hx3', hx4'⟩ := hch
          unfold hiI at hx1' hx2' hx3'
          dsimp only at hx1' hx2' hx3'
          refine ⟨a1, vI64 (by omega), by rw [flat_len plC1_len]; omega, rfl, a2.1, toMax ⟨a2.2, toMax ⟨by rw [flat_len plC2_len]; omega, rfl, by rw [setl_length, flat_len plC2_len]; omega, rfl, vI64 (by omega), y + 1, by omega, by omega, rfl, ?_⟩⟩⟩
          rw [s1, s2]
          repeat' first | exact plainP1 _ _ | exact plainP2 _ _ | exact trivial | exact rfl | exact wk_refl _ | refine wkO_cells ?_ | refine wks_cons ?_ ?_ | exact wks_nil | exact wk_nil _ _ _ (.inl rfl) | (exact wk_Q (by omega)) | refine wk_tupL ?_ | refine wk_aggL ?_ | refine joinMax ?_ ?_ ?_ | refine joinMin ?_ ?_ ?_ | refine toMax ?_ | refine toMin ?_ | refine ⟨rfl, ?_⟩ | refine ⟨trivial, ?_⟩ | (refine forkD (fun h => ?_) (fun h => ?_)) | (refine forkNe (fun h => ?_) (fun h => ?_)) | (refine forkEq (fun h => ?_) (fun h => ?_)) | refine forkNot ?_ | (refine ⟨vI64 (by omega), ?_⟩) | (refine And.intro (by omega) ?_) | apply And.intro | (exact iEq (by omega)) | (exact vI64 (by omega))
      · obtain rfl : y = (TG w h a l x1).length := by omega
        rw [List.take_length, ← hmay]
        refine ⟨vI64 (by omega), x1 + 1, by omega, by omega, rfl, ?_⟩
        repeat' first | exact plainP1 _ _ | exact plainP2 _ _ | exact trivial | exact rfl | exact wk_refl _ | refine wkO_cells ?_ | refine wks_cons ?_ ?_ | exact wks_nil | exact wk_nil _ _ _ (.inl rfl) | (exact wk_Q (by omega)) | refine wk_tupL ?_ | refine wk_aggL ?_ | refine joinMax ?_ ?_ ?_ | refine joinMin ?_ ?_ ?_ | refine toMax ?_ | refine toMin ?_ | refine ⟨rfl, ?_⟩ | refine ⟨trivial, ?_⟩ | (refine forkD (fun h => ?_) (fun h => ?_)) | (refine forkNe (fun h => ?_) (fun h => ?_)) | (refine forkEq (fun h => ?_) (fun h => ?_)) | refine forkNot ?_ | (refine ⟨vI64 (by omega), ?_⟩) | (refine And.intro (by omega) ?_) | apply And.intro | (exact iEq (by omega)) | (exact vI64 (by omega))
  obtain rfl : x1 = cs.length := by omega
  refine ⟨vI64 (by omega), rfl, Nat.zero_le _, ?_, fun _ => rfl, ?_⟩
  · repeat' first | exact trivial | exact rfl | exact wk_refl _ | refine wkO_cells ?_ | refine wks_cons ?_ ?_ | exact wks_nil | exact wk_nil _ _ _ (.inl rfl) | (exact wk_Q (by omega)) | refine wk_tupL ?_ | refine wk_aggL ?_ | refine joinMax ?_ ?_ ?_ | refine joinMin ?_ ?_ ?_ | refine toMax ?_ | refine toMin ?_ | refine ⟨rfl, ?_⟩ | refine ⟨trivial, ?_⟩ | (refine forkD (fun h => ?_) (fun h => ?_)) | (refine forkNe (fun h => ?_) (fun h => ?_)) | (refine forkEq (fun h => ?_) (fun h => ?_)) | refine forkNot ?_ | (refine ⟨vI64 (by omega), ?_⟩) | (refine And.intro (by omega) ?_) | apply And.intro | (exact iEq (by omega)) | (exact vI64 (by omega))
  intro x2 hx2
  refine forkD (fun k2 => ?_) (fun k2 => ?_)
  · have hd : x2 < (mustTo w h a l cs cs.length).length := by omega
    have hd2 : x2 < (mayTo w h a l cs cs.length).length := by omega
    have a1 := pl1At hd
    have a2 := pl2At hd
    have b1 := pl1At hd2
    have b2 := pl2At hd2
    have hpm := hMo x2
    have hpa := hAo x2
    have hS : tabP (stepC w h a l cs) (x2 + 1) = tabP (stepC w h a l cs) x2 ++ [stepC w h a l cs x2] := tabP_succ _ _
    have hSx : stepC w h a l cs x2 = cellOf (tellP ((mustTo w h a l cs cs.length).getD x2 zeroP)) (tellP ((mayTo w h a l cs cs.length).getD x2 zeroP)) := rfl
    generalize (mustTo w h a l cs cs.length).getD x2 zeroP = p at *
    generalize (mayTo w h a l cs cs.length).getD x2 zeroP = p' at *
    have o1 := tell_ok hpm
    have o2 := tell_ok hpa
    obtain ⟨m1, m2, m3⟩ := hpm
    obtain ⟨n1, n2, n3⟩ := hpa
    have hov : ∀ p : Pl, (if (0 : Int) > p.s - 100 then (0 : Int) else p.s - 100) = overP p := fun p => by unfold overP; rw [ite_max]
    have d1 := tdiv_bd (d := 10) o1.1 (by decide)
    have d2 := tdiv_bd (d := 5) o1.1 (by decide)
    have d3 := tdiv_bd (o := overP p + 25 - 1) (d := 25) (by omega) (by decide)
    have f1 := tdiv_bd (d := 10) o2.1 (by decide)
    have f2 := tdiv_bd (d := 5) o2.1 (by decide)
    have f3 := tdiv_bd (o := overP p' + 25 - 1) (d := 25) (by omega) (by decide)
    have l1 : (tabP (stepC w h a l cs) x2).length = x2 := tabP_len _ _
    have c1 := flat_le cellC_len (tabP (stepC w h a l cs) x2)
    have c2 := ob_snoc (own := true) cellC_len hS (by rw [hSx])
    rw [l1] at c1 c2
    rw [hov p, hov p']
    refine ⟨by omega, closL_get (by omega) (by omega) (by omega), a1, vI64 (by omega), a1, vI64 (by omega), a2.1, vI64 (by omega), vI64 (by omega), toMin ⟨a2.2, vI64 (by omega), vI64 (by omega), toMin ⟨vI64 (by omega), vI64 (by omega), vI64 (by omega), toMin
      ⟨by omega, closL_get (by omega) (by omega) (by omega), b1, vI64 (by omega), b1, vI64 (by omega), b2.1, vI64 (by omega), vI64 (by omega), toMin ⟨b2.2, vI64 (by omega), vI64 (by omega), toMin ⟨vI64 (by omega), vI64 (by omega), vI64 (by omega), toMin ?_⟩⟩⟩⟩⟩⟩
    repeat' first | (refine ⟨x2 + 1, by omega, by omega, rfl, ?_⟩) | exact c2 | exact plainC _ _ | exact c1 | exact Nat.le_refl _ | exact trivial | exact rfl | exact wk_refl _ | refine wkO_cells ?_ | refine wks_cons ?_ ?_ | exact wks_nil | exact wk_nil _ _ _ (.inl rfl) | (exact wk_Q (by omega)) | refine wk_tupL ?_ | refine wk_aggL ?_ | refine joinMax ?_ ?_ ?_ | refine joinMin ?_ ?_ ?_ | refine toMax ?_ | refine toMin ?_ | refine ⟨rfl, ?_⟩ | refine ⟨trivial, ?_⟩ | (refine forkD (fun h => ?_) (fun h => ?_)) | (refine forkNe (fun h => ?_) (fun h => ?_)) | (refine forkEq (fun h => ?_) (fun h => ?_)) | refine forkNot ?_ | (refine ⟨vI64 (by omega), ?_⟩) | (refine And.intro (by omega) ?_) | apply And.intro | (exact iEq (by omega)) | (exact vI64 (by omega))
  · obtain rfl : x2 = a.length := by omega
    rw [show tabP (stepC w h a l cs) a.length = stepL w h a l cs from rfl, show (stepL w h a l cs).length = a.length from tabP_len _ _]
    repeat' first | exact plainC _ _ | exact trivial | exact rfl | exact wk_refl _ | refine wkO_cells ?_ | refine wks_cons ?_ ?_ | exact wks_nil | exact wk_nil _ _ _ (.inl rfl) | (exact wk_Q (by omega)) | refine wk_tupL ?_ | refine wk_aggL ?_ | refine joinMax ?_ ?_ ?_ | refine joinMin ?_ ?_ ?_ | refine toMax ?_ | refine toMin ?_ | refine ⟨rfl, ?_⟩ | refine ⟨trivial, ?_⟩ | (refine forkD (fun h => ?_) (fun h => ?_)) | (refine forkNe (fun h => ?_) (fun h => ?_)) | (refine forkEq (fun h => ?_) (fun h => ?_)) | refine forkNot ?_ | (refine ⟨vI64 (by omega), ?_⟩) | (refine And.intro (by omega) ?_) | apply And.intro | (exact iEq (by omega)) | (exact vI64 (by omega))
end
end Go.Proofs.Ytkkgnalgmebfjaa
/- Drift: the chart an hour later, or the error. No condition. -/
namespace Go.Proofs.Ytkkgnalgmebfjaa
open Go Go.K
set_option maxRecDepth 100000
set_option linter.unusedVariables false
set_option linter.unusedSimpArgs false
noncomputable section
attribute [local irreducible] vF
abbrev chV (k i : Nat) (c : Chart) : Value := .agg #[.int .i64 c.w, .int .i64 c.h, .int .i64 c.hour, .slice (some ⟨i, 0, some k⟩) c.cells.length c.cells.length]
theorem errFits_0 {w h : Int} {a : List Bool} {w' h' t : Int} {cs : List Cell} (e : errFits w h a w' h' t cs = 0) : errSides w h w' h' t cs = 0 ∧ errDry a cs = 0 := by
  unfold errFits first2 at e
  split at e
  · rename_i h0; exact ⟨h0, e⟩
  · rename_i h0; exact absurd e h0
/-- Right flows, and a chart that fits. -/
theorem stepOk {w h : Int} {a : List Bool} {l : List Flow} {w' h' t : Int} {cs : List Cell} (e1 : errFlows w h a.length l = 0) (e2 : errFits w h a w' h' t cs = 0) : StepOk w h a l cs ∧ w' = w ∧ h' = h ∧ (0 ≤ t ∧ t ≤ 10000) := by
  obtain ⟨f1, f2, f3⟩ := errFlows_0 e1
  obtain ⟨s1, s2⟩ := errFits_0 e2
  obtain ⟨c1, c2, c3⟩ := sides_0 s1
  obtain ⟨c4, c5, _, c6⟩ := errChart_ok c1
  have hb := basOk f1
  have hn := hb.n1
  subst c2 c3
  exact ⟨⟨hb, f2, errF_all f3, by omega, c6⟩, rfl, rfl, by obtain ⟨_, _, _, q⟩ := c4; exact q⟩
theorem stErr {r : Chart × Int} {e : Int} (h : r = (zeroChart, e)) : true = true ∧ wk (.tuple #[.agg #[.int .i64 0, .int .i64 0, .int .i64 0, .slice none 0 0], .int .i64 e] : Value) (rn (sg 3 []) 3 (.tuple #[chV 1 3 r.1, .int .i64 r.2])) ∧ (True ∧ True) := by
  subst h
  exact ⟨rfl, wk_tupL ⟨wk_aggL ⟨wk_refl _, wk_refl _, wk_refl _, wk_nil _ _ _ (.inl rfl), trivial⟩, wk_refl _, trivial⟩, trivial, trivial⟩
theorem kStep (w h : Int) (a : List Bool) (l : List Flow) (hl : l.length ≤ 4294967296) (w' h' t : Int) (cs : List Cell) {H : Heap} {L : Nat} (hL : H.length = L) {i0 i1 i2 : Nat} {o0 o1 o2 : Bool} {z0 z1 z2 : Nat} (e0 : H[i0]? = some (.cells o0 z0 (a.flatMap boolC)))
    (e1 : H[i1]? = some (.cells o1 z1 (l.flatMap flowC))) (e2 : H[i2]? = some (.cells o2 z2 (cs.flatMap cellC))) :
    KCall prog F.drift_Step [basV w h i0 a.length, .slice (some ⟨i1, 0, some 2⟩) l.length l.length, .agg #[.int .i64 w', .int .i64 h', .int .i64 t, .slice (some ⟨i2, 0, some 2⟩) cs.length cs.length]] H []
      (Is (.tuple #[chV 1 L (fStep w h a l w' h' t cs).1, .int .i64 (fStep w h a l w' h' t cs).2]) (H ++ [.cells true 8 ((fStep w h a l w' h' t cs).1.cells.flatMap cellC)])) := by
  subst hL
  refine valNs (fun i => .tuple #[chV 1 i (fStep w h a l w' h' t cs).1, .int .i64 (fStep w h a l w' h' t cs).2]) (css := [a.flatMap boolC, l.flatMap flowC, cs.flatMap cellC]) (new := [.cells true 8 ((fStep w h a l w' h' t cs).1.cells.flatMap cellC)]) (Eq.mpr (EStep w h a l w' h' t cs) ?_) ⟨plainBL 0 a, plainFL 0 l, plainC 0 cs, trivial⟩
    ⟨⟨_, _, rfl, plainC 0 _⟩, trivial⟩ rfl rfl (fun _ => rfl) (ids := [i0, i1, i2]) ⟨⟨_, _, e0⟩, ⟨_, _, e1⟩, ⟨_, _, e2⟩, trivial⟩ rfl
  unfold RStep
  refine ⟨⟨rfl, rfl, trivial⟩, fun H' _ hd => kCheckFlows w h a l hl hd.1 hd.2.1, forkNe (fun h0 => stErr (if_neg h0)) (fun h0 => ?_)⟩
  have hb := basOk (errFlows_0 h0).1
  have E1 : fStep w h a l w' h' t cs = if errFits w h a w' h' t cs = 0 then (if t = 10000 then (zeroChart, 6) else (⟨w', h', t + 1, stepL w h a l cs⟩, 0)) else (zeroChart, errFits w h a w' h' t cs) := if_pos h0
  refine ⟨⟨rfl, rfl, trivial⟩, fun H' _ hd => kfits hb w' h' t cs hd.1 hd.2.1, forkNe (fun h1 => stErr (by rw [E1, if_neg h1])) (fun h1 => ?_)⟩
  rw [if_pos h1] at E1
  obtain ⟨o, _, _, ht⟩ := stepOk h0 h1
  refine forkEq (fun h2 => stErr (by rw [E1, if_pos h2])) (fun h2 => ⟨⟨rfl, rfl, rfl, trivial⟩, fun H' hl hd => kstep o w' h' t ht hl hd.1 hd.2.1 hd.2.2.1, ?_⟩)
  rw [if_neg h2] at E1
  rw [E1]
  repeat' first | exact plainC _ _ | exact trivial | exact rfl | exact wk_refl _ | refine wkO_cells ?_ | refine wks_cons ?_ ?_ | exact wks_nil | exact wk_nil _ _ _ (.inl rfl) | (exact wk_Q (by omega)) | refine wk_tupL ?_ | refine wk_aggL ?_ | refine joinMax ?_ ?_ ?_ | refine joinMin ?_ ?_ ?_ | refine toMax ?_ | refine toMin ?_ | refine ⟨rfl, ?_⟩ | refine ⟨trivial, ?_⟩ | (refine forkD (fun h => ?_) (fun h => ?_)) | (refine forkNe (fun h => ?_) (fun h => ?_)) | (refine forkEq (fun h => ?_) (fun h => ?_)) | refine forkNot ?_ | (refine ⟨vI64 (by omega), ?_⟩) | (refine And.intro (by omega) ?_) | apply And.intro | (exact iEq (by omega)) | (exact vI64 (by omega))
end
end Go.Proofs.Ytkkgnalgmebfjaa
/- Functions that write one block that holds numbers and values alone, and read others: their contracts in every memory. No condition. -/
namespace Go.K
set_option linter.unusedSimpArgs false
open Go
set_option linter.unusedVariables false
noncomputable section
variable {P : Program}

theorem rn_VRw {ρ ρ' : Ren} {σ : Nat → Option Nat} (hσ : ∀ id id' r, σ id = some id' → ρ' id' = some r → ∃ r', ρ id = some r' ∧ r'.b = r.b ∧ r'.s = r.s ∧ (r'.own = false ∨ r' = r)) (hm : ∀ b m, ρ'.mem b = some m → ρ.mem b = some m) (hg : ∀ F F' k r, σ F = some F' → ρ'.g F' k = some r → ρ.g F k = some r) : ∀ (d : Nat) {v r : Value}, VR ρ' (rn σ d v) r → VR ρ v r := by
  intro d
  induction d with
  | zero => intro v r h; exact (VR.bad h).elim
  | succ d ih =>
    have ptr : ∀ {id id' off : Nat} {r : RI}, σ id = some id' → ρ' id' = some r → VR ρ (.pointer (some ⟨id, off, none⟩)) (.pointer (some ⟨r.b, off + r.s, none⟩)) := by
      intro id id' off r g k
      obtain ⟨r', a1, a2, a3, _⟩ := hσ _ _ _ g k
      rw [← a2, ← a3]; exact .ptr a1
    have slc : ∀ {id id' off len cap cap' : Nat} {r : RI}, σ id = some id' → ρ' id' = some r → len ≤ cap → cap ≤ cap' → (r.own = true → r.z ≠ 0 → off + r.s + cap' * r.z ≤ r.n) → VR ρ (.slice (some ⟨id, off, none⟩) len cap) (.slice (some ⟨r.b, off + r.s, none⟩) len cap') := by
      intro id id' off len cap cap' r g k hl hc ho
      obtain ⟨r', a1, a2, a3, a4⟩ := hσ _ _ _ g k
      rcases a4 with a4 | rfl
      · rw [← a2, ← a3]; exact .slice a1 hl hc (fun h => by rw [a4] at h; cases h)
      · exact .slice a1 hl hc ho
    have slQ : ∀ {id id' off len cap cap' : Nat} {r : RI}, σ id = some id' → ρ' id' = some r → 0 < len → len ≤ cap → cap ≤ cap' → (r.own = true → r.z ≠ 0 → off + r.s + cap' * r.z ≤ r.n) → VR ρ (.slice (some ⟨id, off, some 1⟩) len cap) (.slice (some ⟨r.b, off + r.s, none⟩) len cap') := by
      intro id id' off len cap cap' r g k hp hl hc ho
      obtain ⟨r', a1, a2, a3, a4⟩ := hσ _ _ _ g k
      rcases a4 with a4 | rfl
      · rw [← a2, ← a3]; exact .sliceQ a1 hp hl hc (fun h => by rw [a4] at h; cases h)
      · exact .sliceQ a1 hp hl hc ho
    have slR : ∀ {id id' off len cap cap' : Nat} {r : RI}, σ id = some id' → ρ' id' = some r → 0 < len → len ≤ cap → cap ≤ cap' → (r.own = true → r.z ≠ 0 → off + r.s + cap' * r.z ≤ r.n) → VR ρ (.slice (some ⟨id, off, some 2⟩) len cap) (.slice (some ⟨r.b, off + r.s, none⟩) len cap') := by
      intro id id' off len cap cap' r g k hp hl hc ho
      obtain ⟨r', a1, a2, a3, a4⟩ := hσ _ _ _ g k
      rcases a4 with a4 | rfl
      · rw [← a2, ← a3]; exact .sliceR a1 hp hl hc (fun h => by rw [a4] at h; cases h)
      · exact .sliceR a1 hp hl hc ho
    intro v r h
    unfold rn at h
    split at h
    · split at h
      · rename_i g; cases h with | ptr k => exact ptr g k
      · exact (VR.bad h).elim
    · split at h
      · rename_i g; cases h with | fptr k => exact .fptr (hg _ _ _ _ g k)
      · exact (VR.bad h).elim
    · split at h
      · rename_i g
        cases h with
        | slice k hl hc ho => exact slc g k hl hc ho
        | slice0 k => obtain ⟨r', a1, a2, a3, _⟩ := hσ _ _ _ g k; rw [← a2]; exact .slice0 a1
      · exact (VR.bad h).elim
    · split at h
      · rename_i g
        cases h with
        | sliceQn => exact .sliceQn
        | sliceQe => exact .sliceQe
        | sliceQ k hp hl hc ho => exact slQ g k hp hl hc ho
        | sliceRe => exact .sliceRe
        | sliceR k hp hl hc ho => exact slR g k hp hl hc ho
      · split at h
        · cases h with
          | sliceQn => exact .sliceQn
          | sliceQe => exact .sliceQe
          | sliceQ k hp hl hc ho => exact absurd hp (Nat.lt_irrefl 0)
          | sliceRe => exact .sliceRe
          | sliceR k hp hl hc ho => exact absurd hp (Nat.lt_irrefl 0)
        · exact (VR.bad h).elim
    · split at h
      · rename_i g; cases h with | map k => obtain ⟨r', a1, a2, _⟩ := hσ _ _ _ g k; rw [← a2]; exact .map a1
      · exact (VR.bad h).elim
    · split at h
      · rename_i g; cases h with | yield k => obtain ⟨r', a1, a2, _⟩ := hσ _ _ _ g k; rw [← a2]; exact .yield a1
      · exact (VR.bad h).elim
    · cases h with
      | func h1 h2 h3 h4 =>
        obtain ⟨a1, a2⟩ := arr_map ih h1 h2
        obtain ⟨b1, b2⟩ := arr_map ih h3 h4
        exact .func a1 a2 b1 b2
    · exact (VR.bad h).elim
    · cases h with | agg h1 h2 => obtain ⟨a1, a2⟩ := arr_map ih h1 h2; exact .agg a1 a2
    · cases h with | tuple h1 h2 => obtain ⟨a1, a2⟩ := arr_map ih h1 h2; exact .tuple a1 a2
    · cases h with
      | deep g1 g2 g3 g4 g5 => obtain ⟨a1, a2⟩ := deep_map ih g4 g5; exact .deep (hm _ _ g1) g2 g3 a1 a2
      | deep0 => exact .deep0
    · cases h with | deepP g1 g2 g3 => obtain ⟨a1, a2⟩ := deep_map ih g2 g3; exact .deepP (hm _ _ g1) a1 a2
    · rename_i n1 n1f n2 n2q n3 n4 n5 n6 n7 n8 n9 n10
      cases h with
      | junk => exact .junk _
      | bool b => exact .bool b
      | int k n => exact .int k n
      | float k n => exact .float k n
      | string s => exact .string s
      | ptrNil => exact .ptrNil
      | ptr k => exact absurd rfl (n1 _ _)
      | fptr k => exact absurd rfl (n1f _ _ _)
      | sliceNil => exact .sliceNil
      | slice k hl hc ho => exact absurd rfl (n2 _ _ _ _)
      | slice0 k => exact absurd rfl (n2 _ _ _ _)
      | sliceE => exact .sliceE
      | sliceQn => exact .sliceQn
      | sliceQe => exact .sliceQe
      | sliceQ => exact absurd rfl (n2q _ _ _ _ _)
      | sliceRe => exact .sliceRe
      | sliceR => exact absurd rfl (n2q _ _ _ _ _)
      | mapNil => exact .mapNil
      | map k => exact absurd rfl (n3 _)
      | nilFunc => exact .nilFunc
      | nilIface => exact .nilIface
      | func h1 h2 h3 h4 => exact absurd rfl (n5 _ _ _)
      | yield k => exact absurd rfl (n4 _)
      | agg h1 h2 => exact absurd rfl (n7 _)
      | tuple h1 h2 => exact absurd rfl (n8 _)
      | deep => exact absurd rfl (n9 _ _)
      | deep0 => exact absurd rfl (n9 _ _)
      | deepP => exact absurd rfl (n10 _ _)

/-- Blocks that are read; one that is written. -/
structure ReadsW (P : Program) (H0 H : Heap) (σ : Nat → Option Nat) (d k D z : Nat) (c0 : List Value) : Prop where
  glob : ∀ g, g < P.globals.size → σ g = some g
  dom : ∀ id id', σ id = some id' → id < H0.length
  len : P.globals.size ≤ H0.length
  k0 : H0[k]? = some (.cells true z c0)
  hk : σ k = some D
  hD : H[D]? = some (.cells true z c0)
  pl : c0.all (belowC 0) = true
  obj : ∀ (id : Nat) (o : KObj), id ≠ k → H0[id]? = some o → o = .dead ∨ ∃ cs, o = .cells false 0 cs
  ne : ∀ (id : Nat) (cs : List Value), H0[id]? = some (.cells false 0 cs) → σ id ≠ some D
  rd : ∀ (id id' : Nat) (cs : List Value), σ id = some id' → H0[id]? = some (.cells false 0 cs) → ∃ own z, H[id']? = some (.cells own z (cs.map (rn σ d)))
theorem plain_obj {ρ ρ' : Ren} {r : RI} {own : Bool} {z : Nat} {cs : List Value} {w : World} (hm : ∀ b m, ρ.mem b = some m → ρ'.mem b = some m) (hp : cs.all (belowC 0) = true) (h : ObjRel ρ r (.cells own z cs) w) : ObjRel ρ' r (.cells own z cs) w := by
  obtain ⟨h1, h2, cs', ty, fz, h3, h4, h5, h6⟩ := h
  refine ⟨h1, h2, cs', ty, fz, h3, h4, h5, fun i v hv => ?_⟩
  obtain ⟨v', g1, g2⟩ := h6 i v hv
  rw [List.all_eq_true] at hp
  exact ⟨v', g1, belowC_VR (ρ := ρ') (ρ' := ρ) (fun i r hi => absurd hi (Nat.not_lt_zero _)) hm (hp v (List.mem_of_getElem? hv)) g2⟩
theorem KCall.writes {f : FuncId} {args : List Value} {H0 H new : Heap} {v : Value} {σ : Nat → Option Nat} {d k D z : Nat} {c0 c1 : List Value} (hp : ReadsW P H0 H σ d k D z c0) (h : KCall P f args H0 [k] (Is v (H0.set k (.cells true z c1) ++ new)))
    (h1p : c1.all (belowC 0) = true) (hv : rnOk d v = true) (hv2 : rn (sgOnly H0.length) d v = v) (hn : new.all (fun o => rnoOk d o && o.owned) = true) (hn2 : new.map (rno (sgOnly H0.length) d) = new) :
    KCall P f (args.map (rn σ d)) H [D] (Is (rn (sgUp H0.length H.length) d v) (H.set D (.cells true z c1) ++ new.map (rno (sgUp H0.length H.length) d))) := by
  refine ⟨h.1, fun B ρ w args' hr ha => ?_⟩
  let ρs : Ren := ⟨fun id => (σ id).bind fun id' => (ρ id').map fun r => if id = k then r else ⟨r.b, r.s, r.n, 0, false⟩, ρ.mem, fun F k => (σ F).bind fun F' => ρ.g F' k⟩
  have hσ : ∀ id id' r, σ id = some id' → ρ id' = some r → ρs id = some (if id = k then r else ⟨r.b, r.s, r.n, 0, false⟩) := by
    intro id id' r h1 h2; show Option.bind _ _ = _; rw [h1]; show Option.map _ _ = _; rw [h2]; rfl
  have hσd : ∀ id id' r, σ id = some id' → ρ id' = some r → ∃ r', ρs id = some r' ∧ r'.b = r.b ∧ r'.s = r.s ∧ (r'.own = false ∨ r' = r) := fun id id' r h1 h2 => by
    refine ⟨_, hσ _ _ _ h1 h2, ?_⟩
    split
    · exact ⟨rfl, rfl, .inr rfl⟩
    · exact ⟨rfl, rfl, .inl rfl⟩
  have hσg : ∀ F F' k r, σ F = some F' → ρ.g F' k = some r → ρs.g F k = some r := by intro F F' k r h1 h2; show Option.bind _ _ = _; rw [h1]; exact h2
  have hsomeg : ∀ {F k r}, ρs.g F k = some r → ∃ F', σ F = some F' ∧ ρ.g F' k = some r := fun h => Option.bind_eq_some_iff.1 h
  have hnf : ∀ {F k r z cs}, FM ρs H0 F k r z cs → False := fun {F k' r z' cs} m => by
    by_cases e : F = k
    · have := m.h; rw [e, hp.k0] at this; cases this
    · rcases hp.obj F _ e m.h with h | ⟨_, h⟩ <;> cases h
  have hsome : ∀ {id r}, ρs id = some r → ∃ id' r0, σ id = some id' ∧ ρ id' = some r0 ∧ r = if id = k then r0 else ⟨r0.b, r0.s, r0.n, 0, false⟩ := by
    intro id r h
    obtain ⟨id', h1, h2⟩ := Option.bind_eq_some_iff.1 h
    obtain ⟨r0, h3, h4⟩ := Option.map_eq_some_iff.1 h2
    exact ⟨id', r0, h1, h3, h4.symm⟩
  have hsk : ∀ {r}, ρs k = some r → ρ D = some r := fun {r} h => by
    obtain ⟨id', r0, h1, h2, h3⟩ := hsome h
    rw [if_pos rfl] at h3
    subst h3
    rw [hp.hk] at h1; cases h1; exact h2
  have hown : ∀ (id : Nat) (o : KObj), H0[id]? = some o → o.owned = true → id = k := by
    intro id o h1 h2
    by_cases e : id = k
    · exact e
    · rcases hp.obj id o e h1 with rfl | ⟨cs, rfl⟩ <;> cases h2
  have hDo : (KObj.cells true z c0).owned = true := rfl
  -- other names lie elsewhere
  have hoth : ∀ {id r o rD}, id ≠ k → ρs id = some r → H0[id]? = some o → o.alive = true → ρ D = some rD → rD.b ≠ r.b := fun {id r o rD} e h1 h2 h3 h4 => by
    rcases hp.obj id o e h2 with rfl | ⟨cs, rfl⟩
    · cases h3
    · obtain ⟨id', r0, k1, k2, rfl⟩ := hsome h1
      obtain ⟨own, z', g⟩ := hp.rd id id' cs k1 h2
      rw [if_neg e]
      exact hr.sep D id' rD r0 _ _ h4 k2 hp.hD g hDo rfl (fun q => hp.ne id cs h2 (by rw [k1, q]))
  have hr0 : Rel P B ρs H0 w := by
    refine ⟨hr.bsize, fun g hg => ?_, fun id r h => ?_, fun id r h => ?_, fun id r o h1 h2 => ?_, fun id r o h1 h2 h3 => ?_, fun id1 id2 r1 r2 o1 o2 h1 h2 g1 g2 k1 k2 hne => ?_, fun b m hb => ⟨(hr.mem b m hb).1, fun id r o h1 h2 h3 => ?_⟩,
      ⟨fun F k r h => by obtain ⟨F', k1, _⟩ := hsomeg h; exact hp.dom _ _ k1, fun F k r h => by obtain ⟨F', _, k2⟩ := hsomeg h; exact hr.fam.lt _ _ _ k2, fun _ _ _ _ _ m => (hnf m).elim, fun _ _ _ _ _ m => (hnf m).elim, fun _ _ _ _ _ _ _ _ _ _ m => (hnf m).elim, fun _ _ _ _ _ _ _ _ m => (hnf m).elim, fun _ _ _ _ _ _ _ m => (hnf m).elim⟩⟩
    · obtain ⟨r, k1, k2, k3⟩ := hr.glob g hg
      refine ⟨_, hσ g g r (hp.glob g hg) k1, ?_⟩
      split
      · exact ⟨k2, k3⟩
      · exact ⟨k2, k3⟩
    · obtain ⟨id', r0, h1, _, _⟩ := hsome h; exact hp.dom _ _ h1
    · obtain ⟨id', r0, _, h2, rfl⟩ := hsome h
      have := hr.lt id' r0 h2
      split <;> exact this
    · by_cases e : id = k
      · subst e
        rw [hp.k0] at h2; cases h2
        exact plain_obj (ρ := ρ) (ρ' := ρs) (fun _ _ h => h) hp.pl (hr.obj D r _ (hsk h1) hp.hD)
      · obtain ⟨id', r0, k1, k2, rfl⟩ := hsome h1
        rw [if_neg e]
        rcases hp.obj id o e h2 with rfl | ⟨cs, rfl⟩
        · trivial
        · obtain ⟨own, z, g⟩ := hp.rd id id' cs k1 h2
          obtain ⟨e1, e2, cs', ty, fz, hb, hnz, hfz, hcs⟩ := hr.obj _ _ _ k2 g
          refine ⟨rfl, rfl, cs', ty, fz, hb, hnz, fun h => (by cases h), fun i x hx => ?_⟩
          obtain ⟨x', y1, y2⟩ := hcs i (rn σ d x) (by rw [List.getElem?_map, hx]; rfl)
          exact ⟨x', y1, rn_VRw hσd (fun _ _ h => h) hσg d y2⟩
    · obtain rfl := hown id o h2 h3
      exact hr.base D r _ (hsk h1) hp.hD hDo
    · obtain rfl := hown id1 o1 g1 k1
      exact hoth (Ne.symm hne) h2 g2 k2 (hsk h1)
    · obtain rfl := hown id o h2 h3
      exact (hr.mem b m hb).2 D r _ (hsk h1) hp.hD hDo
  have ha0 : VRl ρs args args'.toList := ⟨by have := ha.1; simpa using this, fun i x x' a b => rn_VRw hσd (fun _ _ h => h) hσg d (ha.2 i (rn σ d x) x' (by rw [List.getElem?_map, a]; rfl) b)⟩
  refine (h.2 B ρs w args' hr0 ha0).mono ?_
  rintro e w' ⟨v1, v', ρ1, H1, rfl, hv', hpost, rfl, rfl⟩
  have hkl : k < H0.length := (List.getElem?_eq_some_iff.1 hp.k0).1
  have hDl : D < H.length := (List.getElem?_eq_some_iff.1 hp.hD).1
  have h1k : (H0.set k (.cells true z c1) ++ new)[k]? = some (.cells true z c1) := by
    rw [List.getElem?_append_left (by simpa using hkl), List.getElem?_set_self hkl]
  have h1o : ∀ i, i < H0.length → i ≠ k → (H0.set k (.cells true z c1) ++ new)[i]? = H0[i]? := fun i hi e => by
    rw [List.getElem?_append_left (by simpa using hi), List.getElem?_set_ne (Ne.symm e)]
  have h1n : ∀ i, H0.length ≤ i → (H0.set k (.cells true z c1) ++ new)[i]? = new[i - H0.length]? := fun i hi => by
    rw [List.getElem?_append_right (by simpa using hi)]; simp
  have hOBk : ∀ b, OB ρs H0 b → ∃ rD, ρ D = some rD ∧ ρs k = some rD ∧ rD.b = b := fun b h => h.elim (fun ⟨id, r, o, h1, h2, h3, h4⟩ => by
      obtain rfl := hown id o h2 h3
      exact ⟨r, hsk h1, h1, h4⟩) (fun ⟨_, _, _, _, _, m, _⟩ => (hnf m).elim)
  have hOB : ∀ b, OB ρs H0 b → OB ρ H b := fun b h => by
    obtain ⟨rD, h1, _, h2⟩ := hOBk b h
    exact .inl ⟨D, rD, _, h1, hp.hD, hDo, h2⟩
  let ρ2 : Ren := ⟨fun id => if id < H.length then ρ id else ρ1 (H0.length + (id - H.length)), ρ1.mem, fun F k => if F < H.length then ρ.g F k else ρ1.g (H0.length + (F - H.length)) k⟩
  let ρn : Ren := ⟨fun id => if id < H0.length then none else ρ1 id, ρ1.mem, fun F k => if F < H0.length then none else ρ1.g F k⟩
  have hn1 : ∀ id id' r, sgOnly H0.length id = some id' → ρ1 id' = some r → ρn id = some r := by
    intro id id' r h1 h2
    unfold sgOnly at h1
    split at h1
    · cases h1
    · rename_i hlt; cases h1; show (if _ then _ else _) = _; rw [if_neg hlt]; exact h2
  have hn1g : ∀ F F' k r, sgOnly H0.length F = some F' → ρ1.g F' k = some r → ρn.g F k = some r := by
    intro F F' k r h1 h2
    unfold sgOnly at h1
    split at h1
    · cases h1
    · rename_i hlt; cases h1; show (if _ then _ else _) = _; rw [if_neg hlt]; exact h2
  have hfwdg : ∀ F k r, ρn.g F k = some r → ∃ F', sgUp H0.length H.length F = some F' ∧ ρ2.g F' k = some r := by
    intro F k r h1
    have h1' : (if F < H0.length then none else ρ1.g F k) = some r := h1
    split at h1'
    · cases h1'
    · rename_i hlt
      refine ⟨_, if_neg hlt, ?_⟩
      show (if _ then _ else _) = _
      rw [if_neg (by omega), show H0.length + (H.length + (F - H0.length) - H.length) = F by omega]; exact h1'
  have hfwd : ∀ id r, ρn id = some r → ∃ id', sgUp H0.length H.length id = some id' ∧ ρ2 id' = some r := by
    intro id r h1
    have h1' : (if id < H0.length then none else ρ1 id) = some r := h1
    split at h1'
    · cases h1'
    · rename_i hlt
      refine ⟨_, if_neg hlt, ?_⟩
      show (if _ then _ else _) = _
      rw [if_neg (by omega), show H0.length + (H.length + (id - H0.length) - H.length) = id by omega]; exact h1'
  have hext : Ren.le ρ ρ2 := ⟨fun id r h1 => by
    show (if _ then _ else _) = _
    rw [if_pos (hr.dom _ _ h1)]; exact h1, hpost.ext.mem, fun F k r h1 => by
    show (if _ then _ else _) = _
    rw [if_pos (hr.fam.dom _ _ _ h1)]; exact h1⟩
  have hnew : ∀ (k : Nat) (o : KObj), new[k]? = some o → rnoOk d o = true ∧ o.owned = true ∧ rno (sgOnly H0.length) d o = o := by
    intro k o hk
    rw [List.all_eq_true] at hn
    have := hn o (List.mem_of_getElem? hk)
    simp only [Bool.and_eq_true] at this
    refine ⟨this.1, this.2, ?_⟩
    have h3 : (new.map (rno (sgOnly H0.length) d))[k]? = some o := by rw [hn2]; exact hk
    rw [List.getElem?_map, hk] at h3
    exact Option.some.inj h3
  have hoa : ∀ o : KObj, o.owned = true → o.alive = true := by intro o ho; cases o <;> first | rfl | cases ho
  have hfresh : ∀ id r o, H0.length ≤ id → ρ1 id = some r → new[id - H0.length]? = some o → w.heap.size ≤ r.b := by
    intro id r o hid h1 h2
    have ho : o.owned = true := (hnew _ _ h2).2.1
    rcases Nat.lt_or_ge r.b w.heap.size with hlt | hge
    · obtain ⟨rD, k1, k2, k3⟩ := hOBk _ (hpost.ob r.b hlt (.inl ⟨id, r, o, h1, by rw [h1n id hid]; exact h2, ho, rfl⟩))
      exact absurd k3 (hpost.rel.sep k id rD r _ o (hpost.ext _ _ k2) h1 h1k (by rw [h1n id hid]; exact h2) rfl (hoa _ ho) (by omega))
    · exact hge
  have hgetD : (H.set D (.cells true z c1) ++ new.map (rno (sgUp H0.length H.length) d))[D]? = some (.cells true z c1) := by
    rw [List.getElem?_append_left (by simpa using hDl), List.getElem?_set_self hDl]
  have hgeto : ∀ id, id < H.length → id ≠ D → (H.set D (.cells true z c1) ++ new.map (rno (sgUp H0.length H.length) d))[id]? = H[id]? := fun id hid e => by
    rw [List.getElem?_append_left (by simpa using hid), List.getElem?_set_ne (Ne.symm e)]
  have hback : ∀ id o, id < H.length → (H.set D (.cells true z c1) ++ new.map (rno (sgUp H0.length H.length) d))[id]? = some o → ∃ o', H[id]? = some o' ∧ o'.owned = o.owned ∧ o'.alive = o.alive := fun id o hid h2 => by
    by_cases e : id = D
    · subst e
      rw [hgetD] at h2; cases h2
      exact ⟨_, hp.hD, rfl, rfl⟩
    · rw [hgeto id hid e] at h2; exact ⟨o, h2, rfl, rfl⟩
  have hgetn : ∀ id o', H.length ≤ id → (H.set D (.cells true z c1) ++ new.map (rno (sgUp H0.length H.length) d))[id]? = some o' → ∃ o, new[id - H.length]? = some o ∧ o' = rno (sgUp H0.length H.length) d o ∧ rnoOk d o = true ∧ o.owned = true ∧ rno (sgOnly H0.length) d o = o := by
    intro id o' hid h2
    rw [List.getElem?_append_right (by simpa using hid), List.getElem?_map, List.length_set] at h2
    obtain ⟨o, a1, rfl⟩ := Option.map_eq_some_iff.1 h2
    obtain ⟨x1, x2, x3⟩ := hnew _ _ a1
    exact ⟨o, a1, rfl, x1, x2, x3⟩
  have hvn : VR ρn v1 v' := by
    have : VR ρ1 (rn (sgOnly H0.length) d v1) v' := by rw [hv2]; exact hv'
    exact rn_VR hn1 (fun _ _ h => h) hn1g d this
  refine ⟨_, v', ρ2, _, rfl, VR_rn hfwd (fun _ _ h => h) hfwdg d hv hvn, ?_, rfl, rfl⟩
  have fr : ∀ id r o, ¬ id < H.length → ρ1 (H0.length + (id - H.length)) = some r → (H.set D (.cells true z c1) ++ new.map (rno (sgUp H0.length H.length) d))[id]? = some o → w.heap.size ≤ r.b := by
    intro id r o hid a b
    obtain ⟨o0, a1, _, _, _, _⟩ := hgetn id o (by omega) b
    exact hfresh _ r o0 (by omega) a (by rw [show H0.length + (id - H.length) - H0.length = id - H.length by omega]; exact a1)
  have u : ∀ id, ρ2 id = if id < H.length then ρ id else ρ1 (H0.length + (id - H.length)) := fun _ => rfl
  have hnob : ∀ id r o, ρ id = some r → H[id]? = some o → o.alive = true → id ≠ D → ¬ OB ρs H0 r.b := fun id r o a b c e q => by
    obtain ⟨rD, k1, _, k3⟩ := hOBk _ q
    exact hr.sep D id rD r _ o k1 a hp.hD b hDo c (Ne.symm e) k3
  have hfm : ∀ {F k r z' cs}, FM ρ2 (H.set D (.cells true z c1) ++ new.map (rno (sgUp H0.length H.length) d)) F k r z' cs → FM ρ H F k r z' cs := fun {F k r z' cs} m => by
    have h1 : (if F < H.length then ρ.g F k else ρ1.g (H0.length + (F - H.length)) k) = some r := m.g
    rcases Nat.lt_or_ge F H.length with h | h
    · rw [if_pos h] at h1
      refine ⟨h1, ?_⟩
      by_cases e : F = D
      · have := m.h; rw [e, hgetD] at this; cases this
      · rw [← hgeto F h e]; exact m.h
    · obtain ⟨o, _, e, g1, g2, _⟩ := hgetn F _ h m.h
      cases o <;> first | (cases g1; done) | (cases g2; done) | (cases e; done)
  have hfam : FRel B ρ2 (H.set D (.cells true z c1) ++ new.map (rno (sgUp H0.length H.length) d)) w' := by
    refine ⟨fun F k r h1 => ?_, fun F k r h1 => ?_, fun F k r z cs m => hr.fam.base _ _ _ _ _ (hfm m), fun F k r z cs m => (hr.fam.obj _ _ _ _ _ (hfm m)).mono hext (hpost.keep _ (hr.fam.lt _ _ _ (hfm m).g) (fun q => ?_)),
      fun F k r z cs F' k' r' z' cs' m m' => hr.fam.sep _ _ _ _ _ _ _ _ _ _ (hfm m) (hfm m'), fun F k r z cs id r' o m h1 h2 h3 => ?_, fun F k r z cs b m' m hb => ?_⟩
    · have h1 : (if F < H.length then ρ.g F k else ρ1.g (H0.length + (F - H.length)) k) = some r := h1
      rcases Nat.lt_or_ge F H.length with h | h
      · simp; omega
      · rw [if_neg (by omega)] at h1
        have := hpost.rel.fam.dom _ _ _ h1
        simp at this ⊢; omega
    · have h1 : (if F < H.length then ρ.g F k else ρ1.g (H0.length + (F - H.length)) k) = some r := h1
      rcases Nat.lt_or_ge F H.length with h | h
      · rw [if_pos h] at h1
        exact Nat.lt_of_lt_of_le (hr.fam.lt _ _ _ h1) hpost.size
      · rw [if_neg (by omega)] at h1
        exact hpost.rel.fam.lt _ _ _ h1
    · obtain ⟨rD, k1, _, k3⟩ := hOBk _ q
      exact hr.fam.sep2 _ _ _ _ _ D rD _ (hfm m) k1 hp.hD rfl k3
    · rw [u] at h1
      rcases Nat.lt_or_ge id H.length with h | h
      · rw [if_pos h] at h1
        obtain ⟨o', b1, _, b3⟩ := hback id o h h2
        exact hr.fam.sep2 _ _ _ _ _ id r' o' (hfm m) h1 b1 (by rw [b3]; exact h3)
      · rw [if_neg (by omega)] at h1
        have := fr id r' o (by omega) h1 h2
        have := hr.fam.lt _ _ _ (hfm m).g
        omega
    · have hb : ρ1.mem b = some m' := hb
      rcases hpost.frz b m' hb with g | g | g
      · exact hr.fam.mem _ _ _ _ _ b m' (hfm m) g
      · have := hr.fam.lt _ _ _ (hfm m).g; omega
      · obtain ⟨rD, k1, _, k3⟩ := hOBk _ g
        exact fun q => hr.fam.sep2 _ _ _ _ _ D rD _ (hfm m) k1 hp.hD rfl (k3.trans q.symm)
  refine ⟨⟨Nat.le_trans hr.bsize hpost.size, fun g hg => ?_, fun id r h1 => ?_, fun id r h1 => ?_, fun id r o h1 h2 => ?_, fun id r o h1 h2 h3 => ?_, fun id1 id2 r1 r2 o1 o2 h1 h2 g1 g2 k1 k2 hne => ?_, fun b m hb => ⟨(hpost.rel.mem b m hb).1, fun id r o h1 h2 h3 => ?_⟩, hfam⟩, hext, fun id r h1 h2 => ?_, by simp, fun id h1 h2 => hgeto id h1 (fun e => h2 (by rw [e]; exact List.mem_singleton.2 rfl)), hpost.size, fun b h1 h2 => hpost.keep b h1 (fun q => h2 (hOB b q)), fun b h1 h2 => ?_, hpost.os, hpost.tape, hpost.output, fun b m hb => (hpost.frz b m hb).imp id fun h => h.imp id (hOB b), hpost.drawn, fun F k r h1 h2 => .inl (by
    have h1 : (if F < H.length then ρ.g F k else ρ1.g (H0.length + (F - H.length)) k) = some r := h1
    rcases Nat.lt_or_ge F H.length with h | h
    · rw [if_pos h, h2] at h1; cases h1
    · exact h)⟩
  · obtain ⟨r, k1, k2, k3⟩ := hr.glob g hg; exact ⟨r, hext _ _ k1, k2, k3⟩
  · rw [u] at h1
    split at h1
    · rw [List.length_append, List.length_set]; omega
    · rename_i hid
      have := hpost.rel.dom _ _ h1
      rw [List.length_append, List.length_set] at this
      rw [List.length_append, List.length_map, List.length_set]; omega
  · rw [u] at h1
    split at h1
    · exact Nat.lt_of_lt_of_le (hr.lt _ _ h1) hpost.size
    · exact hpost.rel.lt _ _ h1
  · rw [u] at h1
    split at h1
    · rename_i hid
      by_cases e : id = D
      · subst e
        rw [hgetD] at h2; cases h2
        have hk1 : ρs k = some r := by have := hσ _ _ _ hp.hk h1; rw [if_pos rfl] at this; exact this
        exact plain_obj (ρ := ρ1) (ρ' := ρ2) (fun _ _ h => h) h1p (hpost.rel.obj k r _ (hpost.ext _ _ hk1) h1k)
      · rw [hgeto id hid e] at h2
        cases hal : o.alive with
        | true => exact (hr.obj _ _ _ h1 h2).mono hext (hpost.keep _ (hr.lt _ _ h1) (hnob id r o h1 h2 hal e))
        | false => cases o <;> first | trivial | cases hal
    · rename_i hid
      obtain ⟨o0, a1, rfl, a3, a4, a5⟩ := hgetn id o (by omega) h2
      have h6 := hpost.rel.obj _ _ _ h1 (show _ = some o0 by rw [h1n _ (by omega), show H0.length + (id - H.length) - H0.length = id - H.length by omega]; exact a1)
      rw [← a5] at h6
      have hd : rno (sgOnly H0.length) d o0 = .dead → o0 = .dead := fun he => by rw [a5] at he; exact he
      exact rel_rno hfwd (fun _ _ h => h) hfwdg a3 (rno_rel hn1 (fun _ _ h => h) hn1g h6 hd)
  · rw [u] at h1
    split at h1
    · rename_i hid
      obtain ⟨o', b1, b2, _⟩ := hback id o hid h2
      exact hr.base _ _ _ h1 b1 (by rw [b2]; exact h3)
    · rename_i hid
      obtain ⟨o0, a1, _, a3, a4, _⟩ := hgetn id o (by omega) h2
      exact hpost.rel.base _ _ _ h1 (show _ = some o0 by rw [h1n _ (by omega), show H0.length + (id - H.length) - H0.length = id - H.length by omega]; exact a1) a4
  · rw [u] at h1 h2
    by_cases c1' : id1 < H.length
    · rw [if_pos c1'] at h1
      obtain ⟨p1, b1, b2, _⟩ := hback id1 o1 c1' g1
      by_cases c2 : id2 < H.length
      · rw [if_pos c2] at h2
        obtain ⟨p2, d1, _, d3⟩ := hback id2 o2 c2 g2
        exact hr.sep id1 id2 r1 r2 p1 p2 h1 h2 b1 d1 (by rw [b2]; exact k1) (by rw [d3]; exact k2) hne
      · rw [if_neg c2] at h2
        have := hr.lt _ _ h1
        have := fr id2 r2 o2 c2 h2 g2
        omega
    · rw [if_neg c1'] at h1
      have f1 := fr id1 r1 o1 c1' h1 g1
      by_cases c2 : id2 < H.length
      · rw [if_pos c2] at h2
        have := hr.lt _ _ h2
        omega
      · rw [if_neg c2] at h2
        obtain ⟨p1, a1, _, _, a4, _⟩ := hgetn id1 o1 (by omega) g1
        obtain ⟨p2, b1, _, _, b4, _⟩ := hgetn id2 o2 (by omega) g2
        exact hpost.rel.sep _ _ r1 r2 p1 p2 h1 h2 (by rw [h1n _ (by omega), show H0.length + (id1 - H.length) - H0.length = id1 - H.length by omega]; exact a1) (by rw [h1n _ (by omega), show H0.length + (id2 - H.length) - H0.length = id2 - H.length by omega]; exact b1) a4 (hoa _ b4) (by omega)
  · rw [u] at h1
    split at h1
    · rename_i hid
      obtain ⟨o', b1, b2, _⟩ := hback id o hid h2
      intro he
      rcases hpost.frz b m hb with g | g | g
      · exact (hr.mem b m g).2 id r o' h1 b1 (by rw [b2]; exact h3) he
      · have := hr.lt _ _ h1; omega
      · obtain ⟨rD, k1, k2, k3⟩ := hOBk _ g
        exact (hpost.rel.mem b m hb).2 k rD _ (hpost.ext _ _ k2) h1k rfl k3
    · rename_i hid
      obtain ⟨o0, a1, _, a3, a4, _⟩ := hgetn id o (by omega) h2
      exact (hpost.rel.mem b m hb).2 _ r o0 h1 (by rw [h1n _ (by omega), show H0.length + (id - H.length) - H0.length = id - H.length by omega]; exact a1) a4
  · rw [u] at h1
    split at h1
    · rw [h2] at h1; cases h1
    · omega
  · rcases h2 with ⟨id, r, o, k1, k2, k3, k4⟩ | ⟨F, k, r, z, cs, m, e⟩
    · rw [u] at k1
      split at k1
      · rename_i hid
        obtain ⟨o', b1, b2, _⟩ := hback id o hid k2
        exact .inl ⟨id, r, o', k1, b1, by rw [b2]; exact k3, k4⟩
      · rename_i hid
        have := fr id r o hid k1 k2
        omega
    · exact .inr ⟨F, k, r, z, cs, hfm m, e⟩
end
end Go.K
/- Functions that write one block, run by the kernel. No condition. -/
namespace Go.K
set_option linter.unusedSimpArgs false
open Go
set_option linter.unusedVariables false
noncomputable section
attribute [local irreducible] vF
variable {P : Program}
/-- A function that writes block k and answers with new blocks. -/
def newKW (n0 d k : Nat) (o : KObj) (v : Value) (new : List (Bool × KObj)) : KV := fun v' H' h' =>
  match h' with
  | .again σ => sgOk n0 (n0 + new.length) [(k, true, o)] σ = true ∧ wk v' (rn (sg n0 σ) d v) ∧ chgOk H' n0 (sg n0 σ) d [(k, true, o)] ∧ newOk H' n0 (sg n0 σ) d n0 new
  | _ => False
theorem KCall.packW {f : FuncId} {args : List Value} {H0 : HT} {v : Value} {new : List (Bool × KObj)} {d k : Nat} {o : KObj} (hk : k < H0.n)
    (h : KCall P f args H0.list [k] (fun v' H' => ∃ (H2 : HT) (σ : List (Nat × Nat)), H' = H2.list ∧ sgOk H0.n (H0.n + new.length) [(k, true, o)] σ = true ∧ wk v' (rn (sg H0.n σ) d v) ∧ chgOk H2 H0.n (sg H0.n σ) d [(k, true, o)] ∧ newOk H2 H0.n (sg H0.n σ) d H0.n new)) :
    KCall P f args H0.list [k] (Is v (H0.list.set k o ++ new.map (·.2))) := by
  refine ⟨h.1, fun B ρ w args' hr ha => (h.2 B ρ w args' hr ha).mono ?_⟩
  rintro e w' ⟨v', r, ρ', H', rfl, hv, hp, H2, σ, rfl, hs, hw, hc, hn⟩
  have hm : memB k [k] = true := by unfold memB; rw [Nat.beq_refl]; rfl
  have hb : Nat.blt k H0.n = true := Nat.ble_eq_true_of_le hk
  have hh : headOk 0 ⟨fun _ => junk, .leaf⟩ H2 H0 d [k] σ [] [(k, true, o)] new [] := by
    refine ⟨?_, trivial, hc, hn, trivial⟩
    simp only [Bool.and_eq_true]
    refine ⟨hs, ?_, rfl, ?_⟩
    · show cond (memB k [k]) (cond (Nat.blt k H0.n) true false) false = true
      rw [hm, hb]; rfl
    · show cond (cond (Nat.beq k k || false) true (List.any [] _)) true false = true
      rw [Nat.beq_refl]; rfl
  have he := headOk_emb hh
  have hlist : (headH H0 [(k, true, o)] new []).list = H0.list.set k o ++ new.map (·.2) := by
    have key : ∀ (l : List (Bool × KObj)) (H : HT), (l.foldl (fun H p => H.push p.2) H).list = H.list ++ l.map (·.2) := by
      intro l
      induction l with
      | nil => intro H; simp
      | cons p l ih => intro H; rw [List.foldl_cons, ih, HT.list_push]; simp
    have := key new (H0.set k o)
    rw [HT.list_set] at this
    exact this
  rw [hlist] at he
  obtain ⟨q1, _⟩ := he.post hr hp
  refine ⟨v, r, renBy ρ' (sg H0.n σ), _, rfl, ?_, q1, rfl, rfl⟩
  have hσ : ∀ id id' r, sg H0.n σ id = some id' → ρ' id' = some r → (renBy ρ' (sg H0.n σ)) id = some r := fun id id' r h1 h2 => by show Option.bind _ _ = _; rw [h1]; exact h2
  exact rn_VR (ρ' := ρ') (ρ := renBy ρ' (sg H0.n σ)) hσ (fun _ _ h => h) (fun F F' k r h1 h2 => by show Option.bind _ _ = _; rw [h1]; exact h2) d (hw _ _ hv)
/-- A memory of one block that is written, and some that are read. -/
def readsW (G z : Nat) (c0 : List Value) (css : List (List Value)) : HT := css.foldl (fun H cs => H.push (.cells false 0 cs)) (HT.push ⟨G, .leaf⟩ (.cells true z c0))
def sgRW (G D : Nat) (ids : List Nat) (i : Nat) : Option Nat := if i < G then some i else if i = G then some D else ids[i - G - 1]?
theorem readsW_n (G z : Nat) (c0 : List Value) (css : List (List Value)) : (readsW G z c0 css).n = G + 1 + css.length := (readsT_get G css (HT.push ⟨G, .leaf⟩ (.cells true z c0)) 0).1
theorem readsW_list (G z : Nat) (c0 : List Value) (css : List (List Value)) (id : Nat) : (readsW G z c0 css).list[id]? = if id < G then some .dead else if id = G then some (.cells true z c0) else (css[id - G - 1]?).map (fun cs => KObj.cells false 0 cs) := by
  rw [show (readsW G z c0 css).list[id]? = _ from (readsT_get G css (HT.push ⟨G, .leaf⟩ (.cells true z c0)) id).2]
  show (if id < G + 1 then _ else _) = _
  have hl : (HT.list ⟨G, .leaf⟩).length = G := HT.length _
  have h0 : ∀ i, i < G → (HT.list ⟨G, .leaf⟩)[i]? = some .dead := fun i hi => by
    have := readsT_list G [] i
    rw [if_pos hi] at this
    exact this
  rw [HT.list_push]
  by_cases h : id < G
  · rw [if_pos (by omega), if_pos h, List.getElem?_append_left (by omega)]
    exact h0 id h
  · rw [if_neg h]
    by_cases e : id = G
    · subst e
      rw [if_pos (by omega), if_pos rfl, List.getElem?_append_right (by omega), hl, Nat.sub_self]; rfl
    · rw [if_neg (by omega), if_neg e]
      show Option.map _ css[id - (G + 1)]? = _
      rw [show id - (G + 1) = id - G - 1 by omega]
theorem vcW {mixed : Bool} {mask : Nat} {dm : Value → MS} {rounds : Nat} (hmask : MaskOk P mixed mask) (hmix : mixed = true → P.follows .mixedOrders = true) (n : Nat) {f : FuncId} {args : List Value} {css : List (List Value)} {h : Hint} {v : Value} {new : List (Bool × KObj)} {z : Nat} {c0 c1 : List Value}
    (hc : vF P mask dm rounds mixed n true f args (readsW P.globals.size z c0 css) (some [P.globals.size]) h (newKW (readsW P.globals.size z c0 css).n 3 P.globals.size (.cells true z c1) v new))
    (hp0 : c0.all (belowC 0) = true) (hp1 : c1.all (belowC 0) = true) (hcss : ∀ cs ∈ css, cs.all (belowC 0) = true)
    (hv : rnOk 3 v = true) (hv2 : rn (sgOnly (P.globals.size + 1 + css.length)) 3 v = v) (hn : (new.map (·.2)).all (fun o => rnoOk 3 o && o.owned) = true) (hn2 : (new.map (·.2)).map (rno (sgOnly (P.globals.size + 1 + css.length)) 3) = new.map (·.2))
    {H : Heap} {D : Nat} (hD : H[D]? = some (.cells true z c0)) (ids : List Nat) (hl : ids.length = css.length) (hids : ∀ (k : Nat) (cs : List Value), css[k]? = some cs → ∃ id own z, ids[k]? = some id ∧ H[id]? = some (KObj.cells own z cs)) (hne : D ∉ ids) :
    KCall P f (args.map (rn (sgRW P.globals.size D ids) 3)) H [D] (Is (rn (sgUp (P.globals.size + 1 + css.length) H.length) 3 v) (H.set D (.cells true z c1) ++ (new.map (·.2)).map (rno (sgUp (P.globals.size + 1 + css.length) H.length) 3))) := by
  have e : (readsW P.globals.size z c0 css).list.length = P.globals.size + 1 + css.length := by rw [HT.length, readsW_n]
  have hkn : P.globals.size < (readsW P.globals.size z c0 css).n := by rw [readsW_n]; omega
  have h1 : KCall P f args (readsW P.globals.size z c0 css).list [P.globals.size] (Is v ((readsW P.globals.size z c0 css).list.set P.globals.size (.cells true z c1) ++ new.map (·.2))) := by
    refine KCall.packW (d := 3) hkn (((vF_sound hmask hmix n).1 f args _ (some [P.globals.size]) h _ hc).post ?_)
    rintro v' H' ⟨H2, h2, e, hk⟩
    cases h2 with
    | again σ => exact ⟨H2, σ, e, hk⟩
    | _ => exact hk.elim
  have hp : ReadsW P (readsW P.globals.size z c0 css).list H (sgRW P.globals.size D ids) 3 P.globals.size D z c0 := by
    refine ⟨fun g hg => if_pos hg, fun id id' h => ?_, by rw [e]; omega, ?_, ?_, hD, hp0, fun id o hne h => ?_, fun id cs h => ?_, fun id id' cs h1 h2 => ?_⟩
    · rw [e]
      unfold sgRW at h
      split at h
      · omega
      · split at h
        · omega
        · have := (List.getElem?_eq_some_iff.1 h).1; omega
    · rw [readsW_list, if_neg (Nat.lt_irrefl _), if_pos rfl]
    · show (if _ then _ else _) = _
      rw [if_neg (Nat.lt_irrefl _), if_pos rfl]
    · rw [readsW_list] at h
      split at h
      · cases h; exact .inl rfl
      · try rw [if_neg hne] at h
        obtain ⟨cs, _, rfl⟩ := Option.map_eq_some_iff.1 h; exact .inr ⟨cs, rfl⟩
    · rw [readsW_list] at h
      split at h
      · cases h
      · rename_i h5
        split at h
        · cases h
        · rename_i h6
          unfold sgRW
          rw [if_neg h5, if_neg h6]
          exact fun q => hne (List.mem_of_getElem? q)
    · rw [readsW_list] at h2
      split at h2
      · cases h2
      · rename_i h5
        split at h2
        · cases h2
        · rename_i h6
          obtain ⟨cs', a1, a2⟩ := Option.map_eq_some_iff.1 h2
          cases a2
          unfold sgRW at h1
          rw [if_neg h5, if_neg h6] at h1
          obtain ⟨id2, own, z2, b1, b2⟩ := hids _ _ a1
          rw [h1] at b1; cases b1
          exact ⟨own, z2, by rw [(rnCl (d := 0) (hcss _ (List.mem_of_getElem? a1))).1]; exact b2⟩
  have := KCall.writes hp h1 hp1 hv (by rw [e]; exact hv2) hn (by rw [e]; exact hn2)
  rw [e] at this
  exact this
end
end Go.K
/- Drift: what is made of numbers: basins, flows, fields, charts, moves. No condition. -/
namespace Go.Proofs.Ytkkgnalgmebfjaa
set_option linter.unusedSimpArgs false
set_option linter.unusedVariables false
open Go Go.K
noncomputable section
/-- Numbers, and how many were asked for. -/
abbrev digC (L : List Int) (n : Int) : List Value := [.iface (L.length + 1) (.agg ⟨L.flatMap intC⟩), .int .i64 n]
def dVal (L : List Int) (n : Int) : Int := if 0 < L.length then IntKind.wrap .i64 (L.getD (Int.toNat (Int.tmod n ((L.length : Nat) : Int))) 0 + IntKind.wrap .i64 (Int.tdiv n ((L.length : Nat) : Int))) else 0
def dN (L : List Int) (n m : Int) : Int := dVal L n % m
def watW (L : List Int) (n : Int) : Int := 2 + dN L n 5
def watH (L : List Int) (n : Int) : Int := 2 + dN L (n + 1) 4
def watL (L : List Int) (n : Int) : Nat → List Bool × Int
  | 0 => ([], n)
  | x + 1 => if 0 < x then ((watL L n x).1 ++ [dN L (watL L n x).2 7 == 0], (watL L n x).2 + 1) else ((watL L n x).1 ++ [false], (watL L n x).2)
def watA (L : List Int) (n : Int) : List Bool := (watL L (n + 1 + 1) (Int.toNat (watW L n * watH L n))).1
def watN (L : List Int) (n : Int) : Int := (watL L (n + 1 + 1) (Int.toNat (watW L n * watH L n))).2
def fldI (L : List Int) (n : Int) : Ice := ⟨dN L n 2 * dN L (n + 1) 101, dN L (n + 1 + 1) 401, dN L (n + 1 + 1 + 1) 101, dN L (n + 1 + 1 + 1 + 1) 4⟩
def fldL (L : List Int) (a : List Bool) (n : Int) : Nat → List Ice × Int
  | 0 => ([], n)
  | x + 1 => if a.getD x false = true then ((fldL L a n x).1 ++ [zeroI], (fldL L a n x).2) else ((fldL L a n x).1 ++ [fldI L (fldL L a n x).2], (fldL L a n x).2 + 1 + 1 + 1 + 1 + 1)
def curF (L : List Int) (X Y n : Int) : Flow :=
  ⟨⟨X + dN L n 400 - 200, min (X + dN L n 400 - 200 + dN L (n + 1 + 1) 3 * dN L (n + 1 + 1 + 1) 250) 2000⟩, ⟨Y + dN L (n + 1) 400 - 200, min (Y + dN L (n + 1) 400 - 200 + dN L (n + 1 + 1 + 1 + 1) 3 * dN L (n + 1 + 1 + 1 + 1 + 1) 250) 2000⟩⟩
def curL (L : List Int) (X Y n : Int) : Nat → List Flow × Int
  | 0 => ([], n)
  | x + 1 => ((curL L X Y n x).1 ++ [curF L X Y (curL L X Y n x).2], (curL L X Y n x).2 + 1 + 1 + 1 + 1 + 1 + 1)
def curs (L : List Int) (n : Int) (k : Nat) : List Flow × Int := curL L (dN L n 3001 - 1500) (dN L (n + 1) 3001 - 1500) (n + 1 + 1) k
def hldS (L : List Int) (n x most : Int) : Span := ⟨max (x - dN L n 4 * dN L (n + 1) 9) 0, min (x + dN L (n + 1 + 1) 4 * dN L (n + 1 + 1 + 1) 9) most⟩
def hldC (L : List Int) (n : Int) (x : Ice) : Cell :=
  ⟨hldS L n x.conc 100, hldS L (n + 1 + 1 + 1 + 1) x.thick 400, hldS L (n + 1 + 1 + 1 + 1 + 1 + 1 + 1 + 1) x.ridge 100, hldS L (n + 1 + 1 + 1 + 1 + 1 + 1 + 1 + 1 + 1 + 1 + 1 + 1) x.press 3⟩
def hldL (L : List Int) (a : List Bool) (xs : List Ice) (n : Int) : Nat → List Cell × Int
  | 0 => ([], n)
  | x + 1 => if a.getD x false = true then ((hldL L a xs n x).1 ++ [zeroC], (hldL L a xs n x).2) else ((hldL L a xs n x).1 ++ [hldC L (hldL L a xs n x).2 (xs.getD x zeroI)], (hldL L a xs n x).2 + 1 + 1 + 1 + 1 + 1 + 1 + 1 + 1 + 1 + 1 + 1 + 1 + 1 + 1 + 1 + 1)
def mvgL (L : List Int) (l : List Flow) (n : Int) : Nat → List Move × Int
  | 0 => ([], n)
  | x + 1 => ((mvgL L l n x).1 ++ [(fMoves (l.getD x zeroF)).1.getD (Int.toNat (dN L (mvgL L l n x).2 (((fMoves (l.getD x zeroF)).1.length : Nat) : Int))) zeroM], (mvgL L l n x).2 + 1)
end
end Go.Proofs.Ytkkgnalgmebfjaa
