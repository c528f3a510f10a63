/- What is to be shown of functions. Printed by a program. No condition. -/
import Derived.Test.YthdekmpkioikdaaGreatGR18hxR23a
import Derived.Test.YthdekmpkioikdaaGreatGR18gxR18f
import Derived.Test.YthdekmpkioikdaaGreatGZ6xR19f
import Derived.Test.YthdekmpkioikdaaGreatGR11fxZ1
namespace Go.Proofs.YthdekmpkioikdaaGreat
set_option linter.unusedSimpArgs false
open Go Go.K
set_option maxRecDepth 100000
set_option maxHeartbeats 4000000
set_option linter.unusedVariables false
noncomputable section
abbrev jop (L : List Int) : Int:=(L.length : Nat)
abbrev jo1 (L : List Int) : Value:=.agg ⟨(L.flatMap intC)⟩
abbrev jo7 (L : List Int) (n : Int) : List Value:=[.iface (L.length + 1) (jo1 L),nI (n + 1)]
abbrev jo1d (L : List Int) (n : Int) : KObj:=.cells true 0 (jo7 L n)
abbrev joo (L : List Int) (n : Int) : Prop:=((some (.cells true 0 [.iface (L.length + 1) (jo1 L),nI (IntKind.wrap .i64 (n + 1))] : KObj) = some (jo1d L n) /\ belowO 1 (jo1d L n) = true) /\ True) /\ (True)
def RNext (L : List Int) (n m : Int) : Prop :=
 (((decide ((0 : Int) < (jop L))) = true -> ((((jop L) : Int) ≠ 0) /\ (((0 : Int) <= (Int.tmod n (jop L)) /\ ((Int.tmod n (jop L)) : Int) < (jop L)) /\ (((L.flatMap intC)[(Int.toNat (Int.tmod n (jop L)) * 1)]? = some (nI (L.getD (Int.tmod n (jop L)).toNat 0))) /\ ((((jop L) : Int) ≠ 0) /\ (∃ y0 : Int,(nI (IntKind.wrap .i64 (Int.tdiv n (jop L))) : Value) = nI y0 /\ (∃ y1 : Int,(nI (IntKind.wrap .i64 ((L.getD (Int.tmod n (jop L)).toNat 0) + y0)) : Value) = nI y1 /\ ((True) /\ (∀ H' : Heap,H'.length = 1 -> (True) -> KCall prog 21 [nI y1,nI m] H' [] (Is (nI (y1 % m)) H')) /\ (true = true /\ wk (nI (y1 % m) : Value) (rn (sg 1 []) 3 (nI (dN L n m) : Value)) /\ joo L n))))))))) /\ ((decide ((0 : Int) < (jop L))) = false -> ((True) /\ (∀ H' : Heap,H'.length = 1 -> (True) -> KCall prog 21 [nI 0,nI m] H' [] (Is (nI (0 % m)) H')) /\ (true = true /\ wk (nI (0 % m) : Value) (rn (sg 1 []) 3 (nI (dN L n m) : Value)) /\ joo L n))))
abbrev jo1t (m : Int) : List Value:=[.pointer (some ⟨0,0,none⟩),nI m]
abbrev jo1u (L : List Int) (n : Int):=readsW 0 0 (digC L n) []
theorem ENext (L : List Int) (n m : Int) : vF prog msk (dm 0) 100000 true 40 true 71 (jo1t m) (jo1u L n) (some [0])
 (.go 7 (.fork (.go 12 (.need (.need (.val (nI (L.getD (Int.tmod n (jop L)).toNat 0)) (.go 8 (.need (.bind Int (fun y0 => .slot 37 (nI y0) (.go 0 (.bind Int (fun y1 => .slot 38 (nI y1) (.go 10 (.ans [] (nI (y1 % m)) [] (.go 0 (.keep (.again [])))))))))))))))) (.go 9 (.ans [] (nI (0 % m)) [] (.go 0 (.keep (.again [])))))))
 (newKW ((jo1u L n) : HT).n 3 0 (.cells true 0 (jo7 L n)) (nI (dN L n m)) []) = RNext L n m:=by kernel_rfl
abbrev jom (L : List Int) (n : Int) : List Value:=[.iface (L.length + 1) (jo1 L),nI n]
abbrev jod (L : List Int) (n : Int) : List Value:=[.iface (L.length + 1) (jo1 L),nI ((n + 1) + 1)]
abbrev jo1e (L : List Int) (n : Int) : KObj:=.cells true 0 (jod L n)
abbrev jo17 : Int:=(0 : Nat)
abbrev jof (m : Int) (L : List Int) (n : Int) : Prop:=(nI m : Value) = nI m /\ (.pointer (some ⟨0,0,none⟩) : Value) = .pointer (some ⟨0,0,none⟩) /\ (.pointer (some ⟨1,0,none⟩) : Value) = .pointer (some ⟨1,0,none⟩) /\ (.pointer (some ⟨2,0,none⟩) : Value) = .pointer (some ⟨2,0,none⟩) /\ (nI (1 + (dN L n 5)) : Value) = nI (1 + (dN L n 5)) /\ (nI (1 + (dN L (n + 1) 12)) : Value) = nI (1 + (dN L (n + 1) 12)) /\ True
abbrev joj : List Value:=[.slice none 0 0,.slice none 0 0]
abbrev jo1q : KObj:=.cells true 0 joj
abbrev jo1l : Prop:=(True /\ True) /\ (True)
abbrev jo3 (L : List Int) (n : Int) (m : Int) (x2 : Nat) : Prop:=(nI (1 + (dN L (n + 1) 12)) : Value) = nI (1 + (dN L (n + 1) 12)) /\ (nI (1 + (dN L n 5)) : Value) = nI (1 + (dN L n 5)) /\ (.pointer (some ⟨2,0,none⟩) : Value) = .pointer (some ⟨2,0,none⟩) /\ (.pointer (some ⟨1,0,none⟩) : Value) = .pointer (some ⟨1,0,none⟩) /\ (.pointer (some ⟨0,0,none⟩) : Value) = .pointer (some ⟨0,0,none⟩) /\ (nI m : Value) = nI m /\ (nI (x2 : Int) : Value) = nI (x2 : Int) /\ True
abbrev jo1s (L : List Int) (n : Int) (x2 : Nat) : List Value:=[slQ 3 1 (shT L n x2).length,.slice none 0 0]
abbrev jox (L : List Int) (n : Int) (x2 : Nat) (x3 : Nat) : List Value:=[.iface (L.length + 1) (jo1 L),nI (shQ L n x2 + (x3 : Int))]
abbrev jot (L : List Int) (n : Int) (x2 : Nat) (x3 : Nat):=dN L (shQ L n x2 + (x3 : Int)) ((1 + (dN L (n + 1) 12)) + 1)
abbrev job (L : List Int) (n : Int) (x2 : Nat) (x3 : Nat):=rwL L (shQ L n x2) (shR L n) x2 x3
abbrev jo1r (L : List Int) (n : Int) (x2 : Nat) (x3 : Nat) : Prop:=(job L n x2 x3).length <= (job L n x2 x3).length /\ 0 + (job L n x2 x3).length * 1 <= List.length ((job L n x2 x3).flatMap intC)
abbrev jo1o (x3 : Nat) : Value:=nI (IntKind.wrap .i64 ((x3 : Int) + 1))
abbrev jou (x3 : Nat) (x3' : Nat) (L : List Int) (n : Int) (x2 : Nat) (m : Int) : Prop:=(nI ((x3 : Int) + 1) : Value) = nI (x3' : Int) /\ wk (.slice (some ⟨6,0,none⟩) ((job L n x2 x3).length + 1) ((job L n x2 x3).length + 1) : Value) (slQ 6 1 (rwL L (shQ L n x2) (shR L n) x2 x3').length : Value) /\ jo3 L n m x2
abbrev joe (L : List Int) (n : Int) (x2 : Nat) (x3 : Nat) (x3' : Nat) : Prop:=(some (.cells true 0 [.iface (L.length + 1) (jo1 L),nI ((shQ L n x2 + (x3 : Int)) + 1)] : KObj) = some (.cells true 0 [.iface (L.length + 1) (jo1 L),nI (shQ L n x2 + (x3' : Int))] : KObj) /\ belowO 4 (.cells true 0 [.iface (L.length + 1) (jo1 L),nI (shQ L n x2 + (x3' : Int))] : KObj) = true) /\ (keptR 4 jo1q) /\ (keptR 4 (.cells true 0 (jo1s L n x2))) /\ True
abbrev joy (L : List Int) (n : Int) (x2 : Nat) (x3' : Nat) : KObj:=.cells true 1 ((rwL L (shQ L n x2) (shR L n) x2 x3').flatMap intC)
abbrev jo13 (L : List Int) (n : Int) (x2 : Nat) (x3 : Nat) : List Value:=[.iface ((job L n x2 x3).length + 1) (.agg ⟨((job L n x2 x3).flatMap intC)⟩)]
abbrev jo1p (x2 : Nat) : Value:=nI (IntKind.wrap .i64 ((x2 : Int) + 1))
abbrev joh (L : List Int) (n : Int) (m : Int) : Prop:=(nI (1 + (dN L n 5)) : Value) = nI (1 + (dN L n 5)) /\ (.pointer (some ⟨2,0,none⟩) : Value) = .pointer (some ⟨2,0,none⟩) /\ (.pointer (some ⟨1,0,none⟩) : Value) = .pointer (some ⟨1,0,none⟩) /\ (.pointer (some ⟨0,0,none⟩) : Value) = .pointer (some ⟨0,0,none⟩) /\ (nI m : Value) = nI m /\ True
abbrev jo12 (L : List Int) (n : Int) (x3 : Nat) : List Value:=[.iface (L.length + 1) (jo1 L),nI (shE L n + 2 * (x3 : Int))]
abbrev jok (L : List Int) (n : Int) (x3 : Nat) : List Value:=[.iface (L.length + 1) (jo1 L),nI ((shE L n + 2 * (x3 : Int)) + 1)]
abbrev jos (L : List Int) (n : Int) (x3 : Nat):=dN L ((shE L n + 2 * (x3 : Int)) + 1) (1 + (dN L n 5))
abbrev jo1f (L : List Int) (n : Int) (x3 : Nat) : List Value:=[.iface (L.length + 1) (jo1 L),nI (((shE L n + 2 * (x3 : Int)) + 1) + 1)]
def Rships (L : List Int) (n : Int) (m : Int) : Prop :=
 (((someR (.cells true 0 (jom L n))) /\ True) /\ (∀ H' : Heap,H'.length = 3 -> (H'[0]? = some (.cells true 0 (jom L n) : KObj) /\ True) -> KCall prog 71 [.pointer (some ⟨0,0,none⟩),nI 5] H' [0] (Is (nI (dN L n 5)) (List.set H' 0 (jo1d L n)))) /\ ((nI (IntKind.wrap .i64 (1 + (dN L n 5))) : Value) = nI (1 + (dN L n 5)) /\ (((someR (.cells true 0 (jo7 L n))) /\ True) /\ (∀ H' : Heap,H'.length = 3 -> (H'[0]? = some (jo1d L n) /\ True) -> KCall prog 71 [.pointer (some ⟨0,0,none⟩),nI 12] H' [0] (Is (nI (dN L (n + 1) 12)) (List.set H' 0 (jo1e L n)))) /\ ((nI (IntKind.wrap .i64 (1 + (dN L (n + 1) 12))) : Value) = nI (1 + (dN L (n + 1) 12)) /\ (true = true /\ (0 <= Int.toNat (shW L n)) /\ (true = true /\ ((nI 0 : Value) = nI jo17 /\ jof m L n) /\ ((some (jo1e L n) = some (.cells true 0 [.iface (L.length + 1) (jo1 L),nI (shQ L n 0)] : KObj) /\ belowO 3 (.cells true 0 [.iface (L.length + 1) (jo1 L),nI (shQ L n 0)] : KObj) = true) /\ wkO (.cells true 0 joj : KObj) (rno (sg 3 []) 3 (.cells true 0 [slQ 3 1 (shT L n 0).length,.slice none 0 0] : KObj)) /\ (keptR 3 jo1q) /\ True) /\ jo1l) /\ (∀ x2 : Nat,true = true) /\ ∀ x2 : Nat,(x2 <= Int.toNat (shW L n)) -> (((decide (((x2 : Int) : Int) < (1 + (dN L n 5)))) = true -> (true = true /\ (0 <= Int.toNat (shW L n)) /\ (true = true /\ ((nI 0 : Value) = nI jo17 /\ wk (.slice none 0 0 : Value) (slQ 0 1 (rwL L (shQ L n x2) (shR L n) x2 0).length : Value) /\ jo3 L n m x2) /\ ((some (.cells true 0 [.iface (L.length + 1) (jo1 L),nI (shQ L n x2)] : KObj) = some (.cells true 0 [.iface (L.length + 1) (jo1 L),nI (shQ L n x2 + jo17)] : KObj) /\ belowO 4 (.cells true 0 [.iface (L.length + 1) (jo1 L),nI (shQ L n x2 + jo17)] : KObj) = true) /\ (keptR 4 jo1q) /\ (keptR 4 (.cells true 0 (jo1s L n x2))) /\ True) /\ jo1l) /\ (∀ x3 : Nat,true = true) /\ ∀ x3 : Nat,(x3 <= Int.toNat (shW L n)) -> (((decide (((x3 : Int) : Int) < (1 + (dN L n 5)))) = true -> ((nI (IntKind.wrap .i64 ((1 + (dN L (n + 1) 12)) + 1)) : Value) = nI ((1 + (dN L (n + 1) 12)) + 1) /\ (((someR (.cells true 0 (jox L n x2 x3))) /\ True) /\ (∀ H' : Heap,H'.length = 5 -> (H'[0]? = some (.cells true 0 (jox L n x2 x3) : KObj) /\ True) -> KCall prog 71 [.pointer (some ⟨0,0,none⟩),nI ((1 + (dN L (n + 1) 12)) + 1)] H' [0] (Is (nI (jot L n x2 x3)) (List.set H' 0 (.cells true 0 [.iface (L.length + 1) (jo1 L),nI ((shQ L n x2 + (x3 : Int)) + 1)] : KObj)))) /\ (((((x2 : Int) : Int) == (x3 : Int)) = true -> ((((job L n x2 x3).length + 1) * 8 <= 2 ^ 44 /\ 1 ≠ 0 /\ (jo1r L n x2 x3) /\ (1 <= 1 /\ 0 + 1 * 1 <= List.length ([nI 0] : List Value)) /\ (((([nI 0] : List Value).drop 0).take (1 * 1)) : List Value).all (fun v => one1 v) = true) /\ true = true /\ ((jo1o x3) = nI ((x3 : Int) + 1) /\ (∃ x3' : Nat,(x3' <= Int.toNat (shW L n)) /\ (Int.toNat (shW L n) - x3') < (Int.toNat (shW L n) - x3) /\ true = true /\ (jou x3 x3' L n x2 m) /\ (joe L n x2 x3 x3') /\ ((some (.cells true 1 (((((job L n x2 x3).flatMap intC).drop 0).take ((job L n x2 x3).length * 1)) ++ ((([nI 0] : List Value).drop 0).take (1 * 1))) : KObj) = some (joy L n x2 x3') /\ belowO 4 (joy L n x2 x3') = true) /\ True) /\ (True))))) /\ ((((x2 : Int) : Int) == (x3 : Int)) = false -> ((((job L n x2 x3).length + 1) * 8 <= 2 ^ 44 /\ 1 ≠ 0 /\ (jo1r L n x2 x3) /\ (1 <= 1 /\ 0 + 1 * 1 <= List.length ([nI (jot L n x2 x3)] : List Value)) /\ (((([nI (jot L n x2 x3)] : List Value).drop 0).take (1 * 1)) : List Value).all (fun v => one1 v) = true) /\ true = true /\ ((jo1o x3) = nI ((x3 : Int) + 1) /\ (∃ x3' : Nat,(x3' <= Int.toNat (shW L n)) /\ (Int.toNat (shW L n) - x3') < (Int.toNat (shW L n) - x3) /\ true = true /\ (jou x3 x3' L n x2 m) /\ (joe L n x2 x3 x3') /\ ((some (.cells true 1 (((((job L n x2 x3).flatMap intC).drop 0).take ((job L n x2 x3).length * 1)) ++ ((([nI (jot L n x2 x3)] : List Value).drop 0).take (1 * 1))) : KObj) = some (joy L n x2 x3') /\ belowO 4 (joy L n x2 x3') = true) /\ True) /\ (True))))))))) /\ ((decide (((x3 : Int) : Int) < (1 + (dN L n 5)))) = false -> ((((shT L n x2).length + 1) * 24 <= 2 ^ 44 /\ 1 ≠ 0 /\ ((shT L n x2).length <= (shT L n x2).length /\ 0 + (shT L n x2).length * 1 <= List.length (inL (shT L n x2))) /\ (1 <= 1 /\ 0 + 1 * 1 <= List.length (jo13 L n x2 x3)) /\ ((((jo13 L n x2 x3).drop 0).take (1 * 1)) : List Value).all (fun v => one1 v) = true) /\ true = true /\ ((jo1p x2) = nI ((x2 : Int) + 1) /\ (∃ x2' : Nat,(x2' <= Int.toNat (shW L n)) /\ (Int.toNat (shW L n) - x2') < (Int.toNat (shW L n) - x2) /\ true = true /\ ((nI ((x2 : Int) + 1) : Value) = nI (x2' : Int) /\ jof m L n) /\ ((some (.cells true 0 (jox L n x2 x3) : KObj) = some (.cells true 0 [.iface (L.length + 1) (jo1 L),nI (shQ L n x2')] : KObj) /\ belowO 3 (.cells true 0 [.iface (L.length + 1) (jo1 L),nI (shQ L n x2')] : KObj) = true) /\ wkO (.cells true 0 [.slice (some ⟨6,0,none⟩) ((shT L n x2).length + 1) ((shT L n x2).length + 1),.slice none 0 0] : KObj) (rno (sg 3 [(3,6)]) 3 (.cells true 0 [slQ 3 1 (shT L n x2').length,.slice none 0 0] : KObj)) /\ (keptR 3 jo1q) /\ True) /\ ((some (.cells true 1 ((((inL (shT L n x2)).drop 0).take ((shT L n x2).length * 1)) ++ (((jo13 L n x2 x3).drop 0).take (1 * 1))) : KObj) = some (.cells true 1 (inL (shT L n x2')) : KObj) /\ belowO 3 (.cells true 1 (inL (shT L n x2')) : KObj) = true) /\ True) /\ (True)))))))) /\ ((decide (((x2 : Int) : Int) < (1 + (dN L n 5)))) = false -> (true = true /\ (0 <= Int.toNat m /\ firstN (shC L n m) 0 = 0) /\ (true = true /\ ((nI 0 : Value) = nI jo17 /\ joh L n m) /\ ((some (.cells true 0 [.iface (L.length + 1) (jo1 L),nI (shQ L n x2)] : KObj) = some (.cells true 0 [.iface (L.length + 1) (jo1 L),nI (shE L n + 2 * jo17)] : KObj) /\ belowO 4 (.cells true 0 [.iface (L.length + 1) (jo1 L),nI (shE L n + 2 * jo17)] : KObj) = true) /\ wkO (.cells true 0 (jo1s L n x2) : KObj) (rno (sg 4 []) 3 (.cells true 0 [slQ 3 1 (shT L n x2).length,slQ 4 1 (brL L n 0).length] : KObj)) /\ (keptR 4 jo1q) /\ True) /\ jo1l) /\ (∀ x3 : Nat,true = true) /\ ∀ x3 : Nat,(x3 <= Int.toNat m /\ firstN (shC L n m) x3 = x3) -> (((someR (.cells true 0 (jo12 L n x3))) /\ True) /\ (∀ H' : Heap,H'.length = 5 -> (H'[0]? = some (.cells true 0 (jo12 L n x3) : KObj) /\ True) -> KCall prog 71 (jo1t m) H' [0] (Is (nI (dN L (shE L n + 2 * (x3 : Int)) m)) (List.set H' 0 (.cells true 0 (jok L n x3) : KObj)))) /\ (((decide (((x3 : Int) : Int) <= (dN L (shE L n + 2 * (x3 : Int)) m))) = true -> (((someR (.cells true 0 (jok L n x3))) /\ True) /\ (∀ H' : Heap,H'.length = 5 -> (H'[0]? = some (.cells true 0 (jok L n x3) : KObj) /\ True) -> KCall prog 71 [.pointer (some ⟨0,0,none⟩),nI (1 + (dN L n 5))] H' [0] (Is (nI (jos L n x3)) (List.set H' 0 (.cells true 0 (jo1f L n x3) : KObj)))) /\ ((((brL L n x3).length + 1) * 8 <= 2 ^ 44 /\ 1 ≠ 0 /\ ((brL L n x3).length <= (brL L n x3).length /\ 0 + (brL L n x3).length * 1 <= List.length ((brL L n x3).flatMap intC)) /\ (1 <= 1 /\ 0 + 1 * 1 <= List.length ([nI (jos L n x3)] : List Value)) /\ (((([nI (jos L n x3)] : List Value).drop 0).take (1 * 1)) : List Value).all (fun v => one1 v) = true) /\ true = true /\ ((jo1o x3) = nI ((x3 : Int) + 1) /\ (∃ x3' : Nat,(x3' <= Int.toNat m /\ firstN (shC L n m) x3' = x3') /\ (Int.toNat m - x3') < (Int.toNat m - x3) /\ true = true /\ ((nI ((x3 : Int) + 1) : Value) = nI (x3' : Int) /\ joh L n m) /\ ((some (.cells true 0 (jo1f L n x3) : KObj) = some (.cells true 0 [.iface (L.length + 1) (jo1 L),nI (shE L n + 2 * (x3' : Int))] : KObj) /\ belowO 4 (.cells true 0 [.iface (L.length + 1) (jo1 L),nI (shE L n + 2 * (x3' : Int))] : KObj) = true) /\ wkO (.cells true 0 [slQ 3 1 (shT L n x2).length,.slice (some ⟨6,0,none⟩) ((brL L n x3).length + 1) ((brL L n x3).length + 1)] : KObj) (rno (sg 4 [(4,6)]) 3 (.cells true 0 [slQ 3 1 (shT L n x2).length,slQ 4 1 (brL L n x3').length] : KObj)) /\ (keptR 4 jo1q) /\ True) /\ ((some (.cells true 1 (((((brL L n x3).flatMap intC).drop 0).take ((brL L n x3).length * 1)) ++ ((([nI (jos L n x3)] : List Value).drop 0).take (1 * 1))) : KObj) = some (.cells true 1 ((brL L n x3').flatMap intC) : KObj) /\ belowO 4 (.cells true 1 ((brL L n x3').flatMap intC) : KObj) = true) /\ True) /\ (True)))))) /\ ((decide (((x3 : Int) : Int) <= (dN L (shE L n + 2 * (x3 : Int)) m))) = false -> (true = true /\ wk (.agg #[slQ 3 1 (shT L n x2).length,slQ 4 1 (brL L n x3).length] : Value) (rn (sg 1 [(1,3),(2,4)]) 3 (.agg #[slQ 1 1 (List.length (shF L n m).t),slQ 2 1 (List.length (shF L n m).b)] : Value)) /\ ((some (.cells true 0 (jok L n x3) : KObj) = some (.cells true 0 [.iface (L.length + 1) (jo1 L),nI (shN L n m)] : KObj) /\ belowO 1 (.cells true 0 [.iface (L.length + 1) (jo1 L),nI (shN L n m)] : KObj) = true) /\ True) /\ ((some (.cells true 1 (inL (shT L n x2)) : KObj) = some (.cells true 1 (inL (shF L n m).t) : KObj) /\ belowO 1 (.cells true 1 (inL (shF L n m).t) : KObj) = true) /\ (some (.cells true 1 ((brL L n x3).flatMap intC) : KObj) = some (.cells true 1 (List.flatMap intC (shF L n m).b) : KObj) /\ belowO 1 (.cells true 1 (List.flatMap intC (shF L n m).b) : KObj) = true) /\ True)))))))))))))
abbrev jo1i (L : List Int) (n : Int) : List (Nat × KObj):=[(0,.cells true 0 (jo7 L n))]
abbrev jo15 : Nat × Value:=(0,.pointer (some ⟨0,0,none⟩))
abbrev jo1m : Nat × Value:=(4,.pointer (some ⟨1,0,none⟩))
abbrev jo1n : Nat × Value:=(5,.pointer (some ⟨2,0,none⟩))
abbrev jo1v : Nat × Bool × KObj:=(1,true,.cells true 0 joj)
abbrev jo1a : Hint:=.go 0 (.again [(4,6)])
theorem Eships (L : List Int) (n : Int) (m : Int) : vF prog msk (dm 0) 100000 true 40 true 26 (jo1t m) (jo1u L n) (some [0])
 (.go 2 (.answ [(0,.cells true 0 (jom L n))] (nI (dN L n 5)) (jo1i L n) [] (.go 0 (.slot 15 (nI (1 + (dN L n 5))) (.go 1 (.answ (jo1i L n) (nI (dN L (n + 1) 12)) [(0,.cells true 0 (jod L n))] [] (.go 0 (.slot 18 (nI (1 + (dN L (n + 1) 12))) (.go 1 (.inv 3 (Nat) (0) [] [0,2,1] (fun x2 => [(8,nI (x2 : Int)),(1,nI m),jo15,jo1m,jo1n,(6,nI (1 + (dN L n 5))),(7,nI (1 + (dN L (n + 1) 12)))]) (fun x2 => [(0,true,.cells true 0 [.iface (L.length + 1) (jo1 L),nI (shQ L n x2)]),(2,false,.cells true 0 (jo1s L n x2)),jo1v]) (fun x2 => [(true,.cells true 1 (inL (shT L n x2)))]) (fun x2 => []) (fun x2 => (x2 <= Int.toNat (shW L n))) (fun x2 => (Int.toNat (shW L n) - x2)) (fun x2 => .go 2 (.fork (.go 1 (.inv 3 (Nat) (0) [] [0,1,2] (fun x3 => [(10,nI (x3 : Int)),(9,slQ 4 1 (job L n x2 x3).length),(7,nI (1 + (dN L (n + 1) 12))),(6,nI (1 + (dN L n 5))),jo1n,jo1m,jo15,(1,nI m),(8,nI (x2 : Int))]) (fun x3 => [(0,true,.cells true 0 (jox L n x2 x3)),jo1v,(2,true,.cells true 0 (jo1s L n x2))]) (fun x3 => [(true,.cells true 1 ((job L n x2 x3).flatMap intC))]) (fun x3 => []) (fun x3 => (x3 <= Int.toNat (shW L n))) (fun x3 => (Int.toNat (shW L n) - x3)) (fun x3 => .go 2 (.fork (.go 2 (.slot 31 (nI ((1 + (dN L (n + 1) 12)) + 1)) (.answ [(0,.cells true 0 (jox L n x2 x3))] (nI (jot L n x2 x3)) [(0,.cells true 0 [.iface (L.length + 1) (jo1 L),nI ((shQ L n x2 + (x3 : Int)) + 1)])] [] (.go 3 (.fork (.go 3 (.need (.go 2 (.slot 28 (nI ((x3 : Int) + 1)) jo1a)))) (.go 2 (.need (.go 2 (.slot 28 (nI ((x3 : Int) + 1)) jo1a))))))))) (.frz [9] (.go 3 (.need (.go 3 (.slot 23 (nI ((x2 : Int) + 1)) (.go 0 (.again [(3,6)]))))))))))) (.go 0 (.inv 3 (Nat) (0) [] [0,2,1] (fun x3 => [(12,nI (x3 : Int)),(6,nI (1 + (dN L n 5))),jo1n,jo1m,jo15,(1,nI m)]) (fun x3 => [(0,true,.cells true 0 (jo12 L n x3)),(2,false,.cells true 0 [slQ 3 1 (shT L n x2).length,slQ 4 1 (brL L n x3).length]),jo1v]) (fun x3 => [(true,.cells true 1 ((brL L n x3).flatMap intC))]) (fun x3 => []) (fun x3 => (x3 <= Int.toNat m /\ firstN (shC L n m) x3 = x3)) (fun x3 => (Int.toNat m - x3)) (fun x3 => .go 2 (.answ [(0,.cells true 0 (jo12 L n x3))] (nI (dN L (shE L n + 2 * (x3 : Int)) m)) [(0,.cells true 0 (jok L n x3))] [] (.go 0 (.fork (.go 3 (.answ [(0,.cells true 0 (jok L n x3))] (nI (jos L n x3)) [(0,.cells true 0 (jo1f L n x3))] [] (.go 0 (.need (.go 3 (.slot 52 (nI ((x3 : Int) + 1)) jo1a)))))) (.go 1 (.keep (.again [(1,3),(2,4)])))))))))))))))))))))
 (newKW ((jo1u L n) : HT).n 3 0 (.cells true 0 [.iface (L.length + 1) (jo1 L),nI (shN L n m)]) (.agg #[slQ 1 1 (List.length (shF L n m).t),slQ 2 1 (List.length (shF L n m).b)]) [(true,.cells true 1 (inL (shF L n m).t)),(true,.cells true 1 (List.flatMap intC (shF L n m).b))]) = Rships L n m:=by kernel_rfl
abbrev joq (L : List Int) (n : Int) : List Value:=[.iface (L.length + 1) (jo1 L),nI (((n + 1) + 1) + 1)]
abbrev jon (L : List Int) (n : Int) : List Value:=[.iface (L.length + 1) (jo1 L),nI ((((n + 1) + 1) + 1) + 1)]
abbrev jo1b (L : List Int) (n : Int) : List Value:=[.iface (L.length + 1) (jo1 L),nI (((((n + 1) + 1) + 1) + 1) + 1)]
abbrev jo1k (L : List Int) (n : Int) : List Value:=[.iface (L.length + 1) (jo1 L),nI (n + 1 + 1 + 1 + 1 + 1)]
def Rrule (L : List Int) (n : Int) : Prop :=
 (((someR (.cells true 0 (jom L n))) /\ True) /\ (∀ H' : Heap,H'.length = 2 -> (H'[0]? = some (.cells true 0 (jom L n) : KObj) /\ True) -> KCall prog 71 [.pointer (some ⟨0,0,none⟩),nI 6] H' [0] (Is (nI (dN L n 6)) (List.set H' 0 (jo1d L n)))) /\ (((someR (.cells true 0 (jo7 L n))) /\ True) /\ (∀ H' : Heap,H'.length = 2 -> (H'[0]? = some (jo1d L n) /\ True) -> KCall prog 71 [.pointer (some ⟨0,0,none⟩),nI 40] H' [0] (Is (nI (dN L (n + 1) 40)) (List.set H' 0 (jo1e L n)))) /\ (((someR (.cells true 0 (jod L n))) /\ True) /\ (∀ H' : Heap,H'.length = 2 -> (H'[0]? = some (jo1e L n) /\ True) -> KCall prog 71 [.pointer (some ⟨0,0,none⟩),nI 4] H' [0] (Is (nI (dN L ((n + 1) + 1) 4)) (List.set H' 0 (.cells true 0 (joq L n) : KObj)))) /\ (((someR (.cells true 0 (joq L n))) /\ True) /\ (∀ H' : Heap,H'.length = 2 -> (H'[0]? = some (.cells true 0 (joq L n) : KObj) /\ True) -> KCall prog 71 [.pointer (some ⟨0,0,none⟩),nI 10] H' [0] (Is (nI (dN L (((n + 1) + 1) + 1) 10)) (List.set H' 0 (.cells true 0 (jon L n) : KObj)))) /\ (((someR (.cells true 0 (jon L n))) /\ True) /\ (∀ H' : Heap,H'.length = 2 -> (H'[0]? = some (.cells true 0 (jon L n) : KObj) /\ True) -> KCall prog 71 [.pointer (some ⟨0,0,none⟩),nI 100] H' [0] (Is (nI (dN L ((((n + 1) + 1) + 1) + 1) 100)) (List.set H' 0 (.cells true 0 (jo1b L n) : KObj)))) /\ (true = true /\ wk (.agg #[nI (dN L n 6),nI (dN L (n + 1) 40),nI (dN L ((n + 1) + 1) 4),nI (dN L (((n + 1) + 1) + 1) 10),nI (dN L ((((n + 1) + 1) + 1) + 1) 100)] : Value) (rn (sg 1 []) 3 (.agg #[nI (rlP L n).ov,nI (rlP L n).warn,nI (rlP L n).w0,nI (rlP L n).w1,nI (rlP L n).w2] : Value)) /\ ((some (.cells true 0 (jo1b L n) : KObj) = some (.cells true 0 (jo1k L n) : KObj) /\ belowO 1 (.cells true 0 (jo1k L n) : KObj) = true) /\ True) /\ (True)))))))
theorem Erule (L : List Int) (n : Int) : vF prog msk (dm 0) 100000 true 40 true 28 [.pointer (some ⟨0,0,none⟩)] (jo1u L n) (some [0])
 (.go 1 (.answ [(0,.cells true 0 (jom L n))] (nI (dN L n 6)) (jo1i L n) [] (.go 0 (.answ (jo1i L n) (nI (dN L (n + 1) 40)) [(0,.cells true 0 (jod L n))] [] (.go 0 (.answ [(0,.cells true 0 (jod L n))] (nI (dN L ((n + 1) + 1) 4)) [(0,.cells true 0 (joq L n))] [] (.go 0 (.answ [(0,.cells true 0 (joq L n))] (nI (dN L (((n + 1) + 1) + 1) 10)) [(0,.cells true 0 (jon L n))] [] (.go 0 (.answ [(0,.cells true 0 (jon L n))] (nI (dN L ((((n + 1) + 1) + 1) + 1) 100)) [(0,.cells true 0 (jo1b L n))] [] (.go 2 (.keep (.again [])))))))))))))
 (newKW ((jo1u L n) : HT).n 3 0 (.cells true 0 (jo1k L n)) (.agg #[nI (rlP L n).ov,nI (rlP L n).warn,nI (rlP L n).w0,nI (rlP L n).w1,nI (rlP L n).w2]) []) = Rrule L n:=by kernel_rfl
abbrev jo1g : List Value:=[.pointer (some ⟨0,0,none⟩),nI 15]
abbrev jo4 (f : Fleet) : Int:=(f.t.length : Nat)
abbrev jo6 (L : List Int) (n : Int) (m : Int) : Prop:=(.pointer (some ⟨0,0,none⟩) : Value) = .pointer (some ⟨0,0,none⟩) /\ (.pointer (some ⟨3,0,none⟩) : Value) = .pointer (some ⟨3,0,none⟩) /\ (.slice none 0 0 : Value) = .slice none 0 0 /\ (nI (dN L n (m + 1)) : Value) = nI (dN L n (m + 1)) /\ (nI (1 + (dN L (n + 1) 15)) : Value) = nI (1 + (dN L (n + 1) 15)) /\ True
abbrev jow (f : Fleet) : Prop:=(keptR 4 (.cells true 0 [slQ 1 2 f.t.length,slQ 2 2 f.b.length])) /\ True
abbrev jo0 (L : List Int) (n : Int) (f : Fleet) (x2 : Nat):=asS L n (jo4 f) x2
abbrev jo18 (L : List Int) (n : Int) (f : Fleet) (x2 : Nat) : List Value:=[.iface (L.length + 1) (jo1 L),nI (jo0 L n f x2).n]
abbrev jo1j (L : List Int) (n : Int) (f : Fleet) (x2 : Nat):=dN L (jo0 L n f x2).n (1 + (dN L (n + 1) 15))
abbrev joz (L : List Int) (n : Int) (f : Fleet) (x2 : Nat) : List Value:=[.iface (L.length + 1) (jo1 L),nI ((jo0 L n f x2).n + 1)]
abbrev jo1h : List Value:=[.pointer (some ⟨0,0,none⟩),nI 3]
abbrev jog (L : List Int) (n : Int) (f : Fleet) (x2 : Nat) : List Value:=[.iface (L.length + 1) (jo1 L),nI (((jo0 L n f x2).n + 1) + 1)]
abbrev joc (L : List Int) (n : Int) (f : Fleet) (x2 : Nat) : List Value:=[.iface (L.length + 1) (jo1 L),nI ((((jo0 L n f x2).n + 1) + 1) + 1)]
abbrev jo9 (L : List Int) (n : Int) (f : Fleet) (x2 : Nat) : List Value:=[.iface (L.length + 1) (jo1 L),nI (((((jo0 L n f x2).n + 1) + 1) + 1) + 1)]
abbrev jol (L : List Int) (n : Int) (f : Fleet) (x2 : Nat) : Prop:=∀ H' : Heap,H'.length = 5 -> (H'[0]? = some (.cells true 0 (joc L n f x2) : KObj) /\ True) -> KCall prog 71 [.pointer (some ⟨0,0,none⟩),nI (jo4 f)] H' [0] (Is (nI (dN L ((((jo0 L n f x2).n + 1) + 1) + 1) (jo4 f))) (List.set H' 0 (.cells true 0 (jo9 L n f x2) : KObj)))
abbrev jo8 (L : List Int) (n : Int) (f : Fleet) (x2 : Nat) : List Value:=[.iface (L.length + 1) (jo1 L),nI ((((((jo0 L n f x2).n + 1) + 1) + 1) + 1) + 1)]
abbrev jo11 (L : List Int) (n : Int) (f : Fleet) (x2 : Nat):=dN L ((((((jo0 L n f x2).n + 1) + 1) + 1) + 1) + 1) 15
abbrev joa (L : List Int) (n : Int) (f : Fleet) (x2 : Nat) : List Value:=[.iface (L.length + 1) (jo1 L),nI (((((((jo0 L n f x2).n + 1) + 1) + 1) + 1) + 1) + 1)]
abbrev jov (L : List Int) (n : Int) (f : Fleet) (x2 : Nat):=dN L (((((((jo0 L n f x2).n + 1) + 1) + 1) + 1) + 1) + 1) 3
abbrev jo16 (L : List Int) (n : Int) (f : Fleet) (x2 : Nat) : List Value:=[.iface (L.length + 1) (jo1 L),nI ((((((((jo0 L n f x2).n + 1) + 1) + 1) + 1) + 1) + 1) + 1)]
abbrev jo10 (L : List Int) (n : Int) (f : Fleet) (x2 : Nat):=List.length (jo0 L n f x2).l
abbrev jo2 (x2 : Nat) (L : List Int) (n : Int) (f : Fleet) : List Value:=[nI (Int.tmod (7 * (x2 : Int)) 31),nI ((jo0 L n f x2).h + (jo1j L n f x2)),nI (dN L ((((jo0 L n f x2).n + 1) + 1) + 1) (jo4 f)),nI (dN L (((((jo0 L n f x2).n + 1) + 1) + 1) + 1) (jo4 f)),nI (1 + (jo11 L n f x2)),nI (1 + (jov L n f x2)),nI (1 + (dN L (((jo0 L n f x2).n + 1) + 1) 60))]
abbrev joi (x2 : Nat) (x2' : Nat) (L : List Int) (n : Int) (f : Fleet) (m : Int) : Prop:=(nI ((x2 : Int) + 1) : Value) = nI (x2' : Int) /\ (nI ((jo0 L n f x2).h + (jo1j L n f x2)) : Value) = nI (asS L n (jo4 f) x2').h /\ wk (.slice (some ⟨6,0,none⟩) ((jo10 L n f x2) + 1) ((jo10 L n f x2) + 1) : Value) (slQ 6 1 (List.length (asS L n (jo4 f) x2').l) : Value) /\ jo6 L n m
abbrev jor (L : List Int) (n : Int) (f : Fleet) (x2' : Nat) : KObj:=.cells true 0 [.iface (L.length + 1) (jo1 L),nI (asS L n (jo4 f) x2').n]
abbrev jo19 (L : List Int) (n : Int) (f : Fleet) (x2' : Nat) : KObj:=.cells true 7 (List.flatMap rqC (asS L n (jo4 f) x2').l)
abbrev jo1c (L : List Int) (n : Int) (f : Fleet) (x2 : Nat):=dN L (((((jo0 L n f x2).n + 1) + 1) + 1) + 1) 15
abbrev jo14 (L : List Int) (n : Int) (f : Fleet) (x2 : Nat):=dN L ((((((jo0 L n f x2).n + 1) + 1) + 1) + 1) + 1) 3
abbrev jo5 (x2 : Nat) (L : List Int) (n : Int) (f : Fleet) : List Value:=[nI (Int.tmod (7 * (x2 : Int)) 31),nI ((jo0 L n f x2).h + (jo1j L n f x2)),nI (dN L (((jo0 L n f x2).n + 1) + 1) (jo4 f)),nI (dN L ((((jo0 L n f x2).n + 1) + 1) + 1) (jo4 f)),nI (1 + (jo1c L n f x2)),nI (1 + (jo14 L n f x2)),nI 0]
def Rasks (L : List Int) (n : Int) (f : Fleet) (m : Int) : Prop :=
 ((nI (IntKind.wrap .i64 (m + 1)) : Value) = nI (m + 1) /\ (((someR (.cells true 0 (jom L n))) /\ True) /\ (∀ H' : Heap,H'.length = 4 -> (H'[0]? = some (.cells true 0 (jom L n) : KObj) /\ True) -> KCall prog 71 [.pointer (some ⟨0,0,none⟩),nI (m + 1)] H' [0] (Is (nI (dN L n (m + 1))) (List.set H' 0 (jo1d L n)))) /\ (((someR (.cells true 0 (jo7 L n))) /\ True) /\ (∀ H' : Heap,H'.length = 4 -> (H'[0]? = some (jo1d L n) /\ True) -> KCall prog 71 jo1g H' [0] (Is (nI (dN L (n + 1) 15)) (List.set H' 0 (jo1e L n)))) /\ ((nI (IntKind.wrap .i64 (1 + (dN L (n + 1) 15))) : Value) = nI (1 + (dN L (n + 1) 15)) /\ (true = true /\ (0 <= asK L n m) /\ (true = true /\ ((nI 0 : Value) = nI jo17 /\ (nI 0 : Value) = nI (asS L n (jo4 f) 0).h /\ wk (.slice none 0 0 : Value) (slQ 0 1 (List.length (asS L n (jo4 f) 0).l) : Value) /\ jo6 L n m) /\ ((some (jo1e L n) = some (.cells true 0 [.iface (L.length + 1) (jo1 L),nI (asS L n (jo4 f) 0).n] : KObj) /\ belowO 4 (.cells true 0 [.iface (L.length + 1) (jo1 L),nI (asS L n (jo4 f) 0).n] : KObj) = true) /\ jow f) /\ jo1l) /\ (∀ x2 : Nat,true = true) /\ ∀ x2 : Nat,(x2 <= asK L n m) -> (((decide (((x2 : Int) : Int) < (dN L n (m + 1)))) = true -> (((someR (.cells true 0 (jo18 L n f x2))) /\ True) /\ (∀ H' : Heap,H'.length = 5 -> (H'[0]? = some (.cells true 0 (jo18 L n f x2) : KObj) /\ True) -> KCall prog 71 [.pointer (some ⟨0,0,none⟩),nI (1 + (dN L (n + 1) 15))] H' [0] (Is (nI (jo1j L n f x2)) (List.set H' 0 (.cells true 0 (joz L n f x2) : KObj)))) /\ ((nI (IntKind.wrap .i64 ((jo0 L n f x2).h + (jo1j L n f x2))) : Value) = nI ((jo0 L n f x2).h + (jo1j L n f x2)) /\ (((someR (.cells true 0 (joz L n f x2))) /\ True) /\ (∀ H' : Heap,H'.length = 5 -> (H'[0]? = some (.cells true 0 (joz L n f x2) : KObj) /\ True) -> KCall prog 71 jo1h H' [0] (Is (nI (dN L ((jo0 L n f x2).n + 1) 3)) (List.set H' 0 (.cells true 0 (jog L n f x2) : KObj)))) /\ (((((dN L ((jo0 L n f x2).n + 1) 3) : Int) == 0) = true -> (((someR (.cells true 0 (jog L n f x2))) /\ True) /\ (∀ H' : Heap,H'.length = 5 -> (H'[0]? = some (.cells true 0 (jog L n f x2) : KObj) /\ True) -> KCall prog 71 [.pointer (some ⟨0,0,none⟩),nI 60] H' [0] (Is (nI (dN L (((jo0 L n f x2).n + 1) + 1) 60)) (List.set H' 0 (.cells true 0 (joc L n f x2) : KObj)))) /\ ((nI (IntKind.wrap .i64 (1 + (dN L (((jo0 L n f x2).n + 1) + 1) 60))) : Value) = nI (1 + (dN L (((jo0 L n f x2).n + 1) + 1) 60)) /\ ((nI (IntKind.wrap .i64 (7 * (x2 : Int))) : Value) = nI (7 * (x2 : Int)) /\ (((someR (.cells true 0 (joc L n f x2))) /\ True) /\ (jol L n f x2) /\ (((someR (.cells true 0 (jo9 L n f x2))) /\ True) /\ (∀ H' : Heap,H'.length = 5 -> (H'[0]? = some (.cells true 0 (jo9 L n f x2) : KObj) /\ True) -> KCall prog 71 [.pointer (some ⟨0,0,none⟩),nI (jo4 f)] H' [0] (Is (nI (dN L (((((jo0 L n f x2).n + 1) + 1) + 1) + 1) (jo4 f))) (List.set H' 0 (.cells true 0 (jo8 L n f x2) : KObj)))) /\ (((someR (.cells true 0 (jo8 L n f x2))) /\ True) /\ (∀ H' : Heap,H'.length = 5 -> (H'[0]? = some (.cells true 0 (jo8 L n f x2) : KObj) /\ True) -> KCall prog 71 jo1g H' [0] (Is (nI (jo11 L n f x2)) (List.set H' 0 (.cells true 0 (joa L n f x2) : KObj)))) /\ ((nI (IntKind.wrap .i64 (1 + (jo11 L n f x2))) : Value) = nI (1 + (jo11 L n f x2)) /\ (((someR (.cells true 0 (joa L n f x2))) /\ True) /\ (∀ H' : Heap,H'.length = 5 -> (H'[0]? = some (.cells true 0 (joa L n f x2) : KObj) /\ True) -> KCall prog 71 jo1h H' [0] (Is (nI (jov L n f x2)) (List.set H' 0 (.cells true 0 (jo16 L n f x2) : KObj)))) /\ ((nI (IntKind.wrap .i64 (1 + (jov L n f x2))) : Value) = nI (1 + (jov L n f x2)) /\ ((((jo10 L n f x2) + 1) * 56 <= 2 ^ 44 /\ 1 ≠ 0 /\ ((jo10 L n f x2) <= (jo10 L n f x2) /\ 0 + (jo10 L n f x2) * 7 <= List.length (List.flatMap rqC (jo0 L n f x2).l)) /\ (1 <= 1 /\ 0 + 1 * 7 <= List.length (jo2 x2 L n f)) /\ ((((jo2 x2 L n f).drop 0).take (1 * 7)) : List Value).all (fun v => one1 v) = true) /\ true = true /\ ((jo1p x2) = nI ((x2 : Int) + 1) /\ (∃ x2' : Nat,(x2' <= asK L n m) /\ (asK L n m - x2') < (asK L n m - x2) /\ true = true /\ (joi x2 x2' L n f m) /\ ((some (.cells true 0 (jo16 L n f x2) : KObj) = some (jor L n f x2') /\ belowO 4 (jor L n f x2') = true) /\ jow f) /\ ((some (.cells true 7 ((((List.flatMap rqC (jo0 L n f x2).l).drop 0).take ((jo10 L n f x2) * 7)) ++ (((jo2 x2 L n f).drop 0).take (1 * 7))) : KObj) = some (jo19 L n f x2') /\ belowO 4 (jo19 L n f x2') = true) /\ True) /\ (True)))))))))))))) /\ ((((dN L ((jo0 L n f x2).n + 1) 3) : Int) == 0) = false -> ((nI (IntKind.wrap .i64 (7 * (x2 : Int))) : Value) = nI (7 * (x2 : Int)) /\ (((someR (.cells true 0 (jog L n f x2))) /\ True) /\ (∀ H' : Heap,H'.length = 5 -> (H'[0]? = some (.cells true 0 (jog L n f x2) : KObj) /\ True) -> KCall prog 71 [.pointer (some ⟨0,0,none⟩),nI (jo4 f)] H' [0] (Is (nI (dN L (((jo0 L n f x2).n + 1) + 1) (jo4 f))) (List.set H' 0 (.cells true 0 (joc L n f x2) : KObj)))) /\ (((someR (.cells true 0 (joc L n f x2))) /\ True) /\ (jol L n f x2) /\ (((someR (.cells true 0 (jo9 L n f x2))) /\ True) /\ (∀ H' : Heap,H'.length = 5 -> (H'[0]? = some (.cells true 0 (jo9 L n f x2) : KObj) /\ True) -> KCall prog 71 jo1g H' [0] (Is (nI (jo1c L n f x2)) (List.set H' 0 (.cells true 0 (jo8 L n f x2) : KObj)))) /\ ((nI (IntKind.wrap .i64 (1 + (jo1c L n f x2))) : Value) = nI (1 + (jo1c L n f x2)) /\ (((someR (.cells true 0 (jo8 L n f x2))) /\ True) /\ (∀ H' : Heap,H'.length = 5 -> (H'[0]? = some (.cells true 0 (jo8 L n f x2) : KObj) /\ True) -> KCall prog 71 jo1h H' [0] (Is (nI (jo14 L n f x2)) (List.set H' 0 (.cells true 0 (joa L n f x2) : KObj)))) /\ ((nI (IntKind.wrap .i64 (1 + (jo14 L n f x2))) : Value) = nI (1 + (jo14 L n f x2)) /\ ((((jo10 L n f x2) + 1) * 56 <= 2 ^ 44 /\ 1 ≠ 0 /\ ((jo10 L n f x2) <= (jo10 L n f x2) /\ 0 + (jo10 L n f x2) * 7 <= List.length (List.flatMap rqC (jo0 L n f x2).l)) /\ (1 <= 1 /\ 0 + 1 * 7 <= List.length (jo5 x2 L n f)) /\ ((((jo5 x2 L n f).drop 0).take (1 * 7)) : List Value).all (fun v => one1 v) = true) /\ true = true /\ ((jo1p x2) = nI ((x2 : Int) + 1) /\ (∃ x2' : Nat,(x2' <= asK L n m) /\ (asK L n m - x2') < (asK L n m - x2) /\ true = true /\ (joi x2 x2' L n f m) /\ ((some (.cells true 0 (joa L n f x2) : KObj) = some (jor L n f x2') /\ belowO 4 (jor L n f x2') = true) /\ jow f) /\ ((some (.cells true 7 ((((List.flatMap rqC (jo0 L n f x2).l).drop 0).take ((jo10 L n f x2) * 7)) ++ (((jo5 x2 L n f).drop 0).take (1 * 7))) : KObj) = some (jo19 L n f x2') /\ belowO 4 (jo19 L n f x2') = true) /\ True) /\ (True))))))))))))))))) /\ ((decide (((x2 : Int) : Int) < (dN L n (m + 1)))) = false -> (true = true /\ wk (slQ 4 1 (jo10 L n f x2) : Value) (rn (sg 3 [(3,4)]) 3 (slQ 3 1 (asL L n m (jo4 f)).length : Value)) /\ ((some (.cells true 0 (jo18 L n f x2) : KObj) = some (.cells true 0 [.iface (L.length + 1) (jo1 L),nI (asN L n m (jo4 f))] : KObj) /\ belowO 3 (.cells true 0 [.iface (L.length + 1) (jo1 L),nI (asN L n m (jo4 f))] : KObj) = true) /\ True) /\ ((some (.cells true 7 (List.flatMap rqC (jo0 L n f x2).l) : KObj) = some (.cells true 7 ((asL L n m (jo4 f)).flatMap rqC) : KObj) /\ belowO 3 (.cells true 7 ((asL L n m (jo4 f)).flatMap rqC) : KObj) = true) /\ True)))))))))
theorem Easks (L : List Int) (n : Int) (f : Fleet) (m : Int) : vF prog msk (dm 0) 100000 true 40 true 27 [.pointer (some ⟨0,0,none⟩),.agg #[slQ 1 2 f.t.length,slQ 2 2 f.b.length],nI m] (readsW 0 0 (digC L n) [inL f.t,f.b.flatMap intC]) (some [0])
 (.go 5 (.slot 15 (nI (m + 1)) (.answ [(0,.cells true 0 (jom L n))] (nI (dN L n (m + 1))) (jo1i L n) [] (.go 1 (.answ (jo1i L n) (nI (dN L (n + 1) 15)) [(0,.cells true 0 (jod L n))] [] (.go 0 (.slot 19 (nI (1 + (dN L (n + 1) 15))) (.go 2 (.inv 3 (Nat) (0) [] [0,3] (fun x2 => [(11,nI (x2 : Int)),(10,nI (jo0 L n f x2).h),(7,slQ 4 1 (jo10 L n f x2)),jo15,(4,.pointer (some ⟨3,0,none⟩)),(6,.slice none 0 0),(8,nI (dN L n (m + 1))),(9,nI (1 + (dN L (n + 1) 15)))]) (fun x2 => [(0,true,.cells true 0 (jo18 L n f x2)),(3,true,.cells true 0 [slQ 1 2 f.t.length,slQ 2 2 f.b.length])]) (fun x2 => [(true,.cells true 7 (List.flatMap rqC (jo0 L n f x2).l))]) (fun x2 => []) (fun x2 => (x2 <= asK L n m)) (fun x2 => (asK L n m - x2)) (fun x2 => .go 2 (.fork (.go 2 (.answ [(0,.cells true 0 (jo18 L n f x2))] (nI (jo1j L n f x2)) [(0,.cells true 0 (joz L n f x2))] [] (.go 0 (.slot 29 (nI ((jo0 L n f x2).h + (jo1j L n f x2))) (.go 2 (.answ [(0,.cells true 0 (joz L n f x2))] (nI (dN L ((jo0 L n f x2).n + 1) 3)) [(0,.cells true 0 (jog L n f x2))] [] (.go 0 (.fork (.go 0 (.answ [(0,.cells true 0 (jog L n f x2))] (nI (dN L (((jo0 L n f x2).n + 1) + 1) 60)) [(0,.cells true 0 (joc L n f x2))] [] (.go 0 (.slot 35 (nI (1 + (dN L (((jo0 L n f x2).n + 1) + 1) 60))) (.go 3 (.slot 38 (nI (7 * (x2 : Int))) (.go 12 (.answ [(0,.cells true 0 (joc L n f x2))] (nI (dN L ((((jo0 L n f x2).n + 1) + 1) + 1) (jo4 f))) [(0,.cells true 0 (jo9 L n f x2))] [] (.answ [(0,.cells true 0 (jo9 L n f x2))] (nI (dN L (((((jo0 L n f x2).n + 1) + 1) + 1) + 1) (jo4 f))) [(0,.cells true 0 (jo8 L n f x2))] [] (.answ [(0,.cells true 0 (jo8 L n f x2))] (nI (jo11 L n f x2)) [(0,.cells true 0 (joa L n f x2))] [] (.go 0 (.slot 53 (nI (1 + (jo11 L n f x2))) (.answ [(0,.cells true 0 (joa L n f x2))] (nI (jov L n f x2)) [(0,.cells true 0 (jo16 L n f x2))] [] (.go 0 (.slot 56 (nI (1 + (jov L n f x2))) (.go 1 (.need (.go 2 (.slot 24 (nI ((x2 : Int) + 1)) jo1a))))))))))))))))))) (.go 2 (.slot 38 (nI (7 * (x2 : Int))) (.go 12 (.answ [(0,.cells true 0 (jog L n f x2))] (nI (dN L (((jo0 L n f x2).n + 1) + 1) (jo4 f))) [(0,.cells true 0 (joc L n f x2))] [] (.answ [(0,.cells true 0 (joc L n f x2))] (nI (dN L ((((jo0 L n f x2).n + 1) + 1) + 1) (jo4 f))) [(0,.cells true 0 (jo9 L n f x2))] [] (.answ [(0,.cells true 0 (jo9 L n f x2))] (nI (jo1c L n f x2)) [(0,.cells true 0 (jo8 L n f x2))] [] (.go 0 (.slot 53 (nI (1 + (jo1c L n f x2))) (.answ [(0,.cells true 0 (jo8 L n f x2))] (nI (jo14 L n f x2)) [(0,.cells true 0 (joa L n f x2))] [] (.go 0 (.slot 56 (nI (1 + (jo14 L n f x2))) (.go 1 (.need (.go 2 (.slot 24 (nI ((x2 : Int) + 1)) jo1a))))))))))))))))))))))) (.go 1 (.keep (.again [(3,4)]))))))))))))))
 (newKW ((readsW 0 0 (digC L n) [inL f.t,f.b.flatMap intC]) : HT).n 3 0 (.cells true 0 [.iface (L.length + 1) (jo1 L),nI (asN L n m (jo4 f))]) (slQ 3 1 (asL L n m (jo4 f)).length) [(true,.cells true 7 ((asL L n m (jo4 f)).flatMap rqC))]) = Rasks L n f m:=by kernel_rfl
end
end Go.Proofs.YthdekmpkioikdaaGreat
/- Request: contracts of what makes fleets, requests and policies of numbers. No condition. -/
namespace Go.Proofs.YthdekmpkioikdaaGreat
open Go Go.K
set_option maxRecDepth 100000
set_option linter.unusedVariables false
set_option linter.unusedSimpArgs false
noncomputable section
attribute [local irreducible] vF
theorem plainDig (m : Nat) (L : List Int) (n : Int) : (digC L n).all (belowC m) = true := by
 show ((L.flatMap intC).all (belowD m) && (true && true)) = true
 rw [all_belowD]; rfl
theorem digO (m : Nat) (L : List Int) (n : Int) : belowO m (.cells true 0 (digC L n)) = true := plainDig m L n
theorem digE {L : List Int} {a b : Int} (h : a = b) : (some (KObj.cells true 0 (digC L a)) : Option KObj) = some (KObj.cells true 0 (digC L b)) := by rw [h]
theorem dN_bd (L : List Int) (n : Int) {m : Int} (hm : 1 <= m) : 0 <= dN L n m /\ dN L n m < m := by
 unfold dN
 exact ⟨Int.emod_nonneg _ (by omega), Int.emod_lt_of_pos _ (by omega)⟩
theorem tmod_len {L : List Int} {n : Int} (hn : 0 <= n) (hL : 0 < L.length) : 0 <= Int.tmod n ((L.length : Nat) : Int) /\ Int.tmod n ((L.length : Nat) : Int) < ((L.length : Nat) : Int) := by
 rw [Int.tmod_eq_emod_of_nonneg hn]
 exact ⟨Int.emod_nonneg _ (by omega), Int.emod_lt_of_pos _ (by omega)⟩
theorem kNext (L : List Int) (n m : Int) (hn : 0 <= n /\ n <= 1000000000) (hm : 1 <= m /\ m <= 1000000000) {H : Heap} {D : Nat} (hD : H[D]? = some (.cells true 0 (digC L n))) :
  KCall prog 71 [.pointer (some ⟨D, 0, none⟩), .int .i64 m] H [D] (Is (.int .i64 (dN L n m)) (H.set D (.cells true 0 (digC L (n + 1))))) := by
 have key : KCall prog 71 [.pointer (some ⟨D, 0, none⟩), .int .i64 m] H [D] (Is (.int .i64 (dN L n m)) (H.set D (.cells true 0 (digC L (n + 1))) ++ [])) := by
  refine valW (fun _ => .int .i64 (dN L n m)) (css := []) (new := []) (Eq.mpr (ENext L n m) ?_) (plainDig 0 L n) (plainDig 0 L (n + 1)) trivial trivial rfl rfl (fun _ => rfl) hD (ids := []) trivial (by simp) rfl
  delta RNext jop jo1 jo7 jo1d joo
  have hw : IntKind.wrap .i64 (n + 1) = n + 1 := wI64 (by omega)
  refine forkD (fun k => ?_) (fun k => ?_)
  ·have hL : 0 < L.length := by omega
   have hd : dVal L n = IntKind.wrap .i64 (L.getD (Int.toNat (Int.tmod n ((L.length : Nat) : Int))) 0 + IntKind.wrap .i64 (Int.tdiv n ((L.length : Nat) : Int))) := if_pos hL
   have hb := tmod_len hn.1 hL
   refine ⟨by omega, hb, intAt (by omega) (by omega), by omega, _, rfl, _, rfl, trivial, fun H' _ _ => kPick _ _ (by omega) (by omega) H', rfl, ?_, ⟨⟨by rw [hw], digO _ _ _⟩, trivial⟩, trivial⟩
   unfold dN
   rw [hd]; exact wk_refl _
  ·have hd : dVal L n = 0 := if_neg (by omega)
   refine ⟨trivial, fun H' _ _ => kPick _ _ (by omega) (by omega) H', rfl, ?_, ⟨⟨by rw [hw], digO _ _ _⟩, trivial⟩, trivial⟩
   unfold dN
   rw [hd]; exact wk_refl _
 rw [List.append_nil] at key
 exact key
theorem shW_in (L : List Int) (n : Int) : 1 <= shW L n /\ shW L n <= 5 := by
 have := dN_bd L n (m := 5) (by omega)
 unfold shW; omega
theorem shR_in (L : List Int) (n : Int) : 1 <= shR L n /\ shR L n <= 12 := by
 have := dN_bd L (n + 1) (m := 12) (by omega)
 unfold shR; omega
theorem shQ_0 (L : List Int) (n : Int) : shQ L n 0 = n + 1 + 1 := by simp [shQ]
theorem shQ_s (L : List Int) (n : Int) (i : Nat) : shQ L n (i + 1) = shQ L n i + shW L n := by
 unfold shQ
 rw [show ((i + 1 : Nat) : Int) = (i : Int) + 1 by omega, Int.add_mul, Int.one_mul]; omega
theorem shQ_in (L : List Int) (n : Int) : ∀ i : Nat, n + 2 + (i : Int) <= shQ L n i /\ shQ L n i <= n + 2 + 5 * (i : Int)
 | 0 => by rw [shQ_0]; omega
 | i + 1 => by
  have := shQ_in L n i
  have := shW_in L n
  rw [shQ_s]; omega
theorem rwL_len (L : List Int) (q far : Int) (i : Nat) : ∀ k : Nat, (rwL L q far i k).length = k
 | 0 => rfl
 | k + 1 => by
  show (rwL L q far i k ++ [_]).length = k + 1
  rw [List.length_append, rwL_len L q far i k]; rfl
theorem shT_len (L : List Int) (n : Int) : ∀ i : Nat, (shT L n i).length = i
 | 0 => rfl
 | i + 1 => by
  show (shT L n i ++ [_]).length = i + 1
  rw [List.length_append, shT_len L n i]; rfl
theorem brL_len (L : List Int) (n : Int) : ∀ i : Nat, (brL L n i).length = i
 | 0 => rfl
 | i + 1 => by
  show (brL L n i ++ [_]).length = i + 1
  rw [List.length_append, brL_len L n i]; rfl
theorem inL_sn (T : List (List Int)) (r : List Int) : List.take (T.length * 1) (List.drop 0 (inL T)) ++ List.take (1 * 1) (List.drop 0 [inV r]) = inL (T ++ [r]) := by
 unfold inL
 rw [List.drop_zero, Nat.mul_one, List.take_of_length_le (by rw [List.length_map]; exact Nat.le_refl _), List.map_append]; rfl
set_option maxHeartbeats 4000000 in
theorem kShips (L : List Int) (n m : Int) (hn : 0 <= n /\ n <= 100000000) (hm : 1 <= m /\ m <= 1000) {H : Heap} {N : Nat} (hN : H.length = N) {D : Nat} (hD : H[D]? = some (.cells true 0 (digC L n))) :
  KCall prog 26 [.pointer (some ⟨D, 0, none⟩), nI m] H [D] (Is (fleetV (shF L n m) N (N + 1) 1) (H.set D (.cells true 0 (digC L (shN L n m))) ++ [.cells true 1 (inL (shF L n m).t), .cells true 1 ((shF L n m).b.flatMap intC)])) := by
 subst hN
 refine valW (fun i => fleetV (shF L n m) i (i + 1) 1) (css := []) (new := [.cells true 1 (inL (shF L n m).t), .cells true 1 ((shF L n m).b.flatMap intC)]) (Eq.mpr (Eships L n m) ?_) (plainDig 0 L n) (plainDig 0 L _) trivial ⟨⟨_, _, rfl, inL_b 0 _⟩, ⟨_, _, rfl, plainIL 0 _⟩, trivial⟩ rfl rfl (fun _ => rfl) hD (ids := []) trivial (by simp) rfl
 have w := shW_in L n
 have w2 : 1 + dN L n 5 = shW L n := rfl
 have fr := shR_in L n
 have fr2 : 1 + dN L (n + 1) 12 = shR L n := rfl
 delta Rships jo1 jom jo7 jo1d jod jo1e jo17 jof joj jo1q jo1l jo3 jo1s jox jot job jo1r jo1o jou joe joy jo13 jo1p joh jo12 jo1t jok jos jo1f
 rw [w2, fr2]
 refine ⟨⟨rfl, trivial⟩, fun H' _ hd => kNext L n 5 (by omega) (by omega) hd.1, vI64 (by omega), ⟨rfl, trivial⟩, fun H' _ hd => kNext L (n + 1) 12 (by omega) (by omega) hd.1, vI64 (by omega), rfl, Nat.zero_le _, ?_, fun _ => rfl, ?_⟩
 ·rw [shQ_0]
  repeat' first | exact inL_b _ _ | exact plainIL _ _ | exact plainRQ _ _ | exact digO _ _ _ | exact wk_nil _ _ _ (.inr rfl) | exact trivial | exact rfl | exact wk_refl _ | refine wkO_cells ?_ | refine wks_cons ?_ ?_ | exact wks_nil | exact wk_nil _ _ _ (.inl rfl) | (exact wk_Q (by omega)) | refine wk_tupL ?_ | refine wk_aggL ?_ | refine joinMax ?_ ?_ ?_ | refine joinMin ?_ ?_ ?_ | refine toMax ?_ | refine toMin ?_ | refine ⟨rfl, ?_⟩ | refine ⟨trivial, ?_⟩ | (refine forkD (fun h => ?_) (fun h => ?_)) | (refine forkNe (fun h => ?_) (fun h => ?_)) | (refine forkEq (fun h => ?_) (fun h => ?_)) | refine forkNot ?_ | (refine ⟨vI64 (by omega), ?_⟩) | (refine And.intro (by omega) ?_) | apply And.intro | (exact iEq (by omega)) | (exact vI64 (by omega))
 intro i hi
 have qi := shQ_in L n i
 refine forkD (fun c => ?_) (fun c => ?_)
 ·have hiW : i < Int.toNat (shW L n) := by omega
  refine ⟨rfl, Nat.zero_le _, ?_, fun _ => rfl, ?_⟩
  ·rw [show shQ L n i + ((0 : Nat) : Int) = shQ L n i by omega]
   repeat' first | exact inL_b _ _ | exact plainIL _ _ | exact plainRQ _ _ | exact digO _ _ _ | exact wk_nil _ _ _ (.inr rfl) | exact trivial | exact rfl | exact wk_refl _ | refine wkO_cells ?_ | refine wks_cons ?_ ?_ | exact wks_nil | exact wk_nil _ _ _ (.inl rfl) | (exact wk_Q (by omega)) | refine wk_tupL ?_ | refine wk_aggL ?_ | refine joinMax ?_ ?_ ?_ | refine joinMin ?_ ?_ ?_ | refine toMax ?_ | refine toMin ?_ | refine ⟨rfl, ?_⟩ | refine ⟨trivial, ?_⟩ | (refine forkD (fun h => ?_) (fun h => ?_)) | (refine forkNe (fun h => ?_) (fun h => ?_)) | (refine forkEq (fun h => ?_) (fun h => ?_)) | refine forkNot ?_ | (refine ⟨vI64 (by omega), ?_⟩) | (refine And.intro (by omega) ?_) | apply And.intro | (exact iEq (by omega)) | (exact vI64 (by omega))
  intro k hk
  have hl := rwL_len L (shQ L n i) (shR L n) i k
  refine forkD (fun c2 => ?_) (fun c2 => ?_)
  ·refine ⟨vI64 (by omega), ⟨rfl, trivial⟩, fun H' _ hd => kNext L _ _ (by omega) (by omega) hd.1, forkEq (fun e => ?_) (fun e => ?_)⟩
   ·have hs : rwL L (shQ L n i) (shR L n) i (k + 1) = rwL L (shQ L n i) (shR L n) i k ++ [0] := by
     show _ ++ [if (i : Int) = (k : Int) then (0 : Int) else _] = _
     rw [if_pos e]
    refine ⟨⟨by rw [hl]; omega, by decide, ⟨Nat.le_refl _, flat_le intC_len _⟩, ⟨Nat.le_refl _, Nat.le_refl _⟩, rfl⟩, rfl, vI64 (by omega), k + 1, by omega, by omega, rfl, ?_⟩
    repeat' first | exact inL_b _ _ | exact plainIL _ _ | exact plainRQ _ _ | exact digO _ _ _ | exact wk_nil _ _ _ (.inr rfl) | exact wk_snoc hs | exact ob_snoc intC_len hs rfl | (exact digE (by omega)) | exact trivial | exact rfl | exact wk_refl _ | refine wkO_cells ?_ | refine wks_cons ?_ ?_ | exact wks_nil | exact wk_nil _ _ _ (.inl rfl) | (exact wk_Q (by omega)) | refine wk_tupL ?_ | refine wk_aggL ?_ | refine joinMax ?_ ?_ ?_ | refine joinMin ?_ ?_ ?_ | refine toMax ?_ | refine toMin ?_ | refine ⟨rfl, ?_⟩ | refine ⟨trivial, ?_⟩ | (refine forkD (fun h => ?_) (fun h => ?_)) | (refine forkNe (fun h => ?_) (fun h => ?_)) | (refine forkEq (fun h => ?_) (fun h => ?_)) | refine forkNot ?_ | (refine ⟨vI64 (by omega), ?_⟩) | (refine And.intro (by omega) ?_) | apply And.intro | (exact iEq (by omega)) | (exact vI64 (by omega))
   ·have hs : rwL L (shQ L n i) (shR L n) i (k + 1) = rwL L (shQ L n i) (shR L n) i k ++ [dN L (shQ L n i + (k : Int)) (shR L n + 1)] := by
     show _ ++ [if (i : Int) = (k : Int) then (0 : Int) else _] = _
     rw [if_neg e]
    refine ⟨⟨by rw [hl]; omega, by decide, ⟨Nat.le_refl _, flat_le intC_len _⟩, ⟨Nat.le_refl _, Nat.le_refl _⟩, rfl⟩, rfl, vI64 (by omega), k + 1, by omega, by omega, rfl, ?_⟩
    repeat' first | exact inL_b _ _ | exact plainIL _ _ | exact plainRQ _ _ | exact digO _ _ _ | exact wk_nil _ _ _ (.inr rfl) | exact wk_snoc hs | exact ob_snoc intC_len hs rfl | (exact digE (by omega)) | exact trivial | exact rfl | exact wk_refl _ | refine wkO_cells ?_ | refine wks_cons ?_ ?_ | exact wks_nil | exact wk_nil _ _ _ (.inl rfl) | (exact wk_Q (by omega)) | refine wk_tupL ?_ | refine wk_aggL ?_ | refine joinMax ?_ ?_ ?_ | refine joinMin ?_ ?_ ?_ | refine toMax ?_ | refine toMin ?_ | refine ⟨rfl, ?_⟩ | refine ⟨trivial, ?_⟩ | (refine forkD (fun h => ?_) (fun h => ?_)) | (refine forkNe (fun h => ?_) (fun h => ?_)) | (refine forkEq (fun h => ?_) (fun h => ?_)) | refine forkNot ?_ | (refine ⟨vI64 (by omega), ?_⟩) | (refine And.intro (by omega) ?_) | apply And.intro | (exact iEq (by omega)) | (exact vI64 (by omega))
  ·obtain rfl : k = Int.toNat (shW L n) := by omega
   have hT := shT_len L n i
   have qs := shQ_s L n i
   have hs : shT L n (i + 1) = shT L n i ++ [rwL L (shQ L n i) (shR L n) i (Int.toNat (shW L n))] := rfl
   have hb := inL_sn (shT L n i) (rwL L (shQ L n i) (shR L n) i (Int.toNat (shW L n)))
   rw [<- hs] at hb
   refine ⟨⟨by rw [hT]; omega, by decide, ⟨Nat.le_refl _, by rw [inL_len]; omega⟩, ⟨Nat.le_refl _, Nat.le_refl _⟩, rfl⟩, rfl, vI64 (by omega), i + 1, by omega, by omega, rfl, ?_⟩
   repeat' first | exact inL_b _ _ | exact plainIL _ _ | exact plainRQ _ _ | exact digO _ _ _ | exact wk_nil _ _ _ (.inr rfl) | exact wk_snoc hs | (exact congrArg (fun l => some (KObj.cells true 1 l)) hb) | (exact digE (by omega)) | exact trivial | exact rfl | exact wk_refl _ | refine wkO_cells ?_ | refine wks_cons ?_ ?_ | exact wks_nil | exact wk_nil _ _ _ (.inl rfl) | (exact wk_Q (by omega)) | refine wk_tupL ?_ | refine wk_aggL ?_ | refine joinMax ?_ ?_ ?_ | refine joinMin ?_ ?_ ?_ | refine toMax ?_ | refine toMin ?_ | refine ⟨rfl, ?_⟩ | refine ⟨trivial, ?_⟩ | (refine forkD (fun h => ?_) (fun h => ?_)) | (refine forkNe (fun h => ?_) (fun h => ?_)) | (refine forkEq (fun h => ?_) (fun h => ?_)) | refine forkNot ?_ | (refine ⟨vI64 (by omega), ?_⟩) | (refine And.intro (by omega) ?_) | apply And.intro | (exact iEq (by omega)) | (exact vI64 (by omega))
 obtain rfl : i = Int.toNat (shW L n) := by omega
 have eE : shE L n = shQ L n (Int.toNat (shW L n)) := rfl
 refine ⟨rfl, ⟨Nat.zero_le _, rfl⟩, ?_, fun _ => rfl, ?_⟩
 ·rw [show shE L n + 2 * ((0 : Nat) : Int) = shQ L n (Int.toNat (shW L n)) by omega]
  repeat' first | exact inL_b _ _ | exact plainIL _ _ | exact plainRQ _ _ | exact digO _ _ _ | exact wk_nil _ _ _ (.inr rfl) | exact trivial | exact rfl | exact wk_refl _ | refine wkO_cells ?_ | refine wks_cons ?_ ?_ | exact wks_nil | exact wk_nil _ _ _ (.inl rfl) | (exact wk_Q (by omega)) | refine wk_tupL ?_ | refine wk_aggL ?_ | refine joinMax ?_ ?_ ?_ | refine joinMin ?_ ?_ ?_ | refine toMax ?_ | refine toMin ?_ | refine ⟨rfl, ?_⟩ | refine ⟨trivial, ?_⟩ | (refine forkD (fun h => ?_) (fun h => ?_)) | (refine forkNe (fun h => ?_) (fun h => ?_)) | (refine forkEq (fun h => ?_) (fun h => ?_)) | refine forkNot ?_ | (refine ⟨vI64 (by omega), ?_⟩) | (refine And.intro (by omega) ?_) | apply And.intro | (exact iEq (by omega)) | (exact vI64 (by omega))
 rintro x ⟨hx, hf⟩
 try dsimp only
 have hd0 := dN_bd L (shE L n + 2 * (x : Int)) (m := m) (by omega)
 have hbl := brL_len L n x
 refine ⟨⟨rfl, trivial⟩, fun H' _ hd => kNext L _ _ (by omega) (by omega) hd.1, forkD (fun c2 => ?_) (fun c2 => ?_)⟩
 ·have hs : brL L n (x + 1) = brL L n x ++ [dN L (shE L n + 2 * (x : Int) + 1) (shW L n)] := rfl
  refine ⟨⟨rfl, trivial⟩, fun H' _ hd => kNext L _ _ (by omega) (by omega) hd.1, ⟨by rw [hbl]; omega, by decide, ⟨Nat.le_refl _, flat_le intC_len _⟩, ⟨Nat.le_refl _, Nat.le_refl _⟩, rfl⟩, rfl, vI64 (by omega), x + 1, ⟨by omega, firstN_succ hf (decide_eq_false (by omega))⟩, by omega, rfl, ?_⟩
  repeat' first | exact inL_b _ _ | exact plainIL _ _ | exact plainRQ _ _ | exact digO _ _ _ | exact wk_nil _ _ _ (.inr rfl) | exact wk_snoc hs | exact ob_snoc intC_len hs rfl | (exact digE (by omega)) | exact trivial | exact rfl | exact wk_refl _ | refine wkO_cells ?_ | refine wks_cons ?_ ?_ | exact wks_nil | exact wk_nil _ _ _ (.inl rfl) | (exact wk_Q (by omega)) | refine wk_tupL ?_ | refine wk_aggL ?_ | refine joinMax ?_ ?_ ?_ | refine joinMin ?_ ?_ ?_ | refine toMax ?_ | refine toMin ?_ | refine ⟨rfl, ?_⟩ | refine ⟨trivial, ?_⟩ | (refine forkD (fun h => ?_) (fun h => ?_)) | (refine forkNe (fun h => ?_) (fun h => ?_)) | (refine forkEq (fun h => ?_) (fun h => ?_)) | refine forkNot ?_ | (refine ⟨vI64 (by omega), ?_⟩) | (refine And.intro (by omega) ?_) | apply And.intro | (exact iEq (by omega)) | (exact vI64 (by omega))
 ·have hX : shX L n m = x := firstN_at hf (decide_eq_true (by omega)) (by omega)
  have e1 : (shF L n m).t = shT L n (Int.toNat (shW L n)) := rfl
  have e2 : (shF L n m).b = brL L n x := by show brL L n (shX L n m) = _; rw [hX]
  have e3 : shN L n m = shE L n + 2 * (x : Int) + 1 := by unfold shN; rw [hX]
  rw [e1, e2, e3]
  repeat' first | exact inL_b _ _ | exact plainIL _ _ | exact plainRQ _ _ | exact digO _ _ _ | exact wk_nil _ _ _ (.inr rfl) | exact trivial | exact rfl | exact wk_refl _ | refine wkO_cells ?_ | refine wks_cons ?_ ?_ | exact wks_nil | exact wk_nil _ _ _ (.inl rfl) | (exact wk_Q (by omega)) | refine wk_tupL ?_ | refine wk_aggL ?_ | refine joinMax ?_ ?_ ?_ | refine joinMin ?_ ?_ ?_ | refine toMax ?_ | refine toMin ?_ | refine ⟨rfl, ?_⟩ | refine ⟨trivial, ?_⟩ | (refine forkD (fun h => ?_) (fun h => ?_)) | (refine forkNe (fun h => ?_) (fun h => ?_)) | (refine forkEq (fun h => ?_) (fun h => ?_)) | refine forkNot ?_ | (refine ⟨vI64 (by omega), ?_⟩) | (refine And.intro (by omega) ?_) | apply And.intro | (exact iEq (by omega)) | (exact vI64 (by omega))
theorem kRule (L : List Int) (n : Int) (hn : 0 <= n /\ n <= 100000000) {H : Heap} {D : Nat} (hD : H[D]? = some (.cells true 0 (digC L n))) :
  KCall prog 28 [.pointer (some ⟨D, 0, none⟩)] H [D] (Is (.agg ⟨polC (rlP L n)⟩) (H.set D (.cells true 0 (digC L (n + 1 + 1 + 1 + 1 + 1))))) := by
 have key : KCall prog 28 [.pointer (some ⟨D, 0, none⟩)] H [D] (Is (.agg ⟨polC (rlP L n)⟩) (H.set D (.cells true 0 (digC L (n + 1 + 1 + 1 + 1 + 1))) ++ [])) := by
  refine valW (fun _ => .agg ⟨polC (rlP L n)⟩) (css := []) (new := []) (Eq.mpr (Erule L n) ?_) (plainDig 0 L n) (plainDig 0 L _) trivial trivial rfl rfl (fun _ => rfl) hD (ids := []) trivial (by simp) rfl
  delta Rrule jo1 jom jo7 jo1d jod jo1e joq jon jo1b jo1k
  repeat' first | exact trivial | exact rfl | exact digO _ _ _ | exact wk_refl _ | (refine ⟨⟨rfl, trivial⟩, fun H' _ hd => kNext L _ _ (by omega) (by omega) hd.1, ?_⟩) | refine ⟨rfl, ?_⟩ | apply And.intro
 rw [List.append_nil] at key
 exact key
end
end Go.Proofs.YthdekmpkioikdaaGreat
/- Request: the contract of what makes requests of numbers; what is made is right. No condition. -/
namespace Go.Proofs.YthdekmpkioikdaaGreat
open Go Go.K
set_option maxRecDepth 100000
set_option linter.unusedVariables false
set_option linter.unusedSimpArgs false
noncomputable section
attribute [local irreducible] vF
def asR1 (L : List Int) (a w : Int) (x : Nat) (s : AsS) : Rq := ⟨Int.tmod (7 * (x : Int)) 31, s.h + dN L s.n a, dN L (s.n + 1 + 1 + 1) w, dN L (s.n + 1 + 1 + 1 + 1) w, 1 + dN L (s.n + 1 + 1 + 1 + 1 + 1) 15, 1 + dN L (s.n + 1 + 1 + 1 + 1 + 1 + 1) 3, 1 + dN L (s.n + 1 + 1) 60⟩
def asR0 (L : List Int) (a w : Int) (x : Nat) (s : AsS) : Rq := ⟨Int.tmod (7 * (x : Int)) 31, s.h + dN L s.n a, dN L (s.n + 1 + 1) w, dN L (s.n + 1 + 1 + 1) w, 1 + dN L (s.n + 1 + 1 + 1 + 1) 15, 1 + dN L (s.n + 1 + 1 + 1 + 1 + 1) 3, 0⟩
theorem asV_1 {L : List Int} {a w : Int} {x : Nat} {s : AsS} (e : dN L (s.n + 1) 3 = 0) : asV L a w x s = ⟨s.l ++ [asR1 L a w x s], s.n + 1 + 1 + 1 + 1 + 1 + 1 + 1, s.h + dN L s.n a⟩ := if_pos e
theorem asV_0 {L : List Int} {a w : Int} {x : Nat} {s : AsS} (e : dN L (s.n + 1) 3 ≠ 0) : asV L a w x s = ⟨s.l ++ [asR0 L a w x s], s.n + 1 + 1 + 1 + 1 + 1 + 1, s.h + dN L s.n a⟩ := if_neg e
theorem asS_in (L : List Int) (n w : Int) : ∀ x : Nat, (asS L n w x).l.length = x /\ n + 2 <= (asS L n w x).n /\ (asS L n w x).n <= n + 2 + 7 * (x : Int) /\ 0 <= (asS L n w x).h /\ (asS L n w x).h <= 14 * (x : Int)
 | 0 => by
  show ([] : List Rq).length = 0 /\ n + 2 <= n + 1 + 1 /\ n + 1 + 1 <= _ /\ (0 : Int) <= 0 /\ (0 : Int) <= _
  exact ⟨rfl, by omega, by omega, by omega, by omega⟩
 | x + 1 => by
  obtain ⟨h1, h2, h3, h4, h5⟩ := asS_in L n w x
  have ha := dN_bd L (n + 1) (m := 15) (by omega)
  have ha2 : asA L n = 1 + dN L (n + 1) 15 := rfl
  have hb := dN_bd L (asS L n w x).n (m := asA L n) (by omega)
  have e : asS L n w (x + 1) = asV L (asA L n) w x (asS L n w x) := rfl
  by_cases c : dN L ((asS L n w x).n + 1) 3 = 0
  ·rw [e, asV_1 c]
   refine ⟨by rw [List.length_append, h1]; rfl, ?_, ?_, ?_, ?_⟩
   ·show _ <= (asS L n w x).n + 1 + 1 + 1 + 1 + 1 + 1 + 1; omega
   ·show (asS L n w x).n + 1 + 1 + 1 + 1 + 1 + 1 + 1 <= _; omega
   ·show 0 <= (asS L n w x).h + dN L (asS L n w x).n (asA L n); omega
   ·show (asS L n w x).h + dN L (asS L n w x).n (asA L n) <= _; omega
  ·rw [e, asV_0 c]
   refine ⟨by rw [List.length_append, h1]; rfl, ?_, ?_, ?_, ?_⟩
   ·show _ <= (asS L n w x).n + 1 + 1 + 1 + 1 + 1 + 1; omega
   ·show (asS L n w x).n + 1 + 1 + 1 + 1 + 1 + 1 <= _; omega
   ·show 0 <= (asS L n w x).h + dN L (asS L n w x).n (asA L n); omega
   ·show (asS L n w x).h + dN L (asS L n w x).n (asA L n) <= _; omega
set_option maxHeartbeats 4000000 in
theorem kAsks (L : List Int) (n : Int) (f : Fleet) (m : Int) (hn : 0 <= n /\ n <= 100000000) (hm : 0 <= m /\ m <= 1000) (hT : 1 <= f.t.length /\ f.t.length <= 1000) {H : Heap} {N : Nat} (hN : H.length = N) {D : Nat} (hD : H[D]? = some (.cells true 0 (digC L n))) {i j : Nat} {o1 o2 : Bool} {z1 z2 : Nat} (e1 : H[i]? = some (.cells o1 z1 (inL f.t))) (e2 : H[j]? = some (.cells o2 z2 (f.b.flatMap intC))) (hi : D ≠ i) (hj : D ≠ j) :
  KCall prog 27 [.pointer (some ⟨D, 0, none⟩), fleetV f i j, nI m] H [D] (Is (slQ N 1 (asL L n m (f.t.length : Nat)).length) (H.set D (.cells true 0 (digC L (asN L n m (f.t.length : Nat)))) ++ [.cells true 7 ((asL L n m (f.t.length : Nat)).flatMap rqC)])) := by
 subst hN
 refine valW (fun i => slQ i 1 (asL L n m (f.t.length : Nat)).length) (css := [inL f.t, f.b.flatMap intC]) (new := [.cells true 7 ((asL L n m (f.t.length : Nat)).flatMap rqC)]) (Eq.mpr (Easks L n f m) ?_) (plainDig 0 L n) (plainDig 0 L _) ⟨inL_b 0 _, plainIL 0 _, trivial⟩ ⟨⟨_, _, rfl, plainRQ 0 _⟩, trivial⟩ rfl rfl (fun _ => rfl) hD (ids := [i, j]) ⟨⟨_, _, e1⟩, ⟨_, _, e2⟩, trivial⟩ (by simp [hi, hj]) rfl
 have a2 : 1 + dN L (n + 1) 15 = asA L n := rfl
 have ab := dN_bd L (n + 1) (m := 15) (by omega)
 have kb := dN_bd L n (m := m + 1) (by omega)
 have kK : ((asK L n m : Nat) : Int) = dN L n (m + 1) := by unfold asK; omega
 delta Rasks jo1 jom jo7 jo1d jo1g jod jo1e jo17 jo4 jo6 jow jo1l jo0 jo18 jo1j joz jo1h jog joc jo9 jol jo8 jo11 joa jov jo16 jo10 jo2 jo1p joi jor jo19 jo1c jo14 jo5
 rw [a2]
 refine ⟨vI64 (by omega), ⟨rfl, trivial⟩, fun H' _ hd => kNext L _ _ (by omega) (by omega) hd.1, ⟨rfl, trivial⟩, fun H' _ hd => kNext L _ _ (by omega) (by omega) hd.1, vI64 (by omega), rfl, Nat.zero_le _, ?_, fun _ => rfl, ?_⟩
 ·repeat' first | exact inL_b _ _ | exact plainIL _ _ | exact plainRQ _ _ | exact digO _ _ _ | exact wk_nil _ _ _ (.inr rfl) | exact trivial | exact rfl | exact wk_refl _ | refine wkO_cells ?_ | refine wks_cons ?_ ?_ | exact wks_nil | exact wk_nil _ _ _ (.inl rfl) | (exact wk_Q (by omega)) | refine wk_tupL ?_ | refine wk_aggL ?_ | refine joinMax ?_ ?_ ?_ | refine joinMin ?_ ?_ ?_ | refine toMax ?_ | refine toMin ?_ | refine ⟨rfl, ?_⟩ | refine ⟨trivial, ?_⟩ | (refine forkD (fun h => ?_) (fun h => ?_)) | (refine forkNe (fun h => ?_) (fun h => ?_)) | (refine forkEq (fun h => ?_) (fun h => ?_)) | refine forkNot ?_ | (refine ⟨vI64 (by omega), ?_⟩) | (refine And.intro (by omega) ?_) | apply And.intro | (exact iEq (by omega)) | (exact vI64 (by omega))
 intro x hx
 obtain ⟨s1, s2, s3, s4, s5⟩ := asS_in L n ((f.t.length : Nat) : Int) x
 have e : asS L n ((f.t.length : Nat) : Int) (x + 1) = asV L (asA L n) ((f.t.length : Nat) : Int) x (asS L n ((f.t.length : Nat) : Int) x) := rfl
 generalize hS : asS L n ((f.t.length : Nat) : Int) x = S at *
 have hb := dN_bd L S.n (m := asA L n) (by omega)
 have h60 := dN_bd L (S.n + 1 + 1) (m := 60) (by omega)
 have hA := dN_bd L (S.n + 1 + 1 + 1 + 1 + 1) (m := 15) (by omega)
 have hB := dN_bd L (S.n + 1 + 1 + 1 + 1 + 1 + 1) (m := 3) (by omega)
 have hC := dN_bd L (S.n + 1 + 1 + 1 + 1) (m := 15) (by omega)
 have hE := dN_bd L (S.n + 1 + 1 + 1 + 1 + 1) (m := 3) (by omega)
 refine forkD (fun c => ?_) (fun c => ?_)
 ·refine ⟨⟨rfl, trivial⟩, fun H' _ hd => kNext L _ _ (by omega) (by omega) hd.1, vI64 (by omega), ⟨rfl, trivial⟩, fun H' _ hd => kNext L _ _ (by omega) (by omega) hd.1, forkEq (fun c0 => ?_) (fun c0 => ?_)⟩
  ·rw [asV_1 c0] at e
   have hs : (asS L n ((f.t.length : Nat) : Int) (x + 1)).l = S.l ++ [asR1 L (asA L n) ((f.t.length : Nat) : Int) x S] := by rw [e]
   have hq : (asS L n ((f.t.length : Nat) : Int) (x + 1)).n = S.n + 1 + 1 + 1 + 1 + 1 + 1 + 1 := by rw [e]
   have hh : (asS L n ((f.t.length : Nat) : Int) (x + 1)).h = S.h + dN L S.n (asA L n) := by rw [e]
   refine ⟨⟨rfl, trivial⟩, fun H' _ hd => kNext L _ _ (by omega) (by omega) hd.1, vI64 (by omega), vI64 (by omega), ⟨rfl, trivial⟩, fun H' _ hd => kNext L _ _ (by omega) (by omega) hd.1, ⟨rfl, trivial⟩, fun H' _ hd => kNext L _ _ (by omega) (by omega) hd.1, ⟨rfl, trivial⟩, fun H' _ hd => kNext L _ _ (by omega) (by omega) hd.1, vI64 (by omega), ⟨rfl, trivial⟩, fun H' _ hd => kNext L _ _ (by omega) (by omega) hd.1, vI64 (by omega), ⟨by rw [s1]; omega, by decide, ⟨Nat.le_refl _, flat_le rqC_len _⟩, ⟨Nat.le_refl _, Nat.le_refl _⟩, rfl⟩, rfl, vI64 (by omega), x + 1, by omega, by omega, rfl, ?_⟩
   rw [hh, hq]
   repeat' first | exact inL_b _ _ | exact plainIL _ _ | exact plainRQ _ _ | exact digO _ _ _ | exact wk_nil _ _ _ (.inr rfl) | exact wk_snoc hs | exact ob_snoc rqC_len hs rfl | exact trivial | exact rfl | exact wk_refl _ | refine wkO_cells ?_ | refine wks_cons ?_ ?_ | exact wks_nil | exact wk_nil _ _ _ (.inl rfl) | (exact wk_Q (by omega)) | refine wk_tupL ?_ | refine wk_aggL ?_ | refine joinMax ?_ ?_ ?_ | refine joinMin ?_ ?_ ?_ | refine toMax ?_ | refine toMin ?_ | refine ⟨rfl, ?_⟩ | refine ⟨trivial, ?_⟩ | (refine forkD (fun h => ?_) (fun h => ?_)) | (refine forkNe (fun h => ?_) (fun h => ?_)) | (refine forkEq (fun h => ?_) (fun h => ?_)) | refine forkNot ?_ | (refine ⟨vI64 (by omega), ?_⟩) | (refine And.intro (by omega) ?_) | apply And.intro | (exact iEq (by omega)) | (exact vI64 (by omega))
  ·rw [asV_0 c0] at e
   have hs : (asS L n ((f.t.length : Nat) : Int) (x + 1)).l = S.l ++ [asR0 L (asA L n) ((f.t.length : Nat) : Int) x S] := by rw [e]
   have hq : (asS L n ((f.t.length : Nat) : Int) (x + 1)).n = S.n + 1 + 1 + 1 + 1 + 1 + 1 := by rw [e]
   have hh : (asS L n ((f.t.length : Nat) : Int) (x + 1)).h = S.h + dN L S.n (asA L n) := by rw [e]
   refine ⟨vI64 (by omega), ⟨rfl, trivial⟩, fun H' _ hd => kNext L _ _ (by omega) (by omega) hd.1, ⟨rfl, trivial⟩, fun H' _ hd => kNext L _ _ (by omega) (by omega) hd.1, ⟨rfl, trivial⟩, fun H' _ hd => kNext L _ _ (by omega) (by omega) hd.1, vI64 (by omega), ⟨rfl, trivial⟩, fun H' _ hd => kNext L _ _ (by omega) (by omega) hd.1, vI64 (by omega), ⟨by rw [s1]; omega, by decide, ⟨Nat.le_refl _, flat_le rqC_len _⟩, ⟨Nat.le_refl _, Nat.le_refl _⟩, rfl⟩, rfl, vI64 (by omega), x + 1, by omega, by omega, rfl, ?_⟩
   rw [hh, hq]
   repeat' first | exact inL_b _ _ | exact plainIL _ _ | exact plainRQ _ _ | exact digO _ _ _ | exact wk_nil _ _ _ (.inr rfl) | exact wk_snoc hs | exact ob_snoc rqC_len hs rfl | exact trivial | exact rfl | exact wk_refl _ | refine wkO_cells ?_ | refine wks_cons ?_ ?_ | exact wks_nil | exact wk_nil _ _ _ (.inl rfl) | (exact wk_Q (by omega)) | refine wk_tupL ?_ | refine wk_aggL ?_ | refine joinMax ?_ ?_ ?_ | refine joinMin ?_ ?_ ?_ | refine toMax ?_ | refine toMin ?_ | refine ⟨rfl, ?_⟩ | refine ⟨trivial, ?_⟩ | (refine forkD (fun h => ?_) (fun h => ?_)) | (refine forkNe (fun h => ?_) (fun h => ?_)) | (refine forkEq (fun h => ?_) (fun h => ?_)) | refine forkNot ?_ | (refine ⟨vI64 (by omega), ?_⟩) | (refine And.intro (by omega) ?_) | apply And.intro | (exact iEq (by omega)) | (exact vI64 (by omega))
 ·obtain rfl : x = asK L n m := by omega
  have e1 : asL L n m ((f.t.length : Nat) : Int) = S.l := by unfold asL; rw [hS]
  have e2 : asN L n m ((f.t.length : Nat) : Int) = S.n := by unfold asN; rw [hS]
  rw [e1, e2]
  repeat' first | exact inL_b _ _ | exact plainIL _ _ | exact plainRQ _ _ | exact digO _ _ _ | exact wk_nil _ _ _ (.inr rfl) | exact trivial | exact rfl | exact wk_refl _ | refine wkO_cells ?_ | refine wks_cons ?_ ?_ | exact wks_nil | exact wk_nil _ _ _ (.inl rfl) | (exact wk_Q (by omega)) | refine wk_tupL ?_ | refine wk_aggL ?_ | refine joinMax ?_ ?_ ?_ | refine joinMin ?_ ?_ ?_ | refine toMax ?_ | refine toMin ?_ | refine ⟨rfl, ?_⟩ | refine ⟨trivial, ?_⟩ | (refine forkD (fun h => ?_) (fun h => ?_)) | (refine forkNe (fun h => ?_) (fun h => ?_)) | (refine forkEq (fun h => ?_) (fun h => ?_)) | refine forkNot ?_ | (refine ⟨vI64 (by omega), ?_⟩) | (refine And.intro (by omega) ?_) | apply And.intro | (exact iEq (by omega)) | (exact vI64 (by omega))
end
end Go.Proofs.YthdekmpkioikdaaGreat
/- Request: what is made of numbers is right. Plain laws. No condition. -/
namespace Go.Proofs.YthdekmpkioikdaaGreat
set_option linter.unusedSimpArgs false
open Go Go.K
set_option linter.unusedVariables false
noncomputable section
theorem getD_app {α : Type} {l : List α} {r d : α} {i : Nat} : (l ++ [r]).getD i d = if i < l.length then l.getD i d else if i = l.length then r else d := by
 rw [List.getD_eq_getElem?_getD]
 by_cases h : i < l.length
 ·rw [if_pos h, List.getElem?_append_left h, <- List.getD_eq_getElem?_getD]
 ·rw [if_neg h, List.getElem?_append_right (by omega)]
  by_cases e : i = l.length
  ·rw [if_pos e, e, Nat.sub_self]; rfl
  ·rw [if_neg e, List.getElem?_eq_none (by show 1 <= _; omega)]; rfl
theorem rwL_at (L : List Int) (q far : Int) (i : Nat) : ∀ (k j : Nat), j < k -> (rwL L q far i k).getD j 0 = if (i : Int) = (j : Int) then 0 else dN L (q + (j : Int)) (far + 1)
 | 0, j, h => absurd h (Nat.not_lt_zero _)
 | k + 1, j, h => by
  show (rwL L q far i k ++ [_]).getD j 0 = _
  rw [getD_app, rwL_len]
  by_cases c : j < k
  ·rw [if_pos c, rwL_at L q far i k j c]
  ·rw [if_neg c, if_pos (show j = k by omega), show j = k by omega]
theorem shT_at (L : List Int) (n : Int) : ∀ (i j : Nat), j < i -> (shT L n i).getD j [] = rwL L (shQ L n j) (shR L n) j (Int.toNat (shW L n))
 | 0, j, h => absurd h (Nat.not_lt_zero _)
 | i + 1, j, h => by
  show (shT L n i ++ [_]).getD j [] = _
  rw [getD_app, shT_len]
  by_cases c : j < i
  ·rw [if_pos c, shT_at L n i j c]
  ·rw [if_neg c, if_pos (show j = i by omega), show j = i by omega]
theorem brL_at (L : List Int) (n : Int) : ∀ (i j : Nat), j < i -> (brL L n i).getD j 0 = dN L (shE L n + 2 * (j : Int) + 1) (shW L n)
 | 0, j, h => absurd h (Nat.not_lt_zero _)
 | i + 1, j, h => by
  show (brL L n i ++ [_]).getD j 0 = _
  rw [getD_app, brL_len]
  by_cases c : j < i
  ·rw [if_pos c, brL_at L n i j c]
  ·rw [if_neg c, if_pos (show j = i by omega), show j = i by omega]
theorem firstN_pos {c : Nat -> Bool} (h : c 0 = false) : ∀ {n : Nat}, 0 < n -> 1 <= firstN c n
 | 0, hn => absurd hn (Nat.not_lt_zero _)
 | n + 1, _ => by
  unfold firstN
  rcases Nat.eq_zero_or_pos n with e | e
  ·subst e
   rw [if_neg (Nat.not_lt_zero _), h, if_neg (by decide)]; omega
  ·have := firstN_pos h e
   split
   ·exact this
   ·split <;> omega
theorem shX_in (L : List Int) (n : Int) {m : Int} (hm : 1 <= m) : 1 <= shX L n m /\ (shX L n m : Int) <= m := by
 have h0 := dN_bd L (shE L n + 2 * ((0 : Nat) : Int)) hm
 refine ⟨firstN_pos (decide_eq_false (by omega)) (by omega), ?_⟩
 have hl := firstN_le (shC L n m) (Int.toNat m + 1)
 have hX : shX L n m = firstN (shC L n m) (Int.toNat m + 1) := rfl
 by_cases c : shX L n m = Int.toNat m + 1
 ·-- at m itself the property holds
  exfalso
  have hk : ∀ k, k <= Int.toNat m -> firstN (shC L n m) (k + 1) = k + 1 -> shC L n m k = false := fun k _ hk => by
   cases e : shC L n m k with
   | false => rfl
   | true =>
    have e2 : firstN (shC L n m) k <= k := firstN_le _ k
    unfold firstN at hk
    by_cases q : firstN (shC L n m) k < k
    ·rw [if_pos q] at hk; omega
    ·rw [if_neg q, if_pos e] at hk; omega
  have h1 := hk (Int.toNat m) (Nat.le_refl _) (by omega)
  have hd := dN_bd L (shE L n + 2 * ((Int.toNat m : Nat) : Int)) hm
  have h1 : decide (dN L (shE L n + 2 * ((Int.toNat m : Nat) : Int)) m < ((Int.toNat m : Nat) : Int)) = false := h1
  have := of_decide_eq_false h1
  omega
 ·omega
theorem shF_ok (L : List Int) (n : Int) : FlOk (shF L n 3) := by
 have w := shW_in L n
 have fr := shR_in L n
 have x := shX_in L n (m := 3) (by omega)
 have lt : (shF L n 3).t.length = Int.toNat (shW L n) := shT_len L n _
 have lb : (shF L n 3).b.length = shX L n 3 := brL_len L n _
 refine ⟨by omega, by omega, by omega, by omega, fun k hk => ?_, fun k j hk => ?_, fun k hk => ?_⟩
 ·rw [lt] at hk ⊢
  rw [show (shF L n 3).t.getD k [] = _ from shT_at L n _ k hk, rwL_len]
 ·rw [lt] at hk
  rw [show (shF L n 3).t.getD k [] = _ from shT_at L n _ k hk]
  by_cases c : j < Int.toNat (shW L n)
  ·rw [rwL_at _ _ _ _ _ _ c]
   split
   ·omega
   ·have := dN_bd L (shQ L n k + (j : Int)) (m := shR L n + 1) (by omega); omega
  ·rw [List.getD_eq_getElem?_getD, List.getElem?_eq_none (by rw [rwL_len]; omega)]
   show 0 <= (0 : Int) /\ (0 : Int) <= 100
   omega
 ·rw [lb] at hk
  rw [lt, show (shF L n 3).b.getD k 0 = _ from brL_at L n _ k hk]
  have := dN_bd L (shE L n + 2 * (k : Int) + 1) (m := shW L n) (by omega)
  omega
theorem errUp_no {e : Nat -> Int} : ∀ {n : Nat}, (∀ k, k < n -> e k = 0) -> errUp e n = 0
 | 0, _ => rfl
 | n + 1, h => errUp_succ (errUp_no fun k hk => h k (by omega)) (h n (by omega))
theorem any_none {α : Type} {l : List α} {d : α} {p : α -> Bool} (h : ∀ k, k < l.length -> p (l.getD k d) = false) : l.any p = false := by
 rw [List.any_eq_false]
 intro x hx
 obtain ⟨k, hk⟩ := List.mem_iff_getElem?.1 hx
 have hl := (List.getElem?_eq_some_iff.1 hk).1
 have := h k hl
 rw [List.getD_eq_getElem?_getD, hk] at this
 exact fun c => by rw [show (some x).getD d = x from rfl] at this; rw [this] at c; cases c
theorem errFl_ok {f : Fleet} (o : FlOk f) (hd : ∀ k, k < f.t.length -> (f.t.getD k []).getD k 0 = 0) : errFl f = 0 := by
 have n1 := o.n1
 have n2 := o.n2
 have b1 := o.b1
 have b2 := o.b2
 unfold errFl
 rw [if_neg (by rw [inB_1 (show (1 : Int) <= (f.t.length : Int) by omega) (by omega), inB_1 (show (1 : Int) <= (f.b.length : Int) by omega) (by omega)]; decide)]
 rw [errUp_no fun k hk => by
  unfold errRow badRow
  rw [decide_eq_false (show ¬ (f.t.getD k []).length ≠ f.t.length from fun c => c (o.row k hk)), decide_eq_false (show ¬ (f.t.getD k []).getD k 0 ≠ 0 from fun c => c (hd k hk)), any_none (d := 0) fun j _ => by
   have := o.el k j hk
   unfold badT
   rw [inB_1 this.1 this.2]; rfl]
  rfl, first2_2 rfl, any_none (d := 0) fun j hj => by
   have := o.br j hj
   unfold badA
   rw [inB_1 this.1 this.2]; rfl]
 rfl
theorem shF_diag (L : List Int) (n : Int) : ∀ k, k < (shF L n 3).t.length -> ((shF L n 3).t.getD k []).getD k 0 = 0 := fun k hk => by
 rw [show (shF L n 3).t.length = Int.toNat (shW L n) from shT_len L n _] at hk
 rw [show (shF L n 3).t.getD k [] = _ from shT_at L n _ k hk, rwL_at _ _ _ _ _ _ hk, if_pos rfl]
theorem errPol_ok (L : List Int) (n : Int) : errPol (rlP L n) = 0 := by
 have h1 := dN_bd L n (m := 6) (by omega)
 have h2 := dN_bd L (n + 1) (m := 40) (by omega)
 have h3 := dN_bd L (n + 1 + 1) (m := 4) (by omega)
 have h4 := dN_bd L (n + 1 + 1 + 1) (m := 10) (by omega)
 have h5 := dN_bd L (n + 1 + 1 + 1 + 1) (m := 100) (by omega)
 unfold errPol
 rw [inB_1 (show 0 <= (rlP L n).ov from h1.1) (show (rlP L n).ov <= 30 by have : (rlP L n).ov = dN L n 6 := rfl; omega), inB_1 (show 0 <= (rlP L n).warn from h2.1) (show (rlP L n).warn <= 10000 by have : (rlP L n).warn = dN L (n + 1) 40 := rfl; omega)]
 rw [if_neg]
 intro c
 have : ([(rlP L n).w0, (rlP L n).w1, (rlP L n).w2].any badW) = false := by
  show (badW (dN L (n + 1 + 1) 4) || (badW (dN L (n + 1 + 1 + 1) 10) || (badW (dN L (n + 1 + 1 + 1 + 1) 100) || false))) = false
  unfold badW
  rw [inB_1 h3.1 (by omega), inB_1 h4.1 (by omega), inB_1 h5.1 (by omega)]; rfl
 rw [this] at c
 cases c
structure MadeR (w : Int) (i : Nat) (r : Rq) : Prop where
 id : r.id = Int.tmod (7 * (i : Int)) 31
 at_ : 0 <= r.at_ /\ r.at_ <= 14 * ((i : Int) + 1)
 place : 0 <= r.place /\ r.place < w
 dest : 0 <= r.dest /\ r.dest < w
 len : 1 <= r.len /\ r.len <= 15
 prio : 1 <= r.prio /\ r.prio <= 3
 limit : 0 <= r.limit /\ r.limit <= 60
theorem asS_made (L : List Int) (n w : Int) (hw : 1 <= w) : ∀ x : Nat, (∀ i, i < x -> MadeR w i ((asS L n w x).l.getD i zeroQ)) /\ (∀ i, i < x -> ((asS L n w x).l.getD i zeroQ).at_ <= (asS L n w x).h) /\ ∀ i j, i <= j -> j < x -> ((asS L n w x).l.getD i zeroQ).at_ <= ((asS L n w x).l.getD j zeroQ).at_
 | 0 => ⟨fun i h => absurd h (Nat.not_lt_zero _), fun i h => absurd h (Nat.not_lt_zero _), fun i j _ h => absurd h (Nat.not_lt_zero _)⟩
 | x + 1 => by
  obtain ⟨g1, g2, g3⟩ := asS_made L n w hw x
  obtain ⟨s1, _, _, s4, s5⟩ := asS_in L n w x
  have ha := dN_bd L (n + 1) (m := 15) (by omega)
  have ha2 : asA L n = 1 + dN L (n + 1) 15 := rfl
  have e : asS L n w (x + 1) = asV L (asA L n) w x (asS L n w x) := rfl
  generalize asS L n w x = S at *
  have hb := dN_bd L S.n (m := asA L n) (by omega)
  have key : ∃ r, (asS L n w (x + 1)).l = S.l ++ [r] /\ (asS L n w (x + 1)).h = S.h + dN L S.n (asA L n) /\ r.at_ = S.h + dN L S.n (asA L n) /\ MadeR w x r := by
   by_cases c : dN L (S.n + 1) 3 = 0
   ·rw [e, asV_1 c]
    have h1 := dN_bd L (S.n + 1 + 1 + 1) (m := w) hw
    have h2 := dN_bd L (S.n + 1 + 1 + 1 + 1) (m := w) hw
    have h3 := dN_bd L (S.n + 1 + 1 + 1 + 1 + 1) (m := 15) (by omega)
    have h4 := dN_bd L (S.n + 1 + 1 + 1 + 1 + 1 + 1) (m := 3) (by omega)
    have h5 := dN_bd L (S.n + 1 + 1) (m := 60) (by omega)
    exact ⟨asR1 L (asA L n) w x S, rfl, rfl, rfl, rfl, ⟨by show 0 <= S.h + _; omega, by show S.h + _ <= _; omega⟩, h1, h2, ⟨by show 1 <= 1 + _; omega, by show 1 + _ <= (15 : Int); omega⟩, ⟨by show 1 <= 1 + _; omega, by show 1 + _ <= (3 : Int); omega⟩, ⟨by show 0 <= 1 + _; omega, by show 1 + _ <= (60 : Int); omega⟩⟩
   ·rw [e, asV_0 c]
    have h1 := dN_bd L (S.n + 1 + 1) (m := w) hw
    have h2 := dN_bd L (S.n + 1 + 1 + 1) (m := w) hw
    have h3 := dN_bd L (S.n + 1 + 1 + 1 + 1) (m := 15) (by omega)
    have h4 := dN_bd L (S.n + 1 + 1 + 1 + 1 + 1) (m := 3) (by omega)
    exact ⟨asR0 L (asA L n) w x S, rfl, rfl, rfl, rfl, ⟨by show 0 <= S.h + _; omega, by show S.h + _ <= _; omega⟩, h1, h2, ⟨by show 1 <= 1 + _; omega, by show 1 + _ <= (15 : Int); omega⟩, ⟨by show 1 <= 1 + _; omega, by show 1 + _ <= (3 : Int); omega⟩, ⟨by show (0 : Int) <= 0; omega, by show (0 : Int) <= 60; omega⟩⟩
  obtain ⟨r, k1, k2, k3, k4⟩ := key
  have gl : ∀ i, i < x -> (asS L n w (x + 1)).l.getD i zeroQ = S.l.getD i zeroQ := fun i hi => by rw [k1, getD_app, if_pos (by omega)]
  have gr : (asS L n w (x + 1)).l.getD x zeroQ = r := by rw [k1, getD_app, if_neg (by omega), if_pos s1.symm]
  refine ⟨fun i hi => ?_, fun i hi => ?_, fun i j hij hj => ?_⟩
  ·rcases Nat.lt_or_ge i x with q | q
   ·rw [gl i q]; exact g1 i q
   ·rw [show i = x by omega, gr]; exact k4
  ·rw [k2]
   rcases Nat.lt_or_ge i x with q | q
   ·rw [gl i q]; have := g2 i q; omega
   ·rw [show i = x by omega, gr, k3]; omega
  ·rcases Nat.lt_or_ge j x with q | q
   ·rw [gl i (by omega), gl j q]; exact g3 i j hij q
   ·rw [show j = x by omega, gr, k3]
    rcases Nat.lt_or_ge i x with q2 | q2
    ·rw [gl i q2]; have := g2 i q2; omega
    ·rw [show i = x by omega, gr, k3]; omega
theorem as_id {i j : Nat} (hi : i < 31) (hj : j < i) : Int.tmod (7 * (j : Int)) 31 ≠ Int.tmod (7 * (i : Int)) 31 := by
 rw [Int.tmod_eq_emod_of_nonneg (by omega), Int.tmod_eq_emod_of_nonneg (by omega)]
 omega
theorem asL_len {L : List Int} {n m w : Int} (hm : 0 <= m) : ((asL L n m w).length : Int) <= m := by
 have h := (asS_in L n w (asK L n m)).1
 have hd := dN_bd L n (m := m + 1) (by omega)
 have : (asL L n m w).length = asK L n m := h
 rw [this]; unfold asK; omega
theorem asL_ok {L : List Int} {n m : Int} {f : Fleet} (hm : 0 <= m /\ m <= 30) (ht : 1 <= f.t.length) : LsOk f.t.length (asL L n m (f.t.length : Nat)) /\ ∀ i j, i <= j -> j < (asL L n m (f.t.length : Nat)).length -> ((asL L n m (f.t.length : Nat)).getD i zeroQ).at_ <= ((asL L n m (f.t.length : Nat)).getD j zeroQ).at_ := by
 have hl := asL_len (L := L) (n := n) (w := ((f.t.length : Nat) : Int)) hm.1
 have h0 : (asL L n m (f.t.length : Nat)).length = asK L n m := (asS_in L n _ (asK L n m)).1
 obtain ⟨g1, _, g3⟩ := asS_made L n ((f.t.length : Nat) : Int) (by omega) (asK L n m)
 refine ⟨⟨by omega, fun k hk => ?_, fun k j hk hj => ?_⟩, fun i j hij hj => g3 i j hij (by omega)⟩
 ·have r : MadeR _ k ((asL L n m (f.t.length : Nat)).getD k zeroQ) := g1 k (by omega)
  have hid := r.id
  rw [Int.tmod_eq_emod_of_nonneg (by omega)] at hid
  exact ⟨by omega, by have := r.at_; omega, by have := r.place; omega, by have := r.dest; omega, by have := r.len; omega, r.prio, by have := r.limit; omega⟩
 ·have r1 : MadeR _ k ((asL L n m (f.t.length : Nat)).getD k zeroQ) := g1 k (by omega)
  have r2 : MadeR _ j ((asL L n m (f.t.length : Nat)).getD j zeroQ) := g1 j (by omega)
  rw [r1.id, r2.id]
  exact as_id (by omega) hj
theorem errRq_ok {n : Nat} {l : List Rq} (o : LsOk n l) : errRq n l = 0 := by
 unfold errRq
 rw [if_neg (by have := o.len; omega)]
 refine errUp_no fun k hk => ?_
 have r := o.ok k hk
 unfold errRq1 badRq
 rw [inB_1 r.id.1 r.id.2, inB_1 r.at_.1 r.at_.2, inB_1 r.place.1 r.place.2, inB_1 r.dest.1 r.dest.2, inB_1 r.len.1 r.len.2, inB_1 r.prio.1 r.prio.2, inB_1 r.limit.1 r.limit.2]
 rw [if_neg (by decide), if_neg]
 rw [any_none (d := zeroQ) fun j hj => ?_]
 ·decide
 ·rw [List.length_take] at hj
  have e : (l.take k).getD j zeroQ = l.getD j zeroQ := by
   rw [List.getD_eq_getElem?_getD, List.getElem?_take, if_pos (by omega), <- List.getD_eq_getElem?_getD]
  unfold sameId
  rw [e]
  exact decide_eq_false (o.ne k j hk (by omega))
theorem errAll_ok {f : Fleet} {p : Pol} {l : List Rq} (h1 : errFl f = 0) (h2 : errPol p = 0) (h3 : errRq f.t.length l = 0) : errAll f p l = 0 := by
 unfold errAll
 rw [h1, h2, h3]; rfl
end
end Go.Proofs.YthdekmpkioikdaaGreat
/- Request: requests that are asked for later change no decision before. Plain laws. No condition. -/
namespace Go.Proofs.YthdekmpkioikdaaGreat
set_option linter.unusedSimpArgs false
open Go Go.K
set_option linter.unusedVariables false
noncomputable section
theorem take_at {l : List Rq} {n i : Nat} (h : i < n) : (l.take n).getD i zeroQ = l.getD i zeroQ := by
 rw [List.getD_eq_getElem?_getD, List.getElem?_take, if_pos h, <- List.getD_eq_getElem?_getD]
theorem LsOk.take {k n : Nat} {l : List Rq} (o : LsOk k l) : LsOk k (l.take n) := by
 have ol := o.len
 refine ⟨by rw [List.length_take]; omega, fun i hi => ?_, fun i j hi hj => ?_⟩
 ·rw [List.length_take] at hi
  rw [take_at (by omega)]; exact o.ok i (by omega)
 ·rw [List.length_take] at hi
  rw [take_at (by omega), take_at (by omega)]; exact o.ne i j (by omega) hj
end
end Go.Proofs.YthdekmpkioikdaaGreat
/- Request: what the laws of made numbers speak of. No condition. -/
namespace Go.Proofs.YthdekmpkioikdaaGreat
set_option linter.unusedSimpArgs false
set_option linter.unusedVariables false
open Go Go.K
def mkF (L : List Int) : Fleet := shF L 0 3
def mkA (L : List Int) : Int := shN L 0 3
def mkQ (L : List Int) (m : Int) : List Rq := asL L (mkA L) m (((mkF L).t.length : Nat) : Int)
def mkB (L : List Int) (m : Int) : Int := asN L (mkA L) m (((mkF L).t.length : Nat) : Int)
def mkP (L : List Int) (m : Int) : Pol := rlP L (mkB L m)
def mkH (L : List Int) (m : Int) : List Sv := playF (mkF L) (mkP L m) (mkQ L m)
end Go.Proofs.YthdekmpkioikdaaGreat
/- Request: the made fleet, requests and policy are right; their runs. No condition. -/
namespace Go.Proofs.YthdekmpkioikdaaGreat
set_option linter.unusedSimpArgs false
open Go Go.K
set_option linter.unusedVariables false
noncomputable section
attribute [local irreducible] vF
theorem mkF_ok (L : List Int) : FlOk (mkF L) := shF_ok L 0
theorem mkA_bd (L : List Int) : 0 <= mkA L /\ mkA L <= 100 := by
 have a := shW_in L 0
 have b := shQ_in L 0 (Int.toNat (shW L 0))
 have c := shX_in L 0 (m := 3) (by omega)
 unfold mkA shN shE
 omega
theorem mkQ_ok (L : List Int) {m : Int} (hm : 0 <= m /\ m <= 30) : LsOk (mkF L).t.length (mkQ L m) /\ ∀ i j, i <= j -> j < (mkQ L m).length -> ((mkQ L m).getD i zeroQ).at_ <= ((mkQ L m).getD j zeroQ).at_ := asL_ok hm (mkF_ok L).n1
theorem mkQ_len (L : List Int) {m : Int} (hm : 0 <= m) : ((mkQ L m).length : Int) <= m := asL_len hm
theorem mkB_bd (L : List Int) {m : Int} (hm : 0 <= m /\ m <= 30) : 0 <= mkB L m /\ mkB L m <= 1000 := by
 have a := mkA_bd L
 have b := asS_in L (mkA L) (((mkF L).t.length : Nat) : Int) (asK L (mkA L) m)
 have d := dN_bd L (mkA L) (m := m + 1) (by omega)
 have e : ((asK L (mkA L) m : Nat) : Int) <= m := by unfold asK; omega
 unfold mkB asN
 omega
theorem mkErr0 (L : List Int) {m : Int} (hm : 0 <= m /\ m <= 30) : errAll (mkF L) (mkP L m) (mkQ L m) = 0 :=
 errAll_ok (errFl_ok (mkF_ok L) (shF_diag L 0)) (errPol_ok L _) (errRq_ok (mkQ_ok L hm).1)
theorem fRun_ok {f : Fleet} {p : Pol} {l : List Rq} (h : errAll f p l = 0) : fRun f p l = (playF f p l, 0) := if_pos h
theorem mkF_in (L : List Int) : (mkF L).t.length <= 4294967296 /\ (mkF L).b.length <= 4294967296 /\ shortI (mkF L).t := by
 have o := mkF_ok L
 have a := o.n2
 have b := o.b2
 exact ⟨by omega, by omega, fun k hk => by have := o.row k hk; omega⟩
theorem kShipsM (L : List Int) {H : Heap} {N : Nat} (hN : H.length = N) {D : Nat} (hD : H[D]? = some (.cells true 0 (digC L 0))) :
  KCall prog 26 [.pointer (some ⟨D, 0, none⟩), nI 3] H [D] (Is (fleetV (mkF L) N (N + 1) 1) (H.set D (.cells true 0 (digC L (mkA L))) ++ [.cells true 1 (inL (mkF L).t), .cells true 1 ((mkF L).b.flatMap intC)])) := kShips L 0 3 (by omega) (by omega) hN hD
theorem kAsksM (L : List Int) {m : Int} (hm : 0 <= m /\ m <= 30) {H : Heap} {N : Nat} (hN : H.length = N) {D : Nat} (hD : H[D]? = some (.cells true 0 (digC L (mkA L)))) {i j : Nat} {o1 o2 : Bool} {z1 z2 : Nat} (e1 : H[i]? = some (.cells o1 z1 (inL (mkF L).t))) (e2 : H[j]? = some (.cells o2 z2 ((mkF L).b.flatMap intC))) (hi : D ≠ i) (hj : D ≠ j) :
  KCall prog 27 [.pointer (some ⟨D, 0, none⟩), fleetV (mkF L) i j, nI m] H [D] (Is (slQ N 1 (mkQ L m).length) (H.set D (.cells true 0 (digC L (mkB L m))) ++ [.cells true 7 ((mkQ L m).flatMap rqC)])) :=
 kAsks L (mkA L) (mkF L) m (by have := mkA_bd L; omega) (by omega) (by have := (mkF_ok L).n1; have := (mkF_ok L).n2; omega) hN hD e1 e2 hi hj
theorem kRuleM (L : List Int) {m : Int} (hm : 0 <= m /\ m <= 30) {H : Heap} {D : Nat} (hD : H[D]? = some (.cells true 0 (digC L (mkB L m)))) :
  KCall prog 28 [.pointer (some ⟨D, 0, none⟩)] H [D] (Is (.agg ⟨polC (mkP L m)⟩) (H.set D (.cells true 0 (digC L (mkB L m + 1 + 1 + 1 + 1 + 1))))) :=
 kRule L (mkB L m) (by have := mkB_bd L hm; omega) hD
theorem kRunM (L : List Int) {m : Int} (hm : 0 <= m /\ m <= 30) {H : Heap} {N : Nat} (hN : H.length = N) {i0 i1 i2 : Nat} {o0 o1 o2 : Bool} {z0 z1 z2 : Nat} (e0 : H[i0]? = some (.cells o0 z0 (inL (mkF L).t))) (e1 : H[i1]? = some (.cells o1 z1 ((mkF L).b.flatMap intC))) (e2 : H[i2]? = some (.cells o2 z2 ((mkQ L m).flatMap rqC))) :
  KCall prog 29 [fleetV (mkF L) i0 i1, .agg ⟨polC (mkP L m)⟩, .slice (some ⟨i2, 0, some 2⟩) (mkQ L m).length (mkQ L m).length] H [] (Is (.tuple #[.slice (some ⟨N, 0, some 2⟩) (mkH L m).length (mkH L m).length, .int .i64 0]) (H ++ [.cells true 5 ((mkH L m).flatMap svC)])) := by
 have h := kRun (mkF L) (mkP L m) (mkQ L m) (mkF_in L).1 (mkF_in L).2.1 (mkF_in L).2.2 hN e0 e1 e2
 rw [fRun_ok (mkErr0 L hm)] at h
 exact h
theorem mkH_len (L : List Int) {m : Int} (hm : 0 <= m /\ m <= 30) : (mkH L m).length = (mkQ L m).length := playF_len (mkF_ok L) (mkQ_ok L hm).1
end
end Go.Proofs.YthdekmpkioikdaaGreat
/- Request: RequestLater. No condition. -/
namespace Go.Proofs.YthdekmpkioikdaaGreat
open Go Go.K
set_option maxRecDepth 100000
set_option linter.unusedVariables false
set_option linter.unusedSimpArgs false
noncomputable section
attribute [local irreducible] vF
theorem deepI_rn (σ : Nat -> Option Nat) (L : List Int) (vs : List Value) (h : vs.all (belowC 0) = true) : (Value.iface (L.length + 1) (.agg ⟨L.flatMap intC⟩) :: vs).map (rn σ 5) = Value.iface (L.length + 1) (.agg ⟨L.flatMap intC⟩) :: vs :=
 (rnCl (σ := σ) (d := 2) (l := Value.iface (L.length + 1) (.agg ⟨L.flatMap intC⟩) :: vs) (by
  show ((L.flatMap intC).all (belowD 0) && vs.all (belowC 0)) = true
  rw [all_belowD, h]; rfl)).1
end
end Go.Proofs.YthdekmpkioikdaaGreat
/- Request: what is true of each decision of a policy's history. No condition. -/
namespace Go.Proofs.YthdekmpkioikdaaGreat
set_option linter.unusedSimpArgs false
open Go Go.K
set_option linter.unusedVariables false
noncomputable section
attribute [local irreducible] vF
def lastT (h : List Sv) : Nat -> Int
 | 0 => 0
 | k + 1 => (svAt h k).tk
theorem lastT_app {h : List Sv} {s : Sv} : ∀ {k : Nat}, k <= h.length -> lastT (h ++ [s]) k = lastT h k
 | 0, _ => rfl
 | k + 1, hk => by show (svAt _ _).tk = (svAt _ _).tk; rw [svAt_l (by omega)]
structure DecI (f : Fleet) (p : Pol) (l : List Rq) (h : List Sv) (k : Nat) : Prop where
 dec : decAt f p l (h.take k) (svAt h k).tk = some (svAt h k)
 mono : lastT h k <= (svAt h k).tk
 idle : ∀ x : Int, lastT h k <= x -> x < (svAt h k).tk -> decAt f p l (h.take k) x = none
 top : (svAt h k).tk <= 20000
theorem DecI.app {f : Fleet} {p : Pol} {l : List Rq} {h : List Sv} {s : Sv} {k : Nat} (hk : k < h.length) (d : DecI f p l h k) : DecI f p l (h ++ [s]) k := by
 refine ⟨?_, ?_, ?_, ?_⟩
 ·rw [svAt_l hk, take_app (by omega)]; exact d.dec
 ·rw [svAt_l hk, lastT_app (by omega)]; exact d.mono
 ·rw [svAt_l hk, lastT_app (by omega), take_app (by omega)]; exact d.idle
 ·rw [svAt_l hk]; exact d.top
theorem playS_dec {f : Fleet} {p : Pol} {l : List Rq} (o : FlOk f) (ol : LsOk f.t.length l) : ∀ (m hour : Nat) (h : List Sv), PlayI f p l hour h -> (∀ k, k < h.length -> DecI f p l h k) -> lastT h h.length <= (hour : Int) -> (∀ x : Int, lastT h h.length <= x -> x < (hour : Int) -> decAt f p l h x = none) ->
  GoodH f l (playS f p l m (hour : Int) h) /\ ∀ k, k < (playS f p l m (hour : Int) h).length -> DecI f p l (playS f p l m (hour : Int) h) k
 | 0, hour, h, i, hd, _, _ => ⟨i.good, hd⟩
 | m + 1, hour, h, i, hd, h1, h2 => by
  by_cases c : l.length <= h.length
  ·rw [show playS f p l (m + 1) (hour : Int) h = h from if_pos c]; exact ⟨i.good, hd⟩
  ·have hn := i.now (by omega)
   have l30 := ol.len
   have hl := i.len
   cases e : decAt f p l h (hour : Int) with
   | some s =>
    have e2 : playS f p l (m + 1) (hour : Int) h = playS f p l m (hour : Int) (h ++ [s]) := by
     show (if l.length <= h.length then h else _) = _
     rw [if_neg c, e]
    obtain ⟨a, b, _, _, es, _⟩ := dec_some e
    have et : s.tk = (hour : Int) := by rw [es]; rfl
    have hlen : (h ++ [s]).length = h.length + 1 := by rw [List.length_append]; rfl
    have lt : lastT (h ++ [s]) (h ++ [s]).length = (hour : Int) := by rw [hlen]; show (svAt _ _).tk = _; rw [svAt_r, et]
    rw [e2]
    refine playS_dec o ol m hour _ (playI_dec o ol i (by omega) e) (fun k hk => ?_) (by rw [lt]; exact Int.le_refl _) (fun x q1 q2 => by rw [lt] at q1; omega)
    rw [hlen] at hk
    rcases Nat.lt_or_ge k h.length with q | q
    ·exact (hd k q).app q
    ·obtain rfl : k = h.length := by omega
     refine ⟨?_, ?_, ?_, ?_⟩
     ·rw [svAt_r, take_app (Nat.le_refl _), List.take_length, et]; exact e
     ·rw [svAt_r, lastT_app (Nat.le_refl _), et]; exact h1
     ·rw [svAt_r, lastT_app (Nat.le_refl _), take_app (Nat.le_refl _), List.take_length, et]; exact h2
     ·rw [svAt_r, et]; omega
   | none =>
    have e2 : playS f p l (m + 1) (hour : Int) h = playS f p l m ((hour + 1 : Nat) : Int) h := by
     show (if l.length <= h.length then h else _) = _
     rw [if_neg c, e]; rfl
    rw [e2]
    refine playS_dec o ol m (hour + 1) h (playI_next o ol i (fun _ => e) (.inl (by omega))) hd (by omega) (fun x q1 q2 => ?_)
    rcases Int.lt_or_le x (hour : Int) with q | q
    ·exact h2 x q1 q
    ·rw [show x = (hour : Int) by omega]; exact e
theorem play_dec {f : Fleet} {p : Pol} {l : List Rq} (o : FlOk f) (ol : LsOk f.t.length l) : GoodH f l (playF f p l) /\ ∀ k, k < (playF f p l).length -> DecI f p l (playF f p l) k :=
 playS_dec o ol 40000 0 [] (playI_0 ol.len) (fun k hk => absurd hk (Nat.not_lt_zero _)) (by show (0 : Int) <= 0; omega) (fun x q1 q2 => by have q1 : (0 : Int) <= x := q1; omega)
theorem sv_take {h : List Sv} {k j : Nat} (hj : j < k) : svAt (h.take k) j = svAt h j := by
 unfold svAt; rw [List.getD_eq_getElem?_getD, List.getElem?_take, if_pos hj, <- List.getD_eq_getElem?_getD]
theorem frH_take (f : Fleet) (h : List Sv) {k : Nat} : ∀ {j : Nat}, j <= k -> frH f (h.take k) j = frH f h j
 | 0, _ => rfl
 | j + 1, hj => by
  show List.set _ _ _ = List.set _ _ _
  rw [frH_take f h (show j <= k by omega), sv_take (show j < k by omega)]
theorem plH_take (f : Fleet) (l : List Rq) (h : List Sv) {k : Nat} : ∀ {j : Nat}, j <= k -> plH f l (h.take k) j = plH f l h j
 | 0, _ => rfl
 | j + 1, hj => by
  show List.set _ _ _ = List.set _ _ _
  rw [plH_take f l h (show j <= k by omega), sv_take (show j < k by omega)]
theorem brH_take (f : Fleet) (l : List Rq) (h : List Sv) {k : Nat} (hk : k <= h.length) : brH f l (h.take k) (h.take k).length = brH f l h k := by
 rw [take_len hk]
 unfold brH
 rw [frH_take f h (Nat.le_refl _), plH_take f l h (Nat.le_refl _)]
theorem met_take {l : List Rq} {h : List Sv} {k j : Nat} (hj : j <= k) : metH l.length (h.take k) j = metH l.length h j := by
 unfold metH; rw [List.take_take, Nat.min_eq_left hj]
theorem ovN_take (l : List Rq) (h : List Sv) {k : Nat} : ∀ {j : Nat}, j <= k -> ovN l (h.take k) j = ovN l h j
 | 0, _ => rfl
 | j + 1, hj => by
  show tabP _ _ = tabP _ _
  rw [ovN_take l h (show j <= k by omega), met_take (show j + 1 <= k by omega), sv_take (show j < k by omega)]
theorem DecI.facts {f : Fleet} {p : Pol} {l : List Rq} {h : List Sv} {k : Nat} (hk : k < h.length) (d : DecI f p l h k) :
  (0 <= (svAt h k).rq /\ (svAt h k).rq < (l.length : Int)) /\ (0 <= (svAt h k).br /\ (svAt h k).br < (f.b.length : Int)) /\ (rqAt l (svAt h k).rq).at_ <= (svAt h k).tk /\ (frH f h k).getD (Int.toNat (svAt h k).br) 0 <= (svAt h k).tk /\ (svAt h k).bg = bgH f l h k /\ (svAt h k).nd = bgH f l h k + (rqAt l (svAt h k).rq).len /\ (svAt h k).rq = bestAt p l (h.take k) (svAt h k).tk := by
 obtain ⟨i, b, hi, hb, es, h1, h2, h3, h4, h5⟩ := dec_some d.dec
 rw [brH_take f l h (by omega), brH_at hb] at h5
 have e1 : (svAt h k).rq = (i : Int) := by rw [es]; rfl
 have e2 : (svAt h k).br = (b : Int) := by rw [es]; rfl
 have e3 : (svAt h k).bg = (svAt h k).tk + trav f ((brH f l (h.take k) (h.take k).length).getD (Int.toNat (b : Int)) zeroB).at_ (rqAt l (i : Int)).place := by
  conv => lhs; rw [es]
  rfl
 have e4 : (svAt h k).nd = (svAt h k).bg + (rqAt l (i : Int)).len := by
  conv => lhs; rw [es]
  conv => rhs; rw [es]
  rfl
 have e5 : (svAt h k).bg = bgH f l h k := by
  rw [e3, brH_take f l h (by omega), Int.toNat_natCast, brH_at hb]
  unfold bgH
  rw [e1, e2, Int.toNat_natCast]
 have e6 : rqAt l (i : Int) = l.getD i zeroQ := by unfold rqAt; rw [Int.toNat_natCast]
 refine ⟨by rw [e1]; omega, by rw [e2]; omega, by rw [e1, e6]; exact h4, by rw [e2, Int.toNat_natCast]; exact h5, e5, by rw [e4, e5, e1], by rw [e1, h1]⟩
theorem errHist_play {f : Fleet} {p : Pol} {l : List Rq} (o : FlOk f) (ol : LsOk f.t.length l) (c1 : errFl f = 0) (c3 : errRq f.t.length l = 0) : errHist f l (playF f p l) = 0 := by
 obtain ⟨g, hd⟩ := play_dec (p := p) o ol
 refine (errHist_0 c1 c3 (playF_len o ol) (errUp_no fun k hk => ?_)).symm
 have d := hd k hk
 obtain ⟨q1, q2, q3, q4, q5, q6, _⟩ := d.facts hk
 refine errSv_0 (by rw [inB_1 q1.1 (by omega)]; rfl) (by rw [inB_1 q2.1 (by omega)]; rfl) (g.ne k hk) (fun ⟨c, c'⟩ => ?_) (fun c => ?_) ⟨q5, q6⟩
 ·have m := d.mono
  rw [show k = (k - 1) + 1 by omega] at m
  have m : (svAt (playF f p l) (k - 1)).tk <= (svAt (playF f p l) ((k - 1) + 1)).tk := m
  rw [show k - 1 + 1 = k by omega] at m
  omega
 ·have := d.top; omega
theorem ovN_cnt {l : List Rq} {h : List Sv} {j : Nat} (hj : j < l.length) : ∀ {m : Nat}, m <= h.length -> (h.take m).any (isRq (j : Int)) = false -> (ovN l h m).getD j 0 = (((h.take m).filter fun t => befB (l.getD j zeroQ) (rqAt l t.rq)).length : Int)
 | 0, _, _ => by
  show (List.replicate l.length (0 : Int)).getD j 0 = _
  rw [List.getD_eq_getElem?_getD, List.getElem?_replicate, if_pos hj]; rfl
 | m + 1, hm, hn => by
  have hs := take_snoc (d := zeroV) (show m < h.length by omega)
  have hn2 := hn
  rw [hs, List.any_append, Bool.or_eq_false_iff] at hn
  have ih := ovN_cnt hj (show m <= h.length by omega) hn.1
  show (tabP _ _).getD j 0 = _
  rw [tabP_get hj, ih, hs, List.filter_append, List.length_append]
  have e : (metH l.length h (m + 1)).getD j false = false := by
   unfold metH; rw [tabP_get hj]; exact hn2
  rw [e]
  show _ + (if (!false && befB (l.getD j zeroQ) (rqAt l (h.getD m zeroV).rq)) = true then (1 : Int) else 0) = _
  rw [Bool.not_false, Bool.true_and]
  cases hb : befB (l.getD j zeroQ) (rqAt l (h.getD m zeroV).rq) with
  | true => rw [List.filter_cons_of_pos (by exact hb)]; rfl
  | false => rw [List.filter_cons_of_neg (by rw [hb]; decide)]; rfl
theorem ov_wait {f : Fleet} {p : Pol} {l : List Rq} (hp : 0 <= p.ov) {H : List Sv} (hd : ∀ k, k < H.length -> DecI f p l H k) : ∀ k, k <= H.length -> ∀ j, j < l.length -> (H.take k).any (isRq (j : Int)) = false -> (ovN l H k).getD j 0 <= p.ov
 | 0, _, j, hj, _ => by
  show (List.replicate l.length (0 : Int)).getD j 0 <= _
  rw [List.getD_eq_getElem?_getD, List.getElem?_replicate, if_pos hj]; exact hp
 | k + 1, hk, j, hj, hn => by
  have hs := take_snoc (d := zeroV) (show k < H.length by omega)
  have hn2 := hn
  rw [hs, List.any_append, Bool.or_eq_false_iff] at hn2
  have ih := ov_wait hp hd k (by omega) j hj hn2.1
  have d := hd k (by omega)
  obtain ⟨q1, q2, q3, q4, q5, q6, q7⟩ := d.facts (by omega)
  show (tabP _ _).getD j 0 <= _
  rw [tabP_get hj]
  split
  ·rename_i c
   rw [Bool.and_eq_true] at c
   have c2 := c.2
   rcases Int.lt_or_le ((ovN l H k).getD j 0) p.ov with w | w
   ·omega
   ·exfalso
    have ha : (l.getD j zeroQ).at_ <= (svAt H k).tk := by
     rcases (bef_iff _ _).1 c2 with a | a <;> omega
    have hc : clsAt p l (H.take k) (svAt H k).tk j = 3 := by
     unfold clsAt classV
     rw [if_neg, if_pos]
     ·rw [take_len (by omega), ovN_take l H (Nat.le_refl _)]; exact w
     ·rintro (x | x)
      ·rw [met_any hj] at x; rw [hn2.1] at x; cases x
      ·omega
    have hle : ∀ i, clsAt p l (H.take k) (svAt H k).tk i <= 3 := fun i => by
     unfold clsAt classV
     split
     ·omega
     split
     ·omega
     split <;> omega
    rcases best_spec p l (H.take k) (svAt H k).tk l.length with ⟨a1, a2⟩ | ⟨a1, a2, a3, a4, a5⟩
    ·have := a2 j hj; omega
    ·have b1 := a5 j hj
     have b2 := hle (Int.toNat (bestTo p l (H.take k) (svAt H k).tk l.length).1)
     have b3 : (bestTo p l (H.take k) (svAt H k).tk l.length).2 = 3 := by omega
     have mn := best_min p l (H.take k) (svAt H k).tk l.length a4 j hj (by rw [hc, b3])
     rw [b3, ahead_3] at mn
     have e : (bestTo p l (H.take k) (svAt H k).tk l.length).1 = (svAt H k).rq := q7.symm
     rw [e] at mn
     exact mn c2
  ·omega
theorem ov_cnt {f : Fleet} {p : Pol} {l : List Rq} (hp : 0 <= p.ov) {H : List Sv} (g : GoodH f l H) (hd : ∀ k, k < H.length -> DecI f p l H k) {k : Nat} (hk : k < H.length) : (cntB l H k k : Int) <= p.ov := by
 have r := g.rq k hk
 have ne := g.ne k hk
 have hj : Int.toNat (svAt H k).rq < l.length := by omega
 have ne2 : (H.take k).any (isRq ((Int.toNat (svAt H k).rq : Nat) : Int)) = false := by rw [Int.toNat_of_nonneg r.1]; exact ne
 have w := ov_wait hp hd k (by omega) _ hj ne2
 rw [ovN_cnt hj (by omega) ne2] at w
 exact w
theorem asg_bd {n : Nat} {h : List Sv} {v : Nat -> Nat} {B : Int} (hB : 0 <= B) : ∀ m, (∀ j, j < m -> (v j : Int) <= B) -> ∀ i, 0 <= (asg n h v m).getD i 0 /\ (asg n h v m).getD i 0 <= B
 | 0, _, i => by
  show 0 <= (List.replicate n (0 : Int)).getD i 0 /\ (List.replicate n (0 : Int)).getD i 0 <= B
  rw [List.getD_eq_getElem?_getD, List.getElem?_replicate]
  split
  ·exact ⟨Int.le_refl _, hB⟩
  ·exact ⟨Int.le_refl _, hB⟩
 | m + 1, hv, i => by
  have ih := asg_bd (n := n) (h := h) hB m (fun j hj => hv j (by omega)) i
  show 0 <= (List.set _ _ _).getD i 0 /\ (List.set _ _ _).getD i 0 <= B
  have hm := hv m (by omega)
  rw [List.getD_eq_getElem?_getD, List.getElem?_set]
  split
  ·split
   ·exact ⟨by show (0 : Int) <= ((v m : Nat) : Int); omega, hm⟩
   ·exact ⟨Int.le_refl _, hB⟩
  ·rw [<- List.getD_eq_getElem?_getD]; exact ih
theorem ov_play {f : Fleet} {p : Pol} {l : List Rq} (o : FlOk f) (ol : LsOk f.t.length l) (hp : 0 <= p.ov) (i : Nat) : 0 <= (ovL l (playF f p l)).getD i 0 /\ (ovL l (playF f p l)).getD i 0 <= p.ov := by
 obtain ⟨g, hd⟩ := play_dec (p := p) o ol
 exact asg_bd hp _ (fun j hj => ov_cnt hp g hd hj) i
theorem in_order {f : Fleet} {p : Pol} {l : List Rq} (o : FlOk f) (ol : LsOk f.t.length l) (hp : p.ov = 0) {k : Nat} (hk : k + 1 < (playF f p l).length) : befB (rqAt l (svAt (playF f p l) (k + 1)).rq) (rqAt l (svAt (playF f p l) k).rq) = false := by
 obtain ⟨g, hd⟩ := play_dec (p := p) o ol
 have c := ov_cnt (by omega) g hd hk
 cases e : befB (rqAt l (svAt (playF f p l) (k + 1)).rq) (rqAt l (svAt (playF f p l) k).rq) with
 | false => rfl
 | true =>
  have hm : svAt (playF f p l) k ∈ (playF f p l).take (k + 1) := by
   rw [take_snoc (d := zeroV) (by omega)]; exact List.mem_append_right _ (List.mem_singleton.2 rfl)
  have hf : svAt (playF f p l) k ∈ ((playF f p l).take (k + 1)).filter fun t : Sv => befB (rqAt l (svAt (playF f p l) (k + 1)).rq) (rqAt l t.rq) := List.mem_filter.2 ⟨hm, e⟩
  have hl := List.length_pos_of_mem hf
  have c : (((playF f p l).take (k + 1)).filter fun t : Sv => befB (rqAt l (svAt (playF f p l) (k + 1)).rq) (rqAt l t.rq)).length <= 0 := by
   unfold cntB at c; omega
  omega
end
end Go.Proofs.YthdekmpkioikdaaGreat
/- Request: what RequestFair speaks of. No condition. -/
namespace Go.Proofs.YthdekmpkioikdaaGreat
set_option linter.unusedSimpArgs false
set_option linter.unusedVariables false
open Go Go.K
def mkO (L : List Int) (m : Int) : List Int := ovL (mkQ L m) (mkH L m)
def mkI (L : List Int) (m x : Int) : Int := x % ((mkQ L m).length : Int)
def swpH (h : List Sv) (a b : Nat) : List Sv := (h.set a (svAt h b)).set b (svAt h a)
def mkX (L : List Int) (m x y : Int) : List Sv := swpH (mkH L m) (Int.toNat (mkI L m x)) (Int.toNat (mkI L m y))
def mkK (L : List Int) (m x y : Int) : Int := if mkI L m x = mkI L m y then ((mkQ L m).length : Int) else min (mkI L m x) (mkI L m y)
def mkP0 (L : List Int) (m : Int) : Pol := { mkP L m with ov := 0 }
def mkH0 (L : List Int) (m : Int) : List Sv := playF (mkF L) (mkP0 L m) (mkQ L m)
end Go.Proofs.YthdekmpkioikdaaGreat
