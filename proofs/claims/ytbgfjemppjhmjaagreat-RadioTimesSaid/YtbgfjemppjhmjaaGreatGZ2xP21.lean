/- Closed calls of the chapter's examples. Printed by a program. No condition. -/
import Derived.Test.YtbgfjemppjhmjaaGreatGO3gxZ0
namespace Go.Proofs.YtbgfjemppjhmjaaGreat
set_option linter.unusedSimpArgs false
open Go Go.K
set_option maxRecDepth 1000000
set_option maxHeartbeats 4000000
set_option linter.unusedVariables false
noncomputable section
attribute [local irreducible] vF
def R106_733418866 : Prop :=
 (/-N ⟨(by kernel_rfl),REST⟩-/(ksetE prog 3 (nI 0) (nI 1) (mapI []) = some (mapI [(0,1)])) /\ (/-N ⟨(by kernel_rfl),REST⟩-/(ksetE prog 3 (nI 1) (nI 1) (mapI [(0,1)]) = some (mapI [(0,1),(1,1)])) /\ (/-N ⟨(by kernel_rfl),REST⟩-/(ksetE prog 3 (nI 2) (nI 1) (mapI [(0,1),(1,1)]) = some (mapI [(0,1),(1,1),(2,1)])) /\ (/-N ⟨(by kernel_rfl),REST⟩-/(klookE prog 3 (nI 0) (nI 2) false (mapI [(0,1),(1,1),(2,1)]) = some (nI 1)) /\ (/-N ⟨(by kernel_rfl),REST⟩-/(klookE prog 3 (nI 0) (nI 0) false (mapI [(0,1),(1,1),(2,1)]) = some (nI 1)) /\ (/-N ⟨(by kernel_rfl),REST⟩-/(ksetE prog 3 (nI 2) (nI 2) (mapI [(0,1),(1,1),(2,1)]) = some (mapI [(0,1),(1,1),(2,2)])) /\ (true = true /\ wk (.map (some 11) : Value) (rn (sg 8 [(8,11)]) 3 (.map (some 8) : Value)) /\ (wkO (.map (mapI [(0,1),(1,1),(2,2)]) : KObj) (rno (sg 8 [(8,11)]) 3 (.map (mapI [(0,1),(1,1),(2,2)]) : KObj)) /\ True))))))))
theorem E106_733418866 : vF prog msk (dm 0) 100000 true 40 true 106 [.pointer (some ⟨0,0,none⟩),sL 1 3 3] (readsT 0 [[nI 5,nI 1,sL 2 5 5,nI 10,sL 3 3 3,sL 4 3 3],[nI 0,nI 1,nI 2],[.bool false,.bool false,.bool false,.bool false,.bool false],[nI 0,nI 0,nI 30,nI 4,nI 40,nI 2],[sL 5 5 5,sL 6 5 5,sL 7 5 5],[nI 0,nI 1,nI 2,nI 3,nI 4],[nI 4,nI 3,nI 2,nI 1,nI 0],[nI 2,nI 1,nI 0,nI 1,nI 2]]) (some [])
 (.go 14 (.into (some [8,9,10]) (.go 3 (.into (some [8,9,10]) (.go 11 (.into (some [8,9,10]) (.go 120 (.mset (mapI [(0,1)]) (.go 17 (.mset (mapI [(0,1),(1,1)]) (.go 108 (.mset (mapI [(0,1),(1,1),(2,1)]) (.go 97 (.val (nI 1) (.go 1 (.val (nI 1) (.go 1 (.mset (mapI [(0,1),(1,1),(2,2)]) (.go 100 (.again [(8,11)]))))))))))))))))))))
 (newK (readsT 0 [[nI 5,nI 1,sL 2 5 5,nI 10,sL 3 3 3,sL 4 3 3],[nI 0,nI 1,nI 2],[.bool false,.bool false,.bool false,.bool false,.bool false],[nI 0,nI 0,nI 30,nI 4,nI 40,nI 2],[sL 5 5 5,sL 6 5 5,sL 7 5 5],[nI 0,nI 1,nI 2,nI 3,nI 4],[nI 4,nI 3,nI 2,nI 1,nI 0],[nI 2,nI 1,nI 0,nI 1,nI 2]]).n 3 (.map (some 8)) [(false,.map (mapI [(0,1),(1,1),(2,2)]))]) = R106_733418866:=by kernel_rfl
theorem P106_733418866 : R106_733418866:=⟨(by kernel_rfl),⟨(by kernel_rfl),⟨(by kernel_rfl),⟨(by kernel_rfl),⟨(by kernel_rfl),⟨(by kernel_rfl),⟨rfl,wk_of_eq rfl,wkO_of_eq rfl,trivial⟩⟩⟩⟩⟩⟩⟩
theorem C106_733418866 {H : Heap} (ids : List Nat) (h : InsA H (sgR 0 ids) ids [[nI 5,nI 1,sL 2 5 5,nI 10,sL 3 3 3,sL 4 3 3],[nI 0,nI 1,nI 2],[.bool false,.bool false,.bool false,.bool false,.bool false],[nI 0,nI 0,nI 30,nI 4,nI 40,nI 2],[sL 5 5 5,sL 6 5 5,sL 7 5 5],[nI 0,nI 1,nI 2,nI 3,nI 4],[nI 4,nI 3,nI 2,nI 1,nI 0],[nI 2,nI 1,nI 0,nI 1,nI 2]]) : KCall prog 106 (([.pointer (some ⟨0,0,none⟩),sL 1 3 3] : List Value).map (rn (sgR 0 ids) 3)) H [] (Is (rn (sgUp 8 H.length) 3 (.map (some 8))) (H ++ [rno (sgUp 8 H.length) 3 (.map (mapI [(0,1),(1,1),(2,2)]))])) :=
 valNA (css:=[[nI 5,nI 1,sL 2 5 5,nI 10,sL 3 3 3,sL 4 3 3],[nI 0,nI 1,nI 2],[.bool false,.bool false,.bool false,.bool false,.bool false],[nI 0,nI 0,nI 30,nI 4,nI 40,nI 2],[sL 5 5 5,sL 6 5 5,sL 7 5 5],[nI 0,nI 1,nI 2,nI 3,nI 4],[nI 4,nI 3,nI 2,nI 1,nI 0],[nI 2,nI 1,nI 0,nI 1,nI 2]]) (v:=.map (some 8)) (new:=[(false,.map (mapI [(0,1),(1,1),(2,2)]))]) (Eq.mpr E106_733418866 P106_733418866) rfl rfl rfl rfl ids h.len h.get
def R106_276827979 : Prop :=
 (/-N ⟨(by kernel_rfl),REST⟩-/(ksetE prog 3 (nI 0) (nI 1) (mapI []) = some (mapI [(0,1)])) /\ (/-N ⟨(by kernel_rfl),REST⟩-/(ksetE prog 3 (nI 2) (nI 1) (mapI [(0,1)]) = some (mapI [(0,1),(2,1)])) /\ (/-N ⟨(by kernel_rfl),REST⟩-/(klookE prog 3 (nI 0) (nI 2) false (mapI [(0,1),(2,1)]) = some (nI 1)) /\ (/-N ⟨(by kernel_rfl),REST⟩-/(klookE prog 3 (nI 0) (nI 0) false (mapI [(0,1),(2,1)]) = some (nI 1)) /\ (/-N ⟨(by kernel_rfl),REST⟩-/(ksetE prog 3 (nI 2) (nI 2) (mapI [(0,1),(2,1)]) = some (mapI [(0,1),(2,2)])) /\ (true = true /\ wk (.map (some 11) : Value) (rn (sg 8 [(8,11)]) 3 (.map (some 8) : Value)) /\ (wkO (.map (mapI [(0,1),(2,2)]) : KObj) (rno (sg 8 [(8,11)]) 3 (.map (mapI [(0,1),(2,2)]) : KObj)) /\ True)))))))
theorem E106_276827979 : vF prog msk (dm 0) 100000 true 40 true 106 [.pointer (some ⟨0,0,none⟩),sL 1 2 3] (readsT 0 [[nI 5,nI 1,sL 2 5 5,nI 10,sL 3 3 3,sL 4 3 3],[nI 0,nI 2,nI 0],[.bool false,.bool false,.bool false,.bool false,.bool false],[nI 0,nI 0,nI 30,nI 4,nI 40,nI 2],[sL 5 5 5,sL 6 5 5,sL 7 5 5],[nI 0,nI 1,nI 2,nI 3,nI 4],[nI 4,nI 3,nI 2,nI 1,nI 0],[nI 2,nI 1,nI 0,nI 1,nI 2]]) (some [])
 (.go 14 (.into (some [8,9,10]) (.go 3 (.into (some [8,9,10]) (.go 11 (.into (some [8,9,10]) (.go 72 (.mset (mapI [(0,1)]) (.go 17 (.mset (mapI [(0,1),(2,1)]) (.go 97 (.val (nI 1) (.go 1 (.val (nI 1) (.go 1 (.mset (mapI [(0,1),(2,2)]) (.go 9 (.again [(8,11)]))))))))))))))))))
 (newK (readsT 0 [[nI 5,nI 1,sL 2 5 5,nI 10,sL 3 3 3,sL 4 3 3],[nI 0,nI 2,nI 0],[.bool false,.bool false,.bool false,.bool false,.bool false],[nI 0,nI 0,nI 30,nI 4,nI 40,nI 2],[sL 5 5 5,sL 6 5 5,sL 7 5 5],[nI 0,nI 1,nI 2,nI 3,nI 4],[nI 4,nI 3,nI 2,nI 1,nI 0],[nI 2,nI 1,nI 0,nI 1,nI 2]]).n 3 (.map (some 8)) [(false,.map (mapI [(0,1),(2,2)]))]) = R106_276827979:=by kernel_rfl
theorem P106_276827979 : R106_276827979:=⟨(by kernel_rfl),⟨(by kernel_rfl),⟨(by kernel_rfl),⟨(by kernel_rfl),⟨(by kernel_rfl),⟨rfl,wk_of_eq rfl,wkO_of_eq rfl,trivial⟩⟩⟩⟩⟩⟩
theorem C106_276827979 {H : Heap} (ids : List Nat) (h : InsA H (sgR 0 ids) ids [[nI 5,nI 1,sL 2 5 5,nI 10,sL 3 3 3,sL 4 3 3],[nI 0,nI 2,nI 0],[.bool false,.bool false,.bool false,.bool false,.bool false],[nI 0,nI 0,nI 30,nI 4,nI 40,nI 2],[sL 5 5 5,sL 6 5 5,sL 7 5 5],[nI 0,nI 1,nI 2,nI 3,nI 4],[nI 4,nI 3,nI 2,nI 1,nI 0],[nI 2,nI 1,nI 0,nI 1,nI 2]]) : KCall prog 106 (([.pointer (some ⟨0,0,none⟩),sL 1 2 3] : List Value).map (rn (sgR 0 ids) 3)) H [] (Is (rn (sgUp 8 H.length) 3 (.map (some 8))) (H ++ [rno (sgUp 8 H.length) 3 (.map (mapI [(0,1),(2,2)]))])) :=
 valNA (css:=[[nI 5,nI 1,sL 2 5 5,nI 10,sL 3 3 3,sL 4 3 3],[nI 0,nI 2,nI 0],[.bool false,.bool false,.bool false,.bool false,.bool false],[nI 0,nI 0,nI 30,nI 4,nI 40,nI 2],[sL 5 5 5,sL 6 5 5,sL 7 5 5],[nI 0,nI 1,nI 2,nI 3,nI 4],[nI 4,nI 3,nI 2,nI 1,nI 0],[nI 2,nI 1,nI 0,nI 1,nI 2]]) (v:=.map (some 8)) (new:=[(false,.map (mapI [(0,1),(2,2)]))]) (Eq.mpr E106_276827979 P106_276827979) rfl rfl rfl rfl ids h.len h.get
def R106_671112452 : Prop :=
 (/-N ⟨(by kernel_rfl),REST⟩-/(ksetE prog 3 (nI 0) (nI 1) (mapI []) = some (mapI [(0,1)])) /\ (/-N ⟨(by kernel_rfl),REST⟩-/(ksetE prog 3 (nI 2) (nI 1) (mapI [(0,1)]) = some (mapI [(0,1),(2,1)])) /\ (/-N ⟨(by kernel_rfl),REST⟩-/(klookE prog 3 (nI 0) (nI 2) false (mapI [(0,1),(2,1)]) = some (nI 1)) /\ (/-N ⟨(by kernel_rfl),REST⟩-/(klookE prog 3 (nI 0) (nI 0) false (mapI [(0,1),(2,1)]) = some (nI 1)) /\ (/-N ⟨(by kernel_rfl),REST⟩-/(ksetE prog 3 (nI 2) (nI 2) (mapI [(0,1),(2,1)]) = some (mapI [(0,1),(2,2)])) /\ (true = true /\ wk (.map (some 11) : Value) (rn (sg 8 [(8,11)]) 3 (.map (some 8) : Value)) /\ (wkO (.map (mapI [(0,1),(2,2)]) : KObj) (rno (sg 8 [(8,11)]) 3 (.map (mapI [(0,1),(2,2)]) : KObj)) /\ True)))))))
theorem E106_671112452 : vF prog msk (dm 0) 100000 true 40 true 106 [.pointer (some ⟨0,0,none⟩),sL 1 2 2] (readsT 0 [[nI 5,nI 1,sL 2 5 5,nI 10,sL 3 3 3,sL 4 3 3],[nI 0,nI 2],[.bool false,.bool false,.bool false,.bool false,.bool false],[nI 0,nI 0,nI 30,nI 4,nI 40,nI 2],[sL 5 5 5,sL 6 5 5,sL 7 5 5],[nI 0,nI 1,nI 2,nI 3,nI 4],[nI 4,nI 3,nI 2,nI 1,nI 0],[nI 2,nI 1,nI 0,nI 1,nI 2]]) (some [])
 (.go 14 (.into (some [8,9,10]) (.go 3 (.into (some [8,9,10]) (.go 11 (.into (some [8,9,10]) (.go 72 (.mset (mapI [(0,1)]) (.go 17 (.mset (mapI [(0,1),(2,1)]) (.go 97 (.val (nI 1) (.go 1 (.val (nI 1) (.go 1 (.mset (mapI [(0,1),(2,2)]) (.go 9 (.again [(8,11)]))))))))))))))))))
 (newK (readsT 0 [[nI 5,nI 1,sL 2 5 5,nI 10,sL 3 3 3,sL 4 3 3],[nI 0,nI 2],[.bool false,.bool false,.bool false,.bool false,.bool false],[nI 0,nI 0,nI 30,nI 4,nI 40,nI 2],[sL 5 5 5,sL 6 5 5,sL 7 5 5],[nI 0,nI 1,nI 2,nI 3,nI 4],[nI 4,nI 3,nI 2,nI 1,nI 0],[nI 2,nI 1,nI 0,nI 1,nI 2]]).n 3 (.map (some 8)) [(false,.map (mapI [(0,1),(2,2)]))]) = R106_671112452:=by kernel_rfl
theorem P106_671112452 : R106_671112452:=⟨(by kernel_rfl),⟨(by kernel_rfl),⟨(by kernel_rfl),⟨(by kernel_rfl),⟨(by kernel_rfl),⟨rfl,wk_of_eq rfl,wkO_of_eq rfl,trivial⟩⟩⟩⟩⟩⟩
theorem C106_671112452 {H : Heap} (ids : List Nat) (h : InsA H (sgR 0 ids) ids [[nI 5,nI 1,sL 2 5 5,nI 10,sL 3 3 3,sL 4 3 3],[nI 0,nI 2],[.bool false,.bool false,.bool false,.bool false,.bool false],[nI 0,nI 0,nI 30,nI 4,nI 40,nI 2],[sL 5 5 5,sL 6 5 5,sL 7 5 5],[nI 0,nI 1,nI 2,nI 3,nI 4],[nI 4,nI 3,nI 2,nI 1,nI 0],[nI 2,nI 1,nI 0,nI 1,nI 2]]) : KCall prog 106 (([.pointer (some ⟨0,0,none⟩),sL 1 2 2] : List Value).map (rn (sgR 0 ids) 3)) H [] (Is (rn (sgUp 8 H.length) 3 (.map (some 8))) (H ++ [rno (sgUp 8 H.length) 3 (.map (mapI [(0,1),(2,2)]))])) :=
 valNA (css:=[[nI 5,nI 1,sL 2 5 5,nI 10,sL 3 3 3,sL 4 3 3],[nI 0,nI 2],[.bool false,.bool false,.bool false,.bool false,.bool false],[nI 0,nI 0,nI 30,nI 4,nI 40,nI 2],[sL 5 5 5,sL 6 5 5,sL 7 5 5],[nI 0,nI 1,nI 2,nI 3,nI 4],[nI 4,nI 3,nI 2,nI 1,nI 0],[nI 2,nI 1,nI 0,nI 1,nI 2]]) (v:=.map (some 8)) (new:=[(false,.map (mapI [(0,1),(2,2)]))]) (Eq.mpr E106_671112452 P106_671112452) rfl rfl rfl rfl ids h.len h.get
end
end Go.Proofs.YtbgfjemppjhmjaaGreat
/- Closed calls of the chapter's examples. Printed by a program. No condition. -/
namespace Go.Proofs.YtbgfjemppjhmjaaGreat
set_option linter.unusedSimpArgs false
open Go Go.K
set_option maxRecDepth 1000000
set_option maxHeartbeats 4000000
set_option linter.unusedVariables false
noncomputable section
attribute [local irreducible] vF
def R83_733418866 (sp : Value) : Prop :=
 (((someR (.cells false 0 [nI 5,nI 1,sL 2 5 5,nI 10,sL 3 3 3,sL 4 3 3] : KObj)) /\ (someR (.cells false 0 [nI 0,nI 1,nI 2] : KObj)) /\ (someR (.cells false 0 [.bool false,.bool false,.bool false,.bool false,.bool false] : KObj)) /\ (someR (.cells false 0 [nI 0,nI 0,nI 30,nI 4,nI 40,nI 2] : KObj)) /\ (someR (.cells false 0 [sL 5 5 5,sL 6 5 5,sL 7 5 5] : KObj)) /\ (someR (.cells false 0 [nI 0,nI 1,nI 2,nI 3,nI 4] : KObj)) /\ (someR (.cells false 0 [nI 4,nI 3,nI 2,nI 1,nI 0] : KObj)) /\ (someR (.cells false 0 [nI 2,nI 1,nI 0,nI 1,nI 2] : KObj)) /\ True) /\ (∀ H' : Heap,H'.length = 8 -> (H'[0]? = some (.cells false 0 [nI 5,nI 1,sL 2 5 5,nI 10,sL 3 3 3,sL 4 3 3] : KObj) /\ H'[1]? = some (.cells false 0 [nI 0,nI 1,nI 2] : KObj) /\ H'[2]? = some (.cells false 0 [.bool false,.bool false,.bool false,.bool false,.bool false] : KObj) /\ H'[3]? = some (.cells false 0 [nI 0,nI 0,nI 30,nI 4,nI 40,nI 2] : KObj) /\ H'[4]? = some (.cells false 0 [sL 5 5 5,sL 6 5 5,sL 7 5 5] : KObj) /\ H'[5]? = some (.cells false 0 [nI 0,nI 1,nI 2,nI 3,nI 4] : KObj) /\ H'[6]? = some (.cells false 0 [nI 4,nI 3,nI 2,nI 1,nI 0] : KObj) /\ H'[7]? = some (.cells false 0 [nI 2,nI 1,nI 0,nI 1,nI 2] : KObj) /\ True) -> /-N ⟨⟨rfl,rfl,rfl,rfl,rfl,rfl,rfl,rfl,trivial⟩,fun H' hl h => (by have k:=C106_733418866 (H:=H') [0,1,2,3,4,5,6,7] ⟨⟨_,_,h.1⟩,⟨_,_,h.2.1⟩,⟨_,_,h.2.2.1⟩,⟨_,_,h.2.2.2.1⟩,⟨_,_,h.2.2.2.2.1⟩,⟨_,_,h.2.2.2.2.2.1⟩,⟨_,_,h.2.2.2.2.2.2.1⟩,⟨_,_,h.2.2.2.2.2.2.2.1⟩,trivial⟩; rw [hl] at k; exact k),REST⟩-/KCall prog 106 [.pointer (some ⟨0,0,none⟩),sL 1 3 3] H' [] (Is (.map (some 8)) (H' ++ [(.map (mapI [(0,1),(1,1),(2,2)]) : KObj)]))) /\ (true = true /\ (SeenL (List.length ([(0,1),(1,1),(2,2)] : List (Int × Int))) ([] : List Nat)) /\ (true = true /\ ((nI 0 : Value) = nI (maxS [(0,1),(1,1),(2,2)] ([] : List Nat)) /\ (nI 0 : Value) = nI 0 /\ (.pointer (some ⟨9,0,none⟩) : Value) = .pointer (some ⟨9,0,none⟩) /\ True) /\ ((some (.iter 8 (List.length (mapI [(0,1),(1,1),(2,2)])) [] : KObj) = some (.iter 8 (List.length (mapI [(0,1),(1,1),(2,2)])) ([] : List Nat) : KObj) /\ belowO 10 (.iter 8 (List.length (mapI [(0,1),(1,1),(2,2)])) ([] : List Nat) : KObj) = true) /\ True) /\ (True) /\ (True)) /\ (∀ x1 : List Nat,true = true) /\ ∀ x1 : List Nat,(SeenL (List.length ([(0,1),(1,1),(2,2)] : List (Int × Int))) x1) -> ((List.length (mapI [(0,1),(1,1),(2,2)]) = (List.length (mapI [(0,1),(1,1),(2,2)]))) /\ (∀ x2 : Nat,x2 < (List.length (mapI [(0,1),(1,1),(2,2)])) -> x2 ∉ x1 -> ((List.length (mapI [(0,1),(1,1),(2,2)]) = (List.length (mapI [(0,1),(1,1),(2,2)]))) /\ (entryE (mapI [(0,1),(1,1),(2,2)]) (x1 ++ [x2]) = some (.tuple #[nI (List.getD ([(0,1),(1,1),(2,2)] : List (Int × Int)) x2 (0,0)).1,nI (List.getD ([(0,1),(1,1),(2,2)] : List (Int × Int)) x2 (0,0)).2])) /\ (∃ x1' : List Nat,(SeenL (List.length ([(0,1),(1,1),(2,2)] : List (Int × Int))) x1') /\ (List.length ([(0,1),(1,1),(2,2)] : List (Int × Int)) - List.length x1') < (List.length ([(0,1),(1,1),(2,2)] : List (Int × Int)) - List.length x1) /\ true = true /\ ((nI (if ((List.getD ([(0,1),(1,1),(2,2)] : List (Int × Int)) x2 (0,0)).2 : Int) > (maxS [(0,1),(1,1),(2,2)] x1) then ((List.getD ([(0,1),(1,1),(2,2)] : List (Int × Int)) x2 (0,0)).2 : Int) else (maxS [(0,1),(1,1),(2,2)] x1)) : Value) = nI (maxS [(0,1),(1,1),(2,2)] x1') /\ (nI 0 : Value) = nI 0 /\ (.pointer (some ⟨9,0,none⟩) : Value) = .pointer (some ⟨9,0,none⟩) /\ True) /\ ((some (.iter 8 (List.length (mapI [(0,1),(1,1),(2,2)])) (x1 ++ [x2]) : KObj) = some (.iter 8 (List.length (mapI [(0,1),(1,1),(2,2)])) x1' : KObj) /\ belowO 10 (.iter 8 (List.length (mapI [(0,1),(1,1),(2,2)])) x1' : KObj) = true) /\ True) /\ (True) /\ (True)))) /\ ((∀ x2 : Nat,x2 < (List.length (mapI [(0,1),(1,1),(2,2)])) -> x2 ∈ x1) -> (nI (maxS [(0,1),(1,1),(2,2)] x1) : Value) = sp))))
theorem E83_733418866 (sp : Value) : vF prog msk (dm 0) 100000 true 40 true 83 [.pointer (some ⟨0,0,none⟩),sL 1 3 3] (readsT 0 [[nI 5,nI 1,sL 2 5 5,nI 10,sL 3 3 3,sL 4 3 3],[nI 0,nI 1,nI 2],[.bool false,.bool false,.bool false,.bool false,.bool false],[nI 0,nI 0,nI 30,nI 4,nI 40,nI 2],[sL 5 5 5,sL 6 5 5,sL 7 5 5],[nI 0,nI 1,nI 2,nI 3,nI 4],[nI 4,nI 3,nI 2,nI 1,nI 0],[nI 2,nI 1,nI 0,nI 1,nI 2]]) (some [])
 (.go 3 (.ans [(0,.cells false 0 [nI 5,nI 1,sL 2 5 5,nI 10,sL 3 3 3,sL 4 3 3]),(1,.cells false 0 [nI 0,nI 1,nI 2]),(2,.cells false 0 [.bool false,.bool false,.bool false,.bool false,.bool false]),(3,.cells false 0 [nI 0,nI 0,nI 30,nI 4,nI 40,nI 2]),(4,.cells false 0 [sL 5 5 5,sL 6 5 5,sL 7 5 5]),(5,.cells false 0 [nI 0,nI 1,nI 2,nI 3,nI 4]),(6,.cells false 0 [nI 4,nI 3,nI 2,nI 1,nI 0]),(7,.cells false 0 [nI 2,nI 1,nI 0,nI 1,nI 2])] (.map (some 8)) [.map (mapI [(0,1),(1,1),(2,2)])] (.go 0 (.inv 3 (List Nat) (([] : List Nat)) [] [9] (fun x1 => [(5,nI (maxS [(0,1),(1,1),(2,2)] x1)),(4,nI 0),(11,.pointer (some ⟨9,0,none⟩))]) (fun x1 => [(9,true,.iter 8 (List.length (mapI [(0,1),(1,1),(2,2)])) x1)]) (fun x1 => []) (fun x1 => []) (fun x1 => (SeenL (List.length ([(0,1),(1,1),(2,2)] : List (Int × Int))) x1)) (fun x1 => (List.length ([(0,1),(1,1),(2,2)] : List (Int × Int)) - List.length x1)) (fun x1 => .nxt (fun x2 => .go 1 (.val (.tuple #[nI (List.getD ([(0,1),(1,1),(2,2)] : List (Int × Int)) x2 (0,0)).1,nI (List.getD ([(0,1),(1,1),(2,2)] : List (Int × Int)) x2 (0,0)).2]) (.go 5 (.again [])))) (.auto))))))
 (fun v _ _ => v = sp) = R83_733418866 sp:=by kernel_rfl
theorem P83_733418866 : R83_733418866 (nI 2):=⟨⟨rfl,rfl,rfl,rfl,rfl,rfl,rfl,rfl,trivial⟩,fun H' hl h => (by have k:=C106_733418866 (H:=H') [0,1,2,3,4,5,6,7] ⟨⟨_,_,h.1⟩,⟨_,_,h.2.1⟩,⟨_,_,h.2.2.1⟩,⟨_,_,h.2.2.2.1⟩,⟨_,_,h.2.2.2.2.1⟩,⟨_,_,h.2.2.2.2.2.1⟩,⟨_,_,h.2.2.2.2.2.2.1⟩,⟨_,_,h.2.2.2.2.2.2.2.1⟩,trivial⟩; rw [hl] at k; exact k),⟨rfl,seenL_0 _,⟨rfl,⟨rfl,rfl,rfl,trivial⟩,⟨⟨rfl,rfl⟩,trivial⟩,trivial,trivial⟩,fun _ => rfl,fun x hx => ⟨rfl,fun i hi hn => ⟨rfl,entI _ hi x,x ++ [i],seenL_snoc hx hi hn,seenL_more hx hi hn,rfl,⟨(by rw [maxS_snoc]),rfl,rfl,trivial⟩,⟨⟨rfl,rfl⟩,trivial⟩,trivial,trivial⟩,fun hall => iEq (maxS_all hx hall rfl)⟩⟩⟩
theorem C83_733418866 {H : Heap} (ids : List Nat) (h : InsA H (sgR 0 ids) ids [[nI 5,nI 1,sL 2 5 5,nI 10,sL 3 3 3,sL 4 3 3],[nI 0,nI 1,nI 2],[.bool false,.bool false,.bool false,.bool false,.bool false],[nI 0,nI 0,nI 30,nI 4,nI 40,nI 2],[sL 5 5 5,sL 6 5 5,sL 7 5 5],[nI 0,nI 1,nI 2,nI 3,nI 4],[nI 4,nI 3,nI 2,nI 1,nI 0],[nI 2,nI 1,nI 0,nI 1,nI 2]]) : KCall prog 83 (([.pointer (some ⟨0,0,none⟩),sL 1 3 3] : List Value).map (rn (sgR 0 ids) 3)) H [] (Is (nI 2) H) :=
 valRA (css:=[[nI 5,nI 1,sL 2 5 5,nI 10,sL 3 3 3,sL 4 3 3],[nI 0,nI 1,nI 2],[.bool false,.bool false,.bool false,.bool false,.bool false],[nI 0,nI 0,nI 30,nI 4,nI 40,nI 2],[sL 5 5 5,sL 6 5 5,sL 7 5 5],[nI 0,nI 1,nI 2,nI 3,nI 4],[nI 4,nI 3,nI 2,nI 1,nI 0],[nI 2,nI 1,nI 0,nI 1,nI 2]]) (Eq.mpr (E83_733418866 _) P83_733418866) rfl ids h.len h.get
def R83_276827979 (sp : Value) : Prop :=
 (((someR (.cells false 0 [nI 5,nI 1,sL 2 5 5,nI 10,sL 3 3 3,sL 4 3 3] : KObj)) /\ (someR (.cells false 0 [nI 0,nI 2,nI 0] : KObj)) /\ (someR (.cells false 0 [.bool false,.bool false,.bool false,.bool false,.bool false] : KObj)) /\ (someR (.cells false 0 [nI 0,nI 0,nI 30,nI 4,nI 40,nI 2] : KObj)) /\ (someR (.cells false 0 [sL 5 5 5,sL 6 5 5,sL 7 5 5] : KObj)) /\ (someR (.cells false 0 [nI 0,nI 1,nI 2,nI 3,nI 4] : KObj)) /\ (someR (.cells false 0 [nI 4,nI 3,nI 2,nI 1,nI 0] : KObj)) /\ (someR (.cells false 0 [nI 2,nI 1,nI 0,nI 1,nI 2] : KObj)) /\ True) /\ (∀ H' : Heap,H'.length = 8 -> (H'[0]? = some (.cells false 0 [nI 5,nI 1,sL 2 5 5,nI 10,sL 3 3 3,sL 4 3 3] : KObj) /\ H'[1]? = some (.cells false 0 [nI 0,nI 2,nI 0] : KObj) /\ H'[2]? = some (.cells false 0 [.bool false,.bool false,.bool false,.bool false,.bool false] : KObj) /\ H'[3]? = some (.cells false 0 [nI 0,nI 0,nI 30,nI 4,nI 40,nI 2] : KObj) /\ H'[4]? = some (.cells false 0 [sL 5 5 5,sL 6 5 5,sL 7 5 5] : KObj) /\ H'[5]? = some (.cells false 0 [nI 0,nI 1,nI 2,nI 3,nI 4] : KObj) /\ H'[6]? = some (.cells false 0 [nI 4,nI 3,nI 2,nI 1,nI 0] : KObj) /\ H'[7]? = some (.cells false 0 [nI 2,nI 1,nI 0,nI 1,nI 2] : KObj) /\ True) -> /-N ⟨⟨rfl,rfl,rfl,rfl,rfl,rfl,rfl,rfl,trivial⟩,fun H' hl h => (by have k:=C106_276827979 (H:=H') [0,1,2,3,4,5,6,7] ⟨⟨_,_,h.1⟩,⟨_,_,h.2.1⟩,⟨_,_,h.2.2.1⟩,⟨_,_,h.2.2.2.1⟩,⟨_,_,h.2.2.2.2.1⟩,⟨_,_,h.2.2.2.2.2.1⟩,⟨_,_,h.2.2.2.2.2.2.1⟩,⟨_,_,h.2.2.2.2.2.2.2.1⟩,trivial⟩; rw [hl] at k; exact k),REST⟩-/KCall prog 106 [.pointer (some ⟨0,0,none⟩),sL 1 2 3] H' [] (Is (.map (some 8)) (H' ++ [(.map (mapI [(0,1),(2,2)]) : KObj)]))) /\ (true = true /\ (SeenL (List.length ([(0,1),(2,2)] : List (Int × Int))) ([] : List Nat)) /\ (true = true /\ ((nI 0 : Value) = nI (maxS [(0,1),(2,2)] ([] : List Nat)) /\ (nI 0 : Value) = nI 0 /\ (.pointer (some ⟨9,0,none⟩) : Value) = .pointer (some ⟨9,0,none⟩) /\ True) /\ ((some (.iter 8 (List.length (mapI [(0,1),(2,2)])) [] : KObj) = some (.iter 8 (List.length (mapI [(0,1),(2,2)])) ([] : List Nat) : KObj) /\ belowO 10 (.iter 8 (List.length (mapI [(0,1),(2,2)])) ([] : List Nat) : KObj) = true) /\ True) /\ (True) /\ (True)) /\ (∀ x1 : List Nat,true = true) /\ ∀ x1 : List Nat,(SeenL (List.length ([(0,1),(2,2)] : List (Int × Int))) x1) -> ((List.length (mapI [(0,1),(2,2)]) = (List.length (mapI [(0,1),(2,2)]))) /\ (∀ x2 : Nat,x2 < (List.length (mapI [(0,1),(2,2)])) -> x2 ∉ x1 -> ((List.length (mapI [(0,1),(2,2)]) = (List.length (mapI [(0,1),(2,2)]))) /\ (entryE (mapI [(0,1),(2,2)]) (x1 ++ [x2]) = some (.tuple #[nI (List.getD ([(0,1),(2,2)] : List (Int × Int)) x2 (0,0)).1,nI (List.getD ([(0,1),(2,2)] : List (Int × Int)) x2 (0,0)).2])) /\ (∃ x1' : List Nat,(SeenL (List.length ([(0,1),(2,2)] : List (Int × Int))) x1') /\ (List.length ([(0,1),(2,2)] : List (Int × Int)) - List.length x1') < (List.length ([(0,1),(2,2)] : List (Int × Int)) - List.length x1) /\ true = true /\ ((nI (if ((List.getD ([(0,1),(2,2)] : List (Int × Int)) x2 (0,0)).2 : Int) > (maxS [(0,1),(2,2)] x1) then ((List.getD ([(0,1),(2,2)] : List (Int × Int)) x2 (0,0)).2 : Int) else (maxS [(0,1),(2,2)] x1)) : Value) = nI (maxS [(0,1),(2,2)] x1') /\ (nI 0 : Value) = nI 0 /\ (.pointer (some ⟨9,0,none⟩) : Value) = .pointer (some ⟨9,0,none⟩) /\ True) /\ ((some (.iter 8 (List.length (mapI [(0,1),(2,2)])) (x1 ++ [x2]) : KObj) = some (.iter 8 (List.length (mapI [(0,1),(2,2)])) x1' : KObj) /\ belowO 10 (.iter 8 (List.length (mapI [(0,1),(2,2)])) x1' : KObj) = true) /\ True) /\ (True) /\ (True)))) /\ ((∀ x2 : Nat,x2 < (List.length (mapI [(0,1),(2,2)])) -> x2 ∈ x1) -> (nI (maxS [(0,1),(2,2)] x1) : Value) = sp))))
theorem E83_276827979 (sp : Value) : vF prog msk (dm 0) 100000 true 40 true 83 [.pointer (some ⟨0,0,none⟩),sL 1 2 3] (readsT 0 [[nI 5,nI 1,sL 2 5 5,nI 10,sL 3 3 3,sL 4 3 3],[nI 0,nI 2,nI 0],[.bool false,.bool false,.bool false,.bool false,.bool false],[nI 0,nI 0,nI 30,nI 4,nI 40,nI 2],[sL 5 5 5,sL 6 5 5,sL 7 5 5],[nI 0,nI 1,nI 2,nI 3,nI 4],[nI 4,nI 3,nI 2,nI 1,nI 0],[nI 2,nI 1,nI 0,nI 1,nI 2]]) (some [])
 (.go 3 (.ans [(0,.cells false 0 [nI 5,nI 1,sL 2 5 5,nI 10,sL 3 3 3,sL 4 3 3]),(1,.cells false 0 [nI 0,nI 2,nI 0]),(2,.cells false 0 [.bool false,.bool false,.bool false,.bool false,.bool false]),(3,.cells false 0 [nI 0,nI 0,nI 30,nI 4,nI 40,nI 2]),(4,.cells false 0 [sL 5 5 5,sL 6 5 5,sL 7 5 5]),(5,.cells false 0 [nI 0,nI 1,nI 2,nI 3,nI 4]),(6,.cells false 0 [nI 4,nI 3,nI 2,nI 1,nI 0]),(7,.cells false 0 [nI 2,nI 1,nI 0,nI 1,nI 2])] (.map (some 8)) [.map (mapI [(0,1),(2,2)])] (.go 0 (.inv 3 (List Nat) (([] : List Nat)) [] [9] (fun x1 => [(5,nI (maxS [(0,1),(2,2)] x1)),(4,nI 0),(11,.pointer (some ⟨9,0,none⟩))]) (fun x1 => [(9,true,.iter 8 (List.length (mapI [(0,1),(2,2)])) x1)]) (fun x1 => []) (fun x1 => []) (fun x1 => (SeenL (List.length ([(0,1),(2,2)] : List (Int × Int))) x1)) (fun x1 => (List.length ([(0,1),(2,2)] : List (Int × Int)) - List.length x1)) (fun x1 => .nxt (fun x2 => .go 1 (.val (.tuple #[nI (List.getD ([(0,1),(2,2)] : List (Int × Int)) x2 (0,0)).1,nI (List.getD ([(0,1),(2,2)] : List (Int × Int)) x2 (0,0)).2]) (.go 5 (.again [])))) (.auto))))))
 (fun v _ _ => v = sp) = R83_276827979 sp:=by kernel_rfl
theorem P83_276827979 : R83_276827979 (nI 2):=⟨⟨rfl,rfl,rfl,rfl,rfl,rfl,rfl,rfl,trivial⟩,fun H' hl h => (by have k:=C106_276827979 (H:=H') [0,1,2,3,4,5,6,7] ⟨⟨_,_,h.1⟩,⟨_,_,h.2.1⟩,⟨_,_,h.2.2.1⟩,⟨_,_,h.2.2.2.1⟩,⟨_,_,h.2.2.2.2.1⟩,⟨_,_,h.2.2.2.2.2.1⟩,⟨_,_,h.2.2.2.2.2.2.1⟩,⟨_,_,h.2.2.2.2.2.2.2.1⟩,trivial⟩; rw [hl] at k; exact k),⟨rfl,seenL_0 _,⟨rfl,⟨rfl,rfl,rfl,trivial⟩,⟨⟨rfl,rfl⟩,trivial⟩,trivial,trivial⟩,fun _ => rfl,fun x hx => ⟨rfl,fun i hi hn => ⟨rfl,entI _ hi x,x ++ [i],seenL_snoc hx hi hn,seenL_more hx hi hn,rfl,⟨(by rw [maxS_snoc]),rfl,rfl,trivial⟩,⟨⟨rfl,rfl⟩,trivial⟩,trivial,trivial⟩,fun hall => iEq (maxS_all hx hall rfl)⟩⟩⟩
theorem C83_276827979 {H : Heap} (ids : List Nat) (h : InsA H (sgR 0 ids) ids [[nI 5,nI 1,sL 2 5 5,nI 10,sL 3 3 3,sL 4 3 3],[nI 0,nI 2,nI 0],[.bool false,.bool false,.bool false,.bool false,.bool false],[nI 0,nI 0,nI 30,nI 4,nI 40,nI 2],[sL 5 5 5,sL 6 5 5,sL 7 5 5],[nI 0,nI 1,nI 2,nI 3,nI 4],[nI 4,nI 3,nI 2,nI 1,nI 0],[nI 2,nI 1,nI 0,nI 1,nI 2]]) : KCall prog 83 (([.pointer (some ⟨0,0,none⟩),sL 1 2 3] : List Value).map (rn (sgR 0 ids) 3)) H [] (Is (nI 2) H) :=
 valRA (css:=[[nI 5,nI 1,sL 2 5 5,nI 10,sL 3 3 3,sL 4 3 3],[nI 0,nI 2,nI 0],[.bool false,.bool false,.bool false,.bool false,.bool false],[nI 0,nI 0,nI 30,nI 4,nI 40,nI 2],[sL 5 5 5,sL 6 5 5,sL 7 5 5],[nI 0,nI 1,nI 2,nI 3,nI 4],[nI 4,nI 3,nI 2,nI 1,nI 0],[nI 2,nI 1,nI 0,nI 1,nI 2]]) (Eq.mpr (E83_276827979 _) P83_276827979) rfl ids h.len h.get
def R83_671112452 (sp : Value) : Prop :=
 (((someR (.cells false 0 [nI 5,nI 1,sL 2 5 5,nI 10,sL 3 3 3,sL 4 3 3] : KObj)) /\ (someR (.cells false 0 [nI 0,nI 2] : KObj)) /\ (someR (.cells false 0 [.bool false,.bool false,.bool false,.bool false,.bool false] : KObj)) /\ (someR (.cells false 0 [nI 0,nI 0,nI 30,nI 4,nI 40,nI 2] : KObj)) /\ (someR (.cells false 0 [sL 5 5 5,sL 6 5 5,sL 7 5 5] : KObj)) /\ (someR (.cells false 0 [nI 0,nI 1,nI 2,nI 3,nI 4] : KObj)) /\ (someR (.cells false 0 [nI 4,nI 3,nI 2,nI 1,nI 0] : KObj)) /\ (someR (.cells false 0 [nI 2,nI 1,nI 0,nI 1,nI 2] : KObj)) /\ True) /\ (∀ H' : Heap,H'.length = 8 -> (H'[0]? = some (.cells false 0 [nI 5,nI 1,sL 2 5 5,nI 10,sL 3 3 3,sL 4 3 3] : KObj) /\ H'[1]? = some (.cells false 0 [nI 0,nI 2] : KObj) /\ H'[2]? = some (.cells false 0 [.bool false,.bool false,.bool false,.bool false,.bool false] : KObj) /\ H'[3]? = some (.cells false 0 [nI 0,nI 0,nI 30,nI 4,nI 40,nI 2] : KObj) /\ H'[4]? = some (.cells false 0 [sL 5 5 5,sL 6 5 5,sL 7 5 5] : KObj) /\ H'[5]? = some (.cells false 0 [nI 0,nI 1,nI 2,nI 3,nI 4] : KObj) /\ H'[6]? = some (.cells false 0 [nI 4,nI 3,nI 2,nI 1,nI 0] : KObj) /\ H'[7]? = some (.cells false 0 [nI 2,nI 1,nI 0,nI 1,nI 2] : KObj) /\ True) -> /-N ⟨⟨rfl,rfl,rfl,rfl,rfl,rfl,rfl,rfl,trivial⟩,fun H' hl h => (by have k:=C106_671112452 (H:=H') [0,1,2,3,4,5,6,7] ⟨⟨_,_,h.1⟩,⟨_,_,h.2.1⟩,⟨_,_,h.2.2.1⟩,⟨_,_,h.2.2.2.1⟩,⟨_,_,h.2.2.2.2.1⟩,⟨_,_,h.2.2.2.2.2.1⟩,⟨_,_,h.2.2.2.2.2.2.1⟩,⟨_,_,h.2.2.2.2.2.2.2.1⟩,trivial⟩; rw [hl] at k; exact k),REST⟩-/KCall prog 106 [.pointer (some ⟨0,0,none⟩),sL 1 2 2] H' [] (Is (.map (some 8)) (H' ++ [(.map (mapI [(0,1),(2,2)]) : KObj)]))) /\ (true = true /\ (SeenL (List.length ([(0,1),(2,2)] : List (Int × Int))) ([] : List Nat)) /\ (true = true /\ ((nI 0 : Value) = nI (maxS [(0,1),(2,2)] ([] : List Nat)) /\ (nI 0 : Value) = nI 0 /\ (.pointer (some ⟨9,0,none⟩) : Value) = .pointer (some ⟨9,0,none⟩) /\ True) /\ ((some (.iter 8 (List.length (mapI [(0,1),(2,2)])) [] : KObj) = some (.iter 8 (List.length (mapI [(0,1),(2,2)])) ([] : List Nat) : KObj) /\ belowO 10 (.iter 8 (List.length (mapI [(0,1),(2,2)])) ([] : List Nat) : KObj) = true) /\ True) /\ (True) /\ (True)) /\ (∀ x1 : List Nat,true = true) /\ ∀ x1 : List Nat,(SeenL (List.length ([(0,1),(2,2)] : List (Int × Int))) x1) -> ((List.length (mapI [(0,1),(2,2)]) = (List.length (mapI [(0,1),(2,2)]))) /\ (∀ x2 : Nat,x2 < (List.length (mapI [(0,1),(2,2)])) -> x2 ∉ x1 -> ((List.length (mapI [(0,1),(2,2)]) = (List.length (mapI [(0,1),(2,2)]))) /\ (entryE (mapI [(0,1),(2,2)]) (x1 ++ [x2]) = some (.tuple #[nI (List.getD ([(0,1),(2,2)] : List (Int × Int)) x2 (0,0)).1,nI (List.getD ([(0,1),(2,2)] : List (Int × Int)) x2 (0,0)).2])) /\ (∃ x1' : List Nat,(SeenL (List.length ([(0,1),(2,2)] : List (Int × Int))) x1') /\ (List.length ([(0,1),(2,2)] : List (Int × Int)) - List.length x1') < (List.length ([(0,1),(2,2)] : List (Int × Int)) - List.length x1) /\ true = true /\ ((nI (if ((List.getD ([(0,1),(2,2)] : List (Int × Int)) x2 (0,0)).2 : Int) > (maxS [(0,1),(2,2)] x1) then ((List.getD ([(0,1),(2,2)] : List (Int × Int)) x2 (0,0)).2 : Int) else (maxS [(0,1),(2,2)] x1)) : Value) = nI (maxS [(0,1),(2,2)] x1') /\ (nI 0 : Value) = nI 0 /\ (.pointer (some ⟨9,0,none⟩) : Value) = .pointer (some ⟨9,0,none⟩) /\ True) /\ ((some (.iter 8 (List.length (mapI [(0,1),(2,2)])) (x1 ++ [x2]) : KObj) = some (.iter 8 (List.length (mapI [(0,1),(2,2)])) x1' : KObj) /\ belowO 10 (.iter 8 (List.length (mapI [(0,1),(2,2)])) x1' : KObj) = true) /\ True) /\ (True) /\ (True)))) /\ ((∀ x2 : Nat,x2 < (List.length (mapI [(0,1),(2,2)])) -> x2 ∈ x1) -> (nI (maxS [(0,1),(2,2)] x1) : Value) = sp))))
theorem E83_671112452 (sp : Value) : vF prog msk (dm 0) 100000 true 40 true 83 [.pointer (some ⟨0,0,none⟩),sL 1 2 2] (readsT 0 [[nI 5,nI 1,sL 2 5 5,nI 10,sL 3 3 3,sL 4 3 3],[nI 0,nI 2],[.bool false,.bool false,.bool false,.bool false,.bool false],[nI 0,nI 0,nI 30,nI 4,nI 40,nI 2],[sL 5 5 5,sL 6 5 5,sL 7 5 5],[nI 0,nI 1,nI 2,nI 3,nI 4],[nI 4,nI 3,nI 2,nI 1,nI 0],[nI 2,nI 1,nI 0,nI 1,nI 2]]) (some [])
 (.go 3 (.ans [(0,.cells false 0 [nI 5,nI 1,sL 2 5 5,nI 10,sL 3 3 3,sL 4 3 3]),(1,.cells false 0 [nI 0,nI 2]),(2,.cells false 0 [.bool false,.bool false,.bool false,.bool false,.bool false]),(3,.cells false 0 [nI 0,nI 0,nI 30,nI 4,nI 40,nI 2]),(4,.cells false 0 [sL 5 5 5,sL 6 5 5,sL 7 5 5]),(5,.cells false 0 [nI 0,nI 1,nI 2,nI 3,nI 4]),(6,.cells false 0 [nI 4,nI 3,nI 2,nI 1,nI 0]),(7,.cells false 0 [nI 2,nI 1,nI 0,nI 1,nI 2])] (.map (some 8)) [.map (mapI [(0,1),(2,2)])] (.go 0 (.inv 3 (List Nat) (([] : List Nat)) [] [9] (fun x1 => [(5,nI (maxS [(0,1),(2,2)] x1)),(4,nI 0),(11,.pointer (some ⟨9,0,none⟩))]) (fun x1 => [(9,true,.iter 8 (List.length (mapI [(0,1),(2,2)])) x1)]) (fun x1 => []) (fun x1 => []) (fun x1 => (SeenL (List.length ([(0,1),(2,2)] : List (Int × Int))) x1)) (fun x1 => (List.length ([(0,1),(2,2)] : List (Int × Int)) - List.length x1)) (fun x1 => .nxt (fun x2 => .go 1 (.val (.tuple #[nI (List.getD ([(0,1),(2,2)] : List (Int × Int)) x2 (0,0)).1,nI (List.getD ([(0,1),(2,2)] : List (Int × Int)) x2 (0,0)).2]) (.go 5 (.again [])))) (.auto))))))
 (fun v _ _ => v = sp) = R83_671112452 sp:=by kernel_rfl
theorem P83_671112452 : R83_671112452 (nI 2):=⟨⟨rfl,rfl,rfl,rfl,rfl,rfl,rfl,rfl,trivial⟩,fun H' hl h => (by have k:=C106_671112452 (H:=H') [0,1,2,3,4,5,6,7] ⟨⟨_,_,h.1⟩,⟨_,_,h.2.1⟩,⟨_,_,h.2.2.1⟩,⟨_,_,h.2.2.2.1⟩,⟨_,_,h.2.2.2.2.1⟩,⟨_,_,h.2.2.2.2.2.1⟩,⟨_,_,h.2.2.2.2.2.2.1⟩,⟨_,_,h.2.2.2.2.2.2.2.1⟩,trivial⟩; rw [hl] at k; exact k),⟨rfl,seenL_0 _,⟨rfl,⟨rfl,rfl,rfl,trivial⟩,⟨⟨rfl,rfl⟩,trivial⟩,trivial,trivial⟩,fun _ => rfl,fun x hx => ⟨rfl,fun i hi hn => ⟨rfl,entI _ hi x,x ++ [i],seenL_snoc hx hi hn,seenL_more hx hi hn,rfl,⟨(by rw [maxS_snoc]),rfl,rfl,trivial⟩,⟨⟨rfl,rfl⟩,trivial⟩,trivial,trivial⟩,fun hall => iEq (maxS_all hx hall rfl)⟩⟩⟩
theorem C83_671112452 {H : Heap} (ids : List Nat) (h : InsA H (sgR 0 ids) ids [[nI 5,nI 1,sL 2 5 5,nI 10,sL 3 3 3,sL 4 3 3],[nI 0,nI 2],[.bool false,.bool false,.bool false,.bool false,.bool false],[nI 0,nI 0,nI 30,nI 4,nI 40,nI 2],[sL 5 5 5,sL 6 5 5,sL 7 5 5],[nI 0,nI 1,nI 2,nI 3,nI 4],[nI 4,nI 3,nI 2,nI 1,nI 0],[nI 2,nI 1,nI 0,nI 1,nI 2]]) : KCall prog 83 (([.pointer (some ⟨0,0,none⟩),sL 1 2 2] : List Value).map (rn (sgR 0 ids) 3)) H [] (Is (nI 2) H) :=
 valRA (css:=[[nI 5,nI 1,sL 2 5 5,nI 10,sL 3 3 3,sL 4 3 3],[nI 0,nI 2],[.bool false,.bool false,.bool false,.bool false,.bool false],[nI 0,nI 0,nI 30,nI 4,nI 40,nI 2],[sL 5 5 5,sL 6 5 5,sL 7 5 5],[nI 0,nI 1,nI 2,nI 3,nI 4],[nI 4,nI 3,nI 2,nI 1,nI 0],[nI 2,nI 1,nI 0,nI 1,nI 2]]) (Eq.mpr (E83_671112452 _) P83_671112452) rfl ids h.len h.get
end
end Go.Proofs.YtbgfjemppjhmjaaGreat
/- Closed calls of the chapter's examples. Printed by a program. No condition. -/
namespace Go.Proofs.YtbgfjemppjhmjaaGreat
set_option linter.unusedSimpArgs false
open Go Go.K
set_option maxRecDepth 1000000
set_option maxHeartbeats 4000000
set_option linter.unusedVariables false
noncomputable section
attribute [local irreducible] vF
def R41_956383489 (sp : Value) : Prop :=
 (nI 0 : Value) = sp
theorem E41_956383489 (sp : Value) : vF prog msk (dm 0) 100000 true 40 true 41 [.agg #[nI 5,nI 1,sL 0 5 5,nI 10,sL 1 3 3]] (readsT 0 [[.bool false,.bool false,.bool false,.bool false,.bool false],[nI 0,nI 0,nI 30,nI 4,nI 40,nI 2]]) (some [])
 (.auto)
 (fun v _ _ => v = sp) = R41_956383489 sp:=by kernel_rfl
theorem P41_956383489 : R41_956383489 (nI 0):=rfl
theorem C41_956383489 {H : Heap} (ids : List Nat) (h : InsA H (sgR 0 ids) ids [[.bool false,.bool false,.bool false,.bool false,.bool false],[nI 0,nI 0,nI 30,nI 4,nI 40,nI 2]]) : KCall prog 41 (([.agg #[nI 5,nI 1,sL 0 5 5,nI 10,sL 1 3 3]] : List Value).map (rn (sgR 0 ids) 3)) H [] (Is (nI 0) H) :=
 valRA (css:=[[.bool false,.bool false,.bool false,.bool false,.bool false],[nI 0,nI 0,nI 30,nI 4,nI 40,nI 2]]) (Eq.mpr (E41_956383489 _) P41_956383489) rfl ids h.len h.get
def R114_868361596 : Prop :=
 (true = true /\ wk (sL 2 5 5 : Value) (rn (sg 1 [(1,2)]) 3 (sL 1 5 5 : Value)) /\ (wkO (.cells true 1 [nI 0,nI 1,nI 2,nI 3,nI 4] : KObj) (rno (sg 1 [(1,2)]) 3 (.cells true 1 [nI 0,nI 1,nI 2,nI 3,nI 4] : KObj)) /\ True))
theorem E114_868361596 : vF prog msk (dm 0) 100000 true 40 true 114 [.agg #[nI 5,nI 1,sL 0 5 5],nI 0] (readsT 0 [[.bool false,.bool false,.bool false,.bool false,.bool false]]) (some [])
 (.go 1543 (.again [(1,2)]))
 (newK (readsT 0 [[.bool false,.bool false,.bool false,.bool false,.bool false]]).n 3 (sL 1 5 5) [(false,.cells true 1 [nI 0,nI 1,nI 2,nI 3,nI 4])]) = R114_868361596:=by kernel_rfl
theorem P114_868361596 : R114_868361596:=⟨rfl,wk_of_eq rfl,wkO_of_eq rfl,trivial⟩
theorem C114_868361596 {H : Heap} (ids : List Nat) (h : InsA H (sgR 0 ids) ids [[.bool false,.bool false,.bool false,.bool false,.bool false]]) : KCall prog 114 (([.agg #[nI 5,nI 1,sL 0 5 5],nI 0] : List Value).map (rn (sgR 0 ids) 3)) H [] (Is (rn (sgUp 1 H.length) 3 (sL 1 5 5)) (H ++ [rno (sgUp 1 H.length) 3 (.cells true 1 [nI 0,nI 1,nI 2,nI 3,nI 4])])) :=
 valNA (css:=[[.bool false,.bool false,.bool false,.bool false,.bool false]]) (v:=sL 1 5 5) (new:=[(false,.cells true 1 [nI 0,nI 1,nI 2,nI 3,nI 4])]) (Eq.mpr E114_868361596 P114_868361596) rfl rfl rfl rfl ids h.len h.get
def R114_16177380 : Prop :=
 (true = true /\ wk (sL 2 5 5 : Value) (rn (sg 1 [(1,2)]) 3 (sL 1 5 5 : Value)) /\ (wkO (.cells true 1 [nI 4,nI 3,nI 2,nI 1,nI 0] : KObj) (rno (sg 1 [(1,2)]) 3 (.cells true 1 [nI 4,nI 3,nI 2,nI 1,nI 0] : KObj)) /\ True))
theorem E114_16177380 : vF prog msk (dm 0) 100000 true 40 true 114 [.agg #[nI 5,nI 1,sL 0 5 5],nI 4] (readsT 0 [[.bool false,.bool false,.bool false,.bool false,.bool false]]) (some [])
 (.go 1543 (.again [(1,2)]))
 (newK (readsT 0 [[.bool false,.bool false,.bool false,.bool false,.bool false]]).n 3 (sL 1 5 5) [(false,.cells true 1 [nI 4,nI 3,nI 2,nI 1,nI 0])]) = R114_16177380:=by kernel_rfl
theorem P114_16177380 : R114_16177380:=⟨rfl,wk_of_eq rfl,wkO_of_eq rfl,trivial⟩
theorem C114_16177380 {H : Heap} (ids : List Nat) (h : InsA H (sgR 0 ids) ids [[.bool false,.bool false,.bool false,.bool false,.bool false]]) : KCall prog 114 (([.agg #[nI 5,nI 1,sL 0 5 5],nI 4] : List Value).map (rn (sgR 0 ids) 3)) H [] (Is (rn (sgUp 1 H.length) 3 (sL 1 5 5)) (H ++ [rno (sgUp 1 H.length) 3 (.cells true 1 [nI 4,nI 3,nI 2,nI 1,nI 0])])) :=
 valNA (css:=[[.bool false,.bool false,.bool false,.bool false,.bool false]]) (v:=sL 1 5 5) (new:=[(false,.cells true 1 [nI 4,nI 3,nI 2,nI 1,nI 0])]) (Eq.mpr E114_16177380 P114_16177380) rfl rfl rfl rfl ids h.len h.get
def R114_391959661 : Prop :=
 (true = true /\ wk (sL 2 5 5 : Value) (rn (sg 1 [(1,2)]) 3 (sL 1 5 5 : Value)) /\ (wkO (.cells true 1 [nI 2,nI 1,nI 0,nI 1,nI 2] : KObj) (rno (sg 1 [(1,2)]) 3 (.cells true 1 [nI 2,nI 1,nI 0,nI 1,nI 2] : KObj)) /\ True))
theorem E114_391959661 : vF prog msk (dm 0) 100000 true 40 true 114 [.agg #[nI 5,nI 1,sL 0 5 5],nI 2] (readsT 0 [[.bool false,.bool false,.bool false,.bool false,.bool false]]) (some [])
 (.go 1543 (.again [(1,2)]))
 (newK (readsT 0 [[.bool false,.bool false,.bool false,.bool false,.bool false]]).n 3 (sL 1 5 5) [(false,.cells true 1 [nI 2,nI 1,nI 0,nI 1,nI 2])]) = R114_391959661:=by kernel_rfl
theorem P114_391959661 : R114_391959661:=⟨rfl,wk_of_eq rfl,wkO_of_eq rfl,trivial⟩
theorem C114_391959661 {H : Heap} (ids : List Nat) (h : InsA H (sgR 0 ids) ids [[.bool false,.bool false,.bool false,.bool false,.bool false]]) : KCall prog 114 (([.agg #[nI 5,nI 1,sL 0 5 5],nI 2] : List Value).map (rn (sgR 0 ids) 3)) H [] (Is (rn (sgUp 1 H.length) 3 (sL 1 5 5)) (H ++ [rno (sgUp 1 H.length) 3 (.cells true 1 [nI 2,nI 1,nI 0,nI 1,nI 2])])) :=
 valNA (css:=[[.bool false,.bool false,.bool false,.bool false,.bool false]]) (v:=sL 1 5 5) (new:=[(false,.cells true 1 [nI 2,nI 1,nI 0,nI 1,nI 2])]) (Eq.mpr E114_391959661 P114_391959661) rfl rfl rfl rfl ids h.len h.get
def R41_417788160 (sp : Value) : Prop :=
 (nI 0 : Value) = sp
theorem E41_417788160 (sp : Value) : vF prog msk (dm 0) 100000 true 40 true 41 [.agg #[nI 5,nI 1,sL 0 5 5,nI 10,sL 1 2 2]] (readsT 0 [[.bool false,.bool false,.bool false,.bool false,.bool false],[nI 0,nI 0,nI 40,nI 2]]) (some [])
 (.auto)
 (fun v _ _ => v = sp) = R41_417788160 sp:=by kernel_rfl
theorem P41_417788160 : R41_417788160 (nI 0):=rfl
theorem C41_417788160 {H : Heap} (ids : List Nat) (h : InsA H (sgR 0 ids) ids [[.bool false,.bool false,.bool false,.bool false,.bool false],[nI 0,nI 0,nI 40,nI 2]]) : KCall prog 41 (([.agg #[nI 5,nI 1,sL 0 5 5,nI 10,sL 1 2 2]] : List Value).map (rn (sgR 0 ids) 3)) H [] (Is (nI 0) H) :=
 valRA (css:=[[.bool false,.bool false,.bool false,.bool false,.bool false],[nI 0,nI 0,nI 40,nI 2]]) (Eq.mpr (E41_417788160 _) P41_417788160) rfl ids h.len h.get
end
end Go.Proofs.YtbgfjemppjhmjaaGreat
/- Closed calls of the chapter's examples. Printed by a program. No condition. -/
namespace Go.Proofs.YtbgfjemppjhmjaaGreat
set_option linter.unusedSimpArgs false
open Go Go.K
set_option maxRecDepth 1000000
set_option maxHeartbeats 4000000
set_option linter.unusedVariables false
noncomputable section
attribute [local irreducible] vF
def R24_956383489 : Prop :=
 (((someR (.cells false 0 [.bool false,.bool false,.bool false,.bool false,.bool false] : KObj)) /\ (someR (.cells false 0 [nI 0,nI 0,nI 30,nI 4,nI 40,nI 2] : KObj)) /\ True) /\ (∀ H' : Heap,H'.length = 4 -> (H'[0]? = some (.cells false 0 [.bool false,.bool false,.bool false,.bool false,.bool false] : KObj) /\ H'[1]? = some (.cells false 0 [nI 0,nI 0,nI 30,nI 4,nI 40,nI 2] : KObj) /\ True) -> /-N ⟨⟨rfl,rfl,trivial⟩,fun H' _ h => C41_956383489 [0,1] ⟨⟨_,_,h.1⟩,⟨_,_,h.2.1⟩,trivial⟩,REST⟩-/KCall prog 41 [.agg #[nI 5,nI 1,sL 0 5 5,nI 10,sL 1 3 3]] H' [] (Is (nI 0) H')) /\ (((someR (.cells false 0 [.bool false,.bool false,.bool false,.bool false,.bool false] : KObj)) /\ True) /\ (∀ H' : Heap,H'.length = 6 -> (H'[0]? = some (.cells false 0 [.bool false,.bool false,.bool false,.bool false,.bool false] : KObj) /\ True) -> /-N ⟨⟨rfl,trivial⟩,fun H' hl h => (by have k:=C114_868361596 (H:=H') [0] ⟨⟨_,_,h.1⟩,trivial⟩; rw [hl] at k; exact k),REST⟩-/KCall prog 114 [.agg #[nI 5,nI 1,sL 0 5 5],nI 0] H' [] (Is (sL 6 5 5) (H' ++ [(.cells true 1 [nI 0,nI 1,nI 2,nI 3,nI 4] : KObj)]))) /\ (((someR (.cells false 0 [.bool false,.bool false,.bool false,.bool false,.bool false] : KObj)) /\ True) /\ (∀ H' : Heap,H'.length = 10 -> (H'[0]? = some (.cells false 0 [.bool false,.bool false,.bool false,.bool false,.bool false] : KObj) /\ True) -> /-N ⟨⟨rfl,trivial⟩,fun H' hl h => (by have k:=C114_16177380 (H:=H') [0] ⟨⟨_,_,h.1⟩,trivial⟩; rw [hl] at k; exact k),REST⟩-/KCall prog 114 [.agg #[nI 5,nI 1,sL 0 5 5],nI 4] H' [] (Is (sL 10 5 5) (H' ++ [(.cells true 1 [nI 4,nI 3,nI 2,nI 1,nI 0] : KObj)]))) /\ (((someR (.cells false 0 [.bool false,.bool false,.bool false,.bool false,.bool false] : KObj)) /\ True) /\ (∀ H' : Heap,H'.length = 14 -> (H'[0]? = some (.cells false 0 [.bool false,.bool false,.bool false,.bool false,.bool false] : KObj) /\ True) -> /-N ⟨⟨rfl,trivial⟩,fun H' hl h => (by have k:=C114_391959661 (H:=H') [0] ⟨⟨_,_,h.1⟩,trivial⟩; rw [hl] at k; exact k),REST⟩-/KCall prog 114 [.agg #[nI 5,nI 1,sL 0 5 5],nI 2] H' [] (Is (sL 14 5 5) (H' ++ [(.cells true 1 [nI 2,nI 1,nI 0,nI 1,nI 2] : KObj)]))) /\ (((someR (.cells true 0 [nI 5,nI 1,sL 0 5 5,nI 10,sL 1 3 3,sL 16 3 3] : KObj)) /\ (someR (.cells true 1 [nI 0,nI 1,nI 2] : KObj)) /\ (someR (.cells false 0 [.bool false,.bool false,.bool false,.bool false,.bool false] : KObj)) /\ (someR (.cells false 0 [nI 0,nI 0,nI 30,nI 4,nI 40,nI 2] : KObj)) /\ (someR (.cells true 1 [sL 6 5 5,sL 10 5 5,sL 14 5 5] : KObj)) /\ (someR (.cells true 1 [nI 0,nI 1,nI 2,nI 3,nI 4] : KObj)) /\ (someR (.cells true 1 [nI 4,nI 3,nI 2,nI 1,nI 0] : KObj)) /\ (someR (.cells true 1 [nI 2,nI 1,nI 0,nI 1,nI 2] : KObj)) /\ True) /\ (∀ H' : Heap,H'.length = 24 -> (H'[4]? = some (.cells true 0 [nI 5,nI 1,sL 0 5 5,nI 10,sL 1 3 3,sL 16 3 3] : KObj) /\ H'[23]? = some (.cells true 1 [nI 0,nI 1,nI 2] : KObj) /\ H'[0]? = some (.cells false 0 [.bool false,.bool false,.bool false,.bool false,.bool false] : KObj) /\ H'[1]? = some (.cells false 0 [nI 0,nI 0,nI 30,nI 4,nI 40,nI 2] : KObj) /\ H'[16]? = some (.cells true 1 [sL 6 5 5,sL 10 5 5,sL 14 5 5] : KObj) /\ H'[6]? = some (.cells true 1 [nI 0,nI 1,nI 2,nI 3,nI 4] : KObj) /\ H'[10]? = some (.cells true 1 [nI 4,nI 3,nI 2,nI 1,nI 0] : KObj) /\ H'[14]? = some (.cells true 1 [nI 2,nI 1,nI 0,nI 1,nI 2] : KObj) /\ True) -> /-N ⟨⟨rfl,rfl,rfl,rfl,rfl,rfl,rfl,rfl,trivial⟩,fun H' _ h => C83_733418866 [4,23,0,1,16,6,10,14] ⟨⟨_,_,h.1⟩,⟨_,_,h.2.1⟩,⟨_,_,h.2.2.1⟩,⟨_,_,h.2.2.2.1⟩,⟨_,_,h.2.2.2.2.1⟩,⟨_,_,h.2.2.2.2.2.1⟩,⟨_,_,h.2.2.2.2.2.2.1⟩,⟨_,_,h.2.2.2.2.2.2.2.1⟩,trivial⟩,REST⟩-/KCall prog 83 [.pointer (some ⟨4,0,none⟩),sL 23 3 3] H' [] (Is (nI 2) H')) /\ (((someR (.cells true 0 [nI 5,nI 1,sL 0 5 5,nI 10,sL 1 3 3,sL 16 3 3] : KObj)) /\ (someR (.cells true 1 [nI 0,nI 2,nI 0] : KObj)) /\ (someR (.cells false 0 [.bool false,.bool false,.bool false,.bool false,.bool false] : KObj)) /\ (someR (.cells false 0 [nI 0,nI 0,nI 30,nI 4,nI 40,nI 2] : KObj)) /\ (someR (.cells true 1 [sL 6 5 5,sL 10 5 5,sL 14 5 5] : KObj)) /\ (someR (.cells true 1 [nI 0,nI 1,nI 2,nI 3,nI 4] : KObj)) /\ (someR (.cells true 1 [nI 4,nI 3,nI 2,nI 1,nI 0] : KObj)) /\ (someR (.cells true 1 [nI 2,nI 1,nI 0,nI 1,nI 2] : KObj)) /\ True) /\ (∀ H' : Heap,H'.length = 27 -> (H'[4]? = some (.cells true 0 [nI 5,nI 1,sL 0 5 5,nI 10,sL 1 3 3,sL 16 3 3] : KObj) /\ H'[26]? = some (.cells true 1 [nI 0,nI 2,nI 0] : KObj) /\ H'[0]? = some (.cells false 0 [.bool false,.bool false,.bool false,.bool false,.bool false] : KObj) /\ H'[1]? = some (.cells false 0 [nI 0,nI 0,nI 30,nI 4,nI 40,nI 2] : KObj) /\ H'[16]? = some (.cells true 1 [sL 6 5 5,sL 10 5 5,sL 14 5 5] : KObj) /\ H'[6]? = some (.cells true 1 [nI 0,nI 1,nI 2,nI 3,nI 4] : KObj) /\ H'[10]? = some (.cells true 1 [nI 4,nI 3,nI 2,nI 1,nI 0] : KObj) /\ H'[14]? = some (.cells true 1 [nI 2,nI 1,nI 0,nI 1,nI 2] : KObj) /\ True) -> /-N ⟨⟨rfl,rfl,rfl,rfl,rfl,rfl,rfl,rfl,trivial⟩,fun H' _ h => C83_276827979 [4,26,0,1,16,6,10,14] ⟨⟨_,_,h.1⟩,⟨_,_,h.2.1⟩,⟨_,_,h.2.2.1⟩,⟨_,_,h.2.2.2.1⟩,⟨_,_,h.2.2.2.2.1⟩,⟨_,_,h.2.2.2.2.2.1⟩,⟨_,_,h.2.2.2.2.2.2.1⟩,⟨_,_,h.2.2.2.2.2.2.2.1⟩,trivial⟩,REST⟩-/KCall prog 83 [.pointer (some ⟨4,0,none⟩),sL 26 2 3] H' [] (Is (nI 2) H')) /\ (((someR (.cells true 0 [nI 5,nI 1,sL 0 5 5,nI 10,sL 1 3 3,sL 16 3 3] : KObj)) /\ (someR (.cells true 1 [nI 0,nI 2] : KObj)) /\ (someR (.cells false 0 [.bool false,.bool false,.bool false,.bool false,.bool false] : KObj)) /\ (someR (.cells false 0 [nI 0,nI 0,nI 30,nI 4,nI 40,nI 2] : KObj)) /\ (someR (.cells true 1 [sL 6 5 5,sL 10 5 5,sL 14 5 5] : KObj)) /\ (someR (.cells true 1 [nI 0,nI 1,nI 2,nI 3,nI 4] : KObj)) /\ (someR (.cells true 1 [nI 4,nI 3,nI 2,nI 1,nI 0] : KObj)) /\ (someR (.cells true 1 [nI 2,nI 1,nI 0,nI 1,nI 2] : KObj)) /\ True) /\ (∀ H' : Heap,H'.length = 37 -> (H'[4]? = some (.cells true 0 [nI 5,nI 1,sL 0 5 5,nI 10,sL 1 3 3,sL 16 3 3] : KObj) /\ H'[36]? = some (.cells true 1 [nI 0,nI 2] : KObj) /\ H'[0]? = some (.cells false 0 [.bool false,.bool false,.bool false,.bool false,.bool false] : KObj) /\ H'[1]? = some (.cells false 0 [nI 0,nI 0,nI 30,nI 4,nI 40,nI 2] : KObj) /\ H'[16]? = some (.cells true 1 [sL 6 5 5,sL 10 5 5,sL 14 5 5] : KObj) /\ H'[6]? = some (.cells true 1 [nI 0,nI 1,nI 2,nI 3,nI 4] : KObj) /\ H'[10]? = some (.cells true 1 [nI 4,nI 3,nI 2,nI 1,nI 0] : KObj) /\ H'[14]? = some (.cells true 1 [nI 2,nI 1,nI 0,nI 1,nI 2] : KObj) /\ True) -> /-N ⟨⟨rfl,rfl,rfl,rfl,rfl,rfl,rfl,rfl,trivial⟩,fun H' _ h => C83_671112452 [4,36,0,1,16,6,10,14] ⟨⟨_,_,h.1⟩,⟨_,_,h.2.1⟩,⟨_,_,h.2.2.1⟩,⟨_,_,h.2.2.2.1⟩,⟨_,_,h.2.2.2.2.1⟩,⟨_,_,h.2.2.2.2.2.1⟩,⟨_,_,h.2.2.2.2.2.2.1⟩,⟨_,_,h.2.2.2.2.2.2.2.1⟩,trivial⟩,REST⟩-/KCall prog 83 [.pointer (some ⟨4,0,none⟩),sL 36 2 2] H' [] (Is (nI 2) H')) /\ (true = true /\ wk (.tuple #[sL 38 3 3,nI 0] : Value) (rn (sg 2 [(2,38)]) 3 (.tuple #[sL 2 3 3,nI 0] : Value)) /\ (wkO (.cells true 1 [.bool true,.bool false,.bool true] : KObj) (rno (sg 2 [(2,38)]) 3 (.cells true 1 [.bool true,.bool false,.bool true] : KObj)) /\ True)))))))))
theorem E24_956383489 : vF prog msk (dm 0) 100000 true 40 true 24 [.agg #[nI 5,nI 1,sL 0 5 5,nI 10,sL 1 3 3]] (readsT 0 [[.bool false,.bool false,.bool false,.bool false,.bool false],[nI 0,nI 0,nI 30,nI 4,nI 40,nI 2]]) (some [])
 (.go 8 (.ans [(0,.cells false 0 [.bool false,.bool false,.bool false,.bool false,.bool false]),(1,.cells false 0 [nI 0,nI 0,nI 30,nI 4,nI 40,nI 2])] (nI 0) [] (.go 30 (.ans [(0,.cells false 0 [.bool false,.bool false,.bool false,.bool false,.bool false])] (sL 6 5 5) [.cells true 1 [nI 0,nI 1,nI 2,nI 3,nI 4]] (.into (some [3,4,5,6]) (.go 28 (.ans [(0,.cells false 0 [.bool false,.bool false,.bool false,.bool false,.bool false])] (sL 10 5 5) [.cells true 1 [nI 4,nI 3,nI 2,nI 1,nI 0]] (.into (some (List.range' 3 8)) (.go 28 (.ans [(0,.cells false 0 [.bool false,.bool false,.bool false,.bool false,.bool false])] (sL 14 5 5) [.cells true 1 [nI 2,nI 1,nI 0,nI 1,nI 2]] (.into (some (List.range' 3 12)) (.go 77 (.ans [(4,.cells true 0 [nI 5,nI 1,sL 0 5 5,nI 10,sL 1 3 3,sL 16 3 3]),(23,.cells true 1 [nI 0,nI 1,nI 2]),(0,.cells false 0 [.bool false,.bool false,.bool false,.bool false,.bool false]),(1,.cells false 0 [nI 0,nI 0,nI 30,nI 4,nI 40,nI 2]),(16,.cells true 1 [sL 6 5 5,sL 10 5 5,sL 14 5 5]),(6,.cells true 1 [nI 0,nI 1,nI 2,nI 3,nI 4]),(10,.cells true 1 [nI 4,nI 3,nI 2,nI 1,nI 0]),(14,.cells true 1 [nI 2,nI 1,nI 0,nI 1,nI 2])] (nI 2) [] (.go 24 (.into (some (List.range' 2 25)) (.go 367 (.ans [(4,.cells true 0 [nI 5,nI 1,sL 0 5 5,nI 10,sL 1 3 3,sL 16 3 3]),(26,.cells true 1 [nI 0,nI 2,nI 0]),(0,.cells false 0 [.bool false,.bool false,.bool false,.bool false,.bool false]),(1,.cells false 0 [nI 0,nI 0,nI 30,nI 4,nI 40,nI 2]),(16,.cells true 1 [sL 6 5 5,sL 10 5 5,sL 14 5 5]),(6,.cells true 1 [nI 0,nI 1,nI 2,nI 3,nI 4]),(10,.cells true 1 [nI 4,nI 3,nI 2,nI 1,nI 0]),(14,.cells true 1 [nI 2,nI 1,nI 0,nI 1,nI 2])] (nI 2) [] (.go 30 (.into (some (List.range' 2 30)) (.go 280 (.into (some (List.range' 2 30)) (.go 76 (.into (some (List.range' 2 35)) (.go 257 (.ans [(4,.cells true 0 [nI 5,nI 1,sL 0 5 5,nI 10,sL 1 3 3,sL 16 3 3]),(36,.cells true 1 [nI 0,nI 2]),(0,.cells false 0 [.bool false,.bool false,.bool false,.bool false,.bool false]),(1,.cells false 0 [nI 0,nI 0,nI 30,nI 4,nI 40,nI 2]),(16,.cells true 1 [sL 6 5 5,sL 10 5 5,sL 14 5 5]),(6,.cells true 1 [nI 0,nI 1,nI 2,nI 3,nI 4]),(10,.cells true 1 [nI 4,nI 3,nI 2,nI 1,nI 0]),(14,.cells true 1 [nI 2,nI 1,nI 0,nI 1,nI 2])] (nI 2) [] (.go 19 (.again [(2,38)])))))))))))))))))))))))))))
 (newK (readsT 0 [[.bool false,.bool false,.bool false,.bool false,.bool false],[nI 0,nI 0,nI 30,nI 4,nI 40,nI 2]]).n 3 (.tuple #[sL 2 3 3,nI 0]) [(false,.cells true 1 [.bool true,.bool false,.bool true])]) = R24_956383489:=by kernel_rfl
theorem P24_956383489 : R24_956383489:=⟨⟨rfl,rfl,trivial⟩,fun H' _ h => C41_956383489 [0,1] ⟨⟨_,_,h.1⟩,⟨_,_,h.2.1⟩,trivial⟩,⟨⟨rfl,trivial⟩,fun H' hl h => (by have k:=C114_868361596 (H:=H') [0] ⟨⟨_,_,h.1⟩,trivial⟩; rw [hl] at k; exact k),⟨⟨rfl,trivial⟩,fun H' hl h => (by have k:=C114_16177380 (H:=H') [0] ⟨⟨_,_,h.1⟩,trivial⟩; rw [hl] at k; exact k),⟨⟨rfl,trivial⟩,fun H' hl h => (by have k:=C114_391959661 (H:=H') [0] ⟨⟨_,_,h.1⟩,trivial⟩; rw [hl] at k; exact k),⟨⟨rfl,rfl,rfl,rfl,rfl,rfl,rfl,rfl,trivial⟩,fun H' _ h => C83_733418866 [4,23,0,1,16,6,10,14] ⟨⟨_,_,h.1⟩,⟨_,_,h.2.1⟩,⟨_,_,h.2.2.1⟩,⟨_,_,h.2.2.2.1⟩,⟨_,_,h.2.2.2.2.1⟩,⟨_,_,h.2.2.2.2.2.1⟩,⟨_,_,h.2.2.2.2.2.2.1⟩,⟨_,_,h.2.2.2.2.2.2.2.1⟩,trivial⟩,⟨⟨rfl,rfl,rfl,rfl,rfl,rfl,rfl,rfl,trivial⟩,fun H' _ h => C83_276827979 [4,26,0,1,16,6,10,14] ⟨⟨_,_,h.1⟩,⟨_,_,h.2.1⟩,⟨_,_,h.2.2.1⟩,⟨_,_,h.2.2.2.1⟩,⟨_,_,h.2.2.2.2.1⟩,⟨_,_,h.2.2.2.2.2.1⟩,⟨_,_,h.2.2.2.2.2.2.1⟩,⟨_,_,h.2.2.2.2.2.2.2.1⟩,trivial⟩,⟨⟨rfl,rfl,rfl,rfl,rfl,rfl,rfl,rfl,trivial⟩,fun H' _ h => C83_671112452 [4,36,0,1,16,6,10,14] ⟨⟨_,_,h.1⟩,⟨_,_,h.2.1⟩,⟨_,_,h.2.2.1⟩,⟨_,_,h.2.2.2.1⟩,⟨_,_,h.2.2.2.2.1⟩,⟨_,_,h.2.2.2.2.2.1⟩,⟨_,_,h.2.2.2.2.2.2.1⟩,⟨_,_,h.2.2.2.2.2.2.2.1⟩,trivial⟩,⟨rfl,wk_of_eq rfl,wkO_of_eq rfl,trivial⟩⟩⟩⟩⟩⟩⟩⟩
theorem C24_956383489 {H : Heap} (ids : List Nat) (h : InsA H (sgR 0 ids) ids [[.bool false,.bool false,.bool false,.bool false,.bool false],[nI 0,nI 0,nI 30,nI 4,nI 40,nI 2]]) : KCall prog 24 (([.agg #[nI 5,nI 1,sL 0 5 5,nI 10,sL 1 3 3]] : List Value).map (rn (sgR 0 ids) 3)) H [] (Is (rn (sgUp 2 H.length) 3 (.tuple #[sL 2 3 3,nI 0])) (H ++ [rno (sgUp 2 H.length) 3 (.cells true 1 [.bool true,.bool false,.bool true])])) :=
 valNA (css:=[[.bool false,.bool false,.bool false,.bool false,.bool false],[nI 0,nI 0,nI 30,nI 4,nI 40,nI 2]]) (v:=.tuple #[sL 2 3 3,nI 0]) (new:=[(false,.cells true 1 [.bool true,.bool false,.bool true])]) (Eq.mpr E24_956383489 P24_956383489) rfl rfl rfl rfl ids h.len h.get
end
end Go.Proofs.YtbgfjemppjhmjaaGreat
/- Closed calls of the chapter's examples. Printed by a program. No condition. -/
namespace Go.Proofs.YtbgfjemppjhmjaaGreat
set_option linter.unusedSimpArgs false
open Go Go.K
set_option maxRecDepth 1000000
set_option maxHeartbeats 4000000
set_option linter.unusedVariables false
noncomputable section
attribute [local irreducible] vF
def R18_377635839 : Prop :=
 (((someR (.cells false 0 [.bool false,.bool false,.bool false,.bool false,.bool false] : KObj)) /\ (someR (.cells false 0 [nI 0,nI 0,nI 40,nI 2] : KObj)) /\ True) /\ (∀ H' : Heap,H'.length = 5 -> (H'[0]? = some (.cells false 0 [.bool false,.bool false,.bool false,.bool false,.bool false] : KObj) /\ H'[1]? = some (.cells false 0 [nI 0,nI 0,nI 40,nI 2] : KObj) /\ True) -> /-N ⟨⟨rfl,rfl,trivial⟩,fun H' _ h => C41_417788160 [0,1] ⟨⟨_,_,h.1⟩,⟨_,_,h.2.1⟩,trivial⟩,REST⟩-/KCall prog 41 [.agg #[nI 5,nI 1,sL 0 5 5,nI 10,sL 1 2 2]] H' [] (Is (nI 0) H')) /\ (((someR (.cells false 0 [.bool false,.bool false,.bool false,.bool false,.bool false] : KObj)) /\ True) /\ (∀ H' : Heap,H'.length = 7 -> (H'[0]? = some (.cells false 0 [.bool false,.bool false,.bool false,.bool false,.bool false] : KObj) /\ True) -> /-N ⟨⟨rfl,trivial⟩,fun H' hl h => (by have k:=C114_868361596 (H:=H') [0] ⟨⟨_,_,h.1⟩,trivial⟩; rw [hl] at k; exact k),REST⟩-/KCall prog 114 [.agg #[nI 5,nI 1,sL 0 5 5],nI 0] H' [] (Is (sL 7 5 5) (H' ++ [(.cells true 1 [nI 0,nI 1,nI 2,nI 3,nI 4] : KObj)]))) /\ (((someR (.cells false 0 [.bool false,.bool false,.bool false,.bool false,.bool false] : KObj)) /\ True) /\ (∀ H' : Heap,H'.length = 11 -> (H'[0]? = some (.cells false 0 [.bool false,.bool false,.bool false,.bool false,.bool false] : KObj) /\ True) -> /-N ⟨⟨rfl,trivial⟩,fun H' hl h => (by have k:=C114_391959661 (H:=H') [0] ⟨⟨_,_,h.1⟩,trivial⟩; rw [hl] at k; exact k),REST⟩-/KCall prog 114 [.agg #[nI 5,nI 1,sL 0 5 5],nI 2] H' [] (Is (sL 11 5 5) (H' ++ [(.cells true 1 [nI 2,nI 1,nI 0,nI 1,nI 2] : KObj)]))) /\ (true = true /\ wk (.tuple #[sL 33 2 2,nI 0] : Value) (rn (sg 2 [(2,33)]) 3 (.tuple #[sL 2 2 2,nI 0] : Value)) /\ (wkO (.cells true 1 [nI 1,nI 2] : KObj) (rno (sg 2 [(2,33)]) 3 (.cells true 1 [nI 1,nI 2] : KObj)) /\ True)))))
theorem E18_377635839 : vF prog msk (dm 0) 100000 true 40 true 18 [.agg #[nI 5,nI 1,sL 0 5 5,nI 10,sL 1 2 2],nI 25] (readsT 0 [[.bool false,.bool false,.bool false,.bool false,.bool false],[nI 0,nI 0,nI 40,nI 2]]) (some [])
 (.go 9 (.ans [(0,.cells false 0 [.bool false,.bool false,.bool false,.bool false,.bool false]),(1,.cells false 0 [nI 0,nI 0,nI 40,nI 2])] (nI 0) [] (.go 30 (.ans [(0,.cells false 0 [.bool false,.bool false,.bool false,.bool false,.bool false])] (sL 7 5 5) [.cells true 1 [nI 0,nI 1,nI 2,nI 3,nI 4]] (.into (some [4,5,6,7]) (.go 28 (.ans [(0,.cells false 0 [.bool false,.bool false,.bool false,.bool false,.bool false])] (sL 11 5 5) [.cells true 1 [nI 2,nI 1,nI 0,nI 1,nI 2]] (.into (some (List.range' 4 8)) (.go 1310 (.again [(2,33)]))))))))))
 (newK (readsT 0 [[.bool false,.bool false,.bool false,.bool false,.bool false],[nI 0,nI 0,nI 40,nI 2]]).n 3 (.tuple #[sL 2 2 2,nI 0]) [(false,.cells true 1 [nI 1,nI 2])]) = R18_377635839:=by kernel_rfl
theorem P18_377635839 : R18_377635839:=⟨⟨rfl,rfl,trivial⟩,fun H' _ h => C41_417788160 [0,1] ⟨⟨_,_,h.1⟩,⟨_,_,h.2.1⟩,trivial⟩,⟨⟨rfl,trivial⟩,fun H' hl h => (by have k:=C114_868361596 (H:=H') [0] ⟨⟨_,_,h.1⟩,trivial⟩; rw [hl] at k; exact k),⟨⟨rfl,trivial⟩,fun H' hl h => (by have k:=C114_391959661 (H:=H') [0] ⟨⟨_,_,h.1⟩,trivial⟩; rw [hl] at k; exact k),⟨rfl,wk_of_eq rfl,wkO_of_eq rfl,trivial⟩⟩⟩⟩
theorem C18_377635839 {H : Heap} (ids : List Nat) (h : InsA H (sgR 0 ids) ids [[.bool false,.bool false,.bool false,.bool false,.bool false],[nI 0,nI 0,nI 40,nI 2]]) : KCall prog 18 (([.agg #[nI 5,nI 1,sL 0 5 5,nI 10,sL 1 2 2],nI 25] : List Value).map (rn (sgR 0 ids) 3)) H [] (Is (rn (sgUp 2 H.length) 3 (.tuple #[sL 2 2 2,nI 0])) (H ++ [rno (sgUp 2 H.length) 3 (.cells true 1 [nI 1,nI 2])])) :=
 valNA (css:=[[.bool false,.bool false,.bool false,.bool false,.bool false],[nI 0,nI 0,nI 40,nI 2]]) (v:=.tuple #[sL 2 2 2,nI 0]) (new:=[(false,.cells true 1 [nI 1,nI 2])]) (Eq.mpr E18_377635839 P18_377635839) rfl rfl rfl rfl ids h.len h.get
def R19_643444466 : Prop :=
 (((someR (.cells false 0 [.bool false,.bool false,.bool false,.bool false,.bool false] : KObj)) /\ (someR (.cells false 0 [nI 0,nI 0,nI 40,nI 2] : KObj)) /\ True) /\ (∀ H' : Heap,H'.length = 4 -> (H'[0]? = some (.cells false 0 [.bool false,.bool false,.bool false,.bool false,.bool false] : KObj) /\ H'[1]? = some (.cells false 0 [nI 0,nI 0,nI 40,nI 2] : KObj) /\ True) -> /-N ⟨⟨rfl,rfl,trivial⟩,fun H' _ h => C41_417788160 [0,1] ⟨⟨_,_,h.1⟩,⟨_,_,h.2.1⟩,trivial⟩,REST⟩-/KCall prog 41 [.agg #[nI 5,nI 1,sL 0 5 5,nI 10,sL 1 2 2]] H' [] (Is (nI 0) H')) /\ (((someR (.cells false 0 [.bool false,.bool false,.bool false,.bool false,.bool false] : KObj)) /\ True) /\ (∀ H' : Heap,H'.length = 6 -> (H'[0]? = some (.cells false 0 [.bool false,.bool false,.bool false,.bool false,.bool false] : KObj) /\ True) -> /-N ⟨⟨rfl,trivial⟩,fun H' hl h => (by have k:=C114_868361596 (H:=H') [0] ⟨⟨_,_,h.1⟩,trivial⟩; rw [hl] at k; exact k),REST⟩-/KCall prog 114 [.agg #[nI 5,nI 1,sL 0 5 5],nI 0] H' [] (Is (sL 6 5 5) (H' ++ [(.cells true 1 [nI 0,nI 1,nI 2,nI 3,nI 4] : KObj)]))) /\ (((someR (.cells false 0 [.bool false,.bool false,.bool false,.bool false,.bool false] : KObj)) /\ True) /\ (∀ H' : Heap,H'.length = 10 -> (H'[0]? = some (.cells false 0 [.bool false,.bool false,.bool false,.bool false,.bool false] : KObj) /\ True) -> /-N ⟨⟨rfl,trivial⟩,fun H' hl h => (by have k:=C114_391959661 (H:=H') [0] ⟨⟨_,_,h.1⟩,trivial⟩; rw [hl] at k; exact k),REST⟩-/KCall prog 114 [.agg #[nI 5,nI 1,sL 0 5 5],nI 2] H' [] (Is (sL 10 5 5) (H' ++ [(.cells true 1 [nI 2,nI 1,nI 0,nI 1,nI 2] : KObj)]))) /\ (true = true /\ wk (.tuple #[sL 24 1 1,nI 0] : Value) (rn (sg 2 [(2,24)]) 3 (.tuple #[sL 2 1 1,nI 0] : Value)) /\ (wkO (.cells true 2 [nI 10,nI 30] : KObj) (rno (sg 2 [(2,24)]) 3 (.cells true 2 [nI 10,nI 30] : KObj)) /\ True)))))
theorem E19_643444466 : vF prog msk (dm 0) 100000 true 40 true 19 [.agg #[nI 5,nI 1,sL 0 5 5,nI 10,sL 1 2 2],nI 1] (readsT 0 [[.bool false,.bool false,.bool false,.bool false,.bool false],[nI 0,nI 0,nI 40,nI 2]]) (some [])
 (.go 8 (.ans [(0,.cells false 0 [.bool false,.bool false,.bool false,.bool false,.bool false]),(1,.cells false 0 [nI 0,nI 0,nI 40,nI 2])] (nI 0) [] (.go 30 (.ans [(0,.cells false 0 [.bool false,.bool false,.bool false,.bool false,.bool false])] (sL 6 5 5) [.cells true 1 [nI 0,nI 1,nI 2,nI 3,nI 4]] (.into (some [3,4,5,6]) (.go 28 (.ans [(0,.cells false 0 [.bool false,.bool false,.bool false,.bool false,.bool false])] (sL 10 5 5) [.cells true 1 [nI 2,nI 1,nI 0,nI 1,nI 2]] (.into (some (List.range' 3 8)) (.go 372 (.into (some (List.range' 2 17)) (.go 29 (.into (some (List.range' 2 17)) (.go 12 (.into (some (List.range' 2 17)) (.go 155 (.again [(2,24)]))))))))))))))))
 (newK (readsT 0 [[.bool false,.bool false,.bool false,.bool false,.bool false],[nI 0,nI 0,nI 40,nI 2]]).n 3 (.tuple #[sL 2 1 1,nI 0]) [(false,.cells true 2 [nI 10,nI 30])]) = R19_643444466:=by kernel_rfl
theorem P19_643444466 : R19_643444466:=⟨⟨rfl,rfl,trivial⟩,fun H' _ h => C41_417788160 [0,1] ⟨⟨_,_,h.1⟩,⟨_,_,h.2.1⟩,trivial⟩,⟨⟨rfl,trivial⟩,fun H' hl h => (by have k:=C114_868361596 (H:=H') [0] ⟨⟨_,_,h.1⟩,trivial⟩; rw [hl] at k; exact k),⟨⟨rfl,trivial⟩,fun H' hl h => (by have k:=C114_391959661 (H:=H') [0] ⟨⟨_,_,h.1⟩,trivial⟩; rw [hl] at k; exact k),⟨rfl,wk_of_eq rfl,wkO_of_eq rfl,trivial⟩⟩⟩⟩
theorem C19_643444466 {H : Heap} (ids : List Nat) (h : InsA H (sgR 0 ids) ids [[.bool false,.bool false,.bool false,.bool false,.bool false],[nI 0,nI 0,nI 40,nI 2]]) : KCall prog 19 (([.agg #[nI 5,nI 1,sL 0 5 5,nI 10,sL 1 2 2],nI 1] : List Value).map (rn (sgR 0 ids) 3)) H [] (Is (rn (sgUp 2 H.length) 3 (.tuple #[sL 2 1 1,nI 0])) (H ++ [rno (sgUp 2 H.length) 3 (.cells true 2 [nI 10,nI 30])])) :=
 valNA (css:=[[.bool false,.bool false,.bool false,.bool false,.bool false],[nI 0,nI 0,nI 40,nI 2]]) (v:=.tuple #[sL 2 1 1,nI 0]) (new:=[(false,.cells true 2 [nI 10,nI 30])]) (Eq.mpr E19_643444466 P19_643444466) rfl rfl rfl rfl ids h.len h.get
end
end Go.Proofs.YtbgfjemppjhmjaaGreat
/- Radio: the examples of the chapter (awake). No condition. -/
namespace Go.Proofs.YtbgfjemppjhmjaaGreat
open Go Go.K
set_option maxRecDepth 100000
set_option linter.unusedVariables false
set_option linter.unusedSimpArgs false
noncomputable section
attribute [local irreducible] vF
theorem hvAwake : Rawake (.bool true) := by
 unfold Rawake
 refine ⟨trivial, fun H' hl h => ?_, ⟨rfl, rfl, trivial⟩, fun H' hl h => ?_, ⟨rfl, rfl, trivial⟩, fun H' hl h => ?_, ⟨rfl, rfl, trivial⟩, fun H' hl h => ?_, ⟨rfl, rfl, trivial⟩, fun H' hl h => ?_, ⟨rfl, rfl, trivial⟩, fun H' hl h => ?_, ⟨rfl, rfl, trivial⟩, fun H' hl h => ?_, ⟨rfl, rfl, trivial⟩, fun H' hl h => ?_, ⟨rfl, rfl, trivial⟩, fun H' hl h => ?_, ⟨rfl, rfl, trivial⟩, fun H' hl h => ?_, rfl⟩
 ·have := kNew H'
  rw [hl] at this; exact this
 ·have := kAdd [] mA h.1 h.2.1
  rw [show addL [] mA = [mA] by decide, show addB [] mA = true by decide, show addErr [] mA = 0 by decide] at this; exact this
 ·have := kAdd [mA] mB h.1 h.2.1
  rw [show addL [mA] mB = [mA, mB] by decide, show addB [mA] mB = true by decide, show addErr [mA] mB = 0 by decide] at this; exact this
 ·have := kLive okAB (by decide) (H := H') (by decide) h.1 h.2.1
  rw [hl, liveAB] at this; exact this
 ·have := kGaps (a := 1) okAB (by decide) (by decide) (by decide) (H := H') (by decide) h.1 h.2.1
  rw [hl, gapsAB] at this; exact this
 ·have := kAdd [mA, mB] mC h.1 h.2.1
  rw [show addL [mA, mB] mC = [mA, mB, mC] by decide, show addB [mA, mB] mC = true by decide, show addErr [mA, mB] mC = 0 by decide] at this; exact this
 ·have := kLive okABC (by decide) (H := H') (by decide) h.1 h.2.1
  rw [hl, liveABC] at this; exact this
 ·have k := C24_956383489 (H := H') [15, 21] ⟨⟨_, _, h.1⟩, ⟨_, _, h.2.1⟩, trivial⟩
  rw [hl] at k; exact k
 ·have k := C18_377635839 (H := H') [15, 25] ⟨⟨_, _, h.1⟩, ⟨_, _, h.2.1⟩, trivial⟩
  rw [hl] at k; exact k
 ·have k := C19_643444466 (H := H') [15, 25] ⟨⟨_, _, h.1⟩, ⟨_, _, h.2.1⟩, trivial⟩
  rw [hl] at k; exact k
theorem kAwake (H : Heap) : KCall prog 14 [] H [] (Is (.bool true) H) :=
 valB (v := .bool true) (css := []) (ids := []) (Eq.mpr (Eawake _) hvAwake) (hv := rfl) (hi := trivial) (ha := rfl)
end
end Go.Proofs.YtbgfjemppjhmjaaGreat
/- What is to be shown of functions. Printed by a program. No condition. -/
namespace Go.Proofs.YtbgfjemppjhmjaaGreat
set_option linter.unusedSimpArgs false
open Go Go.K
set_option maxRecDepth 100000
set_option maxHeartbeats 4000000
set_option linter.unusedVariables false
noncomputable section
def RPick (sp : Value) (x n : Int) : Prop :=
 (((decide ((n : Int) < 1)) = true -> (.int .i64 0 : Value) = sp) /\ ((decide ((n : Int) < 1)) = false -> (((n : Int) ≠ 0) /\ (((decide (((Int.tmod x n) : Int) < 0)) = true -> ((.int .i64 (IntKind.wrap .i64 ((Int.tmod x n) + n)) : Value) = .int .i64 ((Int.tmod x n) + n) /\ (.int .i64 ((Int.tmod x n) + n) : Value) = sp)) /\ ((decide (((Int.tmod x n) : Int) < 0)) = false -> (.int .i64 (Int.tmod x n) : Value) = sp)))))
theorem EPick (sp : Value) (x n : Int) : vF prog msk (dm 0) 100000 true 40 true 16 [.int .i64 x, .int .i64 n] ⟨0, .leaf⟩ (some [])
 (.go 2 (.fork (.auto) (.go 1 (.need (.go 2 (.fork (.go 2 (.slot 15 (.int .i64 ((Int.tmod x n) + n)) (.auto))) (.auto)))))))
 (fun v _ _ => v = sp) = RPick sp x n := by kernel_rfl
def RNext (L : List Int) (n m : Int) : Prop :=
 (((decide ((0 : Int) < (((List.length L) : Nat) : Int))) = true -> ((((((List.length L) : Nat) : Int) : Int) ≠ 0) /\ (((0 : Int) <= (Int.tmod n (((List.length L) : Nat) : Int)) /\ ((Int.tmod n (((List.length L) : Nat) : Int)) : Int) < (((List.length L) : Nat) : Int)) /\ (((List.flatMap intC L)[(Int.toNat (Int.tmod n (((List.length L) : Nat) : Int)) * 1)]? = some (.int .i64 (List.getD L (Int.toNat (Int.tmod n (((List.length L) : Nat) : Int))) 0))) /\ ((((((List.length L) : Nat) : Int) : Int) ≠ 0) /\ (∃ y0 : Int, (.int .i64 (IntKind.wrap .i64 (Int.tdiv n (((List.length L) : Nat) : Int))) : Value) = .int .i64 y0 /\ (∃ y1 : Int, (.int .i64 (IntKind.wrap .i64 ((List.getD L (Int.toNat (Int.tmod n (((List.length L) : Nat) : Int))) 0) + y0)) : Value) = .int .i64 y1 /\ ((True) /\ (∀ H' : Heap, H'.length = 1 -> (True) -> KCall prog 16 [.int .i64 y1, .int .i64 m] H' [] (Is (.int .i64 (y1 % m)) H')) /\ (true = true /\ wk (.int .i64 (y1 % m) : Value) (rn (sg 1 []) 3 (.int .i64 (dN L n m) : Value)) /\ ((some (.cells true 0 [.iface ((List.length L) + 1) (.agg ⟨(List.flatMap intC L)⟩), .int .i64 (IntKind.wrap .i64 (n + 1))] : KObj) = some (.cells true 0 [.iface ((List.length L) + 1) (.agg ⟨(List.flatMap intC L)⟩), .int .i64 (n + 1)] : KObj) /\ belowO 1 (.cells true 0 [.iface ((List.length L) + 1) (.agg ⟨(List.flatMap intC L)⟩), .int .i64 (n + 1)] : KObj) = true) /\ True) /\ (True)))))))))) /\ ((decide ((0 : Int) < (((List.length L) : Nat) : Int))) = false -> ((True) /\ (∀ H' : Heap, H'.length = 1 -> (True) -> KCall prog 16 [.int .i64 0, .int .i64 m] H' [] (Is (.int .i64 (0 % m)) H')) /\ (true = true /\ wk (.int .i64 (0 % m) : Value) (rn (sg 1 []) 3 (.int .i64 (dN L n m) : Value)) /\ ((some (.cells true 0 [.iface ((List.length L) + 1) (.agg ⟨(List.flatMap intC L)⟩), .int .i64 (IntKind.wrap .i64 (n + 1))] : KObj) = some (.cells true 0 [.iface ((List.length L) + 1) (.agg ⟨(List.flatMap intC L)⟩), .int .i64 (n + 1)] : KObj) /\ belowO 1 (.cells true 0 [.iface ((List.length L) + 1) (.agg ⟨(List.flatMap intC L)⟩), .int .i64 (n + 1)] : KObj) = true) /\ True) /\ (True)))))
theorem ENext (L : List Int) (n m : Int) : vF prog msk (dm 0) 100000 true 40 true 27 [.pointer (some ⟨0, 0, none⟩), .int .i64 m] (readsW 0 0 (digC L n) []) (some [0])
 (.go 7 (.fork (.go 12 (.need (.need (.val (.int .i64 (List.getD L (Int.toNat (Int.tmod n (((List.length L) : Nat) : Int))) 0)) (.go 8 (.need (.bind Int (fun y0 => .slot 37 (.int .i64 y0) (.go 0 (.bind Int (fun y1 => .slot 38 (.int .i64 y1) (.go 10 (.ans [] (.int .i64 (y1 % m)) [] (.go 0 (.keep (.again [])))))))))))))))) (.go 9 (.ans [] (.int .i64 (0 % m)) [] (.go 0 (.keep (.again [])))))))
 (newKW ((readsW 0 0 (digC L n) []) : HT).n 3 0 (.cells true 0 [.iface ((List.length L) + 1) (.agg ⟨(List.flatMap intC L)⟩), .int .i64 (n + 1)]) (.int .i64 (dN L n m)) []) = RNext L n m := by kernel_rfl
end
end Go.Proofs.YtbgfjemppjhmjaaGreat
/- Radio: numbers. No condition. -/
namespace Go.Proofs.YtbgfjemppjhmjaaGreat
open Go Go.K
set_option maxRecDepth 100000
set_option linter.unusedVariables false
set_option linter.unusedSimpArgs false
noncomputable section
attribute [local irreducible] vF
theorem tmod_emod {x n : Int} (hn : 1 <= n) : (Int.tmod x n < 0 -> Int.tmod x n + n = x % n) /\ (¬ Int.tmod x n < 0 -> Int.tmod x n = x % n) /\ -n < Int.tmod x n /\ Int.tmod x n < n := by
 have h1 := Int.mul_tdiv_add_tmod x n
 have h2 := Int.lt_tmod_of_pos x (by omega : 0 < n)
 have h3 := Int.tmod_lt_of_pos x (by omega : 0 < n)
 refine ⟨fun h => ?_, fun h => ?_, h2, h3⟩
 ·have : x = (Int.tmod x n + n) + n * (x.tdiv n - 1) := by rw [Int.mul_sub]; omega
  rw [this, Int.add_mul_emod_self_left, <- this]
  exact (Int.emod_eq_of_lt (by omega) (by omega)).symm
 ·have : x = Int.tmod x n + n * x.tdiv n := by omega
  conv => rhs; rw [this, Int.add_mul_emod_self_left]
  exact (Int.emod_eq_of_lt (by omega) (by omega)).symm
theorem kPick (x n : Int) (h1 : 1 <= n) (h2 : n <= 9223372036854775807) (H : Heap) : KCall prog 16 [.int .i64 x, .int .i64 n] H [] (Is (.int .i64 (x % n)) H) := by
 refine valK 40 (fun _ => rfl) rfl (Eq.mpr (EPick _ x n) ?_) H
 obtain ⟨t1, t2, t3, t4⟩ := tmod_emod (x := x) h1
 unfold RPick
 exact forkD (fun h => by omega) (fun _ => ⟨by omega, forkD (fun h => ⟨vI64 (by omega), iEq (t1 h)⟩) (fun h => iEq (t2 h))⟩)
theorem plainDig (m : Nat) (L : List Int) (n : Int) : (digC L n).all (belowC m) = true := by
 show ((L.flatMap intC).all (belowD m) && (true && true)) = true
 rw [all_belowD]; rfl
theorem digO (m : Nat) (L : List Int) (n : Int) : belowO m (.cells true 0 (digC L n)) = true := plainDig m L n
theorem tmod_len {L : List Int} {n : Int} (hn : 0 <= n) (hL : 0 < L.length) : 0 <= Int.tmod n ((L.length : Nat) : Int) /\ Int.tmod n ((L.length : Nat) : Int) < ((L.length : Nat) : Int) := by
 rw [Int.tmod_eq_emod_of_nonneg hn]
 exact ⟨Int.emod_nonneg _ (by omega), Int.emod_lt_of_pos _ (by omega)⟩
theorem kNext (L : List Int) (n m : Int) (hn : 0 <= n /\ n <= 1000000000) (hm : 1 <= m /\ m <= 1000000000) {H : Heap} {D : Nat} (hD : H[D]? = some (.cells true 0 (digC L n))) :
  KCall prog 27 [.pointer (some ⟨D, 0, none⟩), .int .i64 m] H [D] (Is (.int .i64 (dN L n m)) (H.set D (.cells true 0 (digC L (n + 1))))) := by
 have key : KCall prog 27 [.pointer (some ⟨D, 0, none⟩), .int .i64 m] H [D] (Is (.int .i64 (dN L n m)) (H.set D (.cells true 0 (digC L (n + 1))) ++ [])) := by
  refine valW (fun _ => .int .i64 (dN L n m)) (css := []) (new := []) (Eq.mpr (ENext L n m) ?_) (plainDig 0 L n) (plainDig 0 L (n + 1)) trivial trivial rfl rfl (fun _ => rfl) hD (ids := []) trivial (by simp) rfl
  unfold RNext
  have hw : IntKind.wrap .i64 (n + 1) = n + 1 := wI64 (by omega)
  refine forkD (fun k => ?_) (fun k => ?_)
  ·have hL : 0 < L.length := by omega
   have hd : dVal L n = IntKind.wrap .i64 (L.getD (Int.toNat (Int.tmod n ((L.length : Nat) : Int))) 0 + IntKind.wrap .i64 (Int.tdiv n ((L.length : Nat) : Int))) := if_pos hL
   have hb := tmod_len hn.1 hL
   refine ⟨by omega, hb, intAt (by omega) (by omega), by omega, _, rfl, _, rfl, trivial, fun H' _ _ => kPick _ _ (by omega) (by omega) H', rfl, ?_, ⟨⟨by rw [hw], digO _ _ _⟩, trivial⟩, trivial⟩
   unfold dN
   rw [hd]; exact wk_refl _
  ·have hd : dVal L n = 0 := if_neg (by omega)
   refine ⟨trivial, fun H' _ _ => kPick _ _ (by omega) (by omega) H', rfl, ?_, ⟨⟨by rw [hw], digO _ _ _⟩, trivial⟩, trivial⟩
   unfold dN
   rw [hd]; exact wk_refl _
 rw [List.append_nil] at key
 exact key
end
end Go.Proofs.YtbgfjemppjhmjaaGreat
/- Radio: distances over the sea. No condition. -/
namespace Go.Proofs.YtbgfjemppjhmjaaGreat
set_option linter.unusedSimpArgs false
open Go Go.K
set_option linter.unusedVariables false
noncomputable section
def farI : Int := 1073741824
def errBas (w h : Int) (n : Nat) : Int := if (1 <= w /\ w <= 64) /\ (1 <= h /\ h <= 64) /\ w * h <= 1024 then (if (n : Int) = w * h then 0 else 1) else 6
structure BasOk (w h : Int) (n : Nat) : Prop where
 w1 : 1 <= w /\ w <= 64
 h1 : 1 <= h /\ h <= 64
 p1 : w * h <= 1024
 n1 : (n : Int) = w * h
theorem basOk {w h : Int} {n : Nat} (e : errBas w h n = 0) : BasOk w h n := by
 unfold errBas at e
 split at e
 ·rename_i q
  split at e
  ·rename_i q2; exact ⟨q.1, q.2.1, q.2.2, q2⟩
  ·cases e
 ·cases e
def seaB (a : List Bool) (c : Int) : Bool := decide (0 <= c) && decide (c <= ((a.length : Nat) : Int) - 1) && !a.getD (Int.toNat c) false
def bdx : Nat -> Int := fun j => [0, -1, 1, 0].getD j 0
def bdy : Nat -> Int := fun j => [-1, 0, 0, 1].getD j 0
def nbU (w i : Int) (j : Nat) : Int := Int.tmod i w + bdx j
def nbV (w i : Int) (j : Nat) : Int := Int.tdiv i w + bdy j
def nbT (w i : Int) (j : Nat) : Int := nbV w i j * w + nbU w i j
def nbOk (w h : Int) (a : List Bool) (i : Int) (j : Nat) : Prop := ((0 <= nbU w i j /\ nbU w i j <= w - 1) /\ 0 <= nbV w i j /\ nbV w i j <= h - 1) /\ a.getD (Int.toNat (nbT w i j)) false = false
theorem bd_bd {j : Nat} (hj : j < 4) : (-1 <= bdx j /\ bdx j <= 1) /\ -1 <= bdy j /\ bdy j <= 1 := by
 match j, hj with
 | 0, _ => decide
 | 1, _ => decide
 | 2, _ => decide
 | 3, _ => decide
theorem divm {w h : Int} {n : Nat} (b : BasOk w h n) {i : Int} (hi : 0 <= i /\ i < (n : Int)) : (0 <= Int.tmod i w /\ Int.tmod i w <= w - 1) /\ (0 <= Int.tdiv i w /\ Int.tdiv i w <= h - 1) /\ Int.tdiv i w * w + Int.tmod i w = i := by
 have hw := b.w1
 have h1 := Int.mul_tdiv_add_tmod i w
 rw [Int.tmod_eq_emod_of_nonneg hi.1, Int.tdiv_eq_ediv_of_nonneg hi.1] at *
 have h2 := Int.emod_nonneg i (b := w) (by omega)
 have h3 := Int.emod_lt_of_pos i (b := w) (by omega)
 have h4 := Int.ediv_nonneg hi.1 (by omega : 0 <= w)
 have h5 : i / w < h := by
  rw [Int.ediv_lt_iff_lt_mul (by omega)]
  rw [Int.mul_comm, <- b.n1]; exact hi.2
 exact ⟨by omega, by omega, by rw [Int.mul_comm]; exact h1⟩
theorem nb_in {w h : Int} {n : Nat} (b : BasOk w h n) {u v : Int} (hu : 0 <= u /\ u <= w - 1) (hv : 0 <= v /\ v <= h - 1) : 0 <= v * w + u /\ v * w + u < (n : Int) := by
 have hw := b.w1
 have h1 : 0 <= v * w := Int.mul_nonneg hv.1 (by omega)
 have h2 : v * w <= (h - 1) * w := Int.mul_le_mul_of_nonneg_right hv.2 (by omega)
 have h3 : (h - 1) * w = w * h - w := by rw [Int.sub_mul, Int.mul_comm h w]; omega
 have := b.n1
 omega
inductive Wy (w h : Int) (a : List Bool) (f : Int) : Nat -> Int -> Prop
 | base : Wy w h a f 0 f
 | step {n : Nat} {i : Int} (j : Nat) (hj : j < 4) (hw : Wy w h a f n i) (hb : nbOk w h a i j) : Wy w h a f (n + 1) (nbT w i j)
def Lst (w h : Int) (a : List Bool) (f c : Int) (n : Nat) : Prop := Wy w h a f n c /\ ∀ m, Wy w h a f m c -> n <= m
open Classical in
def dstI (w h : Int) (a : List Bool) (f c : Int) : Int := if q : ∃ n, Lst w h a f c n then ((Classical.choose q : Nat) : Int) else farI
theorem dst_is {w h : Int} {a : List Bool} {f c : Int} {n : Nat} (q : Lst w h a f c n) : dstI w h a f c = n := by
 have e : ∃ n, Lst w h a f c n := ⟨n, q⟩
 unfold dstI
 rw [dif_pos e]
 have := Classical.choose_spec e
 have h1 := this.2 n q.1
 have h2 := q.2 _ this.1
 omega
theorem dst_far {w h : Int} {a : List Bool} {f c : Int} (q : ∀ n, ¬ Wy w h a f n c) : dstI w h a f c = farI := by
 unfold dstI
 rw [dif_neg]
 rintro ⟨n, hn⟩
 exact q n hn.1
def dstL (w h : Int) (a : List Bool) (f : Int) : List Int := tabP (fun c : Nat => dstI w h a f (c : Int)) a.length
def gO (O : List Int) (i : Int) : Int := O.getD (Int.toNat i) 0
def fnd (O : List Int) : Nat := O.countP fun v => decide (v ≠ farI)
def unf (O : List Int) : Nat := O.countP fun v => decide (v = farI)
def measD (Q : List Int) (O : List Int) : Nat := 2 * unf O + Q.length
theorem fnd_unf (O : List Int) : fnd O + unf O = O.length := by
 unfold fnd unf
 have h := List.length_eq_countP_add_countP (p := fun v : Int => decide (v = farI)) (l := O)
 have e : (fun v : Int => decide (v ≠ farI)) = fun v => decide ¬ (decide (v = farI) = true) := by funext v; simp
 rw [e]; omega
theorem countP_set (p : Int -> Bool) (O : List Int) (k : Nat) (v : Int) (hk : k < O.length) : (O.set k v).countP p + (if p (O.getD k 0) = true then 1 else 0) = O.countP p + (if p v = true then 1 else 0) := by
 induction O generalizing k with
 | nil => cases hk
 | cons a O ih =>
  cases k with
  | zero => simp [List.countP_cons]; omega
  | succ k =>
   have := ih k (by simpa using hk)
   simp only [List.set_cons_succ, List.countP_cons, List.getD_cons_succ]
   omega
theorem set_cnt {O : List Int} {k : Nat} {v : Int} (hk : k < O.length) (h0 : O.getD k 0 = farI) (hv : v ≠ farI) : fnd (O.set k v) = fnd O + 1 /\ unf (O.set k v) + 1 = unf O := by
 have h1 := countP_set (fun v => decide (v ≠ farI)) O k v hk
 have h2 := countP_set (fun v => decide (v = farI)) O k v hk
 simp only [h0, ne_eq, not_true_eq_false, decide_false, Bool.false_eq_true, if_false, hv, not_false_eq_true, decide_true, if_true] at h1 h2
 unfold fnd unf
 simp only [ne_eq] at h1 h2 ⊢
 omega
theorem gO_set {O : List Int} {k c : Nat} {v : Int} (hk : k < O.length) : (O.set k v).getD c 0 = if c = k then v else O.getD c 0 := by
 rw [List.getD_eq_getElem?_getD, List.getElem?_set]
 by_cases e : k = c
 ·rw [if_pos e, if_pos hk, if_pos e.symm]; rfl
 ·rw [if_neg e, if_neg fun q => e q.symm, List.getD_eq_getElem?_getD]
structure BfD (w h : Int) (a : List Bool) (f : Int) (Q O : List Int) : Prop where
 len : O.length = a.length
 f0 : gO O f = 0
 bd : ∀ c : Nat, c < a.length -> O.getD c 0 ≠ farI -> 0 <= O.getD c 0 /\ Wy w h a f (Int.toNat (O.getD c 0)) (c : Int)
 cnt : ∀ c : Nat, c < a.length -> O.getD c 0 ≠ farI -> O.getD c 0 < (fnd O : Int)
 q : ∀ i ∈ Q, (0 <= i /\ i < (a.length : Int)) /\ gO O i ≠ farI
 srt : Q.Pairwise fun i k => gO O i <= gO O k
 top : ∀ i, Q.head? = some i -> ∀ c : Nat, c < a.length -> O.getD c 0 ≠ farI -> O.getD c 0 <= gO O i + 1
 done : ∀ c : Nat, c < a.length -> O.getD c 0 ≠ farI -> (c : Int) ∈ Q ∨ ∀ j, j < 4 -> nbOk w h a (c : Int) j -> gO O (nbT w (c : Int) j) ≠ farI /\ gO O (nbT w (c : Int) j) <= O.getD c 0 + 1
 sz : Q.length + unf O <= a.length
structure BfJ (w h : Int) (a : List Bool) (f i : Int) (x : Nat) (Q O : List Int) : Prop where
 len : O.length = a.length
 f0 : gO O f = 0
 bd : ∀ c : Nat, c < a.length -> O.getD c 0 ≠ farI -> 0 <= O.getD c 0 /\ Wy w h a f (Int.toNat (O.getD c 0)) (c : Int)
 cnt : ∀ c : Nat, c < a.length -> O.getD c 0 ≠ farI -> O.getD c 0 < (fnd O : Int)
 ii : (0 <= i /\ i < (a.length : Int)) /\ gO O i ≠ farI
 q : ∀ k ∈ Q, (0 <= k /\ k < (a.length : Int)) /\ gO O k ≠ farI
 srt : Q.Pairwise fun i k => gO O i <= gO O k
 low : ∀ k ∈ Q, gO O i <= gO O k
 top : ∀ c : Nat, c < a.length -> O.getD c 0 ≠ farI -> O.getD c 0 <= gO O i + 1
 seen : ∀ j, j < x -> nbOk w h a i j -> gO O (nbT w i j) ≠ farI /\ gO O (nbT w i j) <= gO O i + 1
 done : ∀ c : Nat, c < a.length -> O.getD c 0 ≠ farI -> (c : Int) = i ∨ (c : Int) ∈ Q ∨ ∀ j, j < 4 -> nbOk w h a (c : Int) j -> gO O (nbT w (c : Int) j) ≠ farI /\ gO O (nbT w (c : Int) j) <= O.getD c 0 + 1
 sz : Q.length + unf O < a.length
theorem BfD.pop {w h : Int} {a : List Bool} {f i : Int} {Q O : List Int} (b : BfD w h a f (i :: Q) O) : BfJ w h a f i 0 Q O := by
 have hs := List.pairwise_cons.1 b.srt
 refine ⟨b.len, b.f0, b.bd, b.cnt, b.q i (List.mem_cons_self ..), fun k hk => b.q k (List.mem_cons_of_mem _ hk), hs.2, hs.1, b.top i rfl, fun j hj => absurd hj (Nat.not_lt_zero _), fun c hc hf => ?_, ?_⟩
 ·rcases b.done c hc hf with q | q
  ·rcases List.mem_cons.1 q with e | e
   ·exact .inl e
   ·exact .inr (.inl e)
  ·exact .inr (.inr q)
 ·have := b.sz; rw [List.length_cons] at this; omega
theorem BfJ.skip {w h : Int} {a : List Bool} {f i : Int} {x : Nat} {Q O : List Int} (b : BfJ w h a f i x Q O) (hs : nbOk w h a i x -> gO O (nbT w i x) ≠ farI) (hin : nbOk w h a i x -> 0 <= nbT w i x /\ nbT w i x < (a.length : Int)) : BfJ w h a f i (x + 1) Q O := by
 refine ⟨b.len, b.f0, b.bd, b.cnt, b.ii, b.q, b.srt, b.low, b.top, fun j hj hb => ?_, b.done, b.sz⟩
 by_cases e : j = x
 ·subst e
  have h1 := hin hb
  exact ⟨hs hb, b.top _ (by omega) (hs hb)⟩
 ·exact b.seen j (by omega) hb
theorem BfJ.add {w h : Int} {a : List Bool} {f i : Int} {x : Nat} {Q O : List Int} (b : BfJ w h a f i x Q O) (hx : x < 4) (hb : nbOk w h a i x) (hin : 0 <= nbT w i x /\ nbT w i x < (a.length : Int)) (hn : gO O (nbT w i x) = farI) (hsm : (a.length : Int) <= 1024) : BfJ w h a f i (x + 1) (Q ++ [nbT w i x]) (O.set (Int.toNat (nbT w i x)) (gO O i + 1)) := by
 have hi := b.ii
 have hd := b.bd (Int.toNat i) (by omega) hi.2
 have hc := b.cnt (Int.toNat i) (by omega) hi.2
 have hfu := fnd_unf O
 have hlen := b.len
 generalize ht : Int.toNat (nbT w i x) = t at *
 have htl : t < O.length := by omega
 have hO0 : O.getD t 0 = farI := by rw [<- ht]; exact hn
 have hv : gO O i + 1 ≠ farI := by unfold gO at *; unfold farI at *; omega
 obtain ⟨c1, c2⟩ := set_cnt htl hO0 hv
 have hg : ∀ c : Nat, (O.set t (gO O i + 1)).getD c 0 = if c = t then gO O i + 1 else O.getD c 0 := fun c => gO_set htl
 have hgI : ∀ k : Int, gO O k ≠ farI -> gO (O.set t (gO O i + 1)) k = gO O k := fun k hk => by
  show (O.set t (gO O i + 1)).getD (Int.toNat k) 0 = _
  rw [hg, if_neg (fun e => hk (by unfold gO; rw [e]; exact hO0))]; rfl
 have hgi := hgI i hi.2
 refine ⟨by rw [List.length_set]; exact b.len, by rw [hgI f (by rw [b.f0]; decide)]; exact b.f0, fun c hcl hcf => ?_, fun c hcl hcf => ?_, ⟨hi.1, by rw [hgi]; exact hi.2⟩, fun k hk => ?_, ?_, fun k hk => ?_, fun c hcl hcf => ?_, fun j hj hbj => ?_, fun c hcl hcf => ?_, ?_⟩
 ·rw [hg] at hcf ⊢
  by_cases e : c = t
  ·rw [if_pos e]
   refine ⟨by unfold gO; omega, ?_⟩
   have hw := Wy.step x hx hd.2 (by rw [show ((Int.toNat i : Nat) : Int) = i by omega]; exact hb)
   rw [show ((Int.toNat i : Nat) : Int) = i by omega] at hw
   rw [e, show ((t : Nat) : Int) = nbT w i x by omega, show Int.toNat (gO O i + 1) = Int.toNat (O.getD (Int.toNat i) 0) + 1 by unfold gO; omega]
   exact hw
  ·rw [if_neg e] at hcf ⊢; exact b.bd c hcl hcf
 ·rw [hg] at hcf ⊢
  rw [c1]
  by_cases e : c = t
  ·rw [if_pos e]; unfold gO; omega
  ·rw [if_neg e] at hcf ⊢; have := b.cnt c hcl hcf; omega
 ·rcases List.mem_append.1 hk with e | e
  ·have := b.q k e
   exact ⟨this.1, by rw [hgI k this.2]; exact this.2⟩
  ·rw [List.mem_singleton.1 e]
   refine ⟨hin, ?_⟩
   show (O.set t (gO O i + 1)).getD (Int.toNat (nbT w i x)) 0 ≠ farI
   rw [ht, hg, if_pos rfl]; exact hv
 ·refine List.pairwise_append.2 ⟨?_, List.pairwise_singleton _ _, fun k hk q hq => ?_⟩
  ·refine List.Pairwise.imp_of_mem (fun {u v} hu hv h => ?_) b.srt
   rw [hgI u (b.q u hu).2, hgI v (b.q v hv).2]; exact h
  ·rw [List.mem_singleton.1 hq, hgI k (b.q k hk).2]
   show _ <= (O.set t (gO O i + 1)).getD (Int.toNat (nbT w i x)) 0
   rw [ht, hg, if_pos rfl]
   have := b.q k hk
   exact b.top (Int.toNat k) (by omega) this.2
 ·rw [hgi]
  rcases List.mem_append.1 hk with e | e
  ·rw [hgI k (b.q k e).2]; exact b.low k e
  ·rw [List.mem_singleton.1 e]
   show _ <= (O.set t (gO O i + 1)).getD (Int.toNat (nbT w i x)) 0
   rw [ht, hg, if_pos rfl]; omega
 ·rw [hgi, hg] at *
  by_cases e : c = t
  ·rw [if_pos e]; omega
  ·rw [if_neg e] at hcf ⊢; exact b.top c hcl hcf
 ·rw [hgi]
  by_cases e : j = x
  ·subst e
   have : gO (O.set t (gO O i + 1)) (nbT w i j) = gO O i + 1 := by
    show (O.set t (gO O i + 1)).getD (Int.toNat (nbT w i j)) 0 = _
    rw [ht, hg, if_pos rfl]
   rw [this]; exact ⟨hv, Int.le_refl _⟩
  ·have := b.seen j (by omega) hbj
   rw [hgI _ this.1]; exact this
 ·rw [hg] at hcf
  by_cases e : c = t
  ·exact .inr (.inl (List.mem_append_right _ (by rw [List.mem_singleton]; omega)))
  ·rw [if_neg e] at hcf
   rcases b.done c hcl hcf with q | q | q
   ·exact .inl q
   ·exact .inr (.inl (List.mem_append_left _ q))
   ·refine .inr (.inr fun j hj hbj => ?_)
    have := q j hj hbj
    rw [hgI _ this.1, hg, if_neg e]; exact this
 ·have := b.sz
  rw [List.length_append, List.length_singleton]; omega
theorem BfJ.fin {w h : Int} {a : List Bool} {f i : Int} {Q O : List Int} (b : BfJ w h a f i 4 Q O) : BfD w h a f Q O := by
 refine ⟨b.len, b.f0, b.bd, b.cnt, b.q, b.srt, fun k hk c hc hf => ?_, fun c hc hf => ?_, by have := b.sz; omega⟩
 ·have h1 := b.top c hc hf
  have h2 := b.low k (by
   cases Q with
   | nil => cases hk
   | cons q Q => cases hk; exact List.mem_cons_self ..)
  omega
 ·rcases b.done c hc hf with q | q | q
  ·refine .inr fun j hj hbj => ?_
   rw [q] at hbj ⊢
   have := b.seen j hj hbj
   rw [show O.getD c 0 = gO O i from by unfold gO; rw [<- q]; rfl]
   exact this
  ·exact .inl q
  ·exact .inr q
theorem BfD.near {w h : Int} {a : List Bool} {f : Int} {O : List Int} (b : BfD w h a f [] O) (hb : BasOk w h a.length) (hf : 0 <= f /\ f < (a.length : Int)) {n : Nat} {c : Int} (hw : Wy w h a f n c) : (0 <= c /\ c < (a.length : Int)) /\ gO O c ≠ farI /\ gO O c <= (n : Int) := by
 induction hw with
 | base => exact ⟨hf, by rw [b.f0]; decide, by rw [b.f0]; exact Int.le_refl _⟩
 | @step n i j hj hw hbj ih =>
  obtain ⟨h1, h2, h3⟩ := ih
  have hin := nb_in hb hbj.1.1 hbj.1.2
  have e : ((Int.toNat i : Nat) : Int) = i := by omega
  rcases b.done (Int.toNat i) (by omega) h2 with q | q
  ·cases q
  ·have := q j hj (by rw [e]; exact hbj)
   rw [e] at this
   refine ⟨hin, this.1, ?_⟩
   have h4 : O.getD (Int.toNat i) 0 = gO O i := rfl
   rw [h4] at this
   omega
theorem BfD.eq {w h : Int} {a : List Bool} {f : Int} {O : List Int} (b : BfD w h a f [] O) (hb : BasOk w h a.length) (hf : 0 <= f /\ f < (a.length : Int)) : O = dstL w h a f := by
 refine List.ext_getElem? fun c => ?_
 unfold dstL tabP
 rw [List.getElem?_map]
 by_cases hc : c < a.length
 ·rw [List.getElem?_range hc, List.getElem?_eq_getElem (by rw [b.len]; exact hc)]
  have hg : O.getD c 0 = O[c]'(by rw [b.len]; exact hc) := by simp [List.getD_eq_getElem?_getD, b.len, hc]
  show some _ = some (dstI w h a f (c : Int))
  rw [<- hg]
  congr 1
  by_cases e : O.getD c 0 = farI
  ·rw [e, dst_far]
   intro n hn
   exact (b.near hb hf hn).2.1 e
  ·have h1 := b.bd c hc e
   rw [dst_is (n := Int.toNat (O.getD c 0)) ⟨h1.2, fun m hm => ?_⟩]
   ·omega
   ·have := (b.near hb hf hm).2.2
    have h4 : gO O (c : Int) = O.getD c 0 := rfl
    rw [h4] at this; omega
 ·rw [List.getElem?_eq_none (by rw [b.len]; omega), List.getElem?_eq_none (by rw [List.length_range]; omega)]; rfl
def fillF (n x : Nat) : List Int := List.replicate x farI ++ List.replicate (n - x) 0
def begF (n : Nat) (f : Int) : List Int := (List.replicate n farI).set (Int.toNat f) 0
theorem begF_ok {w h : Int} {a : List Bool} {f : Int} (hf : 0 <= f /\ f < (a.length : Int)) : BfD w h a f [f] (begF a.length f) := by
 generalize ht : Int.toNat f = t
 have htl : t < (List.replicate a.length farI).length := by rw [List.length_replicate]; omega
 have hg : ∀ c : Nat, c < a.length -> (begF a.length f).getD c 0 = if c = t then 0 else farI := fun c hc => by
  unfold begF
  rw [ht, gO_set htl]
  congr 1
  simp [List.getD_eq_getElem?_getD, List.getElem?_replicate, hc]
 have h0 : (List.replicate a.length farI).getD t 0 = farI := by
  rw [List.length_replicate] at htl
  simp [List.getD_eq_getElem?_getD, List.getElem?_replicate, htl]
 have hcnt := set_cnt (v := 0) htl h0 (by decide)
 have hu : unf (List.replicate a.length farI) = a.length := by unfold unf; rw [List.countP_replicate]; simp
 have hf0 : fnd (List.replicate a.length farI) = 0 := by have := fnd_unf (List.replicate a.length farI); rw [List.length_replicate, hu] at this; omega
 have hone : ∀ c : Nat, c < a.length -> (begF a.length f).getD c 0 ≠ farI -> c = t := fun c hc hcf => by
  rw [hg c hc] at hcf
  by_cases e : c = t
  ·exact e
  ·rw [if_neg e] at hcf; exact absurd rfl hcf
 have htn : t < a.length := by rwa [List.length_replicate] at htl
 have e0 : gO (begF a.length f) f = 0 := by
  show (begF a.length f).getD (Int.toNat f) 0 = 0
  rw [ht, hg t htn, if_pos rfl]
 refine ⟨by unfold begF; rw [List.length_set, List.length_replicate], e0, fun c hc hcf => ?_, fun c hc hcf => ?_, fun i hi => ?_, List.pairwise_singleton _ _, fun i hi c hc hcf => ?_, fun c hc hcf => .inl ?_, ?_⟩
 ·rw [hone c hc hcf, hg t htn, if_pos rfl]
  refine ⟨Int.le_refl _, ?_⟩
  rw [show ((t : Nat) : Int) = f by omega]; exact Wy.base
 ·rw [hone c hc hcf, hg t htn, if_pos rfl]
  unfold begF; rw [ht, hcnt.1]; omega
 ·rw [List.mem_singleton.1 hi]
  exact ⟨hf, by rw [e0]; decide⟩
 ·cases hi
  rw [hone c hc hcf, hg t htn, if_pos rfl, e0]; decide
 ·rw [hone c hc hcf, List.mem_singleton]; omega
 ·unfold begF; rw [ht]; rw [hu] at hcnt; simp only [List.length_cons, List.length_nil]; omega
theorem fillF_set {n x : Nat} (hx : x < n) : (fillF n x).set x farI = fillF n (x + 1) := by
 unfold fillF
 rw [List.set_append_right _ _ (by rw [List.length_replicate]; exact Nat.le_refl _), List.length_replicate, Nat.sub_self, show n - x = (n - (x + 1)) + 1 by omega, List.replicate_succ, List.set_cons_zero, rep_snoc, List.append_assoc]; rfl
end
end Go.Proofs.YtbgfjemppjhmjaaGreat
/- Radio: tracks, as plain functions. No condition. -/
namespace Go.Proofs.YtbgfjemppjhmjaaGreat
set_option linter.unusedSimpArgs false
open Go Go.K
set_option linter.unusedVariables false
noncomputable section
def okS (a : List Bool) (s : Int × Int) : Bool := (decide (0 <= s.1) && decide (s.1 <= 100000)) && seaB a s.2
def errT (w h : Int) (a : List Bool) (p : Int) (ss : List (Int × Int)) : Int :=
 if errBas w h a.length = 0 then (if 1 <= p /\ p <= 1000 then (if ss.length <= 20 then (if ss.all (okS a) = true then 0 else 110) else 2) else 6) else errBas w h a.length
def rowT (w h : Int) (a : List Bool) (ss : List (Int × Int)) (x : Nat) : List (List Int) := tabP (fun i : Nat => dstL w h a (ss.getD i zeroSp).2) x
def mxI (x y : Int) : Int := if y > x then y else x
def canB (p : Int) (ss : List (Int × Int)) (rr : List (List Int)) (i : Nat) (c m : Int) : Bool :=
 decide ((rr.getD i []).getD (Int.toNat c) 0 < farI) && decide ((rr.getD i []).getD (Int.toNat c) 0 * p <= mxI (m - (ss.getD i zeroSp).1) ((ss.getD i zeroSp).1 - m))
def agrB (p : Int) (ss : List (Int × Int)) (rr : List (List Int)) (i k : Nat) : Bool := canB p ss rr i (ss.getD k zeroSp).2 (ss.getD k zeroSp).1
def cfRow (p : Int) (ss : List (Int × Int)) (rr : List (List Int)) (x y : Nat) : List (Int × Int) := ((List.range y).filter fun k => decide (x < k) && !agrB p ss rr x k).map fun k : Nat => (((x : Nat) : Int), ((k : Nat) : Int))
def cfTo (p : Int) (ss : List (Int × Int)) (rr : List (List Int)) (x : Nat) : List (Int × Int) := (List.range x).flatMap fun i => cfRow p ss rr i ss.length
def allL (n : Nat) : List Int := tabP (fun i : Nat => (i : Int)) n
end
end Go.Proofs.YtbgfjemppjhmjaaGreat
/- What is to be shown of functions. Printed by a program. No condition. -/
namespace Go.Proofs.YtbgfjemppjhmjaaGreat
set_option linter.unusedSimpArgs false
open Go Go.K
set_option maxRecDepth 100000
set_option maxHeartbeats 4000000
set_option linter.unusedVariables false
noncomputable section
def Rbasin (sp : Value) (w h : Int) (a : List Bool) : Prop :=
 (((decide ((1 : Int) <= w)) = true -> (((!(decide ((w : Int) <= 64))) = true -> (.int .i64 6 : Value) = sp) /\ ((!(decide ((w : Int) <= 64))) = false -> (((decide ((1 : Int) <= h)) = true -> (((!(decide ((h : Int) <= 64))) = true -> (.int .i64 6 : Value) = sp) /\ ((!(decide ((h : Int) <= 64))) = false -> ((.int .i64 (IntKind.wrap .i64 (w * h)) : Value) = .int .i64 (w * h) /\ (((decide ((1024 : Int) < (w * h))) = true -> (.int .i64 6 : Value) = sp) /\ ((decide ((1024 : Int) < (w * h))) = false -> ((.int .i64 (IntKind.wrap .i64 (w * h)) : Value) = .int .i64 (w * h) /\ (((((((List.length a) : Nat) : Int) : Int) != (w * h)) = true -> (.int .i64 1 : Value) = sp) /\ ((((((List.length a) : Nat) : Int) : Int) != (w * h)) = false -> (.int .i64 0 : Value) = sp))))))))) /\ ((decide ((1 : Int) <= h)) = false -> (.int .i64 6 : Value) = sp))))) /\ ((decide ((1 : Int) <= w)) = false -> (.int .i64 6 : Value) = sp))
theorem Ebasin (sp : Value) (w h : Int) (a : List Bool) : vF prog msk (dm 0) 100000 true 40 true 108 [.agg #[.int .i64 w, .int .i64 h, .slice (some ⟨0, 0, some 2⟩) (List.length a) (List.length a)]] (readsT 0 [a.flatMap boolC]) (some [])
 (.go 9 (.gfork (.go 6 (.gfork (.auto) (.go 7 (.gfork (.go 7 (.gfork (.auto) (.go 4 (.slot 19 (.int .i64 (w * h)) (.go 2 (.fork (.auto) (.go 7 (.slot 30 (.int .i64 (w * h)) (.go 1 (.fork (.auto) (.auto))))))))))) (.auto))))) (.auto)))
 (fun v _ _ => v = sp) = Rbasin sp w h a := by kernel_rfl
def Rsea (sp : Value) (w h : Int) (a : List Bool) (c : Int) : Prop :=
 ((.int .i64 (IntKind.wrap .i64 ((((List.length a) : Nat) : Int) - 1)) : Value) = .int .i64 ((((List.length a) : Nat) : Int) - 1) /\ (((decide ((0 : Int) <= c)) = true -> (((decide ((c : Int) <= ((((List.length a) : Nat) : Int) - 1))) = true -> (((0 : Int) <= c /\ (c : Int) < (((List.length a) : Nat) : Int)) /\ (((List.flatMap boolC a)[(0 + Int.toNat c * 1)]? = some (.bool (List.getD a (Int.toNat c) false))) /\ (.bool (!(List.getD a (Int.toNat c) false)) : Value) = sp))) /\ ((decide ((c : Int) <= ((((List.length a) : Nat) : Int) - 1))) = false -> (.bool false : Value) = sp))) /\ ((decide ((0 : Int) <= c)) = false -> (.bool false : Value) = sp)))
theorem Esea (sp : Value) (w h : Int) (a : List Bool) (c : Int) : vF prog msk (dm 0) 100000 true 40 true 75 [.agg #[.int .i64 w, .int .i64 h, .slice (some ⟨0, 0, some 2⟩) (List.length a) (List.length a)], .int .i64 c] (readsT 0 [a.flatMap boolC]) (some [])
 (.go 6 (.slot 9 (.int .i64 ((((List.length a) : Nat) : Int) - 1)) (.go 5 (.gfork (.go 5 (.gfork (.go 2 (.need (.val (.bool (List.getD a (Int.toNat c) false)) (.auto)))) (.auto))) (.auto)))))
 (fun v _ _ => v = sp) = Rsea sp w h a c := by kernel_rfl
def Rtrack (sp : Value) (w h : Int) (a : List Bool) (p : Int) (ss : List (Int × Int)) : Prop :=
 (((some (.cells false 0 (List.flatMap boolC a) : KObj) = some (.cells false 0 (List.flatMap boolC a) : KObj)) /\ True) /\ (∀ H' : Heap, H'.length = 3 -> (H'[0]? = some (.cells false 0 (List.flatMap boolC a) : KObj) /\ True) -> KCall prog 108 [.agg #[.int .i64 w, .int .i64 h, .slice (some ⟨0, 0, some 2⟩) (List.length a) (List.length a)]] H' [] (Is (.int .i64 (errBas w h (List.length a))) H')) /\ (((((errBas w h (List.length a)) : Int) != 0) = true -> (.int .i64 (errBas w h (List.length a)) : Value) = sp) /\ ((((errBas w h (List.length a)) : Int) != 0) = false -> (((decide ((1 : Int) <= p)) = true -> (((!(decide ((p : Int) <= 1000))) = true -> (.int .i64 6 : Value) = sp) /\ ((!(decide ((p : Int) <= 1000))) = false -> (((decide ((20 : Int) < (((List.length ss) : Nat) : Int))) = true -> (.int .i64 2 : Value) = sp) /\ ((decide ((20 : Int) < (((List.length ss) : Nat) : Int))) = false -> (true = true /\ (0 <= List.length ss /\ (List.take 0 ss).all (okS a) = true) /\ (true = true /\ ((.int .i64 0 : Value) = .int .i64 ((0 : Nat) : Int) /\ (.func (.func 110) #[] #[.pointer (some ⟨2, 0, none⟩)] : Value) = .func (.func 110) #[] #[.pointer (some ⟨2, 0, none⟩)] /\ wk (.slice (some ⟨1, 0, some 2⟩) (List.length ss) (List.length ss) : Value) (.slice (some ⟨1, 0, some 2⟩) (List.length ss) (List.length ss) : Value) /\ (.int .i64 (((List.length ss) : Nat) : Int) : Value) = .int .i64 (((List.length ss) : Nat) : Int) /\ True) /\ (True) /\ (True) /\ (True)) /\ (∀ x1 : Nat, true = true) /\ ∀ x1 : Nat, (x1 <= List.length ss /\ (List.take x1 ss).all (okS a) = true) -> (((decide ((((x1 : Nat) : Int) : Int) < (((List.length ss) : Nat) : Int))) = true -> (((0 : Int) <= ((x1 : Nat) : Int) /\ (((x1 : Nat) : Int) : Int) < (((List.length ss) : Nat) : Int)) /\ ((partA 2 (List.flatMap spC ss) (0 + Int.toNat ((x1 : Nat) : Int) * 2) = some (.agg #[.int .i64 (List.getD ss x1 zeroSp).1, .int .i64 (List.getD ss x1 zeroSp).2])) /\ (((decide ((0 : Int) <= (List.getD ss x1 zeroSp).1)) = true -> (((!(decide (((List.getD ss x1 zeroSp).1 : Int) <= 100000))) = true -> (((decide ((0 : Int) <= ((x1 : Nat) : Int))) = true -> (.int .i64 110 : Value) = sp) /\ ((decide ((0 : Int) <= ((x1 : Nat) : Int))) = false -> (.int .i64 0 : Value) = sp))) /\ ((!(decide (((List.getD ss x1 zeroSp).1 : Int) <= 100000))) = false -> (((some (.cells false 0 (List.flatMap boolC a) : KObj) = some (.cells false 0 (List.flatMap boolC a) : KObj)) /\ True) /\ (∀ H' : Heap, H'.length = 4 -> (H'[0]? = some (.cells false 0 (List.flatMap boolC a) : KObj) /\ True) -> KCall prog 75 [.agg #[.int .i64 w, .int .i64 h, .slice (some ⟨0, 0, some 2⟩) (List.length a) (List.length a)], .int .i64 (List.getD ss x1 zeroSp).2] H' [] (Is (.bool (seaB a (List.getD ss x1 zeroSp).2)) H')) /\ (((!(seaB a (List.getD ss x1 zeroSp).2)) = true -> (((decide ((0 : Int) <= ((x1 : Nat) : Int))) = true -> (.int .i64 110 : Value) = sp) /\ ((decide ((0 : Int) <= ((x1 : Nat) : Int))) = false -> (.int .i64 0 : Value) = sp))) /\ ((!(seaB a (List.getD ss x1 zeroSp).2)) = false -> ((.int .i64 (IntKind.wrap .i64 (((x1 : Nat) : Int) + 1)) : Value) = .int .i64 (((x1 : Nat) : Int) + 1) /\ (∃ x1' : Nat, (x1' <= List.length ss /\ (List.take x1' ss).all (okS a) = true) /\ (List.length ss - x1') < (List.length ss - x1) /\ true = true /\ ((.int .i64 (((x1 : Nat) : Int) + 1) : Value) = .int .i64 ((x1' : Nat) : Int) /\ (.func (.func 110) #[] #[.pointer (some ⟨2, 0, none⟩)] : Value) = .func (.func 110) #[] #[.pointer (some ⟨2, 0, none⟩)] /\ wk (.slice (some ⟨1, 0, some 2⟩) (List.length ss) (List.length ss) : Value) (.slice (some ⟨1, 0, some 2⟩) (List.length ss) (List.length ss) : Value) /\ (.int .i64 (((List.length ss) : Nat) : Int) : Value) = .int .i64 (((List.length ss) : Nat) : Int) /\ True) /\ (True) /\ (True) /\ (True))))))))) /\ ((decide ((0 : Int) <= (List.getD ss x1 zeroSp).1)) = false -> (((decide ((0 : Int) <= ((x1 : Nat) : Int))) = true -> (.int .i64 110 : Value) = sp) /\ ((decide ((0 : Int) <= ((x1 : Nat) : Int))) = false -> (.int .i64 0 : Value) = sp))))))) /\ ((decide ((((x1 : Nat) : Int) : Int) < (((List.length ss) : Nat) : Int))) = false -> (.int .i64 0 : Value) = sp)))))))) /\ ((decide ((1 : Int) <= p)) = false -> (.int .i64 6 : Value) = sp)))))
theorem Etrack (sp : Value) (w h : Int) (a : List Bool) (p : Int) (ss : List (Int × Int)) : vF prog msk (dm 0) 100000 true 40 true 41 [.agg #[.int .i64 w, .int .i64 h, .slice (some ⟨0, 0, some 2⟩) (List.length a) (List.length a), .int .i64 p, .slice (some ⟨1, 0, some 2⟩) (List.length ss) (List.length ss)]] (readsT 0 [a.flatMap boolC, ss.flatMap spC]) (some [])
 (.go 3 (.ans [(0, .cells false 0 (List.flatMap boolC a))] (.int .i64 (errBas w h (List.length a))) [] (.go 2 (.fork (.auto) (.go 7 (.gfork (.go 6 (.fork (.auto) (.go 4 (.fork (.auto) (.go 11 (.inv 3 (Nat) (0) [] [] (fun x1 => [(8, .int .i64 ((x1 : Nat) : Int)), (1, .func (.func 110) #[] #[.pointer (some ⟨2, 0, none⟩)]), (0, .slice (some ⟨1, 0, some 2⟩) (List.length ss) (List.length ss)), (7, .int .i64 (((List.length ss) : Nat) : Int))]) (fun x1 => []) (fun x1 => []) (fun x1 => []) (fun x1 => (x1 <= List.length ss /\ (List.take x1 ss).all (okS a) = true)) (fun x1 => (List.length ss - x1)) (fun x1 => .go 0 (.fork (.go 4 (.need (.val (.agg #[.int .i64 (List.getD ss x1 zeroSp).1, .int .i64 (List.getD ss x1 zeroSp).2]) (.go 10 (.gfork (.go 6 (.gfork (.go 6 (.fork (.auto) (.auto))) (.go 3 (.ans [(0, .cells false 0 (List.flatMap boolC a))] (.bool (seaB a (List.getD ss x1 zeroSp).2)) [] (.go 2 (.fork (.go 3 (.fork (.auto) (.auto))) (.go 0 (.slot 18 (.int .i64 (((x1 : Nat) : Int) + 1)) (.go 0 (.again [])))))))))) (.go 10 (.fork (.auto) (.auto)))))))) (.auto))))))))) (.auto)))))))
 (fun v _ _ => v = sp) = Rtrack sp w h a p ss := by kernel_rfl
end
end Go.Proofs.YtbgfjemppjhmjaaGreat
/- Radio: right tracks. No condition. -/
namespace Go.Proofs.YtbgfjemppjhmjaaGreat
open Go Go.K
set_option maxRecDepth 100000
set_option linter.unusedVariables false
set_option linter.unusedSimpArgs false
noncomputable section
attribute [local irreducible] vF
theorem mul_bd {w h : Int} (a : 1 <= w /\ w <= 64) (b : 1 <= h /\ h <= 64) : 1 <= w * h /\ w * h <= 4096 := by
 have h1 : 1 * 1 <= w * h := Int.mul_le_mul a.1 b.1 (by omega) (by omega)
 have h2 : w * h <= 64 * 64 := Int.mul_le_mul a.2 b.2 (by omega) (by omega)
 omega
abbrev basV (w h : Int) (i n : Nat) : Value := .agg #[.int .i64 w, .int .i64 h, .slice (some ⟨i, 0, some 2⟩) n n]
abbrev trkV (w h : Int) (a : List Bool) (p : Int) (ss : List (Int × Int)) (i j : Nat) : Value := .agg #[.int .i64 w, .int .i64 h, .slice (some ⟨i, 0, some 2⟩) a.length a.length, .int .i64 p, .slice (some ⟨j, 0, some 2⟩) ss.length ss.length]
theorem kBasin (w h : Int) (a : List Bool) {H : Heap} {id : Nat} {own : Bool} {z : Nat} (hid : H[id]? = some (.cells own z (a.flatMap boolC))) :
  KCall prog 108 [basV w h id a.length] H [] (Is (.int .i64 (errBas w h a.length)) H) := by
 refine valRx (css := [a.flatMap boolC]) (v := .int .i64 (errBas w h a.length)) (ids := [id]) (Eq.mpr (Ebasin _ w h a) ?_) ⟨plainBL _ _, trivial⟩ rfl ⟨⟨_, _, hid⟩, trivial⟩ rfl
 unfold Rbasin errBas
 obtain ⟨p, hp⟩ : ∃ p, w * h = p := ⟨_, rfl⟩
 have hb := fun a b => hp ▸ mul_bd (w := w) (h := h) a b
 simp only [hp]
 repeat' first | (exact iEq (by split <;> (try split) <;> omega)) | exact trivial | exact rfl | exact wk_refl _ | refine wkO_cells ?_ | refine wks_cons ?_ ?_ | exact wks_nil | exact wk_nil _ _ _ (.inl rfl) | (exact wk_Q (by omega)) | refine wk_tupL ?_ | refine wk_aggL ?_ | refine joinMax ?_ ?_ ?_ | refine joinMin ?_ ?_ ?_ | refine toMax ?_ | refine toMin ?_ | refine ⟨rfl, ?_⟩ | refine ⟨trivial, ?_⟩ | (refine forkD (fun h => ?_) (fun h => ?_)) | (refine forkNe (fun h => ?_) (fun h => ?_)) | (refine forkEq (fun h => ?_) (fun h => ?_)) | refine forkNot ?_ | (refine ⟨vI64 (by omega), ?_⟩) | (refine And.intro (by omega) ?_) | apply And.intro | (exact iEq (by omega)) | (exact vI64 (by omega))
theorem kSea (w h : Int) (a : List Bool) (c : Int) (hl : a.length <= 100000) {H : Heap} {id : Nat} {own : Bool} {z : Nat} (hid : H[id]? = some (.cells own z (a.flatMap boolC))) :
  KCall prog 75 [basV w h id a.length, .int .i64 c] H [] (Is (.bool (seaB a c)) H) := by
 refine valRx (css := [a.flatMap boolC]) (v := .bool (seaB a c)) (ids := [id]) (Eq.mpr (Esea _ w h a c) ?_) ⟨plainBL _ _, trivial⟩ rfl ⟨⟨_, _, hid⟩, trivial⟩ rfl
 unfold Rsea seaB
 refine ⟨vI64 (by omega), fun h1 => ⟨fun h2 => ⟨⟨of_decide_eq_true h1, by have := of_decide_eq_true h2; omega⟩, boolAt (by have := of_decide_eq_true h2; have := of_decide_eq_true h1; omega) (by omega), ?_⟩, fun h2 => ?_⟩, fun h1 => ?_⟩
 ·rw [h1, h2]; rfl
 ·rw [h1, h2]; rfl
 ·rw [h1]; rfl
theorem spPart {l : List (Int × Int)} {k off : Nat} (h : k < l.length) (ho : off = k * 2) : partA 2 (l.flatMap spC) off = some (.agg ⟨spC (l.getD k zeroSp)⟩) := part_at (n := 2) (d := zeroSp) (c := 0) (m := 2) spC_len h (by omega) (by omega)
theorem all_succ {α : Type} {p : α -> Bool} {l : List α} {x : Nat} {d : α} (hx : x < l.length) (h : (l.take x).all p = true) (h1 : p (l.getD x d) = true) : (l.take (x + 1)).all p = true := by
 rw [List.take_succ_eq_append_getElem hx, List.all_append, h, List.all_cons]
 rw [show l.getD x d = l[x] from by simp [List.getD_eq_getElem?_getD, hx]] at h1
 rw [h1]; rfl
theorem all_no {α : Type} {p : α -> Bool} {l : List α} {x : Nat} {d : α} (hx : x < l.length) (h1 : p (l.getD x d) = false) : l.all p = false := by
 rw [Bool.eq_false_iff]
 intro h
 rw [List.all_eq_true] at h
 have := h _ (getD_mem (d := d) hx)
 rw [h1] at this; cases this
theorem kTrack (w h : Int) (a : List Bool) (p : Int) (ss : List (Int × Int)) (hl : a.length <= 100000) (hs : ss.length <= 100000) {H : Heap} {i j : Nat} {o1 o2 : Bool} {z1 z2 : Nat} (hi : H[i]? = some (.cells o1 z1 (a.flatMap boolC))) (hj : H[j]? = some (.cells o2 z2 (ss.flatMap spC))) :
  KCall prog 41 [trkV w h a p ss i j] H [] (Is (.int .i64 (errT w h a p ss)) H) := by
 refine valRx (css := [a.flatMap boolC, ss.flatMap spC]) (v := .int .i64 (errT w h a p ss)) (ids := [i, j]) (Eq.mpr (Etrack _ w h a p ss) ?_) ⟨plainBL _ _, plainSp _ _, trivial⟩ rfl ⟨⟨_, _, hi⟩, ⟨_, _, hj⟩, trivial⟩ rfl
 unfold Rtrack errT
 refine ⟨⟨rfl, trivial⟩, fun H' _ h => kBasin _ _ _ h.1, fun e => by rw [if_neg (neB e)], fun e => ?_⟩
 rw [if_pos (eqB0 e)]
 refine ⟨fun p1 => ⟨fun p2 => ?_, fun p2 => ⟨fun n => ?_, fun n => ?_⟩⟩, fun p1 => ?_⟩
 ·rw [if_neg (fun q => by have := of_decide_eq_false (notB p2); omega)]
 ·rw [if_pos ⟨of_decide_eq_true p1, of_decide_eq_true (notB2 p2)⟩, if_neg (by have := of_decide_eq_true n; omega)]
 ·rw [if_pos ⟨of_decide_eq_true p1, of_decide_eq_true (notB2 p2)⟩, if_pos (by have := of_decide_eq_false n; omega)]
  refine ⟨rfl, ⟨Nat.zero_le _, rfl⟩, ?_, fun _ => rfl, fun x hx => ⟨fun b => ?_, fun b => ?_⟩⟩
  ·repeat' first | exact trivial | exact rfl | exact wk_refl _ | refine wkO_cells ?_ | refine wks_cons ?_ ?_ | exact wks_nil | exact wk_nil _ _ _ (.inl rfl) | (exact wk_Q (by omega)) | refine wk_tupL ?_ | refine wk_aggL ?_ | refine joinMax ?_ ?_ ?_ | refine joinMin ?_ ?_ ?_ | refine toMax ?_ | refine toMin ?_ | refine ⟨rfl, ?_⟩ | refine ⟨trivial, ?_⟩ | (refine forkD (fun h => ?_) (fun h => ?_)) | (refine forkNe (fun h => ?_) (fun h => ?_)) | (refine forkEq (fun h => ?_) (fun h => ?_)) | refine forkNot ?_ | (refine ⟨vI64 (by omega), ?_⟩) | (refine And.intro (by omega) ?_) | apply And.intro | (exact iEq (by omega)) | (exact vI64 (by omega))
  ·have h1 : x < ss.length := by have := of_decide_eq_true b; omega
   have hbad : okS a (ss.getD x zeroSp) = false -> (Value.int .i64 110) = .int .i64 (if ss.all (okS a) = true then 0 else 110) := fun q => by rw [all_no h1 q]; rfl
   have hx0 : ∀ {P : Prop}, (decide ((0 : Int) <= (x : Int)) = false -> P) := fun q => absurd (of_decide_eq_false q) (by omega)
   refine ⟨⟨by omega, by omega⟩, spPart h1 (by omega), fun c1 => ⟨fun c2 => ⟨fun _ => hbad ?_, hx0⟩, fun c2 => ⟨⟨rfl, trivial⟩, fun H' _ h => kSea _ _ _ _ hl h.1, fun c3 => ⟨fun _ => hbad ?_, hx0⟩, fun c3 => ⟨vI64 (by omega), x + 1, ⟨by omega, all_succ (d := zeroSp) h1 hx.2 ?_⟩, by omega, rfl, ?_⟩⟩⟩, fun c1 => ⟨fun _ => hbad ?_, hx0⟩⟩
   ·unfold okS; rw [c1, notB c2]; rfl
   ·unfold okS; rw [c1, notB2 c2, notB c3]; rfl
   ·unfold okS; rw [c1, notB2 c2, notB2 c3]; rfl
   ·repeat' first | exact trivial | exact rfl | exact wk_refl _ | refine wkO_cells ?_ | refine wks_cons ?_ ?_ | exact wks_nil | exact wk_nil _ _ _ (.inl rfl) | (exact wk_Q (by omega)) | refine wk_tupL ?_ | refine wk_aggL ?_ | refine joinMax ?_ ?_ ?_ | refine joinMin ?_ ?_ ?_ | refine toMax ?_ | refine toMin ?_ | refine ⟨rfl, ?_⟩ | refine ⟨trivial, ?_⟩ | (refine forkD (fun h => ?_) (fun h => ?_)) | (refine forkNe (fun h => ?_) (fun h => ?_)) | (refine forkEq (fun h => ?_) (fun h => ?_)) | refine forkNot ?_ | (refine ⟨vI64 (by omega), ?_⟩) | (refine And.intro (by omega) ?_) | apply And.intro | (exact iEq (by omega)) | (exact vI64 (by omega))
   ·unfold okS; rw [c1]; rfl
  ·have h1 : x = ss.length := by have := of_decide_eq_false b; omega
   have := hx.2
   rw [h1, List.take_length] at this
   rw [if_pos this]
 ·rw [if_neg (fun q => by have := of_decide_eq_false p1; omega)]
end
end Go.Proofs.YtbgfjemppjhmjaaGreat
