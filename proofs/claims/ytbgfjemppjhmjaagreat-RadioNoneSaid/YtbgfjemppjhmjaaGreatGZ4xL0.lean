/- Closed calls of the chapter's examples. Printed by a program. No condition. -/
import Derived.Test.YtbgfjemppjhmjaaGreatGP3xZ1
import Derived.Test.YtbgfjemppjhmjaaGreatGK27xK44
import Derived.Test.YtbgfjemppjhmjaaGreatRows
import Derived.JoinedCond
import Derived.Test.YtbgfjemppjhmjaaGreatGR0bxO3g
namespace Go.Proofs.YtbgfjemppjhmjaaGreat
set_option linter.unusedSimpArgs false
open Go Go.K
set_option maxRecDepth 1000000
set_option maxHeartbeats 4000000
set_option linter.unusedVariables false
noncomputable section
attribute [local irreducible] vF
def R24_956383489 : Prop :=
 (((someR (.cells false 0 [.bool false,.bool false,.bool false,.bool false,.bool false] : KObj)) /\ (someR (.cells false 0 [nI 0,nI 0,nI 30,nI 4,nI 40,nI 2] : KObj)) /\ True) /\ (∀ H' : Heap,H'.length = 4 -> (H'[0]? = some (.cells false 0 [.bool false,.bool false,.bool false,.bool false,.bool false] : KObj) /\ H'[1]? = some (.cells false 0 [nI 0,nI 0,nI 30,nI 4,nI 40,nI 2] : KObj) /\ True) -> /-N ⟨⟨rfl,rfl,trivial⟩,fun H' _ h => C41_956383489 [0,1] ⟨⟨_,_,h.1⟩,⟨_,_,h.2.1⟩,trivial⟩,REST⟩-/KCall prog 41 [.agg #[nI 5,nI 1,sL 0 5 5,nI 10,sL 1 3 3]] H' [] (Is (nI 0) H')) /\ (((someR (.cells false 0 [.bool false,.bool false,.bool false,.bool false,.bool false] : KObj)) /\ True) /\ (∀ H' : Heap,H'.length = 6 -> (H'[0]? = some (.cells false 0 [.bool false,.bool false,.bool false,.bool false,.bool false] : KObj) /\ True) -> /-N ⟨⟨rfl,trivial⟩,fun H' hl h => (by have k:=C114_868361596 (H:=H') [0] ⟨⟨_,_,h.1⟩,trivial⟩; rw [hl] at k; exact k),REST⟩-/KCall prog 114 [.agg #[nI 5,nI 1,sL 0 5 5],nI 0] H' [] (Is (sL 6 5 5) (H' ++ [(.cells true 1 [nI 0,nI 1,nI 2,nI 3,nI 4] : KObj)]))) /\ (((someR (.cells false 0 [.bool false,.bool false,.bool false,.bool false,.bool false] : KObj)) /\ True) /\ (∀ H' : Heap,H'.length = 10 -> (H'[0]? = some (.cells false 0 [.bool false,.bool false,.bool false,.bool false,.bool false] : KObj) /\ True) -> /-N ⟨⟨rfl,trivial⟩,fun H' hl h => (by have k:=C114_16177380 (H:=H') [0] ⟨⟨_,_,h.1⟩,trivial⟩; rw [hl] at k; exact k),REST⟩-/KCall prog 114 [.agg #[nI 5,nI 1,sL 0 5 5],nI 4] H' [] (Is (sL 10 5 5) (H' ++ [(.cells true 1 [nI 4,nI 3,nI 2,nI 1,nI 0] : KObj)]))) /\ (((someR (.cells false 0 [.bool false,.bool false,.bool false,.bool false,.bool false] : KObj)) /\ True) /\ (∀ H' : Heap,H'.length = 14 -> (H'[0]? = some (.cells false 0 [.bool false,.bool false,.bool false,.bool false,.bool false] : KObj) /\ True) -> /-N ⟨⟨rfl,trivial⟩,fun H' hl h => (by have k:=C114_391959661 (H:=H') [0] ⟨⟨_,_,h.1⟩,trivial⟩; rw [hl] at k; exact k),REST⟩-/KCall prog 114 [.agg #[nI 5,nI 1,sL 0 5 5],nI 2] H' [] (Is (sL 14 5 5) (H' ++ [(.cells true 1 [nI 2,nI 1,nI 0,nI 1,nI 2] : KObj)]))) /\ (((someR (.cells true 0 [nI 5,nI 1,sL 0 5 5,nI 10,sL 1 3 3,sL 16 3 3] : KObj)) /\ (someR (.cells true 1 [nI 0,nI 1,nI 2] : KObj)) /\ (someR (.cells false 0 [.bool false,.bool false,.bool false,.bool false,.bool false] : KObj)) /\ (someR (.cells false 0 [nI 0,nI 0,nI 30,nI 4,nI 40,nI 2] : KObj)) /\ (someR (.cells true 1 [sL 6 5 5,sL 10 5 5,sL 14 5 5] : KObj)) /\ (someR (.cells true 1 [nI 0,nI 1,nI 2,nI 3,nI 4] : KObj)) /\ (someR (.cells true 1 [nI 4,nI 3,nI 2,nI 1,nI 0] : KObj)) /\ (someR (.cells true 1 [nI 2,nI 1,nI 0,nI 1,nI 2] : KObj)) /\ True) /\ (∀ H' : Heap,H'.length = 24 -> (H'[4]? = some (.cells true 0 [nI 5,nI 1,sL 0 5 5,nI 10,sL 1 3 3,sL 16 3 3] : KObj) /\ H'[23]? = some (.cells true 1 [nI 0,nI 1,nI 2] : KObj) /\ H'[0]? = some (.cells false 0 [.bool false,.bool false,.bool false,.bool false,.bool false] : KObj) /\ H'[1]? = some (.cells false 0 [nI 0,nI 0,nI 30,nI 4,nI 40,nI 2] : KObj) /\ H'[16]? = some (.cells true 1 [sL 6 5 5,sL 10 5 5,sL 14 5 5] : KObj) /\ H'[6]? = some (.cells true 1 [nI 0,nI 1,nI 2,nI 3,nI 4] : KObj) /\ H'[10]? = some (.cells true 1 [nI 4,nI 3,nI 2,nI 1,nI 0] : KObj) /\ H'[14]? = some (.cells true 1 [nI 2,nI 1,nI 0,nI 1,nI 2] : KObj) /\ True) -> /-N ⟨⟨rfl,rfl,rfl,rfl,rfl,rfl,rfl,rfl,trivial⟩,fun H' _ h => C83_733418866 [4,23,0,1,16,6,10,14] ⟨⟨_,_,h.1⟩,⟨_,_,h.2.1⟩,⟨_,_,h.2.2.1⟩,⟨_,_,h.2.2.2.1⟩,⟨_,_,h.2.2.2.2.1⟩,⟨_,_,h.2.2.2.2.2.1⟩,⟨_,_,h.2.2.2.2.2.2.1⟩,⟨_,_,h.2.2.2.2.2.2.2.1⟩,trivial⟩,REST⟩-/KCall prog 83 [.pointer (some ⟨4,0,none⟩),sL 23 3 3] H' [] (Is (nI 2) H')) /\ (((someR (.cells true 0 [nI 5,nI 1,sL 0 5 5,nI 10,sL 1 3 3,sL 16 3 3] : KObj)) /\ (someR (.cells true 1 [nI 0,nI 2,nI 0] : KObj)) /\ (someR (.cells false 0 [.bool false,.bool false,.bool false,.bool false,.bool false] : KObj)) /\ (someR (.cells false 0 [nI 0,nI 0,nI 30,nI 4,nI 40,nI 2] : KObj)) /\ (someR (.cells true 1 [sL 6 5 5,sL 10 5 5,sL 14 5 5] : KObj)) /\ (someR (.cells true 1 [nI 0,nI 1,nI 2,nI 3,nI 4] : KObj)) /\ (someR (.cells true 1 [nI 4,nI 3,nI 2,nI 1,nI 0] : KObj)) /\ (someR (.cells true 1 [nI 2,nI 1,nI 0,nI 1,nI 2] : KObj)) /\ True) /\ (∀ H' : Heap,H'.length = 27 -> (H'[4]? = some (.cells true 0 [nI 5,nI 1,sL 0 5 5,nI 10,sL 1 3 3,sL 16 3 3] : KObj) /\ H'[26]? = some (.cells true 1 [nI 0,nI 2,nI 0] : KObj) /\ H'[0]? = some (.cells false 0 [.bool false,.bool false,.bool false,.bool false,.bool false] : KObj) /\ H'[1]? = some (.cells false 0 [nI 0,nI 0,nI 30,nI 4,nI 40,nI 2] : KObj) /\ H'[16]? = some (.cells true 1 [sL 6 5 5,sL 10 5 5,sL 14 5 5] : KObj) /\ H'[6]? = some (.cells true 1 [nI 0,nI 1,nI 2,nI 3,nI 4] : KObj) /\ H'[10]? = some (.cells true 1 [nI 4,nI 3,nI 2,nI 1,nI 0] : KObj) /\ H'[14]? = some (.cells true 1 [nI 2,nI 1,nI 0,nI 1,nI 2] : KObj) /\ True) -> /-N ⟨⟨rfl,rfl,rfl,rfl,rfl,rfl,rfl,rfl,trivial⟩,fun H' _ h => C83_276827979 [4,26,0,1,16,6,10,14] ⟨⟨_,_,h.1⟩,⟨_,_,h.2.1⟩,⟨_,_,h.2.2.1⟩,⟨_,_,h.2.2.2.1⟩,⟨_,_,h.2.2.2.2.1⟩,⟨_,_,h.2.2.2.2.2.1⟩,⟨_,_,h.2.2.2.2.2.2.1⟩,⟨_,_,h.2.2.2.2.2.2.2.1⟩,trivial⟩,REST⟩-/KCall prog 83 [.pointer (some ⟨4,0,none⟩),sL 26 2 3] H' [] (Is (nI 2) H')) /\ (((someR (.cells true 0 [nI 5,nI 1,sL 0 5 5,nI 10,sL 1 3 3,sL 16 3 3] : KObj)) /\ (someR (.cells true 1 [nI 0,nI 2] : KObj)) /\ (someR (.cells false 0 [.bool false,.bool false,.bool false,.bool false,.bool false] : KObj)) /\ (someR (.cells false 0 [nI 0,nI 0,nI 30,nI 4,nI 40,nI 2] : KObj)) /\ (someR (.cells true 1 [sL 6 5 5,sL 10 5 5,sL 14 5 5] : KObj)) /\ (someR (.cells true 1 [nI 0,nI 1,nI 2,nI 3,nI 4] : KObj)) /\ (someR (.cells true 1 [nI 4,nI 3,nI 2,nI 1,nI 0] : KObj)) /\ (someR (.cells true 1 [nI 2,nI 1,nI 0,nI 1,nI 2] : KObj)) /\ True) /\ (∀ H' : Heap,H'.length = 37 -> (H'[4]? = some (.cells true 0 [nI 5,nI 1,sL 0 5 5,nI 10,sL 1 3 3,sL 16 3 3] : KObj) /\ H'[36]? = some (.cells true 1 [nI 0,nI 2] : KObj) /\ H'[0]? = some (.cells false 0 [.bool false,.bool false,.bool false,.bool false,.bool false] : KObj) /\ H'[1]? = some (.cells false 0 [nI 0,nI 0,nI 30,nI 4,nI 40,nI 2] : KObj) /\ H'[16]? = some (.cells true 1 [sL 6 5 5,sL 10 5 5,sL 14 5 5] : KObj) /\ H'[6]? = some (.cells true 1 [nI 0,nI 1,nI 2,nI 3,nI 4] : KObj) /\ H'[10]? = some (.cells true 1 [nI 4,nI 3,nI 2,nI 1,nI 0] : KObj) /\ H'[14]? = some (.cells true 1 [nI 2,nI 1,nI 0,nI 1,nI 2] : KObj) /\ True) -> /-N ⟨⟨rfl,rfl,rfl,rfl,rfl,rfl,rfl,rfl,trivial⟩,fun H' _ h => C83_671112452 [4,36,0,1,16,6,10,14] ⟨⟨_,_,h.1⟩,⟨_,_,h.2.1⟩,⟨_,_,h.2.2.1⟩,⟨_,_,h.2.2.2.1⟩,⟨_,_,h.2.2.2.2.1⟩,⟨_,_,h.2.2.2.2.2.1⟩,⟨_,_,h.2.2.2.2.2.2.1⟩,⟨_,_,h.2.2.2.2.2.2.2.1⟩,trivial⟩,REST⟩-/KCall prog 83 [.pointer (some ⟨4,0,none⟩),sL 36 2 2] H' [] (Is (nI 2) H')) /\ (true = true /\ wk (.tuple #[sL 38 3 3,nI 0] : Value) (rn (sg 2 [(2,38)]) 3 (.tuple #[sL 2 3 3,nI 0] : Value)) /\ (wkO (.cells true 1 [.bool true,.bool false,.bool true] : KObj) (rno (sg 2 [(2,38)]) 3 (.cells true 1 [.bool true,.bool false,.bool true] : KObj)) /\ True)))))))))
theorem E24_956383489 : vF prog msk (dm 0) 100000 true 40 true 24 [.agg #[nI 5,nI 1,sL 0 5 5,nI 10,sL 1 3 3]] (readsT 0 [[.bool false,.bool false,.bool false,.bool false,.bool false],[nI 0,nI 0,nI 30,nI 4,nI 40,nI 2]]) (some [])
 (.go 8 (.ans [(0,.cells false 0 [.bool false,.bool false,.bool false,.bool false,.bool false]),(1,.cells false 0 [nI 0,nI 0,nI 30,nI 4,nI 40,nI 2])] (nI 0) [] (.go 30 (.ans [(0,.cells false 0 [.bool false,.bool false,.bool false,.bool false,.bool false])] (sL 6 5 5) [.cells true 1 [nI 0,nI 1,nI 2,nI 3,nI 4]] (.into (some [3,4,5,6]) (.go 28 (.ans [(0,.cells false 0 [.bool false,.bool false,.bool false,.bool false,.bool false])] (sL 10 5 5) [.cells true 1 [nI 4,nI 3,nI 2,nI 1,nI 0]] (.into (some (List.range' 3 8)) (.go 28 (.ans [(0,.cells false 0 [.bool false,.bool false,.bool false,.bool false,.bool false])] (sL 14 5 5) [.cells true 1 [nI 2,nI 1,nI 0,nI 1,nI 2]] (.into (some (List.range' 3 12)) (.go 77 (.ans [(4,.cells true 0 [nI 5,nI 1,sL 0 5 5,nI 10,sL 1 3 3,sL 16 3 3]),(23,.cells true 1 [nI 0,nI 1,nI 2]),(0,.cells false 0 [.bool false,.bool false,.bool false,.bool false,.bool false]),(1,.cells false 0 [nI 0,nI 0,nI 30,nI 4,nI 40,nI 2]),(16,.cells true 1 [sL 6 5 5,sL 10 5 5,sL 14 5 5]),(6,.cells true 1 [nI 0,nI 1,nI 2,nI 3,nI 4]),(10,.cells true 1 [nI 4,nI 3,nI 2,nI 1,nI 0]),(14,.cells true 1 [nI 2,nI 1,nI 0,nI 1,nI 2])] (nI 2) [] (.go 24 (.into (some (List.range' 2 25)) (.go 367 (.ans [(4,.cells true 0 [nI 5,nI 1,sL 0 5 5,nI 10,sL 1 3 3,sL 16 3 3]),(26,.cells true 1 [nI 0,nI 2,nI 0]),(0,.cells false 0 [.bool false,.bool false,.bool false,.bool false,.bool false]),(1,.cells false 0 [nI 0,nI 0,nI 30,nI 4,nI 40,nI 2]),(16,.cells true 1 [sL 6 5 5,sL 10 5 5,sL 14 5 5]),(6,.cells true 1 [nI 0,nI 1,nI 2,nI 3,nI 4]),(10,.cells true 1 [nI 4,nI 3,nI 2,nI 1,nI 0]),(14,.cells true 1 [nI 2,nI 1,nI 0,nI 1,nI 2])] (nI 2) [] (.go 30 (.into (some (List.range' 2 30)) (.go 280 (.into (some (List.range' 2 30)) (.go 76 (.into (some (List.range' 2 35)) (.go 257 (.ans [(4,.cells true 0 [nI 5,nI 1,sL 0 5 5,nI 10,sL 1 3 3,sL 16 3 3]),(36,.cells true 1 [nI 0,nI 2]),(0,.cells false 0 [.bool false,.bool false,.bool false,.bool false,.bool false]),(1,.cells false 0 [nI 0,nI 0,nI 30,nI 4,nI 40,nI 2]),(16,.cells true 1 [sL 6 5 5,sL 10 5 5,sL 14 5 5]),(6,.cells true 1 [nI 0,nI 1,nI 2,nI 3,nI 4]),(10,.cells true 1 [nI 4,nI 3,nI 2,nI 1,nI 0]),(14,.cells true 1 [nI 2,nI 1,nI 0,nI 1,nI 2])] (nI 2) [] (.go 19 (.again [(2,38)])))))))))))))))))))))))))))
 (newK (readsT 0 [[.bool false,.bool false,.bool false,.bool false,.bool false],[nI 0,nI 0,nI 30,nI 4,nI 40,nI 2]]).n 3 (.tuple #[sL 2 3 3,nI 0]) [(false,.cells true 1 [.bool true,.bool false,.bool true])]) = R24_956383489:=by kernel_rfl
theorem P24_956383489 : R24_956383489:=⟨⟨rfl,rfl,trivial⟩,fun H' _ h => C41_956383489 [0,1] ⟨⟨_,_,h.1⟩,⟨_,_,h.2.1⟩,trivial⟩,⟨⟨rfl,trivial⟩,fun H' hl h => (by have k:=C114_868361596 (H:=H') [0] ⟨⟨_,_,h.1⟩,trivial⟩; rw [hl] at k; exact k),⟨⟨rfl,trivial⟩,fun H' hl h => (by have k:=C114_16177380 (H:=H') [0] ⟨⟨_,_,h.1⟩,trivial⟩; rw [hl] at k; exact k),⟨⟨rfl,trivial⟩,fun H' hl h => (by have k:=C114_391959661 (H:=H') [0] ⟨⟨_,_,h.1⟩,trivial⟩; rw [hl] at k; exact k),⟨⟨rfl,rfl,rfl,rfl,rfl,rfl,rfl,rfl,trivial⟩,fun H' _ h => C83_733418866 [4,23,0,1,16,6,10,14] ⟨⟨_,_,h.1⟩,⟨_,_,h.2.1⟩,⟨_,_,h.2.2.1⟩,⟨_,_,h.2.2.2.1⟩,⟨_,_,h.2.2.2.2.1⟩,⟨_,_,h.2.2.2.2.2.1⟩,⟨_,_,h.2.2.2.2.2.2.1⟩,⟨_,_,h.2.2.2.2.2.2.2.1⟩,trivial⟩,⟨⟨rfl,rfl,rfl,rfl,rfl,rfl,rfl,rfl,trivial⟩,fun H' _ h => C83_276827979 [4,26,0,1,16,6,10,14] ⟨⟨_,_,h.1⟩,⟨_,_,h.2.1⟩,⟨_,_,h.2.2.1⟩,⟨_,_,h.2.2.2.1⟩,⟨_,_,h.2.2.2.2.1⟩,⟨_,_,h.2.2.2.2.2.1⟩,⟨_,_,h.2.2.2.2.2.2.1⟩,⟨_,_,h.2.2.2.2.2.2.2.1⟩,trivial⟩,⟨⟨rfl,rfl,rfl,rfl,rfl,rfl,rfl,rfl,trivial⟩,fun H' _ h => C83_671112452 [4,36,0,1,16,6,10,14] ⟨⟨_,_,h.1⟩,⟨_,_,h.2.1⟩,⟨_,_,h.2.2.1⟩,⟨_,_,h.2.2.2.1⟩,⟨_,_,h.2.2.2.2.1⟩,⟨_,_,h.2.2.2.2.2.1⟩,⟨_,_,h.2.2.2.2.2.2.1⟩,⟨_,_,h.2.2.2.2.2.2.2.1⟩,trivial⟩,⟨rfl,wk_of_eq rfl,wkO_of_eq rfl,trivial⟩⟩⟩⟩⟩⟩⟩⟩
theorem C24_956383489 {H : Heap} (ids : List Nat) (h : InsA H (sgR 0 ids) ids [[.bool false,.bool false,.bool false,.bool false,.bool false],[nI 0,nI 0,nI 30,nI 4,nI 40,nI 2]]) : KCall prog 24 (([.agg #[nI 5,nI 1,sL 0 5 5,nI 10,sL 1 3 3]] : List Value).map (rn (sgR 0 ids) 3)) H [] (Is (rn (sgUp 2 H.length) 3 (.tuple #[sL 2 3 3,nI 0])) (H ++ [rno (sgUp 2 H.length) 3 (.cells true 1 [.bool true,.bool false,.bool true])])) :=
 valNA (css:=[[.bool false,.bool false,.bool false,.bool false,.bool false],[nI 0,nI 0,nI 30,nI 4,nI 40,nI 2]]) (v:=.tuple #[sL 2 3 3,nI 0]) (new:=[(false,.cells true 1 [.bool true,.bool false,.bool true])]) (Eq.mpr E24_956383489 P24_956383489) rfl rfl rfl rfl ids h.len h.get
end
end Go.Proofs.YtbgfjemppjhmjaaGreat
/- Closed calls of the chapter's examples. Printed by a program. No condition. -/
namespace Go.Proofs.YtbgfjemppjhmjaaGreat
set_option linter.unusedSimpArgs false
open Go Go.K
set_option maxRecDepth 1000000
set_option maxHeartbeats 4000000
set_option linter.unusedVariables false
noncomputable section
attribute [local irreducible] vF
def R18_377635839 : Prop :=
 (((someR (.cells false 0 [.bool false,.bool false,.bool false,.bool false,.bool false] : KObj)) /\ (someR (.cells false 0 [nI 0,nI 0,nI 40,nI 2] : KObj)) /\ True) /\ (∀ H' : Heap,H'.length = 5 -> (H'[0]? = some (.cells false 0 [.bool false,.bool false,.bool false,.bool false,.bool false] : KObj) /\ H'[1]? = some (.cells false 0 [nI 0,nI 0,nI 40,nI 2] : KObj) /\ True) -> /-N ⟨⟨rfl,rfl,trivial⟩,fun H' _ h => C41_417788160 [0,1] ⟨⟨_,_,h.1⟩,⟨_,_,h.2.1⟩,trivial⟩,REST⟩-/KCall prog 41 [.agg #[nI 5,nI 1,sL 0 5 5,nI 10,sL 1 2 2]] H' [] (Is (nI 0) H')) /\ (((someR (.cells false 0 [.bool false,.bool false,.bool false,.bool false,.bool false] : KObj)) /\ True) /\ (∀ H' : Heap,H'.length = 7 -> (H'[0]? = some (.cells false 0 [.bool false,.bool false,.bool false,.bool false,.bool false] : KObj) /\ True) -> /-N ⟨⟨rfl,trivial⟩,fun H' hl h => (by have k:=C114_868361596 (H:=H') [0] ⟨⟨_,_,h.1⟩,trivial⟩; rw [hl] at k; exact k),REST⟩-/KCall prog 114 [.agg #[nI 5,nI 1,sL 0 5 5],nI 0] H' [] (Is (sL 7 5 5) (H' ++ [(.cells true 1 [nI 0,nI 1,nI 2,nI 3,nI 4] : KObj)]))) /\ (((someR (.cells false 0 [.bool false,.bool false,.bool false,.bool false,.bool false] : KObj)) /\ True) /\ (∀ H' : Heap,H'.length = 11 -> (H'[0]? = some (.cells false 0 [.bool false,.bool false,.bool false,.bool false,.bool false] : KObj) /\ True) -> /-N ⟨⟨rfl,trivial⟩,fun H' hl h => (by have k:=C114_391959661 (H:=H') [0] ⟨⟨_,_,h.1⟩,trivial⟩; rw [hl] at k; exact k),REST⟩-/KCall prog 114 [.agg #[nI 5,nI 1,sL 0 5 5],nI 2] H' [] (Is (sL 11 5 5) (H' ++ [(.cells true 1 [nI 2,nI 1,nI 0,nI 1,nI 2] : KObj)]))) /\ (true = true /\ wk (.tuple #[sL 33 2 2,nI 0] : Value) (rn (sg 2 [(2,33)]) 3 (.tuple #[sL 2 2 2,nI 0] : Value)) /\ (wkO (.cells true 1 [nI 1,nI 2] : KObj) (rno (sg 2 [(2,33)]) 3 (.cells true 1 [nI 1,nI 2] : KObj)) /\ True)))))
theorem E18_377635839 : vF prog msk (dm 0) 100000 true 40 true 18 [.agg #[nI 5,nI 1,sL 0 5 5,nI 10,sL 1 2 2],nI 25] (readsT 0 [[.bool false,.bool false,.bool false,.bool false,.bool false],[nI 0,nI 0,nI 40,nI 2]]) (some [])
 (.go 9 (.ans [(0,.cells false 0 [.bool false,.bool false,.bool false,.bool false,.bool false]),(1,.cells false 0 [nI 0,nI 0,nI 40,nI 2])] (nI 0) [] (.go 30 (.ans [(0,.cells false 0 [.bool false,.bool false,.bool false,.bool false,.bool false])] (sL 7 5 5) [.cells true 1 [nI 0,nI 1,nI 2,nI 3,nI 4]] (.into (some [4,5,6,7]) (.go 28 (.ans [(0,.cells false 0 [.bool false,.bool false,.bool false,.bool false,.bool false])] (sL 11 5 5) [.cells true 1 [nI 2,nI 1,nI 0,nI 1,nI 2]] (.into (some (List.range' 4 8)) (.go 1310 (.again [(2,33)]))))))))))
 (newK (readsT 0 [[.bool false,.bool false,.bool false,.bool false,.bool false],[nI 0,nI 0,nI 40,nI 2]]).n 3 (.tuple #[sL 2 2 2,nI 0]) [(false,.cells true 1 [nI 1,nI 2])]) = R18_377635839:=by kernel_rfl
theorem P18_377635839 : R18_377635839:=⟨⟨rfl,rfl,trivial⟩,fun H' _ h => C41_417788160 [0,1] ⟨⟨_,_,h.1⟩,⟨_,_,h.2.1⟩,trivial⟩,⟨⟨rfl,trivial⟩,fun H' hl h => (by have k:=C114_868361596 (H:=H') [0] ⟨⟨_,_,h.1⟩,trivial⟩; rw [hl] at k; exact k),⟨⟨rfl,trivial⟩,fun H' hl h => (by have k:=C114_391959661 (H:=H') [0] ⟨⟨_,_,h.1⟩,trivial⟩; rw [hl] at k; exact k),⟨rfl,wk_of_eq rfl,wkO_of_eq rfl,trivial⟩⟩⟩⟩
theorem C18_377635839 {H : Heap} (ids : List Nat) (h : InsA H (sgR 0 ids) ids [[.bool false,.bool false,.bool false,.bool false,.bool false],[nI 0,nI 0,nI 40,nI 2]]) : KCall prog 18 (([.agg #[nI 5,nI 1,sL 0 5 5,nI 10,sL 1 2 2],nI 25] : List Value).map (rn (sgR 0 ids) 3)) H [] (Is (rn (sgUp 2 H.length) 3 (.tuple #[sL 2 2 2,nI 0])) (H ++ [rno (sgUp 2 H.length) 3 (.cells true 1 [nI 1,nI 2])])) :=
 valNA (css:=[[.bool false,.bool false,.bool false,.bool false,.bool false],[nI 0,nI 0,nI 40,nI 2]]) (v:=.tuple #[sL 2 2 2,nI 0]) (new:=[(false,.cells true 1 [nI 1,nI 2])]) (Eq.mpr E18_377635839 P18_377635839) rfl rfl rfl rfl ids h.len h.get
def R19_643444466 : Prop :=
 (((someR (.cells false 0 [.bool false,.bool false,.bool false,.bool false,.bool false] : KObj)) /\ (someR (.cells false 0 [nI 0,nI 0,nI 40,nI 2] : KObj)) /\ True) /\ (∀ H' : Heap,H'.length = 4 -> (H'[0]? = some (.cells false 0 [.bool false,.bool false,.bool false,.bool false,.bool false] : KObj) /\ H'[1]? = some (.cells false 0 [nI 0,nI 0,nI 40,nI 2] : KObj) /\ True) -> /-N ⟨⟨rfl,rfl,trivial⟩,fun H' _ h => C41_417788160 [0,1] ⟨⟨_,_,h.1⟩,⟨_,_,h.2.1⟩,trivial⟩,REST⟩-/KCall prog 41 [.agg #[nI 5,nI 1,sL 0 5 5,nI 10,sL 1 2 2]] H' [] (Is (nI 0) H')) /\ (((someR (.cells false 0 [.bool false,.bool false,.bool false,.bool false,.bool false] : KObj)) /\ True) /\ (∀ H' : Heap,H'.length = 6 -> (H'[0]? = some (.cells false 0 [.bool false,.bool false,.bool false,.bool false,.bool false] : KObj) /\ True) -> /-N ⟨⟨rfl,trivial⟩,fun H' hl h => (by have k:=C114_868361596 (H:=H') [0] ⟨⟨_,_,h.1⟩,trivial⟩; rw [hl] at k; exact k),REST⟩-/KCall prog 114 [.agg #[nI 5,nI 1,sL 0 5 5],nI 0] H' [] (Is (sL 6 5 5) (H' ++ [(.cells true 1 [nI 0,nI 1,nI 2,nI 3,nI 4] : KObj)]))) /\ (((someR (.cells false 0 [.bool false,.bool false,.bool false,.bool false,.bool false] : KObj)) /\ True) /\ (∀ H' : Heap,H'.length = 10 -> (H'[0]? = some (.cells false 0 [.bool false,.bool false,.bool false,.bool false,.bool false] : KObj) /\ True) -> /-N ⟨⟨rfl,trivial⟩,fun H' hl h => (by have k:=C114_391959661 (H:=H') [0] ⟨⟨_,_,h.1⟩,trivial⟩; rw [hl] at k; exact k),REST⟩-/KCall prog 114 [.agg #[nI 5,nI 1,sL 0 5 5],nI 2] H' [] (Is (sL 10 5 5) (H' ++ [(.cells true 1 [nI 2,nI 1,nI 0,nI 1,nI 2] : KObj)]))) /\ (true = true /\ wk (.tuple #[sL 24 1 1,nI 0] : Value) (rn (sg 2 [(2,24)]) 3 (.tuple #[sL 2 1 1,nI 0] : Value)) /\ (wkO (.cells true 2 [nI 10,nI 30] : KObj) (rno (sg 2 [(2,24)]) 3 (.cells true 2 [nI 10,nI 30] : KObj)) /\ True)))))
theorem E19_643444466 : vF prog msk (dm 0) 100000 true 40 true 19 [.agg #[nI 5,nI 1,sL 0 5 5,nI 10,sL 1 2 2],nI 1] (readsT 0 [[.bool false,.bool false,.bool false,.bool false,.bool false],[nI 0,nI 0,nI 40,nI 2]]) (some [])
 (.go 8 (.ans [(0,.cells false 0 [.bool false,.bool false,.bool false,.bool false,.bool false]),(1,.cells false 0 [nI 0,nI 0,nI 40,nI 2])] (nI 0) [] (.go 30 (.ans [(0,.cells false 0 [.bool false,.bool false,.bool false,.bool false,.bool false])] (sL 6 5 5) [.cells true 1 [nI 0,nI 1,nI 2,nI 3,nI 4]] (.into (some [3,4,5,6]) (.go 28 (.ans [(0,.cells false 0 [.bool false,.bool false,.bool false,.bool false,.bool false])] (sL 10 5 5) [.cells true 1 [nI 2,nI 1,nI 0,nI 1,nI 2]] (.into (some (List.range' 3 8)) (.go 372 (.into (some (List.range' 2 17)) (.go 29 (.into (some (List.range' 2 17)) (.go 12 (.into (some (List.range' 2 17)) (.go 155 (.again [(2,24)]))))))))))))))))
 (newK (readsT 0 [[.bool false,.bool false,.bool false,.bool false,.bool false],[nI 0,nI 0,nI 40,nI 2]]).n 3 (.tuple #[sL 2 1 1,nI 0]) [(false,.cells true 2 [nI 10,nI 30])]) = R19_643444466:=by kernel_rfl
theorem P19_643444466 : R19_643444466:=⟨⟨rfl,rfl,trivial⟩,fun H' _ h => C41_417788160 [0,1] ⟨⟨_,_,h.1⟩,⟨_,_,h.2.1⟩,trivial⟩,⟨⟨rfl,trivial⟩,fun H' hl h => (by have k:=C114_868361596 (H:=H') [0] ⟨⟨_,_,h.1⟩,trivial⟩; rw [hl] at k; exact k),⟨⟨rfl,trivial⟩,fun H' hl h => (by have k:=C114_391959661 (H:=H') [0] ⟨⟨_,_,h.1⟩,trivial⟩; rw [hl] at k; exact k),⟨rfl,wk_of_eq rfl,wkO_of_eq rfl,trivial⟩⟩⟩⟩
theorem C19_643444466 {H : Heap} (ids : List Nat) (h : InsA H (sgR 0 ids) ids [[.bool false,.bool false,.bool false,.bool false,.bool false],[nI 0,nI 0,nI 40,nI 2]]) : KCall prog 19 (([.agg #[nI 5,nI 1,sL 0 5 5,nI 10,sL 1 2 2],nI 1] : List Value).map (rn (sgR 0 ids) 3)) H [] (Is (rn (sgUp 2 H.length) 3 (.tuple #[sL 2 1 1,nI 0])) (H ++ [rno (sgUp 2 H.length) 3 (.cells true 2 [nI 10,nI 30])])) :=
 valNA (css:=[[.bool false,.bool false,.bool false,.bool false,.bool false],[nI 0,nI 0,nI 40,nI 2]]) (v:=.tuple #[sL 2 1 1,nI 0]) (new:=[(false,.cells true 2 [nI 10,nI 30])]) (Eq.mpr E19_643444466 P19_643444466) rfl rfl rfl rfl ids h.len h.get
end
end Go.Proofs.YtbgfjemppjhmjaaGreat
/- Radio: the examples of the chapter (awake). No condition. -/
namespace Go.Proofs.YtbgfjemppjhmjaaGreat
open Go Go.K
set_option maxRecDepth 100000
set_option linter.unusedVariables false
set_option linter.unusedSimpArgs false
noncomputable section
attribute [local irreducible] vF
theorem hvAwake : Rawake (.bool true) := by
 unfold Rawake
 refine ⟨trivial, fun H' hl h => ?_, ⟨rfl, rfl, trivial⟩, fun H' hl h => ?_, ⟨rfl, rfl, trivial⟩, fun H' hl h => ?_, ⟨rfl, rfl, trivial⟩, fun H' hl h => ?_, ⟨rfl, rfl, trivial⟩, fun H' hl h => ?_, ⟨rfl, rfl, trivial⟩, fun H' hl h => ?_, ⟨rfl, rfl, trivial⟩, fun H' hl h => ?_, ⟨rfl, rfl, trivial⟩, fun H' hl h => ?_, ⟨rfl, rfl, trivial⟩, fun H' hl h => ?_, ⟨rfl, rfl, trivial⟩, fun H' hl h => ?_, rfl⟩
 ·have := kNew H'
  rw [hl] at this; exact this
 ·have := kAdd [] mA h.1 h.2.1
  rw [show addL [] mA = [mA] by decide, show addB [] mA = true by decide, show addErr [] mA = 0 by decide] at this; exact this
 ·have := kAdd [mA] mB h.1 h.2.1
  rw [show addL [mA] mB = [mA, mB] by decide, show addB [mA] mB = true by decide, show addErr [mA] mB = 0 by decide] at this; exact this
 ·have := kLive okAB (by decide) (H := H') (by decide) h.1 h.2.1
  rw [hl, liveAB] at this; exact this
 ·have := kGaps (a := 1) okAB (by decide) (by decide) (by decide) (H := H') (by decide) h.1 h.2.1
  rw [hl, gapsAB] at this; exact this
 ·have := kAdd [mA, mB] mC h.1 h.2.1
  rw [show addL [mA, mB] mC = [mA, mB, mC] by decide, show addB [mA, mB] mC = true by decide, show addErr [mA, mB] mC = 0 by decide] at this; exact this
 ·have := kLive okABC (by decide) (H := H') (by decide) h.1 h.2.1
  rw [hl, liveABC] at this; exact this
 ·have k := C24_956383489 (H := H') [15, 21] ⟨⟨_, _, h.1⟩, ⟨_, _, h.2.1⟩, trivial⟩
  rw [hl] at k; exact k
 ·have k := C18_377635839 (H := H') [15, 25] ⟨⟨_, _, h.1⟩, ⟨_, _, h.2.1⟩, trivial⟩
  rw [hl] at k; exact k
 ·have k := C19_643444466 (H := H') [15, 25] ⟨⟨_, _, h.1⟩, ⟨_, _, h.2.1⟩, trivial⟩
  rw [hl] at k; exact k
theorem kAwake (H : Heap) : KCall prog 14 [] H [] (Is (.bool true) H) :=
 valB (v := .bool true) (css := []) (ids := []) (Eq.mpr (Eawake _) hvAwake) (hv := rfl) (hi := trivial) (ha := rfl)
end
end Go.Proofs.YtbgfjemppjhmjaaGreat
/- What is to be shown of functions. Printed by a program. No condition. -/
namespace Go.Proofs.YtbgfjemppjhmjaaGreat
set_option linter.unusedSimpArgs false
open Go Go.K
set_option maxRecDepth 100000
set_option maxHeartbeats 4000000
set_option linter.unusedVariables false
noncomputable section
def RNone (sp : Value) (m : Msg) (a c s q : Int) : Prop :=
 ((True) /\ (∀ H' : Heap, H'.length = 11 -> (True) -> KCall prog 14 [] H' [] (Is (.bool true) H')) /\ (.bool true : Value) = sp)
theorem ENone (sp : Value) (m : Msg) (a c s q : Int) : vF prog msk (dm 0) 100000 true 40 true 11 [.agg #[.int .i64 m.au, .int .i64 m.nu, .int .i64 m.at_, .int .i64 m.ki, .int .i64 m.sh, .int .i64 m.ce, .int .i64 m.va], .int .i64 a, .int .i64 c, .int .i64 s, .int .i64 q] ⟨0, .leaf⟩ (some [])
 (.go 1072 (.ans [] (.bool true) [] (.auto)))
 (fun v _ _ => v = sp) = RNone sp m a c s q := by kernel_rfl
end
end Go.Proofs.YtbgfjemppjhmjaaGreat
/- Radio: a picture that is none: the law. No condition. -/
namespace Go.Proofs.YtbgfjemppjhmjaaGreat
set_option linter.unusedSimpArgs false
open Go Go.K
set_option maxRecDepth 100000
set_option linter.unusedVariables false
noncomputable section
attribute [local irreducible] vF
theorem kNoneLaw (m : Msg) (a c s q : Int) (H : Heap) : KCall prog 11 [msgV m, .int .i64 a, .int .i64 c, .int .i64 s, .int .i64 q] H [] (Is (.bool true) H) := by
 refine valB (v := .bool true) (css := []) (ids := []) (Eq.mpr (ENone _ m a c s q) ?_) (hv := rfl) (hi := trivial) (ha := rfl)
 exact ⟨trivial, fun H' _ _ => kAwake H', rfl⟩
end
end Go.Proofs.YtbgfjemppjhmjaaGreat
/- Flat arguments among those whose lists are said by their values. No condition. -/
namespace Go.K
set_option linter.unusedSimpArgs false
open Go Go.ChangeShapes Go.WideShapes Go.ChangeAt Go.RowKit
set_option linter.unusedVariables false
variable {P : Program}
theorem flatI_good2 {H : Heap} : ∀ (n : Nat) (t : TypeId) (k : Nat) (cs : List Value), flatI P n t = some k -> Good2 P H n t cs -> ∃ ns : List Int, cs = ns.map (.int .i64) /\ ns.length = k /\ ∀ x ∈ ns, inI x := by
 intro n
 induction n with
 | zero => intro t k cs h; cases h
 | succ n ih =>
  intro t k cs h g
  unfold flatI at h
  unfold Good2 at g
  cases hu : P.underlying t with
  | none => rw [hu] at h; cases h
  | some d =>
   rw [hu] at h g
   cases d <;> try (cases h; done)
   ·rename_i ik
    cases ik <;> try (cases h; done)
    cases h
    obtain ⟨x, rfl, h1, h2⟩ := g
    refine ⟨[x], rfl, rfl, fun y hy => ?_⟩
    rw [List.mem_singleton] at hy; subst hy
    simp only [IntKind.min, IntKind.max, IntKind.signed, IntKind.bits] at h1 h2
    unfold inI
    simp at h1 h2
    omega
   ·rename_i fs
    simp only at h g
    have key : ∀ (fs : List Field) (k : Nat) (cs : List Value), fs.foldr (fun f r => match flatI P n f.type, r with | some a, some b => some (a + b) | _, _ => none) (some 0) = some k ->
      GoodL (Good2 P H n) (fs.map (·.type)) cs -> ∃ ns : List Int, cs = ns.map (.int .i64) /\ ns.length = k /\ ∀ x ∈ ns, inI x := by
     intro fs
     induction fs with
     | nil => intro k cs h g; cases h; exact ⟨[], g, rfl, fun _ h => by cases h⟩
     | cons f fs ihf =>
      intro k cs h g
      rw [List.foldr_cons] at h
      obtain ⟨c, rest, rfl, g1, g2⟩ := g
      cases ha : flatI P n f.type with
      | none => rw [ha] at h; cases h
      | some a =>
       cases hb : fs.foldr (fun f r => match flatI P n f.type, r with | some a, some b => some (a + b) | _, _ => none) (some 0) with
       | none => rw [ha, hb] at h; cases h
       | some b =>
        rw [ha, hb] at h
        cases h
        obtain ⟨n1, rfl, l1, m1⟩ := ih _ _ _ ha g1
        obtain ⟨n2, rfl, l2, m2⟩ := ihf _ _ hb g2
        exact ⟨n1 ++ n2, by simp, by simp [l1, l2], fun x hx => by rcases List.mem_append.1 hx with h | h; exact m1 x h; exact m2 x h⟩
    exact key _ _ _ h g
end Go.K
/- How laws' arguments are read. No condition. -/
namespace Go.Proofs.YtbgfjemppjhmjaaGreat
set_option linter.unusedSimpArgs false
open Go Go.K Go.ChangeShapes Go.WideShapes Go.ChangeAt Go.RowKit
set_option maxRecDepth 100000
set_option linter.unusedVariables false
noncomputable section
theorem own : ownKnob Tryz.prog.godebug = none := by kernel_rfl
theorem sized : slicesSized Tryz.prog = true := by kernel_rfl
abbrev known (t : TypeId) : Prop := t < Tryz.prog.types.size
theorem kids : Kids Tryz.prog known := kids_rows (by kernel_rfl) (by kernel_rfl)
theorem goodA2_cons {H : Heap} {n : Nat} {t : TypeId} {ts : List TypeId} {vs : List Value} (h : GoodA2 Tryz.prog H n (t :: ts) vs) : ∃ v vs', vs = v :: vs' /\ GoodV2 Tryz.prog H n t v /\ GoodA2 Tryz.prog H n ts vs' := by
 cases vs with
 | nil => exact h.elim
 | cons v vs => exact ⟨v, vs, rfl, h.1, h.2⟩
theorem goodA2_nil {H : Heap} {n : Nat} {vs : List Value} (h : GoodA2 Tryz.prog H n [] vs) : vs = [] := by
 cases vs with
 | nil => rfl
 | cons v vs => exact h.elim
theorem good2_int {H : Heap} {v : Value} (h : GoodV2 Tryz.prog H 6 3 v) : ∃ x : Int, v = .int .i64 x /\ inI x := by
 have hu : Tryz.prog.underlying 3 = some (.int .i64) := by kernel_rfl
 unfold GoodV2 at h
 rw [hu] at h
 obtain ⟨ns, h1, h2, h3⟩ := flatI_good2 6 3 1 [v] (by unfold flatI; rw [hu]) h
 match ns, h2 with
 | [x], _ => exact ⟨x, by simpa using h1, h3 x (by simp)⟩
theorem good2_flat {H : Heap} {t : TypeId} {v : Value} (n : Nat) (hu : (match Tryz.prog.underlying t with | some (.struct _) => true | _ => false) = true) (hf : flatI Tryz.prog 6 t = some n) (h : GoodV2 Tryz.prog H 6 t v) :
  ∃ ns : List Int, v = .agg ⟨ns.map (.int .i64)⟩ /\ ns.length = n /\ ∀ x ∈ ns, inI x := by
 unfold GoodV2 at h
 split at hu
 ·rename_i fs e
  rw [e] at h
  obtain ⟨cs, rfl, h⟩ := h
  obtain ⟨ns, rfl, h2, h3⟩ := flatI_good2 6 t n cs hf h
  exact ⟨ns, rfl, h2, h3⟩
 ·cases hu
theorem msg_read2 {H : Heap} {v : Value} (h : GoodV2 Tryz.prog H 6 117 v) : ∃ m : Msg, v = msgV m := by
 obtain ⟨ns, rfl, h2, _⟩ := good2_flat 7 (by kernel_rfl) (by kernel_rfl) h
 match ns, h2 with
 | [a, b, c, d, e, f, g], _ => exact ⟨⟨a, b, c, d, e, f, g⟩, rfl⟩
end
end Go.Proofs.YtbgfjemppjhmjaaGreat
