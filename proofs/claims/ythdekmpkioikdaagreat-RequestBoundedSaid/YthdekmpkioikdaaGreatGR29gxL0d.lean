/- What is to be shown of functions. Printed by a program. No condition. -/
import Derived.Test.YthdekmpkioikdaaGreatGR23xR29a
import Derived.Test.YthdekmpkioikdaaGreatGR4xZ1
import Derived.Test.YthdekmpkioikdaaGreatRows
import Derived.JoinedCond
import Derived.Test.YthdekmpkioikdaaGreatGK27xR1
namespace Go.Proofs.YthdekmpkioikdaaGreat
set_option linter.unusedSimpArgs false
open Go Go.K
set_option maxRecDepth 100000
set_option maxHeartbeats 4000000
set_option linter.unusedVariables false
noncomputable section
abbrev ju6 (L : List Int) : Value:=.agg ⟨(L.flatMap intC)⟩
abbrev jul (L : List Int) : Value:=.agg #[slQ 1 1 (List.length (mkF L).t),slQ 2 1 (List.length (mkF L).b)]
abbrev jud (L : List Int) : List Value:=[.iface (L.length + 1) (ju6 L),nI (mkA L)]
abbrev juc (L : List Int):=List.flatMap intC (mkF L).b
abbrev jub (L : List Int) : List Value:=[.iface (L.length + 1) (ju6 L),nI (mkB L 25)]
abbrev juj (L : List Int) : Value:=.agg #[nI (mkP L 25).ov,nI (mkP L 25).warn,nI (mkP L 25).w0,nI (mkP L 25).w1,nI (mkP L 25).w2]
abbrev juk : Int:=(0 : Nat)
abbrev jua (y : Int) (L : List Int) : Prop:=(nI y : Value) = nI y /\ (.bool false : Value) = .bool false /\ (.pointer (some ⟨3,0,none⟩) : Value) = .pointer (some ⟨3,0,none⟩) /\ (.pointer (some ⟨5,0,none⟩) : Value) = .pointer (some ⟨5,0,none⟩) /\ wkR (slQ 4 1 (mkQ L 25).length) /\ (nI 0 : Value) = nI 0 /\ True
abbrev jue : Prop:=(True) /\ (True) /\ (True)
abbrev jug (L : List Int) : Int:=((List.length (mkF L).t) : Nat)
abbrev ju7 (L : List Int) (y : Int) (n_0 : Nat) : Prop:=(nI 0 : Value) = nI 0 /\ wkR (slQ 4 1 (mkQ L 25).length) /\ (.pointer (some ⟨5,0,none⟩) : Value) = .pointer (some ⟨5,0,none⟩) /\ (.pointer (some ⟨3,0,none⟩) : Value) = .pointer (some ⟨3,0,none⟩) /\ (.bool false : Value) = .bool false /\ (nI y : Value) = nI y /\ (nI (n_0 : Int) : Value) = nI (n_0 : Int) /\ True
abbrev juf (L : List Int) (n_0 : Nat):=List.getD (mkF L).t n_0 []
abbrev ju8 (L : List Int) (y : Int) (n_0 : Nat) : Prop:=wkR (slQ 4 1 (mkQ L 25).length) /\ (.pointer (some ⟨5,0,none⟩) : Value) = .pointer (some ⟨5,0,none⟩) /\ (.pointer (some ⟨3,0,none⟩) : Value) = .pointer (some ⟨3,0,none⟩) /\ (.bool false : Value) = .bool false /\ (nI y : Value) = nI y /\ (nI (farTo (mkF L) n_0) : Value) = nI (farTo (mkF L) n_0) /\ True
abbrev ju9 (L : List Int) : Prop:=(.pointer (some ⟨3,0,none⟩) : Value) = .pointer (some ⟨3,0,none⟩) /\ (.pointer (some ⟨5,0,none⟩) : Value) = .pointer (some ⟨5,0,none⟩) /\ wkR (slQ 4 1 (mkQ L 25).length) /\ (.pointer (some ⟨6,0,none⟩) : Value) = .pointer (some ⟨6,0,none⟩) /\ True
abbrev ju0 (L : List Int) (n_6 : Nat) (i_7 : Int) (sp : Value) (i_5 : Int) (i_4 : Int) (y : Int) (n_3 : Nat) : Prop:=((decide ((((mkH L 25).getD n_6 zeroV).tk : Int) < i_7)) = true -> (.bool false : Value) = sp) /\ ((decide ((((mkH L 25).getD n_6 zeroV).tk : Int) < i_7)) = false -> (true = true /\ (((mkQ L 25).getD (Int.toNat ((mkH L 25).getD n_6 zeroV).rq) zeroQ).at_ + juk <= ((mkH L 25).getD n_6 zeroV).tk) /\ (true = true /\ ((nI i_7 : Value) = nI (((mkQ L 25).getD (Int.toNat ((mkH L 25).getD n_6 zeroV).rq) zeroQ).at_ + juk) /\ (nI i_5 : Value) = nI i_5 /\ (nI i_4 : Value) = nI i_4 /\ (.bool (holdOk (mkF L) (mkQ L 25) (mkR L y (n_3 : Int))) : Value) = .bool (holdOk (mkF L) (mkQ L 25) (mkR L y (n_3 : Int))) /\ wkR (slQ 7 2 (mkH L 25).length) /\ (.pointer (some ⟨3,0,none⟩) : Value) = .pointer (some ⟨3,0,none⟩) /\ wkR (slQ 4 1 (mkQ L 25).length) /\ (nI (n_6 : Int) : Value) = nI (n_6 : Int) /\ (.pointer (some ⟨8,0,none⟩) : Value) = .pointer (some ⟨8,0,none⟩) /\ (nI i_7 : Value) = nI i_7 /\ True) /\ jue) /\ (∀ n_8 : Nat,true = true) /\ ∀ n_8 : Nat,(((mkQ L 25).getD (Int.toNat ((mkH L 25).getD n_6 zeroV).rq) zeroQ).at_ + (n_8 : Int) <= ((mkH L 25).getD n_6 zeroV).tk) -> (∃ i_9 : Int,(nI (((mkQ L 25).getD (Int.toNat ((mkH L 25).getD n_6 zeroV).rq) zeroQ).at_ + (n_8 : Int)) : Value) = nI i_9 /\ (((decide ((i_9 : Int) < ((mkH L 25).getD n_6 zeroV).tk)) = true -> (true = true /\ (0 <= List.length (mkH L 25)) /\ (true = true /\ ((nI 0 : Value) = nI juk /\ (nI 0 : Value) = nI (((crN (busyB (mkH L 25) (((mkQ L 25).getD (Int.toNat ((mkH L 25).getD n_6 zeroV).rq) zeroQ).at_ + (n_8 : Int))) 0) : Nat) : Int) /\ (nI i_7 : Value) = nI i_7 /\ (.pointer (some ⟨8,0,none⟩) : Value) = .pointer (some ⟨8,0,none⟩) /\ (nI (n_6 : Int) : Value) = nI (n_6 : Int) /\ wkR (slQ 4 1 (mkQ L 25).length) /\ (.pointer (some ⟨3,0,none⟩) : Value) = .pointer (some ⟨3,0,none⟩) /\ wkR (slQ 7 2 (mkH L 25).length) /\ (.bool (holdOk (mkF L) (mkQ L 25) (mkR L y (n_3 : Int))) : Value) = .bool (holdOk (mkF L) (mkQ L 25) (mkR L y (n_3 : Int))) /\ (nI i_4 : Value) = nI i_4 /\ (nI i_5 : Value) = nI i_5 /\ (nI (((mkQ L 25).getD (Int.toNat ((mkH L 25).getD n_6 zeroV).rq) zeroQ).at_ + (n_8 : Int)) : Value) = nI (((mkQ L 25).getD (Int.toNat ((mkH L 25).getD n_6 zeroV).rq) zeroQ).at_ + (n_8 : Int)) /\ True) /\ jue) /\ (∀ n_10 : Nat,true = true) /\ ∀ n_10 : Nat,(n_10 <= List.length (mkH L 25)) -> (((decide (((n_10 : Int) : Int) < (((mkH L 25).length : Nat) : Int))) = true -> (((0 : Int) <= (n_10 : Int) /\ ((n_10 : Int) : Int) < (((mkH L 25).length : Nat) : Int)) /\ ((((mkH L 25).flatMap svC)[((0 + Int.toNat (n_10 : Int) * 5) + 2)]? = some (nI ((mkH L 25).getD n_10 zeroV).tk)) /\ (∃ i_11 : Int,(nI (((mkQ L 25).getD (Int.toNat ((mkH L 25).getD n_6 zeroV).rq) zeroQ).at_ + (n_8 : Int)) : Value) = nI i_11 /\ (((decide ((((mkH L 25).getD n_10 zeroV).tk : Int) <= i_11)) = true -> (∃ i_12 : Int,(nI (((mkQ L 25).getD (Int.toNat ((mkH L 25).getD n_6 zeroV).rq) zeroQ).at_ + (n_8 : Int)) : Value) = nI i_12 /\ (((0 : Int) <= (n_10 : Int) /\ ((n_10 : Int) : Int) < (((mkH L 25).length : Nat) : Int)) /\ ((((mkH L 25).flatMap svC)[((0 + Int.toNat (n_10 : Int) * 5) + 4)]? = some (nI ((mkH L 25).getD n_10 zeroV).nd)) /\ (((decide ((i_12 : Int) < ((mkH L 25).getD n_10 zeroV).nd)) = true -> (∃ i_13 : Int,(nI (((crN (busyB (mkH L 25) (((mkQ L 25).getD (Int.toNat ((mkH L 25).getD n_6 zeroV).rq) zeroQ).at_ + (n_8 : Int))) n_10) : Nat) : Int) : Value) = nI i_13 /\ ((nI (IntKind.wrap .i64 (i_13 + 1)) : Value) = nI (i_13 + 1) /\ ((nI (IntKind.wrap .i64 ((n_10 : Int) + 1)) : Value) = nI ((n_10 : Int) + 1) /\ (∃ n_14' : Nat,(n_14' <= List.length (mkH L 25)) /\ (List.length (mkH L 25) - n_14') < (List.length (mkH L 25) - n_10) /\ true = true /\ ((nI ((n_10 : Int) + 1) : Value) = nI (n_14' : Int) /\ (nI (i_13 + 1) : Value) = nI (((crN (busyB (mkH L 25) (((mkQ L 25).getD (Int.toNat ((mkH L 25).getD n_6 zeroV).rq) zeroQ).at_ + (n_8 : Int))) n_14') : Nat) : Int) /\ (nI i_7 : Value) = nI i_7 /\ (.pointer (some ⟨8,0,none⟩) : Value) = .pointer (some ⟨8,0,none⟩) /\ (nI (n_6 : Int) : Value) = nI (n_6 : Int) /\ wkR (slQ 4 1 (mkQ L 25).length) /\ (.pointer (some ⟨3,0,none⟩) : Value) = .pointer (some ⟨3,0,none⟩) /\ wkR (slQ 7 2 (mkH L 25).length) /\ (.bool (holdOk (mkF L) (mkQ L 25) (mkR L y (n_3 : Int))) : Value) = .bool (holdOk (mkF L) (mkQ L 25) (mkR L y (n_3 : Int))) /\ (nI i_4 : Value) = nI i_4 /\ (nI i_5 : Value) = nI i_5 /\ (nI (((mkQ L 25).getD (Int.toNat ((mkH L 25).getD n_6 zeroV).rq) zeroQ).at_ + (n_8 : Int)) : Value) = nI (((mkQ L 25).getD (Int.toNat ((mkH L 25).getD n_6 zeroV).rq) zeroQ).at_ + (n_8 : Int)) /\ True) /\ jue))))) /\ ((decide ((i_12 : Int) < ((mkH L 25).getD n_10 zeroV).nd)) = false -> ((nI (IntKind.wrap .i64 ((n_10 : Int) + 1)) : Value) = nI ((n_10 : Int) + 1) /\ (∃ n_13' : Nat,(n_13' <= List.length (mkH L 25)) /\ (List.length (mkH L 25) - n_13') < (List.length (mkH L 25) - n_10) /\ true = true /\ ((nI ((n_10 : Int) + 1) : Value) = nI (n_13' : Int) /\ (nI (((crN (busyB (mkH L 25) (((mkQ L 25).getD (Int.toNat ((mkH L 25).getD n_6 zeroV).rq) zeroQ).at_ + (n_8 : Int))) n_10) : Nat) : Int) : Value) = nI (((crN (busyB (mkH L 25) (((mkQ L 25).getD (Int.toNat ((mkH L 25).getD n_6 zeroV).rq) zeroQ).at_ + (n_8 : Int))) n_13') : Nat) : Int) /\ (nI i_7 : Value) = nI i_7 /\ (.pointer (some ⟨8,0,none⟩) : Value) = .pointer (some ⟨8,0,none⟩) /\ (nI (n_6 : Int) : Value) = nI (n_6 : Int) /\ wkR (slQ 4 1 (mkQ L 25).length) /\ (.pointer (some ⟨3,0,none⟩) : Value) = .pointer (some ⟨3,0,none⟩) /\ wkR (slQ 7 2 (mkH L 25).length) /\ (.bool (holdOk (mkF L) (mkQ L 25) (mkR L y (n_3 : Int))) : Value) = .bool (holdOk (mkF L) (mkQ L 25) (mkR L y (n_3 : Int))) /\ (nI i_4 : Value) = nI i_4 /\ (nI i_5 : Value) = nI i_5 /\ (nI (((mkQ L 25).getD (Int.toNat ((mkH L 25).getD n_6 zeroV).rq) zeroQ).at_ + (n_8 : Int)) : Value) = nI (((mkQ L 25).getD (Int.toNat ((mkH L 25).getD n_6 zeroV).rq) zeroQ).at_ + (n_8 : Int)) /\ True) /\ jue)))))))) /\ ((decide ((((mkH L 25).getD n_10 zeroV).tk : Int) <= i_11)) = false -> ((nI (IntKind.wrap .i64 ((n_10 : Int) + 1)) : Value) = nI ((n_10 : Int) + 1) /\ (∃ n_12' : Nat,(n_12' <= List.length (mkH L 25)) /\ (List.length (mkH L 25) - n_12') < (List.length (mkH L 25) - n_10) /\ true = true /\ ((nI ((n_10 : Int) + 1) : Value) = nI (n_12' : Int) /\ (nI (((crN (busyB (mkH L 25) (((mkQ L 25).getD (Int.toNat ((mkH L 25).getD n_6 zeroV).rq) zeroQ).at_ + (n_8 : Int))) n_10) : Nat) : Int) : Value) = nI (((crN (busyB (mkH L 25) (((mkQ L 25).getD (Int.toNat ((mkH L 25).getD n_6 zeroV).rq) zeroQ).at_ + (n_8 : Int))) n_12') : Nat) : Int) /\ (nI i_7 : Value) = nI i_7 /\ (.pointer (some ⟨8,0,none⟩) : Value) = .pointer (some ⟨8,0,none⟩) /\ (nI (n_6 : Int) : Value) = nI (n_6 : Int) /\ wkR (slQ 4 1 (mkQ L 25).length) /\ (.pointer (some ⟨3,0,none⟩) : Value) = .pointer (some ⟨3,0,none⟩) /\ wkR (slQ 7 2 (mkH L 25).length) /\ (.bool (holdOk (mkF L) (mkQ L 25) (mkR L y (n_3 : Int))) : Value) = .bool (holdOk (mkF L) (mkQ L 25) (mkR L y (n_3 : Int))) /\ (nI i_4 : Value) = nI i_4 /\ (nI i_5 : Value) = nI i_5 /\ (nI (((mkQ L 25).getD (Int.toNat ((mkH L 25).getD n_6 zeroV).rq) zeroQ).at_ + (n_8 : Int)) : Value) = nI (((mkQ L 25).getD (Int.toNat ((mkH L 25).getD n_6 zeroV).rq) zeroQ).at_ + (n_8 : Int)) /\ True) /\ jue)))))))) /\ ((decide (((n_10 : Int) : Int) < (((mkH L 25).length : Nat) : Int))) = false -> (∃ i_11 : Int,(nI (((crN (busyB (mkH L 25) (((mkQ L 25).getD (Int.toNat ((mkH L 25).getD n_6 zeroV).rq) zeroQ).at_ + (n_8 : Int))) n_10) : Nat) : Int) : Value) = nI i_11 /\ ((((i_11 : Int) != (((List.length (mkF L).b) : Nat) : Int)) = true -> (.bool false : Value) = sp) /\ (((i_11 : Int) != (((List.length (mkF L).b) : Nat) : Int)) = false -> (∃ i_12 : Int,(nI (((mkQ L 25).getD (Int.toNat ((mkH L 25).getD n_6 zeroV).rq) zeroQ).at_ + (n_8 : Int)) : Value) = nI i_12 /\ ((nI (IntKind.wrap .i64 (i_12 + 1)) : Value) = nI (i_12 + 1) /\ (∃ n_13' : Nat,(((mkQ L 25).getD (Int.toNat ((mkH L 25).getD n_6 zeroV).rq) zeroQ).at_ + (n_13' : Int) <= ((mkH L 25).getD n_6 zeroV).tk) /\ (Int.toNat (((mkH L 25).getD n_6 zeroV).tk - ((mkQ L 25).getD (Int.toNat ((mkH L 25).getD n_6 zeroV).rq) zeroQ).at_) - n_13') < (Int.toNat (((mkH L 25).getD n_6 zeroV).tk - ((mkQ L 25).getD (Int.toNat ((mkH L 25).getD n_6 zeroV).rq) zeroQ).at_) - n_8) /\ true = true /\ ((nI (i_12 + 1) : Value) = nI (((mkQ L 25).getD (Int.toNat ((mkH L 25).getD n_6 zeroV).rq) zeroQ).at_ + (n_13' : Int)) /\ (nI i_5 : Value) = nI i_5 /\ (nI i_4 : Value) = nI i_4 /\ (.bool (holdOk (mkF L) (mkQ L 25) (mkR L y (n_3 : Int))) : Value) = .bool (holdOk (mkF L) (mkQ L 25) (mkR L y (n_3 : Int))) /\ wkR (slQ 7 2 (mkH L 25).length) /\ (.pointer (some ⟨3,0,none⟩) : Value) = .pointer (some ⟨3,0,none⟩) /\ wkR (slQ 4 1 (mkQ L 25).length) /\ (nI (n_6 : Int) : Value) = nI (n_6 : Int) /\ (.pointer (some ⟨8,0,none⟩) : Value) = .pointer (some ⟨8,0,none⟩) /\ (nI i_7 : Value) = nI i_7 /\ True) /\ jue)))))))))) /\ ((decide ((i_9 : Int) < ((mkH L 25).getD n_6 zeroV).tk)) = false -> ((nI (IntKind.wrap .i64 ((n_6 : Int) + 1)) : Value) = nI ((n_6 : Int) + 1) /\ (∃ n_10' : Nat,(n_10' <= List.length (mkH L 25)) /\ (List.length (mkH L 25) - n_10') < (List.length (mkH L 25) - n_6) /\ true = true /\ ((nI ((n_6 : Int) + 1) : Value) = nI (n_10' : Int) /\ wkR (slQ 4 1 (mkQ L 25).length) /\ (.pointer (some ⟨3,0,none⟩) : Value) = .pointer (some ⟨3,0,none⟩) /\ wkR (slQ 7 2 (mkH L 25).length) /\ (.bool (holdOk (mkF L) (mkQ L 25) (mkR L y (n_3 : Int))) : Value) = .bool (holdOk (mkF L) (mkQ L 25) (mkR L y (n_3 : Int))) /\ (nI i_4 : Value) = nI i_4 /\ (nI i_5 : Value) = nI i_5 /\ True) /\ jue)))))))
abbrev ju2 (L : List Int) (y : Int) (n_3 : Nat) (i_4 : Int) (i_5 : Int) (sp : Value) : Prop:=true = true /\ (0 <= List.length (mkH L 25)) /\ (true = true /\ ((nI 0 : Value) = nI juk /\ wkR (slQ 4 1 (mkQ L 25).length) /\ (.pointer (some ⟨3,0,none⟩) : Value) = .pointer (some ⟨3,0,none⟩) /\ wkR (slQ 7 2 (mkH L 25).length) /\ (.bool (holdOk (mkF L) (mkQ L 25) (mkR L y (n_3 : Int))) : Value) = .bool (holdOk (mkF L) (mkQ L 25) (mkR L y (n_3 : Int))) /\ (nI i_4 : Value) = nI i_4 /\ (nI i_5 : Value) = nI i_5 /\ True) /\ jue) /\ (∀ n_6 : Nat,true = true) /\ ∀ n_6 : Nat,(n_6 <= List.length (mkH L 25)) -> (((decide (((n_6 : Int) : Int) < (((mkH L 25).length : Nat) : Int))) = true -> (((0 : Int) <= (n_6 : Int) /\ ((n_6 : Int) : Int) < (((mkH L 25).length : Nat) : Int)) /\ ((partA 5 ((mkH L 25).flatMap svC) (0 + Int.toNat (n_6 : Int) * 5) = some (.agg #[nI ((mkH L 25).getD n_6 zeroV).rq,nI ((mkH L 25).getD n_6 zeroV).br,nI ((mkH L 25).getD n_6 zeroV).tk,nI ((mkH L 25).getD n_6 zeroV).bg,nI ((mkH L 25).getD n_6 zeroV).nd])) /\ (((decide ((((mkH L 25).getD n_6 zeroV).rq : Int) < 0)) = true -> (.bool false : Value) = sp) /\ ((decide ((((mkH L 25).getD n_6 zeroV).rq : Int) < 0)) = false -> (((decide (((((mkQ L 25).length : Nat) : Int) : Int) <= ((mkH L 25).getD n_6 zeroV).rq)) = true -> (.bool false : Value) = sp) /\ ((decide (((((mkQ L 25).length : Nat) : Int) : Int) <= ((mkH L 25).getD n_6 zeroV).rq)) = false -> (((decide ((((mkH L 25).getD n_6 zeroV).br : Int) < 0)) = true -> (.bool false : Value) = sp) /\ ((decide ((((mkH L 25).getD n_6 zeroV).br : Int) < 0)) = false -> (((decide (((((List.length (mkF L).b) : Nat) : Int) : Int) <= ((mkH L 25).getD n_6 zeroV).br)) = true -> (.bool false : Value) = sp) /\ ((decide (((((List.length (mkF L).b) : Nat) : Int) : Int) <= ((mkH L 25).getD n_6 zeroV).br)) = false -> (((0 : Int) <= ((mkH L 25).getD n_6 zeroV).rq /\ (((mkH L 25).getD n_6 zeroV).rq : Int) < (((mkQ L 25).length : Nat) : Int)) /\ ((((mkQ L 25).flatMap rqC)[((0 + Int.toNat ((mkH L 25).getD n_6 zeroV).rq * 7) + 1)]? = some (nI ((mkQ L 25).getD (Int.toNat ((mkH L 25).getD n_6 zeroV).rq) zeroQ).at_)) /\ (∃ i_7 : Int,(nI ((mkQ L 25).getD (Int.toNat ((mkH L 25).getD n_6 zeroV).rq) zeroQ).at_ : Value) = nI i_7 /\ (((holdOk (mkF L) (mkQ L 25) (mkR L y (n_3 : Int))) = true -> ((((i_5 : Int) == 0) = true -> ((nI (IntKind.wrap .i64 (((mkH L 25).getD n_6 zeroV).tk - i_7)) : Value) = nI (((mkH L 25).getD n_6 zeroV).tk - i_7) /\ (((decide ((i_4 : Int) < (((mkH L 25).getD n_6 zeroV).tk - i_7))) = true -> (.bool false : Value) = sp) /\ ((decide ((i_4 : Int) < (((mkH L 25).getD n_6 zeroV).tk - i_7))) = false -> (ju0 L n_6 i_7 sp i_5 i_4 y n_3))))) /\ (((i_5 : Int) == 0) = false -> (ju0 L n_6 i_7 sp i_5 i_4 y n_3)))) /\ ((holdOk (mkF L) (mkQ L 25) (mkR L y (n_3 : Int))) = false -> (ju0 L n_6 i_7 sp i_5 i_4 y n_3))))))))))))))))) /\ ((decide (((n_6 : Int) : Int) < (((mkH L 25).length : Nat) : Int))) = false -> ((True) /\ (∀ H' : Heap,H'.length = 8 -> (True) -> KCall prog 14 [] H' [] (Is (.bool true) H')) /\ (.bool true : Value) = sp)))
abbrev ju4 (L : List Int) (sp : Value) (n_3 : Nat) (y : Int) : Prop:=((someR (.cells true 1 (inL (mkF L).t))) /\ (someR (.cells true 1 (juc L))) /\ (someR (.cells true 7 ((mkQ L 25).flatMap rqC))) /\ True) /\ (∀ H' : Heap,H'.length = 7 -> (H'[1]? = some (.cells true 1 (inL (mkF L).t) : KObj) /\ H'[2]? = some (.cells true 1 (juc L) : KObj) /\ H'[4]? = some (.cells true 7 ((mkQ L 25).flatMap rqC) : KObj) /\ True) -> KCall prog 29 [.agg #[slQ 1 1 (List.length (mkF L).t),slQ 2 1 (List.length (mkF L).b)],.agg #[nI (mkP L 25).ov,nI (mkP L 25).warn,nI (mkP L 25).w0,nI (mkP L 25).w1,nI (mkP L 25).w2],slQ 4 1 (mkQ L 25).length] H' [] (Is (.tuple #[slQ 7 2 (mkH L 25).length,nI 0]) (H' ++ [(.cells true 5 ((mkH L 25).flatMap svC) : KObj)]))) /\ (((((((mkH L 25).length : Nat) : Int) : Int) != (((mkQ L 25).length : Nat) : Int)) = true -> (.bool false : Value) = sp) /\ ((((((mkH L 25).length : Nat) : Int) : Int) != (((mkQ L 25).length : Nat) : Int)) = false -> (((someR (.cells true 1 (inL (mkF L).t))) /\ (someR (.cells true 1 (juc L))) /\ (someR (.cells true 7 ((mkQ L 25).flatMap rqC))) /\ True) /\ (∀ H' : Heap,H'.length = 8 -> (H'[1]? = some (.cells true 1 (inL (mkF L).t) : KObj) /\ H'[2]? = some (.cells true 1 (juc L) : KObj) /\ H'[4]? = some (.cells true 7 ((mkQ L 25).flatMap rqC) : KObj) /\ True) -> KCall prog 37 [.agg #[slQ 1 1 (List.length (mkF L).t),slQ 2 1 (List.length (mkF L).b)],slQ 4 1 (mkQ L 25).length,.agg #[nI (n_3 : Int),nI (mkR L y 0).period,nI (mkR L y 0).service]] H' [] (Is (.tuple #[.bool (holdOk (mkF L) (mkQ L 25) (mkR L y (n_3 : Int))),nI 0]) H')) /\ (((someR (.cells true 1 (inL (mkF L).t))) /\ (someR (.cells true 1 (juc L))) /\ True) /\ (∀ H' : Heap,H'.length = 8 -> (H'[1]? = some (.cells true 1 (inL (mkF L).t) : KObj) /\ H'[2]? = some (.cells true 1 (juc L) : KObj) /\ True) -> KCall prog 39 [.agg #[slQ 1 1 (List.length (mkF L).t),slQ 2 1 (List.length (mkF L).b)],.agg #[nI (n_3 : Int),nI (mkR L y 0).period,nI (mkR L y 0).service]] H' [] (Is (.tuple #[nI (fBound (mkF L) (mkR L y (n_3 : Int))).1,nI (fBound (mkF L) (mkR L y (n_3 : Int))).2]) H')) /\ (∃ i_4 : Int,(nI (fBound (mkF L) (mkR L y (n_3 : Int))).1 : Value) = nI i_4 /\ (∃ i_5 : Int,(nI (fBound (mkF L) (mkR L y (n_3 : Int))).2 : Value) = nI i_5 /\ ((((i_5 : Int) != 0) = true -> ((((i_5 : Int) != 4) = true -> (.bool false : Value) = sp) /\ (((i_5 : Int) != 4) = false -> (ju2 L y n_3 i_4 i_5 sp)))) /\ (((i_5 : Int) != 0) = false -> (ju2 L y n_3 i_4 i_5 sp)))))))))
def RBndLaw (sp : Value) (L : List Int) (y : Int) : Prop :=
 (((someR (.cells true 0 [.iface (L.length + 1) (ju6 L),nI 0])) /\ True) /\ (∀ H' : Heap,H'.length = 1 -> (H'[0]? = some (.cells true 0 [.iface (L.length + 1) (ju6 L),nI 0] : KObj) /\ True) -> KCall prog 26 [.pointer (some ⟨0,0,none⟩),nI 3] H' [0] (Is (jul L) ((List.set H' 0 (.cells true 0 (jud L) : KObj)) ++ [(.cells true 1 (inL (mkF L).t) : KObj),(.cells true 1 (juc L) : KObj)]))) /\ (((someR (.cells true 0 (jud L))) /\ (someR (.cells true 1 (inL (mkF L).t))) /\ (someR (.cells true 1 (juc L))) /\ True) /\ (∀ H' : Heap,H'.length = 4 -> (H'[0]? = some (.cells true 0 (jud L) : KObj) /\ H'[1]? = some (.cells true 1 (inL (mkF L).t) : KObj) /\ H'[2]? = some (.cells true 1 (juc L) : KObj) /\ True) -> KCall prog 27 [.pointer (some ⟨0,0,none⟩),.agg #[slQ 1 1 (List.length (mkF L).t),slQ 2 1 (List.length (mkF L).b)],nI 25] H' [0] (Is (slQ 4 1 (mkQ L 25).length) ((List.set H' 0 (.cells true 0 (jub L) : KObj)) ++ [(.cells true 7 ((mkQ L 25).flatMap rqC) : KObj)]))) /\ (((someR (.cells true 0 (jub L))) /\ True) /\ (∀ H' : Heap,H'.length = 5 -> (H'[0]? = some (.cells true 0 (jub L) : KObj) /\ True) -> KCall prog 28 [.pointer (some ⟨0,0,none⟩)] H' [0] (Is (juj L) (List.set H' 0 (.cells true 0 [.iface (L.length + 1) (ju6 L),nI (mkB L 25 + 1 + 1 + 1 + 1 + 1)] : KObj)))) /\ (true = true /\ (0 <= List.length (mkF L).t) /\ (true = true /\ ((nI 0 : Value) = nI juk /\ (nI 0 : Value) = nI (farTo (mkF L) 0) /\ jua y L) /\ jue) /\ (∀ n_0 : Nat,true = true) /\ ∀ n_0 : Nat,(n_0 <= List.length (mkF L).t) -> (((decide (((n_0 : Int) : Int) < (jug L))) = true -> (true = true /\ (0 <= List.length (mkF L).t) /\ (true = true /\ ((nI 0 : Value) = nI juk /\ (nI (farTo (mkF L) n_0) : Value) = nI (farAt (mkF L) n_0 0) /\ ju7 L y n_0) /\ jue) /\ (∀ n_1 : Nat,true = true) /\ ∀ n_1 : Nat,(n_1 <= List.length (mkF L).t) -> (((decide (((n_1 : Int) : Int) < (jug L))) = true -> (((0 : Int) <= (n_0 : Int) /\ ((n_0 : Int) : Int) < (jug L)) /\ (((inL (mkF L).t)[(0 + Int.toNat (n_0 : Int) * 1)]? = some (.iface ((juf L n_0).length + 1) (.agg ⟨((juf L n_0).flatMap intC)⟩))) /\ (((0 : Int) <= (n_1 : Int) /\ ((n_1 : Int) : Int) < (((juf L n_0).length : Nat) : Int)) /\ ((((juf L n_0).flatMap intC)[(Int.toNat (n_1 : Int) * 1)]? = some (nI ((juf L n_0).getD n_1 0))) /\ (∃ i_2 : Int,(nI (if (((juf L n_0).getD n_1 0) : Int) > (farAt (mkF L) n_0 n_1) then (((juf L n_0).getD n_1 0) : Int) else (farAt (mkF L) n_0 n_1)) : Value) = nI i_2 /\ ((nI (IntKind.wrap .i64 ((n_1 : Int) + 1)) : Value) = nI ((n_1 : Int) + 1) /\ (∃ n_3' : Nat,(n_3' <= List.length (mkF L).t) /\ (List.length (mkF L).t - n_3') < (List.length (mkF L).t - n_1) /\ true = true /\ ((nI ((n_1 : Int) + 1) : Value) = nI (n_3' : Int) /\ (nI i_2 : Value) = nI (farAt (mkF L) n_0 n_3') /\ ju7 L y n_0) /\ jue)))))))) /\ ((decide (((n_1 : Int) : Int) < (jug L))) = false -> ((nI (IntKind.wrap .i64 ((n_0 : Int) + 1)) : Value) = nI ((n_0 : Int) + 1) /\ (∃ n_2' : Nat,(n_2' <= List.length (mkF L).t) /\ (List.length (mkF L).t - n_2') < (List.length (mkF L).t - n_0) /\ true = true /\ ((nI ((n_0 : Int) + 1) : Value) = nI (n_2' : Int) /\ (nI (farAt (mkF L) n_0 n_1) : Value) = nI (farTo (mkF L) n_2') /\ jua y L) /\ jue)))))) /\ ((decide (((n_0 : Int) : Int) < (jug L))) = false -> (true = true /\ (0 <= List.length (mkQ L 25)) /\ (true = true /\ ((nI 0 : Value) = nI juk /\ (nI 0 : Value) = nI (lenTo (mkQ L 25) 0) /\ ju8 L y n_0) /\ jue) /\ (∀ n_1 : Nat,true = true) /\ ∀ n_1 : Nat,(n_1 <= List.length (mkQ L 25)) -> (((decide (((n_1 : Int) : Int) < (((mkQ L 25).length : Nat) : Int))) = true -> (((0 : Int) <= (n_1 : Int) /\ ((n_1 : Int) : Int) < (((mkQ L 25).length : Nat) : Int)) /\ ((((mkQ L 25).flatMap rqC)[((0 + Int.toNat (n_1 : Int) * 7) + 4)]? = some (nI ((mkQ L 25).getD n_1 zeroQ).len)) /\ (∃ i_2 : Int,(nI (if (((mkQ L 25).getD n_1 zeroQ).len : Int) > (lenTo (mkQ L 25) n_1) then (((mkQ L 25).getD n_1 zeroQ).len : Int) else (lenTo (mkQ L 25) n_1)) : Value) = nI i_2 /\ ((nI (IntKind.wrap .i64 ((n_1 : Int) + 1)) : Value) = nI ((n_1 : Int) + 1) /\ (∃ n_3' : Nat,(n_3' <= List.length (mkQ L 25)) /\ (List.length (mkQ L 25) - n_3') < (List.length (mkQ L 25) - n_1) /\ true = true /\ ((nI ((n_1 : Int) + 1) : Value) = nI (n_3' : Int) /\ (nI i_2 : Value) = nI (lenTo (mkQ L 25) n_3') /\ ju8 L y n_0) /\ jue)))))) /\ ((decide (((n_1 : Int) : Int) < (((mkQ L 25).length : Nat) : Int))) = false -> ((True) /\ (∀ H' : Heap,H'.length = 6 -> (True) -> KCall prog 21 [nI y,nI 30] H' [] (Is (nI (y % 30)) H')) /\ ((nI (IntKind.wrap .i64 (1 + (y % 30))) : Value) = nI (1 + (y % 30)) /\ ((nI (IntKind.wrap .i64 ((farTo (mkF L) n_0) + (lenTo (mkQ L 25) n_1))) : Value) = nI ((farTo (mkF L) n_0) + (lenTo (mkQ L 25) n_1)) /\ (∃ i_2 : Int,(nI (if (1 : Int) > ((farTo (mkF L) n_0) + (lenTo (mkQ L 25) n_1)) then (1 : Int) else ((farTo (mkF L) n_0) + (lenTo (mkQ L 25) n_1))) : Value) = nI i_2 /\ (true = true /\ (0 <= 20) /\ (true = true /\ (ju9 L) /\ ((some (.cells true 0 [nI 0,nI (1 + (y % 30)),nI i_2] : KObj) = some (.cells true 0 [nI juk,nI (mkR L y 0).period,nI (mkR L y 0).service] : KObj) /\ belowO 7 (.cells true 0 [nI juk,nI (mkR L y 0).period,nI (mkR L y 0).service] : KObj) = true) /\ True) /\ (True) /\ (True)) /\ (∀ n_3 : Nat,true = true) /\ ∀ n_3 : Nat,(n_3 <= 20) -> (((decide (((n_3 : Int) : Int) < 20)) = true -> (((someR (.cells true 1 (inL (mkF L).t))) /\ (someR (.cells true 1 (juc L))) /\ (someR (.cells true 7 ((mkQ L 25).flatMap rqC))) /\ True) /\ (∀ H' : Heap,H'.length = 7 -> (H'[1]? = some (.cells true 1 (inL (mkF L).t) : KObj) /\ H'[2]? = some (.cells true 1 (juc L) : KObj) /\ H'[4]? = some (.cells true 7 ((mkQ L 25).flatMap rqC) : KObj) /\ True) -> KCall prog 37 [.agg #[slQ 1 1 (List.length (mkF L).t),slQ 2 1 (List.length (mkF L).b)],slQ 4 1 (mkQ L 25).length,.agg #[nI (n_3 : Int),nI (mkR L y 0).period,nI (mkR L y 0).service]] H' [] (Is (.tuple #[.bool (holdOk (mkF L) (mkQ L 25) (mkR L y (n_3 : Int)) && true),nI 0]) H')) /\ (((holdOk (mkF L) (mkQ L 25) (mkR L y (n_3 : Int)) && true) = true -> (ju4 L sp n_3 y)) /\ ((holdOk (mkF L) (mkQ L 25) (mkR L y (n_3 : Int)) && true) = false -> ((nI (IntKind.wrap .i64 ((n_3 : Int) + 1)) : Value) = nI ((n_3 : Int) + 1) /\ (∃ n_4' : Nat,(n_4' <= 20) /\ (20 - n_4') < (20 - n_3) /\ true = true /\ (ju9 L) /\ ((some (.cells true 0 [nI ((n_3 : Int) + 1),nI (mkR L y 0).period,nI (mkR L y 0).service] : KObj) = some (.cells true 0 [nI (n_4' : Int),nI (mkR L y 0).period,nI (mkR L y 0).service] : KObj) /\ belowO 7 (.cells true 0 [nI (n_4' : Int),nI (mkR L y 0).period,nI (mkR L y 0).service] : KObj) = true) /\ True) /\ (True) /\ (True))))))) /\ ((decide (((n_3 : Int) : Int) < 20)) = false -> (ju4 L sp n_3 y)))))))))))))))))
abbrev juh : Nat × Value:=(6,.pointer (some ⟨3,0,none⟩))
abbrev jui : Nat × Value:=(8,.pointer (some ⟨5,0,none⟩))
abbrev jum (L : List Int) : Nat × Value:=(7,slQ 4 1 (mkQ L 25).length)
abbrev ju1 (L : List Int) (n_6 : Nat) (i_5 : Int) (i_4 : Int) (y : Int) (n_3 : Nat) (i_7 : Int) : Hint:=.fork (.auto) (.go 1 (.inv 3 (Nat) (0) [] [] (fun n_8 => [(25,nI (((mkQ L 25).getD (Int.toNat ((mkH L 25).getD n_6 zeroV).rq) zeroQ).at_ + (n_8 : Int))),(21,nI i_5),(20,nI i_4),(19,.bool (holdOk (mkF L) (mkQ L 25) (mkR L y (n_3 : Int)))),(17,slQ 7 2 (mkH L 25).length),juh,(jum L),(22,nI (n_6 : Int)),(23,.pointer (some ⟨8,0,none⟩)),(24,nI i_7)]) (fun n_8 => []) (fun n_8 => []) (fun n_8 => []) (fun n_8 => (((mkQ L 25).getD (Int.toNat ((mkH L 25).getD n_6 zeroV).rq) zeroQ).at_ + (n_8 : Int) <= ((mkH L 25).getD n_6 zeroV).tk)) (fun n_8 => (Int.toNat (((mkH L 25).getD n_6 zeroV).tk - ((mkQ L 25).getD (Int.toNat ((mkH L 25).getD n_6 zeroV).rq) zeroQ).at_) - n_8)) (fun n_8 => .go 0 (.bind Int (fun i_9 => .slot 198 (nI i_9) (.go 2 (.fork (.go 1 (.inv 3 (Nat) (0) [] [] (fun n_10 => [(27,nI (n_10 : Int)),(26,nI (((crN (busyB (mkH L 25) (((mkQ L 25).getD (Int.toNat ((mkH L 25).getD n_6 zeroV).rq) zeroQ).at_ + (n_8 : Int))) n_10) : Nat) : Int)),(24,nI i_7),(23,.pointer (some ⟨8,0,none⟩)),(22,nI (n_6 : Int)),(jum L),juh,(17,slQ 7 2 (mkH L 25).length),(19,.bool (holdOk (mkF L) (mkQ L 25) (mkR L y (n_3 : Int)))),(20,nI i_4),(21,nI i_5),(25,nI (((mkQ L 25).getD (Int.toNat ((mkH L 25).getD n_6 zeroV).rq) zeroQ).at_ + (n_8 : Int)))]) (fun n_10 => []) (fun n_10 => []) (fun n_10 => []) (fun n_10 => (n_10 <= List.length (mkH L 25))) (fun n_10 => (List.length (mkH L 25) - n_10)) (fun n_10 => .go 3 (.fork (.go 1 (.need (.go 0 (.val (nI ((mkH L 25).getD n_10 zeroV).tk) (.go 0 (.bind Int (fun i_11 => .slot 215 (nI i_11) (.go 1 (.gfork (.go 0 (.bind Int (fun i_12 => .slot 218 (nI i_12) (.go 1 (.need (.go 0 (.val (nI ((mkH L 25).getD n_10 zeroV).nd) (.go 1 (.fork (.go 0 (.bind Int (fun i_13 => .slot 226 (nI i_13) (.go 0 (.slot 227 (nI (i_13 + 1)) (.go 2 (.slot 209 (nI ((n_10 : Int) + 1)) (.go 0 (.again []))))))))) (.go 1 (.slot 209 (nI ((n_10 : Int) + 1)) (.go 0 (.again []))))))))))))) (.go 3 (.slot 209 (nI ((n_10 : Int) + 1)) (.go 0 (.again []))))))))))))) (.go 0 (.bind Int (fun i_11 => .slot 228 (nI i_11) (.go 3 (.fork (.auto) (.go 0 (.bind Int (fun i_12 => .slot 202 (nI i_12) (.go 0 (.slot 203 (nI (i_12 + 1)) (.go 0 (.again [])))))))))))))))) (.go 1 (.slot 144 (nI ((n_6 : Int) + 1)) (.go 0 (.again [])))))))))))
abbrev ju3 (L : List Int) (y : Int) (n_3 : Nat) (i_4 : Int) (i_5 : Int) : Hint:=.inv 3 (Nat) (0) [] [] (fun n_6 => [(22,nI (n_6 : Int)),(jum L),juh,(17,slQ 7 2 (mkH L 25).length),(19,.bool (holdOk (mkF L) (mkQ L 25) (mkR L y (n_3 : Int)))),(20,nI i_4),(21,nI i_5)]) (fun n_6 => []) (fun n_6 => []) (fun n_6 => []) (fun n_6 => (n_6 <= List.length (mkH L 25))) (fun n_6 => (List.length (mkH L 25) - n_6)) (fun n_6 => .go 3 (.fork (.go 1 (.need (.val (.agg #[nI ((mkH L 25).getD n_6 zeroV).rq,nI ((mkH L 25).getD n_6 zeroV).br,nI ((mkH L 25).getD n_6 zeroV).tk,nI ((mkH L 25).getD n_6 zeroV).bg,nI ((mkH L 25).getD n_6 zeroV).nd]) (.go 5 (.gfork (.auto) (.go 6 (.gfork (.auto) (.go 4 (.gfork (.auto) (.go 6 (.fork (.auto) (.go 2 (.need (.go 0 (.val (nI ((mkQ L 25).getD (Int.toNat ((mkH L 25).getD n_6 zeroV).rq) zeroQ).at_) (.go 0 (.bind Int (fun i_7 => .slot 24 (nI i_7) (.go 1 (.gfork (.go 3 (.gfork (.go 3 (.slot 187 (nI (((mkH L 25).getD n_6 zeroV).tk - i_7)) (.go 3 (.gfork (.auto) (.go 4 (ju1 L n_6 i_5 i_4 y n_3 i_7)))))) (.go 6 (ju1 L n_6 i_5 i_4 y n_3 i_7)))) (.go 8 (ju1 L n_6 i_5 i_4 y n_3 i_7)))))))))))))))))))))) (.ans [] (.bool true) [] (.auto))))
abbrev ju5 (L : List Int) (y : Int) (n_3 : Nat) : Hint:=.go 2 (.ans [(1,.cells true 1 (inL (mkF L).t)),(2,.cells true 1 (juc L)),(4,.cells true 7 ((mkQ L 25).flatMap rqC))] (.tuple #[slQ 7 2 (mkH L 25).length,nI 0]) [.cells true 5 ((mkH L 25).flatMap svC)] (.go 13 (.fork (.auto) (.go 2 (.ans [(1,.cells true 1 (inL (mkF L).t)),(2,.cells true 1 (juc L)),(4,.cells true 7 ((mkQ L 25).flatMap rqC))] (.tuple #[.bool (holdOk (mkF L) (mkQ L 25) (mkR L y (n_3 : Int))),nI 0]) [] (.go 6 (.ans [(1,.cells true 1 (inL (mkF L).t)),(2,.cells true 1 (juc L))] (.tuple #[nI (fBound (mkF L) (mkR L y (n_3 : Int))).1,nI (fBound (mkF L) (mkR L y (n_3 : Int))).2]) [] (.go 1 (.bind Int (fun i_4 => .slot 127 (nI i_4) (.go 0 (.bind Int (fun i_5 => .slot 128 (nI i_5) (.go 7 (.gfork (.go 3 (.fork (.auto) (.go 0 (ju3 L y n_3 i_4 i_5)))) (.go 3 (ju3 L y n_3 i_4 i_5)))))))))))))))))
theorem EBndLaw (sp : Value) (L : List Int) (y : Int) : vF prog msk (dm 0) 100000 true 40 true 7 [.iface (L.length + 1) (ju6 L),nI y] ⟨0,.leaf⟩ (some [])
 (.go 5 (.answ [(0,.cells true 0 [.iface (L.length + 1) (ju6 L),nI 0])] (jul L) [(0,.cells true 0 (jud L))] [.cells true 1 (inL (mkF L).t),.cells true 1 (juc L)] (.go 3 (.answ [(0,.cells true 0 (jud L)),(1,.cells true 1 (inL (mkF L).t)),(2,.cells true 1 (juc L))] (slQ 4 1 (mkQ L 25).length) [(0,.cells true 0 (jub L))] [.cells true 7 ((mkQ L 25).flatMap rqC)] (.go 0 (.answ [(0,.cells true 0 (jub L))] (juj L) [(0,.cells true 0 [.iface (L.length + 1) (ju6 L),nI (mkB L 25 + 1 + 1 + 1 + 1 + 1)])] [] (.go 5 (.inv 3 (Nat) (0) [] [] (fun n_0 => [(11,nI (n_0 : Int)),(9,nI (farTo (mkF L) n_0)),(1,nI y),(4,.bool false),juh,jui,(jum L),(10,nI 0)]) (fun n_0 => []) (fun n_0 => []) (fun n_0 => []) (fun n_0 => (n_0 <= List.length (mkF L).t)) (fun n_0 => (List.length (mkF L).t - n_0)) (fun n_0 => .go 4 (.fork (.go 0 (.inv 3 (Nat) (0) [] [] (fun n_1 => [(12,nI (n_1 : Int)),(9,nI (farAt (mkF L) n_0 n_1)),(10,nI 0),(jum L),jui,juh,(4,.bool false),(1,nI y),(11,nI (n_0 : Int))]) (fun n_1 => []) (fun n_1 => []) (fun n_1 => []) (fun n_1 => (n_1 <= List.length (mkF L).t)) (fun n_1 => (List.length (mkF L).t - n_1)) (fun n_1 => .go 4 (.fork (.go 3 (.need (.val (.iface ((juf L n_0).length + 1) (.agg ⟨((juf L n_0).flatMap intC)⟩)) (.go 0 (.need (.val (nI ((juf L n_0).getD n_1 0)) (.go 0 (.bind Int (fun i_2 => .slot 61 (nI i_2) (.go 2 (.slot 51 (nI ((n_1 : Int) + 1)) (.go 0 (.again []))))))))))))) (.go 1 (.slot 44 (nI ((n_0 : Int) + 1)) (.go 0 (.again [])))))))) (.go 0 (.inv 3 (Nat) (0) [] [] (fun n_1 => [(13,nI (n_1 : Int)),(10,nI (lenTo (mkQ L 25) n_1)),(jum L),jui,juh,(4,.bool false),(1,nI y),(9,nI (farTo (mkF L) n_0))]) (fun n_1 => []) (fun n_1 => []) (fun n_1 => []) (fun n_1 => (n_1 <= List.length (mkQ L 25))) (fun n_1 => (List.length (mkQ L 25) - n_1)) (fun n_1 => .go 3 (.fork (.go 2 (.need (.go 0 (.val (nI ((mkQ L 25).getD n_1 zeroQ).len) (.go 0 (.bind Int (fun i_2 => .slot 74 (nI i_2) (.go 2 (.slot 67 (nI ((n_1 : Int) + 1)) (.go 0 (.again []))))))))))) (.go 0 (.ans [] (nI (y % 30)) [] (.go 0 (.slot 77 (nI (1 + (y % 30))) (.go 2 (.slot 80 (nI ((farTo (mkF L) n_0) + (lenTo (mkQ L 25) n_1))) (.go 0 (.bind Int (fun i_2 => .slot 81 (nI i_2) (.go 2 (.inv 3 (Nat) (0) [] [6] (fun n_3 => [juh,jui,(jum L),(14,.pointer (some ⟨6,0,none⟩))]) (fun n_3 => [(6,true,.cells true 0 [nI (n_3 : Int),nI (mkR L y 0).period,nI (mkR L y 0).service])]) (fun n_3 => []) (fun n_3 => []) (fun n_3 => (n_3 <= 20)) (fun n_3 => (20 - n_3)) (fun n_3 => .go 2 (.fork (.go 2 (.ans [(1,.cells true 1 (inL (mkF L).t)),(2,.cells true 1 (juc L)),(4,.cells true 7 ((mkQ L 25).flatMap rqC))] (.tuple #[.bool (holdOk (mkF L) (mkQ L 25) (mkR L y (n_3 : Int)) && true),nI 0]) [] (.go 8 (.fork (ju5 L y n_3) (.go 2 (.slot 98 (nI ((n_3 : Int) + 1)) (.go 1 (.again [])))))))) (ju5 L y n_3))))))))))))))))))))))))))))
 (fun v _ _ => v = sp) = RBndLaw sp L y:=by kernel_rfl
end
end Go.Proofs.YthdekmpkioikdaaGreat
/- Request: RequestBounded. No condition. -/
namespace Go.Proofs.YthdekmpkioikdaaGreat
open Go Go.K
set_option maxRecDepth 100000
set_option linter.unusedVariables false
set_option linter.unusedSimpArgs false
noncomputable section
attribute [local irreducible] vF
theorem hm_25 : (0 : Int) <= 25 /\ (25 : Int) <= 30 := by omega
theorem hist_mk (L : List Int) : Hist (mkF L) (mkP L 25) (mkQ L 25) (mkH L 25) :=
 ⟨(play_dec (p := mkP L 25) (mkF_ok L) (mkQ_ok L hm_25).1).1, (play_dec (p := mkP L 25) (mkF_ok L) (mkQ_ok L hm_25).1).2, mkF_ok L, (mkQ_ok L hm_25).1⟩
theorem lenTo_succ {l : List Rq} {k : Nat} (h : k < l.length) : lenTo l (k + 1) = max (lenTo l k) (l.getD k zeroQ).len := by
 unfold lenTo
 rw [take_snoc (d := zeroQ) h, List.map_append]
 show (_ ++ [_]).foldl max 0 = _
 rw [List.foldl_append]; rfl
theorem lenTo_in (L : List Int) : ∀ k, k <= (mkQ L 25).length -> 0 <= lenTo (mkQ L 25) k /\ lenTo (mkQ L 25) k <= 100
 | 0, _ => ⟨Int.le_refl _, by show (0 : Int) <= 100; omega⟩
 | k + 1, hk => by
  have ih := lenTo_in L k (by omega)
  have := ((mkQ_ok L hm_25).1.ok k (by omega)).len
  rw [lenTo_succ (by omega)]; omega
theorem mkR_ok (L : List Int) (y : Int) {b : Nat} (hb : b <= 20) : PreOk (mkR L y b) := by
 have f := far_bd (mkF_ok L) (mkF L).t.length
 have l := lenTo_in L _ (Nat.le_refl _)
 have m1 : 0 <= y % 30 := Int.emod_nonneg _ (by omega)
 have m2 : y % 30 < 30 := Int.emod_lt_of_pos _ (by omega)
 refine ⟨⟨?_, ?_⟩, ⟨?_, ?_⟩, ⟨?_, ?_⟩⟩
 ·show (0 : Int) <= (b : Int); omega
 ·show (b : Int) <= 20; omega
 ·show 1 <= 1 + y % 30; omega
 ·show 1 + y % 30 <= 200; omega
 ·show 1 <= max _ 1; omega
 ·show max _ 1 <= 200; omega
theorem errPre_ok {q : Prem} (o : PreOk q) : errPre q = 0 := by
 unfold errPre
 rw [inB_1 o.burst.1 o.burst.2, inB_1 o.period.1 o.period.2, inB_1 o.service.1 o.service.2]; rfl
theorem crN_le (p : Nat -> Bool) (n : Nat) : crN p n <= n := by
 unfold crN; exact Nat.le_trans (List.length_filter_le _ _) (by rw [List.length_range]; exact Nat.le_refl _)
section
variable (L : List Int) (y : Int) {b : Nat} (hb : b <= 20) {H : Heap} {i0 i1 : Nat} {o0 o1 : Bool} {z0 z1 : Nat} (e0 : H[i0]? = some (.cells o0 z0 (inL (mkF L).t))) (e1 : H[i1]? = some (.cells o1 z1 ((mkF L).b.flatMap intC)))
include hb e0 e1
theorem kHoldM {i2 : Nat} {o2 : Bool} {z2 : Nat} (e2 : H[i2]? = some (.cells o2 z2 ((mkQ L 25).flatMap rqC))) :
  KCall prog 37 [fleetV (mkF L) i0 i1, .slice (some ⟨i2, 0, some 2⟩) (mkQ L 25).length (mkQ L 25).length, .agg #[.int .i64 (b : Int), .int .i64 (mkR L y 0).period, .int .i64 (mkR L y 0).service]] H [] (Is (.tuple #[.bool (holdOk (mkF L) (mkQ L 25) (mkR L y b)), .int .i64 0]) H) := by
 have h := kHold (mkF L) (mkQ L 25) (mkR L y b) (mkF_in L).1 (mkF_in L).2.1 (mkF_in L).2.2 e0 e1 e2
 obtain ⟨c1, c2, c3⟩ := mkErrs L hm_25
 have e : fHold (mkF L) (mkQ L 25) (mkR L y b) = (holdOk (mkF L) (mkQ L 25) (mkR L y b), 0) := by
  unfold fHold
  rw [if_pos]
  unfold errH
  rw [c1, c3, errPre_ok (mkR_ok L y hb)]; rfl
 rw [e] at h
 exact h
omit hb in
theorem kBoundM :
  KCall prog 39 [fleetV (mkF L) i0 i1, .agg #[.int .i64 (b : Int), .int .i64 (mkR L y 0).period, .int .i64 (mkR L y 0).service]] H [] (Is (.tuple #[.int .i64 (fBound (mkF L) (mkR L y b)).1, .int .i64 (fBound (mkF L) (mkR L y b)).2]) H) :=
 kBound (mkF L) (mkR L y b) (mkF_in L).1 (mkF_in L).2.1 (mkF_in L).2.2 e0 e1
end
theorem bound_cases (L : List Int) (y : Int) {b : Nat} (hb : b <= 20) : (fBound (mkF L) (mkR L y b)).2 = 4 ∨ ((fBound (mkF L) (mkR L y b)).2 = 0 /\ (fBound (mkF L) (mkR L y b)).1 = (lastW (boundC (mkF L).b.length (mkR L y b)) (topW (mkF L) (mkR L y b)) : Int) /\ ¬ (mkR L y b).period * ((mkF L).b.length : Int) <= (mkR L y b).service) := by
 obtain ⟨c1, _, _⟩ := mkErrs L hm_25
 have e : errB (mkF L) (mkR L y b) = if (mkR L y b).period * ((mkF L).b.length : Int) <= (mkR L y b).service then 4 else 0 := by
  unfold errB
  rw [c1, errPre_ok (mkR_ok L y hb)]; rfl
 unfold fBound
 by_cases c : (mkR L y b).period * ((mkF L).b.length : Int) <= (mkR L y b).service
 ·rw [if_pos c] at e
  rw [e, if_neg (by omega)]; exact .inl rfl
 ·rw [if_neg c] at e
  rw [e, if_pos rfl]; exact .inr ⟨rfl, rfl, c⟩
theorem bndHour (L : List Int) (y : Int) (y12 y13 : Int) (b k : Nat) (hk : k < (mkH L 25).length) : ju0 L k ((mkQ L 25).getD (Int.toNat ((mkH L 25).getD k zeroV).rq) zeroQ).at_ (.bool true) y13 y12 y b := by
 have i := hist_mk L
 obtain ⟨a1, a2, a3, a4, a5, a6, a7⟩ := i.facts hk
 have a3 : 0 <= ((mkQ L 25).getD (Int.toNat ((mkH L 25).getD k zeroV).rq) zeroQ).at_ := a3
 have a4 : ((mkQ L 25).getD (Int.toNat ((mkH L 25).getD k zeroV).rq) zeroQ).at_ <= ((mkH L 25).getD k zeroV).tk := a4
 have top : ((mkH L 25).getD k zeroV).tk <= 20000 := (i.dec k hk).top
 have lh : (mkH L 25).length <= 25 := by have := mkH_len L hm_25; have := mkQ_len L hm_25.1; omega
 delta ju0 juk jue
 refine forkD (fun q => absurd q (Int.not_lt.2 a4)) (fun _ => ⟨rfl, ?_, ?_, fun _ => rfl, ?_⟩)
 ·show ((mkQ L 25).getD (Int.toNat ((mkH L 25).getD k zeroV).rq) zeroQ).at_ + ((0 : Nat) : Int) <= _; omega
 ·repeat' first | exact trivial | exact rfl | exact wk_refl _ | apply And.intro | (exact iEq (by omega))
 intro x hx
 refine ⟨_, rfl, forkD (fun c => ?_) (fun c => ?_)⟩
 ·refine ⟨rfl, Nat.zero_le _, ?_, fun _ => rfl, ?_⟩
  ·repeat' first | exact trivial | exact rfl | exact wk_refl _ | apply And.intro | (exact iEq (by omega))
  intro j hj
  refine forkD (fun d => ?_) (fun d => ?_)
  ·have hj2 : j < (mkH L 25).length := by omega
   have hs := crN_succ (busyB (mkH L 25) (((mkQ L 25).getD (Int.toNat ((mkH L 25).getD k zeroV).rq) zeroQ).at_ + (x : Int))) j
   have cl : crN (busyB (mkH L 25) (((mkQ L 25).getD (Int.toNat ((mkH L 25).getD k zeroV).rq) zeroQ).at_ + (x : Int))) j <= j := (crN_le _ _)
   refine ⟨by omega, cell_at (n := 5) (d := zeroV) (c := 2) svC_len hj2 (by omega) rfl, _, rfl, forkD (fun e => ?_) (fun e => ?_)⟩
   ·refine ⟨_, rfl, by omega, cell_at (n := 5) (d := zeroV) (c := 4) svC_len hj2 (by omega) rfl, forkD (fun g => ?_) (fun g => ?_)⟩
    ·have : busyB (mkH L 25) (((mkQ L 25).getD (Int.toNat ((mkH L 25).getD k zeroV).rq) zeroQ).at_ + (x : Int)) j = true := by unfold busyB; rw [Bool.and_eq_true]; exact ⟨decide_eq_true e, decide_eq_true g⟩
     rw [this, if_pos rfl] at hs
     refine ⟨_, rfl, vI64 (by omega), vI64 (by omega), j + 1, by omega, by omega, ?_⟩
     repeat' first | (exact iEq (by omega)) | exact trivial | exact rfl | exact wk_refl _ | apply And.intro | (exact iEq (by omega))
    ·have : busyB (mkH L 25) (((mkQ L 25).getD (Int.toNat ((mkH L 25).getD k zeroV).rq) zeroQ).at_ + (x : Int)) j = false := by unfold busyB svAt; rw [decide_eq_false (show ¬ _ from g), Bool.and_false]
     rw [this, if_neg (by decide)] at hs
     refine ⟨vI64 (by omega), j + 1, by omega, by omega, ?_⟩
     repeat' first | (exact iEq (by omega)) | exact trivial | exact rfl | exact wk_refl _ | apply And.intro | (exact iEq (by omega))
   ·have : busyB (mkH L 25) (((mkQ L 25).getD (Int.toNat ((mkH L 25).getD k zeroV).rq) zeroQ).at_ + (x : Int)) j = false := by unfold busyB svAt; rw [decide_eq_false (show ¬ _ from e), Bool.false_and]
    rw [this, if_neg (by decide)] at hs
    refine ⟨vI64 (by omega), j + 1, by omega, by omega, ?_⟩
    repeat' first | (exact iEq (by omega)) | exact trivial | exact rfl | exact wk_refl _ | apply And.intro | (exact iEq (by omega))
  ·obtain rfl : j = (mkH L 25).length := by omega
   have hc := i.count (x := ((mkQ L 25).getD (Int.toNat ((mkH L 25).getD k zeroV).rq) zeroQ).at_ + (x : Int)) (by omega) (i.busy hk (by show ((mkQ L 25).getD (Int.toNat ((mkH L 25).getD k zeroV).rq) zeroQ).at_ <= _; omega) c)
   refine ⟨_, rfl, forkF (by rw [hc]; exact bne_self_eq_false _) ⟨_, rfl, vI64 (by omega), x + 1, by omega, by omega, ?_⟩⟩
   repeat' first | (exact iEq (by omega)) | exact trivial | exact rfl | exact wk_refl _ | apply And.intro | (exact iEq (by omega))
 ·refine ⟨vI64 (by omega), k + 1, by omega, by omega, ?_⟩
  repeat' first | exact trivial | exact rfl | exact wk_refl _ | apply And.intro | (exact iEq (by omega))
theorem bndFits (L : List Int) (y : Int) {b k : Nat} (hb : b <= 20) (hk : k < (mkH L 25).length) (hh : holdOk (mkF L) (mkQ L 25) (mkR L y b) = true) (h0 : ((fBound (mkF L) (mkR L y b)).2 == 0) = true) : ¬ (fBound (mkF L) (mkR L y b)).1 < ((mkH L 25).getD k zeroV).tk - ((mkQ L 25).getD (Int.toNat ((mkH L 25).getD k zeroV).rq) zeroQ).at_ := by
 have h0 := eq_of_beq h0
 rcases bound_cases L y hb with c | ⟨_, c, d⟩
 ·omega
 ·have := (hist_mk L).bound (mkR_ok L y hb) hh d hk
  have : ((mkH L 25).getD k zeroV).tk - ((mkQ L 25).getD (Int.toNat ((mkH L 25).getD k zeroV).rq) zeroQ).at_ <= _ := this
  omega
theorem bndHist (L : List Int) (y : Int) (b : Nat) (hb : b <= 20) : ju2 L y b (fBound (mkF L) (mkR L y b)).1 (fBound (mkF L) (mkR L y b)).2 (.bool true) := by
 have i := hist_mk L
 have lh : (mkH L 25).length <= 25 := by have := mkH_len L hm_25; have := mkQ_len L hm_25.1; omega
 delta ju2 juk jue
 refine ⟨rfl, Nat.zero_le _, ?_, fun _ => rfl, ?_⟩
 ·repeat' first | exact trivial | exact rfl | exact wk_refl _ | apply And.intro | (exact iEq (by omega))
 intro k hk
 refine forkD (fun c => ?_) (fun _ => ⟨trivial, fun H' _ _ => kAwake H', rfl⟩)
 have hk2 : k < (mkH L 25).length := by omega
 obtain ⟨a1, a2, a3, a4, _⟩ := i.facts hk2
 have a1 : 0 <= ((mkH L 25).getD k zeroV).rq /\ ((mkH L 25).getD k zeroV).rq < ((mkQ L 25).length : Int) := a1
 have br := i.good.br k hk2
 have b1 : 0 <= ((mkH L 25).getD k zeroV).br := br.1
 have b2 : ((mkH L 25).getD k zeroV).br < ((mkF L).b.length : Int) := br.2
 have a3 : 0 <= ((mkQ L 25).getD (Int.toNat ((mkH L 25).getD k zeroV).rq) zeroQ).at_ := a3
 have a4 : ((mkQ L 25).getD (Int.toNat ((mkH L 25).getD k zeroV).rq) zeroQ).at_ <= ((mkH L 25).getD k zeroV).tk := a4
 have top : ((mkH L 25).getD k zeroV).tk <= 20000 := (i.dec k hk2).top
 refine ⟨by omega, partV hk2 (by omega), forkD (fun q => absurd q (Int.not_lt.2 a1.1)) (fun _ => forkD (fun q => absurd q (Int.not_le.2 a1.2)) (fun _ => forkD (fun q => absurd q (Int.not_lt.2 b1)) (fun _ => forkD (fun q => absurd q (Int.not_le.2 b2)) (fun _ => ⟨a1, atAt (by omega) (by omega), _, rfl, fun hh => ⟨fun c => ?_, fun _ => bndHour L y _ _ b k hk2⟩, fun _ => bndHour L y _ _ b k hk2⟩))))⟩
 refine ⟨vI64 (by omega), forkD (fun q => absurd q (bndFits L y hb hk2 hh c)) (fun _ => bndHour L y _ _ b k hk2)⟩
theorem bndTail (L : List Int) (y : Int) (b : Nat) (hb : b <= 20) : ju4 L (.bool true) b y := by
 have hm := hm_25
 have lh := mkH_len L hm
 delta ju4 juc juk jue
 refine ⟨⟨rfl, rfl, rfl, trivial⟩, fun H' hL hd => KCall.wkA (kRunM L hm hL hd.1 hd.2.1 hd.2.2.1) (wks_cons wk_fleet (wks_cons (wk_refl _) (wks_cons wk_QR wks_nil))), ?_⟩
 refine forkF (by rw [lh]; exact bne_self_eq_false _) ⟨⟨rfl, rfl, rfl, trivial⟩, fun H' hL hd => KCall.wkA (kHoldM L y hb hd.1 hd.2.1 hd.2.2.1) (wks_cons wk_fleet (wks_cons wk_QR (wks_cons (wk_refl _) wks_nil))), ?_⟩
 refine ⟨⟨rfl, rfl, trivial⟩, fun H' hL hd => KCall.wkA (kBoundM L y hd.1 hd.2.1) (wks_cons wk_fleet (wks_cons (wk_refl _) wks_nil)), _, rfl, _, rfl, ?_⟩
 refine ⟨fun c => ⟨fun d => ?_, fun _ => bndHist L y b hb⟩, fun c => bndHist L y b hb⟩
 exfalso
 rcases bound_cases L y hb with w | ⟨w, _⟩
 ·rw [w] at d; exact absurd d (by decide)
 ·rw [w] at c; exact absurd c (by decide)
set_option maxHeartbeats 4000000 in
theorem kBndLaw (L : List Int) (y : Int) (H : Heap) : KCall prog 7 [.iface (L.length + 1) (.agg ⟨L.flatMap intC⟩), .int .i64 y] H [] (Is (.bool true) H) := by
 refine valK 40 (fun σ => deepI_rn σ L [.int .i64 y] rfl) rfl (Eq.mpr (EBndLaw (.bool true) L y) ?_) H
 delta RBndLaw ju6 jul jud juc jub juj juk jua jue jug ju7 juf ju8 ju9
 have hm := hm_25
 have lq := mkQ_len L hm.1
 have lh := mkH_len L hm
 have o := mkF_ok L
 have n1 := o.n1
 have n2 := o.n2
 have m1 : 0 <= y % 30 := Int.emod_nonneg _ (by omega)
 have m2 : y % 30 < 30 := Int.emod_lt_of_pos _ (by omega)
 refine ⟨⟨rfl, trivial⟩, fun H' hL hd => kShipsM L hL hd.1, ?_⟩
 refine ⟨⟨rfl, rfl, rfl, trivial⟩, fun H' hL hd => KCall.wkA (kAsksM L hm hL hd.1 hd.2.1 hd.2.2.1 (by decide) (by decide)) (wks_cons (wk_refl _) (wks_cons wk_fleet (wks_cons (wk_refl _) wks_nil))), ?_⟩
 refine ⟨⟨rfl, trivial⟩, fun H' hL hd => kRuleM L hm hd.1, ?_⟩
 refine ⟨rfl, Nat.zero_le _, ?_, fun _ => rfl, ?_⟩
 ·repeat' first | exact trivial | exact rfl | exact wk_refl _ | apply And.intro | (exact iEq (by omega))
 intro x hx
 refine forkD (fun k => ?_) (fun k => ?_)
 ·have hlt : x < (mkF L).t.length := by omega
  have hr := o.row x hlt
  refine ⟨rfl, Nat.zero_le _, ?_, fun _ => rfl, ?_⟩
  ·rw [farAt_0 o]
   repeat' first | exact trivial | exact rfl | exact wk_refl _ | apply And.intro | (exact iEq (by omega))
  intro z hz
  refine forkD (fun k => ?_) (fun k => ?_)
  ·have hly : z < ((mkF L).t.getD x []).length := by omega
   have e : (if ((mkF L).t.getD x []).getD z 0 > farAt (mkF L) x z then ((mkF L).t.getD x []).getD z 0 else farAt (mkF L) x z) = farAt (mkF L) x (z + 1) := by rw [farAt_succ hly]; split <;> omega
   refine ⟨by omega, inL_at hlt (by omega), by omega, intAt hly (by omega), _, rfl, vI64 (by omega), z + 1, by omega, by omega, ?_⟩
   repeat' first | exact trivial | exact rfl | exact wk_refl _ | apply And.intro | (exact iEq (by omega))
  ·obtain rfl : z = (mkF L).t.length := by omega
   refine ⟨vI64 (by omega), x + 1, by omega, by omega, ?_⟩
   repeat' first | exact iEq (farAt_end o hlt) | exact trivial | exact rfl | exact wk_refl _ | apply And.intro | (exact iEq (by omega))
 obtain rfl : x = (mkF L).t.length := by omega
 refine ⟨rfl, Nat.zero_le _, ?_, fun _ => rfl, ?_⟩
 ·repeat' first | exact trivial | exact rfl | exact wk_refl _ | apply And.intro | (exact iEq (by omega))
 intro z hz
 refine forkD (fun k => ?_) (fun k => ?_)
 ·have hz2 : z < (mkQ L 25).length := by omega
  have e : (if ((mkQ L 25).getD z zeroQ).len > lenTo (mkQ L 25) z then ((mkQ L 25).getD z zeroQ).len else lenTo (mkQ L 25) z) = lenTo (mkQ L 25) (z + 1) := by rw [lenTo_succ hz2]; split <;> omega
  refine ⟨by omega, cell_at (n := 7) (d := zeroQ) (c := 4) rqC_len hz2 (by omega) rfl, _, rfl, vI64 (by omega), z + 1, by omega, by omega, ?_⟩
  repeat' first | exact trivial | exact rfl | exact wk_refl _ | apply And.intro | (exact iEq (by omega))
 obtain rfl : z = (mkQ L 25).length := by omega
 have f1 := far_bd o (mkF L).t.length
 have l1 := lenTo_in L _ (Nat.le_refl _)
 have es : (if (1 : Int) > farTo (mkF L) (mkF L).t.length + lenTo (mkQ L 25) (mkQ L 25).length then (1 : Int) else farTo (mkF L) (mkF L).t.length + lenTo (mkQ L 25) (mkQ L 25).length) = (mkR L y 0).service := by
  show _ = max _ 1
  split <;> omega
 refine ⟨trivial, fun H' _ _ => kPick y 30 (by omega) (by omega) H', vI64 (by omega), vI64 (by omega), _, rfl, rfl, by omega, ?_, fun _ => rfl, ?_⟩
 ·rw [es]
  repeat' first | exact trivial | exact rfl | exact wk_refl _ | apply And.intro | (exact iEq (by omega))
 intro b hb
 refine forkD (fun k => ?_) (fun k => ?_)
 ·refine ⟨⟨rfl, rfl, rfl, trivial⟩, fun H' hL hd => KCall.wkA (by rw [Bool.and_true]; exact kHoldM L y hb hd.1 hd.2.1 hd.2.2.1) (wks_cons wk_fleet (wks_cons wk_QR (wks_cons (wk_refl _) wks_nil))), forkB (fun _ => ?_) (fun _ => ?_)⟩
  ·exact bndTail L y b hb
  ·refine ⟨vI64 (by omega), b + 1, by omega, by omega, ?_⟩
   repeat' first | exact trivial | exact rfl | exact wk_refl _ | apply And.intro | (exact iEq (by omega))
 ·exact bndTail L y b hb
end
end Go.Proofs.YthdekmpkioikdaaGreat
/- How laws' arguments are read. No condition. -/
namespace Go.Proofs.YthdekmpkioikdaaGreat
set_option linter.unusedSimpArgs false
open Go Go.K Go.ChangeShapes Go.WideShapes Go.ChangeAt Go.RowKit
set_option maxRecDepth 100000
set_option linter.unusedVariables false
noncomputable section
theorem own : ownKnob Tryz.prog.godebug = none := by kernel_rfl
theorem sized : slicesSized Tryz.prog = true := by kernel_rfl
abbrev known (t : TypeId) : Prop := t < Tryz.prog.types.size
theorem kids : Kids Tryz.prog known := kids_rows (by kernel_rfl) (by kernel_rfl)
end
end Go.Proofs.YthdekmpkioikdaaGreat
/- How laws' numbers are read. No condition. -/
namespace Go.Proofs.YthdekmpkioikdaaGreat
set_option linter.unusedSimpArgs false
open Go Go.K Go.ChangeShapes Go.WideShapes Go.ChangeAt Go.RowKit
set_option maxRecDepth 100000
set_option linter.unusedVariables false
noncomputable section
theorem goodAD_cons {n : Nat} {t : TypeId} {ts : List TypeId} {vs : List Value} (h : GoodAD Tryz.prog n (t :: ts) vs) : ∃ v vs', vs = v :: vs' /\ GoodVD Tryz.prog n t v /\ GoodAD Tryz.prog n ts vs' := by
 cases vs with
 | nil => exact h.elim
 | cons v vs => exact ⟨v, vs, rfl, h.1, h.2⟩
theorem goodAD_nil {n : Nat} {vs : List Value} (h : GoodAD Tryz.prog n [] vs) : vs = [] := by
 cases vs with
 | nil => rfl
 | cons v vs => exact h.elim
theorem goodD_i64 {n : Nat} {c : List Value} (h : GoodD Tryz.prog (n + 1) 3 c) : ∃ x : Int, c = [.int .i64 x] /\ inI x := by
 unfold GoodD at h
 rw [show Tryz.prog.underlying 3 = some (.int .i64) by kernel_rfl] at h
 obtain ⟨x, rfl, h1, h2⟩ := h
 refine ⟨x, rfl, ?_⟩
 simp only [IntKind.min, IntKind.max, IntKind.signed, IntKind.bits] at h1 h2
 unfold inI
 simp at h1 h2
 omega
theorem goodVD_int {v : Value} (h : GoodVD Tryz.prog 6 3 v) : ∃ x : Int, v = .int .i64 x /\ inI x := by
 unfold GoodVD at h
 rw [show Tryz.prog.underlying 3 = some (.int .i64) by kernel_rfl] at h
 obtain ⟨x, h1, h2⟩ := goodD_i64 h
 exact ⟨x, by simpa using h1, h2⟩
theorem goodVD_ints {v : Value} (h : GoodVD Tryz.prog 6 23 v) : ∃ L : List Int, v = .iface (L.length + 1) (.agg ⟨L.flatMap intC⟩) /\ L.length <= maxLen /\ ∀ x ∈ L, inI x := by
 unfold GoodVD at h
 rw [show Tryz.prog.underlying 23 = some (.slice 3) by kernel_rfl] at h
 unfold GoodD at h
 rw [show Tryz.prog.underlying 23 = some (.slice 3) by kernel_rfl] at h
 obtain ⟨len, ds, h1, h2, h3, h4⟩ := h
 obtain ⟨xs, e1, e2, e3⟩ := goodL_list (f := intC) (q := inI) (fun c hc => goodD_i64 (n := 4) hc) len ds h4
 subst e1 e2
 exact ⟨xs, by simpa using h1, h3, e3⟩
end
end Go.Proofs.YthdekmpkioikdaaGreat
