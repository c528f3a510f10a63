/- What is to be shown of functions. Printed by a program. No condition. -/
import Derived.Test.YthdekmpkioikdaaGreatGZ6xR19f
import Derived.Test.YthdekmpkioikdaaGreatGK27xR1
namespace Go.Proofs.YthdekmpkioikdaaGreat
set_option linter.unusedSimpArgs false
open Go Go.K
set_option maxRecDepth 100000
set_option maxHeartbeats 4000000
set_option linter.unusedVariables false
noncomputable section
abbrev jk2k (M : List Int) : Int:=(M.length : Nat)
abbrev jk1u (M : List Int):=M.flatMap intC
abbrev jk27 (M : List Int) : Prop:=(jk1u M)[0]? = some (nI (M.getD 0 0))
abbrev jk2d : Value:=nI 0
abbrev jk24 (M : List Int) : Prop:=(.slice (some ⟨0,0,none⟩) M.length M.length : Value) = .slice (some ⟨0,0,none⟩) M.length M.length /\ jk2d = nI 0 /\ True
abbrev jk1i : Prop:=(True) /\ (True)
abbrev jk20 : Prop:=(True) /\ jk1i
abbrev jk1l : Prop:=∀ n_0 : Nat,true = true
abbrev jk1t (n_0 : Nat) : Int:=((n_0 + 1) : Nat)
abbrev jk2l (M : List Int) (n_0 : Nat):=M.getD (n_0 + 1) 0
def RMin (sp : Value) (M : List Int) : Prop :=
 (((decide (((jk2k M) : Int) < 1)) = true -> False) /\ ((decide (((jk2k M) : Int) < 1)) = false -> (((0 : Int) <= 0 /\ (0 : Int) < (jk2k M)) /\ ((jk27 M) /\ (true = true /\ (0 + 1 <= List.length M) /\ (true = true /\ ((nI 1 : Value) = nI (((0 + 1) : Nat) : Int) /\ (nI (M.getD 0 0) : Value) = nI (minTo M 0) /\ jk24 M) /\ jk20) /\ jk1l /\ ∀ n_0 : Nat,(n_0 + 1 <= List.length M) -> (((decide (((jk1t n_0) : Int) < (jk2k M))) = true -> (((0 : Int) <= (jk1t n_0) /\ ((jk1t n_0) : Int) < (jk2k M)) /\ (((jk1u M)[(0 + Int.toNat (jk1t n_0) * 1)]? = some (nI (jk2l M n_0))) /\ (∃ i_1 : Int,(nI (if ((jk2l M n_0) : Int) < (minTo M n_0) then ((jk2l M n_0) : Int) else (minTo M n_0)) : Value) = nI i_1 /\ ((nI (IntKind.wrap .i64 ((jk1t n_0) + 1)) : Value) = nI ((jk1t n_0) + 1) /\ (∃ n_2' : Nat,(n_2' + 1 <= List.length M) /\ (List.length M - n_2') < (List.length M - n_0) /\ true = true /\ ((nI ((jk1t n_0) + 1) : Value) = nI (((n_2' + 1) : Nat) : Int) /\ (nI i_1 : Value) = nI (minTo M n_2') /\ jk24 M) /\ jk20)))))) /\ ((decide (((jk1t n_0) : Int) < (jk2k M))) = false -> (nI (minTo M n_0) : Value) = sp)))))))
theorem EMin (sp : Value) (M : List Int) : vF prog msk (dm 0) 100000 true 40 true 121 [.slice (some ⟨0,0,none⟩) M.length M.length] (readsT 0 [M.flatMap intC]) (some [])
 (.go 3 (.fork (.auto) (.go 0 (.need (.val (nI (M.getD 0 0)) (.go 1 (.inv 3 (Nat) (0) [] [] (fun n_0 => [(4,nI (jk1t n_0)),(3,nI (minTo M n_0)),(0,.slice (some ⟨0,0,none⟩) M.length M.length),(2,nI 0)]) (fun n_0 => []) (fun n_0 => []) (fun n_0 => []) (fun n_0 => (n_0 + 1 <= List.length M)) (fun n_0 => (List.length M - n_0)) (fun n_0 => .go 3 (.fork (.go 2 (.need (.val (nI (jk2l M n_0)) (.go 0 (.bind Int (fun i_1 => .slot 23 (nI i_1) (.go 2 (.slot 17 (nI ((jk1t n_0) + 1)) (.go 0 (.again [])))))))))) (.auto))))))))))
 (fun v _ _ => v = sp) = RMin sp M:=by kernel_rfl
abbrev jk2b (M : List Int) (k : Nat) : KObj:=.cells true 1 ((M.take k).flatMap intC)
def RCloneP (M : List Int) (k : Nat) : Prop :=
 ((k = 0 -> (((0 + k) * 8 <= 2 ^ 44 /\ k = 0) /\ (true = true /\ wk (slQ 1 1 0 : Value) (rn (sg 1 [(1,1)]) 3 (slQ 1 1 k : Value)) /\ ((some (.cells true 1 [] : KObj) = some (jk2b M k) /\ belowO 1 (jk2b M k) = true) /\ True)))) /\ (¬ (k = 0) -> (((0 + k) * 8 <= 2 ^ 44 /\ k ≠ 0 /\ (0 <= 0 /\ 0 + 0 * 1 <= List.length ([] : List Value)) /\ (k <= k /\ 0 + k * 1 <= List.length (jk1u M)) /\ ((((jk1u M).drop 0).take (k * 1)) : List Value).all (fun v => one1 v) = true) /\ true = true /\ (true = true /\ wk (.slice (some ⟨2,0,none⟩) (0 + k) (0 + k) : Value) (rn (sg 1 [(1,2)]) 3 (slQ 1 1 k : Value)) /\ ((some (.cells true 1 (((([] : List Value).drop 0).take (0 * 1)) ++ (((jk1u M).drop 0).take (k * 1))) : KObj) = some (jk2b M k) /\ belowO 1 (jk2b M k) = true) /\ True)))))
theorem ECloneP (M : List Int) (k : Nat) : vF prog msk (dm 0) 100000 true 40 true 116 [.slice (some ⟨0,0,none⟩) k k] (readsT 0 [M.flatMap intC]) (some [])
 (.go 5 (.cas (k = 0) (.val (.bool true) (.go 0 (.again [(1,1)]))) (.need (.go 0 (.again [(1,2)])))))
 (newK ((readsT 0 [M.flatMap intC]) : HT).n 3 (slQ 1 1 k) [(true,.cells true 1 ((M.take k).flatMap intC))]) = RCloneP M k:=by kernel_rfl
abbrev jk2p : Int:=(0 : Nat)
abbrev jkf : Value:=.func (.func 123) #[] #[.pointer (some ⟨7,0,none⟩),.pointer (some ⟨8,0,none⟩)]
abbrev jk1h (k : Nat) : Int:=(k : Nat)
abbrev jk1v (k : Nat) : Prop:=jkf = .func (.func 123) #[] #[.pointer (some ⟨7,0,none⟩),.pointer (some ⟨8,0,none⟩)] /\ wkR (slQ 0 2 k) /\ (nI (jk1h k) : Value) = nI (jk1h k) /\ True
abbrev jk2i (n_0 : Nat) : Int:=(n_0 : Int)
abbrev jk1m (n_0 : Nat) (k : Nat):=decide ((jk2i n_0) < (jk1h k))
abbrev jk2j (qn1 : Nat) : Int:=(qn1 : Nat)
abbrev jkd (qn0 : Nat) (qn1 : Nat) : Prop:=(0 : Int) <= (qn0 : Int) /\ ((qn0 : Int) : Int) < (jk2j qn1)
abbrev jkk (qd0 : List Int) (qn0 : Nat) : Prop:=(qd0.flatMap intC)[(0 + Int.toNat (qn0 : Int) * 1)]? = some (nI (qd0.getD qn0 0))
abbrev jkr (qd0 : List Int) (qn0 : Nat) (ql0 : List Rq) : Prop:=(0 : Int) <= (qd0.getD qn0 0) /\ ((qd0.getD qn0 0) : Int) < ((ql0.length : Nat) : Int)
abbrev jk2e (l : List Rq):=l.flatMap rqC
abbrev jk1c (l : List Rq) (M : List Int) (n_0 : Nat):=l.getD (M.getD n_0 0).toNat zeroQ
abbrev jkj (qn0 : Nat) (ql0 : List Rq) (qi0 : Int) (qd0 : List Int) : Prop:=true = true /\ wk (slQ 0 2 qn0 : Value) (rn (sg 9 []) 3 (slQ 0 2 (keepP (qAt ql0 qi0) qd0 qn0).length : Value)) /\ ((some (.cells true 1 (qd0.flatMap intC) : KObj) = some (.cells true 1 ((delP (qAt ql0 qi0) qd0 qn0).flatMap intC) : KObj) /\ belowO 9 (.cells true 1 ((delP (qAt ql0 qi0) qd0 qn0).flatMap intC) : KObj) = true) /\ True) /\ (True)
abbrev jk1k (n_0 : Nat) : Value:=nI (IntKind.wrap .i64 ((n_0 : Int) + 1))
abbrev jk23 (n_0 : Nat) : Value:=nI ((n_0 : Int) + 1)
abbrev jk1d (k : Nat) : Prop:=wkR (slQ 0 2 k) /\ (.slice none 0 0 : Value) = .slice none 0 0 /\ True
abbrev jk1p (k : Nat) : Prop:=jkf = .func (.func 123) #[] #[.pointer (some ⟨7,0,none⟩),.pointer (some ⟨8,0,none⟩)] /\ jk1d k
abbrev jk2f : Prop:=∀ n_1 : Nat,true = true
abbrev jk25 (n_1 : Nat) (k : Nat):=decide (((n_1 : Int) : Int) < (jk1h k))
abbrev jk2o (l : List Rq) (hr : Int) (M : List Int) (n_1 : Nat):=l.getD ((midP (qAt l hr) M n_1).getD n_1 0).toNat zeroQ
abbrev jk19 (l : List Rq) (hr : Int) (M : List Int) (n_1 : Nat) : Int:=((keepP (qAt l hr) M n_1).length : Nat)
abbrev jk1n (n_1 : Nat) : Value:=nI (IntKind.wrap .i64 ((n_1 : Int) + 1))
abbrev jk28 (n_1 : Nat) : Value:=nI ((n_1 : Int) + 1)
abbrev jkx (ql0 : List Rq) (qi0 : Int) (qd0 : List Int) (qn0 : Nat) : KObj:=.cells true 1 ((midP (qAt ql0 qi0) qd0 qn0).flatMap intC)
abbrev jk1o : Prop:=true = false ∨ 1 = 0 ∨ 1 = 1
def RDel0 (M : List Int) (k : Nat) (f : Fleet) (l : List Rq) (X Y : List Int) (hr : Int) : Prop :=
 (true = true /\ (0 <= k /\ (M.take 0).all (qAt l hr) = true) /\ (true = true /\ (jk2d = nI jk2p /\ jk1v k) /\ jk20) /\ jk1l /\ ∀ n_0 : Nat,(n_0 <= k /\ (M.take n_0).all (qAt l hr) = true) -> (((jk1m n_0 k) = true -> ((jkd n_0 k) /\ ((jkk M n_0) /\ ((jkr M n_0 l) /\ (((jk2e l)[((0 + Int.toNat (M.getD n_0 0) * 7) + 1)]? = some (nI (jk1c l M n_0).at_)) /\ (((decide ((hr : Int) < (jk1c l M n_0).at_)) = true -> ((((jk2i n_0) == (-1)) = true -> (jkj k l hr M)) /\ (((jk2i n_0) == (-1)) = false -> ((jk1k n_0) = nI ((n_0 : Int) + 1) /\ (true = true /\ ((n_0 + 1) <= k /\ (keepP (qAt l hr) M (n_0 + 1)).length < (n_0 + 1)) /\ (true = true /\ ((jk23 n_0) = nI (jk1t n_0) /\ (nI (n_0 : Int) : Value) = nI (((keepP (qAt l hr) M (n_0 + 1)).length : Nat) : Int) /\ jk1p k) /\ ((some (.cells true 1 (jk1u M) : KObj) = some (.cells true 1 ((midP (qAt l hr) M (n_0 + 1)).flatMap intC) : KObj) /\ belowO 9 (.cells true 1 ((midP (qAt l hr) M (n_0 + 1)).flatMap intC) : KObj) = true) /\ True) /\ jk1i) /\ jk2f /\ ∀ n_1 : Nat,(n_1 <= k /\ (keepP (qAt l hr) M n_1).length < n_1) -> (((jk25 n_1 k) = true -> ((jkd n_1 k) /\ ((((midP (qAt l hr) M n_1).flatMap intC)[(0 + Int.toNat (n_1 : Int) * 1)]? = some (nI ((midP (qAt l hr) M n_1).getD n_1 0))) /\ (((0 : Int) <= ((midP (qAt l hr) M n_1).getD n_1 0) /\ (((midP (qAt l hr) M n_1).getD n_1 0) : Int) < ((l.length : Nat) : Int)) /\ (((jk2e l)[((0 + Int.toNat ((midP (qAt l hr) M n_1).getD n_1 0) * 7) + 1)]? = some (nI (jk2o l hr M n_1).at_)) /\ (((!(decide ((hr : Int) < (jk2o l hr M n_1).at_))) = true -> (((0 : Int) <= (jk19 l hr M n_1) /\ ((jk19 l hr M n_1) : Int) < (jk1h k)) /\ (((0 + Int.toNat (jk19 l hr M n_1) * 1) + 1 <= List.length ((midP (qAt l hr) M n_1).flatMap intC)) /\ true = true /\ ((nI (IntKind.wrap .i64 ((jk19 l hr M n_1) + 1)) : Value) = nI ((jk19 l hr M n_1) + 1) /\ ((jk1n n_1) = nI ((n_1 : Int) + 1) /\ (∃ n_2' : Nat,(n_2' <= k /\ (keepP (qAt l hr) M n_2').length < n_2') /\ (k - n_2') < (k - n_1) /\ true = true /\ ((jk28 n_1) = nI (n_2' : Int) /\ (nI ((jk19 l hr M n_1) + 1) : Value) = nI (((keepP (qAt l hr) M n_2').length : Nat) : Int) /\ jk1p k) /\ ((some (.cells true 1 (setl ((midP (qAt l hr) M n_1).flatMap intC) (0 + Int.toNat (jk19 l hr M n_1) * 1) [nI ((midP (qAt l hr) M n_1).getD n_1 0)]) : KObj) = some (jkx l hr M n_2') /\ belowO 9 (jkx l hr M n_2') = true) /\ True) /\ jk1i)))))) /\ ((!(decide ((hr : Int) < (jk2o l hr M n_1).at_))) = false -> ((jk1n n_1) = nI ((n_1 : Int) + 1) /\ (∃ n_2' : Nat,(n_2' <= k /\ (keepP (qAt l hr) M n_2').length < n_2') /\ (k - n_2') < (k - n_1) /\ true = true /\ ((jk28 n_1) = nI (n_2' : Int) /\ (nI (jk19 l hr M n_1) : Value) = nI (((keepP (qAt l hr) M n_2').length : Nat) : Int) /\ jk1p k) /\ ((some (jkx l hr M n_1) = some (jkx l hr M n_2') /\ belowO 9 (jkx l hr M n_2') = true) /\ True) /\ jk1i))))))))) /\ ((jk25 n_1 k) = false -> (((jk1o /\ k <= k) /\ (k <= k) /\ ((0 : Int) <= (jk19 l hr M n_1) /\ ((jk19 l hr M n_1) : Int) <= (jk1h k))) /\ ((.slice (some ⟨0,(0 + (jk19 l hr M n_1).toNat * 1),some 2⟩) (k - (jk19 l hr M n_1).toNat) (k - (jk19 l hr M n_1).toNat) : Value) = .slice (some ⟨0,(0 + (jk19 l hr M n_1).toNat * 1),some 2⟩) (k - (keepP (qAt l hr) M n_1).length) (k - (keepP (qAt l hr) M n_1).length) /\ (((0 + (jk19 l hr M n_1).toNat * 1) + (k - (keepP (qAt l hr) M n_1).length) * 1 <= List.length ((midP (qAt l hr) M n_1).flatMap intC)) /\ true = true /\ (((jk1o /\ (jk19 l hr M n_1).toNat <= k) /\ ((0 : Int) <= (jk19 l hr M n_1) /\ ((jk19 l hr M n_1) : Int) <= (jk1h k)) /\ (0 <= (jk19 l hr M n_1).toNat)) /\ ((slQ 0 2 ((jk19 l hr M n_1).toNat - 0) : Value) = slQ 0 2 (keepP (qAt l hr) M n_1).length /\ (true = true /\ wk (slQ 0 2 (keepP (qAt l hr) M n_1).length : Value) (rn (sg 9 []) 3 (slQ 0 2 (keepP (qAt l hr) M k).length : Value)) /\ ((some (.cells true 1 (setl ((midP (qAt l hr) M n_1).flatMap intC) (0 + (jk19 l hr M n_1).toNat * 1) (krep [nI 0] (k - (keepP (qAt l hr) M n_1).length))) : KObj) = some (.cells true 1 ((delP (qAt l hr) M k).flatMap intC) : KObj) /\ belowO 9 (.cells true 1 ((delP (qAt l hr) M k).flatMap intC) : KObj) = true) /\ True) /\ (True)))))))))))))) /\ ((decide ((hr : Int) < (jk1c l M n_0).at_)) = false -> ((jk1k n_0) = nI ((n_0 : Int) + 1) /\ (∃ n_1' : Nat,(n_1' <= k /\ (M.take n_1').all (qAt l hr) = true) /\ (k - n_1') < (k - n_0) /\ true = true /\ ((jk23 n_0) = nI (n_1' : Int) /\ jk1v k) /\ jk20))))))))) /\ ((jk1m n_0 k) = false -> (jkj k l hr M))))
abbrev jk1r : Hint:=.keep (.again [])
abbrev jk2q : Nat × Value:=(4,.slice none 0 0)
abbrev jk5 (qn0 : Nat) (qn1 : Nat) (qn2 : Nat) : Hint:=.go qn0 (.slot qn1 (nI ((qn2 : Int) + 1)) (.go 0 (.again [])))
theorem EDel0 (M : List Int) (k : Nat) (f : Fleet) (l : List Rq) (X Y : List Int) (hr : Int) : vF prog msk (dm 0) 100000 true 40 true 122 [slQ 0 2 k,.func (.func 123) #[] #[.pointer (some ⟨7,0,none⟩),.pointer (some ⟨8,0,none⟩)]] (readsW 0 1 (jk1u M) (ctB f l X Y hr)) (some [0])
 (.go 7 (.inv 3 (Nat) (0) [] [] (fun n_0 => [(8,nI (n_0 : Int)),(1,.func (.func 123) #[] #[.pointer (some ⟨7,0,none⟩),.pointer (some ⟨8,0,none⟩)]),(0,slQ 0 2 k),(7,nI (jk1h k))]) (fun n_0 => []) (fun n_0 => []) (fun n_0 => []) (fun n_0 => (n_0 <= k /\ (M.take n_0).all (qAt l hr) = true)) (fun n_0 => (k - n_0)) (fun n_0 => .go 0 (.fork (.go 4 (.need (.val (nI (M.getD n_0 0)) (.go 6 (.need (.go 0 (.val (nI (jk1c l M n_0).at_) (.go 2 (.fork (.go 4 (.fork (.go 1 jk1r) (.go 1 (.slot 15 (nI ((n_0 : Int) + 1)) (.go 0 (.inv 3 (Nat) ((n_0 + 1)) [] [0] (fun n_1 => [(6,nI (n_1 : Int)),(5,nI (jk19 l hr M n_1)),(1,.func (.func 123) #[] #[.pointer (some ⟨7,0,none⟩),.pointer (some ⟨8,0,none⟩)]),(0,slQ 0 2 k),jk2q]) (fun n_1 => [(0,true,.cells true 1 ((midP (qAt l hr) M n_1).flatMap intC))]) (fun n_1 => []) (fun n_1 => []) (fun n_1 => (n_1 <= k /\ (keepP (qAt l hr) M n_1).length < n_1)) (fun n_1 => (k - n_1)) (fun n_1 => .go 3 (.fork (.go 1 (.need (.val (nI ((midP (qAt l hr) M n_1).getD n_1 0)) (.go 9 (.need (.go 0 (.val (nI (jk2o l hr M n_1).at_) (.go 3 (.fork (.go 2 (.need (.need (.go 1 (.slot 35 (nI ((jk19 l hr M n_1) + 1)) (jk5 2 21 n_1)))))) (jk5 1 21 n_1)))))))))) (.go 1 (.need (.slot 38 (.slice (some ⟨0,(0 + (jk19 l hr M n_1).toNat * 1),some 2⟩) (k - (keepP (qAt l hr) M n_1).length) (k - (keepP (qAt l hr) M n_1).length)) (.need (.go 1 (.need (.slot 41 (slQ 0 2 (keepP (qAt l hr) M n_1).length) (.go 0 jk1r)))))))))))))))) (jk5 0 18 n_0)))))))))) (.go 6 jk1r)))))
 (newKW ((readsW 0 1 (jk1u M) (ctB f l X Y hr)) : HT).n 3 0 (.cells true 1 ((delP (qAt l hr) M k).flatMap intC)) (slQ 0 2 (keepP (qAt l hr) M k).length) []) = RDel0 M k f l X Y hr:=by kernel_rfl
abbrev jka (qn0 : Nat) (qn1 : Nat) (qn2 : Nat) : Prop:=true = true /\ (jk2d = nI jk2p /\ (.func (.func qn0) #[] #[.pointer (some ⟨qn1,0,none⟩)] : Value) = .func (.func qn0) #[] #[.pointer (some ⟨qn1,0,none⟩)] /\ wkR (slQ 0 2 qn2) /\ (nI ((qn2 : Nat) : Int) : Value) = nI ((qn2 : Nat) : Int) /\ True) /\ (True) /\ (True) /\ (True)
abbrev jk8 (qn0 : Nat) (qp0 : Pol) (ql0 : List Rq) (qd0 : List Int) (qi0 : Int) (qn1 : Nat) (qd1 : List Int) : Prop:=true = true /\ wk (slQ 0 2 qn0 : Value) (rn (sg 16 []) 3 (slQ 0 2 (keepP (ofV qp0 ql0 qd0 qi0 qn1) qd1 qn0).length : Value)) /\ ((some (.cells true 1 (qd1.flatMap intC) : KObj) = some (.cells true 1 ((delP (ofV qp0 ql0 qd0 qi0 qn1) qd1 qn0).flatMap intC) : KObj) /\ belowO 16 (.cells true 1 ((delP (ofV qp0 ql0 qd0 qi0 qn1) qd1 qn0).flatMap intC) : KObj) = true) /\ True) /\ (True)
abbrev jkh (qn0 : Nat) (qn1 : Nat) : Value:=.func (.func qn0) #[] #[.pointer (some ⟨qn1,0,none⟩)]
abbrev jk1y (k : Nat) : Prop:=(jkh 125 15) = .func (.func 125) #[] #[.pointer (some ⟨15,0,none⟩)] /\ jk1d k
abbrev jk18 (p : Pol) (l : List Rq) (ov : List Int) (hr : Int) (M : List Int) (n_1 : Nat) : Int:=((keepP (ofV p l ov hr 0) M n_1).length : Nat)
abbrev jk12 (qp0 : Pol) (ql0 : List Rq) (qd0 : List Int) (qi0 : Int) (qd1 : List Int) (qn0 : Nat) : KObj:=.cells true 1 ((midP (ofV qp0 ql0 qd0 qi0 0) qd1 qn0).flatMap intC)
abbrev jk29 (qn0 : Nat) : Value:=nI (IntKind.wrap .i64 ((qn0 : Int) + 1))
abbrev jk9 (qn0 : Nat) (qn1 : Nat) (qd0 : List Int) (qp0 : Pol) (ql0 : List Rq) (qd1 : List Int) (qi0 : Int) (qn2 : Nat) : Prop:=(jk29 qn0) = nI ((qn0 : Int) + 1) /\ (∃ n_1' : Nat,(n_1' <= qn1 /\ (qd0.take n_1').all (ofV qp0 ql0 qd1 qi0 qn2) = true) /\ (qn1 - n_1') < (qn1 - qn0) /\ true = true /\ ((nI ((qn0 : Int) + 1) : Value) = nI (n_1' : Int) /\ (jkh 125 15) = .func (.func 125) #[] #[.pointer (some ⟨15,0,none⟩)] /\ wkR (slQ 0 2 qn1) /\ (nI (jk2j qn1) : Value) = nI (jk2j qn1) /\ True) /\ jk20)
def RDel1 (M : List Int) (k : Nat) (f : Fleet) (l : List Rq) (X Y : List Int) (hr : Int) (p : Pol) (ov : List Int) : Prop :=
 (true = true /\ (0 <= k /\ (M.take 0).all (ofV p l ov hr 0) = true) /\ (jka 125 15 k) /\ jk1l /\ ∀ n_0 : Nat,(n_0 <= k /\ (M.take n_0).all (ofV p l ov hr 0) = true) -> (((jk1m n_0 k) = true -> ((jkd n_0 k) /\ ((jkk M n_0) /\ (((0 : Int) <= (M.getD n_0 0) /\ ((M.getD n_0 0) : Int) < ((ov.length : Nat) : Int)) /\ (((ov.flatMap intC)[(0 + Int.toNat (M.getD n_0 0) * 1)]? = some (nI (ov.getD (M.getD n_0 0).toNat 0))) /\ (((!(decide ((p.ov : Int) <= (ov.getD (M.getD n_0 0).toNat 0)))) = true -> ((((jk2i n_0) == (-1)) = true -> (jk8 k p l ov hr 0 M)) /\ (((jk2i n_0) == (-1)) = false -> ((jk1k n_0) = nI ((n_0 : Int) + 1) /\ (true = true /\ ((n_0 + 1) <= k /\ (keepP (ofV p l ov hr 0) M (n_0 + 1)).length < (n_0 + 1)) /\ (true = true /\ ((jk23 n_0) = nI (jk1t n_0) /\ (nI (n_0 : Int) : Value) = nI (((keepP (ofV p l ov hr 0) M (n_0 + 1)).length : Nat) : Int) /\ jk1y k) /\ ((some (.cells true 1 (jk1u M) : KObj) = some (.cells true 1 ((midP (ofV p l ov hr 0) M (n_0 + 1)).flatMap intC) : KObj) /\ belowO 16 (.cells true 1 ((midP (ofV p l ov hr 0) M (n_0 + 1)).flatMap intC) : KObj) = true) /\ True) /\ jk1i) /\ jk2f /\ ∀ n_1 : Nat,(n_1 <= k /\ (keepP (ofV p l ov hr 0) M n_1).length < n_1) -> (((jk25 n_1 k) = true -> ((jkd n_1 k) /\ ((((midP (ofV p l ov hr 0) M n_1).flatMap intC)[(0 + Int.toNat (n_1 : Int) * 1)]? = some (nI ((midP (ofV p l ov hr 0) M n_1).getD n_1 0))) /\ (((0 : Int) <= ((midP (ofV p l ov hr 0) M n_1).getD n_1 0) /\ (((midP (ofV p l ov hr 0) M n_1).getD n_1 0) : Int) < ((ov.length : Nat) : Int)) /\ (((ov.flatMap intC)[(0 + Int.toNat ((midP (ofV p l ov hr 0) M n_1).getD n_1 0) * 1)]? = some (nI (ov.getD ((midP (ofV p l ov hr 0) M n_1).getD n_1 0).toNat 0))) /\ (((!(!(decide ((p.ov : Int) <= (ov.getD ((midP (ofV p l ov hr 0) M n_1).getD n_1 0).toNat 0))))) = true -> (((0 : Int) <= (jk18 p l ov hr M n_1) /\ ((jk18 p l ov hr M n_1) : Int) < (jk1h k)) /\ (((0 + Int.toNat (jk18 p l ov hr M n_1) * 1) + 1 <= List.length ((midP (ofV p l ov hr 0) M n_1).flatMap intC)) /\ true = true /\ ((nI (IntKind.wrap .i64 ((jk18 p l ov hr M n_1) + 1)) : Value) = nI ((jk18 p l ov hr M n_1) + 1) /\ ((jk1n n_1) = nI ((n_1 : Int) + 1) /\ (∃ n_2' : Nat,(n_2' <= k /\ (keepP (ofV p l ov hr 0) M n_2').length < n_2') /\ (k - n_2') < (k - n_1) /\ true = true /\ ((jk28 n_1) = nI (n_2' : Int) /\ (nI ((jk18 p l ov hr M n_1) + 1) : Value) = nI (((keepP (ofV p l ov hr 0) M n_2').length : Nat) : Int) /\ jk1y k) /\ ((some (.cells true 1 (setl ((midP (ofV p l ov hr 0) M n_1).flatMap intC) (0 + Int.toNat (jk18 p l ov hr M n_1) * 1) [nI ((midP (ofV p l ov hr 0) M n_1).getD n_1 0)]) : KObj) = some (jk12 p l ov hr M n_2') /\ belowO 16 (jk12 p l ov hr M n_2') = true) /\ True) /\ jk1i)))))) /\ ((!(!(decide ((p.ov : Int) <= (ov.getD ((midP (ofV p l ov hr 0) M n_1).getD n_1 0).toNat 0))))) = false -> ((jk1n n_1) = nI ((n_1 : Int) + 1) /\ (∃ n_2' : Nat,(n_2' <= k /\ (keepP (ofV p l ov hr 0) M n_2').length < n_2') /\ (k - n_2') < (k - n_1) /\ true = true /\ ((jk28 n_1) = nI (n_2' : Int) /\ (nI (jk18 p l ov hr M n_1) : Value) = nI (((keepP (ofV p l ov hr 0) M n_2').length : Nat) : Int) /\ jk1y k) /\ ((some (jk12 p l ov hr M n_1) = some (jk12 p l ov hr M n_2') /\ belowO 16 (jk12 p l ov hr M n_2') = true) /\ True) /\ jk1i))))))))) /\ ((jk25 n_1 k) = false -> (((jk1o /\ k <= k) /\ (k <= k) /\ ((0 : Int) <= (jk18 p l ov hr M n_1) /\ ((jk18 p l ov hr M n_1) : Int) <= (jk1h k))) /\ ((.slice (some ⟨0,(0 + (jk18 p l ov hr M n_1).toNat * 1),some 2⟩) (k - (jk18 p l ov hr M n_1).toNat) (k - (jk18 p l ov hr M n_1).toNat) : Value) = .slice (some ⟨0,(0 + (jk18 p l ov hr M n_1).toNat * 1),some 2⟩) (k - (keepP (ofV p l ov hr 0) M n_1).length) (k - (keepP (ofV p l ov hr 0) M n_1).length) /\ (((0 + (jk18 p l ov hr M n_1).toNat * 1) + (k - (keepP (ofV p l ov hr 0) M n_1).length) * 1 <= List.length ((midP (ofV p l ov hr 0) M n_1).flatMap intC)) /\ true = true /\ (((jk1o /\ (jk18 p l ov hr M n_1).toNat <= k) /\ ((0 : Int) <= (jk18 p l ov hr M n_1) /\ ((jk18 p l ov hr M n_1) : Int) <= (jk1h k)) /\ (0 <= (jk18 p l ov hr M n_1).toNat)) /\ ((slQ 0 2 ((jk18 p l ov hr M n_1).toNat - 0) : Value) = slQ 0 2 (keepP (ofV p l ov hr 0) M n_1).length /\ (true = true /\ wk (slQ 0 2 (keepP (ofV p l ov hr 0) M n_1).length : Value) (rn (sg 16 []) 3 (slQ 0 2 (keepP (ofV p l ov hr 0) M k).length : Value)) /\ ((some (.cells true 1 (setl ((midP (ofV p l ov hr 0) M n_1).flatMap intC) (0 + (jk18 p l ov hr M n_1).toNat * 1) (krep [nI 0] (k - (keepP (ofV p l ov hr 0) M n_1).length))) : KObj) = some (.cells true 1 ((delP (ofV p l ov hr 0) M k).flatMap intC) : KObj) /\ belowO 16 (.cells true 1 ((delP (ofV p l ov hr 0) M k).flatMap intC) : KObj) = true) /\ True) /\ (True)))))))))))))) /\ ((!(decide ((p.ov : Int) <= (ov.getD (M.getD n_0 0).toNat 0)))) = false -> (jk9 n_0 k M p l ov hr 0)))))))) /\ ((jk1m n_0 k) = false -> (jk8 k p l ov hr 0 M))))
abbrev jk26 (k : Nat) : List Value:=[slQ 0 2 k,.func (.func 125) #[] #[.pointer (some ⟨15,0,none⟩)]]
abbrev jk1q (n_0 : Nat) (k : Nat) : List (Nat × Value):=[(8,nI (n_0 : Int)),(1,.func (.func 125) #[] #[.pointer (some ⟨15,0,none⟩)]),(0,slQ 0 2 k),(7,nI (jk1h k))]
abbrev jkq (qd0 : List Int) (qf0 : Fleet) (ql0 : List Rq) (qd1 : List Int) (qd2 : List Int) (qi0 : Int) (qp0 : Pol) (qd3 : List Int) (qn0 : Nat) (qn1 : Nat):=newKW ((readsW 0 1 (qd0.flatMap intC) (ctC qf0 ql0 qd1 qd2 qi0 qp0 qd3 qn0)) : HT).n 3 0 (.cells true 1 ((delP (ofV qp0 ql0 qd3 qi0 qn0) qd0 qn1).flatMap intC)) (slQ 0 2 (keepP (ofV qp0 ql0 qd3 qi0 qn0) qd0 qn1).length) []
theorem EDel1 (M : List Int) (k : Nat) (f : Fleet) (l : List Rq) (X Y : List Int) (hr : Int) (p : Pol) (ov : List Int) : vF prog msk (dm 0) 100000 true 40 true 122 (jk26 k) (readsW 0 1 (jk1u M) (ctC f l X Y hr p ov 0)) (some [0])
 (.go 7 (.inv 3 (Nat) (0) [] [] (fun n_0 => (jk1q n_0 k)) (fun n_0 => []) (fun n_0 => []) (fun n_0 => []) (fun n_0 => (n_0 <= k /\ (M.take n_0).all (ofV p l ov hr 0) = true)) (fun n_0 => (k - n_0)) (fun n_0 => .go 0 (.fork (.go 4 (.need (.val (nI (M.getD n_0 0)) (.go 8 (.need (.val (nI (ov.getD (M.getD n_0 0).toNat 0)) (.go 5 (.fork (.go 4 (.fork (.go 1 jk1r) (.go 1 (.slot 15 (nI ((n_0 : Int) + 1)) (.go 0 (.inv 3 (Nat) ((n_0 + 1)) [] [0] (fun n_1 => [(6,nI (n_1 : Int)),(5,nI (jk18 p l ov hr M n_1)),(1,.func (.func 125) #[] #[.pointer (some ⟨15,0,none⟩)]),(0,slQ 0 2 k),jk2q]) (fun n_1 => [(0,true,.cells true 1 ((midP (ofV p l ov hr 0) M n_1).flatMap intC))]) (fun n_1 => []) (fun n_1 => []) (fun n_1 => (n_1 <= k /\ (keepP (ofV p l ov hr 0) M n_1).length < n_1)) (fun n_1 => (k - n_1)) (fun n_1 => .go 3 (.fork (.go 1 (.need (.val (nI ((midP (ofV p l ov hr 0) M n_1).getD n_1 0)) (.go 11 (.need (.val (nI (ov.getD ((midP (ofV p l ov hr 0) M n_1).getD n_1 0).toNat 0)) (.go 6 (.fork (.go 2 (.need (.need (.go 1 (.slot 35 (nI ((jk18 p l ov hr M n_1) + 1)) (jk5 2 21 n_1)))))) (jk5 1 21 n_1))))))))) (.go 1 (.need (.slot 38 (.slice (some ⟨0,(0 + (jk18 p l ov hr M n_1).toNat * 1),some 2⟩) (k - (keepP (ofV p l ov hr 0) M n_1).length) (k - (keepP (ofV p l ov hr 0) M n_1).length)) (.need (.go 1 (.need (.slot 41 (slQ 0 2 (keepP (ofV p l ov hr 0) M n_1).length) (.go 0 jk1r)))))))))))))))) (jk5 0 18 n_0))))))))) (.go 6 jk1r)))))
 (jkq M f l X Y hr p ov 0 k) = RDel1 M k f l X Y hr p ov:=by kernel_rfl
abbrev jk21 (qn1 : Nat) : Prop:=(jkh 125 15) = .func (.func 125) #[] #[.pointer (some ⟨15,0,none⟩)] /\ wkR (slQ 0 2 qn1) /\ (.slice none 0 0 : Value) = .slice none 0 0 /\ True
abbrev jk1w (qp0 : Pol) (ql0 : List Rq) (qd0 : List Int) (qi0 : Int) (qd1 : List Int) (n_1 : Nat) : Prop:=(0 : Int) <= ((midP (ofV qp0 ql0 qd0 qi0 1) qd1 n_1).getD n_1 0) /\ (((midP (ofV qp0 ql0 qd0 qi0 1) qd1 n_1).getD n_1 0) : Int) < ((ql0.length : Nat) : Int)
abbrev jk15 (ql0 : List Rq) (qp0 : Pol) (qd0 : List Int) (qi0 : Int) (qd1 : List Int) (n_1 : Nat):=ql0.getD ((midP (ofV qp0 ql0 qd0 qi0 1) qd1 n_1).getD n_1 0).toNat zeroQ
abbrev jk1a (qp0 : Pol) (ql0 : List Rq) (qd0 : List Int) (qi0 : Int) (qd1 : List Int) (n_1 : Nat) : Int:=((keepP (ofV qp0 ql0 qd0 qi0 1) qd1 n_1).length : Nat)
abbrev jk16 (n_1 : Nat) (qn1 : Nat) (qp0 : Pol) (ql0 : List Rq) (qd0 : List Int) (qi0 : Int) (qd1 : List Int) : Prop:=(jk1n n_1) = nI ((n_1 : Int) + 1) /\ (∃ n_2' : Nat,(n_2' <= qn1 /\ (keepP (ofV qp0 ql0 qd0 qi0 1) qd1 n_2').length < n_2') /\ (qn1 - n_2') < (qn1 - n_1) /\ true = true /\ ((jk28 n_1) = nI (n_2' : Int) /\ (nI (jk1a qp0 ql0 qd0 qi0 qd1 n_1) : Value) = nI (((keepP (ofV qp0 ql0 qd0 qi0 1) qd1 n_2').length : Nat) : Int) /\ jk21 qn1) /\ ((some (.cells true 1 ((midP (ofV qp0 ql0 qd0 qi0 1) qd1 n_1).flatMap intC) : KObj) = some (.cells true 1 ((midP (ofV qp0 ql0 qd0 qi0 1) qd1 n_2').flatMap intC) : KObj) /\ belowO 16 (.cells true 1 ((midP (ofV qp0 ql0 qd0 qi0 1) qd1 n_2').flatMap intC) : KObj) = true) /\ True) /\ jk1i)
abbrev jk0 (qn0 : Nat) (qn1 : Nat) (qp0 : Pol) (ql0 : List Rq) (qd0 : List Int) (qi0 : Int) (qd1 : List Int) : Prop:=((((qn0 : Int) : Int) == (-1)) = true -> (true = true /\ wk (slQ 0 2 qn1 : Value) (rn (sg 16 []) 3 (slQ 0 2 (keepP (ofV qp0 ql0 qd0 qi0 1) qd1 qn1).length : Value)) /\ ((some (.cells true 1 (qd1.flatMap intC) : KObj) = some (.cells true 1 ((delP (ofV qp0 ql0 qd0 qi0 1) qd1 qn1).flatMap intC) : KObj) /\ belowO 16 (.cells true 1 ((delP (ofV qp0 ql0 qd0 qi0 1) qd1 qn1).flatMap intC) : KObj) = true) /\ True) /\ (True))) /\ ((((qn0 : Int) : Int) == (-1)) = false -> ((jk29 qn0) = nI ((qn0 : Int) + 1) /\ (true = true /\ ((qn0 + 1) <= qn1 /\ (keepP (ofV qp0 ql0 qd0 qi0 1) qd1 (qn0 + 1)).length < (qn0 + 1)) /\ (true = true /\ ((nI ((qn0 : Int) + 1) : Value) = nI (((qn0 + 1) : Nat) : Int) /\ (nI (qn0 : Int) : Value) = nI (((keepP (ofV qp0 ql0 qd0 qi0 1) qd1 (qn0 + 1)).length : Nat) : Int) /\ jk21 qn1) /\ ((some (.cells true 1 (qd1.flatMap intC) : KObj) = some (.cells true 1 ((midP (ofV qp0 ql0 qd0 qi0 1) qd1 (qn0 + 1)).flatMap intC) : KObj) /\ belowO 16 (.cells true 1 ((midP (ofV qp0 ql0 qd0 qi0 1) qd1 (qn0 + 1)).flatMap intC) : KObj) = true) /\ True) /\ jk1i) /\ jk2f /\ ∀ n_1 : Nat,(n_1 <= qn1 /\ (keepP (ofV qp0 ql0 qd0 qi0 1) qd1 n_1).length < n_1) -> (((decide (((n_1 : Int) : Int) < (jk2j qn1))) = true -> (((0 : Int) <= (n_1 : Int) /\ ((n_1 : Int) : Int) < (jk2j qn1)) /\ ((((midP (ofV qp0 ql0 qd0 qi0 1) qd1 n_1).flatMap intC)[(0 + Int.toNat (n_1 : Int) * 1)]? = some (nI ((midP (ofV qp0 ql0 qd0 qi0 1) qd1 n_1).getD n_1 0))) /\ ((jk1w qp0 ql0 qd0 qi0 qd1 n_1) /\ (((ql0.flatMap rqC)[((0 + Int.toNat ((midP (ofV qp0 ql0 qd0 qi0 1) qd1 n_1).getD n_1 0) * 7) + 6)]? = some (nI (jk15 ql0 qp0 qd0 qi0 qd1 n_1).limit)) /\ (((decide ((0 : Int) < (jk15 ql0 qp0 qd0 qi0 qd1 n_1).limit)) = true -> ((jk1w qp0 ql0 qd0 qi0 qd1 n_1) /\ (((ql0.flatMap rqC)[((0 + Int.toNat ((midP (ofV qp0 ql0 qd0 qi0 1) qd1 n_1).getD n_1 0) * 7) + 1)]? = some (nI (jk15 ql0 qp0 qd0 qi0 qd1 n_1).at_)) /\ ((jk1w qp0 ql0 qd0 qi0 qd1 n_1) /\ (((ql0.flatMap rqC)[((0 + Int.toNat ((midP (ofV qp0 ql0 qd0 qi0 1) qd1 n_1).getD n_1 0) * 7) + 6)]? = some (nI (jk15 ql0 qp0 qd0 qi0 qd1 n_1).limit)) /\ ((nI (IntKind.wrap .i64 ((jk15 ql0 qp0 qd0 qi0 qd1 n_1).at_ + (jk15 ql0 qp0 qd0 qi0 qd1 n_1).limit)) : Value) = nI ((jk15 ql0 qp0 qd0 qi0 qd1 n_1).at_ + (jk15 ql0 qp0 qd0 qi0 qd1 n_1).limit) /\ ((nI (IntKind.wrap .i64 (((jk15 ql0 qp0 qd0 qi0 qd1 n_1).at_ + (jk15 ql0 qp0 qd0 qi0 qd1 n_1).limit) - qi0)) : Value) = nI (((jk15 ql0 qp0 qd0 qi0 qd1 n_1).at_ + (jk15 ql0 qp0 qd0 qi0 qd1 n_1).limit) - qi0) /\ (((!(!(decide (((((jk15 ql0 qp0 qd0 qi0 qd1 n_1).at_ + (jk15 ql0 qp0 qd0 qi0 qd1 n_1).limit) - qi0) : Int) <= qp0.warn)))) = true -> (((0 : Int) <= (jk1a qp0 ql0 qd0 qi0 qd1 n_1) /\ ((jk1a qp0 ql0 qd0 qi0 qd1 n_1) : Int) < (jk2j qn1)) /\ (((0 + Int.toNat (jk1a qp0 ql0 qd0 qi0 qd1 n_1) * 1) + 1 <= List.length ((midP (ofV qp0 ql0 qd0 qi0 1) qd1 n_1).flatMap intC)) /\ true = true /\ ((nI (IntKind.wrap .i64 ((jk1a qp0 ql0 qd0 qi0 qd1 n_1) + 1)) : Value) = nI ((jk1a qp0 ql0 qd0 qi0 qd1 n_1) + 1) /\ ((jk1n n_1) = nI ((n_1 : Int) + 1) /\ (∃ n_2' : Nat,(n_2' <= qn1 /\ (keepP (ofV qp0 ql0 qd0 qi0 1) qd1 n_2').length < n_2') /\ (qn1 - n_2') < (qn1 - n_1) /\ true = true /\ ((jk28 n_1) = nI (n_2' : Int) /\ (nI ((jk1a qp0 ql0 qd0 qi0 qd1 n_1) + 1) : Value) = nI (((keepP (ofV qp0 ql0 qd0 qi0 1) qd1 n_2').length : Nat) : Int) /\ jk21 qn1) /\ ((some (.cells true 1 (setl ((midP (ofV qp0 ql0 qd0 qi0 1) qd1 n_1).flatMap intC) (0 + Int.toNat (jk1a qp0 ql0 qd0 qi0 qd1 n_1) * 1) [nI ((midP (ofV qp0 ql0 qd0 qi0 1) qd1 n_1).getD n_1 0)]) : KObj) = some (.cells true 1 ((midP (ofV qp0 ql0 qd0 qi0 1) qd1 n_2').flatMap intC) : KObj) /\ belowO 16 (.cells true 1 ((midP (ofV qp0 ql0 qd0 qi0 1) qd1 n_2').flatMap intC) : KObj) = true) /\ True) /\ jk1i)))))) /\ ((!(!(decide (((((jk15 ql0 qp0 qd0 qi0 qd1 n_1).at_ + (jk15 ql0 qp0 qd0 qi0 qd1 n_1).limit) - qi0) : Int) <= qp0.warn)))) = false -> (jk16 n_1 qn1 qp0 ql0 qd0 qi0 qd1)))))))))) /\ ((decide ((0 : Int) < (jk15 ql0 qp0 qd0 qi0 qd1 n_1).limit)) = false -> (jk16 n_1 qn1 qp0 ql0 qd0 qi0 qd1)))))))) /\ ((decide (((n_1 : Int) : Int) < (jk2j qn1))) = false -> (((jk1o /\ qn1 <= qn1) /\ (qn1 <= qn1) /\ ((0 : Int) <= (jk1a qp0 ql0 qd0 qi0 qd1 n_1) /\ ((jk1a qp0 ql0 qd0 qi0 qd1 n_1) : Int) <= (jk2j qn1))) /\ ((.slice (some ⟨0,(0 + (jk1a qp0 ql0 qd0 qi0 qd1 n_1).toNat * 1),some 2⟩) (qn1 - (jk1a qp0 ql0 qd0 qi0 qd1 n_1).toNat) (qn1 - (jk1a qp0 ql0 qd0 qi0 qd1 n_1).toNat) : Value) = .slice (some ⟨0,(0 + (jk1a qp0 ql0 qd0 qi0 qd1 n_1).toNat * 1),some 2⟩) (qn1 - (keepP (ofV qp0 ql0 qd0 qi0 1) qd1 n_1).length) (qn1 - (keepP (ofV qp0 ql0 qd0 qi0 1) qd1 n_1).length) /\ (((0 + (jk1a qp0 ql0 qd0 qi0 qd1 n_1).toNat * 1) + (qn1 - (keepP (ofV qp0 ql0 qd0 qi0 1) qd1 n_1).length) * 1 <= List.length ((midP (ofV qp0 ql0 qd0 qi0 1) qd1 n_1).flatMap intC)) /\ true = true /\ (((jk1o /\ (jk1a qp0 ql0 qd0 qi0 qd1 n_1).toNat <= qn1) /\ ((0 : Int) <= (jk1a qp0 ql0 qd0 qi0 qd1 n_1) /\ ((jk1a qp0 ql0 qd0 qi0 qd1 n_1) : Int) <= (jk2j qn1)) /\ (0 <= (jk1a qp0 ql0 qd0 qi0 qd1 n_1).toNat)) /\ ((slQ 0 2 ((jk1a qp0 ql0 qd0 qi0 qd1 n_1).toNat - 0) : Value) = slQ 0 2 (keepP (ofV qp0 ql0 qd0 qi0 1) qd1 n_1).length /\ (true = true /\ wk (slQ 0 2 (keepP (ofV qp0 ql0 qd0 qi0 1) qd1 n_1).length : Value) (rn (sg 16 []) 3 (slQ 0 2 (keepP (ofV qp0 ql0 qd0 qi0 1) qd1 qn1).length : Value)) /\ ((some (.cells true 1 (setl ((midP (ofV qp0 ql0 qd0 qi0 1) qd1 n_1).flatMap intC) (0 + (jk1a qp0 ql0 qd0 qi0 qd1 n_1).toNat * 1) (krep [nI 0] (qn1 - (keepP (ofV qp0 ql0 qd0 qi0 1) qd1 n_1).length))) : KObj) = some (.cells true 1 ((delP (ofV qp0 ql0 qd0 qi0 1) qd1 qn1).flatMap intC) : KObj) /\ belowO 16 (.cells true 1 ((delP (ofV qp0 ql0 qd0 qi0 1) qd1 qn1).flatMap intC) : KObj) = true) /\ True) /\ (True))))))))))))
def RDel2 (M : List Int) (k : Nat) (f : Fleet) (l : List Rq) (X Y : List Int) (hr : Int) (p : Pol) (ov : List Int) : Prop :=
 (true = true /\ (0 <= k /\ (M.take 0).all (ofV p l ov hr 1) = true) /\ (jka 125 15 k) /\ jk1l /\ ∀ n_0 : Nat,(n_0 <= k /\ (M.take n_0).all (ofV p l ov hr 1) = true) -> (((jk1m n_0 k) = true -> ((jkd n_0 k) /\ ((jkk M n_0) /\ ((jkr M n_0 l) /\ (((jk2e l)[((0 + Int.toNat (M.getD n_0 0) * 7) + 6)]? = some (nI (jk1c l M n_0).limit)) /\ (((decide ((0 : Int) < (jk1c l M n_0).limit)) = true -> ((jkr M n_0 l) /\ (((jk2e l)[((0 + Int.toNat (M.getD n_0 0) * 7) + 1)]? = some (nI (jk1c l M n_0).at_)) /\ ((jkr M n_0 l) /\ (((jk2e l)[((0 + Int.toNat (M.getD n_0 0) * 7) + 6)]? = some (nI (jk1c l M n_0).limit)) /\ ((nI (IntKind.wrap .i64 ((jk1c l M n_0).at_ + (jk1c l M n_0).limit)) : Value) = nI ((jk1c l M n_0).at_ + (jk1c l M n_0).limit) /\ ((nI (IntKind.wrap .i64 (((jk1c l M n_0).at_ + (jk1c l M n_0).limit) - hr)) : Value) = nI (((jk1c l M n_0).at_ + (jk1c l M n_0).limit) - hr) /\ (((!(decide (((((jk1c l M n_0).at_ + (jk1c l M n_0).limit) - hr) : Int) <= p.warn))) = true -> (jk0 n_0 k p l ov hr M)) /\ ((!(decide (((((jk1c l M n_0).at_ + (jk1c l M n_0).limit) - hr) : Int) <= p.warn))) = false -> (jk9 n_0 k M p l ov hr 1)))))))))) /\ ((decide ((0 : Int) < (jk1c l M n_0).limit)) = false -> (jk0 n_0 k p l ov hr M)))))))) /\ ((jk1m n_0 k) = false -> (jk8 k p l ov hr 1 M))))
abbrev jk3 (qn0 : Nat) (qp0 : Pol) (ql0 : List Rq) (qd0 : List Int) (qi0 : Int) (qd1 : List Int) (qn1 : Nat) : Hint:=.fork (.go 1 jk1r) (.go 1 (.slot 15 (nI ((qn0 : Int) + 1)) (.go 0 (.inv 3 (Nat) ((qn0 + 1)) [] [0] (fun n_1 => [(6,nI (n_1 : Int)),(5,nI (jk1a qp0 ql0 qd0 qi0 qd1 n_1)),(1,.func (.func 125) #[] #[.pointer (some ⟨15,0,none⟩)]),(0,slQ 0 2 qn1),jk2q]) (fun n_1 => [(0,true,.cells true 1 ((midP (ofV qp0 ql0 qd0 qi0 1) qd1 n_1).flatMap intC))]) (fun n_1 => []) (fun n_1 => []) (fun n_1 => (n_1 <= qn1 /\ (keepP (ofV qp0 ql0 qd0 qi0 1) qd1 n_1).length < n_1)) (fun n_1 => (qn1 - n_1)) (fun n_1 => .go 3 (.fork (.go 1 (.need (.val (nI ((midP (ofV qp0 ql0 qd0 qi0 1) qd1 n_1).getD n_1 0)) (.go 14 (.need (.go 0 (.val (nI (jk15 ql0 qp0 qd0 qi0 qd1 n_1).limit) (.go 1 (.gfork (.go 11 (.need (.go 0 (.val (nI (jk15 ql0 qp0 qd0 qi0 qd1 n_1).at_) (.go 4 (.need (.go 0 (.val (nI (jk15 ql0 qp0 qd0 qi0 qd1 n_1).limit) (.go 0 (.slot 20 (nI ((jk15 ql0 qp0 qd0 qi0 qd1 n_1).at_ + (jk15 ql0 qp0 qd0 qi0 qd1 n_1).limit)) (.go 1 (.slot 21 (nI (((jk15 ql0 qp0 qd0 qi0 qd1 n_1).at_ + (jk15 ql0 qp0 qd0 qi0 qd1 n_1).limit) - qi0)) (.go 5 (.fork (.go 2 (.need (.need (.go 1 (.slot 35 (nI ((jk1a qp0 ql0 qd0 qi0 qd1 n_1) + 1)) (jk5 2 21 n_1)))))) (jk5 1 21 n_1))))))))))))))) (.go 7 (.slot 21 (nI ((n_1 : Int) + 1)) (.go 0 (.again []))))))))))))) (.go 1 (.need (.slot 38 (.slice (some ⟨0,(0 + (jk1a qp0 ql0 qd0 qi0 qd1 n_1).toNat * 1),some 2⟩) (qn1 - (keepP (ofV qp0 ql0 qd0 qi0 1) qd1 n_1).length) (qn1 - (keepP (ofV qp0 ql0 qd0 qi0 1) qd1 n_1).length)) (.need (.go 1 (.need (.slot 41 (slQ 0 2 (keepP (ofV qp0 ql0 qd0 qi0 1) qd1 n_1).length) (.go 0 jk1r))))))))))))))
theorem EDel2 (M : List Int) (k : Nat) (f : Fleet) (l : List Rq) (X Y : List Int) (hr : Int) (p : Pol) (ov : List Int) : vF prog msk (dm 0) 100000 true 40 true 122 (jk26 k) (readsW 0 1 (jk1u M) (ctC f l X Y hr p ov 1)) (some [0])
 (.go 7 (.inv 3 (Nat) (0) [] [] (fun n_0 => (jk1q n_0 k)) (fun n_0 => []) (fun n_0 => []) (fun n_0 => []) (fun n_0 => (n_0 <= k /\ (M.take n_0).all (ofV p l ov hr 1) = true)) (fun n_0 => (k - n_0)) (fun n_0 => .go 0 (.fork (.go 4 (.need (.val (nI (M.getD n_0 0)) (.go 11 (.need (.go 0 (.val (nI (jk1c l M n_0).limit) (.go 1 (.gfork (.go 11 (.need (.go 0 (.val (nI (jk1c l M n_0).at_) (.go 4 (.need (.go 0 (.val (nI (jk1c l M n_0).limit) (.go 0 (.slot 20 (nI ((jk1c l M n_0).at_ + (jk1c l M n_0).limit)) (.go 1 (.slot 21 (nI (((jk1c l M n_0).at_ + (jk1c l M n_0).limit) - hr)) (.go 4 (.fork (.go 4 (jk3 n_0 p l ov hr M k)) (jk5 0 18 n_0))))))))))))))) (.go 9 (jk3 n_0 p l ov hr M k))))))))))) (.go 6 jk1r)))))
 (jkq M f l X Y hr p ov 1 k) = RDel2 M k f l X Y hr p ov:=by kernel_rfl
def RDel3 (M : List Int) (k : Nat) (f : Fleet) (l : List Rq) (X Y : List Int) (hr : Int) (p : Pol) (ov : List Int) : Prop :=
 (true = true /\ (0 <= k /\ (M.take 0).all (ofV p l ov hr 2) = true) /\ (jka 125 15 k) /\ jk1l /\ ∀ n_0 : Nat,(n_0 <= k /\ (M.take n_0).all (ofV p l ov hr 2) = true) -> (((jk1m n_0 k) = true -> ((jkd n_0 k) /\ ((jkk M n_0) /\ (jk9 n_0 k M p l ov hr 2)))) /\ ((jk1m n_0 k) = false -> (jk8 k p l ov hr 2 M))))
theorem EDel3 (M : List Int) (k : Nat) (f : Fleet) (l : List Rq) (X Y : List Int) (hr : Int) (p : Pol) (ov : List Int) : vF prog msk (dm 0) 100000 true 40 true 122 (jk26 k) (readsW 0 1 (jk1u M) (ctC f l X Y hr p ov 2)) (some [0])
 (.go 7 (.inv 3 (Nat) (0) [] [] (fun n_0 => (jk1q n_0 k)) (fun n_0 => []) (fun n_0 => []) (fun n_0 => []) (fun n_0 => (n_0 <= k /\ (M.take n_0).all (ofV p l ov hr 2) = true)) (fun n_0 => (k - n_0)) (fun n_0 => .go 0 (.fork (.go 4 (.need (.val (nI (M.getD n_0 0)) (jk5 11 18 n_0)))) (.go 6 jk1r)))))
 (jkq M f l X Y hr p ov 2 k) = RDel3 M k f l X Y hr p ov:=by kernel_rfl
abbrev jki (qn0 : Nat) (qi0 : Int) (qd0 : List Int) : Prop:=true = true /\ wk (slQ 0 2 qn0 : Value) (rn (sg 2 []) 3 (slQ 0 2 (keepP (qNe qi0) qd0 qn0).length : Value)) /\ ((some (.cells true 1 (qd0.flatMap intC) : KObj) = some (.cells true 1 ((delP (qNe qi0) qd0 qn0).flatMap intC) : KObj) /\ belowO 2 (.cells true 1 ((delP (qNe qi0) qd0 qn0).flatMap intC) : KObj) = true) /\ True) /\ (True)
abbrev jk1z (k : Nat) : Prop:=(jkh 130 1) = .func (.func 130) #[] #[.pointer (some ⟨1,0,none⟩)] /\ jk1d k
abbrev jk1b (i : Int) (M : List Int) (n_1 : Nat) : Int:=((keepP (qNe i) M n_1).length : Nat)
abbrev jk2c (i : Int) (M : List Int) (n_2' : Nat) : KObj:=.cells true 1 ((midP (qNe i) M n_2').flatMap intC)
abbrev jk13 (qi0 : Int) (qd0 : List Int) (qn0 : Nat) (qn1 : Nat) : Prop:=(0 : Int) <= (((keepP (qNe qi0) qd0 qn0).length : Nat) : Int) /\ ((((keepP (qNe qi0) qd0 qn0).length : Nat) : Int) : Int) <= (jk2j qn1)
def RDel4 (M : List Int) (k : Nat) (i : Int) : Prop :=
 (true = true /\ (0 <= k /\ (M.take 0).all (qNe i) = true) /\ (jka 130 1 k) /\ jk1l /\ ∀ n_0 : Nat,(n_0 <= k /\ (M.take n_0).all (qNe i) = true) -> (((jk1m n_0 k) = true -> ((jkd n_0 k) /\ ((jkk M n_0) /\ (((((M.getD n_0 0) : Int) == i) = true -> ((((jk2i n_0) == (-1)) = true -> (jki k i M)) /\ (((jk2i n_0) == (-1)) = false -> ((jk1k n_0) = nI ((n_0 : Int) + 1) /\ (true = true /\ ((n_0 + 1) <= k /\ (keepP (qNe i) M (n_0 + 1)).length < (n_0 + 1)) /\ (true = true /\ ((jk23 n_0) = nI (jk1t n_0) /\ (nI (n_0 : Int) : Value) = nI (((keepP (qNe i) M (n_0 + 1)).length : Nat) : Int) /\ jk1z k) /\ ((some (.cells true 1 (jk1u M) : KObj) = some (.cells true 1 ((midP (qNe i) M (n_0 + 1)).flatMap intC) : KObj) /\ belowO 2 (.cells true 1 ((midP (qNe i) M (n_0 + 1)).flatMap intC) : KObj) = true) /\ True) /\ jk1i) /\ jk2f /\ ∀ n_1 : Nat,(n_1 <= k /\ (keepP (qNe i) M n_1).length < n_1) -> (((jk25 n_1 k) = true -> ((jkd n_1 k) /\ ((((midP (qNe i) M n_1).flatMap intC)[(0 + Int.toNat (n_1 : Int) * 1)]? = some (nI ((midP (qNe i) M n_1).getD n_1 0))) /\ (((!((((midP (qNe i) M n_1).getD n_1 0) : Int) == i)) = true -> (((0 : Int) <= (jk1b i M n_1) /\ ((jk1b i M n_1) : Int) < (jk1h k)) /\ (((0 + Int.toNat (jk1b i M n_1) * 1) + 1 <= List.length ((midP (qNe i) M n_1).flatMap intC)) /\ true = true /\ ((nI (IntKind.wrap .i64 ((jk1b i M n_1) + 1)) : Value) = nI ((jk1b i M n_1) + 1) /\ ((jk1n n_1) = nI ((n_1 : Int) + 1) /\ (∃ n_2' : Nat,(n_2' <= k /\ (keepP (qNe i) M n_2').length < n_2') /\ (k - n_2') < (k - n_1) /\ true = true /\ ((jk28 n_1) = nI (n_2' : Int) /\ (nI ((jk1b i M n_1) + 1) : Value) = nI (((keepP (qNe i) M n_2').length : Nat) : Int) /\ jk1z k) /\ ((some (.cells true 1 (setl ((midP (qNe i) M n_1).flatMap intC) (0 + Int.toNat (jk1b i M n_1) * 1) [nI ((midP (qNe i) M n_1).getD n_1 0)]) : KObj) = some (jk2c i M n_2') /\ belowO 2 (jk2c i M n_2') = true) /\ True) /\ jk1i)))))) /\ ((!((((midP (qNe i) M n_1).getD n_1 0) : Int) == i)) = false -> ((jk1n n_1) = nI ((n_1 : Int) + 1) /\ (∃ n_2' : Nat,(n_2' <= k /\ (keepP (qNe i) M n_2').length < n_2') /\ (k - n_2') < (k - n_1) /\ true = true /\ ((jk28 n_1) = nI (n_2' : Int) /\ (nI (jk1b i M n_1) : Value) = nI (((keepP (qNe i) M n_2').length : Nat) : Int) /\ jk1z k) /\ ((some (.cells true 1 ((midP (qNe i) M n_1).flatMap intC) : KObj) = some (jk2c i M n_2') /\ belowO 2 (jk2c i M n_2') = true) /\ True) /\ jk1i))))))) /\ ((jk25 n_1 k) = false -> (((jk1o /\ k <= k) /\ (k <= k) /\ (jk13 i M n_1 k)) /\ ((.slice (some ⟨0,(0 + (jk1b i M n_1).toNat * 1),some 2⟩) (k - (jk1b i M n_1).toNat) (k - (jk1b i M n_1).toNat) : Value) = .slice (some ⟨0,(0 + (jk1b i M n_1).toNat * 1),some 2⟩) (k - (keepP (qNe i) M n_1).length) (k - (keepP (qNe i) M n_1).length) /\ (((0 + (jk1b i M n_1).toNat * 1) + (k - (keepP (qNe i) M n_1).length) * 1 <= List.length ((midP (qNe i) M n_1).flatMap intC)) /\ true = true /\ (((jk1o /\ (jk1b i M n_1).toNat <= k) /\ (jk13 i M n_1 k) /\ (0 <= (jk1b i M n_1).toNat)) /\ ((slQ 0 2 ((jk1b i M n_1).toNat - 0) : Value) = slQ 0 2 (keepP (qNe i) M n_1).length /\ (true = true /\ wk (slQ 0 2 (keepP (qNe i) M n_1).length : Value) (rn (sg 2 []) 3 (slQ 0 2 (keepP (qNe i) M k).length : Value)) /\ ((some (.cells true 1 (setl ((midP (qNe i) M n_1).flatMap intC) (0 + (jk1b i M n_1).toNat * 1) (krep [nI 0] (k - (keepP (qNe i) M n_1).length))) : KObj) = some (.cells true 1 ((delP (qNe i) M k).flatMap intC) : KObj) /\ belowO 2 (.cells true 1 ((delP (qNe i) M k).flatMap intC) : KObj) = true) /\ True) /\ (True)))))))))))))) /\ ((((M.getD n_0 0) : Int) == i) = false -> ((jk1k n_0) = nI ((n_0 : Int) + 1) /\ (∃ n_1' : Nat,(n_1' <= k /\ (M.take n_1').all (qNe i) = true) /\ (k - n_1') < (k - n_0) /\ true = true /\ ((jk23 n_0) = nI (n_1' : Int) /\ (jkh 130 1) = .func (.func 130) #[] #[.pointer (some ⟨1,0,none⟩)] /\ wkR (slQ 0 2 k) /\ (nI (jk1h k) : Value) = nI (jk1h k) /\ True) /\ jk20))))))) /\ ((jk1m n_0 k) = false -> (jki k i M))))
theorem EDel4 (M : List Int) (k : Nat) (i : Int) : vF prog msk (dm 0) 100000 true 40 true 122 [slQ 0 2 k,.func (.func 130) #[] #[.pointer (some ⟨1,0,none⟩)]] (readsW 0 1 (jk1u M) [[nI i]]) (some [0])
 (.go 7 (.inv 3 (Nat) (0) [] [] (fun n_0 => [(8,nI (n_0 : Int)),(1,.func (.func 130) #[] #[.pointer (some ⟨1,0,none⟩)]),(0,slQ 0 2 k),(7,nI (jk1h k))]) (fun n_0 => []) (fun n_0 => []) (fun n_0 => []) (fun n_0 => (n_0 <= k /\ (M.take n_0).all (qNe i) = true)) (fun n_0 => (k - n_0)) (fun n_0 => .go 0 (.fork (.go 4 (.need (.val (nI (M.getD n_0 0)) (.go 5 (.fork (.go 4 (.fork (.go 1 jk1r) (.go 1 (.slot 15 (nI ((n_0 : Int) + 1)) (.go 0 (.inv 3 (Nat) ((n_0 + 1)) [] [0] (fun n_1 => [(6,nI (n_1 : Int)),(5,nI (jk1b i M n_1)),(1,.func (.func 130) #[] #[.pointer (some ⟨1,0,none⟩)]),(0,slQ 0 2 k),jk2q]) (fun n_1 => [(0,true,.cells true 1 ((midP (qNe i) M n_1).flatMap intC))]) (fun n_1 => []) (fun n_1 => []) (fun n_1 => (n_1 <= k /\ (keepP (qNe i) M n_1).length < n_1)) (fun n_1 => (k - n_1)) (fun n_1 => .go 3 (.fork (.go 1 (.need (.val (nI ((midP (qNe i) M n_1).getD n_1 0)) (.go 9 (.fork (.go 2 (.need (.need (.go 1 (.slot 35 (nI ((jk1b i M n_1) + 1)) (jk5 2 21 n_1)))))) (jk5 1 21 n_1)))))) (.go 1 (.need (.slot 38 (.slice (some ⟨0,(0 + (jk1b i M n_1).toNat * 1),some 2⟩) (k - (keepP (qNe i) M n_1).length) (k - (keepP (qNe i) M n_1).length)) (.need (.go 1 (.need (.slot 41 (slQ 0 2 (keepP (qNe i) M n_1).length) (.go 0 jk1r)))))))))))))))) (jk5 0 18 n_0)))))) (.go 6 jk1r)))))
 (newKW ((readsW 0 1 (jk1u M) [[nI i]]) : HT).n 3 0 (.cells true 1 ((delP (qNe i) M k).flatMap intC)) (slQ 0 2 (keepP (qNe i) M k).length) []) = RDel4 M k i:=by kernel_rfl
abbrev jk2a (k : Nat) : Prop:=(0 : Int) <= 0 /\ (0 : Int) < (jk1h k)
abbrev jkg (qn0 : Nat) : Prop:=((false = false ∨ 0 = 0 ∨ 0 = 1) /\ qn0 <= qn0) /\ (qn0 <= qn0) /\ ((0 : Int) <= 1 /\ (1 : Int) <= ((qn0 : Nat) : Int))
abbrev jkt : Value:=.func (.func 120) #[.pointer (some ⟨6,0,none⟩)] #[]
abbrev jk1f (k : Nat) : Prop:=jkt = .func (.func 120) #[.pointer (some ⟨6,0,none⟩)] #[] /\ jk2d = nI 0 /\ wkR (.slice (some ⟨0,1,some 2⟩) (k - 1) (k - 1)) /\ (nI (((k - 1) : Nat) : Int) : Value) = nI (((k - 1) : Nat) : Int) /\ True
abbrev jk1x (n_0 : Nat) (k : Nat):=decide ((jk2i n_0) < (((k - 1) : Nat) : Int))
abbrev jkp (qn0 : Nat) (qn1 : Nat) : Prop:=(0 : Int) <= (qn0 : Int) /\ ((qn0 : Int) : Int) < (((qn1 - 1) : Nat) : Int)
abbrev jkn (qd0 : List Int) (qn0 : Nat) : Prop:=(qd0.flatMap intC)[(1 + Int.toNat (qn0 : Int) * 1)]? = some (nI (qd0.getD (qn0 + 1) 0))
abbrev jk1j (qf0 : Fleet) (ql0 : List Rq) (qd0 : List Int) (qd1 : List Int) : List Value:=[slQ 1 2 qf0.t.length,slQ 2 2 qf0.b.length,slQ 3 2 ql0.length,.slice (some ⟨4,0,none⟩) qd0.length qd0.length,slQ 5 1 qd1.length]
abbrev jk6 (qf0 : Fleet) (ql0 : List Rq) (qd0 : List Int) (qd1 : List Int) : Prop:=(someR (.cells false 0 (jk1j qf0 ql0 qd0 qd1))) /\ (someR (.cells false 0 (inL qf0.t))) /\ (someR (.cells false 0 (qf0.b.flatMap intC))) /\ (someR (.cells false 0 (ql0.flatMap rqC))) /\ (someR (.cells false 0 (qd0.flatMap intC))) /\ (someR (.cells false 0 (qd1.flatMap intC))) /\ True
abbrev jk4 (qh0 : Heap) (qf0 : Fleet) (ql0 : List Rq) (qd0 : List Int) (qd1 : List Int) : Prop:=qh0[6]? = some (.cells false 0 (jk1j qf0 ql0 qd0 qd1) : KObj) /\ qh0[1]? = some (.cells false 0 (inL qf0.t) : KObj) /\ qh0[2]? = some (.cells false 0 (qf0.b.flatMap intC) : KObj) /\ qh0[3]? = some (.cells false 0 (ql0.flatMap rqC) : KObj) /\ qh0[4]? = some (.cells false 0 (qd0.flatMap intC) : KObj) /\ qh0[5]? = some (.cells false 0 (qd1.flatMap intC) : KObj) /\ True
abbrev jkv (ql0 : List Rq) (qd0 : List Int) (qn0 : Nat):=laterV (rqAt ql0 (qd0.getD (qn0 + 1) 0)) (rqAt ql0 (bstP (cmpL ql0) qd0 qn0))
def RBst0 (sp : Value) (M : List Int) (k : Nat) (f : Fleet) (l : List Rq) (X Y : List Int) : Prop :=
 ((jk2a k) /\ ((jk27 M) /\ ((jkg k) /\ (true = true /\ (0 <= k - 1) /\ (true = true /\ (jk2d = nI jk2p /\ (nI (M.getD 0 0) : Value) = nI (bstP (cmpL l) M 0) /\ jk1f k) /\ jk20) /\ jk1l /\ ∀ n_0 : Nat,(n_0 <= k - 1) -> (((jk1x n_0 k) = true -> ((jkp n_0 k) /\ ((jkn M n_0) /\ ((jk6 f l X Y) /\ (∀ H' : Heap,H'.length = 7 -> (jk4 H' f l X Y) -> KCall prog 120 [.pointer (some ⟨6,0,none⟩),nI (jk2l M n_0),nI (bstP (cmpL l) M n_0)] H' [] (Is (nI (jkv l M n_0)) H')) /\ (((decide (((jkv l M n_0) : Int) < 0)) = true -> ((jk1k n_0) = nI ((n_0 : Int) + 1) /\ (∃ n_1' : Nat,(n_1' <= k - 1) /\ (k - 1 - n_1') < (k - 1 - n_0) /\ true = true /\ ((jk23 n_0) = nI (n_1' : Int) /\ (nI (jk2l M n_0) : Value) = nI (bstP (cmpL l) M n_1') /\ jk1f k) /\ jk20))) /\ ((decide (((jkv l M n_0) : Int) < 0)) = false -> ((jk1k n_0) = nI ((n_0 : Int) + 1) /\ (∃ n_1' : Nat,(n_1' <= k - 1) /\ (k - 1 - n_1') < (k - 1 - n_0) /\ true = true /\ ((jk23 n_0) = nI (n_1' : Int) /\ (nI (bstP (cmpL l) M n_0) : Value) = nI (bstP (cmpL l) M n_1') /\ jk1f k) /\ jk20)))))))) /\ ((jk1x n_0 k) = false -> (nI (bstP (cmpL l) M n_0) : Value) = sp))))))
abbrev jk22 (k : Nat) : Nat × Value:=(12,.slice (some ⟨0,1,some 2⟩) (k - 1) (k - 1))
abbrev jk2n (k : Nat) : Nat × Value:=(13,nI (((k - 1) : Nat) : Int))
abbrev jk14 (qf0 : Fleet) (ql0 : List Rq) (qd0 : List Int) (qd1 : List Int) : Nat × KObj:=(6,.cells false 0 (jk1j qf0 ql0 qd0 qd1))
theorem EBst0 (sp : Value) (M : List Int) (k : Nat) (f : Fleet) (l : List Rq) (X Y : List Int) : vF prog msk (dm 0) 100000 true 40 true 119 [slQ 0 2 k,.func (.func 120) #[.pointer (some ⟨6,0,none⟩)] #[]] (readsT 0 ((jk1u M) :: ctA f l X Y)) (some [])
 (.go 1 (.need (.val (nI (M.getD 0 0)) (.go 1 (.need (.go 1 (.inv 3 (Nat) (0) [] [] (fun n_0 => [(14,nI (n_0 : Int)),(5,nI (bstP (cmpL l) M n_0)),(1,.func (.func 120) #[.pointer (some ⟨6,0,none⟩)] #[]),(4,nI 0),(jk22 k),(jk2n k)]) (fun n_0 => []) (fun n_0 => []) (fun n_0 => []) (fun n_0 => (n_0 <= k - 1)) (fun n_0 => (k - 1 - n_0)) (fun n_0 => .go 0 (.fork (.need (.val (nI (jk2l M n_0)) (.go 3 (.ans [(jk14 f l X Y),(1,.cells false 0 (inL f.t)),(2,.cells false 0 (f.b.flatMap intC)),(3,.cells false 0 (jk2e l)),(4,.cells false 0 (X.flatMap intC)),(5,.cells false 0 (Y.flatMap intC))] (nI (jkv l M n_0)) [] (.go 0 (.fork (jk5 2 24 n_0) (jk5 0 24 n_0))))))) (.auto))))))))))
 (fun v _ _ => v = sp) = RBst0 sp M k f l X Y:=by kernel_rfl
abbrev jk17 (qn1 : Nat) : Prop:=(.func (.func 126) #[] #[.pointer (some ⟨15,0,none⟩),.pointer (some ⟨7,0,none⟩)] : Value) = .func (.func 126) #[] #[.pointer (some ⟨15,0,none⟩),.pointer (some ⟨7,0,none⟩)] /\ jk2d = nI 0 /\ wkR (.slice (some ⟨0,1,some 2⟩) (qn1 - 1) (qn1 - 1)) /\ (nI (((qn1 - 1) : Nat) : Int) : Value) = nI (((qn1 - 1) : Nat) : Int) /\ True
abbrev jk7 (qd0 : List Int) (ql0 : List Rq) (qn0 : Nat) (qn1 : Nat) : Prop:=true = true /\ (jk2d = nI jk2p /\ (nI (qd0.getD 0 0) : Value) = nI (bstP (cmpV ql0 qn0) qd0 0) /\ jk17 qn1) /\ (True) /\ (True) /\ (True)
abbrev jkb (ql0 : List Rq) (qd0 : List Int) (qn0 : Nat) (qn1 : Nat):=laterV (rqAt ql0 (qd0.getD (qn0 + 1) 0)) (rqAt ql0 (bstP (cmpV ql0 qn1) qd0 qn0))
abbrev jkl (qf0 : Fleet) (ql0 : List Rq) (qd0 : List Int) (qd1 : List Int) (qd2 : List Int) (qn0 : Nat) (qn1 : Nat) : Prop:=∀ H' : Heap,H'.length = 16 -> (jk4 H' qf0 ql0 qd0 qd1) -> KCall prog 120 [.pointer (some ⟨6,0,none⟩),nI (qd2.getD (qn0 + 1) 0),nI (bstP (cmpV ql0 qn1) qd2 qn0)] H' [] (Is (nI (jkb ql0 qd2 qn0 qn1)) H')
abbrev jk2 (qn0 : Nat) (qn1 : Nat) (qd0 : List Int) (ql0 : List Rq) (qn2 : Nat) : Prop:=(jk29 qn0) = nI ((qn0 : Int) + 1) /\ (∃ n_1' : Nat,(n_1' <= qn1 - 1) /\ (qn1 - 1 - n_1') < (qn1 - 1 - qn0) /\ true = true /\ ((nI ((qn0 : Int) + 1) : Value) = nI (n_1' : Int) /\ (nI (qd0.getD (qn0 + 1) 0) : Value) = nI (bstP (cmpV ql0 qn2) qd0 n_1') /\ jk17 qn1) /\ jk20)
abbrev jk1 (qn0 : Nat) (qn1 : Nat) (ql0 : List Rq) (qn2 : Nat) (qd0 : List Int) : Prop:=(jk29 qn0) = nI ((qn0 : Int) + 1) /\ (∃ n_1' : Nat,(n_1' <= qn1 - 1) /\ (qn1 - 1 - n_1') < (qn1 - 1 - qn0) /\ true = true /\ ((nI ((qn0 : Int) + 1) : Value) = nI (n_1' : Int) /\ (nI (bstP (cmpV ql0 qn2) qd0 qn0) : Value) = nI (bstP (cmpV ql0 qn2) qd0 n_1') /\ jk17 qn1) /\ jk20)
abbrev jko (ql0 : List Rq) (qd0 : List Int) (qn0 : Nat) (qn1 : Nat) (qn2 : Nat) : Prop:=((decide (((jkb ql0 qd0 qn0 qn1) : Int) < 0)) = true -> (jk2 qn0 qn2 qd0 ql0 qn1)) /\ ((decide (((jkb ql0 qd0 qn0 qn1) : Int) < 0)) = false -> (jk1 qn0 qn2 ql0 qn1 qd0))
abbrev jk10 (qn0 : Nat) (qn1 : Nat) (ql0 : List Rq) (qn2 : Nat) (qd0 : List Int) (qv0 : Value) : Prop:=(decide (((qn0 : Int) : Int) < (((qn1 - 1) : Nat) : Int))) = false -> (nI (bstP (cmpV ql0 qn2) qd0 qn0) : Value) = qv0
def RBst1 (sp : Value) (M : List Int) (k : Nat) (f : Fleet) (l : List Rq) (X Y : List Int) (hr : Int) (p : Pol) (ov : List Int) : Prop :=
 ((jk2a k) /\ ((jk27 M) /\ ((jkg k) /\ (true = true /\ (0 <= k - 1) /\ (jk7 M l 0 k) /\ jk1l /\ ∀ n_0 : Nat,(n_0 <= k - 1) -> (((jk1x n_0 k) = true -> ((jkp n_0 k) /\ ((jkn M n_0) /\ ((jk6 f l X Y) /\ (jkl f l X Y M n_0 0) /\ (jko l M n_0 0 k))))) /\ (jk10 n_0 k l 0 M sp))))))
abbrev jk1s (k : Nat) : List Value:=[slQ 0 2 k,.func (.func 126) #[] #[.pointer (some ⟨15,0,none⟩),.pointer (some ⟨7,0,none⟩)]]
theorem EBst1 (sp : Value) (M : List Int) (k : Nat) (f : Fleet) (l : List Rq) (X Y : List Int) (hr : Int) (p : Pol) (ov : List Int) : vF prog msk (dm 0) 100000 true 40 true 119 (jk1s k) (readsT 0 ((jk1u M) :: ctC f l X Y hr p ov 0)) (some [])
 (.go 1 (.need (.val (nI (M.getD 0 0)) (.go 1 (.need (.go 1 (.inv 3 (Nat) (0) [] [] (fun n_0 => [(14,nI (n_0 : Int)),(5,nI (bstP (cmpV l 0) M n_0)),(1,.func (.func 126) #[] #[.pointer (some ⟨15,0,none⟩),.pointer (some ⟨7,0,none⟩)]),(4,nI 0),(jk22 k),(jk2n k)]) (fun n_0 => []) (fun n_0 => []) (fun n_0 => []) (fun n_0 => (n_0 <= k - 1)) (fun n_0 => (k - 1 - n_0)) (fun n_0 => .go 0 (.fork (.need (.val (nI (jk2l M n_0)) (.go 12 (.ans [(jk14 f l X Y),(1,.cells false 0 (inL f.t)),(2,.cells false 0 (f.b.flatMap intC)),(3,.cells false 0 (jk2e l)),(4,.cells false 0 (X.flatMap intC)),(5,.cells false 0 (Y.flatMap intC))] (nI (jkb l M n_0 0)) [] (.go 1 (.fork (jk5 2 24 n_0) (jk5 0 24 n_0))))))) (.auto))))))))))
 (fun v _ _ => v = sp) = RBst1 sp M k f l X Y hr p ov:=by kernel_rfl
abbrev jkw (qd0 : List Int) (qn0 : Nat) (ql0 : List Rq) : Prop:=(0 : Int) <= (qd0.getD (qn0 + 1) 0) /\ ((qd0.getD (qn0 + 1) 0) : Int) < ((ql0.length : Nat) : Int)
abbrev jk1e (l : List Rq) (M : List Int) (n_0 : Nat):=l.getD (jk2l M n_0).toNat zeroQ
abbrev jky (ql0 : List Rq) (qn0 : Nat) (qd0 : List Int) (qn1 : Nat) : Prop:=(0 : Int) <= (bstP (cmpV ql0 qn0) qd0 qn1) /\ ((bstP (cmpV ql0 qn0) qd0 qn1) : Int) < ((ql0.length : Nat) : Int)
abbrev jk1g (l : List Rq) (M : List Int) (n_0 : Nat):=l.getD (bstP (cmpV l 1) M n_0).toNat zeroQ
abbrev jkc (ql0 : List Rq) (qd0 : List Int) (qn0 : Nat) : Int:=(((ql0.getD (qd0.getD (qn0 + 1) 0).toNat zeroQ).at_ + (ql0.getD (qd0.getD (qn0 + 1) 0).toNat zeroQ).limit) - ((ql0.getD (bstP (cmpV ql0 1) qd0 qn0).toNat zeroQ).at_ + (ql0.getD (bstP (cmpV ql0 1) qd0 qn0).toNat zeroQ).limit))
def RBst2 (sp : Value) (M : List Int) (k : Nat) (f : Fleet) (l : List Rq) (X Y : List Int) (hr : Int) (p : Pol) (ov : List Int) : Prop :=
 ((jk2a k) /\ ((jk27 M) /\ ((jkg k) /\ (true = true /\ (0 <= k - 1) /\ (jk7 M l 1 k) /\ jk1l /\ ∀ n_0 : Nat,(n_0 <= k - 1) -> (((jk1x n_0 k) = true -> ((jkp n_0 k) /\ ((jkn M n_0) /\ ((jkw M n_0 l) /\ (((jk2e l)[((0 + Int.toNat (jk2l M n_0) * 7) + 1)]? = some (nI (jk1e l M n_0).at_)) /\ ((jkw M n_0 l) /\ (((jk2e l)[((0 + Int.toNat (jk2l M n_0) * 7) + 6)]? = some (nI (jk1e l M n_0).limit)) /\ ((nI (IntKind.wrap .i64 ((jk1e l M n_0).at_ + (jk1e l M n_0).limit)) : Value) = nI ((jk1e l M n_0).at_ + (jk1e l M n_0).limit) /\ ((jky l 1 M n_0) /\ (((jk2e l)[((0 + Int.toNat (bstP (cmpV l 1) M n_0) * 7) + 1)]? = some (nI (jk1g l M n_0).at_)) /\ ((jky l 1 M n_0) /\ (((jk2e l)[((0 + Int.toNat (bstP (cmpV l 1) M n_0) * 7) + 6)]? = some (nI (jk1g l M n_0).limit)) /\ ((nI (IntKind.wrap .i64 ((jk1g l M n_0).at_ + (jk1g l M n_0).limit)) : Value) = nI ((jk1g l M n_0).at_ + (jk1g l M n_0).limit) /\ ((nI (IntKind.wrap .i64 (((jk1e l M n_0).at_ + (jk1e l M n_0).limit) - ((jk1g l M n_0).at_ + (jk1g l M n_0).limit))) : Value) = nI (((jk1e l M n_0).at_ + (jk1e l M n_0).limit) - ((jk1g l M n_0).at_ + (jk1g l M n_0).limit)) /\ ((jk6 f l X Y) /\ (jkl f l X Y M n_0 1) /\ ((((jkc l M n_0) != 0) = true -> (((decide ((jkc l M n_0) < 0)) = true -> (jk2 n_0 k M l 1)) /\ ((decide ((jkc l M n_0) < 0)) = false -> (jk1 n_0 k l 1 M)))) /\ (((jkc l M n_0) != 0) = false -> (((((jkb l M n_0 1) : Int) != 0) = true -> (jko l M n_0 1 k)) /\ ((((jkb l M n_0 1) : Int) != 0) = false -> (jk1 n_0 k l 1 M)))))))))))))))))))) /\ (jk10 n_0 k l 1 M sp))))))
abbrev jke (qf0 : Fleet) (ql0 : List Rq) (qd0 : List Int) (qd1 : List Int) (qd2 : List Int) (qn0 : Nat) (qn1 : Nat) : Hint:=.go 0 (.ans [(6,.cells false 0 (jk1j qf0 ql0 qd0 qd1)),(1,.cells false 0 (inL qf0.t)),(2,.cells false 0 (qf0.b.flatMap intC)),(3,.cells false 0 (ql0.flatMap rqC)),(4,.cells false 0 (qd0.flatMap intC)),(5,.cells false 0 (qd1.flatMap intC))] (nI (jkb ql0 qd2 qn0 qn1)) [] (.go 14 (.fork (.go 3 (.fork (jk5 2 24 qn0) (jk5 0 24 qn0))) (.go 9 (.fork (.go 3 (.fork (jk5 2 24 qn0) (jk5 0 24 qn0))) (jk5 9 24 qn0))))))
theorem EBst2 (sp : Value) (M : List Int) (k : Nat) (f : Fleet) (l : List Rq) (X Y : List Int) (hr : Int) (p : Pol) (ov : List Int) : vF prog msk (dm 0) 100000 true 40 true 119 (jk1s k) (readsT 0 ((jk1u M) :: ctC f l X Y hr p ov 1)) (some [])
 (.go 1 (.need (.val (nI (M.getD 0 0)) (.go 1 (.need (.go 1 (.inv 3 (Nat) (0) [] [] (fun n_0 => [(14,nI (n_0 : Int)),(5,nI (bstP (cmpV l 1) M n_0)),(1,.func (.func 126) #[] #[.pointer (some ⟨15,0,none⟩),.pointer (some ⟨7,0,none⟩)]),(4,nI 0),(jk22 k),(jk2n k)]) (fun n_0 => []) (fun n_0 => []) (fun n_0 => []) (fun n_0 => (n_0 <= k - 1)) (fun n_0 => (k - 1 - n_0)) (fun n_0 => .go 0 (.fork (.need (.val (nI (jk2l M n_0)) (.go 29 (.need (.go 0 (.val (nI (jk1e l M n_0).at_) (.go 4 (.need (.go 0 (.val (nI (jk1e l M n_0).limit) (.go 0 (.slot 20 (nI ((jk1e l M n_0).at_ + (jk1e l M n_0).limit)) (.go 7 (.need (.go 0 (.val (nI (jk1g l M n_0).at_) (.go 4 (.need (.go 0 (.val (nI (jk1g l M n_0).limit) (.go 0 (.slot 20 (nI ((jk1g l M n_0).at_ + (jk1g l M n_0).limit)) (.go 1 (.slot 12 (nI (((jk1e l M n_0).at_ + (jk1e l M n_0).limit) - ((jk1g l M n_0).at_ + (jk1g l M n_0).limit))) (jke f l X Y M n_0 1))))))))))))))))))))))))) (.auto))))))))))
 (fun v _ _ => v = sp) = RBst2 sp M k f l X Y hr p ov:=by kernel_rfl
abbrev jk2g (l : List Rq) (M : List Int) (n_0 : Nat):=l.getD (bstP (cmpV l 2) M n_0).toNat zeroQ
abbrev jkm (ql0 : List Rq) (qd0 : List Int) (qn0 : Nat) : Int:=((ql0.getD (bstP (cmpV ql0 2) qd0 qn0).toNat zeroQ).prio - (ql0.getD (qd0.getD (qn0 + 1) 0).toNat zeroQ).prio)
def RBst3 (sp : Value) (M : List Int) (k : Nat) (f : Fleet) (l : List Rq) (X Y : List Int) (hr : Int) (p : Pol) (ov : List Int) : Prop :=
 ((jk2a k) /\ ((jk27 M) /\ ((jkg k) /\ (true = true /\ (0 <= k - 1) /\ (jk7 M l 2 k) /\ jk1l /\ ∀ n_0 : Nat,(n_0 <= k - 1) -> (((jk1x n_0 k) = true -> ((jkp n_0 k) /\ ((jkn M n_0) /\ ((jky l 2 M n_0) /\ (((jk2e l)[((0 + Int.toNat (bstP (cmpV l 2) M n_0) * 7) + 5)]? = some (nI (jk2g l M n_0).prio)) /\ ((jkw M n_0 l) /\ (((jk2e l)[((0 + Int.toNat (jk2l M n_0) * 7) + 5)]? = some (nI (jk1e l M n_0).prio)) /\ ((nI (IntKind.wrap .i64 ((jk2g l M n_0).prio - (jk1e l M n_0).prio)) : Value) = nI ((jk2g l M n_0).prio - (jk1e l M n_0).prio) /\ ((jk6 f l X Y) /\ (jkl f l X Y M n_0 2) /\ ((((jkm l M n_0) != 0) = true -> (((decide ((jkm l M n_0) < 0)) = true -> (jk2 n_0 k M l 2)) /\ ((decide ((jkm l M n_0) < 0)) = false -> (jk1 n_0 k l 2 M)))) /\ (((jkm l M n_0) != 0) = false -> (((((jkb l M n_0 2) : Int) != 0) = true -> (jko l M n_0 2 k)) /\ ((((jkb l M n_0 2) : Int) != 0) = false -> (jk1 n_0 k l 2 M)))))))))))))) /\ (jk10 n_0 k l 2 M sp))))))
theorem EBst3 (sp : Value) (M : List Int) (k : Nat) (f : Fleet) (l : List Rq) (X Y : List Int) (hr : Int) (p : Pol) (ov : List Int) : vF prog msk (dm 0) 100000 true 40 true 119 (jk1s k) (readsT 0 ((jk1u M) :: ctC f l X Y hr p ov 2)) (some [])
 (.go 1 (.need (.val (nI (M.getD 0 0)) (.go 1 (.need (.go 1 (.inv 3 (Nat) (0) [] [] (fun n_0 => [(14,nI (n_0 : Int)),(5,nI (bstP (cmpV l 2) M n_0)),(1,.func (.func 126) #[] #[.pointer (some ⟨15,0,none⟩),.pointer (some ⟨7,0,none⟩)]),(4,nI 0),(jk22 k),(jk2n k)]) (fun n_0 => []) (fun n_0 => []) (fun n_0 => []) (fun n_0 => (n_0 <= k - 1)) (fun n_0 => (k - 1 - n_0)) (fun n_0 => .go 0 (.fork (.need (.val (nI (jk2l M n_0)) (.go 23 (.need (.go 0 (.val (nI (jk2g l M n_0).prio) (.go 4 (.need (.go 0 (.val (nI (jk1e l M n_0).prio) (.go 0 (.slot 22 (nI ((jk2g l M n_0).prio - (jk1e l M n_0).prio)) (jke f l X Y M n_0 2))))))))))))) (.auto))))))))))
 (fun v _ _ => v = sp) = RBst3 sp M k f l X Y hr p ov:=by kernel_rfl
end
end Go.Proofs.YthdekmpkioikdaaGreat
/- Functions that write one block and answer with a list in it. No condition. -/
namespace Go.K
set_option linter.unusedSimpArgs false
open Go
set_option linter.unusedVariables false
noncomputable section
attribute [local irreducible] vF
variable {P : Program}
theorem KCall.writesG {f : FuncId} {args : List Value} {H0 H new : Heap} {v V : Value} {σ : Nat -> Option Nat} {d k D z : Nat} {c0 c1 : List Value} (hp : ReadsW P H0 H σ d k D z c0) (h : KCall P f args H0 [k] (Is v (H0.set k (.cells true z c1) ++ new)))
  (h1p : c1.all (belowC 0) = true) (hV : ∀ (ρ1 ρ2 : Ren) (x : Value), (∀ r, ρ1 k = some r -> ρ2 D = some r) -> VR ρ1 v x -> VR ρ2 V x) (hn : new.all (fun o => rnoOk d o && o.owned) = true) (hn2 : new.map (rno (sgOnly H0.length) d) = new) :
  KCall P f (args.map (rn σ d)) H [D] (Is V (H.set D (.cells true z c1) ++ new.map (rno (sgUp H0.length H.length) d))) := by
 refine ⟨h.1, fun B ρ w args' hr ha => ?_⟩
 let ρs : Ren := ⟨fun id => (σ id).bind fun id' => (ρ id').map fun r => if id = k then r else ⟨r.b, r.s, r.n, 0, false⟩, ρ.mem, fun F k => (σ F).bind fun F' => ρ.g F' k⟩
 have hσ : ∀ id id' r, σ id = some id' -> ρ id' = some r -> ρs id = some (if id = k then r else ⟨r.b, r.s, r.n, 0, false⟩) := by
  intro id id' r h1 h2; show Option.bind _ _ = _; rw [h1]; show Option.map _ _ = _; rw [h2]; rfl
 have hσd : ∀ id id' r, σ id = some id' -> ρ id' = some r -> ∃ r', ρs id = some r' /\ r'.b = r.b /\ r'.s = r.s /\ (r'.own = false ∨ r' = r) := fun id id' r h1 h2 => by
  refine ⟨_, hσ _ _ _ h1 h2, ?_⟩
  split
  ·exact ⟨rfl, rfl, .inr rfl⟩
  ·exact ⟨rfl, rfl, .inl rfl⟩
 have hσg : ∀ F F' k r, σ F = some F' -> ρ.g F' k = some r -> ρs.g F k = some r := by intro F F' k r h1 h2; show Option.bind _ _ = _; rw [h1]; exact h2
 have hsomeg : ∀ {F k r}, ρs.g F k = some r -> ∃ F', σ F = some F' /\ ρ.g F' k = some r := fun h => Option.bind_eq_some_iff.1 h
 have hnf0 : ∀ {F : Nat} {z : Nat} {cs : List Value}, H0[F]? = some (.fam z cs) -> False := fun {F z' cs} mh => by
  by_cases e : F = k
  ·have := mh; rw [e, hp.k0] at this; cases this
  ·rcases hp.obj F _ e mh with h | ⟨_, h⟩ <;> cases h
 have hnf : ∀ {F k r z cs}, FM ρs H0 F k r z cs -> False := fun m => hnf0 m.h
 have hsome : ∀ {id r}, ρs id = some r -> ∃ id' r0, σ id = some id' /\ ρ id' = some r0 /\ r = if id = k then r0 else ⟨r0.b, r0.s, r0.n, 0, false⟩ := by
  intro id r h
  obtain ⟨id', h1, h2⟩ := Option.bind_eq_some_iff.1 h
  obtain ⟨r0, h3, h4⟩ := Option.map_eq_some_iff.1 h2
  exact ⟨id', r0, h1, h3, h4.symm⟩
 have hsk : ∀ {r}, ρs k = some r -> ρ D = some r := fun {r} h => by
  obtain ⟨id', r0, h1, h2, h3⟩ := hsome h
  rw [if_pos rfl] at h3
  subst h3
  rw [hp.hk] at h1; cases h1; exact h2
 have hown : ∀ (id : Nat) (o : KObj), H0[id]? = some o -> o.owned = true -> id = k := by
  intro id o h1 h2
  by_cases e : id = k
  ·exact e
  ·rcases hp.obj id o e h1 with rfl | ⟨cs, rfl⟩ <;> cases h2
 have hDo : (KObj.cells true z c0).owned = true := rfl
 have hoth : ∀ {id r o rD}, id ≠ k -> ρs id = some r -> H0[id]? = some o -> o.alive = true -> ρ D = some rD -> rD.b ≠ r.b := fun {id r o rD} e h1 h2 h3 h4 => by
  rcases hp.obj id o e h2 with rfl | ⟨cs, rfl⟩
  ·cases h3
  ·obtain ⟨id', r0, k1, k2, rfl⟩ := hsome h1
   obtain ⟨own, z', g⟩ := hp.rd id id' cs k1 h2
   rw [if_neg e]
   exact hr.sep D id' rD r0 _ _ h4 k2 hp.hD g hDo rfl (fun q => hp.ne id cs h2 (by rw [k1, q]))
 have hr0 : Rel P B ρs H0 w := by
  refine ⟨hr.bsize, fun g hg => ?_, fun id r h => ?_, fun id r h => ?_, fun id r o h1 h2 => ?_, fun id r o h1 h2 h3 => ?_, fun id1 id2 r1 r2 o1 o2 h1 h2 g1 g2 k1 k2 hne => ?_, fun b m hb => ⟨(hr.mem b m hb).1, fun id r o h1 h2 h3 => ?_⟩,
   ⟨fun F k r h => by obtain ⟨F', k1, _⟩ := hsomeg h; exact hp.dom _ _ k1, fun F k r h => by obtain ⟨F', _, k2⟩ := hsomeg h; exact hr.fam.lt _ _ _ k2, fun _ _ _ _ _ m => (hnf m).elim, fun _ _ _ _ _ m => (hnf m).elim, fun _ _ _ _ _ _ _ _ _ _ m => (hnf m).elim, fun _ _ _ _ _ _ _ _ m => (hnf m).elim, fun _ _ _ _ _ _ _ m => (hnf m).elim, fun _ _ _ _ _ h => (hnf0 h).elim⟩⟩
  ·obtain ⟨r, k1, k2, k3⟩ := hr.glob g hg
   refine ⟨_, hσ g g r (hp.glob g hg) k1, ?_⟩
   split
   ·exact ⟨k2, k3⟩
   ·exact ⟨k2, k3⟩
  ·obtain ⟨id', r0, h1, _, _⟩ := hsome h; exact hp.dom _ _ h1
  ·obtain ⟨id', r0, _, h2, rfl⟩ := hsome h
   have := hr.lt id' r0 h2
   split <;> exact this
  ·by_cases e : id = k
   ·subst e
    rw [hp.k0] at h2; cases h2
    exact plain_obj (ρ := ρ) (ρ' := ρs) (fun _ _ h => h) hp.pl (hr.obj D r _ (hsk h1) hp.hD)
   ·obtain ⟨id', r0, k1, k2, rfl⟩ := hsome h1
    rw [if_neg e]
    rcases hp.obj id o e h2 with rfl | ⟨cs, rfl⟩
    ·trivial
    ·obtain ⟨own, z, g⟩ := hp.rd id id' cs k1 h2
     obtain ⟨e1, e2, cs', ty, fz, hb, hnz, hfz, hcs⟩ := hr.obj _ _ _ k2 g
     refine ⟨rfl, rfl, cs', ty, fz, hb, hnz, fun h => (by cases h), fun i x hx => ?_⟩
     obtain ⟨x', y1, y2⟩ := hcs i (rn σ d x) (by rw [List.getElem?_map, hx]; rfl)
     exact ⟨x', y1, rn_VRw hσd (fun _ _ h => h) hσg d y2⟩
  ·obtain rfl := hown id o h2 h3
   exact hr.base D r _ (hsk h1) hp.hD hDo
  ·obtain rfl := hown id1 o1 g1 k1
   exact hoth (Ne.symm hne) h2 g2 k2 (hsk h1)
  ·obtain rfl := hown id o h2 h3
   exact (hr.mem b m hb).2 D r _ (hsk h1) hp.hD hDo
 have ha0 : VRl ρs args args'.toList := ⟨by have := ha.1; simpa using this, fun i x x' a b => rn_VRw hσd (fun _ _ h => h) hσg d (ha.2 i (rn σ d x) x' (by rw [List.getElem?_map, a]; rfl) b)⟩
 refine (h.2 B ρs w args' hr0 ha0).mono ?_
 rintro e w' ⟨v1, v', ρ1, H1, rfl, hv', hpost, rfl, rfl⟩
 have hkl : k < H0.length := (List.getElem?_eq_some_iff.1 hp.k0).1
 have hDl : D < H.length := (List.getElem?_eq_some_iff.1 hp.hD).1
 have h1k : (H0.set k (.cells true z c1) ++ new)[k]? = some (.cells true z c1) := by
  rw [List.getElem?_append_left (by simpa using hkl), List.getElem?_set_self hkl]
 have h1o : ∀ i, i < H0.length -> i ≠ k -> (H0.set k (.cells true z c1) ++ new)[i]? = H0[i]? := fun i hi e => by
  rw [List.getElem?_append_left (by simpa using hi), List.getElem?_set_ne (Ne.symm e)]
 have h1n : ∀ i, H0.length <= i -> (H0.set k (.cells true z c1) ++ new)[i]? = new[i - H0.length]? := fun i hi => by
  rw [List.getElem?_append_right (by simpa using hi)]; simp
 have hOBk : ∀ b, OB ρs H0 b -> ∃ rD, ρ D = some rD /\ ρs k = some rD /\ rD.b = b := fun b h => h.elim (fun ⟨id, r, o, h1, h2, h3, h4⟩ => by
   obtain rfl := hown id o h2 h3
   exact ⟨r, hsk h1, h1, h4⟩) (fun ⟨_, _, _, _, _, m, _⟩ => (hnf m).elim)
 have hOB : ∀ b, OB ρs H0 b -> OB ρ H b := fun b h => by
  obtain ⟨rD, h1, _, h2⟩ := hOBk b h
  exact .inl ⟨D, rD, _, h1, hp.hD, hDo, h2⟩
 let ρ2 : Ren := ⟨fun id => if id < H.length then ρ id else ρ1 (H0.length + (id - H.length)), ρ1.mem, fun F k => if F < H.length then ρ.g F k else ρ1.g (H0.length + (F - H.length)) k⟩
 let ρn : Ren := ⟨fun id => if id < H0.length then none else ρ1 id, ρ1.mem, fun F k => if F < H0.length then none else ρ1.g F k⟩
 have hn1 : ∀ id id' r, sgOnly H0.length id = some id' -> ρ1 id' = some r -> ρn id = some r := by
  intro id id' r h1 h2
  unfold sgOnly at h1
  split at h1
  ·cases h1
  ·rename_i hlt; cases h1; show (if _ then _ else _) = _; rw [if_neg hlt]; exact h2
 have hn1g : ∀ F F' k r, sgOnly H0.length F = some F' -> ρ1.g F' k = some r -> ρn.g F k = some r := by
  intro F F' k r h1 h2
  unfold sgOnly at h1
  split at h1
  ·cases h1
  ·rename_i hlt; cases h1; show (if _ then _ else _) = _; rw [if_neg hlt]; exact h2
 have hfwdg : ∀ F k r, ρn.g F k = some r -> ∃ F', sgUp H0.length H.length F = some F' /\ ρ2.g F' k = some r := by
  intro F k r h1
  have h1' : (if F < H0.length then none else ρ1.g F k) = some r := h1
  split at h1'
  ·cases h1'
  ·rename_i hlt
   refine ⟨_, if_neg hlt, ?_⟩
   show (if _ then _ else _) = _
   rw [if_neg (by omega), show H0.length + (H.length + (F - H0.length) - H.length) = F by omega]; exact h1'
 have hfwd : ∀ id r, ρn id = some r -> ∃ id', sgUp H0.length H.length id = some id' /\ ρ2 id' = some r := by
  intro id r h1
  have h1' : (if id < H0.length then none else ρ1 id) = some r := h1
  split at h1'
  ·cases h1'
  ·rename_i hlt
   refine ⟨_, if_neg hlt, ?_⟩
   show (if _ then _ else _) = _
   rw [if_neg (by omega), show H0.length + (H.length + (id - H0.length) - H.length) = id by omega]; exact h1'
 have hext : Ren.le ρ ρ2 := ⟨fun id r h1 => by
  show (if _ then _ else _) = _
  rw [if_pos (hr.dom _ _ h1)]; exact h1, hpost.ext.mem, fun F k r h1 => by
  show (if _ then _ else _) = _
  rw [if_pos (hr.fam.dom _ _ _ h1)]; exact h1⟩
 have hnew : ∀ (k : Nat) (o : KObj), new[k]? = some o -> rnoOk d o = true /\ o.owned = true /\ rno (sgOnly H0.length) d o = o := by
  intro k o hk
  rw [List.all_eq_true] at hn
  have := hn o (List.mem_of_getElem? hk)
  simp only [Bool.and_eq_true] at this
  refine ⟨this.1, this.2, ?_⟩
  have h3 : (new.map (rno (sgOnly H0.length) d))[k]? = some o := by rw [hn2]; exact hk
  rw [List.getElem?_map, hk] at h3
  exact Option.some.inj h3
 have hoa : ∀ o : KObj, o.owned = true -> o.alive = true := by intro o ho; cases o <;> first | rfl | cases ho
 have hfresh : ∀ id r o, H0.length <= id -> ρ1 id = some r -> new[id - H0.length]? = some o -> w.heap.size <= r.b := by
  intro id r o hid h1 h2
  have ho : o.owned = true := (hnew _ _ h2).2.1
  rcases Nat.lt_or_ge r.b w.heap.size with hlt | hge
  ·obtain ⟨rD, k1, k2, k3⟩ := hOBk _ (hpost.ob r.b hlt (.inl ⟨id, r, o, h1, by rw [h1n id hid]; exact h2, ho, rfl⟩))
   exact absurd k3 (hpost.rel.sep k id rD r _ o (hpost.ext _ _ k2) h1 h1k (by rw [h1n id hid]; exact h2) rfl (hoa _ ho) (by omega))
  ·exact hge
 have hgetD : (H.set D (.cells true z c1) ++ new.map (rno (sgUp H0.length H.length) d))[D]? = some (.cells true z c1) := by
  rw [List.getElem?_append_left (by simpa using hDl), List.getElem?_set_self hDl]
 have hgeto : ∀ id, id < H.length -> id ≠ D -> (H.set D (.cells true z c1) ++ new.map (rno (sgUp H0.length H.length) d))[id]? = H[id]? := fun id hid e => by
  rw [List.getElem?_append_left (by simpa using hid), List.getElem?_set_ne (Ne.symm e)]
 have hback : ∀ id o, id < H.length -> (H.set D (.cells true z c1) ++ new.map (rno (sgUp H0.length H.length) d))[id]? = some o -> ∃ o', H[id]? = some o' /\ o'.owned = o.owned /\ o'.alive = o.alive := fun id o hid h2 => by
  by_cases e : id = D
  ·subst e
   rw [hgetD] at h2; cases h2
   exact ⟨_, hp.hD, rfl, rfl⟩
  ·rw [hgeto id hid e] at h2; exact ⟨o, h2, rfl, rfl⟩
 have hgetn : ∀ id o', H.length <= id -> (H.set D (.cells true z c1) ++ new.map (rno (sgUp H0.length H.length) d))[id]? = some o' -> ∃ o, new[id - H.length]? = some o /\ o' = rno (sgUp H0.length H.length) d o /\ rnoOk d o = true /\ o.owned = true /\ rno (sgOnly H0.length) d o = o := by
  intro id o' hid h2
  rw [List.getElem?_append_right (by simpa using hid), List.getElem?_map, List.length_set] at h2
  obtain ⟨o, a1, rfl⟩ := Option.map_eq_some_iff.1 h2
  obtain ⟨x1, x2, x3⟩ := hnew _ _ a1
  exact ⟨o, a1, rfl, x1, x2, x3⟩
 have hVk : ∀ r, ρ1 k = some r -> ρ2 D = some r := fun r h1 => by
  show (if _ then _ else _) = _
  rw [if_pos hDl]
  cases hs : ρs k with
  | none => exact absurd (hpost.new k r h1 hs) (by omega)
  | some r' =>
   have := hpost.ext _ _ hs
   rw [h1] at this; cases this
   exact hsk hs
 refine ⟨_, v', ρ2, _, rfl, hV ρ1 ρ2 v' hVk hv', ?_, rfl, rfl⟩
 have fr : ∀ id r o, ¬ id < H.length -> ρ1 (H0.length + (id - H.length)) = some r -> (H.set D (.cells true z c1) ++ new.map (rno (sgUp H0.length H.length) d))[id]? = some o -> w.heap.size <= r.b := by
  intro id r o hid a b
  obtain ⟨o0, a1, _, _, _, _⟩ := hgetn id o (by omega) b
  exact hfresh _ r o0 (by omega) a (by rw [show H0.length + (id - H.length) - H0.length = id - H.length by omega]; exact a1)
 have u : ∀ id, ρ2 id = if id < H.length then ρ id else ρ1 (H0.length + (id - H.length)) := fun _ => rfl
 have hnob : ∀ id r o, ρ id = some r -> H[id]? = some o -> o.alive = true -> id ≠ D -> ¬ OB ρs H0 r.b := fun id r o a b c e q => by
  obtain ⟨rD, k1, _, k3⟩ := hOBk _ q
  exact hr.sep D id rD r _ o k1 a hp.hD b hDo c (Ne.symm e) k3
 have hfm2 : ∀ {F k r z' cs}, ρ2.g F k = some r -> (H.set D (.cells true z c1) ++ new.map (rno (sgUp H0.length H.length) d))[F]? = some (.fam z' cs) -> ρ.g F k = some r /\ H[F]? = some (.fam z' cs) := fun {F k r z' cs} mg mh => by
  have h1 : (if F < H.length then ρ.g F k else ρ1.g (H0.length + (F - H.length)) k) = some r := mg
  rcases Nat.lt_or_ge F H.length with h | h
  ·rw [if_pos h] at h1
   refine ⟨h1, ?_⟩
   by_cases e : F = D
   ·have := mh; rw [e, hgetD] at this; cases this
   ·rw [<- hgeto F h e]; exact mh
  ·obtain ⟨o, _, e, g1, g2, _⟩ := hgetn F _ h mh
   cases o <;> first | (cases g1; done) | (cases g2; done) | (cases e; done)
 have hfm : ∀ {F k r z' cs}, FM ρ2 (H.set D (.cells true z c1) ++ new.map (rno (sgUp H0.length H.length) d)) F k r z' cs -> FM ρ H F k r z' cs := fun m => ⟨(hfm2 m.g m.h).1, (hfm2 m.g m.h).2, m.a⟩
 have hfam : FRel B ρ2 (H.set D (.cells true z c1) ++ new.map (rno (sgUp H0.length H.length) d)) w' := by
  refine ⟨fun F k r h1 => ?_, fun F k r h1 => ?_, fun F k r z cs m => hr.fam.base _ _ _ _ _ (hfm m), fun F k r z cs m => (hr.fam.obj _ _ _ _ _ (hfm m)).mono hext (hpost.keep _ (hr.fam.lt _ _ _ (hfm m).g) (fun q => ?_)),
   fun F k r z cs F' k' r' z' cs' m m' => hr.fam.sep _ _ _ _ _ _ _ _ _ _ (hfm m) (hfm m'), fun F k r z cs id r' o m h1 h2 h3 => ?_, fun F k r z cs b m' m hb => ?_, fun F k r cs h1 h2 => hr.fam.cnt F k r cs (hfm2 h1 h2).1 (hfm2 h1 h2).2⟩
  ·have h1 : (if F < H.length then ρ.g F k else ρ1.g (H0.length + (F - H.length)) k) = some r := h1
   rcases Nat.lt_or_ge F H.length with h | h
   ·simp; omega
   ·rw [if_neg (by omega)] at h1
    have := hpost.rel.fam.dom _ _ _ h1
    simp at this ⊢; omega
  ·have h1 : (if F < H.length then ρ.g F k else ρ1.g (H0.length + (F - H.length)) k) = some r := h1
   rcases Nat.lt_or_ge F H.length with h | h
   ·rw [if_pos h] at h1
    exact Nat.lt_of_lt_of_le (hr.fam.lt _ _ _ h1) hpost.size
   ·rw [if_neg (by omega)] at h1
    exact hpost.rel.fam.lt _ _ _ h1
  ·obtain ⟨rD, k1, _, k3⟩ := hOBk _ q
   exact hr.fam.sep2 _ _ _ _ _ D rD _ (hfm m) k1 hp.hD rfl k3
  ·rw [u] at h1
   rcases Nat.lt_or_ge id H.length with h | h
   ·rw [if_pos h] at h1
    obtain ⟨o', b1, _, b3⟩ := hback id o h h2
    exact hr.fam.sep2 _ _ _ _ _ id r' o' (hfm m) h1 b1 (by rw [b3]; exact h3)
   ·rw [if_neg (by omega)] at h1
    have := fr id r' o (by omega) h1 h2
    have := hr.fam.lt _ _ _ (hfm m).g
    omega
  ·have hb : ρ1.mem b = some m' := hb
   rcases hpost.frz b m' hb with g | g | g
   ·exact hr.fam.mem _ _ _ _ _ b m' (hfm m) g
   ·have := hr.fam.lt _ _ _ (hfm m).g; omega
   ·obtain ⟨rD, k1, _, k3⟩ := hOBk _ g
    exact fun q => hr.fam.sep2 _ _ _ _ _ D rD _ (hfm m) k1 hp.hD rfl (k3.trans q.symm)
 refine ⟨⟨Nat.le_trans hr.bsize hpost.size, fun g hg => ?_, fun id r h1 => ?_, fun id r h1 => ?_, fun id r o h1 h2 => ?_, fun id r o h1 h2 h3 => ?_, fun id1 id2 r1 r2 o1 o2 h1 h2 g1 g2 k1 k2 hne => ?_, fun b m hb => ⟨(hpost.rel.mem b m hb).1, fun id r o h1 h2 h3 => ?_⟩, hfam⟩, hext, fun id r h1 h2 => ?_, by simp, fun id h1 h2 => hgeto id h1 (fun e => h2 (by rw [e]; exact List.mem_singleton.2 rfl)), hpost.size, fun b h1 h2 => hpost.keep b h1 (fun q => h2 (hOB b q)), fun b h1 h2 => ?_, hpost.os, hpost.tape, hpost.output, fun b m hb => (hpost.frz b m hb).imp id fun h => h.imp id (hOB b), hpost.drawn, fun F k r h1 h2 => .inl (by
  have h1 : (if F < H.length then ρ.g F k else ρ1.g (H0.length + (F - H.length)) k) = some r := h1
  rcases Nat.lt_or_ge F H.length with h | h
  ·rw [if_pos h, h2] at h1; cases h1
  ·exact h)⟩
 ·obtain ⟨r, k1, k2, k3⟩ := hr.glob g hg; exact ⟨r, hext _ _ k1, k2, k3⟩
 ·rw [u] at h1
  split at h1
  ·rw [List.length_append, List.length_set]; omega
  ·rename_i hid
   have := hpost.rel.dom _ _ h1
   rw [List.length_append, List.length_set] at this
   rw [List.length_append, List.length_map, List.length_set]; omega
 ·rw [u] at h1
  split at h1
  ·exact Nat.lt_of_lt_of_le (hr.lt _ _ h1) hpost.size
  ·exact hpost.rel.lt _ _ h1
 ·rw [u] at h1
  split at h1
  ·rename_i hid
   by_cases e : id = D
   ·subst e
    rw [hgetD] at h2; cases h2
    have hk1 : ρs k = some r := by have := hσ _ _ _ hp.hk h1; rw [if_pos rfl] at this; exact this
    exact plain_obj (ρ := ρ1) (ρ' := ρ2) (fun _ _ h => h) h1p (hpost.rel.obj k r _ (hpost.ext _ _ hk1) h1k)
   ·rw [hgeto id hid e] at h2
    cases hal : o.alive with
    | true => exact (hr.obj _ _ _ h1 h2).mono hext (hpost.keep _ (hr.lt _ _ h1) (hnob id r o h1 h2 hal e))
    | false => cases o <;> first | trivial | cases hal
  ·rename_i hid
   obtain ⟨o0, a1, rfl, a3, a4, a5⟩ := hgetn id o (by omega) h2
   have h6 := hpost.rel.obj _ _ _ h1 (show _ = some o0 by rw [h1n _ (by omega), show H0.length + (id - H.length) - H0.length = id - H.length by omega]; exact a1)
   rw [<- a5] at h6
   have hd : rno (sgOnly H0.length) d o0 = .dead -> o0 = .dead := fun he => by rw [a5] at he; exact he
   exact rel_rno hfwd (fun _ _ h => h) hfwdg a3 (rno_rel hn1 (fun _ _ h => h) hn1g h6 hd)
 ·rw [u] at h1
  split at h1
  ·rename_i hid
   obtain ⟨o', b1, b2, _⟩ := hback id o hid h2
   exact hr.base _ _ _ h1 b1 (by rw [b2]; exact h3)
  ·rename_i hid
   obtain ⟨o0, a1, _, a3, a4, _⟩ := hgetn id o (by omega) h2
   exact hpost.rel.base _ _ _ h1 (show _ = some o0 by rw [h1n _ (by omega), show H0.length + (id - H.length) - H0.length = id - H.length by omega]; exact a1) a4
 ·rw [u] at h1 h2
  by_cases c1' : id1 < H.length
  ·rw [if_pos c1'] at h1
   obtain ⟨p1, b1, b2, _⟩ := hback id1 o1 c1' g1
   by_cases c2 : id2 < H.length
   ·rw [if_pos c2] at h2
    obtain ⟨p2, d1, _, d3⟩ := hback id2 o2 c2 g2
    exact hr.sep id1 id2 r1 r2 p1 p2 h1 h2 b1 d1 (by rw [b2]; exact k1) (by rw [d3]; exact k2) hne
   ·rw [if_neg c2] at h2
    have := hr.lt _ _ h1
    have := fr id2 r2 o2 c2 h2 g2
    omega
  ·rw [if_neg c1'] at h1
   have f1 := fr id1 r1 o1 c1' h1 g1
   by_cases c2 : id2 < H.length
   ·rw [if_pos c2] at h2
    have := hr.lt _ _ h2
    omega
   ·rw [if_neg c2] at h2
    obtain ⟨p1, a1, _, _, a4, _⟩ := hgetn id1 o1 (by omega) g1
    obtain ⟨p2, b1, _, _, b4, _⟩ := hgetn id2 o2 (by omega) g2
    exact hpost.rel.sep _ _ r1 r2 p1 p2 h1 h2 (by rw [h1n _ (by omega), show H0.length + (id1 - H.length) - H0.length = id1 - H.length by omega]; exact a1) (by rw [h1n _ (by omega), show H0.length + (id2 - H.length) - H0.length = id2 - H.length by omega]; exact b1) a4 (hoa _ b4) (by omega)
 ·rw [u] at h1
  split at h1
  ·rename_i hid
   obtain ⟨o', b1, b2, _⟩ := hback id o hid h2
   intro he
   rcases hpost.frz b m hb with g | g | g
   ·exact (hr.mem b m g).2 id r o' h1 b1 (by rw [b2]; exact h3) he
   ·have := hr.lt _ _ h1; omega
   ·obtain ⟨rD, k1, k2, k3⟩ := hOBk _ g
    exact (hpost.rel.mem b m hb).2 k rD _ (hpost.ext _ _ k2) h1k rfl k3
  ·rename_i hid
   obtain ⟨o0, a1, _, a3, a4, _⟩ := hgetn id o (by omega) h2
   exact (hpost.rel.mem b m hb).2 _ r o0 h1 (by rw [h1n _ (by omega), show H0.length + (id - H.length) - H0.length = id - H.length by omega]; exact a1) a4
 ·rw [u] at h1
  split at h1
  ·rw [h2] at h1; cases h1
  ·omega
 ·rcases h2 with ⟨id, r, o, k1, k2, k3, k4⟩ | ⟨F, k, r, z, cs, m, e⟩
  ·rw [u] at k1
   split at k1
   ·rename_i hid
    obtain ⟨o', b1, b2, _⟩ := hback id o hid k2
    exact .inl ⟨id, r, o', k1, b1, by rw [b2]; exact k3, k4⟩
   ·rename_i hid
    have := fr id r o hid k1 k2
    omega
  ·exact .inr ⟨F, k, r, z, cs, hfm m, e⟩
theorem vcWG {mixed : Bool} {mask : Nat} {dm : Value -> MS} {rounds : Nat} (hmask : MaskOk P mixed mask) (hmix : mixed = true -> P.follows .mixedOrders = true) (n : Nat) {f : FuncId} {args : List Value} {css : List (List Value)} {h : Hint} {v : Value} {z : Nat} {c0 c1 : List Value}
  (hc : vF P mask dm rounds mixed n true f args (readsW P.globals.size z c0 css) (some [P.globals.size]) h (newKW (readsW P.globals.size z c0 css).n 3 P.globals.size (.cells true z c1) v []))
  (hp0 : c0.all (belowC 0) = true) (hp1 : c1.all (belowC 0) = true) {V : Value} {D : Nat} (hV : ∀ (ρ1 ρ2 : Ren) (x : Value), (∀ r, ρ1 P.globals.size = some r -> ρ2 D = some r) -> VR ρ1 v x -> VR ρ2 V x)
  {H : Heap} (hD : H[D]? = some (.cells true z c0)) (ids : List Nat) (hl : ids.length = css.length) (hids : ∀ (k : Nat) (cs : List Value), css[k]? = some cs -> ∃ id own z, ids[k]? = some id /\ H[id]? = some (KObj.cells own z (cs.map (rn (sgRW P.globals.size D ids) 3)))) (hne : D ∉ ids) :
  KCall P f (args.map (rn (sgRW P.globals.size D ids) 3)) H [D] (Is V (H.set D (.cells true z c1))) := by
 have e : (readsW P.globals.size z c0 css).list.length = P.globals.size + 1 + css.length := by rw [HT.length, readsW_n]
 have hkn : P.globals.size < (readsW P.globals.size z c0 css).n := by rw [readsW_n]; omega
 have h1 : KCall P f args (readsW P.globals.size z c0 css).list [P.globals.size] (Is v ((readsW P.globals.size z c0 css).list.set P.globals.size (.cells true z c1) ++ ([] : List (Bool × KObj)).map (·.2))) := by
  refine KCall.packW (d := 3) hkn (((vF_sound hmask hmix n).1 f args _ (some [P.globals.size]) h _ hc).post ?_)
  rintro v' H' ⟨H2, h2, e, hk⟩
  cases h2 with
  | again σ => exact ⟨H2, σ, e, hk⟩
  | _ => exact hk.elim
 have hp : ReadsW P (readsW P.globals.size z c0 css).list H (sgRW P.globals.size D ids) 3 P.globals.size D z c0 := by
  refine ⟨fun g hg => if_pos hg, fun id id' h => ?_, by rw [e]; omega, ?_, ?_, hD, hp0, fun id o hne h => ?_, fun id cs h => ?_, fun id id' cs h1 h2 => ?_⟩
  ·rw [e]
   unfold sgRW at h
   split at h
   ·omega
   ·split at h
    ·omega
    ·have := (List.getElem?_eq_some_iff.1 h).1; omega
  ·rw [readsW_list, if_neg (Nat.lt_irrefl _), if_pos rfl]
  ·show (if _ then _ else _) = _
   rw [if_neg (Nat.lt_irrefl _), if_pos rfl]
  ·rw [readsW_list] at h
   split at h
   ·cases h; exact .inl rfl
   ·try rw [if_neg hne] at h
    obtain ⟨cs, _, rfl⟩ := Option.map_eq_some_iff.1 h; exact .inr ⟨cs, rfl⟩
  ·rw [readsW_list] at h
   split at h
   ·cases h
   ·rename_i h5
    split at h
    ·cases h
    ·rename_i h6
     unfold sgRW
     rw [if_neg h5, if_neg h6]
     exact fun q => hne (List.mem_of_getElem? q)
  ·rw [readsW_list] at h2
   split at h2
   ·cases h2
   ·rename_i h5
    split at h2
    ·cases h2
    ·rename_i h6
     obtain ⟨cs', a1, a2⟩ := Option.map_eq_some_iff.1 h2
     cases a2
     unfold sgRW at h1
     rw [if_neg h5, if_neg h6] at h1
     obtain ⟨id2, own, z2, b1, b2⟩ := hids _ _ a1
     rw [h1] at b1; cases b1
     exact ⟨own, z2, b2⟩
 have := KCall.writesG (V := V) (new := []) hp h1 hp1 hV rfl rfl
 rw [List.map_nil, List.append_nil] at this
 exact this
end
end Go.K
