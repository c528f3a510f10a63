/- What is to be shown of functions. Printed by a program. No condition. -/
import Derived.Test.YtbgfjemppjhmjaaGreatGW31xP31
import Derived.Test.YtbgfjemppjhmjaaGreatGO28gxW30
namespace Go.Proofs.YtbgfjemppjhmjaaGreat
set_option linter.unusedSimpArgs false
open Go Go.K
set_option maxRecDepth 100000
set_option maxHeartbeats 4000000
set_option linter.unusedVariables false
noncomputable section
abbrev kmb (k : Nat) : Int:=(k : Nat)
abbrev kmi (ss : List (Int × Int)) (k : Nat):=ss.getD k zeroSp
abbrev kmr (i : Nat) : Int:=(i : Nat)
abbrev kmw (ss : List (Int × Int)) (k : Nat):=Int.toNat (kmi ss k).2
abbrev kmx (ss : List (Int × Int)) (i : Nat):=ss.getD i zeroSp
def Ragr2 (sp : Value) (w h : Int) (a : List Bool) (p : Int) (ss : List (Int × Int)) (rr : List (List Int)) (i k : Nat) : Prop :=
 (((0 : Int) <= (kmb k) /\ ((kmb k) : Int) < ((ss.length : Nat) : Int)) /\ (((ss.flatMap spC)[((0 + Int.toNat (kmb k) * 2) + 1)]? = some (nI (kmi ss k).2)) /\ (((0 : Int) <= (kmb k) /\ ((kmb k) : Int) < ((ss.length : Nat) : Int)) /\ (((ss.flatMap spC)[((0 + Int.toNat (kmb k) * 2) + 0)]? = some (nI (kmi ss k).1)) /\ (((0 : Int) <= (kmr i) /\ ((kmr i) : Int) < ((rr.length : Nat) : Int)) /\ (((inL rr)[(0 + Int.toNat (kmr i) * 1)]? = some (.iface ((rr.getD i []).length + 1) (.agg ⟨((rr.getD i []).flatMap intC)⟩))) /\ (((0 : Int) <= (kmi ss k).2 /\ ((kmi ss k).2 : Int) < (((rr.getD i []).length : Nat) : Int)) /\ ((((rr.getD i []).flatMap intC)[(Int.toNat (kmi ss k).2 * 1)]? = some (nI ((rr.getD i []).getD (kmw ss k) 0))) /\ (((decide ((((rr.getD i []).getD (kmw ss k) 0) : Int) < 1073741824)) = true -> ((nI (IntKind.wrap .i64 (((rr.getD i []).getD (kmw ss k) 0) * p)) : Value) = nI (((rr.getD i []).getD (kmw ss k) 0) * p) /\ (((0 : Int) <= (kmr i) /\ ((kmr i) : Int) < ((ss.length : Nat) : Int)) /\ (((ss.flatMap spC)[((0 + Int.toNat (kmr i) * 2) + 0)]? = some (nI (kmx ss i).1)) /\ ((nI (IntKind.wrap .i64 ((kmi ss k).1 - (kmx ss i).1)) : Value) = nI ((kmi ss k).1 - (kmx ss i).1) /\ (((0 : Int) <= (kmr i) /\ ((kmr i) : Int) < ((ss.length : Nat) : Int)) /\ (((ss.flatMap spC)[((0 + Int.toNat (kmr i) * 2) + 0)]? = some (nI (kmx ss i).1)) /\ ((nI (IntKind.wrap .i64 ((kmx ss i).1 - (kmi ss k).1)) : Value) = nI ((kmx ss i).1 - (kmi ss k).1) /\ (.bool (decide (((((rr.getD i []).getD (kmw ss k) 0) * p) : Int) <= (if (((kmx ss i).1 - (kmi ss k).1) : Int) > ((kmi ss k).1 - (kmx ss i).1) then (((kmx ss i).1 - (kmi ss k).1) : Int) else ((kmi ss k).1 - (kmx ss i).1)))) : Value) = sp)))))))) /\ ((decide ((((rr.getD i []).getD (kmw ss k) 0) : Int) < 1073741824)) = false -> (.bool false : Value) = sp))))))))))
theorem Eagr2 (sp : Value) (w h : Int) (a : List Bool) (p : Int) (ss : List (Int × Int)) (rr : List (List Int)) (i k : Nat) : vF prog msk (dm 0) 100000 true 40 true 87 [.pointer (some ⟨0,0,none⟩),nI (kmr i),nI (kmb k)] (readsT 0 (ctxA w h a p ss rr)) (some [])
 (.go 8 (.need (.go 0 (.val (nI (kmi ss k).2) (.go 5 (.need (.go 0 (.val (nI (kmi ss k).1) (.go 13 (.need (.val (.iface ((rr.getD i []).length + 1) (.agg ⟨((rr.getD i []).flatMap intC)⟩)) (.go 0 (.need (.val (nI ((rr.getD i []).getD (kmw ss k) 0)) (.go 4 (.gfork (.go 6 (.slot 25 (nI (((rr.getD i []).getD (kmw ss k) 0) * p)) (.go 6 (.need (.go 0 (.val (nI (kmx ss i).1) (.go 0 (.slot 36 (nI ((kmi ss k).1 - (kmx ss i).1)) (.go 5 (.need (.go 0 (.val (nI (kmx ss i).1) (.go 1 (.slot 47 (nI ((kmx ss i).1 - (kmi ss k).1)) (.auto))))))))))))))) (.auto)))))))))))))))))
 (fun v _ _ => v = sp) = Ragr2 sp w h a p ss rr i k:=by kernel_rfl
abbrev km0 : Value:=.func (.func 86) #[] #[.pointer (some ⟨1,0,none⟩),.pointer (some ⟨2,0,none⟩)]
abbrev kme (k : Nat) : Prop:=(nI (kmb k) : Value) = nI (kmb k) /\ True
abbrev kmk (k : Nat) : Prop:=km0 = .func (.func 86) #[] #[.pointer (some ⟨1,0,none⟩),.pointer (some ⟨2,0,none⟩)] /\ wkR (slQ 0 2 k) /\ kme k
abbrev kmg : Prop:=(True) /\ (True)
abbrev kmv : Prop:=(True) /\ kmg
abbrev kmy : Prop:=∀ n_0 : Nat,true = true
abbrev kmj (n_0 : Nat) (k : Nat):=decide (((n_0 : Int) : Int) < (kmb k))
abbrev km4 (qn0 : Nat) (qn1 : Nat) : Prop:=(0 : Int) <= (qn0 : Int) /\ ((qn0 : Int) : Int) < ((qn1 : Nat) : Int)
abbrev km6 (qd0 : List Int) (qn0 : Nat) : Prop:=(qd0.flatMap intC)[(0 + Int.toNat (qn0 : Int) * 1)]? = some (nI (qd0.getD qn0 0))
abbrev kmf (w : Int) (h : Int) (a : List Bool) (p : Int) (ss : List (Int × Int)) (rr : List (List Int)) : List Value:=[nI w,nI h,slQ 4 2 a.length,nI p,slQ 5 2 ss.length,slQ 6 1 rr.length]
abbrev kmt (w : Int) (h : Int) (a : List Bool) (p : Int) (ss : List (Int × Int)) (rr : List (List Int)) : Prop:=(someR (.cells false 0 (kmf w h a p ss rr))) /\ (someR (.cells false 0 (a.flatMap boolC))) /\ (someR (.cells false 0 (ss.flatMap spC))) /\ (someR (.cells false 0 (inL rr))) /\ True
abbrev kmm (H' : Heap) (w : Int) (h : Int) (a : List Bool) (p : Int) (ss : List (Int × Int)) (rr : List (List Int)) : Prop:=H'[3]? = some (.cells false 0 (kmf w h a p ss rr) : KObj) /\ H'[4]? = some (.cells false 0 (a.flatMap boolC) : KObj) /\ H'[5]? = some (.cells false 0 (ss.flatMap spC) : KObj) /\ H'[6]? = some (.cells false 0 (inL rr) : KObj) /\ True
abbrev kmd (k : Nat) (p : Int) (ss : List (Int × Int)) (rr : List (List Int)) (i1_ : Int) (M : List Int) : Prop:=true = true /\ wk (slQ 0 2 k : Value) (rn (sg 7 []) 3 (slQ 0 2 (keepP (agI p ss rr i1_) M k).length : Value)) /\ ((some (.cells true 1 (M.flatMap intC) : KObj) = some (.cells true 1 ((delP (agI p ss rr i1_) M k).flatMap intC) : KObj) /\ belowO 7 (.cells true 1 ((delP (agI p ss rr i1_) M k).flatMap intC) : KObj) = true) /\ True) /\ (True)
abbrev kmh (n_0 : Nat) : Value:=nI (IntKind.wrap .i64 ((n_0 : Int) + 1))
abbrev kms (n_0 : Nat) : Value:=nI ((n_0 : Int) + 1)
abbrev kma (k : Nat) : Prop:=km0 = .func (.func 86) #[] #[.pointer (some ⟨1,0,none⟩),.pointer (some ⟨2,0,none⟩)] /\ wkR (slQ 0 2 k) /\ (.slice none 0 0 : Value) = .slice none 0 0 /\ True
abbrev kmu (n_1 : Nat) (k : Nat):=decide (((n_1 : Int) : Int) < (kmb k))
abbrev km8 (p : Int) (ss : List (Int × Int)) (rr : List (List Int)) (i1_ : Int) (M : List Int) (n_1 : Nat) : Int:=((keepP (agI p ss rr i1_) M n_1).length : Nat)
abbrev kml (n_1 : Nat) : Value:=nI (IntKind.wrap .i64 ((n_1 : Int) + 1))
abbrev kmn : Prop:=true = false ∨ 1 = 0 ∨ 1 = 1
def RdelA (M : List Int) (k : Nat) (w h : Int) (a : List Bool) (p : Int) (ss : List (Int × Int)) (rr : List (List Int)) (i1_ : Int) : Prop :=
 (true = true /\ (0 <= k /\ (M.take 0).all (agI p ss rr i1_) = true) /\ (true = true /\ ((nI 0 : Value) = nI ((0 : Nat) : Int) /\ kmk k) /\ kmv) /\ kmy /\ ∀ n_0 : Nat,(n_0 <= k /\ (M.take n_0).all (agI p ss rr i1_) = true) -> (((kmj n_0 k) = true -> ((km4 n_0 k) /\ ((km6 M n_0) /\ ((kmt w h a p ss rr) /\ (∀ H' : Heap,H'.length = 7 -> (kmm H' w h a p ss rr) -> KCall prog 87 [.pointer (some ⟨3,0,none⟩),nI i1_,nI (M.getD n_0 0)] H' [] (Is (.bool (agI p ss rr i1_ (M.getD n_0 0))) H')) /\ (((!(agI p ss rr i1_ (M.getD n_0 0))) = true -> (((((n_0 : Int) : Int) == (-1)) = true -> (kmd k p ss rr i1_ M)) /\ ((((n_0 : Int) : Int) == (-1)) = false -> ((kmh n_0) = nI ((n_0 : Int) + 1) /\ (true = true /\ ((n_0 + 1) <= k /\ (keepP (agI p ss rr i1_) M (n_0 + 1)).length < (n_0 + 1)) /\ (true = true /\ ((kms n_0) = nI (((n_0 + 1) : Nat) : Int) /\ (nI (n_0 : Int) : Value) = nI (((keepP (agI p ss rr i1_) M (n_0 + 1)).length : Nat) : Int) /\ kma k) /\ ((some (.cells true 1 (M.flatMap intC) : KObj) = some (.cells true 1 ((midP (agI p ss rr i1_) M (n_0 + 1)).flatMap intC) : KObj) /\ belowO 7 (.cells true 1 ((midP (agI p ss rr i1_) M (n_0 + 1)).flatMap intC) : KObj) = true) /\ True) /\ kmg) /\ (∀ n_1 : Nat,true = true) /\ ∀ n_1 : Nat,(n_1 <= k /\ (keepP (agI p ss rr i1_) M n_1).length < n_1) -> (((kmu n_1 k) = true -> ((km4 n_1 k) /\ ((((midP (agI p ss rr i1_) M n_1).flatMap intC)[(0 + Int.toNat (n_1 : Int) * 1)]? = some (nI ((midP (agI p ss rr i1_) M n_1).getD n_1 0))) /\ ((kmt w h a p ss rr) /\ (∀ H' : Heap,H'.length = 7 -> (kmm H' w h a p ss rr) -> KCall prog 87 [.pointer (some ⟨3,0,none⟩),nI i1_,nI ((midP (agI p ss rr i1_) M n_1).getD n_1 0)] H' [] (Is (.bool (agI p ss rr i1_ ((midP (agI p ss rr i1_) M n_1).getD n_1 0))) H')) /\ (((!(!(agI p ss rr i1_ ((midP (agI p ss rr i1_) M n_1).getD n_1 0)))) = true -> (((0 : Int) <= (km8 p ss rr i1_ M n_1) /\ ((km8 p ss rr i1_ M n_1) : Int) < (kmb k)) /\ (((0 + Int.toNat (km8 p ss rr i1_ M n_1) * 1) + 1 <= List.length ((midP (agI p ss rr i1_) M n_1).flatMap intC)) /\ true = true /\ ((nI (IntKind.wrap .i64 ((km8 p ss rr i1_ M n_1) + 1)) : Value) = nI ((km8 p ss rr i1_ M n_1) + 1) /\ ((kml n_1) = nI ((n_1 : Int) + 1) /\ (∃ n_2' : Nat,(n_2' <= k /\ (keepP (agI p ss rr i1_) M n_2').length < n_2') /\ (k - n_2') < (k - n_1) /\ true = true /\ ((nI ((n_1 : Int) + 1) : Value) = nI (n_2' : Int) /\ (nI ((km8 p ss rr i1_ M n_1) + 1) : Value) = nI (((keepP (agI p ss rr i1_) M n_2').length : Nat) : Int) /\ kma k) /\ ((some (.cells true 1 (setl ((midP (agI p ss rr i1_) M n_1).flatMap intC) (0 + Int.toNat (km8 p ss rr i1_ M n_1) * 1) [nI ((midP (agI p ss rr i1_) M n_1).getD n_1 0)]) : KObj) = some (.cells true 1 ((midP (agI p ss rr i1_) M n_2').flatMap intC) : KObj) /\ belowO 7 (.cells true 1 ((midP (agI p ss rr i1_) M n_2').flatMap intC) : KObj) = true) /\ True) /\ kmg)))))) /\ ((!(!(agI p ss rr i1_ ((midP (agI p ss rr i1_) M n_1).getD n_1 0)))) = false -> ((kml n_1) = nI ((n_1 : Int) + 1) /\ (∃ n_2' : Nat,(n_2' <= k /\ (keepP (agI p ss rr i1_) M n_2').length < n_2') /\ (k - n_2') < (k - n_1) /\ true = true /\ ((nI ((n_1 : Int) + 1) : Value) = nI (n_2' : Int) /\ (nI (km8 p ss rr i1_ M n_1) : Value) = nI (((keepP (agI p ss rr i1_) M n_2').length : Nat) : Int) /\ kma k) /\ ((some (.cells true 1 ((midP (agI p ss rr i1_) M n_1).flatMap intC) : KObj) = some (.cells true 1 ((midP (agI p ss rr i1_) M n_2').flatMap intC) : KObj) /\ belowO 7 (.cells true 1 ((midP (agI p ss rr i1_) M n_2').flatMap intC) : KObj) = true) /\ True) /\ kmg)))))))) /\ ((kmu n_1 k) = false -> (((kmn /\ k <= k) /\ (k <= k) /\ ((0 : Int) <= (km8 p ss rr i1_ M n_1) /\ ((km8 p ss rr i1_ M n_1) : Int) <= (kmb k))) /\ ((.slice (some ⟨0,(0 + (km8 p ss rr i1_ M n_1).toNat * 1),some 2⟩) (k - (km8 p ss rr i1_ M n_1).toNat) (k - (km8 p ss rr i1_ M n_1).toNat) : Value) = .slice (some ⟨0,(0 + (km8 p ss rr i1_ M n_1).toNat * 1),some 2⟩) (k - (keepP (agI p ss rr i1_) M n_1).length) (k - (keepP (agI p ss rr i1_) M n_1).length) /\ (((0 + (km8 p ss rr i1_ M n_1).toNat * 1) + (k - (keepP (agI p ss rr i1_) M n_1).length) * 1 <= List.length ((midP (agI p ss rr i1_) M n_1).flatMap intC)) /\ true = true /\ (((kmn /\ (km8 p ss rr i1_ M n_1).toNat <= k) /\ ((0 : Int) <= (km8 p ss rr i1_ M n_1) /\ ((km8 p ss rr i1_ M n_1) : Int) <= (kmb k)) /\ (0 <= (km8 p ss rr i1_ M n_1).toNat)) /\ ((slQ 0 2 ((km8 p ss rr i1_ M n_1).toNat - 0) : Value) = slQ 0 2 (keepP (agI p ss rr i1_) M n_1).length /\ (true = true /\ wk (slQ 0 2 (keepP (agI p ss rr i1_) M n_1).length : Value) (rn (sg 7 []) 3 (slQ 0 2 (keepP (agI p ss rr i1_) M k).length : Value)) /\ ((some (.cells true 1 (setl ((midP (agI p ss rr i1_) M n_1).flatMap intC) (0 + (km8 p ss rr i1_ M n_1).toNat * 1) (krep [nI 0] (k - (keepP (agI p ss rr i1_) M n_1).length))) : KObj) = some (.cells true 1 ((delP (agI p ss rr i1_) M k).flatMap intC) : KObj) /\ belowO 7 (.cells true 1 ((delP (agI p ss rr i1_) M k).flatMap intC) : KObj) = true) /\ True) /\ (True)))))))))))))) /\ ((!(agI p ss rr i1_ (M.getD n_0 0))) = false -> ((kmh n_0) = nI ((n_0 : Int) + 1) /\ (∃ n_1' : Nat,(n_1' <= k /\ (M.take n_1').all (agI p ss rr i1_) = true) /\ (k - n_1') < (k - n_0) /\ true = true /\ ((kms n_0) = nI (n_1' : Int) /\ kmk k) /\ kmv)))))))) /\ ((kmj n_0 k) = false -> (kmd k p ss rr i1_ M))))
abbrev kmp : Hint:=.keep (.again [])
abbrev km3 (qn0 : Nat) (qn1 : Nat) (qn2 : Nat) : Hint:=.go qn0 (.slot qn1 (nI ((qn2 : Int) + 1)) (.go 0 (.again [])))
theorem EdelA (M : List Int) (k : Nat) (w h : Int) (a : List Bool) (p : Int) (ss : List (Int × Int)) (rr : List (List Int)) (i1_ : Int) : vF prog msk (dm 0) 100000 true 40 true 84 [slQ 0 2 k,.func (.func 86) #[] #[.pointer (some ⟨1,0,none⟩),.pointer (some ⟨2,0,none⟩)]] (readsW 0 1 (M.flatMap intC) (ctxD w h a p ss rr i1_)) (some [0])
 (.go 7 (.inv 3 (Nat) (0) [] [] (fun n_0 => [(8,nI (n_0 : Int)),(1,.func (.func 86) #[] #[.pointer (some ⟨1,0,none⟩),.pointer (some ⟨2,0,none⟩)]),(0,slQ 0 2 k),(7,nI (kmb k))]) (fun n_0 => []) (fun n_0 => []) (fun n_0 => []) (fun n_0 => (n_0 <= k /\ (M.take n_0).all (agI p ss rr i1_) = true)) (fun n_0 => (k - n_0)) (fun n_0 => .go 0 (.fork (.go 4 (.need (.val (nI (M.getD n_0 0)) (.go 4 (.ans [(3,.cells false 0 (kmf w h a p ss rr)),(4,.cells false 0 (a.flatMap boolC)),(5,.cells false 0 (ss.flatMap spC)),(6,.cells false 0 (inL rr))] (.bool (agI p ss rr i1_ (M.getD n_0 0))) [] (.go 1 (.fork (.go 4 (.fork (.go 1 kmp) (.go 1 (.slot 15 (nI ((n_0 : Int) + 1)) (.go 0 (.inv 3 (Nat) ((n_0 + 1)) [] [0] (fun n_1 => [(6,nI (n_1 : Int)),(5,nI (km8 p ss rr i1_ M n_1)),(1,.func (.func 86) #[] #[.pointer (some ⟨1,0,none⟩),.pointer (some ⟨2,0,none⟩)]),(0,slQ 0 2 k),(4,.slice none 0 0)]) (fun n_1 => [(0,true,.cells true 1 ((midP (agI p ss rr i1_) M n_1).flatMap intC))]) (fun n_1 => []) (fun n_1 => []) (fun n_1 => (n_1 <= k /\ (keepP (agI p ss rr i1_) M n_1).length < n_1)) (fun n_1 => (k - n_1)) (fun n_1 => .go 3 (.fork (.go 1 (.need (.val (nI ((midP (agI p ss rr i1_) M n_1).getD n_1 0)) (.go 7 (.ans [(3,.cells false 0 (kmf w h a p ss rr)),(4,.cells false 0 (a.flatMap boolC)),(5,.cells false 0 (ss.flatMap spC)),(6,.cells false 0 (inL rr))] (.bool (agI p ss rr i1_ ((midP (agI p ss rr i1_) M n_1).getD n_1 0))) [] (.go 2 (.fork (.go 2 (.need (.need (.go 1 (.slot 35 (nI ((km8 p ss rr i1_ M n_1) + 1)) (km3 2 21 n_1)))))) (km3 1 21 n_1)))))))) (.go 1 (.need (.slot 38 (.slice (some ⟨0,(0 + (km8 p ss rr i1_ M n_1).toNat * 1),some 2⟩) (k - (keepP (agI p ss rr i1_) M n_1).length) (k - (keepP (agI p ss rr i1_) M n_1).length)) (.need (.go 1 (.need (.slot 41 (slQ 0 2 (keepP (agI p ss rr i1_) M n_1).length) (.go 0 kmp)))))))))))))))) (km3 0 18 n_0)))))))) (.go 6 kmp)))))
 (newKW ((readsW 0 1 (M.flatMap intC) (ctxD w h a p ss rr i1_)) : HT).n 3 0 (.cells true 1 ((delP (agI p ss rr i1_) M k).flatMap intC)) (slQ 0 2 (keepP (agI p ss rr i1_) M k).length) []) = RdelA M k w h a p ss rr i1_:=by kernel_rfl
abbrev km2 : Value:=.func (.func 89) #[] #[.pointer (some ⟨1,0,none⟩)]
abbrev kmq (k : Nat) : Prop:=km2 = .func (.func 89) #[] #[.pointer (some ⟨1,0,none⟩)] /\ wkR (slQ 0 2 k) /\ kme k
abbrev km1 (qn0 : Nat) (qi0 : Int) (qd0 : List Int) : Prop:=true = true /\ wk (slQ 0 2 qn0 : Value) (rn (sg 2 []) 3 (slQ 0 2 (keepP (qNe qi0) qd0 qn0).length : Value)) /\ ((some (.cells true 1 (qd0.flatMap intC) : KObj) = some (.cells true 1 ((delP (qNe qi0) qd0 qn0).flatMap intC) : KObj) /\ belowO 2 (.cells true 1 ((delP (qNe qi0) qd0 qn0).flatMap intC) : KObj) = true) /\ True) /\ (True)
abbrev kmc (k : Nat) : Prop:=km2 = .func (.func 89) #[] #[.pointer (some ⟨1,0,none⟩)] /\ wkR (slQ 0 2 k) /\ (.slice none 0 0 : Value) = .slice none 0 0 /\ True
abbrev km9 (i1_ : Int) (M : List Int) (n_1 : Nat) : Int:=((keepP (qNe i1_) M n_1).length : Nat)
abbrev km5 (qi0 : Int) (qd0 : List Int) (qn0 : Nat) : KObj:=.cells true 1 ((midP (qNe qi0) qd0 qn0).flatMap intC)
abbrev km7 (qi0 : Int) (qd0 : List Int) (qn0 : Nat) (qn1 : Nat) : Prop:=(0 : Int) <= (((keepP (qNe qi0) qd0 qn0).length : Nat) : Int) /\ ((((keepP (qNe qi0) qd0 qn0).length : Nat) : Int) : Int) <= ((qn1 : Nat) : Int)
def RdelN (M : List Int) (k : Nat) (i1_ : Int) : Prop :=
 (true = true /\ (0 <= k /\ (M.take 0).all (qNe i1_) = true) /\ (true = true /\ ((nI 0 : Value) = nI ((0 : Nat) : Int) /\ kmq k) /\ kmv) /\ kmy /\ ∀ n_0 : Nat,(n_0 <= k /\ (M.take n_0).all (qNe i1_) = true) -> (((kmj n_0 k) = true -> ((km4 n_0 k) /\ ((km6 M n_0) /\ (((((M.getD n_0 0) : Int) == i1_) = true -> (((((n_0 : Int) : Int) == (-1)) = true -> (km1 k i1_ M)) /\ ((((n_0 : Int) : Int) == (-1)) = false -> ((kmh n_0) = nI ((n_0 : Int) + 1) /\ (true = true /\ ((n_0 + 1) <= k /\ (keepP (qNe i1_) M (n_0 + 1)).length < (n_0 + 1)) /\ (true = true /\ ((kms n_0) = nI (((n_0 + 1) : Nat) : Int) /\ (nI (n_0 : Int) : Value) = nI (((keepP (qNe i1_) M (n_0 + 1)).length : Nat) : Int) /\ kmc k) /\ ((some (.cells true 1 (M.flatMap intC) : KObj) = some (.cells true 1 ((midP (qNe i1_) M (n_0 + 1)).flatMap intC) : KObj) /\ belowO 2 (.cells true 1 ((midP (qNe i1_) M (n_0 + 1)).flatMap intC) : KObj) = true) /\ True) /\ kmg) /\ (∀ n_1 : Nat,true = true) /\ ∀ n_1 : Nat,(n_1 <= k /\ (keepP (qNe i1_) M n_1).length < n_1) -> (((kmu n_1 k) = true -> ((km4 n_1 k) /\ ((((midP (qNe i1_) M n_1).flatMap intC)[(0 + Int.toNat (n_1 : Int) * 1)]? = some (nI ((midP (qNe i1_) M n_1).getD n_1 0))) /\ (((!((((midP (qNe i1_) M n_1).getD n_1 0) : Int) == i1_)) = true -> (((0 : Int) <= (km9 i1_ M n_1) /\ ((km9 i1_ M n_1) : Int) < (kmb k)) /\ (((0 + Int.toNat (km9 i1_ M n_1) * 1) + 1 <= List.length ((midP (qNe i1_) M n_1).flatMap intC)) /\ true = true /\ ((nI (IntKind.wrap .i64 ((km9 i1_ M n_1) + 1)) : Value) = nI ((km9 i1_ M n_1) + 1) /\ ((kml n_1) = nI ((n_1 : Int) + 1) /\ (∃ n_2' : Nat,(n_2' <= k /\ (keepP (qNe i1_) M n_2').length < n_2') /\ (k - n_2') < (k - n_1) /\ true = true /\ ((nI ((n_1 : Int) + 1) : Value) = nI (n_2' : Int) /\ (nI ((km9 i1_ M n_1) + 1) : Value) = nI (((keepP (qNe i1_) M n_2').length : Nat) : Int) /\ kmc k) /\ ((some (.cells true 1 (setl ((midP (qNe i1_) M n_1).flatMap intC) (0 + Int.toNat (km9 i1_ M n_1) * 1) [nI ((midP (qNe i1_) M n_1).getD n_1 0)]) : KObj) = some (km5 i1_ M n_2') /\ belowO 2 (km5 i1_ M n_2') = true) /\ True) /\ kmg)))))) /\ ((!((((midP (qNe i1_) M n_1).getD n_1 0) : Int) == i1_)) = false -> ((kml n_1) = nI ((n_1 : Int) + 1) /\ (∃ n_2' : Nat,(n_2' <= k /\ (keepP (qNe i1_) M n_2').length < n_2') /\ (k - n_2') < (k - n_1) /\ true = true /\ ((nI ((n_1 : Int) + 1) : Value) = nI (n_2' : Int) /\ (nI (km9 i1_ M n_1) : Value) = nI (((keepP (qNe i1_) M n_2').length : Nat) : Int) /\ kmc k) /\ ((some (km5 i1_ M n_1) = some (km5 i1_ M n_2') /\ belowO 2 (km5 i1_ M n_2') = true) /\ True) /\ kmg))))))) /\ ((kmu n_1 k) = false -> (((kmn /\ k <= k) /\ (k <= k) /\ (km7 i1_ M n_1 k)) /\ ((.slice (some ⟨0,(0 + (km9 i1_ M n_1).toNat * 1),some 2⟩) (k - (km9 i1_ M n_1).toNat) (k - (km9 i1_ M n_1).toNat) : Value) = .slice (some ⟨0,(0 + (km9 i1_ M n_1).toNat * 1),some 2⟩) (k - (keepP (qNe i1_) M n_1).length) (k - (keepP (qNe i1_) M n_1).length) /\ (((0 + (km9 i1_ M n_1).toNat * 1) + (k - (keepP (qNe i1_) M n_1).length) * 1 <= List.length ((midP (qNe i1_) M n_1).flatMap intC)) /\ true = true /\ (((kmn /\ (km9 i1_ M n_1).toNat <= k) /\ (km7 i1_ M n_1 k) /\ (0 <= (km9 i1_ M n_1).toNat)) /\ ((slQ 0 2 ((km9 i1_ M n_1).toNat - 0) : Value) = slQ 0 2 (keepP (qNe i1_) M n_1).length /\ (true = true /\ wk (slQ 0 2 (keepP (qNe i1_) M n_1).length : Value) (rn (sg 2 []) 3 (slQ 0 2 (keepP (qNe i1_) M k).length : Value)) /\ ((some (.cells true 1 (setl ((midP (qNe i1_) M n_1).flatMap intC) (0 + (km9 i1_ M n_1).toNat * 1) (krep [nI 0] (k - (keepP (qNe i1_) M n_1).length))) : KObj) = some (.cells true 1 ((delP (qNe i1_) M k).flatMap intC) : KObj) /\ belowO 2 (.cells true 1 ((delP (qNe i1_) M k).flatMap intC) : KObj) = true) /\ True) /\ (True)))))))))))))) /\ ((((M.getD n_0 0) : Int) == i1_) = false -> ((kmh n_0) = nI ((n_0 : Int) + 1) /\ (∃ n_1' : Nat,(n_1' <= k /\ (M.take n_1').all (qNe i1_) = true) /\ (k - n_1') < (k - n_0) /\ true = true /\ ((kms n_0) = nI (n_1' : Int) /\ kmq k) /\ kmv))))))) /\ ((kmj n_0 k) = false -> (km1 k i1_ M))))
theorem EdelN (M : List Int) (k : Nat) (i1_ : Int) : vF prog msk (dm 0) 100000 true 40 true 84 [slQ 0 2 k,.func (.func 89) #[] #[.pointer (some ⟨1,0,none⟩)]] (readsW 0 1 (M.flatMap intC) [[nI i1_]]) (some [0])
 (.go 7 (.inv 3 (Nat) (0) [] [] (fun n_0 => [(8,nI (n_0 : Int)),(1,.func (.func 89) #[] #[.pointer (some ⟨1,0,none⟩)]),(0,slQ 0 2 k),(7,nI (kmb k))]) (fun n_0 => []) (fun n_0 => []) (fun n_0 => []) (fun n_0 => (n_0 <= k /\ (M.take n_0).all (qNe i1_) = true)) (fun n_0 => (k - n_0)) (fun n_0 => .go 0 (.fork (.go 4 (.need (.val (nI (M.getD n_0 0)) (.go 5 (.fork (.go 4 (.fork (.go 1 kmp) (.go 1 (.slot 15 (nI ((n_0 : Int) + 1)) (.go 0 (.inv 3 (Nat) ((n_0 + 1)) [] [0] (fun n_1 => [(6,nI (n_1 : Int)),(5,nI (km9 i1_ M n_1)),(1,.func (.func 89) #[] #[.pointer (some ⟨1,0,none⟩)]),(0,slQ 0 2 k),(4,.slice none 0 0)]) (fun n_1 => [(0,true,.cells true 1 ((midP (qNe i1_) M n_1).flatMap intC))]) (fun n_1 => []) (fun n_1 => []) (fun n_1 => (n_1 <= k /\ (keepP (qNe i1_) M n_1).length < n_1)) (fun n_1 => (k - n_1)) (fun n_1 => .go 3 (.fork (.go 1 (.need (.val (nI ((midP (qNe i1_) M n_1).getD n_1 0)) (.go 9 (.fork (.go 2 (.need (.need (.go 1 (.slot 35 (nI ((km9 i1_ M n_1) + 1)) (km3 2 21 n_1)))))) (km3 1 21 n_1)))))) (.go 1 (.need (.slot 38 (.slice (some ⟨0,(0 + (km9 i1_ M n_1).toNat * 1),some 2⟩) (k - (keepP (qNe i1_) M n_1).length) (k - (keepP (qNe i1_) M n_1).length)) (.need (.go 1 (.need (.slot 41 (slQ 0 2 (keepP (qNe i1_) M n_1).length) (.go 0 kmp)))))))))))))))) (km3 0 18 n_0)))))) (.go 6 kmp)))))
 (newKW ((readsW 0 1 (M.flatMap intC) [[nI i1_]]) : HT).n 3 0 (.cells true 1 ((delP (qNe i1_) M k).flatMap intC)) (slQ 0 2 (keepP (qNe i1_) M k).length) []) = RdelN M k i1_:=by kernel_rfl
abbrev kmo (i1_ : Int) (k : Nat) : Prop:=(nI i1_ : Value) = nI i1_ /\ (.slice (some ⟨0,0,none⟩) k k : Value) = .slice (some ⟨0,0,none⟩) k k /\ kme k
def Rcont (sp : Value) (M : List Int) (k : Nat) (i1_ : Int) : Prop :=
 (true = true /\ (0 <= k /\ (M.take 0).any (fun v => v == i1_) = false) /\ (true = true /\ ((nI 0 : Value) = nI ((0 : Nat) : Int) /\ kmo i1_ k) /\ kmv) /\ kmy /\ ∀ n_0 : Nat,(n_0 <= k /\ (M.take n_0).any (fun v => v == i1_) = false) -> (((kmj n_0 k) = true -> ((km4 n_0 k) /\ ((km6 M n_0) /\ ((((i1_ : Int) == (M.getD n_0 0)) = true -> (.bool (decide ((0 : Int) <= (n_0 : Int))) : Value) = sp) /\ (((i1_ : Int) == (M.getD n_0 0)) = false -> ((kmh n_0) = nI ((n_0 : Int) + 1) /\ (∃ n_1' : Nat,(n_1' <= k /\ (M.take n_1').any (fun v => v == i1_) = false) /\ (k - n_1') < (k - n_0) /\ true = true /\ ((kms n_0) = nI (n_1' : Int) /\ kmo i1_ k) /\ kmv))))))) /\ ((kmj n_0 k) = false -> (.bool false : Value) = sp)))
theorem Econt (sp : Value) (M : List Int) (k : Nat) (i1_ : Int) : vF prog msk (dm 0) 100000 true 40 true 88 [.slice (some ⟨0,0,none⟩) k k,nI i1_] (readsT 0 [M.flatMap intC]) (some [])
 (.go 7 (.inv 3 (Nat) (0) [] [] (fun n_0 => [(8,nI (n_0 : Int)),(1,nI i1_),(0,.slice (some ⟨0,0,none⟩) k k),(7,nI (kmb k))]) (fun n_0 => []) (fun n_0 => []) (fun n_0 => []) (fun n_0 => (n_0 <= k /\ (M.take n_0).any (fun v => v == i1_) = false)) (fun n_0 => (k - n_0)) (fun n_0 => .go 0 (.fork (.go 4 (.need (.val (nI (M.getD n_0 0)) (.go 0 (.fork (.auto) (km3 0 18 n_0)))))) (.auto)))))
 (fun v _ _ => v = sp) = Rcont sp M k i1_:=by kernel_rfl
end
end Go.Proofs.YtbgfjemppjhmjaaGreat
/- Radio: what stays of a list of numbers; is a number in one. No condition. -/
namespace Go.Proofs.YtbgfjemppjhmjaaGreat
open Go Go.K
set_option maxRecDepth 100000
set_option linter.unusedVariables false
set_option linter.unusedSimpArgs false
noncomputable section
attribute [local irreducible] vF
theorem all_1 {q : Int -> Bool} {M : List Int} {x : Nat} (hx : x < M.length) (h : (M.take x).all q = true) (h2 : q (M.getD x 0) = true) : (M.take (x + 1)).all q = true := by
 rw [take_snoc (d := 0) hx, List.all_append, h, List.all_cons, h2]; rfl
theorem all_0 (q : Int -> Bool) (M : List Int) : (M.take 0).all q = true := by rw [List.take_zero]; rfl
theorem qNe_1 {i v : Int} (h : (v == i) = false) : qNe i v = true := by unfold qNe; rw [decide_eq_false (beq_eq_false_iff_ne.1 h)]; rfl
theorem qNe_0 {i v : Int} (h : (v == i) = true) : qNe i v = false := by unfold qNe; rw [decide_eq_true (eq_of_beq h)]; rfl
theorem nn1 (x : Nat) : ((((x : Nat) : Int) == (-1)) : Bool) = false := beq_eq_false_iff_ne.2 (by omega)
theorem hvAgr2 {w h : Int} {a : List Bool} {p : Int} {ss : List (Int × Int)} {rr : List (List Int)} (t : TrOk w h a p ss) (rk : RowsOk a ss rr) {i k : Nat} (hi : i < ss.length) (hk : k < ss.length) : Ragr2 (.bool (agrB p ss rr i k)) w h a p ss rr i k := by
 have hl := rk.len
 obtain ⟨r1, r2⟩ := rk.row i hi
 have hkb := t.bd hk
 have hb := r2 (Int.toNat (ss.getD k zeroSp).2) (by omega)
 have hs := t.bd hi
 have hp := t.pace
 delta Ragr2 kmb kmi kmr kmw kmx
 refine ⟨⟨by omega, by omega⟩, spAt1 hk (by omega), ⟨by omega, by omega⟩, spAt0 hk (by omega), ⟨by omega, by omega⟩, inL_at (by omega) (by omega), ⟨hkb.2.1, by rw [r1]; exact hkb.2.2⟩, intAt (by omega) (by omega), fun q => ?_, fun q => ?_⟩
 ·have h1 := of_decide_eq_true q
  unfold agrB canB
  obtain ⟨e, he⟩ : ∃ e, (rr.getD i []).getD (Int.toNat (ss.getD k zeroSp).2) 0 = e := ⟨_, rfl⟩
  rw [he] at h1 hb ⊢
  have hep : 0 <= e * p /\ e * p <= 1073741824 * 1000 := ⟨Int.mul_nonneg hb.1 (by omega), Int.mul_le_mul (by omega) hp.2 (by omega) (by omega)⟩
  refine ⟨vI64 (by omega), ⟨by omega, by omega⟩, spAt0 hi (by omega), vI64 (by omega), ⟨by omega, by omega⟩, spAt0 hi (by omega), vI64 (by omega), ?_⟩
  rw [decide_eq_true (show e < farI from h1), Bool.true_and]; rfl
 ·have h1 := of_decide_eq_false q
  unfold agrB canB
  rw [decide_eq_false (show ¬ _ < farI from h1)]; rfl
theorem kAgC {w h : Int} {a : List Bool} {p : Int} {ss : List (Int × Int)} {rr : List (List Int)} (t : TrOk w h a p ss) (rk : RowsOk a ss rr) {x y : Int} (hx : 0 <= x /\ x < (ss.length : Int)) (hy : 0 <= y /\ y < (ss.length : Int)) {H : Heap} {r j l q : Nat}
  (h3 : ∃ o z, H[r]? = some (.cells o z (wkCs w h a p ss rr j l q))) (h4 : ∃ o z, H[j]? = some (.cells o z (a.flatMap boolC))) (h5 : ∃ o z, H[l]? = some (.cells o z (ss.flatMap spC))) (h6 : ∃ o z, H[q]? = some (.cells o z (inL rr))) :
  KCall prog 87 [.pointer (some ⟨r, 0, none⟩), .int .i64 x, .int .i64 y] H [] (Is (.bool (agI p ss rr x y)) H) := by
 have key := valB (Eq.mpr (Eagr2 (.bool (agrB p ss rr (Int.toNat x) (Int.toNat y))) w h a p ss rr (Int.toNat x) (Int.toNat y)) (hvAgr2 t rk (by omega) (by omega))) rfl (H := H) (ids := [r, j, l, q]) (hi := ⟨h3, by rw [rnBool]; exact h4, by rw [rnSp]; exact h5, by rw [rnInL]; exact h6, trivial⟩) (args' := [.pointer (some ⟨r, 0, none⟩), .int .i64 ((Int.toNat x : Nat) : Int), .int .i64 ((Int.toNat y : Nat) : Int)]) (ha := rfl)
 rw [show ((Int.toNat x : Nat) : Int) = x by omega, show ((Int.toNat y : Nat) : Int) = y by omega] at key
 exact key
theorem hvdelA {M : List Int} {k : Nat} {w h : Int} {a : List Bool} {p : Int} {ss : List (Int × Int)} {rr : List (List Int)} {i : Int} (hk : k <= M.length) (hM : M.length <= 1000) (t : TrOk w h a p ss) (rk : RowsOk a ss rr) (hi : 0 <= i /\ i < (ss.length : Int)) (hin : ∀ x, x < k -> 0 <= M.getD x 0 /\ M.getD x 0 < (ss.length : Int)) : RdelA M k w h a p ss rr i := by
 delta RdelA km0 kmb kme kmk kmg kmv kmy kmj km4 km6 kmf kmt kmm kmd kmh kms kma kmu km8 kml kmn
 refine ⟨rfl, ⟨Nat.zero_le _, all_0 _ _⟩, ?_, fun _ => rfl, ?_⟩
 ·repeat' first | exact plainIL _ _ | exact wk_refl _ | exact rfl | exact wk_refl _ | exact wks_nil | apply And.intro
 rintro x ⟨hx, ha⟩
 refine forkD (fun b => ?_) (fun b => ?_)
 ·have hlt : x < M.length := by omega
  have hvv : 0 <= (M.getD x 0) /\ (M.getD x 0) < (ss.length : Int) := by exact hin x (by omega)
  refine ⟨⟨by omega, by omega⟩, intAt (by omega) (by omega), ⟨rfl, rfl, rfl, rfl, trivial⟩, fun H' _ g => kAgC t rk hi hvv ⟨_, _, g.1⟩ ⟨_, _, g.2.1⟩ ⟨_, _, g.2.2.1⟩ ⟨_, _, g.2.2.2.1⟩, ⟨fun d => ?_, fun d => ?_⟩⟩
  ·have hq : (agI p ss rr i) (M.getD x 0) = false := notB d
   have mf := midP_first (q := (agI p ss rr i)) hlt ha hq
   refine ⟨fun e => absurd e (by rw [nn1]; decide), fun _ => ⟨vI64 (by omega), rfl, ⟨by omega, by rw [mf.2]; omega⟩, ?_, fun _ => rfl, ?_⟩⟩
   ·rw [mf.1, mf.2]
    repeat' first | exact plainIL _ _ | exact wk_refl _ | exact rfl | exact wk_refl _ | exact wks_nil | apply And.intro
   rintro y ⟨hy, hc⟩
   have hml := midP_len (q := (agI p ss rr i)) (show y <= M.length by omega)
   refine forkD (fun b => ?_) (fun b => ?_)
   ·have hma := midP_at (q := (agI p ss rr i)) (show y < M.length by omega)
    have hvv : 0 <= ((midP (agI p ss rr i) M y).getD y 0) /\ ((midP (agI p ss rr i) M y).getD y 0) < (ss.length : Int) := by rw [hma]; exact hin y (by omega)
    refine ⟨⟨by omega, by omega⟩, intAt (by omega) (by omega), ⟨rfl, rfl, rfl, rfl, trivial⟩, fun H' _ g => kAgC t rk hi hvv ⟨_, _, g.1⟩ ⟨_, _, g.2.1⟩ ⟨_, _, g.2.2.1⟩ ⟨_, _, g.2.2.2.1⟩, ⟨fun d => ?_, fun d => ?_⟩⟩
    ·have hq2 : (agI p ss rr i) (M.getD y 0) = true := by rw [<- hma]; exact notB2 (notB d)
     have h1 := midP_1 (q := (agI p ss rr i)) (show y < M.length by omega) hq2
     have h2 := keepP_1 (q := (agI p ss rr i)) (show y < M.length by omega) hq2
     have h3 : (keepP (agI p ss rr i) M (y + 1)).length = (keepP (agI p ss rr i) M y).length + 1 := by rw [h2, List.length_append]; rfl
     have h4 := flat_set (f := intC) intC_len (midP (agI p ss rr i) M y) (keepP (agI p ss rr i) M y).length (by omega) ((midP (agI p ss rr i) M y).getD y 0)
     rw [show (midP (agI p ss rr i) M y).set (keepP (agI p ss rr i) M y).length ((midP (agI p ss rr i) M y).getD y 0) = midP (agI p ss rr i) M (y + 1) by rw [hma, h1]] at h4
     refine ⟨⟨by omega, by omega⟩, by rw [flat_len intC_len, hml]; omega, rfl, vI64 (by omega), vI64 (by omega), y + 1, ⟨by omega, by omega⟩, by omega, rfl, ?_⟩
     rw [h3, show 0 + Int.toNat (((keepP (agI p ss rr i) M y).length : Nat) : Int) * 1 = (keepP (agI p ss rr i) M y).length * 1 by omega]
     repeat' first | exact plainIL _ _ | exact wk_refl _ | (exact congrArg (fun l => some (KObj.cells true 1 l)) h4) | exact rfl | exact wk_refl _ | exact wks_nil | apply And.intro
    ·have hq2 : (agI p ss rr i) (M.getD y 0) = false := by rw [<- hma]; exact notB (notB2 d)
     have h1 := midP_0 (q := (agI p ss rr i)) (show y < M.length by omega) hq2
     have h2 := keepP_0 (q := (agI p ss rr i)) (show y < M.length by omega) hq2
     refine ⟨vI64 (by omega), y + 1, ⟨by omega, by rw [h2]; omega⟩, by omega, rfl, ?_⟩
     rw [h1, h2]
     repeat' first | exact plainIL _ _ | exact wk_refl _ | exact rfl | exact wk_refl _ | exact wks_nil | apply And.intro
   ·obtain rfl : y = k := by omega
    refine ⟨⟨⟨.inr (.inr rfl), Nat.le_refl _⟩, Nat.le_refl _, by omega, by omega⟩, by rw [Int.toNat_natCast], by rw [flat_len intC_len, hml]; omega, rfl, ⟨⟨.inr (.inr rfl), by omega⟩, ⟨by omega, by omega⟩, by omega⟩, by rw [Int.toNat_natCast]; rfl, rfl, wk_refl _, ⟨⟨?_, plainIL _ _⟩, trivial⟩, trivial⟩
    rw [Int.toNat_natCast, clr_del (by omega)]
  ·have hq : (agI p ss rr i) (M.getD x 0) = true := notB2 d
   have ha2 := all_1 (by omega) ha hq
   refine ⟨vI64 (by omega), x + 1, ⟨by omega, ha2⟩, by omega, rfl, ?_⟩
   repeat' first | exact plainIL _ _ | exact wk_refl _ | exact rfl | exact wk_refl _ | exact wks_nil | apply And.intro
 ·obtain rfl : x = k := by omega
  have da := delP_all (q := (agI p ss rr i)) (by omega) ha
  rw [da.1, da.2]
  repeat' first | exact plainIL _ _ | exact wk_refl _ | exact rfl | exact wk_refl _ | exact wks_nil | apply And.intro
theorem hvdelN {M : List Int} {k : Nat} {i : Int} (hk : k <= M.length) (hM : M.length <= 1000)  : RdelN M k i := by
 delta RdelN km2 kmb kme kmq kmg kmv kmy kmj km4 km6 km1 kmh kms kmc kmu km9 kml km5 kmn km7
 refine ⟨rfl, ⟨Nat.zero_le _, all_0 _ _⟩, ?_, fun _ => rfl, ?_⟩
 ·repeat' first | exact plainIL _ _ | exact wk_refl _ | exact rfl | exact wk_refl _ | exact wks_nil | apply And.intro
 rintro x ⟨hx, ha⟩
 refine forkD (fun b => ?_) (fun b => ?_)
 ·have hlt : x < M.length := by omega
  refine ⟨⟨by omega, by omega⟩, intAt (by omega) (by omega), ⟨fun d => ?_, fun d => ?_⟩⟩
  ·have hq : (qNe i) (M.getD x 0) = false := qNe_0 d
   have mf := midP_first (q := (qNe i)) hlt ha hq
   refine ⟨fun e => absurd e (by rw [nn1]; decide), fun _ => ⟨vI64 (by omega), rfl, ⟨by omega, by rw [mf.2]; omega⟩, ?_, fun _ => rfl, ?_⟩⟩
   ·rw [mf.1, mf.2]
    repeat' first | exact plainIL _ _ | exact wk_refl _ | exact rfl | exact wk_refl _ | exact wks_nil | apply And.intro
   rintro y ⟨hy, hc⟩
   have hml := midP_len (q := (qNe i)) (show y <= M.length by omega)
   refine forkD (fun b => ?_) (fun b => ?_)
   ·have hma := midP_at (q := (qNe i)) (show y < M.length by omega)
    refine ⟨⟨by omega, by omega⟩, intAt (by omega) (by omega), ⟨fun d => ?_, fun d => ?_⟩⟩
    ·have hq2 : (qNe i) (M.getD y 0) = true := by rw [<- hma]; exact qNe_1 (notB d)
     have h1 := midP_1 (q := (qNe i)) (show y < M.length by omega) hq2
     have h2 := keepP_1 (q := (qNe i)) (show y < M.length by omega) hq2
     have h3 : (keepP (qNe i) M (y + 1)).length = (keepP (qNe i) M y).length + 1 := by rw [h2, List.length_append]; rfl
     have h4 := flat_set (f := intC) intC_len (midP (qNe i) M y) (keepP (qNe i) M y).length (by omega) ((midP (qNe i) M y).getD y 0)
     rw [show (midP (qNe i) M y).set (keepP (qNe i) M y).length ((midP (qNe i) M y).getD y 0) = midP (qNe i) M (y + 1) by rw [hma, h1]] at h4
     refine ⟨⟨by omega, by omega⟩, by rw [flat_len intC_len, hml]; omega, rfl, vI64 (by omega), vI64 (by omega), y + 1, ⟨by omega, by omega⟩, by omega, rfl, ?_⟩
     rw [h3, show 0 + Int.toNat (((keepP (qNe i) M y).length : Nat) : Int) * 1 = (keepP (qNe i) M y).length * 1 by omega]
     repeat' first | exact plainIL _ _ | exact wk_refl _ | (exact congrArg (fun l => some (KObj.cells true 1 l)) h4) | exact rfl | exact wk_refl _ | exact wks_nil | apply And.intro
    ·have hq2 : (qNe i) (M.getD y 0) = false := by rw [<- hma]; exact qNe_0 (notB2 d)
     have h1 := midP_0 (q := (qNe i)) (show y < M.length by omega) hq2
     have h2 := keepP_0 (q := (qNe i)) (show y < M.length by omega) hq2
     refine ⟨vI64 (by omega), y + 1, ⟨by omega, by rw [h2]; omega⟩, by omega, rfl, ?_⟩
     rw [h1, h2]
     repeat' first | exact plainIL _ _ | exact wk_refl _ | exact rfl | exact wk_refl _ | exact wks_nil | apply And.intro
   ·obtain rfl : y = k := by omega
    refine ⟨⟨⟨.inr (.inr rfl), Nat.le_refl _⟩, Nat.le_refl _, by omega, by omega⟩, by rw [Int.toNat_natCast], by rw [flat_len intC_len, hml]; omega, rfl, ⟨⟨.inr (.inr rfl), by omega⟩, ⟨by omega, by omega⟩, by omega⟩, by rw [Int.toNat_natCast]; rfl, rfl, wk_refl _, ⟨⟨?_, plainIL _ _⟩, trivial⟩, trivial⟩
    rw [Int.toNat_natCast, clr_del (by omega)]
  ·have hq : (qNe i) (M.getD x 0) = true := qNe_1 d
   have ha2 := all_1 (by omega) ha hq
   refine ⟨vI64 (by omega), x + 1, ⟨by omega, ha2⟩, by omega, rfl, ?_⟩
   repeat' first | exact plainIL _ _ | exact wk_refl _ | exact rfl | exact wk_refl _ | exact wks_nil | apply And.intro
 ·obtain rfl : x = k := by omega
  have da := delP_all (q := (qNe i)) (by omega) ha
  rw [da.1, da.2]
  repeat' first | exact plainIL _ _ | exact wk_refl _ | exact rfl | exact wk_refl _ | exact wks_nil | apply And.intro
theorem kDelA {M : List Int} {k : Nat} {w h : Int} {a : List Bool} {p : Int} {ss : List (Int × Int)} {rr : List (List Int)} {i : Int} (hk : k <= M.length) (hM : M.length <= 1000) (t : TrOk w h a p ss) (rk : RowsOk a ss rr) (hi : 0 <= i /\ i < (ss.length : Int)) (hin : ∀ x, x < k -> 0 <= M.getD x 0 /\ M.getD x 0 < (ss.length : Int)) {H : Heap} {D b c r j l q : Nat} (hD : H[D]? = some (.cells true 1 (M.flatMap intC))) (hne : D ∉ [b, c, r, j, l, q])
  (h1 : ∃ o z, H[b]? = some (.cells o z [.pointer (some ⟨r, 0, none⟩)])) (h2 : ∃ o z, H[c]? = some (.cells o z [.int .i64 i])) (h3 : ∃ o z, H[r]? = some (.cells o z (wkCs w h a p ss rr j l q))) (h4 : ∃ o z, H[j]? = some (.cells o z (a.flatMap boolC))) (h5 : ∃ o z, H[l]? = some (.cells o z (ss.flatMap spC))) (h6 : ∃ o z, H[q]? = some (.cells o z (inL rr))) :
  KCall prog 84 [slQ D 2 k, .func (.func 86) #[] #[.pointer (some ⟨b, 0, none⟩), .pointer (some ⟨c, 0, none⟩)]] H [D] (Is (slQ D 2 (keepP (agI p ss rr i) M k).length) (H.set D (.cells true 1 ((delP (agI p ss rr i) M k).flatMap intC)))) :=
 valG1 (css := ctxD w h a p ss rr i) (Eq.mpr (EdelA M k w h a p ss rr i) (hvdelA hk hM t rk hi hin)) (plainIL _ _) (plainIL _ _) hD (ids := [b, c, r, j, l, q]) ⟨h1, h2, h3, by rw [rnBool]; exact h4, by rw [rnSp]; exact h5, by rw [rnInL]; exact h6, trivial⟩ hne rfl
theorem kDelI {M : List Int} {k : Nat} {i : Int} (hk : k <= M.length) (hM : M.length <= 1000) {H : Heap} {D c : Nat} (hD : H[D]? = some (.cells true 1 (M.flatMap intC))) (hne : D ≠ c) (h2 : ∃ o z, H[c]? = some (.cells o z [.int .i64 i])) :
  KCall prog 84 [slQ D 2 k, .func (.func 89) #[] #[.pointer (some ⟨c, 0, none⟩)]] H [D] (Is (slQ D 2 (keepP (qNe i) M k).length) (H.set D (.cells true 1 ((delP (qNe i) M k).flatMap intC)))) :=
 valG1 (css := [[.int .i64 i]]) (Eq.mpr (EdelN M k i) (hvdelN hk hM)) (plainIL _ _) (plainIL _ _) hD (ids := [c]) ⟨h2, trivial⟩ (by simpa using hne) rfl
theorem hvCont {M : List Int} {k : Nat} {i : Int} (hk : k <= M.length) (hM : M.length <= 1000) : Rcont (.bool ((M.take k).any fun v => v == i)) M k i := by
 delta Rcont kmb kme kmo kmg kmv kmy kmj km4 km6 kmh kms
 refine ⟨rfl, ⟨Nat.zero_le _, (by rw [List.take_zero]; rfl)⟩, ?_, fun _ => rfl, ?_⟩
 ·repeat' first | exact plainIL _ _ | exact wk_refl _ | exact rfl | exact wk_refl _ | exact wks_nil | apply And.intro
 rintro x ⟨hx, ha⟩
 refine forkD (fun b => ?_) (fun b => ?_)
 ·refine ⟨⟨by omega, by omega⟩, intAt (by omega) (by omega), fun d => ?_, fun d => ?_⟩
  ·show Value.bool _ = Value.bool _
   rw [decide_eq_true (show (0 : Int) <= ((x : Nat) : Int) by omega)]
   congr 1
   symm
   rw [List.any_eq_true]
   refine ⟨M.getD x 0, ?_, by rw [eq_of_beq d]; exact beq_self_eq_true _⟩
   rw [List.mem_iff_getElem]
   refine ⟨x, by rw [List.length_take]; omega, ?_⟩
   rw [List.getElem_take, gI (by omega)]
  ·refine ⟨vI64 (by omega), x + 1, ⟨by omega, ?_⟩, by omega, rfl, ?_⟩
   ·rw [take_snoc (d := 0) (by omega), List.any_append, ha, List.any_cons, List.any_nil, Bool.or_false, Bool.false_or]
    exact beq_eq_false_iff_ne.2 fun e => (beq_eq_false_iff_ne.1 d) e.symm
   ·repeat' first | exact plainIL _ _ | exact wk_refl _ | exact rfl | exact wk_refl _ | exact wks_nil | apply And.intro
 ·obtain rfl : x = k := by omega
  show Value.bool _ = Value.bool _
  rw [ha]
theorem kCont {M : List Int} {k : Nat} {i : Int} (hk : k <= M.length) (hM : M.length <= 1000) {H : Heap} {D : Nat} {o z} (hD : H[D]? = some (.cells o z (M.flatMap intC))) :
  KCall prog 88 [.slice (some ⟨D, 0, none⟩) k k, .int .i64 i] H [] (Is (.bool ((M.take k).any fun v => v == i)) H) :=
 valR (css := [M.flatMap intC]) (Eq.mpr (Econt _ M k i) (hvCont hk hM)) (one_cs (plainIL 0 _)) rfl [D] rfl (one_id hD)
end
end Go.Proofs.YtbgfjemppjhmjaaGreat
/- What is to be shown of functions. Printed by a program. No condition. -/
namespace Go.Proofs.YtbgfjemppjhmjaaGreat
set_option linter.unusedSimpArgs false
open Go Go.K
set_option maxRecDepth 100000
set_option maxHeartbeats 4000000
set_option linter.unusedVariables false
noncomputable section
abbrev kl7 (M : List Int) (k : Nat) : KObj:=.cells true 1 ((M.take k).flatMap intC)
def RclI (M : List Int) (k : Nat) : Prop :=
 ((k = 0 -> (((0 + k) * 8 <= 2 ^ 44 /\ k = 0) /\ (true = true /\ wk (slQ 1 1 0 : Value) (rn (sg 1 [(1,1)]) 3 (slQ 1 1 k : Value)) /\ ((some (.cells true 1 [] : KObj) = some (kl7 M k) /\ belowO 1 (kl7 M k) = true) /\ True)))) /\ (¬ (k = 0) -> (((0 + k) * 8 <= 2 ^ 44 /\ k ≠ 0 /\ (0 <= 0 /\ 0 + 0 * 1 <= List.length ([] : List Value)) /\ (k <= k /\ 0 + k * 1 <= List.length (M.flatMap intC)) /\ ((((M.flatMap intC).drop 0).take (k * 1)) : List Value).all (fun v => one1 v) = true) /\ true = true /\ (true = true /\ wk (.slice (some ⟨2,0,none⟩) (0 + k) (0 + k) : Value) (rn (sg 1 [(1,2)]) 3 (slQ 1 1 k : Value)) /\ ((some (.cells true 1 (((([] : List Value).drop 0).take (0 * 1)) ++ (((M.flatMap intC).drop 0).take (k * 1))) : KObj) = some (kl7 M k) /\ belowO 1 (kl7 M k) = true) /\ True)))))
theorem EclI (M : List Int) (k : Nat) : vF prog msk (dm 0) 100000 true 40 true 85 [.slice (some ⟨0,0,none⟩) k k] (readsT 0 [M.flatMap intC]) (some [])
 (.go 5 (.cas (k = 0) (.val (.bool true) (.go 0 (.again [(1,1)]))) (.need (.go 0 (.again [(1,2)])))))
 (newK ((readsT 0 [M.flatMap intC]) : HT).n 3 (slQ 1 1 k) [(true,.cells true 1 ((M.take k).flatMap intC))]) = RclI M k:=by kernel_rfl
abbrev kld : List Value:=[.pointer (some ⟨2,0,none⟩)]
abbrev kl4 (w : Int) (h : Int) (a : List Bool) (p : Int) (ss : List (Int × Int)) (rr : List (List Int)) : List Value:=[nI w,nI h,slQ 0 2 a.length,nI p,slQ 1 2 ss.length,slQ 3 1 rr.length]
abbrev klb (o1 : Bool) (z1 : Nat) (a : List Bool) (o2 : Bool) (z2 : Nat) (ss : List (Int × Int)) (rr : List (List Int)) : Prop:=(someR (.cells o1 z1 (a.flatMap boolC))) /\ (someR (.cells o2 z2 (ss.flatMap spC))) /\ (someR (.cells true 1 (inL rr))) /\ True
abbrev kl9 (H' : Heap) (o1 : Bool) (z1 : Nat) (a : List Bool) (o2 : Bool) (z2 : Nat) (ss : List (Int × Int)) (rr : List (List Int)) : Prop:=H'[0]? = some (.cells o1 z1 (a.flatMap boolC) : KObj) /\ H'[1]? = some (.cells o2 z2 (ss.flatMap spC) : KObj) /\ H'[3]? = some (.cells true 1 (inL rr) : KObj) /\ True
abbrev kl1 (ss : List (Int × Int)) (M : List Int) (k : Nat):=isr (kyI ss) (M.take k) (M.take k).length
abbrev kl5 (k : Nat) : Prop:=(.pointer (some ⟨5,0,none⟩) : Value) = .pointer (some ⟨5,0,none⟩) /\ (.map none : Value) = .map none /\ wkR (slQ 6 1 k) /\ (.map (some 7) : Value) = .map (some 7) /\ wkR (slQ 6 1 k) /\ (nI ((k : Nat) : Int) : Value) = nI ((k : Nat) : Int) /\ True
abbrev klc : Prop:=(True) /\ (True)
abbrev kl3 (k : Nat) (n_0 : Nat) (ss : List (Int × Int)) (M : List Int) : Prop:=(nI ((k : Nat) : Int) : Value) = nI ((k : Nat) : Int) /\ wkR (slQ 6 1 k) /\ (.map (some 7) : Value) = .map (some 7) /\ wkR (slQ 6 1 k) /\ (.map none : Value) = .map none /\ (.pointer (some ⟨5,0,none⟩) : Value) = .pointer (some ⟨5,0,none⟩) /\ (nI (n_0 : Int) : Value) = nI (n_0 : Int) /\ (nI (n_0 : Int) : Value) = nI (n_0 : Int) /\ (nI ((kl1 ss M k).getD n_0 0) : Value) = nI ((kl1 ss M k).getD n_0 0) /\ wkR (slQ 6 2 n_0) /\ (nI (n_0 : Int) : Value) = nI (n_0 : Int) /\ True
abbrev kl6 (ss : List (Int × Int)) (M : List Int) (k : Nat) (n_1 : Nat) (p : Int) (rr : List (List Int)) (n_0 : Nat):=getA ((kl1 ss M k).getD n_1 0) 0 (hEJ (agI p ss rr) (kl1 ss M k) n_0 n_1)
abbrev kl2 (p : Int) (ss : List (Int × Int)) (rr : List (List Int)) (M : List Int) (k : Nat):=hE (agI p ss rr) (kl1 ss M k) (kl1 ss M k).length
def Rhgts (o1 o2 : Bool) (z1 z2 : Nat) (o3 : Bool) (z3 : Nat) (w h : Int) (a : List Bool) (p : Int) (ss : List (Int × Int)) (rr : List (List Int)) (M : List Int) (k : Nat) : Prop :=
 (((someR (.cells o3 z3 (M.flatMap intC))) /\ True) /\ (∀ H' : Heap,H'.length = 6 -> (H'[4]? = some (.cells o3 z3 (M.flatMap intC) : KObj) /\ True) -> KCall prog 85 [slQ 4 2 k] H' [] (Is (slQ 6 1 k) (H' ++ [(kl7 M k)]))) /\ (((someR (.cells true 1 ((M.take k).flatMap intC))) /\ (someR (.cells true 0 kld)) /\ (someR (.cells true 0 (kl4 w h a p ss rr))) /\ klb o1 z1 a o2 z2 ss rr) /\ (∀ H' : Heap,H'.length = 7 -> (H'[6]? = some (kl7 M k) /\ H'[5]? = some (.cells true 0 kld : KObj) /\ H'[2]? = some (.cells true 0 (kl4 w h a p ss rr) : KObj) /\ kl9 H' o1 z1 a o2 z2 ss rr) -> KCall prog 226 [slQ 6 1 k,nI ((k : Nat) : Int),.func (.func 166) #[] #[.pointer (some ⟨5,0,none⟩)]] H' [6] (Is (.tuple #[]) (List.set H' 6 (.cells true 1 ((kl1 ss M k).flatMap intC) : KObj)))) /\ (true = true /\ (0 <= List.length (kl1 ss M k)) /\ (true = true /\ ((nI 0 : Value) = nI ((0 : Nat) : Int) /\ kl5 k) /\ ((some (.map (mapI []) : KObj) = some (.map (mapI (hE (agI p ss rr) (kl1 ss M k) 0)) : KObj) /\ belowO 8 (.map (mapI (hE (agI p ss rr) (kl1 ss M k) 0)) : KObj) = true) /\ True) /\ klc) /\ (∀ n_0 : Nat,true = true) /\ ∀ n_0 : Nat,(n_0 <= List.length (kl1 ss M k)) -> (((decide (((n_0 : Int) : Int) < ((k : Nat) : Int))) = true -> (((0 : Int) <= (n_0 : Int) /\ ((n_0 : Int) : Int) < ((k : Nat) : Int)) /\ ((((kl1 ss M k).flatMap intC)[(0 + Int.toNat (n_0 : Int) * 1)]? = some (nI ((kl1 ss M k).getD n_0 0))) /\ ((ksetE prog 3 (nI ((kl1 ss M k).getD n_0 0)) (nI 1) (mapI (hE (agI p ss rr) (kl1 ss M k) n_0)) = some (mapI (putA ((kl1 ss M k).getD n_0 0) 1 (hE (agI p ss rr) (kl1 ss M k) n_0)))) /\ ((((true = false ∨ 1 = 0 ∨ 1 = 1) /\ (n_0 : Int).toNat <= k) /\ ((0 : Int) <= (n_0 : Int) /\ ((n_0 : Int) : Int) <= ((k : Nat) : Int)) /\ (0 <= (n_0 : Int).toNat)) /\ ((slQ 6 2 ((n_0 : Int).toNat - 0) : Value) = slQ 6 2 n_0 /\ (true = true /\ (0 <= n_0) /\ (true = true /\ ((nI 0 : Value) = nI ((0 : Nat) : Int) /\ kl3 k n_0 ss M) /\ ((some (.map (mapI (putA ((kl1 ss M k).getD n_0 0) 1 (hE (agI p ss rr) (kl1 ss M k) n_0))) : KObj) = some (.map (mapI (hEJ (agI p ss rr) (kl1 ss M k) n_0 0)) : KObj) /\ belowO 8 (.map (mapI (hEJ (agI p ss rr) (kl1 ss M k) n_0 0)) : KObj) = true) /\ True) /\ klc) /\ (∀ n_1 : Nat,true = true) /\ ∀ n_1 : Nat,(n_1 <= n_0) -> (((decide (((n_1 : Int) : Int) < (n_0 : Int))) = true -> (((0 : Int) <= (n_1 : Int) /\ ((n_1 : Int) : Int) < (n_0 : Int)) /\ ((((kl1 ss M k).flatMap intC)[(0 + Int.toNat (n_1 : Int) * 1)]? = some (nI ((kl1 ss M k).getD n_1 0))) /\ (((someR (.cells true 0 (kl4 w h a p ss rr))) /\ klb o1 z1 a o2 z2 ss rr) /\ (∀ H' : Heap,H'.length = 8 -> (H'[2]? = some (.cells true 0 (kl4 w h a p ss rr) : KObj) /\ kl9 H' o1 z1 a o2 z2 ss rr) -> KCall prog 87 [.pointer (some ⟨2,0,none⟩),nI ((kl1 ss M k).getD n_1 0),nI ((kl1 ss M k).getD n_0 0)] H' [] (Is (.bool (agI p ss rr ((kl1 ss M k).getD n_1 0) ((kl1 ss M k).getD n_0 0))) H')) /\ (((agI p ss rr ((kl1 ss M k).getD n_1 0) ((kl1 ss M k).getD n_0 0)) = true -> ((klookE prog 3 (nI 0) (nI ((kl1 ss M k).getD n_0 0)) false (mapI (hEJ (agI p ss rr) (kl1 ss M k) n_0 n_1)) = some (nI (getA ((kl1 ss M k).getD n_0 0) 0 (hEJ (agI p ss rr) (kl1 ss M k) n_0 n_1)))) /\ ((klookE prog 3 (nI 0) (nI ((kl1 ss M k).getD n_1 0)) false (mapI (hEJ (agI p ss rr) (kl1 ss M k) n_0 n_1)) = some (nI (kl6 ss M k n_1 p rr n_0))) /\ ((nI (IntKind.wrap .i64 ((kl6 ss M k n_1 p rr n_0) + 1)) : Value) = nI ((kl6 ss M k n_1 p rr n_0) + 1) /\ (∃ i_2 : Int,(nI (if (((kl6 ss M k n_1 p rr n_0) + 1) : Int) > (getA ((kl1 ss M k).getD n_0 0) 0 (hEJ (agI p ss rr) (kl1 ss M k) n_0 n_1)) then (((kl6 ss M k n_1 p rr n_0) + 1) : Int) else (getA ((kl1 ss M k).getD n_0 0) 0 (hEJ (agI p ss rr) (kl1 ss M k) n_0 n_1))) : Value) = nI i_2 /\ ((ksetE prog 3 (nI ((kl1 ss M k).getD n_0 0)) (nI i_2) (mapI (hEJ (agI p ss rr) (kl1 ss M k) n_0 n_1)) = some (mapI (putA ((kl1 ss M k).getD n_0 0) i_2 (hEJ (agI p ss rr) (kl1 ss M k) n_0 n_1)))) /\ ((nI (IntKind.wrap .i64 ((n_1 : Int) + 1)) : Value) = nI ((n_1 : Int) + 1) /\ (∃ n_3' : Nat,(n_3' <= n_0) /\ (n_0 - n_3') < (n_0 - n_1) /\ true = true /\ ((nI ((n_1 : Int) + 1) : Value) = nI (n_3' : Int) /\ kl3 k n_0 ss M) /\ ((some (.map (mapI (putA ((kl1 ss M k).getD n_0 0) i_2 (hEJ (agI p ss rr) (kl1 ss M k) n_0 n_1))) : KObj) = some (.map (mapI (hEJ (agI p ss rr) (kl1 ss M k) n_0 n_3')) : KObj) /\ belowO 8 (.map (mapI (hEJ (agI p ss rr) (kl1 ss M k) n_0 n_3')) : KObj) = true) /\ True) /\ klc)))))))) /\ ((agI p ss rr ((kl1 ss M k).getD n_1 0) ((kl1 ss M k).getD n_0 0)) = false -> ((nI (IntKind.wrap .i64 ((n_1 : Int) + 1)) : Value) = nI ((n_1 : Int) + 1) /\ (∃ n_2' : Nat,(n_2' <= n_0) /\ (n_0 - n_2') < (n_0 - n_1) /\ true = true /\ ((nI ((n_1 : Int) + 1) : Value) = nI (n_2' : Int) /\ kl3 k n_0 ss M) /\ ((some (.map (mapI (hEJ (agI p ss rr) (kl1 ss M k) n_0 n_1)) : KObj) = some (.map (mapI (hEJ (agI p ss rr) (kl1 ss M k) n_0 n_2')) : KObj) /\ belowO 8 (.map (mapI (hEJ (agI p ss rr) (kl1 ss M k) n_0 n_2')) : KObj) = true) /\ True) /\ klc)))))))) /\ ((decide (((n_1 : Int) : Int) < (n_0 : Int))) = false -> ((nI (IntKind.wrap .i64 ((n_0 : Int) + 1)) : Value) = nI ((n_0 : Int) + 1) /\ (∃ n_2' : Nat,(n_2' <= List.length (kl1 ss M k)) /\ (List.length (kl1 ss M k) - n_2') < (List.length (kl1 ss M k) - n_0) /\ true = true /\ ((nI ((n_0 : Int) + 1) : Value) = nI (n_2' : Int) /\ kl5 k) /\ ((some (.map (mapI (hEJ (agI p ss rr) (kl1 ss M k) n_0 n_1)) : KObj) = some (.map (mapI (hE (agI p ss rr) (kl1 ss M k) n_2')) : KObj) /\ belowO 8 (.map (mapI (hE (agI p ss rr) (kl1 ss M k) n_2')) : KObj) = true) /\ True) /\ klc))))))))))) /\ ((decide (((n_0 : Int) : Int) < ((k : Nat) : Int))) = false -> (true = true /\ wk (.map (some 7) : Value) (rn (sg 5 [(5,7)]) 3 (.map (some 5) : Value)) /\ ((some (.map (mapI (hE (agI p ss rr) (kl1 ss M k) n_0)) : KObj) = some (.map (mapI (kl2 p ss rr M k)) : KObj) /\ belowO 5 (.map (mapI (kl2 p ss rr M k)) : KObj) = true) /\ True)))))))
abbrev kle (k : Nat) : List Value:=[.pointer (some ⟨2,0,none⟩),slQ 4 2 k]
abbrev kl8 (o1 : Bool) (z1 : Nat) (a : List Bool) (o2 : Bool) (z2 : Nat) (ss : List (Int × Int)) (w : Int) (h : Int) (p : Int) (rr : List (List Int)) (o3 : Bool) (z3 : Nat) (M : List Int):=readsK [.cells o1 z1 (a.flatMap boolC),.cells o2 z2 (ss.flatMap spC),.cells true 0 (kl4 w h a p ss rr),.cells true 1 (inL rr),.cells o3 z3 (M.flatMap intC)]
abbrev kl0 (qn0 : Nat) (qn1 : Nat) : Hint:=.go 0 (.slot qn0 (nI ((qn1 : Int) + 1)) (.go 0 (.again [])))
theorem Ehgts (o1 o2 : Bool) (z1 z2 : Nat) (o3 : Bool) (z3 : Nat) (w h : Int) (a : List Bool) (p : Int) (ss : List (Int × Int)) (rr : List (List Int)) (M : List Int) (k : Nat) : vF prog msk (dm 0) 100000 true 40 true 106 (kle k) (kl8 o1 z1 a o2 z2 ss w h p rr o3 z3 M) (some [])
 (.go 2 (.ans [(4,.cells o3 z3 (M.flatMap intC))] (slQ 6 1 k) [.cells true 1 ((M.take k).flatMap intC)] (.go 2 (.into (some [5,6]) (.go 3 (.answ [(6,.cells true 1 ((M.take k).flatMap intC)),(5,.cells true 0 kld),(2,.cells true 0 (kl4 w h a p ss rr)),(0,.cells o1 z1 (a.flatMap boolC)),(1,.cells o2 z2 (ss.flatMap spC)),(3,.cells true 1 (inL rr))] (.tuple #[]) [(6,.cells true 1 ((kl1 ss M k).flatMap intC))] [] (.keep (.go 4 (.inv 3 (Nat) (0) [] [7] (fun n_0 => [(19,nI (n_0 : Int)),(2,.pointer (some ⟨5,0,none⟩)),(4,.map none),(5,slQ 6 1 k),(6,.map (some 7)),(17,slQ 6 1 k),(18,nI ((k : Nat) : Int))]) (fun n_0 => [(7,true,.map (mapI (hE (agI p ss rr) (kl1 ss M k) n_0)))]) (fun n_0 => []) (fun n_0 => []) (fun n_0 => (n_0 <= List.length (kl1 ss M k))) (fun n_0 => (List.length (kl1 ss M k) - n_0)) (fun n_0 => .go 0 (.fork (.go 0 (.need (.val (nI ((kl1 ss M k).getD n_0 0)) (.go 3 (.mset (mapI (putA ((kl1 ss M k).getD n_0 0) 1 (hE (agI p ss rr) (kl1 ss M k) n_0))) (.go 1 (.need (.slot 28 (slQ 6 2 n_0) (.go 1 (.inv 3 (Nat) (0) [] [7] (fun n_1 => [(30,nI (n_1 : Int)),(18,nI ((k : Nat) : Int)),(17,slQ 6 1 k),(6,.map (some 7)),(5,slQ 6 1 k),(4,.map none),(2,.pointer (some ⟨5,0,none⟩)),(19,nI (n_0 : Int)),(7,nI (n_0 : Int)),(8,nI ((kl1 ss M k).getD n_0 0)),(28,slQ 6 2 n_0),(29,nI (n_0 : Int))]) (fun n_1 => [(7,true,.map (mapI (hEJ (agI p ss rr) (kl1 ss M k) n_0 n_1)))]) (fun n_1 => []) (fun n_1 => []) (fun n_1 => (n_1 <= n_0)) (fun n_1 => (n_0 - n_1)) (fun n_1 => .go 0 (.fork (.need (.val (nI ((kl1 ss M k).getD n_1 0)) (.go 3 (.ans [(2,.cells true 0 (kl4 w h a p ss rr)),(0,.cells o1 z1 (a.flatMap boolC)),(1,.cells o2 z2 (ss.flatMap spC)),(3,.cells true 1 (inL rr))] (.bool (agI p ss rr ((kl1 ss M k).getD n_1 0) ((kl1 ss M k).getD n_0 0))) [] (.fork (.go 3 (.val (nI (getA ((kl1 ss M k).getD n_0 0) 0 (hEJ (agI p ss rr) (kl1 ss M k) n_0 n_1))) (.go 1 (.val (nI (kl6 ss M k n_1 p rr n_0)) (.go 0 (.slot 46 (nI ((kl6 ss M k n_1 p rr n_0) + 1)) (.go 0 (.bind Int (fun i_2 => .slot 47 (nI i_2) (.mset (mapI (putA ((kl1 ss M k).getD n_0 0) i_2 (hEJ (agI p ss rr) (kl1 ss M k) n_0 n_1))) (kl0 48 n_1))))))))))) (kl0 48 n_1)))))) (kl0 49 n_0))))))))))))) (.go 1 (.again [(5,7)])))))))))))))
 (newK ((kl8 o1 z1 a o2 z2 ss w h p rr o3 z3 M) : HT).n 3 (.map (some 5)) [(true,.map (mapI (kl2 p ss rr M k)))]) = Rhgts o1 o2 z1 z2 o3 z3 w h a p ss rr M k:=by kernel_rfl
abbrev kla : Prop:=(nI 0 : Value) = nI 0 /\ (.pointer (some ⟨6,0,none⟩) : Value) = .pointer (some ⟨6,0,none⟩) /\ True
def Rmosts (o1 o2 : Bool) (z1 z2 : Nat) (o3 : Bool) (z3 : Nat) (w h : Int) (a : List Bool) (p : Int) (ss : List (Int × Int)) (rr : List (List Int)) (M : List Int) (k : Nat) : Prop :=
 (((someR (.cells true 0 (kl4 w h a p ss rr))) /\ (someR (.cells o3 z3 (M.flatMap intC))) /\ klb o1 z1 a o2 z2 ss rr) /\ (∀ H' : Heap,H'.length = 5 -> (H'[2]? = some (.cells true 0 (kl4 w h a p ss rr) : KObj) /\ H'[4]? = some (.cells o3 z3 (M.flatMap intC) : KObj) /\ kl9 H' o1 z1 a o2 z2 ss rr) -> KCall prog 106 (kle k) H' [] (Is (.map (some 5)) (H' ++ [(.map (mapI (kl2 p ss rr M k)) : KObj)]))) /\ (true = true /\ (SeenL (kl2 p ss rr M k).length ([] : List Nat)) /\ (true = true /\ ((nI 0 : Value) = nI (maxS (kl2 p ss rr M k) ([] : List Nat)) /\ kla) /\ ((some (.iter 5 (mapI (kl2 p ss rr M k)).length [] : KObj) = some (.iter 5 (mapI (kl2 p ss rr M k)).length ([] : List Nat) : KObj) /\ belowO 7 (.iter 5 (mapI (kl2 p ss rr M k)).length ([] : List Nat) : KObj) = true) /\ True) /\ klc) /\ (∀ x1 : List Nat,true = true) /\ ∀ x1 : List Nat,(SeenL (kl2 p ss rr M k).length x1) -> ((List.length (mapI (kl2 p ss rr M k)) = (mapI (kl2 p ss rr M k)).length) /\ (∀ n_0 : Nat,n_0 < (mapI (kl2 p ss rr M k)).length -> n_0 ∉ x1 -> ((List.length (mapI (kl2 p ss rr M k)) = (mapI (kl2 p ss rr M k)).length) /\ (entryE (mapI (kl2 p ss rr M k)) (x1 ++ [n_0]) = some (.tuple #[nI ((kl2 p ss rr M k).getD n_0 (0,0)).1,nI ((kl2 p ss rr M k).getD n_0 (0,0)).2])) /\ (∃ i_1 : Int,(nI (if (((kl2 p ss rr M k).getD n_0 (0,0)).2 : Int) > (maxS (kl2 p ss rr M k) x1) then (((kl2 p ss rr M k).getD n_0 (0,0)).2 : Int) else (maxS (kl2 p ss rr M k) x1)) : Value) = nI i_1 /\ (∃ x1' : List Nat,(SeenL (kl2 p ss rr M k).length x1') /\ (List.length (kl2 p ss rr M k) - List.length x1') < (List.length (kl2 p ss rr M k) - List.length x1) /\ true = true /\ ((nI i_1 : Value) = nI (maxS (kl2 p ss rr M k) x1') /\ kla) /\ ((some (.iter 5 (mapI (kl2 p ss rr M k)).length (x1 ++ [n_0]) : KObj) = some (.iter 5 (mapI (kl2 p ss rr M k)).length x1' : KObj) /\ belowO 7 (.iter 5 (mapI (kl2 p ss rr M k)).length x1' : KObj) = true) /\ True) /\ klc)))) /\ ((∀ n_0 : Nat,n_0 < (mapI (kl2 p ss rr M k)).length -> n_0 ∈ x1) -> (true = true /\ wk (nI (maxS (kl2 p ss rr M k) x1) : Value) (rn (sg 5 []) 3 (nI (mst (agI p ss rr) (kyI ss) (M.take k)) : Value)) /\ (True))))))
theorem Emosts (o1 o2 : Bool) (z1 z2 : Nat) (o3 : Bool) (z3 : Nat) (w h : Int) (a : List Bool) (p : Int) (ss : List (Int × Int)) (rr : List (List Int)) (M : List Int) (k : Nat) : vF prog msk (dm 0) 100000 true 40 true 83 (kle k) (kl8 o1 z1 a o2 z2 ss w h p rr o3 z3 M) (some [])
 (.go 3 (.ans [(2,.cells true 0 (kl4 w h a p ss rr)),(4,.cells o3 z3 (M.flatMap intC)),(0,.cells o1 z1 (a.flatMap boolC)),(1,.cells o2 z2 (ss.flatMap spC)),(3,.cells true 1 (inL rr))] (.map (some 5)) [.map (mapI (kl2 p ss rr M k))] (.go 0 (.inv 3 (List Nat) (([] : List Nat)) [] [6] (fun x1 => [(5,nI (maxS (kl2 p ss rr M k) x1)),(4,nI 0),(11,.pointer (some ⟨6,0,none⟩))]) (fun x1 => [(6,true,.iter 5 (mapI (kl2 p ss rr M k)).length x1)]) (fun x1 => []) (fun x1 => []) (fun x1 => (SeenL (kl2 p ss rr M k).length x1)) (fun x1 => (List.length (kl2 p ss rr M k) - List.length x1)) (fun x1 => .nxt (fun n_0 => .go 1 (.val (.tuple #[nI ((kl2 p ss rr M k).getD n_0 (0,0)).1,nI ((kl2 p ss rr M k).getD n_0 (0,0)).2]) (.go 4 (.bind Int (fun i_1 => .slot 18 (nI i_1) (.go 0 (.again []))))))) (.go 3 (.again [])))))))
 (newK ((kl8 o1 z1 a o2 z2 ss w h p rr o3 z3 M) : HT).n 3 (nI (mst (agI p ss rr) (kyI ss) (M.take k))) []) = Rmosts o1 o2 z1 z2 o3 z3 w h a p ss rr M k:=by kernel_rfl
end
end Go.Proofs.YtbgfjemppjhmjaaGreat
/- Radio: heights of sightings, and the greatest one. No condition. -/
namespace Go.Proofs.YtbgfjemppjhmjaaGreat
open Go Go.K
set_option maxRecDepth 100000
set_option linter.unusedVariables false
set_option linter.unusedSimpArgs false
noncomputable section
attribute [local irreducible] vF
theorem wk_ofR {id o l c : Nat} (hp : 0 < l) : wk (.slice (some ⟨id, o, some 2⟩) l c) (.slice (some ⟨id, o, none⟩) l c) := by
 intro ρ v hv
 cases hv with
 | sliceRe => omega
 | sliceR h _ hl hc ho => exact .slice h hl hc ho
theorem one1_I {M : List Int} : ∀ v ∈ M.flatMap intC, one1 v = true := by
 intro v hv
 obtain ⟨x, _, hx⟩ := List.mem_flatMap.1 hv
 rw [List.mem_singleton.1 hx]; rfl
theorem takeI : ∀ (M : List Int) (k : Nat), (M.flatMap intC).take k = (M.take k).flatMap intC
 | [], k => by simp
 | a :: M, 0 => rfl
 | a :: M, k + 1 => by rw [List.flatMap_cons, List.take_succ_cons, List.flatMap_cons, <- takeI M k]; rfl
theorem kCloneI (M : List Int) (k : Nat) (h0 : 0 < k) (hk : k <= M.length) (hM : M.length <= 1000) {H : Heap} {L : Nat} (hL : H.length = L) {i : Nat} {o : Bool} {z : Nat} (e : H[i]? = some (.cells o z (M.flatMap intC))) :
  KCall prog 85 [slQ i 2 k] H [] (Is (slQ L 1 k) (H ++ [.cells true 1 ((M.take k).flatMap intC)])) := by
 subst hL
 refine KCall.wkA (args2 := [.slice (some ⟨i, 0, none⟩) k k]) (valQ (fun i => slQ i 1 k) (Eq.mpr (EclI M k) ?_) (plainIL 0 M) (fun n => plainIL n _) rfl rfl (fun _ => rfl) e rfl) (wks_cons (wk_ofR h0) wks_nil)
 delta RclI kl7
 refine ⟨fun h => absurd h (by omega), fun h => ⟨⟨by omega, h, ⟨Nat.le_refl _, Nat.zero_le _⟩, ⟨Nat.le_refl _, by rw [flat_len intC_len]; omega⟩, ?_⟩, rfl, rfl, ?_, ⟨?_, plainIL _ _⟩, trivial⟩⟩
 ·rw [List.drop_zero, Nat.mul_one, takeI, List.all_eq_true]
  exact one1_I
 ·rw [Nat.zero_add]; exact wk_Q h0
 ·rw [show List.take (k * 1) (List.drop 0 (M.flatMap intC)) = (M.take k).flatMap intC by rw [List.drop_zero, Nat.mul_one, takeI]]; rfl
theorem keqI (a b : Int) : keqIn prog Op.maxDepth 3 (.int .i64 a) (.int .i64 b) = some (decide (a = b)) := by
 show some (a == b) = _
 congr 1
theorem eqI (a : Int) : keyEq (.int .i64 a) (.int .i64 a) = true := by show (a == a) = true; exact beq_self_eq_true a
theorem lookZ (F : List (Int × Int)) (x : Int) : klookE prog 3 (.int .i64 0) (.int .i64 x) false (mapI F) = some (.int .i64 (getA x 0 F)) :=
 look_A (key := fun k : Int => .int .i64 k) (val := fun v : Int => .int .i64 v) keqI x 0 rfl false F
theorem setZ (F : List (Int × Int)) (x v : Int) : ksetE prog 3 (.int .i64 x) (.int .i64 v) (mapI F) = some (mapI (putA x v F)) :=
 set_A (key := fun k : Int => .int .i64 k) (val := fun v : Int => .int .i64 v) keqI eqI x v F
theorem mapI_below (F : List (Int × Int)) (n : Nat) : belowO n (.map (mapI F)) = true := by
 show (mapI F).all _ = true
 unfold mapI encA
 rw [List.all_map, List.all_eq_true]
 intro m _; rfl
theorem mapI_rno (F : List (Int × Int)) (σ : Nat -> Option Nat) : rno σ 3 (.map (mapI F)) = .map (mapI F) := by
 show KObj.map ((mapI F).map _) = _
 congr 1
 unfold mapI encA
 simp only [List.map_map]
 exact List.map_congr_left fun m _ => rfl
theorem mapI_ok (F : List (Int × Int)) : rnoOk 3 (.map (mapI F)) = true := by
 show (mapI F).all _ = true
 unfold mapI encA
 rw [List.all_map, List.all_eq_true]
 intro m _; rfl
theorem mapI_len (F : List (Int × Int)) : (mapI F).length = F.length := encA_len ..
theorem srtK_perm (ss : List (Int × Int)) (L : List Int) : (isr (kyI ss) L L.length).Perm L := isr_all _ _
theorem hvHgts {o1 o2 : Bool} {z1 z2 : Nat} {o3 : Bool} {z3 : Nat} {w h : Int} {a : List Bool} {p : Int} {ss : List (Int × Int)} {rr : List (List Int)} {M : List Int} {k : Nat} (t : TrOk w h a p ss) (rk : RowsOk a ss rr) (h0 : 0 < k) (hk : k <= M.length) (hM : M.length <= 1000) (h19 : k <= 19) (hin : InS ss.length (M.take k)) (hnd : (M.take k).Nodup) : Rhgts o1 o2 z1 z2 o3 z3 w h a p ss rr M k := by
 have hl : (M.take k).length = k := take_len hk
 have hp := srtK_perm ss (M.take k)
 have hsl : (isr (kyI ss) (M.take k) (M.take k).length).length = k := by rw [isr_len, hl]
 have hsn : (isr (kyI ss) (M.take k) (M.take k).length).Nodup := hp.nodup_iff.2 hnd
 have hsi : InS ss.length (isr (kyI ss) (M.take k) (M.take k).length) := fun v hv => hin v (hp.mem_iff.1 hv)
 delta Rhgts kl7 kld kl4 klb kl9 kl1 kl5 klc kl3 kl6 kl2
 refine ⟨⟨rfl, trivial⟩, fun H' hl' g => kCloneI M k h0 hk hM hl' g.1, ⟨rfl, rfl, rfl, rfl, rfl, rfl, trivial⟩, fun H' hl' g => ?_, ?_⟩
 ·have key := kStab (M := M.take k) t hin (by omega) (D := 6) (b := 5) (r := 2) (i := 0) (j := 1) (q := 3) g.1 ⟨by decide, ⟨_, _, g.2.1⟩, ⟨_, _, g.2.2.1⟩, ⟨_, _, g.2.2.2.1⟩, ⟨_, _, g.2.2.2.2.1⟩, ⟨_, _, g.2.2.2.2.2.1⟩⟩
  rw [hl] at key ⊢
  exact key.wkA ⟨wk_QR, wk_refl _, wk_refl _, trivial⟩
 ·generalize hS : isr (kyI ss) (M.take k) (M.take k).length = S at *
  refine ⟨rfl, Nat.zero_le _, ?_, fun _ => rfl, fun x hx => ⟨fun c => ?_, fun c => ?_⟩⟩
  ·rw [show (hE (agI p ss rr) S 0) = [] from rfl]
   repeat' first | exact mapI_below _ _ | exact rfl | exact wk_refl _ | exact wks_nil | apply And.intro
  ·have hx1 : x < S.length := by have := of_decide_eq_true c; omega
   have hSx := hsi.at hx1
   refine ⟨⟨by omega, by omega⟩, intAt hx1 (by omega), setZ _ _ _, ⟨⟨.inr (.inr rfl), by omega⟩, ⟨by omega, by omega⟩, by omega⟩, ?_, rfl, Nat.zero_le _, ?_, fun _ => rfl, fun y hy => ⟨fun d => ?_, fun d => ?_⟩⟩
   ·rw [Nat.sub_zero, Int.toNat_natCast]
   ·rw [hE_put hsn hx1]
    repeat' first | exact mapI_below _ _ | exact rfl | exact wk_refl _ | exact wks_nil | apply And.intro
   ·have hy1 : y < x := by have := of_decide_eq_true d; omega
    have hSy := hsi.at (show y < S.length by omega)
    have hb := hgt_bd (agI p ss rr) S y
    refine ⟨⟨by omega, by omega⟩, intAt (by omega) (by omega), ⟨rfl, rfl, rfl, rfl, trivial⟩, fun H' _ g => kAgC t rk hSy hSx ⟨_, _, g.1⟩ ⟨_, _, g.2.1⟩ ⟨_, _, g.2.2.1⟩ ⟨_, _, g.2.2.2.1⟩, fun e => ?_, fun e => ?_⟩
    ·have v1 := hgV_1 hy1 e
     rw [hEJ_own hsn hx1, hEJ_get hsn hx1 hy1]
     refine ⟨by rw [<- hEJ_own (y := y) hsn hx1 (agr := agI p ss rr)]; exact lookZ _ _, by rw [<- hEJ_get (z := y) hsn hx1 hy1 (agr := agI p ss rr)]; exact lookZ _ _, vI64 (by omega), mxI (hgV (agI p ss rr) S (hgs (agI p ss rr) S x) x y) (hgt (agI p ss rr) S y + 1), rfl, setZ _ _ _, vI64 (by omega), y + 1, by omega, by omega, ?_⟩
     rw [hEJ_put hsn hx1 (v := mxI (hgV (agI p ss rr) S (hgs (agI p ss rr) S x) x y) (hgt (agI p ss rr) S y + 1)) v1]
     repeat' first | exact mapI_below _ _ | exact rfl | exact wk_refl _ | exact wks_nil | apply And.intro
    ·have v0 := hgV_0 (agr := agI p ss rr) (s := S) (x := x) (y := y) (by rw [e]; decide)
     have e0 : hEJ (agI p ss rr) S x (y + 1) = hEJ (agI p ss rr) S x y := by unfold hEJ; rw [v0]
     refine ⟨vI64 (by omega), y + 1, by omega, by omega, ?_⟩
     rw [e0]
     repeat' first | exact mapI_below _ _ | exact rfl | exact wk_refl _ | exact wks_nil | apply And.intro
   ·obtain rfl : y = x := by have := of_decide_eq_false d; omega
    refine ⟨vI64 (by omega), y + 1, by omega, by omega, ?_⟩
    rw [hEJ_end]
    repeat' first | exact mapI_below _ _ | exact rfl | exact wk_refl _ | exact wks_nil | apply And.intro
  ·obtain rfl : x = S.length := by have := of_decide_eq_false c; omega
   repeat' first | exact mapI_below _ _ | exact rfl | exact wk_refl _ | exact wks_nil | apply And.intro
theorem hgts_ok (o1 o2 : Bool) (z1 z2 : Nat) (w h : Int) (a : List Bool) (p : Int) (ss : List (Int × Int)) (rr : List (List Int)) (o3 : Bool) (z3 : Nat) (M : List Int) : [KObj.cells o1 z1 (a.flatMap boolC), .cells o2 z2 (ss.flatMap spC), .cells true 0 (wkCs w h a p ss rr 0 1 3), .cells true 1 (inL rr), .cells o3 z3 (M.flatMap intC)].all (rnoOk 3) = true := by
 show (rnoOk 3 (.cells o1 z1 (a.flatMap boolC)) && (rnoOk 3 (.cells o2 z2 (ss.flatMap spC)) && (rnoOk 3 (.cells true 0 (wkCs w h a p ss rr 0 1 3)) && (rnoOk 3 (.cells true 1 (inL rr)) && (rnoOk 3 (.cells o3 z3 (M.flatMap intC)) && true))))) = true
 rw [boolRok, spRok, inLRok, intRok]; rfl
theorem WkAt.objs5 {H : Heap} {o1 o2 : Bool} {z1 z2 : Nat} {w h : Int} {a : List Bool} {p : Int} {ss : List (Int × Int)} {rr : List (List Int)} {i j r q l : Nat} {o3 : Bool} {z3 : Nat} {M : List Int} (k : WkAt H o1 o2 z1 z2 w h a p ss rr i j r q) (hl : H[l]? = some (.cells o3 z3 (M.flatMap intC))) :
  objsAt H (sgI [i, j, r, q, l]) [i, j, r, q, l] [.cells o1 z1 (a.flatMap boolC), .cells o2 z2 (ss.flatMap spC), .cells true 0 (wkCs w h a p ss rr 0 1 3), .cells true 1 (inL rr), .cells o3 z3 (M.flatMap intC)] :=
 ⟨by rw [boolRno]; exact k.2.1, by rw [spRno]; exact k.2.2.1, k.2.2.2.1, by rw [inLRno]; exact k.2.2.2.2, by rw [intRno]; exact hl, trivial⟩
theorem kHgts {w h : Int} {a : List Bool} {p : Int} {ss : List (Int × Int)} {rr : List (List Int)} {M : List Int} {k : Nat} (t : TrOk w h a p ss) (rk : RowsOk a ss rr) (h0 : 0 < k) (hk : k <= M.length) (hM : M.length <= 1000) (h19 : k <= 19) (hin : InS ss.length (M.take k)) (hnd : (M.take k).Nodup) {H : Heap} {o1 o2 : Bool} {z1 z2 i j r q l : Nat} {o3 : Bool} {z3 : Nat} (kk : WkAt H o1 o2 z1 z2 w h a p ss rr i j r q) (hl : H[l]? = some (.cells o3 z3 (M.flatMap intC))) (hne : l ∉ [i, j, r, q]) :
  KCall prog 106 [.pointer (some ⟨r, 0, none⟩), slQ l 2 k] H [] (Is (.map (some H.length)) (H ++ [.map (mapI (hE (agI p ss rr) (isr (kyI ss) (M.take k) (M.take k).length) (isr (kyI ss) (M.take k) (M.take k).length).length))])) := by
 have hnd5 : [i, j, r, q, l].Nodup := by
  have := kk.1
  simp only [List.nodup_cons, List.mem_cons, List.not_mem_nil, or_false, not_or, not_false_eq_true, List.nodup_nil, and_true] at this hne ⊢
  omega
 have key := vcK mskOk mixed glob0 40 (v := .map (some 5)) (new := [(true, .map (mapI (hE (agI p ss rr) (isr (kyI ss) (M.take k) (M.take k).length) (isr (kyI ss) (M.take k) (M.take k).length).length)))]) (Eq.mpr (Ehgts o1 o2 z1 z2 o3 z3 w h a p ss rr M k) (hvHgts t rk h0 hk hM h19 hin hnd)) (hgts_ok ..) rfl
  (by show ((rnoOk 3 _ && true) && true) = true; rw [mapI_ok]; rfl) hnd5 (kk.objs5 hl)
 rw [show ([(true, KObj.map (mapI (hE (agI p ss rr) (isr (kyI ss) (M.take k) (M.take k).length) (isr (kyI ss) (M.take k) (M.take k).length).length)))] : List (Bool × KObj)).map (·.2) = [KObj.map (mapI (hE (agI p ss rr) (isr (kyI ss) (M.take k) (M.take k).length) (isr (kyI ss) (M.take k) (M.take k).length).length))] from rfl, List.map_singleton, mapI_rno] at key
 exact key
theorem hvMosts {o1 o2 : Bool} {z1 z2 : Nat} {o3 : Bool} {z3 : Nat} {w h : Int} {a : List Bool} {p : Int} {ss : List (Int × Int)} {rr : List (List Int)} {M : List Int} {k : Nat} (t : TrOk w h a p ss) (rk : RowsOk a ss rr) (h0 : 0 < k) (hk : k <= M.length) (hM : M.length <= 1000) (h19 : k <= 19) (hin : InS ss.length (M.take k)) (hnd : (M.take k).Nodup) : Rmosts o1 o2 z1 z2 o3 z3 w h a p ss rr M k := by
 delta Rmosts kl4 klb kl9 kle kl1 kl2 kla klc
 refine ⟨⟨rfl, rfl, rfl, rfl, rfl, trivial⟩, fun H' hl' g => ?_, ?_⟩
 ·have key := kHgts t rk h0 hk hM h19 hin hnd (i := 0) (j := 1) (r := 2) (q := 3) (l := 4) ⟨by decide, g.2.2.1, g.2.2.2.1, g.1, g.2.2.2.2.1⟩ g.2.1 (by decide)
  rw [hl'] at key; exact key
 ·have hmx : maxI (hE (agI p ss rr) (isr (kyI ss) (M.take k) (M.take k).length) (isr (kyI ss) (M.take k) (M.take k).length).length) = mst (agI p ss rr) (kyI ss) (M.take k) := hE_mx _ _
  generalize (hE (agI p ss rr) (isr (kyI ss) (M.take k) (M.take k).length) (isr (kyI ss) (M.take k) (M.take k).length).length) = E at *
  refine ⟨rfl, seenL_0 _, ?_, fun _ => rfl, fun x hx => ⟨rfl, fun i hi hn => ⟨rfl, entI _ (by rwa [mapI_len] at hi) x, _, rfl, x ++ [i], seenL_snoc hx (by rwa [mapI_len] at hi) hn, seenL_more hx (by rwa [mapI_len] at hi) hn, rfl, ?_⟩, fun hall => ?_⟩⟩
  ·repeat' first | exact rfl | exact wk_refl _ | exact wks_nil | apply And.intro
  ·rw [maxS_snoc]
   repeat' first | exact rfl | exact wk_refl _ | exact wks_nil | apply And.intro
  ·rw [maxS_all hx (fun i hi => hall i (by rwa [mapI_len])) hmx]
   repeat' first | exact rfl | exact wk_refl _ | exact wks_nil | apply And.intro
theorem kMosts {w h : Int} {a : List Bool} {p : Int} {ss : List (Int × Int)} {rr : List (List Int)} {M : List Int} {k : Nat} (t : TrOk w h a p ss) (rk : RowsOk a ss rr) (h0 : 0 < k) (hk : k <= M.length) (hM : M.length <= 1000) (h19 : k <= 19) (hin : InS ss.length (M.take k)) (hnd : (M.take k).Nodup) {H : Heap} {o1 o2 : Bool} {z1 z2 i j r q l : Nat} {o3 : Bool} {z3 : Nat} (kk : WkAt H o1 o2 z1 z2 w h a p ss rr i j r q) (hl : H[l]? = some (.cells o3 z3 (M.flatMap intC))) (hne : l ∉ [i, j, r, q]) :
  KCall prog 83 [.pointer (some ⟨r, 0, none⟩), slQ l 2 k] H [] (Is (.int .i64 (mst (agI p ss rr) (kyI ss) (M.take k))) H) := by
 have hnd5 : [i, j, r, q, l].Nodup := by
  have := kk.1
  simp only [List.nodup_cons, List.mem_cons, List.not_mem_nil, or_false, not_or, not_false_eq_true, List.nodup_nil, and_true] at this hne ⊢
  omega
 have key := valKs (fun _ => .int .i64 (mst (agI p ss rr) (kyI ss) (M.take k))) (new := []) (Eq.mpr (Emosts o1 o2 z1 z2 o3 z3 w h a p ss rr M k) (hvMosts t rk h0 hk hM h19 hin hnd)) (hgts_ok ..) rfl trivial hnd5 (kk.objs5 hl) (fun j => rfl) (args' := [.pointer (some ⟨r, 0, none⟩), slQ l 2 k]) rfl
 rwa [List.append_nil] at key
end
end Go.Proofs.YtbgfjemppjhmjaaGreat
/- What is to be shown of functions. Printed by a program. No condition. -/
namespace Go.Proofs.YtbgfjemppjhmjaaGreat
set_option linter.unusedSimpArgs false
open Go Go.K
set_option maxRecDepth 100000
set_option maxHeartbeats 4000000
set_option linter.unusedVariables false
noncomputable section
abbrev knm (a : List Bool):=a.flatMap boolC
abbrev kn3 (w : Int) (h : Int) (a : List Bool) (p : Int) (ss : List (Int × Int)) : List Value:=[nI w,nI h,slQ 0 2 a.length,nI p,slQ 1 2 ss.length,slQ 4 1 (rowT w h a ss ss.length).length]
abbrev knb (o1 : Bool) (z1 : Nat) (a : List Bool) (o2 : Bool) (z2 : Nat) (ss : List (Int × Int)) (w : Int) (h : Int) : Prop:=(someR (.cells o1 z1 (knm a))) /\ (someR (.cells o2 z2 (ss.flatMap spC))) /\ (someR (.cells true 1 (inL (rowT w h a ss ss.length)))) /\ True
abbrev kn8 (H' : Heap) (o1 : Bool) (z1 : Nat) (a : List Bool) (o2 : Bool) (z2 : Nat) (ss : List (Int × Int)) (w : Int) (h : Int) : Prop:=H'[0]? = some (.cells o1 z1 (knm a) : KObj) /\ H'[1]? = some (.cells o2 z2 (ss.flatMap spC) : KObj) /\ H'[4]? = some (.cells true 1 (inL (rowT w h a ss ss.length)) : KObj) /\ True
abbrev kni : List Value:=[.pointer (some ⟨3,0,none⟩)]
abbrev knk (ss : List (Int × Int)) : KObj:=.cells true 1 ((allL ss.length).flatMap intC)
abbrev kn4 (p : Int) (ss : List (Int × Int)) (w : Int) (h : Int) (a : List Bool):=agI p ss (rowT w h a ss ss.length)
abbrev kng (p : Int) (ss : List (Int × Int)) (w : Int) (h : Int) (a : List Bool):=mst (kn4 p ss w h a) (kyI ss) (allL ss.length)
abbrev knl (p : Int) (ss : List (Int × Int)) (w : Int) (h : Int) (a : List Bool):=trS (kn4 p ss w h a) (kyI ss) ss.length (0,allL ss.length).1
abbrev kn0 (p : Int) (ss : List (Int × Int)) (w : Int) (h : Int) (a : List Bool) (x3 : Nat × List Int):=trS (kn4 p ss w h a) (kyI ss) ss.length x3.1
abbrev kn5 (x3 : Nat × List Int) : Int:=(x3.1 : Nat)
abbrev knj (x3 : Nat × List Int):=someR (.cells true 1 (x3.2.flatMap intC))
abbrev kne (p : Int) (ss : List (Int × Int)) (w : Int) (h : Int) (a : List Bool) (x3 : Nat × List Int):=keepP (agI p ss (rowT w h a ss ss.length) (kn5 x3)) (kn0 p ss w h a x3).1 (List.length (kn0 p ss w h a x3).1)
abbrev kn9 (p : Int) (ss : List (Int × Int)) (w : Int) (h : Int) (a : List Bool) (x3 : Nat × List Int):=delP (agI p ss (rowT w h a ss ss.length) (kn5 x3)) (kn0 p ss w h a x3).1 (List.length (kn0 p ss w h a x3).1)
abbrev kn1 (p : Int) (ss : List (Int × Int)) (w : Int) (h : Int) (a : List Bool) (x3 : Nat × List Int):=mst (kn4 p ss w h a) (kyI ss) (kne p ss w h a x3)
abbrev kn6 (p : Int) (ss : List (Int × Int)) (w : Int) (h : Int) (a : List Bool) (x3 : Nat × List Int) : Prop:=((List.length (kn0 p ss w h a x3).2) + 1) * 1 <= 2 ^ 44 /\ 1 ≠ 0 /\ ((List.length (kn0 p ss w h a x3).2) <= (List.length (kn0 p ss w h a x3).2) /\ 0 + (List.length (kn0 p ss w h a x3).2) * 1 <= List.length (((kn0 p ss w h a x3).2).flatMap boolC)) /\ (1 <= 1 /\ 0 + 1 * 1 <= List.length ([.bool (((kn1 p ss w h a x3) : Int) == (kng p ss w h a))] : List Value)) /\ (((([.bool (((kn1 p ss w h a x3) : Int) == (kng p ss w h a))] : List Value).drop 0).take (1 * 1)) : List Value).all (fun v => one1 v) = true
abbrev knn (x3 : Nat × List Int) : Value:=nI (IntKind.wrap .i64 ((kn5 x3) + 1))
abbrev knc (x3' : Nat × List Int) (ss : List (Int × Int)) (p : Int) (w : Int) (h : Int) (a : List Bool) : Prop:=x3'.1 <= List.length ss /\ List.take (List.length (trS (kn4 p ss w h a) (kyI ss) ss.length x3'.1).1) x3'.2 = (trS (kn4 p ss w h a) (kyI ss) ss.length x3'.1).1 /\ List.length x3'.2 <= List.length ss
abbrev kn2 (p : Int) (ss : List (Int × Int)) (w : Int) (h : Int) (a : List Bool) (x3 : Nat × List Int) (x3' : Nat × List Int) : Prop:=wk (.slice (some ⟨12,0,none⟩) ((List.length (kn0 p ss w h a x3).2) + 1) ((List.length (kn0 p ss w h a x3).2) + 1) : Value) (slQ 12 1 (List.length (trS (kn4 p ss w h a) (kyI ss) ss.length x3'.1).2) : Value) /\ (.slice none 0 0 : Value) = .slice none 0 0 /\ (nI 0 : Value) = nI 0 /\ (.pointer (some ⟨5,0,none⟩) : Value) = .pointer (some ⟨5,0,none⟩) /\ (nI (kng p ss w h a) : Value) = nI (kng p ss w h a) /\ (nI ((ss.length : Nat) : Int) : Value) = nI ((ss.length : Nat) : Int) /\ True
abbrev knf (x3' : Nat × List Int) : KObj:=.cells true 1 (x3'.2.flatMap intC)
abbrev kna (p : Int) (ss : List (Int × Int)) (w : Int) (h : Int) (a : List Bool) (x3 : Nat × List Int) (x3' : Nat × List Int) : Prop:=(some (.cells true 1 ((((((kn0 p ss w h a x3).2).flatMap boolC).drop 0).take ((List.length (kn0 p ss w h a x3).2) * 1)) ++ ((([.bool (((kn1 p ss w h a x3) : Int) == (kng p ss w h a))] : List Value).drop 0).take (1 * 1))) : KObj) = some (.cells true 1 (((trS (kn4 p ss w h a) (kyI ss) ss.length x3'.1).2).flatMap boolC) : KObj) /\ belowO 7 (.cells true 1 (((trS (kn4 p ss w h a) (kyI ss) ss.length x3'.1).2).flatMap boolC) : KObj) = true) /\ True
abbrev kn7 (x3 : Nat × List Int) (p : Int) (ss : List (Int × Int)) (w : Int) (h : Int) (a : List Bool) : Prop:=∀ H' : Heap,H'.length = 11 -> (H'[7]? = some (.cells true 1 (x3.2.flatMap intC) : KObj) /\ H'[9]? = some (.cells true 0 [nI (kn5 x3)] : KObj) /\ True) -> KCall prog 84 [slQ 7 2 (List.length (kn0 p ss w h a x3).1),.func (.func 89) #[] #[.pointer (some ⟨9,0,none⟩)]] H' [7] (Is (slQ 7 2 (keepP (qNe (kn5 x3)) x3.2 (List.length (kn0 p ss w h a x3).1)).length) (List.set H' 7 (.cells true 1 ((delP (qNe (kn5 x3)) x3.2 (List.length (kn0 p ss w h a x3).1)).flatMap intC) : KObj)))
abbrev knh (x3 : Nat × List Int) (x3' : Nat × List Int) (p : Int) (ss : List (Int × Int)) (w : Int) (h : Int) (a : List Bool) : Prop:=(nI ((kn5 x3) + 1) : Value) = nI ((x3'.1 : Nat) : Int) /\ wk (slQ 7 2 (keepP (qNe (kn5 x3)) x3.2 (List.length (kn0 p ss w h a x3).1)).length : Value) (slQ 7 2 (List.length (trS (kn4 p ss w h a) (kyI ss) ss.length x3'.1).1) : Value) /\ kn2 p ss w h a x3 x3'
abbrev kno : List Value:=[.bool false]
def Rtrust (o1 o2 : Bool) (z1 z2 : Nat) (w h : Int) (a : List Bool) (p : Int) (ss : List (Int × Int)) : Prop :=
 (((someR (.cells o1 z1 (knm a))) /\ (someR (.cells o2 z2 (ss.flatMap spC))) /\ True) /\ (∀ H' : Heap,H'.length = 3 -> (H'[0]? = some (.cells o1 z1 (knm a) : KObj) /\ H'[1]? = some (.cells o2 z2 (ss.flatMap spC) : KObj) /\ True) -> KCall prog 72 [.agg #[nI w,nI h,slQ 0 2 a.length,nI p,slQ 1 2 ss.length]] H' [] (Is (.tuple #[.pointer (some ⟨3,0,none⟩),nI 0]) (H' ++ [(.cells true 0 (kn3 w h a p ss) : KObj),(.cells true 1 (inL (rowT w h a ss ss.length)) : KObj)]))) /\ (((someR (.cells true 0 (kn3 w h a p ss))) /\ knb o1 z1 a o2 z2 ss w h) /\ (∀ H' : Heap,H'.length = 6 -> (H'[3]? = some (.cells true 0 (kn3 w h a p ss) : KObj) /\ kn8 H' o1 z1 a o2 z2 ss w h) -> KCall prog 77 kni H' [] (Is (slQ 6 1 (allL ss.length).length) (H' ++ [(knk ss)]))) /\ (((someR (.cells true 0 (kn3 w h a p ss))) /\ (someR (.cells true 1 ((allL ss.length).flatMap intC))) /\ knb o1 z1 a o2 z2 ss w h) /\ (∀ H' : Heap,H'.length = 7 -> (H'[3]? = some (.cells true 0 (kn3 w h a p ss) : KObj) /\ H'[6]? = some (knk ss) /\ kn8 H' o1 z1 a o2 z2 ss w h) -> KCall prog 83 [.pointer (some ⟨3,0,none⟩),slQ 6 1 (allL ss.length).length] H' [] (Is (nI (kng p ss w h a)) H')) /\ (true = true /\ ((0,allL ss.length).1 <= List.length ss /\ List.take (List.length (knl p ss w h a).1) (0,allL ss.length).2 = (knl p ss w h a).1 /\ List.length (0,allL ss.length).2 <= List.length ss) /\ (true = true /\ ((nI 0 : Value) = nI (((0,allL ss.length).1 : Nat) : Int) /\ wk (slQ 6 1 (allL ss.length).length : Value) (slQ 6 2 (List.length (knl p ss w h a).1) : Value) /\ wk (.slice none 0 0 : Value) (slQ 0 1 (List.length (knl p ss w h a).2) : Value) /\ (.slice none 0 0 : Value) = .slice none 0 0 /\ (nI 0 : Value) = nI 0 /\ (.pointer (some ⟨5,0,none⟩) : Value) = .pointer (some ⟨5,0,none⟩) /\ (nI (kng p ss w h a) : Value) = nI (kng p ss w h a) /\ (nI ((ss.length : Nat) : Int) : Value) = nI ((ss.length : Nat) : Int) /\ True) /\ (True /\ True) /\ ((some (knk ss) = some (.cells true 1 (List.flatMap intC (0,allL ss.length).2) : KObj) /\ belowO 7 (.cells true 1 (List.flatMap intC (0,allL ss.length).2) : KObj) = true) /\ True /\ True) /\ (True)) /\ (∀ x3 : Nat × List Int,true = true) /\ ∀ x3 : Nat × List Int,(x3.1 <= List.length ss /\ List.take (List.length (kn0 p ss w h a x3).1) x3.2 = (kn0 p ss w h a x3).1 /\ List.length x3.2 <= List.length ss) -> (((decide (((kn5 x3) : Int) < ((ss.length : Nat) : Int))) = true -> (((knj x3) /\ True) /\ (∀ H' : Heap,H'.length = 10 -> (H'[7]? = some (.cells true 1 (x3.2.flatMap intC) : KObj) /\ True) -> KCall prog 85 [slQ 7 2 (List.length (kn0 p ss w h a x3).1)] H' [] (Is (slQ 10 1 (List.length (kn0 p ss w h a x3).1)) (H' ++ [(.cells true 1 (List.flatMap intC (kn0 p ss w h a x3).1) : KObj)]))) /\ (((someR (.cells true 1 (List.flatMap intC (kn0 p ss w h a x3).1))) /\ (someR (.cells true 0 kni)) /\ (someR (.cells true 0 [nI (kn5 x3)])) /\ (someR (.cells true 0 (kn3 w h a p ss))) /\ knb o1 z1 a o2 z2 ss w h) /\ (∀ H' : Heap,H'.length = 11 -> (H'[10]? = some (.cells true 1 (List.flatMap intC (kn0 p ss w h a x3).1) : KObj) /\ H'[5]? = some (.cells true 0 kni : KObj) /\ H'[9]? = some (.cells true 0 [nI (kn5 x3)] : KObj) /\ H'[3]? = some (.cells true 0 (kn3 w h a p ss) : KObj) /\ kn8 H' o1 z1 a o2 z2 ss w h) -> KCall prog 84 [slQ 10 1 (List.length (kn0 p ss w h a x3).1),.func (.func 86) #[] #[.pointer (some ⟨5,0,none⟩),.pointer (some ⟨9,0,none⟩)]] H' [10] (Is (slQ 10 2 (kne p ss w h a x3).length) (List.set H' 10 (.cells true 1 ((kn9 p ss w h a x3).flatMap intC) : KObj)))) /\ (((knj x3) /\ True) /\ (∀ H' : Heap,H'.length = 11 -> (H'[7]? = some (.cells true 1 (x3.2.flatMap intC) : KObj) /\ True) -> KCall prog 88 [slQ 7 2 (List.length (kn0 p ss w h a x3).1),nI (kn5 x3)] H' [] (Is (.bool (List.any (kn0 p ss w h a x3).1 (fun v => v == (kn5 x3)))) H')) /\ (((List.any (kn0 p ss w h a x3).1 (fun v => v == (kn5 x3))) = true -> (((someR (.cells true 0 (kn3 w h a p ss))) /\ (someR (.cells true 1 ((kn9 p ss w h a x3).flatMap intC))) /\ knb o1 z1 a o2 z2 ss w h) /\ (∀ H' : Heap,H'.length = 11 -> (H'[3]? = some (.cells true 0 (kn3 w h a p ss) : KObj) /\ H'[10]? = some (.cells true 1 ((kn9 p ss w h a x3).flatMap intC) : KObj) /\ kn8 H' o1 z1 a o2 z2 ss w h) -> KCall prog 83 [.pointer (some ⟨3,0,none⟩),slQ 10 2 (kne p ss w h a x3).length] H' [] (Is (nI (kn1 p ss w h a x3)) H')) /\ (((((kn1 p ss w h a x3) : Int) == (kng p ss w h a)) = true -> ((kn6 p ss w h a x3) /\ true = true /\ ((knn x3) = nI ((kn5 x3) + 1) /\ (∃ x3' : Nat × List Int,(knc x3' ss p w h a) /\ (List.length ss - x3'.1) < (List.length ss - x3.1) /\ true = true /\ ((nI ((kn5 x3) + 1) : Value) = nI ((x3'.1 : Nat) : Int) /\ wk (slQ 10 2 (kne p ss w h a x3).length : Value) (slQ 10 2 (List.length (trS (kn4 p ss w h a) (kyI ss) ss.length x3'.1).1) : Value) /\ kn2 p ss w h a x3 x3') /\ (True /\ True) /\ ((some (.cells true 1 ((kn9 p ss w h a x3).flatMap intC) : KObj) = some (knf x3') /\ belowO 7 (knf x3') = true) /\ kna p ss w h a x3 x3') /\ (True))))) /\ ((((kn1 p ss w h a x3) : Int) == (kng p ss w h a)) = false -> (((knj x3) /\ (someR (.cells true 0 [nI (kn5 x3)])) /\ True) /\ (kn7 x3 p ss w h a) /\ ((kn6 p ss w h a x3) /\ true = true /\ ((knn x3) = nI ((kn5 x3) + 1) /\ (∃ x3' : Nat × List Int,(knc x3' ss p w h a) /\ (List.length ss - x3'.1) < (List.length ss - x3.1) /\ true = true /\ (knh x3 x3' p ss w h a) /\ (True /\ True) /\ ((some (.cells true 1 ((delP (qNe (kn5 x3)) x3.2 (List.length (kn0 p ss w h a x3).1)).flatMap intC) : KObj) = some (knf x3') /\ belowO 7 (knf x3') = true) /\ kna p ss w h a x3 x3') /\ (True))))))))) /\ ((List.any (kn0 p ss w h a x3).1 (fun v => v == (kn5 x3))) = false -> (((knj x3) /\ (someR (.cells true 0 [nI (kn5 x3)])) /\ True) /\ (kn7 x3 p ss w h a) /\ ((((List.length (kn0 p ss w h a x3).2) + 1) * 1 <= 2 ^ 44 /\ 1 ≠ 0 /\ ((List.length (kn0 p ss w h a x3).2) <= (List.length (kn0 p ss w h a x3).2) /\ 0 + (List.length (kn0 p ss w h a x3).2) * 1 <= List.length (((kn0 p ss w h a x3).2).flatMap boolC)) /\ (1 <= 1 /\ 0 + 1 * 1 <= List.length kno) /\ (((kno.drop 0).take (1 * 1)) : List Value).all (fun v => one1 v) = true) /\ true = true /\ ((knn x3) = nI ((kn5 x3) + 1) /\ (∃ x3' : Nat × List Int,(knc x3' ss p w h a) /\ (List.length ss - x3'.1) < (List.length ss - x3.1) /\ true = true /\ (knh x3 x3' p ss w h a) /\ (True /\ True) /\ ((some (.cells true 1 ((delP (qNe (kn5 x3)) x3.2 (List.length (kn0 p ss w h a x3).1)).flatMap intC) : KObj) = some (knf x3') /\ belowO 7 (knf x3') = true) /\ (some (.cells true 1 ((((((kn0 p ss w h a x3).2).flatMap boolC).drop 0).take ((List.length (kn0 p ss w h a x3).2) * 1)) ++ ((kno.drop 0).take (1 * 1))) : KObj) = some (.cells true 1 (((trS (kn4 p ss w h a) (kyI ss) ss.length x3'.1).2).flatMap boolC) : KObj) /\ belowO 7 (.cells true 1 (((trS (kn4 p ss w h a) (kyI ss) ss.length x3'.1).2).flatMap boolC) : KObj) = true) /\ True) /\ (True))))))))))) /\ ((decide (((kn5 x3) : Int) < ((ss.length : Nat) : Int))) = false -> (true = true /\ wk (.tuple #[slQ 8 1 (List.length (kn0 p ss w h a x3).2),nI 0] : Value) (rn (sg 2 [(2,8)]) 3 (.tuple #[slQ 2 1 (truL (kn4 p ss w h a) (kyI ss) ss.length).length,nI 0] : Value)) /\ ((some (.cells true 1 (((kn0 p ss w h a x3).2).flatMap boolC) : KObj) = some (.cells true 1 ((truL (kn4 p ss w h a) (kyI ss) ss.length).flatMap boolC) : KObj) /\ belowO 2 (.cells true 1 ((truL (kn4 p ss w h a) (kyI ss) ss.length).flatMap boolC) : KObj) = true) /\ True))))))))
abbrev knd (x3 : Nat × List Int) (p : Int) (ss : List (Int × Int)) (w : Int) (h : Int) (a : List Bool) : Hint:=.answ [(7,.cells true 1 (x3.2.flatMap intC)),(9,.cells true 0 [nI (kn5 x3)])] (slQ 7 2 (keepP (qNe (kn5 x3)) x3.2 (List.length (kn0 p ss w h a x3).1)).length) [(7,.cells true 1 ((delP (qNe (kn5 x3)) x3.2 (List.length (kn0 p ss w h a x3).1)).flatMap intC))] [] (.go 3 (.need (.go 1 (.slot 57 (nI ((kn5 x3) + 1)) (.go 0 (.again [(7,7),(8,12)]))))))
theorem Etrust (o1 o2 : Bool) (z1 z2 : Nat) (w h : Int) (a : List Bool) (p : Int) (ss : List (Int × Int)) : vF prog msk (dm 0) 100000 true 40 true 24 [.agg #[nI w,nI h,slQ 0 2 a.length,nI p,slQ 1 2 ss.length]] (readsK [.cells o1 z1 (knm a),.cells o2 z2 (ss.flatMap spC)]) (some [])
 (.go 3 (.ans [(0,.cells o1 z1 (knm a)),(1,.cells o2 z2 (ss.flatMap spC))] (.tuple #[.pointer (some ⟨3,0,none⟩),nI 0]) [.cells true 0 (kn3 w h a p ss),.cells true 1 (inL (rowT w h a ss ss.length))] (.go 9 (.ans [(3,.cells true 0 (kn3 w h a p ss)),(0,.cells o1 z1 (knm a)),(1,.cells o2 z2 (ss.flatMap spC)),(4,.cells true 1 (inL (rowT w h a ss ss.length)))] (slQ 6 1 (allL ss.length).length) [.cells true 1 ((allL ss.length).flatMap intC)] (.go 2 (.ans [(3,.cells true 0 (kn3 w h a p ss)),(6,.cells true 1 ((allL ss.length).flatMap intC)),(0,.cells o1 z1 (knm a)),(1,.cells o2 z2 (ss.flatMap spC)),(4,.cells true 1 (inL (rowT w h a ss ss.length)))] (nI (kng p ss w h a)) [] (.go 8 (.inv 3 (Nat × List Int) ((0,allL ss.length)) [(7,6)] [6] (fun x3 => [(31,nI (kn5 x3)),(6,slQ 7 2 (List.length (kn0 p ss w h a x3).1)),(8,slQ 8 1 (List.length (kn0 p ss w h a x3).2)),(2,.slice none 0 0),(3,nI 0),(4,.pointer (some ⟨5,0,none⟩)),(7,nI (kng p ss w h a)),(30,nI ((ss.length : Nat) : Int))]) (fun x3 => [(6,false,.dead)]) (fun x3 => [(true,.cells true 1 (x3.2.flatMap intC)),(true,.cells true 1 (((kn0 p ss w h a x3).2).flatMap boolC))]) (fun x3 => []) (fun x3 => (x3.1 <= List.length ss /\ List.take (List.length (kn0 p ss w h a x3).1) x3.2 = (kn0 p ss w h a x3).1 /\ List.length x3.2 <= List.length ss)) (fun x3 => (List.length ss - x3.1)) (fun x3 => .go 0 (.fork (.go 3 (.ans [(7,.cells true 1 (x3.2.flatMap intC))] (slQ 10 1 (List.length (kn0 p ss w h a x3).1)) [.cells true 1 (List.flatMap intC (kn0 p ss w h a x3).1)] (.go 0 (.answ [(10,.cells true 1 (List.flatMap intC (kn0 p ss w h a x3).1)),(5,.cells true 0 kni),(9,.cells true 0 [nI (kn5 x3)]),(3,.cells true 0 (kn3 w h a p ss)),(0,.cells o1 z1 (knm a)),(1,.cells o2 z2 (ss.flatMap spC)),(4,.cells true 1 (inL (rowT w h a ss ss.length)))] (slQ 10 2 (kne p ss w h a x3).length) [(10,.cells true 1 ((kn9 p ss w h a x3).flatMap intC))] [] (.go 2 (.ans [(7,.cells true 1 (x3.2.flatMap intC))] (.bool (List.any (kn0 p ss w h a x3).1 (fun v => v == (kn5 x3)))) [] (.go 0 (.gfork (.go 1 (.ans [(3,.cells true 0 (kn3 w h a p ss)),(10,.cells true 1 ((kn9 p ss w h a x3).flatMap intC)),(0,.cells o1 z1 (knm a)),(1,.cells o2 z2 (ss.flatMap spC)),(4,.cells true 1 (inL (rowT w h a ss ss.length)))] (nI (kn1 p ss w h a x3)) [] (.go 4 (.fork (.go 4 (.need (.go 1 (.slot 57 (nI ((kn5 x3) + 1)) (.go 0 (.again [(7,10),(8,12)])))))) (.go 1 (knd x3 p ss w h a)))))) (.go 5 (knd x3 p ss w h a)))))))))) (.go 2 (.again [(2,8)]))))))))))))
 (newK ((readsK [.cells o1 z1 (knm a),.cells o2 z2 (ss.flatMap spC)]) : HT).n 3 (.tuple #[slQ 2 1 (truL (kn4 p ss w h a) (kyI ss) ss.length).length,nI 0]) [(true,.cells true 1 ((truL (kn4 p ss w h a) (kyI ss) ss.length).flatMap boolC))]) = Rtrust o1 o2 z1 z2 w h a p ss:=by kernel_rfl
end
end Go.Proofs.YtbgfjemppjhmjaaGreat
/- Radio: Trust. No condition. -/
namespace Go.Proofs.YtbgfjemppjhmjaaGreat
open Go Go.K
set_option maxRecDepth 100000
set_option linter.unusedVariables false
set_option linter.unusedSimpArgs false
noncomputable section
attribute [local irreducible] vF
theorem keepP_end (q : Int -> Bool) (M : List Int) : keepP q M M.length = M.filter q := by unfold keepP; rw [List.take_length]
theorem trS_1 {agr : Int -> Int -> Bool} {k : Int -> Int} {n i : Nat} (h1 : (trS agr k n i).1.any (fun v => v == (i : Int)) = true) (h2 : mst agr k ((trS agr k n i).1.filter fun v => agr i v) = mst agr k (allL n)) : trS agr k n (i + 1) = ((trS agr k n i).1.filter (fun v => agr i v), (trS agr k n i).2 ++ [true]) := by
 show (if _ then _ else _) = _; rw [if_pos ⟨h1, h2⟩]
theorem trS_0 {agr : Int -> Int -> Bool} {k : Int -> Int} {n i : Nat} (h : ¬ ((trS agr k n i).1.any (fun v => v == (i : Int)) = true /\ mst agr k ((trS agr k n i).1.filter fun v => agr i v) = mst agr k (allL n))) : trS agr k n (i + 1) = ((trS agr k n i).1.filter (fun v => !(v == (i : Int))), (trS agr k n i).2 ++ [false]) := by
 show (if _ then _ else _) = _; rw [if_neg h]
theorem qNe_fil (i : Int) (L : List Int) : L.filter (qNe i) = L.filter fun v => !(v == i) := List.filter_congr fun v _ => by
 unfold qNe
 congr 1
theorem keepP_take (q : Int -> Bool) (M : List Int) (k : Nat) : keepP q M k = (M.take k).filter q := rfl
theorem hvTrust {o1 o2 : Bool} {z1 z2 : Nat} {w h : Int} {a : List Bool} {p : Int} {ss : List (Int × Int)} (ha : a.length <= 100000) (hs : ss.length <= 19) (h0 : 0 < ss.length) (e0 : errT w h a p ss = 0) : Rtrust o1 o2 z1 z2 w h a p ss := by
 have t := trOk e0
 have rk : RowsOk a ss (rowT w h a ss ss.length) := rowsOk t
 have aO : AgOk (agI p ss (rowT w h a ss ss.length)) (kyI ss) (allL ss.length) := agOk t
 have hn := allN_len ss.length
 have hp0 := mst_pos (agr := agI p ss (rowT w h a ss ss.length)) (k := kyI ss) (n := ss.length)
 delta Rtrust knm kn3 knb kn8 kni knk kn4 kng knl kn0 kn5 knj kne kn9 kn1 kn6 knn knc kn2 knf kna kn7 knh kno
 generalize hA : agI p ss (rowT w h a ss ss.length) = A at *
 refine ⟨⟨rfl, rfl, trivial⟩, fun H' hl' g => ?_, ⟨rfl, rfl, rfl, rfl, trivial⟩, fun H' hl' g => ?_, ⟨rfl, rfl, rfl, rfl, rfl, trivial⟩, fun H' hl' g => ?_, rfl, ⟨Nat.zero_le _, ?_, Nat.le_of_eq hn⟩, ?_, fun _ => rfl, fun v hv => ?_⟩
 ·have key := kOpen0 ha (by omega) e0 (i := 0) (j := 1) (by decide) g.1 g.2.1
  rw [hl'] at key; exact key
 ·have key := kAll (by omega) (p := p) (i := 0) (j := 1) (r := 3) (q := 4) (rr := rowT w h a ss ss.length) (H := H') ⟨by decide, g.2.1, g.2.2.1, g.1, g.2.2.2.1⟩
  rw [hl', <- hn] at key
  rw [<- hn]
  exact key
 ·have key := kMosts t rk (M := allL ss.length) (k := (allL ss.length).length) (by omega) (Nat.le_refl _) (by omega) (by omega) (by rw [List.take_length]; exact fun v hv => allL_mem.1 hv) (by rw [List.take_length]; exact allL_nodup _) (i := 0) (j := 1) (r := 3) (q := 4) (l := 6) ⟨by decide, g.2.2.1, g.2.2.2.1, g.1, g.2.2.2.2.1⟩ g.2.1 (by decide)
  rw [List.take_length, hA] at key
  exact key.wkA ⟨wk_refl _, wk_QR, trivial⟩
 ·show List.take (allL ss.length).length (allL ss.length) = allL ss.length
  exact List.take_length
 ·repeat' first | exact plainIL _ _ | exact plainBL _ _ | exact wk_refl _ | exact wk_QR | exact wk_nil _ _ _ (.inl rfl) | exact rfl | exact wk_refl _ | exact wks_nil | exact wk_nil _ _ _ (.inl rfl) | apply And.intro
 ·obtain ⟨x, B⟩ := v
  obtain ⟨hx, hB, hBm⟩ := hv
  dsimp only at hx hB hBm ⊢
  have I := trI aO x hx
  have hsub := I.sub
  have hin : InS ss.length (trS A (kyI ss) ss.length x).1 := fun v hv => allL_mem.1 (hsub.subset hv)
  have hnd : (trS A (kyI ss) ss.length x).1.Nodup := hsub.nodup (allL_nodup _)
  have hle := hsub.length_le
  have hT2 := I.len
  have hpos : 0 < (trS A (kyI ss) ss.length x).1.length := by
   have h1 := mst_le (aO.sub fun v hv => hsub.subset hv)
   rw [I.mo] at h1
   have := hp0.2 h0
   omega
  have hBl : (trS A (kyI ss) ss.length x).1.length <= B.length := by
   have := congrArg List.length hB
   rw [List.length_take] at this
   omega
  have s1 := trS_1 (agr := A) (k := kyI ss) (n := ss.length) (i := x)
  have s0 := trS_0 (agr := A) (k := kyI ss) (n := ss.length) (i := x)
  have hend : ss.length <= x -> (trS A (kyI ss) ss.length x).2 = truL A (kyI ss) ss.length := fun q => by
   obtain rfl : x = ss.length := by omega
   rfl
  generalize (trS A (kyI ss) ss.length x).1 = T at *
  generalize (trS A (kyI ss) ss.length x).2 = O at *
  clear I
  refine ⟨fun c => ?_, fun c => ?_⟩
  ·have hx1 : x < ss.length := by have := of_decide_eq_true c; omega
   refine ⟨⟨rfl, trivial⟩, fun H' hl' g => ?_, ⟨rfl, rfl, rfl, rfl, rfl, rfl, rfl, trivial⟩, fun H' hl' g => ?_, ⟨rfl, trivial⟩, fun H' hl' g => ?_, fun d => ?_, fun d => ?_⟩
   ·have key := kCloneI B T.length hpos hBl (by omega) hl' g.1
    rw [hB] at key; exact key
   ·have key := kDelA (M := T) (k := T.length) (i := (x : Int)) (Nat.le_refl _) (by omega) t rk ⟨by omega, by omega⟩ (fun y hy => hin.at hy) (D := 10) (b := 5) (c := 9) (r := 3) (j := 0) (l := 1) (q := 4) g.1 (by decide) ⟨_, _, g.2.1⟩ ⟨_, _, g.2.2.1⟩ ⟨_, _, g.2.2.2.1⟩ ⟨_, _, g.2.2.2.2.1⟩ ⟨_, _, g.2.2.2.2.2.1⟩ ⟨_, _, g.2.2.2.2.2.2.1⟩
    rw [hA] at key
    exact key.wkA ⟨wk_QR, wk_refl _, trivial⟩
   ·have key := kCont (M := B) (k := T.length) (i := (x : Int)) hBl (by omega) g.1
    rw [hB] at key
    exact key.wkA ⟨wk_ofR hpos, wk_refl _, trivial⟩
   ·have hxT : (x : Int) ∈ T := any_is.1 d
    have hke := keepP_end (A (x : Int)) T
    have hk0 : 0 < (keepP (A (x : Int)) T T.length).length := by
     rw [hke]
     exact List.length_pos_of_mem (List.mem_filter.2 ⟨hxT, aO.rfl _ (hsub.subset hxT)⟩)
    have hkl := keepP_le (A (x : Int)) T T.length
    have hdl := delP_len (q := A (x : Int)) (Nat.le_refl T.length)
    refine ⟨⟨rfl, rfl, rfl, rfl, rfl, trivial⟩, fun H' hl' g => ?_, fun e => ?_, fun e => ?_⟩
    ·have key := kMosts t rk (M := delP (A (x : Int)) T T.length) (k := (keepP (A (x : Int)) T T.length).length) hk0 (by omega) (by omega) (by omega) (by rw [delP_take, hke]; exact fun v hv => hin v (List.mem_filter.1 hv).1) (by rw [delP_take, hke]; exact hnd.filter _) (i := 0) (j := 1) (r := 3) (q := 4) (l := 10) ⟨by decide, g.2.2.1, g.2.2.2.1, g.1, g.2.2.2.2.1⟩ g.2.1 (by decide)
     rw [delP_take, hA] at key
     exact key
    ·have hst : trS A (kyI ss) ss.length (x + 1) = (T.filter (A (x : Int)), O ++ [true]) := s1 d (by have := eq_of_beq e; rw [hke] at this; exact this)
     rw [e]
     refine ⟨⟨by omega, by decide, ⟨Nat.le_refl _, flat_le boolC_len _⟩, ⟨by decide, by decide⟩, rfl⟩, rfl, vI64 (by omega), (x + 1, delP (A (x : Int)) T T.length), ⟨hx1, ?_, by dsimp only; omega⟩, by dsimp only; omega, ?_⟩
     ·dsimp only
      rw [hst, <- hke]; exact delP_take
     ·dsimp only
      rw [hst, <- hke]
      repeat' first | exact wk_snoc rfl | exact ob_snoc boolC_len rfl rfl | exact plainIL _ _ | exact plainBL _ _ | exact wk_refl _ | exact rfl | exact wk_refl _ | exact wks_nil | exact wk_nil _ _ _ (.inl rfl) | apply And.intro
    ·have hst : trS A (kyI ss) ss.length (x + 1) = (T.filter (qNe (x : Int)), O ++ [false]) := by
      rw [qNe_fil]
      exact s0 fun q => by
       have : ¬ mst A (kyI ss) (keepP (A (x : Int)) T T.length) = mst A (kyI ss) (allL ss.length) := beq_eq_false_iff_ne.1 e
       rw [hke] at this
       exact this q.2
     have hkq : keepP (qNe (x : Int)) B T.length = T.filter (qNe (x : Int)) := by rw [keepP_take, hB]
     have hdl2 := delP_len (q := qNe (x : Int)) hBl
     rw [e]
     refine ⟨⟨rfl, rfl, trivial⟩, fun H' hl' g => kDelI hBl (by omega) g.1 (by decide) ⟨_, _, g.2.1⟩, ⟨by omega, by decide, ⟨Nat.le_refl _, flat_le boolC_len _⟩, ⟨by decide, by decide⟩, rfl⟩, rfl, vI64 (by omega), (x + 1, delP (qNe (x : Int)) B T.length), ⟨hx1, ?_, by dsimp only; omega⟩, by dsimp only; omega, ?_⟩
     ·dsimp only
      rw [hst, <- hkq]; exact delP_take
     ·dsimp only
      rw [hst, <- hkq]
      repeat' first | exact wk_snoc rfl | exact ob_snoc boolC_len rfl rfl | exact plainIL _ _ | exact plainBL _ _ | exact wk_refl _ | exact rfl | exact wk_refl _ | exact wks_nil | exact wk_nil _ _ _ (.inl rfl) | apply And.intro
   ·have hst : trS A (kyI ss) ss.length (x + 1) = (T.filter (qNe (x : Int)), O ++ [false]) := by
     rw [qNe_fil]
     exact s0 fun q => by rw [d] at q; cases q.1
    have hkq : keepP (qNe (x : Int)) B T.length = T.filter (qNe (x : Int)) := by rw [keepP_take, hB]
    have hdl2 := delP_len (q := qNe (x : Int)) hBl
    refine ⟨⟨rfl, rfl, trivial⟩, fun H' hl' g => kDelI hBl (by omega) g.1 (by decide) ⟨_, _, g.2.1⟩, ⟨by omega, by decide, ⟨Nat.le_refl _, flat_le boolC_len _⟩, ⟨by decide, by decide⟩, rfl⟩, rfl, vI64 (by omega), (x + 1, delP (qNe (x : Int)) B T.length), ⟨hx1, ?_, by dsimp only; omega⟩, by dsimp only; omega, ?_⟩
    ·dsimp only
     rw [hst, <- hkq]; exact delP_take
    ·dsimp only
     rw [hst, <- hkq]
     repeat' first | exact wk_snoc rfl | exact ob_snoc boolC_len rfl rfl | exact plainIL _ _ | exact plainBL _ _ | exact wk_refl _ | exact rfl | exact wk_refl _ | exact wks_nil | exact wk_nil _ _ _ (.inl rfl) | apply And.intro
  ·have hx1 : ss.length <= x := by have := of_decide_eq_false c; omega
   rw [hend hx1]
   repeat' first | exact plainIL _ _ | exact plainBL _ _ | exact wk_refl _ | exact rfl | exact wk_refl _ | exact wks_nil | exact wk_nil _ _ _ (.inl rfl) | apply And.intro
theorem kTrust {w h : Int} {a : List Bool} {p : Int} {ss : List (Int × Int)} (ha : a.length <= 100000) (hs : ss.length <= 19) (h0 : 0 < ss.length) (e0 : errT w h a p ss = 0) {H : Heap} {i j : Nat} (hne : i ≠ j) {o1 o2 : Bool} {z1 z2 : Nat} (hi : H[i]? = some (.cells o1 z1 (a.flatMap boolC))) (hj : H[j]? = some (.cells o2 z2 (ss.flatMap spC))) :
  KCall prog 24 [trkV w h a p ss i j] H [] (Is (.tuple #[slQ H.length 1 (truL (agI p ss (trkRows w h a ss)) (kyI ss) ss.length).length, .int .i64 0]) (H ++ [.cells true 1 ((truL (agI p ss (trkRows w h a ss)) (kyI ss) ss.length).flatMap boolC)])) :=
 valKs (fun j => .tuple #[slQ j 1 (truL (agI p ss (trkRows w h a ss)) (kyI ss) ss.length).length, .int .i64 0]) (new := [.cells true 1 ((truL (agI p ss (trkRows w h a ss)) (kyI ss) ss.length).flatMap boolC)]) (Eq.mpr (Etrust o1 o2 z1 z2 w h a p ss) (hvTrust ha hs h0 e0)) (trk_ok ..) rfl ⟨⟨_, _, rfl, plainBL _ _⟩, trivial⟩ (by simpa using hne) (trk_objs hi hj) (fun j => rfl) rfl
end
end Go.Proofs.YtbgfjemppjhmjaaGreat
/- What is to be shown of functions. Printed by a program. No condition. -/
namespace Go.Proofs.YtbgfjemppjhmjaaGreat
set_option linter.unusedSimpArgs false
open Go Go.K
set_option maxRecDepth 100000
set_option maxHeartbeats 4000000
set_option linter.unusedVariables false
noncomputable section
def Rtrust0 (o1 o2 : Bool) (z1 z2 : Nat) (w h : Int) (a : List Bool) (p : Int) : Prop :=
 (((some (.cells o1 z1 (List.flatMap boolC a) : KObj) = some (.cells o1 z1 (List.flatMap boolC a) : KObj)) /\ (some (.cells o2 z2 [] : KObj) = some (.cells o2 z2 [] : KObj)) /\ True) /\ (∀ H' : Heap,H'.length = 3 -> (H'[0]? = some (.cells o1 z1 (List.flatMap boolC a) : KObj) /\ H'[1]? = some (.cells o2 z2 [] : KObj) /\ True) -> KCall prog 72 [.agg #[.int .i64 w,.int .i64 h,.slice (some ⟨0,0,some 2⟩) (List.length a) (List.length a),.int .i64 p,.slice (some ⟨1,0,some 2⟩) 0 0]] H' [] (Is (.tuple #[.pointer (some ⟨3,0,none⟩),.int .i64 0]) (H' ++ [(.cells true 0 [.int .i64 w,.int .i64 h,.slice (some ⟨0,0,some 2⟩) (List.length a) (List.length a),.int .i64 p,.slice (some ⟨1,0,some 2⟩) 0 0,.slice (some ⟨4,0,some 1⟩) 0 0] : KObj),(.cells true 1 (inL ([])) : KObj)]))) /\ (true = true /\ (SeenL (List.length ([] : List (Int × Int))) ([] : List Nat)) /\ (true = true /\ ((.int .i64 0 : Value) = .int .i64 (maxS [] ([] : List Nat)) /\ (.int .i64 0 : Value) = .int .i64 0 /\ (.pointer (some ⟨8,0,none⟩) : Value) = .pointer (some ⟨8,0,none⟩) /\ True) /\ ((some (.iter 7 (List.length (mapI [])) [] : KObj) = some (.iter 7 (List.length (mapI [])) ([] : List Nat) : KObj) /\ belowO 9 (.iter 7 (List.length (mapI [])) ([] : List Nat) : KObj) = true) /\ True) /\ (True) /\ (True)) /\ (∀ x1 : List Nat,true = true) /\ ∀ x1 : List Nat,(SeenL (List.length ([] : List (Int × Int))) x1) -> ((List.length (mapI []) = (List.length (mapI []))) /\ (∀ x2 : Nat,x2 < (List.length (mapI [])) -> x2 ∉ x1 -> ((List.length (mapI []) = (List.length (mapI []))) /\ (entryE (mapI []) (x1 ++ [x2]) = some (.tuple #[.int .i64 (List.getD [] x2 (0,0)).1,.int .i64 (List.getD [] x2 (0,0)).2])) /\ (∃ x1' : List Nat,(SeenL (List.length ([] : List (Int × Int))) x1') /\ (List.length ([] : List (Int × Int)) - List.length x1') < (List.length ([] : List (Int × Int)) - List.length x1) /\ true = true /\ ((.int .i64 (if ((List.getD [] x2 (0,0)).2 : Int) > (maxS [] x1) then ((List.getD [] x2 (0,0)).2 : Int) else (maxS [] x1)) : Value) = .int .i64 (maxS [] x1') /\ (.int .i64 0 : Value) = .int .i64 0 /\ (.pointer (some ⟨8,0,none⟩) : Value) = .pointer (some ⟨8,0,none⟩) /\ True) /\ ((some (.iter 7 (List.length (mapI [])) (x1 ++ [x2]) : KObj) = some (.iter 7 (List.length (mapI [])) x1' : KObj) /\ belowO 9 (.iter 7 (List.length (mapI [])) x1' : KObj) = true) /\ True) /\ (True) /\ (True)))) /\ ((∀ x2 : Nat,x2 < (List.length (mapI [])) -> x2 ∈ x1) -> (true = true /\ wk (.tuple #[.slice none 0 0,.int .i64 0] : Value) (rn (sg 2 []) 3 (.tuple #[.slice (some ⟨2,0,some 1⟩) 0 0,.int .i64 0] : Value)) /\ (True /\ True))))))
theorem Etrust0 (o1 o2 : Bool) (z1 z2 : Nat) (w h : Int) (a : List Bool) (p : Int) : vF prog msk (dm 0) 100000 true 40 true 24 [.agg #[.int .i64 w,.int .i64 h,.slice (some ⟨0,0,some 2⟩) (List.length a) (List.length a),.int .i64 p,.slice (some ⟨1,0,some 2⟩) 0 0]] (readsK [.cells o1 z1 (List.flatMap boolC a),.cells o2 z2 []]) (some [])
 (.go 3 (.ans [(0,.cells o1 z1 (List.flatMap boolC a)),(1,.cells o2 z2 [])] (.tuple #[.pointer (some ⟨3,0,none⟩),.int .i64 0]) [.cells true 0 [.int .i64 w,.int .i64 h,.slice (some ⟨0,0,some 2⟩) (List.length a) (List.length a),.int .i64 p,.slice (some ⟨1,0,some 2⟩) 0 0,.slice (some ⟨4,0,some 1⟩) 0 0],.cells true 1 (inL ([]))] (.go 44 (.into (some [6]) (.go 3 (.into (some [6]) (.go 11 (.into (some [6]) (.go 20 (.inv 3 (List Nat) (([] : List Nat)) [] [8] (fun x1 => [(5,.int .i64 (maxS [] x1)),(4,.int .i64 0),(11,.pointer (some ⟨8,0,none⟩))]) (fun x1 => [(8,true,.iter 7 (List.length (mapI [])) x1)]) (fun x1 => []) (fun x1 => []) (fun x1 => (SeenL (List.length ([] : List (Int × Int))) x1)) (fun x1 => (List.length ([] : List (Int × Int)) - List.length x1)) (fun x1 => .nxt (fun x2 => .go 1 (.val (.tuple #[.int .i64 (List.getD [] x2 (0,0)).1,.int .i64 (List.getD [] x2 (0,0)).2]) (.go 5 (.again [])))) (.go 17 (.again [])))))))))))))
 (newK ((readsK [.cells o1 z1 (List.flatMap boolC a),.cells o2 z2 []]) : HT).n 3 (.tuple #[.slice (some ⟨2,0,some 1⟩) 0 0,.int .i64 0]) [(true,.cells true 1 (List.flatMap boolC ([])))]) = Rtrust0 o1 o2 z1 z2 w h a p:=by kernel_rfl
end
end Go.Proofs.YtbgfjemppjhmjaaGreat
/- Radio: Classes, Proves; a track that has no sightings. No condition. -/
namespace Go.Proofs.YtbgfjemppjhmjaaGreat
open Go Go.K
set_option maxRecDepth 100000
set_option linter.unusedVariables false
set_option linter.unusedSimpArgs false
noncomputable section
attribute [local irreducible] vF
theorem open0_nil {w h : Int} {a : List Bool} {p : Int} (ha : a.length <= 100000) (e0 : errT w h a p [] = 0) {H : Heap} {L : Nat} (hL : H.length = L) {o1 o2 : Bool} {z1 z2 : Nat} (hi : H[0]? = some (.cells o1 z1 (a.flatMap boolC))) (hj : H[1]? = some (.cells o2 z2 [])) :
  KCall prog 72 [trkV w h a p [] 0 1] H [] (Is (.tuple #[.pointer (some ⟨L, 0, none⟩), .int .i64 0]) (H ++ [.cells true 0 (wkCs w h a p [] [] 0 1 (L + 1)), .cells true 1 (inL [])])) := by
 have key := kOpen0 (ss := []) ha (by decide) e0 (i := 0) (j := 1) (by decide) hi hj
 rw [hL] at key; exact key
theorem hvTrust0 {o1 o2 : Bool} {z1 z2 : Nat} {w h : Int} {a : List Bool} {p : Int} (ha : a.length <= 100000) (e0 : errT w h a p [] = 0) : Rtrust0 o1 o2 z1 z2 w h a p := by
 unfold Rtrust0
 refine ⟨⟨rfl, rfl, trivial⟩, fun H' hl' g => open0_nil ha e0 hl' g.1 g.2.1, rfl, seenL_0 _, ?_, fun _ => rfl, fun x hx => ⟨rfl, fun i hi hn => absurd hi (Nat.not_lt_zero i), fun hall => ?_⟩⟩
 ·repeat' first | exact rfl | exact wk_refl _ | exact wks_nil | exact wk_nil _ _ _ (.inl rfl) | refine wk_tupL ?_ | apply And.intro
 ·repeat' first | exact wk_nil _ _ _ (.inl rfl) | exact rfl | exact wk_refl _ | exact wks_nil | exact wk_nil _ _ _ (.inl rfl) | refine wk_tupL ?_ | apply And.intro
theorem kTrust0 {w h : Int} {a : List Bool} {p : Int} (ha : a.length <= 100000) (e0 : errT w h a p [] = 0) {H : Heap} {i j : Nat} (hne : i ≠ j) {o1 o2 : Bool} {z1 z2 : Nat} (hi : H[i]? = some (.cells o1 z1 (a.flatMap boolC))) (hj : H[j]? = some (.cells o2 z2 [])) :
  KCall prog 24 [trkV w h a p [] i j] H [] (Is (.tuple #[slQ H.length 1 0, .int .i64 0]) (H ++ [.cells true 1 []])) :=
 valKs (fun j => .tuple #[slQ j 1 0, .int .i64 0]) (new := [.cells true 1 (([] : List Bool).flatMap boolC)]) (Eq.mpr (Etrust0 o1 o2 z1 z2 w h a p) (hvTrust0 ha e0)) (trk_ok o1 o2 z1 z2 a []) rfl ⟨⟨_, _, rfl, rfl⟩, trivial⟩ (by simpa using hne) (trk_objs (ss := []) hi hj) (fun j => rfl) rfl
theorem kTrustA {w h : Int} {a : List Bool} {p : Int} {ss : List (Int × Int)} (ha : a.length <= 100000) (hs : ss.length <= 19) (e0 : errT w h a p ss = 0) {H : Heap} {i j : Nat} (hne : i ≠ j) {o1 o2 : Bool} {z1 z2 : Nat} (hi : H[i]? = some (.cells o1 z1 (a.flatMap boolC))) (hj : H[j]? = some (.cells o2 z2 (ss.flatMap spC))) :
  KCall prog 24 [trkV w h a p ss i j] H [] (Is (.tuple #[slQ H.length 1 (truL (agI p ss (trkRows w h a ss)) (kyI ss) ss.length).length, .int .i64 0]) (H ++ [.cells true 1 ((truL (agI p ss (trkRows w h a ss)) (kyI ss) ss.length).flatMap boolC)])) := by
 by_cases h0 : 0 < ss.length
 ·exact kTrust ha hs h0 e0 hne hi hj
 ·obtain rfl : ss = [] := List.length_eq_zero_iff.1 (by omega)
  exact kTrust0 ha e0 hne hi hj
end
end Go.Proofs.YtbgfjemppjhmjaaGreat
/- Radio: RadioBlames: words and plain laws. No condition. -/
namespace Go.Proofs.YtbgfjemppjhmjaaGreat
set_option linter.unusedSimpArgs false
open Go Go.K
set_option linter.unusedVariables false
theorem er_ok {w h : Int} {a : List Bool} {p : Int} {ss : List (Int × Int)} (b : BasOk w h a.length) (hp : 1 <= p /\ p <= 1000) (hl : ss.length <= 20) (k : ∀ s ∈ ss, (0 <= s.1 /\ s.1 <= 120) /\ (0 <= s.2 /\ s.2 < (a.length : Int)) /\ a.getD (Int.toNat s.2) false = false) : errT w h a p ss = 0 := by
 have e0 : errBas w h a.length = 0 := by
  unfold errBas
  rw [if_pos ⟨b.w1, b.h1, b.p1⟩, if_pos b.n1]
 unfold errT
 rw [if_pos e0, if_pos hp, if_pos hl, if_pos]
 rw [List.all_eq_true]
 intro s hs
 obtain ⟨k1, k2, k3⟩ := k s hs
 unfold okS seaB
 rw [decide_eq_true k1.1, decide_eq_true (show s.1 <= 100000 by omega), decide_eq_true k2.1, decide_eq_true (show s.2 <= ((a.length : Nat) : Int) - 1 by omega), k3]
 rfl
noncomputable def truQ (N : List Int) (z : Int) (ss : List (Int × Int)) : List Bool := truL (agI (pcP z) ss (rwQ N ss)) (kyI ss) ss.length
structure SgOk (N : List Int) (z : Int) (ss : List (Int × Int)) : Prop where
 few : ss.length <= 12
 ok : ∀ s ∈ ss, (0 <= s.1 /\ s.1 <= 120) /\ (0 <= s.2 /\ s.2 < ((wtLd N).length : Int)) /\ (wtLd N).getD (Int.toNat s.2) false = false
theorem SgOk.err {N : List Int} {z : Int} {ss : List (Int × Int)} (k : SgOk N z ss) : errT (wtW N 0) (wtH N 0) (wtLd N) (pcP z) ss = 0 := er_ok (wtBas N) (by have := pcP_bd z; omega) (by have := k.few; omega) k.ok
theorem SgOk.tr {N : List Int} {z : Int} {ss : List (Int × Int)} (k : SgOk N z ss) : TrOk (wtW N 0) (wtH N 0) (wtLd N) (pcP z) ss := trOk k.err
theorem SgOk.ag {N : List Int} {z : Int} {ss : List (Int × Int)} (k : SgOk N z ss) : AgOk (agI (pcP z) ss (rwQ N ss)) (kyI ss) (allL ss.length) := agOk k.tr
end Go.Proofs.YtbgfjemppjhmjaaGreat
/- Radio: RadioHolds and RadioBlames: words. No condition. -/
namespace Go.Proofs.YtbgfjemppjhmjaaGreat
set_option linter.unusedSimpArgs false
open Go Go.K
set_option linter.unusedVariables false
noncomputable def cfQ (N : List Int) (z : Int) (ss : List (Int × Int)) : List (Int × Int) := cfTo (pcP z) ss (rwQ N ss) ss.length
end Go.Proofs.YtbgfjemppjhmjaaGreat
