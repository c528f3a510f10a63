/- What is to be shown of functions. Printed by a program. No condition. -/
import Derived.Test.YtbgfjemppjhmjaaGreatGP24xW25
import Derived.Test.YtbgfjemppjhmjaaGreatGP3xP7
import Derived.Test.YtbgfjemppjhmjaaGreatGW2xO3g
import Derived.Test.YtbgfjemppjhmjaaGreatGW20xO24g
namespace Go.Proofs.YtbgfjemppjhmjaaGreat
set_option linter.unusedSimpArgs false
open Go Go.K
set_option maxRecDepth 100000
set_option maxHeartbeats 4000000
set_option linter.unusedVariables false
noncomputable section
abbrev khm (L : List Int) : Prop:=wkR (slQ 0 2 L.length) /\ True
abbrev khh : Prop:=(True) /\ (True) /\ (True)
abbrev khk : Prop:=∀ n_0 : Nat,true = true
abbrev kh9 (qn0 : Nat) (qd0 : List Int) (qi0 : Int) : Prop:=qn0 <= List.length qd0 /\ (qd0.take qn0).any (fun v => v == qi0) = false
abbrev khg (n_0 : Nat) (L : List Int):=decide (((n_0 : Int) : Int) < ((L.length : Nat) : Int))
abbrev kh3 (qn0 : Nat) (qd0 : List Int) : Prop:=(0 : Int) <= (qn0 : Int) /\ ((qn0 : Int) : Int) < ((qd0.length : Nat) : Int)
abbrev kh2 (qd0 : List Int) (qn0 : Nat) : Prop:=(qd0.flatMap intC)[(0 + Int.toNat (qn0 : Int) * 1)]? = some (nI (qd0.getD qn0 0))
abbrev khf (n_0 : Nat) : Value:=nI (IntKind.wrap .i64 ((n_0 : Int) + 1))
abbrev kho : Value:=.bool false
def Rhas (sp : Value) (L : List Int) (n : Int) : Prop :=
 (true = true /\ (0 <= List.length L /\ (L.take 0).any (fun v => v == n) = false) /\ (true = true /\ ((nI 0 : Value) = nI ((0 : Nat) : Int) /\ (nI n : Value) = nI n /\ khm L) /\ khh) /\ khk /\ ∀ n_0 : Nat,(kh9 n_0 L n) -> (((khg n_0 L) = true -> ((kh3 n_0 L) /\ ((kh2 L n_0) /\ (((((L.getD n_0 0) : Int) == n) = true -> (.bool true : Value) = sp) /\ ((((L.getD n_0 0) : Int) == n) = false -> ((khf n_0) = nI ((n_0 : Int) + 1) /\ (∃ n_1' : Nat,(kh9 n_1' L n) /\ (List.length L - n_1') < (List.length L - n_0) /\ true = true /\ ((nI ((n_0 : Int) + 1) : Value) = nI (n_1' : Int) /\ (nI n : Value) = nI n /\ khm L) /\ khh))))))) /\ ((khg n_0 L) = false -> kho = sp)))
abbrev kh4 (qn0 : Nat) (qn1 : Nat) : Hint:=.fork (.auto) (.go 1 (.slot qn0 (nI ((qn1 : Int) + 1)) (.go 0 (.again []))))
theorem Ehas (sp : Value) (L : List Int) (n : Int) : vF prog msk (dm 0) 100000 true 40 true 20 [slQ 0 2 L.length,nI n] (readsT 0 [L.flatMap intC]) (some [])
 (.go 1 (.inv 3 (Nat) (0) [] [] (fun n_0 => [(5,nI (n_0 : Int)),(1,nI n),(0,slQ 0 2 L.length)]) (fun n_0 => []) (fun n_0 => []) (fun n_0 => []) (fun n_0 => (kh9 n_0 L n)) (fun n_0 => (List.length L - n_0)) (fun n_0 => .go 3 (.fork (.go 1 (.need (.val (nI (L.getD n_0 0)) (.go 1 (kh4 11 n_0))))) (.auto)))))
 (fun v _ _ => v = sp) = Rhas sp L n:=by kernel_rfl
abbrev khd (n_0 : Nat) (L1_ : List (Int × Int)) (n : Int) : Prop:=(khf n_0) = nI ((n_0 : Int) + 1) /\ (∃ n_1' : Nat,(n_1' <= List.length L1_ /\ notF (L1_.take n_1') n = false) /\ (List.length L1_ - n_1') < (List.length L1_ - n_0) /\ true = true /\ ((nI ((n_0 : Int) + 1) : Value) = nI (n_1' : Int) /\ (nI n : Value) = nI n /\ wkR (slQ 0 2 L1_.length) /\ True) /\ khh)
def Rcovers (sp : Value) (L1_ : List (Int × Int)) (n : Int) : Prop :=
 (true = true /\ (0 <= List.length L1_ /\ notF (L1_.take 0) n = false) /\ (true = true /\ ((nI 0 : Value) = nI ((0 : Nat) : Int) /\ (nI n : Value) = nI n /\ wkR (slQ 0 2 L1_.length) /\ True) /\ khh) /\ khk /\ ∀ n_0 : Nat,(n_0 <= List.length L1_ /\ notF (L1_.take n_0) n = false) -> (((decide (((n_0 : Int) : Int) < ((L1_.length : Nat) : Int))) = true -> (((0 : Int) <= (n_0 : Int) /\ ((n_0 : Int) : Int) < ((L1_.length : Nat) : Int)) /\ (((L1_.flatMap spC)[((0 + Int.toNat (n_0 : Int) * 2) + 0)]? = some (nI (L1_.getD n_0 zeroSp).1)) /\ (((decide (((L1_.getD n_0 zeroSp).1 : Int) <= n)) = true -> (((0 : Int) <= (n_0 : Int) /\ ((n_0 : Int) : Int) < ((L1_.length : Nat) : Int)) /\ (((L1_.flatMap spC)[((0 + Int.toNat (n_0 : Int) * 2) + 1)]? = some (nI (L1_.getD n_0 zeroSp).2)) /\ (((decide ((n : Int) <= (L1_.getD n_0 zeroSp).2)) = true -> (.bool true : Value) = sp) /\ ((decide ((n : Int) <= (L1_.getD n_0 zeroSp).2)) = false -> (khd n_0 L1_ n)))))) /\ ((decide (((L1_.getD n_0 zeroSp).1 : Int) <= n)) = false -> (khd n_0 L1_ n)))))) /\ ((decide (((n_0 : Int) : Int) < ((L1_.length : Nat) : Int))) = false -> kho = sp)))
theorem Ecovers (sp : Value) (L1_ : List (Int × Int)) (n : Int) : vF prog msk (dm 0) 100000 true 40 true 21 [slQ 0 2 L1_.length,nI n] (readsT 0 [L1_.flatMap spC]) (some [])
 (.go 1 (.inv 3 (Nat) (0) [] [] (fun n_0 => [(5,nI (n_0 : Int)),(1,nI n),(0,slQ 0 2 L1_.length)]) (fun n_0 => []) (fun n_0 => []) (fun n_0 => []) (fun n_0 => (n_0 <= List.length L1_ /\ notF (L1_.take n_0) n = false)) (fun n_0 => (List.length L1_ - n_0)) (fun n_0 => .go 3 (.fork (.go 1 (.need (.go 0 (.val (nI (L1_.getD n_0 zeroSp).1) (.go 2 (.gfork (.go 2 (.need (.go 0 (.val (nI (L1_.getD n_0 zeroSp).2) (.go 1 (kh4 11 n_0)))))) (.go 3 (.slot 11 (nI ((n_0 : Int) + 1)) (.go 0 (.again [])))))))))) (.auto)))))
 (fun v _ _ => v = sp) = Rcovers sp L1_ n:=by kernel_rfl
abbrev khe (L : List Int) : Value:=.agg ⟨(L.flatMap intC)⟩
abbrev khl (qd0 : List Int) : Value:=.agg ⟨(qd0.flatMap intC)⟩
abbrev kha (qd0 : List Int) : KObj:=.cells true 0 [.iface (qd0.length + 1) (khl qd0),nI (0 + 1)]
abbrev khp (L : List Int) : List Value:=[.iface (L.length + 1) (khe L),nI (0 + 1)]
abbrev kh8 (qd0 : List Int) : KObj:=.cells true 0 [.iface (qd0.length + 1) (khl qd0),nI ((0 + 1) + 1)]
abbrev khb (qd0 : List Int) : KObj:=.cells true 0 [.iface (qd0.length + 1) (khl qd0),nI (wtN 0)]
abbrev kh0 (qd0 : List Int) (qn0 : Nat) : KObj:=.cells true 0 [.iface (qd0.length + 1) (khl qd0),nI (wtN qn0)]
abbrev kh6 (qd0 : List Int) (qn0 : Nat) : Prop:=(wtLand qd0 qn0).length <= (wtLand qd0 qn0).length /\ 0 + (wtLand qd0 qn0).length * 1 <= List.length ((wtLand qd0 qn0).flatMap boolC)
abbrev khn (L : List Int) (n_0 : Nat) : List Value:=[.bool (((dN L (wtN n_0) 7) : Int) == 0)]
abbrev kh1 (qn0 : Nat) (qn1 : Nat) : Prop:=(nI ((qn0 : Int) + 1) : Value) = nI (qn1 : Int) /\ (.pointer (some ⟨0,0,none⟩) : Value) = .pointer (some ⟨0,0,none⟩) /\ (.pointer (some ⟨1,0,none⟩) : Value) = .pointer (some ⟨1,0,none⟩) /\ (.pointer (some ⟨2,0,none⟩) : Value) = .pointer (some ⟨2,0,none⟩) /\ True
abbrev kh5 (qd0 : List Int) (qn0 : Nat) : KObj:=.cells true 0 [nI (wtW qd0 0),nI (wtH qd0 0),.slice (some ⟨5,0,none⟩) ((wtLand qd0 qn0).length + 1) ((wtLand qd0 qn0).length + 1)]
abbrev khc (qd0 : List Int) (qn0 : Nat):=rno (sg 3 [(3,5)]) 3 (.cells true 0 [nI (wtW qd0 0),nI (wtH qd0 0),slQ 3 1 (wtLand qd0 qn0).length] : KObj)
abbrev khj (L : List Int) (n_1' : Nat) : KObj:=.cells true 1 ((wtLand L n_1').flatMap boolC)
abbrev khq : List Value:=[.bool false]
abbrev khi (L : List Int):=wtLand L (wtW L 0 * wtH L 0).toNat
abbrev kh7 (qd0 : List Int) : KObj:=.cells true 0 [.iface (qd0.length + 1) (khl qd0),nI (wtN (wtW qd0 0 * wtH qd0 0).toNat)]
def Rwaters (L : List Int) : Prop :=
 (((someR (.cells true 0 [.iface (L.length + 1) (khe L),nI 0])) /\ True) /\ (∀ H' : Heap,H'.length = 2 -> (H'[0]? = some (.cells true 0 [.iface (L.length + 1) (khe L),nI 0] : KObj) /\ True) -> KCall prog 27 [.pointer (some ⟨0,0,none⟩),nI 5] H' [0] (Is (nI (dN L 0 5)) (List.set H' 0 (kha L)))) /\ ((nI (IntKind.wrap .i64 (2 + (dN L 0 5))) : Value) = nI (2 + (dN L 0 5)) /\ (((someR (.cells true 0 (khp L))) /\ True) /\ (∀ H' : Heap,H'.length = 2 -> (H'[0]? = some (kha L) /\ True) -> KCall prog 27 [.pointer (some ⟨0,0,none⟩),nI 4] H' [0] (Is (nI (dN L (0 + 1) 4)) (List.set H' 0 (kh8 L)))) /\ ((nI (IntKind.wrap .i64 (2 + (dN L (0 + 1) 4))) : Value) = nI (2 + (dN L (0 + 1) 4)) /\ (true = true /\ (0 <= Int.toNat (wtW L 0 * wtH L 0)) /\ (true = true /\ ((nI 0 : Value) = nI ((0 : Nat) : Int) /\ (.pointer (some ⟨0,0,none⟩) : Value) = .pointer (some ⟨0,0,none⟩) /\ (.pointer (some ⟨1,0,none⟩) : Value) = .pointer (some ⟨1,0,none⟩) /\ (.pointer (some ⟨2,0,none⟩) : Value) = .pointer (some ⟨2,0,none⟩) /\ True) /\ (wkO (.cells true 0 [nI (2 + (dN L 0 5)),nI (2 + (dN L (0 + 1) 4)),.slice none 0 0] : KObj) (rno (sg 3 []) 3 (.cells true 0 [nI (wtW L 0),nI (wtH L 0),slQ 3 1 (wtLand L 0).length] : KObj)) /\ (some (kh8 L) = some (khb L) /\ belowO 3 (khb L) = true) /\ True) /\ (True /\ True) /\ (True)) /\ khk /\ ∀ n_0 : Nat,(n_0 <= Int.toNat (wtW L 0 * wtH L 0)) -> ((nI (IntKind.wrap .i64 ((wtW L 0) * (wtH L 0))) : Value) = nI ((wtW L 0) * (wtH L 0)) /\ (((decide (((n_0 : Int) : Int) < ((wtW L 0) * (wtH L 0)))) = true -> (((decide ((0 : Int) < (n_0 : Int))) = true -> (((someR (.cells true 0 [.iface (L.length + 1) (khe L),nI (wtN n_0)])) /\ True) /\ (∀ H' : Heap,H'.length = 4 -> (H'[0]? = some (kh0 L n_0) /\ True) -> KCall prog 27 [.pointer (some ⟨0,0,none⟩),nI 7] H' [0] (Is (nI (dN L (wtN n_0) 7)) (List.set H' 0 (.cells true 0 [.iface (L.length + 1) (khe L),nI ((wtN n_0) + 1)] : KObj)))) /\ ((((wtLand L n_0).length + 1) * 1 <= 2 ^ 44 /\ 1 ≠ 0 /\ (kh6 L n_0) /\ (1 <= 1 /\ 0 + 1 * 1 <= List.length (khn L n_0)) /\ ((((khn L n_0).drop 0).take (1 * 1)) : List Value).all (fun v => one1 v) = true) /\ true = true /\ ((khf n_0) = nI ((n_0 : Int) + 1) /\ (∃ n_1' : Nat,(n_1' <= Int.toNat (wtW L 0 * wtH L 0)) /\ (Int.toNat (wtW L 0 * wtH L 0) - n_1') < (Int.toNat (wtW L 0 * wtH L 0) - n_0) /\ true = true /\ (kh1 n_0 n_1') /\ (wkO (kh5 L n_0) (khc L n_1') /\ (some (.cells true 0 [.iface (L.length + 1) (khe L),nI ((wtN n_0) + 1)] : KObj) = some (kh0 L n_1') /\ belowO 3 (kh0 L n_1') = true) /\ True) /\ ((some (.cells true 1 (((((wtLand L n_0).flatMap boolC).drop 0).take ((wtLand L n_0).length * 1)) ++ (((khn L n_0).drop 0).take (1 * 1))) : KObj) = some (khj L n_1') /\ belowO 3 (khj L n_1') = true) /\ True) /\ (True)))))) /\ ((decide ((0 : Int) < (n_0 : Int))) = false -> ((((wtLand L n_0).length + 1) * 1 <= 2 ^ 44 /\ 1 ≠ 0 /\ (kh6 L n_0) /\ (1 <= 1 /\ 0 + 1 * 1 <= List.length khq) /\ (((khq.drop 0).take (1 * 1)) : List Value).all (fun v => one1 v) = true) /\ true = true /\ ((khf n_0) = nI ((n_0 : Int) + 1) /\ (∃ n_1' : Nat,(n_1' <= Int.toNat (wtW L 0 * wtH L 0)) /\ (Int.toNat (wtW L 0 * wtH L 0) - n_1') < (Int.toNat (wtW L 0 * wtH L 0) - n_0) /\ true = true /\ (kh1 n_0 n_1') /\ (wkO (kh5 L n_0) (khc L n_1') /\ (some (kh0 L n_0) = some (kh0 L n_1') /\ belowO 3 (kh0 L n_1') = true) /\ True) /\ ((some (.cells true 1 (((((wtLand L n_0).flatMap boolC).drop 0).take ((wtLand L n_0).length * 1)) ++ ((khq.drop 0).take (1 * 1))) : KObj) = some (khj L n_1') /\ belowO 3 (khj L n_1') = true) /\ True) /\ (True))))))) /\ ((decide (((n_0 : Int) : Int) < ((wtW L 0) * (wtH L 0)))) = false -> (true = true /\ wk (.agg #[nI (wtW L 0),nI (wtH L 0),slQ 3 1 (wtLand L n_0).length] : Value) (rn (sg 1 [(1,3)]) 3 (.agg #[nI (wtW L 0),nI (wtH L 0),slQ 1 1 (khi L).length] : Value)) /\ ((some (kh0 L n_0) = some (kh7 L) /\ belowO 1 (kh7 L) = true) /\ True) /\ ((some (.cells true 1 ((wtLand L n_0).flatMap boolC) : KObj) = some (.cells true 1 ((khi L).flatMap boolC) : KObj) /\ belowO 1 (.cells true 1 ((khi L).flatMap boolC) : KObj) = true) /\ True))))))))))
abbrev khr (n_0 : Nat) : Hint:=.need (.go 3 (.slot 20 (nI ((n_0 : Int) + 1)) (.go 0 (.again [(3,5)]))))
theorem Ewaters (L : List Int) : vF prog msk (dm 0) 100000 true 40 true 15 [.pointer (some ⟨0,0,none⟩)] (readsW 0 0 (digC L 0) []) (some [0])
 (.go 1 (.answ [(0,.cells true 0 [.iface (L.length + 1) (khe L),nI 0])] (nI (dN L 0 5)) [(0,.cells true 0 (khp L))] [] (.go 0 (.slot 7 (nI (2 + (dN L 0 5))) (.go 0 (.answ [(0,.cells true 0 (khp L))] (nI (dN L (0 + 1) 4)) [(0,.cells true 0 [.iface (L.length + 1) (khe L),nI ((0 + 1) + 1)])] [] (.go 0 (.slot 10 (nI (2 + (dN L (0 + 1) 4))) (.go 3 (.inv 3 (Nat) (0) [] [2,0] (fun n_0 => [(4,nI (n_0 : Int)),(0,.pointer (some ⟨0,0,none⟩)),(2,.pointer (some ⟨1,0,none⟩)),(3,.pointer (some ⟨2,0,none⟩))]) (fun n_0 => [(2,false,.cells true 0 [nI (wtW L 0),nI (wtH L 0),slQ 3 1 (wtLand L n_0).length]),(0,true,.cells true 0 [.iface (L.length + 1) (khe L),nI (wtN n_0)])]) (fun n_0 => [(true,.cells true 1 ((wtLand L n_0).flatMap boolC))]) (fun n_0 => []) (fun n_0 => (n_0 <= Int.toNat (wtW L 0 * wtH L 0))) (fun n_0 => (Int.toNat (wtW L 0 * wtH L 0) - n_0)) (fun n_0 => .go 5 (.slot 17 (nI ((wtW L 0) * (wtH L 0))) (.go 0 (.fork (.go 4 (.gfork (.go 0 (.answ [(0,.cells true 0 [.iface (L.length + 1) (khe L),nI (wtN n_0)])] (nI (dN L (wtN n_0) 7)) [(0,.cells true 0 [.iface (L.length + 1) (khe L),nI ((wtN n_0) + 1)])] [] (.go 2 (khr n_0)))) (.go 1 (khr n_0)))) (.go 1 (.keep (.again [(1,3)])))))))))))))))))
 (newKW ((readsW 0 0 (digC L 0) []) : HT).n 3 0 (.cells true 0 [.iface (L.length + 1) (khe L),nI (wtN (wtW L 0 * wtH L 0).toNat)]) (.agg #[nI (wtW L 0),nI (wtH L 0),slQ 1 1 (khi L).length]) [(true,.cells true 1 ((khi L).flatMap boolC))]) = Rwaters L:=by kernel_rfl
end
end Go.Proofs.YtbgfjemppjhmjaaGreat
/- Radio: has, covers, same numbers; a basin made of numbers. No condition. -/
namespace Go.Proofs.YtbgfjemppjhmjaaGreat
open Go Go.K
set_option maxRecDepth 100000
set_option linter.unusedVariables false
set_option linter.unusedSimpArgs false
noncomputable section
attribute [local irreducible] vF
theorem any_succ {α : Type} {p : α -> Bool} {l : List α} {x : Nat} {d : α} (hx : x < l.length) (h : (l.take x).any p = false) (h1 : p (l.getD x d) = false) : (l.take (x + 1)).any p = false := by
 rw [List.take_succ_eq_append_getElem hx, List.any_append, h, List.any_cons]
 rw [show l.getD x d = l[x] from by simp [List.getD_eq_getElem?_getD, hx]] at h1
 rw [h1]; rfl
theorem any_yes {α : Type} {p : α -> Bool} {l : List α} {x : Nat} {d : α} (hx : x < l.length) (h1 : p (l.getD x d) = true) : l.any p = true := List.any_eq_true.2 ⟨_, getD_mem (d := d) hx, h1⟩
theorem kHas (L : List Int) (n : Int) (hl : L.length <= 1000000) {H : Heap} {id : Nat} {own : Bool} {z : Nat} (hid : H[id]? = some (.cells own z (L.flatMap intC))) :
  KCall prog 20 [.slice (some ⟨id, 0, some 2⟩) L.length L.length, .int .i64 n] H [] (Is (.bool (L.any fun v => v == n)) H) := by
 refine valRx (css := [L.flatMap intC]) (v := .bool (L.any fun v => v == n)) (ids := [id]) (Eq.mpr (Ehas _ L n) ?_) ⟨plainIL _ _, trivial⟩ rfl ⟨⟨_, _, hid⟩, trivial⟩ rfl
 delta Rhas khm khh khk kh9 khg kh3 kh2 khf kho
 refine ⟨rfl, ⟨Nat.zero_le _, rfl⟩, ?_, fun _ => rfl, fun x hx => ⟨fun k => ?_, fun k => ?_⟩⟩
 ·repeat' first | exact rfl | exact wk_refl _ | refine wkO_cells ?_ | exact wks_nil | exact wk_nil _ _ _ (.inl rfl) | apply And.intro
 ·have h1 : x < L.length := by have := of_decide_eq_true k; omega
  refine ⟨⟨by omega, by omega⟩, intAt h1 (by omega), fun b => ?_, fun b => ?_⟩
  ·rw [any_yes (d := 0) h1 b]
  ·refine ⟨vI64 (by omega), x + 1, ⟨by omega, any_succ (d := 0) h1 hx.2 b⟩, by omega, rfl, ?_⟩
   repeat' first | exact rfl | exact wk_refl _ | refine wkO_cells ?_ | exact wks_nil | exact wk_nil _ _ _ (.inl rfl) | apply And.intro
 ·have h1 : x = L.length := by have := of_decide_eq_false k; omega
  have := hx.2
  rw [h1, List.take_length] at this
  rw [this]
theorem kCovers (L : List (Int × Int)) (n : Int) (hl : L.length <= 1000000) {H : Heap} {id : Nat} {own : Bool} {z : Nat} (hid : H[id]? = some (.cells own z (L.flatMap spC))) :
  KCall prog 21 [.slice (some ⟨id, 0, some 2⟩) L.length L.length, .int .i64 n] H [] (Is (.bool (notF L n)) H) := by
 refine valRx (css := [L.flatMap spC]) (v := .bool (notF L n)) (ids := [id]) (Eq.mpr (Ecovers _ L n) ?_) ⟨plainSp _ _, trivial⟩ rfl ⟨⟨_, _, hid⟩, trivial⟩ rfl
 delta Rcovers khh khk khf khd kho
 refine ⟨rfl, ⟨Nat.zero_le _, rfl⟩, ?_, fun _ => rfl, fun x hx => ⟨fun k => ?_, fun k => ?_⟩⟩
 ·repeat' first | exact rfl | exact wk_refl _ | refine wkO_cells ?_ | exact wks_nil | exact wk_nil _ _ _ (.inl rfl) | apply And.intro
 ·have h1 : x < L.length := by have := of_decide_eq_true k; omega
  refine ⟨⟨by omega, by omega⟩, spAt0 h1 (by omega), fun b => ⟨⟨by omega, by omega⟩, spAt1 h1 (by omega), fun c => ?_, fun c => ?_⟩, fun b => ?_⟩
  ·have e : notF L n = true := any_yes (d := zeroSp) h1 (by rw [b, c]; rfl)
   rw [e]
  ·refine ⟨vI64 (by omega), x + 1, ⟨by omega, any_succ (d := zeroSp) h1 hx.2 (by rw [b, c]; rfl)⟩, by omega, rfl, ?_⟩
   repeat' first | exact rfl | exact wk_refl _ | refine wkO_cells ?_ | exact wks_nil | exact wk_nil _ _ _ (.inl rfl) | apply And.intro
  ·refine ⟨vI64 (by omega), x + 1, ⟨by omega, any_succ (d := zeroSp) h1 hx.2 (by rw [b]; rfl)⟩, by omega, rfl, ?_⟩
   repeat' first | exact rfl | exact wk_refl _ | refine wkO_cells ?_ | exact wks_nil | exact wk_nil _ _ _ (.inl rfl) | apply And.intro
 ·have h1 : x = L.length := by have := of_decide_eq_false k; omega
  have := hx.2
  rw [h1, List.take_length] at this
  rw [this]
theorem wtW_bd (L : List Int) (n : Int) : 2 <= wtW L n /\ wtW L n <= 6 := by have := dN_bd L n (m := 5) (by omega); unfold wtW; omega
theorem wtH_bd (L : List Int) (n : Int) : 2 <= wtH L n /\ wtH L n <= 5 := by have := dN_bd L (n + 1) (m := 4) (by omega); unfold wtH; omega
theorem wtWH_bd (L : List Int) (n : Int) : 4 <= wtW L n * wtH L n /\ wtW L n * wtH L n <= 30 := by
 have h1 := wtW_bd L n
 have h2 := wtH_bd L n
 have h3 : 2 * 2 <= wtW L n * wtH L n := Int.mul_le_mul h1.1 h2.1 (by omega) (by omega)
 have h4 : wtW L n * wtH L n <= 6 * 5 := Int.mul_le_mul h1.2 h2.2 (by omega) (by omega)
 omega
theorem wtLand_len (L : List Int) (k : Nat) : (wtLand L k).length = k := tabP_len ..
theorem wtLand_succ (L : List Int) (k : Nat) : wtLand L (k + 1) = wtLand L k ++ [decide (0 < k) && decide (dN L ((k : Int) + 1) 7 = 0)] := tabP_succ ..
theorem blB (n : Nat) (l : List Bool) : belowO n (.cells true 1 (l.flatMap boolC)) = true := plainBL n l
theorem digB (n : Nat) (L : List Int) (k : Int) : belowO n (.cells true 0 (digC L k)) = true := plainDig n L k
theorem dig_eq {L : List Int} {a b : Int} (h : a = b) : (some (KObj.cells true 0 [.iface (L.length + 1) (.agg ⟨L.flatMap intC⟩), .int .i64 a]) : Option KObj) = some (.cells true 0 [.iface (L.length + 1) (.agg ⟨L.flatMap intC⟩), .int .i64 b]) := by rw [h]
theorem hvWaters (L : List Int) : Rwaters L := by
 have hw := wtW_bd L 0
 have hh := wtH_bd L 0
 have hwh := wtWH_bd L 0
 have b1 := dN_bd L 0 (m := 5) (by omega)
 have b2 := dN_bd L (0 + 1) (m := 4) (by omega)
 have kN : ∀ (q : Int) (m : Int) (c : Nat), (0 <= q /\ q <= 1000000000) -> (1 <= m /\ m <= 1000000000) -> ∀ H' : Heap, H'.length = c -> (H'[0]? = some (.cells true 0 (digC L q)) /\ True) -> KCall prog 27 [.pointer (some ⟨0, 0, none⟩), .int .i64 m] H' [0] (Is (.int .i64 (dN L q m)) (List.set H' 0 (.cells true 0 (digC L (q + 1))))) :=
  fun q m c h1 h2 H' _ h => kNext L q m h1 h2 h.1
 delta Rwaters khe khl kha khp kh8 khb khk kh0 kh6 khn khf kh1 kh5 khc khj khq khi kh7
 refine ⟨⟨rfl, trivial⟩, kN _ _ _ (by omega) (by omega), vI64 (by omega), ⟨rfl, trivial⟩, kN _ _ _ (by omega) (by omega), vI64 (by omega), rfl, Nat.zero_le _, ?_, fun _ => rfl, fun x hx => ⟨vI64 (by omega), fun k => ⟨fun k0 => ?_, fun k0 => ?_⟩, fun k => ?_⟩⟩
 ·repeat' first | exact wk_nil _ _ _ (.inl rfl) | exact digB _ _ _ | exact rfl | exact wk_refl _ | refine wkO_cells ?_ | exact wks_nil | exact wk_nil _ _ _ (.inl rfl) | apply And.intro
 ·have h1 : 0 < x := by have := of_decide_eq_true k0; omega
  have h2 : (x : Int) < wtW L 0 * wtH L 0 := of_decide_eq_true k
  have hl := wtLand_len L x
  have en : wtN x = (x : Int) + 1 := by unfold wtN; omega
  have en2 : wtN x + 1 = wtN (x + 1) := by unfold wtN; omega
  have es : wtLand L (x + 1) = wtLand L x ++ [dN L (wtN x) 7 == 0] := by
   rw [wtLand_succ, en, decide_eq_true h1, Bool.true_and]; rfl
  refine ⟨⟨rfl, trivial⟩, kN _ _ _ (by unfold wtN; omega) (by omega), ⟨by omega, by decide, ⟨Nat.le_refl _, by rw [flat_len boolC_len]; omega⟩, ⟨Nat.le_refl _, by simp⟩, rfl⟩, rfl, vI64 (by omega), x + 1, by omega, by omega, rfl, ?_⟩
  repeat' first | exact wk_snoc es | exact ob_snoc boolC_len es rfl | exact blB _ _ | exact digB _ _ _ | exact dig_eq en2 | exact rfl | exact wk_refl _ | refine wkO_cells ?_ | exact wks_nil | exact wk_nil _ _ _ (.inl rfl) | apply And.intro
 ·have h1 : x = 0 := by have := of_decide_eq_false k0; omega
  have hl := wtLand_len L x
  have en2 : wtN x = wtN (x + 1) := by unfold wtN; omega
  have es : wtLand L (x + 1) = wtLand L x ++ [false] := by
   rw [wtLand_succ, decide_eq_false (by omega)]; rfl
  refine ⟨⟨by omega, by decide, ⟨Nat.le_refl _, by rw [flat_len boolC_len]; omega⟩, ⟨Nat.le_refl _, by simp⟩, rfl⟩, rfl, vI64 (by omega), x + 1, by omega, by omega, rfl, ?_⟩
  repeat' first | exact wk_snoc es | exact ob_snoc boolC_len es rfl | exact blB _ _ | exact digB _ _ _ | exact dig_eq en2 | exact rfl | exact wk_refl _ | refine wkO_cells ?_ | exact wks_nil | exact wk_nil _ _ _ (.inl rfl) | apply And.intro
 ·have h1 : x = Int.toNat (wtW L 0 * wtH L 0) := by have := of_decide_eq_false k; omega
  rw [h1]
  repeat' first | exact blB _ _ | exact digB _ _ _ | exact rfl | exact wk_refl _ | refine wkO_cells ?_ | exact wks_nil | exact wk_nil _ _ _ (.inl rfl) | apply And.intro
abbrev wtLd (L : List Int) : List Bool := wtLand L (Int.toNat (wtW L 0 * wtH L 0))
theorem kWaters (L : List Int) {H : Heap} {D : Nat} (hD : H[D]? = some (.cells true 0 (digC L 0))) :
  KCall prog 15 [.pointer (some ⟨D, 0, none⟩)] H [D] (Is (.agg #[.int .i64 (wtW L 0), .int .i64 (wtH L 0), .slice (some ⟨H.length, 0, some 1⟩) (wtLd L).length (wtLd L).length]) (H.set D (.cells true 0 (digC L (wtN (Int.toNat (wtW L 0 * wtH L 0))))) ++ [.cells true 1 ((wtLd L).flatMap boolC)])) :=
 valW (fun j => .agg #[.int .i64 (wtW L 0), .int .i64 (wtH L 0), .slice (some ⟨j, 0, some 1⟩) (wtLd L).length (wtLd L).length]) (css := []) (new := [.cells true 1 ((wtLd L).flatMap boolC)]) (Eq.mpr (Ewaters L) (hvWaters L)) (plainDig 0 L _) (plainDig 0 L _) trivial
  ⟨⟨_, _, rfl, plainBL _ _⟩, trivial⟩ rfl rfl (fun _ => rfl) hD (ids := []) trivial (by simp) rfl
end
end Go.Proofs.YtbgfjemppjhmjaaGreat
/- What is to be shown of functions. Printed by a program. No condition. -/
namespace Go.Proofs.YtbgfjemppjhmjaaGreat
set_option linter.unusedSimpArgs false
open Go Go.K
set_option maxRecDepth 100000
set_option maxHeartbeats 4000000
set_option linter.unusedVariables false
noncomputable section
abbrev kf5 (p : Int) : Prop:=(nI 120 : Value) = nI 120 /\ (nI p : Value) = nI p /\ (.pointer (some ⟨0,0,none⟩) : Value) = .pointer (some ⟨0,0,none⟩) /\ (.pointer (some ⟨2,0,none⟩) : Value) = .pointer (some ⟨2,0,none⟩) /\ (.slice none 0 0 : Value) = .slice none 0 0 /\ True
abbrev kf7 (L : List Int) : Value:=.agg ⟨(L.flatMap intC)⟩
abbrev kfd (x0 : Sl):=List.length x0.at_
abbrev kfi (L : List Int) (x0 : Sl) : List Value:=[.iface (L.length + 1) (kf7 L),nI x0.q]
abbrev kfa (L : List Int) (x0 : Sl) : List Value:=[.iface (L.length + 1) (kf7 L),nI (x0.q + 1)]
abbrev kfl (L : List Int) (x0 : Sl) : List Value:=[.iface (L.length + 1) (kf7 L),nI ((x0.q + 1) + 1)]
abbrev kf3 : List Int:=[1,0,-1,0]
abbrev kf4 (L : List Int) (x0 : Sl):=kf3.getD (dN L (x0.q + 1) 4).toNat 0
abbrev kf1 : List Int:=[0,1,0,-1]
abbrev kf2 (L : List Int) (x0 : Sl):=kf1.getD (dN L (x0.q + 1) 4).toNat 0
abbrev kfb (x0 : Sl) (w : Int):=Int.tmod x0.now w
abbrev kf8 (x0 : Sl) (w : Int):=Int.tdiv x0.now w
abbrev kf9 (a : List Bool) (x0 : Sl) (w : Int) (L : List Int):=a.getD ((((kf8 x0 w) + (kf2 L x0)) * w) + ((kfb x0 w) + (kf4 L x0))).toNat false
abbrev kf6 (p : Int) (x0 : Sl) (w : Int) (L : List Int) : Prop:=(.slice none 0 0 : Value) = .slice none 0 0 /\ (.pointer (some ⟨2,0,none⟩) : Value) = .pointer (some ⟨2,0,none⟩) /\ (.pointer (some ⟨0,0,none⟩) : Value) = .pointer (some ⟨0,0,none⟩) /\ (nI p : Value) = nI p /\ (nI 120 : Value) = nI 120 /\ (nI x0.now : Value) = nI x0.now /\ (.pointer (some ⟨6,0,none⟩) : Value) = .pointer (some ⟨6,0,none⟩) /\ (nI ((kfb x0 w) + (kf4 L x0)) : Value) = nI ((kfb x0 w) + (kf4 L x0)) /\ (nI ((kf8 x0 w) + (kf2 L x0)) : Value) = nI ((kf8 x0 w) + (kf2 L x0)) /\ True
abbrev kfj (x0 : Sl):=List.flatMap intC x0.at_
abbrev kfh (x0 : Sl) (n_0 : Nat) : Prop:=(slPut x0 n_0).length <= (slPut x0 n_0).length /\ 0 + (slPut x0 n_0).length * 1 <= List.length ((slPut x0 n_0).flatMap intC)
abbrev kfk (x0 : Sl) (n_0 : Nat) : Value:=.slice (some ⟨9,0,none⟩) ((slPut x0 n_0).length + 1) ((slPut x0 n_0).length + 1)
abbrev kfg (x0 : Sl) (w : Int) (L : List Int) : List Value:=[nI ((((kf8 x0 w) + (kf2 L x0)) * w) + ((kfb x0 w) + (kf4 L x0)))]
abbrev kfc (L : List Int) (x0' : Sl) : KObj:=.cells true 0 [.iface (L.length + 1) (kf7 L),nI x0'.q]
abbrev kff (x0' : Sl) : KObj:=.cells true 1 (List.flatMap intC x0'.at_)
abbrev kf0 (x0 : Sl) (L : List Int) (w : Int) (h : Int) (a : List Bool) (p : Int) (q : Int) : Prop:=(((kfd x0) + 1) * 8 <= 2 ^ 44 /\ 1 ≠ 0 /\ ((kfd x0) <= (kfd x0) /\ 0 + (kfd x0) * 1 <= List.length (kfj x0)) /\ (1 <= 1 /\ 0 + 1 * 1 <= List.length ([nI x0.now] : List Value)) /\ (((([nI x0.now] : List Value).drop 0).take (1 * 1)) : List Value).all (fun v => one1 v) = true) /\ true = true /\ (∃ x0' : Sl,(SlI L w h a p q x0') /\ (400 - List.length x0'.at_) < (400 - List.length x0.at_) /\ true = true /\ ((nI x0.now : Value) = nI x0'.now /\ wk (.slice (some ⟨8,0,none⟩) ((kfd x0) + 1) ((kfd x0) + 1) : Value) (slQ 8 1 (List.length x0'.at_) : Value) /\ kf5 p) /\ ((some (.cells true 0 (kfl L x0) : KObj) = some (kfc L x0') /\ belowO 4 (kfc L x0') = true) /\ True /\ True) /\ ((some (.cells true 1 ((((kfj x0).drop 0).take ((kfd x0) * 1)) ++ ((([nI x0.now] : List Value).drop 0).take (1 * 1))) : KObj) = some (kff x0') /\ belowO 4 (kff x0') = true) /\ True) /\ (True))
def Rsails (L : List Int) (z : Nat) (w h : Int) (a : List Bool) (p q : Int) : Prop :=
 (true = true /\ (SlI L w h a p q (Sl.mk 0 q [0])) /\ (true = true /\ ((nI 0 : Value) = nI (Sl.mk 0 q [0]).now /\ wk (.slice (some ⟨3,0,none⟩) 1 1 : Value) (slQ 3 1 (List.length (Sl.mk 0 q [0]).at_) : Value) /\ kf5 p) /\ ((some (.cells true 0 [.iface (L.length + 1) (kf7 L),nI q] : KObj) = some (.cells true 0 [.iface (L.length + 1) (kf7 L),nI (Sl.mk 0 q [0]).q] : KObj) /\ belowO 4 (.cells true 0 [.iface (L.length + 1) (kf7 L),nI (Sl.mk 0 q [0]).q] : KObj) = true) /\ True /\ True) /\ ((some (.cells true 1 [nI 0] : KObj) = some (.cells true 1 (List.flatMap intC (Sl.mk 0 q [0]).at_) : KObj) /\ belowO 4 (.cells true 1 (List.flatMap intC (Sl.mk 0 q [0]).at_) : KObj) = true) /\ True) /\ (True)) /\ (∀ x0 : Sl,true = true) /\ ∀ x0 : Sl,(SlI L w h a p q x0) -> (((decide (((((kfd x0) : Nat) : Int) : Int) <= 120)) = true -> (((someR (.cells true 0 (kfi L x0))) /\ True) /\ (∀ H' : Heap,H'.length = 5 -> (H'[0]? = some (.cells true 0 (kfi L x0) : KObj) /\ True) -> KCall prog 27 [.pointer (some ⟨0,0,none⟩),nI 3] H' [0] (Is (nI (dN L x0.q 3)) (List.set H' 0 (.cells true 0 (kfa L x0) : KObj)))) /\ (((decide ((0 : Int) < (dN L x0.q 3))) = true -> (((someR (.cells true 0 (kfa L x0))) /\ True) /\ (∀ H' : Heap,H'.length = 6 -> (H'[0]? = some (.cells true 0 (kfa L x0) : KObj) /\ True) -> KCall prog 27 [.pointer (some ⟨0,0,none⟩),nI 4] H' [0] (Is (nI (dN L (x0.q + 1) 4)) (List.set H' 0 (.cells true 0 (kfl L x0) : KObj)))) /\ (((0 : Int) <= (dN L (x0.q + 1) 4) /\ ((dN L (x0.q + 1) 4) : Int) < ((4 : Nat) : Int)) /\ ((partA 2 ([nI 1,nI 0,nI 0,nI 1,nI (-1),nI 0,nI 0,nI (-1)] : List Value) (0 + Int.toNat (dN L (x0.q + 1) 4) * 2) = some (.agg #[nI (kf4 L x0),nI (kf2 L x0)])) /\ (((w : Int) ≠ 0) /\ ((nI (IntKind.wrap .i64 ((kfb x0 w) + (kf4 L x0))) : Value) = nI ((kfb x0 w) + (kf4 L x0)) /\ (((w : Int) ≠ 0) /\ ((nI (IntKind.wrap .i64 (kf8 x0 w)) : Value) = nI (kf8 x0 w) /\ ((nI (IntKind.wrap .i64 ((kf8 x0 w) + (kf2 L x0))) : Value) = nI ((kf8 x0 w) + (kf2 L x0)) /\ (((decide ((0 : Int) <= ((kfb x0 w) + (kf4 L x0)))) = true -> (((decide ((((kfb x0 w) + (kf4 L x0)) : Int) < w)) = true -> (((decide ((0 : Int) <= ((kf8 x0 w) + (kf2 L x0)))) = true -> (((decide ((((kf8 x0 w) + (kf2 L x0)) : Int) < h)) = true -> ((nI (IntKind.wrap .i64 (((kf8 x0 w) + (kf2 L x0)) * w)) : Value) = nI (((kf8 x0 w) + (kf2 L x0)) * w) /\ ((nI (IntKind.wrap .i64 ((((kf8 x0 w) + (kf2 L x0)) * w) + ((kfb x0 w) + (kf4 L x0)))) : Value) = nI ((((kf8 x0 w) + (kf2 L x0)) * w) + ((kfb x0 w) + (kf4 L x0))) /\ (((0 : Int) <= ((((kf8 x0 w) + (kf2 L x0)) * w) + ((kfb x0 w) + (kf4 L x0))) /\ (((((kf8 x0 w) + (kf2 L x0)) * w) + ((kfb x0 w) + (kf4 L x0))) : Int) < ((a.length : Nat) : Int)) /\ (((a.flatMap boolC)[(0 + Int.toNat ((((kf8 x0 w) + (kf2 L x0)) * w) + ((kfb x0 w) + (kf4 L x0))) * 1)]? = some (.bool (kf9 a x0 w L))) /\ (((!(kf9 a x0 w L)) = true -> (true = true /\ (((0 : Nat) : Int) <= p - 1) /\ (true = true /\ ((nI 1 : Value) = nI (((0 : Nat) : Int) + 1) /\ wk (slQ 4 1 (kfd x0) : Value) (slQ 4 1 (slPut x0 0).length : Value) /\ kf6 p x0 w L) /\ (True /\ True) /\ ((some (.cells true 1 (kfj x0) : KObj) = some (.cells true 1 ((slPut x0 0).flatMap intC) : KObj) /\ belowO 7 (.cells true 1 ((slPut x0 0).flatMap intC) : KObj) = true) /\ True) /\ (True)) /\ (∀ n_0 : Nat,true = true) /\ ∀ n_0 : Nat,((n_0 : Int) <= p - 1) -> (((decide ((((n_0 : Int) + 1) : Int) < p)) = true -> ((((slPut x0 n_0).length + 1) * 8 <= 2 ^ 44 /\ 1 ≠ 0 /\ (kfh x0 n_0) /\ (1 <= 1 /\ 0 + 1 * 1 <= List.length ([nI (-1)] : List Value)) /\ (((([nI (-1)] : List Value).drop 0).take (1 * 1)) : List Value).all (fun v => one1 v) = true) /\ true = true /\ ((nI (IntKind.wrap .i64 (((n_0 : Int) + 1) + 1)) : Value) = nI (((n_0 : Int) + 1) + 1) /\ (∃ n_1' : Nat,((n_1' : Int) <= p - 1) /\ (Int.toNat p - n_1') < (Int.toNat p - n_0) /\ true = true /\ ((nI (((n_0 : Int) + 1) + 1) : Value) = nI ((n_1' : Int) + 1) /\ wk (kfk x0 n_0) (slQ 9 1 (slPut x0 n_1').length : Value) /\ kf6 p x0 w L) /\ (True /\ True) /\ ((some (.cells true 1 (((((slPut x0 n_0).flatMap intC).drop 0).take ((slPut x0 n_0).length * 1)) ++ ((([nI (-1)] : List Value).drop 0).take (1 * 1))) : KObj) = some (.cells true 1 ((slPut x0 n_1').flatMap intC) : KObj) /\ belowO 7 (.cells true 1 ((slPut x0 n_1').flatMap intC) : KObj) = true) /\ True) /\ (True))))) /\ ((decide ((((n_0 : Int) + 1) : Int) < p)) = false -> ((nI (IntKind.wrap .i64 (((kf8 x0 w) + (kf2 L x0)) * w)) : Value) = nI (((kf8 x0 w) + (kf2 L x0)) * w) /\ ((nI (IntKind.wrap .i64 ((((kf8 x0 w) + (kf2 L x0)) * w) + ((kfb x0 w) + (kf4 L x0)))) : Value) = nI ((((kf8 x0 w) + (kf2 L x0)) * w) + ((kfb x0 w) + (kf4 L x0))) /\ ((((slPut x0 n_0).length + 1) * 8 <= 2 ^ 44 /\ 1 ≠ 0 /\ (kfh x0 n_0) /\ (1 <= 1 /\ 0 + 1 * 1 <= List.length (kfg x0 w L)) /\ ((((kfg x0 w L).drop 0).take (1 * 1)) : List Value).all (fun v => one1 v) = true) /\ true = true /\ (∃ x0' : Sl,(SlI L w h a p q x0') /\ (400 - List.length x0'.at_) < (400 - List.length x0.at_) /\ true = true /\ ((nI ((((kf8 x0 w) + (kf2 L x0)) * w) + ((kfb x0 w) + (kf4 L x0))) : Value) = nI x0'.now /\ wk (kfk x0 n_0) (slQ 9 1 (List.length x0'.at_) : Value) /\ kf5 p) /\ ((some (.cells true 0 (kfl L x0) : KObj) = some (kfc L x0') /\ belowO 4 (kfc L x0') = true) /\ True /\ True) /\ ((some (.cells true 1 (((((slPut x0 n_0).flatMap intC).drop 0).take ((slPut x0 n_0).length * 1)) ++ (((kfg x0 w L).drop 0).take (1 * 1))) : KObj) = some (kff x0') /\ belowO 4 (kff x0') = true) /\ True) /\ (True))))))))) /\ ((!(kf9 a x0 w L)) = false -> (kf0 x0 L w h a p q)))))))) /\ ((decide ((((kf8 x0 w) + (kf2 L x0)) : Int) < h)) = false -> (kf0 x0 L w h a p q)))) /\ ((decide ((0 : Int) <= ((kf8 x0 w) + (kf2 L x0)))) = false -> (kf0 x0 L w h a p q)))) /\ ((decide ((((kfb x0 w) + (kf4 L x0)) : Int) < w)) = false -> (kf0 x0 L w h a p q)))) /\ ((decide ((0 : Int) <= ((kfb x0 w) + (kf4 L x0)))) = false -> (kf0 x0 L w h a p q)))))))))))) /\ ((decide ((0 : Int) < (dN L x0.q 3))) = false -> ((((kfd x0) + 1) * 8 <= 2 ^ 44 /\ 1 ≠ 0 /\ ((kfd x0) <= (kfd x0) /\ 0 + (kfd x0) * 1 <= List.length (kfj x0)) /\ (1 <= 1 /\ 0 + 1 * 1 <= List.length ([nI x0.now] : List Value)) /\ (((([nI x0.now] : List Value).drop 0).take (1 * 1)) : List Value).all (fun v => one1 v) = true) /\ true = true /\ (∃ x0' : Sl,(SlI L w h a p q x0') /\ (400 - List.length x0'.at_) < (400 - List.length x0.at_) /\ true = true /\ ((nI x0.now : Value) = nI x0'.now /\ wk (.slice (some ⟨6,0,none⟩) ((kfd x0) + 1) ((kfd x0) + 1) : Value) (slQ 6 1 (List.length x0'.at_) : Value) /\ kf5 p) /\ ((some (.cells true 0 (kfa L x0) : KObj) = some (kfc L x0') /\ belowO 4 (kfc L x0') = true) /\ True /\ True) /\ ((some (.cells true 1 ((((kfj x0).drop 0).take ((kfd x0) * 1)) ++ ((([nI x0.now] : List Value).drop 0).take (1 * 1))) : KObj) = some (kff x0') /\ belowO 4 (kff x0') = true) /\ True) /\ (True))))))) /\ ((decide (((((kfd x0) : Nat) : Int) : Int) <= 120)) = false -> ((((true = false ∨ 1 = 0 ∨ 1 = 1) /\ 121 <= (kfd x0)) /\ ((0 : Int) <= 121 /\ (121 : Int) <= (((kfd x0) : Nat) : Int)) /\ (0 <= 121)) /\ (true = true /\ wk (slQ 4 2 121 : Value) (rn (sg 2 [(2,4)]) 3 (slQ 2 2 121 : Value)) /\ ((some (.cells true 0 (kfi L x0) : KObj) = some (.cells true 0 [.iface (L.length + 1) (kf7 L),nI ((slF L w h a p q).q)] : KObj) /\ belowO 2 (.cells true 0 [.iface (L.length + 1) (kf7 L),nI ((slF L w h a p q).q)] : KObj) = true) /\ True) /\ ((some (.cells true 1 (kfj x0) : KObj) = some (.cells true 1 (List.flatMap intC (slF L w h a p q).at_) : KObj) /\ belowO 2 (.cells true 1 (List.flatMap intC (slF L w h a p q).at_) : KObj) = true) /\ True))))))
abbrev kfe : Hint:=.need (.go 0 (.again [(4,8)]))
theorem Esails (L : List Int) (z : Nat) (w h : Int) (a : List Bool) (p q : Int) : vF prog msk (dm 0) 100000 true 40 true 17 [.pointer (some ⟨0,0,none⟩),.agg #[nI w,nI h,slQ 1 2 a.length],nI p,nI 120] (readsW 0 0 (digC L q) [a.flatMap boolC]) (some [0])
 (.go 4 (.inv 3 (Sl) ((Sl.mk 0 q [0])) [(4,3)] [0,3] (fun x0 => [(10,nI x0.now),(9,slQ 4 1 (kfd x0)),(3,nI 120),(2,nI p),(0,.pointer (some ⟨0,0,none⟩)),(5,.pointer (some ⟨2,0,none⟩)),(8,.slice none 0 0)]) (fun x0 => [(0,true,.cells true 0 (kfi L x0)),(3,false,.dead)]) (fun x0 => [(true,.cells true 1 (kfj x0))]) (fun x0 => []) (fun x0 => (SlI L w h a p q x0)) (fun x0 => (400 - List.length x0.at_)) (fun x0 => .go 3 (.fork (.go 0 (.answ [(0,.cells true 0 (kfi L x0))] (nI (dN L x0.q 3)) [(0,.cells true 0 (kfa L x0))] [] (.go 0 (.fork (.go 5 (.answ [(0,.cells true 0 (kfa L x0))] (nI (dN L (x0.q + 1) 4)) [(0,.cells true 0 (kfl L x0))] [] (.need (.val (.agg #[nI (kf4 L x0),nI (kf2 L x0)]) (.go 4 (.need (.go 2 (.slot 38 (nI ((kfb x0 w) + (kf4 L x0))) (.go 2 (.need (.slot 42 (nI (kf8 x0 w)) (.go 2 (.slot 45 (nI ((kf8 x0 w) + (kf2 L x0))) (.go 4 (.gfork (.go 5 (.gfork (.go 3 (.gfork (.go 5 (.gfork (.go 5 (.slot 70 (nI (((kf8 x0 w) + (kf2 L x0)) * w)) (.go 1 (.slot 72 (nI ((((kf8 x0 w) + (kf2 L x0)) * w) + ((kfb x0 w) + (kf4 L x0)))) (.need (.val (.bool (kf9 a x0 w L)) (.go 1 (.fork (.go 0 (.inv 3 (Nat) (0) [(7,4)] [4] (fun n_0 => [(14,nI ((n_0 : Int) + 1)),(9,slQ 7 1 (slPut x0 n_0).length),(8,.slice none 0 0),(5,.pointer (some ⟨2,0,none⟩)),(0,.pointer (some ⟨0,0,none⟩)),(2,nI p),(3,nI 120),(10,nI x0.now),(11,.pointer (some ⟨6,0,none⟩)),(12,nI ((kfb x0 w) + (kf4 L x0))),(13,nI ((kf8 x0 w) + (kf2 L x0)))]) (fun n_0 => [(4,false,.dead)]) (fun n_0 => [(true,.cells true 1 ((slPut x0 n_0).flatMap intC))]) (fun n_0 => []) (fun n_0 => ((n_0 : Int) <= p - 1)) (fun n_0 => (Int.toNat p - n_0)) (fun n_0 => .go 2 (.fork (.go 1 (.need (.go 2 (.slot 81 (nI (((n_0 : Int) + 1) + 1)) (.go 0 (.again [(7,9)])))))) (.go 3 (.slot 88 (nI (((kf8 x0 w) + (kf2 L x0)) * w)) (.go 1 (.slot 90 (nI ((((kf8 x0 w) + (kf2 L x0)) * w) + ((kfb x0 w) + (kf4 L x0)))) (.go 3 (.need (.go 0 (.again [(4,9)])))))))))))) (.go 2 kfe))))))))) (.go 4 kfe))) (.go 6 kfe))) (.go 8 kfe))) (.go 10 kfe)))))))))))))))) (.go 2 (.need (.go 0 (.again [(4,6)])))))))) (.go 2 (.need (.go 0 (.keep (.again [(2,4)])))))))))
 (newKW ((readsW 0 0 (digC L q) [a.flatMap boolC]) : HT).n 3 0 (.cells true 0 [.iface (L.length + 1) (kf7 L),nI ((slF L w h a p q).q)]) (slQ 2 2 121) [(true,.cells true 1 (List.flatMap intC (slF L w h a p q).at_))]) = Rsails L z w h a p q:=by kernel_rfl
end
end Go.Proofs.YtbgfjemppjhmjaaGreat
/- Radio: ways made of numbers. No condition. -/
namespace Go.Proofs.YtbgfjemppjhmjaaGreat
open Go Go.K
set_option maxRecDepth 100000
set_option linter.unusedVariables false
set_option linter.unusedSimpArgs false
noncomputable section
attribute [local irreducible] vF
theorem slPut_0 (s : Sl) : slPut s 0 = s.at_ := by unfold slPut; simp
theorem slPut_succ (s : Sl) (x : Nat) : slPut s (x + 1) = slPut s x ++ [-1] := by
 unfold slPut
 rw [List.replicate_succ', List.append_assoc]
theorem slPut_len (s : Sl) (x : Nat) : (slPut s x).length = s.at_.length + x := by unfold slPut; rw [List.length_append, List.length_replicate]
theorem slStep_len (L : List Int) (w h : Int) (a : List Bool) (p : Int) (s : Sl) : s.at_.length + 1 <= (slStep L w h a p s).at_.length := by
 unfold slStep
 split
 ·split
  ·dsimp only; rw [List.length_append, slPut_len, List.length_singleton]; omega
  ·dsimp only; rw [List.length_append, List.length_singleton]; omega
 ·dsimp only; rw [List.length_append, List.length_singleton]; omega
theorem slRun_done {L : List Int} {w h : Int} {a : List Bool} {p : Int} {s : Sl} (hs : ¬ s.at_.length <= 120) : ∀ m, slRun L w h a p m s = s
 | 0 => rfl
 | m + 1 => by unfold slRun; rw [if_neg hs]
theorem slI_0 {L : List Int} {w h : Int} {a : List Bool} {p q : Int} (hn : 0 < a.length) (hq : 0 <= q) : SlI L w h a p q ⟨0, q, [0]⟩ := by
 refine ⟨?_, ?_, ?_, 120, ?_, rfl⟩
 ·dsimp only; omega
 ·show 0 <= q /\ q <= q + 2 * ((1 : Nat) : Int); omega
 ·show 1 <= 1 /\ 1 <= 160; omega
 ·show 121 <= 120 + 1; omega
theorem slI_step {L : List Int} {w h : Int} {a : List Bool} {p q : Int} {s : Sl} (b : BasOk w h a.length) (hp : 1 <= p /\ p <= 30) (i : SlI L w h a p q s) (hs : s.at_.length <= 120) : SlI L w h a p q (slStep L w h a p s) := by
 obtain ⟨i1, i2, i3, m, i4, i5⟩ := i
 have hlen := slStep_len L w h a p s
 have hrun : ∃ m, 121 <= m + (slStep L w h a p s).at_.length /\ slRun L w h a p m (slStep L w h a p s) = slF L w h a p q := by
  cases m with
  | zero => omega
  | succ m =>
   refine ⟨m, by omega, ?_⟩
   rw [<- i5]
   show _ = (if s.at_.length <= 120 then _ else _)
   rw [if_pos hs]
 refine ⟨?_, ?_, ?_, hrun⟩
 ·unfold slStep
  split
  ·split
   ·rename_i h1 h2
    unfold slOk at h2
    simp only [Bool.and_eq_true, decide_eq_true_eq] at h2
    exact nb_in b ⟨h2.1, by omega⟩ ⟨h2.2.2.1, by omega⟩
   ·exact i1
  ·exact i1
 ·unfold slStep
  split
  ·split
   ·dsimp only; rw [List.length_append, slPut_len, List.length_singleton]; omega
   ·dsimp only; rw [List.length_append, List.length_singleton]; omega
  ·dsimp only; rw [List.length_append, List.length_singleton]; omega
 ·refine ⟨by omega, ?_⟩
  unfold slStep
  split
  ·split
   ·dsimp only; rw [List.length_append, slPut_len, List.length_singleton]; omega
   ·dsimp only; rw [List.length_append, List.length_singleton]; omega
  ·dsimp only; rw [List.length_append, List.length_singleton]; omega
theorem dirPart {d : Int} (hd : 0 <= d /\ d < 4) : partA 2 ([nI 1, nI 0, nI 0, nI 1, nI (-1), nI 0, nI 0, nI (-1)] : List Value) (0 + Int.toNat d * 2) = some (.agg #[nI (List.getD ([1, 0, -1, 0] : List Int) (Int.toNat d) 0), nI (List.getD ([0, 1, 0, -1] : List Int) (Int.toNat d) 0)]) := by
 have : d = 0 ∨ d = 1 ∨ d = 2 ∨ d = 3 := by omega
 rcases this with rfl | rfl | rfl | rfl <;> rfl
theorem sd_bd {d : Int} (hd : 0 <= d /\ d < 4) : (-1 <= sdx d /\ sdx d <= 1) /\ (-1 <= sdy d /\ sdy d <= 1) := by
 have : d = 0 ∨ d = 1 ∨ d = 2 ∨ d = 3 := by omega
 rcases this with rfl | rfl | rfl | rfl <;> decide
theorem hvSails {L : List Int} {z : Nat} {w h : Int} {a : List Bool} {p q : Int} (b : BasOk w h a.length) (hp : 1 <= p /\ p <= 30) (hq : 0 <= q /\ q <= 1000) : Rsails L z w h a p q := by
 have hw := b.w1
 have hh := b.h1
 have hn := b.n1
 have hp1 := b.p1
 have hwh := mul_bd hw hh
 have kN : ∀ (q : Int) (m : Int) (c : Nat), (0 <= q /\ q <= 1000000000) -> (1 <= m /\ m <= 1000000000) -> ∀ H' : Heap, H'.length = c -> (H'[0]? = some (.cells true 0 (digC L q)) /\ True) -> KCall prog 27 [.pointer (some ⟨0, 0, none⟩), .int .i64 m] H' [0] (Is (.int .i64 (dN L q m)) (List.set H' 0 (.cells true 0 (digC L (q + 1))))) :=
  fun q m c h1 h2 H' _ h => kNext L q m h1 h2 h.1
 delta Rsails kf5 kf7 kfd kfi kfa kfl kf3 kf4 kf1 kf2 kfb kf8 kf9 kf6 kfj kfh kfk kfg kfc kff kf0
 refine ⟨rfl, slI_0 (by omega) hq.1, ?_, fun _ => rfl, fun s hs => ⟨fun k => ?_, fun k => ?_⟩⟩
 ·repeat' first | (exact wk_Q (by decide)) | exact digB _ _ _ | exact intB _ _ | exact rfl | exact wk_refl _ | exact wks_nil | apply And.intro
 ·have hl : s.at_.length <= 120 := by have := of_decide_eq_true k; omega
  have hst := slI_step b hp hs hl
  have hsl := slStep_len L w h a p s
  have hi := hs.now
  have hcn := hs.cnt
  have hl1 := hs.len
  obtain ⟨d1, d2, d3⟩ := divm b hi
  have b1 := dN_bd L s.q (m := 3) (by omega)
  have b2 := dN_bd L (s.q + 1) (m := 4) (by omega)
  have hsd := sd_bd b2
  refine ⟨⟨rfl, trivial⟩, kN _ _ _ (by omega) (by omega), fun k1 => ?_, fun k1 => ?_⟩
  ·have g1 : dN L s.q 3 > 0 := of_decide_eq_true k1
   have hno : slOk L w h a s = false -> slStep L w h a p s = ⟨s.now, s.q + 1 + 1, s.at_ ++ [s.now]⟩ := fun e => by unfold slStep; rw [if_pos g1, if_neg (by rw [e]; exact Bool.noConfusion)]
   have eU : Int.tmod s.now w + List.getD ([1, 0, -1, 0] : List Int) (Int.toNat (dN L (s.q + 1) 4)) 0 = slU L w s := rfl
   have eV : Int.tdiv s.now w + List.getD ([0, 1, 0, -1] : List Int) (Int.toNat (dN L (s.q + 1) 4)) 0 = slV L w s := rfl
   have bu : -1 <= slU L w s /\ slU L w s <= 64 := by unfold slU; omega
   have bv : -1 <= slV L w s /\ slV L w s <= 64 := by unfold slV; omega
   refine ⟨⟨rfl, trivial⟩, kN _ _ _ (by omega) (by omega), ⟨b2.1, b2.2⟩, dirPart b2, by omega, vI64 (by rw [eU]; omega), by omega, vI64 (by omega), vI64 (by rw [eV]; omega), ?_⟩
   rw [eU, eV]
   generalize hU : slU L w s = u at *
   generalize hV : slV L w s = v at *
   refine ⟨fun c1 => ⟨fun c2 => ⟨fun c3 => ⟨fun c4 => ?_, fun c4 => ?_⟩, fun c3 => ?_⟩, fun c2 => ?_⟩, fun c1 => ?_⟩
   ·have hu : 0 <= u /\ u <= w - 1 := ⟨of_decide_eq_true c1, by have := of_decide_eq_true c2; omega⟩
    have hv : 0 <= v /\ v <= h - 1 := ⟨of_decide_eq_true c3, by have := of_decide_eq_true c4; omega⟩
    have hin := nb_in b hu hv
    have hvw : 0 <= v * w := Int.mul_nonneg hv.1 (by omega)
    refine ⟨vI64 (by omega), vI64 (by omega), hin, boolAt (by omega) (by omega), fun l1 => ⟨rfl, by omega, ?_, fun _ => rfl, fun x hx => ⟨fun kx => ?_, fun kx => ?_⟩⟩, fun l1 => ?_⟩
    ·rw [slPut_0]
     repeat' first | exact intB _ _ | exact rfl | exact wk_refl _ | exact wks_nil | apply And.intro
    ·have hpl := slPut_len s x
     have hk := of_decide_eq_true kx
     refine ⟨⟨by omega, by decide, ⟨Nat.le_refl _, by rw [flat_len intC_len]; omega⟩, ⟨Nat.le_refl _, by simp⟩, rfl⟩, rfl, vI64 (by omega), x + 1, by omega, by omega, rfl, ?_⟩
     repeat' first | exact wk_snoc (slPut_succ s x) | exact ob_snoc intC_len (slPut_succ s x) rfl | exact intB _ _ | exact rfl | exact wk_refl _ | exact wks_nil | apply And.intro
    ·have hpl := slPut_len s x
     have hk := of_decide_eq_false kx
     have hx2 : x = Int.toNat (p - 1) := by omega
     have hyes : slStep L w h a p s = ⟨v * w + u, s.q + 1 + 1, slPut s x ++ [v * w + u]⟩ := by
      unfold slStep
      rw [if_pos g1, if_pos (by unfold slOk; rw [hU, hV, c1, c2, c3, c4, l1]; rfl), hU, hV, hx2]
     rw [hyes] at hst hsl
     refine ⟨vI64 (by omega), vI64 (by omega), ⟨by omega, by decide, ⟨Nat.le_refl _, by rw [flat_len intC_len]; omega⟩, ⟨Nat.le_refl _, by simp⟩, rfl⟩, rfl, _, hst, by have := hst.len; omega, rfl, ?_⟩
     repeat' first | exact wk_snoc rfl | exact ob_snoc intC_len rfl rfl | exact intB _ _ | exact digB _ _ _ | exact rfl | exact wk_refl _ | exact wks_nil | apply And.intro
    ·have e := hno (by unfold slOk; rw [hU, hV, c1, c2, c3, c4, l1]; rfl)
     rw [e] at hst hsl
     refine ⟨⟨by omega, by decide, ⟨Nat.le_refl _, by rw [flat_len intC_len]; omega⟩, ⟨Nat.le_refl _, by simp⟩, rfl⟩, rfl, _, hst, by have := hst.len; omega, rfl, ?_⟩
     repeat' first | exact wk_snoc rfl | exact ob_snoc intC_len rfl rfl | exact intB _ _ | exact digB _ _ _ | exact rfl | exact wk_refl _ | exact wks_nil | apply And.intro
   ·have e := hno (by unfold slOk; rw [hU, hV, c1, c2, c3, c4]; rfl)
    rw [e] at hst hsl
    refine ⟨⟨by omega, by decide, ⟨Nat.le_refl _, by rw [flat_len intC_len]; omega⟩, ⟨Nat.le_refl _, by simp⟩, rfl⟩, rfl, _, hst, by have := hst.len; omega, rfl, ?_⟩
    repeat' first | exact wk_snoc rfl | exact ob_snoc intC_len rfl rfl | exact intB _ _ | exact digB _ _ _ | exact rfl | exact wk_refl _ | exact wks_nil | apply And.intro
   ·have e := hno (by unfold slOk; rw [hU, hV, c1, c2, c3]; rfl)
    rw [e] at hst hsl
    refine ⟨⟨by omega, by decide, ⟨Nat.le_refl _, by rw [flat_len intC_len]; omega⟩, ⟨Nat.le_refl _, by simp⟩, rfl⟩, rfl, _, hst, by have := hst.len; omega, rfl, ?_⟩
    repeat' first | exact wk_snoc rfl | exact ob_snoc intC_len rfl rfl | exact intB _ _ | exact digB _ _ _ | exact rfl | exact wk_refl _ | exact wks_nil | apply And.intro
   ·have e := hno (by unfold slOk; rw [hU, hV, c1, c2]; rfl)
    rw [e] at hst hsl
    refine ⟨⟨by omega, by decide, ⟨Nat.le_refl _, by rw [flat_len intC_len]; omega⟩, ⟨Nat.le_refl _, by simp⟩, rfl⟩, rfl, _, hst, by have := hst.len; omega, rfl, ?_⟩
    repeat' first | exact wk_snoc rfl | exact ob_snoc intC_len rfl rfl | exact intB _ _ | exact digB _ _ _ | exact rfl | exact wk_refl _ | exact wks_nil | apply And.intro
   ·have e := hno (by unfold slOk; rw [hU, hV, c1]; rfl)
    rw [e] at hst hsl
    refine ⟨⟨by omega, by decide, ⟨Nat.le_refl _, by rw [flat_len intC_len]; omega⟩, ⟨Nat.le_refl _, by simp⟩, rfl⟩, rfl, _, hst, by have := hst.len; omega, rfl, ?_⟩
    repeat' first | exact wk_snoc rfl | exact ob_snoc intC_len rfl rfl | exact intB _ _ | exact digB _ _ _ | exact rfl | exact wk_refl _ | exact wks_nil | apply And.intro
  ·have e : slStep L w h a p s = ⟨s.now, s.q + 1, s.at_ ++ [s.now]⟩ := by unfold slStep; rw [if_neg (of_decide_eq_false k1)]
   rw [e] at hst hsl
   refine ⟨⟨by omega, by decide, ⟨Nat.le_refl _, by rw [flat_len intC_len]; omega⟩, ⟨Nat.le_refl _, by simp⟩, rfl⟩, rfl, _, hst, by have := hst.len; omega, rfl, ?_⟩
   repeat' first | exact wk_snoc rfl | exact ob_snoc intC_len rfl rfl | exact intB _ _ | exact digB _ _ _ | exact rfl | exact wk_refl _ | exact wks_nil | apply And.intro
 ·have hl : ¬ s.at_.length <= 120 := fun e => absurd (of_decide_eq_false k) (by omega)
  have e : s = slF L w h a p q := by
   obtain ⟨m, m1, m2⟩ := hs.run
   rw [slRun_done hl] at m2
   exact m2
  refine ⟨⟨⟨.inr (.inr rfl), by omega⟩, ⟨by omega, by omega⟩, by omega⟩, ?_⟩
  rw [e]
  repeat' first | exact intB _ _ | exact digB _ _ _ | exact rfl | exact wk_refl _ | exact wks_nil | apply And.intro
theorem kSails {L : List Int} {w h : Int} {a : List Bool} {p q : Int} (b : BasOk w h a.length) (hp : 1 <= p /\ p <= 30) (hq : 0 <= q /\ q <= 1000) {H : Heap} {D i : Nat} {own : Bool} {z : Nat} (hne : D ≠ i) (hD : H[D]? = some (.cells true 0 (digC L q))) (hi : H[i]? = some (.cells own z (a.flatMap boolC))) :
  KCall prog 17 [.pointer (some ⟨D, 0, none⟩), basV w h i a.length, .int .i64 p, .int .i64 120] H [D] (Is (.slice (some ⟨H.length, 0, some 2⟩) 121 121) (H.set D (.cells true 0 (digC L (slF L w h a p q).q)) ++ [.cells true 1 ((slF L w h a p q).at_.flatMap intC)])) :=
 valW (fun j => .slice (some ⟨j, 0, some 2⟩) 121 121) (css := [a.flatMap boolC]) (new := [.cells true 1 ((slF L w h a p q).at_.flatMap intC)]) (Eq.mpr (Esails L 0 w h a p q) (hvSails b hp hq)) (plainDig 0 L _) (plainDig 0 L _) ⟨plainBL _ _, trivial⟩
  ⟨⟨_, _, rfl, plainIL _ _⟩, trivial⟩ rfl rfl (fun _ => rfl) hD (ids := [i]) ⟨⟨_, _, hi⟩, trivial⟩ (by simp [hne]) rfl
end
end Go.Proofs.YtbgfjemppjhmjaaGreat
/- Radio: a ship that takes at least Pace for each step: plain laws. No condition. -/
namespace Go.Proofs.YtbgfjemppjhmjaaGreat
set_option linter.unusedSimpArgs false
open Go Go.K
set_option linter.unusedVariables false
theorem nb_place {w u v : Int} (hw : 1 <= w) (hu : 0 <= u /\ u <= w - 1) (hv : 0 <= v) : Int.tmod (v * w + u) w = u /\ Int.tdiv (v * w + u) w = v := by
 have h0 : 0 <= v * w := Int.mul_nonneg hv (by omega)
 rw [Int.tmod_eq_emod_of_nonneg (by omega), Int.tdiv_eq_ediv_of_nonneg (by omega)]
 have e : v * w + u = u + w * v := by rw [Int.mul_comm, Int.add_comm]
 rw [e, Int.add_mul_emod_self_left, Int.add_mul_ediv_left _ _ (by omega), Int.emod_eq_of_lt (by omega) (by omega), Int.ediv_eq_zero_of_lt (by omega) (by omega)]
 omega
theorem bd_back {j : Nat} (hj : j < 4) : bdx (3 - j) = - bdx j /\ bdy (3 - j) = - bdy j := by
 match j, hj with
 | 0, _ => decide
 | 1, _ => decide
 | 2, _ => decide
 | 3, _ => decide
theorem nb_back {w h : Int} {a : List Bool} {i : Int} {j : Nat} (b : BasOk w h a.length) (hi : 0 <= i /\ i < (a.length : Int)) (hs : a.getD (Int.toNat i) false = false) (hj : j < 4) (k : nbOk w h a i j) : nbOk w h a (nbT w i j) (3 - j) /\ nbT w (nbT w i j) (3 - j) = i := by
 obtain ⟨d1, d2, d3⟩ := divm b hi
 have hw := b.w1
 obtain ⟨⟨hu, hv⟩, hl⟩ := k
 obtain ⟨p1, p2⟩ := nb_place (w := w) hw.1 hu hv.1
 obtain ⟨q1, q2⟩ := bd_back hj
 have eT : nbV w i j * w + nbU w i j = nbT w i j := rfl
 rw [eT] at p1 p2
 have eU : nbU w (nbT w i j) (3 - j) = Int.tmod i w := by
  show Int.tmod (nbT w i j) w + bdx (3 - j) = _
  rw [p1, q1]; show Int.tmod i w + bdx j + -bdx j = _; omega
 have eV : nbV w (nbT w i j) (3 - j) = Int.tdiv i w := by
  show Int.tdiv (nbT w i j) w + bdy (3 - j) = _
  rw [p2, q2]; show Int.tdiv i w + bdy j + -bdy j = _; omega
 have e : nbT w (nbT w i j) (3 - j) = i := by
  show nbV w (nbT w i j) (3 - j) * w + nbU w (nbT w i j) (3 - j) = i
  rw [eU, eV]; exact d3
 exact ⟨⟨⟨by rw [eU]; omega, by rw [eV]; omega⟩, by rw [e]; exact hs⟩, e⟩
theorem wy_front {w h : Int} {a : List Bool} {i : Int} {j : Nat} (hj : j < 4) (k : nbOk w h a i j) {n : Nat} {c : Int} (q : Wy w h a (nbT w i j) n c) : Wy w h a i (n + 1) c := by
 induction q with
 | base => exact .step j hj .base k
 | step l hl _ hb ih => exact .step l hl ih hb
theorem wy_sea {w h : Int} {a : List Bool} {f c : Int} {n : Nat} (hs : a.getD (Int.toNat f) false = false) (q : Wy w h a f n c) : a.getD (Int.toNat c) false = false := by
 cases q with
 | base => exact hs
 | step l hl _ hb => exact hb.2
theorem wy_rev {w h : Int} {a : List Bool} {f c : Int} {n : Nat} (b : BasOk w h a.length) (hf : 0 <= f /\ f < (a.length : Int)) (hs : a.getD (Int.toNat f) false = false) (q : Wy w h a f n c) : Wy w h a c n f := by
 induction q with
 | base => exact .base
 | @step n i j hj hw hb ih =>
  obtain ⟨h1, h2⟩ := nb_back b (wy_in b hf hw) (wy_sea hs hw) hj hb
  refine wy_front (j := 3 - j) (by omega) h1 ?_
  rw [h2]; exact ih
theorem dst_wy {w h : Int} {a : List Bool} {f c : Int} {n : Nat} (q : Wy w h a f n c) : dstI w h a f c <= n := by
 obtain ⟨m, h1, h2⟩ := wy_lst q
 rw [dst_is h2]; omega
theorem wy_app {w h : Int} {a : List Bool} {f g c : Int} {m n : Nat} (p : Wy w h a f m g) (q : Wy w h a g n c) : Wy w h a f (m + n) c := by
 induction q with
 | base => exact p
 | step l hl _ hb ih => exact .step l hl ih hb
structure PathI (w h : Int) (a : List Bool) (p : Int) (s : Sl) : Prop where
 len : 1 <= s.at_.length
 last : s.at_.getD (s.at_.length - 1) 0 = s.now
 cell : 0 <= s.now /\ s.now < (a.length : Int)
 cells : ∀ m, m < s.at_.length -> s.at_.getD m 0 = -1 ∨ ((0 <= s.at_.getD m 0 /\ s.at_.getD m 0 < (a.length : Int)) /\ a.getD (Int.toNat (s.at_.getD m 0)) false = false)
 way : ∀ m k, m <= k -> k < s.at_.length -> 0 <= s.at_.getD m 0 -> 0 <= s.at_.getD k 0 -> ∃ n : Nat, Wy w h a (s.at_.getD m 0) n (s.at_.getD k 0) /\ (n : Int) * p <= (k : Int) - (m : Int)
theorem getD_app1 {l r : List Int} {m : Nat} (h : m < l.length) : (l ++ r).getD m 0 = l.getD m 0 := by
 rw [List.getD_eq_getElem?_getD, List.getElem?_append_left h, <- List.getD_eq_getElem?_getD]
theorem getD_app2 {l r : List Int} {m : Nat} (h : l.length <= m) : (l ++ r).getD m 0 = r.getD (m - l.length) 0 := by
 rw [List.getD_eq_getElem?_getD, List.getElem?_append_right h, <- List.getD_eq_getElem?_getD]
theorem path_add {w h : Int} {a : List Bool} {p : Int} {s : Sl} (hp : 1 <= p) (i : PathI w h a p s) {x : Nat} {c q : Int} (hc : (0 <= c /\ c < (a.length : Int)) /\ a.getD (Int.toNat c) false = false) {n : Nat} (hn : Wy w h a s.now n c) (hx : (n : Int) * p <= (x : Int) + 1) : PathI w h a p ⟨c, q, slPut s x ++ [c]⟩ := by
 have hl := slPut_len s x
 have g1 : ∀ m, m < s.at_.length -> (slPut s x ++ [c]).getD m 0 = s.at_.getD m 0 := fun m hm => by rw [getD_app1 (by omega)]; exact getD_app1 hm
 have g2 : ∀ m, s.at_.length <= m -> m < s.at_.length + x -> (slPut s x ++ [c]).getD m 0 = -1 := fun m h1 h2 => by
  rw [getD_app1 (by omega)]
  unfold slPut
  rw [getD_app2 h1]
  simp only [List.getD_eq_getElem?_getD, List.getElem?_replicate]
  rw [if_pos (by omega)]; rfl
 have g3 : (slPut s x ++ [c]).getD (s.at_.length + x) 0 = c := by
  rw [getD_app2 (by omega), show s.at_.length + x - (slPut s x).length = 0 from by omega]; rfl
 have hL : (slPut s x ++ [c]).length = s.at_.length + x + 1 := by rw [List.length_append, List.length_singleton, hl]
 refine ⟨?_, ?_, hc.1, fun m hm => ?_, fun m k hmk hk h1 h2 => ?_⟩
 ·dsimp only; omega
 ·dsimp only
  rw [hL, show s.at_.length + x + 1 - 1 = s.at_.length + x from by omega]; exact g3
 ·dsimp only at hm ⊢
  rw [hL] at hm
  by_cases a1 : m < s.at_.length
  ·rw [g1 m a1]; exact i.cells m a1
  ·by_cases a2 : m < s.at_.length + x
   ·exact .inl (g2 m (by omega) a2)
   ·rw [show m = s.at_.length + x from by omega, g3]; exact .inr hc
 ·dsimp only at hk h1 h2 ⊢
  rw [hL] at hk
  by_cases a1 : k < s.at_.length
  ·rw [g1 k a1] at h2 ⊢
   rw [g1 m (by omega)] at h1 ⊢
   exact i.way m k hmk a1 h1 h2
  ·by_cases a2 : k < s.at_.length + x
   ·rw [g2 k (by omega) a2] at h2; omega
   ·have ek : k = s.at_.length + x := by omega
    rw [ek, g3]
    by_cases a3 : m < s.at_.length
    ·rw [g1 m a3] at h1 ⊢
     have hl1 := i.len
     obtain ⟨n1, w1, w2⟩ := i.way m (s.at_.length - 1) (by omega) (by omega) h1 (by rw [i.last]; exact i.cell.1)
     rw [i.last] at w1
     refine ⟨n1 + n, ?_, ?_⟩
     ·exact wy_app w1 hn
     ·rw [Int.natCast_add, Int.add_mul]; omega
    ·by_cases a4 : m < s.at_.length + x
     ·rw [g2 m (by omega) a4] at h1; omega
     ·rw [show m = s.at_.length + x from by omega, g3]
      exact ⟨0, .base, by rw [show ((0 : Nat) : Int) * p = 0 from Int.zero_mul p]; omega⟩
theorem path_0 {w h : Int} {a : List Bool} {p q : Int} (hn : 0 < a.length) (h0 : a.getD 0 false = false) : PathI w h a p ⟨0, q, [0]⟩ := by
 refine ⟨Nat.le_refl 1, rfl, ⟨Int.le_refl _, by dsimp only; omega⟩, fun m hm => ?_, fun m k hmk hk h1 h2 => ?_⟩
 ·have hm0 : m = 0 := by have : m < 1 := hm; omega
  subst hm0
  exact .inr ⟨⟨Int.le_refl _, by show (0 : Int) < _; omega⟩, h0⟩
 ·have hk0 : k = 0 := by have : k < 1 := hk; omega
  have hm0 : m = 0 := by omega
  subst hk0 hm0
  exact ⟨0, .base, by rw [show ((0 : Nat) : Int) * p = 0 from Int.zero_mul p]; omega⟩
theorem sl_dir {L : List Int} {w : Int} {s : Sl} : ∃ j, j < 4 /\ slU L w s = nbU w s.now j /\ slV L w s = nbV w s.now j := by
 have hd := dN_bd L (s.q + 1) (m := 4) (by omega)
 unfold slU slV nbU nbV
 generalize dN L (s.q + 1) 4 = d at *
 have : d = 0 ∨ d = 1 ∨ d = 2 ∨ d = 3 := by omega
 rcases this with rfl | rfl | rfl | rfl
 ·exact ⟨2, by omega, rfl, rfl⟩
 ·exact ⟨3, by omega, rfl, rfl⟩
 ·exact ⟨1, by omega, rfl, rfl⟩
 ·exact ⟨0, by omega, rfl, rfl⟩
theorem path_step {L : List Int} {w h : Int} {a : List Bool} {p : Int} {s : Sl} (b : BasOk w h a.length) (hp : 1 <= p) (i : PathI w h a p s) : PathI w h a p (slStep L w h a p s) := by
 have hnow : (0 <= s.now /\ s.now < (a.length : Int)) /\ a.getD (Int.toNat s.now) false = false := by
  have h1 := i.cells (s.at_.length - 1) (by have := i.len; omega)
  rw [i.last] at h1
  exact h1.resolve_left (by have := i.cell; omega)
 have hst : ∀ q, PathI w h a p ⟨s.now, q, s.at_ ++ [s.now]⟩ := fun q => by
  have := path_add (x := 0) (q := q) (n := 0) hp i hnow .base (by rw [show ((0 : Nat) : Int) * p = 0 from Int.zero_mul p]; omega)
  rwa [slPut_0] at this
 unfold slStep
 split
 ·split
  ·rename_i h1 h2
   obtain ⟨j, hj, eU, eV⟩ := sl_dir (L := L) (w := w) (s := s)
   unfold slOk at h2
   rw [eU, eV] at h2 ⊢
   have hb : nbOk w h a s.now j := by
    simp only [Bool.and_eq_true, decide_eq_true_eq] at h2
    exact ⟨⟨⟨h2.1, by omega⟩, ⟨h2.2.2.1, by omega⟩⟩, notB h2.2.2.2.2⟩
   exact path_add (x := Int.toNat (p - 1)) hp i ⟨nb_in b hb.1.1 hb.1.2, hb.2⟩ (.step j hj .base hb) (by show ((0 + 1 : Nat) : Int) * p <= _; rw [show ((0 + 1 : Nat) : Int) * p = p from Int.one_mul p]; omega)
  ·exact hst _
 ·exact hst _
theorem path_run {L : List Int} {w h : Int} {a : List Bool} {p : Int} (b : BasOk w h a.length) (hp : 1 <= p) : ∀ (m : Nat) (s : Sl), PathI w h a p s -> 121 <= m + s.at_.length -> PathI w h a p (slRun L w h a p m s) /\ 121 <= (slRun L w h a p m s).at_.length
 | 0, s, i, hm => ⟨i, by show 121 <= s.at_.length; omega⟩
 | m + 1, s, i, hm => by
  unfold slRun
  split
  ·have := slStep_len L w h a p s
   exact path_run b hp m _ (path_step b hp i) (by omega)
  ·exact ⟨i, by omega⟩
theorem path_all {L : List Int} {w h : Int} {a : List Bool} {p q : Int} (b : BasOk w h a.length) (hp : 1 <= p) (h0 : a.getD 0 false = false) : PathI w h a p (slF L w h a p q) /\ 121 <= (slF L w h a p q).at_.length := by
 have hw := mul_bd b.w1 b.h1
 have := b.n1
 exact path_run b hp 120 _ (path_0 (by omega) h0) (by show 121 <= 120 + 1; omega)
noncomputable def canS (w h : Int) (a : List Bool) (p : Int) (s : Int × Int) (c m : Int) : Bool := decide (dstI w h a s.2 c < farI) && decide (dstI w h a s.2 c * p <= mxI (m - s.1) (s.1 - m))
theorem canB_is {w h : Int} {a : List Bool} {p : Int} {ss : List (Int × Int)} {x : Nat} {c m : Int} (hx : x < ss.length) (hc : 0 <= c /\ c < (a.length : Int)) : canB p ss (trkRows w h a ss) x c m = canS w h a p (ss.getD x zeroSp) c m := by
 unfold canB canS
 have e : ((trkRows w h a ss).getD x []).getD (Int.toNat c) 0 = dstI w h a (ss.getD x zeroSp).2 c := by
  rw [show (trkRows w h a ss).getD x [] = dstL w h a (ss.getD x zeroSp).2 from tabP_get hx]
  rw [show (dstL w h a (ss.getD x zeroSp).2).getD (Int.toNat c) 0 = dstI w h a (ss.getD x zeroSp).2 ((Int.toNat c : Nat) : Int) from tabP_get (by omega)]
  rw [show ((Int.toNat c : Nat) : Int) = c from by omega]
 rw [e]
def Seen1 (at_ : List Int) (ss : List (Int × Int)) : Prop := ∀ s ∈ ss, (0 <= s.1 /\ s.1 <= 120) /\ s.2 = at_.getD (Int.toNat s.1) 0 /\ 0 <= s.2
theorem can_way {w h : Int} {a : List Bool} {p : Int} {s : Sl} (b : BasOk w h a.length) (hp : 1 <= p) (i : PathI w h a p s) {m k : Nat} (hm : m < s.at_.length) (hk : k < s.at_.length) (h1 : 0 <= s.at_.getD m 0) (h2 : 0 <= s.at_.getD k 0) : canS w h a p ((m : Int), s.at_.getD m 0) (s.at_.getD k 0) (k : Int) = true := by
 have c1 := (i.cells m hm).resolve_left (by omega)
 have c2 := (i.cells k hk).resolve_left (by omega)
 have key : ∃ n : Nat, Wy w h a (s.at_.getD m 0) n (s.at_.getD k 0) /\ (n : Int) * p <= mxI ((k : Int) - (m : Int)) ((m : Int) - (k : Int)) := by
  rcases Nat.le_total m k with q | q
  ·obtain ⟨n, n1, n2⟩ := i.way m k q hk h1 h2
   exact ⟨n, n1, by unfold mxI; split <;> omega⟩
  ·obtain ⟨n, n1, n2⟩ := i.way k m q hm h2 h1
   exact ⟨n, wy_rev b c2.1 c2.2 n1, by unfold mxI; split <;> omega⟩
 obtain ⟨n, n1, n2⟩ := key
 have d1 := dst_wy n1
 obtain ⟨m', h3, h4⟩ := wy_lst n1
 have d2 := lst_le b c1.1 h4
 have d3 := dst_is h4
 have := b.n1
 have := b.p1
 unfold canS
 rw [Bool.and_eq_true, decide_eq_true_eq, decide_eq_true_eq]
 refine ⟨by dsimp only; rw [d3]; unfold farI; omega, ?_⟩
 dsimp only
 have : dstI w h a (s.at_.getD m 0) (s.at_.getD k 0) * p <= (n : Int) * p := Int.mul_le_mul_of_nonneg_right d1 (by omega)
 omega
theorem seen_can {w h : Int} {a : List Bool} {p : Int} {s : Sl} {ss : List (Int × Int)} (b : BasOk w h a.length) (hp : 1 <= p) (i : PathI w h a p s) (hl : 121 <= s.at_.length) (k : Seen1 s.at_ ss) {x y : Int × Int} (hx : x ∈ ss) (hy : y ∈ ss) : canS w h a p x y.2 y.1 = true := by
 obtain ⟨x1, x2, x3⟩ := k x hx
 obtain ⟨y1, y2, y3⟩ := k y hy
 have := can_way b hp i (m := Int.toNat x.1) (k := Int.toNat y.1) (by omega) (by omega) (by omega) (by omega)
 rw [<- x2, <- y2, show ((Int.toNat x.1 : Nat) : Int) = x.1 from by omega, show ((Int.toNat y.1 : Nat) : Int) = y.1 from by omega] at this
 exact this
theorem cf_nil {w h : Int} {a : List Bool} {p : Int} {ss : List (Int × Int)} (hc : ∀ s ∈ ss, 0 <= s.2 /\ s.2 < (a.length : Int)) (k : ∀ x ∈ ss, ∀ y ∈ ss, canS w h a p x y.2 y.1 = true) : cfTo p ss (trkRows w h a ss) ss.length = [] := by
 unfold cfTo
 rw [List.flatMap_eq_nil_iff]
 intro x hx
 have hx := List.mem_range.1 hx
 unfold cfRow
 rw [List.map_eq_nil_iff, List.filter_eq_nil_iff]
 intro y hy
 have hy := List.mem_range.1 hy
 unfold agrB
 rw [canB_is hx (hc _ (getD_mem hy)), k _ (getD_mem hx) _ (getD_mem hy)]
 simp
theorem clr_is {w h : Int} {a : List Bool} {p : Int} {ss : List (Int × Int)} {c m : Int} (hc : 0 <= c /\ c < (a.length : Int)) : clrB p ss (trkRows w h a ss) c m ss.length = ss.all fun s => canS w h a p s c m := by
 unfold clrB
 rw [Bool.eq_iff_iff, List.all_eq_true, List.all_eq_true]
 constructor
 ·intro h s hs
  obtain ⟨x, hx, rfl⟩ := List.mem_iff_getElem.1 hs
  have := h x (List.mem_range.2 hx)
  rw [canB_is hx hc] at this
  rw [<- this]; congr 1
  rw [List.getD_eq_getElem?_getD, List.getElem?_eq_getElem hx]; rfl
 ·intro h x hx
  have hx := List.mem_range.1 hx
  rw [canB_is hx hc]
  exact h _ (getD_mem hx)
end Go.Proofs.YtbgfjemppjhmjaaGreat
/- Radio: RadioTimes: words and plain laws. No condition. -/
namespace Go.Proofs.YtbgfjemppjhmjaaGreat
set_option linter.unusedSimpArgs false
open Go Go.K
set_option linter.unusedVariables false
def sgL (A S : List Int) : Nat -> List (Int × Int)
 | 0 => []
 | x + 1 => if A.getD (Int.toNat (S.getD x 0 % 121)) 0 < 0 then sgL A S x else sgL A S x ++ [(S.getD x 0 % 121, A.getD (Int.toNat (S.getD x 0 % 121)) 0)]
def lsQ (ss : List (Int × Int)) : Int := ss.foldl (fun b s => mnI b s.1) 120
def msQ (ss : List (Int × Int)) : Int := ss.foldl (fun b s => mxI b s.1) 0
def atL (N : List Int) (p : Int) : List Int := (slF N (wtW N 0) (wtH N 0) (wtLd N) p (wtN (Int.toNat (wtW N 0 * wtH N 0)))).at_
def pcP (z : Int) : Int := 1 + z % 30
def sgt (N S : List Int) (z : Int) (x : Nat) : List (Int × Int) := sgL (atL N (pcP z)) S x
noncomputable def rwQ (N : List Int) (ss : List (Int × Int)) : List (List Int) := trkRows (wtW N 0) (wtH N 0) (wtLd N) ss
noncomputable def whQ (N : List Int) (z : Int) (ss : List (Int × Int)) (m : Int) : List Int := whL (wtLd N) (pcP z) ss (rwQ N ss) m (wtLd N).length
noncomputable def tmQ (N : List Int) (z : Int) (ss : List (Int × Int)) (c : Int) : List (Int × Int) := tmL (pcP z) ss (rwQ N ss) c
theorem whL_has {w h : Int} {a : List Bool} {p : Int} {ss : List (Int × Int)} {m c : Int} (hc : 0 <= c /\ c < (a.length : Int)) : (whL a p ss (trkRows w h a ss) m a.length).any (fun v => v == c) = (seaB a c && ss.all fun s => canS w h a p s c m) := by
 rw [<- clr_is hc, Bool.eq_iff_iff, List.any_eq_true]
 unfold whL
 constructor
 ·rintro ⟨v, hv, he⟩
  obtain ⟨x, hx, rfl⟩ := List.mem_map.1 hv
  rw [List.mem_filter] at hx
  rw [<- eq_of_beq he]; exact hx.2
 ·intro q
  refine ⟨c, List.mem_map.2 ⟨Int.toNat c, List.mem_filter.2 ⟨List.mem_range.2 (by omega), ?_⟩, by omega⟩, by simp⟩
  rw [show ((Int.toNat c : Nat) : Int) = c from by omega]; exact q
theorem notF_iff {N : List (Int × Int)} {m : Int} : notF N m = true ↔ ∃ y ∈ N, y.1 <= m /\ m <= y.2 := by
 unfold notF
 rw [List.any_eq_true]
 constructor
 ·rintro ⟨y, hy, q⟩
  rw [Bool.and_eq_true, decide_eq_true_eq, decide_eq_true_eq] at q
  exact ⟨y, hy, q⟩
 ·rintro ⟨y, hy, q⟩
  exact ⟨y, hy, by rw [decide_eq_true q.1, decide_eq_true q.2]; rfl⟩
theorem stC_is {w h : Int} {a : List Bool} {ss : List (Int × Int)} {x : Nat} {c : Int} (hx : x < ss.length) (hc : 0 <= c /\ c < (a.length : Int)) : stC (trkRows w h a ss) x c = dstI w h a (ss.getD x zeroSp).2 c := by
 unfold stC
 rw [show (trkRows w h a ss).getD x [] = dstL w h a (ss.getD x zeroSp).2 from tabP_get hx]
 rw [show (dstL w h a (ss.getD x zeroSp).2).getD (Int.toNat c) 0 = dstI w h a (ss.getD x zeroSp).2 ((Int.toNat c : Nat) : Int) from tabP_get (by omega)]
 rw [show ((Int.toNat c : Nat) : Int) = c from by omega]
theorem tm_cov {w h : Int} {a : List Bool} {p : Int} {ss : List (Int × Int)} {m c : Int} (t : TrOk w h a p ss) (hc : 0 <= c /\ c < (a.length : Int)) (hm : lsT ss ss.length <= m /\ m <= msT ss ss.length) : notF (tmL p ss (trkRows w h a ss) c) m = ss.all fun s => canS w h a p s c m := by
 have hd : ∀ x, x < ss.length -> 0 <= dstI w h a (ss.getD x zeroSp).2 c /\ (dstI w h a (ss.getD x zeroSp).2 c < 1024 ∨ dstI w h a (ss.getD x zeroSp).2 c = farI) := fun x hx => dstI_bd t.bas (t.bd hx).2 c
 unfold tmL
 split
 ·rename_i hf
  unfold farT at hf
  rw [List.any_eq_true] at hf
  obtain ⟨x, hx, e⟩ := hf
  have hx := List.mem_range.1 hx
  have e := of_decide_eq_true e
  rw [stC_is hx hc] at e
  symm
  show _ = false
  rw [Bool.eq_false_iff]
  intro q
  rw [List.all_eq_true] at q
  have := q _ (getD_mem (d := zeroSp) hx)
  unfold canS at this
  rw [e] at this
  simp at this
 ·rename_i hf
  have hI := runs_I (fun m => !notF (notT p ss (trkRows w h a ss) c ss.length) m) (lsT ss ss.length) (Int.toNat (msT ss ss.length - lsT ss ss.length + 1))
  have hnf : ∀ x, x < ss.length -> dstI w h a (ss.getD x zeroSp).2 c ≠ farI := fun x hx e => by
   apply hf
   unfold farT
   rw [List.any_eq_true]
   exact ⟨x, List.mem_range.2 hx, by rw [stC_is hx hc]; exact decide_eq_true e⟩
  have hfm : ∀ m, (!notF (notT p ss (trkRows w h a ss) c ss.length) m) = ss.all fun s => canS w h a p s c m := fun m => by
   have hone : ∀ x, x < ss.length -> (canS w h a p (ss.getD x zeroSp) c m = true ↔ ¬ ((ss.getD x zeroSp).1 - dstI w h a (ss.getD x zeroSp).2 c * p + 1 <= m /\ m <= (ss.getD x zeroSp).1 + dstI w h a (ss.getD x zeroSp).2 c * p - 1)) := fun x hx => by
    have h1 := hd x hx
    have h2 := hnf x hx
    unfold canS
    rw [Bool.and_eq_true, decide_eq_true_eq, decide_eq_true_eq]
    have h3 : dstI w h a (ss.getD x zeroSp).2 c < farI := by
     rcases h1.2 with q | q
     ·unfold farI; omega
     ·exact absurd q h2
    generalize dstI w h a (ss.getD x zeroSp).2 c * p = e
    unfold mxI
    constructor
    ·rintro ⟨_, q⟩; split at q <;> omega
    ·intro q; refine ⟨h3, ?_⟩; split <;> omega
   have hmem : ∀ x, x < ss.length -> ((ss.getD x zeroSp).1 - dstI w h a (ss.getD x zeroSp).2 c * p + 1, (ss.getD x zeroSp).1 + dstI w h a (ss.getD x zeroSp).2 c * p - 1) ∈ notT p ss (trkRows w h a ss) c ss.length := fun x hx => by
    unfold notT tabP
    exact List.mem_map.2 ⟨x, List.mem_range.2 hx, by rw [stC_is hx hc]⟩
   rw [Bool.eq_iff_iff, List.all_eq_true]
   constructor
   ·intro q s hs
    obtain ⟨x, hx, rfl⟩ := List.mem_iff_getElem.1 hs
    have e : ss[x] = ss.getD x zeroSp := by rw [List.getD_eq_getElem?_getD, List.getElem?_eq_getElem hx]; rfl
    rw [e]
    refine (hone x hx).2 fun r => ?_
    have : notF (notT p ss (trkRows w h a ss) c ss.length) m = true := notF_iff.2 ⟨_, hmem x hx, r⟩
    rw [this] at q; cases q
   ·intro q
    refine notF_no fun y hy r => ?_
    unfold notT tabP at hy
    obtain ⟨x, hx, rfl⟩ := List.mem_map.1 hy
    have hx := List.mem_range.1 hx
    rw [stC_is hx hc] at r
    exact (hone x hx).1 (q _ (getD_mem hx)) r
  rw [<- hfm, Bool.eq_iff_iff, notF_iff]
  constructor
  ·rintro ⟨y, hy, y1, y2⟩
   exact (hI.mem y hy).2.2.2 m y1 y2
  ·intro q
   exact hI.cov m hm.1 (by omega) q
theorem tm_len {p : Int} {ss : List (Int × Int)} {rr : List (List Int)} {c : Int} : (tmL p ss rr c).length <= Int.toNat (msT ss ss.length - lsT ss ss.length + 1) := by
 unfold tmL
 split
 ·exact Nat.zero_le _
 ·exact runs_le ..
theorem sgL_len (A S : List Int) : ∀ x, (sgL A S x).length <= x
 | 0 => Nat.le_refl _
 | x + 1 => by
  have ih := sgL_len A S x
  unfold sgL
  split
  ·omega
  ·rw [List.length_append, List.length_singleton]; omega
theorem sgL_seen (A S : List Int) : ∀ x, Seen1 A (sgL A S x)
 | 0 => fun s hs => by cases hs
 | x + 1 => by
  have ih := sgL_seen A S x
  unfold sgL
  split
  ·exact ih
  ·rename_i h
   intro s hs
   rcases List.mem_append.1 hs with hs | hs
   ·exact ih s hs
   ·rw [List.mem_singleton.1 hs]
    have h1 := Int.emod_nonneg (S.getD x 0) (b := 121) (by omega)
    have h2 := Int.emod_lt_of_pos (S.getD x 0) (b := 121) (by omega)
    exact ⟨⟨h1, by dsimp only; omega⟩, rfl, by dsimp only; omega⟩
theorem foldl_snoc1 {α β : Type} (f : β -> α -> β) (b : β) (l : List α) (x : α) : (l ++ [x]).foldl f b = f (l.foldl f b) x := by rw [List.foldl_append]; rfl
theorem lsQ_snoc (l : List (Int × Int)) (x : Int × Int) : lsQ (l ++ [x]) = mnI (lsQ l) x.1 := foldl_snoc1 ..
theorem msQ_snoc (l : List (Int × Int)) (x : Int × Int) : msQ (l ++ [x]) = mxI (msQ l) x.1 := foldl_snoc1 ..
theorem lsQ_is {ss : List (Int × Int)} (hne : 0 < ss.length) (hb : ∀ s ∈ ss, 0 <= s.1 /\ s.1 <= 120) : lsQ ss = lsT ss ss.length := by
 have key : ∀ (l : List (Int × Int)) (b : Int), mnI 120 (l.foldl (fun b s => mnI b s.1) b) = l.foldl (fun b s => mnI b s.1) (mnI 120 b) := by
  intro l
  induction l with
  | nil => intro b; rfl
  | cons x l ih =>
   intro b
   rw [List.foldl_cons, List.foldl_cons, ih]
   congr 1
   unfold mnI; (repeat' split) <;> omega
 unfold lsT
 rw [List.take_length]
 have h1 := key ss 100000
 rw [show mnI 120 100000 = 120 from rfl] at h1
 unfold lsQ
 rw [<- h1]
 have h2 := (lm_bd (ss := ss) (fun s hs => by have := hb s hs; omega) ss.length (Nat.le_refl _)).2.2 0 hne
 unfold lsT at h2
 rw [List.take_length] at h2
 have h3 := hb _ (getD_mem (d := zeroSp) hne)
 by_cases h4 : ss.foldl (fun b s => mnI b s.1) 100000 < 120
 ·rw [mnI_1 h4]
 ·rw [mnI_2 h4]; omega
theorem msQ_is (ss : List (Int × Int)) : msQ ss = msT ss ss.length := by unfold msT msQ; rw [List.take_length]
theorem wtBas (N : List Int) : BasOk (wtW N 0) (wtH N 0) (wtLd N).length := by
 have h1 := wtW_bd N 0
 have h2 := wtH_bd N 0
 have h3 := wtWH_bd N 0
 exact ⟨by omega, by omega, by omega, by rw [wtLand_len]; omega⟩
theorem wtLd_0 (N : List Int) : (wtLd N).getD 0 false = false := by
 have h3 := wtWH_bd N 0
 rw [show (wtLd N).getD 0 false = (decide (0 < 0) && decide (dN N (((0 : Nat) : Int) + 1) 7 = 0)) from tabP_get (by omega)]
 rfl
theorem pcP_bd (z : Int) : 1 <= pcP z /\ pcP z <= 30 := by
 have h1 := Int.emod_nonneg z (b := 30) (by omega)
 have h2 := Int.emod_lt_of_pos z (b := 30) (by omega)
 unfold pcP; omega
theorem wtPath (N : List Int) (z : Int) : PathI (wtW N 0) (wtH N 0) (wtLd N) (pcP z) (slF N (wtW N 0) (wtH N 0) (wtLd N) (pcP z) (wtN (Int.toNat (wtW N 0 * wtH N 0)))) /\ 121 <= (atL N (pcP z)).length := path_all (wtBas N) (pcP_bd z).1 (wtLd_0 N)
theorem wt_err {N : List Int} {z : Int} {ss : List (Int × Int)} (hl : ss.length <= 20) (k : Seen1 (atL N (pcP z)) ss) : errT (wtW N 0) (wtH N 0) (wtLd N) (pcP z) ss = 0 := by
 have b := wtBas N
 have hp := pcP_bd z
 have e0 : errBas (wtW N 0) (wtH N 0) (wtLd N).length = 0 := by
  unfold errBas
  rw [if_pos ⟨b.w1, b.h1, b.p1⟩, if_pos b.n1]
 unfold errT
 rw [if_pos e0, if_pos ⟨hp.1, by omega⟩, if_pos hl, if_pos]
 rw [List.all_eq_true]
 intro s hs
 obtain ⟨k1, k2, k3⟩ := k s hs
 obtain ⟨i, hi⟩ := wtPath N z
 have hc := (i.cells (Int.toNat s.1) (by show _ < (atL N (pcP z)).length; omega)).resolve_left (by show ¬ (atL N (pcP z)).getD _ 0 = -1; rw [<- k2]; omega)
 rw [show (slF N (wtW N 0) (wtH N 0) (wtLd N) (pcP z) (wtN (Int.toNat (wtW N 0 * wtH N 0)))).at_ = atL N (pcP z) from rfl, <- k2] at hc
 unfold okS seaB
 rw [decide_eq_true k1.1, decide_eq_true (show s.1 <= 100000 by omega), decide_eq_true hc.1.1, decide_eq_true (show s.2 <= (((wtLd N).length : Nat) : Int) - 1 by omega), hc.2]
 rfl
theorem wt_cf {N : List Int} {z : Int} {ss : List (Int × Int)} (hl : ss.length <= 20) (k : Seen1 (atL N (pcP z)) ss) : cfTo (pcP z) ss (trkRows (wtW N 0) (wtH N 0) (wtLd N) ss) ss.length = [] := by
 have t := trOk (wt_err hl k)
 obtain ⟨i, hi⟩ := wtPath N z
 exact cf_nil (fun s hs => (t.seen s hs).2.1) fun x hx y hy => seen_can (wtBas N) (pcP_bd z).1 i hi k hx hy
end Go.Proofs.YtbgfjemppjhmjaaGreat
/- Radio: lists of numbers in laws' arguments. No condition. -/
namespace Go.Proofs.YtbgfjemppjhmjaaGreat
set_option linter.unusedSimpArgs false
set_option linter.unusedVariables false
open Go Go.K
noncomputable section
abbrev dI (L : List Int) : Value := .iface (L.length + 1) (.agg ⟨L.flatMap intC⟩)
theorem dI_b (L : List Int) : belowC 0 (dI L) = true := all_belowD 0 L
theorem args_rn {vs : List Value} (h : vs.all (belowC 0) = true) (σ : Nat -> Option Nat) : vs.map (rn σ 5) = vs := (rnCl (σ := σ) (d := 2) h).1
end
end Go.Proofs.YtbgfjemppjhmjaaGreat
/- Radio: RadioTimes: the law. No condition. -/
namespace Go.Proofs.YtbgfjemppjhmjaaGreat
open Go Go.K
set_option maxRecDepth 100000
set_option linter.unusedVariables false
set_option linter.unusedSimpArgs false
noncomputable section
attribute [local irreducible] vF
theorem wkTrk {w h p : Int} {i j n k : Nat} : wk (.agg #[.int .i64 w, .int .i64 h, .slice (some ⟨i, 0, some 1⟩) n n, .int .i64 p, .slice (some ⟨j, 0, some 1⟩) k k]) (.agg #[.int .i64 w, .int .i64 h, .slice (some ⟨i, 0, some 2⟩) n n, .int .i64 p, .slice (some ⟨j, 0, some 2⟩) k k]) :=
 wk_aggL (wks_cons (wk_refl _) (wks_cons (wk_refl _) (wks_cons wk_QR (wks_cons (wk_refl _) (wks_cons wk_QR wks_nil)))))
theorem wkBas {w h : Int} {i n : Nat} : wk (.agg #[.int .i64 w, .int .i64 h, .slice (some ⟨i, 0, some 1⟩) n n]) (.agg #[.int .i64 w, .int .i64 h, .slice (some ⟨i, 0, some 2⟩) n n]) :=
 wk_aggL (wks_cons (wk_refl _) (wks_cons (wk_refl _) (wks_cons wk_QR wks_nil)))
theorem kWhQ {N : List Int} {z m : Int} {ss : List (Int × Int)} (hl : ss.length <= 20) (k : Seen1 (atL N (pcP z)) ss) (hm : 0 <= m /\ m <= 100000) {H : Heap} {i j : Nat} (hne : i ≠ j) {o1 o2 : Bool} {z1 z2 : Nat} (hi : H[i]? = some (.cells o1 z1 ((wtLd N).flatMap boolC))) (hj : H[j]? = some (.cells o2 z2 (ss.flatMap spC))) :
  KCall prog 18 [.agg #[.int .i64 (wtW N 0), .int .i64 (wtH N 0), .slice (some ⟨i, 0, some 1⟩) (wtLd N).length (wtLd N).length, .int .i64 (1 + z % 30), .slice (some ⟨j, 0, some 1⟩) ss.length ss.length], .int .i64 m] H [] (Is (.tuple #[.slice (some ⟨H.length, 0, some 1⟩) (whQ N z ss m).length (whQ N z ss m).length, .int .i64 0]) (H ++ [.cells true 1 ((whQ N z ss m).flatMap intC)])) :=
 KCall.wkA (kWhere (wt_err hl k) hm (wt_cf hl k) hne hi hj) (wks_cons wkTrk (wks_cons (wk_refl _) wks_nil))
theorem kTmQ {N : List Int} {z c : Int} {ss : List (Int × Int)} (hl : ss.length <= 20) (k : Seen1 (atL N (pcP z)) ss) (h0 : 0 < ss.length) (hs : seaB (wtLd N) c = true) {H : Heap} {i j : Nat} (hne : i ≠ j) {o1 o2 : Bool} {z1 z2 : Nat} (hi : H[i]? = some (.cells o1 z1 ((wtLd N).flatMap boolC))) (hj : H[j]? = some (.cells o2 z2 (ss.flatMap spC))) :
  KCall prog 19 [.agg #[.int .i64 (wtW N 0), .int .i64 (wtH N 0), .slice (some ⟨i, 0, some 1⟩) (wtLd N).length (wtLd N).length, .int .i64 (1 + z % 30), .slice (some ⟨j, 0, some 1⟩) ss.length ss.length], .int .i64 c] H [] (Is (.tuple #[.slice (some ⟨H.length, 0, some 1⟩) (tmQ N z ss c).length (tmQ N z ss c).length, .int .i64 0]) (H ++ [.cells true 2 ((tmQ N z ss c).flatMap spC)])) :=
 KCall.wkA (kTimes (wt_err hl k) hs h0 (wt_cf hl k) hne hi hj) (wks_cons wkTrk (wks_cons (wk_refl _) wks_nil))
theorem sgt_yes {N S : List Int} {z : Int} {x : Nat} (h : ¬ (atL N (pcP z)).getD (Int.toNat (S.getD x 0 % 121)) 0 < 0) : sgt N S z (x + 1) = sgt N S z x ++ [(S.getD x 0 % 121, (atL N (pcP z)).getD (Int.toNat (S.getD x 0 % 121)) 0)] := by
 show (if _ then _ else _) = _
 rw [if_neg h]; rfl
theorem sgt_no {N S : List Int} {z : Int} {x : Nat} (h : (atL N (pcP z)).getD (Int.toNat (S.getD x 0 % 121)) 0 < 0) : sgt N S z x = sgt N S z (x + 1) := by
 symm
 show (if _ then _ else _) = _
 rw [if_pos h]; rfl
theorem cl_sea {N : List Int} {x : Int} (h : 0 <= x /\ x < ((wtLd N).length : Int)) (k : (wtLd N).getD (Int.toNat x) false = false) : seaB (wtLd N) x = true := by
 unfold seaB
 rw [decide_eq_true h.1, decide_eq_true (show x <= (((wtLd N).length : Nat) : Int) - 1 by omega), k]; rfl
end
end Go.Proofs.YtbgfjemppjhmjaaGreat
/- What is to be shown of functions. Printed by a program. No condition. -/
namespace Go.Proofs.YtbgfjemppjhmjaaGreat
set_option linter.unusedSimpArgs false
open Go Go.K
set_option maxRecDepth 100000
set_option maxHeartbeats 4000000
set_option linter.unusedVariables false
noncomputable section
abbrev kv0 (w : Int) (h : Int) (a : List Bool) (p : Int) (ss : List (Int × Int)) : List Value:=[nI w,nI h,slQ 0 2 a.length,nI p,slQ 1 2 ss.length,slQ 4 1 (rowT w h a ss ss.length).length]
abbrev kv1 (p : Int) (ss : List (Int × Int)) (w : Int) (h : Int) (a : List Bool):=cfTo p ss (rowT w h a ss ss.length) ss.length
def Rconfs (o1 o2 : Bool) (z1 z2 : Nat) (w h : Int) (a : List Bool) (p : Int) (ss : List (Int × Int)) : Prop :=
 (((someR (.cells o1 z1 (a.flatMap boolC))) /\ (someR (.cells o2 z2 (ss.flatMap spC))) /\ True) /\ (∀ H' : Heap,H'.length = 3 -> (H'[0]? = some (.cells o1 z1 (a.flatMap boolC) : KObj) /\ H'[1]? = some (.cells o2 z2 (ss.flatMap spC) : KObj) /\ True) -> KCall prog 72 [.agg #[nI w,nI h,slQ 0 2 a.length,nI p,slQ 1 2 ss.length]] H' [] (Is (.tuple #[.pointer (some ⟨3,0,none⟩),nI 0]) (H' ++ [(.cells true 0 (kv0 w h a p ss) : KObj),(.cells true 1 (inL (rowT w h a ss ss.length)) : KObj)]))) /\ (((someR (.cells true 0 (kv0 w h a p ss))) /\ (someR (.cells o1 z1 (a.flatMap boolC))) /\ (someR (.cells o2 z2 (ss.flatMap spC))) /\ (someR (.cells true 1 (inL (rowT w h a ss ss.length)))) /\ True) /\ (∀ H' : Heap,H'.length = 5 -> (H'[3]? = some (.cells true 0 (kv0 w h a p ss) : KObj) /\ H'[0]? = some (.cells o1 z1 (a.flatMap boolC) : KObj) /\ H'[1]? = some (.cells o2 z2 (ss.flatMap spC) : KObj) /\ H'[4]? = some (.cells true 1 (inL (rowT w h a ss ss.length)) : KObj) /\ True) -> KCall prog 74 [.pointer (some ⟨3,0,none⟩)] H' [] (Is (slQ 5 1 (kv1 p ss w h a).length) (H' ++ [(.cells true 2 ((kv1 p ss w h a).flatMap spC) : KObj)]))) /\ (true = true /\ wk (.tuple #[slQ 5 1 (kv1 p ss w h a).length,nI 0] : Value) (rn (sg 2 [(2,5)]) 3 (.tuple #[slQ 2 1 (kv1 p ss w h a).length,nI 0] : Value)) /\ ((keptR 2 (.cells true 2 ((kv1 p ss w h a).flatMap spC))) /\ True))))
theorem Econfs (o1 o2 : Bool) (z1 z2 : Nat) (w h : Int) (a : List Bool) (p : Int) (ss : List (Int × Int)) : vF prog msk (dm 0) 100000 true 40 true 23 [.agg #[nI w,nI h,slQ 0 2 a.length,nI p,slQ 1 2 ss.length]] (readsK [.cells o1 z1 (a.flatMap boolC),.cells o2 z2 (ss.flatMap spC)]) (some [])
 (.go 3 (.ans [(0,.cells o1 z1 (a.flatMap boolC)),(1,.cells o2 z2 (ss.flatMap spC))] (.tuple #[.pointer (some ⟨3,0,none⟩),nI 0]) [.cells true 0 (kv0 w h a p ss),.cells true 1 (inL (rowT w h a ss ss.length))] (.go 8 (.ans [(3,.cells true 0 (kv0 w h a p ss)),(0,.cells o1 z1 (a.flatMap boolC)),(1,.cells o2 z2 (ss.flatMap spC)),(4,.cells true 1 (inL (rowT w h a ss ss.length)))] (slQ 5 1 (kv1 p ss w h a).length) [.cells true 2 ((kv1 p ss w h a).flatMap spC)] (.go 1 (.again [(2,5)]))))))
 (newK ((readsK [.cells o1 z1 (a.flatMap boolC),.cells o2 z2 (ss.flatMap spC)]) : HT).n 3 (.tuple #[slQ 2 1 (kv1 p ss w h a).length,nI 0]) [(true,.cells true 2 ((kv1 p ss w h a).flatMap spC))]) = Rconfs o1 o2 z1 z2 w h a p ss:=by kernel_rfl
end
end Go.Proofs.YtbgfjemppjhmjaaGreat
/- Radio: conflicts of a track. No condition. -/
namespace Go.Proofs.YtbgfjemppjhmjaaGreat
open Go Go.K
set_option maxRecDepth 100000
set_option linter.unusedVariables false
set_option linter.unusedSimpArgs false
noncomputable section
attribute [local irreducible] vF
theorem hvConfs {o1 o2 : Bool} {z1 z2 : Nat} {w h : Int} {a : List Bool} {p : Int} {ss : List (Int × Int)} (t : TrOk w h a p ss) (e0 : errT w h a p ss = 0) : Rconfs o1 o2 z1 z2 w h a p ss := by
 have hs := t.few
 have hn := t.bas.n1
 have hp1 := t.bas.p1
 have rk := rowsOk t
 delta Rconfs kv0 kv1
 refine ⟨⟨rfl, rfl, trivial⟩, fun H' hH h => (by have := kOpen0 (by omega) (by omega) e0 (by decide) h.1 h.2.1; rw [hH] at this; exact this), ⟨rfl, rfl, rfl, rfl, trivial⟩, fun H' hH h => hH ▸ kConf t rk ⟨by decide, h.2.1, h.2.2.1, h.1, h.2.2.2.1⟩, ?_⟩
 repeat' first | exact spB _ _ | exact trivial | exact rfl | exact wk_refl _ | refine wkO_cells ?_ | refine wks_cons ?_ ?_ | exact wks_nil | exact wk_nil _ _ _ (.inl rfl) | (exact wk_Q (by omega)) | refine wk_tupL ?_ | refine wk_aggL ?_ | refine joinMax ?_ ?_ ?_ | refine joinMin ?_ ?_ ?_ | refine toMax ?_ | refine toMin ?_ | refine ⟨rfl, ?_⟩ | refine ⟨trivial, ?_⟩ | (refine forkD (fun h => ?_) (fun h => ?_)) | (refine forkNe (fun h => ?_) (fun h => ?_)) | (refine forkEq (fun h => ?_) (fun h => ?_)) | refine forkNot ?_ | (refine ⟨vI64 (by omega), ?_⟩) | (refine And.intro (by omega) ?_) | apply And.intro | (exact iEq (by omega)) | (exact vI64 (by omega))
theorem kConfs {w h : Int} {a : List Bool} {p : Int} {ss : List (Int × Int)} (e0 : errT w h a p ss = 0) {H : Heap} {i j : Nat} (hne : i ≠ j) {o1 o2 : Bool} {z1 z2 : Nat} (hi : H[i]? = some (.cells o1 z1 (a.flatMap boolC))) (hj : H[j]? = some (.cells o2 z2 (ss.flatMap spC))) :
  KCall prog 23 [trkV w h a p ss i j] H [] (Is (.tuple #[.slice (some ⟨H.length, 0, some 1⟩) (cfTo p ss (trkRows w h a ss) ss.length).length (cfTo p ss (trkRows w h a ss) ss.length).length, .int .i64 0]) (H ++ [.cells true 2 ((cfTo p ss (trkRows w h a ss) ss.length).flatMap spC)])) :=
 valKs (fun j => .tuple #[.slice (some ⟨j, 0, some 1⟩) (cfTo p ss (trkRows w h a ss) ss.length).length (cfTo p ss (trkRows w h a ss) ss.length).length, .int .i64 0]) (new := [.cells true 2 ((cfTo p ss (trkRows w h a ss) ss.length).flatMap spC)]) (Eq.mpr (Econfs o1 o2 z1 z2 w h a p ss) (hvConfs (trOk e0) e0)) (trk_ok ..) rfl ⟨⟨_, _, rfl, plainSp _ _⟩, trivial⟩ (ids := [i, j]) (by simp [hne]) (trk_objs hi hj) (fun j => rfl) rfl
end
end Go.Proofs.YtbgfjemppjhmjaaGreat
/- Radio: numbers sorted by a key, as insertion does it: plain laws. No condition. -/
namespace Go.Proofs.YtbgfjemppjhmjaaGreat
set_option linter.unusedSimpArgs false
open Go Go.K
set_option linter.unusedVariables false
def stI (l : List Int) (x : Int) (j : Nat) : List Int := l.take j ++ x :: l.drop j
def ipos (k : Int -> Int) (l : List Int) (x : Int) : Nat -> Nat
 | 0 => 0
 | j + 1 => if k x < k (l.getD j 0) then ipos k l x j else j + 1
def isr (k : Int -> Int) (l : List Int) : Nat -> List Int
 | 0 => []
 | i + 1 => stI (isr k l i) (l.getD i 0) (ipos k (isr k l i) (l.getD i 0) i)
theorem ipos_le (k : Int -> Int) (l : List Int) (x : Int) : ∀ j, ipos k l x j <= j
 | 0 => Nat.le_refl _
 | j + 1 => by
  unfold ipos
  split
  ·have := ipos_le k l x j; omega
  ·omega
theorem stI_len {l : List Int} {x : Int} {j : Nat} (h : j <= l.length) : (stI l x j).length = l.length + 1 := by
 unfold stI
 rw [List.length_append, List.length_cons, List.length_take, List.length_drop]; omega
theorem stI_perm (l : List Int) (x : Int) (j : Nat) : (stI l x j).Perm (x :: l) := by
 unfold stI
 have := List.perm_middle (a := x) (l₁ := l.take j) (l₂ := l.drop j)
 rwa [List.take_append_drop] at this
theorem isr_len (k : Int -> Int) (l : List Int) : ∀ i, (isr k l i).length = i
 | 0 => rfl
 | i + 1 => by
  have ih := isr_len k l i
  unfold isr
  rw [stI_len (by have := ipos_le k (isr k l i) (l.getD i 0) i; omega), ih]
theorem isr_perm (k : Int -> Int) (l : List Int) : ∀ i, i <= l.length -> (isr k l i).Perm (l.take i)
 | 0, _ => .refl _
 | i + 1, h => by
  have ih := isr_perm k l i (by omega)
  unfold isr
  rw [List.take_succ_eq_append_getElem (by omega)]
  have e : l.getD i 0 = l[i] := by rw [List.getD_eq_getElem?_getD, List.getElem?_eq_getElem (by omega)]; rfl
  rw [e]
  exact (stI_perm _ _ _).trans ((List.Perm.cons _ ih).trans (List.perm_append_singleton _ _).symm)
theorem ipos_up (k : Int -> Int) (l : List Int) (x : Int) : ∀ j, j <= l.length -> ∀ i, ipos k l x j <= i -> i < j -> k x < k (l.getD i 0)
 | 0, _, i, h1, h2 => by omega
 | j + 1, hj, i, h1, h2 => by
  unfold ipos at h1
  split at h1
  ·by_cases e : i = j
   ·rw [e]; assumption
   ·exact ipos_up k l x j (by omega) i h1 (by omega)
  ·omega
theorem ipos_dn (k : Int -> Int) (l : List Int) (x : Int) : ∀ j, j <= l.length -> 0 < ipos k l x j -> ¬ k x < k (l.getD (ipos k l x j - 1) 0)
 | 0, _, h => by unfold ipos at h; omega
 | j + 1, hj, h => by
  by_cases q : k x < k (l.getD j 0)
  ·have e : ipos k l x (j + 1) = ipos k l x j := by show (if _ then _ else _) = _; rw [if_pos q]
   rw [e] at h ⊢
   exact ipos_dn k l x j (by omega) h
  ·have e : ipos k l x (j + 1) = j + 1 := by show (if _ then _ else _) = _; rw [if_neg q]
   rw [e]; exact q
theorem isr_sorted (k : Int -> Int) (l : List Int) : ∀ i, (isr k l i).Pairwise fun x y => k x <= k y
 | 0 => List.Pairwise.nil
 | i + 1 => by
  have ih := isr_sorted k l i
  have hl := isr_len k l i
  unfold isr
  generalize hm : isr k l i = m at *
  generalize l.getD i 0 = x
  have h1 := ipos_up k m x i (by omega)
  have h2 := ipos_dn k m x i (by omega)
  have h3 := ipos_le k m x i
  generalize ipos k m x i = j at *
  unfold stI
  have hg : ∀ n, (h : n < m.length) -> m[n] = m.getD n 0 := fun n h => by rw [List.getD_eq_getElem?_getD, List.getElem?_eq_getElem h]; rfl
  have hs := List.pairwise_append.1 (by rw [List.take_append_drop]; exact ih : (m.take j ++ m.drop j).Pairwise fun x y => k x <= k y)
  have hdr : ∀ y ∈ m.drop j, k x <= k y := fun y hy => by
   obtain ⟨n, hn, rfl⟩ := List.mem_iff_getElem.1 hy
   rw [List.length_drop] at hn
   rw [List.getElem_drop, hg _ (by omega)]
   exact Int.le_of_lt (h1 (j + n) (by omega) (by omega))
  have htk : ∀ y ∈ m.take j, k y <= k x := fun y hy => by
   obtain ⟨n, hn, rfl⟩ := List.mem_iff_getElem.1 hy
   rw [List.length_take] at hn
   rw [List.getElem_take]
   have hj := h2 (by omega)
   rw [<- hg (j - 1) (by omega)] at hj
   have hle : k m[n] <= k m[j - 1] := by
    by_cases e : n = j - 1
    ·subst e; exact Int.le_refl _
    ·exact List.pairwise_iff_getElem.1 ih n (j - 1) (by omega) (by omega) (by omega)
   omega
  refine List.pairwise_append.2 ⟨hs.1, List.pairwise_cons.2 ⟨hdr, hs.2.1⟩, fun y hy z hz => ?_⟩
  rcases List.mem_cons.1 hz with rfl | hz
  ·exact htk y hy
  ·exact Int.le_trans (htk y hy) (hdr z hz)
end Go.Proofs.YtbgfjemppjhmjaaGreat
/- Radio: heights of sightings: how many agree at most: plain laws. No condition. -/
namespace Go.Proofs.YtbgfjemppjhmjaaGreat
set_option linter.unusedSimpArgs false
open Go Go.K
set_option linter.unusedVariables false
def hgV (agr : Int -> Int -> Bool) (s H : List Int) (n : Nat) : Nat -> Int
 | 0 => 1
 | j + 1 => if agr (s.getD j 0) (s.getD n 0) = true then mxI (hgV agr s H n j) (H.getD j 0 + 1) else hgV agr s H n j
def hgs (agr : Int -> Int -> Bool) (s : List Int) : Nat -> List Int
 | 0 => []
 | n + 1 => hgs agr s n ++ [hgV agr s (hgs agr s n) n n]
theorem hgs_len (agr : Int -> Int -> Bool) (s : List Int) : ∀ n, (hgs agr s n).length = n
 | 0 => rfl
 | n + 1 => by unfold hgs; rw [List.length_append, hgs_len agr s n]; rfl
theorem hgs_get (agr : Int -> Int -> Bool) (s : List Int) {n j : Nat} (h : j < n) : (hgs agr s n).getD j 0 = hgV agr s (hgs agr s j) j j := by
 induction n with
 | zero => omega
 | succ n ih =>
  have hl := hgs_len agr s n
  show (hgs agr s n ++ [hgV agr s (hgs agr s n) n n]).getD j 0 = _
  by_cases e : j = n
  ·subst e
   rw [List.getD_eq_getElem?_getD, List.getElem?_append_right (by omega), hl, Nat.sub_self]; rfl
  ·rw [List.getD_eq_getElem?_getD, List.getElem?_append_left (by omega), <- List.getD_eq_getElem?_getD]
   exact ih (by omega)
end Go.Proofs.YtbgfjemppjhmjaaGreat
/- Radio: how many agree at most: plain laws. No condition. -/
namespace Go.Proofs.YtbgfjemppjhmjaaGreat
set_option linter.unusedSimpArgs false
open Go Go.K
set_option linter.unusedVariables false
def mxF (H : List Int) : Int := H.foldl (fun n h => if h > n then h else n) 0
theorem foldmx (H : List Int) : ∀ (b : Int), b <= H.foldl (fun n h => if h > n then h else n) b /\ (∀ h ∈ H, h <= H.foldl (fun n h => if h > n then h else n) b) /\ (H.foldl (fun n h => if h > n then h else n) b = b ∨ H.foldl (fun n h => if h > n then h else n) b ∈ H) := by
 induction H with
 | nil => intro b; exact ⟨Int.le_refl _, fun h q => (by cases q), Or.inl rfl⟩
 | cons x H ih =>
  intro b
  rw [List.foldl_cons]
  have i := ih (if x > b then x else b)
  have hb : b <= (if x > b then x else b) /\ x <= (if x > b then x else b) := by split <;> omega
  refine ⟨Int.le_trans hb.1 i.1, fun h q => ?_, ?_⟩
  ·rcases List.mem_cons.1 q with rfl | q
   ·exact Int.le_trans hb.2 i.1
   ·exact i.2.1 h q
  ·rcases i.2.2 with e | e
   ·rw [e]
    split
    ·exact Or.inr (List.mem_cons_self ..)
    ·exact Or.inl rfl
   ·exact Or.inr (List.mem_cons_of_mem _ e)
theorem mxF_0 (H : List Int) : 0 <= mxF H := (foldmx H 0).1
theorem mxF_ge {H : List Int} {h : Int} (q : h ∈ H) : h <= mxF H := (foldmx H 0).2.1 h q
theorem mxF_in (H : List Int) : mxF H = 0 ∨ mxF H ∈ H := (foldmx H 0).2.2
theorem gI {l : List Int} {n : Nat} (h : n < l.length) : l.getD n 0 = l[n] := by rw [List.getD_eq_getElem?_getD, List.getElem?_eq_getElem h]; rfl
def hgt (agr : Int -> Int -> Bool) (s : List Int) (n : Nat) : Int := hgV agr s (hgs agr s n) n n
theorem hgs_mem {agr : Int -> Int -> Bool} {s : List Int} {m : Nat} {h : Int} (q : h ∈ hgs agr s m) : ∃ n, n < m /\ h = hgt agr s n := by
 induction m with
 | zero => cases q
 | succ m ih =>
  unfold hgs at q
  rcases List.mem_append.1 q with q | q
  ·obtain ⟨n, hn, e⟩ := ih q; exact ⟨n, by omega, e⟩
  ·exact ⟨m, by omega, List.mem_singleton.1 q⟩
theorem mem_hgs {agr : Int -> Int -> Bool} {s : List Int} {m n : Nat} (h : n < m) : hgt agr s n ∈ hgs agr s m := by
 have e := hgs_get agr s h
 rw [gI (by rw [hgs_len]; exact h)] at e
 unfold hgt
 rw [<- e]; exact List.getElem_mem _
theorem hgV_spec (agr : Int -> Int -> Bool) (s : List Int) (n : Nat) : ∀ j, j <= n -> 1 <= hgV agr s (hgs agr s n) n j /\ (∀ i, i < j -> agr (s.getD i 0) (s.getD n 0) = true -> hgt agr s i + 1 <= hgV agr s (hgs agr s n) n j) /\ (hgV agr s (hgs agr s n) n j = 1 ∨ ∃ i, i < j /\ agr (s.getD i 0) (s.getD n 0) = true /\ hgV agr s (hgs agr s n) n j = hgt agr s i + 1)
 | 0, _ => ⟨Int.le_refl 1, fun i hi => by omega, Or.inl rfl⟩
 | j + 1, hj => by
  obtain ⟨h1, h2, h3⟩ := hgV_spec agr s n j (by omega)
  have hg : (hgs agr s n).getD j 0 = hgt agr s j := hgs_get agr s (by omega)
  show 1 <= (if agr (s.getD j 0) (s.getD n 0) = true then mxI (hgV agr s (hgs agr s n) n j) ((hgs agr s n).getD j 0 + 1) else hgV agr s (hgs agr s n) n j) /\ (∀ i, i < j + 1 -> _ -> hgt agr s i + 1 <= (if agr (s.getD j 0) (s.getD n 0) = true then mxI (hgV agr s (hgs agr s n) n j) ((hgs agr s n).getD j 0 + 1) else hgV agr s (hgs agr s n) n j)) /\ ((if agr (s.getD j 0) (s.getD n 0) = true then mxI (hgV agr s (hgs agr s n) n j) ((hgs agr s n).getD j 0 + 1) else hgV agr s (hgs agr s n) n j) = 1 ∨ ∃ i, i < j + 1 /\ agr (s.getD i 0) (s.getD n 0) = true /\ (if agr (s.getD j 0) (s.getD n 0) = true then mxI (hgV agr s (hgs agr s n) n j) ((hgs agr s n).getD j 0 + 1) else hgV agr s (hgs agr s n) n j) = hgt agr s i + 1)
  rw [hg]
  generalize hgV agr s (hgs agr s n) n j = V at *
  unfold mxI
  by_cases q : agr (s.getD j 0) (s.getD n 0) = true
  ·rw [if_pos q]
   refine ⟨by split <;> omega, fun i hi a => ?_, ?_⟩
   ·by_cases e : i = j
    ·subst e; split <;> omega
    ·have := h2 i (by omega) a; split <;> omega
   ·split
    ·exact Or.inr ⟨j, by omega, q, rfl⟩
    ·rcases h3 with e | ⟨i, hi, a, e⟩
     ·exact Or.inl e
     ·exact Or.inr ⟨i, by omega, a, e⟩
  ·rw [if_neg q]
   refine ⟨h1, fun i hi a => ?_, ?_⟩
   ·by_cases e : i = j
    ·subst e; exact absurd a q
    ·exact h2 i (by omega) a
   ·rcases h3 with e | ⟨i, hi, a, e⟩
    ·exact Or.inl e
    ·exact Or.inr ⟨i, by omega, a, e⟩
theorem hgt_1 (agr : Int -> Int -> Bool) (s : List Int) (n : Nat) : 1 <= hgt agr s n := (hgV_spec agr s n n (Nat.le_refl _)).1
theorem hgt_up {agr : Int -> Int -> Bool} {s : List Int} {i n : Nat} (h : i < n) (a : agr (s.getD i 0) (s.getD n 0) = true) : hgt agr s i + 1 <= hgt agr s n := (hgV_spec agr s n n (Nat.le_refl _)).2.1 i h a
theorem hgt_is (agr : Int -> Int -> Bool) (s : List Int) (n : Nat) : hgt agr s n = 1 ∨ ∃ i, i < n /\ agr (s.getD i 0) (s.getD n 0) = true /\ hgt agr s n = hgt agr s i + 1 := (hgV_spec agr s n n (Nat.le_refl _)).2.2
def mstS (agr : Int -> Int -> Bool) (s : List Int) : Int := mxF (hgs agr s s.length)
def mst (agr : Int -> Int -> Bool) (k : Int -> Int) (l : List Int) : Int := mstS agr (isr k l l.length)
theorem take_cnt {s : List Int} {P : Int -> Bool} {n : Nat} (h : n < s.length) : ((s.take (n + 1)).filter P).length = ((s.take n).filter P).length + (if P (s.getD n 0) = true then 1 else 0) := by
 rw [List.take_succ_eq_append_getElem h, List.filter_append, List.length_append, gI h]
 congr 1
 by_cases q : P s[n] = true
 ·rw [if_pos q, List.filter_cons_of_pos q]; rfl
 ·rw [if_neg q, List.filter_cons_of_neg q]; rfl
theorem mstS_ge {agr : Int -> Int -> Bool} {s : List Int} {P : Int -> Bool} (h : ∀ x ∈ s, ∀ y ∈ s, P x = true -> P y = true -> agr x y = true) : (((s.filter P).length : Nat) : Int) <= mstS agr s := by
 have key : ∀ n, n <= s.length -> ((((s.take n).filter P).length : Nat) : Int) <= 0 ∨ ∃ j, j < n /\ P (s.getD j 0) = true /\ ((((s.take n).filter P).length : Nat) : Int) <= hgt agr s j := by
  intro n
  induction n with
  | zero => intro _; exact Or.inl (by simp)
  | succ n ih =>
   intro hn
   rw [take_cnt (by omega)]
   by_cases q : P (s.getD n 0) = true
   ·rw [if_pos q]
    refine Or.inr ⟨n, by omega, q, ?_⟩
    rcases ih (by omega) with e | ⟨j, hj, pj, e⟩
    ·have := hgt_1 agr s n; omega
    ·have a : agr (s.getD j 0) (s.getD n 0) = true := h _ (by rw [gI (by omega)]; exact List.getElem_mem _) _ (by rw [gI (by omega)]; exact List.getElem_mem _) pj q
     have := hgt_up hj a; omega
   ·rw [if_neg q]
    rcases ih (by omega) with e | ⟨j, hj, pj, e⟩
    ·exact Or.inl (by omega)
    ·exact Or.inr ⟨j, by omega, pj, by omega⟩
 have := key s.length (Nat.le_refl _)
 rw [List.take_length] at this
 rcases this with e | ⟨j, hj, _, e⟩
 ·have := mxF_0 (hgs agr s s.length); unfold mstS; omega
 ·exact Int.le_trans e (mxF_ge (mem_hgs hj))
theorem hgt_has {agr : Int -> Int -> Bool} {k : Int -> Int} {s : List Int} (hs : s.Pairwise fun x y => k x <= k y) (ht : ∀ x ∈ s, ∀ y ∈ s, ∀ z ∈ s, k x <= k y -> k y <= k z -> agr x y = true -> agr y z = true -> agr x z = true) : ∀ n, n < s.length -> ∃ C : List Int, (C ++ [s.getD n 0]).Sublist (s.take (n + 1)) /\ (C ++ [s.getD n 0]).Pairwise (fun x y => agr x y = true) /\ (((C ++ [s.getD n 0]).length : Nat) : Int) = hgt agr s n := by
 intro n
 induction n using Nat.strongRecOn with
 | ind n ih =>
  intro hn
  rcases hgt_is agr s n with e | ⟨i, hi, a, e⟩
  ·refine ⟨[], ?_, by simp, by rw [e]; rfl⟩
   rw [List.take_succ_eq_append_getElem hn, gI hn]
   exact List.sublist_append_right ..
  ·obtain ⟨C, h1, h2, h3⟩ := ih i hi (by omega)
   refine ⟨C ++ [s.getD i 0], ?_, ?_, by rw [List.length_append, Int.natCast_add, h3, e]; rfl⟩
   ·rw [List.take_succ_eq_append_getElem hn, gI hn]
    refine List.Sublist.append (h1.trans ?_) (List.Sublist.refl _)
    exact (List.take_prefix_take_left (by omega : i + 1 <= n)).sublist
   ·refine List.pairwise_append.2 ⟨h2, by simp, fun x hx y hy => ?_⟩
    rw [List.mem_singleton.1 hy]
    have hxs : x ∈ s.take (i + 1) := h1.subset hx
    obtain ⟨m, hm, rfl⟩ := List.mem_iff_getElem.1 hxs
    rw [List.length_take] at hm
    rw [List.getElem_take]
    have him : s[i]'(by omega) ∈ s := List.getElem_mem _
    have hnm : s[n] ∈ s := List.getElem_mem _
    have hin : k (s[i]'(by omega)) <= k s[n] := List.pairwise_iff_getElem.1 hs i n (by omega) hn hi
    rw [gI hn] at a ⊢
    rw [gI (by omega)] at a
    rcases List.mem_append.1 hx with hc | hc
    ·have hag := (List.pairwise_append.1 h2).2.2 _ hc _ (List.mem_singleton.2 rfl)
     rw [List.getElem_take, gI (by omega)] at hag
     by_cases eq : m = i
     ·subst eq; exact a
     ·have hmi : k (s[m]'(by omega)) <= k (s[i]'(by omega)) := List.pairwise_iff_getElem.1 hs m i (by omega) (by omega) (by omega)
      exact ht _ (List.getElem_mem _) _ him _ hnm hmi hin hag a
    ·rw [List.mem_singleton, List.getElem_take, gI (by omega)] at hc
     rw [hc]; exact a
theorem mstS_has {agr : Int -> Int -> Bool} {k : Int -> Int} {s : List Int} (hs : s.Pairwise fun x y => k x <= k y) (ht : ∀ x ∈ s, ∀ y ∈ s, ∀ z ∈ s, k x <= k y -> k y <= k z -> agr x y = true -> agr y z = true -> agr x z = true) : ∃ C : List Int, C.Sublist s /\ C.Pairwise (fun x y => agr x y = true) /\ ((C.length : Nat) : Int) = mstS agr s := by
 rcases mxF_in (hgs agr s s.length) with e | e
 ·exact ⟨[], List.nil_sublist _, List.Pairwise.nil, by unfold mstS; rw [e]; rfl⟩
 ·obtain ⟨n, hn, e⟩ := hgs_mem e
  obtain ⟨C, h1, h2, h3⟩ := hgt_has hs ht n hn
  exact ⟨_, h1.trans (List.take_sublist _ _), h2, by rw [h3]; exact e.symm⟩
structure AgOk (agr : Int -> Int -> Bool) (k : Int -> Int) (D : List Int) : Prop where
 rfl : ∀ x ∈ D, agr x x = true
 sym : ∀ x ∈ D, ∀ y ∈ D, agr x y = true -> agr y x = true
 tr : ∀ x ∈ D, ∀ y ∈ D, ∀ z ∈ D, k x <= k y -> k y <= k z -> agr x y = true -> agr y z = true -> agr x z = true
theorem AgOk.sub {agr : Int -> Int -> Bool} {k : Int -> Int} {D L : List Int} (a : AgOk agr k D) (h : ∀ x ∈ L, x ∈ D) : AgOk agr k L :=
 ⟨fun x hx => a.rfl x (h x hx), fun x hx y hy => a.sym x (h x hx) y (h y hy), fun x hx y hy z hz => a.tr x (h x hx) y (h y hy) z (h z hz)⟩
theorem isr_all (k : Int -> Int) (l : List Int) : (isr k l l.length).Perm l := by
 have := isr_perm k l l.length (Nat.le_refl _)
 rwa [List.take_length] at this
theorem mst_ge {agr : Int -> Int -> Bool} {k : Int -> Int} {l : List Int} {P : Int -> Bool} (h : ∀ x ∈ l, ∀ y ∈ l, P x = true -> P y = true -> agr x y = true) : (((l.filter P).length : Nat) : Int) <= mst agr k l := by
 have p := isr_all k l
 have := mstS_ge (agr := agr) (s := isr k l l.length) (P := P) fun x hx y hy => h x (p.mem_iff.1 hx) y (p.mem_iff.1 hy)
 rwa [(p.filter P).length_eq] at this
theorem mst_has {agr : Int -> Int -> Bool} {k : Int -> Int} {l : List Int} (a : AgOk agr k l) : ∃ P : Int -> Bool, (∀ x ∈ l, ∀ y ∈ l, P x = true -> P y = true -> agr x y = true) /\ (((l.filter P).length : Nat) : Int) = mst agr k l := by
 have p := isr_all k l
 have a' : AgOk agr k (isr k l l.length) := a.sub fun x hx => p.mem_iff.1 hx
 obtain ⟨C, h1, h2, h3⟩ := mstS_has (isr_sorted k l l.length) a'.tr
 have hag : ∀ x ∈ l, ∀ y ∈ l, decide (x ∈ C) = true -> decide (y ∈ C) = true -> agr x y = true := by
  intro x hx y hy qx qy
  have qx := of_decide_eq_true qx
  have qy := of_decide_eq_true qy
  obtain ⟨i, hi, rfl⟩ := List.mem_iff_getElem.1 qx
  obtain ⟨j, hj, rfl⟩ := List.mem_iff_getElem.1 qy
  rcases Nat.lt_trichotomy i j with q | q | q
  ·exact List.pairwise_iff_getElem.1 h2 i j hi hj q
  ·subst q; exact a.rfl _ hx
  ·exact a.sym _ hy _ hx (List.pairwise_iff_getElem.1 h2 j i hj hi q)
 refine ⟨fun x => decide (x ∈ C), hag, Int.le_antisymm (mst_ge hag) ?_⟩
 show mstS agr (isr k l l.length) <= _
 rw [<- h3, <- (p.filter _).length_eq]
 have h4 := (h1.filter fun x => decide (x ∈ C)).length_le
 have h5 : C.filter (fun x => decide (x ∈ C)) = C := List.filter_eq_self.2 fun x hx => decide_eq_true hx
 rw [h5] at h4
 exact Int.ofNat_le.2 h4
theorem mst_le {agr : Int -> Int -> Bool} {k : Int -> Int} {l : List Int} (a : AgOk agr k l) : mst agr k l <= (l.length : Int) := by
 obtain ⟨P, _, e⟩ := mst_has a
 rw [<- e]; exact Int.ofNat_le.2 (List.length_filter_le ..)
theorem mst_all {agr : Int -> Int -> Bool} {k : Int -> Int} {l : List Int} (a : AgOk agr k l) (h : ∀ x ∈ l, ∀ y ∈ l, agr x y = true) : mst agr k l = (l.length : Int) := by
 refine Int.le_antisymm (mst_le a) ?_
 have := mst_ge (k := k) (P := fun _ => true) fun x hx y hy _ _ => h x hx y hy
 rwa [List.filter_eq_self.2 fun _ _ => rfl] at this
theorem mst_sub {agr : Int -> Int -> Bool} {k : Int -> Int} {l : List Int} (a : AgOk agr k l) (Q : Int -> Bool) : mst agr k (l.filter Q) <= mst agr k l := by
 obtain ⟨P, h1, e⟩ := mst_has (a.sub (L := l.filter Q) fun x hx => (List.mem_filter.1 hx).1)
 rw [<- e, List.filter_filter]
 refine mst_ge fun x hx y hy px py => ?_
 rw [Bool.and_eq_true] at px py
 exact h1 x (List.mem_filter.2 ⟨hx, px.2⟩) y (List.mem_filter.2 ⟨hy, py.2⟩) px.1 py.1
end Go.Proofs.YtbgfjemppjhmjaaGreat
