/- What is to be shown of functions. Printed by a program. No condition. -/
import Derived.Test.YthdekmpkioikdaaGreatGK27xR1
import Derived.Shelf.Sort.Plain
import Derived.Ground.Names2Prog
import Derived.Test.YthdekmpkioikdaaGreatChecked
import Derived.Sort.Grow
import Derived.Deep.Draws
namespace Go.Proofs.YthdekmpkioikdaaGreat
set_option linter.unusedSimpArgs false
open Go Go.K
set_option maxRecDepth 100000
set_option maxHeartbeats 4000000
set_option linter.unusedVariables false
noncomputable section
abbrev jbd : Value:=nI 0
abbrev jbt : Int:=(0 : Nat)
abbrev jb6 (l : List Int) : Value:=.iface (l.length + 1) (.agg ⟨(l.flatMap intC)⟩)
abbrev jb8 (l : List Int) : Int:=(l.length : Nat)
abbrev jbp (l : List Int) : Prop:=(.func (.func 132) #[] #[] : Value) = .func (.func 132) #[] #[] /\ (jb6 l) = rn (sg 0 []) 3 (jb6 l) /\ (nI (jb8 l) : Value) = nI (jb8 l) /\ True
abbrev jbc : Prop:=(True) /\ (True)
abbrev jb1b : Prop:=(True) /\ jbc
abbrev jbl : Prop:=∀ x0 : Nat,true = true
abbrev jbj (x0 : Nat) : Int:=(x0 : Int)
abbrev jb1g (x0 : Nat) : Value:=.bool (decide ((0 : Int) <= (x0 : Int)))
abbrev jbe (x0 : Nat) : Value:=nI (IntKind.wrap .i64 ((x0 : Int) + 1))
abbrev jb14 (x0 : Nat) : Value:=nI ((x0 : Int) + 1)
def RanyT (sp : Value) (l : List Int) : Prop :=
 (true = true /\ (0 <= List.length l /\ List.any (l.take 0) badT = false) /\ (true = true /\ (jbd = nI jbt /\ jbp l) /\ jb1b) /\ jbl /\ ∀ x0 : Nat,(x0 <= List.length l /\ List.any (l.take x0) badT = false) -> (((decide ((jbj x0) < (jb8 l))) = true -> (((0 : Int) <= (x0 : Int) /\ (jbj x0) < (jb8 l)) /\ (((l.flatMap intC)[(Int.toNat (x0 : Int) * 1)]? = some (nI (l.getD x0 0))) /\ ((True) /\ (∀ H' : Heap,H'.length = 0 -> (True) -> KCall prog 107 [nI (l.getD x0 0),nI 0,nI 100] H' [] (Is (.bool (inB (l.getD x0 0) 0 100)) H')) /\ (((!(inB (l.getD x0 0) 0 100)) = true -> (jb1g x0) = sp) /\ ((!(inB (l.getD x0 0) 0 100)) = false -> ((jbe x0) = nI ((x0 : Int) + 1) /\ (∃ x0' : Nat,(x0' <= List.length l /\ List.any (l.take x0') badT = false) /\ (List.length l - x0') < (List.length l - x0) /\ true = true /\ ((jb14 x0) = nI (x0' : Int) /\ jbp l) /\ jb1b)))))))) /\ ((decide ((jbj x0) < (jb8 l))) = false -> (.bool false : Value) = sp)))
abbrev jbk : Hint:=.go 0 (.again [])
abbrev jb13 (x0 : Nat) : Hint:=.fork (.auto) (.go 0 (.slot 18 (nI ((x0 : Int) + 1)) jbk))
theorem EanyT (sp : Value) (l : List Int) : vF prog msk (dm 0) 100000 true 40 true 131 [.iface (l.length + 1) (.agg ⟨(l.flatMap intC)⟩),.func (.func 132) #[] #[]] ⟨0,.leaf⟩ (some [])
 (.go 7 (.inv 3 (Nat) (0) [] [] (fun x0 => [(8,nI (x0 : Int)),(1,.func (.func 132) #[] #[]),(0,.iface (l.length + 1) (.agg ⟨(l.flatMap intC)⟩)),(7,nI (jb8 l))]) (fun x0 => []) (fun x0 => []) (fun x0 => []) (fun x0 => (x0 <= List.length l /\ List.any (l.take x0) badT = false)) (fun x0 => (List.length l - x0)) (fun x0 => .go 0 (.fork (.go 4 (.need (.val (nI (l.getD x0 0)) (.go 2 (.ans [] (.bool (inB (l.getD x0 0) 0 100)) [] (.go 1 (jb13 x0))))))) (.auto)))))
 (fun v _ _ => v = sp) = RanyT sp l:=by kernel_rfl
abbrev jbh (l : List Int) : Prop:=(.func (.func 133) #[] #[.pointer (some ⟨1,0,none⟩)] : Value) = .func (.func 133) #[] #[.pointer (some ⟨1,0,none⟩)] /\ wkR (slQ 0 2 l.length) /\ (nI (jb8 l) : Value) = nI (jb8 l) /\ True
abbrev jb1r (l : List Int) (x0 : Nat) (n : Nat):=inB (l.getD x0 0) 0 (((n : Nat) : Int) - 1)
def RanyA (sp : Value) (l : List Int) (n : Nat) : Prop :=
 (true = true /\ (0 <= List.length l /\ List.any (l.take 0) (badA n) = false) /\ (true = true /\ (jbd = nI jbt /\ jbh l) /\ jb1b) /\ jbl /\ ∀ x0 : Nat,(x0 <= List.length l /\ List.any (l.take x0) (badA n) = false) -> (((decide ((jbj x0) < (jb8 l))) = true -> (((0 : Int) <= (x0 : Int) /\ (jbj x0) < (jb8 l)) /\ (((l.flatMap intC)[(0 + Int.toNat (x0 : Int) * 1)]? = some (nI (l.getD x0 0))) /\ ((nI (IntKind.wrap .i64 (((n : Nat) : Int) - 1)) : Value) = nI (((n : Nat) : Int) - 1) /\ ((True) /\ (∀ H' : Heap,H'.length = 2 -> (True) -> KCall prog 107 [nI (l.getD x0 0),nI 0,nI (((n : Nat) : Int) - 1)] H' [] (Is (.bool (jb1r l x0 n)) H')) /\ (((!(jb1r l x0 n)) = true -> (jb1g x0) = sp) /\ ((!(jb1r l x0 n)) = false -> ((jbe x0) = nI ((x0 : Int) + 1) /\ (∃ x0' : Nat,(x0' <= List.length l /\ List.any (l.take x0') (badA n) = false) /\ (List.length l - x0') < (List.length l - x0) /\ true = true /\ ((jb14 x0) = nI (x0' : Int) /\ jbh l) /\ jb1b))))))))) /\ ((decide ((jbj x0) < (jb8 l))) = false -> (.bool false : Value) = sp)))
theorem EanyA (sp : Value) (l : List Int) (n : Nat) : vF prog msk (dm 0) 100000 true 40 true 131 [slQ 0 2 l.length,.func (.func 133) #[] #[.pointer (some ⟨1,0,none⟩)]] (readsT 0 [l.flatMap intC,intC (n : Int)]) (some [])
 (.go 7 (.inv 3 (Nat) (0) [] [] (fun x0 => [(8,nI (x0 : Int)),(1,.func (.func 133) #[] #[.pointer (some ⟨1,0,none⟩)]),(0,slQ 0 2 l.length),(7,nI (jb8 l))]) (fun x0 => []) (fun x0 => []) (fun x0 => []) (fun x0 => (x0 <= List.length l /\ List.any (l.take x0) (badA n) = false)) (fun x0 => (List.length l - x0)) (fun x0 => .go 0 (.fork (.go 4 (.need (.val (nI (l.getD x0 0)) (.go 4 (.slot 6 (nI (((n : Nat) : Int) - 1)) (.ans [] (.bool (jb1r l x0 n)) [] (.go 1 (jb13 x0)))))))) (.auto)))))
 (fun v _ _ => v = sp) = RanyA sp l n:=by kernel_rfl
abbrev jbw : Value:=nI 81
abbrev jb1c (p : Pol):=inB p.warn 0 10000
abbrev jb1v (p : Pol) (sp : Value) : Prop:=((!(inB p.w2 0 100)) = true -> jbw = sp) /\ ((!(inB p.w2 0 100)) = false -> jbd = sp)
def Rpol (sp : Value) (p : Pol) : Prop :=
 ((True) /\ (∀ H' : Heap,H'.length = 1 -> (True) -> KCall prog 107 [nI p.ov,nI 0,nI 30] H' [] (Is (.bool (inB p.ov 0 30)) H')) /\ (((!(inB p.ov 0 30)) = true -> jbw = sp) /\ ((!(inB p.ov 0 30)) = false -> ((True) /\ (∀ H' : Heap,H'.length = 1 -> (True) -> KCall prog 107 [nI p.warn,nI 0,nI 10000] H' [] (Is (.bool (jb1c p)) H')) /\ (((!(jb1c p)) = true -> jbw = sp) /\ ((!(jb1c p)) = false -> ((True) /\ (∀ H' : Heap,H'.length = 1 -> (True) -> KCall prog 107 [nI p.w0,nI 0,nI 100] H' [] (Is (.bool (inB p.w0 0 100)) H')) /\ (((!(inB p.w0 0 100)) = true -> jbw = sp) /\ ((!(inB p.w0 0 100)) = false -> ((True) /\ (∀ H' : Heap,H'.length = 1 -> (True) -> KCall prog 107 [nI p.w1,nI 0,nI 100] H' [] (Is (.bool (inB p.w1 0 100)) H')) /\ (((!(inB p.w1 0 100)) = true -> jbw = sp) /\ ((!(inB p.w1 0 100)) = false -> ((True) /\ (∀ H' : Heap,H'.length = 1 -> (True) -> KCall prog 107 [nI p.w2,nI 0,nI 100] H' [] (Is (.bool (inB p.w2 0 100)) H')) /\ (jb1v p sp))))))))))))))
abbrev jb16 : Hint:=.fork (.auto) (.auto)
theorem Epol (sp : Value) (p : Pol) : vF prog msk (dm 0) 100000 true 40 true 76 [.agg #[nI p.ov,nI p.warn,nI p.w0,nI p.w1,nI p.w2]] ⟨0,.leaf⟩ (some [])
 (.go 3 (.ans [] (.bool (inB p.ov 0 30)) [] (.go 1 (.gfork (.auto) (.go 1 (.ans [] (.bool (jb1c p)) [] (.go 2 (.gfork (.auto) (.go 22 (.ans [] (.bool (inB p.w0 0 100)) [] (.go 1 (.fork (.auto) (.go 13 (.ans [] (.bool (inB p.w1 0 100)) [] (.go 1 (.fork (.auto) (.go 13 (.ans [] (.bool (inB p.w2 0 100)) [] (.go 1 jb16)))))))))))))))))))
 (fun v _ _ => v = sp) = Rpol sp p:=by kernel_rfl
abbrev jb5 (l1_ : List Rq) : Int:=(l1_.length : Nat)
abbrev jbg (l1_ : List Rq) : Prop:=(.func (.func 136) #[] #[.pointer (some ⟨1,0,none⟩)] : Value) = .func (.func 136) #[] #[.pointer (some ⟨1,0,none⟩)] /\ wkR (slQ 0 2 l1_.length) /\ (nI (jb5 l1_) : Value) = nI (jb5 l1_) /\ True
abbrev jb1p (x0 : Nat) (l1_ : List Rq):=decide ((jbj x0) < (jb5 l1_))
abbrev jb1 (l1_ : List Rq) (x0 : Nat):=l1_.getD x0 zeroQ
abbrev jb2 (l1_ : List Rq) (x0 : Nat) : Value:=.agg #[nI (jb1 l1_ x0).id,nI (jb1 l1_ x0).at_,nI (jb1 l1_ x0).place,nI (jb1 l1_ x0).dest,nI (jb1 l1_ x0).len,nI (jb1 l1_ x0).prio,nI (jb1 l1_ x0).limit]
def RanyI (sp : Value) (l1_ m : List Rq) (r : Rq) : Prop :=
 (true = true /\ (0 <= List.length l1_ /\ List.any (l1_.take 0) (sameId r) = false) /\ (true = true /\ (jbd = nI jbt /\ jbg l1_) /\ jb1b) /\ jbl /\ ∀ x0 : Nat,(x0 <= List.length l1_ /\ List.any (l1_.take x0) (sameId r) = false) -> (((jb1p x0 l1_) = true -> (((0 : Int) <= (x0 : Int) /\ (jbj x0) < (jb5 l1_)) /\ ((partA 7 ((l1_ ++ m).flatMap rqC) (0 + Int.toNat (x0 : Int) * 7) = some (jb2 l1_ x0)) /\ (((((jb1 l1_ x0).id : Int) == r.id) = true -> (jb1g x0) = sp) /\ ((((jb1 l1_ x0).id : Int) == r.id) = false -> ((jbe x0) = nI ((x0 : Int) + 1) /\ (∃ x0' : Nat,(x0' <= List.length l1_ /\ List.any (l1_.take x0') (sameId r) = false) /\ (List.length l1_ - x0') < (List.length l1_ - x0) /\ true = true /\ ((jb14 x0) = nI (x0' : Int) /\ jbg l1_) /\ jb1b))))))) /\ ((jb1p x0 l1_) = false -> (.bool false : Value) = sp)))
theorem EanyI (sp : Value) (l1_ m : List Rq) (r : Rq) : vF prog msk (dm 0) 100000 true 40 true 135 [slQ 0 2 l1_.length,.func (.func 136) #[] #[.pointer (some ⟨1,0,none⟩)]] (readsT 0 [(l1_ ++ m).flatMap rqC,rqC r]) (some [])
 (.go 7 (.inv 3 (Nat) (0) [] [] (fun x0 => [(8,nI (x0 : Int)),(1,.func (.func 136) #[] #[.pointer (some ⟨1,0,none⟩)]),(0,slQ 0 2 l1_.length),(7,nI (jb5 l1_))]) (fun x0 => []) (fun x0 => []) (fun x0 => []) (fun x0 => (x0 <= List.length l1_ /\ List.any (l1_.take x0) (sameId r) = false)) (fun x0 => (List.length l1_ - x0)) (fun x0 => .go 0 (.fork (.go 4 (.need (.val (jb2 l1_ x0) (.go 8 (jb13 x0))))) (.auto)))))
 (fun v _ _ => v = sp) = RanyI sp l1_ m r:=by kernel_rfl
abbrev jb0 (f : Fleet) : Int:=(f.t.length : Nat)
abbrev jb1d : Value:=nI 2
abbrev jbf (f : Fleet) : Int:=(f.b.length : Nat)
abbrev jba : Value:=.pointer (some ⟨2,0,none⟩)
abbrev jbi (f : Fleet) : Prop:=jba = .pointer (some ⟨2,0,none⟩) /\ (.pointer (some ⟨3,0,none⟩) : Value) = .pointer (some ⟨3,0,none⟩) /\ wkR (slQ 0 2 f.t.length) /\ (nI (jb0 f) : Value) = nI (jb0 f) /\ True
abbrev jb4 (f : Fleet) : List Value:=[slQ 0 2 f.t.length,slQ 1 2 f.b.length]
abbrev jb18 (f : Fleet) : Prop:=((keptR 4 (.cells true 0 (jb4 f))) /\ (keptR 4 (.cells true 0 [nI (jb0 f)])) /\ True) /\ jbc
abbrev jb1q (x2 : Nat) (f : Fleet):=decide (((x2 : Int) : Int) < (jb0 f))
abbrev jb1t (f : Fleet) (x2 : Nat):=f.t.getD x2 []
abbrev jbb : Value:=nI 80
abbrev jb19 (f : Fleet):=f.b.flatMap intC
abbrev jb1m (f : Fleet):=List.any f.b (badA f.t.length)
def Rfl (sp : Value) (f : Fleet) : Prop :=
 ((True) /\ (∀ H' : Heap,H'.length = 4 -> (True) -> KCall prog 107 [nI (jb0 f),nI 1,nI 12] H' [] (Is (.bool (inB (jb0 f) 1 12)) H')) /\ (((!(inB (jb0 f) 1 12)) = true -> jb1d = sp) /\ ((!(inB (jb0 f) 1 12)) = false -> ((True) /\ (∀ H' : Heap,H'.length = 4 -> (True) -> KCall prog 107 [nI (jbf f),nI 1,nI 3] H' [] (Is (.bool (inB (jbf f) 1 3)) H')) /\ (((!(inB (jbf f) 1 3)) = true -> jb1d = sp) /\ ((!(inB (jbf f) 1 3)) = false -> (true = true /\ (0 <= List.length f.t /\ errUp (errRow f) 0 = 0) /\ (true = true /\ (jbd = nI jbt /\ jbi f) /\ jb18 f) /\ (∀ x2 : Nat,true = true) /\ ∀ x2 : Nat,(x2 <= List.length f.t /\ errUp (errRow f) x2 = 0) -> (((jb1q x2 f) = true -> (((0 : Int) <= (x2 : Int) /\ ((x2 : Int) : Int) < (jb0 f)) /\ (((inL f.t)[(0 + Int.toNat (x2 : Int) * 1)]? = some (.iface ((jb1t f x2).length + 1) (.agg ⟨((jb1t f x2).flatMap intC)⟩))) /\ (∃ y3 : Int,(nI (((jb1t f x2).length : Nat) : Int) : Value) = nI y3 /\ ((((y3 : Int) != (jb0 f)) = true -> jbb = sp) /\ (((y3 : Int) != (jb0 f)) = false -> (((0 : Int) <= (x2 : Int) /\ ((x2 : Int) : Int) < (((jb1t f x2).length : Nat) : Int)) /\ ((((jb1t f x2).flatMap intC)[(Int.toNat (x2 : Int) * 1)]? = some (nI ((jb1t f x2).getD x2 0))) /\ ((((((jb1t f x2).getD x2 0) : Int) != 0) = true -> jbb = sp) /\ (((((jb1t f x2).getD x2 0) : Int) != 0) = false -> ((True) /\ (∀ H' : Heap,H'.length = 4 -> (True) -> KCall prog 131 [.iface ((jb1t f x2).length + 1) (.agg ⟨((jb1t f x2).flatMap intC)⟩),.func (.func 132) #[] #[]] H' [] (Is (.bool (List.any (jb1t f x2) badT)) H')) /\ (((List.any (jb1t f x2) badT) = true -> jbb = sp) /\ ((List.any (jb1t f x2) badT) = false -> ((nI (IntKind.wrap .i64 ((x2 : Int) + 1)) : Value) = nI ((x2 : Int) + 1) /\ (∃ x2' : Nat,(x2' <= List.length f.t /\ errUp (errRow f) x2' = 0) /\ (List.length f.t - x2') < (List.length f.t - x2) /\ true = true /\ ((nI ((x2 : Int) + 1) : Value) = nI (x2' : Int) /\ jbi f) /\ jb18 f))))))))))))))) /\ ((jb1q x2 f) = false -> (((someR (.cells false 0 (jb19 f))) /\ (someR (.cells true 0 [nI (jb0 f)])) /\ True) /\ (∀ H' : Heap,H'.length = 4 -> (H'[1]? = some (.cells false 0 (jb19 f) : KObj) /\ H'[3]? = some (.cells true 0 [nI (jb0 f)] : KObj) /\ True) -> KCall prog 131 [slQ 1 2 f.b.length,.func (.func 133) #[] #[.pointer (some ⟨3,0,none⟩)]] H' [] (Is (.bool (jb1m f)) H')) /\ (((jb1m f) = true -> jbb = sp) /\ ((jb1m f) = false -> jbd = sp))))))))))))
abbrev jb1j (f : Fleet) : List Value:=[.agg #[slQ 0 2 f.t.length,slQ 1 2 f.b.length]]
abbrev jbx : Nat × Value:=(1,.pointer (some ⟨2,0,none⟩))
abbrev jb1n (f : Fleet) : Nat × Bool × KObj:=(2,true,.cells true 0 (jb4 f))
theorem Efl (sp : Value) (f : Fleet) : vF prog msk (dm 0) 100000 true 40 true 75 (jb1j f) (readsT 0 [inL f.t,f.b.flatMap intC]) (some [])
 (.go 7 (.ans [] (.bool (inB (jb0 f) 1 12)) [] (.go 1 (.gfork (.auto) (.go 2 (.ans [] (.bool (inB (jbf f) 1 3)) [] (.go 1 (.fork (.auto) (.go 3 (.inv 3 (Nat) (0) [] [2,3] (fun x2 => [(22,nI (x2 : Int)),jbx,(3,.pointer (some ⟨3,0,none⟩)),(20,slQ 0 2 f.t.length),(21,nI (jb0 f))]) (fun x2 => [(jb1n f),(3,true,.cells true 0 [nI (jb0 f)])]) (fun x2 => []) (fun x2 => []) (fun x2 => (x2 <= List.length f.t /\ errUp (errRow f) x2 = 0)) (fun x2 => (List.length f.t - x2)) (fun x2 => .go 0 (.fork (.go 0 (.need (.val (.iface ((jb1t f x2).length + 1) (.agg ⟨((jb1t f x2).flatMap intC)⟩)) (.go 3 (.bind Int (fun y3 => .slot 28 (nI y3) (.go 2 (.gfork (.auto) (.go 1 (.need (.val (nI ((jb1t f x2).getD x2 0)) (.go 2 (.gfork (.auto) (.go 0 (.ans [] (.bool (List.any (jb1t f x2) badT)) [] (.go 0 (.fork (.auto) (.go 0 (.slot 42 (nI ((x2 : Int) + 1)) jbk))))))))))))))))))) (.go 2 (.ans [(1,.cells false 0 (jb19 f)),(3,.cells true 0 [nI (jb0 f)])] (.bool (jb1m f)) [] jb16))))))))))))))
 (fun v _ _ => v = sp) = Rfl sp f:=by kernel_rfl
abbrev jby (f : Fleet) : Value:=nI (IntKind.wrap .i64 ((jb0 f) - 1))
abbrev jb1x (l1_ : List Rq):=decide ((30 : Int) < (jb5 l1_))
abbrev jbu (l1_ : List Rq) (f : Fleet) : Prop:=wkR (slQ 2 2 l1_.length) /\ (nI ((jb0 f) - 1) : Value) = nI ((jb0 f) - 1) /\ wkR (slQ 2 2 l1_.length) /\ (nI (jb5 l1_) : Value) = nI (jb5 l1_) /\ True
abbrev jbq (f : Fleet) : Prop:=((keptR 4 (.cells true 0 (jb4 f))) /\ True) /\ jbc
abbrev jbv (x0 : Nat) (l1_ : List Rq) (f : Fleet) : Prop:=x0 <= List.length l1_ /\ errUp (errRq1 f.t.length l1_) x0 = 0
abbrev jb12 (l1_ : List Rq) (x0 : Nat):=inB (jb1 l1_ x0).id 0 1000000
abbrev jb15 (l1_ : List Rq) (x0 : Nat):=inB (jb1 l1_ x0).at_ 0 10000
abbrev jbo (l1_ : List Rq) (x0 : Nat) (f : Fleet):=inB (jb1 l1_ x0).place 0 ((jb0 f) - 1)
abbrev jbs (l1_ : List Rq) (x0 : Nat) (f : Fleet):=inB (jb1 l1_ x0).dest 0 ((jb0 f) - 1)
abbrev jb1f (l1_ : List Rq) (x0 : Nat):=inB (jb1 l1_ x0).len 1 100
abbrev jb1l (l1_ : List Rq) (x0 : Nat):=inB (jb1 l1_ x0).prio 1 3
abbrev jbz (l1_ : List Rq) (x0 : Nat):=inB (jb1 l1_ x0).limit 0 10000
abbrev jb3 (l1_ : List Rq) (x0 : Nat) : List Value:=[nI (jb1 l1_ x0).id,nI (jb1 l1_ x0).at_,nI (jb1 l1_ x0).place,nI (jb1 l1_ x0).dest,nI (jb1 l1_ x0).len,nI (jb1 l1_ x0).prio,nI (jb1 l1_ x0).limit]
abbrev jb1k (l1_ : List Rq) (x0 : Nat):=List.any (l1_.take x0) (sameId (jb1 l1_ x0))
def Rrq (sp : Value) (f : Fleet) (l1_ : List Rq) : Prop :=
 (((jb1x l1_) = true -> jb1d = sp) /\ ((jb1x l1_) = false -> ((jby f) = nI ((jb0 f) - 1) /\ (true = true /\ (0 <= List.length l1_ /\ errUp (errRq1 f.t.length l1_) 0 = 0) /\ (true = true /\ (jbd = nI jbt /\ jbu l1_ f) /\ jbq f) /\ jbl /\ ∀ x0 : Nat,(jbv x0 l1_ f) -> (((jb1p x0 l1_) = true -> (((0 : Int) <= (x0 : Int) /\ (jbj x0) < (jb5 l1_)) /\ ((partA 7 (l1_.flatMap rqC) (0 + Int.toNat (x0 : Int) * 7) = some (jb2 l1_ x0)) /\ ((True) /\ (∀ H' : Heap,H'.length = 5 -> (True) -> KCall prog 107 [nI (jb1 l1_ x0).id,nI 0,nI 1000000] H' [] (Is (.bool (jb12 l1_ x0)) H')) /\ (((!(jb12 l1_ x0)) = true -> jbb = sp) /\ ((!(jb12 l1_ x0)) = false -> ((True) /\ (∀ H' : Heap,H'.length = 5 -> (True) -> KCall prog 107 [nI (jb1 l1_ x0).at_,nI 0,nI 10000] H' [] (Is (.bool (jb15 l1_ x0)) H')) /\ (((!(jb15 l1_ x0)) = true -> jbb = sp) /\ ((!(jb15 l1_ x0)) = false -> ((True) /\ (∀ H' : Heap,H'.length = 5 -> (True) -> KCall prog 107 [nI (jb1 l1_ x0).place,nI 0,nI ((jb0 f) - 1)] H' [] (Is (.bool (jbo l1_ x0 f)) H')) /\ (((!(jbo l1_ x0 f)) = true -> jbb = sp) /\ ((!(jbo l1_ x0 f)) = false -> ((True) /\ (∀ H' : Heap,H'.length = 5 -> (True) -> KCall prog 107 [nI (jb1 l1_ x0).dest,nI 0,nI ((jb0 f) - 1)] H' [] (Is (.bool (jbs l1_ x0 f)) H')) /\ (((!(jbs l1_ x0 f)) = true -> jbb = sp) /\ ((!(jbs l1_ x0 f)) = false -> ((True) /\ (∀ H' : Heap,H'.length = 5 -> (True) -> KCall prog 107 [nI (jb1 l1_ x0).len,nI 1,nI 100] H' [] (Is (.bool (jb1f l1_ x0)) H')) /\ (((!(jb1f l1_ x0)) = true -> jbb = sp) /\ ((!(jb1f l1_ x0)) = false -> ((True) /\ (∀ H' : Heap,H'.length = 5 -> (True) -> KCall prog 107 [nI (jb1 l1_ x0).prio,nI 1,nI 3] H' [] (Is (.bool (jb1l l1_ x0)) H')) /\ (((!(jb1l l1_ x0)) = true -> jbb = sp) /\ ((!(jb1l l1_ x0)) = false -> ((True) /\ (∀ H' : Heap,H'.length = 5 -> (True) -> KCall prog 107 [nI (jb1 l1_ x0).limit,nI 0,nI 10000] H' [] (Is (.bool (jbz l1_ x0)) H')) /\ (((!(jbz l1_ x0)) = true -> jbb = sp) /\ ((!(jbz l1_ x0)) = false -> ((((false = false ∨ 0 = 0 ∨ 0 = 7) /\ (x0 : Int).toNat <= l1_.length) /\ ((0 : Int) <= (x0 : Int) /\ (jbj x0) <= (jb5 l1_)) /\ (0 <= (x0 : Int).toNat)) /\ ((slQ 2 2 ((x0 : Int).toNat - 0) : Value) = slQ 2 2 x0 /\ (((someR (.cells false 0 (l1_.flatMap rqC))) /\ (someR (.cells true 0 (jb3 l1_ x0))) /\ True) /\ (∀ H' : Heap,H'.length = 5 -> (H'[2]? = some (.cells false 0 (l1_.flatMap rqC) : KObj) /\ H'[4]? = some (.cells true 0 (jb3 l1_ x0) : KObj) /\ True) -> KCall prog 135 [slQ 2 2 x0,.func (.func 136) #[] #[.pointer (some ⟨4,0,none⟩)]] H' [] (Is (.bool (jb1k l1_ x0)) H')) /\ (((jb1k l1_ x0) = true -> (nI 10 : Value) = sp) /\ ((jb1k l1_ x0) = false -> ((jbe x0) = nI ((x0 : Int) + 1) /\ (∃ x0' : Nat,(x0' <= List.length l1_ /\ errUp (errRq1 f.t.length l1_) x0' = 0) /\ (List.length l1_ - x0') < (List.length l1_ - x0) /\ true = true /\ ((jb14 x0) = nI (x0' : Int) /\ jbu l1_ f) /\ jbq f))))))))))))))))))))))))))))))) /\ ((jb1p x0 l1_) = false -> jbd = sp))))))
abbrev jbn (f : Fleet) (l1_ : List Rq) : List Value:=[.agg #[slQ 0 2 f.t.length,slQ 1 2 f.b.length],slQ 2 2 l1_.length]
abbrev jb1u (f : Fleet) (l1_ : List Rq):=readsT 0 [inL f.t,f.b.flatMap intC,l1_.flatMap rqC]
theorem Erq (sp : Value) (f : Fleet) (l1_ : List Rq) : vF prog msk (dm 0) 100000 true 40 true 77 (jbn f l1_) (jb1u f l1_) (some [])
 (.go 4 (.fork (.auto) (.go 3 (.slot 14 (nI ((jb0 f) - 1)) (.go 3 (.inv 3 (Nat) (0) [] [3] (fun x0 => [(17,nI (x0 : Int)),(1,slQ 2 2 l1_.length),(5,nI ((jb0 f) - 1)),(15,slQ 2 2 l1_.length),(16,nI (jb5 l1_))]) (fun x0 => [(3,true,.cells true 0 (jb4 f))]) (fun x0 => []) (fun x0 => []) (fun x0 => (jbv x0 l1_ f)) (fun x0 => (List.length l1_ - x0)) (fun x0 => .go 0 (.fork (.go 0 (.need (.val (jb2 l1_ x0) (.go 4 (.ans [] (.bool (jb12 l1_ x0)) [] (.go 1 (.gfork (.auto) (.go 1 (.ans [] (.bool (jb15 l1_ x0)) [] (.go 2 (.gfork (.auto) (.go 2 (.ans [] (.bool (jbo l1_ x0 f)) [] (.go 2 (.gfork (.auto) (.go 2 (.ans [] (.bool (jbs l1_ x0 f)) [] (.go 2 (.gfork (.auto) (.go 1 (.ans [] (.bool (jb1f l1_ x0)) [] (.go 2 (.gfork (.auto) (.go 1 (.ans [] (.bool (jb1l l1_ x0)) [] (.go 2 (.gfork (.auto) (.go 1 (.ans [] (.bool (jbz l1_ x0)) [] (.go 1 (.fork (.auto) (.go 1 (.need (.slot 66 (slQ 2 2 x0) (.go 0 (.ans [(2,.cells false 0 (l1_.flatMap rqC)),(4,.cells true 0 (jb3 l1_ x0))] (.bool (jb1k l1_ x0)) [] (.fork (.auto) (.go 0 (.slot 69 (nI ((x0 : Int) + 1)) jbk))))))))))))))))))))))))))))))))))))))) (.auto)))))))))
 (fun v _ _ => v = sp) = Rrq sp f l1_:=by kernel_rfl
end
end Go.Proofs.YthdekmpkioikdaaGreat
/- Request: what is wrong with fleets, requests, policies and premises. No condition. -/
namespace Go.Proofs.YthdekmpkioikdaaGreat
open Go Go.K
set_option maxRecDepth 100000
set_option linter.unusedVariables false
set_option linter.unusedSimpArgs false
noncomputable section
attribute [local irreducible] vF
theorem dec0 (x : Nat) : decide ((0 : Int) <= (x : Int)) = true := decide_eq_true (by omega)
theorem kAnyT (l : List Int) (hl : l.length <= 4294967296) (H : Heap) : KCall prog 131 [inV l, .func (.func 132) #[] #[]] H [] (Is (.bool (l.any badT)) H) := by
 refine valK 40 (fun σ => by have := inV_rn σ 2 l; show [rn σ (2 + 3) (inV l), _] = _; rw [this]; rfl) rfl (Eq.mpr (EanyT _ l) ?_) H
 delta RanyT jbd jbt jb6 jb8 jbp jbc jb1b jbl jbj jb1g jbe jb14
 refine ⟨rfl, ⟨Nat.zero_le _, rfl⟩, ?_, fun _ => rfl, ?_⟩
 ·repeat' first | exact inL_b _ _ | exact plainIL _ _ | exact plainRQ _ _ | exact (inV_rn _ 0 _).symm | exact wk_QR | exact trivial | exact rfl | exact wk_refl _ | exact wk_nil _ _ _ (.inl rfl) | (exact wk_Q (by omega)) | refine wk_tupL ?_ | refine wk_aggL ?_ | refine ⟨rfl, ?_⟩ | refine ⟨trivial, ?_⟩ | (refine forkD (fun h => ?_) (fun h => ?_)) | (refine forkNe (fun h => ?_) (fun h => ?_)) | (refine forkEq (fun h => ?_) (fun h => ?_)) | refine forkNot ?_ | (refine ⟨vI64 (by omega), ?_⟩) | (refine And.intro (by omega) ?_) | apply And.intro | (exact iEq (by omega)) | (exact vI64 (by omega))
 rintro x ⟨hx, hs⟩
 refine forkD (fun k => ?_) (fun k => bEq (any_end (by omega) hs).symm)
 have hlt : x < l.length := by omega
 refine ⟨by omega, intAt hlt (by omega), trivial, fun H' _ _ => kIn _ _ _ H', forkB (fun h => bEq ((dec0 x).trans (any_at (d := 0) hlt h).symm)) (fun h => ⟨vI64 (by omega), x + 1, ⟨by omega, any_snoc (d := 0) hlt hs h⟩, by omega, rfl, ?_⟩)⟩
 repeat' first | exact inL_b _ _ | exact plainIL _ _ | exact plainRQ _ _ | exact (inV_rn _ 0 _).symm | exact wk_QR | exact trivial | exact rfl | exact wk_refl _ | exact wk_nil _ _ _ (.inl rfl) | (exact wk_Q (by omega)) | refine wk_tupL ?_ | refine wk_aggL ?_ | refine ⟨rfl, ?_⟩ | refine ⟨trivial, ?_⟩ | (refine forkD (fun h => ?_) (fun h => ?_)) | (refine forkNe (fun h => ?_) (fun h => ?_)) | (refine forkEq (fun h => ?_) (fun h => ?_)) | refine forkNot ?_ | (refine ⟨vI64 (by omega), ?_⟩) | (refine And.intro (by omega) ?_) | apply And.intro | (exact iEq (by omega)) | (exact vI64 (by omega))
theorem kAnyA (l : List Int) (n : Nat) (hl : l.length <= 4294967296) (hn : n <= 4294967296) {H : Heap} {i0 i1 : Nat} {o0 o1 : Bool} {z0 z1 : Nat} (e0 : H[i0]? = some (.cells o0 z0 (l.flatMap intC))) (e1 : H[i1]? = some (.cells o1 z1 [nI (n : Int)])) :
  KCall prog 131 [.slice (some ⟨i0, 0, some 2⟩) l.length l.length, .func (.func 133) #[] #[.pointer (some ⟨i1, 0, none⟩)]] H [] (Is (.bool (l.any (badA n))) H) := by
 refine valRx (Eq.mpr (EanyA _ l n) ?_) ⟨plainIL 0 _, rfl, trivial⟩ rfl (ids := [i0, i1]) ⟨⟨_, _, e0⟩, ⟨_, _, e1⟩, trivial⟩ rfl
 delta RanyA jbd jbt jb8 jbh jbc jb1b jbl jbj jb1r jb1g jbe jb14
 refine ⟨rfl, ⟨Nat.zero_le _, rfl⟩, ?_, fun _ => rfl, ?_⟩
 ·repeat' first | exact inL_b _ _ | exact plainIL _ _ | exact plainRQ _ _ | exact (inV_rn _ 0 _).symm | exact wk_QR | exact trivial | exact rfl | exact wk_refl _ | exact wk_nil _ _ _ (.inl rfl) | (exact wk_Q (by omega)) | refine wk_tupL ?_ | refine wk_aggL ?_ | refine ⟨rfl, ?_⟩ | refine ⟨trivial, ?_⟩ | (refine forkD (fun h => ?_) (fun h => ?_)) | (refine forkNe (fun h => ?_) (fun h => ?_)) | (refine forkEq (fun h => ?_) (fun h => ?_)) | refine forkNot ?_ | (refine ⟨vI64 (by omega), ?_⟩) | (refine And.intro (by omega) ?_) | apply And.intro | (exact iEq (by omega)) | (exact vI64 (by omega))
 rintro x ⟨hx, hs⟩
 refine forkD (fun k => ?_) (fun k => bEq (any_end (by omega) hs).symm)
 have hlt : x < l.length := by omega
 refine ⟨by omega, intAt hlt (by omega), vI64 (by omega), trivial, fun H' _ _ => kIn _ _ _ H', forkB (fun h => bEq ((dec0 x).trans (any_at (d := 0) hlt h).symm)) (fun h => ⟨vI64 (by omega), x + 1, ⟨by omega, any_snoc (d := 0) hlt hs h⟩, by omega, rfl, ?_⟩)⟩
 repeat' first | exact plainIL _ _ | exact wk_QR | exact trivial | exact rfl | exact wk_refl _ | (exact wk_Q (by omega)) | apply And.intro | (exact iEq (by omega))
theorem partQL {l m : List Rq} {k : Nat} (h : k < l.length) {off : Nat} (ho : off = k * 7) : partA 7 ((l ++ m).flatMap rqC) off = some (.agg ⟨rqC (l.getD k zeroQ)⟩) := by
 have := partQ (l := l ++ m) (k := k) (by rw [List.length_append]; omega) ho
 rw [this, List.getD_eq_getElem?_getD, List.getElem?_append_left h, <- List.getD_eq_getElem?_getD]
theorem sameId_1 {r x : Rq} (h : x.id = r.id) : sameId r x = true := decide_eq_true h
theorem sameId_0 {r x : Rq} (h : x.id ≠ r.id) : sameId r x = false := decide_eq_false h
theorem kAnyI (l m : List Rq) (r : Rq) (hl : l.length <= 4294967296) {H : Heap} {i0 i1 : Nat} {o0 o1 : Bool} {z0 z1 : Nat} (e0 : H[i0]? = some (.cells o0 z0 ((l ++ m).flatMap rqC))) (e1 : H[i1]? = some (.cells o1 z1 (rqC r))) :
  KCall prog 135 [.slice (some ⟨i0, 0, some 2⟩) l.length l.length, .func (.func 136) #[] #[.pointer (some ⟨i1, 0, none⟩)]] H [] (Is (.bool (l.any (sameId r))) H) := by
 refine valRx (Eq.mpr (EanyI _ l m r) ?_) ⟨plainRQ 0 _, rfl, trivial⟩ rfl (ids := [i0, i1]) ⟨⟨_, _, e0⟩, ⟨_, _, e1⟩, trivial⟩ rfl
 delta RanyI jbd jbt jb5 jbg jbc jb1b jbl jbj jb1p jb1 jb2 jb1g jbe jb14
 refine ⟨rfl, ⟨Nat.zero_le _, rfl⟩, ?_, fun _ => rfl, ?_⟩
 ·repeat' first | exact plainIL _ _ | exact wk_QR | exact trivial | exact rfl | exact wk_refl _ | (exact wk_Q (by omega)) | apply And.intro | (exact iEq (by omega))
 rintro x ⟨hx, hs⟩
 refine forkD (fun k => ?_) (fun k => bEq (any_end (by omega) hs).symm)
 have hlt : x < l.length := by omega
 refine ⟨by omega, partQL hlt (by omega), forkEq (fun h => bEq ((dec0 x).trans (any_at (d := zeroQ) hlt (sameId_1 h)).symm)) (fun h => ⟨vI64 (by omega), x + 1, ⟨by omega, any_snoc (d := zeroQ) hlt hs (sameId_0 h)⟩, by omega, rfl, ?_⟩)⟩
 repeat' first | exact plainIL _ _ | exact wk_QR | exact trivial | exact rfl | exact wk_refl _ | (exact wk_Q (by omega)) | apply And.intro | (exact iEq (by omega))
theorem bad0 {b : Bool} (h : (!b) = false) : b = true := by cases b <;> first | rfl | cases h
theorem errPol_1 {p : Pol} (h : (!inB p.ov 0 30 || !inB p.warn 0 10000 || [p.w0, p.w1, p.w2].any badW) = true) : (81 : Int) = errPol p := (if_pos h).symm
theorem errPol_0 {p : Pol} (h1 : (!inB p.ov 0 30) = false) (h2 : (!inB p.warn 0 10000) = false) (h3 : (!inB p.w0 0 100) = false) (h4 : (!inB p.w1 0 100) = false) (h5 : (!inB p.w2 0 100) = false) : (0 : Int) = errPol p :=
 (if_neg (by simp only [List.any_cons, List.any_nil, badW, h1, h2, h3, h4, h5]; decide)).symm
theorem kPol (p : Pol) (H : Heap) : KCall prog 76 [.agg ⟨polC p⟩] H [] (Is (.int .i64 (errPol p)) H) := by
 refine valK 40 (fun σ => rfl) rfl (Eq.mpr (Epol _ p) ?_) H
 delta Rpol jbw jb1c jbd jb1v
 refine ⟨trivial, fun H' _ _ => kIn _ _ _ H', forkB (fun h => iEq (errPol_1 (by simp only [h, Bool.true_or]))) (fun h1 => ⟨trivial, fun H' _ _ => kIn _ _ _ H', forkB (fun h => iEq (errPol_1 (by simp only [h, Bool.true_or, Bool.or_true]))) (fun h2 => ⟨trivial, fun H' _ _ => kIn _ _ _ H', forkB (fun h => iEq (errPol_1 (by simp only [List.any_cons, badW, h, Bool.true_or, Bool.or_true]))) (fun h3 =>
  ⟨trivial, fun H' _ _ => kIn _ _ _ H', forkB (fun h => iEq (errPol_1 (by simp only [List.any_cons, badW, h, Bool.true_or, Bool.or_true]))) (fun h4 => ⟨trivial, fun H' _ _ => kIn _ _ _ H', forkB (fun h => iEq (errPol_1 (by simp only [List.any_cons, badW, h, Bool.true_or, Bool.or_true]))) (fun h5 => iEq (errPol_0 h1 h2 h3 h4 h5))⟩)⟩)⟩)⟩)⟩
theorem row_1 {n i : Nat} {row : List Int} (h : ((row.length : Nat) : Int) ≠ (n : Int)) : badRow n i row = true := by
 unfold badRow; rw [decide_eq_true (show row.length ≠ n by omega)]; rfl
theorem row_2 {n i : Nat} {row : List Int} (h : row.getD i 0 ≠ 0) : badRow n i row = true := by
 unfold badRow; rw [decide_eq_true h, Bool.or_true]; rfl
theorem row_3 {n i : Nat} {row : List Int} (h : row.any badT = true) : badRow n i row = true := by
 unfold badRow; rw [h, Bool.or_true]
theorem row_0 {n i : Nat} {row : List Int} (h1 : ((row.length : Nat) : Int) = (n : Int)) (h2 : row.getD i 0 = 0) (h3 : row.any badT = false) : badRow n i row = false := by
 unfold badRow; rw [h3, decide_eq_false (fun k => k (by omega)), decide_eq_false (fun k => k h2)]; rfl
theorem errRow_1 {f : Fleet} {i : Nat} (h : badRow f.t.length i (f.t.getD i []) = true) : errRow f i = 80 := if_pos h
theorem errRow_0 {f : Fleet} {i : Nat} (h : badRow f.t.length i (f.t.getD i []) = false) : errRow f i = 0 := if_neg (by rw [h]; decide)
theorem errFl_1 {f : Fleet} (h : (!inB (f.t.length : Int) 1 12) = true) : (2 : Int) = errFl f := (if_pos (.inl h)).symm
theorem errFl_2 {f : Fleet} (h : (!inB (f.b.length : Int) 1 3) = true) : (2 : Int) = errFl f := (if_pos (.inr h)).symm
theorem errFl_3 {f : Fleet} (h1 : (!inB (f.t.length : Int) 1 12) = false) (h2 : (!inB (f.b.length : Int) 1 3) = false) {x : Nat} (hx : x < f.t.length) (hs : errUp (errRow f) x = 0) (h : badRow f.t.length x (f.t.getD x []) = true) : (80 : Int) = errFl f := by
 unfold errFl
 rw [if_neg (by rw [h1, h2]; decide), errUp_at hs (by rw [errRow_1 h]; decide) hx, errRow_1 h]; rfl
theorem errFl_4 {f : Fleet} (h1 : (!inB (f.t.length : Int) 1 12) = false) (h2 : (!inB (f.b.length : Int) 1 3) = false) (hs : errUp (errRow f) f.t.length = 0) (h : f.b.any (badA f.t.length) = true) : (80 : Int) = errFl f := by
 unfold errFl
 rw [if_neg (by rw [h1, h2]; decide), hs, if_pos h]; rfl
theorem errFl_0 {f : Fleet} (h1 : (!inB (f.t.length : Int) 1 12) = false) (h2 : (!inB (f.b.length : Int) 1 3) = false) (hs : errUp (errRow f) f.t.length = 0) (h : f.b.any (badA f.t.length) = false) : (0 : Int) = errFl f := by
 unfold errFl
 rw [if_neg (by rw [h1, h2]; decide), hs, if_neg (by rw [h]; decide)]; rfl
theorem kFl (f : Fleet) (ht : f.t.length <= 4294967296) (hb : f.b.length <= 4294967296) (hs : shortI f.t) {H : Heap} {i0 i1 : Nat} {o0 o1 : Bool} {z0 z1 : Nat} (e0 : H[i0]? = some (.cells o0 z0 (inL f.t))) (e1 : H[i1]? = some (.cells o1 z1 (f.b.flatMap intC))) :
  KCall prog 75 [fleetV f i0 i1] H [] (Is (.int .i64 (errFl f)) H) := by
 refine valRx (Eq.mpr (Efl _ f) ?_) ⟨inL_b 0 _, plainIL 0 _, trivial⟩ rfl (ids := [i0, i1]) ⟨⟨_, _, e0⟩, ⟨_, _, e1⟩, trivial⟩ rfl
 delta Rfl jb0 jb1d jbf jbd jbt jba jbi jb4 jbc jb18 jb1q jb1t jbb jb19 jb1m
 refine ⟨trivial, fun H' _ _ => kIn _ _ _ H', forkB (fun h => iEq (errFl_1 h)) (fun h1 => ⟨trivial, fun H' _ _ => kIn _ _ _ H', forkB (fun h => iEq (errFl_2 h)) (fun h2 => ⟨rfl, ⟨Nat.zero_le _, rfl⟩, ?_, fun _ => rfl, ?_⟩)⟩)⟩
 ·repeat' first | exact plainIL _ _ | exact wk_QR | exact trivial | exact rfl | exact wk_refl _ | (exact wk_Q (by omega)) | apply And.intro | (exact iEq (by omega))
 rintro x ⟨hx, hu⟩
 refine forkD (fun k => ?_) (fun k => ?_)
 ·have hlt : x < f.t.length := by omega
  refine ⟨by omega, inL_at hlt (by omega), _, rfl, forkNe (fun h => iEq (errFl_3 h1 h2 hlt hu (row_1 h))) (fun h3 => ?_)⟩
  have hr : x < (f.t.getD x []).length := by omega
  refine ⟨by omega, intAt hr (by omega), forkNe (fun h => iEq (errFl_3 h1 h2 hlt hu (row_2 h))) (fun h4 => ⟨trivial, fun H' _ _ => kAnyT _ (hs x hlt) H', forkB (fun h => iEq (errFl_3 h1 h2 hlt hu (row_3 h))) (fun h5 => ⟨vI64 (by omega), x + 1, ⟨by omega, errUp_succ hu (errRow_0 (row_0 h3 h4 h5))⟩, by omega, rfl, ?_⟩)⟩)⟩
  repeat' first | exact plainIL _ _ | exact wk_QR | exact trivial | exact rfl | exact wk_refl _ | (exact wk_Q (by omega)) | apply And.intro | (exact iEq (by omega))
 ·obtain rfl : x = f.t.length := by omega
  exact ⟨⟨rfl, rfl, trivial⟩, fun H' _ hd => kAnyA f.b _ hb ht hd.1 hd.2.1, forkB (fun h => iEq (errFl_4 h1 h2 hu h)) (fun h => iEq (errFl_0 h1 h2 hu h))⟩
end
end Go.Proofs.YthdekmpkioikdaaGreat
/- Request: what is wrong with requests; the greatest number. No condition. -/
namespace Go.Proofs.YthdekmpkioikdaaGreat
open Go Go.K
set_option maxRecDepth 100000
set_option linter.unusedVariables false
set_option linter.unusedSimpArgs false
noncomputable section
attribute [local irreducible] vF
theorem errRq_2 {n : Nat} {l : List Rq} (h : (30 : Int) < (l.length : Int)) : (2 : Int) = errRq n l := (if_pos (by omega)).symm
theorem errRq1_1 {n : Nat} {l : List Rq} {x : Nat} (h : badRq n (l.getD x zeroQ) = true) : errRq1 n l x = 80 := if_pos h
theorem errRq1_2 {n : Nat} {l : List Rq} {x : Nat} (h : badRq n (l.getD x zeroQ) = false) (h2 : (l.take x).any (sameId (l.getD x zeroQ)) = true) : errRq1 n l x = 10 := by
 unfold errRq1; rw [if_neg (by rw [h]; decide), if_pos h2]
theorem errRq1_0 {n : Nat} {l : List Rq} {x : Nat} (h : badRq n (l.getD x zeroQ) = false) (h2 : (l.take x).any (sameId (l.getD x zeroQ)) = false) : errRq1 n l x = 0 := by
 unfold errRq1; rw [if_neg (by rw [h]; decide), if_neg (by rw [h2]; decide)]
theorem errRq_e {n : Nat} {l : List Rq} (h0 : ¬ (30 : Int) < (l.length : Int)) {x : Nat} (hx : x < l.length) (hu : errUp (errRq1 n l) x = 0) {e : Int} (he : errRq1 n l x = e) (hne : e ≠ 0) : e = errRq n l := by
 unfold errRq
 rw [if_neg (by omega), errUp_at hu (by rw [he]; exact hne) hx, he]
theorem errRq_0 {n : Nat} {l : List Rq} (h0 : ¬ (30 : Int) < (l.length : Int)) (hu : errUp (errRq1 n l) l.length = 0) : (0 : Int) = errRq n l := by
 unfold errRq
 rw [if_neg (by omega), hu]
theorem badRq_0 {n : Nat} {r : Rq} (h1 : (!inB r.id 0 1000000) = false) (h2 : (!inB r.at_ 0 10000) = false) (h3 : (!inB r.place 0 ((n : Int) - 1)) = false) (h4 : (!inB r.dest 0 ((n : Int) - 1)) = false) (h5 : (!inB r.len 1 100) = false) (h6 : (!inB r.prio 1 3) = false) (h7 : (!inB r.limit 0 10000) = false) : badRq n r = false := by
 unfold badRq; rw [h1, h2, h3, h4, h5, h6, h7]; rfl
theorem idAt {l : List Rq} {k : Nat} (h : k < l.length) {off : Nat} (ho : off = k * 7 + 0) : (l.flatMap rqC)[off]? = some (.int .i64 (l.getD k zeroQ).id) := cell_at (n := 7) (d := zeroQ) (c := 0) rqC_len h ho rfl
theorem kRq (f : Fleet) (l : List Rq) (ht : f.t.length <= 4294967296) {H : Heap} {i0 i1 i2 : Nat} {o0 o1 o2 : Bool} {z0 z1 z2 : Nat} (e0 : H[i0]? = some (.cells o0 z0 (inL f.t))) (e1 : H[i1]? = some (.cells o1 z1 (f.b.flatMap intC))) (e2 : H[i2]? = some (.cells o2 z2 (l.flatMap rqC))) :
  KCall prog 77 [fleetV f i0 i1, .slice (some ⟨i2, 0, some 2⟩) l.length l.length] H [] (Is (.int .i64 (errRq f.t.length l)) H) := by
 refine valRx (Eq.mpr (Erq _ f l) ?_) ⟨inL_b 0 _, plainIL 0 _, plainRQ 0 _, trivial⟩ rfl (ids := [i0, i1, i2]) ⟨⟨_, _, e0⟩, ⟨_, _, e1⟩, ⟨_, _, e2⟩, trivial⟩ rfl
 delta Rrq jb5 jb1x jb1d jb0 jby jbd jbt jbu jb4 jbc jbq jbl jbv jbj jb1p jb1 jb2 jb12 jbb jb15 jbo jbs jb1f jb1l jbz jb3 jb1k jbe jb14
 refine forkD (fun h => iEq (errRq_2 h)) (fun h0 => ⟨vI64 (by omega), rfl, ⟨Nat.zero_le _, rfl⟩, ?_, fun _ => rfl, ?_⟩)
 ·repeat' first | exact plainIL _ _ | exact wk_QR | exact trivial | exact rfl | exact wk_refl _ | (exact wk_Q (by omega)) | apply And.intro | (exact iEq (by omega))
 rintro x ⟨hx, hu⟩
 refine forkD (fun k => ?_) (fun k => ?_)
 ·have hlt : x < l.length := by omega
  refine ⟨by omega, partQ hlt (by omega), trivial, fun H' _ _ => kIn _ _ _ H', forkB (fun h => ?_) (fun h1 => ⟨trivial, fun H' _ _ => kIn _ _ _ H', forkB (fun h => ?_) (fun h2 => ⟨trivial, fun H' _ _ => kIn _ _ _ H', forkB (fun h => ?_) (fun h3 => ⟨trivial, fun H' _ _ => kIn _ _ _ H', forkB (fun h => ?_) (fun h4 =>
   ⟨trivial, fun H' _ _ => kIn _ _ _ H', forkB (fun h => ?_) (fun h5 => ⟨trivial, fun H' _ _ => kIn _ _ _ H', forkB (fun h => ?_) (fun h6 => ⟨trivial, fun H' _ _ => kIn _ _ _ H', forkB (fun h => ?_) (fun h7 => ?_)⟩)⟩)⟩)⟩)⟩)⟩)⟩
  all_goals first | (exact iEq (errRq_e h0 hlt hu (errRq1_1 (by unfold badRq; simp only [h, Bool.true_or, Bool.or_true])) (by decide))) | skip
  have hb := badRq_0 h1 h2 h3 h4 h5 h6 h7
  refine ⟨⟨⟨.inl rfl, by omega⟩, by omega, Nat.zero_le _⟩, rfl, ⟨rfl, rfl, trivial⟩, fun H' _ hd => ?_, forkB (fun h => iEq (errRq_e h0 hlt hu (errRq1_2 hb h) (by decide))) (fun h => ⟨vI64 (by omega), x + 1, ⟨by omega, errUp_succ hu (errRq1_0 hb h)⟩, by omega, rfl, ?_⟩)⟩
  ·have key := kAnyI (l.take x) (l.drop x) (l.getD x zeroQ) (by rw [take_len hx]; omega) (by rw [List.take_append_drop]; exact hd.1) hd.2.1
   rw [take_len hx] at key; exact key
  ·repeat' first | exact plainIL _ _ | exact wk_QR | exact trivial | exact rfl | exact wk_refl _ | (exact wk_Q (by omega)) | apply And.intro | (exact iEq (by omega))
 ·obtain rfl : x = l.length := by omega
  exact iEq (errRq_0 h0 hu)
end
end Go.Proofs.YthdekmpkioikdaaGreat
/- Request: plain laws of premises, fleets and requests. No condition. -/
namespace Go.Proofs.YthdekmpkioikdaaGreat
set_option linter.unusedSimpArgs false
open Go Go.K
set_option linter.unusedVariables false
noncomputable section
theorem first2_0 {a b : Int} (h : first2 a b = 0) : a = 0 /\ b = 0 := by
 unfold first2 at h; split at h
 ·rename_i k; exact ⟨k, h⟩
 ·rename_i k; exact absurd h k
structure FlOk (f : Fleet) : Prop where
 n1 : 1 <= f.t.length
 n2 : f.t.length <= 12
 b1 : 1 <= f.b.length
 b2 : f.b.length <= 3
 row : ∀ k, k < f.t.length -> (f.t.getD k []).length = f.t.length
 el : ∀ k j, k < f.t.length -> 0 <= (f.t.getD k []).getD j 0 /\ (f.t.getD k []).getD j 0 <= 100
 br : ∀ k, k < f.b.length -> 0 <= f.b.getD k 0 /\ f.b.getD k 0 <= (f.t.length : Int) - 1
theorem any_no {α : Type} {l : List α} {d : α} {p : α -> Bool} (h : l.any p = false) {k : Nat} (hk : k < l.length) : p (l.getD k d) = false := by
 have := List.any_eq_false.1 h _ (getD_mem (d := d) hk)
 cases hp : p (l.getD k d) with
 | false => rfl
 | true => exact absurd hp this
theorem flOk {f : Fleet} (h : errFl f = 0) : FlOk f := by
 unfold errFl at h
 split at h
 ·cases h
 ·rename_i h0
  obtain ⟨h1, h2⟩ := first2_0 h
  have a1 : inB (f.t.length : Int) 1 12 = true := by
   cases hb : inB (f.t.length : Int) 1 12 with
   | true => rfl
   | false => exact absurd (.inl (by rw [hb]; rfl)) h0
  have a2 : inB (f.b.length : Int) 1 3 = true := by
   cases hb : inB (f.b.length : Int) 1 3 with
   | true => rfl
   | false => exact absurd (.inr (by rw [hb]; rfl)) h0
  have b1 := inB_2 a1
  have b2 := inB_2 a2
  have hr : ∀ k, k < f.t.length -> badRow f.t.length k (f.t.getD k []) = false := by
   intro k hk
   have := errUp_all h1 k hk
   unfold errRow at this
   split at this
   ·cases this
   ·rename_i hb; cases hc : badRow f.t.length k (f.t.getD k []) with
    | false => rfl
    | true => exact absurd hc hb
  have hlen : ∀ k, k < f.t.length -> (f.t.getD k []).length = f.t.length := by
   intro k hk
   have := hr k hk
   unfold badRow at this
   rw [Bool.or_eq_false_iff, Bool.or_eq_false_iff] at this
   have := of_decide_eq_false this.1.1
   omega
  refine ⟨by omega, by omega, by omega, by omega, hlen, fun k j hk => ?_, fun k hk => ?_⟩
  ·by_cases hj : j < (f.t.getD k []).length
   ·have := hr k hk
    unfold badRow at this
    rw [Bool.or_eq_false_iff] at this
    have h3 := any_no (d := 0) this.2 hj
    exact inB_2 (bad0 h3)
   ·rw [List.getD_eq_getElem?_getD, List.getElem?_eq_none (by omega)]; decide
  ·have hb : f.b.any (badA f.t.length) = false := by
    cases hc : f.b.any (badA f.t.length) with
    | false => rfl
    | true => rw [if_pos hc] at h2; cases h2
   exact inB_2 (bad0 (any_no (d := 0) hb hk))
structure RqOk (n : Nat) (r : Rq) : Prop where
 id : 0 <= r.id /\ r.id <= 1000000
 at_ : 0 <= r.at_ /\ r.at_ <= 10000
 place : 0 <= r.place /\ r.place <= (n : Int) - 1
 dest : 0 <= r.dest /\ r.dest <= (n : Int) - 1
 len : 1 <= r.len /\ r.len <= 100
 prio : 1 <= r.prio /\ r.prio <= 3
 limit : 0 <= r.limit /\ r.limit <= 10000
theorem rqOk {n : Nat} {r : Rq} (h : badRq n r = false) : RqOk n r := by
 unfold badRq at h
 simp only [Bool.or_eq_false_iff] at h
 obtain ⟨⟨⟨⟨⟨⟨h1, h2⟩, h3⟩, h4⟩, h5⟩, h6⟩, h7⟩ := h
 exact ⟨inB_2 (bad0 h1), inB_2 (bad0 h2), inB_2 (bad0 h3), inB_2 (bad0 h4), inB_2 (bad0 h5), inB_2 (bad0 h6), inB_2 (bad0 h7)⟩
structure LsOk (n : Nat) (l : List Rq) : Prop where
 len : l.length <= 30
 ok : ∀ k, k < l.length -> RqOk n (l.getD k zeroQ)
 ne : ∀ k j, k < l.length -> j < k -> (l.getD j zeroQ).id ≠ (l.getD k zeroQ).id
theorem lsOk {n : Nat} {l : List Rq} (h : errRq n l = 0) : LsOk n l := by
 unfold errRq at h
 split at h
 ·cases h
 ·have hb : ∀ k, k < l.length -> badRq n (l.getD k zeroQ) = false /\ (l.take k).any (sameId (l.getD k zeroQ)) = false := by
   intro k hk
   have := errUp_all h k hk
   unfold errRq1 at this
   split at this
   ·cases this
   ·rename_i h1
    split at this
    ·cases this
    ·rename_i h2
     refine ⟨?_, ?_⟩
     ·cases hc : badRq n (l.getD k zeroQ) with
      | false => rfl
      | true => exact absurd hc h1
     ·cases hc : (l.take k).any (sameId (l.getD k zeroQ)) with
      | false => rfl
      | true => exact absurd hc h2
  refine ⟨by omega, fun k hk => rqOk (hb k hk).1, fun k j hk hj => ?_⟩
  have hjt : j < (l.take k).length := by rw [take_len (by omega)]; exact hj
  have := any_no (d := zeroQ) (hb k hk).2 hjt
  have hg : (l.take k).getD j zeroQ = l.getD j zeroQ := by rw [List.getD_eq_getElem?_getD, List.getElem?_take, if_pos (by omega), <- List.getD_eq_getElem?_getD]
  rw [hg] at this
  exact of_decide_eq_false this
structure PreOk (q : Prem) : Prop where
 burst : 0 <= q.burst /\ q.burst <= 20
 period : 1 <= q.period /\ q.period <= 200
 service : 1 <= q.service /\ q.service <= 200
def crN (p : Nat -> Bool) (n : Nat) : Nat := ((List.range n).filter p).length
theorem crN_succ (p : Nat -> Bool) (n : Nat) : crN p (n + 1) = crN p n + (if p n = true then 1 else 0) := by
 unfold crN
 rw [List.range_succ, List.filter_append, List.length_append]
 cases h : p n <;> simp [h]
theorem crN_mono {p r : Nat -> Bool} : ∀ {n : Nat}, (∀ t, t < n -> p t = true -> r t = true) -> crN p n <= crN r n := by
 intro n
 induction n with
 | zero => intro _; exact Nat.le_refl _
 | succ n ih =>
  intro h
  have h1 := ih fun t ht => h t (by omega)
  have h2 := h n (by omega)
  rw [crN_succ, crN_succ]
  split
  ·rename_i hp; rw [if_pos (h2 hp)]; omega
  ·omega
end
end Go.Proofs.YthdekmpkioikdaaGreat
/- The library's sort of numbers, laid at this program (written by the kit's own tool). No condition. -/
namespace Go.Proofs.YthdekmpkioikdaaGreat
set_option linter.unusedSimpArgs false
set_option linter.unusedVariables false
open Go Go.Shelf
end Go.Proofs.YthdekmpkioikdaaGreat
/- The library's sort, by its contract, over canonical memory. No condition. -/
namespace Go.K
set_option linter.unusedSimpArgs false
open Go
set_option linter.unusedVariables false
variable {P : Program}
end Go.K
/- The library's sort of numbers, by the kit's contract, over canonical memory. No condition. -/
namespace Go.K
set_option linter.unusedSimpArgs false
open Go Go.Proofs Go.RowKit Go.Lib Go.Sort Go.Shelf
set_option linter.unusedVariables false
variable {P : Program}
end Go.K
/- Request: premises: whether they hold, and their bound. No condition. -/
namespace Go.Proofs.YthdekmpkioikdaaGreat
open Go Go.K
set_option maxRecDepth 100000
set_option linter.unusedVariables false
set_option linter.unusedSimpArgs false
noncomputable section
attribute [local irreducible] vF
theorem set_same {α : Type} {l : List α} {i : Nat} {x : α} (h : l[i]? = some x) : l.set i x = l := by
 refine List.ext_getElem? fun k => ?_
 rw [List.getElem?_set]
 split
 ·rename_i e; subst e
  rw [if_pos (List.getElem?_eq_some_iff.1 h).1, h]
 ·rfl
abbrev hV (r : Bool × Int) : Value := .tuple #[.bool r.1, .int .i64 r.2]
end
end Go.Proofs.YthdekmpkioikdaaGreat
/- Request: the reference's Hold. No condition. -/
namespace Go.Proofs.YthdekmpkioikdaaGreat
open Go Go.K
set_option maxRecDepth 100000
set_option linter.unusedVariables false
set_option linter.unusedSimpArgs false
noncomputable section
attribute [local irreducible] vF
theorem atAt {l : List Rq} {k : Nat} (h : k < l.length) {off : Nat} (ho : off = k * 7 + 1) : (l.flatMap rqC)[off]? = some (.int .i64 (l.getD k zeroQ).at_) := cell_at (n := 7) (d := zeroQ) (c := 1) rqC_len h ho rfl
end
end Go.Proofs.YthdekmpkioikdaaGreat
/- Request: plain laws of histories. No condition. -/
namespace Go.Proofs.YthdekmpkioikdaaGreat
set_option linter.unusedSimpArgs false
open Go Go.K
set_option linter.unusedVariables false
noncomputable section
theorem frH_len (f : Fleet) (h : List Sv) : ∀ k, (frH f h k).length = f.b.length
 | 0 => List.length_replicate ..
 | k + 1 => by show ((frH f h k).set _ _).length = _; rw [List.length_set, frH_len f h k]
theorem plH_len (f : Fleet) (l : List Rq) (h : List Sv) : ∀ k, (plH f l h k).length = f.b.length
 | 0 => rfl
 | k + 1 => by show ((plH f l h k).set _ _).length = _; rw [List.length_set, plH_len f l h k]
theorem rqAt_dest {f : Fleet} (o : FlOk f) {l : List Rq} (ol : LsOk f.t.length l) (i : Int) : 0 <= (rqAt l i).dest /\ (rqAt l i).dest <= (f.t.length : Int) - 1 := by
 unfold rqAt
 by_cases hi : Int.toNat i < l.length
 ·exact (ol.ok _ hi).dest
 ·rw [List.getD_eq_getElem?_getD, List.getElem?_eq_none (by omega)]
  have := o.n1
  show 0 <= (0 : Int) /\ (0 : Int) <= _
  omega
theorem plH_in {f : Fleet} (o : FlOk f) {l : List Rq} (ol : LsOk f.t.length l) (h : List Sv) : ∀ (k b : Nat), b < f.b.length -> 0 <= (plH f l h k).getD b 0 /\ (plH f l h k).getD b 0 <= (f.t.length : Int) - 1
 | 0, b, hb => o.br b hb
 | k + 1, b, hb => by
  show 0 <= ((plH f l h k).set _ _).getD b 0 /\ _
  have ih := plH_in o ol h k b hb
  have hd := rqAt_dest o ol (svAt h k).rq
  have e : (plH f l h (k + 1)).getD b 0 = if Int.toNat (svAt h k).br = b then (rqAt l (svAt h k).rq).dest else (plH f l h k).getD b 0 := by
   show ((plH f l h k).set _ _).getD b 0 = _
   rw [List.getD_eq_getElem?_getD, List.getElem?_set]
   split
   ·rw [if_pos (by rw [plH_len]; omega)]; rfl
   ·rw [<- List.getD_eq_getElem?_getD]
  show 0 <= (plH f l h (k + 1)).getD b 0 /\ (plH f l h (k + 1)).getD b 0 <= _
  rw [e]
  split
  ·exact hd
  ·exact ih
theorem trav_in {f : Fleet} (o : FlOk f) {a b : Int} (ha : 0 <= a /\ a <= (f.t.length : Int) - 1) : 0 <= trav f a b /\ trav f a b <= 100 := o.el (Int.toNat a) (Int.toNat b) (by omega)
theorem metH_len (n : Nat) (h : List Sv) (k : Nat) : (metH n h k).length = n := tabP_len ..
theorem metH_at {n : Nat} {h : List Sv} {k : Nat} {i : Int} (hi : 0 <= i) (hn : i < (n : Int)) : (metH n h k).getD (Int.toNat i) false = (h.take k).any (isRq i) := by
 unfold metH
 rw [tabP_get (by omega), Int.toNat_of_nonneg hi]
theorem list_ext {α : Type} {a b : List α} (d : α) (hl : a.length = b.length) (h : ∀ k, k < a.length -> a.getD k d = b.getD k d) : a = b := by
 refine List.ext_getElem hl fun k h1 h2 => ?_
 have := h k h1
 rw [List.getD_eq_getElem?_getD, List.getD_eq_getElem?_getD, List.getElem?_eq_getElem h1, List.getElem?_eq_getElem h2] at this
 exact this
theorem getD_setN {α : Type} {a : List α} {d x : α} {i j : Nat} (hj : j < a.length) : (a.set i x).getD j d = if i = j then x else a.getD j d := by
 rw [List.getD_eq_getElem?_getD, List.getElem?_set]
 split
 ·rename_i e; subst e; rw [if_pos hj]; rfl
 ·rw [<- List.getD_eq_getElem?_getD]
theorem metH_succ {n : Nat} {h : List Sv} {k : Nat} (hk : k < h.length) (hi : 0 <= (svAt h k).rq) (hn : (svAt h k).rq < (n : Int)) : metH n h (k + 1) = (metH n h k).set (Int.toNat (svAt h k).rq) true := by
 refine list_ext false (by rw [List.length_set, metH_len, metH_len]) fun j hj => ?_
 rw [metH_len] at hj
 rw [getD_setN (by rw [metH_len]; exact hj)]
 unfold metH
 rw [tabP_get hj, tabP_get hj, take_snoc (d := zeroV) hk, List.any_append, List.any_cons, List.any_nil, Bool.or_false]
 show (_ || isRq (j : Int) (svAt h k)) = _
 unfold isRq
 split
 ·rw [decide_eq_true (by omega), Bool.or_true]
 ·rw [decide_eq_false (by omega), Bool.or_false]
theorem metH_0 (n : Nat) (h : List Sv) : metH n h 0 = List.replicate n false := by
 refine list_ext false (by rw [metH_len, List.length_replicate]) fun j hj => ?_
 rw [metH_len] at hj
 unfold metH
 rw [tabP_get hj, List.take_zero, List.getD_eq_getElem?_getD, List.getElem?_replicate, if_pos hj]; rfl
section
variable {f : Fleet} {l : List Rq} {h : List Sv} {k : Nat}
theorem errSv_1a (c : (!inB (svAt h k).rq 0 ((l.length : Int) - 1)) = true) : errSv f l h k = 1 := by unfold errSv; simp only [c, Bool.true_or, if_true]
theorem errSv_1b (c : (!inB (svAt h k).br 0 ((f.b.length : Int) - 1)) = true) : errSv f l h k = 1 := by unfold errSv; simp only [c, Bool.or_true, if_true]
variable (c1 : (!inB (svAt h k).rq 0 ((l.length : Int) - 1)) = false) (c2 : (!inB (svAt h k).br 0 ((f.b.length : Int) - 1)) = false)
include c1 c2
theorem errSv_10 (c : (h.take k).any (isRq (svAt h k).rq) = true) : errSv f l h k = 10 := by
 unfold errSv; simp only [c1, c2, c, Bool.or_false, if_true, Bool.false_eq_true, if_false]
theorem errSv_11 (c3 : (h.take k).any (isRq (svAt h k).rq) = false) (c : 0 < k /\ (svAt h k).tk < (svAt h (k - 1)).tk) : errSv f l h k = 11 := by
 unfold errSv; simp only [c1, c2, c3, Bool.or_false, if_true, Bool.false_eq_true, if_false]; rw [if_pos c]
theorem errSv_9 (c3 : (h.take k).any (isRq (svAt h k).rq) = false) (c4 : ¬ (0 < k /\ (svAt h k).tk < (svAt h (k - 1)).tk)) (c : (svAt h k).tk < (rqAt l (svAt h k).rq).at_ ∨ (svAt h k).tk < (frH f h k).getD (Int.toNat (svAt h k).br) 0 ∨ 1000000000 < (svAt h k).tk) : errSv f l h k = 9 := by
 unfold errSv; simp only [c1, c2, c3, Bool.or_false, if_true, Bool.false_eq_true, if_false]; rw [if_neg c4, if_pos c]
theorem errSv_12 (c3 : (h.take k).any (isRq (svAt h k).rq) = false) (c4 : ¬ (0 < k /\ (svAt h k).tk < (svAt h (k - 1)).tk)) (c5 : ¬ ((svAt h k).tk < (rqAt l (svAt h k).rq).at_ ∨ (svAt h k).tk < (frH f h k).getD (Int.toNat (svAt h k).br) 0 ∨ 1000000000 < (svAt h k).tk))
  (c : ¬ ((svAt h k).bg = bgH f l h k /\ (svAt h k).nd = bgH f l h k + (rqAt l (svAt h k).rq).len)) : errSv f l h k = 12 := by
 unfold errSv; simp only [c1, c2, c3, Bool.or_false, if_true, Bool.false_eq_true, if_false]; rw [if_neg c4, if_neg c5, if_neg c]
theorem errSv_0 (c3 : (h.take k).any (isRq (svAt h k).rq) = false) (c4 : ¬ (0 < k /\ (svAt h k).tk < (svAt h (k - 1)).tk)) (c5 : ¬ ((svAt h k).tk < (rqAt l (svAt h k).rq).at_ ∨ (svAt h k).tk < (frH f h k).getD (Int.toNat (svAt h k).br) 0 ∨ 1000000000 < (svAt h k).tk))
  (c : (svAt h k).bg = bgH f l h k /\ (svAt h k).nd = bgH f l h k + (rqAt l (svAt h k).rq).len) : errSv f l h k = 0 := by
 unfold errSv; simp only [c1, c2, c3, Bool.or_false, if_true, Bool.false_eq_true, if_false]; rw [if_neg c4, if_neg c5, if_pos c]
end
theorem errHist_1 {f : Fleet} {l : List Rq} {h : List Sv} (h0 : errFl f ≠ 0) : errHist f l h = errFl f := by unfold errHist; rw [first2_1 (by rw [first2_1 h0]; exact h0), first2_1 h0]
theorem errHist_2 {f : Fleet} {l : List Rq} {h : List Sv} (h0 : errFl f = 0) (h1 : errRq f.t.length l ≠ 0) : errHist f l h = errRq f.t.length l := by unfold errHist; rw [first2_2 h0, first2_1 h1]
theorem errHist_3 {f : Fleet} {l : List Rq} {h : List Sv} (h0 : errFl f = 0) (h1 : errRq f.t.length l = 0) (h2 : h.length ≠ l.length) : errHist f l h = 1 := by unfold errHist; rw [first2_2 h0, first2_2 h1, if_neg h2]
theorem errHist_e {f : Fleet} {l : List Rq} {h : List Sv} (h0 : errFl f = 0) (h1 : errRq f.t.length l = 0) (h2 : h.length = l.length) {x : Nat} (hx : x < h.length) (hu : errUp (errSv f l h) x = 0) {e : Int} (he : errSv f l h x = e) (hne : e ≠ 0) : e = errHist f l h := by
 unfold errHist; rw [first2_2 h0, first2_2 h1, if_pos h2, errUp_at hu (by rw [he]; exact hne) hx, he]
theorem errHist_0 {f : Fleet} {l : List Rq} {h : List Sv} (h0 : errFl f = 0) (h1 : errRq f.t.length l = 0) (h2 : h.length = l.length) (hu : errUp (errSv f l h) h.length = 0) : (0 : Int) = errHist f l h := by
 unfold errHist; rw [first2_2 h0, first2_2 h1, if_pos h2, hu]
end
end Go.Proofs.YthdekmpkioikdaaGreat
/- What is to be shown of functions. Printed by a program. No condition. -/
namespace Go.Proofs.YthdekmpkioikdaaGreat
set_option linter.unusedSimpArgs false
open Go Go.K
set_option maxRecDepth 100000
set_option maxHeartbeats 4000000
set_option linter.unusedVariables false
noncomputable section
abbrev jel (l : List Int) : KObj:=.cells true 1 (l.flatMap intC)
def RClone (l : List Int) : Prop :=
 ((l.length = 0 -> (((0 + l.length) * 8 <= 2 ^ 44 /\ l.length = 0) /\ (true = true /\ wk (slQ 1 1 0 : Value) (rn (sg 1 [(1,1)]) 3 (slQ 1 1 l.length : Value)) /\ ((some (.cells true 1 [] : KObj) = some (jel l) /\ belowO 1 (jel l) = true) /\ True)))) /\ (¬ (l.length = 0) -> (((0 + l.length) * 8 <= 2 ^ 44 /\ l.length ≠ 0 /\ (0 <= 0 /\ 0 + 0 * 1 <= List.length ([] : List Value)) /\ (l.length <= l.length /\ 0 + l.length * 1 <= List.length (l.flatMap intC)) /\ ((((l.flatMap intC).drop 0).take (l.length * 1)) : List Value).all (fun v => one1 v) = true) /\ true = true /\ (true = true /\ wk (.slice (some ⟨2,0,none⟩) (0 + l.length) (0 + l.length) : Value) (rn (sg 1 [(1,2)]) 3 (slQ 1 1 l.length : Value)) /\ ((some (.cells true 1 (((([] : List Value).drop 0).take (0 * 1)) ++ (((l.flatMap intC).drop 0).take (l.length * 1))) : KObj) = some (jel l) /\ belowO 1 (jel l) = true) /\ True)))))
theorem EClone (l : List Int) : vF prog msk (dm 0) 100000 true 40 true 116 [.slice (some ⟨0,0,none⟩) l.length l.length] (readsT 0 [l.flatMap intC]) (some [])
 (.go 5 (.cas (l.length = 0) (.val (.bool true) (.go 0 (.again [(1,1)]))) (.need (.go 0 (.again [(1,2)])))))
 (newK ((readsT 0 [l.flatMap intC]) : HT).n 3 (slQ 1 1 l.length) [(true,.cells true 1 (l.flatMap intC))]) = RClone l:=by kernel_rfl
abbrev jeu : Value:=nI 0
abbrev je6 (f : Fleet) : List Value:=[slQ 0 2 f.t.length,slQ 1 2 f.b.length]
abbrev je5 (f : Fleet) : Int:=(f.b.length : Nat)
abbrev jeb (f : Fleet):=f.b.flatMap intC
abbrev jeo (f : Fleet) : List Value:=[.agg #[slQ 0 2 f.t.length,slQ 1 2 f.b.length]]
abbrev je4 (l1_ : List Rq) : Int:=(l1_.length : Nat)
abbrev jeq (f : Fleet) : Prop:=(someR (.cells false 0 (inL f.t))) /\ (someR (.cells false 0 (jeb f))) /\ True
abbrev jem (H' : Heap) (f : Fleet) : Prop:=H'[0]? = some (.cells false 0 (inL f.t) : KObj) /\ H'[1]? = some (.cells false 0 (jeb f) : KObj) /\ True
abbrev jej (f : Fleet) (l1_ : List Rq) : Prop:=(someR (.cells false 0 (inL f.t))) /\ (someR (.cells false 0 (jeb f))) /\ (someR (.cells false 0 (l1_.flatMap rqC))) /\ True
abbrev jef (H' : Heap) (f : Fleet) (l1_ : List Rq) : Prop:=H'[0]? = some (.cells false 0 (inL f.t) : KObj) /\ H'[1]? = some (.cells false 0 (jeb f) : KObj) /\ H'[2]? = some (.cells false 0 (l1_.flatMap rqC) : KObj) /\ True
abbrev je8 (h : List Sv) : Int:=(h.length : Nat)
abbrev jev : Value:=nI 1
abbrev jei (f : Fleet) (l1_ : List Rq) : List Value:=[slQ 0 2 f.t.length,slQ 1 2 f.b.length,slQ 2 2 l1_.length,.slice (some ⟨7,0,none⟩) f.b.length f.b.length,slQ 8 1 f.b.length]
abbrev jed (h : List Sv) (x3 : Nat):=h.getD x3 zeroV
abbrev jer (h : List Sv) (x3 : Nat) : Value:=.agg #[nI (jed h x3).rq,nI (jed h x3).br,nI (jed h x3).tk,nI (jed h x3).bg,nI (jed h x3).nd]
abbrev je0 (h : List Sv) (x3 : Nat) (l1_ : List Rq) (sp : Value) (f : Fleet) : Prop:=((0 : Int) <= (jed h x3).rq /\ ((jed h x3).rq : Int) < (je4 l1_)) /\ (((l1_.flatMap rqC)[((0 + Int.toNat (jed h x3).rq * 7) + 1)]? = some (nI (l1_.getD (Int.toNat (jed h x3).rq) zeroQ).at_)) /\ (((decide (((jed h x3).tk : Int) < (l1_.getD (Int.toNat (jed h x3).rq) zeroQ).at_)) = true -> (nI 9 : Value) = sp) /\ ((decide (((jed h x3).tk : Int) < (l1_.getD (Int.toNat (jed h x3).rq) zeroQ).at_)) = false -> (((0 : Int) <= (jed h x3).br /\ ((jed h x3).br : Int) < (je5 f)) /\ ((((frH f h x3).flatMap intC)[(0 + Int.toNat (jed h x3).br * 1)]? = some (nI ((frH f h x3).getD (Int.toNat (jed h x3).br) 0))) /\ (((decide (((jed h x3).tk : Int) < ((frH f h x3).getD (Int.toNat (jed h x3).br) 0))) = true -> (nI 9 : Value) = sp) /\ ((decide (((jed h x3).tk : Int) < ((frH f h x3).getD (Int.toNat (jed h x3).br) 0))) = false -> (((decide ((1000000000 : Int) < (jed h x3).tk)) = true -> (nI 9 : Value) = sp) /\ ((decide ((1000000000 : Int) < (jed h x3).tk)) = false -> (((0 : Int) <= (jed h x3).rq /\ ((jed h x3).rq : Int) < (je4 l1_)) /\ ((partA 7 (l1_.flatMap rqC) (0 + Int.toNat (jed h x3).rq * 7) = some (.agg #[nI (l1_.getD (Int.toNat (jed h x3).rq) zeroQ).id,nI (l1_.getD (Int.toNat (jed h x3).rq) zeroQ).at_,nI (l1_.getD (Int.toNat (jed h x3).rq) zeroQ).place,nI (l1_.getD (Int.toNat (jed h x3).rq) zeroQ).dest,nI (l1_.getD (Int.toNat (jed h x3).rq) zeroQ).len,nI (l1_.getD (Int.toNat (jed h x3).rq) zeroQ).prio,nI (l1_.getD (Int.toNat (jed h x3).rq) zeroQ).limit])) /\ (((0 : Int) <= (jed h x3).br /\ ((jed h x3).br : Int) < (je5 f)) /\ ((((plH f l1_ h x3).flatMap intC)[(0 + Int.toNat (jed h x3).br * 1)]? = some (nI ((plH f l1_ h x3).getD (Int.toNat (jed h x3).br) 0))) /\ (((0 : Int) <= ((plH f l1_ h x3).getD (Int.toNat (jed h x3).br) 0) /\ (((plH f l1_ h x3).getD (Int.toNat (jed h x3).br) 0) : Int) < ((f.t.length : Nat) : Int)) /\ (((inL f.t)[(0 + Int.toNat ((plH f l1_ h x3).getD (Int.toNat (jed h x3).br) 0) * 1)]? = some (.iface ((f.t.getD ((plH f l1_ h x3).getD (Int.toNat (jed h x3).br) 0).toNat []).length + 1) (.agg ⟨((f.t.getD ((plH f l1_ h x3).getD (Int.toNat (jed h x3).br) 0).toNat []).flatMap intC)⟩))) /\ (((0 : Int) <= (l1_.getD (Int.toNat (jed h x3).rq) zeroQ).place /\ ((l1_.getD (Int.toNat (jed h x3).rq) zeroQ).place : Int) < (((f.t.getD ((plH f l1_ h x3).getD (Int.toNat (jed h x3).br) 0).toNat []).length : Nat) : Int)) /\ ((((f.t.getD ((plH f l1_ h x3).getD (Int.toNat (jed h x3).br) 0).toNat []).flatMap intC)[(Int.toNat (l1_.getD (Int.toNat (jed h x3).rq) zeroQ).place * 1)]? = some (nI ((f.t.getD ((plH f l1_ h x3).getD (Int.toNat (jed h x3).br) 0).toNat []).getD (Int.toNat (l1_.getD (Int.toNat (jed h x3).rq) zeroQ).place) 0))) /\ ((nI (IntKind.wrap .i64 ((jed h x3).tk + ((f.t.getD ((plH f l1_ h x3).getD (Int.toNat (jed h x3).br) 0).toNat []).getD (Int.toNat (l1_.getD (Int.toNat (jed h x3).rq) zeroQ).place) 0))) : Value) = nI ((jed h x3).tk + ((f.t.getD ((plH f l1_ h x3).getD (Int.toNat (jed h x3).br) 0).toNat []).getD (Int.toNat (l1_.getD (Int.toNat (jed h x3).rq) zeroQ).place) 0)) /\ (∃ y6 : Int,(nI ((jed h x3).tk + ((f.t.getD ((plH f l1_ h x3).getD (Int.toNat (jed h x3).br) 0).toNat []).getD (Int.toNat (l1_.getD (Int.toNat (jed h x3).rq) zeroQ).place) 0)) : Value) = nI y6 /\ ((nI (IntKind.wrap .i64 (y6 + (l1_.getD (Int.toNat (jed h x3).rq) zeroQ).len)) : Value) = nI (y6 + (l1_.getD (Int.toNat (jed h x3).rq) zeroQ).len) /\ (((0 : Int) <= (jed h x3).br /\ ((jed h x3).br : Int) < (je5 f)) /\ (((0 + Int.toNat (jed h x3).br * 1) + 1 <= List.length ((frH f h x3).flatMap intC)) /\ true = true /\ (((0 : Int) <= (jed h x3).br /\ ((jed h x3).br : Int) < (je5 f)) /\ (((0 + Int.toNat (jed h x3).br * 1) + 1 <= List.length ((plH f l1_ h x3).flatMap intC)) /\ true = true /\ (((!((((jed h x3).rq : Int) == (jed h x3).rq) && ((((jed h x3).br : Int) == (jed h x3).br) && ((((jed h x3).tk : Int) == (jed h x3).tk) && ((((jed h x3).bg : Int) == y6) && ((((jed h x3).nd : Int) == (y6 + (l1_.getD (Int.toNat (jed h x3).rq) zeroQ).len)) && true)))))) = true -> (nI 12 : Value) = sp) /\ ((!((((jed h x3).rq : Int) == (jed h x3).rq) && ((((jed h x3).br : Int) == (jed h x3).br) && ((((jed h x3).tk : Int) == (jed h x3).tk) && ((((jed h x3).bg : Int) == y6) && ((((jed h x3).nd : Int) == (y6 + (l1_.getD (Int.toNat (jed h x3).rq) zeroQ).len)) && true)))))) = false -> (((0 : Int) <= (jed h x3).rq /\ ((jed h x3).rq : Int) < (je4 l1_)) /\ (((0 + Int.toNat (jed h x3).rq * 1) + 1 <= List.length ((metH l1_.length h x3).flatMap boolC)) /\ true = true /\ ((nI (IntKind.wrap .i64 ((x3 : Int) + 1)) : Value) = nI ((x3 : Int) + 1) /\ (∃ x3' : Nat,(x3' <= List.length h /\ errUp (errSv f l1_ h) x3' = 0) /\ (List.length h - x3') < (List.length h - x3) /\ true = true /\ ((nI ((x3 : Int) + 1) : Value) = nI (x3' : Int) /\ wkR (slQ 3 2 h.length) /\ wkR (slQ 2 2 l1_.length) /\ (.pointer (some ⟨4,0,none⟩) : Value) = .pointer (some ⟨4,0,none⟩) /\ (.pointer (some ⟨9,0,none⟩) : Value) = .pointer (some ⟨9,0,none⟩) /\ (.slice (some ⟨10,0,none⟩) l1_.length l1_.length : Value) = .slice (some ⟨10,0,none⟩) l1_.length l1_.length /\ wkR (slQ 3 2 h.length) /\ (nI (je8 h) : Value) = nI (je8 h) /\ True) /\ ((keptR 11 (.cells true 0 (je6 f))) /\ (keptR 11 (.cells true 0 (jei f l1_))) /\ (some (.cells true 1 (setl ((frH f h x3).flatMap intC) (0 + Int.toNat (jed h x3).br * 1) [nI (y6 + (l1_.getD (Int.toNat (jed h x3).rq) zeroQ).len)]) : KObj) = some (.cells true 1 ((frH f h x3').flatMap intC) : KObj) /\ belowO 11 (.cells true 1 ((frH f h x3').flatMap intC) : KObj) = true) /\ (some (.cells true 1 (setl ((plH f l1_ h x3).flatMap intC) (0 + Int.toNat (jed h x3).br * 1) [nI (l1_.getD (Int.toNat (jed h x3).rq) zeroQ).dest]) : KObj) = some (.cells true 1 ((plH f l1_ h x3').flatMap intC) : KObj) /\ belowO 11 (.cells true 1 ((plH f l1_ h x3').flatMap intC) : KObj) = true) /\ (some (.cells true 1 (setl ((metH l1_.length h x3).flatMap boolC) (0 + Int.toNat (jed h x3).rq * 1) [.bool true]) : KObj) = some (.cells true 1 ((metH l1_.length h x3').flatMap boolC) : KObj) /\ belowO 11 (.cells true 1 ((metH l1_.length h x3').flatMap boolC) : KObj) = true) /\ True) /\ (True) /\ (True)))))))))))))))))))))))))))))))
def Rhist (sp : Value) (f : Fleet) (l1_ : List Rq) (h : List Sv) : Prop :=
 ((jeq f) /\ (∀ H' : Heap,H'.length = 5 -> (jem H' f) -> KCall prog 75 (jeo f) H' [] (Is (nI (errFl f)) H')) /\ ((jej f l1_) /\ (∀ H' : Heap,H'.length = 5 -> (jef H' f l1_) -> KCall prog 77 [.agg #[slQ 0 2 f.t.length,slQ 1 2 f.b.length],slQ 2 2 l1_.length] H' [] (Is (nI (errRq f.t.length l1_)) H')) /\ (((((errFl f) : Int) != 0) = true -> ((.bool (((errFl f) : Int) != 0) : Value) = .bool true /\ (nI (errFl f) : Value) = sp)) /\ ((((errFl f) : Int) != 0) = false -> (((((errRq f.t.length l1_) : Int) != 0) = true -> ((.bool (((errRq f.t.length l1_) : Int) != 0) : Value) = .bool true /\ (nI (errRq f.t.length l1_) : Value) = sp)) /\ ((((errRq f.t.length l1_) : Int) != 0) = false -> (((((je8 h) : Int) != (je4 l1_)) = true -> jev = sp) /\ ((((je8 h) : Int) != (je4 l1_)) = false -> (((0 : Int) <= (je5 f) /\ ((je5 f) : Int) <= (je5 f) /\ ((je5 f) : Int) < 2 ^ 62 /\ 8 * ((je5 f) : Int) <= 2 ^ 48) /\ (((someR (.cells false 0 (jeb f))) /\ True) /\ (∀ H' : Heap,H'.length = 8 -> (H'[1]? = some (.cells false 0 (jeb f) : KObj) /\ True) -> KCall prog 116 [slQ 1 2 f.b.length] H' [] (Is (slQ 8 1 f.b.length) (H' ++ [(.cells true 1 (jeb f) : KObj)]))) /\ (((0 : Int) <= (je4 l1_) /\ ((je4 l1_) : Int) <= (je4 l1_) /\ ((je4 l1_) : Int) < 2 ^ 62 /\ 1 * ((je4 l1_) : Int) <= 2 ^ 48) /\ (true = true /\ (0 <= List.length h /\ errUp (errSv f l1_ h) 0 = 0) /\ (true = true /\ (jeu = nI ((0 : Nat) : Int) /\ wkR (slQ 3 2 h.length) /\ wkR (slQ 2 2 l1_.length) /\ (.pointer (some ⟨4,0,none⟩) : Value) = .pointer (some ⟨4,0,none⟩) /\ (.pointer (some ⟨9,0,none⟩) : Value) = .pointer (some ⟨9,0,none⟩) /\ (.slice (some ⟨10,0,none⟩) l1_.length l1_.length : Value) = .slice (some ⟨10,0,none⟩) l1_.length l1_.length /\ wkR (slQ 3 2 h.length) /\ (nI (je8 h) : Value) = nI (je8 h) /\ True) /\ ((keptR 11 (.cells true 0 (je6 f))) /\ (keptR 11 (.cells true 0 (jei f l1_))) /\ (some (.cells true 1 (krep [nI 0] f.b.length) : KObj) = some (.cells true 1 ((frH f h 0).flatMap intC) : KObj) /\ belowO 11 (.cells true 1 ((frH f h 0).flatMap intC) : KObj) = true) /\ (some (.cells true 1 (jeb f) : KObj) = some (.cells true 1 ((plH f l1_ h 0).flatMap intC) : KObj) /\ belowO 11 (.cells true 1 ((plH f l1_ h 0).flatMap intC) : KObj) = true) /\ (some (.cells true 1 (krep [.bool false] l1_.length) : KObj) = some (.cells true 1 ((metH l1_.length h 0).flatMap boolC) : KObj) /\ belowO 11 (.cells true 1 ((metH l1_.length h 0).flatMap boolC) : KObj) = true) /\ True) /\ (True) /\ (True)) /\ (∀ x3 : Nat,true = true) /\ ∀ x3 : Nat,(x3 <= List.length h /\ errUp (errSv f l1_ h) x3 = 0) -> (((decide (((x3 : Int) : Int) < (je8 h))) = true -> (((0 : Int) <= (x3 : Int) /\ ((x3 : Int) : Int) < (je8 h)) /\ ((partA 5 (h.flatMap svC) (0 + Int.toNat (x3 : Int) * 5) = some (jer h x3)) /\ ((nI (IntKind.wrap .i64 ((je4 l1_) - 1)) : Value) = nI ((je4 l1_) - 1) /\ ((True) /\ (∀ H' : Heap,H'.length = 12 -> (True) -> KCall prog 107 [nI (jed h x3).rq,nI 0,nI ((je4 l1_) - 1)] H' [] (Is (.bool (inB (jed h x3).rq 0 ((je4 l1_) - 1))) H')) /\ (((!(inB (jed h x3).rq 0 ((je4 l1_) - 1))) = true -> jev = sp) /\ ((!(inB (jed h x3).rq 0 ((je4 l1_) - 1))) = false -> ((nI (IntKind.wrap .i64 ((je5 f) - 1)) : Value) = nI ((je5 f) - 1) /\ ((True) /\ (∀ H' : Heap,H'.length = 12 -> (True) -> KCall prog 107 [nI (jed h x3).br,nI 0,nI ((je5 f) - 1)] H' [] (Is (.bool (inB (jed h x3).br 0 ((je5 f) - 1))) H')) /\ (((!(inB (jed h x3).br 0 ((je5 f) - 1))) = true -> jev = sp) /\ ((!(inB (jed h x3).br 0 ((je5 f) - 1))) = false -> (((0 : Int) <= (jed h x3).rq /\ ((jed h x3).rq : Int) < (je4 l1_)) /\ ((((metH l1_.length h x3).flatMap boolC)[(0 + Int.toNat (jed h x3).rq * 1)]? = some (.bool ((metH l1_.length h x3).getD (Int.toNat (jed h x3).rq) false))) /\ ((((metH l1_.length h x3).getD (Int.toNat (jed h x3).rq) false) = true -> (nI 10 : Value) = sp) /\ (((metH l1_.length h x3).getD (Int.toNat (jed h x3).rq) false) = false -> (((decide ((0 : Int) < (x3 : Int))) = true -> ((nI (IntKind.wrap .i64 ((x3 : Int) - 1)) : Value) = nI ((x3 : Int) - 1) /\ (((0 : Int) <= ((x3 : Int) - 1) /\ (((x3 : Int) - 1) : Int) < (je8 h)) /\ (((h.flatMap svC)[((0 + Int.toNat ((x3 : Int) - 1) * 5) + 2)]? = some (nI (h.getD ((x3 : Int) - 1).toNat zeroV).tk)) /\ (((decide (((jed h x3).tk : Int) < (h.getD ((x3 : Int) - 1).toNat zeroV).tk)) = true -> (nI 11 : Value) = sp) /\ ((decide (((jed h x3).tk : Int) < (h.getD ((x3 : Int) - 1).toNat zeroV).tk)) = false -> (je0 h x3 l1_ sp f))))))) /\ ((decide ((0 : Int) < (x3 : Int))) = false -> (je0 h x3 l1_ sp f)))))))))))))))))) /\ ((decide (((x3 : Int) : Int) < (je8 h))) = false -> jeu = sp))))))))))))))
abbrev jew (f : Fleet) : Nat × KObj:=(0,.cells false 0 (inL f.t))
abbrev jep (f : Fleet) : Nat × KObj:=(1,.cells false 0 (jeb f))
abbrev jen : Nat × Value:=(3,.pointer (some ⟨4,0,none⟩))
abbrev je2 (l1_ : List Rq) (h : List Sv) (x3 : Nat) (f : Fleet) : Hint:=.need (.go 0 (.val (nI (l1_.getD (Int.toNat (jed h x3).rq) zeroQ).at_) (.go 1 (.gfork (.auto) (.go 7 (.need (.val (nI ((frH f h x3).getD (Int.toNat (jed h x3).br) 0)) (.go 2 (.gfork (.auto) (.go 4 (.fork (.auto) (.go 7 (.into (some [7,8]) (.go 5 (.need (.val (.agg #[nI (l1_.getD (Int.toNat (jed h x3).rq) zeroQ).id,nI (l1_.getD (Int.toNat (jed h x3).rq) zeroQ).at_,nI (l1_.getD (Int.toNat (jed h x3).rq) zeroQ).place,nI (l1_.getD (Int.toNat (jed h x3).rq) zeroQ).dest,nI (l1_.getD (Int.toNat (jed h x3).rq) zeroQ).len,nI (l1_.getD (Int.toNat (jed h x3).rq) zeroQ).prio,nI (l1_.getD (Int.toNat (jed h x3).rq) zeroQ).limit]) (.go 15 (.need (.val (nI ((plH f l1_ h x3).getD (Int.toNat (jed h x3).br) 0)) (.need (.val (.iface ((f.t.getD ((plH f l1_ h x3).getD (Int.toNat (jed h x3).br) 0).toNat []).length + 1) (.agg ⟨((f.t.getD ((plH f l1_ h x3).getD (Int.toNat (jed h x3).br) 0).toNat []).flatMap intC)⟩)) (.go 1 (.need (.val (nI ((f.t.getD ((plH f l1_ h x3).getD (Int.toNat (jed h x3).br) 0).toNat []).getD (Int.toNat (l1_.getD (Int.toNat (jed h x3).rq) zeroQ).place) 0)) (.go 0 (.slot 40 (nI ((jed h x3).tk + ((f.t.getD ((plH f l1_ h x3).getD (Int.toNat (jed h x3).br) 0).toNat []).getD (Int.toNat (l1_.getD (Int.toNat (jed h x3).rq) zeroQ).place) 0))) (.bind Int (fun y6 => .slot 40 (nI y6) (.go 7 (.slot 46 (nI (y6 + (l1_.getD (Int.toNat (jed h x3).rq) zeroQ).len)) (.go 15 (.need (.need (.need (.need (.go 1 (.keep (.go 1 (.fork (.auto) (.go 2 (.need (.need (.go 0 (.slot 121 (nI ((x3 : Int) + 1)) (.go 0 (.again []))))))))))))))))))))))))))))))))))))))))))))))
theorem Ehist (sp : Value) (f : Fleet) (l1_ : List Rq) (h : List Sv) : vF prog msk (dm 0) 100000 true 40 true 87 [.agg #[slQ 0 2 f.t.length,slQ 1 2 f.b.length],slQ 2 2 l1_.length,slQ 3 2 h.length] (readsT 0 [inL f.t,f.b.flatMap intC,l1_.flatMap rqC,h.flatMap svC]) (some [])
 (.go 4 (.ans [(jew f),(jep f)] (nI (errFl f)) [] (.ans [(jew f),(jep f),(2,.cells false 0 (l1_.flatMap rqC))] (nI (errRq f.t.length l1_)) [] (.go 12 (.fork (.go 4 (.slot 20 (.bool true) (.auto))) (.go 8 (.fork (.go 4 (.slot 20 (.bool true) (.auto))) (.go 13 (.fork (.auto) (.go 9 (.need (.go 1 (.ans [(jep f)] (slQ 8 1 f.b.length) [.cells true 1 (jeb f)] (.go 5 (.need (.go 3 (.inv 3 (Nat) (0) [] [4,9,7,8,10] (fun x3 => [(35,nI (x3 : Int)),(2,slQ 3 2 h.length),(1,slQ 2 2 l1_.length),jen,(8,.pointer (some ⟨9,0,none⟩)),(9,.slice (some ⟨10,0,none⟩) l1_.length l1_.length),(33,slQ 3 2 h.length),(34,nI (je8 h))]) (fun x3 => [(4,true,.cells true 0 (je6 f)),(9,true,.cells true 0 (jei f l1_)),(7,true,.cells true 1 ((frH f h x3).flatMap intC)),(8,true,.cells true 1 ((plH f l1_ h x3).flatMap intC)),(10,true,.cells true 1 ((metH l1_.length h x3).flatMap boolC))]) (fun x3 => []) (fun x3 => []) (fun x3 => (x3 <= List.length h /\ errUp (errSv f l1_ h) x3 = 0)) (fun x3 => (List.length h - x3)) (fun x3 => .go 0 (.fork (.go 0 (.need (.val (jer h x3) (.go 7 (.slot 45 (nI ((je4 l1_) - 1)) (.ans [] (.bool (inB (jed h x3).rq 0 ((je4 l1_) - 1))) [] (.go 1 (.gfork (.auto) (.go 5 (.slot 54 (nI ((je5 f) - 1)) (.ans [] (.bool (inB (jed h x3).br 0 ((je5 f) - 1))) [] (.go 2 (.fork (.auto) (.go 2 (.need (.val (.bool ((metH l1_.length h x3).getD (Int.toNat (jed h x3).rq) false)) (.go 0 (.fork (.auto) (.go 2 (.gfork (.go 4 (.slot 72 (nI ((x3 : Int) - 1)) (.need (.go 0 (.val (nI (h.getD ((x3 : Int) - 1).toNat zeroV).tk) (.go 2 (.fork (.auto) (.go 4 (je2 l1_ h x3 f))))))))) (.go 7 (je2 l1_ h x3 f)))))))))))))))))))))) (.auto))))))))))))))))))))
 (fun v _ _ => v = sp) = Rhist sp f l1_ h:=by kernel_rfl
end
end Go.Proofs.YthdekmpkioikdaaGreat
/- Request: what is wrong with histories. No condition. -/
namespace Go.Proofs.YthdekmpkioikdaaGreat
open Go Go.K
set_option maxRecDepth 100000
set_option linter.unusedVariables false
set_option linter.unusedSimpArgs false
noncomputable section
attribute [local irreducible] vF
theorem plainBR (n : Nat) (l : List Br) : (l.flatMap brC).all (belowC n) = true := plain_flat (fun _ => rfl) l
theorem tkAt {l : List Sv} {k : Nat} (h : k < l.length) {off : Nat} (ho : off = k * 5 + 2) : (l.flatMap svC)[off]? = some (.int .i64 (l.getD k zeroV).tk) := cell_at (n := 5) (d := zeroV) (c := 2) svC_len h ho rfl
theorem wk_ofR {id o l c : Nat} (hp : 0 < l) : wk (.slice (some ⟨id, o, some 2⟩) l c) (.slice (some ⟨id, o, none⟩) l c) := by
 intro ρ x h
 cases h with
 | sliceRe => exact absurd hp (Nat.lt_irrefl 0)
 | sliceR h _ hl hc ho => exact .slice h hl hc ho
theorem kClone (l : List Int) (hl : l.length <= 4294967296) {H : Heap} {L : Nat} (hL : H.length = L) {i : Nat} {o : Bool} {z : Nat} (e : H[i]? = some (.cells o z (l.flatMap intC))) :
  KCall prog 116 [.slice (some ⟨i, 0, none⟩) l.length l.length] H [] (Is (.slice (some ⟨L, 0, some 1⟩) l.length l.length) (H ++ [.cells true 1 (l.flatMap intC)])) := by
 subst hL
 refine valQ (fun i => .slice (some ⟨i, 0, some 1⟩) l.length l.length) (Eq.mpr (EClone l) ?_) (plainIL 0 l) (fun n => plainIL n _) rfl rfl (fun _ => rfl) e rfl
 delta RClone jel
 refine ⟨fun h => ⟨⟨by omega, h⟩, rfl, ?_, ⟨?_, plainIL _ _⟩, trivial⟩, fun h => ⟨⟨by omega, h, ⟨Nat.le_refl _, Nat.zero_le _⟩, ⟨Nat.le_refl _, flat_le intC_len _⟩, one1_take one1_I⟩, rfl, rfl, ?_, ⟨?_, plainIL _ _⟩, trivial⟩⟩
 ·rw [h]; exact wk_refl _
 ·have : l = [] := List.length_eq_zero_iff.1 h
  subst this; rfl
 ·rw [Nat.zero_add]; exact wk_Q (by omega)
 ·rw [copy_I]; rfl
theorem kCloneR (l : List Int) (hl : l.length <= 4294967296) (h0 : 0 < l.length) {H : Heap} {L : Nat} (hL : H.length = L) {i : Nat} {o : Bool} {z : Nat} (e : H[i]? = some (.cells o z (l.flatMap intC))) :
  KCall prog 116 [.slice (some ⟨i, 0, some 2⟩) l.length l.length] H [] (Is (.slice (some ⟨L, 0, some 1⟩) l.length l.length) (H ++ [.cells true 1 (l.flatMap intC)])) :=
 KCall.wkA (kClone l hl hL e) (wks_cons (wk_ofR h0) wks_nil)
set_option maxHeartbeats 4000000 in
theorem kHist (f : Fleet) (l : List Rq) (h : List Sv) (ht : f.t.length <= 4294967296) (hb : f.b.length <= 4294967296) (hs : shortI f.t) (hh : h.length <= 4294967296) {H : Heap} {i0 i1 i2 i3 : Nat} {o0 o1 o2 o3 : Bool} {z0 z1 z2 z3 : Nat} (e0 : H[i0]? = some (.cells o0 z0 (inL f.t))) (e1 : H[i1]? = some (.cells o1 z1 (f.b.flatMap intC))) (e2 : H[i2]? = some (.cells o2 z2 (l.flatMap rqC))) (e3 : H[i3]? = some (.cells o3 z3 (h.flatMap svC))) :
  KCall prog 87 [fleetV f i0 i1, .slice (some ⟨i2, 0, some 2⟩) l.length l.length, .slice (some ⟨i3, 0, some 2⟩) h.length h.length] H [] (Is (.int .i64 (errHist f l h)) H) := by
 refine valRx (Eq.mpr (Ehist _ f l h) ?_) ⟨inL_b 0 _, plainIL 0 _, plainRQ 0 _, plainSV 0 _, trivial⟩ rfl (ids := [i0, i1, i2, i3]) ⟨⟨_, _, e0⟩, ⟨_, _, e1⟩, ⟨_, _, e2⟩, ⟨_, _, e3⟩, trivial⟩ rfl
 delta Rhist jeb jeq jem jeo jej jef je8 je4 jev je5 jeu je6 jei jed jer je0
 refine ⟨⟨rfl, rfl, trivial⟩, fun H' _ hd => kFl f ht hb hs hd.1 hd.2.1, ⟨rfl, rfl, rfl, trivial⟩, fun H' _ hd => kRq f l ht hd.1 hd.2.1 hd.2.2.1,
  forkNe (fun h => ⟨bEq (by simpa using h), iEq (errHist_1 h).symm⟩) (fun h0 => forkNe (fun h => ⟨bEq (by simpa using h), iEq (errHist_2 h0 h).symm⟩) (fun h1 => forkNe (fun h => iEq (errHist_3 h0 h1 (by omega)).symm) (fun h2 => ?_)))⟩
 have h2 : h.length = l.length := by omega
 have o := flOk h0
 have ol := lsOk h1
 have n1 := o.n1
 have n2 := o.n2
 have m1 := o.b1
 have m2 := o.b2
 have hl30 := ol.len
 refine ⟨by omega, ⟨rfl, trivial⟩, fun H' hL hd => kCloneR f.b hb (by omega) hL hd.1, by omega, rfl, ⟨Nat.zero_le _, rfl⟩, ?_, fun _ => rfl, ?_⟩
 ·rw [krep_int, krep_bool, metH_0]
  repeat' first | exact inL_b _ _ | exact plainIL _ _ | exact plainBL _ _ | exact plainRQ _ _ | exact plainSV _ _ | exact plainBR _ _ | exact (inV_rn _ 0 _).symm | exact wk_QR | exact trivial | exact rfl | exact wk_refl _ | refine wkO_cells ?_ | refine wks_cons ?_ ?_ | exact wks_nil | exact wk_nil _ _ _ (.inl rfl) | (exact wk_Q (by omega)) | refine wk_tupL ?_ | refine wk_aggL ?_ | refine joinMax ?_ ?_ ?_ | refine joinMin ?_ ?_ ?_ | refine toMax ?_ | refine toMin ?_ | refine ⟨rfl, ?_⟩ | refine ⟨trivial, ?_⟩ | (refine forkD (fun h => ?_) (fun h => ?_)) | (refine forkNe (fun h => ?_) (fun h => ?_)) | (refine forkEq (fun h => ?_) (fun h => ?_)) | refine forkNot ?_ | (refine ⟨vI64 (by omega), ?_⟩) | (refine And.intro (by omega) ?_) | apply And.intro | (exact iEq (by omega)) | (exact vI64 (by omega))
 rintro x ⟨hx, hu⟩
 refine forkD (fun k => ?_) (fun k => iEq ?_)
 rotate_left
 ·obtain rfl : x = h.length := by omega
  exact errHist_0 h0 h1 h2 hu
 have hlt : x < h.length := by omega
 obtain ⟨s, es⟩ : ∃ s, svAt h x = s := ⟨_, rfl⟩
 have es' : h.getD x zeroV = s := es
 have hfl := frH_len f h x
 have hpl := plH_len f l h x
 rw [es']
 refine ⟨by omega, by rw [<- es']; exact partV hlt (by omega), vI64 (by omega), trivial, fun H' _ _ => kIn _ _ _ H', forkB (fun c => iEq (errHist_e h0 h1 h2 hlt hu (errSv_1a (by rw [es]; exact c)) (by decide))) (fun c1 => ⟨vI64 (by omega), trivial, fun H' _ _ => kIn _ _ _ H', forkB (fun c => iEq (errHist_e h0 h1 h2 hlt hu (errSv_1b (by rw [es]; exact c)) (by decide))) (fun c2 => ?_)⟩)⟩
 have r1 := inB_2 (bad0 c1)
 have r2 := inB_2 (bad0 c2)
 have hrq : Int.toNat s.rq < l.length := by omega
 have hbr : Int.toNat s.br < f.b.length := by omega
 have c1' : (!inB (svAt h x).rq 0 ((l.length : Int) - 1)) = false := by rw [es]; exact c1
 have c2' : (!inB (svAt h x).br 0 ((f.b.length : Int) - 1)) = false := by rw [es]; exact c2
 have hm := metH_at (n := l.length) (h := h) (k := x) r1.1 (show s.rq < (l.length : Int) by omega)
 have hq := ol.ok _ hrq
 have hpin := plH_in o ol h x _ hbr
 have e9 : rqAt l s.rq = l.getD (Int.toNat s.rq) zeroQ := rfl
 obtain ⟨r, er⟩ : ∃ r, l.getD (Int.toNat s.rq) zeroQ = r := ⟨_, rfl⟩
 rw [er] at e9 hq
 have q1 := hq.place
 have q2 := hq.len
 have q3 := hq.at_
 obtain ⟨P, eP⟩ : ∃ P, (plH f l h x).getD (Int.toNat s.br) 0 = P := ⟨_, rfl⟩
 rw [eP] at hpin
 have hPn : Int.toNat P < f.t.length := by omega
 have hrow := o.row _ hPn
 have etv : (f.t.getD (Int.toNat P) []).getD (Int.toNat r.place) 0 = trav f P r.place := rfl
 have tv := trav_in o (b := r.place) hpin
 have eb : bgH f l h x = s.tk + trav f P r.place := by unfold bgH; rw [es, eP, e9]
 rw [hm]
 refine ⟨by omega, by rw [<- hm]; exact boolAt (by rw [metH_len]; exact hrq) (by omega), forkB (fun c => iEq (errHist_e h0 h1 h2 hlt hu (errSv_10 c1' c2' (by rw [es]; exact c)) (by decide))) (fun c3 => forkD (fun p => ?_) (fun p => ?_))⟩
 ·refine ⟨vI64 (by omega), by omega, ?_⟩
  rw [show Int.toNat ((x : Int) - 1) = x - 1 by omega]
  refine ⟨tkAt (by omega) (by omega), forkD (fun c => iEq (errHist_e h0 h1 h2 hlt hu (errSv_11 c1' c2' (by rw [es]; exact c3) ⟨by omega, by rw [es]; exact c⟩) (by decide))) (fun c4 => ?_)⟩
  have c4' : ¬ (0 < x /\ (svAt h x).tk < (svAt h (x - 1)).tk) := fun k => c4 (by have := k.2; rw [es] at this; exact this)
  rw [er, eP]
  refine ⟨by omega, by rw [<- er]; exact atAt hrq (by omega), forkD (fun c => iEq (errHist_e h0 h1 h2 hlt hu (errSv_9 c1' c2' (by rw [es]; exact c3) c4' (.inl (by rw [es, e9]; exact c))) (by decide))) (fun c5 => ?_)⟩
  refine ⟨by omega, intAt (by omega) (by omega), forkD (fun c => iEq (errHist_e h0 h1 h2 hlt hu (errSv_9 c1' c2' (by rw [es]; exact c3) c4' (.inr (.inl (by rw [es]; exact c)))) (by decide))) (fun c6 => forkD (fun c => iEq (errHist_e h0 h1 h2 hlt hu (errSv_9 c1' c2' (by rw [es]; exact c3) c4' (.inr (.inr (by rw [es]; exact c)))) (by decide))) (fun c7 => ?_))⟩
  have c5' : ¬ ((svAt h x).tk < (rqAt l (svAt h x).rq).at_ ∨ (svAt h x).tk < (frH f h x).getD (Int.toNat (svAt h x).br) 0 ∨ 1000000000 < (svAt h x).tk) := by rw [es, e9]; omega
  refine ⟨by omega, by rw [<- er]; exact partQ hrq (by omega), by omega, by rw [<- eP]; exact intAt (by omega) (by omega), by omega, inL_at hPn (by omega), by omega, intAt (by omega) (by omega), ?_⟩
  rw [etv]
  refine ⟨vI64 (by omega), _, rfl, vI64 (by omega), by omega, by rw [flat_len intC_len]; omega, rfl, by omega, by rw [flat_len intC_len]; omega, rfl, forkNot (forkB (fun c => ?_) (fun c => iEq (errHist_e h0 h1 h2 hlt hu (errSv_12 c1' c2' (by rw [es]; exact c3) c4' c5' ?_) (by decide))))⟩
  ·simp only [beq_self_eq_true, Bool.true_and, Bool.and_true, Bool.and_eq_true, beq_iff_eq] at c
   have e0' := errSv_0 c1' c2' (by rw [es]; exact c3) c4' c5' (by rw [es, eb, e9]; exact c)
   refine ⟨by omega, by rw [flat_len boolC_len, metH_len]; omega, rfl, vI64 (by omega), x + 1, ⟨by omega, errUp_succ hu e0'⟩, by omega, rfl, ?_⟩
   have f1 : frH f h (x + 1) = (frH f h x).set (Int.toNat s.br) (s.tk + trav f P r.place + r.len) := by show (frH f h x).set (Int.toNat (svAt h x).br) (svAt h x).nd = _; rw [es, c.2]
   have f2 : plH f l h (x + 1) = (plH f l h x).set (Int.toNat s.br) r.dest := by show (plH f l h x).set (Int.toNat (svAt h x).br) (rqAt l (svAt h x).rq).dest = _; rw [es, e9]
   have f3 : metH l.length h (x + 1) = (metH l.length h x).set (Int.toNat s.rq) true := by have := metH_succ (n := l.length) hlt (by rw [es]; omega) (by rw [es]; omega); rw [es] at this; exact this
   have g1 := flat_set intC_len (frH f h x) (Int.toNat s.br) (by omega) (s.tk + trav f P r.place + r.len)
   have g2 := flat_set intC_len (plH f l h x) (Int.toNat s.br) (by omega) r.dest
   have g3 := flat_set boolC_len (metH l.length h x) (Int.toNat s.rq) (by rw [metH_len]; omega) true
   rw [<- f1] at g1
   rw [<- f2] at g2
   rw [<- f3] at g3
   rw [Nat.zero_add, Nat.zero_add, g1, g2, g3]
   repeat' first | exact inL_b _ _ | exact plainIL _ _ | exact plainBL _ _ | exact plainRQ _ _ | exact plainSV _ _ | exact plainBR _ _ | exact (inV_rn _ 0 _).symm | exact wk_QR | exact trivial | exact rfl | exact wk_refl _ | refine wkO_cells ?_ | refine wks_cons ?_ ?_ | exact wks_nil | exact wk_nil _ _ _ (.inl rfl) | (exact wk_Q (by omega)) | refine wk_tupL ?_ | refine wk_aggL ?_ | refine joinMax ?_ ?_ ?_ | refine joinMin ?_ ?_ ?_ | refine toMax ?_ | refine toMin ?_ | refine ⟨rfl, ?_⟩ | refine ⟨trivial, ?_⟩ | (refine forkD (fun h => ?_) (fun h => ?_)) | (refine forkNe (fun h => ?_) (fun h => ?_)) | (refine forkEq (fun h => ?_) (fun h => ?_)) | refine forkNot ?_ | (refine ⟨vI64 (by omega), ?_⟩) | (refine And.intro (by omega) ?_) | apply And.intro | (exact iEq (by omega)) | (exact vI64 (by omega))
  ·intro k
   rw [es, eb, e9] at k
   simp only [k.1, k.2, beq_self_eq_true, Bool.true_and, Bool.and_true] at c
   cases c
 ·have c4' : ¬ (0 < x /\ (svAt h x).tk < (svAt h (x - 1)).tk) := fun k => p (by omega)
  rw [er, eP]
  refine ⟨by omega, by rw [<- er]; exact atAt hrq (by omega), forkD (fun c => iEq (errHist_e h0 h1 h2 hlt hu (errSv_9 c1' c2' (by rw [es]; exact c3) c4' (.inl (by rw [es, e9]; exact c))) (by decide))) (fun c5 => ?_)⟩
  refine ⟨by omega, intAt (by omega) (by omega), forkD (fun c => iEq (errHist_e h0 h1 h2 hlt hu (errSv_9 c1' c2' (by rw [es]; exact c3) c4' (.inr (.inl (by rw [es]; exact c)))) (by decide))) (fun c6 => forkD (fun c => iEq (errHist_e h0 h1 h2 hlt hu (errSv_9 c1' c2' (by rw [es]; exact c3) c4' (.inr (.inr (by rw [es]; exact c)))) (by decide))) (fun c7 => ?_))⟩
  have c5' : ¬ ((svAt h x).tk < (rqAt l (svAt h x).rq).at_ ∨ (svAt h x).tk < (frH f h x).getD (Int.toNat (svAt h x).br) 0 ∨ 1000000000 < (svAt h x).tk) := by rw [es, e9]; omega
  refine ⟨by omega, by rw [<- er]; exact partQ hrq (by omega), by omega, by rw [<- eP]; exact intAt (by omega) (by omega), by omega, inL_at hPn (by omega), by omega, intAt (by omega) (by omega), ?_⟩
  rw [etv]
  refine ⟨vI64 (by omega), _, rfl, vI64 (by omega), by omega, by rw [flat_len intC_len]; omega, rfl, by omega, by rw [flat_len intC_len]; omega, rfl, forkNot (forkB (fun c => ?_) (fun c => iEq (errHist_e h0 h1 h2 hlt hu (errSv_12 c1' c2' (by rw [es]; exact c3) c4' c5' ?_) (by decide))))⟩
  ·simp only [beq_self_eq_true, Bool.true_and, Bool.and_true, Bool.and_eq_true, beq_iff_eq] at c
   have e0' := errSv_0 c1' c2' (by rw [es]; exact c3) c4' c5' (by rw [es, eb, e9]; exact c)
   refine ⟨by omega, by rw [flat_len boolC_len, metH_len]; omega, rfl, vI64 (by omega), x + 1, ⟨by omega, errUp_succ hu e0'⟩, by omega, rfl, ?_⟩
   have f1 : frH f h (x + 1) = (frH f h x).set (Int.toNat s.br) (s.tk + trav f P r.place + r.len) := by show (frH f h x).set (Int.toNat (svAt h x).br) (svAt h x).nd = _; rw [es, c.2]
   have f2 : plH f l h (x + 1) = (plH f l h x).set (Int.toNat s.br) r.dest := by show (plH f l h x).set (Int.toNat (svAt h x).br) (rqAt l (svAt h x).rq).dest = _; rw [es, e9]
   have f3 : metH l.length h (x + 1) = (metH l.length h x).set (Int.toNat s.rq) true := by have := metH_succ (n := l.length) hlt (by rw [es]; omega) (by rw [es]; omega); rw [es] at this; exact this
   have g1 := flat_set intC_len (frH f h x) (Int.toNat s.br) (by omega) (s.tk + trav f P r.place + r.len)
   have g2 := flat_set intC_len (plH f l h x) (Int.toNat s.br) (by omega) r.dest
   have g3 := flat_set boolC_len (metH l.length h x) (Int.toNat s.rq) (by rw [metH_len]; omega) true
   rw [<- f1] at g1
   rw [<- f2] at g2
   rw [<- f3] at g3
   rw [Nat.zero_add, Nat.zero_add, g1, g2, g3]
   repeat' first | exact inL_b _ _ | exact plainIL _ _ | exact plainBL _ _ | exact plainRQ _ _ | exact plainSV _ _ | exact plainBR _ _ | exact (inV_rn _ 0 _).symm | exact wk_QR | exact trivial | exact rfl | exact wk_refl _ | refine wkO_cells ?_ | refine wks_cons ?_ ?_ | exact wks_nil | exact wk_nil _ _ _ (.inl rfl) | (exact wk_Q (by omega)) | refine wk_tupL ?_ | refine wk_aggL ?_ | refine joinMax ?_ ?_ ?_ | refine joinMin ?_ ?_ ?_ | refine toMax ?_ | refine toMin ?_ | refine ⟨rfl, ?_⟩ | refine ⟨trivial, ?_⟩ | (refine forkD (fun h => ?_) (fun h => ?_)) | (refine forkNe (fun h => ?_) (fun h => ?_)) | (refine forkEq (fun h => ?_) (fun h => ?_)) | refine forkNot ?_ | (refine ⟨vI64 (by omega), ?_⟩) | (refine And.intro (by omega) ?_) | apply And.intro | (exact iEq (by omega)) | (exact vI64 (by omega))
  ·intro k
   rw [es, eb, e9] at k
   simp only [k.1, k.2, beq_self_eq_true, Bool.true_and, Bool.and_true] at c
   cases c
end
end Go.Proofs.YthdekmpkioikdaaGreat
/- Request: what is wrong with histories, by the reference. No condition. -/
namespace Go.Proofs.YthdekmpkioikdaaGreat
open Go Go.K
set_option maxRecDepth 100000
set_option linter.unusedVariables false
set_option linter.unusedSimpArgs false
noncomputable section
attribute [local irreducible] vF
theorem brH_at {f : Fleet} {l : List Rq} {h : List Sv} {k b : Nat} (hb : b < f.b.length) : (brH f l h k).getD b zeroB = ⟨(frH f h k).getD b 0, (plH f l h k).getD b 0⟩ := tabP_get hb
end
end Go.Proofs.YthdekmpkioikdaaGreat
/- Request: plain laws of histories that are right. No condition. -/
namespace Go.Proofs.YthdekmpkioikdaaGreat
set_option linter.unusedSimpArgs false
open Go Go.K
set_option linter.unusedVariables false
noncomputable section
structure HOk (f : Fleet) (l : List Rq) (h : List Sv) : Prop where
 fl : FlOk f
 ls : LsOk f.t.length l
 len : h.length = l.length
 rq : ∀ k, k < h.length -> 0 <= (svAt h k).rq /\ (svAt h k).rq < (l.length : Int)
 br : ∀ k, k < h.length -> 0 <= (svAt h k).br /\ (svAt h k).br < (f.b.length : Int)
 ne : ∀ k, k < h.length -> (h.take k).any (isRq (svAt h k).rq) = false
 tk : ∀ k, k < h.length -> (rqAt l (svAt h k).rq).at_ <= (svAt h k).tk /\ (svAt h k).tk <= 1000000000
 bg : ∀ k, k < h.length -> (svAt h k).bg = bgH f l h k
 nd : ∀ k, k < h.length -> (svAt h k).nd = bgH f l h k + (rqAt l (svAt h k).rq).len
theorem errSv_ok {f : Fleet} {l : List Rq} {h : List Sv} {k : Nat} (e : errSv f l h k = 0) :
  (0 <= (svAt h k).rq /\ (svAt h k).rq < (l.length : Int)) /\ (0 <= (svAt h k).br /\ (svAt h k).br < (f.b.length : Int)) /\ (h.take k).any (isRq (svAt h k).rq) = false /\
  ((rqAt l (svAt h k).rq).at_ <= (svAt h k).tk /\ (svAt h k).tk <= 1000000000) /\ (svAt h k).bg = bgH f l h k /\ (svAt h k).nd = bgH f l h k + (rqAt l (svAt h k).rq).len := by
 unfold errSv at e
 dsimp only at e
 split at e
 ·cases e
 rename_i c1
 split at e
 ·cases e
 rename_i c2
 split at e
 ·cases e
 split at e
 ·cases e
 rename_i c4
 split at e
 ·rename_i c5
  have a1 : inB (svAt h k).rq 0 ((l.length : Int) - 1) = true := by
   cases hc : inB (svAt h k).rq 0 ((l.length : Int) - 1) with
   | true => rfl
   | false => exact absurd (by rw [hc]; rfl) c1
  have a2 : inB (svAt h k).br 0 ((f.b.length : Int) - 1) = true := by
   cases hc : inB (svAt h k).br 0 ((f.b.length : Int) - 1) with
   | true => rfl
   | false => exact absurd (by rw [hc, Bool.or_eq_true]; exact .inr rfl) c1
  have b1 := inB_2 a1
  have b2 := inB_2 a2
  have a3 : (h.take k).any (isRq (svAt h k).rq) = false := by
   cases hc : (h.take k).any (isRq (svAt h k).rq) with
   | false => rfl
   | true => exact absurd hc c2
  exact ⟨by omega, by omega, a3, by omega, c5.1, c5.2⟩
 ·cases e
theorem histOk {f : Fleet} {l : List Rq} {h : List Sv} (e : errHist f l h = 0) : HOk f l h := by
 unfold errHist at e
 obtain ⟨e1, e2⟩ := first2_0 e
 obtain ⟨h0, h1⟩ := first2_0 e1
 split at e2
 ·rename_i hl
  have hk := fun k hk => errSv_ok (errUp_all e2 k hk)
  exact ⟨flOk h0, lsOk h1, hl, fun k hk' => (hk k hk').1, fun k hk' => (hk k hk').2.1, fun k hk' => (hk k hk').2.2.1, fun k hk' => (hk k hk').2.2.2.1, fun k hk' => (hk k hk').2.2.2.2.1, fun k hk' => (hk k hk').2.2.2.2.2⟩
 ·cases e2
theorem HOk.inj {f : Fleet} {l : List Rq} {h : List Sv} (o : HOk f l h) {j k : Nat} (hk : k < h.length) (hj : j < k) : (svAt h j).rq ≠ (svAt h k).rq := by
 intro e
 have h1 := o.ne k hk
 have h2 : j < (h.take k).length := by rw [take_len (by omega)]; exact hj
 have hg : (h.take k).getD j zeroV = svAt h j := by show _ = h.getD j zeroV; rw [List.getD_eq_getElem?_getD, List.getElem?_take, if_pos hj, <- List.getD_eq_getElem?_getD]
 have := any_no (d := zeroV) h1 h2
 rw [hg] at this
 exact of_decide_eq_false this e
theorem fOver_e {f : Fleet} {l : List Rq} {h : List Sv} (e : errHist f l h ≠ 0) : fOver f l h = ([], errHist f l h) := if_neg e
theorem fOver_0 {f : Fleet} {l : List Rq} {h : List Sv} (e : errHist f l h = 0) : fOver f l h = (ovL l h, 0) := if_pos e
theorem laterV_neg (a b : Rq) : decide (laterV a b < 0) = befB a b := by
 unfold laterV cmpI befB
 by_cases h1 : a.at_ < b.at_
 ·rw [if_pos h1, first2_1 (by decide), decide_eq_true h1]; rfl
 ·rw [if_neg h1, decide_eq_false h1, Bool.false_or]
  by_cases h2 : b.at_ < a.at_
  ·rw [if_pos h2, first2_1 (by decide), decide_eq_false (show ¬ a.at_ = b.at_ by omega)]; rfl
  ·rw [if_neg h2, first2_2 rfl, decide_eq_true (show a.at_ = b.at_ by omega), Bool.true_and]
   by_cases h3 : a.id < b.id
   ·rw [if_pos h3, decide_eq_true h3]; rfl
   ·rw [if_neg h3, decide_eq_false h3]; split <;> rfl
end
end Go.Proofs.YthdekmpkioikdaaGreat
/- What is to be shown of functions. Printed by a program. No condition. -/
namespace Go.Proofs.YthdekmpkioikdaaGreat
set_option linter.unusedSimpArgs false
open Go Go.K
set_option maxRecDepth 100000
set_option maxHeartbeats 4000000
set_option linter.unusedVariables false
noncomputable section
abbrev jf11 : Value:=nI 0
def Rcmp (sp : Value) (a b : Int) : Prop :=
 ((((a : Int) != a) = true -> ((((b : Int) != b) = true -> jf11 = sp) /\ (((b : Int) != b) = false -> (nI (-1) : Value) = sp))) /\ (((a : Int) != a) = false -> ((((b : Int) != b) = true -> (nI 1 : Value) = sp) /\ (((b : Int) != b) = false -> (((decide ((a : Int) < b)) = true -> (nI (-1) : Value) = sp) /\ ((decide ((a : Int) < b)) = false -> (((decide ((b : Int) < a)) = true -> (nI 1 : Value) = sp) /\ ((decide ((b : Int) < a)) = false -> jf11 = sp))))))))
theorem Ecmp (sp : Value) (a b : Int) : vF prog msk (dm 0) 100000 true 40 true 152 [nI a,nI b] ⟨0,.leaf⟩ (some [])
 (.go 17 (.fork (.go 0 (.fork (.auto) (.auto))) (.go 0 (.fork (.auto) (.go 2 (.fork (.auto) (.go 2 (.fork (.auto) (.auto)))))))))
 (fun v _ _ => v = sp) = Rcmp sp a b:=by kernel_rfl
abbrev jfd (l : List Rq) : Int:=(l.length : Nat)
abbrev jf1l (l : List Rq):=l.flatMap rqC
abbrev jfj (l : List Rq) (i : Int):=l.getD i.toNat zeroQ
abbrev jf18 (l : List Rq) (i : Int) : Value:=.agg #[nI (jfj l i).id,nI (jfj l i).at_,nI (jfj l i).place,nI (jfj l i).dest,nI (jfj l i).len,nI (jfj l i).prio,nI (jfj l i).limit]
abbrev jfl (l : List Rq) (k : Int):=l.getD k.toNat zeroQ
abbrev jf19 (l : List Rq) (k : Int) : Value:=.agg #[nI (jfl l k).id,nI (jfl l k).at_,nI (jfl l k).place,nI (jfl l k).dest,nI (jfl l k).len,nI (jfl l k).prio,nI (jfl l k).limit]
def Rlater (sp : Value) (f : Fleet) (l : List Rq) (X Y : List Int) (i k : Int) : Prop :=
 (((0 : Int) <= i /\ (i : Int) < (jfd l)) /\ ((partA 7 (jf1l l) (0 + Int.toNat i * 7) = some (jf18 l i)) /\ (((0 : Int) <= k /\ (k : Int) < (jfd l)) /\ ((partA 7 (jf1l l) (0 + Int.toNat k * 7) = some (jf19 l k)) /\ ((True) /\ (∀ H' : Heap,H'.length = 8 -> (True) -> KCall prog 152 [nI (jfj l i).at_,nI (jfl l k).at_] H' [] (Is (nI (cmpI (jfj l i).at_ (jfl l k).at_)) H')) /\ ((True) /\ (∀ H' : Heap,H'.length = 8 -> (True) -> KCall prog 152 [nI (jfj l i).id,nI (jfl l k).id] H' [] (Is (nI (cmpI (jfj l i).id (jfl l k).id)) H')) /\ (∃ y2 : Int,(nI (cmpI (jfj l i).at_ (jfl l k).at_) : Value) = nI y2 /\ ((((y2 : Int) != 0) = true -> (nI y2 : Value) = sp) /\ (((y2 : Int) != 0) = false -> (∃ y3 : Int,(nI (cmpI (jfj l i).id (jfl l k).id) : Value) = nI y3 /\ ((((y3 : Int) != 0) = true -> (nI y3 : Value) = sp) /\ (((y3 : Int) != 0) = false -> jf11 = sp))))))))))))
theorem Elater (sp : Value) (f : Fleet) (l : List Rq) (X Y : List Int) (i k : Int) : vF prog msk (dm 0) 100000 true 40 true 120 [.pointer (some ⟨5,0,none⟩),nI i,nI k] (readsT 0 [inL f.t,f.b.flatMap intC,l.flatMap rqC,X.flatMap intC,Y.flatMap intC,wkC f l X Y]) (some [])
 (.go 5 (.need (.val (jf18 l i) (.go 4 (.need (.val (jf19 l k) (.go 11 (.ans [] (nI (cmpI (jfj l i).at_ (jfl l k).at_)) [] (.ans [] (nI (cmpI (jfj l i).id (jfl l k).id)) [] (.go 10 (.bind Int (fun y2 => .slot 11 (nI y2) (.go 3 (.fork (.auto) (.go 5 (.bind Int (fun y3 => .slot 11 (nI y3) (.go 3 (.fork (.auto) (.auto))))))))))))))))))))
 (fun v _ _ => v = sp) = Rlater sp f l X Y i k:=by kernel_rfl
abbrev jf12 (f : Fleet):=f.b.flatMap intC
abbrev jf1v (f : Fleet):=someR (.cells false 0 (jf12 f))
abbrev jf5 (f : Fleet) (l : List Rq) (h : List Sv) : Prop:=(someR (.cells false 0 (inL f.t))) /\ (jf1v f) /\ (someR (.cells false 0 (jf1l l))) /\ (someR (.cells false 0 (h.flatMap svC))) /\ True
abbrev jf1 (H' : Heap) (f : Fleet) (l : List Rq) (h : List Sv) : Prop:=H'[0]? = some (.cells false 0 (inL f.t) : KObj) /\ H'[1]? = some (.cells false 0 (jf12 f) : KObj) /\ H'[2]? = some (.cells false 0 (jf1l l) : KObj) /\ H'[3]? = some (.cells false 0 (h.flatMap svC) : KObj) /\ True
abbrev jf7 (f : Fleet) (l : List Rq) (h : List Sv) : List Value:=[.agg #[slQ 0 2 f.t.length,slQ 1 2 f.b.length],slQ 2 2 l.length,slQ 3 2 h.length]
abbrev jfy (f : Fleet) (l : List Rq) (h : List Sv) : Prop:=∀ H' : Heap,H'.length = 5 -> (jf1 H' f l h) -> KCall prog 87 (jf7 f l h) H' [] (Is (nI (errHist f l h)) H')
abbrev jfh (f : Fleet) : Prop:=(0 : Int) <= ((f.b.length : Nat) : Int) /\ (((f.b.length : Nat) : Int) : Int) <= ((f.b.length : Nat) : Int) /\ (((f.b.length : Nat) : Int) : Int) < 2 ^ 62 /\ 8 * (((f.b.length : Nat) : Int) : Int) <= 2 ^ 48
abbrev jfg (f : Fleet) : Prop:=∀ H' : Heap,H'.length = 7 -> (H'[1]? = some (.cells false 0 (jf12 f) : KObj) /\ True) -> KCall prog 116 [slQ 1 2 f.b.length] H' [] (Is (slQ 7 1 f.b.length) (H' ++ [(.cells true 1 (jf12 f) : KObj)]))
abbrev jfr (l : List Rq) : Prop:=(0 : Int) <= (jfd l) /\ ((jfd l) : Int) <= (jfd l) /\ ((jfd l) : Int) < 2 ^ 62 /\ 8 * ((jfd l) : Int) <= 2 ^ 48
abbrev jf1i : Int:=(0 : Nat)
abbrev jfo : Value:=.slice none 0 0
abbrev jff (h : List Sv) : Int:=(h.length : Nat)
abbrev jf2 (l : List Rq) (h : List Sv) : Prop:=(.pointer (some ⟨8,0,none⟩) : Value) = .pointer (some ⟨8,0,none⟩) /\ jfo = .slice none 0 0 /\ (.slice (some ⟨9,0,none⟩) l.length l.length : Value) = .slice (some ⟨9,0,none⟩) l.length l.length /\ wkR (slQ 3 2 h.length) /\ (nI (jff h) : Value) = nI (jff h) /\ True
abbrev jf1w (l : List Rq) : KObj:=.cells true 1 (krep [nI 0] l.length)
abbrev jfv : Prop:=(True) /\ (True)
abbrev jf1r : Prop:=∀ x2 : Nat,true = true
abbrev jf13 (x2 : Nat) (h : List Sv):=decide (((x2 : Int) : Int) < (jff h))
abbrev jf1s (x2 : Nat) (h : List Sv) : Prop:=(0 : Int) <= (x2 : Int) /\ ((x2 : Int) : Int) < (jff h)
abbrev jfi (h : List Sv) (x2 : Nat):=h.getD x2 zeroV
abbrev jfb (h : List Sv) (x2 : Nat) : Value:=.agg #[nI (jfi h x2).rq,nI (jfi h x2).br,nI (jfi h x2).tk,nI (jfi h x2).bg,nI (jfi h x2).nd]
abbrev jf1g (h : List Sv) (x2 : Nat) : Prop:=partA 5 (h.flatMap svC) (0 + Int.toNat (x2 : Int) * 5) = some (jfb h x2)
abbrev jfw (h : List Sv) (x2 : Nat) (l : List Rq) : Prop:=(0 : Int) <= (jfi h x2).rq /\ ((jfi h x2).rq : Int) < (jfd l)
abbrev jf1t (x2 : Nat) : Value:=nI (IntKind.wrap .i64 ((x2 : Int) + 1))
abbrev jf1z (l : List Rq) : Value:=.tuple #[.slice (some ⟨9,0,none⟩) l.length l.length,nI 0]
abbrev jfc (f : Fleet) (l : List Rq) (h : List Sv):=readsT 0 [inL f.t,f.b.flatMap intC,l.flatMap rqC,h.flatMap svC]
abbrev jf9 (f : Fleet) (l : List Rq) (h : List Sv) : List (Nat × KObj):=[(0,.cells false 0 (inL f.t)),(1,.cells false 0 (jf12 f)),(2,.cells false 0 (jf1l l)),(3,.cells false 0 (h.flatMap svC))]
abbrev jf1o : Hint:=.go 2 (.again [])
abbrev jf1a : Nat × Value:=(0,.pointer (some ⟨8,0,none⟩))
abbrev jf1e : Nat × Value:=(4,.slice none 0 0)
abbrev jf1q (l : List Rq) : Nat × Value:=(5,.slice (some ⟨9,0,none⟩) l.length l.length)
abbrev jf14 : Hint:=.go 0 (.again [])
abbrev jft (f : Fleet) (l : List Rq) (h : List Sv) : Prop:=(((errHist f l h) : Int) != 0) = true -> (true = true /\ wk (.tuple #[.slice none 0 0,nI (errHist f l h)] : Value) (rn (sg 4 []) 3 (.tuple #[slQ 4 2 (List.length (fOver f l h).1),nI (fOver f l h).2] : Value)) /\ (True /\ True))
abbrev jf0 (h : List Sv) (l : List Rq) (x2 : Nat) : Prop:=(nI (jff h) : Value) = nI (jff h) /\ wkR (slQ 3 2 h.length) /\ (.slice (some ⟨9,0,none⟩) l.length l.length : Value) = .slice (some ⟨9,0,none⟩) l.length l.length /\ jfo = .slice none 0 0 /\ (.pointer (some ⟨8,0,none⟩) : Value) = .pointer (some ⟨8,0,none⟩) /\ wkR (slQ 3 2 h.length) /\ (nI (x2 : Int) : Value) = nI (x2 : Int) /\ (.pointer (some ⟨10,0,none⟩) : Value) = .pointer (some ⟨10,0,none⟩) /\ (nI (x2 : Int) : Value) = nI (x2 : Int) /\ wkR (slQ 3 2 x2) /\ (nI (x2 : Int) : Value) = nI (x2 : Int) /\ True
abbrev jfq (h : List Sv) (x2 : Nat) : List Value:=[nI (jfi h x2).rq,nI (jfi h x2).br,nI (jfi h x2).tk,nI (jfi h x2).bg,nI (jfi h x2).nd]
abbrev jf1j (h : List Sv) (x3 : Nat) : Value:=.agg #[nI (h.getD x3 zeroV).rq,nI (h.getD x3 zeroV).br,nI (h.getD x3 zeroV).tk,nI (h.getD x3 zeroV).bg,nI (h.getD x3 zeroV).nd]
abbrev jfn (f : Fleet) (l : List Rq) : List Value:=[slQ 0 2 f.t.length,slQ 1 2 f.b.length,slQ 2 2 l.length,.slice (some ⟨6,0,none⟩) f.b.length f.b.length,slQ 7 1 f.b.length]
abbrev jf1p (l : List Rq) (h : List Sv) (x2 : Nat) (x3 : Nat):=laterV (rqAt l (jfi h x2).rq) (rqAt l (h.getD x3 zeroV).rq)
abbrev jf22 (l : List Rq) (h : List Sv) (x2 : Nat) (x3' : Nat) : KObj:=.cells true 1 ((ovI l h x2 x3').flatMap intC)
abbrev jf1k (f : Fleet) (l : List Rq) (h : List Sv) : KObj:=.cells true 1 (List.flatMap intC (fOver f l h).1)
def ROver (f : Fleet) (l : List Rq) (h : List Sv) : Prop :=
 ((jf5 f l h) /\ (jfy f l h) /\ ((jft f l h) /\ ((((errHist f l h) : Int) != 0) = false -> ((jfh f) /\ (((jf1v f) /\ True) /\ (jfg f) /\ ((jfr l) /\ (true = true /\ (0 <= List.length h) /\ (true = true /\ (jf11 = nI jf1i /\ wkR (slQ 3 2 h.length) /\ jf2 l h) /\ ((some (jf1w l) = some (.cells true 1 ((ovH l h 0).flatMap intC) : KObj) /\ belowO 10 (.cells true 1 ((ovH l h 0).flatMap intC) : KObj) = true) /\ True) /\ jfv) /\ jf1r /\ ∀ x2 : Nat,(x2 <= List.length h) -> (((jf13 x2 h) = true -> ((jf1s x2 h) /\ ((jf1g h x2) /\ ((((false = false ∨ 0 = 0 ∨ 0 = 5) /\ (x2 : Int).toNat <= h.length) /\ ((0 : Int) <= (x2 : Int) /\ ((x2 : Int) : Int) <= (jff h)) /\ (0 <= (x2 : Int).toNat)) /\ ((slQ 3 2 ((x2 : Int).toNat - 0) : Value) = slQ 3 2 x2 /\ (true = true /\ (0 <= x2) /\ (true = true /\ (jf11 = nI jf1i /\ jf0 h l x2) /\ ((keptR 11 (.cells true 0 (jfq h x2))) /\ (some (.cells true 1 ((ovH l h x2).flatMap intC) : KObj) = some (.cells true 1 ((ovI l h x2 0).flatMap intC) : KObj) /\ belowO 11 (.cells true 1 ((ovI l h x2 0).flatMap intC) : KObj) = true) /\ True) /\ jfv) /\ (∀ x3 : Nat,true = true) /\ ∀ x3 : Nat,(x3 <= x2) -> (((decide (((x3 : Int) : Int) < (x2 : Int))) = true -> (((0 : Int) <= (x3 : Int) /\ ((x3 : Int) : Int) < (x2 : Int)) /\ ((partA 5 (h.flatMap svC) (0 + Int.toNat (x3 : Int) * 5) = some (jf1j h x3)) /\ (((someR (.cells true 0 (jfn f l))) /\ (someR (.cells false 0 (inL f.t))) /\ (jf1v f) /\ (someR (.cells false 0 (jf1l l))) /\ (someR (.cells true 1 (krep [nI 0] f.b.length))) /\ (someR (.cells true 1 (jf12 f))) /\ True) /\ (∀ H' : Heap,H'.length = 12 -> (H'[8]? = some (.cells true 0 (jfn f l) : KObj) /\ H'[0]? = some (.cells false 0 (inL f.t) : KObj) /\ H'[1]? = some (.cells false 0 (jf12 f) : KObj) /\ H'[2]? = some (.cells false 0 (jf1l l) : KObj) /\ H'[6]? = some (.cells true 1 (krep [nI 0] f.b.length) : KObj) /\ H'[7]? = some (.cells true 1 (jf12 f) : KObj) /\ True) -> KCall prog 120 [.pointer (some ⟨8,0,none⟩),nI (jfi h x2).rq,nI (h.getD x3 zeroV).rq] H' [] (Is (nI (jf1p l h x2 x3)) H')) /\ (((decide (((jf1p l h x2 x3) : Int) < 0)) = true -> ((jfw h x2 l) /\ ((((ovI l h x2 x3).flatMap intC)[(0 + Int.toNat (jfi h x2).rq * 1)]? = some (nI ((ovI l h x2 x3).getD (Int.toNat (jfi h x2).rq) 0))) /\ ((nI (IntKind.wrap .i64 (((ovI l h x2 x3).getD (Int.toNat (jfi h x2).rq) 0) + 1)) : Value) = nI (((ovI l h x2 x3).getD (Int.toNat (jfi h x2).rq) 0) + 1) /\ ((jfw h x2 l) /\ (((0 + Int.toNat (jfi h x2).rq * 1) + 1 <= List.length ((ovI l h x2 x3).flatMap intC)) /\ true = true /\ ((nI (IntKind.wrap .i64 ((x3 : Int) + 1)) : Value) = nI ((x3 : Int) + 1) /\ (∃ x3' : Nat,(x3' <= x2) /\ (x2 - x3') < (x2 - x3) /\ true = true /\ ((nI ((x3 : Int) + 1) : Value) = nI (x3' : Int) /\ jf0 h l x2) /\ ((keptR 11 (.cells true 0 (jfq h x2))) /\ (some (.cells true 1 (setl ((ovI l h x2 x3).flatMap intC) (0 + Int.toNat (jfi h x2).rq * 1) [nI (((ovI l h x2 x3).getD (Int.toNat (jfi h x2).rq) 0) + 1)]) : KObj) = some (jf22 l h x2 x3') /\ belowO 11 (jf22 l h x2 x3') = true) /\ True) /\ jfv)))))))) /\ ((decide (((jf1p l h x2 x3) : Int) < 0)) = false -> ((nI (IntKind.wrap .i64 ((x3 : Int) + 1)) : Value) = nI ((x3 : Int) + 1) /\ (∃ x3' : Nat,(x3' <= x2) /\ (x2 - x3') < (x2 - x3) /\ true = true /\ ((nI ((x3 : Int) + 1) : Value) = nI (x3' : Int) /\ jf0 h l x2) /\ ((keptR 11 (.cells true 0 (jfq h x2))) /\ (some (.cells true 1 ((ovI l h x2 x3).flatMap intC) : KObj) = some (jf22 l h x2 x3') /\ belowO 11 (jf22 l h x2 x3') = true) /\ True) /\ jfv)))))))) /\ ((decide (((x3 : Int) : Int) < (x2 : Int))) = false -> ((jf1t x2) = nI ((x2 : Int) + 1) /\ (∃ x2' : Nat,(x2' <= List.length h) /\ (List.length h - x2') < (List.length h - x2) /\ true = true /\ ((nI ((x2 : Int) + 1) : Value) = nI (x2' : Int) /\ wkR (slQ 3 2 h.length) /\ jf2 l h) /\ ((some (.cells true 1 ((ovI l h x2 x3).flatMap intC) : KObj) = some (.cells true 1 ((ovH l h x2').flatMap intC) : KObj) /\ belowO 10 (.cells true 1 ((ovH l h x2').flatMap intC) : KObj) = true) /\ True) /\ jfv)))))))))) /\ ((jf13 x2 h) = false -> (true = true /\ wk (jf1z l) (rn (sg 4 [(4,9)]) 3 (.tuple #[slQ 4 2 (List.length (fOver f l h).1),nI (fOver f l h).2] : Value)) /\ ((some (.cells true 1 ((ovH l h x2).flatMap intC) : KObj) = some (jf1k f l h) /\ belowO 4 (jf1k f l h) = true) /\ True)))))))))))
abbrev jf1c (f : Fleet) (l : List Rq) (h : List Sv):=newK ((jfc f l h) : HT).n 3 (.tuple #[slQ 4 2 (List.length (fOver f l h).1),nI (fOver f l h).2]) [(true,.cells true 1 (List.flatMap intC (fOver f l h).1))]
theorem EOver (f : Fleet) (l : List Rq) (h : List Sv) : vF prog msk (dm 0) 100000 true 40 true 41 (jf7 f l h) (jfc f l h) (some [])
 (.go 5 (.ans (jf9 f l h) (nI (errHist f l h)) [] (.go 2 (.fork jf1o (.go 9 (.need (.go 1 (.ans [(1,.cells false 0 (jf12 f))] (slQ 7 1 f.b.length) [.cells true 1 (jf12 f)] (.go 10 (.need (.go 3 (.inv 3 (Nat) (0) [] [9] (fun x2 => [(18,nI (x2 : Int)),(1,slQ 3 2 h.length),jf1a,jf1e,(jf1q l),(16,slQ 3 2 h.length),(17,nI (jff h))]) (fun x2 => [(9,true,.cells true 1 ((ovH l h x2).flatMap intC))]) (fun x2 => []) (fun x2 => []) (fun x2 => (x2 <= List.length h)) (fun x2 => (List.length h - x2)) (fun x2 => .go 0 (.fork (.go 0 (.need (.val (jfb h x2) (.go 4 (.need (.slot 25 (slQ 3 2 x2) (.go 1 (.inv 3 (Nat) (0) [] [10,9] (fun x3 => [(27,nI (x3 : Int)),(17,nI (jff h)),(16,slQ 3 2 h.length),(jf1q l),jf1e,jf1a,(1,slQ 3 2 h.length),(18,nI (x2 : Int)),(7,.pointer (some ⟨10,0,none⟩)),(6,nI (x2 : Int)),(25,slQ 3 2 x2),(26,nI (x2 : Int))]) (fun x3 => [(10,true,.cells true 0 (jfq h x2)),(9,true,.cells true 1 ((ovI l h x2 x3).flatMap intC))]) (fun x3 => []) (fun x3 => []) (fun x3 => (x3 <= x2)) (fun x3 => (x2 - x3)) (fun x3 => .go 0 (.fork (.need (.val (jf1j h x3) (.go 6 (.ans [(8,.cells true 0 (jfn f l)),(0,.cells false 0 (inL f.t)),(1,.cells false 0 (jf12 f)),(2,.cells false 0 (jf1l l)),(6,.cells true 1 (krep [nI 0] f.b.length)),(7,.cells true 1 (jf12 f))] (nI (jf1p l h x2 x3)) [] (.go 0 (.fork (.go 2 (.need (.val (nI ((ovI l h x2 x3).getD (Int.toNat (jfi h x2).rq) 0)) (.go 0 (.slot 43 (nI (((ovI l h x2 x3).getD (Int.toNat (jfi h x2).rq) 0) + 1)) (.need (.need (.go 0 (.slot 45 (nI ((x3 : Int) + 1)) jf14))))))))) (.go 0 (.slot 45 (nI ((x3 : Int) + 1)) jf14)))))))) (.go 0 (.slot 46 (nI ((x2 : Int) + 1)) jf14)))))))))))) (.go 3 (.again [(4,9)]))))))))))))))))
 (jf1c f l h) = ROver f l h:=by kernel_rfl
end
end Go.Proofs.YthdekmpkioikdaaGreat
/- Request: how long requests wait in a history. No condition. -/
namespace Go.Proofs.YthdekmpkioikdaaGreat
open Go Go.K
set_option maxRecDepth 100000
set_option linter.unusedVariables false
set_option linter.unusedSimpArgs false
noncomputable section
attribute [local irreducible] vF
theorem kCmp (a b : Int) (H : Heap) : KCall prog 152 [nI a, nI b] H [] (Is (.int .i64 (cmpI a b)) H) := by
 refine valK 40 (fun σ => rfl) rfl (Eq.mpr (Ecmp _ a b) ?_) H
 delta Rcmp jf11
 refine forkF (bne_self_eq_false _) (forkF (bne_self_eq_false _) (forkD (fun h => iEq (if_pos h).symm) (fun h => forkD (fun h2 => iEq ?_) (fun h2 => iEq ?_))))
 ·unfold cmpI; rw [if_neg h, if_pos h2]
 ·unfold cmpI; rw [if_neg h, if_neg h2]
theorem kLater (f : Fleet) (l : List Rq) (X Y : List Int) (i k : Int) (hi : 0 <= i /\ i < (l.length : Int)) (hk : 0 <= k /\ k < (l.length : Int)) {H : Heap} {j0 j1 j2 j3 j4 j5 : Nat} {o0 o1 o2 o3 o4 o5 : Bool} {z0 z1 z2 z3 z4 z5 : Nat}
  (e5 : H[j5]? = some (.cells o5 z5 [.slice (some ⟨j0, 0, some 2⟩) f.t.length f.t.length, .slice (some ⟨j1, 0, some 2⟩) f.b.length f.b.length, .slice (some ⟨j2, 0, some 2⟩) l.length l.length, .slice (some ⟨j3, 0, none⟩) X.length X.length, .slice (some ⟨j4, 0, some 1⟩) Y.length Y.length]))
  (e0 : H[j0]? = some (.cells o0 z0 (inL f.t))) (e1 : H[j1]? = some (.cells o1 z1 (f.b.flatMap intC))) (e2 : H[j2]? = some (.cells o2 z2 (l.flatMap rqC))) (e3 : H[j3]? = some (.cells o3 z3 (X.flatMap intC))) (e4 : H[j4]? = some (.cells o4 z4 (Y.flatMap intC))) :
  KCall prog 120 [.pointer (some ⟨j5, 0, none⟩), nI i, nI k] H [] (Is (.int .i64 (laterV (rqAt l i) (rqAt l k))) H) := by
 have hv : Rlater (.int .i64 (laterV (rqAt l i) (rqAt l k))) f l X Y i k := by
  delta Rlater jfd jf1l jfj jf18 jfl jf19 jf11
  have h1 : Int.toNat i < l.length := by omega
  have h2 : Int.toNat k < l.length := by omega
  refine ⟨by omega, partQ h1 (by omega), by omega, partQ h2 (by omega), trivial, fun H' _ _ => kCmp _ _ H', trivial, fun H' _ _ => kCmp _ _ H', _, rfl, forkNe (fun h => iEq (first2_1 h).symm) (fun h => ⟨_, rfl, forkNe (fun g => iEq (first2_2 h).symm) (fun g => iEq ?_)⟩)⟩
  exact ((first2_2 h).trans g).symm
 have hp : ∀ (l : List Value), l.all (belowC 0) = true -> l.map (rn (sgR 0 [j0, j1, j2, j3, j4, j5]) 3) = l := fun l hl => (rnCl (d := 0) hl).1
 refine valRA (css := [inL f.t, f.b.flatMap intC, l.flatMap rqC, X.flatMap intC, Y.flatMap intC, wkC f l X Y]) (Eq.mpr (Elater _ f l X Y i k) hv) rfl [j0, j1, j2, j3, j4, j5] rfl ?_
 intro n cs h
 match n with
 | 0 => cases h; exact ⟨_, _, _, rfl, by rw [hp _ (inL_b 0 _)]; exact e0⟩
 | 1 => cases h; exact ⟨_, _, _, rfl, by rw [hp _ (plainIL 0 _)]; exact e1⟩
 | 2 => cases h; exact ⟨_, _, _, rfl, by rw [hp _ (plainRQ 0 _)]; exact e2⟩
 | 3 => cases h; exact ⟨_, _, _, rfl, by rw [hp _ (plainIL 0 _)]; exact e3⟩
 | 4 => cases h; exact ⟨_, _, _, rfl, by rw [hp _ (plainIL 0 _)]; exact e4⟩
 | 5 => cases h; exact ⟨_, _, _, rfl, e5⟩
 | n + 6 => cases h
abbrev lV (i : Nat) (r : List Int × Int) : Value := .tuple #[.slice (some ⟨i, 0, some 2⟩) r.1.length r.1.length, .int .i64 r.2]
theorem wk_RI {id n m : Nat} (h : m = n) : wk (.slice (some ⟨id, 0, none⟩) n n) (.slice (some ⟨id, 0, some 2⟩) m m) := by subst h; exact wk_R
end
end Go.Proofs.YthdekmpkioikdaaGreat
