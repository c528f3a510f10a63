/- What is to be shown of functions. Printed by a program. No condition. -/
import Derived.Test.YthdekmpkioikdaaGreatGK27xR1
import Derived.Shelf.Sort.Plain
import Derived.Ground.Names2Prog
import Derived.Test.YthdekmpkioikdaaGreatChecked
import Derived.Sort.Grow
import Derived.Deep.Draws
namespace Go.Proofs.YthdekmpkioikdaaGreat
set_option linter.unusedSimpArgs false
open Go Go.K
set_option maxRecDepth 100000
set_option maxHeartbeats 4000000
set_option linter.unusedVariables false
noncomputable section
abbrev jbd : Value:=nI 0
abbrev jbt : Int:=(0 : Nat)
abbrev jb6 (l : List Int) : Value:=.iface (l.length + 1) (.agg ⟨(l.flatMap intC)⟩)
abbrev jb8 (l : List Int) : Int:=(l.length : Nat)
abbrev jbp (l : List Int) : Prop:=(.func (.func 132) #[] #[] : Value) = .func (.func 132) #[] #[] /\ (jb6 l) = rn (sg 0 []) 3 (jb6 l) /\ (nI (jb8 l) : Value) = nI (jb8 l) /\ True
abbrev jbc : Prop:=(True) /\ (True)
abbrev jb1b : Prop:=(True) /\ jbc
abbrev jbl : Prop:=∀ x0 : Nat,true = true
abbrev jbj (x0 : Nat) : Int:=(x0 : Int)
abbrev jb1g (x0 : Nat) : Value:=.bool (decide ((0 : Int) <= (x0 : Int)))
abbrev jbe (x0 : Nat) : Value:=nI (IntKind.wrap .i64 ((x0 : Int) + 1))
abbrev jb14 (x0 : Nat) : Value:=nI ((x0 : Int) + 1)
def RanyT (sp : Value) (l : List Int) : Prop :=
 (true = true /\ (0 <= List.length l /\ List.any (l.take 0) badT = false) /\ (true = true /\ (jbd = nI jbt /\ jbp l) /\ jb1b) /\ jbl /\ ∀ x0 : Nat,(x0 <= List.length l /\ List.any (l.take x0) badT = false) -> (((decide ((jbj x0) < (jb8 l))) = true -> (((0 : Int) <= (x0 : Int) /\ (jbj x0) < (jb8 l)) /\ (((l.flatMap intC)[(Int.toNat (x0 : Int) * 1)]? = some (nI (l.getD x0 0))) /\ ((True) /\ (∀ H' : Heap,H'.length = 0 -> (True) -> KCall prog 107 [nI (l.getD x0 0),nI 0,nI 100] H' [] (Is (.bool (inB (l.getD x0 0) 0 100)) H')) /\ (((!(inB (l.getD x0 0) 0 100)) = true -> (jb1g x0) = sp) /\ ((!(inB (l.getD x0 0) 0 100)) = false -> ((jbe x0) = nI ((x0 : Int) + 1) /\ (∃ x0' : Nat,(x0' <= List.length l /\ List.any (l.take x0') badT = false) /\ (List.length l - x0') < (List.length l - x0) /\ true = true /\ ((jb14 x0) = nI (x0' : Int) /\ jbp l) /\ jb1b)))))))) /\ ((decide ((jbj x0) < (jb8 l))) = false -> (.bool false : Value) = sp)))
abbrev jbk : Hint:=.go 0 (.again [])
abbrev jb13 (x0 : Nat) : Hint:=.fork (.auto) (.go 0 (.slot 18 (nI ((x0 : Int) + 1)) jbk))
theorem EanyT (sp : Value) (l : List Int) : vF prog msk (dm 0) 100000 true 40 true 131 [.iface (l.length + 1) (.agg ⟨(l.flatMap intC)⟩),.func (.func 132) #[] #[]] ⟨0,.leaf⟩ (some [])
 (.go 7 (.inv 3 (Nat) (0) [] [] (fun x0 => [(8,nI (x0 : Int)),(1,.func (.func 132) #[] #[]),(0,.iface (l.length + 1) (.agg ⟨(l.flatMap intC)⟩)),(7,nI (jb8 l))]) (fun x0 => []) (fun x0 => []) (fun x0 => []) (fun x0 => (x0 <= List.length l /\ List.any (l.take x0) badT = false)) (fun x0 => (List.length l - x0)) (fun x0 => .go 0 (.fork (.go 4 (.need (.val (nI (l.getD x0 0)) (.go 2 (.ans [] (.bool (inB (l.getD x0 0) 0 100)) [] (.go 1 (jb13 x0))))))) (.auto)))))
 (fun v _ _ => v = sp) = RanyT sp l:=by kernel_rfl
abbrev jbh (l : List Int) : Prop:=(.func (.func 133) #[] #[.pointer (some ⟨1,0,none⟩)] : Value) = .func (.func 133) #[] #[.pointer (some ⟨1,0,none⟩)] /\ wkR (slQ 0 2 l.length) /\ (nI (jb8 l) : Value) = nI (jb8 l) /\ True
abbrev jb1r (l : List Int) (x0 : Nat) (n : Nat):=inB (l.getD x0 0) 0 (((n : Nat) : Int) - 1)
def RanyA (sp : Value) (l : List Int) (n : Nat) : Prop :=
 (true = true /\ (0 <= List.length l /\ List.any (l.take 0) (badA n) = false) /\ (true = true /\ (jbd = nI jbt /\ jbh l) /\ jb1b) /\ jbl /\ ∀ x0 : Nat,(x0 <= List.length l /\ List.any (l.take x0) (badA n) = false) -> (((decide ((jbj x0) < (jb8 l))) = true -> (((0 : Int) <= (x0 : Int) /\ (jbj x0) < (jb8 l)) /\ (((l.flatMap intC)[(0 + Int.toNat (x0 : Int) * 1)]? = some (nI (l.getD x0 0))) /\ ((nI (IntKind.wrap .i64 (((n : Nat) : Int) - 1)) : Value) = nI (((n : Nat) : Int) - 1) /\ ((True) /\ (∀ H' : Heap,H'.length = 2 -> (True) -> KCall prog 107 [nI (l.getD x0 0),nI 0,nI (((n : Nat) : Int) - 1)] H' [] (Is (.bool (jb1r l x0 n)) H')) /\ (((!(jb1r l x0 n)) = true -> (jb1g x0) = sp) /\ ((!(jb1r l x0 n)) = false -> ((jbe x0) = nI ((x0 : Int) + 1) /\ (∃ x0' : Nat,(x0' <= List.length l /\ List.any (l.take x0') (badA n) = false) /\ (List.length l - x0') < (List.length l - x0) /\ true = true /\ ((jb14 x0) = nI (x0' : Int) /\ jbh l) /\ jb1b))))))))) /\ ((decide ((jbj x0) < (jb8 l))) = false -> (.bool false : Value) = sp)))
theorem EanyA (sp : Value) (l : List Int) (n : Nat) : vF prog msk (dm 0) 100000 true 40 true 131 [slQ 0 2 l.length,.func (.func 133) #[] #[.pointer (some ⟨1,0,none⟩)]] (readsT 0 [l.flatMap intC,intC (n : Int)]) (some [])
 (.go 7 (.inv 3 (Nat) (0) [] [] (fun x0 => [(8,nI (x0 : Int)),(1,.func (.func 133) #[] #[.pointer (some ⟨1,0,none⟩)]),(0,slQ 0 2 l.length),(7,nI (jb8 l))]) (fun x0 => []) (fun x0 => []) (fun x0 => []) (fun x0 => (x0 <= List.length l /\ List.any (l.take x0) (badA n) = false)) (fun x0 => (List.length l - x0)) (fun x0 => .go 0 (.fork (.go 4 (.need (.val (nI (l.getD x0 0)) (.go 4 (.slot 6 (nI (((n : Nat) : Int) - 1)) (.ans [] (.bool (jb1r l x0 n)) [] (.go 1 (jb13 x0)))))))) (.auto)))))
 (fun v _ _ => v = sp) = RanyA sp l n:=by kernel_rfl
abbrev jbw : Value:=nI 81
abbrev jb1c (p : Pol):=inB p.warn 0 10000
abbrev jb1v (p : Pol) (sp : Value) : Prop:=((!(inB p.w2 0 100)) = true -> jbw = sp) /\ ((!(inB p.w2 0 100)) = false -> jbd = sp)
def Rpol (sp : Value) (p : Pol) : Prop :=
 ((True) /\ (∀ H' : Heap,H'.length = 1 -> (True) -> KCall prog 107 [nI p.ov,nI 0,nI 30] H' [] (Is (.bool (inB p.ov 0 30)) H')) /\ (((!(inB p.ov 0 30)) = true -> jbw = sp) /\ ((!(inB p.ov 0 30)) = false -> ((True) /\ (∀ H' : Heap,H'.length = 1 -> (True) -> KCall prog 107 [nI p.warn,nI 0,nI 10000] H' [] (Is (.bool (jb1c p)) H')) /\ (((!(jb1c p)) = true -> jbw = sp) /\ ((!(jb1c p)) = false -> ((True) /\ (∀ H' : Heap,H'.length = 1 -> (True) -> KCall prog 107 [nI p.w0,nI 0,nI 100] H' [] (Is (.bool (inB p.w0 0 100)) H')) /\ (((!(inB p.w0 0 100)) = true -> jbw = sp) /\ ((!(inB p.w0 0 100)) = false -> ((True) /\ (∀ H' : Heap,H'.length = 1 -> (True) -> KCall prog 107 [nI p.w1,nI 0,nI 100] H' [] (Is (.bool (inB p.w1 0 100)) H')) /\ (((!(inB p.w1 0 100)) = true -> jbw = sp) /\ ((!(inB p.w1 0 100)) = false -> ((True) /\ (∀ H' : Heap,H'.length = 1 -> (True) -> KCall prog 107 [nI p.w2,nI 0,nI 100] H' [] (Is (.bool (inB p.w2 0 100)) H')) /\ (jb1v p sp))))))))))))))
abbrev jb16 : Hint:=.fork (.auto) (.auto)
theorem Epol (sp : Value) (p : Pol) : vF prog msk (dm 0) 100000 true 40 true 76 [.agg #[nI p.ov,nI p.warn,nI p.w0,nI p.w1,nI p.w2]] ⟨0,.leaf⟩ (some [])
 (.go 3 (.ans [] (.bool (inB p.ov 0 30)) [] (.go 1 (.gfork (.auto) (.go 1 (.ans [] (.bool (jb1c p)) [] (.go 2 (.gfork (.auto) (.go 22 (.ans [] (.bool (inB p.w0 0 100)) [] (.go 1 (.fork (.auto) (.go 13 (.ans [] (.bool (inB p.w1 0 100)) [] (.go 1 (.fork (.auto) (.go 13 (.ans [] (.bool (inB p.w2 0 100)) [] (.go 1 jb16)))))))))))))))))))
 (fun v _ _ => v = sp) = Rpol sp p:=by kernel_rfl
abbrev jb5 (l1_ : List Rq) : Int:=(l1_.length : Nat)
abbrev jbg (l1_ : List Rq) : Prop:=(.func (.func 136) #[] #[.pointer (some ⟨1,0,none⟩)] : Value) = .func (.func 136) #[] #[.pointer (some ⟨1,0,none⟩)] /\ wkR (slQ 0 2 l1_.length) /\ (nI (jb5 l1_) : Value) = nI (jb5 l1_) /\ True
abbrev jb1p (x0 : Nat) (l1_ : List Rq):=decide ((jbj x0) < (jb5 l1_))
abbrev jb1 (l1_ : List Rq) (x0 : Nat):=l1_.getD x0 zeroQ
abbrev jb2 (l1_ : List Rq) (x0 : Nat) : Value:=.agg #[nI (jb1 l1_ x0).id,nI (jb1 l1_ x0).at_,nI (jb1 l1_ x0).place,nI (jb1 l1_ x0).dest,nI (jb1 l1_ x0).len,nI (jb1 l1_ x0).prio,nI (jb1 l1_ x0).limit]
def RanyI (sp : Value) (l1_ m : List Rq) (r : Rq) : Prop :=
 (true = true /\ (0 <= List.length l1_ /\ List.any (l1_.take 0) (sameId r) = false) /\ (true = true /\ (jbd = nI jbt /\ jbg l1_) /\ jb1b) /\ jbl /\ ∀ x0 : Nat,(x0 <= List.length l1_ /\ List.any (l1_.take x0) (sameId r) = false) -> (((jb1p x0 l1_) = true -> (((0 : Int) <= (x0 : Int) /\ (jbj x0) < (jb5 l1_)) /\ ((partA 7 ((l1_ ++ m).flatMap rqC) (0 + Int.toNat (x0 : Int) * 7) = some (jb2 l1_ x0)) /\ (((((jb1 l1_ x0).id : Int) == r.id) = true -> (jb1g x0) = sp) /\ ((((jb1 l1_ x0).id : Int) == r.id) = false -> ((jbe x0) = nI ((x0 : Int) + 1) /\ (∃ x0' : Nat,(x0' <= List.length l1_ /\ List.any (l1_.take x0') (sameId r) = false) /\ (List.length l1_ - x0') < (List.length l1_ - x0) /\ true = true /\ ((jb14 x0) = nI (x0' : Int) /\ jbg l1_) /\ jb1b))))))) /\ ((jb1p x0 l1_) = false -> (.bool false : Value) = sp)))
theorem EanyI (sp : Value) (l1_ m : List Rq) (r : Rq) : vF prog msk (dm 0) 100000 true 40 true 135 [slQ 0 2 l1_.length,.func (.func 136) #[] #[.pointer (some ⟨1,0,none⟩)]] (readsT 0 [(l1_ ++ m).flatMap rqC,rqC r]) (some [])
 (.go 7 (.inv 3 (Nat) (0) [] [] (fun x0 => [(8,nI (x0 : Int)),(1,.func (.func 136) #[] #[.pointer (some ⟨1,0,none⟩)]),(0,slQ 0 2 l1_.length),(7,nI (jb5 l1_))]) (fun x0 => []) (fun x0 => []) (fun x0 => []) (fun x0 => (x0 <= List.length l1_ /\ List.any (l1_.take x0) (sameId r) = false)) (fun x0 => (List.length l1_ - x0)) (fun x0 => .go 0 (.fork (.go 4 (.need (.val (jb2 l1_ x0) (.go 8 (jb13 x0))))) (.auto)))))
 (fun v _ _ => v = sp) = RanyI sp l1_ m r:=by kernel_rfl
abbrev jb0 (f : Fleet) : Int:=(f.t.length : Nat)
abbrev jb1d : Value:=nI 2
abbrev jbf (f : Fleet) : Int:=(f.b.length : Nat)
abbrev jba : Value:=.pointer (some ⟨2,0,none⟩)
abbrev jbi (f : Fleet) : Prop:=jba = .pointer (some ⟨2,0,none⟩) /\ (.pointer (some ⟨3,0,none⟩) : Value) = .pointer (some ⟨3,0,none⟩) /\ wkR (slQ 0 2 f.t.length) /\ (nI (jb0 f) : Value) = nI (jb0 f) /\ True
abbrev jb4 (f : Fleet) : List Value:=[slQ 0 2 f.t.length,slQ 1 2 f.b.length]
abbrev jb18 (f : Fleet) : Prop:=((keptR 4 (.cells true 0 (jb4 f))) /\ (keptR 4 (.cells true 0 [nI (jb0 f)])) /\ True) /\ jbc
abbrev jb1q (x2 : Nat) (f : Fleet):=decide (((x2 : Int) : Int) < (jb0 f))
abbrev jb1t (f : Fleet) (x2 : Nat):=f.t.getD x2 []
abbrev jbb : Value:=nI 80
abbrev jb19 (f : Fleet):=f.b.flatMap intC
abbrev jb1m (f : Fleet):=List.any f.b (badA f.t.length)
def Rfl (sp : Value) (f : Fleet) : Prop :=
 ((True) /\ (∀ H' : Heap,H'.length = 4 -> (True) -> KCall prog 107 [nI (jb0 f),nI 1,nI 12] H' [] (Is (.bool (inB (jb0 f) 1 12)) H')) /\ (((!(inB (jb0 f) 1 12)) = true -> jb1d = sp) /\ ((!(inB (jb0 f) 1 12)) = false -> ((True) /\ (∀ H' : Heap,H'.length = 4 -> (True) -> KCall prog 107 [nI (jbf f),nI 1,nI 3] H' [] (Is (.bool (inB (jbf f) 1 3)) H')) /\ (((!(inB (jbf f) 1 3)) = true -> jb1d = sp) /\ ((!(inB (jbf f) 1 3)) = false -> (true = true /\ (0 <= List.length f.t /\ errUp (errRow f) 0 = 0) /\ (true = true /\ (jbd = nI jbt /\ jbi f) /\ jb18 f) /\ (∀ x2 : Nat,true = true) /\ ∀ x2 : Nat,(x2 <= List.length f.t /\ errUp (errRow f) x2 = 0) -> (((jb1q x2 f) = true -> (((0 : Int) <= (x2 : Int) /\ ((x2 : Int) : Int) < (jb0 f)) /\ (((inL f.t)[(0 + Int.toNat (x2 : Int) * 1)]? = some (.iface ((jb1t f x2).length + 1) (.agg ⟨((jb1t f x2).flatMap intC)⟩))) /\ (∃ y3 : Int,(nI (((jb1t f x2).length : Nat) : Int) : Value) = nI y3 /\ ((((y3 : Int) != (jb0 f)) = true -> jbb = sp) /\ (((y3 : Int) != (jb0 f)) = false -> (((0 : Int) <= (x2 : Int) /\ ((x2 : Int) : Int) < (((jb1t f x2).length : Nat) : Int)) /\ ((((jb1t f x2).flatMap intC)[(Int.toNat (x2 : Int) * 1)]? = some (nI ((jb1t f x2).getD x2 0))) /\ ((((((jb1t f x2).getD x2 0) : Int) != 0) = true -> jbb = sp) /\ (((((jb1t f x2).getD x2 0) : Int) != 0) = false -> ((True) /\ (∀ H' : Heap,H'.length = 4 -> (True) -> KCall prog 131 [.iface ((jb1t f x2).length + 1) (.agg ⟨((jb1t f x2).flatMap intC)⟩),.func (.func 132) #[] #[]] H' [] (Is (.bool (List.any (jb1t f x2) badT)) H')) /\ (((List.any (jb1t f x2) badT) = true -> jbb = sp) /\ ((List.any (jb1t f x2) badT) = false -> ((nI (IntKind.wrap .i64 ((x2 : Int) + 1)) : Value) = nI ((x2 : Int) + 1) /\ (∃ x2' : Nat,(x2' <= List.length f.t /\ errUp (errRow f) x2' = 0) /\ (List.length f.t - x2') < (List.length f.t - x2) /\ true = true /\ ((nI ((x2 : Int) + 1) : Value) = nI (x2' : Int) /\ jbi f) /\ jb18 f))))))))))))))) /\ ((jb1q x2 f) = false -> (((someR (.cells false 0 (jb19 f))) /\ (someR (.cells true 0 [nI (jb0 f)])) /\ True) /\ (∀ H' : Heap,H'.length = 4 -> (H'[1]? = some (.cells false 0 (jb19 f) : KObj) /\ H'[3]? = some (.cells true 0 [nI (jb0 f)] : KObj) /\ True) -> KCall prog 131 [slQ 1 2 f.b.length,.func (.func 133) #[] #[.pointer (some ⟨3,0,none⟩)]] H' [] (Is (.bool (jb1m f)) H')) /\ (((jb1m f) = true -> jbb = sp) /\ ((jb1m f) = false -> jbd = sp))))))))))))
abbrev jb1j (f : Fleet) : List Value:=[.agg #[slQ 0 2 f.t.length,slQ 1 2 f.b.length]]
abbrev jbx : Nat × Value:=(1,.pointer (some ⟨2,0,none⟩))
abbrev jb1n (f : Fleet) : Nat × Bool × KObj:=(2,true,.cells true 0 (jb4 f))
theorem Efl (sp : Value) (f : Fleet) : vF prog msk (dm 0) 100000 true 40 true 75 (jb1j f) (readsT 0 [inL f.t,f.b.flatMap intC]) (some [])
 (.go 7 (.ans [] (.bool (inB (jb0 f) 1 12)) [] (.go 1 (.gfork (.auto) (.go 2 (.ans [] (.bool (inB (jbf f) 1 3)) [] (.go 1 (.fork (.auto) (.go 3 (.inv 3 (Nat) (0) [] [2,3] (fun x2 => [(22,nI (x2 : Int)),jbx,(3,.pointer (some ⟨3,0,none⟩)),(20,slQ 0 2 f.t.length),(21,nI (jb0 f))]) (fun x2 => [(jb1n f),(3,true,.cells true 0 [nI (jb0 f)])]) (fun x2 => []) (fun x2 => []) (fun x2 => (x2 <= List.length f.t /\ errUp (errRow f) x2 = 0)) (fun x2 => (List.length f.t - x2)) (fun x2 => .go 0 (.fork (.go 0 (.need (.val (.iface ((jb1t f x2).length + 1) (.agg ⟨((jb1t f x2).flatMap intC)⟩)) (.go 3 (.bind Int (fun y3 => .slot 28 (nI y3) (.go 2 (.gfork (.auto) (.go 1 (.need (.val (nI ((jb1t f x2).getD x2 0)) (.go 2 (.gfork (.auto) (.go 0 (.ans [] (.bool (List.any (jb1t f x2) badT)) [] (.go 0 (.fork (.auto) (.go 0 (.slot 42 (nI ((x2 : Int) + 1)) jbk))))))))))))))))))) (.go 2 (.ans [(1,.cells false 0 (jb19 f)),(3,.cells true 0 [nI (jb0 f)])] (.bool (jb1m f)) [] jb16))))))))))))))
 (fun v _ _ => v = sp) = Rfl sp f:=by kernel_rfl
abbrev jby (f : Fleet) : Value:=nI (IntKind.wrap .i64 ((jb0 f) - 1))
abbrev jb1x (l1_ : List Rq):=decide ((30 : Int) < (jb5 l1_))
abbrev jbu (l1_ : List Rq) (f : Fleet) : Prop:=wkR (slQ 2 2 l1_.length) /\ (nI ((jb0 f) - 1) : Value) = nI ((jb0 f) - 1) /\ wkR (slQ 2 2 l1_.length) /\ (nI (jb5 l1_) : Value) = nI (jb5 l1_) /\ True
abbrev jbq (f : Fleet) : Prop:=((keptR 4 (.cells true 0 (jb4 f))) /\ True) /\ jbc
abbrev jbv (x0 : Nat) (l1_ : List Rq) (f : Fleet) : Prop:=x0 <= List.length l1_ /\ errUp (errRq1 f.t.length l1_) x0 = 0
abbrev jb12 (l1_ : List Rq) (x0 : Nat):=inB (jb1 l1_ x0).id 0 1000000
abbrev jb15 (l1_ : List Rq) (x0 : Nat):=inB (jb1 l1_ x0).at_ 0 10000
abbrev jbo (l1_ : List Rq) (x0 : Nat) (f : Fleet):=inB (jb1 l1_ x0).place 0 ((jb0 f) - 1)
abbrev jbs (l1_ : List Rq) (x0 : Nat) (f : Fleet):=inB (jb1 l1_ x0).dest 0 ((jb0 f) - 1)
abbrev jb1f (l1_ : List Rq) (x0 : Nat):=inB (jb1 l1_ x0).len 1 100
abbrev jb1l (l1_ : List Rq) (x0 : Nat):=inB (jb1 l1_ x0).prio 1 3
abbrev jbz (l1_ : List Rq) (x0 : Nat):=inB (jb1 l1_ x0).limit 0 10000
abbrev jb3 (l1_ : List Rq) (x0 : Nat) : List Value:=[nI (jb1 l1_ x0).id,nI (jb1 l1_ x0).at_,nI (jb1 l1_ x0).place,nI (jb1 l1_ x0).dest,nI (jb1 l1_ x0).len,nI (jb1 l1_ x0).prio,nI (jb1 l1_ x0).limit]
abbrev jb1k (l1_ : List Rq) (x0 : Nat):=List.any (l1_.take x0) (sameId (jb1 l1_ x0))
def Rrq (sp : Value) (f : Fleet) (l1_ : List Rq) : Prop :=
 (((jb1x l1_) = true -> jb1d = sp) /\ ((jb1x l1_) = false -> ((jby f) = nI ((jb0 f) - 1) /\ (true = true /\ (0 <= List.length l1_ /\ errUp (errRq1 f.t.length l1_) 0 = 0) /\ (true = true /\ (jbd = nI jbt /\ jbu l1_ f) /\ jbq f) /\ jbl /\ ∀ x0 : Nat,(jbv x0 l1_ f) -> (((jb1p x0 l1_) = true -> (((0 : Int) <= (x0 : Int) /\ (jbj x0) < (jb5 l1_)) /\ ((partA 7 (l1_.flatMap rqC) (0 + Int.toNat (x0 : Int) * 7) = some (jb2 l1_ x0)) /\ ((True) /\ (∀ H' : Heap,H'.length = 5 -> (True) -> KCall prog 107 [nI (jb1 l1_ x0).id,nI 0,nI 1000000] H' [] (Is (.bool (jb12 l1_ x0)) H')) /\ (((!(jb12 l1_ x0)) = true -> jbb = sp) /\ ((!(jb12 l1_ x0)) = false -> ((True) /\ (∀ H' : Heap,H'.length = 5 -> (True) -> KCall prog 107 [nI (jb1 l1_ x0).at_,nI 0,nI 10000] H' [] (Is (.bool (jb15 l1_ x0)) H')) /\ (((!(jb15 l1_ x0)) = true -> jbb = sp) /\ ((!(jb15 l1_ x0)) = false -> ((True) /\ (∀ H' : Heap,H'.length = 5 -> (True) -> KCall prog 107 [nI (jb1 l1_ x0).place,nI 0,nI ((jb0 f) - 1)] H' [] (Is (.bool (jbo l1_ x0 f)) H')) /\ (((!(jbo l1_ x0 f)) = true -> jbb = sp) /\ ((!(jbo l1_ x0 f)) = false -> ((True) /\ (∀ H' : Heap,H'.length = 5 -> (True) -> KCall prog 107 [nI (jb1 l1_ x0).dest,nI 0,nI ((jb0 f) - 1)] H' [] (Is (.bool (jbs l1_ x0 f)) H')) /\ (((!(jbs l1_ x0 f)) = true -> jbb = sp) /\ ((!(jbs l1_ x0 f)) = false -> ((True) /\ (∀ H' : Heap,H'.length = 5 -> (True) -> KCall prog 107 [nI (jb1 l1_ x0).len,nI 1,nI 100] H' [] (Is (.bool (jb1f l1_ x0)) H')) /\ (((!(jb1f l1_ x0)) = true -> jbb = sp) /\ ((!(jb1f l1_ x0)) = false -> ((True) /\ (∀ H' : Heap,H'.length = 5 -> (True) -> KCall prog 107 [nI (jb1 l1_ x0).prio,nI 1,nI 3] H' [] (Is (.bool (jb1l l1_ x0)) H')) /\ (((!(jb1l l1_ x0)) = true -> jbb = sp) /\ ((!(jb1l l1_ x0)) = false -> ((True) /\ (∀ H' : Heap,H'.length = 5 -> (True) -> KCall prog 107 [nI (jb1 l1_ x0).limit,nI 0,nI 10000] H' [] (Is (.bool (jbz l1_ x0)) H')) /\ (((!(jbz l1_ x0)) = true -> jbb = sp) /\ ((!(jbz l1_ x0)) = false -> ((((false = false ∨ 0 = 0 ∨ 0 = 7) /\ (x0 : Int).toNat <= l1_.length) /\ ((0 : Int) <= (x0 : Int) /\ (jbj x0) <= (jb5 l1_)) /\ (0 <= (x0 : Int).toNat)) /\ ((slQ 2 2 ((x0 : Int).toNat - 0) : Value) = slQ 2 2 x0 /\ (((someR (.cells false 0 (l1_.flatMap rqC))) /\ (someR (.cells true 0 (jb3 l1_ x0))) /\ True) /\ (∀ H' : Heap,H'.length = 5 -> (H'[2]? = some (.cells false 0 (l1_.flatMap rqC) : KObj) /\ H'[4]? = some (.cells true 0 (jb3 l1_ x0) : KObj) /\ True) -> KCall prog 135 [slQ 2 2 x0,.func (.func 136) #[] #[.pointer (some ⟨4,0,none⟩)]] H' [] (Is (.bool (jb1k l1_ x0)) H')) /\ (((jb1k l1_ x0) = true -> (nI 10 : Value) = sp) /\ ((jb1k l1_ x0) = false -> ((jbe x0) = nI ((x0 : Int) + 1) /\ (∃ x0' : Nat,(x0' <= List.length l1_ /\ errUp (errRq1 f.t.length l1_) x0' = 0) /\ (List.length l1_ - x0') < (List.length l1_ - x0) /\ true = true /\ ((jb14 x0) = nI (x0' : Int) /\ jbu l1_ f) /\ jbq f))))))))))))))))))))))))))))))) /\ ((jb1p x0 l1_) = false -> jbd = sp))))))
abbrev jbn (f : Fleet) (l1_ : List Rq) : List Value:=[.agg #[slQ 0 2 f.t.length,slQ 1 2 f.b.length],slQ 2 2 l1_.length]
abbrev jb1u (f : Fleet) (l1_ : List Rq):=readsT 0 [inL f.t,f.b.flatMap intC,l1_.flatMap rqC]
theorem Erq (sp : Value) (f : Fleet) (l1_ : List Rq) : vF prog msk (dm 0) 100000 true 40 true 77 (jbn f l1_) (jb1u f l1_) (some [])
 (.go 4 (.fork (.auto) (.go 3 (.slot 14 (nI ((jb0 f) - 1)) (.go 3 (.inv 3 (Nat) (0) [] [3] (fun x0 => [(17,nI (x0 : Int)),(1,slQ 2 2 l1_.length),(5,nI ((jb0 f) - 1)),(15,slQ 2 2 l1_.length),(16,nI (jb5 l1_))]) (fun x0 => [(3,true,.cells true 0 (jb4 f))]) (fun x0 => []) (fun x0 => []) (fun x0 => (jbv x0 l1_ f)) (fun x0 => (List.length l1_ - x0)) (fun x0 => .go 0 (.fork (.go 0 (.need (.val (jb2 l1_ x0) (.go 4 (.ans [] (.bool (jb12 l1_ x0)) [] (.go 1 (.gfork (.auto) (.go 1 (.ans [] (.bool (jb15 l1_ x0)) [] (.go 2 (.gfork (.auto) (.go 2 (.ans [] (.bool (jbo l1_ x0 f)) [] (.go 2 (.gfork (.auto) (.go 2 (.ans [] (.bool (jbs l1_ x0 f)) [] (.go 2 (.gfork (.auto) (.go 1 (.ans [] (.bool (jb1f l1_ x0)) [] (.go 2 (.gfork (.auto) (.go 1 (.ans [] (.bool (jb1l l1_ x0)) [] (.go 2 (.gfork (.auto) (.go 1 (.ans [] (.bool (jbz l1_ x0)) [] (.go 1 (.fork (.auto) (.go 1 (.need (.slot 66 (slQ 2 2 x0) (.go 0 (.ans [(2,.cells false 0 (l1_.flatMap rqC)),(4,.cells true 0 (jb3 l1_ x0))] (.bool (jb1k l1_ x0)) [] (.fork (.auto) (.go 0 (.slot 69 (nI ((x0 : Int) + 1)) jbk))))))))))))))))))))))))))))))))))))))) (.auto)))))))))
 (fun v _ _ => v = sp) = Rrq sp f l1_:=by kernel_rfl
end
end Go.Proofs.YthdekmpkioikdaaGreat
/- Request: what is wrong with fleets, requests, policies and premises. No condition. -/
namespace Go.Proofs.YthdekmpkioikdaaGreat
open Go Go.K
set_option maxRecDepth 100000
set_option linter.unusedVariables false
set_option linter.unusedSimpArgs false
noncomputable section
attribute [local irreducible] vF
theorem dec0 (x : Nat) : decide ((0 : Int) <= (x : Int)) = true := decide_eq_true (by omega)
theorem kAnyT (l : List Int) (hl : l.length <= 4294967296) (H : Heap) : KCall prog 131 [inV l, .func (.func 132) #[] #[]] H [] (Is (.bool (l.any badT)) H) := by
 refine valK 40 (fun σ => by have := inV_rn σ 2 l; show [rn σ (2 + 3) (inV l), _] = _; rw [this]; rfl) rfl (Eq.mpr (EanyT _ l) ?_) H
 delta RanyT jbd jbt jb6 jb8 jbp jbc jb1b jbl jbj jb1g jbe jb14
 refine ⟨rfl, ⟨Nat.zero_le _, rfl⟩, ?_, fun _ => rfl, ?_⟩
 ·repeat' first | exact inL_b _ _ | exact plainIL _ _ | exact plainRQ _ _ | exact (inV_rn _ 0 _).symm | exact wk_QR | exact trivial | exact rfl | exact wk_refl _ | exact wk_nil _ _ _ (.inl rfl) | (exact wk_Q (by omega)) | refine wk_tupL ?_ | refine wk_aggL ?_ | refine ⟨rfl, ?_⟩ | refine ⟨trivial, ?_⟩ | (refine forkD (fun h => ?_) (fun h => ?_)) | (refine forkNe (fun h => ?_) (fun h => ?_)) | (refine forkEq (fun h => ?_) (fun h => ?_)) | refine forkNot ?_ | (refine ⟨vI64 (by omega), ?_⟩) | (refine And.intro (by omega) ?_) | apply And.intro | (exact iEq (by omega)) | (exact vI64 (by omega))
 rintro x ⟨hx, hs⟩
 refine forkD (fun k => ?_) (fun k => bEq (any_end (by omega) hs).symm)
 have hlt : x < l.length := by omega
 refine ⟨by omega, intAt hlt (by omega), trivial, fun H' _ _ => kIn _ _ _ H', forkB (fun h => bEq ((dec0 x).trans (any_at (d := 0) hlt h).symm)) (fun h => ⟨vI64 (by omega), x + 1, ⟨by omega, any_snoc (d := 0) hlt hs h⟩, by omega, rfl, ?_⟩)⟩
 repeat' first | exact inL_b _ _ | exact plainIL _ _ | exact plainRQ _ _ | exact (inV_rn _ 0 _).symm | exact wk_QR | exact trivial | exact rfl | exact wk_refl _ | exact wk_nil _ _ _ (.inl rfl) | (exact wk_Q (by omega)) | refine wk_tupL ?_ | refine wk_aggL ?_ | refine ⟨rfl, ?_⟩ | refine ⟨trivial, ?_⟩ | (refine forkD (fun h => ?_) (fun h => ?_)) | (refine forkNe (fun h => ?_) (fun h => ?_)) | (refine forkEq (fun h => ?_) (fun h => ?_)) | refine forkNot ?_ | (refine ⟨vI64 (by omega), ?_⟩) | (refine And.intro (by omega) ?_) | apply And.intro | (exact iEq (by omega)) | (exact vI64 (by omega))
theorem kAnyA (l : List Int) (n : Nat) (hl : l.length <= 4294967296) (hn : n <= 4294967296) {H : Heap} {i0 i1 : Nat} {o0 o1 : Bool} {z0 z1 : Nat} (e0 : H[i0]? = some (.cells o0 z0 (l.flatMap intC))) (e1 : H[i1]? = some (.cells o1 z1 [nI (n : Int)])) :
  KCall prog 131 [.slice (some ⟨i0, 0, some 2⟩) l.length l.length, .func (.func 133) #[] #[.pointer (some ⟨i1, 0, none⟩)]] H [] (Is (.bool (l.any (badA n))) H) := by
 refine valRx (Eq.mpr (EanyA _ l n) ?_) ⟨plainIL 0 _, rfl, trivial⟩ rfl (ids := [i0, i1]) ⟨⟨_, _, e0⟩, ⟨_, _, e1⟩, trivial⟩ rfl
 delta RanyA jbd jbt jb8 jbh jbc jb1b jbl jbj jb1r jb1g jbe jb14
 refine ⟨rfl, ⟨Nat.zero_le _, rfl⟩, ?_, fun _ => rfl, ?_⟩
 ·repeat' first | exact inL_b _ _ | exact plainIL _ _ | exact plainRQ _ _ | exact (inV_rn _ 0 _).symm | exact wk_QR | exact trivial | exact rfl | exact wk_refl _ | exact wk_nil _ _ _ (.inl rfl) | (exact wk_Q (by omega)) | refine wk_tupL ?_ | refine wk_aggL ?_ | refine ⟨rfl, ?_⟩ | refine ⟨trivial, ?_⟩ | (refine forkD (fun h => ?_) (fun h => ?_)) | (refine forkNe (fun h => ?_) (fun h => ?_)) | (refine forkEq (fun h => ?_) (fun h => ?_)) | refine forkNot ?_ | (refine ⟨vI64 (by omega), ?_⟩) | (refine And.intro (by omega) ?_) | apply And.intro | (exact iEq (by omega)) | (exact vI64 (by omega))
 rintro x ⟨hx, hs⟩
 refine forkD (fun k => ?_) (fun k => bEq (any_end (by omega) hs).symm)
 have hlt : x < l.length := by omega
 refine ⟨by omega, intAt hlt (by omega), vI64 (by omega), trivial, fun H' _ _ => kIn _ _ _ H', forkB (fun h => bEq ((dec0 x).trans (any_at (d := 0) hlt h).symm)) (fun h => ⟨vI64 (by omega), x + 1, ⟨by omega, any_snoc (d := 0) hlt hs h⟩, by omega, rfl, ?_⟩)⟩
 repeat' first | exact plainIL _ _ | exact wk_QR | exact trivial | exact rfl | exact wk_refl _ | (exact wk_Q (by omega)) | apply And.intro | (exact iEq (by omega))
theorem partQL {l m : List Rq} {k : Nat} (h : k < l.length) {off : Nat} (ho : off = k * 7) : partA 7 ((l ++ m).flatMap rqC) off = some (.agg ⟨rqC (l.getD k zeroQ)⟩) := by
 have := partQ (l := l ++ m) (k := k) (by rw [List.length_append]; omega) ho
 rw [this, List.getD_eq_getElem?_getD, List.getElem?_append_left h, <- List.getD_eq_getElem?_getD]
theorem sameId_1 {r x : Rq} (h : x.id = r.id) : sameId r x = true := decide_eq_true h
theorem sameId_0 {r x : Rq} (h : x.id ≠ r.id) : sameId r x = false := decide_eq_false h
theorem kAnyI (l m : List Rq) (r : Rq) (hl : l.length <= 4294967296) {H : Heap} {i0 i1 : Nat} {o0 o1 : Bool} {z0 z1 : Nat} (e0 : H[i0]? = some (.cells o0 z0 ((l ++ m).flatMap rqC))) (e1 : H[i1]? = some (.cells o1 z1 (rqC r))) :
  KCall prog 135 [.slice (some ⟨i0, 0, some 2⟩) l.length l.length, .func (.func 136) #[] #[.pointer (some ⟨i1, 0, none⟩)]] H [] (Is (.bool (l.any (sameId r))) H) := by
 refine valRx (Eq.mpr (EanyI _ l m r) ?_) ⟨plainRQ 0 _, rfl, trivial⟩ rfl (ids := [i0, i1]) ⟨⟨_, _, e0⟩, ⟨_, _, e1⟩, trivial⟩ rfl
 delta RanyI jbd jbt jb5 jbg jbc jb1b jbl jbj jb1p jb1 jb2 jb1g jbe jb14
 refine ⟨rfl, ⟨Nat.zero_le _, rfl⟩, ?_, fun _ => rfl, ?_⟩
 ·repeat' first | exact plainIL _ _ | exact wk_QR | exact trivial | exact rfl | exact wk_refl _ | (exact wk_Q (by omega)) | apply And.intro | (exact iEq (by omega))
 rintro x ⟨hx, hs⟩
 refine forkD (fun k => ?_) (fun k => bEq (any_end (by omega) hs).symm)
 have hlt : x < l.length := by omega
 refine ⟨by omega, partQL hlt (by omega), forkEq (fun h => bEq ((dec0 x).trans (any_at (d := zeroQ) hlt (sameId_1 h)).symm)) (fun h => ⟨vI64 (by omega), x + 1, ⟨by omega, any_snoc (d := zeroQ) hlt hs (sameId_0 h)⟩, by omega, rfl, ?_⟩)⟩
 repeat' first | exact plainIL _ _ | exact wk_QR | exact trivial | exact rfl | exact wk_refl _ | (exact wk_Q (by omega)) | apply And.intro | (exact iEq (by omega))
theorem bad0 {b : Bool} (h : (!b) = false) : b = true := by cases b <;> first | rfl | cases h
theorem errPol_1 {p : Pol} (h : (!inB p.ov 0 30 || !inB p.warn 0 10000 || [p.w0, p.w1, p.w2].any badW) = true) : (81 : Int) = errPol p := (if_pos h).symm
theorem errPol_0 {p : Pol} (h1 : (!inB p.ov 0 30) = false) (h2 : (!inB p.warn 0 10000) = false) (h3 : (!inB p.w0 0 100) = false) (h4 : (!inB p.w1 0 100) = false) (h5 : (!inB p.w2 0 100) = false) : (0 : Int) = errPol p :=
 (if_neg (by simp only [List.any_cons, List.any_nil, badW, h1, h2, h3, h4, h5]; decide)).symm
theorem kPol (p : Pol) (H : Heap) : KCall prog 76 [.agg ⟨polC p⟩] H [] (Is (.int .i64 (errPol p)) H) := by
 refine valK 40 (fun σ => rfl) rfl (Eq.mpr (Epol _ p) ?_) H
 delta Rpol jbw jb1c jbd jb1v
 refine ⟨trivial, fun H' _ _ => kIn _ _ _ H', forkB (fun h => iEq (errPol_1 (by simp only [h, Bool.true_or]))) (fun h1 => ⟨trivial, fun H' _ _ => kIn _ _ _ H', forkB (fun h => iEq (errPol_1 (by simp only [h, Bool.true_or, Bool.or_true]))) (fun h2 => ⟨trivial, fun H' _ _ => kIn _ _ _ H', forkB (fun h => iEq (errPol_1 (by simp only [List.any_cons, badW, h, Bool.true_or, Bool.or_true]))) (fun h3 =>
  ⟨trivial, fun H' _ _ => kIn _ _ _ H', forkB (fun h => iEq (errPol_1 (by simp only [List.any_cons, badW, h, Bool.true_or, Bool.or_true]))) (fun h4 => ⟨trivial, fun H' _ _ => kIn _ _ _ H', forkB (fun h => iEq (errPol_1 (by simp only [List.any_cons, badW, h, Bool.true_or, Bool.or_true]))) (fun h5 => iEq (errPol_0 h1 h2 h3 h4 h5))⟩)⟩)⟩)⟩)⟩
theorem row_1 {n i : Nat} {row : List Int} (h : ((row.length : Nat) : Int) ≠ (n : Int)) : badRow n i row = true := by
 unfold badRow; rw [decide_eq_true (show row.length ≠ n by omega)]; rfl
theorem row_2 {n i : Nat} {row : List Int} (h : row.getD i 0 ≠ 0) : badRow n i row = true := by
 unfold badRow; rw [decide_eq_true h, Bool.or_true]; rfl
theorem row_3 {n i : Nat} {row : List Int} (h : row.any badT = true) : badRow n i row = true := by
 unfold badRow; rw [h, Bool.or_true]
theorem row_0 {n i : Nat} {row : List Int} (h1 : ((row.length : Nat) : Int) = (n : Int)) (h2 : row.getD i 0 = 0) (h3 : row.any badT = false) : badRow n i row = false := by
 unfold badRow; rw [h3, decide_eq_false (fun k => k (by omega)), decide_eq_false (fun k => k h2)]; rfl
theorem errRow_1 {f : Fleet} {i : Nat} (h : badRow f.t.length i (f.t.getD i []) = true) : errRow f i = 80 := if_pos h
theorem errRow_0 {f : Fleet} {i : Nat} (h : badRow f.t.length i (f.t.getD i []) = false) : errRow f i = 0 := if_neg (by rw [h]; decide)
theorem errFl_1 {f : Fleet} (h : (!inB (f.t.length : Int) 1 12) = true) : (2 : Int) = errFl f := (if_pos (.inl h)).symm
theorem errFl_2 {f : Fleet} (h : (!inB (f.b.length : Int) 1 3) = true) : (2 : Int) = errFl f := (if_pos (.inr h)).symm
theorem errFl_3 {f : Fleet} (h1 : (!inB (f.t.length : Int) 1 12) = false) (h2 : (!inB (f.b.length : Int) 1 3) = false) {x : Nat} (hx : x < f.t.length) (hs : errUp (errRow f) x = 0) (h : badRow f.t.length x (f.t.getD x []) = true) : (80 : Int) = errFl f := by
 unfold errFl
 rw [if_neg (by rw [h1, h2]; decide), errUp_at hs (by rw [errRow_1 h]; decide) hx, errRow_1 h]; rfl
theorem errFl_4 {f : Fleet} (h1 : (!inB (f.t.length : Int) 1 12) = false) (h2 : (!inB (f.b.length : Int) 1 3) = false) (hs : errUp (errRow f) f.t.length = 0) (h : f.b.any (badA f.t.length) = true) : (80 : Int) = errFl f := by
 unfold errFl
 rw [if_neg (by rw [h1, h2]; decide), hs, if_pos h]; rfl
theorem errFl_0 {f : Fleet} (h1 : (!inB (f.t.length : Int) 1 12) = false) (h2 : (!inB (f.b.length : Int) 1 3) = false) (hs : errUp (errRow f) f.t.length = 0) (h : f.b.any (badA f.t.length) = false) : (0 : Int) = errFl f := by
 unfold errFl
 rw [if_neg (by rw [h1, h2]; decide), hs, if_neg (by rw [h]; decide)]; rfl
theorem kFl (f : Fleet) (ht : f.t.length <= 4294967296) (hb : f.b.length <= 4294967296) (hs : shortI f.t) {H : Heap} {i0 i1 : Nat} {o0 o1 : Bool} {z0 z1 : Nat} (e0 : H[i0]? = some (.cells o0 z0 (inL f.t))) (e1 : H[i1]? = some (.cells o1 z1 (f.b.flatMap intC))) :
  KCall prog 75 [fleetV f i0 i1] H [] (Is (.int .i64 (errFl f)) H) := by
 refine valRx (Eq.mpr (Efl _ f) ?_) ⟨inL_b 0 _, plainIL 0 _, trivial⟩ rfl (ids := [i0, i1]) ⟨⟨_, _, e0⟩, ⟨_, _, e1⟩, trivial⟩ rfl
 delta Rfl jb0 jb1d jbf jbd jbt jba jbi jb4 jbc jb18 jb1q jb1t jbb jb19 jb1m
 refine ⟨trivial, fun H' _ _ => kIn _ _ _ H', forkB (fun h => iEq (errFl_1 h)) (fun h1 => ⟨trivial, fun H' _ _ => kIn _ _ _ H', forkB (fun h => iEq (errFl_2 h)) (fun h2 => ⟨rfl, ⟨Nat.zero_le _, rfl⟩, ?_, fun _ => rfl, ?_⟩)⟩)⟩
 ·repeat' first | exact plainIL _ _ | exact wk_QR | exact trivial | exact rfl | exact wk_refl _ | (exact wk_Q (by omega)) | apply And.intro | (exact iEq (by omega))
 rintro x ⟨hx, hu⟩
 refine forkD (fun k => ?_) (fun k => ?_)
 ·have hlt : x < f.t.length := by omega
  refine ⟨by omega, inL_at hlt (by omega), _, rfl, forkNe (fun h => iEq (errFl_3 h1 h2 hlt hu (row_1 h))) (fun h3 => ?_)⟩
  have hr : x < (f.t.getD x []).length := by omega
  refine ⟨by omega, intAt hr (by omega), forkNe (fun h => iEq (errFl_3 h1 h2 hlt hu (row_2 h))) (fun h4 => ⟨trivial, fun H' _ _ => kAnyT _ (hs x hlt) H', forkB (fun h => iEq (errFl_3 h1 h2 hlt hu (row_3 h))) (fun h5 => ⟨vI64 (by omega), x + 1, ⟨by omega, errUp_succ hu (errRow_0 (row_0 h3 h4 h5))⟩, by omega, rfl, ?_⟩)⟩)⟩
  repeat' first | exact plainIL _ _ | exact wk_QR | exact trivial | exact rfl | exact wk_refl _ | (exact wk_Q (by omega)) | apply And.intro | (exact iEq (by omega))
 ·obtain rfl : x = f.t.length := by omega
  exact ⟨⟨rfl, rfl, trivial⟩, fun H' _ hd => kAnyA f.b _ hb ht hd.1 hd.2.1, forkB (fun h => iEq (errFl_4 h1 h2 hu h)) (fun h => iEq (errFl_0 h1 h2 hu h))⟩
end
end Go.Proofs.YthdekmpkioikdaaGreat
/- Request: what is wrong with requests; the greatest number. No condition. -/
namespace Go.Proofs.YthdekmpkioikdaaGreat
open Go Go.K
set_option maxRecDepth 100000
set_option linter.unusedVariables false
set_option linter.unusedSimpArgs false
noncomputable section
attribute [local irreducible] vF
theorem errRq_2 {n : Nat} {l : List Rq} (h : (30 : Int) < (l.length : Int)) : (2 : Int) = errRq n l := (if_pos (by omega)).symm
theorem errRq1_1 {n : Nat} {l : List Rq} {x : Nat} (h : badRq n (l.getD x zeroQ) = true) : errRq1 n l x = 80 := if_pos h
theorem errRq1_2 {n : Nat} {l : List Rq} {x : Nat} (h : badRq n (l.getD x zeroQ) = false) (h2 : (l.take x).any (sameId (l.getD x zeroQ)) = true) : errRq1 n l x = 10 := by
 unfold errRq1; rw [if_neg (by rw [h]; decide), if_pos h2]
theorem errRq1_0 {n : Nat} {l : List Rq} {x : Nat} (h : badRq n (l.getD x zeroQ) = false) (h2 : (l.take x).any (sameId (l.getD x zeroQ)) = false) : errRq1 n l x = 0 := by
 unfold errRq1; rw [if_neg (by rw [h]; decide), if_neg (by rw [h2]; decide)]
theorem errRq_e {n : Nat} {l : List Rq} (h0 : ¬ (30 : Int) < (l.length : Int)) {x : Nat} (hx : x < l.length) (hu : errUp (errRq1 n l) x = 0) {e : Int} (he : errRq1 n l x = e) (hne : e ≠ 0) : e = errRq n l := by
 unfold errRq
 rw [if_neg (by omega), errUp_at hu (by rw [he]; exact hne) hx, he]
theorem errRq_0 {n : Nat} {l : List Rq} (h0 : ¬ (30 : Int) < (l.length : Int)) (hu : errUp (errRq1 n l) l.length = 0) : (0 : Int) = errRq n l := by
 unfold errRq
 rw [if_neg (by omega), hu]
theorem badRq_0 {n : Nat} {r : Rq} (h1 : (!inB r.id 0 1000000) = false) (h2 : (!inB r.at_ 0 10000) = false) (h3 : (!inB r.place 0 ((n : Int) - 1)) = false) (h4 : (!inB r.dest 0 ((n : Int) - 1)) = false) (h5 : (!inB r.len 1 100) = false) (h6 : (!inB r.prio 1 3) = false) (h7 : (!inB r.limit 0 10000) = false) : badRq n r = false := by
 unfold badRq; rw [h1, h2, h3, h4, h5, h6, h7]; rfl
theorem kRq (f : Fleet) (l : List Rq) (ht : f.t.length <= 4294967296) {H : Heap} {i0 i1 i2 : Nat} {o0 o1 o2 : Bool} {z0 z1 z2 : Nat} (e0 : H[i0]? = some (.cells o0 z0 (inL f.t))) (e1 : H[i1]? = some (.cells o1 z1 (f.b.flatMap intC))) (e2 : H[i2]? = some (.cells o2 z2 (l.flatMap rqC))) :
  KCall prog 77 [fleetV f i0 i1, .slice (some ⟨i2, 0, some 2⟩) l.length l.length] H [] (Is (.int .i64 (errRq f.t.length l)) H) := by
 refine valRx (Eq.mpr (Erq _ f l) ?_) ⟨inL_b 0 _, plainIL 0 _, plainRQ 0 _, trivial⟩ rfl (ids := [i0, i1, i2]) ⟨⟨_, _, e0⟩, ⟨_, _, e1⟩, ⟨_, _, e2⟩, trivial⟩ rfl
 delta Rrq jb5 jb1x jb1d jb0 jby jbd jbt jbu jb4 jbc jbq jbl jbv jbj jb1p jb1 jb2 jb12 jbb jb15 jbo jbs jb1f jb1l jbz jb3 jb1k jbe jb14
 refine forkD (fun h => iEq (errRq_2 h)) (fun h0 => ⟨vI64 (by omega), rfl, ⟨Nat.zero_le _, rfl⟩, ?_, fun _ => rfl, ?_⟩)
 ·repeat' first | exact plainIL _ _ | exact wk_QR | exact trivial | exact rfl | exact wk_refl _ | (exact wk_Q (by omega)) | apply And.intro | (exact iEq (by omega))
 rintro x ⟨hx, hu⟩
 refine forkD (fun k => ?_) (fun k => ?_)
 ·have hlt : x < l.length := by omega
  refine ⟨by omega, partQ hlt (by omega), trivial, fun H' _ _ => kIn _ _ _ H', forkB (fun h => ?_) (fun h1 => ⟨trivial, fun H' _ _ => kIn _ _ _ H', forkB (fun h => ?_) (fun h2 => ⟨trivial, fun H' _ _ => kIn _ _ _ H', forkB (fun h => ?_) (fun h3 => ⟨trivial, fun H' _ _ => kIn _ _ _ H', forkB (fun h => ?_) (fun h4 =>
   ⟨trivial, fun H' _ _ => kIn _ _ _ H', forkB (fun h => ?_) (fun h5 => ⟨trivial, fun H' _ _ => kIn _ _ _ H', forkB (fun h => ?_) (fun h6 => ⟨trivial, fun H' _ _ => kIn _ _ _ H', forkB (fun h => ?_) (fun h7 => ?_)⟩)⟩)⟩)⟩)⟩)⟩)⟩
  all_goals first | (exact iEq (errRq_e h0 hlt hu (errRq1_1 (by unfold badRq; simp only [h, Bool.true_or, Bool.or_true])) (by decide))) | skip
  have hb := badRq_0 h1 h2 h3 h4 h5 h6 h7
  refine ⟨⟨⟨.inl rfl, by omega⟩, by omega, Nat.zero_le _⟩, rfl, ⟨rfl, rfl, trivial⟩, fun H' _ hd => ?_, forkB (fun h => iEq (errRq_e h0 hlt hu (errRq1_2 hb h) (by decide))) (fun h => ⟨vI64 (by omega), x + 1, ⟨by omega, errUp_succ hu (errRq1_0 hb h)⟩, by omega, rfl, ?_⟩)⟩
  ·have key := kAnyI (l.take x) (l.drop x) (l.getD x zeroQ) (by rw [take_len hx]; omega) (by rw [List.take_append_drop]; exact hd.1) hd.2.1
   rw [take_len hx] at key; exact key
  ·repeat' first | exact plainIL _ _ | exact wk_QR | exact trivial | exact rfl | exact wk_refl _ | (exact wk_Q (by omega)) | apply And.intro | (exact iEq (by omega))
 ·obtain rfl : x = l.length := by omega
  exact iEq (errRq_0 h0 hu)
end
end Go.Proofs.YthdekmpkioikdaaGreat
/- Request: plain laws of premises, fleets and requests. No condition. -/
namespace Go.Proofs.YthdekmpkioikdaaGreat
set_option linter.unusedSimpArgs false
open Go Go.K
set_option linter.unusedVariables false
noncomputable section
theorem first2_0 {a b : Int} (h : first2 a b = 0) : a = 0 /\ b = 0 := by
 unfold first2 at h; split at h
 ·rename_i k; exact ⟨k, h⟩
 ·rename_i k; exact absurd h k
structure FlOk (f : Fleet) : Prop where
 n1 : 1 <= f.t.length
 n2 : f.t.length <= 12
 b1 : 1 <= f.b.length
 b2 : f.b.length <= 3
 row : ∀ k, k < f.t.length -> (f.t.getD k []).length = f.t.length
 el : ∀ k j, k < f.t.length -> 0 <= (f.t.getD k []).getD j 0 /\ (f.t.getD k []).getD j 0 <= 100
 br : ∀ k, k < f.b.length -> 0 <= f.b.getD k 0 /\ f.b.getD k 0 <= (f.t.length : Int) - 1
theorem any_no {α : Type} {l : List α} {d : α} {p : α -> Bool} (h : l.any p = false) {k : Nat} (hk : k < l.length) : p (l.getD k d) = false := by
 have := List.any_eq_false.1 h _ (getD_mem (d := d) hk)
 cases hp : p (l.getD k d) with
 | false => rfl
 | true => exact absurd hp this
theorem flOk {f : Fleet} (h : errFl f = 0) : FlOk f := by
 unfold errFl at h
 split at h
 ·cases h
 ·rename_i h0
  obtain ⟨h1, h2⟩ := first2_0 h
  have a1 : inB (f.t.length : Int) 1 12 = true := by
   cases hb : inB (f.t.length : Int) 1 12 with
   | true => rfl
   | false => exact absurd (.inl (by rw [hb]; rfl)) h0
  have a2 : inB (f.b.length : Int) 1 3 = true := by
   cases hb : inB (f.b.length : Int) 1 3 with
   | true => rfl
   | false => exact absurd (.inr (by rw [hb]; rfl)) h0
  have b1 := inB_2 a1
  have b2 := inB_2 a2
  have hr : ∀ k, k < f.t.length -> badRow f.t.length k (f.t.getD k []) = false := by
   intro k hk
   have := errUp_all h1 k hk
   unfold errRow at this
   split at this
   ·cases this
   ·rename_i hb; cases hc : badRow f.t.length k (f.t.getD k []) with
    | false => rfl
    | true => exact absurd hc hb
  have hlen : ∀ k, k < f.t.length -> (f.t.getD k []).length = f.t.length := by
   intro k hk
   have := hr k hk
   unfold badRow at this
   rw [Bool.or_eq_false_iff, Bool.or_eq_false_iff] at this
   have := of_decide_eq_false this.1.1
   omega
  refine ⟨by omega, by omega, by omega, by omega, hlen, fun k j hk => ?_, fun k hk => ?_⟩
  ·by_cases hj : j < (f.t.getD k []).length
   ·have := hr k hk
    unfold badRow at this
    rw [Bool.or_eq_false_iff] at this
    have h3 := any_no (d := 0) this.2 hj
    exact inB_2 (bad0 h3)
   ·rw [List.getD_eq_getElem?_getD, List.getElem?_eq_none (by omega)]; decide
  ·have hb : f.b.any (badA f.t.length) = false := by
    cases hc : f.b.any (badA f.t.length) with
    | false => rfl
    | true => rw [if_pos hc] at h2; cases h2
   exact inB_2 (bad0 (any_no (d := 0) hb hk))
structure RqOk (n : Nat) (r : Rq) : Prop where
 id : 0 <= r.id /\ r.id <= 1000000
 at_ : 0 <= r.at_ /\ r.at_ <= 10000
 place : 0 <= r.place /\ r.place <= (n : Int) - 1
 dest : 0 <= r.dest /\ r.dest <= (n : Int) - 1
 len : 1 <= r.len /\ r.len <= 100
 prio : 1 <= r.prio /\ r.prio <= 3
 limit : 0 <= r.limit /\ r.limit <= 10000
theorem rqOk {n : Nat} {r : Rq} (h : badRq n r = false) : RqOk n r := by
 unfold badRq at h
 simp only [Bool.or_eq_false_iff] at h
 obtain ⟨⟨⟨⟨⟨⟨h1, h2⟩, h3⟩, h4⟩, h5⟩, h6⟩, h7⟩ := h
 exact ⟨inB_2 (bad0 h1), inB_2 (bad0 h2), inB_2 (bad0 h3), inB_2 (bad0 h4), inB_2 (bad0 h5), inB_2 (bad0 h6), inB_2 (bad0 h7)⟩
structure LsOk (n : Nat) (l : List Rq) : Prop where
 len : l.length <= 30
 ok : ∀ k, k < l.length -> RqOk n (l.getD k zeroQ)
 ne : ∀ k j, k < l.length -> j < k -> (l.getD j zeroQ).id ≠ (l.getD k zeroQ).id
theorem lsOk {n : Nat} {l : List Rq} (h : errRq n l = 0) : LsOk n l := by
 unfold errRq at h
 split at h
 ·cases h
 ·have hb : ∀ k, k < l.length -> badRq n (l.getD k zeroQ) = false /\ (l.take k).any (sameId (l.getD k zeroQ)) = false := by
   intro k hk
   have := errUp_all h k hk
   unfold errRq1 at this
   split at this
   ·cases this
   ·rename_i h1
    split at this
    ·cases this
    ·rename_i h2
     refine ⟨?_, ?_⟩
     ·cases hc : badRq n (l.getD k zeroQ) with
      | false => rfl
      | true => exact absurd hc h1
     ·cases hc : (l.take k).any (sameId (l.getD k zeroQ)) with
      | false => rfl
      | true => exact absurd hc h2
  refine ⟨by omega, fun k hk => rqOk (hb k hk).1, fun k j hk hj => ?_⟩
  have hjt : j < (l.take k).length := by rw [take_len (by omega)]; exact hj
  have := any_no (d := zeroQ) (hb k hk).2 hjt
  have hg : (l.take k).getD j zeroQ = l.getD j zeroQ := by rw [List.getD_eq_getElem?_getD, List.getElem?_take, if_pos (by omega), <- List.getD_eq_getElem?_getD]
  rw [hg] at this
  exact of_decide_eq_false this
structure PreOk (q : Prem) : Prop where
 burst : 0 <= q.burst /\ q.burst <= 20
 period : 1 <= q.period /\ q.period <= 200
 service : 1 <= q.service /\ q.service <= 200
def crN (p : Nat -> Bool) (n : Nat) : Nat := ((List.range n).filter p).length
theorem crN_succ (p : Nat -> Bool) (n : Nat) : crN p (n + 1) = crN p n + (if p n = true then 1 else 0) := by
 unfold crN
 rw [List.range_succ, List.filter_append, List.length_append]
 cases h : p n <;> simp [h]
theorem crN_mono {p r : Nat -> Bool} : ∀ {n : Nat}, (∀ t, t < n -> p t = true -> r t = true) -> crN p n <= crN r n := by
 intro n
 induction n with
 | zero => intro _; exact Nat.le_refl _
 | succ n ih =>
  intro h
  have h1 := ih fun t ht => h t (by omega)
  have h2 := h n (by omega)
  rw [crN_succ, crN_succ]
  split
  ·rename_i hp; rw [if_pos (h2 hp)]; omega
  ·omega
end
end Go.Proofs.YthdekmpkioikdaaGreat
/- The library's sort of numbers, laid at this program (written by the kit's own tool). No condition. -/
namespace Go.Proofs.YthdekmpkioikdaaGreat
set_option linter.unusedSimpArgs false
set_option linter.unusedVariables false
open Go Go.Shelf
end Go.Proofs.YthdekmpkioikdaaGreat
/- The library's sort, by its contract, over canonical memory. No condition. -/
namespace Go.K
set_option linter.unusedSimpArgs false
open Go
set_option linter.unusedVariables false
variable {P : Program}
end Go.K
/- The library's sort of numbers, by the kit's contract, over canonical memory. No condition. -/
namespace Go.K
set_option linter.unusedSimpArgs false
open Go Go.Proofs Go.RowKit Go.Lib Go.Sort Go.Shelf
set_option linter.unusedVariables false
variable {P : Program}
end Go.K
/- Request: premises: whether they hold, and their bound. No condition. -/
namespace Go.Proofs.YthdekmpkioikdaaGreat
open Go Go.K
set_option maxRecDepth 100000
set_option linter.unusedVariables false
set_option linter.unusedSimpArgs false
noncomputable section
attribute [local irreducible] vF
theorem set_same {α : Type} {l : List α} {i : Nat} {x : α} (h : l[i]? = some x) : l.set i x = l := by
 refine List.ext_getElem? fun k => ?_
 rw [List.getElem?_set]
 split
 ·rename_i e; subst e
  rw [if_pos (List.getElem?_eq_some_iff.1 h).1, h]
 ·rfl
abbrev hV (r : Bool × Int) : Value := .tuple #[.bool r.1, .int .i64 r.2]
end
end Go.Proofs.YthdekmpkioikdaaGreat
/- Request: the reference's Hold. No condition. -/
namespace Go.Proofs.YthdekmpkioikdaaGreat
open Go Go.K
set_option maxRecDepth 100000
set_option linter.unusedVariables false
set_option linter.unusedSimpArgs false
noncomputable section
attribute [local irreducible] vF
theorem atAt {l : List Rq} {k : Nat} (h : k < l.length) {off : Nat} (ho : off = k * 7 + 1) : (l.flatMap rqC)[off]? = some (.int .i64 (l.getD k zeroQ).at_) := cell_at (n := 7) (d := zeroQ) (c := 1) rqC_len h ho rfl
end
end Go.Proofs.YthdekmpkioikdaaGreat
/- Request: plain laws of histories. No condition. -/
namespace Go.Proofs.YthdekmpkioikdaaGreat
set_option linter.unusedSimpArgs false
open Go Go.K
set_option linter.unusedVariables false
noncomputable section
theorem frH_len (f : Fleet) (h : List Sv) : ∀ k, (frH f h k).length = f.b.length
 | 0 => List.length_replicate ..
 | k + 1 => by show ((frH f h k).set _ _).length = _; rw [List.length_set, frH_len f h k]
theorem plH_len (f : Fleet) (l : List Rq) (h : List Sv) : ∀ k, (plH f l h k).length = f.b.length
 | 0 => rfl
 | k + 1 => by show ((plH f l h k).set _ _).length = _; rw [List.length_set, plH_len f l h k]
theorem rqAt_dest {f : Fleet} (o : FlOk f) {l : List Rq} (ol : LsOk f.t.length l) (i : Int) : 0 <= (rqAt l i).dest /\ (rqAt l i).dest <= (f.t.length : Int) - 1 := by
 unfold rqAt
 by_cases hi : Int.toNat i < l.length
 ·exact (ol.ok _ hi).dest
 ·rw [List.getD_eq_getElem?_getD, List.getElem?_eq_none (by omega)]
  have := o.n1
  show 0 <= (0 : Int) /\ (0 : Int) <= _
  omega
theorem plH_in {f : Fleet} (o : FlOk f) {l : List Rq} (ol : LsOk f.t.length l) (h : List Sv) : ∀ (k b : Nat), b < f.b.length -> 0 <= (plH f l h k).getD b 0 /\ (plH f l h k).getD b 0 <= (f.t.length : Int) - 1
 | 0, b, hb => o.br b hb
 | k + 1, b, hb => by
  show 0 <= ((plH f l h k).set _ _).getD b 0 /\ _
  have ih := plH_in o ol h k b hb
  have hd := rqAt_dest o ol (svAt h k).rq
  have e : (plH f l h (k + 1)).getD b 0 = if Int.toNat (svAt h k).br = b then (rqAt l (svAt h k).rq).dest else (plH f l h k).getD b 0 := by
   show ((plH f l h k).set _ _).getD b 0 = _
   rw [List.getD_eq_getElem?_getD, List.getElem?_set]
   split
   ·rw [if_pos (by rw [plH_len]; omega)]; rfl
   ·rw [<- List.getD_eq_getElem?_getD]
  show 0 <= (plH f l h (k + 1)).getD b 0 /\ (plH f l h (k + 1)).getD b 0 <= _
  rw [e]
  split
  ·exact hd
  ·exact ih
theorem trav_in {f : Fleet} (o : FlOk f) {a b : Int} (ha : 0 <= a /\ a <= (f.t.length : Int) - 1) : 0 <= trav f a b /\ trav f a b <= 100 := o.el (Int.toNat a) (Int.toNat b) (by omega)
theorem list_ext {α : Type} {a b : List α} (d : α) (hl : a.length = b.length) (h : ∀ k, k < a.length -> a.getD k d = b.getD k d) : a = b := by
 refine List.ext_getElem hl fun k h1 h2 => ?_
 have := h k h1
 rw [List.getD_eq_getElem?_getD, List.getD_eq_getElem?_getD, List.getElem?_eq_getElem h1, List.getElem?_eq_getElem h2] at this
 exact this
theorem getD_setN {α : Type} {a : List α} {d x : α} {i j : Nat} (hj : j < a.length) : (a.set i x).getD j d = if i = j then x else a.getD j d := by
 rw [List.getD_eq_getElem?_getD, List.getElem?_set]
 split
 ·rename_i e; subst e; rw [if_pos hj]; rfl
 ·rw [<- List.getD_eq_getElem?_getD]
section
variable {f : Fleet} {l : List Rq} {h : List Sv} {k : Nat}
variable (c1 : (!inB (svAt h k).rq 0 ((l.length : Int) - 1)) = false) (c2 : (!inB (svAt h k).br 0 ((f.b.length : Int) - 1)) = false)
include c1 c2
end
end
end Go.Proofs.YthdekmpkioikdaaGreat
/- What is to be shown of functions. Printed by a program. No condition. -/
namespace Go.Proofs.YthdekmpkioikdaaGreat
set_option linter.unusedSimpArgs false
open Go Go.K
set_option maxRecDepth 100000
set_option maxHeartbeats 4000000
set_option linter.unusedVariables false
noncomputable section
abbrev jel (l : List Int) : KObj:=.cells true 1 (l.flatMap intC)
def RClone (l : List Int) : Prop :=
 ((l.length = 0 -> (((0 + l.length) * 8 <= 2 ^ 44 /\ l.length = 0) /\ (true = true /\ wk (slQ 1 1 0 : Value) (rn (sg 1 [(1,1)]) 3 (slQ 1 1 l.length : Value)) /\ ((some (.cells true 1 [] : KObj) = some (jel l) /\ belowO 1 (jel l) = true) /\ True)))) /\ (¬ (l.length = 0) -> (((0 + l.length) * 8 <= 2 ^ 44 /\ l.length ≠ 0 /\ (0 <= 0 /\ 0 + 0 * 1 <= List.length ([] : List Value)) /\ (l.length <= l.length /\ 0 + l.length * 1 <= List.length (l.flatMap intC)) /\ ((((l.flatMap intC).drop 0).take (l.length * 1)) : List Value).all (fun v => one1 v) = true) /\ true = true /\ (true = true /\ wk (.slice (some ⟨2,0,none⟩) (0 + l.length) (0 + l.length) : Value) (rn (sg 1 [(1,2)]) 3 (slQ 1 1 l.length : Value)) /\ ((some (.cells true 1 (((([] : List Value).drop 0).take (0 * 1)) ++ (((l.flatMap intC).drop 0).take (l.length * 1))) : KObj) = some (jel l) /\ belowO 1 (jel l) = true) /\ True)))))
theorem EClone (l : List Int) : vF prog msk (dm 0) 100000 true 40 true 116 [.slice (some ⟨0,0,none⟩) l.length l.length] (readsT 0 [l.flatMap intC]) (some [])
 (.go 5 (.cas (l.length = 0) (.val (.bool true) (.go 0 (.again [(1,1)]))) (.need (.go 0 (.again [(1,2)])))))
 (newK ((readsT 0 [l.flatMap intC]) : HT).n 3 (slQ 1 1 l.length) [(true,.cells true 1 (l.flatMap intC))]) = RClone l:=by kernel_rfl
end
end Go.Proofs.YthdekmpkioikdaaGreat
/- Request: what is wrong with histories. No condition. -/
namespace Go.Proofs.YthdekmpkioikdaaGreat
open Go Go.K
set_option maxRecDepth 100000
set_option linter.unusedVariables false
set_option linter.unusedSimpArgs false
noncomputable section
attribute [local irreducible] vF
theorem plainBR (n : Nat) (l : List Br) : (l.flatMap brC).all (belowC n) = true := plain_flat (fun _ => rfl) l
theorem wk_ofR {id o l c : Nat} (hp : 0 < l) : wk (.slice (some ⟨id, o, some 2⟩) l c) (.slice (some ⟨id, o, none⟩) l c) := by
 intro ρ x h
 cases h with
 | sliceRe => exact absurd hp (Nat.lt_irrefl 0)
 | sliceR h _ hl hc ho => exact .slice h hl hc ho
theorem kClone (l : List Int) (hl : l.length <= 4294967296) {H : Heap} {L : Nat} (hL : H.length = L) {i : Nat} {o : Bool} {z : Nat} (e : H[i]? = some (.cells o z (l.flatMap intC))) :
  KCall prog 116 [.slice (some ⟨i, 0, none⟩) l.length l.length] H [] (Is (.slice (some ⟨L, 0, some 1⟩) l.length l.length) (H ++ [.cells true 1 (l.flatMap intC)])) := by
 subst hL
 refine valQ (fun i => .slice (some ⟨i, 0, some 1⟩) l.length l.length) (Eq.mpr (EClone l) ?_) (plainIL 0 l) (fun n => plainIL n _) rfl rfl (fun _ => rfl) e rfl
 delta RClone jel
 refine ⟨fun h => ⟨⟨by omega, h⟩, rfl, ?_, ⟨?_, plainIL _ _⟩, trivial⟩, fun h => ⟨⟨by omega, h, ⟨Nat.le_refl _, Nat.zero_le _⟩, ⟨Nat.le_refl _, flat_le intC_len _⟩, one1_take one1_I⟩, rfl, rfl, ?_, ⟨?_, plainIL _ _⟩, trivial⟩⟩
 ·rw [h]; exact wk_refl _
 ·have : l = [] := List.length_eq_zero_iff.1 h
  subst this; rfl
 ·rw [Nat.zero_add]; exact wk_Q (by omega)
 ·rw [copy_I]; rfl
theorem kCloneR (l : List Int) (hl : l.length <= 4294967296) (h0 : 0 < l.length) {H : Heap} {L : Nat} (hL : H.length = L) {i : Nat} {o : Bool} {z : Nat} (e : H[i]? = some (.cells o z (l.flatMap intC))) :
  KCall prog 116 [.slice (some ⟨i, 0, some 2⟩) l.length l.length] H [] (Is (.slice (some ⟨L, 0, some 1⟩) l.length l.length) (H ++ [.cells true 1 (l.flatMap intC)])) :=
 KCall.wkA (kClone l hl hL e) (wks_cons (wk_ofR h0) wks_nil)
end
end Go.Proofs.YthdekmpkioikdaaGreat
/- Request: what is wrong with histories, by the reference. No condition. -/
namespace Go.Proofs.YthdekmpkioikdaaGreat
open Go Go.K
set_option maxRecDepth 100000
set_option linter.unusedVariables false
set_option linter.unusedSimpArgs false
noncomputable section
attribute [local irreducible] vF
theorem brH_at {f : Fleet} {l : List Rq} {h : List Sv} {k b : Nat} (hb : b < f.b.length) : (brH f l h k).getD b zeroB = ⟨(frH f h k).getD b 0, (plH f l h k).getD b 0⟩ := tabP_get hb
end
end Go.Proofs.YthdekmpkioikdaaGreat
/- Request: plain laws of histories that are right. No condition. -/
namespace Go.Proofs.YthdekmpkioikdaaGreat
set_option linter.unusedSimpArgs false
open Go Go.K
set_option linter.unusedVariables false
noncomputable section
structure HOk (f : Fleet) (l : List Rq) (h : List Sv) : Prop where
 fl : FlOk f
 ls : LsOk f.t.length l
 len : h.length = l.length
 rq : ∀ k, k < h.length -> 0 <= (svAt h k).rq /\ (svAt h k).rq < (l.length : Int)
 br : ∀ k, k < h.length -> 0 <= (svAt h k).br /\ (svAt h k).br < (f.b.length : Int)
 ne : ∀ k, k < h.length -> (h.take k).any (isRq (svAt h k).rq) = false
 tk : ∀ k, k < h.length -> (rqAt l (svAt h k).rq).at_ <= (svAt h k).tk /\ (svAt h k).tk <= 1000000000
 bg : ∀ k, k < h.length -> (svAt h k).bg = bgH f l h k
 nd : ∀ k, k < h.length -> (svAt h k).nd = bgH f l h k + (rqAt l (svAt h k).rq).len
theorem HOk.inj {f : Fleet} {l : List Rq} {h : List Sv} (o : HOk f l h) {j k : Nat} (hk : k < h.length) (hj : j < k) : (svAt h j).rq ≠ (svAt h k).rq := by
 intro e
 have h1 := o.ne k hk
 have h2 : j < (h.take k).length := by rw [take_len (by omega)]; exact hj
 have hg : (h.take k).getD j zeroV = svAt h j := by show _ = h.getD j zeroV; rw [List.getD_eq_getElem?_getD, List.getElem?_take, if_pos hj, <- List.getD_eq_getElem?_getD]
 have := any_no (d := zeroV) h1 h2
 rw [hg] at this
 exact of_decide_eq_false this e
theorem laterV_neg (a b : Rq) : decide (laterV a b < 0) = befB a b := by
 unfold laterV cmpI befB
 by_cases h1 : a.at_ < b.at_
 ·rw [if_pos h1, first2_1 (by decide), decide_eq_true h1]; rfl
 ·rw [if_neg h1, decide_eq_false h1, Bool.false_or]
  by_cases h2 : b.at_ < a.at_
  ·rw [if_pos h2, first2_1 (by decide), decide_eq_false (show ¬ a.at_ = b.at_ by omega)]; rfl
  ·rw [if_neg h2, first2_2 rfl, decide_eq_true (show a.at_ = b.at_ by omega), Bool.true_and]
   by_cases h3 : a.id < b.id
   ·rw [if_pos h3, decide_eq_true h3]; rfl
   ·rw [if_neg h3, decide_eq_false h3]; split <;> rfl
end
end Go.Proofs.YthdekmpkioikdaaGreat
/- What is to be shown of functions. Printed by a program. No condition. -/
namespace Go.Proofs.YthdekmpkioikdaaGreat
set_option linter.unusedSimpArgs false
open Go Go.K
set_option maxRecDepth 100000
set_option maxHeartbeats 4000000
set_option linter.unusedVariables false
noncomputable section
abbrev jf11 : Value:=nI 0
def Rcmp (sp : Value) (a b : Int) : Prop :=
 ((((a : Int) != a) = true -> ((((b : Int) != b) = true -> jf11 = sp) /\ (((b : Int) != b) = false -> (nI (-1) : Value) = sp))) /\ (((a : Int) != a) = false -> ((((b : Int) != b) = true -> (nI 1 : Value) = sp) /\ (((b : Int) != b) = false -> (((decide ((a : Int) < b)) = true -> (nI (-1) : Value) = sp) /\ ((decide ((a : Int) < b)) = false -> (((decide ((b : Int) < a)) = true -> (nI 1 : Value) = sp) /\ ((decide ((b : Int) < a)) = false -> jf11 = sp))))))))
theorem Ecmp (sp : Value) (a b : Int) : vF prog msk (dm 0) 100000 true 40 true 152 [nI a,nI b] ⟨0,.leaf⟩ (some [])
 (.go 17 (.fork (.go 0 (.fork (.auto) (.auto))) (.go 0 (.fork (.auto) (.go 2 (.fork (.auto) (.go 2 (.fork (.auto) (.auto)))))))))
 (fun v _ _ => v = sp) = Rcmp sp a b:=by kernel_rfl
abbrev jfd (l : List Rq) : Int:=(l.length : Nat)
abbrev jf1l (l : List Rq):=l.flatMap rqC
abbrev jfj (l : List Rq) (i : Int):=l.getD i.toNat zeroQ
abbrev jf18 (l : List Rq) (i : Int) : Value:=.agg #[nI (jfj l i).id,nI (jfj l i).at_,nI (jfj l i).place,nI (jfj l i).dest,nI (jfj l i).len,nI (jfj l i).prio,nI (jfj l i).limit]
abbrev jfl (l : List Rq) (k : Int):=l.getD k.toNat zeroQ
abbrev jf19 (l : List Rq) (k : Int) : Value:=.agg #[nI (jfl l k).id,nI (jfl l k).at_,nI (jfl l k).place,nI (jfl l k).dest,nI (jfl l k).len,nI (jfl l k).prio,nI (jfl l k).limit]
def Rlater (sp : Value) (f : Fleet) (l : List Rq) (X Y : List Int) (i k : Int) : Prop :=
 (((0 : Int) <= i /\ (i : Int) < (jfd l)) /\ ((partA 7 (jf1l l) (0 + Int.toNat i * 7) = some (jf18 l i)) /\ (((0 : Int) <= k /\ (k : Int) < (jfd l)) /\ ((partA 7 (jf1l l) (0 + Int.toNat k * 7) = some (jf19 l k)) /\ ((True) /\ (∀ H' : Heap,H'.length = 8 -> (True) -> KCall prog 152 [nI (jfj l i).at_,nI (jfl l k).at_] H' [] (Is (nI (cmpI (jfj l i).at_ (jfl l k).at_)) H')) /\ ((True) /\ (∀ H' : Heap,H'.length = 8 -> (True) -> KCall prog 152 [nI (jfj l i).id,nI (jfl l k).id] H' [] (Is (nI (cmpI (jfj l i).id (jfl l k).id)) H')) /\ (∃ y2 : Int,(nI (cmpI (jfj l i).at_ (jfl l k).at_) : Value) = nI y2 /\ ((((y2 : Int) != 0) = true -> (nI y2 : Value) = sp) /\ (((y2 : Int) != 0) = false -> (∃ y3 : Int,(nI (cmpI (jfj l i).id (jfl l k).id) : Value) = nI y3 /\ ((((y3 : Int) != 0) = true -> (nI y3 : Value) = sp) /\ (((y3 : Int) != 0) = false -> jf11 = sp))))))))))))
theorem Elater (sp : Value) (f : Fleet) (l : List Rq) (X Y : List Int) (i k : Int) : vF prog msk (dm 0) 100000 true 40 true 120 [.pointer (some ⟨5,0,none⟩),nI i,nI k] (readsT 0 [inL f.t,f.b.flatMap intC,l.flatMap rqC,X.flatMap intC,Y.flatMap intC,wkC f l X Y]) (some [])
 (.go 5 (.need (.val (jf18 l i) (.go 4 (.need (.val (jf19 l k) (.go 11 (.ans [] (nI (cmpI (jfj l i).at_ (jfl l k).at_)) [] (.ans [] (nI (cmpI (jfj l i).id (jfl l k).id)) [] (.go 10 (.bind Int (fun y2 => .slot 11 (nI y2) (.go 3 (.fork (.auto) (.go 5 (.bind Int (fun y3 => .slot 11 (nI y3) (.go 3 (.fork (.auto) (.auto))))))))))))))))))))
 (fun v _ _ => v = sp) = Rlater sp f l X Y i k:=by kernel_rfl
end
end Go.Proofs.YthdekmpkioikdaaGreat
/- Request: how long requests wait in a history. No condition. -/
namespace Go.Proofs.YthdekmpkioikdaaGreat
open Go Go.K
set_option maxRecDepth 100000
set_option linter.unusedVariables false
set_option linter.unusedSimpArgs false
noncomputable section
attribute [local irreducible] vF
theorem kCmp (a b : Int) (H : Heap) : KCall prog 152 [nI a, nI b] H [] (Is (.int .i64 (cmpI a b)) H) := by
 refine valK 40 (fun σ => rfl) rfl (Eq.mpr (Ecmp _ a b) ?_) H
 delta Rcmp jf11
 refine forkF (bne_self_eq_false _) (forkF (bne_self_eq_false _) (forkD (fun h => iEq (if_pos h).symm) (fun h => forkD (fun h2 => iEq ?_) (fun h2 => iEq ?_))))
 ·unfold cmpI; rw [if_neg h, if_pos h2]
 ·unfold cmpI; rw [if_neg h, if_neg h2]
theorem kLater (f : Fleet) (l : List Rq) (X Y : List Int) (i k : Int) (hi : 0 <= i /\ i < (l.length : Int)) (hk : 0 <= k /\ k < (l.length : Int)) {H : Heap} {j0 j1 j2 j3 j4 j5 : Nat} {o0 o1 o2 o3 o4 o5 : Bool} {z0 z1 z2 z3 z4 z5 : Nat}
  (e5 : H[j5]? = some (.cells o5 z5 [.slice (some ⟨j0, 0, some 2⟩) f.t.length f.t.length, .slice (some ⟨j1, 0, some 2⟩) f.b.length f.b.length, .slice (some ⟨j2, 0, some 2⟩) l.length l.length, .slice (some ⟨j3, 0, none⟩) X.length X.length, .slice (some ⟨j4, 0, some 1⟩) Y.length Y.length]))
  (e0 : H[j0]? = some (.cells o0 z0 (inL f.t))) (e1 : H[j1]? = some (.cells o1 z1 (f.b.flatMap intC))) (e2 : H[j2]? = some (.cells o2 z2 (l.flatMap rqC))) (e3 : H[j3]? = some (.cells o3 z3 (X.flatMap intC))) (e4 : H[j4]? = some (.cells o4 z4 (Y.flatMap intC))) :
  KCall prog 120 [.pointer (some ⟨j5, 0, none⟩), nI i, nI k] H [] (Is (.int .i64 (laterV (rqAt l i) (rqAt l k))) H) := by
 have hv : Rlater (.int .i64 (laterV (rqAt l i) (rqAt l k))) f l X Y i k := by
  delta Rlater jfd jf1l jfj jf18 jfl jf19 jf11
  have h1 : Int.toNat i < l.length := by omega
  have h2 : Int.toNat k < l.length := by omega
  refine ⟨by omega, partQ h1 (by omega), by omega, partQ h2 (by omega), trivial, fun H' _ _ => kCmp _ _ H', trivial, fun H' _ _ => kCmp _ _ H', _, rfl, forkNe (fun h => iEq (first2_1 h).symm) (fun h => ⟨_, rfl, forkNe (fun g => iEq (first2_2 h).symm) (fun g => iEq ?_)⟩)⟩
  exact ((first2_2 h).trans g).symm
 have hp : ∀ (l : List Value), l.all (belowC 0) = true -> l.map (rn (sgR 0 [j0, j1, j2, j3, j4, j5]) 3) = l := fun l hl => (rnCl (d := 0) hl).1
 refine valRA (css := [inL f.t, f.b.flatMap intC, l.flatMap rqC, X.flatMap intC, Y.flatMap intC, wkC f l X Y]) (Eq.mpr (Elater _ f l X Y i k) hv) rfl [j0, j1, j2, j3, j4, j5] rfl ?_
 intro n cs h
 match n with
 | 0 => cases h; exact ⟨_, _, _, rfl, by rw [hp _ (inL_b 0 _)]; exact e0⟩
 | 1 => cases h; exact ⟨_, _, _, rfl, by rw [hp _ (plainIL 0 _)]; exact e1⟩
 | 2 => cases h; exact ⟨_, _, _, rfl, by rw [hp _ (plainRQ 0 _)]; exact e2⟩
 | 3 => cases h; exact ⟨_, _, _, rfl, by rw [hp _ (plainIL 0 _)]; exact e3⟩
 | 4 => cases h; exact ⟨_, _, _, rfl, by rw [hp _ (plainIL 0 _)]; exact e4⟩
 | 5 => cases h; exact ⟨_, _, _, rfl, e5⟩
 | n + 6 => cases h
end
end Go.Proofs.YthdekmpkioikdaaGreat
/- Request: the history of a policy, hour by hour, as plain functions. No condition. -/
namespace Go.Proofs.YthdekmpkioikdaaGreat
set_option linter.unusedSimpArgs false
set_option linter.unusedVariables false
open Go Go.K
noncomputable section
def ovN (l : List Rq) (h : List Sv) : Nat -> List Int
 | 0 => List.replicate l.length 0
 | k + 1 => tabP (fun i => (ovN l h k).getD i 0 + if (!((metH l.length h (k + 1)).getD i false) && befB (l.getD i zeroQ) (rqAt l (svAt h k).rq)) = true then 1 else 0) l.length
def classV (p : Pol) (r : Rq) (taken : Bool) (ov hour : Int) : Int :=
 if taken = true ∨ hour < r.at_ then 0 else if p.ov <= ov then 3 else if 0 < r.limit /\ r.at_ + r.limit - hour <= p.warn then 2 else 1
def aheadB (c : Int) (a b : Rq) : Bool :=
 if c = 2 /\ a.at_ + a.limit ≠ b.at_ + b.limit then decide (a.at_ + a.limit < b.at_ + b.limit) else
 if c = 1 /\ a.prio ≠ b.prio then decide (b.prio < a.prio) else befB a b
def clsAt (p : Pol) (l : List Rq) (h : List Sv) (hour : Int) (i : Nat) : Int :=
 classV p (l.getD i zeroQ) ((metH l.length h h.length).getD i false) ((ovN l h h.length).getD i 0) hour
def bestTo (p : Pol) (l : List Rq) (h : List Sv) (hour : Int) : Nat -> Int × Int
 | 0 => (-1, 0)
 | i + 1 =>
  let b := bestTo p l h hour i
  let c := clsAt p l h hour i
  if b.2 < c ∨ (0 < c /\ c = b.2 /\ aheadB c (l.getD i zeroQ) (rqAt l b.1) = true) then ((i : Int), c) else b
def byTo (f : Fleet) (l : List Rq) (h : List Sv) (hour place : Int) : Nat -> Int
 | 0 => -1
 | b + 1 =>
  let y := byTo f l h hour place b
  let q := (brH f l h h.length).getD b zeroB
  if hour < q.free then y else
  if y < 0 ∨ trav f q.at_ place < trav f ((brH f l h h.length).getD (Int.toNat y) zeroB).at_ place then (b : Int) else y
def bestAt (p : Pol) (l : List Rq) (h : List Sv) (hour : Int) : Int := (bestTo p l h hour l.length).1
def byAt (f : Fleet) (p : Pol) (l : List Rq) (h : List Sv) (hour : Int) : Int := byTo f l h hour (rqAt l (bestAt p l h hour)).place f.b.length
def mkSv (f : Fleet) (l : List Rq) (h : List Sv) (i b hour : Int) : Sv :=
 let bg := hour + trav f ((brH f l h h.length).getD (Int.toNat b) zeroB).at_ (rqAt l i).place
 ⟨i, b, hour, bg, bg + (rqAt l i).len⟩
def decAt (f : Fleet) (p : Pol) (l : List Rq) (h : List Sv) (hour : Int) : Option Sv :=
 if bestAt p l h hour < 0 ∨ byAt f p l h hour < 0 then none else some (mkSv f l h (bestAt p l h hour) (byAt f p l h hour) hour)
def playS (f : Fleet) (p : Pol) (l : List Rq) : Nat -> Int -> List Sv -> List Sv
 | 0, _, h => h
 | n + 1, hour, h => if l.length <= h.length then h else match decAt f p l h hour with
  | some s => playS f p l n hour (h ++ [s])
  | none => playS f p l n (hour + 1) h
def playF (f : Fleet) (p : Pol) (l : List Rq) : List Sv := playS f p l 40000 0 []
structure GoodH (f : Fleet) (l : List Rq) (h : List Sv) : Prop where
 rq : ∀ k, k < h.length -> 0 <= (svAt h k).rq /\ (svAt h k).rq < (l.length : Int)
 br : ∀ k, k < h.length -> 0 <= (svAt h k).br /\ (svAt h k).br < (f.b.length : Int)
 ne : ∀ k, k < h.length -> (h.take k).any (isRq (svAt h k).rq) = false
structure PlayI (f : Fleet) (p : Pol) (l : List Rq) (hour : Nat) (h : List Sv) : Prop where
 good : GoodH f l h
 len : h.length <= l.length
 now : h.length < l.length -> hour <= 10000 + 200 * h.length
 top : hour <= 10001 + 200 * l.length
 free : ∀ b, b < f.b.length -> 0 <= (frH f h h.length).getD b 0 /\ (frH f h h.length).getD b 0 <= 10000 + 200 * (h.length : Int)
 own : ∃ m, (l.length - h.length) + (10000 + 200 * l.length - hour) <= m /\ playS f p l m (hour : Int) h = playF f p l
def errAll (f : Fleet) (p : Pol) (l : List Rq) : Int := first2 (first2 (errFl f) (errPol p)) (errRq f.t.length l)
def fRun (f : Fleet) (p : Pol) (l : List Rq) : List Sv × Int := if errAll f p l = 0 then (playF f p l, 0) else ([], errAll f p l)
end
end Go.Proofs.YthdekmpkioikdaaGreat
/- Request: plain laws of the history of a policy. No condition. -/
namespace Go.Proofs.YthdekmpkioikdaaGreat
set_option linter.unusedSimpArgs false
open Go Go.K
set_option linter.unusedVariables false
noncomputable section
theorem classV_le (p : Pol) (r : Rq) (t : Bool) (o h : Int) : 0 <= classV p r t o h := by
 unfold classV
 split
 ·decide
 ·split
  ·decide
  ·split <;> decide
theorem classV_pos {p : Pol} {r : Rq} {t : Bool} {o h : Int} (h1 : t = false) (h2 : r.at_ <= h) : 0 < classV p r t o h := by
 unfold classV
 rw [if_neg (fun k => k.elim (fun c => by rw [h1] at c; cases c) (fun c => by omega))]
 split
 ·decide
 ·split <;> decide
theorem classV_free {p : Pol} {r : Rq} {t : Bool} {o h : Int} (h0 : 0 < classV p r t o h) : t = false /\ r.at_ <= h := by
 unfold classV at h0
 split at h0
 ·exact absurd h0 (by decide)
 ·rename_i k
  refine ⟨?_, ?_⟩
  ·cases t with
   | false => rfl
   | true => exact absurd (.inl rfl) k
  ·exact Int.not_lt.1 fun c => k (.inr c)
theorem best_spec (p : Pol) (l : List Rq) (h : List Sv) (hour : Int) : ∀ n : Nat,
  (bestTo p l h hour n = (-1, 0) /\ ∀ i, i < n -> clsAt p l h hour i = 0) ∨
  (0 <= (bestTo p l h hour n).1 /\ (bestTo p l h hour n).1 < (n : Int) /\ (bestTo p l h hour n).2 = clsAt p l h hour (Int.toNat (bestTo p l h hour n).1) /\ 0 < (bestTo p l h hour n).2 /\ ∀ i, i < n -> clsAt p l h hour i <= (bestTo p l h hour n).2)
 | 0 => .inl ⟨rfl, fun i h => absurd h (Nat.not_lt_zero _)⟩
 | n + 1 => by
  have ih := best_spec p l h hour n
  have hc := classV_le p (l.getD n zeroQ) ((metH l.length h h.length).getD n false) ((ovN l h h.length).getD n 0) hour
  have hc : 0 <= clsAt p l h hour n := hc
  obtain ⟨b, eb⟩ : ∃ b, bestTo p l h hour n = b := ⟨_, rfl⟩
  rw [eb] at ih
  have e : bestTo p l h hour (n + 1) = if b.2 < clsAt p l h hour n ∨ (0 < clsAt p l h hour n /\ clsAt p l h hour n = b.2 /\ aheadB (clsAt p l h hour n) (l.getD n zeroQ) (rqAt l b.1) = true) then ((n : Int), clsAt p l h hour n) else b := by rw [<- eb]; rfl
  rw [e]
  split
  ·rename_i k
   have hpos : 0 < clsAt p l h hour n := by
    rcases k with k | k
    ·rcases ih with ⟨i1, _⟩ | ⟨_, _, _, i4, _⟩
     ·rw [i1] at k; exact k
     ·omega
    ·exact k.1
   refine .inr ⟨by show 0 <= (n : Int); omega, by show (n : Int) < _; omega, rfl, hpos, fun i hi => ?_⟩
   show _ <= clsAt p l h hour n
   rcases Nat.lt_or_ge i n with q | q
   ·rcases ih with ⟨i1, i2⟩ | ⟨_, _, _, _, i5⟩
    ·rw [i2 i q]; omega
    ·have := i5 i q
     rcases k with k | k
     ·omega
     ·omega
   ·rw [show i = n by omega]; omega
  ·rename_i k
   rcases ih with ⟨i1, i2⟩ | ⟨i1, i2, i3, i4, i5⟩
   ·refine .inl ⟨i1, fun i hi => ?_⟩
    rcases Nat.lt_or_ge i n with q | q
    ·exact i2 i q
    ·rw [show i = n by omega]
     rw [i1] at k
     have : ¬ (0 : Int) < clsAt p l h hour n := fun c => k (.inl c)
     omega
   ·refine .inr ⟨i1, by omega, i3, i4, fun i hi => ?_⟩
    rcases Nat.lt_or_ge i n with q | q
    ·exact i5 i q
    ·rw [show i = n by omega]
     exact Int.not_lt.1 fun c => k (.inl c)
theorem by_spec (f : Fleet) (l : List Rq) (h : List Sv) (hour place : Int) : ∀ n : Nat,
  (byTo f l h hour place n = -1 /\ ∀ b, b < n -> hour < ((brH f l h h.length).getD b zeroB).free) ∨
  (0 <= byTo f l h hour place n /\ byTo f l h hour place n < (n : Int) /\ ((brH f l h h.length).getD (Int.toNat (byTo f l h hour place n)) zeroB).free <= hour)
 | 0 => .inl ⟨rfl, fun b h => absurd h (Nat.not_lt_zero _)⟩
 | n + 1 => by
  have ih := by_spec f l h hour place n
  obtain ⟨y, ey⟩ : ∃ y, byTo f l h hour place n = y := ⟨_, rfl⟩
  rw [ey] at ih
  have e : byTo f l h hour place (n + 1) = if hour < ((brH f l h h.length).getD n zeroB).free then y else if y < 0 ∨ trav f ((brH f l h h.length).getD n zeroB).at_ place < trav f ((brH f l h h.length).getD (Int.toNat y) zeroB).at_ place then (n : Int) else y := by rw [<- ey]; rfl
  rw [e]
  split
  ·rename_i k
   rcases ih with ⟨i1, i2⟩ | ⟨i1, i2, i3⟩
   ·refine .inl ⟨i1, fun b hb => ?_⟩
    rcases Nat.lt_or_ge b n with q | q
    ·exact i2 b q
    ·rw [show b = n by omega]; exact k
   ·exact .inr ⟨i1, by omega, i3⟩
  ·rename_i k
   split
   ·exact .inr ⟨by omega, by omega, by rw [Int.toNat_natCast]; omega⟩
   ·rename_i k2
    rcases ih with ⟨i1, i2⟩ | ⟨i1, i2, i3⟩
    ·exact absurd (.inl (by omega)) k2
    ·exact .inr ⟨i1, by omega, i3⟩
theorem crN_eq {p r : Nat -> Bool} {n : Nat} (h : ∀ i, i < n -> p i = r i) : crN p n = crN r n :=
 Nat.le_antisymm (crN_mono fun i hi e => by rw [<- h i hi]; exact e) (crN_mono fun i hi e => by rw [h i hi]; exact e)
theorem crN_one {p : Nat -> Bool} {i0 : Nat} (hp : p i0 = false) : ∀ {n : Nat}, crN (fun i => p i || decide (i = i0)) n = crN p n + (if i0 < n then 1 else 0)
 | 0 => rfl
 | n + 1 => by
  rw [crN_succ, crN_succ, crN_one hp]
  by_cases e : n = i0
  ·subst e
   rw [hp, if_neg (Nat.lt_irrefl _), if_pos (Nat.lt_succ_self _), decide_eq_true rfl]; rfl
  ·rw [decide_eq_false e, Bool.or_false]
   by_cases c : i0 < n
   ·rw [if_pos c, if_pos (show i0 < n + 1 by omega)]; omega
   ·rw [if_neg c, if_neg (show ¬ i0 < n + 1 by omega)]; omega
theorem crN_true : ∀ n : Nat, crN (fun _ => true) n = n
 | 0 => rfl
 | n + 1 => by rw [crN_succ, crN_true n]; rfl
theorem met_count {f : Fleet} {l : List Rq} {h : List Sv} (g : GoodH f l h) : ∀ k, k <= h.length -> crN (fun i => (h.take k).any (isRq (i : Int))) l.length = k
 | 0, _ => by
  have : ∀ n, crN (fun i : Nat => (h.take 0).any (isRq (i : Int))) n = 0 := by
   intro n
   induction n with
   | zero => rfl
   | succ n ih => rw [crN_succ, ih, List.take_zero]; rfl
  exact this _
 | k + 1, hk => by
  have r := g.rq k (by omega)
  have e := g.ne k (by omega)
  have ih := met_count g k (by omega)
  rw [crN_eq (r := fun i => (h.take k).any (isRq (i : Int)) || decide (i = Int.toNat (svAt h k).rq)) fun i hi => by
   rw [take_snoc (d := zeroV) (show k < h.length by omega), List.any_append, List.any_cons, List.any_nil, Bool.or_false]
   show (_ || decide ((svAt h k).rq = (i : Int))) = _
   congr 1
   by_cases c : i = Int.toNat (svAt h k).rq
   ·rw [decide_eq_true c, decide_eq_true (by omega)]
   ·rw [decide_eq_false c, decide_eq_false (by omega)]]
  rw [crN_one (by show (h.take k).any (isRq ((Int.toNat (svAt h k).rq : Nat) : Int)) = false; rw [Int.toNat_of_nonneg r.1]; exact e), ih, if_pos (by omega)]
theorem unmet {f : Fleet} {l : List Rq} {h : List Sv} (g : GoodH f l h) (hl : h.length < l.length) : ∃ i, i < l.length /\ h.any (isRq (i : Int)) = false := by
 have e := met_count g h.length (Nat.le_refl _)
 rw [List.take_length] at e
 rcases Classical.em (∃ i, i < l.length /\ h.any (isRq (i : Int)) = false) with k | k
 ·exact k
 ·have : crN (fun i : Nat => h.any (isRq (i : Int))) l.length = l.length := by
   rw [crN_eq (r := fun _ => true) fun i hi => by
    cases c : h.any (isRq (i : Int)) with
    | true => rfl
    | false => exact absurd ⟨i, hi, c⟩ k]
   exact crN_true _
  omega
theorem met_any {l : List Rq} {h : List Sv} {i : Nat} (hi : i < l.length) : (metH l.length h h.length).getD i false = h.any (isRq (i : Int)) := by
 unfold metH; rw [tabP_get hi, List.take_length]
theorem dec_some {f : Fleet} {p : Pol} {l : List Rq} {h : List Sv} {hour : Int} {s : Sv} (e : decAt f p l h hour = some s) :
  ∃ i b : Nat, i < l.length /\ b < f.b.length /\ s = mkSv f l h (i : Int) (b : Int) hour /\ bestAt p l h hour = (i : Int) /\ byAt f p l h hour = (b : Int) /\ h.any (isRq (i : Int)) = false /\ (l.getD i zeroQ).at_ <= hour /\ ((brH f l h h.length).getD b zeroB).free <= hour := by
 unfold decAt at e
 split at e
 ·cases e
 rename_i k
 have k1 : ¬ bestAt p l h hour < 0 := fun c => k (.inl c)
 have k2 : ¬ byAt f p l h hour < 0 := fun c => k (.inr c)
 cases e
 rcases best_spec p l h hour l.length with ⟨a1, _⟩ | ⟨a1, a2, a3, a4, _⟩
 ·exact absurd (by unfold bestAt; rw [a1]; decide) k1
 rcases by_spec f l h hour (rqAt l (bestAt p l h hour)).place f.b.length with ⟨b1, _⟩ | ⟨b1, b2, b3⟩
 ·exact absurd (by unfold byAt; rw [b1]; decide) k2
 have a1 : 0 <= bestAt p l h hour := a1
 have a2 : bestAt p l h hour < (l.length : Int) := a2
 have b1 : 0 <= byAt f p l h hour := b1
 have b2 : byAt f p l h hour < (f.b.length : Int) := b2
 have hi : Int.toNat (bestAt p l h hour) < l.length := by omega
 have c : 0 < clsAt p l h hour (Int.toNat (bestAt p l h hour)) := by rw [a3] at a4; exact a4
 have c := classV_free (show 0 < classV p _ _ _ _ from c)
 rw [met_any hi] at c
 refine ⟨Int.toNat (bestAt p l h hour), Int.toNat (byAt f p l h hour), hi, by omega, ?_, by omega, by omega, c.1, c.2, b3⟩
 rw [Int.toNat_of_nonneg a1, Int.toNat_of_nonneg b1]
theorem dec_none {f : Fleet} {p : Pol} {l : List Rq} {h : List Sv} {hour : Int} (e : decAt f p l h hour = none) :
  (∀ i, i < l.length -> h.any (isRq (i : Int)) = false -> hour < (l.getD i zeroQ).at_) ∨ (∀ b, b < f.b.length -> hour < ((brH f l h h.length).getD b zeroB).free) := by
 unfold decAt at e
 split at e
 ·rename_i k
  rcases k with k | k
  ·left
   intro i hi hm
   rcases best_spec p l h hour l.length with ⟨_, a2⟩ | ⟨a1, _⟩
   ·have := a2 i hi
    rcases Int.lt_or_le hour (l.getD i zeroQ).at_ with q | q
    ·exact q
    ·have c := classV_pos (p := p) (r := l.getD i zeroQ) (t := (metH l.length h h.length).getD i false) (o := (ovN l h h.length).getD i 0) (h := hour) (by rw [met_any hi]; exact hm) q
     have : clsAt p l h hour i = 0 := this
     unfold clsAt at this
     omega
   ·exact absurd k (by have a1 : 0 <= bestAt p l h hour := a1; omega)
  ·right
   rcases by_spec f l h hour (rqAt l (bestAt p l h hour)).place f.b.length with ⟨_, b2⟩ | ⟨b1, _⟩
   ·exact b2
   ·exact absurd k (by have b1 : 0 <= byAt f p l h hour := b1; omega)
 ·cases e
end
end Go.Proofs.YthdekmpkioikdaaGreat
/- Request: what holds while a policy's history is played. No condition. -/
namespace Go.Proofs.YthdekmpkioikdaaGreat
set_option linter.unusedSimpArgs false
open Go Go.K
set_option linter.unusedVariables false
noncomputable section
theorem svAt_l {h : List Sv} {s : Sv} {k : Nat} (hk : k < h.length) : svAt (h ++ [s]) k = svAt h k := by
 show (h ++ [s]).getD k zeroV = h.getD k zeroV
 rw [List.getD_eq_getElem?_getD, List.getElem?_append_left hk, <- List.getD_eq_getElem?_getD]
theorem svAt_r {h : List Sv} {s : Sv} : svAt (h ++ [s]) h.length = s := by
 show (h ++ [s]).getD h.length zeroV = s
 rw [List.getD_eq_getElem?_getD, List.getElem?_append_right (Nat.le_refl _), Nat.sub_self]; rfl
theorem frH_app (f : Fleet) (h : List Sv) (s : Sv) : ∀ k, k <= h.length -> frH f (h ++ [s]) k = frH f h k
 | 0, _ => rfl
 | k + 1, hk => by
  show (frH f (h ++ [s]) k).set _ _ = (frH f h k).set _ _
  rw [frH_app f h s k (by omega), svAt_l (by omega)]
theorem frH_snoc (f : Fleet) (h : List Sv) (s : Sv) : frH f (h ++ [s]) (h.length + 1) = (frH f h h.length).set (Int.toNat s.br) s.nd := by
 show (frH f (h ++ [s]) h.length).set _ _ = _
 rw [frH_app f h s _ (Nat.le_refl _), svAt_r]
theorem take_app {h : List Sv} {s : Sv} {k : Nat} (hk : k <= h.length) : (h ++ [s]).take k = h.take k := List.take_append_of_le_length hk
theorem good_snoc {f : Fleet} {l : List Rq} {h : List Sv} {s : Sv} (g : GoodH f l h) (h1 : 0 <= s.rq /\ s.rq < (l.length : Int)) (h2 : 0 <= s.br /\ s.br < (f.b.length : Int)) (h3 : h.any (isRq s.rq) = false) : GoodH f l (h ++ [s]) := by
 refine ⟨fun k hk => ?_, fun k hk => ?_, fun k hk => ?_⟩
 all_goals
  rw [List.length_append] at hk
  rcases Nat.lt_or_ge k h.length with q | q
  ·rw [svAt_l q]
   first
    | exact g.rq k q
    | exact g.br k q
    | (rw [take_app (by omega)]; exact g.ne k q)
  ·have e : k = h.length := by have : [s].length = 1 := rfl; omega
   subst e
   rw [svAt_r]
   first
    | exact h1
    | exact h2
    | (rw [take_app (Nat.le_refl _), List.take_length]; exact h3)
theorem playI_0 {f : Fleet} {p : Pol} {l : List Rq} (hl : l.length <= 30) : PlayI f p l 0 [] := by
 refine ⟨⟨fun k hk => absurd hk (Nat.not_lt_zero _), fun k hk => absurd hk (Nat.not_lt_zero _), fun k hk => absurd hk (Nat.not_lt_zero _)⟩, Nat.zero_le _, fun _ => Nat.zero_le _, Nat.zero_le _, fun b hb => ?_, 40000, ?_, rfl⟩
 ·show 0 <= (List.replicate _ (0 : Int)).getD b 0 /\ (List.replicate _ (0 : Int)).getD b 0 <= _
  rw [List.getD_eq_getElem?_getD, List.getElem?_replicate, if_pos hb]
  decide
 ·show (l.length - 0) + _ <= _
  omega
theorem playI_dec {f : Fleet} {p : Pol} {l : List Rq} {hour : Nat} {h : List Sv} {s : Sv} (o : FlOk f) (ol : LsOk f.t.length l) (i : PlayI f p l hour h) (hl : h.length < l.length) (e : decAt f p l h (hour : Int) = some s) : PlayI f p l hour (h ++ [s]) := by
 obtain ⟨a, b, ha, hb, es, _, _, hm, hat, hfr⟩ := dec_some e
 have hlen : (h ++ [s]).length = h.length + 1 := by rw [List.length_append]; rfl
 have hn := i.now hl
 have erq : s.rq = (a : Int) := by rw [es]; rfl
 have ebr : s.br = (b : Int) := by rw [es]; rfl
 have pin := plH_in o ol h h.length b hb
 have eB := brH_at (f := f) (l := l) (h := h) (k := h.length) hb
 have tv := trav_in o (b := (rqAt l (a : Int)).place) pin
 have q := (ol.ok a ha).len
 have end_ : s.nd = (hour : Int) + trav f ((plH f l h h.length).getD b 0) (rqAt l (a : Int)).place + (rqAt l (a : Int)).len := by
  rw [es]
  show (hour : Int) + trav f ((brH f l h h.length).getD (Int.toNat (b : Int)) zeroB).at_ _ + _ = _
  rw [Int.toNat_natCast, eB]
 have eq1 : rqAt l (a : Int) = l.getD a zeroQ := by unfold rqAt; rw [Int.toNat_natCast]
 rw [<- eq1] at q
 refine ⟨good_snoc i.good (by rw [erq]; omega) (by rw [ebr]; omega) (by rw [erq]; exact hm), by omega, fun _ => by omega, i.top, fun c hc => ?_, ?_⟩
 ·rw [hlen, frH_snoc, getD_setN (by rw [frH_len]; exact hc)]
  have := i.free c hc
  split <;> omega
 ·obtain ⟨m, hm1, hm2⟩ := i.own
  match m, hm1, hm2 with
  | 0, hm1, _ => omega
  | m + 1, hm1, hm2 =>
   refine ⟨m, by omega, ?_⟩
   rw [<- hm2]
   show _ = if l.length <= h.length then h else _
   rw [if_neg (by omega), e]
theorem playI_next {f : Fleet} {p : Pol} {l : List Rq} {hour : Nat} {h : List Sv} (o : FlOk f) (ol : LsOk f.t.length l) (i : PlayI f p l hour h) (e : h.length < l.length -> decAt f p l h (hour : Int) = none) (ht : h.length < l.length ∨ hour <= 10000 + 200 * l.length) : PlayI f p l (hour + 1) h := by
 have key : h.length < l.length -> hour + 1 <= 10000 + 200 * h.length := by
  intro hl
  have hn := i.now hl
  rcases dec_none (e hl) with k | k
  ·obtain ⟨a, ha, hm⟩ := unmet i.good hl
   have := k a ha hm
   have := (ol.ok a ha).at_
   omega
  ·have b1 := o.b1
   have := k 0 (by omega)
   rw [brH_at (by omega)] at this
   have h2 := i.free 0 (by omega)
   have this : (hour : Int) < (frH f h h.length).getD 0 0 := this
   omega
 have hlen := i.len
 refine ⟨i.good, i.len, key, ?_, i.free, ?_⟩
 ·rcases ht with c | c
  ·have := key c; omega
  ·omega
 ·obtain ⟨m, hm1, hm2⟩ := i.own
  by_cases hl : h.length < l.length
  ·match m, hm1, hm2 with
   | 0, hm1, _ => omega
   | m + 1, hm1, hm2 =>
    refine ⟨m, by have := key hl; omega, ?_⟩
    rw [<- hm2]
    show _ = if l.length <= h.length then h else _
    rw [if_neg (by omega), e hl]; rfl
  ·refine ⟨m, by omega, ?_⟩
   rw [<- hm2]
   match m with
   | 0 => rfl
   | m + 1 =>
    show (if l.length <= h.length then h else _) = if l.length <= h.length then h else _
    rw [if_pos (by omega), if_pos (by omega)]
end
end Go.Proofs.YthdekmpkioikdaaGreat
/- Request: steps of the searches while a policy's history is played. No condition. -/
namespace Go.Proofs.YthdekmpkioikdaaGreat
set_option linter.unusedSimpArgs false
open Go Go.K
set_option linter.unusedVariables false
noncomputable section
theorem best_1 {p : Pol} {l : List Rq} {h : List Sv} {hour : Int} {i : Nat} (k : (bestTo p l h hour i).2 < clsAt p l h hour i ∨ (0 < clsAt p l h hour i /\ clsAt p l h hour i = (bestTo p l h hour i).2 /\ aheadB (clsAt p l h hour i) (l.getD i zeroQ) (rqAt l (bestTo p l h hour i).1) = true)) : bestTo p l h hour (i + 1) = ((i : Int), clsAt p l h hour i) := if_pos k
theorem best_0 {p : Pol} {l : List Rq} {h : List Sv} {hour : Int} {i : Nat} (k : ¬ ((bestTo p l h hour i).2 < clsAt p l h hour i ∨ (0 < clsAt p l h hour i /\ clsAt p l h hour i = (bestTo p l h hour i).2 /\ aheadB (clsAt p l h hour i) (l.getD i zeroQ) (rqAt l (bestTo p l h hour i).1) = true))) : bestTo p l h hour (i + 1) = bestTo p l h hour i := if_neg k
theorem by_0 {f : Fleet} {l : List Rq} {h : List Sv} {hour place : Int} {b : Nat} (k : hour < ((brH f l h h.length).getD b zeroB).free) : byTo f l h hour place (b + 1) = byTo f l h hour place b := if_pos k
theorem by_1 {f : Fleet} {l : List Rq} {h : List Sv} {hour place : Int} {b : Nat} (k : ¬ hour < ((brH f l h h.length).getD b zeroB).free) (k2 : byTo f l h hour place b < 0 ∨ trav f ((brH f l h h.length).getD b zeroB).at_ place < trav f ((brH f l h h.length).getD (Int.toNat (byTo f l h hour place b)) zeroB).at_ place) : byTo f l h hour place (b + 1) = (b : Int) := (if_neg k).trans (if_pos k2)
theorem by_2 {f : Fleet} {l : List Rq} {h : List Sv} {hour place : Int} {b : Nat} (k : ¬ hour < ((brH f l h h.length).getD b zeroB).free) (k2 : ¬ (byTo f l h hour place b < 0 ∨ trav f ((brH f l h h.length).getD b zeroB).at_ place < trav f ((brH f l h h.length).getD (Int.toNat (byTo f l h hour place b)) zeroB).at_ place)) : byTo f l h hour place (b + 1) = byTo f l h hour place b := (if_neg k).trans (if_neg k2)
theorem plH_app (f : Fleet) (l : List Rq) (h : List Sv) (s : Sv) : ∀ k, k <= h.length -> plH f l (h ++ [s]) k = plH f l h k
 | 0, _ => rfl
 | k + 1, hk => by
  show (plH f l (h ++ [s]) k).set _ _ = (plH f l h k).set _ _
  rw [plH_app f l h s k (by omega), svAt_l (by omega)]
theorem ovN_len (l : List Rq) (h : List Sv) : ∀ k, (ovN l h k).length = l.length
 | 0 => List.length_replicate ..
 | k + 1 => tabP_len ..
theorem ovN_app (l : List Rq) (h : List Sv) (s : Sv) : ∀ k, k <= h.length -> ovN l (h ++ [s]) k = ovN l h k
 | 0, _ => rfl
 | k + 1, hk => by
  have e1 : metH l.length (h ++ [s]) (k + 1) = metH l.length h (k + 1) := by unfold metH; rw [take_app hk]
  show tabP _ _ = tabP _ _
  rw [ovN_app l h s k (by omega), e1, svAt_l (by omega)]
theorem ovN_new {l : List Rq} {h : List Sv} {s : Sv} {i : Nat} (hi : i < l.length) : (ovN l (h ++ [s]) (h.length + 1)).getD i 0 = (ovN l h h.length).getD i 0 + (if (!((metH l.length (h ++ [s]) (h.length + 1)).getD i false) && befB (l.getD i zeroQ) (rqAt l s.rq)) = true then 1 else 0) := by
 show (tabP _ _).getD i 0 = _
 rw [tabP_get hi, ovN_app l h s _ (Nat.le_refl _), svAt_r]
theorem ovN_in {l : List Rq} {h : List Sv} {i : Nat} (hi : i < l.length) : ∀ k : Nat, 0 <= (ovN l h k).getD i 0 /\ (ovN l h k).getD i 0 <= (k : Int)
 | 0 => by
  show 0 <= (List.replicate l.length (0 : Int)).getD i 0 /\ (List.replicate l.length (0 : Int)).getD i 0 <= _
  rw [List.getD_eq_getElem?_getD, List.getElem?_replicate, if_pos hi]
  decide
 | k + 1 => by
  have ih := ovN_in (h := h) hi k
  have e : (ovN l h (k + 1)).getD i 0 = (ovN l h k).getD i 0 + if (!((metH l.length h (k + 1)).getD i false) && befB (l.getD i zeroQ) (rqAt l (svAt h k).rq)) = true then 1 else 0 := tabP_get hi
  rw [e]
  split <;> omega
theorem set_self {l : List Int} {j : Nat} (h : j < l.length) : l.set j (l.getD j 0) = l := by
 refine list_ext 0 (by rw [List.length_set]) fun k hk => ?_
 rw [List.length_set] at hk
 rw [getD_setN hk]
 split
 ·rename_i e; rw [e]
 ·rfl
theorem crN_lt {p : Nat -> Bool} {n i0 : Nat} (h0 : i0 < n) (hp : p i0 = false) : crN p n < n := by
 have e := crN_one hp (n := n)
 rw [if_pos h0] at e
 have m := crN_mono (p := fun i => p i || decide (i = i0)) (r := fun _ => true) (n := n) (fun _ _ _ => rfl)
 rw [crN_true, e] at m
 omega
theorem sv_snoc (g : List Sv) (s : Sv) : List.take (g.length * 5) (List.drop 0 (g.flatMap svC)) ++ List.take (1 * 5) (List.drop 0 (svC s)) = (g ++ [s]).flatMap svC := by
 rw [List.drop_zero, List.drop_zero, List.take_of_length_le (by rw [flat_len svC_len]; exact Nat.le_refl _), List.take_of_length_le (by rw [svC_len]; exact Nat.le_refl _), List.flatMap_append]
 simp
end
end Go.Proofs.YthdekmpkioikdaaGreat
/- What is to be shown of functions. Printed by a program. No condition. -/
namespace Go.Proofs.YthdekmpkioikdaaGreat
set_option linter.unusedSimpArgs false
open Go Go.K
set_option maxRecDepth 100000
set_option maxHeartbeats 4000000
set_option linter.unusedVariables false
noncomputable section
abbrev jhb (f : Fleet) : Prop:=(someR (.cells false 0 (inL f.t))) /\ (someR (.cells false 0 (f.b.flatMap intC))) /\ True
abbrev jha (H' : Heap) (f : Fleet) : Prop:=H'[0]? = some (.cells false 0 (inL f.t) : KObj) /\ H'[1]? = some (.cells false 0 (f.b.flatMap intC) : KObj) /\ True
abbrev jh3 (f : Fleet) (l : List Rq) : Prop:=(someR (.cells false 0 (inL f.t))) /\ (someR (.cells false 0 (f.b.flatMap intC))) /\ (someR (.cells false 0 (l.flatMap rqC))) /\ True
abbrev jh1 (H' : Heap) (f : Fleet) (l : List Rq) : Prop:=H'[0]? = some (.cells false 0 (inL f.t) : KObj) /\ H'[1]? = some (.cells false 0 (f.b.flatMap intC) : KObj) /\ H'[2]? = some (.cells false 0 (l.flatMap rqC) : KObj) /\ True
abbrev jh2 (f : Fleet) (p : Pol) (l : List Rq) : List Value:=[.agg #[slQ 0 2 f.t.length,slQ 1 2 f.b.length],.agg #[nI p.ov,nI p.warn,nI p.w0,nI p.w1,nI p.w2],slQ 2 2 l.length]
abbrev jh7 (f : Fleet) (l : List Rq):=readsT 0 [inL f.t,f.b.flatMap intC,l.flatMap rqC]
abbrev jhf (f : Fleet) : List (Nat × KObj):=[(0,.cells false 0 (inL f.t)),(1,.cells false 0 (f.b.flatMap intC))]
abbrev jh4 (f : Fleet) (l : List Rq) : List (Nat × KObj):=[(0,.cells false 0 (inL f.t)),(1,.cells false 0 (f.b.flatMap intC)),(2,.cells false 0 (l.flatMap rqC))]
def RCheck (sp : Value) (f : Fleet) (p : Pol) (l : List Rq) : Prop :=
 ((jhb f) /\ (∀ H' : Heap,H'.length = 5 -> (jha H' f) -> KCall prog 75 [.agg #[slQ 0 2 f.t.length,slQ 1 2 f.b.length]] H' [] (Is (nI (errFl f)) H')) /\ ((True) /\ (∀ H' : Heap,H'.length = 5 -> (True) -> KCall prog 76 [.agg #[nI p.ov,nI p.warn,nI p.w0,nI p.w1,nI p.w2]] H' [] (Is (nI (errPol p)) H')) /\ ((jh3 f l) /\ (∀ H' : Heap,H'.length = 5 -> (jh1 H' f l) -> KCall prog 77 [.agg #[slQ 0 2 f.t.length,slQ 1 2 f.b.length],slQ 2 2 l.length] H' [] (Is (nI (errRq f.t.length l)) H')) /\ (((((errFl f) : Int) != 0) = true -> (nI (errFl f) : Value) = sp) /\ ((((errFl f) : Int) != 0) = false -> (((((errPol p) : Int) != 0) = true -> (nI (errPol p) : Value) = sp) /\ ((((errPol p) : Int) != 0) = false -> (((((errRq f.t.length l) : Int) != 0) = true -> (nI (errRq f.t.length l) : Value) = sp) /\ ((((errRq f.t.length l) : Int) != 0) = false -> (nI 0 : Value) = sp)))))))))
theorem ECheck (sp : Value) (f : Fleet) (p : Pol) (l : List Rq) : vF prog msk (dm 0) 100000 true 40 true 30 (jh2 f p l) (jh7 f l) (some [])
 (.go 6 (.ans (jhf f) (nI (errFl f)) [] (.ans [] (nI (errPol p)) [] (.ans (jh4 f l) (nI (errRq f.t.length l)) [] (.go 12 (.fork (.auto) (.go 8 (.fork (.auto) (.go 8 (.fork (.auto) (.auto)))))))))))
 (fun v _ _ => v = sp) = RCheck sp f p l:=by kernel_rfl
end
end Go.Proofs.YthdekmpkioikdaaGreat
/- Request: histories copied and compared; right fleets, policies and requests; a policy's history or the error. No condition. -/
namespace Go.Proofs.YthdekmpkioikdaaGreat
open Go Go.K
set_option maxRecDepth 100000
set_option linter.unusedVariables false
set_option linter.unusedSimpArgs false
noncomputable section
attribute [local irreducible] vF
theorem kCheck (f : Fleet) (p : Pol) (l : List Rq) (ht : f.t.length <= 4294967296) (hb : f.b.length <= 4294967296) (hs : shortI f.t) {H : Heap} {i0 i1 i2 : Nat} {o0 o1 o2 : Bool} {z0 z1 z2 : Nat} (e0 : H[i0]? = some (.cells o0 z0 (inL f.t))) (e1 : H[i1]? = some (.cells o1 z1 (f.b.flatMap intC))) (e2 : H[i2]? = some (.cells o2 z2 (l.flatMap rqC))) :
  KCall prog 30 [fleetV f i0 i1, .agg ⟨polC p⟩, .slice (some ⟨i2, 0, some 2⟩) l.length l.length] H [] (Is (.int .i64 (errAll f p l)) H) := by
 refine valRx (Eq.mpr (ECheck _ f p l) ?_) ⟨inL_b 0 _, plainIL 0 _, plainRQ 0 _, trivial⟩ rfl (ids := [i0, i1, i2]) ⟨⟨_, _, e0⟩, ⟨_, _, e1⟩, ⟨_, _, e2⟩, trivial⟩ rfl
 delta RCheck jhb jha jh3 jh1; unfold errAll
 refine ⟨⟨rfl, rfl, trivial⟩, fun H' _ hd => kFl f ht hb hs hd.1 hd.2.1, trivial, fun H' _ _ => kPol p H', ⟨rfl, rfl, rfl, trivial⟩, fun H' _ hd => kRq f l ht hd.1 hd.2.1 hd.2.2.1, forkNe (fun c => iEq ?_) (fun c => forkNe (fun d => iEq ?_) (fun d => forkNe (fun e => iEq ?_) (fun e => iEq ?_)))⟩
 ·rw [first2_1 c, first2_1 c]
 ·rw [first2_2 c, first2_1 d]
 ·rw [first2_2 c, first2_2 d]
 ·rw [first2_2 c, first2_2 d, e]
abbrev runV (i : Nat) (r : List Sv × Int) : Value := .tuple #[.slice (some ⟨i, 0, some 2⟩) r.1.length r.1.length, .int .i64 r.2]
theorem errAll_0 {f : Fleet} {p : Pol} {l : List Rq} (h : errAll f p l = 0) : errFl f = 0 /\ errPol p = 0 /\ errRq f.t.length l = 0 := by
 obtain ⟨h1, h2⟩ := first2_0 h
 obtain ⟨h3, h4⟩ := first2_0 h1
 exact ⟨h3, h4, h2⟩
end
end Go.Proofs.YthdekmpkioikdaaGreat
/- What is to be shown of functions. Printed by a program. No condition. -/
namespace Go.Proofs.YthdekmpkioikdaaGreat
set_option linter.unusedSimpArgs false
open Go Go.K
set_option maxRecDepth 100000
set_option maxHeartbeats 4000000
set_option linter.unusedVariables false
noncomputable section
def RPick (sp : Value) (x n : Int) : Prop :=
 (((decide ((n : Int) < 1)) = true -> (nI 0 : Value) = sp) /\ ((decide ((n : Int) < 1)) = false -> (((n : Int) ≠ 0) /\ (((decide (((Int.tmod x n) : Int) < 0)) = true -> ((nI (IntKind.wrap .i64 ((Int.tmod x n) + n)) : Value) = nI ((Int.tmod x n) + n) /\ (nI ((Int.tmod x n) + n) : Value) = sp)) /\ ((decide (((Int.tmod x n) : Int) < 0)) = false -> (nI (Int.tmod x n) : Value) = sp)))))
theorem EPick (sp : Value) (x n : Int) : vF prog msk (dm 0) 100000 true 40 true 21 [nI x,nI n] ⟨0,.leaf⟩ (some [])
 (.go 2 (.fork (.auto) (.go 1 (.need (.go 2 (.fork (.go 2 (.slot 15 (nI ((Int.tmod x n) + n)) (.auto))) (.auto)))))))
 (fun v _ _ => v = sp) = RPick sp x n:=by kernel_rfl
end
end Go.Proofs.YthdekmpkioikdaaGreat
/- Closed calls: blocks that are read,by their addresses. No condition. -/
namespace Go.Proofs.YthdekmpkioikdaaGreat
set_option linter.unusedSimpArgs false
set_option linter.unusedVariables false
open Go Go.K
noncomputable section
abbrev sL (i n c : Nat) : Value:=.slice (some ⟨i,0,none⟩) n c
def InsA (H : Heap) (σ : Nat -> Option Nat) : List Nat -> List (List Value) -> Prop
 | [],[] => True
 | i :: is,c :: cs => (∃ own z,H[i]? = some (KObj.cells own z (c.map (rn σ 3)))) /\ InsA H σ is cs
 | _,_ => False
theorem InsA.len {H : Heap} {σ : Nat -> Option Nat} : ∀ {ids : List Nat} {css : List (List Value)},InsA H σ ids css -> ids.length = css.length
 | [],[],_ => rfl
 | i :: is,c :: cs,h => by rw [List.length_cons,List.length_cons,h.2.len]
theorem InsA.get {H : Heap} {σ : Nat -> Option Nat} : ∀ {ids : List Nat} {css : List (List Value)},InsA H σ ids css -> ∀ (k : Nat) (cs : List Value),css[k]? = some cs -> ∃ id own z,ids[k]? = some id /\ H[id]? = some (KObj.cells own z (cs.map (rn σ 3)))
 | [],[],_,k,d,e => by cases e
 | i :: is,c :: cs,h,0,d,e => by cases e; obtain ⟨own,z,h1⟩:=h.1; exact ⟨i,own,z,rfl,h1⟩
 | i :: is,c :: cs,h,k + 1,d,e => h.2.get k d e
abbrev jz0 : List Value:=[nI 1,nI 0,nI 1,nI 1,nI 10,nI 1,nI 0,nI 2,nI 1,nI 0,nI 0,nI 5,nI 1,nI 0,nI 3,nI 2,nI 0,nI 0,nI 5,nI 3,nI 0]
abbrev jz1 : List Value:=[.agg #[nI 1,nI 0,nI 1,nI 1,nI 1],.agg #[sL 0 2 2,sL 1 1 1],sL 2 3 3,sL 3 1 1]
abbrev jz2 : KObj:=.cells false 0 [nI 0,nI 4]
abbrev jz3 : KObj:=.cells false 0 [nI 4,nI 0]
abbrev jz4 : KObj:=.cells false 0 [nI 0]
abbrev jz5 : KObj:=.cells false 0 [sL 3 2 2,sL 4 2 2]
abbrev jz6 : KObj:=.cells false 0 jz0
abbrev jz7 : List Value:=[.agg #[nI 1,nI 0,nI 1,nI 1,nI 1],.agg #[sL 0 2 2,sL 1 1 1],sL 2 3 3,sL 3 1 1,nI 32]
abbrev jz8 : Hint:=.go 6 (.into (some [7,8]) (.go 64 (.into (some (List.range' 7 8)) (.go 89 (.into (some (List.range' 7 10)) (.go 89 (.into (some (List.range' 7 12)) (.go 74 (.into (some (List.range' 7 14)) (.go 3 (.into (some (List.range' 7 14)) (.go 11 (.into (some (List.range' 7 14)) (.go 437 (.into (some (List.range' 7 20)) (.go 79 (.into (some (List.range' 7 26)) (.go 28 (.into (some (List.range' 7 26)) (.go 11 (.into (some (List.range' 7 26)) (.auto))))))))))))))))))))))
abbrev jz9 : Hint:=.go 6 (.into (some [7,8]) (.go 64 (.into (some (List.range' 7 8)) (.go 89 (.into (some (List.range' 7 10)) (.go 74 (.into (some (List.range' 7 12)) (.go 3 (.into (some (List.range' 7 12)) (.go 11 (.into (some (List.range' 7 12)) (.go 366 (.into (some (List.range' 7 18)) (.go 55 (.into (some (List.range' 7 22)) (.go 28 (.into (some (List.range' 7 22)) (.go 11 (.into (some (List.range' 7 22)) (.auto))))))))))))))))))))
abbrev jza : List Value:=[.bool false,.bool false,.bool true,.bool true,.bool false,.bool false,.bool true,.bool false,.bool true,.bool false,.bool false,.bool true,.bool false,.bool true]
abbrev jzb : KObj:=.cells false 0 [sL 4 2 2,sL 5 2 2]
abbrev jzc : Nat × KObj:=(0,.cells false 0 [sL 3 2 2,sL 4 2 2])
abbrev jzd : Nat × KObj:=(1,.cells false 0 [nI 0])
abbrev jze : Nat × KObj:=(2,.cells false 0 jz0)
abbrev jzf : Nat × KObj:=(3,.cells false 0 [nI 0,nI 4])
abbrev jzg : Nat × KObj:=(4,.cells false 0 [nI 4,nI 0])
abbrev jzh : Hint:=.go 6 (.into (some [7,8]) (.go 64 (.into (some (List.range' 7 8)) (.go 74 (.into (some (List.range' 7 10)) (.go 3 (.into (some (List.range' 7 10)) (.go 11 (.into (some (List.range' 7 10)) (.go 275 (.into (some (List.range' 7 16)) (.go 31 (.into (some (List.range' 7 18)) (.go 28 (.into (some (List.range' 7 18)) (.go 11 (.into (some (List.range' 7 18)) (.auto))))))))))))))))))
abbrev jzi : Nat × KObj:=(0,.cells false 0 [sL 4 2 2,sL 5 2 2])
abbrev jzj : List Value:=[.agg #[sL 0 2 2,sL 1 1 1],.agg #[nI 1,nI 0,nI 1,nI 1,nI 1],sL 2 3 3]
abbrev jzk:=readsT 0 [[sL 3 2 2,sL 4 2 2],[nI 0],jz0,[nI 0,nI 4],[nI 4,nI 0]]
abbrev jzl : Nat × KObj:=(4,.cells false 0 [nI 0,nI 4])
abbrev jzm : Nat × KObj:=(5,.cells false 0 [nI 4,nI 0])
abbrev jzn : List Value:=[nI 0,nI 0,nI 0,nI 4,nI 14,nI 2,nI 0,nI 14,nI 18,nI 23,nI 1,nI 0,nI 23,nI 23,nI 28]
abbrev jzo : Hint:=.go 41 (.into (some [7,8]) (.go 64 (.into (some (List.range' 7 8)) (.go 89 (.into (some (List.range' 7 10)) (.go 89 (.into (some (List.range' 7 12)) (.go 74 (.into (some (List.range' 7 14)) (.go 3 (.into (some (List.range' 7 14)) (.go 11 (.into (some (List.range' 7 14)) (.go 94 (.into (some (List.range' 7 14)) (.go 3 (.into (some (List.range' 7 15)) (.go 79 (.into (some (List.range' 7 21)) (.go 28 (.into (some (List.range' 7 21)) (.go 11 (.into (some (List.range' 7 21)) (.auto))))))))))))))))))))))))
abbrev jzp : Value:=.tuple #[nI 42,.bool false]
abbrev jzq : List Value:=[nI 1,nI 0,nI 2]
abbrev jzr (H' : Heap) : Prop:=H'[0]? = some jz5 /\ H'[1]? = some jz4 /\ H'[2]? = some jz6 /\ H'[3]? = some jz2 /\ H'[4]? = some jz3 /\ True
abbrev jz1q : KObj:=.cells true 1 [nI 0,nI 4]
abbrev jz1r : KObj:=.cells true 1 [nI 4,nI 0]
abbrev jzs : Prop:=(someR jz1q) /\ (someR jz1r) /\ True
abbrev jzt : KObj:=.cells false 0 [sL 6 2 2]
abbrev jzu : Prop:=(someR jz5) /\ (someR jz4) /\ (someR jz6) /\ (someR jz2) /\ (someR jz3) /\ True
abbrev jzv : KObj:=.cells true 1 [nI 0]
abbrev jzw : KObj:=.cells true 1 jzq
abbrev jzx : List Value:=[nI 1,nI 2,nI 0]
abbrev jzy : List Value:=[nI 2,nI 0,nI 1]
abbrev jzz : List Value:=[nI 2,nI 1,nI 0]
abbrev jz10 : List Value:=[.agg #[nI 1,nI 0,nI 1,nI 1,nI 1],.agg #[sL 0 2 2,sL 1 1 1],sL 2 3 3]
abbrev jz11 : List Value:=jz1
abbrev jz12 : KObj:=.cells false 0 [sL 6 3 3]
abbrev jz13 : List Value:=[.slice none 0 0]
abbrev jz14 : List Value:=jz7
abbrev jz15 : List (Bool × KObj):=[(false,.cells true 1 [sL 6 3 3]),(false,.cells true 1 jzq)]
abbrev jz2y : KObj:=.cells true 1 [nI 0,nI 1]
abbrev jz16 : Prop:=(someR jz2) /\ (someR jz3) /\ (someR jz2y) /\ True
abbrev jz2z : KObj:=.cells true 1 [nI 0,nI 2]
abbrev jz17 : Prop:=(someR jz2) /\ (someR jz3) /\ (someR jz2z) /\ True
abbrev jz18 : KObj:=.cells true 7 jz0
abbrev jz19 : KObj:=.cells false 0 [sL 6 1 1]
abbrev jz1a : Prop:=(someR jz2) /\ (someR jz3) /\ (someR (.cells true 1 jzx : KObj)) /\ True
abbrev jz1b : Prop:=(someR jz2) /\ (someR jz3) /\ (someR (.cells true 1 jzy : KObj)) /\ True
abbrev jz1c : Prop:=(someR jz2) /\ (someR jz3) /\ (someR (.cells true 1 jzz : KObj)) /\ True
abbrev jz1d : Value:=.tuple #[nI 29,.bool false]
abbrev jz1e : Value:=.tuple #[nI 10,.bool false]
abbrev jz1f : Value:=.tuple #[nI 28,.bool false]
abbrev jz1g : Value:=.tuple #[nI 32,.bool false]
abbrev jz1h : Value:=.tuple #[nI 15,.bool false]
abbrev jz1i : Value:=.tuple #[nI 19,.bool false]
abbrev jz1j : Value:=.tuple #[nI 13,.bool false]
abbrev jz1k : Value:=.tuple #[nI 31,.bool false]
abbrev jz1l : Value:=.tuple #[nI 35,.bool false]
abbrev jz1m : Value:=.tuple #[nI 18,.bool false]
abbrev jz1n : Value:=.tuple #[nI 22,.bool false]
abbrev jz1o : Nat × KObj:=(3,.cells false 0 [sL 6 2 2])
abbrev jz1p : Value:=.tuple #[nI 0,.bool false]
abbrev jz1s : Prop:=(someR jz5) /\ (someR jz4) /\ (someR jz6) /\ (someR (.cells true 1 jz13 : KObj)) /\ (someR jz2) /\ (someR jz3) /\ True
abbrev jz1t : Value:=.bool false
abbrev jz1u:=some (List.range' 6 14)
abbrev jz1v (H' : Heap):=Is (.bool true) H'
abbrev jz1w : Value:=.tuple #[nI 42,.bool false]
abbrev jz1x:=readsT 0 [[sL 4 2 2,sL 5 2 2],[nI 0],jz0,[sL 6 2 2],[nI 0,nI 4],[nI 4,nI 0],[nI 0,nI 1]]
abbrev jz1y:=readsT 0 [[sL 4 2 2,sL 5 2 2],[nI 0],jz0,[sL 6 2 2],[nI 0,nI 4],[nI 4,nI 0],[nI 0,nI 2]]
abbrev jz1z:=readsT 0 [[sL 4 2 2,sL 5 2 2],[nI 0],jz0,[sL 6 2 2],[nI 0,nI 4],[nI 4,nI 0],[nI 1,nI 0]]
abbrev jz20:=readsT 0 [[sL 4 2 2,sL 5 2 2],[nI 0],jz0,[sL 6 2 2],[nI 0,nI 4],[nI 4,nI 0],[nI 1,nI 2]]
abbrev jz21:=readsT 0 [[sL 4 2 2,sL 5 2 2],[nI 0],jz0,[sL 6 2 2],[nI 0,nI 4],[nI 4,nI 0],[nI 2,nI 0]]
abbrev jz22:=readsT 0 [[sL 4 2 2,sL 5 2 2],[nI 0],jz0,[sL 6 2 2],[nI 0,nI 4],[nI 4,nI 0],[nI 2,nI 1]]
abbrev jz23 : Value:=.bool true
abbrev jz24 : Prop:=(someR jz2) /\ (someR jz3) /\ (someR jzw) /\ True
abbrev jz25 : KObj:=.cells true 1 [nI 1,nI 0]
abbrev jz26 : KObj:=.cells true 1 [nI 1,nI 2]
abbrev jz27 : KObj:=.cells true 1 [nI 2,nI 0]
abbrev jz28 : KObj:=.cells true 1 [nI 2,nI 1]
abbrev jz29 : List Value:=[.agg #[sL 0 2 2,sL 1 1 1],.agg #[nI 1,nI 0,nI 1,nI 1,nI 1],sL 2 3 3,nI 32,sL 3 14 14]
abbrev jz2a:=readsT 0 [[sL 4 2 2,sL 5 2 2],[nI 0],jz0,[sL 6 1 1],[nI 0,nI 4],[nI 4,nI 0],[nI 0]]
abbrev jz2b:=readsT 0 [[sL 4 2 2,sL 5 2 2],[nI 0],jz0,[sL 6 1 1],[nI 0,nI 4],[nI 4,nI 0],[nI 1]]
abbrev jz2c:=readsT 0 [[sL 4 2 2,sL 5 2 2],[nI 0],jz0,[sL 6 1 1],[nI 0,nI 4],[nI 4,nI 0],[nI 2]]
abbrev jz2d:=some (List.range' 5 100)
abbrev jz2e : KObj:=.cells true 1 jza
abbrev jz2f:=readsT 0 [[sL 4 2 2,sL 5 2 2],[nI 0],jz0,[sL 6 3 3],[nI 0,nI 4],[nI 4,nI 0],jzq]
abbrev jz2g:=readsT 0 [[sL 4 2 2,sL 5 2 2],[nI 0],jz0,[sL 6 3 3],[nI 0,nI 4],[nI 4,nI 0],jzx]
abbrev jz2h:=readsT 0 [[sL 4 2 2,sL 5 2 2],[nI 0],jz0,[sL 6 3 3],[nI 0,nI 4],[nI 4,nI 0],jzy]
abbrev jz2i:=readsT 0 [[sL 4 2 2,sL 5 2 2],[nI 0],jz0,[sL 6 3 3],[nI 0,nI 4],[nI 4,nI 0],jzz]
abbrev jz2j : List Value:=[.agg #[sL 0 2 2,sL 1 1 1],.agg #[nI 1,nI 0,nI 1,nI 1,nI 1],sL 2 3 3,nI 32]
abbrev jz2k : Nat × KObj:=(3,.cells false 0 [sL 6 3 3])
abbrev jz2l:=readsT 0 [[sL 4 2 2,sL 5 2 2],[nI 0],jz0,jz13,[nI 0,nI 4],[nI 4,nI 0]]
abbrev jz2m : KObj:=.cells true 1 [nI 1]
abbrev jz2n : KObj:=.cells true 1 [nI 2]
abbrev jz2o : Value:=.tuple #[.bool true,nI 0]
abbrev jz2p : List Value:=[nI 0,nI 1,nI 2]
abbrev jz2q : List Value:=[nI 0,nI 2,nI 1]
abbrev jz2r (H' : Heap):=Is (.bool false) H'
abbrev jz2s:=some (List.range' 5 163)
abbrev jz2t:=some (List.range' 5 213)
abbrev jz2u:=some (List.range' 5 285)
abbrev jz2v : Prop:=(someR jzv) /\ (someR jz18) /\ jzs
abbrev jz2w:=some (List.range' 5 50)
abbrev jz2x:=some (List.range' 5 57)
abbrev jz30 : KObj:=.cells true 1 [sL 146 3 3]
abbrev jz31 : Value:=.tuple #[nI 60,nI 0]
abbrev jz32 : List Value:=[.agg #[sL 0 2 2,sL 1 1 1],.agg #[nI 2,nI 12,nI 10]]
abbrev jz33 : Nat × KObj:=(3,.cells false 0 [sL 6 1 1])
abbrev jz34:=some [5,6,7,8,9,10,11]
abbrev jz35 : Prop:=(someR jz2) /\ (someR jz3) /\ (someR jz2m) /\ True
abbrev jz36 : Prop:=(someR jz2) /\ (someR jz3) /\ (someR jz25) /\ True
abbrev jz37 : Prop:=(someR jz2) /\ (someR jz3) /\ (someR jz26) /\ True
abbrev jz38 : Prop:=(someR jz2) /\ (someR jz3) /\ (someR jz2n) /\ True
abbrev jz39 : Prop:=(someR jz2) /\ (someR jz3) /\ (someR jz27) /\ True
abbrev jz3a : Prop:=(someR jz2) /\ (someR jz3) /\ (someR jz28) /\ True
abbrev jz3b : Prop:=(someR jz2) /\ (someR jz3) /\ (someR jzv) /\ True
end
end Go.Proofs.YthdekmpkioikdaaGreat
/- Closed calls of the chapter's examples. Printed by a program. No condition. -/
namespace Go.Proofs.YthdekmpkioikdaaGreat
set_option linter.unusedSimpArgs false
open Go Go.K
set_option maxRecDepth 1000000
set_option maxHeartbeats 4000000
set_option linter.unusedVariables false
noncomputable section
attribute [local irreducible] vF
def R30_k (sp : Value) : Prop :=
 (nI 0 : Value) = sp
theorem E30_k (sp : Value) : vF prog msk (dm 0) 100000 true 40 true 30 jzj jzk (some [])
 (.auto)
 (fun v _ _ => v = sp) = R30_k sp:=by kernel_rfl
theorem P30_k : R30_k (nI 0):=rfl
theorem C30_k {H : Heap} (ids : List Nat) (h : InsA H (sgR 0 ids) ids [[sL 3 2 2,sL 4 2 2],[nI 0],jz0,[nI 0,nI 4],[nI 4,nI 0]]) : KCall prog 30 ((jzj : List Value).map (rn (sgR 0 ids) 3)) H [] (Is (nI 0) H) :=
 valRA (css:=[[sL 3 2 2,sL 4 2 2],[nI 0],jz0,[nI 0,nI 4],[nI 4,nI 0]]) (Eq.mpr (E30_k _) P30_k) rfl ids h.len h.get
def R39_l (sp : Value) : Prop :=
 (.tuple #[nI 60,nI 0] : Value) = sp
theorem E39_l (sp : Value) : vF prog msk (dm 0) 100000 true 40 true 39 jz32 (readsT 0 [[sL 2 2 2,sL 3 2 2],[nI 0],[nI 0,nI 4],[nI 4,nI 0]]) (some [])
 (.auto)
 (fun v _ _ => v = sp) = R39_l sp:=by kernel_rfl
theorem P39_l : R39_l jz31:=rfl
theorem C39_l {H : Heap} (ids : List Nat) (h : InsA H (sgR 0 ids) ids [[sL 2 2 2,sL 3 2 2],[nI 0],[nI 0,nI 4],[nI 4,nI 0]]) : KCall prog 39 ((jz32 : List Value).map (rn (sgR 0 ids) 3)) H [] (Is jz31 H) :=
 valRA (css:=[[sL 2 2 2,sL 3 2 2],[nI 0],[nI 0,nI 4],[nI 4,nI 0]]) (Eq.mpr (E39_l _) P39_l) rfl ids h.len h.get
end
end Go.Proofs.YthdekmpkioikdaaGreat
/- Closed calls of the chapter's examples. Printed by a program. No condition. -/
namespace Go.Proofs.YthdekmpkioikdaaGreat
set_option linter.unusedSimpArgs false
open Go Go.K
set_option maxRecDepth 1000000
set_option maxHeartbeats 4000000
set_option linter.unusedVariables false
noncomputable section
attribute [local irreducible] vF
def R29_j : Prop :=
 (jzu /\ (∀ H' : Heap,H'.length = 7 -> (jzr H') -> KCall prog 30 jzj H' [] (Is (nI 0) H')) /\ (true = true /\ wk (.tuple #[sL 98 3 3,nI 0] : Value) (rn (sg 5 [(5,98)]) 3 (.tuple #[sL 5 3 3,nI 0] : Value)) /\ (wkO (.cells true 5 jzn : KObj) (rno (sg 5 [(5,98)]) 3 (.cells true 5 jzn : KObj)) /\ True)))
theorem E29_j : vF prog msk (dm 0) 100000 true 40 true 29 jzj jzk (some [])
 (.go 6 (.ans [jzc,jzd,jze,jzf,jzg] (nI 0) [] (.go 29 (.into jz34 (.go 360 (.into (some (List.range' 5 19)) (.go 150 (.into (some (List.range' 5 29)) (.go 80 (.into (some (List.range' 5 32)) (.go 84 (.into (some (List.range' 5 35)) (.go 70 (.into (some (List.range' 5 38)) (.go 18 (.into (some ([43] ++ List.range' 5 38)) (.go 19 (.into (some (List.range' 5 39)) (.go 67 (.into (some (List.range' 5 44)) (.go 542 (.into (some (List.range' 5 47)) (.go 109 (.into jz2x (.go 114 (.into (some (List.range' 5 60)) (.go 122 (.into (some (List.range' 5 63)) (.go 267 (.into (some (List.range' 5 66)) (.go 18 (.into (some ([71] ++ List.range' 5 66)) (.go 19 (.into (some (List.range' 5 67)) (.go 67 (.into (some (List.range' 5 72)) (.go 255 (.into (some (List.range' 5 75)) (.go 84 (.into (some (List.range' 5 85)) (.go 77 (.into (some (List.range' 5 88)) (.go 18 (.into (some ([93] ++ List.range' 5 88)) (.go 19 (.into (some (List.range' 5 89)) (.go 67 (.into (some (List.range' 5 94)) (.go 59 (.again [(5,98)]))))))))))))))))))))))))))))))))))))))))))))))))))
 (newK jzk.n 3 (.tuple #[sL 5 3 3,nI 0]) [(false,.cells true 5 jzn)]) = R29_j:=by kernel_rfl
theorem P29_j : R29_j:=⟨⟨rfl,rfl,rfl,rfl,rfl,trivial⟩,fun H' _ h => C30_k [0,1,2,3,4] ⟨⟨_,_,h.1⟩,⟨_,_,h.2.1⟩,⟨_,_,h.2.2.1⟩,⟨_,_,h.2.2.2.1⟩,⟨_,_,h.2.2.2.2.1⟩,trivial⟩,⟨rfl,wk_of_eq rfl,wkO_of_eq rfl,trivial⟩⟩
theorem C29_j {H : Heap} (ids : List Nat) (h : InsA H (sgR 0 ids) ids [[sL 3 2 2,sL 4 2 2],[nI 0],jz0,[nI 0,nI 4],[nI 4,nI 0]]) : KCall prog 29 ((jzj : List Value).map (rn (sgR 0 ids) 3)) H [] (Is (rn (sgUp 5 H.length) 3 (.tuple #[sL 5 3 3,nI 0])) (H ++ [rno (sgUp 5 H.length) 3 (.cells true 5 jzn)])) :=
 valNA (css:=[[sL 3 2 2,sL 4 2 2],[nI 0],jz0,[nI 0,nI 4],[nI 4,nI 0]]) (v:=.tuple #[sL 5 3 3,nI 0]) (new:=[(false,.cells true 5 jzn)]) (Eq.mpr E29_j P29_j) rfl rfl rfl rfl ids h.len h.get
end
end Go.Proofs.YthdekmpkioikdaaGreat
