/- What is to be shown of functions. Printed by a program. No condition. -/
import Derived.Test.YthdekmpkioikdaaGreatGK27xR1
import Derived.Shelf.Sort.Plain
import Derived.Ground.Names2Prog
import Derived.Test.YthdekmpkioikdaaGreatChecked
import Derived.Sort.Grow
import Derived.Deep.Draws
namespace Go.Proofs.YthdekmpkioikdaaGreat
set_option linter.unusedSimpArgs false
open Go Go.K
set_option maxRecDepth 100000
set_option maxHeartbeats 4000000
set_option linter.unusedVariables false
noncomputable section
abbrev jbd : Value:=nI 0
abbrev jbt : Int:=(0 : Nat)
abbrev jb6 (l : List Int) : Value:=.iface (l.length + 1) (.agg ⟨(l.flatMap intC)⟩)
abbrev jb8 (l : List Int) : Int:=(l.length : Nat)
abbrev jbp (l : List Int) : Prop:=(.func (.func 132) #[] #[] : Value) = .func (.func 132) #[] #[] /\ (jb6 l) = rn (sg 0 []) 3 (jb6 l) /\ (nI (jb8 l) : Value) = nI (jb8 l) /\ True
abbrev jbc : Prop:=(True) /\ (True)
abbrev jb1b : Prop:=(True) /\ jbc
abbrev jbl : Prop:=∀ x0 : Nat,true = true
abbrev jbj (x0 : Nat) : Int:=(x0 : Int)
abbrev jb1g (x0 : Nat) : Value:=.bool (decide ((0 : Int) <= (x0 : Int)))
abbrev jbe (x0 : Nat) : Value:=nI (IntKind.wrap .i64 ((x0 : Int) + 1))
abbrev jb14 (x0 : Nat) : Value:=nI ((x0 : Int) + 1)
def RanyT (sp : Value) (l : List Int) : Prop :=
 (true = true /\ (0 <= List.length l /\ List.any (l.take 0) badT = false) /\ (true = true /\ (jbd = nI jbt /\ jbp l) /\ jb1b) /\ jbl /\ ∀ x0 : Nat,(x0 <= List.length l /\ List.any (l.take x0) badT = false) -> (((decide ((jbj x0) < (jb8 l))) = true -> (((0 : Int) <= (x0 : Int) /\ (jbj x0) < (jb8 l)) /\ (((l.flatMap intC)[(Int.toNat (x0 : Int) * 1)]? = some (nI (l.getD x0 0))) /\ ((True) /\ (∀ H' : Heap,H'.length = 0 -> (True) -> KCall prog 107 [nI (l.getD x0 0),nI 0,nI 100] H' [] (Is (.bool (inB (l.getD x0 0) 0 100)) H')) /\ (((!(inB (l.getD x0 0) 0 100)) = true -> (jb1g x0) = sp) /\ ((!(inB (l.getD x0 0) 0 100)) = false -> ((jbe x0) = nI ((x0 : Int) + 1) /\ (∃ x0' : Nat,(x0' <= List.length l /\ List.any (l.take x0') badT = false) /\ (List.length l - x0') < (List.length l - x0) /\ true = true /\ ((jb14 x0) = nI (x0' : Int) /\ jbp l) /\ jb1b)))))))) /\ ((decide ((jbj x0) < (jb8 l))) = false -> (.bool false : Value) = sp)))
abbrev jbk : Hint:=.go 0 (.again [])
abbrev jb13 (x0 : Nat) : Hint:=.fork (.auto) (.go 0 (.slot 18 (nI ((x0 : Int) + 1)) jbk))
theorem EanyT (sp : Value) (l : List Int) : vF prog msk (dm 0) 100000 true 40 true 131 [.iface (l.length + 1) (.agg ⟨(l.flatMap intC)⟩),.func (.func 132) #[] #[]] ⟨0,.leaf⟩ (some [])
 (.go 7 (.inv 3 (Nat) (0) [] [] (fun x0 => [(8,nI (x0 : Int)),(1,.func (.func 132) #[] #[]),(0,.iface (l.length + 1) (.agg ⟨(l.flatMap intC)⟩)),(7,nI (jb8 l))]) (fun x0 => []) (fun x0 => []) (fun x0 => []) (fun x0 => (x0 <= List.length l /\ List.any (l.take x0) badT = false)) (fun x0 => (List.length l - x0)) (fun x0 => .go 0 (.fork (.go 4 (.need (.val (nI (l.getD x0 0)) (.go 2 (.ans [] (.bool (inB (l.getD x0 0) 0 100)) [] (.go 1 (jb13 x0))))))) (.auto)))))
 (fun v _ _ => v = sp) = RanyT sp l:=by kernel_rfl
abbrev jbh (l : List Int) : Prop:=(.func (.func 133) #[] #[.pointer (some ⟨1,0,none⟩)] : Value) = .func (.func 133) #[] #[.pointer (some ⟨1,0,none⟩)] /\ wkR (slQ 0 2 l.length) /\ (nI (jb8 l) : Value) = nI (jb8 l) /\ True
abbrev jb1r (l : List Int) (x0 : Nat) (n : Nat):=inB (l.getD x0 0) 0 (((n : Nat) : Int) - 1)
def RanyA (sp : Value) (l : List Int) (n : Nat) : Prop :=
 (true = true /\ (0 <= List.length l /\ List.any (l.take 0) (badA n) = false) /\ (true = true /\ (jbd = nI jbt /\ jbh l) /\ jb1b) /\ jbl /\ ∀ x0 : Nat,(x0 <= List.length l /\ List.any (l.take x0) (badA n) = false) -> (((decide ((jbj x0) < (jb8 l))) = true -> (((0 : Int) <= (x0 : Int) /\ (jbj x0) < (jb8 l)) /\ (((l.flatMap intC)[(0 + Int.toNat (x0 : Int) * 1)]? = some (nI (l.getD x0 0))) /\ ((nI (IntKind.wrap .i64 (((n : Nat) : Int) - 1)) : Value) = nI (((n : Nat) : Int) - 1) /\ ((True) /\ (∀ H' : Heap,H'.length = 2 -> (True) -> KCall prog 107 [nI (l.getD x0 0),nI 0,nI (((n : Nat) : Int) - 1)] H' [] (Is (.bool (jb1r l x0 n)) H')) /\ (((!(jb1r l x0 n)) = true -> (jb1g x0) = sp) /\ ((!(jb1r l x0 n)) = false -> ((jbe x0) = nI ((x0 : Int) + 1) /\ (∃ x0' : Nat,(x0' <= List.length l /\ List.any (l.take x0') (badA n) = false) /\ (List.length l - x0') < (List.length l - x0) /\ true = true /\ ((jb14 x0) = nI (x0' : Int) /\ jbh l) /\ jb1b))))))))) /\ ((decide ((jbj x0) < (jb8 l))) = false -> (.bool false : Value) = sp)))
theorem EanyA (sp : Value) (l : List Int) (n : Nat) : vF prog msk (dm 0) 100000 true 40 true 131 [slQ 0 2 l.length,.func (.func 133) #[] #[.pointer (some ⟨1,0,none⟩)]] (readsT 0 [l.flatMap intC,intC (n : Int)]) (some [])
 (.go 7 (.inv 3 (Nat) (0) [] [] (fun x0 => [(8,nI (x0 : Int)),(1,.func (.func 133) #[] #[.pointer (some ⟨1,0,none⟩)]),(0,slQ 0 2 l.length),(7,nI (jb8 l))]) (fun x0 => []) (fun x0 => []) (fun x0 => []) (fun x0 => (x0 <= List.length l /\ List.any (l.take x0) (badA n) = false)) (fun x0 => (List.length l - x0)) (fun x0 => .go 0 (.fork (.go 4 (.need (.val (nI (l.getD x0 0)) (.go 4 (.slot 6 (nI (((n : Nat) : Int) - 1)) (.ans [] (.bool (jb1r l x0 n)) [] (.go 1 (jb13 x0)))))))) (.auto)))))
 (fun v _ _ => v = sp) = RanyA sp l n:=by kernel_rfl
abbrev jbw : Value:=nI 81
abbrev jb1c (p : Pol):=inB p.warn 0 10000
abbrev jb1v (p : Pol) (sp : Value) : Prop:=((!(inB p.w2 0 100)) = true -> jbw = sp) /\ ((!(inB p.w2 0 100)) = false -> jbd = sp)
def Rpol (sp : Value) (p : Pol) : Prop :=
 ((True) /\ (∀ H' : Heap,H'.length = 1 -> (True) -> KCall prog 107 [nI p.ov,nI 0,nI 30] H' [] (Is (.bool (inB p.ov 0 30)) H')) /\ (((!(inB p.ov 0 30)) = true -> jbw = sp) /\ ((!(inB p.ov 0 30)) = false -> ((True) /\ (∀ H' : Heap,H'.length = 1 -> (True) -> KCall prog 107 [nI p.warn,nI 0,nI 10000] H' [] (Is (.bool (jb1c p)) H')) /\ (((!(jb1c p)) = true -> jbw = sp) /\ ((!(jb1c p)) = false -> ((True) /\ (∀ H' : Heap,H'.length = 1 -> (True) -> KCall prog 107 [nI p.w0,nI 0,nI 100] H' [] (Is (.bool (inB p.w0 0 100)) H')) /\ (((!(inB p.w0 0 100)) = true -> jbw = sp) /\ ((!(inB p.w0 0 100)) = false -> ((True) /\ (∀ H' : Heap,H'.length = 1 -> (True) -> KCall prog 107 [nI p.w1,nI 0,nI 100] H' [] (Is (.bool (inB p.w1 0 100)) H')) /\ (((!(inB p.w1 0 100)) = true -> jbw = sp) /\ ((!(inB p.w1 0 100)) = false -> ((True) /\ (∀ H' : Heap,H'.length = 1 -> (True) -> KCall prog 107 [nI p.w2,nI 0,nI 100] H' [] (Is (.bool (inB p.w2 0 100)) H')) /\ (jb1v p sp))))))))))))))
abbrev jb16 : Hint:=.fork (.auto) (.auto)
theorem Epol (sp : Value) (p : Pol) : vF prog msk (dm 0) 100000 true 40 true 76 [.agg #[nI p.ov,nI p.warn,nI p.w0,nI p.w1,nI p.w2]] ⟨0,.leaf⟩ (some [])
 (.go 3 (.ans [] (.bool (inB p.ov 0 30)) [] (.go 1 (.gfork (.auto) (.go 1 (.ans [] (.bool (jb1c p)) [] (.go 2 (.gfork (.auto) (.go 22 (.ans [] (.bool (inB p.w0 0 100)) [] (.go 1 (.fork (.auto) (.go 13 (.ans [] (.bool (inB p.w1 0 100)) [] (.go 1 (.fork (.auto) (.go 13 (.ans [] (.bool (inB p.w2 0 100)) [] (.go 1 jb16)))))))))))))))))))
 (fun v _ _ => v = sp) = Rpol sp p:=by kernel_rfl
abbrev jb1o (q : Prem):=inB q.burst 0 20
abbrev jb1s : Value:=nI 6
abbrev jb1e (q : Prem):=inB q.period 1 200
abbrev jb17 (q : Prem):=inB q.service 1 200
def Rpre (sp : Value) (q : Prem) : Prop :=
 ((True) /\ (∀ H' : Heap,H'.length = 1 -> (True) -> KCall prog 107 [nI q.burst,nI 0,nI 20] H' [] (Is (.bool (jb1o q)) H')) /\ (((!(jb1o q)) = true -> jb1s = sp) /\ ((!(jb1o q)) = false -> ((True) /\ (∀ H' : Heap,H'.length = 1 -> (True) -> KCall prog 107 [nI q.period,nI 1,nI 200] H' [] (Is (.bool (jb1e q)) H')) /\ (((!(jb1e q)) = true -> jb1s = sp) /\ ((!(jb1e q)) = false -> ((True) /\ (∀ H' : Heap,H'.length = 1 -> (True) -> KCall prog 107 [nI q.service,nI 1,nI 200] H' [] (Is (.bool (jb17 q)) H')) /\ (((!(jb17 q)) = true -> jb1s = sp) /\ ((!(jb17 q)) = false -> jbd = sp)))))))))
theorem Epre (sp : Value) (q : Prem) : vF prog msk (dm 0) 100000 true 40 true 82 [.agg #[nI q.burst,nI q.period,nI q.service]] ⟨0,.leaf⟩ (some [])
 (.go 3 (.ans [] (.bool (jb1o q)) [] (.go 1 (.gfork (.auto) (.go 1 (.ans [] (.bool (jb1e q)) [] (.go 2 (.gfork (.auto) (.go 1 (.ans [] (.bool (jb17 q)) [] (.go 1 jb16)))))))))))
 (fun v _ _ => v = sp) = Rpre sp q:=by kernel_rfl
abbrev jb5 (l1_ : List Rq) : Int:=(l1_.length : Nat)
abbrev jbg (l1_ : List Rq) : Prop:=(.func (.func 136) #[] #[.pointer (some ⟨1,0,none⟩)] : Value) = .func (.func 136) #[] #[.pointer (some ⟨1,0,none⟩)] /\ wkR (slQ 0 2 l1_.length) /\ (nI (jb5 l1_) : Value) = nI (jb5 l1_) /\ True
abbrev jb1p (x0 : Nat) (l1_ : List Rq):=decide ((jbj x0) < (jb5 l1_))
abbrev jb1 (l1_ : List Rq) (x0 : Nat):=l1_.getD x0 zeroQ
abbrev jb2 (l1_ : List Rq) (x0 : Nat) : Value:=.agg #[nI (jb1 l1_ x0).id,nI (jb1 l1_ x0).at_,nI (jb1 l1_ x0).place,nI (jb1 l1_ x0).dest,nI (jb1 l1_ x0).len,nI (jb1 l1_ x0).prio,nI (jb1 l1_ x0).limit]
def RanyI (sp : Value) (l1_ m : List Rq) (r : Rq) : Prop :=
 (true = true /\ (0 <= List.length l1_ /\ List.any (l1_.take 0) (sameId r) = false) /\ (true = true /\ (jbd = nI jbt /\ jbg l1_) /\ jb1b) /\ jbl /\ ∀ x0 : Nat,(x0 <= List.length l1_ /\ List.any (l1_.take x0) (sameId r) = false) -> (((jb1p x0 l1_) = true -> (((0 : Int) <= (x0 : Int) /\ (jbj x0) < (jb5 l1_)) /\ ((partA 7 ((l1_ ++ m).flatMap rqC) (0 + Int.toNat (x0 : Int) * 7) = some (jb2 l1_ x0)) /\ (((((jb1 l1_ x0).id : Int) == r.id) = true -> (jb1g x0) = sp) /\ ((((jb1 l1_ x0).id : Int) == r.id) = false -> ((jbe x0) = nI ((x0 : Int) + 1) /\ (∃ x0' : Nat,(x0' <= List.length l1_ /\ List.any (l1_.take x0') (sameId r) = false) /\ (List.length l1_ - x0') < (List.length l1_ - x0) /\ true = true /\ ((jb14 x0) = nI (x0' : Int) /\ jbg l1_) /\ jb1b))))))) /\ ((jb1p x0 l1_) = false -> (.bool false : Value) = sp)))
theorem EanyI (sp : Value) (l1_ m : List Rq) (r : Rq) : vF prog msk (dm 0) 100000 true 40 true 135 [slQ 0 2 l1_.length,.func (.func 136) #[] #[.pointer (some ⟨1,0,none⟩)]] (readsT 0 [(l1_ ++ m).flatMap rqC,rqC r]) (some [])
 (.go 7 (.inv 3 (Nat) (0) [] [] (fun x0 => [(8,nI (x0 : Int)),(1,.func (.func 136) #[] #[.pointer (some ⟨1,0,none⟩)]),(0,slQ 0 2 l1_.length),(7,nI (jb5 l1_))]) (fun x0 => []) (fun x0 => []) (fun x0 => []) (fun x0 => (x0 <= List.length l1_ /\ List.any (l1_.take x0) (sameId r) = false)) (fun x0 => (List.length l1_ - x0)) (fun x0 => .go 0 (.fork (.go 4 (.need (.val (jb2 l1_ x0) (.go 8 (jb13 x0))))) (.auto)))))
 (fun v _ _ => v = sp) = RanyI sp l1_ m r:=by kernel_rfl
abbrev jb0 (f : Fleet) : Int:=(f.t.length : Nat)
abbrev jb1d : Value:=nI 2
abbrev jbf (f : Fleet) : Int:=(f.b.length : Nat)
abbrev jba : Value:=.pointer (some ⟨2,0,none⟩)
abbrev jbi (f : Fleet) : Prop:=jba = .pointer (some ⟨2,0,none⟩) /\ (.pointer (some ⟨3,0,none⟩) : Value) = .pointer (some ⟨3,0,none⟩) /\ wkR (slQ 0 2 f.t.length) /\ (nI (jb0 f) : Value) = nI (jb0 f) /\ True
abbrev jb4 (f : Fleet) : List Value:=[slQ 0 2 f.t.length,slQ 1 2 f.b.length]
abbrev jb18 (f : Fleet) : Prop:=((keptR 4 (.cells true 0 (jb4 f))) /\ (keptR 4 (.cells true 0 [nI (jb0 f)])) /\ True) /\ jbc
abbrev jb1q (x2 : Nat) (f : Fleet):=decide (((x2 : Int) : Int) < (jb0 f))
abbrev jb1t (f : Fleet) (x2 : Nat):=f.t.getD x2 []
abbrev jbb : Value:=nI 80
abbrev jb19 (f : Fleet):=f.b.flatMap intC
abbrev jb1m (f : Fleet):=List.any f.b (badA f.t.length)
def Rfl (sp : Value) (f : Fleet) : Prop :=
 ((True) /\ (∀ H' : Heap,H'.length = 4 -> (True) -> KCall prog 107 [nI (jb0 f),nI 1,nI 12] H' [] (Is (.bool (inB (jb0 f) 1 12)) H')) /\ (((!(inB (jb0 f) 1 12)) = true -> jb1d = sp) /\ ((!(inB (jb0 f) 1 12)) = false -> ((True) /\ (∀ H' : Heap,H'.length = 4 -> (True) -> KCall prog 107 [nI (jbf f),nI 1,nI 3] H' [] (Is (.bool (inB (jbf f) 1 3)) H')) /\ (((!(inB (jbf f) 1 3)) = true -> jb1d = sp) /\ ((!(inB (jbf f) 1 3)) = false -> (true = true /\ (0 <= List.length f.t /\ errUp (errRow f) 0 = 0) /\ (true = true /\ (jbd = nI jbt /\ jbi f) /\ jb18 f) /\ (∀ x2 : Nat,true = true) /\ ∀ x2 : Nat,(x2 <= List.length f.t /\ errUp (errRow f) x2 = 0) -> (((jb1q x2 f) = true -> (((0 : Int) <= (x2 : Int) /\ ((x2 : Int) : Int) < (jb0 f)) /\ (((inL f.t)[(0 + Int.toNat (x2 : Int) * 1)]? = some (.iface ((jb1t f x2).length + 1) (.agg ⟨((jb1t f x2).flatMap intC)⟩))) /\ (∃ y3 : Int,(nI (((jb1t f x2).length : Nat) : Int) : Value) = nI y3 /\ ((((y3 : Int) != (jb0 f)) = true -> jbb = sp) /\ (((y3 : Int) != (jb0 f)) = false -> (((0 : Int) <= (x2 : Int) /\ ((x2 : Int) : Int) < (((jb1t f x2).length : Nat) : Int)) /\ ((((jb1t f x2).flatMap intC)[(Int.toNat (x2 : Int) * 1)]? = some (nI ((jb1t f x2).getD x2 0))) /\ ((((((jb1t f x2).getD x2 0) : Int) != 0) = true -> jbb = sp) /\ (((((jb1t f x2).getD x2 0) : Int) != 0) = false -> ((True) /\ (∀ H' : Heap,H'.length = 4 -> (True) -> KCall prog 131 [.iface ((jb1t f x2).length + 1) (.agg ⟨((jb1t f x2).flatMap intC)⟩),.func (.func 132) #[] #[]] H' [] (Is (.bool (List.any (jb1t f x2) badT)) H')) /\ (((List.any (jb1t f x2) badT) = true -> jbb = sp) /\ ((List.any (jb1t f x2) badT) = false -> ((nI (IntKind.wrap .i64 ((x2 : Int) + 1)) : Value) = nI ((x2 : Int) + 1) /\ (∃ x2' : Nat,(x2' <= List.length f.t /\ errUp (errRow f) x2' = 0) /\ (List.length f.t - x2') < (List.length f.t - x2) /\ true = true /\ ((nI ((x2 : Int) + 1) : Value) = nI (x2' : Int) /\ jbi f) /\ jb18 f))))))))))))))) /\ ((jb1q x2 f) = false -> (((someR (.cells false 0 (jb19 f))) /\ (someR (.cells true 0 [nI (jb0 f)])) /\ True) /\ (∀ H' : Heap,H'.length = 4 -> (H'[1]? = some (.cells false 0 (jb19 f) : KObj) /\ H'[3]? = some (.cells true 0 [nI (jb0 f)] : KObj) /\ True) -> KCall prog 131 [slQ 1 2 f.b.length,.func (.func 133) #[] #[.pointer (some ⟨3,0,none⟩)]] H' [] (Is (.bool (jb1m f)) H')) /\ (((jb1m f) = true -> jbb = sp) /\ ((jb1m f) = false -> jbd = sp))))))))))))
abbrev jb1j (f : Fleet) : List Value:=[.agg #[slQ 0 2 f.t.length,slQ 1 2 f.b.length]]
abbrev jbx : Nat × Value:=(1,.pointer (some ⟨2,0,none⟩))
abbrev jb1n (f : Fleet) : Nat × Bool × KObj:=(2,true,.cells true 0 (jb4 f))
theorem Efl (sp : Value) (f : Fleet) : vF prog msk (dm 0) 100000 true 40 true 75 (jb1j f) (readsT 0 [inL f.t,f.b.flatMap intC]) (some [])
 (.go 7 (.ans [] (.bool (inB (jb0 f) 1 12)) [] (.go 1 (.gfork (.auto) (.go 2 (.ans [] (.bool (inB (jbf f) 1 3)) [] (.go 1 (.fork (.auto) (.go 3 (.inv 3 (Nat) (0) [] [2,3] (fun x2 => [(22,nI (x2 : Int)),jbx,(3,.pointer (some ⟨3,0,none⟩)),(20,slQ 0 2 f.t.length),(21,nI (jb0 f))]) (fun x2 => [(jb1n f),(3,true,.cells true 0 [nI (jb0 f)])]) (fun x2 => []) (fun x2 => []) (fun x2 => (x2 <= List.length f.t /\ errUp (errRow f) x2 = 0)) (fun x2 => (List.length f.t - x2)) (fun x2 => .go 0 (.fork (.go 0 (.need (.val (.iface ((jb1t f x2).length + 1) (.agg ⟨((jb1t f x2).flatMap intC)⟩)) (.go 3 (.bind Int (fun y3 => .slot 28 (nI y3) (.go 2 (.gfork (.auto) (.go 1 (.need (.val (nI ((jb1t f x2).getD x2 0)) (.go 2 (.gfork (.auto) (.go 0 (.ans [] (.bool (List.any (jb1t f x2) badT)) [] (.go 0 (.fork (.auto) (.go 0 (.slot 42 (nI ((x2 : Int) + 1)) jbk))))))))))))))))))) (.go 2 (.ans [(1,.cells false 0 (jb19 f)),(3,.cells true 0 [nI (jb0 f)])] (.bool (jb1m f)) [] jb16))))))))))))))
 (fun v _ _ => v = sp) = Rfl sp f:=by kernel_rfl
abbrev jby (f : Fleet) : Value:=nI (IntKind.wrap .i64 ((jb0 f) - 1))
abbrev jb1x (l1_ : List Rq):=decide ((30 : Int) < (jb5 l1_))
abbrev jbu (l1_ : List Rq) (f : Fleet) : Prop:=wkR (slQ 2 2 l1_.length) /\ (nI ((jb0 f) - 1) : Value) = nI ((jb0 f) - 1) /\ wkR (slQ 2 2 l1_.length) /\ (nI (jb5 l1_) : Value) = nI (jb5 l1_) /\ True
abbrev jbq (f : Fleet) : Prop:=((keptR 4 (.cells true 0 (jb4 f))) /\ True) /\ jbc
abbrev jbv (x0 : Nat) (l1_ : List Rq) (f : Fleet) : Prop:=x0 <= List.length l1_ /\ errUp (errRq1 f.t.length l1_) x0 = 0
abbrev jb12 (l1_ : List Rq) (x0 : Nat):=inB (jb1 l1_ x0).id 0 1000000
abbrev jb15 (l1_ : List Rq) (x0 : Nat):=inB (jb1 l1_ x0).at_ 0 10000
abbrev jbo (l1_ : List Rq) (x0 : Nat) (f : Fleet):=inB (jb1 l1_ x0).place 0 ((jb0 f) - 1)
abbrev jbs (l1_ : List Rq) (x0 : Nat) (f : Fleet):=inB (jb1 l1_ x0).dest 0 ((jb0 f) - 1)
abbrev jb1f (l1_ : List Rq) (x0 : Nat):=inB (jb1 l1_ x0).len 1 100
abbrev jb1l (l1_ : List Rq) (x0 : Nat):=inB (jb1 l1_ x0).prio 1 3
abbrev jbz (l1_ : List Rq) (x0 : Nat):=inB (jb1 l1_ x0).limit 0 10000
abbrev jb3 (l1_ : List Rq) (x0 : Nat) : List Value:=[nI (jb1 l1_ x0).id,nI (jb1 l1_ x0).at_,nI (jb1 l1_ x0).place,nI (jb1 l1_ x0).dest,nI (jb1 l1_ x0).len,nI (jb1 l1_ x0).prio,nI (jb1 l1_ x0).limit]
abbrev jb1k (l1_ : List Rq) (x0 : Nat):=List.any (l1_.take x0) (sameId (jb1 l1_ x0))
def Rrq (sp : Value) (f : Fleet) (l1_ : List Rq) : Prop :=
 (((jb1x l1_) = true -> jb1d = sp) /\ ((jb1x l1_) = false -> ((jby f) = nI ((jb0 f) - 1) /\ (true = true /\ (0 <= List.length l1_ /\ errUp (errRq1 f.t.length l1_) 0 = 0) /\ (true = true /\ (jbd = nI jbt /\ jbu l1_ f) /\ jbq f) /\ jbl /\ ∀ x0 : Nat,(jbv x0 l1_ f) -> (((jb1p x0 l1_) = true -> (((0 : Int) <= (x0 : Int) /\ (jbj x0) < (jb5 l1_)) /\ ((partA 7 (l1_.flatMap rqC) (0 + Int.toNat (x0 : Int) * 7) = some (jb2 l1_ x0)) /\ ((True) /\ (∀ H' : Heap,H'.length = 5 -> (True) -> KCall prog 107 [nI (jb1 l1_ x0).id,nI 0,nI 1000000] H' [] (Is (.bool (jb12 l1_ x0)) H')) /\ (((!(jb12 l1_ x0)) = true -> jbb = sp) /\ ((!(jb12 l1_ x0)) = false -> ((True) /\ (∀ H' : Heap,H'.length = 5 -> (True) -> KCall prog 107 [nI (jb1 l1_ x0).at_,nI 0,nI 10000] H' [] (Is (.bool (jb15 l1_ x0)) H')) /\ (((!(jb15 l1_ x0)) = true -> jbb = sp) /\ ((!(jb15 l1_ x0)) = false -> ((True) /\ (∀ H' : Heap,H'.length = 5 -> (True) -> KCall prog 107 [nI (jb1 l1_ x0).place,nI 0,nI ((jb0 f) - 1)] H' [] (Is (.bool (jbo l1_ x0 f)) H')) /\ (((!(jbo l1_ x0 f)) = true -> jbb = sp) /\ ((!(jbo l1_ x0 f)) = false -> ((True) /\ (∀ H' : Heap,H'.length = 5 -> (True) -> KCall prog 107 [nI (jb1 l1_ x0).dest,nI 0,nI ((jb0 f) - 1)] H' [] (Is (.bool (jbs l1_ x0 f)) H')) /\ (((!(jbs l1_ x0 f)) = true -> jbb = sp) /\ ((!(jbs l1_ x0 f)) = false -> ((True) /\ (∀ H' : Heap,H'.length = 5 -> (True) -> KCall prog 107 [nI (jb1 l1_ x0).len,nI 1,nI 100] H' [] (Is (.bool (jb1f l1_ x0)) H')) /\ (((!(jb1f l1_ x0)) = true -> jbb = sp) /\ ((!(jb1f l1_ x0)) = false -> ((True) /\ (∀ H' : Heap,H'.length = 5 -> (True) -> KCall prog 107 [nI (jb1 l1_ x0).prio,nI 1,nI 3] H' [] (Is (.bool (jb1l l1_ x0)) H')) /\ (((!(jb1l l1_ x0)) = true -> jbb = sp) /\ ((!(jb1l l1_ x0)) = false -> ((True) /\ (∀ H' : Heap,H'.length = 5 -> (True) -> KCall prog 107 [nI (jb1 l1_ x0).limit,nI 0,nI 10000] H' [] (Is (.bool (jbz l1_ x0)) H')) /\ (((!(jbz l1_ x0)) = true -> jbb = sp) /\ ((!(jbz l1_ x0)) = false -> ((((false = false ∨ 0 = 0 ∨ 0 = 7) /\ (x0 : Int).toNat <= l1_.length) /\ ((0 : Int) <= (x0 : Int) /\ (jbj x0) <= (jb5 l1_)) /\ (0 <= (x0 : Int).toNat)) /\ ((slQ 2 2 ((x0 : Int).toNat - 0) : Value) = slQ 2 2 x0 /\ (((someR (.cells false 0 (l1_.flatMap rqC))) /\ (someR (.cells true 0 (jb3 l1_ x0))) /\ True) /\ (∀ H' : Heap,H'.length = 5 -> (H'[2]? = some (.cells false 0 (l1_.flatMap rqC) : KObj) /\ H'[4]? = some (.cells true 0 (jb3 l1_ x0) : KObj) /\ True) -> KCall prog 135 [slQ 2 2 x0,.func (.func 136) #[] #[.pointer (some ⟨4,0,none⟩)]] H' [] (Is (.bool (jb1k l1_ x0)) H')) /\ (((jb1k l1_ x0) = true -> (nI 10 : Value) = sp) /\ ((jb1k l1_ x0) = false -> ((jbe x0) = nI ((x0 : Int) + 1) /\ (∃ x0' : Nat,(x0' <= List.length l1_ /\ errUp (errRq1 f.t.length l1_) x0' = 0) /\ (List.length l1_ - x0') < (List.length l1_ - x0) /\ true = true /\ ((jb14 x0) = nI (x0' : Int) /\ jbu l1_ f) /\ jbq f))))))))))))))))))))))))))))))) /\ ((jb1p x0 l1_) = false -> jbd = sp))))))
abbrev jbn (f : Fleet) (l1_ : List Rq) : List Value:=[.agg #[slQ 0 2 f.t.length,slQ 1 2 f.b.length],slQ 2 2 l1_.length]
abbrev jb1u (f : Fleet) (l1_ : List Rq):=readsT 0 [inL f.t,f.b.flatMap intC,l1_.flatMap rqC]
theorem Erq (sp : Value) (f : Fleet) (l1_ : List Rq) : vF prog msk (dm 0) 100000 true 40 true 77 (jbn f l1_) (jb1u f l1_) (some [])
 (.go 4 (.fork (.auto) (.go 3 (.slot 14 (nI ((jb0 f) - 1)) (.go 3 (.inv 3 (Nat) (0) [] [3] (fun x0 => [(17,nI (x0 : Int)),(1,slQ 2 2 l1_.length),(5,nI ((jb0 f) - 1)),(15,slQ 2 2 l1_.length),(16,nI (jb5 l1_))]) (fun x0 => [(3,true,.cells true 0 (jb4 f))]) (fun x0 => []) (fun x0 => []) (fun x0 => (jbv x0 l1_ f)) (fun x0 => (List.length l1_ - x0)) (fun x0 => .go 0 (.fork (.go 0 (.need (.val (jb2 l1_ x0) (.go 4 (.ans [] (.bool (jb12 l1_ x0)) [] (.go 1 (.gfork (.auto) (.go 1 (.ans [] (.bool (jb15 l1_ x0)) [] (.go 2 (.gfork (.auto) (.go 2 (.ans [] (.bool (jbo l1_ x0 f)) [] (.go 2 (.gfork (.auto) (.go 2 (.ans [] (.bool (jbs l1_ x0 f)) [] (.go 2 (.gfork (.auto) (.go 1 (.ans [] (.bool (jb1f l1_ x0)) [] (.go 2 (.gfork (.auto) (.go 1 (.ans [] (.bool (jb1l l1_ x0)) [] (.go 2 (.gfork (.auto) (.go 1 (.ans [] (.bool (jbz l1_ x0)) [] (.go 1 (.fork (.auto) (.go 1 (.need (.slot 66 (slQ 2 2 x0) (.go 0 (.ans [(2,.cells false 0 (l1_.flatMap rqC)),(4,.cells true 0 (jb3 l1_ x0))] (.bool (jb1k l1_ x0)) [] (.fork (.auto) (.go 0 (.slot 69 (nI ((x0 : Int) + 1)) jbk))))))))))))))))))))))))))))))))))))))) (.auto)))))))))
 (fun v _ _ => v = sp) = Rrq sp f l1_:=by kernel_rfl
abbrev jbr (x0 : Nat) : Int:=((x0 + 1) : Nat)
def Rmax (sp : Value) (l : List Int) : Prop :=
 (((decide (((jb8 l) : Int) < 1)) = true -> False) /\ ((decide (((jb8 l) : Int) < 1)) = false -> (((0 : Int) <= 0 /\ (0 : Int) < (jb8 l)) /\ (((l.flatMap intC)[0]? = some (nI (l.getD 0 0))) /\ (true = true /\ (0 + 1 <= List.length l) /\ (true = true /\ ((nI 1 : Value) = nI (((0 + 1) : Nat) : Int) /\ (nI (l.getD 0 0) : Value) = nI (maxTo l (0 + 1)) /\ (jb6 l) = rn (sg 0 []) 3 (jb6 l) /\ jbd = nI 0 /\ True) /\ jb1b) /\ jbl /\ ∀ x0 : Nat,(x0 + 1 <= List.length l) -> (((decide (((jbr x0) : Int) < (jb8 l))) = true -> (((0 : Int) <= (jbr x0) /\ ((jbr x0) : Int) < (jb8 l)) /\ (((l.flatMap intC)[(Int.toNat (jbr x0) * 1)]? = some (nI (l.getD (x0 + 1) 0))) /\ (∃ y1 : Int,(nI (if ((l.getD (x0 + 1) 0) : Int) > (maxTo l (x0 + 1)) then ((l.getD (x0 + 1) 0) : Int) else (maxTo l (x0 + 1))) : Value) = nI y1 /\ ((nI (IntKind.wrap .i64 ((jbr x0) + 1)) : Value) = nI ((jbr x0) + 1) /\ (∃ x0' : Nat,(x0' + 1 <= List.length l) /\ (List.length l - x0') < (List.length l - x0) /\ true = true /\ ((nI ((jbr x0) + 1) : Value) = nI (((x0' + 1) : Nat) : Int) /\ (nI y1 : Value) = nI (maxTo l (x0' + 1)) /\ (jb6 l) = rn (sg 0 []) 3 (jb6 l) /\ jbd = nI 0 /\ True) /\ jb1b)))))) /\ ((decide (((jbr x0) : Int) < (jb8 l))) = false -> (nI (maxTo l (x0 + 1)) : Value) = sp)))))))
theorem Emax (sp : Value) (l : List Int) : vF prog msk (dm 0) 100000 true 40 true 83 [.iface (l.length + 1) (.agg ⟨(l.flatMap intC)⟩)] ⟨0,.leaf⟩ (some [])
 (.go 3 (.fork (.auto) (.go 0 (.need (.val (nI (l.getD 0 0)) (.go 1 (.inv 3 (Nat) (0) [] [] (fun x0 => [(4,nI (jbr x0)),(3,nI (maxTo l (x0 + 1))),(0,.iface (l.length + 1) (.agg ⟨(l.flatMap intC)⟩)),(2,nI 0)]) (fun x0 => []) (fun x0 => []) (fun x0 => []) (fun x0 => (x0 + 1 <= List.length l)) (fun x0 => (List.length l - x0)) (fun x0 => .go 3 (.fork (.go 2 (.need (.val (nI (l.getD (x0 + 1) 0)) (.go 0 (.bind Int (fun y1 => .slot 23 (nI y1) (.go 2 (.slot 17 (nI ((jbr x0) + 1)) jbk)))))))) (.auto))))))))))
 (fun v _ _ => v = sp) = Rmax sp l:=by kernel_rfl
end
end Go.Proofs.YthdekmpkioikdaaGreat
/- Request: what is wrong with fleets, requests, policies and premises. No condition. -/
namespace Go.Proofs.YthdekmpkioikdaaGreat
open Go Go.K
set_option maxRecDepth 100000
set_option linter.unusedVariables false
set_option linter.unusedSimpArgs false
noncomputable section
attribute [local irreducible] vF
theorem dec0 (x : Nat) : decide ((0 : Int) <= (x : Int)) = true := decide_eq_true (by omega)
theorem kAnyT (l : List Int) (hl : l.length <= 4294967296) (H : Heap) : KCall prog 131 [inV l, .func (.func 132) #[] #[]] H [] (Is (.bool (l.any badT)) H) := by
 refine valK 40 (fun σ => by have := inV_rn σ 2 l; show [rn σ (2 + 3) (inV l), _] = _; rw [this]; rfl) rfl (Eq.mpr (EanyT _ l) ?_) H
 delta RanyT jbd jbt jb6 jb8 jbp jbc jb1b jbl jbj jb1g jbe jb14
 refine ⟨rfl, ⟨Nat.zero_le _, rfl⟩, ?_, fun _ => rfl, ?_⟩
 ·repeat' first | exact inL_b _ _ | exact plainIL _ _ | exact plainRQ _ _ | exact (inV_rn _ 0 _).symm | exact wk_QR | exact trivial | exact rfl | exact wk_refl _ | exact wk_nil _ _ _ (.inl rfl) | (exact wk_Q (by omega)) | refine wk_tupL ?_ | refine wk_aggL ?_ | refine ⟨rfl, ?_⟩ | refine ⟨trivial, ?_⟩ | (refine forkD (fun h => ?_) (fun h => ?_)) | (refine forkNe (fun h => ?_) (fun h => ?_)) | (refine forkEq (fun h => ?_) (fun h => ?_)) | refine forkNot ?_ | (refine ⟨vI64 (by omega), ?_⟩) | (refine And.intro (by omega) ?_) | apply And.intro | (exact iEq (by omega)) | (exact vI64 (by omega))
 rintro x ⟨hx, hs⟩
 refine forkD (fun k => ?_) (fun k => bEq (any_end (by omega) hs).symm)
 have hlt : x < l.length := by omega
 refine ⟨by omega, intAt hlt (by omega), trivial, fun H' _ _ => kIn _ _ _ H', forkB (fun h => bEq ((dec0 x).trans (any_at (d := 0) hlt h).symm)) (fun h => ⟨vI64 (by omega), x + 1, ⟨by omega, any_snoc (d := 0) hlt hs h⟩, by omega, rfl, ?_⟩)⟩
 repeat' first | exact inL_b _ _ | exact plainIL _ _ | exact plainRQ _ _ | exact (inV_rn _ 0 _).symm | exact wk_QR | exact trivial | exact rfl | exact wk_refl _ | exact wk_nil _ _ _ (.inl rfl) | (exact wk_Q (by omega)) | refine wk_tupL ?_ | refine wk_aggL ?_ | refine ⟨rfl, ?_⟩ | refine ⟨trivial, ?_⟩ | (refine forkD (fun h => ?_) (fun h => ?_)) | (refine forkNe (fun h => ?_) (fun h => ?_)) | (refine forkEq (fun h => ?_) (fun h => ?_)) | refine forkNot ?_ | (refine ⟨vI64 (by omega), ?_⟩) | (refine And.intro (by omega) ?_) | apply And.intro | (exact iEq (by omega)) | (exact vI64 (by omega))
theorem kAnyA (l : List Int) (n : Nat) (hl : l.length <= 4294967296) (hn : n <= 4294967296) {H : Heap} {i0 i1 : Nat} {o0 o1 : Bool} {z0 z1 : Nat} (e0 : H[i0]? = some (.cells o0 z0 (l.flatMap intC))) (e1 : H[i1]? = some (.cells o1 z1 [nI (n : Int)])) :
  KCall prog 131 [.slice (some ⟨i0, 0, some 2⟩) l.length l.length, .func (.func 133) #[] #[.pointer (some ⟨i1, 0, none⟩)]] H [] (Is (.bool (l.any (badA n))) H) := by
 refine valRx (Eq.mpr (EanyA _ l n) ?_) ⟨plainIL 0 _, rfl, trivial⟩ rfl (ids := [i0, i1]) ⟨⟨_, _, e0⟩, ⟨_, _, e1⟩, trivial⟩ rfl
 delta RanyA jbd jbt jb8 jbh jbc jb1b jbl jbj jb1r jb1g jbe jb14
 refine ⟨rfl, ⟨Nat.zero_le _, rfl⟩, ?_, fun _ => rfl, ?_⟩
 ·repeat' first | exact inL_b _ _ | exact plainIL _ _ | exact plainRQ _ _ | exact (inV_rn _ 0 _).symm | exact wk_QR | exact trivial | exact rfl | exact wk_refl _ | exact wk_nil _ _ _ (.inl rfl) | (exact wk_Q (by omega)) | refine wk_tupL ?_ | refine wk_aggL ?_ | refine ⟨rfl, ?_⟩ | refine ⟨trivial, ?_⟩ | (refine forkD (fun h => ?_) (fun h => ?_)) | (refine forkNe (fun h => ?_) (fun h => ?_)) | (refine forkEq (fun h => ?_) (fun h => ?_)) | refine forkNot ?_ | (refine ⟨vI64 (by omega), ?_⟩) | (refine And.intro (by omega) ?_) | apply And.intro | (exact iEq (by omega)) | (exact vI64 (by omega))
 rintro x ⟨hx, hs⟩
 refine forkD (fun k => ?_) (fun k => bEq (any_end (by omega) hs).symm)
 have hlt : x < l.length := by omega
 refine ⟨by omega, intAt hlt (by omega), vI64 (by omega), trivial, fun H' _ _ => kIn _ _ _ H', forkB (fun h => bEq ((dec0 x).trans (any_at (d := 0) hlt h).symm)) (fun h => ⟨vI64 (by omega), x + 1, ⟨by omega, any_snoc (d := 0) hlt hs h⟩, by omega, rfl, ?_⟩)⟩
 repeat' first | exact plainIL _ _ | exact wk_QR | exact trivial | exact rfl | exact wk_refl _ | (exact wk_Q (by omega)) | apply And.intro | (exact iEq (by omega))
theorem partQL {l m : List Rq} {k : Nat} (h : k < l.length) {off : Nat} (ho : off = k * 7) : partA 7 ((l ++ m).flatMap rqC) off = some (.agg ⟨rqC (l.getD k zeroQ)⟩) := by
 have := partQ (l := l ++ m) (k := k) (by rw [List.length_append]; omega) ho
 rw [this, List.getD_eq_getElem?_getD, List.getElem?_append_left h, <- List.getD_eq_getElem?_getD]
theorem sameId_1 {r x : Rq} (h : x.id = r.id) : sameId r x = true := decide_eq_true h
theorem sameId_0 {r x : Rq} (h : x.id ≠ r.id) : sameId r x = false := decide_eq_false h
theorem kAnyI (l m : List Rq) (r : Rq) (hl : l.length <= 4294967296) {H : Heap} {i0 i1 : Nat} {o0 o1 : Bool} {z0 z1 : Nat} (e0 : H[i0]? = some (.cells o0 z0 ((l ++ m).flatMap rqC))) (e1 : H[i1]? = some (.cells o1 z1 (rqC r))) :
  KCall prog 135 [.slice (some ⟨i0, 0, some 2⟩) l.length l.length, .func (.func 136) #[] #[.pointer (some ⟨i1, 0, none⟩)]] H [] (Is (.bool (l.any (sameId r))) H) := by
 refine valRx (Eq.mpr (EanyI _ l m r) ?_) ⟨plainRQ 0 _, rfl, trivial⟩ rfl (ids := [i0, i1]) ⟨⟨_, _, e0⟩, ⟨_, _, e1⟩, trivial⟩ rfl
 delta RanyI jbd jbt jb5 jbg jbc jb1b jbl jbj jb1p jb1 jb2 jb1g jbe jb14
 refine ⟨rfl, ⟨Nat.zero_le _, rfl⟩, ?_, fun _ => rfl, ?_⟩
 ·repeat' first | exact plainIL _ _ | exact wk_QR | exact trivial | exact rfl | exact wk_refl _ | (exact wk_Q (by omega)) | apply And.intro | (exact iEq (by omega))
 rintro x ⟨hx, hs⟩
 refine forkD (fun k => ?_) (fun k => bEq (any_end (by omega) hs).symm)
 have hlt : x < l.length := by omega
 refine ⟨by omega, partQL hlt (by omega), forkEq (fun h => bEq ((dec0 x).trans (any_at (d := zeroQ) hlt (sameId_1 h)).symm)) (fun h => ⟨vI64 (by omega), x + 1, ⟨by omega, any_snoc (d := zeroQ) hlt hs (sameId_0 h)⟩, by omega, rfl, ?_⟩)⟩
 repeat' first | exact plainIL _ _ | exact wk_QR | exact trivial | exact rfl | exact wk_refl _ | (exact wk_Q (by omega)) | apply And.intro | (exact iEq (by omega))
theorem bad0 {b : Bool} (h : (!b) = false) : b = true := by cases b <;> first | rfl | cases h
theorem errPol_1 {p : Pol} (h : (!inB p.ov 0 30 || !inB p.warn 0 10000 || [p.w0, p.w1, p.w2].any badW) = true) : (81 : Int) = errPol p := (if_pos h).symm
theorem errPol_0 {p : Pol} (h1 : (!inB p.ov 0 30) = false) (h2 : (!inB p.warn 0 10000) = false) (h3 : (!inB p.w0 0 100) = false) (h4 : (!inB p.w1 0 100) = false) (h5 : (!inB p.w2 0 100) = false) : (0 : Int) = errPol p :=
 (if_neg (by simp only [List.any_cons, List.any_nil, badW, h1, h2, h3, h4, h5]; decide)).symm
theorem errPre_1 {q : Prem} (h : (!inB q.burst 0 20 || !inB q.period 1 200 || !inB q.service 1 200) = true) : (6 : Int) = errPre q := (if_pos h).symm
theorem errPre_0 {q : Prem} (h1 : (!inB q.burst 0 20) = false) (h2 : (!inB q.period 1 200) = false) (h3 : (!inB q.service 1 200) = false) : (0 : Int) = errPre q := (if_neg (by simp only [h1, h2, h3]; decide)).symm
theorem kPol (p : Pol) (H : Heap) : KCall prog 76 [.agg ⟨polC p⟩] H [] (Is (.int .i64 (errPol p)) H) := by
 refine valK 40 (fun σ => rfl) rfl (Eq.mpr (Epol _ p) ?_) H
 delta Rpol jbw jb1c jbd jb1v
 refine ⟨trivial, fun H' _ _ => kIn _ _ _ H', forkB (fun h => iEq (errPol_1 (by simp only [h, Bool.true_or]))) (fun h1 => ⟨trivial, fun H' _ _ => kIn _ _ _ H', forkB (fun h => iEq (errPol_1 (by simp only [h, Bool.true_or, Bool.or_true]))) (fun h2 => ⟨trivial, fun H' _ _ => kIn _ _ _ H', forkB (fun h => iEq (errPol_1 (by simp only [List.any_cons, badW, h, Bool.true_or, Bool.or_true]))) (fun h3 =>
  ⟨trivial, fun H' _ _ => kIn _ _ _ H', forkB (fun h => iEq (errPol_1 (by simp only [List.any_cons, badW, h, Bool.true_or, Bool.or_true]))) (fun h4 => ⟨trivial, fun H' _ _ => kIn _ _ _ H', forkB (fun h => iEq (errPol_1 (by simp only [List.any_cons, badW, h, Bool.true_or, Bool.or_true]))) (fun h5 => iEq (errPol_0 h1 h2 h3 h4 h5))⟩)⟩)⟩)⟩)⟩
theorem kPre (q : Prem) (H : Heap) : KCall prog 82 [.agg ⟨preC q⟩] H [] (Is (.int .i64 (errPre q)) H) := by
 refine valK 40 (fun σ => rfl) rfl (Eq.mpr (Epre _ q) ?_) H
 delta Rpre jb1o jb1s jb1e jb17 jbd
 exact ⟨trivial, fun H' _ _ => kIn _ _ _ H', forkB (fun h => iEq (errPre_1 (by simp only [h, Bool.true_or]))) (fun h1 => ⟨trivial, fun H' _ _ => kIn _ _ _ H', forkB (fun h => iEq (errPre_1 (by simp only [h, Bool.true_or, Bool.or_true]))) (fun h2 => ⟨trivial, fun H' _ _ => kIn _ _ _ H', forkB (fun h => iEq (errPre_1 (by simp only [h, Bool.or_true]))) (fun h3 => iEq (errPre_0 h1 h2 h3))⟩)⟩)⟩
theorem row_1 {n i : Nat} {row : List Int} (h : ((row.length : Nat) : Int) ≠ (n : Int)) : badRow n i row = true := by
 unfold badRow; rw [decide_eq_true (show row.length ≠ n by omega)]; rfl
theorem row_2 {n i : Nat} {row : List Int} (h : row.getD i 0 ≠ 0) : badRow n i row = true := by
 unfold badRow; rw [decide_eq_true h, Bool.or_true]; rfl
theorem row_3 {n i : Nat} {row : List Int} (h : row.any badT = true) : badRow n i row = true := by
 unfold badRow; rw [h, Bool.or_true]
theorem row_0 {n i : Nat} {row : List Int} (h1 : ((row.length : Nat) : Int) = (n : Int)) (h2 : row.getD i 0 = 0) (h3 : row.any badT = false) : badRow n i row = false := by
 unfold badRow; rw [h3, decide_eq_false (fun k => k (by omega)), decide_eq_false (fun k => k h2)]; rfl
theorem errRow_1 {f : Fleet} {i : Nat} (h : badRow f.t.length i (f.t.getD i []) = true) : errRow f i = 80 := if_pos h
theorem errRow_0 {f : Fleet} {i : Nat} (h : badRow f.t.length i (f.t.getD i []) = false) : errRow f i = 0 := if_neg (by rw [h]; decide)
theorem errFl_1 {f : Fleet} (h : (!inB (f.t.length : Int) 1 12) = true) : (2 : Int) = errFl f := (if_pos (.inl h)).symm
theorem errFl_2 {f : Fleet} (h : (!inB (f.b.length : Int) 1 3) = true) : (2 : Int) = errFl f := (if_pos (.inr h)).symm
theorem errFl_3 {f : Fleet} (h1 : (!inB (f.t.length : Int) 1 12) = false) (h2 : (!inB (f.b.length : Int) 1 3) = false) {x : Nat} (hx : x < f.t.length) (hs : errUp (errRow f) x = 0) (h : badRow f.t.length x (f.t.getD x []) = true) : (80 : Int) = errFl f := by
 unfold errFl
 rw [if_neg (by rw [h1, h2]; decide), errUp_at hs (by rw [errRow_1 h]; decide) hx, errRow_1 h]; rfl
theorem errFl_4 {f : Fleet} (h1 : (!inB (f.t.length : Int) 1 12) = false) (h2 : (!inB (f.b.length : Int) 1 3) = false) (hs : errUp (errRow f) f.t.length = 0) (h : f.b.any (badA f.t.length) = true) : (80 : Int) = errFl f := by
 unfold errFl
 rw [if_neg (by rw [h1, h2]; decide), hs, if_pos h]; rfl
theorem errFl_0 {f : Fleet} (h1 : (!inB (f.t.length : Int) 1 12) = false) (h2 : (!inB (f.b.length : Int) 1 3) = false) (hs : errUp (errRow f) f.t.length = 0) (h : f.b.any (badA f.t.length) = false) : (0 : Int) = errFl f := by
 unfold errFl
 rw [if_neg (by rw [h1, h2]; decide), hs, if_neg (by rw [h]; decide)]; rfl
theorem kFl (f : Fleet) (ht : f.t.length <= 4294967296) (hb : f.b.length <= 4294967296) (hs : shortI f.t) {H : Heap} {i0 i1 : Nat} {o0 o1 : Bool} {z0 z1 : Nat} (e0 : H[i0]? = some (.cells o0 z0 (inL f.t))) (e1 : H[i1]? = some (.cells o1 z1 (f.b.flatMap intC))) :
  KCall prog 75 [fleetV f i0 i1] H [] (Is (.int .i64 (errFl f)) H) := by
 refine valRx (Eq.mpr (Efl _ f) ?_) ⟨inL_b 0 _, plainIL 0 _, trivial⟩ rfl (ids := [i0, i1]) ⟨⟨_, _, e0⟩, ⟨_, _, e1⟩, trivial⟩ rfl
 delta Rfl jb0 jb1d jbf jbd jbt jba jbi jb4 jbc jb18 jb1q jb1t jbb jb19 jb1m
 refine ⟨trivial, fun H' _ _ => kIn _ _ _ H', forkB (fun h => iEq (errFl_1 h)) (fun h1 => ⟨trivial, fun H' _ _ => kIn _ _ _ H', forkB (fun h => iEq (errFl_2 h)) (fun h2 => ⟨rfl, ⟨Nat.zero_le _, rfl⟩, ?_, fun _ => rfl, ?_⟩)⟩)⟩
 ·repeat' first | exact plainIL _ _ | exact wk_QR | exact trivial | exact rfl | exact wk_refl _ | (exact wk_Q (by omega)) | apply And.intro | (exact iEq (by omega))
 rintro x ⟨hx, hu⟩
 refine forkD (fun k => ?_) (fun k => ?_)
 ·have hlt : x < f.t.length := by omega
  refine ⟨by omega, inL_at hlt (by omega), _, rfl, forkNe (fun h => iEq (errFl_3 h1 h2 hlt hu (row_1 h))) (fun h3 => ?_)⟩
  have hr : x < (f.t.getD x []).length := by omega
  refine ⟨by omega, intAt hr (by omega), forkNe (fun h => iEq (errFl_3 h1 h2 hlt hu (row_2 h))) (fun h4 => ⟨trivial, fun H' _ _ => kAnyT _ (hs x hlt) H', forkB (fun h => iEq (errFl_3 h1 h2 hlt hu (row_3 h))) (fun h5 => ⟨vI64 (by omega), x + 1, ⟨by omega, errUp_succ hu (errRow_0 (row_0 h3 h4 h5))⟩, by omega, rfl, ?_⟩)⟩)⟩
  repeat' first | exact plainIL _ _ | exact wk_QR | exact trivial | exact rfl | exact wk_refl _ | (exact wk_Q (by omega)) | apply And.intro | (exact iEq (by omega))
 ·obtain rfl : x = f.t.length := by omega
  exact ⟨⟨rfl, rfl, trivial⟩, fun H' _ hd => kAnyA f.b _ hb ht hd.1 hd.2.1, forkB (fun h => iEq (errFl_4 h1 h2 hu h)) (fun h => iEq (errFl_0 h1 h2 hu h))⟩
end
end Go.Proofs.YthdekmpkioikdaaGreat
/- Request: what is wrong with requests; the greatest number. No condition. -/
namespace Go.Proofs.YthdekmpkioikdaaGreat
open Go Go.K
set_option maxRecDepth 100000
set_option linter.unusedVariables false
set_option linter.unusedSimpArgs false
noncomputable section
attribute [local irreducible] vF
theorem errRq_2 {n : Nat} {l : List Rq} (h : (30 : Int) < (l.length : Int)) : (2 : Int) = errRq n l := (if_pos (by omega)).symm
theorem errRq1_1 {n : Nat} {l : List Rq} {x : Nat} (h : badRq n (l.getD x zeroQ) = true) : errRq1 n l x = 80 := if_pos h
theorem errRq1_2 {n : Nat} {l : List Rq} {x : Nat} (h : badRq n (l.getD x zeroQ) = false) (h2 : (l.take x).any (sameId (l.getD x zeroQ)) = true) : errRq1 n l x = 10 := by
 unfold errRq1; rw [if_neg (by rw [h]; decide), if_pos h2]
theorem errRq1_0 {n : Nat} {l : List Rq} {x : Nat} (h : badRq n (l.getD x zeroQ) = false) (h2 : (l.take x).any (sameId (l.getD x zeroQ)) = false) : errRq1 n l x = 0 := by
 unfold errRq1; rw [if_neg (by rw [h]; decide), if_neg (by rw [h2]; decide)]
theorem errRq_e {n : Nat} {l : List Rq} (h0 : ¬ (30 : Int) < (l.length : Int)) {x : Nat} (hx : x < l.length) (hu : errUp (errRq1 n l) x = 0) {e : Int} (he : errRq1 n l x = e) (hne : e ≠ 0) : e = errRq n l := by
 unfold errRq
 rw [if_neg (by omega), errUp_at hu (by rw [he]; exact hne) hx, he]
theorem errRq_0 {n : Nat} {l : List Rq} (h0 : ¬ (30 : Int) < (l.length : Int)) (hu : errUp (errRq1 n l) l.length = 0) : (0 : Int) = errRq n l := by
 unfold errRq
 rw [if_neg (by omega), hu]
theorem badRq_0 {n : Nat} {r : Rq} (h1 : (!inB r.id 0 1000000) = false) (h2 : (!inB r.at_ 0 10000) = false) (h3 : (!inB r.place 0 ((n : Int) - 1)) = false) (h4 : (!inB r.dest 0 ((n : Int) - 1)) = false) (h5 : (!inB r.len 1 100) = false) (h6 : (!inB r.prio 1 3) = false) (h7 : (!inB r.limit 0 10000) = false) : badRq n r = false := by
 unfold badRq; rw [h1, h2, h3, h4, h5, h6, h7]; rfl
theorem kRq (f : Fleet) (l : List Rq) (ht : f.t.length <= 4294967296) {H : Heap} {i0 i1 i2 : Nat} {o0 o1 o2 : Bool} {z0 z1 z2 : Nat} (e0 : H[i0]? = some (.cells o0 z0 (inL f.t))) (e1 : H[i1]? = some (.cells o1 z1 (f.b.flatMap intC))) (e2 : H[i2]? = some (.cells o2 z2 (l.flatMap rqC))) :
  KCall prog 77 [fleetV f i0 i1, .slice (some ⟨i2, 0, some 2⟩) l.length l.length] H [] (Is (.int .i64 (errRq f.t.length l)) H) := by
 refine valRx (Eq.mpr (Erq _ f l) ?_) ⟨inL_b 0 _, plainIL 0 _, plainRQ 0 _, trivial⟩ rfl (ids := [i0, i1, i2]) ⟨⟨_, _, e0⟩, ⟨_, _, e1⟩, ⟨_, _, e2⟩, trivial⟩ rfl
 delta Rrq jb5 jb1x jb1d jb0 jby jbd jbt jbu jb4 jbc jbq jbl jbv jbj jb1p jb1 jb2 jb12 jbb jb15 jbo jbs jb1f jb1l jbz jb3 jb1k jbe jb14
 refine forkD (fun h => iEq (errRq_2 h)) (fun h0 => ⟨vI64 (by omega), rfl, ⟨Nat.zero_le _, rfl⟩, ?_, fun _ => rfl, ?_⟩)
 ·repeat' first | exact plainIL _ _ | exact wk_QR | exact trivial | exact rfl | exact wk_refl _ | (exact wk_Q (by omega)) | apply And.intro | (exact iEq (by omega))
 rintro x ⟨hx, hu⟩
 refine forkD (fun k => ?_) (fun k => ?_)
 ·have hlt : x < l.length := by omega
  refine ⟨by omega, partQ hlt (by omega), trivial, fun H' _ _ => kIn _ _ _ H', forkB (fun h => ?_) (fun h1 => ⟨trivial, fun H' _ _ => kIn _ _ _ H', forkB (fun h => ?_) (fun h2 => ⟨trivial, fun H' _ _ => kIn _ _ _ H', forkB (fun h => ?_) (fun h3 => ⟨trivial, fun H' _ _ => kIn _ _ _ H', forkB (fun h => ?_) (fun h4 =>
   ⟨trivial, fun H' _ _ => kIn _ _ _ H', forkB (fun h => ?_) (fun h5 => ⟨trivial, fun H' _ _ => kIn _ _ _ H', forkB (fun h => ?_) (fun h6 => ⟨trivial, fun H' _ _ => kIn _ _ _ H', forkB (fun h => ?_) (fun h7 => ?_)⟩)⟩)⟩)⟩)⟩)⟩)⟩
  all_goals first | (exact iEq (errRq_e h0 hlt hu (errRq1_1 (by unfold badRq; simp only [h, Bool.true_or, Bool.or_true])) (by decide))) | skip
  have hb := badRq_0 h1 h2 h3 h4 h5 h6 h7
  refine ⟨⟨⟨.inl rfl, by omega⟩, by omega, Nat.zero_le _⟩, rfl, ⟨rfl, rfl, trivial⟩, fun H' _ hd => ?_, forkB (fun h => iEq (errRq_e h0 hlt hu (errRq1_2 hb h) (by decide))) (fun h => ⟨vI64 (by omega), x + 1, ⟨by omega, errUp_succ hu (errRq1_0 hb h)⟩, by omega, rfl, ?_⟩)⟩
  ·have key := kAnyI (l.take x) (l.drop x) (l.getD x zeroQ) (by rw [take_len hx]; omega) (by rw [List.take_append_drop]; exact hd.1) hd.2.1
   rw [take_len hx] at key; exact key
  ·repeat' first | exact plainIL _ _ | exact wk_QR | exact trivial | exact rfl | exact wk_refl _ | (exact wk_Q (by omega)) | apply And.intro | (exact iEq (by omega))
 ·obtain rfl : x = l.length := by omega
  exact iEq (errRq_0 h0 hu)
theorem maxL_snoc (l : List Int) (x : Int) : maxL (l ++ [x]) = max (maxL l) x := by unfold maxL; rw [List.foldl_append]; rfl
theorem maxTo_succ {l : List Int} {k : Nat} (h : k < l.length) : maxTo l (k + 1) = max (maxTo l k) (l.getD k 0) := by unfold maxTo; rw [take_snoc (d := 0) h, maxL_snoc]
theorem maxTo_all {l : List Int} {k : Nat} (h : ¬ k < l.length) : maxTo l k = maxL l := by unfold maxTo; rw [List.take_of_length_le (by omega)]
theorem kMax (l : List Int) (hl : l.length <= 4294967296) (h1 : 0 < l.length) (h0 : 0 <= l.getD 0 0) (H : Heap) : KCall prog 83 [inV l] H [] (Is (.int .i64 (maxL l)) H) := by
 refine valK 40 (fun σ => by have := inV_rn σ 2 l; show [rn σ (2 + 3) (inV l)] = _; rw [this]; rfl) rfl (Eq.mpr (Emax _ l) ?_) H
 delta Rmax jb8 jb6 jbd jbc jb1b jbl jbr
 refine forkD (fun h => by omega) (fun h => ⟨by omega, intAt h1 rfl, rfl, by omega, ?_, fun _ => rfl, ?_⟩)
 ·have : l.getD 0 0 = maxTo l (0 + 1) := by rw [maxTo_succ h1]; show _ = max (maxL (l.take 0)) _; rw [List.take_zero]; show _ = max 0 _; omega
  repeat' first | exact inL_b _ _ | exact plainIL _ _ | exact plainRQ _ _ | exact (inV_rn _ 0 _).symm | exact wk_QR | exact iEq this | exact trivial | exact rfl | exact wk_refl _ | exact wk_nil _ _ _ (.inl rfl) | (exact wk_Q (by omega)) | refine wk_tupL ?_ | refine wk_aggL ?_ | refine ⟨rfl, ?_⟩ | refine ⟨trivial, ?_⟩ | (refine forkD (fun h => ?_) (fun h => ?_)) | (refine forkNe (fun h => ?_) (fun h => ?_)) | (refine forkEq (fun h => ?_) (fun h => ?_)) | refine forkNot ?_ | (refine ⟨vI64 (by omega), ?_⟩) | (refine And.intro (by omega) ?_) | apply And.intro | (exact iEq (by omega)) | (exact vI64 (by omega))
 intro x hx
 refine forkD (fun k => ?_) (fun k => iEq (maxTo_all (by omega)))
 have hlt : x + 1 < l.length := by omega
 refine ⟨by omega, intAt hlt (by omega), _, rfl, vI64 (by omega), x + 1, by omega, by omega, rfl, ?_⟩
 have : (if l.getD (x + 1) 0 > maxTo l (x + 1) then l.getD (x + 1) 0 else maxTo l (x + 1)) = maxTo l (x + 1 + 1) := by rw [maxTo_succ hlt]; split <;> omega
 repeat' first | exact inL_b _ _ | exact plainIL _ _ | exact plainRQ _ _ | exact (inV_rn _ 0 _).symm | exact wk_QR | exact iEq this | exact trivial | exact rfl | exact wk_refl _ | exact wk_nil _ _ _ (.inl rfl) | (exact wk_Q (by omega)) | refine wk_tupL ?_ | refine wk_aggL ?_ | refine ⟨rfl, ?_⟩ | refine ⟨trivial, ?_⟩ | (refine forkD (fun h => ?_) (fun h => ?_)) | (refine forkNe (fun h => ?_) (fun h => ?_)) | (refine forkEq (fun h => ?_) (fun h => ?_)) | refine forkNot ?_ | (refine ⟨vI64 (by omega), ?_⟩) | (refine And.intro (by omega) ?_) | apply And.intro | (exact iEq (by omega)) | (exact vI64 (by omega))
end
end Go.Proofs.YthdekmpkioikdaaGreat
/- Request: plain laws of premises, fleets and requests. No condition. -/
namespace Go.Proofs.YthdekmpkioikdaaGreat
set_option linter.unusedSimpArgs false
open Go Go.K
set_option linter.unusedVariables false
noncomputable section
theorem first2_0 {a b : Int} (h : first2 a b = 0) : a = 0 /\ b = 0 := by
 unfold first2 at h; split at h
 ·rename_i k; exact ⟨k, h⟩
 ·rename_i k; exact absurd h k
structure FlOk (f : Fleet) : Prop where
 n1 : 1 <= f.t.length
 n2 : f.t.length <= 12
 b1 : 1 <= f.b.length
 b2 : f.b.length <= 3
 row : ∀ k, k < f.t.length -> (f.t.getD k []).length = f.t.length
 el : ∀ k j, k < f.t.length -> 0 <= (f.t.getD k []).getD j 0 /\ (f.t.getD k []).getD j 0 <= 100
 br : ∀ k, k < f.b.length -> 0 <= f.b.getD k 0 /\ f.b.getD k 0 <= (f.t.length : Int) - 1
theorem any_no {α : Type} {l : List α} {d : α} {p : α -> Bool} (h : l.any p = false) {k : Nat} (hk : k < l.length) : p (l.getD k d) = false := by
 have := List.any_eq_false.1 h _ (getD_mem (d := d) hk)
 cases hp : p (l.getD k d) with
 | false => rfl
 | true => exact absurd hp this
theorem flOk {f : Fleet} (h : errFl f = 0) : FlOk f := by
 unfold errFl at h
 split at h
 ·cases h
 ·rename_i h0
  obtain ⟨h1, h2⟩ := first2_0 h
  have a1 : inB (f.t.length : Int) 1 12 = true := by
   cases hb : inB (f.t.length : Int) 1 12 with
   | true => rfl
   | false => exact absurd (.inl (by rw [hb]; rfl)) h0
  have a2 : inB (f.b.length : Int) 1 3 = true := by
   cases hb : inB (f.b.length : Int) 1 3 with
   | true => rfl
   | false => exact absurd (.inr (by rw [hb]; rfl)) h0
  have b1 := inB_2 a1
  have b2 := inB_2 a2
  have hr : ∀ k, k < f.t.length -> badRow f.t.length k (f.t.getD k []) = false := by
   intro k hk
   have := errUp_all h1 k hk
   unfold errRow at this
   split at this
   ·cases this
   ·rename_i hb; cases hc : badRow f.t.length k (f.t.getD k []) with
    | false => rfl
    | true => exact absurd hc hb
  have hlen : ∀ k, k < f.t.length -> (f.t.getD k []).length = f.t.length := by
   intro k hk
   have := hr k hk
   unfold badRow at this
   rw [Bool.or_eq_false_iff, Bool.or_eq_false_iff] at this
   have := of_decide_eq_false this.1.1
   omega
  refine ⟨by omega, by omega, by omega, by omega, hlen, fun k j hk => ?_, fun k hk => ?_⟩
  ·by_cases hj : j < (f.t.getD k []).length
   ·have := hr k hk
    unfold badRow at this
    rw [Bool.or_eq_false_iff] at this
    have h3 := any_no (d := 0) this.2 hj
    exact inB_2 (bad0 h3)
   ·rw [List.getD_eq_getElem?_getD, List.getElem?_eq_none (by omega)]; decide
  ·have hb : f.b.any (badA f.t.length) = false := by
    cases hc : f.b.any (badA f.t.length) with
    | false => rfl
    | true => rw [if_pos hc] at h2; cases h2
   exact inB_2 (bad0 (any_no (d := 0) hb hk))
structure RqOk (n : Nat) (r : Rq) : Prop where
 id : 0 <= r.id /\ r.id <= 1000000
 at_ : 0 <= r.at_ /\ r.at_ <= 10000
 place : 0 <= r.place /\ r.place <= (n : Int) - 1
 dest : 0 <= r.dest /\ r.dest <= (n : Int) - 1
 len : 1 <= r.len /\ r.len <= 100
 prio : 1 <= r.prio /\ r.prio <= 3
 limit : 0 <= r.limit /\ r.limit <= 10000
theorem rqOk {n : Nat} {r : Rq} (h : badRq n r = false) : RqOk n r := by
 unfold badRq at h
 simp only [Bool.or_eq_false_iff] at h
 obtain ⟨⟨⟨⟨⟨⟨h1, h2⟩, h3⟩, h4⟩, h5⟩, h6⟩, h7⟩ := h
 exact ⟨inB_2 (bad0 h1), inB_2 (bad0 h2), inB_2 (bad0 h3), inB_2 (bad0 h4), inB_2 (bad0 h5), inB_2 (bad0 h6), inB_2 (bad0 h7)⟩
structure LsOk (n : Nat) (l : List Rq) : Prop where
 len : l.length <= 30
 ok : ∀ k, k < l.length -> RqOk n (l.getD k zeroQ)
 ne : ∀ k j, k < l.length -> j < k -> (l.getD j zeroQ).id ≠ (l.getD k zeroQ).id
theorem lsOk {n : Nat} {l : List Rq} (h : errRq n l = 0) : LsOk n l := by
 unfold errRq at h
 split at h
 ·cases h
 ·have hb : ∀ k, k < l.length -> badRq n (l.getD k zeroQ) = false /\ (l.take k).any (sameId (l.getD k zeroQ)) = false := by
   intro k hk
   have := errUp_all h k hk
   unfold errRq1 at this
   split at this
   ·cases this
   ·rename_i h1
    split at this
    ·cases this
    ·rename_i h2
     refine ⟨?_, ?_⟩
     ·cases hc : badRq n (l.getD k zeroQ) with
      | false => rfl
      | true => exact absurd hc h1
     ·cases hc : (l.take k).any (sameId (l.getD k zeroQ)) with
      | false => rfl
      | true => exact absurd hc h2
  refine ⟨by omega, fun k hk => rqOk (hb k hk).1, fun k j hk hj => ?_⟩
  have hjt : j < (l.take k).length := by rw [take_len (by omega)]; exact hj
  have := any_no (d := zeroQ) (hb k hk).2 hjt
  have hg : (l.take k).getD j zeroQ = l.getD j zeroQ := by rw [List.getD_eq_getElem?_getD, List.getElem?_take, if_pos (by omega), <- List.getD_eq_getElem?_getD]
  rw [hg] at this
  exact of_decide_eq_false this
structure PreOk (q : Prem) : Prop where
 burst : 0 <= q.burst /\ q.burst <= 20
 period : 1 <= q.period /\ q.period <= 200
 service : 1 <= q.service /\ q.service <= 200
theorem preOk {q : Prem} (h : errPre q = 0) : PreOk q := by
 unfold errPre at h
 split at h
 ·cases h
 ·rename_i h0
  have : (!inB q.burst 0 20 || !inB q.period 1 200 || !inB q.service 1 200) = false := by
   cases hc : (!inB q.burst 0 20 || !inB q.period 1 200 || !inB q.service 1 200) with
   | false => rfl
   | true => exact absurd hc h0
  simp only [Bool.or_eq_false_iff] at this
  exact ⟨inB_2 (bad0 this.1.1), inB_2 (bad0 this.1.2), inB_2 (bad0 this.2)⟩
theorem maxL_bd {c : Int} (hc : 0 <= c) : ∀ (l : List Int), (∀ x ∈ l, x <= c) -> 0 <= maxL l /\ maxL l <= c := by
 have key : ∀ (l : List Int) (m : Int), 0 <= m -> m <= c -> (∀ x ∈ l, x <= c) -> 0 <= l.foldl max m /\ l.foldl max m <= c := by
  intro l
  induction l with
  | nil => intro m h1 h2 _; exact ⟨h1, h2⟩
  | cons x l ih =>
   intro m h1 h2 h3
   have hx := h3 x (List.mem_cons_self ..)
   exact ih (max m x) (by omega) (by omega) fun y hy => h3 y (List.mem_cons_of_mem _ hy)
 exact fun l h => key l 0 (Int.le_refl _) hc h
theorem mem_getD {α : Type} {l : List α} {x : α} (d : α) (h : x ∈ l) : ∃ k, k < l.length /\ l.getD k d = x := by
 obtain ⟨k, hk, e⟩ := List.getElem_of_mem h
 exact ⟨k, hk, by rw [List.getD_eq_getElem?_getD, List.getElem?_eq_getElem hk]; exact e⟩
theorem row_bd {f : Fleet} (o : FlOk f) {k : Nat} (hk : k < f.t.length) : ∀ x ∈ f.t.getD k [], x <= 100 := by
 intro x hx
 obtain ⟨j, hj, rfl⟩ := mem_getD 0 hx
 exact (o.el k j hk).2
theorem far_bd {f : Fleet} (o : FlOk f) (k : Nat) : 0 <= farTo f k /\ farTo f k <= 100 := by
 refine maxL_bd (by decide) _ fun x hx => ?_
 obtain ⟨r, hr, rfl⟩ := List.mem_map.1 hx
 obtain ⟨j, hj, rfl⟩ := mem_getD [] (List.take_subset _ _ hr)
 exact (maxL_bd (by decide) _ (row_bd o hj)).2
theorem far_succ {f : Fleet} {k : Nat} (hk : k < f.t.length) : farTo f (k + 1) = max (farTo f k) (maxL (f.t.getD k [])) := by
 unfold farTo; rw [take_snoc (d := []) hk, List.map_append, List.map_cons, List.map_nil, maxL_snoc]
theorem farAt_end {f : Fleet} (o : FlOk f) {i : Nat} (hi : i < f.t.length) : farAt f i f.t.length = farTo f (i + 1) := by
 unfold farAt; rw [far_succ hi, maxTo_all (by rw [o.row i hi]; omega)]
theorem farAt_0 {f : Fleet} (o : FlOk f) {i : Nat} : farAt f i 0 = farTo f i := by
 have := far_bd o i
 unfold farAt maxTo; rw [List.take_zero]; show max _ 0 = _; omega
theorem farAt_succ {f : Fleet} {i k : Nat} (h : k < (f.t.getD i []).length) : farAt f i (k + 1) = max (farAt f i k) ((f.t.getD i []).getD k 0) := by
 unfold farAt; rw [maxTo_succ h]; omega
theorem srt_le (L : List Int) : (srtI L).Pairwise (· <= ·) := by
 have h := List.pairwise_mergeSort (le := fun x y : Int => decide (x <= y)) (fun a b c h1 h2 => by simp at *; omega) (fun a b => by simp; omega) L
 exact h.imp fun h => by simpa using h
theorem srt_mem (L : List Int) (z : Int) : z ∈ srtI L ↔ z ∈ L := (List.mergeSort_perm L _).mem_iff
theorem srt_len (L : List Int) : (srtI L).length = L.length := List.length_mergeSort _
theorem srt_mono {L : List Int} {i j : Nat} (h : i <= j) (hj : j < L.length) : (srtI L).getD i 0 <= (srtI L).getD j 0 := by
 have hl := srt_len L
 rcases Nat.eq_or_lt_of_le h with rfl | h
 ·exact Int.le_refl _
 ·rw [List.getD_eq_getElem?_getD, List.getD_eq_getElem?_getD, List.getElem?_eq_getElem (by omega), List.getElem?_eq_getElem (by omega)]
  exact List.pairwise_iff_getElem.1 (srt_le L) i j (by omega) (by omega) h
def crN (p : Nat -> Bool) (n : Nat) : Nat := ((List.range n).filter p).length
theorem crN_succ (p : Nat -> Bool) (n : Nat) : crN p (n + 1) = crN p n + (if p n = true then 1 else 0) := by
 unfold crN
 rw [List.range_succ, List.filter_append, List.length_append]
 cases h : p n <;> simp [h]
theorem crN_mono {p r : Nat -> Bool} : ∀ {n : Nat}, (∀ t, t < n -> p t = true -> r t = true) -> crN p n <= crN r n := by
 intro n
 induction n with
 | zero => intro _; exact Nat.le_refl _
 | succ n ih =>
  intro h
  have h1 := ih fun t ht => h t (by omega)
  have h2 := h n (by omega)
  rw [crN_succ, crN_succ]
  split
  ·rename_i hp; rw [if_pos (h2 hp)]; omega
  ·omega
theorem crN_iv (i j : Nat) : ∀ n : Nat, crN (fun t => decide (i <= t) && decide (t <= j)) n = min n (j + 1) - i := by
 intro n
 induction n with
 | zero => show 0 = _; omega
 | succ n ih =>
  rw [crN_succ, ih]
  split
  ·rename_i h; rw [Bool.and_eq_true] at h; have h1 := of_decide_eq_true h.1; have h2 := of_decide_eq_true h.2; omega
  ·rename_i h
   have : ¬ (i <= n /\ n <= j) := fun k => h (by rw [decide_eq_true k.1, decide_eq_true k.2]; rfl)
   omega
theorem crN_map {S : List Int} {p : Int -> Bool} : (S.filter p).length = crN (fun t => p (S.getD t 0)) S.length := by
 have e : S = (List.range S.length).map fun t => S.getD t 0 := by
  refine List.ext_getElem? fun k => ?_
  by_cases hk : k < S.length
  ·rw [List.getElem?_map, List.getElem?_range hk, List.getElem?_eq_getElem hk]
   show some S[k] = some (S.getD k 0)
   rw [List.getD_eq_getElem?_getD, List.getElem?_eq_getElem hk]; rfl
  ·rw [List.getElem?_eq_none (by omega), List.getElem?_eq_none (by simp; omega)]
 unfold crN
 conv => lhs; rw [e]
 rw [List.filter_map, List.length_map]; rfl
def btw (a b t : Int) : Bool := decide (a <= t) && decide (t <= b)
theorem cnt_srt (l : List Rq) (a b : Int) : cntIn l a b l.length = crN (fun t => btw a b ((srtI (hours l)).getD t 0)) l.length := by
 have h1 : cntIn l a b l.length = ((hours l).filter (btw a b)).length := by
  unfold cntIn hours; rw [List.take_length, List.filter_map, List.length_map]; rfl
 have h2 : ((hours l).filter (btw a b)).length = ((srtI (hours l)).filter (btw a b)).length := ((List.mergeSort_perm (hours l) _).filter _).length_eq.symm
 rw [h1, h2, crN_map, srt_len]; unfold hours; rw [List.length_map]
theorem leastN {p : Nat -> Prop} [DecidablePred p] : ∀ {n : Nat}, (∃ i, i < n /\ p i) -> ∃ i, i < n /\ p i /\ ∀ t, t < i -> ¬ p t := by
 intro n
 induction n with
 | zero => rintro ⟨i, h, _⟩; omega
 | succ n ih =>
  rintro ⟨i, h, hp⟩
  by_cases hn : ∃ i, i < n /\ p i
  ·obtain ⟨j, h1, h2⟩ := ih hn; exact ⟨j, by omega, h2⟩
  ·have : i = n := by
    rcases Nat.lt_or_ge i n with k | k
    ·exact absurd ⟨i, k, hp⟩ hn
    ·omega
   subst this
   exact ⟨i, h, hp, fun t ht hpt => hn ⟨t, ht, hpt⟩⟩
theorem mostN {p : Nat -> Prop} [DecidablePred p] : ∀ {n : Nat}, (∃ i, i < n /\ p i) -> ∃ i, i < n /\ p i /\ ∀ t, i < t -> t < n -> ¬ p t := by
 intro n
 induction n with
 | zero => rintro ⟨i, h, _⟩; omega
 | succ n ih =>
  rintro ⟨i, h, hp⟩
  by_cases hn : p n
  ·exact ⟨n, by omega, hn, fun t h1 h2 => by omega⟩
  ·have hi : i < n := by
    rcases Nat.lt_or_ge i n with k | k
    ·exact k
    ·have : i = n := by omega
     subst this; exact absurd hp hn
   obtain ⟨j, h1, h2, h3⟩ := ih ⟨i, hi, hp⟩
   refine ⟨j, by omega, h2, fun t h4 h5 => ?_⟩
   by_cases ht : t = n
   ·subst ht; exact hn
   ·exact h3 t h4 (by omega)
theorem tight_mono {q : Prem} {n m d : Int} (h : n <= m) (ht : tight q m d = true) : tight q n d = true := by
 unfold tight at *
 have := of_decide_eq_true ht
 exact decide_eq_true (by omega)
theorem hours_len (l : List Rq) : (hours l).length = l.length := List.length_map ..
theorem rows_pairs (l : List Rq) (q : Prem) : (List.range l.length).all (okRow (srtI (hours l)) q) = l.all (fun x => l.all (pairOk l q x)) := by
 have hl : (srtI (hours l)).length = l.length := by rw [srt_len, hours_len]
 refine Bool.eq_iff_iff.2 ⟨fun h => ?_, fun h => ?_⟩
 ·rw [List.all_eq_true]; intro x hx
  rw [List.all_eq_true]; intro y hy
  unfold pairOk
  by_cases hlt : y.at_ < x.at_
  ·rw [decide_eq_true hlt]; rfl
  rw [decide_eq_false hlt, Bool.false_or]
  have mx : ∃ i, i < l.length /\ (srtI (hours l)).getD i 0 = x.at_ := by
   obtain ⟨k, h1, h2⟩ := mem_getD 0 ((srt_mem (hours l) x.at_).2 (List.mem_map.2 ⟨x, hx, rfl⟩))
   exact ⟨k, by omega, h2⟩
  have my : ∃ i, i < l.length /\ (srtI (hours l)).getD i 0 = y.at_ := by
   obtain ⟨k, h1, h2⟩ := mem_getD 0 ((srt_mem (hours l) y.at_).2 (List.mem_map.2 ⟨y, hy, rfl⟩))
   exact ⟨k, by omega, h2⟩
  obtain ⟨i, i1, i2, i3⟩ := leastN (p := fun i => (srtI (hours l)).getD i 0 = x.at_) mx
  obtain ⟨j, j1, j2, j3⟩ := mostN (p := fun i => (srtI (hours l)).getD i 0 = y.at_) my
  have hij : i <= j := by
   rcases Nat.lt_or_ge j i with k | k
   ·have := srt_mono (L := hours l) (Nat.le_of_lt k) (by rw [hours_len]; exact i1)
    exact absurd (by rw [j2]; omega) (i3 j k)
   ·exact k
  have hc : cntIn l x.at_ y.at_ l.length <= j - i + 1 := by
   rw [cnt_srt]
   have h1 := crN_mono (p := fun t => btw x.at_ y.at_ ((srtI (hours l)).getD t 0)) (r := fun t => decide (i <= t) && decide (t <= j)) (n := l.length) (by
    intro t ht hb
    unfold btw at hb
    rw [Bool.and_eq_true] at hb
    have b1 := of_decide_eq_true hb.1
    have b2 := of_decide_eq_true hb.2
    have c1 : i <= t := by
     rcases Nat.lt_or_ge t i with k | k
     ·have := srt_mono (L := hours l) (Nat.le_of_lt k) (by rw [hours_len]; exact i1)
      exact absurd (by omega) (i3 t k)
     ·exact k
    have c2 : t <= j := by
     rcases Nat.lt_or_ge j t with k | k
     ·have := srt_mono (L := hours l) (Nat.le_of_lt k) (by rw [hours_len]; exact ht)
      exact absurd (by omega) (j3 t k ht)
     ·exact k
    rw [decide_eq_true c1, decide_eq_true c2]; rfl)
   rw [crN_iv] at h1
   omega
  have hr := List.all_eq_true.1 h i (List.mem_range.2 i1)
  unfold okRow at hr
  have := List.all_eq_true.1 hr (j - i) (List.mem_range.2 (by omega))
  unfold okCell at this
  rw [show i + (j - i) = j by omega, i2, j2] at this
  exact tight_mono (by omega) this
 ·rw [List.all_eq_true]; intro i hi
  have hi := List.mem_range.1 hi
  unfold okRow
  rw [List.all_eq_true]; intro k hk
  have hk := List.mem_range.1 hk
  rw [hl] at hk
  have mm : ∀ t, t < l.length -> ∃ x ∈ l, (srtI (hours l)).getD t 0 = x.at_ := by
   intro t ht
   have : (srtI (hours l)).getD t 0 ∈ hours l := (srt_mem _ _).1 (getD_mem (by omega))
   obtain ⟨x, h1, h2⟩ := List.mem_map.1 this
   exact ⟨x, h1, h2.symm⟩
  obtain ⟨x, hx, ex⟩ := mm i hi
  obtain ⟨y, hy, ey⟩ := mm (i + k) (by omega)
  have hp := List.all_eq_true.1 (List.all_eq_true.1 h x hx) y hy
  have hm := srt_mono (L := hours l) (i := i) (j := i + k) (by omega) (by rw [hours_len]; omega)
  unfold pairOk at hp
  rw [decide_eq_false (by omega), Bool.false_or, cnt_srt] at hp
  unfold okCell
  rw [ex, ey]
  refine tight_mono ?_ hp
  have h1 := crN_mono (p := fun t => decide (i <= t) && decide (t <= i + k)) (r := fun t => btw x.at_ y.at_ ((srtI (hours l)).getD t 0)) (n := l.length) (by
   intro t ht hb
   rw [Bool.and_eq_true] at hb
   have b1 := of_decide_eq_true hb.1
   have b2 := of_decide_eq_true hb.2
   have c1 := srt_mono (L := hours l) b1 (by rw [hours_len]; exact ht)
   have c2 := srt_mono (L := hours l) b2 (by rw [hours_len]; omega)
   unfold btw
   rw [decide_eq_true (by omega), decide_eq_true (by omega)]; rfl)
  rw [crN_iv] at h1
  omega
theorem hold_split (f : Fleet) (l : List Rq) (q : Prem) : holdOk f l q = (l.all (fits f q) && (List.range l.length).all (okRow (srtI (hours l)) q)) := by
 rw [rows_pairs]
 unfold holdOk
 refine Bool.eq_iff_iff.2 ⟨fun h => ?_, fun h => ?_⟩
 ·rw [Bool.and_eq_true, List.all_eq_true, List.all_eq_true]
  rw [List.all_eq_true] at h
  exact ⟨fun x hx => (Bool.and_eq_true _ _ ▸ h x hx : fits f q x = true /\ _).1, fun x hx => (Bool.and_eq_true _ _ ▸ h x hx : _ /\ l.all (pairOk l q x) = true).2⟩
 ·rw [Bool.and_eq_true, List.all_eq_true, List.all_eq_true] at h
  rw [List.all_eq_true]
  intro x hx
  unfold holdAt
  rw [h.1 x hx, h.2 x hx]; rfl
end
end Go.Proofs.YthdekmpkioikdaaGreat
/- What is to be shown of functions. Printed by a program. No condition. -/
namespace Go.Proofs.YthdekmpkioikdaaGreat
set_option linter.unusedSimpArgs false
open Go Go.K
set_option maxRecDepth 100000
set_option maxHeartbeats 4000000
set_option linter.unusedVariables false
noncomputable section
def RSort0 (sp : Value)  : Prop :=
 (.tuple #[] : Value) = sp
theorem ESort0 (sp : Value)  : vF prog msk (dm 0) 100000 true 40 true 84 [slQ 0 1 0] ⟨0,.leaf⟩ (some [])
 (.auto)
 (fun v _ _ => v = sp) = RSort0 sp :=by kernel_rfl
abbrev jcx (f : Fleet) : Prop:=(someR (.cells false 0 (inL f.t))) /\ (someR (.cells false 0 (f.b.flatMap intC))) /\ True
abbrev jct (H' : Heap) (f : Fleet) : Prop:=H'[0]? = some (.cells false 0 (inL f.t) : KObj) /\ H'[1]? = some (.cells false 0 (f.b.flatMap intC) : KObj) /\ True
abbrev jc1r (f : Fleet) : List Value:=[.agg #[slQ 0 2 f.t.length,slQ 1 2 f.b.length]]
abbrev jc1g (f : Fleet) (l : List Rq) : Prop:=(someR (.cells false 0 (inL f.t))) /\ (someR (.cells false 0 (f.b.flatMap intC))) /\ (someR (.cells false 0 (l.flatMap rqC))) /\ True
abbrev jc12 (H' : Heap) (f : Fleet) (l : List Rq) : Prop:=H'[0]? = some (.cells false 0 (inL f.t) : KObj) /\ H'[1]? = some (.cells false 0 (f.b.flatMap intC) : KObj) /\ H'[2]? = some (.cells false 0 (l.flatMap rqC) : KObj) /\ True
abbrev jc1d (q : Prem) : List Value:=[.agg #[nI q.burst,nI q.period,nI q.service]]
abbrev jc22 (f : Fleet) : Int:=(errFl f)
abbrev jc1j (q : Prem) : Int:=(errPre q)
abbrev jc11 : Value:=nI 0
abbrev jc1a : Int:=(0 : Nat)
abbrev jc8 : Value:=.pointer (some ⟨4,0,none⟩)
abbrev jcz (f : Fleet) : Int:=(f.t.length : Nat)
abbrev jcp (l : List Rq) (f : Fleet) : Prop:=wkR (slQ 2 2 l.length) /\ jc8 = .pointer (some ⟨4,0,none⟩) /\ (.bool false : Value) = .bool false /\ jc11 = nI 0 /\ wkR (slQ 0 2 f.t.length) /\ (nI (jcz f) : Value) = nI (jcz f) /\ True
abbrev jcl (f : Fleet) : List Value:=[slQ 0 2 f.t.length,slQ 1 2 f.b.length]
abbrev jc6 (q : Prem) : List Value:=[nI q.burst,nI q.period,nI q.service]
abbrev jc1t (q : Prem) : KObj:=.cells true 0 (jc6 q)
abbrev jcv : Prop:=(True) /\ (True)
abbrev jc1y (x3 : Nat) (f : Fleet):=decide (((x3 : Int) : Int) < (jcz f))
abbrev jc1s (x3 : Nat) : Value:=nI (IntKind.wrap .i64 ((x3 : Int) + 1))
abbrev jci (l : List Rq) : Int:=(l.length : Nat)
abbrev jc19 (f : Fleet) (x3 : Nat) (l : List Rq) : Prop:=jc8 = .pointer (some ⟨4,0,none⟩) /\ (nI (farTo f x3) : Value) = nI (farTo f x3) /\ wkR (slQ 2 2 l.length) /\ (nI (jci l) : Value) = nI (jci l) /\ True
abbrev jc1z (x4 : Nat) (l : List Rq):=decide (((x4 : Int) : Int) < (jci l))
abbrev jc13 (x4 : Nat) (l : List Rq) : Prop:=(0 : Int) <= (x4 : Int) /\ ((x4 : Int) : Int) < (jci l)
abbrev jcr (l : List Rq) (x4 : Nat):=l.getD x4 zeroQ
abbrev jc1c (l : List Rq) (x4 : Nat) : Value:=.agg #[nI (jcr l x4).id,nI (jcr l x4).at_,nI (jcr l x4).place,nI (jcr l x4).dest,nI (jcr l x4).len,nI (jcr l x4).prio,nI (jcr l x4).limit]
abbrev jc1f : Value:=.tuple #[.bool false,nI 0]
abbrev jco (l : List Rq):=srtI (hours l)
abbrev jc14 (x4 : Nat) : Prop:=jc8 = .pointer (some ⟨4,0,none⟩) /\ wkR (slQ 6 1 x4) /\ wkR (slQ 6 1 x4) /\ (nI (x4 : Int) : Value) = nI (x4 : Int) /\ True
abbrev jcj (q : Prem) (l : List Rq) : Prop:=((keptR 7 (jc1t q)) /\ (keptR 7 (.cells true 1 ((jco l).flatMap intC))) /\ True) /\ (True) /\ (True)
abbrev jcd (x4 : Nat) (x6 : Nat) (l : List Rq) : Prop:=(nI (x4 : Int) : Value) = nI (x4 : Int) /\ wkR (slQ 6 1 x4) /\ wkR (slQ 6 1 x4) /\ jc8 = .pointer (some ⟨4,0,none⟩) /\ (nI (x6 : Int) : Value) = nI (x6 : Int) /\ (nI (x6 : Int) : Value) = nI (x6 : Int) /\ (nI ((jco l).getD x6 0) : Value) = nI ((jco l).getD x6 0) /\ wkR (.slice (some ⟨6,(0 + (x6 : Int).toNat * 1),some 2⟩) (x4 - x6) (x4 - x6)) /\ (nI (((x4 - x6) : Nat) : Int) : Value) = nI (((x4 - x6) : Nat) : Int) /\ True
abbrev jca (l : List Rq) (x6 : Nat) (x7 : Nat) (q : Prem):=Int.tdiv ((((jco l).getD (x6 + x7) 0) - ((jco l).getD x6 0)) + 1) q.period
def RHold (sp : Value) (f : Fleet) (l : List Rq) (q : Prem) : Prop :=
 ((jcx f) /\ (∀ H' : Heap,H'.length = 5 -> (jct H' f) -> KCall prog 75 (jc1r f) H' [] (Is (nI (errFl f)) H')) /\ ((jc1g f l) /\ (∀ H' : Heap,H'.length = 5 -> (jc12 H' f l) -> KCall prog 77 [.agg #[slQ 0 2 f.t.length,slQ 1 2 f.b.length],slQ 2 2 l.length] H' [] (Is (nI (errRq f.t.length l)) H')) /\ ((True) /\ (∀ H' : Heap,H'.length = 5 -> (True) -> KCall prog 82 (jc1d q) H' [] (Is (nI (errPre q)) H')) /\ ((((jc22 f) != 0) = true -> ((.bool ((jc22 f) != 0) : Value) = .bool true /\ (.tuple #[.bool false,nI (errFl f)] : Value) = sp)) /\ (((jc22 f) != 0) = false -> (((((errRq f.t.length l) : Int) != 0) = true -> ((.bool (((errRq f.t.length l) : Int) != 0) : Value) = .bool true /\ (.tuple #[.bool false,nI (errRq f.t.length l)] : Value) = sp)) /\ ((((errRq f.t.length l) : Int) != 0) = false -> ((((jc1j q) != 0) = true -> ((.bool ((jc1j q) != 0) : Value) = .bool true /\ (.tuple #[.bool false,nI (errPre q)] : Value) = sp)) /\ (((jc1j q) != 0) = false -> (true = true /\ (0 <= List.length f.t) /\ (true = true /\ (jc11 = nI jc1a /\ jc11 = nI (farTo f 0) /\ jcp l f) /\ ((keptR 6 (.cells true 0 (jcl f))) /\ (keptR 6 (jc1t q)) /\ True) /\ jcv) /\ (∀ x3 : Nat,true = true) /\ ∀ x3 : Nat,(x3 <= List.length f.t) -> (((jc1y x3 f) = true -> (((0 : Int) <= (x3 : Int) /\ ((x3 : Int) : Int) < (jcz f)) /\ (((inL f.t)[(0 + Int.toNat (x3 : Int) * 1)]? = some (.iface ((f.t.getD x3 []).length + 1) (.agg ⟨((f.t.getD x3 []).flatMap intC)⟩))) /\ ((True) /\ (∀ H' : Heap,H'.length = 6 -> (True) -> KCall prog 83 [.iface ((f.t.getD x3 []).length + 1) (.agg ⟨((f.t.getD x3 []).flatMap intC)⟩)] H' [] (Is (nI (maxL (f.t.getD x3 []))) H')) /\ ((jc1s x3) = nI ((x3 : Int) + 1) /\ (∃ x3' : Nat,(x3' <= List.length f.t) /\ (List.length f.t - x3') < (List.length f.t - x3) /\ true = true /\ ((nI ((x3 : Int) + 1) : Value) = nI (x3' : Int) /\ (nI (if ((maxL (f.t.getD x3 [])) : Int) > (farTo f x3) then ((maxL (f.t.getD x3 [])) : Int) else (farTo f x3)) : Value) = nI (farTo f x3') /\ jcp l f) /\ ((keptR 6 (.cells true 0 (jcl f))) /\ (keptR 6 (jc1t q)) /\ True) /\ jcv)))))) /\ ((jc1y x3 f) = false -> (true = true /\ (0 <= List.length l /\ List.all (l.take 0) (fits f q) = true) /\ (true = true /\ (jc11 = nI jc1a /\ wk (.slice none 0 0 : Value) (slQ 0 1 0 : Value) /\ jc19 f x3 l) /\ ((keptR 6 (jc1t q)) /\ True) /\ (True /\ True) /\ (True)) /\ (∀ x4 : Nat,true = true) /\ ∀ x4 : Nat,(x4 <= List.length l /\ List.all (l.take x4) (fits f q) = true) -> (((jc1z x4 l) = true -> ((jc13 x4 l) /\ ((partA 7 (l.flatMap rqC) (0 + Int.toNat (x4 : Int) * 7) = some (jc1c l x4)) /\ ((nI (IntKind.wrap .i64 ((jcr l x4).len + (farTo f x3))) : Value) = nI ((jcr l x4).len + (farTo f x3)) /\ (((decide ((q.service : Int) < ((jcr l x4).len + (farTo f x3)))) = true -> jc1f = sp) /\ ((decide ((q.service : Int) < ((jcr l x4).len + (farTo f x3)))) = false -> (((x4 + 1) * 8 <= 2 ^ 44 /\ 1 ≠ 0 /\ (x4 <= x4 /\ 0 + x4 * 1 <= List.length ((hours (l.take x4)).flatMap intC)) /\ (1 <= 1 /\ 0 + 1 * 1 <= List.length ([nI (jcr l x4).at_] : List Value)) /\ (((([nI (jcr l x4).at_] : List Value).drop 0).take (1 * 1)) : List Value).all (fun v => one1 v) = true) /\ true = true /\ ((nI (IntKind.wrap .i64 ((x4 : Int) + 1)) : Value) = nI ((x4 : Int) + 1) /\ (∃ x4' : Nat,(x4' <= List.length l /\ List.all (l.take x4') (fits f q) = true) /\ (List.length l - x4') < (List.length l - x4) /\ true = true /\ ((nI ((x4 : Int) + 1) : Value) = nI (x4' : Int) /\ wk (.slice (some ⟨9,0,none⟩) (x4 + 1) (x4 + 1) : Value) (slQ 9 1 x4' : Value) /\ jc19 f x3 l) /\ ((keptR 6 (jc1t q)) /\ True) /\ ((some (.cells true 1 (((((hours (l.take x4)).flatMap intC).drop 0).take (x4 * 1)) ++ ((([nI (jcr l x4).at_] : List Value).drop 0).take (1 * 1))) : KObj) = some (.cells true 1 ((hours (l.take x4')).flatMap intC) : KObj) /\ belowO 6 (.cells true 1 ((hours (l.take x4')).flatMap intC) : KObj) = true) /\ True) /\ (True)))))))))) /\ ((jc1z x4 l) = false -> (((someR (.cells true 1 ((hours (l.take x4)).flatMap intC))) /\ True) /\ (∀ H' : Heap,H'.length = 7 -> (H'[6]? = some (.cells true 1 ((hours (l.take x4)).flatMap intC) : KObj) /\ True) -> KCall prog 84 [slQ 6 1 x4] H' [6] (Is (.tuple #[]) (List.set H' 6 (.cells true 1 ((jco l).flatMap intC) : KObj)))) /\ (true = true /\ (0 <= List.length l /\ List.all (List.range 0) (okRow (jco l) q) = true) /\ (true = true /\ (jc11 = nI jc1a /\ jc14 x4) /\ jcj q l) /\ (∀ x6 : Nat,true = true) /\ ∀ x6 : Nat,(x6 <= List.length l /\ List.all (List.range x6) (okRow (jco l) q) = true) -> (((decide (((x6 : Int) : Int) < (x4 : Int))) = true -> (((0 : Int) <= (x6 : Int) /\ ((x6 : Int) : Int) < (x4 : Int)) /\ ((((jco l).flatMap intC)[(0 + Int.toNat (x6 : Int) * 1)]? = some (nI ((jco l).getD x6 0))) /\ ((((true = false ∨ 1 = 0 ∨ 1 = 1) /\ x4 <= x4) /\ (x4 <= x4) /\ ((0 : Int) <= (x6 : Int) /\ ((x6 : Int) : Int) <= (x4 : Int))) /\ ((.slice (some ⟨6,(0 + (x6 : Int).toNat * 1),some 2⟩) (x4 - (x6 : Int).toNat) (x4 - (x6 : Int).toNat) : Value) = .slice (some ⟨6,(0 + (x6 : Int).toNat * 1),some 2⟩) (x4 - x6) (x4 - x6) /\ (true = true /\ (0 <= List.length l - x6 /\ List.all (List.range 0) (okCell (jco l) q x6) = true) /\ (true = true /\ (jc11 = nI jc1a /\ jcd x4 x6 l) /\ jcj q l) /\ (∀ x7 : Nat,true = true) /\ ∀ x7 : Nat,(x7 <= List.length l - x6 /\ List.all (List.range x7) (okCell (jco l) q x6) = true) -> (((decide (((x7 : Int) : Int) < (((x4 - x6) : Nat) : Int))) = true -> (((0 : Int) <= (x7 : Int) /\ ((x7 : Int) : Int) < (((x4 - x6) : Nat) : Int)) /\ ((((jco l).flatMap intC)[((0 + (x6 : Int).toNat * 1) + Int.toNat (x7 : Int) * 1)]? = some (nI ((jco l).getD (x6 + x7) 0))) /\ ((nI (IntKind.wrap .i64 ((x7 : Int) + 1)) : Value) = nI ((x7 : Int) + 1) /\ ((nI (IntKind.wrap .i64 (((jco l).getD (x6 + x7) 0) - ((jco l).getD x6 0))) : Value) = nI (((jco l).getD (x6 + x7) 0) - ((jco l).getD x6 0)) /\ ((nI (IntKind.wrap .i64 ((((jco l).getD (x6 + x7) 0) - ((jco l).getD x6 0)) + 1)) : Value) = nI ((((jco l).getD (x6 + x7) 0) - ((jco l).getD x6 0)) + 1) /\ (((q.period : Int) ≠ 0) /\ ((nI (IntKind.wrap .i64 (jca l x6 x7 q)) : Value) = nI (jca l x6 x7 q) /\ ((nI (IntKind.wrap .i64 (q.burst + (jca l x6 x7 q))) : Value) = nI (q.burst + (jca l x6 x7 q)) /\ (((decide (((q.burst + (jca l x6 x7 q)) : Int) < ((x7 : Int) + 1))) = true -> jc1f = sp) /\ ((decide (((q.burst + (jca l x6 x7 q)) : Int) < ((x7 : Int) + 1))) = false -> ((nI (IntKind.wrap .i64 ((x7 : Int) + 1)) : Value) = nI ((x7 : Int) + 1) /\ (∃ x7' : Nat,(x7' <= List.length l - x6 /\ List.all (List.range x7') (okCell (jco l) q x6) = true) /\ (List.length l - x6 - x7') < (List.length l - x6 - x7) /\ true = true /\ ((nI ((x7 : Int) + 1) : Value) = nI (x7' : Int) /\ jcd x4 x6 l) /\ jcj q l))))))))))))) /\ ((decide (((x7 : Int) : Int) < (((x4 - x6) : Nat) : Int))) = false -> ((nI (IntKind.wrap .i64 ((x6 : Int) + 1)) : Value) = nI ((x6 : Int) + 1) /\ (∃ x6' : Nat,(x6' <= List.length l /\ List.all (List.range x6') (okRow (jco l) q) = true) /\ (List.length l - x6') < (List.length l - x6) /\ true = true /\ ((nI ((x6 : Int) + 1) : Value) = nI (x6' : Int) /\ jc14 x4) /\ jcj q l)))))))))) /\ ((decide (((x6 : Int) : Int) < (x4 : Int))) = false -> (.tuple #[.bool true,nI 0] : Value) = sp)))))))))))))))))))
abbrev jc1v (f : Fleet) (l : List Rq) (q : Prem) : List Value:=[.agg #[slQ 0 2 f.t.length,slQ 1 2 f.b.length],slQ 2 2 l.length,.agg #[nI q.burst,nI q.period,nI q.service]]
abbrev jc18 (f : Fleet) : List (Nat × KObj):=[(0,.cells false 0 (inL f.t)),(1,.cells false 0 (f.b.flatMap intC))]
abbrev jc1p (f : Fleet) (l : List Rq) : List (Nat × KObj):=[(0,.cells false 0 (inL f.t)),(1,.cells false 0 (f.b.flatMap intC)),(2,.cells false 0 (l.flatMap rqC))]
abbrev jc1k : Hint:=.go 4 (.slot 29 (.bool true) (.auto))
abbrev jc1u (l : List Rq) : Nat × Value:=(1,slQ 2 2 l.length)
abbrev jck : Nat × Value:=(5,.pointer (some ⟨4,0,none⟩))
abbrev jcu (q : Prem) : Nat × Bool × KObj:=(4,true,.cells true 0 (jc6 q))
abbrev jc1l (f : Fleet) (q : Prem) : List (Nat × Bool × KObj):=[(3,true,.cells true 0 (jcl f)),(jcu q)]
abbrev jcs : Hint:=.go 0 (.again [])
theorem EHold (sp : Value) (f : Fleet) (l : List Rq) (q : Prem) : vF prog msk (dm 0) 100000 true 40 true 37 (jc1v f l q) (readsT 0 [inL f.t,f.b.flatMap intC,l.flatMap rqC]) (some [])
 (.go 7 (.ans (jc18 f) (nI (errFl f)) [] (.ans (jc1p f l) (nI (errRq f.t.length l)) [] (.ans [] (nI (errPre q)) [] (.go 12 (.fork jc1k (.go 8 (.fork jc1k (.go 8 (.fork jc1k (.go 13 (.inv 3 (Nat) (0) [] [3,4] (fun x3 => [(34,nI (x3 : Int)),(9,nI (farTo f x3)),(jc1u l),jck,(6,.bool false),(7,nI 0),(32,slQ 0 2 f.t.length),(33,nI (jcz f))]) (fun x3 => (jc1l f q)) (fun x3 => []) (fun x3 => []) (fun x3 => (x3 <= List.length f.t)) (fun x3 => (List.length f.t - x3)) (fun x3 => .go 0 (.fork (.need (.val (.iface ((f.t.getD x3 []).length + 1) (.agg ⟨((f.t.getD x3 []).flatMap intC)⟩)) (.go 2 (.ans [] (nI (maxL (f.t.getD x3 []))) [] (.go 2 (.slot 42 (nI ((x3 : Int) + 1)) jcs)))))) (.go 3 (.inv 3 (Nat) (0) [] [4] (fun x4 => [(45,nI (x4 : Int)),(12,slQ 6 1 x4),jck,(9,nI (farTo f x3)),(43,slQ 2 2 l.length),(44,nI (jci l))]) (fun x4 => [(jcu q)]) (fun x4 => [(true,.cells true 1 ((hours (l.take x4)).flatMap intC))]) (fun x4 => []) (fun x4 => (x4 <= List.length l /\ List.all (l.take x4) (fits f q) = true)) (fun x4 => (List.length l - x4)) (fun x4 => .go 0 (.fork (.need (.val (jc1c l x4) (.go 5 (.slot 52 (nI ((jcr l x4).len + (farTo f x3))) (.go 2 (.fork (.auto) (.go 3 (.need (.go 1 (.slot 61 (nI ((x4 : Int) + 1)) (.go 0 (.again [(6,9)])))))))))))) (.go 0 (.answ [(6,.cells true 1 ((hours (l.take x4)).flatMap intC))] (.tuple #[]) [(6,.cells true 1 ((jco l).flatMap intC))] [] (.go 2 (.inv 3 (Nat) (0) [] [4,6] (fun x6 => [(66,nI (x6 : Int)),jck,(12,slQ 6 1 x4),(64,slQ 6 1 x4),(65,nI (x4 : Int))]) (fun x6 => [(jcu q),(6,true,.cells true 1 ((jco l).flatMap intC))]) (fun x6 => []) (fun x6 => []) (fun x6 => (x6 <= List.length l /\ List.all (List.range x6) (okRow (jco l) q) = true)) (fun x6 => (List.length l - x6)) (fun x6 => .go 0 (.fork (.go 0 (.need (.val (nI ((jco l).getD x6 0)) (.go 3 (.need (.slot 73 (.slice (some ⟨6,(0 + (x6 : Int).toNat * 1),some 2⟩) (x4 - x6) (x4 - x6)) (.go 1 (.inv 3 (Nat) (0) [] [4,6] (fun x7 => [(75,nI (x7 : Int)),(65,nI (x4 : Int)),(64,slQ 6 1 x4),(12,slQ 6 1 x4),jck,(66,nI (x6 : Int)),(15,nI (x6 : Int)),(16,nI ((jco l).getD x6 0)),(73,.slice (some ⟨6,(0 + (x6 : Int).toNat * 1),some 2⟩) (x4 - x6) (x4 - x6)),(74,nI (((x4 - x6) : Nat) : Int))]) (fun x7 => [(jcu q),(6,true,.cells true 1 ((jco l).flatMap intC))]) (fun x7 => []) (fun x7 => []) (fun x7 => (x7 <= List.length l - x6 /\ List.all (List.range x7) (okCell (jco l) q x6) = true)) (fun x7 => (List.length l - x6 - x7)) (fun x7 => .go 0 (.fork (.go 0 (.need (.val (nI ((jco l).getD (x6 + x7) 0)) (.go 3 (.slot 81 (nI ((x7 : Int) + 1)) (.go 4 (.slot 86 (nI (((jco l).getD (x6 + x7) 0) - ((jco l).getD x6 0))) (.go 0 (.slot 87 (nI ((((jco l).getD (x6 + x7) 0) - ((jco l).getD x6 0)) + 1)) (.go 1 (.need (.slot 90 (nI (jca l x6 x7 q)) (.go 0 (.slot 91 (nI (q.burst + (jca l x6 x7 q))) (.go 0 (.fork (.auto) (.go 0 (.slot 93 (nI ((x7 : Int) + 1)) jcs)))))))))))))))))) (.go 0 (.slot 94 (nI ((x6 : Int) + 1)) jcs)))))))))))) (.auto)))))))))))))))))))))))))
 (fun v _ _ => v = sp) = RHold sp f l q:=by kernel_rfl
abbrev jc1 (f : Fleet) (q : Prem) : Prop:=((keptR 5 (.cells true 0 (jcl f))) /\ (keptR 5 (jc1t q)) /\ True) /\ (True) /\ (True)
abbrev jcw : Nat × Value:=(3,.pointer (some ⟨3,0,none⟩))
abbrev jc0 (f : Fleet) : Int:=(f.b.length : Nat)
abbrev jc1e (q : Prem) (f : Fleet):=decide (((q.period * (jc0 f)) : Int) <= q.service)
abbrev jc1m (f : Fleet) (q : Prem):=boundC f.b.length q
abbrev jc1b (f : Fleet) : Prop:=(.pointer (some ⟨3,0,none⟩) : Value) = .pointer (some ⟨3,0,none⟩) /\ (nI (jc0 f) : Value) = nI (jc0 f) /\ True
abbrev jch (f : Fleet) (q : Prem) (x2 : Nat) : Int:=((topW f q - x2) : Nat)
abbrev jc7 (f : Fleet) (q : Prem) (x2 : Nat):=Int.tdiv (((jch f q x2) + q.service) - 1) q.service
abbrev jc1h (f : Fleet) (q : Prem) (x2 : Nat):=Int.tdiv (jch f q x2) q.period
def RBound (sp : Value) (f : Fleet) (q : Prem) : Prop :=
 ((jcx f) /\ (∀ H' : Heap,H'.length = 4 -> (jct H' f) -> KCall prog 75 (jc1r f) H' [] (Is (nI (errFl f)) H')) /\ ((True) /\ (∀ H' : Heap,H'.length = 4 -> (True) -> KCall prog 82 (jc1d q) H' [] (Is (nI (errPre q)) H')) /\ ((((jc22 f) != 0) = true -> ((.bool ((jc22 f) != 0) : Value) = .bool true /\ (.tuple #[nI 0,nI (errFl f)] : Value) = sp)) /\ (((jc22 f) != 0) = false -> ((((jc1j q) != 0) = true -> ((.bool ((jc1j q) != 0) : Value) = .bool true /\ (.tuple #[nI 0,nI (errPre q)] : Value) = sp)) /\ (((jc1j q) != 0) = false -> ((nI (IntKind.wrap .i64 (q.period * (jc0 f))) : Value) = nI (q.period * (jc0 f)) /\ (((jc1e q f) = true -> (.tuple #[nI 0,nI 4] : Value) = sp) /\ ((jc1e q f) = false -> ((nI (IntKind.wrap .i64 (q.burst + (jc0 f))) : Value) = nI (q.burst + (jc0 f)) /\ ((nI (IntKind.wrap .i64 ((q.burst + (jc0 f)) * q.period)) : Value) = nI ((q.burst + (jc0 f)) * q.period) /\ ((nI (IntKind.wrap .i64 (((q.burst + (jc0 f)) * q.period) * q.service)) : Value) = nI (((q.burst + (jc0 f)) * q.period) * q.service) /\ (true = true /\ (0 <= topW f q /\ lastW (jc1m f q) (topW f q) = lastW (jc1m f q) (topW f q - 0)) /\ (true = true /\ ((nI (((q.burst + (jc0 f)) * q.period) * q.service) : Value) = nI (((topW f q - 0) : Nat) : Int) /\ jc1b f) /\ jc1 f q) /\ (∀ x2 : Nat,true = true) /\ ∀ x2 : Nat,(x2 <= topW f q /\ lastW (jc1m f q) (topW f q) = lastW (jc1m f q) (topW f q - x2)) -> (((decide ((0 : Int) < (jch f q x2))) = true -> ((nI (IntKind.wrap .i64 ((jch f q x2) + q.service)) : Value) = nI ((jch f q x2) + q.service) /\ ((nI (IntKind.wrap .i64 (((jch f q x2) + q.service) - 1)) : Value) = nI (((jch f q x2) + q.service) - 1) /\ (((q.service : Int) ≠ 0) /\ ((nI (IntKind.wrap .i64 (jc7 f q x2)) : Value) = nI (jc7 f q x2) /\ ((nI (IntKind.wrap .i64 ((jc7 f q x2) - 1)) : Value) = nI ((jc7 f q x2) - 1) /\ ((nI (IntKind.wrap .i64 ((jc0 f) * ((jc7 f q x2) - 1))) : Value) = nI ((jc0 f) * ((jc7 f q x2) - 1)) /\ ((nI (IntKind.wrap .i64 (((jc0 f) * ((jc7 f q x2) - 1)) + 2)) : Value) = nI (((jc0 f) * ((jc7 f q x2) - 1)) + 2) /\ (((q.period : Int) ≠ 0) /\ ((nI (IntKind.wrap .i64 (jc1h f q x2)) : Value) = nI (jc1h f q x2) /\ ((nI (IntKind.wrap .i64 (q.burst + (jc1h f q x2))) : Value) = nI (q.burst + (jc1h f q x2)) /\ (((decide (((((jc0 f) * ((jc7 f q x2) - 1)) + 2) : Int) <= (q.burst + (jc1h f q x2)))) = true -> (.tuple #[nI (jch f q x2),nI 0] : Value) = sp) /\ ((decide (((((jc0 f) * ((jc7 f q x2) - 1)) + 2) : Int) <= (q.burst + (jc1h f q x2)))) = false -> ((nI (IntKind.wrap .i64 ((jch f q x2) - 1)) : Value) = nI ((jch f q x2) - 1) /\ (∃ x2' : Nat,(x2' <= topW f q /\ lastW (jc1m f q) (topW f q) = lastW (jc1m f q) (topW f q - x2')) /\ (topW f q - x2') < (topW f q - x2) /\ true = true /\ ((nI ((jch f q x2) - 1) : Value) = nI (((topW f q - x2') : Nat) : Int) /\ jc1b f) /\ jc1 f q))))))))))))))) /\ ((decide ((0 : Int) < (jch f q x2))) = false -> (.tuple #[nI 0,nI 0] : Value) = sp)))))))))))))))
abbrev jc1w (f : Fleet) (q : Prem) : List Value:=[.agg #[slQ 0 2 f.t.length,slQ 1 2 f.b.length],.agg #[nI q.burst,nI q.period,nI q.service]]
theorem EBound (sp : Value) (f : Fleet) (q : Prem) : vF prog msk (dm 0) 100000 true 40 true 39 (jc1w f q) (readsT 0 [inL f.t,f.b.flatMap intC]) (some [])
 (.go 5 (.ans (jc18 f) (nI (errFl f)) [] (.ans [] (nI (errPre q)) [] (.go 12 (.fork (.go 4 (.slot 16 (.bool true) (.auto))) (.go 8 (.fork (.go 4 (.slot 16 (.bool true) (.auto))) (.go 16 (.slot 24 (nI (q.period * (jc0 f))) (.go 2 (.fork (.auto) (.go 3 (.slot 31 (nI (q.burst + (jc0 f))) (.go 2 (.slot 34 (nI ((q.burst + (jc0 f)) * q.period)) (.go 2 (.slot 37 (nI (((q.burst + (jc0 f)) * q.period) * q.service)) (.go 0 (.inv 3 (Nat) (0) [] [2,3] (fun x2 => [(8,nI (jch f q x2)),jcw,(7,nI (jc0 f))]) (fun x2 => [(2,true,.cells true 0 (jcl f)),(3,true,.cells true 0 (jc6 q))]) (fun x2 => []) (fun x2 => []) (fun x2 => (x2 <= topW f q /\ lastW (jc1m f q) (topW f q) = lastW (jc1m f q) (topW f q - x2))) (fun x2 => (topW f q - x2)) (fun x2 => .go 1 (.fork (.go 4 (.slot 46 (nI ((jch f q x2) + q.service)) (.go 0 (.slot 47 (nI (((jch f q x2) + q.service) - 1)) (.go 1 (.need (.slot 50 (nI (jc7 f q x2)) (.go 0 (.slot 51 (nI ((jc7 f q x2) - 1)) (.go 0 (.slot 52 (nI ((jc0 f) * ((jc7 f q x2) - 1))) (.go 0 (.slot 53 (nI (((jc0 f) * ((jc7 f q x2) - 1)) + 2)) (.go 4 (.need (.slot 59 (nI (jc1h f q x2)) (.go 0 (.slot 60 (nI (q.burst + (jc1h f q x2))) (.go 0 (.fork (.auto) (.go 1 (.slot 41 (nI ((jch f q x2) - 1)) jcs)))))))))))))))))))))) (.auto))))))))))))))))))))))
 (fun v _ _ => v = sp) = RBound sp f q:=by kernel_rfl
end
end Go.Proofs.YthdekmpkioikdaaGreat
/- The library's sort of numbers, laid at this program (written by the kit's own tool). No condition. -/
namespace Go.Proofs.YthdekmpkioikdaaGreat
set_option linter.unusedSimpArgs false
set_option linter.unusedVariables false
open Go Go.Shelf
def sortI_ren : Go.Shelf.Ren := ⟨fun | 189 => 84 | 125 => 144 | 257 => 143 | 128 => 174 | 129 => 175 | 294 => 165 | 295 => 166 | 296 => 167 | 297 => 168 | 298 => 169 | 299 => 170 | 216 => 171 | 300 => 172 | 301 => 173 | 328 => 180 | 329 => 181 | 330 => 182 | 331 => 183 | 332 => 184 | 215 => 179 | 343 => 187 | n => n, fun | 28 => 23 | 3 => 3 | 46 => 193 | 0 => 0 | 51 => 213 | 53 => 215 | 4 => 4 | 183 => 207 | 182 => 206 | 131 => 158 | 5 => 5 | 9 => 9 | 218 => 219 | 222 => 92 | 228 => 226 | 229 => 227 | n => n, fun | n => n⟩
theorem sortI : Go.Proofs.Lays.n189 Tryz.prog sortI_ren := {
 mixed := by kernel_rfl
 f125 := Tryz.func144.trans (congrArg some (by kernel_rfl))
 f128 := Tryz.func174.trans (congrArg some (by kernel_rfl))
 f129 := Tryz.func175.trans (congrArg some (by kernel_rfl))
 f189 := Tryz.func84.trans (congrArg some (by kernel_rfl))
 f215 := Tryz.func179.trans (congrArg some (by kernel_rfl))
 f216 := Tryz.func171.trans (congrArg some (by kernel_rfl))
 f257 := Tryz.func143.trans (congrArg some (by kernel_rfl))
 f294 := Tryz.func165.trans (congrArg some (by kernel_rfl))
 f295 := Tryz.func166.trans (congrArg some (by kernel_rfl))
 f296 := Tryz.func167.trans (congrArg some (by kernel_rfl))
 f297 := Tryz.func168.trans (congrArg some (by kernel_rfl))
 f298 := Tryz.func169.trans (congrArg some (by kernel_rfl))
 f299 := Tryz.func170.trans (congrArg some (by kernel_rfl))
 f300 := Tryz.func172.trans (congrArg some (by kernel_rfl))
 f301 := Tryz.func173.trans (congrArg some (by kernel_rfl))
 f328 := Tryz.func180.trans (congrArg some (by kernel_rfl))
 f329 := Tryz.func181.trans (congrArg some (by kernel_rfl))
 f330 := Tryz.func182.trans (congrArg some (by kernel_rfl))
 f331 := Tryz.func183.trans (congrArg some (by kernel_rfl))
 f332 := Tryz.func184.trans (congrArg some (by kernel_rfl))
 f343 := Tryz.func187.trans (congrArg some (by kernel_rfl))
 t0 := Tryz.underlying0
 a0 := Tryz.isAgg0
 z0 := Tryz.sizeOf0
 v0 := Tryz.zeroValue0
 t3 := Tryz.underlying3
 a3 := Tryz.isAgg3
 z3 := Tryz.sizeOf3
 v3 := Tryz.zeroValue3
 t4 := Tryz.underlying4
 a4 := Tryz.isAgg4
 z4 := Tryz.sizeOf4
 v4 := Tryz.zeroValue4
 t5 := Tryz.underlying5
 a5 := Tryz.isAgg5
 z5 := Tryz.sizeOf5
 v5 := Tryz.zeroValue5
 t9 := Tryz.underlying9
 a9 := Tryz.isAgg9
 z9 := Tryz.sizeOf9
 v9 := Tryz.zeroValue9
 t28 := Tryz.underlying23
 a28 := Tryz.isAgg23
 z28 := Tryz.sizeOf23
 v28 := Tryz.zeroValue23
 t46 := Tryz.underlying193
 a46 := Tryz.isAgg193
 z46 := Tryz.sizeOf193
 v46 := Tryz.zeroValue193
 t51 := Tryz.underlying213
 a51 := Tryz.isAgg213
 z51 := Tryz.sizeOf213
 v51 := Tryz.zeroValue213
 t53 := Tryz.underlying215
 a53 := Tryz.isAgg215
 z53 := Tryz.sizeOf215
 v53 := Tryz.zeroValue215
 t131 := Tryz.underlying158
 a131 := Tryz.isAgg158
 z131 := Tryz.sizeOf158
 v131 := Tryz.zeroValue158
 t182 := Tryz.underlying206
 a182 := Tryz.isAgg206
 z182 := Tryz.sizeOf206
 v182 := Tryz.zeroValue206
 t183 := Tryz.underlying207
 a183 := Tryz.isAgg207
 z183 := Tryz.sizeOf207
 v183 := Tryz.zeroValue207
 t218 := Tryz.underlying219
 a218 := Tryz.isAgg219
 z218 := Tryz.sizeOf219
 v218 := Tryz.zeroValue219
 t222 := Tryz.underlying92
 a222 := Tryz.isAgg92
 z222 := Tryz.sizeOf92
 v222 := Tryz.zeroValue92
 t228 := Tryz.underlying226
 a228 := Tryz.isAgg226
 z228 := Tryz.sizeOf226
 v228 := Tryz.zeroValue226
 t229 := Tryz.underlying227
 a229 := Tryz.isAgg227
 z229 := Tryz.sizeOf227
 v229 := Tryz.zeroValue227 }
end Go.Proofs.YthdekmpkioikdaaGreat
/- The library's sort, by its contract, over canonical memory. No condition. -/
namespace Go.K
set_option linter.unusedSimpArgs false
open Go
set_option linter.unusedVariables false
variable {P : Program}
theorem Rel.world {B : Nat} {ρ : Ren} {H : Heap} {w W : World} (hr : Rel P B ρ H w) (b0 : Nat) (hsz : w.heap.size <= W.heap.size) (hsame : ∀ b, b < w.heap.size -> b ≠ b0 -> W.heap[b]? = w.heap[b]?)
  (hfree : ∀ id r o, ρ id = some r -> H[id]? = some o -> o.alive = true -> r.b ≠ b0) (hmem : ∀ m, ρ.mem b0 = some m -> False) (hfb : ¬ FB ρ H b0) : Rel P B ρ H W := by
 refine ⟨Nat.le_trans hr.bsize hsz, hr.glob, hr.dom, fun id r h => Nat.lt_of_lt_of_le (hr.lt id r h) hsz, fun id r o h1 h2 => ?_, hr.base, hr.sep, fun b m hb => ⟨?_, (hr.mem b m hb).2⟩,
  hr.fam.keep (Ren.le_refl _) (fun _ _ _ h => h) (fun _ _ _ _ h => h) (Nat.le_refl _) hsz (fun b hb => by
   rcases Nat.lt_or_ge b w.heap.size with hl | hl
   ·exact hsame b hl (fun e => hfb (e ▸ hb))
   ·exact absurd hb (hr.fam.freeL hl)) (fun id r o a b c => hr.fam.free a b c) (fun b m h => hr.fam.freeM h)⟩
 ·by_cases hal : o.alive = true
  ·exact (hr.obj id r o h1 h2).mono (Ren.le_refl _) (hsame _ (hr.lt id r h1) (hfree id r o h1 h2 hal))
  ·cases o <;> first | trivial | exact absurd rfl hal
 ·obtain ⟨ty, fz, e⟩ := (hr.mem b m hb).1
  have hne : b ≠ b0 := by rintro rfl; exact hmem m hb
  exact ⟨ty, fz, (hsame b (Array.getElem?_eq_some_iff.1 e).1 hne).trans e⟩
theorem Post.grown {B base : Nat} {M : List Nat} {ρ ρ' : Ren} {H H' : Heap} {w w1 w2 : World} (p : Post P B base M ρ H w ρ' H' w1) (hsz : w1.heap.size <= w2.heap.size) (hsame : ∀ b, b < w1.heap.size -> w2.heap[b]? = w1.heap[b]?)
  (hos : w2.os = w1.os) (ht : w2.tape = w1.tape) (ho : w2.output = w1.output) (hd : w1.drawn <= w2.drawn) : Post P B base M ρ H w ρ' H' w2 := by
 have hlt : ∀ id r o, ρ' id = some r -> H'[id]? = some o -> o.alive = true -> r.b ≠ w1.heap.size := fun id r o h1 _ _ => by have := p.rel.lt id r h1; omega
 have hm : ∀ m, ρ'.mem w1.heap.size = some m -> False := fun m h => by
  obtain ⟨ty, fz, e⟩ := (p.rel.mem _ m h).1
  have := (Array.getElem?_eq_some_iff.1 e).1; omega
 exact ⟨p.rel.world w1.heap.size hsz (fun b h _ => hsame b h) hlt hm (p.rel.fam.freeL (Nat.le_refl _)), p.ext, p.new, p.len, p.same, Nat.le_trans p.size hsz, fun b h1 h2 => (hsame b (Nat.lt_of_lt_of_le h1 p.size)).trans (p.keep b h1 h2), p.ob, hos.trans p.os, ht.trans p.tape, ho.trans p.output, p.frz, Nat.le_trans p.drawn hd, p.newg⟩
end Go.K
/- The library's sort of numbers, by the kit's contract, over canonical memory. No condition. -/
namespace Go.K
set_option linter.unusedSimpArgs false
open Go Go.Proofs Go.RowKit Go.Lib Go.Sort Go.Shelf
set_option linter.unusedVariables false
variable {P : Program}
theorem kSortInt {R : Go.Shelf.Ren} (L : Lays.n189 P R) (ef : Enters P (R.f 189))
  {H : Heap} {id : Nat} {tag : Option Nat} (htag : tag = none ∨ tag = some 1) {L0 : List Int} (h0 : 0 < L0.length) (hlen : L0.length < 4611686018427387904) (ho : H[id]? = some (.cells true 1 (L0.map (Value.int .i64)))) :
  KCall P (R.f 189) [.slice (some ⟨id, 0, tag⟩) L0.length L0.length] H [id] (Is (.tuple #[]) (H.set id (.cells true 1 ((L0.mergeSort fun x y => decide (x <= y)).map (Value.int .i64))))) := by
 refine ⟨ef, fun B ρ w args' hr ha => ?_⟩
 obtain ⟨x', rfl⟩ : ∃ x', args' = #[x'] := by
  have hl := ha.1
  obtain ⟨l⟩ := args'
  match l, hl with
  | [a], _ => exact ⟨a, rfl⟩
 have hx := ha.2 0 _ _ rfl rfl
 obtain ⟨r, cap', hid, hcap, rfl⟩ : ∃ r cap', ρ id = some r /\ L0.length <= cap' /\ x' = .slice (some ⟨r.b, 0 + r.s, none⟩) L0.length cap' := by
  generalize L0.length = n at hx h0
  rcases htag with rfl | rfl
  ·cases hx with
   | slice h hl hc _ => exact ⟨_, _, h, Nat.le_trans hl hc, rfl⟩
   | slice0 h => exact absurd h0 (Nat.lt_irrefl 0)
  ·cases hx with
   | sliceQn => exact absurd h0 (Nat.lt_irrefl 0)
   | sliceQe => exact absurd h0 (Nat.lt_irrefl 0)
   | sliceQ h hp hl hc _ => exact ⟨_, _, h, Nat.le_trans hl hc, rfl⟩
 rw [Nat.zero_add]
 have hobj := hr.obj id r _ hid ho
 obtain ⟨ow, zz, cs', ty, fz, hb, hsz, hfz, hcs⟩ := hobj
 obtain rfl := hfz rfl
 have hel : ∀ i (hi : i < L0.length), cs'[i + r.s]? = some (Value.int .i64 L0[i]) := fun i hi => by
  obtain ⟨v', e1, e2⟩ := hcs i (Value.int .i64 L0[i]) (by rw [List.getElem?_map, List.getElem?_eq_getElem hi]; rfl)
  cases e2; exact e1
 have hgd : ∀ (M : List Int) j (hj : j < M.length), M.toArray[j]! = M[j] := fun M j hj => getElem!_pos M.toArray j hj
 have hH : Holds (Value.int .i64) w r.b r.s L0.toArray := fun j hj => by
  have hj' : j < L0.length := by simpa using hj
  have e := hel j hj'
  refine ⟨?_, ?_⟩
  ·rw [hgd L0 j hj']
   simp only [World.cell?, hb, Option.isSome_none, Bool.false_eq_true, if_false]
   rw [Nat.add_comm]; exact e
  ·simp [World.frozen?, hb]
 have hblk := hr.lt id r hid
 have hcon := Any.slices_Sort_int L r.b r.s cap' L0 w hH hblk hlen
 refine callsIn_wide.2 (hcon.mono ?_)
 rintro e w' ⟨rfl, n1, os, rfl⟩
 have hml : (L0.mergeSort fun x y => decide (x <= y)).length = L0.length := List.length_mergeSort _
 generalize (L0.mergeSort fun x y => decide (x <= y)) = M at hml ⊢
 have hput : ObjRel ρ r (.cells true 1 (M.map (Value.int .i64))) (w.putObj r.b (.cells (putCells (Value.int .i64) r.s M.toArray cs') ty (0, 0))) := by
  refine ⟨ow, zz, putCells (Value.int .i64) r.s M.toArray cs', ty, (0, 0), World.putObj_heap_same hblk, by simp [putCells, hml] at hsz ⊢; omega, fun _ => rfl, fun i v hv => ?_⟩
  rw [List.getElem?_map] at hv
  obtain ⟨a, ha1, rfl⟩ := Option.map_eq_some_iff.1 hv
  obtain ⟨hi, ha2⟩ := List.getElem?_eq_some_iff.1 ha1
  refine ⟨.int .i64 a, ?_, .int _ _⟩
  simp only [putCells, Array.getElem?_mapIdx, hel i (by omega), Option.map_some]
  rw [if_pos ⟨by omega, by simp; omega⟩, show i + r.s - r.s = i by omega, hgd M i hi, ha2]
 have p1 := Post.put (base := H.length) (M := [id]) hr hid ho rfl (by rw [hb]; rfl) hput (fun _ => List.mem_singleton.2 rfl)
 have hheap : ∀ b, b < w.heap.size -> (grow (putRow (Value.int .i64) (Sort.ahead w n1) r.b r.s M.toArray) os).heap[b]? = (w.putObj r.b (.cells (putCells (Value.int .i64) r.s M.toArray cs') ty (0, 0))).heap[b]? := by
  intro b hb1
  simp only [grow, putRow, mapBlock, Sort.ahead]
  rw [Array.getElem?_append_left (by simpa using hb1), Array.getElem?_modify]
  by_cases e : r.b = b
  ·subst e
   rw [if_pos rfl, World.putObj_heap_same hblk]
   show Option.map (onCells _) w.heap[r.b]? = _
   rw [hb]; rfl
  ·rw [if_neg e, World.putObj_heap_other (Ne.symm e)]
 have p2 := p1.grown (w2 := grow (putRow (Value.int .i64) (Sort.ahead w n1) r.b r.s M.toArray) os) (by simp [grow, putRow, mapBlock, Sort.ahead, World.putObj]) (fun b hb1 => hheap b (by simpa [World.putObj] using hb1)) rfl rfl rfl (by simp [grow, putRow, mapBlock, Sort.ahead, World.putObj])
 exact ⟨.tuple #[], .tuple #[], ρ, _, rfl, .tuple rfl (fun i a b h => by simp at h), p2, rfl, rfl⟩
end Go.K
