/- What is to be shown of functions. Printed by a program. No condition. -/
import Derived.Test.YthdekmpkioikdaaGreatGZ6xR19f
namespace Go.Proofs.YthdekmpkioikdaaGreat
set_option linter.unusedSimpArgs false
open Go Go.K
set_option maxRecDepth 100000
set_option maxHeartbeats 4000000
set_option linter.unusedVariables false
noncomputable section
abbrev jj3f (f : Fleet):=f.b.flatMap intC
abbrev jj4e (f : Fleet):=someR (.cells false 0 (jj3f f))
abbrev jj48 (f : Fleet) (x3 : List Sv):=someR (.cells true 1 ((frH f x3 x3.length).flatMap intC))
abbrev jj2e (qf0 : Fleet) (ql0 : List Rq) (qs0 : List Sv):=plH qf0 ql0 qs0 qs0.length
abbrev jjv (qf0 : Fleet) (ql0 : List Rq) (qs0 : List Sv):=someR (.cells true 1 ((jj2e qf0 ql0 qs0).flatMap intC))
abbrev jj21 (qf0 : Fleet) (ql0 : List Rq) : List Value:=[slQ 0 2 qf0.t.length,slQ 1 2 qf0.b.length,slQ 2 2 ql0.length,.slice (some ⟨7,0,none⟩) qf0.b.length qf0.b.length,slQ 8 1 qf0.b.length]
abbrev jjb (qf0 : Fleet) (ql0 : List Rq) : KObj:=.cells true 0 (jj21 qf0 ql0)
abbrev jj4c (f : Fleet) (x3 : List Sv) : KObj:=.cells true 1 ((frH f x3 x3.length).flatMap intC)
abbrev jjw (qf0 : Fleet) (ql0 : List Rq) (qs0 : List Sv) : KObj:=.cells true 1 ((jj2e qf0 ql0 qs0).flatMap intC)
abbrev jja (qf0 : Fleet) (ql0 : List Rq) : KObj:=.cells true 0 (jj21 qf0 ql0)
abbrev jj3v (l : List Rq) : Int:=(l.length : Nat)
abbrev jj1z : List Value:=[.pointer (some ⟨9,0,none⟩)]
abbrev jj39 : KObj:=.cells true 0 jj1z
abbrev jj4j (f : Fleet) (l : List Rq) (x3 : List Sv) : Prop:=(someR (.cells true 1 ((wtB f l x3).flatMap intC))) /\ True
abbrev jji (qn0 : Nat) (qf0 : Fleet) (ql0 : List Rq) (qs0 : List Sv) : Prop:=∀ H' : Heap,H'.length = qn0 -> (H'[16]? = some (.cells true 1 ((wtB qf0 ql0 qs0).flatMap intC) : KObj) /\ True) -> KCall prog 116 [slQ 16 2 (wtN qf0 ql0 qs0).length] H' [] (Is (slQ qn0 1 (wtN qf0 ql0 qs0).length) (H' ++ [(.cells true 1 ((wtN qf0 ql0 qs0).flatMap intC) : KObj)]))
abbrev jj22 (qp0 : Pol) : List Value:=[nI qp0.ov,nI qp0.warn,nI qp0.w0,nI qp0.w1,nI qp0.w2]
abbrev jj3h (qp0 : Pol) : KObj:=.cells true 0 (jj22 qp0)
abbrev jjs (qp0 : Pol):=someR (jj3h qp0)
abbrev jjx (ql0 : List Rq) : KObj:=.cells true 0 [.slice (some ⟨13,0,none⟩) ql0.length ql0.length]
abbrev jjn : KObj:=.cells true 0 [.func (.func 157) #[] #[.pointer (some ⟨18,0,none⟩)]]
abbrev jj1l : KObj:=.cells true 0 [.func (.func 158) #[] #[.pointer (some ⟨20,0,none⟩),.pointer (some ⟨19,0,none⟩)],.nilFunc]
abbrev jj29 (f : Fleet) (l : List Rq) (x3 : List Sv) (p : Pol) : Prop:=(someR (.cells false 0 (inL f.t))) /\ (jj4e f) /\ (someR (.cells false 0 (l.flatMap rqC))) /\ (jj48 f x3) /\ (jjv f l x3) /\ (someR (jjb f l)) /\ (someR jj39) /\ (someR (.cells true 0 [nI (hrN f l x3)])) /\ (jjs p) /\ (someR (.cells true 1 ((ovN l x3 x3.length).flatMap intC))) /\ (someR (jjx l)) /\ (someR (.cells true 0 [nI (hrN f l x3)])) /\ (someR jjn) /\ (someR jj39) /\ (someR jj1l) /\ True
abbrev jjt (qp0 : Pol) : KObj:=.cells true 0 (jj22 qp0)
abbrev jjq (ql0 : List Rq) : KObj:=.cells true 0 [.slice (some ⟨13,0,none⟩) ql0.length ql0.length]
abbrev jjl : KObj:=.cells true 0 [.func (.func 157) #[] #[.pointer (some ⟨18,0,none⟩)]]
abbrev jj1k : KObj:=.cells true 0 [.func (.func 158) #[] #[.pointer (some ⟨20,0,none⟩),.pointer (some ⟨19,0,none⟩)],.nilFunc]
abbrev jj24 (H' : Heap) (f : Fleet) (l : List Rq) (x3 : List Sv) (p : Pol) : Prop:=H'[0]? = some (.cells false 0 (inL f.t) : KObj) /\ H'[1]? = some (.cells false 0 (jj3f f) : KObj) /\ H'[2]? = some (.cells false 0 (l.flatMap rqC) : KObj) /\ H'[7]? = some (jj4c f x3) /\ H'[8]? = some (jjw f l x3) /\ H'[9]? = some (jja f l) /\ H'[10]? = some (.cells true 0 jj1z : KObj) /\ H'[15]? = some (.cells true 0 [nI (hrN f l x3)] : KObj) /\ H'[19]? = some (jjt p) /\ H'[13]? = some (.cells true 1 ((ovN l x3 x3.length).flatMap intC) : KObj) /\ H'[20]? = some (jjq l) /\ H'[21]? = some (.cells true 0 [nI (hrN f l x3)] : KObj) /\ H'[22]? = some jjl /\ H'[18]? = some (.cells true 0 jj1z : KObj) /\ H'[24]? = some jj1k /\ True
abbrev jj1q (qn0 : Nat) (qf0 : Fleet) (qp0 : Pol) (ql0 : List Rq) (qs0 : List Sv) (qn1 : Nat) (qh0 : Heap):=Is (slQ qn0 2 (smN qf0 qp0 ql0 qs0 qn1).length) (List.set qh0 qn0 (.cells true 1 ((smB qf0 qp0 ql0 qs0 qn1).flatMap intC) : KObj))
abbrev jj1m (qf0 : Fleet) (qp0 : Pol) (ql0 : List Rq) (qs0 : List Sv) (qn0 : Nat):=decide ((0 : Int) < (((smN qf0 qp0 ql0 qs0 qn0).length : Nat) : Int))
abbrev jj2m (qf0 : Fleet) : Int:=(qf0.b.length : Nat)
abbrev jjc (qn0 : Nat) (qn1 : Nat) (qf0 : Fleet) : Prop:=(nI 0 : Value) = nI ((0 : Nat) : Int) /\ (.pointer (some ⟨qn0,0,none⟩) : Value) = .pointer (some ⟨qn0,0,none⟩) /\ (.func (.yield qn1) #[] #[] : Value) = .func (.yield qn1) #[] #[] /\ (.slice (some ⟨7,0,none⟩) qf0.b.length qf0.b.length : Value) = .slice (some ⟨7,0,none⟩) qf0.b.length qf0.b.length /\ (nI (jj2m qf0) : Value) = nI (jj2m qf0) /\ True
abbrev jjk (qf0 : Fleet) (ql0 : List Rq) (qs0 : List Sv) (qp0 : Pol) (qn0 : Nat) : Prop:=(some (.cells true 0 [nI (-1)] : KObj) = some (.cells true 0 [nI (byTo qf0 ql0 qs0 (hrN qf0 ql0 qs0) (rqAt ql0 (bstN qf0 qp0 ql0 qs0)).place 0)] : KObj) /\ belowO qn0 (.cells true 0 [nI (byTo qf0 ql0 qs0 (hrN qf0 ql0 qs0) (rqAt ql0 (bstN qf0 qp0 ql0 qs0)).place 0)] : KObj) = true) /\ True
abbrev jj3x : Value:=.pointer (some ⟨9,0,none⟩)
abbrev jj3t : Value:=.bool true
abbrev jj3j (qf0 : Fleet) (qs0 : List Sv):=frH qf0 qs0 qs0.length
abbrev jj1t (qf0 : Fleet) (ql0 : List Rq) (qs0 : List Sv) (qp0 : Pol) : Prop:=(nI 3 : Value) = nI 3 /\ (.slice (some ⟨23,0,none⟩) 3 3 : Value) = .slice (some ⟨23,0,none⟩) 3 3 /\ (nI (hrN qf0 ql0 qs0) : Value) = nI (hrN qf0 ql0 qs0) /\ (.slice (some ⟨13,0,none⟩) ql0.length ql0.length : Value) = .slice (some ⟨13,0,none⟩) ql0.length ql0.length /\ (.agg #[nI qp0.ov,nI qp0.warn,nI qp0.w0,nI qp0.w1,nI qp0.w2] : Value) = .agg #[nI qp0.ov,nI qp0.warn,nI qp0.w0,nI qp0.w1,nI qp0.w2] /\ jj3x = .pointer (some ⟨9,0,none⟩) /\ (.pointer (some ⟨17,0,none⟩) : Value) = .pointer (some ⟨17,0,none⟩) /\ wkR (slQ 16 2 (wtN qf0 ql0 qs0).length) /\ wkR (slQ 16 2 (wtN qf0 ql0 qs0).length) /\ (.func (.func 123) #[] #[.pointer (some ⟨10,0,none⟩),.pointer (some ⟨15,0,none⟩)] : Value) = .func (.func 123) #[] #[.pointer (some ⟨10,0,none⟩),.pointer (some ⟨15,0,none⟩)] /\ wkR (slQ 16 1 (opL ql0 qs0).length) /\ wkR (slQ 12 2 (opL ql0 qs0).length) /\ (nI (if ((ql0.getD (askN ql0 qs0).toNat zeroQ).at_ : Int) > (minL (jj3j qf0 qs0)) then ((ql0.getD (askN ql0 qs0).toNat zeroQ).at_ : Int) else (minL (jj3j qf0 qs0))) : Value) = nI (if ((ql0.getD (askN ql0 qs0).toNat zeroQ).at_ : Int) > (minL (jj3j qf0 qs0)) then ((ql0.getD (askN ql0 qs0).toNat zeroQ).at_ : Int) else (minL (jj3j qf0 qs0))) /\ (nI (minL (jj3j qf0 qs0)) : Value) = nI (minL (jj3j qf0 qs0)) /\ (.pointer (some ⟨15,0,none⟩) : Value) = .pointer (some ⟨15,0,none⟩) /\ (nI (ql0.getD (askN ql0 qs0).toNat zeroQ).at_ : Value) = nI (ql0.getD (askN ql0 qs0).toNat zeroQ).at_ /\ (.pointer (some ⟨2,((0 + Int.toNat (askN ql0 qs0) * 7) + 1),none⟩) : Value) = .pointer (some ⟨2,((0 + Int.toNat (askN ql0 qs0) * 7) + 1),none⟩) /\ (.pointer (some ⟨2,(0 + Int.toNat (askN ql0 qs0) * 7),none⟩) : Value) = .pointer (some ⟨2,(0 + Int.toNat (askN ql0 qs0) * 7),none⟩) /\ (nI (askN ql0 qs0) : Value) = nI (askN ql0 qs0) /\ wkR (slQ 2 2 ql0.length) /\ (.pointer (some ⟨9,2,none⟩) : Value) = .pointer (some ⟨9,2,none⟩) /\ jj3x = .pointer (some ⟨9,0,none⟩) /\ jj3x = .pointer (some ⟨9,0,none⟩) /\ (.slice (some ⟨7,0,none⟩) qf0.b.length qf0.b.length : Value) = .slice (some ⟨7,0,none⟩) qf0.b.length qf0.b.length /\ (.pointer (some ⟨9,3,none⟩) : Value) = .pointer (some ⟨9,3,none⟩) /\ jj3x = .pointer (some ⟨9,0,none⟩) /\ jj3x = .pointer (some ⟨9,0,none⟩) /\ (nI (askN ql0 qs0) : Value) = nI (askN ql0 qs0) /\ (nI (askN ql0 qs0) : Value) = nI (askN ql0 qs0) /\ (.func (.func 120) #[.pointer (some ⟨9,0,none⟩)] #[] : Value) = .func (.func 120) #[.pointer (some ⟨9,0,none⟩)] #[] /\ jj3x = .pointer (some ⟨9,0,none⟩) /\ wkR (slQ 12 2 (opL ql0 qs0).length) /\ jj3t = .bool true /\ (nI (((opL ql0 qs0).length : Nat) : Int) : Value) = nI (((opL ql0 qs0).length : Nat) : Int) /\ wkR (slQ 12 2 (opL ql0 qs0).length) /\ wkR (slQ 14 1 qs0.length) /\ wkR (slQ 12 2 (opL ql0 qs0).length) /\ (.slice none 0 0 : Value) = .slice none 0 0 /\ (.pointer (some ⟨11,0,none⟩) : Value) = .pointer (some ⟨11,0,none⟩) /\ (.pointer (some ⟨10,0,none⟩) : Value) = .pointer (some ⟨10,0,none⟩) /\ (.slice (some ⟨13,0,none⟩) ql0.length ql0.length : Value) = .slice (some ⟨13,0,none⟩) ql0.length ql0.length /\ True
abbrev jj3 (qf0 : Fleet) (ql0 : List Rq) (qs0 : List Sv) (qp0 : Pol) : Prop:=(lrecOk prog 73 0 /\ (.func (.func 163) #[] #[.pointer (some ⟨27,0,none⟩),.pointer (some ⟨28,0,none⟩)] : Value) = .func (.func 163) #[] #[.pointer (some ⟨27,0,none⟩),.pointer (some ⟨28,0,none⟩)] /\ (nI (hrN qf0 ql0 qs0) : Value) = nI (hrN qf0 ql0 qs0) /\ jj3x = .pointer (some ⟨9,0,none⟩) /\ (.pointer (some ⟨26,0,none⟩) : Value) = .pointer (some ⟨26,0,none⟩) /\ (nI (bstN qf0 qp0 ql0 qs0) : Value) = nI (bstN qf0 qp0 ql0 qs0) /\ (.func (.func 126) #[] #[.pointer (some ⟨24,0,none⟩),.pointer (some ⟨10,0,none⟩)] : Value) = .func (.func 126) #[] #[.pointer (some ⟨24,0,none⟩),.pointer (some ⟨10,0,none⟩)] /\ wkR (slQ 25 2 (smN qf0 qp0 ql0 qs0 0).length) /\ jj3t = .bool true /\ (nI (((smN qf0 qp0 ql0 qs0 0).length : Nat) : Int) : Value) = nI (((smN qf0 qp0 ql0 qs0 0).length : Nat) : Int) /\ wkR (slQ 25 2 (smN qf0 qp0 ql0 qs0 0).length) /\ wkR (slQ 25 2 (smN qf0 qp0 ql0 qs0 0).length) /\ wkR (slQ 25 2 (smN qf0 qp0 ql0 qs0 0).length) /\ (.func (.func 125) #[] #[.pointer (some ⟨24,0,none⟩)] : Value) = .func (.func 125) #[] #[.pointer (some ⟨24,0,none⟩)] /\ wkR (slQ 25 1 (wtN qf0 ql0 qs0).length) /\ wkR (slQ 16 2 (wtN qf0 ql0 qs0).length) /\ (.pointer (some ⟨24,0,none⟩) : Value) = .pointer (some ⟨24,0,none⟩) /\ (.agg #[.func (.func 158) #[] #[.pointer (some ⟨20,0,none⟩),.pointer (some ⟨19,0,none⟩)],.nilFunc] : Value) = .agg #[.func (.func 158) #[] #[.pointer (some ⟨20,0,none⟩),.pointer (some ⟨19,0,none⟩)],.nilFunc] /\ (.pointer (some ⟨23,0,none⟩) : Value) = .pointer (some ⟨23,0,none⟩) /\ jj3t = .bool true /\ (nI 0 : Value) = nI 0 /\ jj1t qf0 ql0 qs0 qp0) /\ True
abbrev jj3d : Prop:=∀ n_0 : Nat,true = true
abbrev jj49 (n_0 : Nat) (f : Fleet):=decide (((n_0 : Int) : Int) < ((f.b.length : Nat) : Int))
abbrev jjr (qn0 : Nat) (qf0 : Fleet) : Prop:=(0 : Int) <= (qn0 : Int) /\ ((qn0 : Int) : Int) < (jj2m qf0)
abbrev jj1i (qf0 : Fleet) (qs0 : List Sv) (qn0 : Nat) : Prop:=((jj3j qf0 qs0).flatMap intC)[(0 + Int.toNat (qn0 : Int) * 1)]? = some (nI ((jj3j qf0 qs0).getD qn0 0))
abbrev jj16 (qf0 : Fleet) (qs0 : List Sv) (qn0 : Nat) (ql0 : List Rq):=decide ((((jj3j qf0 qs0).getD qn0 0) : Int) <= (hrN qf0 ql0 qs0))
abbrev jj6 (qf0 : Fleet) (ql0 : List Rq) (qs0 : List Sv) (qp0 : Pol) (qn0 : Nat):=byTo qf0 ql0 qs0 (hrN qf0 ql0 qs0) (rqAt ql0 (bstN qf0 qp0 ql0 qs0)).place qn0
abbrev jj2q (qn0 : Nat) : Value:=nI (IntKind.wrap .i64 ((qn0 : Int) + 1))
abbrev jj5 (qn0 : Nat) (qn1 : Nat) (qn2 : Nat) (qn3 : Nat) (qf0 : Fleet) : Prop:=(nI ((qn0 : Int) + 1) : Value) = nI (qn1 : Int) /\ (.pointer (some ⟨qn2,0,none⟩) : Value) = .pointer (some ⟨qn2,0,none⟩) /\ (.func (.yield qn3) #[] #[] : Value) = .func (.yield qn3) #[] #[] /\ (.slice (some ⟨7,0,none⟩) qf0.b.length qf0.b.length : Value) = .slice (some ⟨7,0,none⟩) qf0.b.length qf0.b.length /\ (nI (jj2m qf0) : Value) = nI (jj2m qf0) /\ True
abbrev jjf (qn0 : Nat) (qf0 : Fleet) (ql0 : List Rq) (qs0 : List Sv) (qp0 : Pol) (qn1 : Nat) (qn2 : Nat) : Prop:=(some (.cells true 0 [nI (qn0 : Int)] : KObj) = some (.cells true 0 [nI (jj6 qf0 ql0 qs0 qp0 qn1)] : KObj) /\ belowO qn2 (.cells true 0 [nI (jj6 qf0 ql0 qs0 qp0 qn1)] : KObj) = true) /\ True
abbrev jj18 (qn0 : Nat) (qf0 : Fleet) (ql0 : List Rq) (qs0 : List Sv) (qp0 : Pol) : Prop:=(jj2q qn0) = nI ((qn0 : Int) + 1) /\ (∃ n_1' : Nat,(n_1' <= List.length qf0.b) /\ (List.length qf0.b - n_1') < (List.length qf0.b - qn0) /\ true = true /\ (jj5 qn0 n_1' 28 29 qf0) /\ (jjf qn0 qf0 ql0 qs0 qp0 n_1' 30) /\ (True) /\ (jj3 qf0 ql0 qs0 qp0))
abbrev jj1j (qf0 : Fleet) (ql0 : List Rq) (qs0 : List Sv) (qn0 : Nat) : Prop:=((jj2e qf0 ql0 qs0).flatMap intC)[(0 + Int.toNat (qn0 : Int) * 1)]? = some (nI ((jj2e qf0 ql0 qs0).getD qn0 0))
abbrev jj1h (qf0 : Fleet) (ql0 : List Rq) (qs0 : List Sv) (qn0 : Nat) : Prop:=(0 : Int) <= ((jj2e qf0 ql0 qs0).getD qn0 0) /\ (((jj2e qf0 ql0 qs0).getD qn0 0) : Int) < ((qf0.t.length : Nat) : Int)
abbrev jj3u (qf0 : Fleet) (ql0 : List Rq) (qs0 : List Sv) (qn0 : Nat):=qf0.t.getD ((jj2e qf0 ql0 qs0).getD qn0 0).toNat []
abbrev jjm (qf0 : Fleet) (ql0 : List Rq) (qs0 : List Sv) (qn0 : Nat) : Prop:=(inL qf0.t)[(0 + Int.toNat ((jj2e qf0 ql0 qs0).getD qn0 0) * 1)]? = some (.iface ((jj3u qf0 ql0 qs0 qn0).length + 1) (.agg ⟨((jj3u qf0 ql0 qs0 qn0).flatMap intC)⟩))
abbrev jj36 (ql0 : List Rq) : Int:=(ql0.length : Nat)
abbrev jju (qf0 : Fleet) (qp0 : Pol) (ql0 : List Rq) (qs0 : List Sv) : Prop:=(0 : Int) <= (bstN qf0 qp0 ql0 qs0) /\ ((bstN qf0 qp0 ql0 qs0) : Int) < (jj36 ql0)
abbrev jj20 (ql0 : List Rq) (qf0 : Fleet) (qp0 : Pol) (qs0 : List Sv):=ql0.getD (bstN qf0 qp0 ql0 qs0).toNat zeroQ
abbrev jjh (ql0 : List Rq) (qf0 : Fleet) (qp0 : Pol) (qs0 : List Sv) : Prop:=(ql0.flatMap rqC)[((0 + Int.toNat (bstN qf0 qp0 ql0 qs0) * 7) + 2)]? = some (nI (jj20 ql0 qf0 qp0 qs0).place)
abbrev jjy (ql0 : List Rq) (qf0 : Fleet) (qp0 : Pol) (qs0 : List Sv) (qn0 : Nat) : Prop:=(0 : Int) <= (jj20 ql0 qf0 qp0 qs0).place /\ ((jj20 ql0 qf0 qp0 qs0).place : Int) < (((jj3u qf0 ql0 qs0 qn0).length : Nat) : Int)
abbrev jj2l (ql0 : List Rq) (qf0 : Fleet) (qp0 : Pol) (qs0 : List Sv):=Int.toNat (jj20 ql0 qf0 qp0 qs0).place
abbrev jjj (qf0 : Fleet) (ql0 : List Rq) (qs0 : List Sv) (qn0 : Nat) (qp0 : Pol) : Prop:=((jj3u qf0 ql0 qs0 qn0).flatMap intC)[(Int.toNat (jj20 ql0 qf0 qp0 qs0).place * 1)]? = some (nI ((jj3u qf0 ql0 qs0 qn0).getD (jj2l ql0 qf0 qp0 qs0) 0))
abbrev jj1r (qf0 : Fleet) (ql0 : List Rq) (qs0 : List Sv) (qp0 : Pol) (qn0 : Nat) : Prop:=(0 : Int) <= (jj6 qf0 ql0 qs0 qp0 qn0) /\ ((jj6 qf0 ql0 qs0 qp0 qn0) : Int) < (jj2m qf0)
abbrev jj1e (qf0 : Fleet) (ql0 : List Rq) (qs0 : List Sv) (qp0 : Pol) (qn0 : Nat) : Prop:=((jj2e qf0 ql0 qs0).flatMap intC)[(0 + Int.toNat (jj6 qf0 ql0 qs0 qp0 qn0) * 1)]? = some (nI ((jj2e qf0 ql0 qs0).getD (jj6 qf0 ql0 qs0 qp0 qn0).toNat 0))
abbrev jj13 (qf0 : Fleet) (ql0 : List Rq) (qs0 : List Sv) (qp0 : Pol) (qn0 : Nat) : Prop:=(0 : Int) <= ((jj2e qf0 ql0 qs0).getD (jj6 qf0 ql0 qs0 qp0 qn0).toNat 0) /\ (((jj2e qf0 ql0 qs0).getD (jj6 qf0 ql0 qs0 qp0 qn0).toNat 0) : Int) < ((qf0.t.length : Nat) : Int)
abbrev jjd (qf0 : Fleet) (ql0 : List Rq) (qs0 : List Sv) (qp0 : Pol) (qn0 : Nat):=qf0.t.getD ((jj2e qf0 ql0 qs0).getD (jj6 qf0 ql0 qs0 qp0 qn0).toNat 0).toNat []
abbrev jj10 (qf0 : Fleet) (ql0 : List Rq) (qs0 : List Sv) (qp0 : Pol) (qn0 : Nat) : Prop:=(inL qf0.t)[(0 + Int.toNat ((jj2e qf0 ql0 qs0).getD (jj6 qf0 ql0 qs0 qp0 qn0).toNat 0) * 1)]? = some (.iface ((jjd qf0 ql0 qs0 qp0 qn0).length + 1) (.agg ⟨((jjd qf0 ql0 qs0 qp0 qn0).flatMap intC)⟩))
abbrev jj15 (ql0 : List Rq) (qf0 : Fleet) (qp0 : Pol) (qs0 : List Sv) (qn0 : Nat) : Prop:=(0 : Int) <= (jj20 ql0 qf0 qp0 qs0).place /\ ((jj20 ql0 qf0 qp0 qs0).place : Int) < (((jjd qf0 ql0 qs0 qp0 qn0).length : Nat) : Int)
abbrev jjz (qf0 : Fleet) (ql0 : List Rq) (qs0 : List Sv) (qp0 : Pol) (qn0 : Nat) : Prop:=((jjd qf0 ql0 qs0 qp0 qn0).flatMap intC)[(Int.toNat (jj20 ql0 qf0 qp0 qs0).place * 1)]? = some (nI ((jjd qf0 ql0 qs0 qp0 qn0).getD (jj2l ql0 qf0 qp0 qs0) 0))
abbrev jj9 (qf0 : Fleet) (ql0 : List Rq) (qs0 : List Sv) (qn0 : Nat) (qp0 : Pol):=decide ((((jj3u qf0 ql0 qs0 qn0).getD (jj2l ql0 qf0 qp0 qs0) 0) : Int) < ((qf0.t.getD ((jj2e qf0 ql0 qs0).getD (jj6 qf0 ql0 qs0 qp0 qn0).toNat 0).toNat []).getD (jj2l ql0 qf0 qp0 qs0) 0))
abbrev jje (qf0 : Fleet) (ql0 : List Rq) (qs0 : List Sv) (qp0 : Pol) (qn0 : Nat) (qn1 : Nat) (qn2 : Nat) : Prop:=(some (.cells true 0 [nI (jj6 qf0 ql0 qs0 qp0 qn0)] : KObj) = some (.cells true 0 [nI (jj6 qf0 ql0 qs0 qp0 qn1)] : KObj) /\ belowO qn2 (.cells true 0 [nI (jj6 qf0 ql0 qs0 qp0 qn1)] : KObj) = true) /\ True
abbrev jj19 (qn0 : Nat) (qf0 : Fleet) (ql0 : List Rq) (qs0 : List Sv) (qp0 : Pol) : Prop:=(jj2q qn0) = nI ((qn0 : Int) + 1) /\ (∃ n_1' : Nat,(n_1' <= List.length qf0.b) /\ (List.length qf0.b - n_1') < (List.length qf0.b - qn0) /\ true = true /\ (jj5 qn0 n_1' 28 29 qf0) /\ (jje qf0 ql0 qs0 qp0 qn0 n_1' 30) /\ (True) /\ (jj3 qf0 ql0 qs0 qp0))
abbrev jj27 (ql0 : List Rq) (qf0 : Fleet) (qp0 : Pol) (qs0 : List Sv) : Value:=.agg #[nI (jj20 ql0 qf0 qp0 qs0).id,nI (jj20 ql0 qf0 qp0 qs0).at_,nI (jj20 ql0 qf0 qp0 qs0).place,nI (jj20 ql0 qf0 qp0 qs0).dest,nI (jj20 ql0 qf0 qp0 qs0).len,nI (jj20 ql0 qf0 qp0 qs0).prio,nI (jj20 ql0 qf0 qp0 qs0).limit]
abbrev jj1x (qf0 : Fleet) (ql0 : List Rq) (qs0 : List Sv) (qp0 : Pol) (qn0 : Nat):=byTo qf0 ql0 qs0 (hrN qf0 ql0 qs0) (rqAt ql0 (bstN qf0 qp0 ql0 qs0)).place qn0
abbrev jj23 (qf0 : Fleet) (ql0 : List Rq) (qs0 : List Sv) (qp0 : Pol) (qn0 : Nat):=qf0.t.getD ((jj2e qf0 ql0 qs0).getD (jj1x qf0 ql0 qs0 qp0 qn0).toNat 0).toNat []
abbrev jj2t (qf0 : Fleet) (qp0 : Pol) (ql0 : List Rq) (qs0 : List Sv) (qn0 : Nat) (i_1 : Int) : List Value:=[nI (bstN qf0 qp0 ql0 qs0),nI (jj1x qf0 ql0 qs0 qp0 qn0),nI (hrN qf0 ql0 qs0),nI ((hrN qf0 ql0 qs0) + ((jj23 qf0 ql0 qs0 qp0 qn0).getD (jj2l ql0 qf0 qp0 qs0) 0)),nI i_1]
abbrev jj28 (ql0 : List Rq) (qs0 : List Sv) (qf0 : Fleet) (qp0 : Pol):=opL ql0 (qs0 ++ [(svN qf0 qp0 ql0 qs0)])
abbrev jj2d (ql0 : List Rq) (qs0 : List Sv) (qf0 : Fleet) (qp0 : Pol):=opB ql0 (qs0 ++ [(svN qf0 qp0 ql0 qs0)])
abbrev jj1v (ql0 : List Rq) (qs0 : List Sv) (qf0 : Fleet) (qi0 : Int) (qn2 : Nat) (qn3 : Nat) (qp0 : Pol) (qn4 : Nat) (qn5 : Nat) (qn6 : Nat) (qn7 : Nat) (qn8 : Nat) : Prop:=(.slice (some ⟨13,0,none⟩) ql0.length ql0.length : Value) = .slice (some ⟨13,0,none⟩) ql0.length ql0.length /\ (.pointer (some ⟨10,0,none⟩) : Value) = .pointer (some ⟨10,0,none⟩) /\ (.pointer (some ⟨11,0,none⟩) : Value) = .pointer (some ⟨11,0,none⟩) /\ (.slice none 0 0 : Value) = .slice none 0 0 /\ (nI (askN ql0 qs0) : Value) = nI (askN ql0 qs0) /\ (.pointer (some ⟨15,0,none⟩) : Value) = .pointer (some ⟨15,0,none⟩) /\ wkR (slQ 16 2 (wtN qf0 ql0 qs0).length) /\ (.pointer (some ⟨17,0,none⟩) : Value) = .pointer (some ⟨17,0,none⟩) /\ (.slice (some ⟨23,0,none⟩) 3 3 : Value) = .slice (some ⟨23,0,none⟩) 3 3 /\ (nI 3 : Value) = nI 3 /\ (nI qi0 : Value) = nI qi0 /\ (.pointer (some ⟨qn2,0,none⟩) : Value) = .pointer (some ⟨qn2,0,none⟩) /\ wkR (slQ qn3 2 (smN qf0 qp0 ql0 qs0 qn4).length) /\ (.pointer (some ⟨qn5,0,none⟩) : Value) = .pointer (some ⟨qn5,0,none⟩) /\ (.func (.func 163) #[] #[.pointer (some ⟨qn6,0,none⟩),.pointer (some ⟨qn7,0,none⟩)] : Value) = .func (.func 163) #[] #[.pointer (some ⟨qn6,0,none⟩),.pointer (some ⟨qn7,0,none⟩)] /\ (.slice (some ⟨qn8,0,none⟩) (qs0.length + 1) (qs0.length + 1) : Value) = .slice (some ⟨qn8,0,none⟩) (qs0.length + 1) (qs0.length + 1) /\ wkR (slQ 12 2 (jj28 ql0 qs0 qf0 qp0).length) /\ wkR (slQ 12 2 (jj28 ql0 qs0 qf0 qp0).length) /\ (nI (((jj28 ql0 qs0 qf0 qp0).length : Nat) : Int) : Value) = nI (((jj28 ql0 qs0 qf0 qp0).length : Nat) : Int) /\ True
abbrev jj4i : Prop:=(True) /\ (True)
abbrev jj3e (qf0 : Fleet) (ql0 : List Rq) (qs0 : List Sv) (qp0 : Pol) (qn0 : Nat):=setl ((jj2e qf0 ql0 qs0).flatMap intC) (0 + Int.toNat (jj1x qf0 ql0 qs0 qp0 qn0) * 1) [nI (jj20 ql0 qf0 qp0 qs0).dest]
abbrev jj4l (qf0 : Fleet) : KObj:=.cells false 0 (qf0.b.flatMap intC)
abbrev jj4a (n_2 : Nat) : Value:=nI (IntKind.wrap .i64 ((n_2 : Int) + 1))
abbrev jj4f (ql0 : List Rq) (qs0 : List Sv) (qf0 : Fleet) (qp0 : Pol) (n_3' : Nat) : KObj:=.cells true 1 ((ovQ ql0 qs0 (svN qf0 qp0 ql0 qs0) n_3').flatMap intC)
abbrev jj2f (ql0 : List Rq) : Prop:=(.slice none 0 0 : Value) = .slice none 0 0 /\ (.pointer (some ⟨11,0,none⟩) : Value) = .pointer (some ⟨11,0,none⟩) /\ (.pointer (some ⟨10,0,none⟩) : Value) = .pointer (some ⟨10,0,none⟩) /\ (.slice (some ⟨13,0,none⟩) ql0.length ql0.length : Value) = .slice (some ⟨13,0,none⟩) ql0.length ql0.length /\ True
abbrev jj1 (qn0 : Nat) (qf0 : Fleet) (qp0 : Pol) (ql0 : List Rq) (qs0 : List Sv) (qn1 : Nat) (qi0 : Int) (qn2 : Nat) (qn3 : Nat) (qn4 : Nat) (qn5 : Nat) (qn6 : Nat) (qn7 : Nat) (qn8 : Nat) : Prop:=(decide (((qn0 : Int) : Int) < (jj2m qf0))) = false -> (((0 : Int) <= (bstN qf0 qp0 ql0 qs0) /\ ((bstN qf0 qp0 ql0 qs0) : Int) < (jj36 ql0)) /\ ((partA 7 (ql0.flatMap rqC) (0 + Int.toNat (bstN qf0 qp0 ql0 qs0) * 7) = some (jj27 ql0 qf0 qp0 qs0)) /\ (((0 : Int) <= (jj1x qf0 ql0 qs0 qp0 qn0) /\ ((jj1x qf0 ql0 qs0 qp0 qn0) : Int) < (jj2m qf0)) /\ ((((jj2e qf0 ql0 qs0).flatMap intC)[(0 + Int.toNat (jj1x qf0 ql0 qs0 qp0 qn0) * 1)]? = some (nI ((jj2e qf0 ql0 qs0).getD (jj1x qf0 ql0 qs0 qp0 qn0).toNat 0))) /\ (((0 : Int) <= ((jj2e qf0 ql0 qs0).getD (jj1x qf0 ql0 qs0 qp0 qn0).toNat 0) /\ (((jj2e qf0 ql0 qs0).getD (jj1x qf0 ql0 qs0 qp0 qn0).toNat 0) : Int) < ((qf0.t.length : Nat) : Int)) /\ (((inL qf0.t)[(0 + Int.toNat ((jj2e qf0 ql0 qs0).getD (jj1x qf0 ql0 qs0 qp0 qn0).toNat 0) * 1)]? = some (.iface ((jj23 qf0 ql0 qs0 qp0 qn0).length + 1) (.agg ⟨((jj23 qf0 ql0 qs0 qp0 qn0).flatMap intC)⟩))) /\ (((0 : Int) <= (jj20 ql0 qf0 qp0 qs0).place /\ ((jj20 ql0 qf0 qp0 qs0).place : Int) < (((jj23 qf0 ql0 qs0 qp0 qn0).length : Nat) : Int)) /\ ((((jj23 qf0 ql0 qs0 qp0 qn0).flatMap intC)[(Int.toNat (jj20 ql0 qf0 qp0 qs0).place * 1)]? = some (nI ((jj23 qf0 ql0 qs0 qp0 qn0).getD (jj2l ql0 qf0 qp0 qs0) 0))) /\ ((nI (IntKind.wrap .i64 ((hrN qf0 ql0 qs0) + ((jj23 qf0 ql0 qs0 qp0 qn0).getD (jj2l ql0 qf0 qp0 qs0) 0))) : Value) = nI ((hrN qf0 ql0 qs0) + ((jj23 qf0 ql0 qs0 qp0 qn0).getD (jj2l ql0 qf0 qp0 qs0) 0)) /\ ((nI (IntKind.wrap .i64 (((hrN qf0 ql0 qs0) + ((jj23 qf0 ql0 qs0 qp0 qn0).getD (jj2l ql0 qf0 qp0 qs0) 0)) + (jj20 ql0 qf0 qp0 qs0).len)) : Value) = nI (((hrN qf0 ql0 qs0) + ((jj23 qf0 ql0 qs0 qp0 qn0).getD (jj2l ql0 qf0 qp0 qs0) 0)) + (jj20 ql0 qf0 qp0 qs0).len) /\ (∃ i_1 : Int,(nI (((hrN qf0 ql0 qs0) + ((jj23 qf0 ql0 qs0 qp0 qn0).getD (jj2l ql0 qf0 qp0 qs0) 0)) + (jj20 ql0 qf0 qp0 qs0).len) : Value) = nI i_1 /\ (((0 : Int) <= (jj1x qf0 ql0 qs0 qp0 qn0) /\ ((jj1x qf0 ql0 qs0 qp0 qn0) : Int) < (jj2m qf0)) /\ (((0 + Int.toNat (jj1x qf0 ql0 qs0 qp0 qn0) * 1) + 1 <= List.length ((jj3j qf0 qs0).flatMap intC)) /\ true = true /\ (((0 : Int) <= (jj1x qf0 ql0 qs0 qp0 qn0) /\ ((jj1x qf0 ql0 qs0 qp0 qn0) : Int) < (jj2m qf0)) /\ (((0 + Int.toNat (jj1x qf0 ql0 qs0 qp0 qn0) * 1) + 1 <= List.length ((jj2e qf0 ql0 qs0).flatMap intC)) /\ true = true /\ (((qs0.length + 1) * 40 <= 2 ^ 44 /\ 1 ≠ 0 /\ (qs0.length <= qs0.length /\ 0 + qs0.length * 5 <= List.length (qs0.flatMap svC)) /\ (1 <= 1 /\ 0 + 1 * 5 <= List.length (jj2t qf0 qp0 ql0 qs0 qn0 i_1)) /\ ((((jj2t qf0 qp0 ql0 qs0 qn0 i_1).drop 0).take (1 * 5)) : List Value).all (fun v => one1 v) = true) /\ true = true /\ (((someR (.cells true 1 ((opB ql0 qs0).flatMap intC))) /\ (someR (.cells true 0 [nI (bstN qf0 qp0 ql0 qs0)])) /\ True) /\ (∀ H' : Heap,H'.length = qn1 -> (H'[12]? = some (.cells true 1 ((opB ql0 qs0).flatMap intC) : KObj) /\ H'[17]? = some (.cells true 0 [nI (bstN qf0 qp0 ql0 qs0)] : KObj) /\ True) -> KCall prog 122 [slQ 12 2 (opL ql0 qs0).length,.func (.func 130) #[] #[.pointer (some ⟨17,0,none⟩)]] H' [12] (Is (slQ 12 2 (jj28 ql0 qs0 qf0 qp0).length) (List.set H' 12 (.cells true 1 ((jj2d ql0 qs0 qf0 qp0).flatMap intC) : KObj)))) /\ (true = true /\ (0 <= List.length (jj28 ql0 qs0 qf0 qp0)) /\ (true = true /\ ((nI 0 : Value) = nI ((0 : Nat) : Int) /\ jj1v ql0 qs0 qf0 qi0 qn2 qn3 qp0 qn4 qn5 qn6 qn7 qn8) /\ ((keptR qn1 jj39) /\ (keptR qn1 (jj3h qp0)) /\ (keptR qn1 (.cells true 0 [nI (bstN qf0 qp0 ql0 qs0)])) /\ (some (.cells true 1 ((ovN ql0 qs0 qs0.length).flatMap intC) : KObj) = some (.cells true 1 ((ovQ ql0 qs0 (svN qf0 qp0 ql0 qs0) 0).flatMap intC) : KObj) /\ belowO qn1 (.cells true 1 ((ovQ ql0 qs0 (svN qf0 qp0 ql0 qs0) 0).flatMap intC) : KObj) = true) /\ True) /\ jj4i) /\ (∀ n_2 : Nat,true = true) /\ ∀ n_2 : Nat,(n_2 <= List.length (jj28 ql0 qs0 qf0 qp0)) -> (((decide (((n_2 : Int) : Int) < (((jj28 ql0 qs0 qf0 qp0).length : Nat) : Int))) = true -> (((0 : Int) <= (n_2 : Int) /\ ((n_2 : Int) : Int) < (((jj28 ql0 qs0 qf0 qp0).length : Nat) : Int)) /\ ((((jj2d ql0 qs0 qf0 qp0).flatMap intC)[(0 + Int.toNat (n_2 : Int) * 1)]? = some (nI ((jj2d ql0 qs0 qf0 qp0).getD n_2 0))) /\ (((someR (.cells true 0 (jj21 qf0 ql0))) /\ (someR (.cells false 0 (inL qf0.t))) /\ (someR (.cells false 0 (qf0.b.flatMap intC))) /\ (someR (.cells false 0 (ql0.flatMap rqC))) /\ (someR (.cells true 1 (setl ((jj3j qf0 qs0).flatMap intC) (0 + Int.toNat (jj1x qf0 ql0 qs0 qp0 qn0) * 1) [nI i_1]))) /\ (someR (.cells true 1 (jj3e qf0 ql0 qs0 qp0 qn0))) /\ True) /\ (∀ H' : Heap,H'.length = qn1 -> (H'[9]? = some (.cells true 0 (jj21 qf0 ql0) : KObj) /\ H'[0]? = some (.cells false 0 (inL qf0.t) : KObj) /\ H'[1]? = some (jj4l qf0) /\ H'[2]? = some (.cells false 0 (ql0.flatMap rqC) : KObj) /\ H'[7]? = some (.cells true 1 (setl ((jj3j qf0 qs0).flatMap intC) (0 + Int.toNat (jj1x qf0 ql0 qs0 qp0 qn0) * 1) [nI i_1]) : KObj) /\ H'[8]? = some (.cells true 1 (jj3e qf0 ql0 qs0 qp0 qn0) : KObj) /\ True) -> KCall prog 120 [.pointer (some ⟨9,0,none⟩),nI ((jj2d ql0 qs0 qf0 qp0).getD n_2 0),nI (bstN qf0 qp0 ql0 qs0)] H' [] (Is (nI (laterV (rqAt ql0 ((jj2d ql0 qs0 qf0 qp0).getD n_2 0)) (rqAt ql0 (bstN qf0 qp0 ql0 qs0)))) H')) /\ (((decide (((laterV (rqAt ql0 ((jj2d ql0 qs0 qf0 qp0).getD n_2 0)) (rqAt ql0 (bstN qf0 qp0 ql0 qs0))) : Int) < 0)) = true -> (((0 : Int) <= ((jj2d ql0 qs0 qf0 qp0).getD n_2 0) /\ (((jj2d ql0 qs0 qf0 qp0).getD n_2 0) : Int) < (jj36 ql0)) /\ ((((ovQ ql0 qs0 (svN qf0 qp0 ql0 qs0) n_2).flatMap intC)[(0 + Int.toNat ((jj2d ql0 qs0 qf0 qp0).getD n_2 0) * 1)]? = some (nI ((ovQ ql0 qs0 (svN qf0 qp0 ql0 qs0) n_2).getD ((jj2d ql0 qs0 qf0 qp0).getD n_2 0).toNat 0))) /\ ((nI (IntKind.wrap .i64 (((ovQ ql0 qs0 (svN qf0 qp0 ql0 qs0) n_2).getD ((jj2d ql0 qs0 qf0 qp0).getD n_2 0).toNat 0) + 1)) : Value) = nI (((ovQ ql0 qs0 (svN qf0 qp0 ql0 qs0) n_2).getD ((jj2d ql0 qs0 qf0 qp0).getD n_2 0).toNat 0) + 1) /\ (((0 : Int) <= ((jj2d ql0 qs0 qf0 qp0).getD n_2 0) /\ (((jj2d ql0 qs0 qf0 qp0).getD n_2 0) : Int) < (jj36 ql0)) /\ (((0 + Int.toNat ((jj2d ql0 qs0 qf0 qp0).getD n_2 0) * 1) + 1 <= List.length ((ovQ ql0 qs0 (svN qf0 qp0 ql0 qs0) n_2).flatMap intC)) /\ true = true /\ ((jj4a n_2) = nI ((n_2 : Int) + 1) /\ (∃ n_3' : Nat,(n_3' <= List.length (jj28 ql0 qs0 qf0 qp0)) /\ (List.length (jj28 ql0 qs0 qf0 qp0) - n_3') < (List.length (jj28 ql0 qs0 qf0 qp0) - n_2) /\ true = true /\ ((nI ((n_2 : Int) + 1) : Value) = nI (n_3' : Int) /\ jj1v ql0 qs0 qf0 qi0 qn2 qn3 qp0 qn4 qn5 qn6 qn7 qn8) /\ ((keptR qn1 jj39) /\ (keptR qn1 (jj3h qp0)) /\ (keptR qn1 (.cells true 0 [nI (bstN qf0 qp0 ql0 qs0)])) /\ (some (.cells true 1 (setl ((ovQ ql0 qs0 (svN qf0 qp0 ql0 qs0) n_2).flatMap intC) (0 + Int.toNat ((jj2d ql0 qs0 qf0 qp0).getD n_2 0) * 1) [nI (((ovQ ql0 qs0 (svN qf0 qp0 ql0 qs0) n_2).getD ((jj2d ql0 qs0 qf0 qp0).getD n_2 0).toNat 0) + 1)]) : KObj) = some (jj4f ql0 qs0 qf0 qp0 n_3') /\ belowO qn1 (jj4f ql0 qs0 qf0 qp0 n_3') = true) /\ True) /\ jj4i)))))))) /\ ((decide (((laterV (rqAt ql0 ((jj2d ql0 qs0 qf0 qp0).getD n_2 0)) (rqAt ql0 (bstN qf0 qp0 ql0 qs0))) : Int) < 0)) = false -> ((jj4a n_2) = nI ((n_2 : Int) + 1) /\ (∃ n_3' : Nat,(n_3' <= List.length (jj28 ql0 qs0 qf0 qp0)) /\ (List.length (jj28 ql0 qs0 qf0 qp0) - n_3') < (List.length (jj28 ql0 qs0 qf0 qp0) - n_2) /\ true = true /\ ((nI ((n_2 : Int) + 1) : Value) = nI (n_3' : Int) /\ jj1v ql0 qs0 qf0 qi0 qn2 qn3 qp0 qn4 qn5 qn6 qn7 qn8) /\ ((keptR qn1 jj39) /\ (keptR qn1 (jj3h qp0)) /\ (keptR qn1 (.cells true 0 [nI (bstN qf0 qp0 ql0 qs0)])) /\ (some (.cells true 1 ((ovQ ql0 qs0 (svN qf0 qp0 ql0 qs0) n_2).flatMap intC) : KObj) = some (jj4f ql0 qs0 qf0 qp0 n_3') /\ belowO qn1 (jj4f ql0 qs0 qf0 qp0 n_3') = true) /\ True) /\ jj4i)))))))) /\ ((decide (((n_2 : Int) : Int) < (((jj28 ql0 qs0 qf0 qp0).length : Nat) : Int))) = false -> (∃ s_3' : List Sv,(RunI qf0 qp0 ql0 s_3') /\ (List.length ql0 - List.length s_3') < (List.length ql0 - List.length qs0) /\ true = true /\ (wk (.slice (some ⟨qn8,0,none⟩) (qs0.length + 1) (qs0.length + 1) : Value) (slQ qn8 1 s_3'.length : Value) /\ wk (slQ 12 2 (jj28 ql0 qs0 qf0 qp0).length : Value) (slQ 12 2 (opL ql0 s_3').length : Value) /\ jj2f ql0) /\ ((keptR 14 jj39) /\ (keptR 14 (jj3h qp0)) /\ (some (.cells true 1 (setl ((jj3j qf0 qs0).flatMap intC) (0 + Int.toNat (jj1x qf0 ql0 qs0 qp0 qn0) * 1) [nI i_1]) : KObj) = some (.cells true 1 ((frH qf0 s_3' s_3'.length).flatMap intC) : KObj) /\ belowO 14 (.cells true 1 ((frH qf0 s_3' s_3'.length).flatMap intC) : KObj) = true) /\ (some (.cells true 1 (jj3e qf0 ql0 qs0 qp0 qn0) : KObj) = some (.cells true 1 ((plH qf0 ql0 s_3' s_3'.length).flatMap intC) : KObj) /\ belowO 14 (.cells true 1 ((plH qf0 ql0 s_3' s_3'.length).flatMap intC) : KObj) = true) /\ (some (.cells true 1 ((ovQ ql0 qs0 (svN qf0 qp0 ql0 qs0) n_2).flatMap intC) : KObj) = some (.cells true 1 ((ovN ql0 s_3' s_3'.length).flatMap intC) : KObj) /\ belowO 14 (.cells true 1 ((ovN ql0 s_3' s_3'.length).flatMap intC) : KObj) = true) /\ (some (.cells true 1 ((jj2d ql0 qs0 qf0 qp0).flatMap intC) : KObj) = some (.cells true 1 ((opB ql0 s_3').flatMap intC) : KObj) /\ belowO 14 (.cells true 1 ((opB ql0 s_3').flatMap intC) : KObj) = true) /\ True) /\ ((some (.cells true 5 ((((qs0.flatMap svC).drop 0).take (qs0.length * 5)) ++ (((jj2t qf0 qp0 ql0 qs0 qn0 i_1).drop 0).take (1 * 5))) : KObj) = some (.cells true 5 (s_3'.flatMap svC) : KObj) /\ belowO 14 (.cells true 5 (s_3'.flatMap svC) : KObj) = true) /\ True) /\ (True))))))))))))))))))))))
abbrev jj12 : KObj:=.cells true 0 [.func (.func 159) #[] #[.pointer (some ⟨18,0,none⟩),.pointer (some ⟨22,0,none⟩),.pointer (some ⟨21,0,none⟩),.pointer (some ⟨19,0,none⟩)],.func (.func 160) #[] #[.pointer (some ⟨22,0,none⟩)]]
abbrev jj2a (f : Fleet) (l : List Rq) (x3 : List Sv) (p : Pol) : Prop:=(someR (.cells false 0 (inL f.t))) /\ (jj4e f) /\ (someR (.cells false 0 (l.flatMap rqC))) /\ (jj48 f x3) /\ (jjv f l x3) /\ (someR (jjb f l)) /\ (someR jj39) /\ (someR (.cells true 0 [nI (hrN f l x3)])) /\ (jjs p) /\ (someR (.cells true 1 ((ovN l x3 x3.length).flatMap intC))) /\ (someR (jjx l)) /\ (someR (.cells true 0 [nI (hrN f l x3)])) /\ (someR jjn) /\ (someR jj39) /\ (someR jj12) /\ True
abbrev jj11 : KObj:=.cells true 0 [.func (.func 159) #[] #[.pointer (some ⟨18,0,none⟩),.pointer (some ⟨22,0,none⟩),.pointer (some ⟨21,0,none⟩),.pointer (some ⟨19,0,none⟩)],.func (.func 160) #[] #[.pointer (some ⟨22,0,none⟩)]]
abbrev jj25 (H' : Heap) (f : Fleet) (l : List Rq) (x3 : List Sv) (p : Pol) : Prop:=H'[0]? = some (.cells false 0 (inL f.t) : KObj) /\ H'[1]? = some (.cells false 0 (jj3f f) : KObj) /\ H'[2]? = some (.cells false 0 (l.flatMap rqC) : KObj) /\ H'[7]? = some (jj4c f x3) /\ H'[8]? = some (jjw f l x3) /\ H'[9]? = some (jja f l) /\ H'[10]? = some (.cells true 0 jj1z : KObj) /\ H'[15]? = some (.cells true 0 [nI (hrN f l x3)] : KObj) /\ H'[19]? = some (jjt p) /\ H'[13]? = some (.cells true 1 ((ovN l x3 x3.length).flatMap intC) : KObj) /\ H'[20]? = some (jjq l) /\ H'[21]? = some (.cells true 0 [nI (hrN f l x3)] : KObj) /\ H'[22]? = some jjl /\ H'[18]? = some (.cells true 0 jj1z : KObj) /\ H'[26]? = some jj11 /\ True
abbrev jj2 (qf0 : Fleet) (ql0 : List Rq) (qs0 : List Sv) (qp0 : Pol) : Prop:=(lrecOk prog 73 0 /\ (.func (.func 163) #[] #[.pointer (some ⟨29,0,none⟩),.pointer (some ⟨30,0,none⟩)] : Value) = .func (.func 163) #[] #[.pointer (some ⟨29,0,none⟩),.pointer (some ⟨30,0,none⟩)] /\ (nI (hrN qf0 ql0 qs0) : Value) = nI (hrN qf0 ql0 qs0) /\ jj3x = .pointer (some ⟨9,0,none⟩) /\ (.pointer (some ⟨28,0,none⟩) : Value) = .pointer (some ⟨28,0,none⟩) /\ (nI (bstN qf0 qp0 ql0 qs0) : Value) = nI (bstN qf0 qp0 ql0 qs0) /\ (.func (.func 126) #[] #[.pointer (some ⟨26,0,none⟩),.pointer (some ⟨10,0,none⟩)] : Value) = .func (.func 126) #[] #[.pointer (some ⟨26,0,none⟩),.pointer (some ⟨10,0,none⟩)] /\ wkR (slQ 27 2 (smN qf0 qp0 ql0 qs0 1).length) /\ jj3t = .bool true /\ (nI (((smN qf0 qp0 ql0 qs0 1).length : Nat) : Int) : Value) = nI (((smN qf0 qp0 ql0 qs0 1).length : Nat) : Int) /\ wkR (slQ 27 2 (smN qf0 qp0 ql0 qs0 1).length) /\ wkR (slQ 27 2 (smN qf0 qp0 ql0 qs0 1).length) /\ wkR (slQ 27 2 (smN qf0 qp0 ql0 qs0 1).length) /\ (.func (.func 125) #[] #[.pointer (some ⟨26,0,none⟩)] : Value) = .func (.func 125) #[] #[.pointer (some ⟨26,0,none⟩)] /\ wkR (slQ 27 1 (wtN qf0 ql0 qs0).length) /\ wkR (slQ 16 2 (wtN qf0 ql0 qs0).length) /\ (.pointer (some ⟨26,0,none⟩) : Value) = .pointer (some ⟨26,0,none⟩) /\ (.agg #[.func (.func 159) #[] #[.pointer (some ⟨18,0,none⟩),.pointer (some ⟨22,0,none⟩),.pointer (some ⟨21,0,none⟩),.pointer (some ⟨19,0,none⟩)],.func (.func 160) #[] #[.pointer (some ⟨22,0,none⟩)]] : Value) = .agg #[.func (.func 159) #[] #[.pointer (some ⟨18,0,none⟩),.pointer (some ⟨22,0,none⟩),.pointer (some ⟨21,0,none⟩),.pointer (some ⟨19,0,none⟩)],.func (.func 160) #[] #[.pointer (some ⟨22,0,none⟩)]] /\ (.pointer (some ⟨23,2,none⟩) : Value) = .pointer (some ⟨23,2,none⟩) /\ jj3t = .bool true /\ (nI 1 : Value) = nI 1 /\ (nI 1 : Value) = nI 1 /\ jj1t qf0 ql0 qs0 qp0) /\ True
abbrev jj1a (qn0 : Nat) (qf0 : Fleet) (ql0 : List Rq) (qs0 : List Sv) (qp0 : Pol) : Prop:=(jj2q qn0) = nI ((qn0 : Int) + 1) /\ (∃ n_1' : Nat,(n_1' <= List.length qf0.b) /\ (List.length qf0.b - n_1') < (List.length qf0.b - qn0) /\ true = true /\ (jj5 qn0 n_1' 30 31 qf0) /\ (jjf qn0 qf0 ql0 qs0 qp0 n_1' 32) /\ (True) /\ (jj2 qf0 ql0 qs0 qp0))
abbrev jj1b (qn0 : Nat) (qf0 : Fleet) (ql0 : List Rq) (qs0 : List Sv) (qp0 : Pol) : Prop:=(jj2q qn0) = nI ((qn0 : Int) + 1) /\ (∃ n_1' : Nat,(n_1' <= List.length qf0.b) /\ (List.length qf0.b - n_1') < (List.length qf0.b - qn0) /\ true = true /\ (jj5 qn0 n_1' 30 31 qf0) /\ (jje qf0 ql0 qs0 qp0 qn0 n_1' 32) /\ (True) /\ (jj2 qf0 ql0 qs0 qp0))
abbrev jj1p : KObj:=.cells true 0 [.func (.func 161) #[] #[],.func (.func 162) #[] #[.pointer (some ⟨18,0,none⟩)]]
abbrev jj2b (f : Fleet) (l : List Rq) (x3 : List Sv) (p : Pol) : Prop:=(someR (.cells false 0 (inL f.t))) /\ (jj4e f) /\ (someR (.cells false 0 (l.flatMap rqC))) /\ (jj48 f x3) /\ (jjv f l x3) /\ (someR (jjb f l)) /\ (someR jj39) /\ (someR (.cells true 0 [nI (hrN f l x3)])) /\ (jjs p) /\ (someR (.cells true 1 ((ovN l x3 x3.length).flatMap intC))) /\ (someR (jjx l)) /\ (someR (.cells true 0 [nI (hrN f l x3)])) /\ (someR jjn) /\ (someR jj39) /\ (someR jj1p) /\ True
abbrev jj1n : KObj:=.cells true 0 [.func (.func 161) #[] #[],.func (.func 162) #[] #[.pointer (some ⟨18,0,none⟩)]]
abbrev jj26 (H' : Heap) (f : Fleet) (l : List Rq) (x3 : List Sv) (p : Pol) : Prop:=H'[0]? = some (.cells false 0 (inL f.t) : KObj) /\ H'[1]? = some (.cells false 0 (jj3f f) : KObj) /\ H'[2]? = some (.cells false 0 (l.flatMap rqC) : KObj) /\ H'[7]? = some (jj4c f x3) /\ H'[8]? = some (jjw f l x3) /\ H'[9]? = some (jja f l) /\ H'[10]? = some (.cells true 0 jj1z : KObj) /\ H'[15]? = some (.cells true 0 [nI (hrN f l x3)] : KObj) /\ H'[19]? = some (jjt p) /\ H'[13]? = some (.cells true 1 ((ovN l x3 x3.length).flatMap intC) : KObj) /\ H'[20]? = some (jjq l) /\ H'[21]? = some (.cells true 0 [nI (hrN f l x3)] : KObj) /\ H'[22]? = some jjl /\ H'[18]? = some (.cells true 0 jj1z : KObj) /\ H'[28]? = some jj1n /\ True
abbrev jj4 (qf0 : Fleet) (ql0 : List Rq) (qs0 : List Sv) (qp0 : Pol) : Prop:=(lrecOk prog 73 0 /\ (.func (.func 163) #[] #[.pointer (some ⟨31,0,none⟩),.pointer (some ⟨32,0,none⟩)] : Value) = .func (.func 163) #[] #[.pointer (some ⟨31,0,none⟩),.pointer (some ⟨32,0,none⟩)] /\ (nI (hrN qf0 ql0 qs0) : Value) = nI (hrN qf0 ql0 qs0) /\ jj3x = .pointer (some ⟨9,0,none⟩) /\ (.pointer (some ⟨30,0,none⟩) : Value) = .pointer (some ⟨30,0,none⟩) /\ (nI (bstN qf0 qp0 ql0 qs0) : Value) = nI (bstN qf0 qp0 ql0 qs0) /\ (.func (.func 126) #[] #[.pointer (some ⟨28,0,none⟩),.pointer (some ⟨10,0,none⟩)] : Value) = .func (.func 126) #[] #[.pointer (some ⟨28,0,none⟩),.pointer (some ⟨10,0,none⟩)] /\ wkR (slQ 29 2 (smN qf0 qp0 ql0 qs0 2).length) /\ jj3t = .bool true /\ (nI (((smN qf0 qp0 ql0 qs0 2).length : Nat) : Int) : Value) = nI (((smN qf0 qp0 ql0 qs0 2).length : Nat) : Int) /\ wkR (slQ 29 2 (smN qf0 qp0 ql0 qs0 2).length) /\ wkR (slQ 29 2 (smN qf0 qp0 ql0 qs0 2).length) /\ wkR (slQ 29 2 (smN qf0 qp0 ql0 qs0 2).length) /\ (.func (.func 125) #[] #[.pointer (some ⟨28,0,none⟩)] : Value) = .func (.func 125) #[] #[.pointer (some ⟨28,0,none⟩)] /\ wkR (slQ 29 1 (wtN qf0 ql0 qs0).length) /\ wkR (slQ 16 2 (wtN qf0 ql0 qs0).length) /\ (.pointer (some ⟨28,0,none⟩) : Value) = .pointer (some ⟨28,0,none⟩) /\ (.agg #[.func (.func 161) #[] #[],.func (.func 162) #[] #[.pointer (some ⟨18,0,none⟩)]] : Value) = .agg #[.func (.func 161) #[] #[],.func (.func 162) #[] #[.pointer (some ⟨18,0,none⟩)]] /\ (.pointer (some ⟨23,4,none⟩) : Value) = .pointer (some ⟨23,4,none⟩) /\ jj3t = .bool true /\ (nI 2 : Value) = nI 2 /\ (nI 2 : Value) = nI 2 /\ jj1t qf0 ql0 qs0 qp0) /\ True
abbrev jj1c (qn0 : Nat) (qf0 : Fleet) (ql0 : List Rq) (qs0 : List Sv) (qp0 : Pol) : Prop:=(jj2q qn0) = nI ((qn0 : Int) + 1) /\ (∃ n_1' : Nat,(n_1' <= List.length qf0.b) /\ (List.length qf0.b - n_1') < (List.length qf0.b - qn0) /\ true = true /\ (jj5 qn0 n_1' 32 33 qf0) /\ (jjf qn0 qf0 ql0 qs0 qp0 n_1' 34) /\ (True) /\ (jj4 qf0 ql0 qs0 qp0))
abbrev jj1d (qn0 : Nat) (qf0 : Fleet) (ql0 : List Rq) (qs0 : List Sv) (qp0 : Pol) : Prop:=(jj2q qn0) = nI ((qn0 : Int) + 1) /\ (∃ n_1' : Nat,(n_1' <= List.length qf0.b) /\ (List.length qf0.b - n_1') < (List.length qf0.b - qn0) /\ true = true /\ (jj5 qn0 n_1' 32 33 qf0) /\ (jje qf0 ql0 qs0 qp0 qn0 n_1' 34) /\ (True) /\ (jj4 qf0 ql0 qs0 qp0))
def RBody (f : Fleet) (p : Pol) (l : List Rq) (x3 : List Sv) : Prop :=
 ((decide ((0 : Int) < (((opL l x3).length : Nat) : Int))) = true -> (((someR (.cells true 1 ((opB l x3).flatMap intC))) /\ (someR (.cells false 0 (inL f.t))) /\ (jj4e f) /\ (someR (.cells false 0 (l.flatMap rqC))) /\ (jj48 f x3) /\ (jjv f l x3) /\ (someR (jjb f l)) /\ True) /\ (∀ H' : Heap,H'.length = 15 -> (H'[12]? = some (.cells true 1 ((opB l x3).flatMap intC) : KObj) /\ H'[0]? = some (.cells false 0 (inL f.t) : KObj) /\ H'[1]? = some (.cells false 0 (jj3f f) : KObj) /\ H'[2]? = some (.cells false 0 (l.flatMap rqC) : KObj) /\ H'[7]? = some (jj4c f x3) /\ H'[8]? = some (jjw f l x3) /\ H'[9]? = some (jja f l) /\ True) -> KCall prog 119 [slQ 12 2 (opL l x3).length,.func (.func 120) #[.pointer (some ⟨9,0,none⟩)] #[]] H' [] (Is (nI (askN l x3)) H')) /\ (((0 : Int) <= (askN l x3) /\ ((askN l x3) : Int) < (jj3v l)) /\ (((l.flatMap rqC)[((0 + Int.toNat (askN l x3) * 7) + 1)]? = some (nI (l.getD (askN l x3).toNat zeroQ).at_)) /\ (((jj48 f x3) /\ True) /\ (∀ H' : Heap,H'.length = 16 -> (H'[7]? = some (jj4c f x3) /\ True) -> KCall prog 121 [.slice (some ⟨7,0,none⟩) f.b.length f.b.length] H' [] (Is (nI (minL (frH f x3 x3.length))) H')) /\ ((some (.cells true 0 [nI (if ((l.getD (askN l x3).toNat zeroQ).at_ : Int) > (minL (frH f x3 x3.length)) then ((l.getD (askN l x3).toNat zeroQ).at_ : Int) else (minL (frH f x3 x3.length)))] : KObj) = some (.cells true 0 [nI (hrN f l x3)] : KObj)) /\ (((someR (.cells true 1 ((opB l x3).flatMap intC))) /\ True) /\ (∀ H' : Heap,H'.length = 16 -> (H'[12]? = some (.cells true 1 ((opB l x3).flatMap intC) : KObj) /\ True) -> KCall prog 116 [slQ 12 2 (opL l x3).length] H' [] (Is (slQ 16 1 (opL l x3).length) (H' ++ [(.cells true 1 ((opL l x3).flatMap intC) : KObj)]))) /\ (((someR (.cells true 1 ((opL l x3).flatMap intC))) /\ (someR (.cells false 0 (inL f.t))) /\ (jj4e f) /\ (someR (.cells false 0 (l.flatMap rqC))) /\ (jj48 f x3) /\ (jjv f l x3) /\ (someR (jjb f l)) /\ (someR jj39) /\ (someR (.cells true 0 [nI (hrN f l x3)])) /\ True) /\ (∀ H' : Heap,H'.length = 17 -> (H'[16]? = some (.cells true 1 ((opL l x3).flatMap intC) : KObj) /\ H'[0]? = some (.cells false 0 (inL f.t) : KObj) /\ H'[1]? = some (.cells false 0 (jj3f f) : KObj) /\ H'[2]? = some (.cells false 0 (l.flatMap rqC) : KObj) /\ H'[7]? = some (jj4c f x3) /\ H'[8]? = some (jjw f l x3) /\ H'[9]? = some (jja f l) /\ H'[10]? = some (.cells true 0 jj1z : KObj) /\ H'[15]? = some (.cells true 0 [nI (hrN f l x3)] : KObj) /\ True) -> KCall prog 122 [slQ 16 1 (opL l x3).length,.func (.func 123) #[] #[.pointer (some ⟨10,0,none⟩),.pointer (some ⟨15,0,none⟩)]] H' [16] (Is (slQ 16 2 (wtN f l x3).length) (List.set H' 16 (.cells true 1 ((wtB f l x3).flatMap intC) : KObj)))) /\ ((jj4j f l x3) /\ (jji 25 f l x3) /\ (((someR (.cells true 1 ((wtN f l x3).flatMap intC))) /\ jj29 f l x3 p) /\ (∀ H' : Heap,H'.length = 26 -> (H'[25]? = some (.cells true 1 ((wtN f l x3).flatMap intC) : KObj) /\ jj24 H' f l x3 p) -> KCall prog 122 [slQ 25 1 (wtN f l x3).length,.func (.func 125) #[] #[.pointer (some ⟨24,0,none⟩)]] H' [25] (jj1q 25 f p l x3 0 H')) /\ (((jj1m f p l x3 0) = true -> (((someR (.cells true 1 ((smB f p l x3 0).flatMap intC))) /\ jj29 f l x3 p) /\ (∀ H' : Heap,H'.length = 26 -> (H'[25]? = some (.cells true 1 ((smB f p l x3 0).flatMap intC) : KObj) /\ jj24 H' f l x3 p) -> KCall prog 119 [slQ 25 2 (smN f p l x3 0).length,.func (.func 126) #[] #[.pointer (some ⟨24,0,none⟩),.pointer (some ⟨10,0,none⟩)]] H' [] (Is (nI (bstN f p l x3)) H')) /\ (true = true /\ (0 <= List.length f.b) /\ (true = true /\ (jjc 28 29 f) /\ (jjk f l x3 p 30) /\ (True) /\ (jj3 f l x3 p)) /\ jj3d /\ ∀ n_0 : Nat,(n_0 <= List.length f.b) -> (((jj49 n_0 f) = true -> ((jjr n_0 f) /\ ((jj1i f x3 n_0) /\ (((jj16 f x3 n_0 l) = true -> (((decide (((jj6 f l x3 p n_0) : Int) < 0)) = true -> (jj18 n_0 f l x3 p)) /\ ((decide (((jj6 f l x3 p n_0) : Int) < 0)) = false -> ((jjr n_0 f) /\ ((jj1j f l x3 n_0) /\ ((jj1h f l x3 n_0) /\ ((jjm f l x3 n_0) /\ ((jju f p l x3) /\ ((jjh l f p x3) /\ ((jjy l f p x3 n_0) /\ ((jjj f l x3 n_0 p) /\ ((jj1r f l x3 p n_0) /\ ((jj1e f l x3 p n_0) /\ ((jj13 f l x3 p n_0) /\ ((jj10 f l x3 p n_0) /\ ((jju f p l x3) /\ ((jjh l f p x3) /\ ((jj15 l f p x3 n_0) /\ ((jjz f l x3 p n_0) /\ (((jj9 f l x3 n_0 p) = true -> (jj18 n_0 f l x3 p)) /\ ((jj9 f l x3 n_0 p) = false -> (jj19 n_0 f l x3 p)))))))))))))))))))))) /\ ((jj16 f x3 n_0 l) = false -> (jj19 n_0 f l x3 p)))))) /\ (jj1 n_0 f p l x3 35 0 24 25 0 26 27 28 34))))) /\ ((jj1m f p l x3 0) = false -> ((jj4j f l x3) /\ (jji 27 f l x3) /\ (((someR (.cells true 1 ((wtN f l x3).flatMap intC))) /\ jj2a f l x3 p) /\ (∀ H' : Heap,H'.length = 28 -> (H'[27]? = some (.cells true 1 ((wtN f l x3).flatMap intC) : KObj) /\ jj25 H' f l x3 p) -> KCall prog 122 [slQ 27 1 (wtN f l x3).length,.func (.func 125) #[] #[.pointer (some ⟨26,0,none⟩)]] H' [27] (jj1q 27 f p l x3 1 H')) /\ (((jj1m f p l x3 1) = true -> (((someR (.cells true 1 ((smB f p l x3 1).flatMap intC))) /\ jj2a f l x3 p) /\ (∀ H' : Heap,H'.length = 28 -> (H'[27]? = some (.cells true 1 ((smB f p l x3 1).flatMap intC) : KObj) /\ jj25 H' f l x3 p) -> KCall prog 119 [slQ 27 2 (smN f p l x3 1).length,.func (.func 126) #[] #[.pointer (some ⟨26,0,none⟩),.pointer (some ⟨10,0,none⟩)]] H' [] (Is (nI (bstN f p l x3)) H')) /\ (true = true /\ (0 <= List.length f.b) /\ (true = true /\ (jjc 30 31 f) /\ (jjk f l x3 p 32) /\ (True) /\ (jj2 f l x3 p)) /\ jj3d /\ ∀ n_0 : Nat,(n_0 <= List.length f.b) -> (((jj49 n_0 f) = true -> ((jjr n_0 f) /\ ((jj1i f x3 n_0) /\ (((jj16 f x3 n_0 l) = true -> (((decide (((jj6 f l x3 p n_0) : Int) < 0)) = true -> (jj1a n_0 f l x3 p)) /\ ((decide (((jj6 f l x3 p n_0) : Int) < 0)) = false -> ((jjr n_0 f) /\ ((jj1j f l x3 n_0) /\ ((jj1h f l x3 n_0) /\ ((jjm f l x3 n_0) /\ ((jju f p l x3) /\ ((jjh l f p x3) /\ ((jjy l f p x3 n_0) /\ ((jjj f l x3 n_0 p) /\ ((jj1r f l x3 p n_0) /\ ((jj1e f l x3 p n_0) /\ ((jj13 f l x3 p n_0) /\ ((jj10 f l x3 p n_0) /\ ((jju f p l x3) /\ ((jjh l f p x3) /\ ((jj15 l f p x3 n_0) /\ ((jjz f l x3 p n_0) /\ (((jj9 f l x3 n_0 p) = true -> (jj1a n_0 f l x3 p)) /\ ((jj9 f l x3 n_0 p) = false -> (jj1b n_0 f l x3 p)))))))))))))))))))))) /\ ((jj16 f x3 n_0 l) = false -> (jj1b n_0 f l x3 p)))))) /\ (jj1 n_0 f p l x3 37 1 26 27 1 28 29 30 36))))) /\ ((jj1m f p l x3 1) = false -> ((jj4j f l x3) /\ (jji 29 f l x3) /\ (((someR (.cells true 1 ((wtN f l x3).flatMap intC))) /\ jj2b f l x3 p) /\ (∀ H' : Heap,H'.length = 30 -> (H'[29]? = some (.cells true 1 ((wtN f l x3).flatMap intC) : KObj) /\ jj26 H' f l x3 p) -> KCall prog 122 [slQ 29 1 (wtN f l x3).length,.func (.func 125) #[] #[.pointer (some ⟨28,0,none⟩)]] H' [29] (jj1q 29 f p l x3 2 H')) /\ ((.bool (jj1m f p l x3 2) : Value) = .bool true /\ (((someR (.cells true 1 ((smB f p l x3 2).flatMap intC))) /\ jj2b f l x3 p) /\ (∀ H' : Heap,H'.length = 30 -> (H'[29]? = some (.cells true 1 ((smB f p l x3 2).flatMap intC) : KObj) /\ jj26 H' f l x3 p) -> KCall prog 119 [slQ 29 2 (smN f p l x3 2).length,.func (.func 126) #[] #[.pointer (some ⟨28,0,none⟩),.pointer (some ⟨10,0,none⟩)]] H' [] (Is (nI (bstN f p l x3)) H')) /\ (true = true /\ (0 <= List.length f.b) /\ (true = true /\ (jjc 32 33 f) /\ (jjk f l x3 p 34) /\ (True) /\ (jj4 f l x3 p)) /\ jj3d /\ ∀ n_0 : Nat,(n_0 <= List.length f.b) -> (((jj49 n_0 f) = true -> ((jjr n_0 f) /\ ((jj1i f x3 n_0) /\ (((jj16 f x3 n_0 l) = true -> (((decide (((jj6 f l x3 p n_0) : Int) < 0)) = true -> (jj1c n_0 f l x3 p)) /\ ((decide (((jj6 f l x3 p n_0) : Int) < 0)) = false -> ((jjr n_0 f) /\ ((jj1j f l x3 n_0) /\ ((jj1h f l x3 n_0) /\ ((jjm f l x3 n_0) /\ ((jju f p l x3) /\ ((jjh l f p x3) /\ ((jjy l f p x3 n_0) /\ ((jjj f l x3 n_0 p) /\ ((jj1r f l x3 p n_0) /\ ((jj1e f l x3 p n_0) /\ ((jj13 f l x3 p n_0) /\ ((jj10 f l x3 p n_0) /\ ((jju f p l x3) /\ ((jjh l f p x3) /\ ((jj15 l f p x3 n_0) /\ ((jjz f l x3 p n_0) /\ (((jj9 f l x3 n_0 p) = true -> (jj1c n_0 f l x3 p)) /\ ((jj9 f l x3 n_0 p) = false -> (jj1d n_0 f l x3 p)))))))))))))))))))))) /\ ((jj16 f x3 n_0 l) = false -> (jj1d n_0 f l x3 p)))))) /\ (jj1 n_0 f p l x3 39 2 28 29 2 30 31 32 38)))))))))))))))))))))))
abbrev jj1o (qf0 : Fleet) (ql0 : List Rq) : Prop:=(someR (.cells false 0 (inL qf0.t))) /\ (someR (.cells false 0 (qf0.b.flatMap intC))) /\ (someR (.cells false 0 (ql0.flatMap rqC))) /\ True
abbrev jjp (qf0 : Fleet) (ql0 : List Rq) (qp0 : Pol) : Prop:=∀ H' : Heap,H'.length = 6 -> (H'[0]? = some (.cells false 0 (inL qf0.t) : KObj) /\ H'[1]? = some (jj4l qf0) /\ H'[2]? = some (.cells false 0 (ql0.flatMap rqC) : KObj) /\ True) -> KCall prog 30 [.agg #[slQ 0 2 qf0.t.length,slQ 1 2 qf0.b.length],.agg #[nI qp0.ov,nI qp0.warn,nI qp0.w0,nI qp0.w1,nI qp0.w2],slQ 2 2 ql0.length] H' [] (Is (nI (errAll qf0 qp0 ql0)) H')
abbrev jj17 (qf0 : Fleet) : Prop:=(0 : Int) <= (jj2m qf0) /\ ((jj2m qf0) : Int) <= (jj2m qf0) /\ ((jj2m qf0) : Int) < 2 ^ 62 /\ 8 * ((jj2m qf0) : Int) <= 2 ^ 48
abbrev jj14 (qf0 : Fleet) : Prop:=∀ H' : Heap,H'.length = 8 -> (H'[1]? = some (jj4l qf0) /\ True) -> KCall prog 116 [slQ 1 2 qf0.b.length] H' [] (Is (slQ 8 1 qf0.b.length) (H' ++ [(.cells true 1 (qf0.b.flatMap intC) : KObj)]))
abbrev jj2g (ql0 : List Rq) : Prop:=(.pointer (some ⟨10,0,none⟩) : Value) = .pointer (some ⟨10,0,none⟩) /\ (.pointer (some ⟨11,0,none⟩) : Value) = .pointer (some ⟨11,0,none⟩) /\ (.slice none 0 0 : Value) = .slice none 0 0 /\ (.slice none 0 0 : Value) = .slice none 0 0 /\ (nI (jj36 ql0) : Value) = nI (jj36 ql0) /\ True
abbrev jjg (ql0 : List Rq) (qp0 : Pol) : Prop:=true = true /\ ((nI 0 : Value) = nI ((0 : Nat) : Int) /\ wk (.slice none 0 0 : Value) (slQ 0 1 0 : Value) /\ jj2g ql0) /\ ((keptR 12 jj39) /\ (keptR 12 (jj3h qp0)) /\ True) /\ (True /\ True) /\ (True)
abbrev jj8 (qn0 : Nat) (ql0 : List Rq) (qp0 : Pol) : Prop:=(decide (((qn0 : Int) : Int) < (jj36 ql0))) = true -> (((qn0 + 1) * 8 <= 2 ^ 44 /\ 1 ≠ 0 /\ (qn0 <= qn0 /\ 0 + qn0 * 1 <= List.length ((idxL qn0).flatMap intC)) /\ (1 <= 1 /\ 0 + 1 * 1 <= List.length ([nI (qn0 : Int)] : List Value)) /\ (((([nI (qn0 : Int)] : List Value).drop 0).take (1 * 1)) : List Value).all (fun v => one1 v) = true) /\ true = true /\ ((jj2q qn0) = nI ((qn0 : Int) + 1) /\ (∃ n_1' : Nat,(n_1' <= List.length ql0) /\ (List.length ql0 - n_1') < (List.length ql0 - qn0) /\ true = true /\ ((nI ((qn0 : Int) + 1) : Value) = nI (n_1' : Int) /\ wk (.slice (some ⟨14,0,none⟩) (qn0 + 1) (qn0 + 1) : Value) (slQ 14 1 n_1' : Value) /\ jj2g ql0) /\ ((keptR 12 jj39) /\ (keptR 12 (jj3h qp0)) /\ True) /\ ((some (.cells true 1 (((((idxL qn0).flatMap intC).drop 0).take (qn0 * 1)) ++ ((([nI (qn0 : Int)] : List Value).drop 0).take (1 * 1))) : KObj) = some (.cells true 1 ((idxL n_1').flatMap intC) : KObj) /\ belowO 12 (.cells true 1 ((idxL n_1').flatMap intC) : KObj) = true) /\ True) /\ (True))))
abbrev jj1g (ql0 : List Rq) : Prop:=(0 : Int) <= (jj36 ql0) /\ ((jj36 ql0) : Int) <= (jj36 ql0) /\ ((jj36 ql0) : Int) < 2 ^ 62 /\ 8 * ((jj36 ql0) : Int) <= 2 ^ 48
abbrev jj2u : List Sv:=[]
abbrev jj7 (qn0 : Nat) (ql0 : List Rq) (qp0 : Pol) (qf0 : Fleet) : Prop:=true = true /\ (wk (.slice none 0 0 : Value) (slQ 0 1 jj2u.length : Value) /\ wk (slQ 12 1 qn0 : Value) (slQ 12 2 (opL ql0 jj2u).length : Value) /\ jj2f ql0) /\ ((keptR 14 jj39) /\ (keptR 14 (jj3h qp0)) /\ (some (.cells true 1 (krep [nI 0] qf0.b.length) : KObj) = some (.cells true 1 ((frH qf0 jj2u jj2u.length).flatMap intC) : KObj) /\ belowO 14 (.cells true 1 ((frH qf0 jj2u jj2u.length).flatMap intC) : KObj) = true) /\ (some (.cells true 1 (qf0.b.flatMap intC) : KObj) = some (.cells true 1 ((plH qf0 ql0 jj2u jj2u.length).flatMap intC) : KObj) /\ belowO 14 (.cells true 1 ((plH qf0 ql0 jj2u jj2u.length).flatMap intC) : KObj) = true) /\ (some (.cells true 1 (krep [nI 0] ql0.length) : KObj) = some (.cells true 1 ((ovN ql0 jj2u jj2u.length).flatMap intC) : KObj) /\ belowO 14 (.cells true 1 ((ovN ql0 jj2u jj2u.length).flatMap intC) : KObj) = true) /\ (some (.cells true 1 ((idxL qn0).flatMap intC) : KObj) = some (.cells true 1 ((opB ql0 jj2u).flatMap intC) : KObj) /\ belowO 14 (.cells true 1 ((opB ql0 jj2u).flatMap intC) : KObj) = true) /\ True) /\ (True /\ True) /\ (True)
def RRun (f : Fleet) (p : Pol) (l : List Rq) : Prop :=
 ((jj1o f l) /\ (jjp f l p) /\ (((((errAll f p l) : Int) != 0) = true -> (true = true /\ wk (.tuple #[.slice none 0 0,nI (errAll f p l)] : Value) (rn (sg 4 []) 3 (.tuple #[slQ 4 2 (List.length (fRun f p l).1),nI (fRun f p l).2] : Value)) /\ (True /\ True))) /\ ((((errAll f p l) : Int) != 0) = false -> ((jj17 f) /\ (((jj4e f) /\ True) /\ (jj14 f) /\ (true = true /\ (0 <= List.length l) /\ (jjg l p) /\ jj3d /\ ∀ n_0 : Nat,(n_0 <= List.length l) -> ((jj8 n_0 l p) /\ ((decide (((n_0 : Int) : Int) < (jj3v l))) = false -> ((jj1g l) /\ (true = true /\ (RunI f p l jj2u) /\ (jj7 n_0 l p f) /\ (∀ s_1 : List Sv,true = true) /\ ∀ s_1 : List Sv,(RunI f p l s_1) -> ((RBody f p l s_1) /\ ((decide ((0 : Int) < (((opL l s_1).length : Nat) : Int))) = false -> (true = true /\ wk (.tuple #[slQ 14 1 s_1.length,nI 0] : Value) (rn (sg 4 [(4,14)]) 3 (.tuple #[slQ 4 2 (List.length (fRun f p l).1),nI (fRun f p l).2] : Value)) /\ ((some (.cells true 5 (s_1.flatMap svC) : KObj) = some (.cells true 5 (List.flatMap svC (fRun f p l).1) : KObj) /\ belowO 4 (.cells true 5 (List.flatMap svC (fRun f p l).1) : KObj) = true) /\ True))))))))))))))
abbrev jj4g (f : Fleet) (l : List Rq) : List (Nat × KObj):=[(0,.cells false 0 (inL f.t)),(1,.cells false 0 (jj3f f)),(2,.cells false 0 (l.flatMap rqC))]
abbrev jj2i : Nat × Value:=(2,.pointer (some ⟨10,0,none⟩))
abbrev jj2j : Nat × Value:=(3,.pointer (some ⟨11,0,none⟩))
abbrev jj33 : Nat × Value:=(4,.slice none 0 0)
abbrev jj4h (n_0 : Nat) (l : List Rq) : List (Nat × Value):=[(25,nI (n_0 : Int)),(6,slQ 12 1 n_0),jj2i,jj2j,jj33,(5,.slice none 0 0),(24,nI (jj3v l))]
abbrev jj1f (qp0 : Pol) : Nat × Bool × KObj:=(11,true,.cells true 0 (jj22 qp0))
abbrev jj1s (qn0 : Nat) : Hint:=.go 4 (.need (.go 1 (.slot 32 (nI ((qn0 : Int) + 1)) (.go 0 (.again [(12,14)])))))
abbrev jj3l (s_1 : List Sv) (l : List Rq) : List (Nat × Value):=[(5,slQ 14 1 s_1.length),(6,slQ 12 2 (opL l s_1).length),jj33,jj2j,jj2i,(8,.slice (some ⟨13,0,none⟩) l.length l.length)]
abbrev jj2s (p : Pol) (f : Fleet) (s_1 : List Sv) (l : List Rq) : List (Nat × Bool × KObj):=[(10,true,.cells true 0 jj1z),(jj1f p),(7,true,.cells true 1 ((frH f s_1 s_1.length).flatMap intC)),(8,true,.cells true 1 ((plH f l s_1 s_1.length).flatMap intC)),(13,true,.cells true 1 ((ovN l s_1 s_1.length).flatMap intC)),(12,true,.cells true 1 ((opB l s_1).flatMap intC))]
abbrev jj3g (ql0 : List Rq) (qs0 : List Sv) : Nat × KObj:=(12,.cells true 1 ((opB ql0 qs0).flatMap intC))
abbrev jj35 (qf0 : Fleet) : Nat × KObj:=(0,.cells false 0 (inL qf0.t))
abbrev jj2v (qf0 : Fleet) : Nat × KObj:=(1,.cells false 0 (qf0.b.flatMap intC))
abbrev jj32 (ql0 : List Rq) : Nat × KObj:=(2,.cells false 0 (ql0.flatMap rqC))
abbrev jj2h (qf0 : Fleet) (qs0 : List Sv) : Nat × KObj:=(7,.cells true 1 ((jj3j qf0 qs0).flatMap intC))
abbrev jj2y (qf0 : Fleet) (ql0 : List Rq) (qs0 : List Sv) : Nat × KObj:=(8,.cells true 1 ((jj2e qf0 ql0 qs0).flatMap intC))
abbrev jj3i (qf0 : Fleet) (ql0 : List Rq) : Nat × KObj:=(9,.cells true 0 (jj21 qf0 ql0))
abbrev jj38 : Nat × KObj:=(10,.cells true 0 jj1z)
abbrev jj3m (qf0 : Fleet) (ql0 : List Rq) (qs0 : List Sv) : Nat × KObj:=(15,.cells true 0 [nI (hrN qf0 ql0 qs0)])
abbrev jj4k (qf0 : Fleet) (ql0 : List Rq) (qs0 : List Sv) : List (Nat × KObj):=[(16,.cells true 1 ((wtB qf0 ql0 qs0).flatMap intC))]
abbrev jj3r (qp0 : Pol) : Nat × KObj:=(19,.cells true 0 (jj22 qp0))
abbrev jj2x (ql0 : List Rq) (qs0 : List Sv) : Nat × KObj:=(13,.cells true 1 ((ovN ql0 qs0 qs0.length).flatMap intC))
abbrev jj2k (ql0 : List Rq) : Nat × KObj:=(20,.cells true 0 [.slice (some ⟨13,0,none⟩) ql0.length ql0.length])
abbrev jj4d (qf0 : Fleet) (ql0 : List Rq) (qs0 : List Sv) : Nat × KObj:=(21,.cells true 0 [nI (hrN qf0 ql0 qs0)])
abbrev jj2c : Nat × KObj:=(22,.cells true 0 [.func (.func 157) #[] #[.pointer (some ⟨18,0,none⟩)]])
abbrev jj3b : Nat × KObj:=(18,.cells true 0 jj1z)
abbrev jj37 : Nat × KObj:=(24,.cells true 0 [.func (.func 158) #[] #[.pointer (some ⟨20,0,none⟩),.pointer (some ⟨19,0,none⟩)],.nilFunc])
abbrev jj3s (qf0 : Fleet) : Nat × Value:=(9,.slice (some ⟨7,0,none⟩) qf0.b.length qf0.b.length)
abbrev jj2z (qf0 : Fleet) (ql0 : List Rq) (qs0 : List Sv) (qp0 : Pol) (n_2 : Nat):=byTo qf0 ql0 qs0 (hrN qf0 ql0 qs0) (rqAt ql0 (bstN qf0 qp0 ql0 qs0)).place n_2
abbrev jj3z : Nat × Value:=(85,.pointer (some ⟨9,0,none⟩))
abbrev jj2w : Nat × Value:=(68,.slice (some ⟨23,0,none⟩) 3 3)
abbrev jj3w (ql0 : List Rq) : Nat × Value:=(66,.slice (some ⟨13,0,none⟩) ql0.length ql0.length)
abbrev jj3c (qp0 : Pol) : Nat × Value:=(65,.agg #[nI qp0.ov,nI qp0.warn,nI qp0.w0,nI qp0.w1,nI qp0.w2])
abbrev jj40 : Nat × Value:=(64,.pointer (some ⟨9,0,none⟩))
abbrev jj30 : Nat × Value:=(12,.pointer (some ⟨17,0,none⟩))
abbrev jj2n (ql0 : List Rq) (qs0 : List Sv) (qf0 : Fleet) : Nat × Value:=(59,nI (if ((ql0.getD (askN ql0 qs0).toNat zeroQ).at_ : Int) > (minL (jj3j qf0 qs0)) then ((ql0.getD (askN ql0 qs0).toNat zeroQ).at_ : Int) else (minL (jj3j qf0 qs0))))
abbrev jj31 : Nat × Value:=(10,.pointer (some ⟨15,0,none⟩))
abbrev jj3n (ql0 : List Rq) (qs0 : List Sv) : Nat × Value:=(57,.pointer (some ⟨2,((0 + Int.toNat (askN ql0 qs0) * 7) + 1),none⟩))
abbrev jj3y (ql0 : List Rq) (qs0 : List Sv) : Nat × Value:=(56,.pointer (some ⟨2,(0 + Int.toNat (askN ql0 qs0) * 7),none⟩))
abbrev jj41 : Nat × Value:=(53,.pointer (some ⟨9,2,none⟩))
abbrev jj42 : Nat × Value:=(52,.pointer (some ⟨9,0,none⟩))
abbrev jj43 : Nat × Value:=(51,.pointer (some ⟨9,0,none⟩))
abbrev jj3o (qf0 : Fleet) : Nat × Value:=(49,.slice (some ⟨7,0,none⟩) qf0.b.length qf0.b.length)
abbrev jj44 : Nat × Value:=(48,.pointer (some ⟨9,3,none⟩))
abbrev jj45 : Nat × Value:=(47,.pointer (some ⟨9,0,none⟩))
abbrev jj46 : Nat × Value:=(46,.pointer (some ⟨9,0,none⟩))
abbrev jj47 : Nat × Value:=(43,.pointer (some ⟨9,0,none⟩))
abbrev jj2r (ql0 : List Rq) : Nat × Value:=(8,.slice (some ⟨13,0,none⟩) ql0.length ql0.length)
abbrev jj1y (qf0 : Fleet) (ql0 : List Rq) (qs0 : List Sv) (qp0 : Pol) (n_2 : Nat):=qf0.t.getD ((jj2e qf0 ql0 qs0).getD (jj2z qf0 ql0 qs0 qp0 n_2).toNat 0).toNat []
abbrev jj4b (qf0 : Fleet) (ql0 : List Rq) (qs0 : List Sv) (qp0 : Pol) (n_2 : Nat) : Value:=.iface ((jj1y qf0 ql0 qs0 qp0 n_2).length + 1) (.agg ⟨((jj1y qf0 ql0 qs0 qp0 n_2).flatMap intC)⟩)
abbrev jj1u (n_2 : Nat) (qf0 : Fleet) (ql0 : List Rq) (qs0 : List Sv) (qp0 : Pol) : Hint:=.go 3 (.gfork (.go 7 (.slot 25 (nI ((n_2 : Int) + 1)) (.go 0 (.again [])))) (.go 9 (.need (.val (nI ((jj2e qf0 ql0 qs0).getD n_2 0)) (.need (.val (.iface ((qf0.t.getD ((jj2e qf0 ql0 qs0).getD n_2 0).toNat []).length + 1) (.agg ⟨((qf0.t.getD ((jj2e qf0 ql0 qs0).getD n_2 0).toNat []).flatMap intC)⟩)) (.go 4 (.need (.go 0 (.val (nI (jj20 ql0 qf0 qp0 qs0).place) (.need (.val (nI ((qf0.t.getD ((jj2e qf0 ql0 qs0).getD n_2 0).toNat []).getD (jj2l ql0 qf0 qp0 qs0) 0)) (.go 9 (.need (.val (nI ((jj2e qf0 ql0 qs0).getD (jj2z qf0 ql0 qs0 qp0 n_2).toNat 0)) (.need (.val (jj4b qf0 ql0 qs0 qp0 n_2) (.go 4 (.need (.go 0 (.val (nI (jj20 ql0 qf0 qp0 qs0).place) (.need (.val (nI ((jj1y qf0 ql0 qs0 qp0 n_2).getD (jj2l ql0 qf0 qp0 qs0) 0)) (.go 1 (.fork (.go 5 (.slot 25 (nI ((n_2 : Int) + 1)) (.go 0 (.again [])))) (.go 3 (.slot 25 (nI ((n_2 : Int) + 1)) (.go 0 (.again [])))))))))))))))))))))))))))))
abbrev jj3p (n_2 : Nat) : Hint:=.go 2 (.slot 25 (nI ((n_2 : Int) + 1)) (.go 0 (.again [])))
abbrev jj3k (qf0 : Fleet) (ql0 : List Rq) (qs0 : List Sv) (qp0 : Pol) (n_2 : Nat):=nI (((hrN qf0 ql0 qs0) + ((jj1y qf0 ql0 qs0 qp0 n_2).getD (jj2l ql0 qf0 qp0 qs0) 0)) + (jj20 ql0 qf0 qp0 qs0).len)
abbrev jj2o (qp0 : Pol) (qf0 : Fleet) (ql0 : List Rq) (qs0 : List Sv) (n_4 : Nat) : List (Nat × Bool × KObj):=[(10,true,.cells true 0 jj1z),(11,true,.cells true 0 (jj22 qp0)),(17,true,.cells true 0 [nI (bstN qf0 qp0 ql0 qs0)]),(13,true,.cells true 1 ((ovQ ql0 qs0 (svN qf0 qp0 ql0 qs0) n_4).flatMap intC))]
abbrev jj1w (ql0 : List Rq) (qs0 : List Sv) (qf0 : Fleet) (qp0 : Pol) (n_4 : Nat) (n_2 : Nat) (i_3 : Int) : Hint:=.need (.val (nI ((jj2d ql0 qs0 qf0 qp0).getD n_4 0)) (.go 3 (.ans [(jj3i qf0 ql0),(jj35 qf0),(jj2v qf0),(jj32 ql0),(7,.cells true 1 (setl ((jj3j qf0 qs0).flatMap intC) (0 + Int.toNat (jj2z qf0 ql0 qs0 qp0 n_2) * 1) [nI i_3])),(8,.cells true 1 (setl ((jj2e qf0 ql0 qs0).flatMap intC) (0 + Int.toNat (jj2z qf0 ql0 qs0 qp0 n_2) * 1) [nI (jj20 ql0 qf0 qp0 qs0).dest]))] (nI (laterV (rqAt ql0 ((jj2d ql0 qs0 qf0 qp0).getD n_4 0)) (rqAt ql0 (bstN qf0 qp0 ql0 qs0)))) [] (.go 0 (.fork (.go 1 (.need (.val (nI ((ovQ ql0 qs0 (svN qf0 qp0 ql0 qs0) n_4).getD ((jj2d ql0 qs0 qf0 qp0).getD n_4 0).toNat 0)) (.go 0 (.slot 169 (nI (((ovQ ql0 qs0 (svN qf0 qp0 ql0 qs0) n_4).getD ((jj2d ql0 qs0 qf0 qp0).getD n_4 0).toNat 0) + 1)) (.need (.need (.go 0 (.slot 171 (nI ((n_4 : Int) + 1)) (.go 0 (.again []))))))))))) (.go 0 (.slot 171 (nI ((n_4 : Int) + 1)) (.go 0 (.again [])))))))))
abbrev jj2p : Nat × KObj:=(26,.cells true 0 [.func (.func 159) #[] #[.pointer (some ⟨18,0,none⟩),.pointer (some ⟨22,0,none⟩),.pointer (some ⟨21,0,none⟩),.pointer (some ⟨19,0,none⟩)],.func (.func 160) #[] #[.pointer (some ⟨22,0,none⟩)]])
abbrev jj3a : Nat × KObj:=(28,.cells true 0 [.func (.func 161) #[] #[],.func (.func 162) #[] #[.pointer (some ⟨18,0,none⟩)]])
abbrev jj0 (ql0 : List Rq) (qs0 : List Sv) (qf0 : Fleet) (qp0 : Pol) : Hint:=.go 2 (.ans [(jj3g ql0 qs0),(jj35 qf0),(jj2v qf0),(jj32 ql0),(jj2h qf0 qs0),(jj2y qf0 ql0 qs0),(jj3i qf0 ql0)] (nI (askN ql0 qs0)) [] (.go 9 (.need (.go 0 (.val (nI (ql0.getD (askN ql0 qs0).toNat zeroQ).at_) (.go 0 (.ans [(jj2h qf0 qs0)] (nI (minL (jj3j qf0 qs0))) [] (.go 1 (.obj 15 (.cells true 0 [nI (hrN qf0 ql0 qs0)]) (.go 0 (.ans [(jj3g ql0 qs0)] (slQ 16 1 (opL ql0 qs0).length) [.cells true 1 ((opL ql0 qs0).flatMap intC)] (.go 0 (.answ [(16,.cells true 1 ((opL ql0 qs0).flatMap intC)),(jj35 qf0),(jj2v qf0),(jj32 ql0),(jj2h qf0 qs0),(jj2y qf0 ql0 qs0),(jj3i qf0 ql0),jj38,(jj3m qf0 ql0 qs0)] (slQ 16 2 (wtN qf0 ql0 qs0).length) (jj4k qf0 ql0 qs0) [] (.go 32 (.ans (jj4k qf0 ql0 qs0) (slQ 25 1 (wtN qf0 ql0 qs0).length) [.cells true 1 ((wtN qf0 ql0 qs0).flatMap intC)] (.go 0 (.answ [(25,.cells true 1 ((wtN qf0 ql0 qs0).flatMap intC)),(jj35 qf0),(jj2v qf0),(jj32 ql0),(jj2h qf0 qs0),(jj2y qf0 ql0 qs0),(jj3i qf0 ql0),jj38,(jj3m qf0 ql0 qs0),(jj3r qp0),(jj2x ql0 qs0),(jj2k ql0),(jj4d qf0 ql0 qs0),jj2c,jj3b,jj37] (slQ 25 2 (smN qf0 qp0 ql0 qs0 0).length) [(25,.cells true 1 ((smB qf0 qp0 ql0 qs0 0).flatMap intC))] [] (.go 3 (.fork (.go 1 (.ans [(25,.cells true 1 ((smB qf0 qp0 ql0 qs0 0).flatMap intC)),(jj35 qf0),(jj2v qf0),(jj32 ql0),(jj2h qf0 qs0),(jj2y qf0 ql0 qs0),(jj3i qf0 ql0),jj38,(jj3m qf0 ql0 qs0),(jj3r qp0),(jj2x ql0 qs0),(jj2k ql0),(jj4d qf0 ql0 qs0),jj2c,jj3b,jj37] (nI (bstN qf0 qp0 ql0 qs0)) [] (.go 10 (.into (some [10,11,7,8,13,12,14,15,16,17,18,19,20,21,22,23,24,25,26,27,28]) (.go 5 (.inv 3 (Nat) (0) [] [26,29] (fun n_2 => [(11,nI (n_2 : Int)),(2,.pointer (some ⟨28,0,none⟩)),(0,.func (.yield 29) #[] #[]),(jj3s qf0),(10,nI (jj2m qf0))]) (fun n_2 => [(26,true,.cells true 0 [nI (jj2z qf0 ql0 qs0 qp0 n_2)])]) (fun n_2 => []) (fun n_2 => [(29,[(87,.func (.func 163) #[] #[.pointer (some ⟨27,0,none⟩),.pointer (some ⟨28,0,none⟩)]),(86,nI (hrN qf0 ql0 qs0)),jj3z,(16,.pointer (some ⟨26,0,none⟩)),(83,nI (bstN qf0 qp0 ql0 qs0)),(82,.func (.func 126) #[] #[.pointer (some ⟨24,0,none⟩),.pointer (some ⟨10,0,none⟩)]),(81,slQ 25 2 (smN qf0 qp0 ql0 qs0 0).length),(80,.bool true),(79,nI (((smN qf0 qp0 ql0 qs0 0).length : Nat) : Int)),(78,slQ 25 2 (smN qf0 qp0 ql0 qs0 0).length),(15,slQ 25 2 (smN qf0 qp0 ql0 qs0 0).length),(77,slQ 25 2 (smN qf0 qp0 ql0 qs0 0).length),(76,.func (.func 125) #[] #[.pointer (some ⟨24,0,none⟩)]),(75,slQ 25 1 (wtN qf0 ql0 qs0).length),(74,slQ 16 2 (wtN qf0 ql0 qs0).length),(14,.pointer (some ⟨24,0,none⟩)),(73,.agg #[.func (.func 158) #[] #[.pointer (some ⟨20,0,none⟩),.pointer (some ⟨19,0,none⟩)],.nilFunc]),(72,.pointer (some ⟨23,0,none⟩)),(71,.bool true),(70,nI 0),(69,nI 3),jj2w,(67,nI (hrN qf0 ql0 qs0)),(jj3w ql0),(jj3c qp0),jj40,jj30,(11,slQ 16 2 (wtN qf0 ql0 qs0).length),(63,slQ 16 2 (wtN qf0 ql0 qs0).length),(62,.func (.func 123) #[] #[.pointer (some ⟨10,0,none⟩),.pointer (some ⟨15,0,none⟩)]),(61,slQ 16 1 (opL ql0 qs0).length),(60,slQ 12 2 (opL ql0 qs0).length),(jj2n ql0 qs0 qf0),(50,nI (minL (jj3j qf0 qs0))),jj31,(58,nI (ql0.getD (askN ql0 qs0).toNat zeroQ).at_),(jj3n ql0 qs0),(jj3y ql0 qs0),(55,nI (askN ql0 qs0)),(54,slQ 2 2 ql0.length),jj41,jj42,jj43,(jj3o qf0),jj44,jj45,jj46,(9,nI (askN ql0 qs0)),(45,nI (askN ql0 qs0)),(44,.func (.func 120) #[.pointer (some ⟨9,0,none⟩)] #[]),jj47,(42,slQ 12 2 (opL ql0 qs0).length),(41,.bool true),(40,nI (((opL ql0 qs0).length : Nat) : Int)),(39,slQ 12 2 (opL ql0 qs0).length),(5,slQ 14 1 qs0.length),(6,slQ 12 2 (opL ql0 qs0).length),jj33,jj2j,jj2i,(jj2r ql0)])]) (fun n_2 => (n_2 <= List.length qf0.b)) (fun n_2 => (List.length qf0.b - n_2)) (fun n_2 => .go 0 (.fork (.go 0 (.need (.val (nI ((jj3j qf0 qs0).getD n_2 0)) (.go 5 (.gfork (.go 1 (.into (some [26,29]) (jj1u n_2 qf0 ql0 qs0 qp0))) (jj3p n_2)))))) (.keep (.go 4 (.into (some [7,8]) (.go 5 (.need (.val (jj27 ql0 qf0 qp0 qs0) (.go 15 (.need (.val (nI ((jj2e qf0 ql0 qs0).getD (jj2z qf0 ql0 qs0 qp0 n_2).toNat 0)) (.need (.val (jj4b qf0 ql0 qs0 qp0 n_2) (.go 1 (.need (.val (nI ((jj1y qf0 ql0 qs0 qp0 n_2).getD (jj2l ql0 qf0 qp0 qs0) 0)) (.go 0 (.slot 40 (nI ((hrN qf0 ql0 qs0) + ((jj1y qf0 ql0 qs0 qp0 n_2).getD (jj2l ql0 qf0 qp0 qs0) 0))) (.go 7 (.slot 46 (jj3k qf0 ql0 qs0 qp0 n_2) (.bind Int (fun i_3 => .slot 46 (nI i_3) (.go 15 (.need (.need (.need (.need (.go 1 (.keep (.go 0 (.need (.go 2 (.answ [(jj3g ql0 qs0),(17,.cells true 0 [nI (bstN qf0 qp0 ql0 qs0)])] (slQ 12 2 (jj28 ql0 qs0 qf0 qp0).length) [(12,.cells true 1 ((jj2d ql0 qs0 qf0 qp0).flatMap intC))] [] (.go 3 (.inv 3 (Nat) (0) [] [10,11,17,13] (fun n_4 => [(156,nI (n_4 : Int)),(jj2r ql0),jj2i,jj2j,jj33,(9,nI (askN ql0 qs0)),jj31,(11,slQ 16 2 (wtN qf0 ql0 qs0).length),jj30,jj2w,(69,nI 3),(70,nI 0),(14,.pointer (some ⟨24,0,none⟩)),(15,slQ 25 2 (smN qf0 qp0 ql0 qs0 0).length),(16,.pointer (some ⟨26,0,none⟩)),(87,.func (.func 163) #[] #[.pointer (some ⟨27,0,none⟩),.pointer (some ⟨28,0,none⟩)]),(5,.slice (some ⟨34,0,none⟩) (qs0.length + 1) (qs0.length + 1)),(6,slQ 12 2 (jj28 ql0 qs0 qf0 qp0).length),(154,slQ 12 2 (jj28 ql0 qs0 qf0 qp0).length),(155,nI (((jj28 ql0 qs0 qf0 qp0).length : Nat) : Int))]) (fun n_4 => (jj2o qp0 qf0 ql0 qs0 n_4)) (fun n_4 => []) (fun n_4 => []) (fun n_4 => (n_4 <= List.length (jj28 ql0 qs0 qf0 qp0))) (fun n_4 => (List.length (jj28 ql0 qs0 qf0 qp0) - n_4)) (fun n_4 => .go 0 (.fork (jj1w ql0 qs0 qf0 qp0 n_4 n_2 i_3) (.again [(14,34)])))))))))))))))))))))))))))))))))))))))))))) (.go 8 (.ans (jj4k qf0 ql0 qs0) (slQ 27 1 (wtN qf0 ql0 qs0).length) [.cells true 1 ((wtN qf0 ql0 qs0).flatMap intC)] (.go 0 (.answ [(27,.cells true 1 ((wtN qf0 ql0 qs0).flatMap intC)),(jj35 qf0),(jj2v qf0),(jj32 ql0),(jj2h qf0 qs0),(jj2y qf0 ql0 qs0),(jj3i qf0 ql0),jj38,(jj3m qf0 ql0 qs0),(jj3r qp0),(jj2x ql0 qs0),(jj2k ql0),(jj4d qf0 ql0 qs0),jj2c,jj3b,jj2p] (slQ 27 2 (smN qf0 qp0 ql0 qs0 1).length) [(27,.cells true 1 ((smB qf0 qp0 ql0 qs0 1).flatMap intC))] [] (.go 3 (.fork (.go 1 (.ans [(27,.cells true 1 ((smB qf0 qp0 ql0 qs0 1).flatMap intC)),(jj35 qf0),(jj2v qf0),(jj32 ql0),(jj2h qf0 qs0),(jj2y qf0 ql0 qs0),(jj3i qf0 ql0),jj38,(jj3m qf0 ql0 qs0),(jj3r qp0),(jj2x ql0 qs0),(jj2k ql0),(jj4d qf0 ql0 qs0),jj2c,jj3b,jj2p] (nI (bstN qf0 qp0 ql0 qs0)) [] (.go 10 (.into (some [10,11,7,8,13,12,14,15,16,17,18,19,20,21,22,23,24,25,26,27,28,29,30]) (.go 5 (.inv 3 (Nat) (0) [] [28,31] (fun n_2 => [(11,nI (n_2 : Int)),(2,.pointer (some ⟨30,0,none⟩)),(0,.func (.yield 31) #[] #[]),(jj3s qf0),(10,nI (jj2m qf0))]) (fun n_2 => [(28,true,.cells true 0 [nI (jj2z qf0 ql0 qs0 qp0 n_2)])]) (fun n_2 => []) (fun n_2 => [(31,[(87,.func (.func 163) #[] #[.pointer (some ⟨29,0,none⟩),.pointer (some ⟨30,0,none⟩)]),(86,nI (hrN qf0 ql0 qs0)),jj3z,(16,.pointer (some ⟨28,0,none⟩)),(83,nI (bstN qf0 qp0 ql0 qs0)),(82,.func (.func 126) #[] #[.pointer (some ⟨26,0,none⟩),.pointer (some ⟨10,0,none⟩)]),(81,slQ 27 2 (smN qf0 qp0 ql0 qs0 1).length),(80,.bool true),(79,nI (((smN qf0 qp0 ql0 qs0 1).length : Nat) : Int)),(78,slQ 27 2 (smN qf0 qp0 ql0 qs0 1).length),(15,slQ 27 2 (smN qf0 qp0 ql0 qs0 1).length),(77,slQ 27 2 (smN qf0 qp0 ql0 qs0 1).length),(76,.func (.func 125) #[] #[.pointer (some ⟨26,0,none⟩)]),(75,slQ 27 1 (wtN qf0 ql0 qs0).length),(74,slQ 16 2 (wtN qf0 ql0 qs0).length),(14,.pointer (some ⟨26,0,none⟩)),(73,.agg #[.func (.func 159) #[] #[.pointer (some ⟨18,0,none⟩),.pointer (some ⟨22,0,none⟩),.pointer (some ⟨21,0,none⟩),.pointer (some ⟨19,0,none⟩)],.func (.func 160) #[] #[.pointer (some ⟨22,0,none⟩)]]),(72,.pointer (some ⟨23,2,none⟩)),(71,.bool true),(70,nI 1),(84,nI 1),(69,nI 3),jj2w,(67,nI (hrN qf0 ql0 qs0)),(jj3w ql0),(jj3c qp0),jj40,jj30,(11,slQ 16 2 (wtN qf0 ql0 qs0).length),(63,slQ 16 2 (wtN qf0 ql0 qs0).length),(62,.func (.func 123) #[] #[.pointer (some ⟨10,0,none⟩),.pointer (some ⟨15,0,none⟩)]),(61,slQ 16 1 (opL ql0 qs0).length),(60,slQ 12 2 (opL ql0 qs0).length),(jj2n ql0 qs0 qf0),(50,nI (minL (jj3j qf0 qs0))),jj31,(58,nI (ql0.getD (askN ql0 qs0).toNat zeroQ).at_),(jj3n ql0 qs0),(jj3y ql0 qs0),(55,nI (askN ql0 qs0)),(54,slQ 2 2 ql0.length),jj41,jj42,jj43,(jj3o qf0),jj44,jj45,jj46,(9,nI (askN ql0 qs0)),(45,nI (askN ql0 qs0)),(44,.func (.func 120) #[.pointer (some ⟨9,0,none⟩)] #[]),jj47,(42,slQ 12 2 (opL ql0 qs0).length),(41,.bool true),(40,nI (((opL ql0 qs0).length : Nat) : Int)),(39,slQ 12 2 (opL ql0 qs0).length),(5,slQ 14 1 qs0.length),(6,slQ 12 2 (opL ql0 qs0).length),jj33,jj2j,jj2i,(jj2r ql0)])]) (fun n_2 => (n_2 <= List.length qf0.b)) (fun n_2 => (List.length qf0.b - n_2)) (fun n_2 => .go 0 (.fork (.go 0 (.need (.val (nI ((jj3j qf0 qs0).getD n_2 0)) (.go 5 (.gfork (.go 1 (.into (some [28,31]) (jj1u n_2 qf0 ql0 qs0 qp0))) (jj3p n_2)))))) (.keep (.go 4 (.into (some [7,8]) (.go 5 (.need (.val (jj27 ql0 qf0 qp0 qs0) (.go 15 (.need (.val (nI ((jj2e qf0 ql0 qs0).getD (jj2z qf0 ql0 qs0 qp0 n_2).toNat 0)) (.need (.val (jj4b qf0 ql0 qs0 qp0 n_2) (.go 1 (.need (.val (nI ((jj1y qf0 ql0 qs0 qp0 n_2).getD (jj2l ql0 qf0 qp0 qs0) 0)) (.go 0 (.slot 40 (nI ((hrN qf0 ql0 qs0) + ((jj1y qf0 ql0 qs0 qp0 n_2).getD (jj2l ql0 qf0 qp0 qs0) 0))) (.go 7 (.slot 46 (jj3k qf0 ql0 qs0 qp0 n_2) (.bind Int (fun i_3 => .slot 46 (nI i_3) (.go 15 (.need (.need (.need (.need (.go 1 (.keep (.go 0 (.need (.go 2 (.answ [(jj3g ql0 qs0),(17,.cells true 0 [nI (bstN qf0 qp0 ql0 qs0)])] (slQ 12 2 (jj28 ql0 qs0 qf0 qp0).length) [(12,.cells true 1 ((jj2d ql0 qs0 qf0 qp0).flatMap intC))] [] (.go 3 (.inv 3 (Nat) (0) [] [10,11,17,13] (fun n_4 => [(156,nI (n_4 : Int)),(jj2r ql0),jj2i,jj2j,jj33,(9,nI (askN ql0 qs0)),jj31,(11,slQ 16 2 (wtN qf0 ql0 qs0).length),jj30,jj2w,(69,nI 3),(70,nI 1),(14,.pointer (some ⟨26,0,none⟩)),(15,slQ 27 2 (smN qf0 qp0 ql0 qs0 1).length),(16,.pointer (some ⟨28,0,none⟩)),(87,.func (.func 163) #[] #[.pointer (some ⟨29,0,none⟩),.pointer (some ⟨30,0,none⟩)]),(5,.slice (some ⟨36,0,none⟩) (qs0.length + 1) (qs0.length + 1)),(6,slQ 12 2 (jj28 ql0 qs0 qf0 qp0).length),(154,slQ 12 2 (jj28 ql0 qs0 qf0 qp0).length),(155,nI (((jj28 ql0 qs0 qf0 qp0).length : Nat) : Int))]) (fun n_4 => (jj2o qp0 qf0 ql0 qs0 n_4)) (fun n_4 => []) (fun n_4 => []) (fun n_4 => (n_4 <= List.length (jj28 ql0 qs0 qf0 qp0))) (fun n_4 => (List.length (jj28 ql0 qs0 qf0 qp0) - n_4)) (fun n_4 => .go 0 (.fork (jj1w ql0 qs0 qf0 qp0 n_4 n_2 i_3) (.again [(14,36)])))))))))))))))))))))))))))))))))))))))))))) (.go 8 (.ans (jj4k qf0 ql0 qs0) (slQ 29 1 (wtN qf0 ql0 qs0).length) [.cells true 1 ((wtN qf0 ql0 qs0).flatMap intC)] (.go 0 (.answ [(29,.cells true 1 ((wtN qf0 ql0 qs0).flatMap intC)),(jj35 qf0),(jj2v qf0),(jj32 ql0),(jj2h qf0 qs0),(jj2y qf0 ql0 qs0),(jj3i qf0 ql0),jj38,(jj3m qf0 ql0 qs0),(jj3r qp0),(jj2x ql0 qs0),(jj2k ql0),(jj4d qf0 ql0 qs0),jj2c,jj3b,jj3a] (slQ 29 2 (smN qf0 qp0 ql0 qs0 2).length) [(29,.cells true 1 ((smB qf0 qp0 ql0 qs0 2).flatMap intC))] [] (.go 3 (.slot 80 (.bool true) (.go 2 (.ans [(29,.cells true 1 ((smB qf0 qp0 ql0 qs0 2).flatMap intC)),(jj35 qf0),(jj2v qf0),(jj32 ql0),(jj2h qf0 qs0),(jj2y qf0 ql0 qs0),(jj3i qf0 ql0),jj38,(jj3m qf0 ql0 qs0),(jj3r qp0),(jj2x ql0 qs0),(jj2k ql0),(jj4d qf0 ql0 qs0),jj2c,jj3b,jj3a] (nI (bstN qf0 qp0 ql0 qs0)) [] (.go 10 (.into (some [10,11,7,8,13,12,14,15,16,17,18,19,20,21,22,23,24,25,26,27,28,29,30,31,32]) (.go 5 (.inv 3 (Nat) (0) [] [30,33] (fun n_2 => [(11,nI (n_2 : Int)),(2,.pointer (some ⟨32,0,none⟩)),(0,.func (.yield 33) #[] #[]),(jj3s qf0),(10,nI (jj2m qf0))]) (fun n_2 => [(30,true,.cells true 0 [nI (jj2z qf0 ql0 qs0 qp0 n_2)])]) (fun n_2 => []) (fun n_2 => [(33,[(87,.func (.func 163) #[] #[.pointer (some ⟨31,0,none⟩),.pointer (some ⟨32,0,none⟩)]),(86,nI (hrN qf0 ql0 qs0)),jj3z,(16,.pointer (some ⟨30,0,none⟩)),(83,nI (bstN qf0 qp0 ql0 qs0)),(82,.func (.func 126) #[] #[.pointer (some ⟨28,0,none⟩),.pointer (some ⟨10,0,none⟩)]),(81,slQ 29 2 (smN qf0 qp0 ql0 qs0 2).length),(80,.bool true),(79,nI (((smN qf0 qp0 ql0 qs0 2).length : Nat) : Int)),(78,slQ 29 2 (smN qf0 qp0 ql0 qs0 2).length),(15,slQ 29 2 (smN qf0 qp0 ql0 qs0 2).length),(77,slQ 29 2 (smN qf0 qp0 ql0 qs0 2).length),(76,.func (.func 125) #[] #[.pointer (some ⟨28,0,none⟩)]),(75,slQ 29 1 (wtN qf0 ql0 qs0).length),(74,slQ 16 2 (wtN qf0 ql0 qs0).length),(14,.pointer (some ⟨28,0,none⟩)),(73,.agg #[.func (.func 161) #[] #[],.func (.func 162) #[] #[.pointer (some ⟨18,0,none⟩)]]),(72,.pointer (some ⟨23,4,none⟩)),(71,.bool true),(70,nI 2),(84,nI 2),(69,nI 3),jj2w,(67,nI (hrN qf0 ql0 qs0)),(jj3w ql0),(jj3c qp0),jj40,jj30,(11,slQ 16 2 (wtN qf0 ql0 qs0).length),(63,slQ 16 2 (wtN qf0 ql0 qs0).length),(62,.func (.func 123) #[] #[.pointer (some ⟨10,0,none⟩),.pointer (some ⟨15,0,none⟩)]),(61,slQ 16 1 (opL ql0 qs0).length),(60,slQ 12 2 (opL ql0 qs0).length),(jj2n ql0 qs0 qf0),(50,nI (minL (jj3j qf0 qs0))),jj31,(58,nI (ql0.getD (askN ql0 qs0).toNat zeroQ).at_),(jj3n ql0 qs0),(jj3y ql0 qs0),(55,nI (askN ql0 qs0)),(54,slQ 2 2 ql0.length),jj41,jj42,jj43,(jj3o qf0),jj44,jj45,jj46,(9,nI (askN ql0 qs0)),(45,nI (askN ql0 qs0)),(44,.func (.func 120) #[.pointer (some ⟨9,0,none⟩)] #[]),jj47,(42,slQ 12 2 (opL ql0 qs0).length),(41,.bool true),(40,nI (((opL ql0 qs0).length : Nat) : Int)),(39,slQ 12 2 (opL ql0 qs0).length),(5,slQ 14 1 qs0.length),(6,slQ 12 2 (opL ql0 qs0).length),jj33,jj2j,jj2i,(jj2r ql0)])]) (fun n_2 => (n_2 <= List.length qf0.b)) (fun n_2 => (List.length qf0.b - n_2)) (fun n_2 => .go 0 (.fork (.go 0 (.need (.val (nI ((jj3j qf0 qs0).getD n_2 0)) (.go 5 (.gfork (.go 1 (.into (some [30,33]) (jj1u n_2 qf0 ql0 qs0 qp0))) (jj3p n_2)))))) (.keep (.go 4 (.into (some [7,8]) (.go 5 (.need (.val (jj27 ql0 qf0 qp0 qs0) (.go 15 (.need (.val (nI ((jj2e qf0 ql0 qs0).getD (jj2z qf0 ql0 qs0 qp0 n_2).toNat 0)) (.need (.val (jj4b qf0 ql0 qs0 qp0 n_2) (.go 1 (.need (.val (nI ((jj1y qf0 ql0 qs0 qp0 n_2).getD (jj2l ql0 qf0 qp0 qs0) 0)) (.go 0 (.slot 40 (nI ((hrN qf0 ql0 qs0) + ((jj1y qf0 ql0 qs0 qp0 n_2).getD (jj2l ql0 qf0 qp0 qs0) 0))) (.go 7 (.slot 46 (jj3k qf0 ql0 qs0 qp0 n_2) (.bind Int (fun i_3 => .slot 46 (nI i_3) (.go 15 (.need (.need (.need (.need (.go 1 (.keep (.go 0 (.need (.go 2 (.answ [(jj3g ql0 qs0),(17,.cells true 0 [nI (bstN qf0 qp0 ql0 qs0)])] (slQ 12 2 (jj28 ql0 qs0 qf0 qp0).length) [(12,.cells true 1 ((jj2d ql0 qs0 qf0 qp0).flatMap intC))] [] (.go 3 (.inv 3 (Nat) (0) [] [10,11,17,13] (fun n_4 => [(156,nI (n_4 : Int)),(jj2r ql0),jj2i,jj2j,jj33,(9,nI (askN ql0 qs0)),jj31,(11,slQ 16 2 (wtN qf0 ql0 qs0).length),jj30,jj2w,(69,nI 3),(70,nI 2),(14,.pointer (some ⟨28,0,none⟩)),(15,slQ 29 2 (smN qf0 qp0 ql0 qs0 2).length),(16,.pointer (some ⟨30,0,none⟩)),(87,.func (.func 163) #[] #[.pointer (some ⟨31,0,none⟩),.pointer (some ⟨32,0,none⟩)]),(5,.slice (some ⟨38,0,none⟩) (qs0.length + 1) (qs0.length + 1)),(6,slQ 12 2 (jj28 ql0 qs0 qf0 qp0).length),(154,slQ 12 2 (jj28 ql0 qs0 qf0 qp0).length),(155,nI (((jj28 ql0 qs0 qf0 qp0).length : Nat) : Int))]) (fun n_4 => (jj2o qp0 qf0 ql0 qs0 n_4)) (fun n_4 => []) (fun n_4 => []) (fun n_4 => (n_4 <= List.length (jj28 ql0 qs0 qf0 qp0))) (fun n_4 => (List.length (jj28 ql0 qs0 qf0 qp0) - n_4)) (fun n_4 => .go 0 (.fork (jj1w ql0 qs0 qf0 qp0 n_4 n_2 i_3) (.again [(14,38)])))))))))))))))))))))))))))))))))))))))))))))))))))))))))))))))))))))))))))
theorem ERun (f : Fleet) (p : Pol) (l : List Rq) : vF prog msk (dm 0) 100000 true 40 true 29 [.agg #[slQ 0 2 f.t.length,slQ 1 2 f.b.length],.agg #[nI p.ov,nI p.warn,nI p.w0,nI p.w1,nI p.w2],slQ 2 2 l.length] (readsT 0 [inL f.t,f.b.flatMap intC,l.flatMap rqC,l.flatMap rqC]) (some [])
 (.go 6 (.ans (jj4g f l) (nI (errAll f p l)) [] (.go 2 (.fork (.go 2 (.again [])) (.go 10 (.need (.go 1 (.ans [(1,.cells false 0 (jj3f f))] (slQ 8 1 f.b.length) [.cells true 1 (jj3f f)] (.go 2 (.into (some [7,8]) (.go 10 (.inv 3 (Nat) (0) [] [10,11] (fun n_0 => (jj4h n_0 l)) (fun n_0 => [(10,true,.cells true 0 jj1z),(jj1f p)]) (fun n_0 => [(true,.cells true 1 ((idxL n_0).flatMap intC))]) (fun n_0 => []) (fun n_0 => (n_0 <= List.length l)) (fun n_0 => (List.length l - n_0)) (fun n_0 => .go 0 (.fork (jj1s n_0) (.go 4 (.need (.go 0 (.inv 3 (List Sv) (jj2u) [] [10,11,7,8,13,12] (fun s_1 => (jj3l s_1 l)) (fun s_1 => (jj2s p f s_1 l)) (fun s_1 => [(true,.cells true 5 (s_1.flatMap svC))]) (fun s_1 => []) (fun s_1 => (RunI f p l s_1)) (fun s_1 => (List.length l - List.length s_1)) (fun s_1 => .go 2 (.fork (jj0 l s_1 f p) (.go 1 (.keep (.go 1 (.again [(4,14)]))))))))))))))))))))))))
 (newK ((readsT 0 [inL f.t,f.b.flatMap intC,l.flatMap rqC,l.flatMap rqC]) : HT).n 3 (.tuple #[slQ 4 2 (List.length (fRun f p l).1),nI (fRun f p l).2]) [(true,.cells true 5 (List.flatMap svC (fRun f p l).1))]) = RRun f p l:=by kernel_rfl
end
end Go.Proofs.YthdekmpkioikdaaGreat
/- Request: the program's own run of a policy takes the same decisions as the hours, one by one. Plain laws. No condition. -/
namespace Go.Proofs.YthdekmpkioikdaaGreat
set_option linter.unusedSimpArgs false
open Go Go.K
set_option linter.unusedVariables false
noncomputable section
theorem bef_iff (a b : Rq) : befB a b = true ↔ a.at_ < b.at_ ∨ (a.at_ = b.at_ /\ a.id < b.id) := by
 unfold befB
 simp only [Bool.or_eq_true, Bool.and_eq_true, decide_eq_true_eq]
theorem ahead_2 (a b : Rq) : aheadB 2 a b = true ↔ endV a < endV b ∨ (endV a = endV b /\ befB a b = true) := by
 unfold aheadB endV
 by_cases e : a.at_ + a.limit = b.at_ + b.limit
 ·rw [if_neg (fun h => h.2 e), if_neg (fun h => absurd h.1 (by decide))]
  exact ⟨fun h => .inr ⟨e, h⟩, fun h => h.elim (fun q => by omega) (fun q => q.2)⟩
 ·rw [if_pos ⟨rfl, e⟩, decide_eq_true_eq]
  exact ⟨fun h => .inl h, fun h => h.elim id (fun q => absurd q.1 e)⟩
theorem ahead_1 (a b : Rq) : aheadB 1 a b = true ↔ b.prio < a.prio ∨ (a.prio = b.prio /\ befB a b = true) := by
 unfold aheadB
 rw [if_neg (fun h => absurd h.1 (by decide))]
 by_cases e : a.prio = b.prio
 ·rw [if_neg (fun h => h.2 e)]
  exact ⟨fun h => .inr ⟨e, h⟩, fun h => h.elim (fun q => by omega) (fun q => q.2)⟩
 ·rw [if_pos ⟨rfl, e⟩, decide_eq_true_eq]
  exact ⟨fun h => .inl h, fun h => h.elim id (fun q => absurd q.1 e)⟩
theorem ahead_3 (a b : Rq) : aheadB 3 a b = true ↔ befB a b = true := by
 unfold aheadB
 rw [if_neg (fun h => absurd h.1 (by decide)), if_neg (fun h => absurd h.1 (by decide))]
theorem ahead_tr {c : Int} (hc : c = 1 ∨ c = 2 ∨ c = 3) {a b d : Rq} (h1 : aheadB c a b = true) (h2 : aheadB c b d = true) : aheadB c a d = true := by
 rcases hc with rfl | rfl | rfl
 ·rw [ahead_1, bef_iff] at *; omega
 ·rw [ahead_2, bef_iff] at *; omega
 ·rw [ahead_3, bef_iff] at *; omega
theorem ahead_ir {c : Int} (hc : c = 1 ∨ c = 2 ∨ c = 3) (a : Rq) : ¬ aheadB c a a = true := by
 rcases hc with rfl | rfl | rfl
 ·rw [ahead_1, bef_iff]; omega
 ·rw [ahead_2, bef_iff]; omega
 ·rw [ahead_3, bef_iff]; omega
theorem ahead_or {c : Int} (hc : c = 1 ∨ c = 2 ∨ c = 3) {a b : Rq} (h : a.id ≠ b.id) : aheadB c a b = true ∨ aheadB c b a = true := by
 rcases hc with rfl | rfl | rfl
 ·rw [ahead_1, ahead_1, bef_iff, bef_iff]; omega
 ·rw [ahead_2, ahead_2, bef_iff, bef_iff]; omega
 ·rw [ahead_3, ahead_3, bef_iff, bef_iff]; omega
theorem later_lt (a b : Rq) : laterV a b < 0 ↔ befB a b = true := by rw [<- laterV_neg, decide_eq_true_eq]
theorem cmp_0 (l : List Rq) (x y : Int) : cmpV l 0 x y < 0 ↔ aheadB 3 (rqAt l x) (rqAt l y) = true := by rw [ahead_3]; exact later_lt _ _
theorem cmp_1 (l : List Rq) (x y : Int) : cmpV l 1 x y < 0 ↔ aheadB 2 (rqAt l x) (rqAt l y) = true := by
 rw [ahead_2]
 show first2 (endV (rqAt l x) - endV (rqAt l y)) (laterV (rqAt l x) (rqAt l y)) < 0 ↔ _
 unfold first2
 split
 ·rw [later_lt]; exact ⟨fun h => .inr ⟨by omega, h⟩, fun h => h.elim (fun q => by omega) (fun q => q.2)⟩
 ·exact ⟨fun h => .inl (by omega), fun h => h.elim (fun q => by omega) (fun q => by omega)⟩
theorem cmp_2 (l : List Rq) (x y : Int) : cmpV l 2 x y < 0 ↔ aheadB 1 (rqAt l x) (rqAt l y) = true := by
 rw [ahead_1]
 show first2 ((rqAt l y).prio - (rqAt l x).prio) (laterV (rqAt l x) (rqAt l y)) < 0 ↔ _
 unfold first2
 split
 ·rw [later_lt]; exact ⟨fun h => .inr ⟨by omega, h⟩, fun h => h.elim (fun q => by omega) (fun q => q.2)⟩
 ·exact ⟨fun h => .inl (by omega), fun h => h.elim (fun q => by omega) (fun q => by omega)⟩
theorem bst_min {c : Int -> Int -> Int} (tr : ∀ x y z, c x y < 0 -> c y z < 0 -> c x z < 0) (ir : ∀ x, ¬ c x x < 0) (M : List Int) : ∀ (x i : Nat), i <= x -> ¬ c (M.getD i 0) (bstP c M x) < 0
 | 0, i, hi => by rw [show i = 0 by omega]; exact ir _
 | x + 1, i, hi => by
  by_cases h : c (M.getD (x + 1) 0) (bstP c M x) < 0
  ·rw [bst_1 h]
   by_cases e : i = x + 1
   ·rw [e]; exact ir _
   ·exact fun k => bst_min tr ir M x i (by omega) (tr _ _ _ k h)
  ·rw [bst_0 h]
   by_cases e : i = x + 1
   ·rw [e]; exact h
   ·exact bst_min tr ir M x i (by omega)
theorem classV_3 (p : Pol) (r : Rq) (t : Bool) (o h : Int) : classV p r t o h = 0 ∨ classV p r t o h = 1 ∨ classV p r t o h = 2 ∨ classV p r t o h = 3 := by
 unfold classV
 split
 ·omega
 ·split
  ·omega
  ·split <;> omega
theorem best_min (p : Pol) (l : List Rq) (h : List Sv) (hour : Int) : ∀ n : Nat, 0 < (bestTo p l h hour n).2 -> ∀ i, i < n -> clsAt p l h hour i = (bestTo p l h hour n).2 -> ¬ aheadB (bestTo p l h hour n).2 (l.getD i zeroQ) (rqAt l (bestTo p l h hour n).1) = true
 | 0, _, i, hi, _ => absurd hi (Nat.not_lt_zero _)
 | n + 1, hp, i, hi, hc => by
  have sp := best_spec p l h hour n
  have cn : clsAt p l h hour n = 0 ∨ clsAt p l h hour n = 1 ∨ clsAt p l h hour n = 2 ∨ clsAt p l h hour n = 3 := classV_3 ..
  by_cases k : (bestTo p l h hour n).2 < clsAt p l h hour n ∨ (0 < clsAt p l h hour n /\ clsAt p l h hour n = (bestTo p l h hour n).2 /\ aheadB (clsAt p l h hour n) (l.getD n zeroQ) (rqAt l (bestTo p l h hour n).1) = true)
  ·rw [best_1 k] at hp hc ⊢
   have hp : 0 < clsAt p l h hour n := hp
   have hc : clsAt p l h hour i = clsAt p l h hour n := hc
   have c3 : clsAt p l h hour n = 1 ∨ clsAt p l h hour n = 2 ∨ clsAt p l h hour n = 3 := by omega
   show ¬ aheadB (clsAt p l h hour n) (l.getD i zeroQ) (rqAt l (n : Int)) = true
   rw [show rqAt l (n : Int) = l.getD n zeroQ by unfold rqAt; rw [Int.toNat_natCast]]
   by_cases e : i = n
   ·rw [e]; exact ahead_ir c3 _
   ·rcases sp with ⟨_, s2⟩ | ⟨_, _, _, s4, s5⟩
    ·have := s2 i (by omega); omega
    ·have := s5 i (by omega)
     rcases k with k | ⟨_, k2, k3⟩
     ·omega
     ·intro q
      have ih := best_min p l h hour n s4 i (by omega) (by omega)
      rw [<- k2] at ih
      exact ih (ahead_tr c3 q k3)
  ·rw [best_0 k] at hp hc ⊢
   by_cases e : i = n
   ·rw [e] at hc ⊢
    rw [<- hc]
    exact fun q => k (.inr ⟨by omega, hc, q⟩)
   ·exact best_min p l h hour n hp i (by omega) hc
theorem mem_idx {n : Nat} {x : Int} : x ∈ idxL n ↔ 0 <= x /\ x < (n : Int) := by
 unfold idxL
 rw [List.mem_map]
 constructor
 ·rintro ⟨i, h1, rfl⟩
  have := List.mem_range.1 h1
  omega
 ·intro h
  exact ⟨Int.toNat x, List.mem_range.2 (by omega), by omega⟩
theorem idx_len (n : Nat) : (idxL n).length = n := by unfold idxL; rw [List.length_map, List.length_range]
theorem mem_op {l : List Rq} {h : List Sv} {x : Int} : x ∈ opL l h ↔ (0 <= x /\ x < (l.length : Int)) /\ h.any (isRq x) = false := by
 unfold opL
 rw [List.mem_filter, mem_idx]
 cases h.any (isRq x) <;> simp
theorem op_len {f : Fleet} {l : List Rq} {h : List Sv} (g : GoodH f l h) : (opL l h).length = l.length - h.length := by
 have e := met_count g h.length (Nat.le_refl _)
 rw [List.take_length] at e
 have : ∀ n, ((idxL n).filter fun i => !(h.any (isRq i))).length + crN (fun i : Nat => h.any (isRq (i : Int))) n = n := by
  intro n
  induction n with
  | zero => rfl
  | succ n ih =>
   have e1 : idxL (n + 1) = idxL n ++ [(n : Int)] := by unfold idxL; rw [List.range_succ, List.map_append]; rfl
   rw [e1, List.filter_append, List.length_append, crN_succ]
   cases c : h.any (isRq (n : Int)) with
   | true =>
    rw [List.filter_cons_of_neg (by rw [c]; decide)]
    show _ + 0 + (_ + 1) = _
    omega
   | false =>
    rw [List.filter_cons_of_pos (by rw [c]; rfl)]
    show _ + 1 + (_ + 0) = _
    omega
 have := this l.length
 show ((idxL l.length).filter fun i => !(h.any (isRq i))).length = _
 omega
theorem op_at {l : List Rq} {h : List Sv} {i : Nat} (hi : i < (opL l h).length) : (0 <= (opL l h).getD i 0 /\ (opL l h).getD i 0 < (l.length : Int)) /\ h.any (isRq ((opL l h).getD i 0)) = false := mem_op.1 (getD_mem hi)
theorem op_le (l : List Rq) (h : List Sv) : (opL l h).length <= l.length := Nat.le_trans (List.length_filter_le ..) (by rw [idx_len]; exact Nat.le_refl _)
theorem opB_len (l : List Rq) (h : List Sv) : (opB l h).length = l.length := by
 have := op_le l h
 unfold opB
 rw [List.length_append, List.length_replicate]; omega
theorem opB_at {l : List Rq} {h : List Sv} {i : Nat} (hi : i < (opL l h).length) : (opB l h).getD i 0 = (opL l h).getD i 0 := by
 unfold opB
 rw [List.getD_eq_getElem?_getD, List.getElem?_append_left hi, <- List.getD_eq_getElem?_getD]
theorem opB_take (l : List Rq) (h : List Sv) : (opB l h).take (opL l h).length = opL l h := List.take_left
theorem op_0 (l : List Rq) : opL l [] = idxL l.length := List.filter_eq_self.2 fun _ _ => rfl
theorem opB_0 (l : List Rq) : opB l [] = idxL l.length := by
 unfold opB
 rw [op_0, idx_len, Nat.sub_self, List.replicate_zero, List.append_nil]
theorem op_snoc (l : List Rq) (h : List Sv) (s : Sv) : (opL l h).filter (qNe s.rq) = opL l (h ++ [s]) := by
 unfold opL
 rw [List.filter_filter]
 congr 1
 funext x
 rw [List.any_append, List.any_cons, List.any_nil, Bool.or_false]
 show (!(x == s.rq) && !(h.any (isRq x))) = !(h.any (isRq x) || decide (s.rq = x))
 rw [Bool.not_or, Bool.and_comm, show (x == s.rq) = decide (s.rq = x) by
  by_cases e : x = s.rq
  ·subst e; rw [beq_self_eq_true, decide_eq_true rfl]
  ·rw [beq_eq_false_iff_ne.2 e, decide_eq_false (fun q => e q.symm)]]
theorem keep_op (l : List Rq) (h : List Sv) (s : Sv) : keepP (qNe s.rq) (opB l h) (opL l h).length = opL l (h ++ [s]) := by
 unfold keepP
 rw [opB_take, op_snoc]
theorem del_op (l : List Rq) (h : List Sv) (s : Sv) : delP (qNe s.rq) (opB l h) (opL l h).length = opB l (h ++ [s]) := by
 have h1 := op_le l h
 have h2 : (opL l (h ++ [s])).length <= (opL l h).length := by rw [<- op_snoc]; exact List.length_filter_le ..
 unfold delP
 rw [keep_op]
 unfold opB
 rw [List.drop_left, List.append_assoc, List.replicate_append_replicate]
 congr 2
 omega
theorem minTo_le (M : List Int) : ∀ (x i : Nat), i <= x -> minTo M x <= M.getD i 0
 | 0, i, hi => by rw [show i = 0 by omega]; exact Int.le_refl _
 | x + 1, i, hi => by
  show min (minTo M x) (M.getD (x + 1) 0) <= _
  by_cases e : i = x + 1
  ·rw [e]; omega
  ·have := minTo_le M x i (by omega); omega
theorem minTo_mem (M : List Int) : ∀ x : Nat, ∃ i, i <= x /\ minTo M x = M.getD i 0
 | 0 => ⟨0, Nat.le_refl _, rfl⟩
 | x + 1 => by
  obtain ⟨i, h1, h2⟩ := minTo_mem M x
  by_cases e : minTo M x <= M.getD (x + 1) 0
  ·exact ⟨i, by omega, by show min _ _ = _; omega⟩
  ·exact ⟨x + 1, Nat.le_refl _, by show min _ _ = _; omega⟩
theorem minL_le {M : List Int} {i : Nat} (hi : i < M.length) : minL M <= M.getD i 0 := minTo_le M _ i (by omega)
theorem minL_mem {M : List Int} (h : 0 < M.length) : ∃ i, i < M.length /\ minL M = M.getD i 0 := by
 obtain ⟨i, h1, h2⟩ := minTo_mem M (M.length - 1)
 exact ⟨i, by omega, h2⟩
theorem cmpL_tr (l : List Rq) : ∀ x y z, cmpL l x y < 0 -> cmpL l y z < 0 -> cmpL l x z < 0 := fun x y z h1 h2 => (cmp_0 l x z).2 (ahead_tr (by omega) ((cmp_0 l x y).1 h1) ((cmp_0 l y z).1 h2))
theorem cmpL_ir (l : List Rq) : ∀ x, ¬ cmpL l x x < 0 := fun x h => ahead_ir (by omega) _ ((cmp_0 l x x).1 h)
theorem ask_op {l : List Rq} {h : List Sv} (h0 : 0 < (opL l h).length) : askN l h ∈ opL l h /\ ∀ x ∈ opL l h, (rqAt l (askN l h)).at_ <= (rqAt l x).at_ := by
 obtain ⟨i, h1, h2⟩ := bst_mem (cmpL l) (opB l h) ((opL l h).length - 1)
 have h2 : askN l h = (opB l h).getD i 0 := h2
 refine ⟨by rw [h2, opB_at (by omega)]; exact getD_mem (by omega), fun x hx => ?_⟩
 obtain ⟨j, hj, ej⟩ := List.mem_iff_getElem?.1 hx |>.imp fun j e => (⟨(List.getElem?_eq_some_iff.1 e).1, by rw [List.getD_eq_getElem?_getD, e]; rfl⟩ : j < (opL l h).length /\ (opL l h).getD j 0 = x)
 have := bst_min (cmpL_tr l) (cmpL_ir l) (opB l h) ((opL l h).length - 1) j (by omega)
 rw [opB_at hj, ej] at this
 have this : ¬ laterV (rqAt l x) (rqAt l (askN l h)) < 0 := this
 rw [later_lt, bef_iff] at this
 omega
end
end Go.Proofs.YthdekmpkioikdaaGreat
/- Request: the program's decision is the next one of the policy. Plain laws. No condition. -/
namespace Go.Proofs.YthdekmpkioikdaaGreat
set_option linter.unusedSimpArgs false
open Go Go.K
set_option linter.unusedVariables false
noncomputable section
theorem rqAt_nat (l : List Rq) (i : Nat) : rqAt l (i : Int) = l.getD i zeroQ := by unfold rqAt; rw [Int.toNat_natCast]
theorem mem_keep {q : Int -> Bool} {M : List Int} {x : Int} : x ∈ keepP q M M.length ↔ x ∈ M /\ q x = true := by
 unfold keepP
 rw [List.take_length, List.mem_filter]
theorem mem_wt {f : Fleet} {l : List Rq} {h : List Sv} {x : Int} : x ∈ wtN f l h ↔ x ∈ opL l h /\ (rqAt l x).at_ <= hrN f l h := by
 unfold wtN
 rw [mem_keep]
 unfold qAt
 rw [decide_eq_true_eq]
theorem mem_sm {f : Fleet} {p : Pol} {l : List Rq} {h : List Sv} {X : Nat} {x : Int} : x ∈ smN f p l h X ↔ x ∈ wtN f l h /\ ofV p l (ovN l h h.length) (hrN f l h) X x = true := mem_keep
theorem hr_ask (f : Fleet) (l : List Rq) (h : List Sv) : (rqAt l (askN l h)).at_ <= hrN f l h := by unfold hrN; omega
theorem hr_min (f : Fleet) (l : List Rq) (h : List Sv) : minL (frH f h h.length) <= hrN f l h := by unfold hrN; omega
theorem wt_pos {f : Fleet} {l : List Rq} {h : List Sv} (h0 : 0 < (opL l h).length) : 0 < (wtN f l h).length :=
 List.length_pos_of_mem (mem_wt.2 ⟨(ask_op h0).1, hr_ask f l h⟩)
theorem cls_op {p : Pol} {l : List Rq} {h : List Sv} {hour : Int} {i : Nat} (hi : i < l.length) (ho : h.any (isRq (i : Int)) = false) (ha : (l.getD i zeroQ).at_ <= hour) :
  clsAt p l h hour i = if ofV p l (ovN l h h.length) hour 0 (i : Int) = true then 3 else if ofV p l (ovN l h h.length) hour 1 (i : Int) = true then 2 else 1 := by
 unfold clsAt classV
 rw [if_neg (fun k => k.elim (fun c => by rw [met_any hi, ho] at c; cases c) (fun c => by omega))]
 show _ = if decide (p.ov <= (ovN l h h.length).getD (Int.toNat (i : Int)) 0) = true then 3 else if (decide (0 < (rqAt l (i : Int)).limit) && decide ((rqAt l (i : Int)).at_ + (rqAt l (i : Int)).limit - hour <= p.warn)) = true then 2 else 1
 rw [rqAt_nat, Int.toNat_natCast]
 simp only [Bool.and_eq_true, decide_eq_true_eq]
theorem bst_rule {f : Fleet} {p : Pol} {l : List Rq} {h : List Sv} (ol : LsOk f.t.length l) {X : Nat} (hX : X <= 2) (hs : 0 < (smN f p l h X).length) (hn : ∀ Y, Y < X -> (smN f p l h Y).length = 0) :
  bstP (cmpV l X) (smB f p l h X) ((smN f p l h X).length - 1) = bstN f p l h /\ bstN f p l h ∈ opL l h /\ (rqAt l (bstN f p l h)).at_ <= hrN f l h := by
 obtain ⟨j, hj, ej⟩ := bst_mem (cmpV l X) (smB f p l h X) ((smN f p l h X).length - 1)
 generalize hb : bstP (cmpV l X) (smB f p l h X) ((smN f p l h X).length - 1) = b at *
 have hbs : b ∈ smN f p l h X := by
  rw [ej, show (smB f p l h X).getD j 0 = (smN f p l h X).getD j 0 from delP_at (show j < (smN f p l h X).length by omega)]
  exact getD_mem (by omega)
 have none0 : ∀ Y, Y < X -> ∀ x ∈ wtN f l h, ofV p l (ovN l h h.length) (hrN f l h) Y x = false := fun Y hY x hx => by
  cases e : ofV p l (ovN l h h.length) (hrN f l h) Y x with
  | false => rfl
  | true =>
   have := List.length_pos_of_mem (mem_sm.2 ⟨hx, e⟩)
   have := hn Y hY
   omega
 have cls : ∀ x ∈ wtN f l h, clsAt p l h (hrN f l h) (Int.toNat x) <= 3 - (X : Int) /\ (x ∈ smN f p l h X ↔ clsAt p l h (hrN f l h) (Int.toNat x) = 3 - (X : Int)) := fun x hx => by
  obtain ⟨h1, h2⟩ := mem_wt.1 hx
  obtain ⟨⟨h3, h4⟩, h5⟩ := mem_op.1 h1
  have hc := cls_op (p := p) (hour := hrN f l h) (show Int.toNat x < l.length by omega) (by rw [Int.toNat_of_nonneg h3]; exact h5) h2
  rw [Int.toNat_of_nonneg h3] at hc
  have m : x ∈ smN f p l h X ↔ ofV p l (ovN l h h.length) (hrN f l h) X x = true := ⟨fun q => (mem_sm.1 q).2, fun q => mem_sm.2 ⟨hx, q⟩⟩
  rw [m, hc]
  match X, hX, none0 with
  | 0, _, _ =>
   by_cases e : ofV p l (ovN l h h.length) (hrN f l h) 0 x = true
   ·rw [if_pos e]; exact ⟨by omega, ⟨fun _ => rfl, fun _ => e⟩⟩
   ·rw [if_neg e]; split <;> exact ⟨by omega, ⟨fun q => absurd q e, fun q => by omega⟩⟩
  | 1, _, n0 =>
   rw [if_neg (by rw [n0 0 (by omega) x hx]; decide)]
   by_cases e : ofV p l (ovN l h h.length) (hrN f l h) 1 x = true
   ·rw [if_pos e]; exact ⟨by omega, ⟨fun _ => rfl, fun _ => e⟩⟩
   ·rw [if_neg e]; exact ⟨by omega, ⟨fun q => absurd q e, fun q => by omega⟩⟩
  | 2, _, n0 =>
   rw [if_neg (by rw [n0 0 (by omega) x hx]; decide), if_neg (by rw [n0 1 (by omega) x hx]; decide)]
   exact ⟨by omega, ⟨fun _ => rfl, fun _ => rfl⟩⟩
  | X + 3, hX, _ => omega
 have hbw : b ∈ wtN f l h := (mem_sm.1 hbs).1
 obtain ⟨hbo, hba⟩ := mem_wt.1 hbw
 obtain ⟨⟨b1, b2⟩, b3⟩ := mem_op.1 hbo
 have hbc : clsAt p l h (hrN f l h) (Int.toNat b) = 3 - (X : Int) := (cls b hbw).2.1 hbs
 have sp := best_spec p l h (hrN f l h) l.length
 rcases sp with ⟨_, s2⟩ | ⟨s1, s2, s3, s4, s5⟩
 ·have := s2 (Int.toNat b) (by omega); omega
 have bm := best_min p l h (hrN f l h) l.length s4
 generalize hB : bestTo p l h (hrN f l h) l.length = B at *
 have hbst : bstN f p l h = B.1 := by show (bestTo p l h (hrN f l h) l.length).1 = _; rw [hB]
 have cB : 0 < clsAt p l h (hrN f l h) (Int.toNat B.1) := by rw [<- s3]; exact s4
 have fB := classV_free (show 0 < classV p _ _ _ _ from cB)
 rw [met_any (show Int.toNat B.1 < l.length by omega), Int.toNat_of_nonneg s1] at fB
 have hBo : B.1 ∈ opL l h := mem_op.2 ⟨⟨s1, s2⟩, fB.1⟩
 have hBw : B.1 ∈ wtN f l h := mem_wt.2 ⟨hBo, fB.2⟩
 have g1 := s5 (Int.toNat b) (by omega)
 have g2 := (cls B.1 hBw).1
 have hBc : B.2 = 3 - (X : Int) := by omega
 have hBs : B.1 ∈ smN f p l h X := (cls B.1 hBw).2.2 (by omega)
 have n1 := bm (Int.toNat b) (by omega) (by omega)
 have n1 : ¬ aheadB B.2 (rqAt l b) (rqAt l B.1) = true := n1
 have c3 : B.2 = 1 ∨ B.2 = 2 ∨ B.2 = 3 := by omega
 have cx : ∀ x y, cmpV l X x y < 0 ↔ aheadB B.2 (rqAt l x) (rqAt l y) = true := by
  match X, hX, hBc with
  | 0, _, e => rw [show B.2 = 3 by omega]; exact cmp_0 l
  | 1, _, e => rw [show B.2 = 2 by omega]; exact cmp_1 l
  | 2, _, e => rw [show B.2 = 1 by omega]; exact cmp_2 l
  | X + 3, hX, _ => omega
 have n2 : ¬ aheadB B.2 (rqAt l B.1) (rqAt l b) = true := by
  obtain ⟨k, hk, ek⟩ := List.mem_iff_getElem?.1 hBs |>.imp fun k e => (⟨(List.getElem?_eq_some_iff.1 e).1, by rw [List.getD_eq_getElem?_getD, e]; rfl⟩ : k < (smN f p l h X).length /\ (smN f p l h X).getD k 0 = B.1)
  have := bst_min (c := cmpV l X) (fun x y z a c => (cx x z).2 (ahead_tr c3 ((cx x y).1 a) ((cx y z).1 c))) (fun x a => ahead_ir c3 _ ((cx x x).1 a)) (smB f p l h X) ((smN f p l h X).length - 1) k (by omega)
  rw [hb, show (smB f p l h X).getD k 0 = (smN f p l h X).getD k 0 from delP_at hk, ek, cx] at this
  exact this
 have hid : b = B.1 := by
  have hi : ∀ i j : Nat, i < l.length -> j < l.length -> i ≠ j -> (l.getD i zeroQ).id ≠ (l.getD j zeroQ).id := fun i j h1 h2 h3 => by
   rcases Nat.lt_or_gt_of_ne h3 with q | q
   ·exact ol.ne j i h2 q
   ·exact fun e => ol.ne i j h1 q e.symm
  rcases Classical.em (Int.toNat b = Int.toNat B.1) with q | q
  ·omega
  ·have := hi (Int.toNat b) (Int.toNat B.1) (by omega) (by omega) q
   rcases ahead_or c3 (a := rqAt l b) (b := rqAt l B.1) this with k | k
   ·exact absurd k n1
   ·exact absurd k n2
 rw [hbst, <- hid]
 exact ⟨rfl, hbo, hba⟩
theorem by_free {f : Fleet} {p : Pol} {l : List Rq} {h : List Sv} (o : FlOk f) : 0 <= byAt f p l h (hrN f l h) /\ byAt f p l h (hrN f l h) < (f.b.length : Int) := by
 have hb := o.b1
 obtain ⟨i, h1, h2⟩ := minL_mem (M := frH f h h.length) (by rw [frH_len]; omega)
 rw [frH_len] at h1
 have hm := hr_min f l h
 rcases by_spec f l h (hrN f l h) (rqAt l (bestAt p l h (hrN f l h))).place f.b.length with ⟨_, b2⟩ | ⟨b1, b2, _⟩
 ·have := b2 i h1
  rw [brH_at h1] at this
  have this : hrN f l h < (frH f h h.length).getD i 0 := this
  omega
 ·exact ⟨b1, b2⟩
theorem dec_before {f : Fleet} {p : Pol} {l : List Rq} {h : List Sv} {hour : Int} (h0 : 0 < (opL l h).length) (hh : hour < hrN f l h) : decAt f p l h hour = none := by
 cases e : decAt f p l h hour with
 | none => rfl
 | some s =>
  obtain ⟨i, b, hi, hb, _, _, _, hm, hat, hfr⟩ := dec_some e
  have h1 := (ask_op h0).2 (i : Int) (mem_op.2 ⟨by omega, hm⟩)
  rw [rqAt_nat] at h1
  have h2 := minL_le (M := frH f h h.length) (i := b) (by rw [frH_len]; exact hb)
  rw [brH_at hb] at hfr
  have hfr : (frH f h h.length).getD b 0 <= hour := hfr
  unfold hrN at hh
  omega
theorem playI_to {f : Fleet} {p : Pol} {l : List Rq} {h : List Sv} (o : FlOk f) (ol : LsOk f.t.length l) (h0 : 0 < (opL l h).length) (hl : h.length < l.length) : ∀ (n hour : Nat), PlayI f p l hour h -> ((hour + n : Nat) : Int) <= hrN f l h -> PlayI f p l (hour + n) h
 | 0, hour, i, _ => i
 | n + 1, hour, i, hn => by
  have := playI_to o ol h0 hl n hour i (by omega)
  exact playI_next o ol this (fun _ => dec_before h0 (show ((hour + n : Nat) : Int) < hrN f l h by omega)) (.inl hl)
theorem run_dec {f : Fleet} {p : Pol} {l : List Rq} {h : List Sv} (o : FlOk f) (ol : LsOk f.t.length l) (i : RunI f p l h) (h0 : 0 < (opL l h).length) (hb : bstN f p l h ∈ opL l h) :
  ∃ hour : Nat, hrN f l h = (hour : Int) /\ h.length < l.length /\ PlayI f p l hour h /\ decAt f p l h (hrN f l h) = some (svN f p l h) /\ PlayI f p l hour (h ++ [svN f p l h]) := by
 obtain ⟨hour, pi, hle⟩ := i
 have hl : h.length < l.length := by have := op_len pi.good; omega
 have hle := hle hl
 have e : hrN f l h = ((hour + Int.toNat (hrN f l h - (hour : Int)) : Nat) : Int) := by omega
 have p2 := playI_to o ol h0 hl (Int.toNat (hrN f l h - (hour : Int))) hour pi (by omega)
 have hd : decAt f p l h (hrN f l h) = some (svN f p l h) := by
  have h1 := ((mem_op.1 hb).1).1
  have h2 := (by_free (p := p) (l := l) (h := h) o).1
  unfold decAt
  rw [if_neg (fun k => k.elim (fun c => by have h1 : 0 <= bestAt p l h (hrN f l h) := h1; omega) (fun c => by omega))]
  rfl
 exact ⟨_, e, hl, p2, hd, playI_dec o ol p2 hl (by rw [<- e]; exact hd)⟩
theorem hr_in {f : Fleet} {p : Pol} {l : List Rq} {h : List Sv} {hour : Nat} (ol : LsOk f.t.length l) (pi : PlayI f p l hour h) (hl : h.length < l.length) (e : hrN f l h = (hour : Int)) : 0 <= hrN f l h /\ hrN f l h <= 16000 := by
 have := pi.now hl
 have := ol.len
 omega
theorem run_next {f : Fleet} {p : Pol} {l : List Rq} {h : List Sv} (o : FlOk f) (ol : LsOk f.t.length l) (i : RunI f p l h) (h0 : 0 < (opL l h).length) (hb : bstN f p l h ∈ opL l h) : RunI f p l (h ++ [svN f p l h]) := by
 obtain ⟨hour, e, hl, pi, hd, p2⟩ := run_dec o ol i h0 hb
 refine ⟨hour, p2, fun hl2 => ?_⟩
 obtain ⟨a, b, ha, hb2, es, _, _, _, _, hfr⟩ := dec_some hd
 have g2 := op_len p2.good
 have q1 : minL (frH f h h.length) <= minL (frH f (h ++ [svN f p l h]) (h ++ [svN f p l h]).length) := by
  have hbl := o.b1
  obtain ⟨j, h1, h2⟩ := minL_mem (M := frH f (h ++ [svN f p l h]) (h ++ [svN f p l h]).length) (by rw [frH_len]; omega)
  rw [frH_len] at h1
  have h3 := minL_le (M := frH f h h.length) (i := j) (by rw [frH_len]; exact h1)
  rw [h2, List.length_append, show [svN f p l h].length = 1 from rfl, frH_snoc, getD_setN (by rw [frH_len]; exact h1)]
  split
  ·have hm := hr_min f l h
   have pin := plH_in o ol h h.length b hb2
   have tv := trav_in o (b := (rqAt l (a : Int)).place) pin
   have ql := (ol.ok a ha).len
   rw [<- rqAt_nat] at ql
   have : (svN f p l h).nd = hrN f l h + trav f ((plH f l h h.length).getD b 0) (rqAt l (a : Int)).place + (rqAt l (a : Int)).len := by
    rw [es]
    show hrN f l h + trav f ((brH f l h h.length).getD (Int.toNat (b : Int)) zeroB).at_ _ + _ = _
    rw [Int.toNat_natCast, brH_at hb2]
   omega
  ·exact h3
 have q2 : (rqAt l (askN l h)).at_ <= (rqAt l (askN l (h ++ [svN f p l h]))).at_ := by
  have m := (ask_op (l := l) (h := h ++ [svN f p l h]) (by omega)).1
  rw [<- op_snoc] at m
  exact (ask_op h0).2 _ (List.mem_filter.1 m).1
 rw [<- e]
 unfold hrN
 omega
theorem run_0 {f : Fleet} {p : Pol} {l : List Rq} (o : FlOk f) (ol : LsOk f.t.length l) : RunI f p l [] := by
 refine ⟨0, playI_0 ol.len, fun hl => ?_⟩
 have hm := hr_min f l []
 have hb := o.b1
 obtain ⟨i, h1, h2⟩ := minL_mem (M := frH f [] 0) (by rw [frH_len]; omega)
 rw [frH_len] at h1
 have : (frH f [] 0).getD i 0 = 0 := by
  show (List.replicate _ (0 : Int)).getD i 0 = 0
  rw [List.getD_eq_getElem?_getD, List.getElem?_replicate, if_pos h1]; rfl
 have hm : minL (frH f [] 0) <= hrN f l [] := hm
 omega
theorem run_end {f : Fleet} {p : Pol} {l : List Rq} {h : List Sv} (i : RunI f p l h) (h0 : ¬ 0 < (opL l h).length) : playF f p l = h := by
 obtain ⟨hour, pi, _⟩ := i
 have := op_len pi.good
 obtain ⟨m, _, e⟩ := pi.own
 rw [<- e]
 match m with
 | 0 => rfl
 | m + 1 => exact if_pos (by omega)
theorem ovQ_len (l : List Rq) (h : List Sv) (s : Sv) (x : Nat) : (ovQ l h s x).length = l.length := tabP_len ..
theorem ovQ_0 (l : List Rq) (h : List Sv) (s : Sv) : ovQ l h s 0 = ovN l h h.length := by
 refine list_ext 0 (by rw [ovQ_len, ovN_len]) fun j hj => ?_
 rw [ovQ_len] at hj
 unfold ovQ
 rw [tabP_get hj, if_neg (by rw [List.take_zero]; simp)]
theorem ovQ_all {l : List Rq} {h : List Sv} {s : Sv} : ovQ l h s (opL l (h ++ [s])).length = ovN l (h ++ [s]) (h ++ [s]).length := by
 have e : (h ++ [s]).length = h.length + 1 := by rw [List.length_append]; rfl
 refine list_ext 0 (by rw [ovQ_len, ovN_len]) fun j hj => ?_
 rw [ovQ_len] at hj
 unfold ovQ
 rw [tabP_get hj, List.take_length, e]
 split
 ·rfl
 ·rename_i k
  rw [ovN_new hj]
  have : (metH l.length (h ++ [s]) (h.length + 1)).getD j false = true := by
   rw [<- e, met_any hj]
   cases c : (h ++ [s]).any (isRq (j : Int)) with
   | true => rfl
   | false => exact absurd (List.contains_iff_mem.2 (mem_op.2 ⟨by omega, c⟩)) k
  rw [this]; simp
theorem op_nd (l : List Rq) (h : List Sv) : (opL l h).Nodup := by
 unfold opL idxL
 exact List.Nodup.sublist List.filter_sublist (List.Pairwise.map (fun (i : Nat) => (i : Int)) (fun a b (h : a ≠ b) => show (a : Int) ≠ (b : Int) by omega) List.nodup_range)
theorem ovQ_old {l : List Rq} {h : List Sv} {s : Sv} {x : Nat} (hx : x < (opL l (h ++ [s])).length) : (ovQ l h s x).getD (Int.toNat ((opL l (h ++ [s])).getD x 0)) 0 = (ovN l h h.length).getD (Int.toNat ((opL l (h ++ [s])).getD x 0)) 0 := by
 obtain ⟨⟨h1, h2⟩, _⟩ := op_at hx
 unfold ovQ
 rw [tabP_get (by omega), Int.toNat_of_nonneg h1, if_neg]
 intro k
 have nd := op_nd l (h ++ [s])
 rw [<- List.take_append_drop x (opL l (h ++ [s]))] at nd
 have dj := (List.nodup_append.1 nd).2.2
 have m1 := List.contains_iff_mem.1 k
 have m2 : (opL l (h ++ [s])).getD x 0 ∈ (opL l (h ++ [s])).drop x := by rw [drop_get hx]; exact List.mem_cons_self ..
 exact dj _ m1 _ m2 rfl
theorem ovQ_succ {l : List Rq} {h : List Sv} {s : Sv} {x : Nat} (hx : x < (opL l (h ++ [s])).length) :
  ovQ l h s (x + 1) = (ovQ l h s x).set (Int.toNat ((opL l (h ++ [s])).getD x 0)) ((ovN l (h ++ [s]) (h.length + 1)).getD (Int.toNat ((opL l (h ++ [s])).getD x 0)) 0) := by
 obtain ⟨⟨h1, h2⟩, _⟩ := op_at hx
 refine list_ext 0 (by rw [List.length_set, ovQ_len, ovQ_len]) fun j hj => ?_
 rw [ovQ_len] at hj
 rw [getD_setN (by rw [ovQ_len]; exact hj)]
 unfold ovQ
 rw [tabP_get hj, tabP_get hj, take_snoc (d := 0) hx]
 by_cases e : Int.toNat ((opL l (h ++ [s])).getD x 0) = j
 ·rw [if_pos e, if_pos (List.contains_iff_mem.2 (List.mem_append.2 (.inr (by rw [List.mem_singleton]; omega)))), e]
 ·rw [if_neg e]
  by_cases c : ((opL l (h ++ [s])).take x).contains (j : Int) = true
  ·rw [if_pos c, if_pos (List.contains_iff_mem.2 (List.mem_append.2 (.inl (List.contains_iff_mem.1 c))))]
  ·rw [if_neg c, if_neg]
   intro k
   rcases List.mem_append.1 (List.contains_iff_mem.1 k) with q | q
   ·exact c (List.contains_iff_mem.2 q)
   ·rw [List.mem_singleton] at q; omega
theorem ov_op {l : List Rq} {h : List Sv} {s : Sv} {x : Nat} (hx : x < (opL l (h ++ [s])).length) :
  (ovN l (h ++ [s]) (h.length + 1)).getD (Int.toNat ((opL l (h ++ [s])).getD x 0)) 0 = (ovN l h h.length).getD (Int.toNat ((opL l (h ++ [s])).getD x 0)) 0 + (if befB (rqAt l ((opL l (h ++ [s])).getD x 0)) (rqAt l s.rq) = true then 1 else 0) := by
 obtain ⟨⟨h1, h2⟩, h3⟩ := op_at hx
 have hj : Int.toNat ((opL l (h ++ [s])).getD x 0) < l.length := by omega
 rw [ovN_new hj]
 have e : (h ++ [s]).length = h.length + 1 := by rw [List.length_append]; rfl
 rw [<- e, met_any hj, Int.toNat_of_nonneg h1, h3]
 rfl
end
end Go.Proofs.YthdekmpkioikdaaGreat
