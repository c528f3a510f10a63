/- What is to be shown of functions. Printed by a program. No condition. -/
import Derived.Test.YthdekmpkioikdaaGreatGR18hxR22a
import Derived.Test.YthdekmpkioikdaaGreatGZ6xR19f
import Derived.Test.YthdekmpkioikdaaGreatGK27xR1g
import Derived.Test.YthdekmpkioikdaaGreatRows
import Derived.JoinedCond
import Derived.Test.YthdekmpkioikdaaGreatGR1xR7g
namespace Go.Proofs.YthdekmpkioikdaaGreat
set_option linter.unusedSimpArgs false
open Go Go.K
set_option maxRecDepth 100000
set_option maxHeartbeats 4000000
set_option linter.unusedVariables false
noncomputable section
abbrev jn1s (qf0 : Fleet):=someR (.cells false 0 (inL qf0.t))
abbrev jn15 (qf0 : Fleet):=qf0.b.flatMap intC
abbrev jn1w (qf0 : Fleet):=someR (.cells false 0 (jn15 qf0))
abbrev jn1g (ql0 : List Rq):=ql0.flatMap rqC
abbrev jn1y (ql0 : List Rq):=someR (.cells false 0 (jn1g ql0))
abbrev jnj (qf0 : Fleet) (ql0 : List Rq) : Prop:=(jn1s qf0) /\ (jn1w qf0) /\ (jn1y ql0) /\ True
abbrev jn1x (qf0 : Fleet) : KObj:=.cells false 0 (inL qf0.t)
abbrev jn21 (qf0 : Fleet) : KObj:=.cells false 0 (jn15 qf0)
abbrev jn23 (ql0 : List Rq) : KObj:=.cells false 0 (jn1g ql0)
abbrev jng (qh0 : Heap) (qf0 : Fleet) (ql0 : List Rq) : Prop:=qh0[0]? = some (jn1x qf0) /\ qh0[1]? = some (jn21 qf0) /\ qh0[2]? = some (jn23 ql0) /\ True
abbrev jn25 (H' : Heap):=Is (.bool true) H'
abbrev jnw (qv0 : Value) : Prop:=(True) /\ (∀ H' : Heap,H'.length = 6 -> (True) -> KCall prog 14 [] H' [] (jn25 H')) /\ (.bool true : Value) = qv0
abbrev jn14 (f : Fleet):=f.b.flatMap intC
abbrev jn2d (l : List Rq):=l.flatMap rqC
abbrev jn1v (qf0 : Fleet):=someR (.cells true 1 (inL qf0.t))
abbrev jn1z (qf0 : Fleet):=someR (.cells true 1 (jn15 qf0))
abbrev jn22 (ql0 : List Rq):=someR (.cells true 7 (jn1g ql0))
abbrev jnx (qf0 : Fleet) (ql0 : List Rq) : Prop:=(jn1v qf0) /\ (jn1z qf0) /\ (jn22 ql0) /\ True
abbrev jn20 (qf0 : Fleet) : KObj:=.cells true 1 (inL qf0.t)
abbrev jn24 (qf0 : Fleet) : KObj:=.cells true 1 (jn15 qf0)
abbrev jn27 (ql0 : List Rq) : KObj:=.cells true 7 (jn1g ql0)
abbrev jnu (qh0 : Heap) (qf0 : Fleet) (ql0 : List Rq) : Prop:=qh0[6]? = some (jn20 qf0) /\ qh0[7]? = some (jn24 qf0) /\ qh0[8]? = some (jn27 ql0) /\ True
abbrev jn28 (f : Fleet) (p : Pol) (l : List Rq) : List Value:=[.agg #[slQ 6 1 f.t.length,slQ 7 1 f.b.length],.agg #[nI p.ov,nI p.warn,nI p.w0,nI p.w1,nI p.w2],slQ 8 1 l.length]
abbrev jn29 (f : Fleet) (p : Pol) (l : List Rq) : List Value:=[.agg #[slQ 0 2 f.t.length,slQ 1 2 f.b.length],.agg #[nI p.ov,nI p.warn,nI p.w0,nI p.w1,nI p.w2],slQ 2 2 l.length]
abbrev jn19 : Value:=.bool false
abbrev jn2g (qf0 : Fleet) (qp0 : Pol) (ql0 : List Rq):=someR (.cells true 5 ((oH qf0 qp0 ql0).flatMap svC))
abbrev jnf (qf0 : Fleet) (qp0 : Pol) (ql0 : List Rq) : Prop:=(jn2g qf0 qp0 ql0) /\ (jn2g qf0 qp0 ql0) /\ True
abbrev jn1n (qf0 : Fleet) (qp0 : Pol) (ql0 : List Rq) : KObj:=.cells true 5 ((oH qf0 qp0 ql0).flatMap svC)
abbrev jn6 (qn0 : Nat) (qn1 : Nat) (qf0 : Fleet) (qp0 : Pol) (ql0 : List Rq) (qn2 : Nat) : Prop:=∀ H' : Heap,H'.length = qn0 -> (H'[qn1]? = some (jn1n qf0 qp0 ql0) /\ H'[11]? = some (jn1n qf0 qp0 ql0) /\ True) -> KCall prog 33 [slQ qn1 qn2 (oH qf0 qp0 ql0).length,slQ 11 2 (oH qf0 qp0 ql0).length] H' [] (jn25 H')
abbrev jny (qf0 : Fleet) (qp0 : Pol) (ql0 : List Rq) : Value:=nI (IntKind.wrap .i64 (Int.tdiv (((oH qf0 qp0 ql0).length : Nat) : Int) 2))
abbrev jn12 (f : Fleet) (p : Pol) (l : List Rq) : Int:=((oH f p l).length : Nat)
abbrev jn2c (f : Fleet) (p : Pol) (l : List Rq):=Int.tdiv (jn12 f p l) 2
abbrev jnz (qi0 : Int) (qs0 : List Sv) : Value:=nI (if (qi0 : Int) < ((qs0.length : Nat) : Int) then (qi0 : Int) else ((qs0.length : Nat) : Int))
abbrev jnv (qi0 : Int) (qs0 : List Sv) : Prop:=((false = false ∨ 0 = 0 ∨ 0 = 5) /\ qi0.toNat <= qs0.length) /\ ((0 : Int) <= qi0 /\ (qi0 : Int) <= ((qs0.length : Nat) : Int)) /\ (0 <= qi0.toNat)
abbrev jn1b : List Sv:=[]
abbrev jn26:=jn1b.flatMap svC
abbrev jn13 : KObj:=.cells true 5 jn26
abbrev jn1q (h : List Sv) : Prop:=(someR (.cells false 0 (h.flatMap svC))) /\ True
abbrev jn1u (qs0 : List Sv):=qs0.flatMap svC
abbrev jn9 (qn0 : Nat) (qs0 : List Sv) : Prop:=∀ H' : Heap,H'.length = qn0 -> (H'[3]? = some (.cells false 0 (jn1u qs0) : KObj) /\ True) -> KCall prog 34 [slQ 3 2 qs0.length] H' [] (Is (slQ qn0 1 qs0.length) (H' ++ [(.cells true 5 (jn1u qs0) : KObj)]))
abbrev jnd (qf0 : Fleet) (ql0 : List Rq) (qs0 : List Sv) : Prop:=(jn1v qf0) /\ (jn1z qf0) /\ (jn22 ql0) /\ (someR (.cells true 5 (jn1u qs0))) /\ True
abbrev jn2b (qf0 : Fleet) (qp0 : Pol) (ql0 : List Rq) (qs0 : List Sv) : Value:=.tuple #[nI (fAud qf0 qp0 ql0 qs0).1,nI (fAud qf0 qp0 ql0 qs0).2]
abbrev jn5 (qn0 : Nat) (qf0 : Fleet) (ql0 : List Rq) (qn1 : Nat) (qs0 : List Sv) (qp0 : Pol) : Prop:=∀ H' : Heap,H'.length = qn0 -> (H'[6]? = some (jn20 qf0) /\ H'[7]? = some (jn24 qf0) /\ H'[8]? = some (jn27 ql0) /\ H'[qn1]? = some (.cells true 5 (jn1u qs0) : KObj) /\ True) -> KCall prog 35 [.agg #[slQ 6 1 qf0.t.length,slQ 7 1 qf0.b.length],.agg #[nI qp0.ov,nI qp0.warn,nI qp0.w0,nI qp0.w1,nI qp0.w2],slQ 8 1 ql0.length,slQ qn1 1 qs0.length] H' [] (Is (jn2b qf0 qp0 ql0 qs0) H')
abbrev jnc (qf0 : Fleet) (ql0 : List Rq) (qs0 : List Sv) : Prop:=(jn1s qf0) /\ (jn1w qf0) /\ (jn1y ql0) /\ (someR (.cells false 0 (jn1u qs0))) /\ True
abbrev jn4 (qn0 : Nat) (qf0 : Fleet) (ql0 : List Rq) (qs0 : List Sv) (qp0 : Pol) : Prop:=∀ H' : Heap,H'.length = qn0 -> (H'[0]? = some (jn1x qf0) /\ H'[1]? = some (jn21 qf0) /\ H'[2]? = some (jn23 ql0) /\ H'[3]? = some (.cells false 0 (jn1u qs0) : KObj) /\ True) -> KCall prog 36 [.agg #[slQ 0 2 qf0.t.length,slQ 1 2 qf0.b.length],.agg #[nI qp0.ov,nI qp0.warn,nI qp0.w0,nI qp0.w1,nI qp0.w2],slQ 2 2 ql0.length,slQ 3 2 qs0.length] H' [] (Is (jn2b qf0 qp0 ql0 qs0) H')
abbrev jno (qf0 : Fleet) (qp0 : Pol) (ql0 : List Rq) (qs0 : List Sv) (qv0 : Value) : Prop:=(((fAud qf0 qp0 ql0 qs0).1 : Int) != (fAud qf0 qp0 ql0 qs0).1) = true -> jn19 = qv0
abbrev jnp (qf0 : Fleet) (qp0 : Pol) (ql0 : List Rq) (qs0 : List Sv) (qv0 : Value) : Prop:=(((fAud qf0 qp0 ql0 qs0).2 : Int) != (fAud qf0 qp0 ql0 qs0).2) = true -> jn19 = qv0
abbrev jni (qs0 : List Sv) : Prop:=(someR (.cells true 5 (jn1u qs0))) /\ (someR (.cells false 0 (jn1u qs0))) /\ True
abbrev jn8 (qn0 : Nat) (qn1 : Nat) (qs0 : List Sv) : Prop:=∀ H' : Heap,H'.length = qn0 -> (H'[qn1]? = some (.cells true 5 (jn1u qs0) : KObj) /\ H'[3]? = some (.cells false 0 (jn1u qs0) : KObj) /\ True) -> KCall prog 33 [slQ qn1 1 qs0.length,slQ 3 2 qs0.length] H' [] (jn25 H')
abbrev jn10 : KObj:=.cells true 5 jn26
abbrev jn1r (f : Fleet) (p : Pol) (l : List Rq) : Prop:=(someR (.cells true 5 ((oH f p l).flatMap svC))) /\ True
abbrev jn7 (qn0 : Nat) (qf0 : Fleet) (qp0 : Pol) (ql0 : List Rq) : Prop:=∀ H' : Heap,H'.length = qn0 -> (H'[11]? = some (jn1n qf0 qp0 ql0) /\ True) -> KCall prog 34 [slQ 11 2 (oH qf0 qp0 ql0).length] H' [] (Is (slQ qn0 1 (oH qf0 qp0 ql0).length) (H' ++ [(jn1n qf0 qp0 ql0)]))
abbrev jnb (qf0 : Fleet) (ql0 : List Rq) (qp0 : Pol) : Prop:=(jn1v qf0) /\ (jn1z qf0) /\ (jn22 ql0) /\ (jn2g qf0 qp0 ql0) /\ True
abbrev jn1d (qf0 : Fleet) (qp0 : Pol) (ql0 : List Rq) : Value:=.tuple #[nI (fAud qf0 qp0 ql0 (oH qf0 qp0 ql0)).1,nI (fAud qf0 qp0 ql0 (oH qf0 qp0 ql0)).2]
abbrev jn3 (qn0 : Nat) (qf0 : Fleet) (ql0 : List Rq) (qn1 : Nat) (qp0 : Pol) : Prop:=∀ H' : Heap,H'.length = qn0 -> (H'[6]? = some (jn20 qf0) /\ H'[7]? = some (jn24 qf0) /\ H'[8]? = some (jn27 ql0) /\ H'[qn1]? = some (jn1n qf0 qp0 ql0) /\ True) -> KCall prog 35 [.agg #[slQ 6 1 qf0.t.length,slQ 7 1 qf0.b.length],.agg #[nI qp0.ov,nI qp0.warn,nI qp0.w0,nI qp0.w1,nI qp0.w2],slQ 8 1 ql0.length,slQ qn1 1 (oH qf0 qp0 ql0).length] H' [] (Is (jn1d qf0 qp0 ql0) H')
abbrev jna (qf0 : Fleet) (ql0 : List Rq) (qp0 : Pol) : Prop:=(jn1s qf0) /\ (jn1w qf0) /\ (jn1y ql0) /\ (jn2g qf0 qp0 ql0) /\ True
abbrev jn2 (qn0 : Nat) (qf0 : Fleet) (ql0 : List Rq) (qp0 : Pol) : Prop:=∀ H' : Heap,H'.length = qn0 -> (H'[0]? = some (jn1x qf0) /\ H'[1]? = some (jn21 qf0) /\ H'[2]? = some (jn23 ql0) /\ H'[11]? = some (jn1n qf0 qp0 ql0) /\ True) -> KCall prog 36 [.agg #[slQ 0 2 qf0.t.length,slQ 1 2 qf0.b.length],.agg #[nI qp0.ov,nI qp0.warn,nI qp0.w0,nI qp0.w1,nI qp0.w2],slQ 2 2 ql0.length,slQ 11 2 (oH qf0 qp0 ql0).length] H' [] (Is (jn1d qf0 qp0 ql0) H')
abbrev jnk (qf0 : Fleet) (qp0 : Pol) (ql0 : List Rq) (qv0 : Value) : Prop:=(((fAud qf0 qp0 ql0 (oH qf0 qp0 ql0)).1 : Int) != (fAud qf0 qp0 ql0 (oH qf0 qp0 ql0)).1) = true -> jn19 = qv0
abbrev jn1m (f : Fleet) (p : Pol) (l : List Rq):=fAud f p l (oH f p l)
abbrev jnl (qf0 : Fleet) (qp0 : Pol) (ql0 : List Rq) (qv0 : Value) : Prop:=(((fAud qf0 qp0 ql0 (oH qf0 qp0 ql0)).2 : Int) != (fAud qf0 qp0 ql0 (oH qf0 qp0 ql0)).2) = true -> jn19 = qv0
abbrev jnm (qf0 : Fleet) (qp0 : Pol) (ql0 : List Rq) : Value:=.tuple #[nI (fAud qf0 qp0 ql0 jn1b).1,nI (fAud qf0 qp0 ql0 jn1b).2]
abbrev jn0 (qf0 : Fleet) (ql0 : List Rq) (qn0 : Nat) (qv0 : Value) : Prop:=((jn1v qf0) /\ (jn1z qf0) /\ (jn1s qf0) /\ (jn1w qf0) /\ (jn22 ql0) /\ (jn1y ql0) /\ True) /\ (∀ H' : Heap,H'.length = qn0 -> (H'[6]? = some (jn20 qf0) /\ H'[7]? = some (jn24 qf0) /\ H'[0]? = some (jn1x qf0) /\ H'[1]? = some (jn21 qf0) /\ H'[8]? = some (jn27 ql0) /\ H'[2]? = some (jn23 ql0) /\ True) -> KCall prog 25 [.agg #[slQ 6 1 qf0.t.length,slQ 7 1 qf0.b.length],.agg #[slQ 0 2 qf0.t.length,slQ 1 2 qf0.b.length],slQ 8 1 ql0.length,slQ 2 2 ql0.length] H' [] (jn25 H')) /\ ((True) /\ (∀ H' : Heap,H'.length = qn0 -> (True) -> KCall prog 14 [] H' [] (jn25 H')) /\ (.bool true : Value) = qv0)
abbrev jn2f : Prop:=0 <= 0 /\ 0 + 0 * 5 <= List.length ([] : List Value)
abbrev jn1k (i_3 : Int) (h : List Sv) : Prop:=(i_3.toNat <= i_3.toNat /\ 0 + i_3.toNat * 5 <= List.length (h.flatMap svC)) /\ ((((h.flatMap svC).drop 0).take (i_3.toNat * 5)) : List Value).all (fun v => one1 v) = true
abbrev jn1h (f : Fleet) (p : Pol) (l : List Rq) (h : List Sv) : KObj:=.cells true 5 ((pB f p l h).flatMap svC)
abbrev jn17 (f : Fleet) (p : Pol) (l : List Rq) (h : List Sv) : KObj:=.cells true 5 ((pB f p l h).flatMap svC)
abbrev jnr (qf0 : Fleet) (qp0 : Pol) (ql0 : List Rq) (qs0 : List Sv) : Value:=.tuple #[nI (fAud qf0 qp0 ql0 (pB qf0 qp0 ql0 qs0)).1,nI (fAud qf0 qp0 ql0 (pB qf0 qp0 ql0 qs0)).2]
abbrev jn16 (f : Fleet) (p : Pol) (l : List Rq) (h : List Sv) : KObj:=.cells true 5 ((pC f p l h).flatMap svC)
abbrev jn11 (f : Fleet) (p : Pol) (l : List Rq) (h : List Sv):=someR (.cells true 5 ((pC f p l h).flatMap svC))
abbrev jn2a (qf0 : Fleet) (qp0 : Pol) (ql0 : List Rq) (qs0 : List Sv) : KObj:=.cells true 5 ((pC qf0 qp0 ql0 qs0).flatMap svC)
abbrev jnt (qf0 : Fleet) (ql0 : List Rq) (qp0 : Pol) (qs0 : List Sv) : Prop:=(jn1v qf0) /\ (jn1z qf0) /\ (jn22 ql0) /\ (someR (jn2a qf0 qp0 ql0 qs0)) /\ True
abbrev jn1t (qf0 : Fleet) (qp0 : Pol) (ql0 : List Rq) (qs0 : List Sv) : Value:=.tuple #[nI (fAud qf0 qp0 ql0 (pC qf0 qp0 ql0 qs0)).1,nI (fAud qf0 qp0 ql0 (pC qf0 qp0 ql0 qs0)).2]
abbrev jne (qn0 : Nat) (qf0 : Fleet) (ql0 : List Rq) (qn1 : Nat) (qp0 : Pol) (qs0 : List Sv) : Prop:=∀ H' : Heap,H'.length = qn0 -> (H'[6]? = some (jn20 qf0) /\ H'[7]? = some (jn24 qf0) /\ H'[8]? = some (jn27 ql0) /\ H'[qn1]? = some (.cells true 5 ((pC qf0 qp0 ql0 qs0).flatMap svC) : KObj) /\ True) -> KCall prog 35 [.agg #[slQ 6 1 qf0.t.length,slQ 7 1 qf0.b.length],.agg #[nI qp0.ov,nI qp0.warn,nI qp0.w0,nI qp0.w1,nI qp0.w2],slQ 8 1 ql0.length,slQ qn1 1 (pC qf0 qp0 ql0 qs0).length] H' [] (Is (jn1t qf0 qp0 ql0 qs0) H')
abbrev jns (qf0 : Fleet) (ql0 : List Rq) (qp0 : Pol) (qs0 : List Sv) : Prop:=(jn1s qf0) /\ (jn1w qf0) /\ (jn1y ql0) /\ (someR (jn2a qf0 qp0 ql0 qs0)) /\ True
abbrev jnn (qh0 : Heap) (qf0 : Fleet) (ql0 : List Rq) (qn0 : Nat) (qp0 : Pol) (qs0 : List Sv) : Prop:=qh0[0]? = some (jn1x qf0) /\ qh0[1]? = some (jn21 qf0) /\ qh0[2]? = some (jn23 ql0) /\ qh0[qn0]? = some (.cells true 5 ((pC qf0 qp0 ql0 qs0).flatMap svC) : KObj) /\ True
abbrev jn1i (f : Fleet) (p : Pol) (l : List Rq) (h : List Sv):=fAud f p l (pC f p l h)
def RRunsLaw (sp : Value) (f : Fleet) (p : Pol) (l : List Rq) (h : List Sv) : Prop :=
 ((jnj f l) /\ (∀ H' : Heap,H'.length = 6 -> (jng H' f l) -> KCall prog 13 [.agg #[slQ 0 2 f.t.length,slQ 1 2 f.b.length],slQ 2 2 l.length] H' [] (Is (.bool (great f l)) H')) /\ (((great f l) = true -> (jnw sp)) /\ ((great f l) = false -> (((decide ((60 : Int) < ((h.length : Nat) : Int))) = true -> (jnw sp)) /\ ((decide ((60 : Int) < ((h.length : Nat) : Int))) = false -> (((someR (.cells false 0 (inL f.t))) /\ (someR (.cells false 0 (jn14 f))) /\ True) /\ (∀ H' : Heap,H'.length = 6 -> (H'[0]? = some (.cells false 0 (inL f.t) : KObj) /\ H'[1]? = some (.cells false 0 (jn14 f) : KObj) /\ True) -> KCall prog 15 [.agg #[slQ 0 2 f.t.length,slQ 1 2 f.b.length]] H' [] (Is (.agg #[slQ 6 1 f.t.length,slQ 7 1 f.b.length]) (H' ++ [(.cells true 1 (inL f.t) : KObj),(.cells true 1 (jn14 f) : KObj)]))) /\ (((someR (.cells false 0 (jn2d l))) /\ True) /\ (∀ H' : Heap,H'.length = 8 -> (H'[2]? = some (.cells false 0 (jn2d l) : KObj) /\ True) -> KCall prog 16 [slQ 2 2 l.length] H' [] (Is (slQ 8 1 l.length) (H' ++ [(.cells true 7 (jn2d l) : KObj)]))) /\ ((jnx f l) /\ (∀ H' : Heap,H'.length = 10 -> (jnu H' f l) -> KCall prog 30 (jn28 f p l) H' [] (Is (nI (errAll f p l)) H')) /\ ((jnj f l) /\ (∀ H' : Heap,H'.length = 10 -> (jng H' f l) -> KCall prog 31 (jn29 f p l) H' [] (Is (nI (errAll f p l)) H')) /\ (((((errAll f p l) : Int) != (errAll f p l)) = true -> jn19 = sp) /\ ((((errAll f p l) : Int) != (errAll f p l)) = false -> ((jnx f l) /\ (∀ H' : Heap,H'.length = 10 -> (jnu H' f l) -> KCall prog 29 (jn28 f p l) H' [] (Is (.tuple #[slQ 10 2 (oH f p l).length,nI (fRun f p l).2]) (H' ++ [(.cells true 5 ((oH f p l).flatMap svC) : KObj)]))) /\ ((jnj f l) /\ (∀ H' : Heap,H'.length = 11 -> (jng H' f l) -> KCall prog 32 (jn29 f p l) H' [] (Is (.tuple #[slQ 11 2 (oH f p l).length,nI (fRun f p l).2]) (H' ++ [(.cells true 5 ((oH f p l).flatMap svC) : KObj)]))) /\ ((jnf f p l) /\ (jn6 12 10 f p l 2) /\ (((((fRun f p l).2 : Int) != (fRun f p l).2) = true -> jn19 = sp) /\ ((((fRun f p l).2 : Int) != (fRun f p l).2) = false -> ((jny f p l) = nI (jn2c f p l) /\ (∃ i_0 : Int,(nI (jn2c f p l) : Value) = nI i_0 /\ ((((true = false ∨ 5 = 0 ∨ 5 = 5) /\ i_0.toNat <= (oH f p l).length) /\ ((0 : Int) <= i_0 /\ (i_0 : Int) <= (jn12 f p l)) /\ (0 <= i_0.toNat)) /\ ((slQ 11 2 (i_0.toNat - 0) : Value) = slQ 11 2 i_0.toNat /\ ((i_0.toNat = 0 -> (((0 + i_0.toNat) * 40 <= 2 ^ 44 /\ i_0.toNat = 0) /\ ((jny f p l) = nI (jn2c f p l) /\ (∃ i_1 : Int,(nI (jn2c f p l) : Value) = nI i_1 /\ ((nI (IntKind.wrap .i64 ((jn12 f p l) - i_1)) : Value) = nI ((jn12 f p l) - i_1) /\ (∃ i_2 : Int,(nI ((jn12 f p l) - i_1) : Value) = nI i_2 /\ (∃ i_3 : Int,(jnz i_2 h) = nI i_3 /\ ((jnv i_3 h) /\ ((slQ 3 2 (i_3.toNat - 0) : Value) = slQ 3 2 i_3.toNat /\ ((i_3.toNat = 0 -> (((0 + i_3.toNat) * 40 <= 2 ^ 44 /\ i_3.toNat = 0) /\ ((some (.cells true 5 [] : KObj) = some jn13) /\ ((jn1q h) /\ (jn9 14 h) /\ ((jnd f l h) /\ (jn5 15 f l 14 h p) /\ ((jnc f l h) /\ (jn4 15 f l h p) /\ ((jno f p l h sp) /\ ((((fAud f p l h).1 : Int) != (fAud f p l h).1) = false -> ((jnp f p l h sp) /\ ((((fAud f p l h).2 : Int) != (fAud f p l h).2) = false -> ((jni h) /\ (jn8 15 14 h) /\ ((someR jn10) /\ ((jn1r f p l) /\ (jn7 15 f p l) /\ ((jnb f l p) /\ (jn3 16 f l 15 p) /\ ((jna f l p) /\ (jn2 16 f l p) /\ ((jnk f p l sp) /\ ((((jn1m f p l).1 : Int) != (jn1m f p l).1) = false -> ((jnl f p l sp) /\ ((((jn1m f p l).2 : Int) != (jn1m f p l).2) = false -> ((jnf f p l) /\ (jn6 16 15 f p l 1) /\ ((someR jn10) /\ (((someR jn10) /\ True) /\ (∀ H' : Heap,H'.length = 16 -> (H'[12]? = some jn13 /\ True) -> KCall prog 34 [slQ 12 1 0] H' [] (Is (slQ 16 1 jn1b.length) (H' ++ [jn13]))) /\ (((someR (.cells true 1 (inL f.t))) /\ (someR (.cells true 1 (jn14 f))) /\ (someR (.cells true 7 (jn2d l))) /\ (someR jn10) /\ True) /\ (∀ H' : Heap,H'.length = 17 -> (H'[6]? = some (.cells true 1 (inL f.t) : KObj) /\ H'[7]? = some (.cells true 1 (jn14 f) : KObj) /\ H'[8]? = some (.cells true 7 (jn2d l) : KObj) /\ H'[16]? = some jn13 /\ True) -> KCall prog 35 [.agg #[slQ 6 1 f.t.length,slQ 7 1 f.b.length],.agg #[nI p.ov,nI p.warn,nI p.w0,nI p.w1,nI p.w2],slQ 8 1 l.length,slQ 16 1 jn1b.length] H' [] (Is (jnm f p l) H')) /\ (((someR (.cells false 0 (inL f.t))) /\ (someR (.cells false 0 (jn14 f))) /\ (someR (.cells false 0 (jn2d l))) /\ (someR jn10) /\ True) /\ (∀ H' : Heap,H'.length = 17 -> (H'[0]? = some (.cells false 0 (inL f.t) : KObj) /\ H'[1]? = some (.cells false 0 (jn14 f) : KObj) /\ H'[2]? = some (.cells false 0 (jn2d l) : KObj) /\ H'[12]? = some jn13 /\ True) -> KCall prog 36 [.agg #[slQ 0 2 f.t.length,slQ 1 2 f.b.length],.agg #[nI p.ov,nI p.warn,nI p.w0,nI p.w1,nI p.w2],slQ 2 2 l.length,slQ 12 1 0] H' [] (Is (jnm f p l) H')) /\ (((((fAud f p l jn1b).1 : Int) != (fAud f p l jn1b).1) = true -> jn19 = sp) /\ ((((fAud f p l jn1b).1 : Int) != (fAud f p l jn1b).1) = false -> (((((fAud f p l jn1b).2 : Int) != (fAud f p l jn1b).2) = true -> jn19 = sp) /\ ((((fAud f p l jn1b).2 : Int) != (fAud f p l jn1b).2) = false -> (((someR jn10) /\ (someR jn10) /\ True) /\ (∀ H' : Heap,H'.length = 17 -> (H'[16]? = some jn13 /\ H'[12]? = some jn13 /\ True) -> KCall prog 33 [slQ 16 1 jn1b.length,slQ 12 1 0] H' [] (jn25 H')) /\ ((someR jn10) /\ (jn0 f l 17 sp))))))))))))))))))))))))))))))) /\ (¬ (i_3.toNat = 0) -> (((0 + i_3.toNat) * 40 <= 2 ^ 44 /\ i_3.toNat ≠ 0 /\ jn2f /\ jn1k i_3 h) /\ true = true /\ ((some (.cells true 5 (((([] : List Value).drop 0).take (0 * 5)) ++ (((h.flatMap svC).drop 0).take (i_3.toNat * 5))) : KObj) = some (jn1h f p l h)) /\ ((jn1q h) /\ (jn9 15 h) /\ ((jnd f l h) /\ (jn5 16 f l 15 h p) /\ ((jnc f l h) /\ (jn4 16 f l h p) /\ ((jno f p l h sp) /\ ((((fAud f p l h).1 : Int) != (fAud f p l h).1) = false -> ((jnp f p l h sp) /\ ((((fAud f p l h).2 : Int) != (fAud f p l h).2) = false -> ((jni h) /\ (jn8 16 15 h) /\ ((someR (jn17 f p l h)) /\ ((jn1r f p l) /\ (jn7 16 f p l) /\ ((jnb f l p) /\ (jn3 17 f l 16 p) /\ ((jna f l p) /\ (jn2 17 f l p) /\ ((jnk f p l sp) /\ ((((jn1m f p l).1 : Int) != (jn1m f p l).1) = false -> ((jnl f p l sp) /\ ((((jn1m f p l).2 : Int) != (jn1m f p l).2) = false -> ((jnf f p l) /\ (jn6 17 16 f p l 1) /\ ((someR (jn17 f p l h)) /\ (((someR (jn17 f p l h)) /\ True) /\ (∀ H' : Heap,H'.length = 17 -> (H'[13]? = some (jn1h f p l h) /\ True) -> KCall prog 34 [.slice (some ⟨13,0,none⟩) (0 + i_3.toNat) (0 + i_3.toNat)] H' [] (Is (slQ 17 1 (pB f p l h).length) (H' ++ [(jn1h f p l h)]))) /\ (((someR (.cells true 1 (inL f.t))) /\ (someR (.cells true 1 (jn14 f))) /\ (someR (.cells true 7 (jn2d l))) /\ (someR (jn17 f p l h)) /\ True) /\ (∀ H' : Heap,H'.length = 18 -> (H'[6]? = some (.cells true 1 (inL f.t) : KObj) /\ H'[7]? = some (.cells true 1 (jn14 f) : KObj) /\ H'[8]? = some (.cells true 7 (jn2d l) : KObj) /\ H'[17]? = some (jn1h f p l h) /\ True) -> KCall prog 35 [.agg #[slQ 6 1 f.t.length,slQ 7 1 f.b.length],.agg #[nI p.ov,nI p.warn,nI p.w0,nI p.w1,nI p.w2],slQ 8 1 l.length,slQ 17 1 (pB f p l h).length] H' [] (Is (jnr f p l h) H')) /\ (((someR (.cells false 0 (inL f.t))) /\ (someR (.cells false 0 (jn14 f))) /\ (someR (.cells false 0 (jn2d l))) /\ (someR (jn17 f p l h)) /\ True) /\ (∀ H' : Heap,H'.length = 18 -> (H'[0]? = some (.cells false 0 (inL f.t) : KObj) /\ H'[1]? = some (.cells false 0 (jn14 f) : KObj) /\ H'[2]? = some (.cells false 0 (jn2d l) : KObj) /\ H'[13]? = some (jn1h f p l h) /\ True) -> KCall prog 36 [.agg #[slQ 0 2 f.t.length,slQ 1 2 f.b.length],.agg #[nI p.ov,nI p.warn,nI p.w0,nI p.w1,nI p.w2],slQ 2 2 l.length,.slice (some ⟨13,0,none⟩) (0 + i_3.toNat) (0 + i_3.toNat)] H' [] (Is (jnr f p l h) H')) /\ (((((fAud f p l (pB f p l h)).1 : Int) != (fAud f p l (pB f p l h)).1) = true -> jn19 = sp) /\ ((((fAud f p l (pB f p l h)).1 : Int) != (fAud f p l (pB f p l h)).1) = false -> (((((fAud f p l (pB f p l h)).2 : Int) != (fAud f p l (pB f p l h)).2) = true -> jn19 = sp) /\ ((((fAud f p l (pB f p l h)).2 : Int) != (fAud f p l (pB f p l h)).2) = false -> (((someR (jn17 f p l h)) /\ (someR (jn17 f p l h)) /\ True) /\ (∀ H' : Heap,H'.length = 18 -> (H'[17]? = some (jn1h f p l h) /\ H'[13]? = some (jn1h f p l h) /\ True) -> KCall prog 33 [slQ 17 1 (pB f p l h).length,.slice (some ⟨13,0,none⟩) (0 + i_3.toNat) (0 + i_3.toNat)] H' [] (jn25 H')) /\ ((someR (jn17 f p l h)) /\ (jn0 f l 18 sp))))))))))))))))))))))))))))))))))))))))) /\ (¬ (i_0.toNat = 0) -> (((0 + i_0.toNat) * 40 <= 2 ^ 44 /\ i_0.toNat ≠ 0 /\ jn2f /\ (i_0.toNat <= i_0.toNat /\ 0 + i_0.toNat * 5 <= List.length ((oH f p l).flatMap svC)) /\ (((((oH f p l).flatMap svC).drop 0).take (i_0.toNat * 5)) : List Value).all (fun v => one1 v) = true) /\ true = true /\ ((some (.cells true 5 (((([] : List Value).drop 0).take (0 * 5)) ++ ((((oH f p l).flatMap svC).drop 0).take (i_0.toNat * 5))) : KObj) = some (.cells true 5 ((pA f p l).flatMap svC) : KObj)) /\ ((jny f p l) = nI (jn2c f p l) /\ (∃ i_1 : Int,(nI (jn2c f p l) : Value) = nI i_1 /\ ((nI (IntKind.wrap .i64 ((jn12 f p l) - i_1)) : Value) = nI ((jn12 f p l) - i_1) /\ (∃ i_2 : Int,(nI ((jn12 f p l) - i_1) : Value) = nI i_2 /\ (∃ i_3 : Int,(jnz i_2 h) = nI i_3 /\ ((jnv i_3 h) /\ ((slQ 3 2 (i_3.toNat - 0) : Value) = slQ 3 2 i_3.toNat /\ ((i_3.toNat = 0 -> ((((0 + i_0.toNat) + i_3.toNat) * 40 <= 2 ^ 44 /\ i_3.toNat = 0) /\ ((some (.cells true 5 ((pA f p l).flatMap svC) : KObj) = some (jn16 f p l h)) /\ ((jn1q h) /\ (jn9 15 h) /\ ((jnd f l h) /\ (jn5 16 f l 15 h p) /\ ((jnc f l h) /\ (jn4 16 f l h p) /\ ((jno f p l h sp) /\ ((((fAud f p l h).1 : Int) != (fAud f p l h).1) = false -> ((jnp f p l h sp) /\ ((((fAud f p l h).2 : Int) != (fAud f p l h).2) = false -> ((jni h) /\ (jn8 16 15 h) /\ ((jn11 f p l h) /\ ((jn1r f p l) /\ (jn7 16 f p l) /\ ((jnb f l p) /\ (jn3 17 f l 16 p) /\ ((jna f l p) /\ (jn2 17 f l p) /\ ((jnk f p l sp) /\ ((((jn1m f p l).1 : Int) != (jn1m f p l).1) = false -> ((jnl f p l sp) /\ ((((jn1m f p l).2 : Int) != (jn1m f p l).2) = false -> ((jnf f p l) /\ (jn6 17 16 f p l 1) /\ ((jn11 f p l h) /\ (((jn11 f p l h) /\ True) /\ (∀ H' : Heap,H'.length = 17 -> (H'[13]? = some (jn16 f p l h) /\ True) -> KCall prog 34 [.slice (some ⟨13,0,none⟩) (0 + i_0.toNat) (0 + i_0.toNat)] H' [] (Is (slQ 17 1 (pC f p l h).length) (H' ++ [(jn16 f p l h)]))) /\ ((jnt f l p h) /\ (jne 18 f l 17 p h) /\ ((jns f l p h) /\ (∀ H' : Heap,H'.length = 18 -> (jnn H' f l 13 p h) -> KCall prog 36 [.agg #[slQ 0 2 f.t.length,slQ 1 2 f.b.length],.agg #[nI p.ov,nI p.warn,nI p.w0,nI p.w1,nI p.w2],slQ 2 2 l.length,.slice (some ⟨13,0,none⟩) (0 + i_0.toNat) (0 + i_0.toNat)] H' [] (Is (.tuple #[nI (jn1i f p l h).1,nI (jn1i f p l h).2]) H')) /\ (((((jn1i f p l h).1 : Int) != (jn1i f p l h).1) = true -> jn19 = sp) /\ ((((jn1i f p l h).1 : Int) != (jn1i f p l h).1) = false -> (((((jn1i f p l h).2 : Int) != (jn1i f p l h).2) = true -> jn19 = sp) /\ ((((jn1i f p l h).2 : Int) != (jn1i f p l h).2) = false -> (((jn11 f p l h) /\ (jn11 f p l h) /\ True) /\ (∀ H' : Heap,H'.length = 18 -> (H'[17]? = some (jn16 f p l h) /\ H'[13]? = some (jn16 f p l h) /\ True) -> KCall prog 33 [slQ 17 1 (pC f p l h).length,.slice (some ⟨13,0,none⟩) (0 + i_0.toNat) (0 + i_0.toNat)] H' [] (jn25 H')) /\ ((jn11 f p l h) /\ (jn0 f l 18 sp))))))))))))))))))))))))))))))) /\ (¬ (i_3.toNat = 0) -> ((((0 + i_0.toNat) + i_3.toNat) * 40 <= 2 ^ 44 /\ i_3.toNat ≠ 0 /\ ((0 + i_0.toNat) <= (0 + i_0.toNat) /\ 0 + (0 + i_0.toNat) * 5 <= List.length ((pA f p l).flatMap svC)) /\ jn1k i_3 h) /\ true = true /\ ((some (.cells true 5 (((((pA f p l).flatMap svC).drop 0).take ((0 + i_0.toNat) * 5)) ++ (((h.flatMap svC).drop 0).take (i_3.toNat * 5))) : KObj) = some (jn16 f p l h)) /\ ((jn1q h) /\ (jn9 16 h) /\ ((jnd f l h) /\ (jn5 17 f l 16 h p) /\ ((jnc f l h) /\ (jn4 17 f l h p) /\ ((jno f p l h sp) /\ ((((fAud f p l h).1 : Int) != (fAud f p l h).1) = false -> ((jnp f p l h sp) /\ ((((fAud f p l h).2 : Int) != (fAud f p l h).2) = false -> ((jni h) /\ (jn8 17 16 h) /\ ((jn11 f p l h) /\ ((jn1r f p l) /\ (jn7 17 f p l) /\ ((jnb f l p) /\ (jn3 18 f l 17 p) /\ ((jna f l p) /\ (jn2 18 f l p) /\ ((jnk f p l sp) /\ ((((jn1m f p l).1 : Int) != (jn1m f p l).1) = false -> ((jnl f p l sp) /\ ((((jn1m f p l).2 : Int) != (jn1m f p l).2) = false -> ((jnf f p l) /\ (jn6 18 17 f p l 1) /\ ((jn11 f p l h) /\ (((jn11 f p l h) /\ True) /\ (∀ H' : Heap,H'.length = 18 -> (H'[14]? = some (jn16 f p l h) /\ True) -> KCall prog 34 [.slice (some ⟨14,0,none⟩) ((0 + i_0.toNat) + i_3.toNat) ((0 + i_0.toNat) + i_3.toNat)] H' [] (Is (slQ 18 1 (pC f p l h).length) (H' ++ [(jn16 f p l h)]))) /\ ((jnt f l p h) /\ (jne 19 f l 18 p h) /\ ((jns f l p h) /\ (∀ H' : Heap,H'.length = 19 -> (jnn H' f l 14 p h) -> KCall prog 36 [.agg #[slQ 0 2 f.t.length,slQ 1 2 f.b.length],.agg #[nI p.ov,nI p.warn,nI p.w0,nI p.w1,nI p.w2],slQ 2 2 l.length,.slice (some ⟨14,0,none⟩) ((0 + i_0.toNat) + i_3.toNat) ((0 + i_0.toNat) + i_3.toNat)] H' [] (Is (.tuple #[nI (jn1i f p l h).1,nI (jn1i f p l h).2]) H')) /\ (((((jn1i f p l h).1 : Int) != (jn1i f p l h).1) = true -> jn19 = sp) /\ ((((jn1i f p l h).1 : Int) != (jn1i f p l h).1) = false -> (((((jn1i f p l h).2 : Int) != (jn1i f p l h).2) = true -> jn19 = sp) /\ ((((jn1i f p l h).2 : Int) != (jn1i f p l h).2) = false -> (((jn11 f p l h) /\ (jn11 f p l h) /\ True) /\ (∀ H' : Heap,H'.length = 19 -> (H'[18]? = some (jn16 f p l h) /\ H'[14]? = some (jn16 f p l h) /\ True) -> KCall prog 33 [slQ 18 1 (pC f p l h).length,.slice (some ⟨14,0,none⟩) ((0 + i_0.toNat) + i_3.toNat) ((0 + i_0.toNat) + i_3.toNat)] H' [] (jn25 H')) /\ ((jn11 f p l h) /\ (jn0 f l 19 sp)))))))))))))))))))))))))))))))))))))))))))))))))))))))))))))))
abbrev jn1c (f : Fleet) : Nat × KObj:=(0,.cells false 0 (inL f.t))
abbrev jn1e (f : Fleet) : Nat × KObj:=(1,.cells false 0 (jn14 f))
abbrev jn18 (l : List Rq) : Nat × KObj:=(2,.cells false 0 (jn2d l))
abbrev jn1l (f : Fleet) : Nat × KObj:=(6,.cells true 1 (inL f.t))
abbrev jn1o (f : Fleet) : Nat × KObj:=(7,.cells true 1 (jn14 f))
abbrev jn1f (l : List Rq) : Nat × KObj:=(8,.cells true 7 (jn2d l))
abbrev jn1j (f : Fleet) (p : Pol) (l : List Rq) : Nat × KObj:=(11,.cells true 5 ((oH f p l).flatMap svC))
abbrev jn1p (h : List Sv) : Nat × KObj:=(3,.cells false 0 (h.flatMap svC))
abbrev jn2e (f : Fleet) (p : Pol) (l : List Rq) (h : List Sv) : Value:=.tuple #[nI (fAud f p l h).1,nI (fAud f p l h).2]
abbrev jnq (qf0 : Fleet) (qp0 : Pol) (ql0 : List Rq) : Value:=.tuple #[nI (fAud qf0 qp0 ql0 (oH qf0 qp0 ql0)).1,nI (fAud qf0 qp0 ql0 (oH qf0 qp0 ql0)).2]
abbrev jn1a (qf0 : Fleet) (ql0 : List Rq) : Hint:=.ans [(6,.cells true 1 (inL qf0.t)),(7,.cells true 1 (jn15 qf0)),(0,.cells false 0 (inL qf0.t)),(1,.cells false 0 (jn15 qf0)),(8,.cells true 7 (jn1g ql0)),(2,.cells false 0 (jn1g ql0))] (.bool true) [] (.go 0 (.ans [] (.bool true) [] (.auto)))
abbrev jnh (qf0 : Fleet) (ql0 : List Rq) : Hint:=.go 5 (jn1a qf0 ql0)
abbrev jn1 (qn0 : Nat) (qf0 : Fleet) (qp0 : Pol) (ql0 : List Rq) (qs0 : List Sv) (qn1 : Nat) (qn2 : Nat) (qn3 : Nat) : Hint:=.go 2 (.obj qn0 (jn2a qf0 qp0 ql0 qs0) (.go 5 (.ans [(3,.cells false 0 (jn1u qs0))] (slQ qn1 1 qs0.length) [.cells true 5 (jn1u qs0)] (.go 4 (.ans [(6,.cells true 1 (inL qf0.t)),(7,.cells true 1 (jn15 qf0)),(8,.cells true 7 (jn1g ql0)),(qn1,.cells true 5 (jn1u qs0))] (jn2b qf0 qp0 ql0 qs0) [] (.go 8 (.ans [(0,.cells false 0 (inL qf0.t)),(1,.cells false 0 (jn15 qf0)),(2,.cells false 0 (jn1g ql0)),(3,.cells false 0 (jn1u qs0))] (jn2b qf0 qp0 ql0 qs0) [] (.go 8 (.gfork (.auto) (.go 4 (.gfork (.auto) (.go 1 (.ans [(qn1,.cells true 5 (jn1u qs0)),(3,.cells false 0 (jn1u qs0))] (.bool true) [] (.go 4 (.obj qn0 (jn2a qf0 qp0 ql0 qs0) (.go 5 (.ans [(11,.cells true 5 ((oH qf0 qp0 ql0).flatMap svC))] (slQ qn2 1 (oH qf0 qp0 ql0).length) [.cells true 5 ((oH qf0 qp0 ql0).flatMap svC)] (.go 4 (.ans [(6,.cells true 1 (inL qf0.t)),(7,.cells true 1 (jn15 qf0)),(8,.cells true 7 (jn1g ql0)),(qn2,.cells true 5 ((oH qf0 qp0 ql0).flatMap svC))] (jn1d qf0 qp0 ql0) [] (.go 8 (.ans [(0,.cells false 0 (inL qf0.t)),(1,.cells false 0 (jn15 qf0)),(2,.cells false 0 (jn1g ql0)),(11,.cells true 5 ((oH qf0 qp0 ql0).flatMap svC))] (jn1d qf0 qp0 ql0) [] (.go 8 (.gfork (.auto) (.go 4 (.gfork (.auto) (.go 1 (.ans [(qn2,.cells true 5 ((oH qf0 qp0 ql0).flatMap svC)),(11,.cells true 5 ((oH qf0 qp0 ql0).flatMap svC))] (.bool true) [] (.go 4 (.obj qn0 (jn2a qf0 qp0 ql0 qs0) (.go 5 (.ans [(qn0,.cells true 5 ((pC qf0 qp0 ql0 qs0).flatMap svC))] (slQ qn3 1 (pC qf0 qp0 ql0 qs0).length) [.cells true 5 ((pC qf0 qp0 ql0 qs0).flatMap svC)] (.go 4 (.ans [(6,.cells true 1 (inL qf0.t)),(7,.cells true 1 (jn15 qf0)),(8,.cells true 7 (jn1g ql0)),(qn3,.cells true 5 ((pC qf0 qp0 ql0 qs0).flatMap svC))] (jn1t qf0 qp0 ql0 qs0) [] (.go 8 (.ans [(0,.cells false 0 (inL qf0.t)),(1,.cells false 0 (jn15 qf0)),(2,.cells false 0 (jn1g ql0)),(qn0,.cells true 5 ((pC qf0 qp0 ql0 qs0).flatMap svC))] (jn1t qf0 qp0 ql0 qs0) [] (.go 8 (.gfork (.auto) (.go 4 (.gfork (.auto) (.go 1 (.ans [(qn3,.cells true 5 ((pC qf0 qp0 ql0 qs0).flatMap svC)),(qn0,.cells true 5 ((pC qf0 qp0 ql0 qs0).flatMap svC))] (.bool true) [] (.go 4 (.obj qn0 (jn2a qf0 qp0 ql0 qs0) (.go 5 (jn1a qf0 ql0)))))))))))))))))))))))))))))))))))))))))))))
theorem ERunsLaw (sp : Value) (f : Fleet) (p : Pol) (l : List Rq) (h : List Sv) : vF prog msk (dm 0) 100000 true 40 true 5 [.agg #[slQ 0 2 f.t.length,slQ 1 2 f.b.length],.agg #[nI p.ov,nI p.warn,nI p.w0,nI p.w1,nI p.w2],slQ 2 2 l.length,slQ 3 2 h.length] (readsT 0 [inL f.t,f.b.flatMap intC,l.flatMap rqC,h.flatMap svC]) (some [])
 (.go 4 (.ans [(jn1c f),(jn1e f),(jn18 l)] (.bool (great f l)) [] (.go 0 (.gfork (.go 1 (.ans [] (.bool true) [] (.auto))) (.go 3 (.fork (.ans [] (.bool true) [] (.auto)) (.go 0 (.ans [(jn1c f),(jn1e f)] (.agg #[slQ 6 1 f.t.length,slQ 7 1 f.b.length]) [.cells true 1 (inL f.t),.cells true 1 (jn14 f)] (.go 0 (.ans [(jn18 l)] (slQ 8 1 l.length) [.cells true 7 (jn2d l)] (.go 8 (.ans [(jn1l f),(jn1o f),(jn1f l)] (nI (errAll f p l)) [] (.ans [(jn1c f),(jn1e f),(jn18 l)] (nI (errAll f p l)) [] (.go 0 (.fork (.auto) (.go 2 (.ans [(jn1l f),(jn1o f),(jn1f l)] (.tuple #[slQ 10 2 (oH f p l).length,nI (fRun f p l).2]) [.cells true 5 ((oH f p l).flatMap svC)] (.go 7 (.ans [(jn1c f),(jn1e f),(jn18 l)] (.tuple #[slQ 11 2 (oH f p l).length,nI (fRun f p l).2]) [.cells true 5 ((oH f p l).flatMap svC)] (.go 6 (.ans [(10,.cells true 5 ((oH f p l).flatMap svC)),(jn1j f p l)] (.bool true) [] (.go 5 (.fork (.auto) (.go 4 (.slot 72 (nI (jn2c f p l)) (.bind Int (fun i_0 => .slot 72 (nI i_0) (.need (.slot 73 (slQ 11 2 i_0.toNat) (.cas (i_0.toNat = 0) (.val (.bool true) (.go 0 (.go 10 (.slot 85 (nI (jn2c f p l)) (.bind Int (fun i_1 => .slot 85 (nI i_1) (.go 0 (.slot 86 (nI ((jn12 f p l) - i_1)) (.bind Int (fun i_2 => .slot 86 (nI i_2) (.go 0 (.bind Int (fun i_3 => .slot 87 (nI i_3) (.need (.slot 88 (slQ 3 2 i_3.toNat) (.cas (i_3.toNat = 0) (.val (.bool true) (.go 2 (.obj 12 jn10 (.go 5 (.ans [(jn1p h)] (slQ 14 1 h.length) [.cells true 5 (h.flatMap svC)] (.go 4 (.ans [(jn1l f),(jn1o f),(jn1f l),(14,.cells true 5 (h.flatMap svC))] (jn2e f p l h) [] (.go 8 (.ans [(jn1c f),(jn1e f),(jn18 l),(jn1p h)] (jn2e f p l h) [] (.go 8 (.gfork (.auto) (.go 4 (.gfork (.auto) (.go 1 (.ans [(14,.cells true 5 (h.flatMap svC)),(jn1p h)] (.bool true) [] (.go 4 (.obj 12 jn10 (.go 5 (.ans [(jn1j f p l)] (slQ 15 1 (oH f p l).length) [.cells true 5 ((oH f p l).flatMap svC)] (.go 4 (.ans [(jn1l f),(jn1o f),(jn1f l),(15,.cells true 5 ((oH f p l).flatMap svC))] (jnq f p l) [] (.go 8 (.ans [(jn1c f),(jn1e f),(jn18 l),(jn1j f p l)] (jnq f p l) [] (.go 8 (.gfork (.auto) (.go 4 (.gfork (.auto) (.go 1 (.ans [(15,.cells true 5 ((oH f p l).flatMap svC)),(jn1j f p l)] (.bool true) [] (.go 4 (.obj 12 jn10 (.go 5 (.ans [(12,.cells true 5 jn26)] (slQ 16 1 jn1b.length) [.cells true 5 jn26] (.go 4 (.ans [(jn1l f),(jn1o f),(jn1f l),(16,.cells true 5 jn26)] (jnm f p l) [] (.go 8 (.ans [(jn1c f),(jn1e f),(jn18 l),(12,.cells true 5 jn26)] (jnm f p l) [] (.go 8 (.gfork (.auto) (.go 4 (.gfork (.auto) (.go 1 (.ans [(16,.cells true 5 jn26),(12,.cells true 5 jn26)] (.bool true) [] (.go 4 (.obj 12 jn10 (jnh f l)))))))))))))))))))))))))))))))))))))))))))))) (.need (.go 2 (.obj 13 (jn17 f p l h) (.go 5 (.ans [(jn1p h)] (slQ 15 1 h.length) [.cells true 5 (h.flatMap svC)] (.go 4 (.ans [(jn1l f),(jn1o f),(jn1f l),(15,.cells true 5 (h.flatMap svC))] (jn2e f p l h) [] (.go 8 (.ans [(jn1c f),(jn1e f),(jn18 l),(jn1p h)] (jn2e f p l h) [] (.go 8 (.gfork (.auto) (.go 4 (.gfork (.auto) (.go 1 (.ans [(15,.cells true 5 (h.flatMap svC)),(jn1p h)] (.bool true) [] (.go 4 (.obj 13 (jn17 f p l h) (.go 5 (.ans [(jn1j f p l)] (slQ 16 1 (oH f p l).length) [.cells true 5 ((oH f p l).flatMap svC)] (.go 4 (.ans [(jn1l f),(jn1o f),(jn1f l),(16,.cells true 5 ((oH f p l).flatMap svC))] (jnq f p l) [] (.go 8 (.ans [(jn1c f),(jn1e f),(jn18 l),(jn1j f p l)] (jnq f p l) [] (.go 8 (.gfork (.auto) (.go 4 (.gfork (.auto) (.go 1 (.ans [(16,.cells true 5 ((oH f p l).flatMap svC)),(jn1j f p l)] (.bool true) [] (.go 4 (.obj 13 (jn17 f p l h) (.go 5 (.ans [(13,.cells true 5 ((pB f p l h).flatMap svC))] (slQ 17 1 (pB f p l h).length) [.cells true 5 ((pB f p l h).flatMap svC)] (.go 4 (.ans [(jn1l f),(jn1o f),(jn1f l),(17,.cells true 5 ((pB f p l h).flatMap svC))] (jnr f p l h) [] (.go 8 (.ans [(jn1c f),(jn1e f),(jn18 l),(13,.cells true 5 ((pB f p l h).flatMap svC))] (jnr f p l h) [] (.go 8 (.gfork (.auto) (.go 4 (.gfork (.auto) (.go 1 (.ans [(17,.cells true 5 ((pB f p l h).flatMap svC)),(13,.cells true 5 ((pB f p l h).flatMap svC))] (.bool true) [] (.go 4 (.obj 13 (jn17 f p l h) (jnh f l)))))))))))))))))))))))))))))))))))))))))))))))))))))))))))))) (.need (.go 0 (.obj 13 (.cells true 5 ((pA f p l).flatMap svC)) (.go 10 (.slot 85 (nI (jn2c f p l)) (.bind Int (fun i_1 => .slot 85 (nI i_1) (.go 0 (.slot 86 (nI ((jn12 f p l) - i_1)) (.bind Int (fun i_2 => .slot 86 (nI i_2) (.go 0 (.bind Int (fun i_3 => .slot 87 (nI i_3) (.need (.slot 88 (slQ 3 2 i_3.toNat) (.cas (i_3.toNat = 0) (.val (.bool true) (jn1 13 f p l h 15 16 17)) (.need (jn1 14 f p l h 16 17 18)))))))))))))))))))))))))))))))))))))))))))))))))
 (fun v _ _ => v = sp) = RRunsLaw sp f p l h:=by kernel_rfl
end
end Go.Proofs.YthdekmpkioikdaaGreat
/- Request: RequestRuns. No condition. -/
namespace Go.Proofs.YthdekmpkioikdaaGreat
open Go Go.K
set_option maxRecDepth 100000
set_option linter.unusedVariables false
set_option linter.unusedSimpArgs false
noncomputable section
attribute [local irreducible] vF
theorem takeV (M : List Sv) (k : Nat) : (M.flatMap svC).take (k * 5) = (M.take k).flatMap svC := by
 induction M generalizing k with
 | nil => simp
 | cons a M ih =>
  cases k with
  | zero => simp
  | succ k => rw [List.flatMap_cons, List.take_succ_cons, List.flatMap_cons, <- ih, show (k + 1) * 5 = (svC a).length + k * 5 by rw [svC_len]; omega, List.take_append, List.take_of_length_le (by omega), Nat.add_sub_cancel_left]
set_option maxHeartbeats 4000000 in
theorem kRunsLaw (f : Fleet) (p : Pol) (l : List Rq) (h : List Sv) {H : Heap} {i0 i1 i2 i3 : Nat} {o0 o1 o2 o3 : Bool} {z0 z1 z2 z3 : Nat} (e0 : H[i0]? = some (.cells o0 z0 (inL f.t))) (e1 : H[i1]? = some (.cells o1 z1 (f.b.flatMap intC))) (e2 : H[i2]? = some (.cells o2 z2 (l.flatMap rqC))) (e3 : H[i3]? = some (.cells o3 z3 (h.flatMap svC))) :
  KCall prog 5 [fleetV f i0 i1, .agg ⟨polC p⟩, .slice (some ⟨i2, 0, some 2⟩) l.length l.length, .slice (some ⟨i3, 0, some 2⟩) h.length h.length] H [] (Is (.bool true) H) := by
 refine valRx (Eq.mpr (ERunsLaw _ f p l h) ?_) ⟨inL_b 0 _, plainIL 0 _, plainRQ 0 _, plainSV 0 _, trivial⟩ rfl (ids := [i0, i1, i2, i3]) ⟨⟨_, _, e0⟩, ⟨_, _, e1⟩, ⟨_, _, e2⟩, ⟨_, _, e3⟩, trivial⟩ rfl
 delta RRunsLaw jn1s jn15 jn1w jn1g jn1y jnj jn1x jn21 jn23 jng jn25 jnw jn14 jn2d jn1v jn1z jn22 jnx jn20 jn24 jn27 jnu jn28 jn29 jn19 jn2g jnf jn1n jn6 jny jn12 jn2c jnz jnv jn1b jn26 jn13 jn1q jn1u jn9 jnd jn2b jn5 jnc jn4 jno jnp jni jn8 jn10 jn1r jn7 jnb jn1d jn3 jna jn2 jnk jn1m jnl jnm jn0 jn2f jn1k jn1h jn17 jnr jn16 jn11 jn2a jnt jn1t jne jns jnn jn1i
 refine ⟨⟨rfl, rfl, rfl, trivial⟩, fun H' _ hd => kGreat f l hd.1 hd.2.1 hd.2.2.1, forkB (fun _ => ⟨trivial, fun H' _ _ => kAwake H', rfl⟩) (fun hg => forkD (fun _ => ⟨trivial, fun H' _ _ => kAwake H', rfl⟩) (fun h60 => ?_))⟩
 obtain ⟨g1, g2, g3, g4⟩ := great_bd hg
 have ht : f.t.length <= 4294967296 := by omega
 have hb : f.b.length <= 4294967296 := by omega
 have hl : l.length <= 4294967296 := by omega
 have hh : h.length <= 4294967296 := by omega
 have hs : shortI f.t := fun k hk => by have := g4 k hk; omega
 have ho := oH_len f p l
 have ho2 : (oH f p l).length <= 4294967296 := by omega
 have he : ([] : List Sv).length <= 4294967296 := Nat.zero_le _
 have hkd : Int.tdiv (((oH f p l).length : Nat) : Int) 2 = (((oH f p l).length / 2 : Nat) : Int) := (Int.ofNat_tdiv _ 2).symm
 rw [hkd]
 obtain ⟨K, hK⟩ : ∃ K, (oH f p l).length / 2 = K := ⟨_, rfl⟩
 obtain ⟨N, hN⟩ : ∃ N, min h.length ((oH f p l).length - (oH f p l).length / 2) = N := ⟨_, rfl⟩
 have lA : (pA f p l).length = K := by unfold pA; rw [List.length_take]; omega
 have lB : (pB f p l h).length = N := by unfold pB; rw [List.length_take]; omega
 have lC : (pC f p l h).length = K + N := by unfold pC; rw [List.length_append, lA, lB]
 have hB : (pB f p l h).length <= 4294967296 := by omega
 have hC : (pC f p l h).length <= 4294967296 := by omega
 rw [hK]
 refine ⟨⟨rfl, rfl, trivial⟩, fun H' hL hd => kFleet f ht hb hs hL hd.1 hd.2.1, ⟨rfl, trivial⟩, fun H' hL hd => kRequests l hl hL hd.1, ⟨rfl, rfl, rfl, trivial⟩, fun H' hL hd => KCall.wkA (kCheck f p l ht hb hs hd.1 hd.2.1 hd.2.2.1) (wks_cons wk_fleet (wks_cons (wk_refl _) (wks_cons wk_QR wks_nil))), ⟨rfl, rfl, rfl, trivial⟩, fun H' hL hd => krCheck f p l ht hb hs hd.1 hd.2.1 hd.2.2.1, forkF (bne_self_eq_false _) ?_⟩
 refine ⟨⟨rfl, rfl, rfl, trivial⟩, fun H' hL hd => KCall.wkA (kRun f p l ht hb hs hL hd.1 hd.2.1 hd.2.2.1) (wks_cons wk_fleet (wks_cons (wk_refl _) (wks_cons wk_QR wks_nil))), ⟨rfl, rfl, rfl, trivial⟩, fun H' hL hd => krRun f p l ht hb hs hL hd.1 hd.2.1 hd.2.2.1, ⟨rfl, rfl, trivial⟩, fun H' _ hd => kSame (oH f p l) ho2 hd.1 hd.2.1, forkF (bne_self_eq_false _) ?_⟩
 refine ⟨vI64 (by omega), ((K : Nat) : Int), rfl, ?_⟩
 rw [Int.toNat_natCast]
 refine ⟨⟨⟨.inr (.inr rfl), by omega⟩, ⟨by omega, by omega⟩, Nat.zero_le _⟩, rfl, fun m1 => ⟨⟨by omega, m1⟩, ?_⟩, fun m1 => ⟨⟨by omega, m1, ⟨Nat.le_refl _, Nat.zero_le _⟩, ⟨Nat.le_refl _, by rw [flat_len svC_len]; omega⟩, one1_take one1_V⟩, rfl, ?_⟩⟩
 ·refine ⟨vI64 (by omega), ((K : Nat) : Int), rfl, vI64 (by omega), _, rfl, ((N : Nat) : Int), congrArg nI (by split <;> omega), ?_⟩
  rw [Int.toNat_natCast]
  refine ⟨⟨⟨.inl rfl, by omega⟩, ⟨by omega, by omega⟩, Nat.zero_le _⟩, rfl, fun m2 => ?_, fun m2 => ?_⟩
  ·refine ⟨⟨by omega, m2⟩, ?_⟩
   refine ⟨rfl, ?_⟩
   refine ⟨⟨rfl, trivial⟩, fun H' hL hd => KCall.wkA (kServed h hh hL hd.1) (wks_cons (wk_refl _) wks_nil), ?_⟩
   refine ⟨⟨rfl, rfl, rfl, rfl, trivial⟩, fun H' hL hd => KCall.wkA (kAudit f p l h ht hb hs hh hd.1 hd.2.1 hd.2.2.1 hd.2.2.2.1) (wks_cons wk_fleet (wks_cons (wk_refl _) (wks_cons wk_QR (wks_cons wk_QR wks_nil)))), ⟨rfl, rfl, rfl, rfl, trivial⟩, fun H' hL hd => KCall.wkA (krAudit f p l h ht hb hs hh hd.1 hd.2.1 hd.2.2.1 hd.2.2.2.1) (wks_cons (wk_refl _) (wks_cons (wk_refl _) (wks_cons (wk_refl _) (wks_cons (wk_refl _) wks_nil)))), forkF (bne_self_eq_false _) (forkF (bne_self_eq_false _) ?_)⟩
   refine ⟨⟨rfl, rfl, trivial⟩, fun H' _ hd => KCall.wkA (kSame h hh hd.1 hd.2.1) (wks_cons wk_QR (wks_cons (wk_refl _) wks_nil)), ?_⟩
   refine ⟨rfl, ?_⟩
   refine ⟨⟨rfl, trivial⟩, fun H' hL hd => KCall.wkA (kServed (oH f p l) ho2 hL hd.1) (wks_cons (wk_refl _) wks_nil), ?_⟩
   refine ⟨⟨rfl, rfl, rfl, rfl, trivial⟩, fun H' hL hd => KCall.wkA (kAudit f p l (oH f p l) ht hb hs ho2 hd.1 hd.2.1 hd.2.2.1 hd.2.2.2.1) (wks_cons wk_fleet (wks_cons (wk_refl _) (wks_cons wk_QR (wks_cons wk_QR wks_nil)))), ⟨rfl, rfl, rfl, rfl, trivial⟩, fun H' hL hd => KCall.wkA (krAudit f p l (oH f p l) ht hb hs ho2 hd.1 hd.2.1 hd.2.2.1 hd.2.2.2.1) (wks_cons (wk_refl _) (wks_cons (wk_refl _) (wks_cons (wk_refl _) (wks_cons (wk_refl _) wks_nil)))), forkF (bne_self_eq_false _) (forkF (bne_self_eq_false _) ?_)⟩
   refine ⟨⟨rfl, rfl, trivial⟩, fun H' _ hd => KCall.wkA (kSame (oH f p l) ho2 hd.1 hd.2.1) (wks_cons wk_QR (wks_cons (wk_refl _) wks_nil)), ?_⟩
   refine ⟨rfl, ?_⟩
   refine ⟨⟨rfl, trivial⟩, fun H' hL hd => KCall.wkA (kServed ([] : List Sv) he hL hd.1) (wks_cons wk_QR wks_nil), ?_⟩
   refine ⟨⟨rfl, rfl, rfl, rfl, trivial⟩, fun H' hL hd => KCall.wkA (kAudit f p l ([] : List Sv) ht hb hs he hd.1 hd.2.1 hd.2.2.1 hd.2.2.2.1) (wks_cons wk_fleet (wks_cons (wk_refl _) (wks_cons wk_QR (wks_cons wk_QR wks_nil)))), ⟨rfl, rfl, rfl, rfl, trivial⟩, fun H' hL hd => KCall.wkA (krAudit f p l ([] : List Sv) ht hb hs he hd.1 hd.2.1 hd.2.2.1 hd.2.2.2.1) (wks_cons (wk_refl _) (wks_cons (wk_refl _) (wks_cons (wk_refl _) (wks_cons wk_QR wks_nil)))), forkF (bne_self_eq_false _) (forkF (bne_self_eq_false _) ?_)⟩
   refine ⟨⟨rfl, rfl, trivial⟩, fun H' _ hd => KCall.wkA (kSame ([] : List Sv) he hd.1 hd.2.1) (wks_cons wk_QR (wks_cons wk_QR wks_nil)), ?_⟩
   exact ⟨rfl, ⟨rfl, rfl, rfl, rfl, rfl, rfl, trivial⟩, fun H' _ hd => KCall.wkA (kKept f l ht hb hl hs hd.1 hd.2.1 hd.2.2.1 hd.2.2.2.1 hd.2.2.2.2.1 hd.2.2.2.2.2.1) (wks_cons wk_fleet (wks_cons (wk_refl _) (wks_cons wk_QR (wks_cons (wk_refl _) wks_nil)))), trivial, fun H' _ _ => kAwake H', rfl⟩
  ·refine ⟨⟨by omega, m2, ⟨Nat.le_refl _, Nat.zero_le _⟩, ⟨Nat.le_refl _, by rw [flat_len svC_len]; omega⟩, one1_take one1_V⟩, rfl, ?_⟩
   refine ⟨congrArg (fun l => some (KObj.cells true 5 l)) (show _ ++ _ = _ by rw [List.take_zero, List.nil_append, List.drop_zero, takeV, <- hN]; rfl), ?_⟩
   refine ⟨⟨rfl, trivial⟩, fun H' hL hd => KCall.wkA (kServed h hh hL hd.1) (wks_cons (wk_refl _) wks_nil), ?_⟩
   refine ⟨⟨rfl, rfl, rfl, rfl, trivial⟩, fun H' hL hd => KCall.wkA (kAudit f p l h ht hb hs hh hd.1 hd.2.1 hd.2.2.1 hd.2.2.2.1) (wks_cons wk_fleet (wks_cons (wk_refl _) (wks_cons wk_QR (wks_cons wk_QR wks_nil)))), ⟨rfl, rfl, rfl, rfl, trivial⟩, fun H' hL hd => KCall.wkA (krAudit f p l h ht hb hs hh hd.1 hd.2.1 hd.2.2.1 hd.2.2.2.1) (wks_cons (wk_refl _) (wks_cons (wk_refl _) (wks_cons (wk_refl _) (wks_cons (wk_refl _) wks_nil)))), forkF (bne_self_eq_false _) (forkF (bne_self_eq_false _) ?_)⟩
   refine ⟨⟨rfl, rfl, trivial⟩, fun H' _ hd => KCall.wkA (kSame h hh hd.1 hd.2.1) (wks_cons wk_QR (wks_cons (wk_refl _) wks_nil)), ?_⟩
   refine ⟨rfl, ?_⟩
   refine ⟨⟨rfl, trivial⟩, fun H' hL hd => KCall.wkA (kServed (oH f p l) ho2 hL hd.1) (wks_cons (wk_refl _) wks_nil), ?_⟩
   refine ⟨⟨rfl, rfl, rfl, rfl, trivial⟩, fun H' hL hd => KCall.wkA (kAudit f p l (oH f p l) ht hb hs ho2 hd.1 hd.2.1 hd.2.2.1 hd.2.2.2.1) (wks_cons wk_fleet (wks_cons (wk_refl _) (wks_cons wk_QR (wks_cons wk_QR wks_nil)))), ⟨rfl, rfl, rfl, rfl, trivial⟩, fun H' hL hd => KCall.wkA (krAudit f p l (oH f p l) ht hb hs ho2 hd.1 hd.2.1 hd.2.2.1 hd.2.2.2.1) (wks_cons (wk_refl _) (wks_cons (wk_refl _) (wks_cons (wk_refl _) (wks_cons (wk_refl _) wks_nil)))), forkF (bne_self_eq_false _) (forkF (bne_self_eq_false _) ?_)⟩
   refine ⟨⟨rfl, rfl, trivial⟩, fun H' _ hd => KCall.wkA (kSame (oH f p l) ho2 hd.1 hd.2.1) (wks_cons wk_QR (wks_cons (wk_refl _) wks_nil)), ?_⟩
   refine ⟨rfl, ?_⟩
   refine ⟨⟨rfl, trivial⟩, fun H' hL hd => KCall.wkA (kServed (pB f p l h) hB hL hd.1) (wks_cons (wk_RI (by rw [lB, Nat.zero_add])) wks_nil), ?_⟩
   refine ⟨⟨rfl, rfl, rfl, rfl, trivial⟩, fun H' hL hd => KCall.wkA (kAudit f p l (pB f p l h) ht hb hs hB hd.1 hd.2.1 hd.2.2.1 hd.2.2.2.1) (wks_cons wk_fleet (wks_cons (wk_refl _) (wks_cons wk_QR (wks_cons wk_QR wks_nil)))), ⟨rfl, rfl, rfl, rfl, trivial⟩, fun H' hL hd => KCall.wkA (krAudit f p l (pB f p l h) ht hb hs hB hd.1 hd.2.1 hd.2.2.1 hd.2.2.2.1) (wks_cons (wk_refl _) (wks_cons (wk_refl _) (wks_cons (wk_refl _) (wks_cons (wk_RI (by rw [lB, Nat.zero_add])) wks_nil)))), forkF (bne_self_eq_false _) (forkF (bne_self_eq_false _) ?_)⟩
   refine ⟨⟨rfl, rfl, trivial⟩, fun H' _ hd => KCall.wkA (kSame (pB f p l h) hB hd.1 hd.2.1) (wks_cons wk_QR (wks_cons (wk_RI (by rw [lB, Nat.zero_add])) wks_nil)), ?_⟩
   exact ⟨rfl, ⟨rfl, rfl, rfl, rfl, rfl, rfl, trivial⟩, fun H' _ hd => KCall.wkA (kKept f l ht hb hl hs hd.1 hd.2.1 hd.2.2.1 hd.2.2.2.1 hd.2.2.2.2.1 hd.2.2.2.2.2.1) (wks_cons wk_fleet (wks_cons (wk_refl _) (wks_cons wk_QR (wks_cons (wk_refl _) wks_nil)))), trivial, fun H' _ _ => kAwake H', rfl⟩
 ·refine ⟨congrArg (fun l => some (KObj.cells true 5 l)) (show _ ++ _ = _ by rw [List.take_zero, List.nil_append, List.drop_zero, takeV, <- hK]; rfl), ?_⟩
  refine ⟨vI64 (by omega), ((K : Nat) : Int), rfl, vI64 (by omega), _, rfl, ((N : Nat) : Int), congrArg nI (by split <;> omega), ?_⟩
  rw [Int.toNat_natCast]
  refine ⟨⟨⟨.inl rfl, by omega⟩, ⟨by omega, by omega⟩, Nat.zero_le _⟩, rfl, fun m2 => ?_, fun m2 => ?_⟩
  ·refine ⟨⟨by omega, m2⟩, ?_⟩
   refine ⟨by rw [show pC f p l h = pA f p l by unfold pC; rw [List.length_eq_zero_iff.1 (show (pB f p l h).length = 0 by omega), List.append_nil]], ?_⟩
   refine ⟨⟨rfl, trivial⟩, fun H' hL hd => KCall.wkA (kServed h hh hL hd.1) (wks_cons (wk_refl _) wks_nil), ?_⟩
   refine ⟨⟨rfl, rfl, rfl, rfl, trivial⟩, fun H' hL hd => KCall.wkA (kAudit f p l h ht hb hs hh hd.1 hd.2.1 hd.2.2.1 hd.2.2.2.1) (wks_cons wk_fleet (wks_cons (wk_refl _) (wks_cons wk_QR (wks_cons wk_QR wks_nil)))), ⟨rfl, rfl, rfl, rfl, trivial⟩, fun H' hL hd => KCall.wkA (krAudit f p l h ht hb hs hh hd.1 hd.2.1 hd.2.2.1 hd.2.2.2.1) (wks_cons (wk_refl _) (wks_cons (wk_refl _) (wks_cons (wk_refl _) (wks_cons (wk_refl _) wks_nil)))), forkF (bne_self_eq_false _) (forkF (bne_self_eq_false _) ?_)⟩
   refine ⟨⟨rfl, rfl, trivial⟩, fun H' _ hd => KCall.wkA (kSame h hh hd.1 hd.2.1) (wks_cons wk_QR (wks_cons (wk_refl _) wks_nil)), ?_⟩
   refine ⟨rfl, ?_⟩
   refine ⟨⟨rfl, trivial⟩, fun H' hL hd => KCall.wkA (kServed (oH f p l) ho2 hL hd.1) (wks_cons (wk_refl _) wks_nil), ?_⟩
   refine ⟨⟨rfl, rfl, rfl, rfl, trivial⟩, fun H' hL hd => KCall.wkA (kAudit f p l (oH f p l) ht hb hs ho2 hd.1 hd.2.1 hd.2.2.1 hd.2.2.2.1) (wks_cons wk_fleet (wks_cons (wk_refl _) (wks_cons wk_QR (wks_cons wk_QR wks_nil)))), ⟨rfl, rfl, rfl, rfl, trivial⟩, fun H' hL hd => KCall.wkA (krAudit f p l (oH f p l) ht hb hs ho2 hd.1 hd.2.1 hd.2.2.1 hd.2.2.2.1) (wks_cons (wk_refl _) (wks_cons (wk_refl _) (wks_cons (wk_refl _) (wks_cons (wk_refl _) wks_nil)))), forkF (bne_self_eq_false _) (forkF (bne_self_eq_false _) ?_)⟩
   refine ⟨⟨rfl, rfl, trivial⟩, fun H' _ hd => KCall.wkA (kSame (oH f p l) ho2 hd.1 hd.2.1) (wks_cons wk_QR (wks_cons (wk_refl _) wks_nil)), ?_⟩
   refine ⟨rfl, ?_⟩
   refine ⟨⟨rfl, trivial⟩, fun H' hL hd => KCall.wkA (kServed (pC f p l h) hC hL hd.1) (wks_cons (wk_RI (by omega)) wks_nil), ?_⟩
   refine ⟨⟨rfl, rfl, rfl, rfl, trivial⟩, fun H' hL hd => KCall.wkA (kAudit f p l (pC f p l h) ht hb hs hC hd.1 hd.2.1 hd.2.2.1 hd.2.2.2.1) (wks_cons wk_fleet (wks_cons (wk_refl _) (wks_cons wk_QR (wks_cons wk_QR wks_nil)))), ⟨rfl, rfl, rfl, rfl, trivial⟩, fun H' hL hd => KCall.wkA (krAudit f p l (pC f p l h) ht hb hs hC hd.1 hd.2.1 hd.2.2.1 hd.2.2.2.1) (wks_cons (wk_refl _) (wks_cons (wk_refl _) (wks_cons (wk_refl _) (wks_cons (wk_RI (by omega)) wks_nil)))), forkF (bne_self_eq_false _) (forkF (bne_self_eq_false _) ?_)⟩
   refine ⟨⟨rfl, rfl, trivial⟩, fun H' _ hd => KCall.wkA (kSame (pC f p l h) hC hd.1 hd.2.1) (wks_cons wk_QR (wks_cons (wk_RI (by omega)) wks_nil)), ?_⟩
   exact ⟨rfl, ⟨rfl, rfl, rfl, rfl, rfl, rfl, trivial⟩, fun H' _ hd => KCall.wkA (kKept f l ht hb hl hs hd.1 hd.2.1 hd.2.2.1 hd.2.2.2.1 hd.2.2.2.2.1 hd.2.2.2.2.2.1) (wks_cons wk_fleet (wks_cons (wk_refl _) (wks_cons wk_QR (wks_cons (wk_refl _) wks_nil)))), trivial, fun H' _ _ => kAwake H', rfl⟩
  ·refine ⟨⟨by omega, m2, ⟨Nat.le_refl _, by rw [flat_len svC_len, lA]; omega⟩, ⟨Nat.le_refl _, by rw [flat_len svC_len]; omega⟩, one1_take one1_V⟩, rfl, ?_⟩
   refine ⟨congrArg (fun l => some (KObj.cells true 5 l)) (show _ ++ _ = _ by rw [List.drop_zero, List.drop_zero, takeV, takeV, List.take_of_length_le (show (pA f p l).length <= 0 + K by omega), <- hN]; unfold pC; rw [List.flatMap_append]; rfl), ?_⟩
   refine ⟨⟨rfl, trivial⟩, fun H' hL hd => KCall.wkA (kServed h hh hL hd.1) (wks_cons (wk_refl _) wks_nil), ?_⟩
   refine ⟨⟨rfl, rfl, rfl, rfl, trivial⟩, fun H' hL hd => KCall.wkA (kAudit f p l h ht hb hs hh hd.1 hd.2.1 hd.2.2.1 hd.2.2.2.1) (wks_cons wk_fleet (wks_cons (wk_refl _) (wks_cons wk_QR (wks_cons wk_QR wks_nil)))), ⟨rfl, rfl, rfl, rfl, trivial⟩, fun H' hL hd => KCall.wkA (krAudit f p l h ht hb hs hh hd.1 hd.2.1 hd.2.2.1 hd.2.2.2.1) (wks_cons (wk_refl _) (wks_cons (wk_refl _) (wks_cons (wk_refl _) (wks_cons (wk_refl _) wks_nil)))), forkF (bne_self_eq_false _) (forkF (bne_self_eq_false _) ?_)⟩
   refine ⟨⟨rfl, rfl, trivial⟩, fun H' _ hd => KCall.wkA (kSame h hh hd.1 hd.2.1) (wks_cons wk_QR (wks_cons (wk_refl _) wks_nil)), ?_⟩
   refine ⟨rfl, ?_⟩
   refine ⟨⟨rfl, trivial⟩, fun H' hL hd => KCall.wkA (kServed (oH f p l) ho2 hL hd.1) (wks_cons (wk_refl _) wks_nil), ?_⟩
   refine ⟨⟨rfl, rfl, rfl, rfl, trivial⟩, fun H' hL hd => KCall.wkA (kAudit f p l (oH f p l) ht hb hs ho2 hd.1 hd.2.1 hd.2.2.1 hd.2.2.2.1) (wks_cons wk_fleet (wks_cons (wk_refl _) (wks_cons wk_QR (wks_cons wk_QR wks_nil)))), ⟨rfl, rfl, rfl, rfl, trivial⟩, fun H' hL hd => KCall.wkA (krAudit f p l (oH f p l) ht hb hs ho2 hd.1 hd.2.1 hd.2.2.1 hd.2.2.2.1) (wks_cons (wk_refl _) (wks_cons (wk_refl _) (wks_cons (wk_refl _) (wks_cons (wk_refl _) wks_nil)))), forkF (bne_self_eq_false _) (forkF (bne_self_eq_false _) ?_)⟩
   refine ⟨⟨rfl, rfl, trivial⟩, fun H' _ hd => KCall.wkA (kSame (oH f p l) ho2 hd.1 hd.2.1) (wks_cons wk_QR (wks_cons (wk_refl _) wks_nil)), ?_⟩
   refine ⟨rfl, ?_⟩
   refine ⟨⟨rfl, trivial⟩, fun H' hL hd => KCall.wkA (kServed (pC f p l h) hC hL hd.1) (wks_cons (wk_RI (by omega)) wks_nil), ?_⟩
   refine ⟨⟨rfl, rfl, rfl, rfl, trivial⟩, fun H' hL hd => KCall.wkA (kAudit f p l (pC f p l h) ht hb hs hC hd.1 hd.2.1 hd.2.2.1 hd.2.2.2.1) (wks_cons wk_fleet (wks_cons (wk_refl _) (wks_cons wk_QR (wks_cons wk_QR wks_nil)))), ⟨rfl, rfl, rfl, rfl, trivial⟩, fun H' hL hd => KCall.wkA (krAudit f p l (pC f p l h) ht hb hs hC hd.1 hd.2.1 hd.2.2.1 hd.2.2.2.1) (wks_cons (wk_refl _) (wks_cons (wk_refl _) (wks_cons (wk_refl _) (wks_cons (wk_RI (by omega)) wks_nil)))), forkF (bne_self_eq_false _) (forkF (bne_self_eq_false _) ?_)⟩
   refine ⟨⟨rfl, rfl, trivial⟩, fun H' _ hd => KCall.wkA (kSame (pC f p l h) hC hd.1 hd.2.1) (wks_cons wk_QR (wks_cons (wk_RI (by omega)) wks_nil)), ?_⟩
   exact ⟨rfl, ⟨rfl, rfl, rfl, rfl, rfl, rfl, trivial⟩, fun H' _ hd => KCall.wkA (kKept f l ht hb hl hs hd.1 hd.2.1 hd.2.2.1 hd.2.2.2.1 hd.2.2.2.2.1 hd.2.2.2.2.2.1) (wks_cons wk_fleet (wks_cons (wk_refl _) (wks_cons wk_QR (wks_cons (wk_refl _) wks_nil)))), trivial, fun H' _ _ => kAwake H', rfl⟩
end
end Go.Proofs.YthdekmpkioikdaaGreat
/- Flat arguments among those whose lists are said by their values. No condition. -/
namespace Go.K
set_option linter.unusedSimpArgs false
open Go Go.ChangeShapes Go.WideShapes Go.ChangeAt Go.RowKit
set_option linter.unusedVariables false
variable {P : Program}
theorem flatI_goodD : ∀ (n : Nat) (t : TypeId) (k : Nat) (cs : List Value), flatI P n t = some k -> GoodD P n t cs -> ∃ ns : List Int, cs = ns.map (.int .i64) /\ ns.length = k /\ ∀ x ∈ ns, inI x := by
 intro n
 induction n with
 | zero => intro t k cs h; cases h
 | succ n ih =>
  intro t k cs h g
  unfold flatI at h
  unfold GoodD at g
  cases hu : P.underlying t with
  | none => rw [hu] at h; cases h
  | some d =>
   rw [hu] at h g
   cases d <;> try (cases h; done)
   ·rename_i ik
    cases ik <;> try (cases h; done)
    cases h
    obtain ⟨x, rfl, h1, h2⟩ := g
    refine ⟨[x], rfl, rfl, fun y hy => ?_⟩
    rw [List.mem_singleton] at hy; subst hy
    simp only [IntKind.min, IntKind.max, IntKind.signed, IntKind.bits] at h1 h2
    unfold inI
    simp at h1 h2
    omega
   ·rename_i fs
    simp only at h g
    have key : ∀ (fs : List Field) (k : Nat) (cs : List Value), fs.foldr (fun f r => match flatI P n f.type, r with | some a, some b => some (a + b) | _, _ => none) (some 0) = some k ->
      GoodL (GoodD P n) (fs.map (·.type)) cs -> ∃ ns : List Int, cs = ns.map (.int .i64) /\ ns.length = k /\ ∀ x ∈ ns, inI x := by
     intro fs
     induction fs with
     | nil => intro k cs h g; cases h; exact ⟨[], g, rfl, fun _ h => by cases h⟩
     | cons f fs ihf =>
      intro k cs h g
      rw [List.foldr_cons] at h
      obtain ⟨c, rest, rfl, g1, g2⟩ := g
      cases ha : flatI P n f.type with
      | none => rw [ha] at h; cases h
      | some a =>
       cases hb : fs.foldr (fun f r => match flatI P n f.type, r with | some a, some b => some (a + b) | _, _ => none) (some 0) with
       | none => rw [ha, hb] at h; cases h
       | some b =>
        rw [ha, hb] at h
        cases h
        obtain ⟨n1, rfl, l1, m1⟩ := ih _ _ _ ha g1
        obtain ⟨n2, rfl, l2, m2⟩ := ihf _ _ hb g2
        exact ⟨n1 ++ n2, by simp, by simp [l1, l2], fun x hx => by rcases List.mem_append.1 hx with h | h; exact m1 x h; exact m2 x h⟩
    exact key _ _ _ h g
theorem flatI_good2 {H : Heap} : ∀ (n : Nat) (t : TypeId) (k : Nat) (cs : List Value), flatI P n t = some k -> Good2 P H n t cs -> ∃ ns : List Int, cs = ns.map (.int .i64) /\ ns.length = k /\ ∀ x ∈ ns, inI x := by
 intro n
 induction n with
 | zero => intro t k cs h; cases h
 | succ n ih =>
  intro t k cs h g
  unfold flatI at h
  unfold Good2 at g
  cases hu : P.underlying t with
  | none => rw [hu] at h; cases h
  | some d =>
   rw [hu] at h g
   cases d <;> try (cases h; done)
   ·rename_i ik
    cases ik <;> try (cases h; done)
    cases h
    obtain ⟨x, rfl, h1, h2⟩ := g
    refine ⟨[x], rfl, rfl, fun y hy => ?_⟩
    rw [List.mem_singleton] at hy; subst hy
    simp only [IntKind.min, IntKind.max, IntKind.signed, IntKind.bits] at h1 h2
    unfold inI
    simp at h1 h2
    omega
   ·rename_i fs
    simp only at h g
    have key : ∀ (fs : List Field) (k : Nat) (cs : List Value), fs.foldr (fun f r => match flatI P n f.type, r with | some a, some b => some (a + b) | _, _ => none) (some 0) = some k ->
      GoodL (Good2 P H n) (fs.map (·.type)) cs -> ∃ ns : List Int, cs = ns.map (.int .i64) /\ ns.length = k /\ ∀ x ∈ ns, inI x := by
     intro fs
     induction fs with
     | nil => intro k cs h g; cases h; exact ⟨[], g, rfl, fun _ h => by cases h⟩
     | cons f fs ihf =>
      intro k cs h g
      rw [List.foldr_cons] at h
      obtain ⟨c, rest, rfl, g1, g2⟩ := g
      cases ha : flatI P n f.type with
      | none => rw [ha] at h; cases h
      | some a =>
       cases hb : fs.foldr (fun f r => match flatI P n f.type, r with | some a, some b => some (a + b) | _, _ => none) (some 0) with
       | none => rw [ha, hb] at h; cases h
       | some b =>
        rw [ha, hb] at h
        cases h
        obtain ⟨n1, rfl, l1, m1⟩ := ih _ _ _ ha g1
        obtain ⟨n2, rfl, l2, m2⟩ := ihf _ _ hb g2
        exact ⟨n1 ++ n2, by simp, by simp [l1, l2], fun x hx => by rcases List.mem_append.1 hx with h | h; exact m1 x h; exact m2 x h⟩
    exact key _ _ _ h g
end Go.K
/- How laws' arguments are read. No condition. -/
namespace Go.Proofs.YthdekmpkioikdaaGreat
set_option linter.unusedSimpArgs false
open Go Go.K Go.ChangeShapes Go.WideShapes Go.ChangeAt Go.RowKit
set_option maxRecDepth 100000
set_option linter.unusedVariables false
noncomputable section
theorem own : ownKnob Tryz.prog.godebug = none := by kernel_rfl
theorem sized : slicesSized Tryz.prog = true := by kernel_rfl
abbrev known (t : TypeId) : Prop := t < Tryz.prog.types.size
theorem kids : Kids Tryz.prog known := kids_rows (by kernel_rfl) (by kernel_rfl)
theorem goodA2_cons {H : Heap} {n : Nat} {t : TypeId} {ts : List TypeId} {vs : List Value} (h : GoodA2 Tryz.prog H n (t :: ts) vs) : ∃ v vs', vs = v :: vs' /\ GoodV2 Tryz.prog H n t v /\ GoodA2 Tryz.prog H n ts vs' := by
 cases vs with
 | nil => exact h.elim
 | cons v vs => exact ⟨v, vs, rfl, h.1, h.2⟩
theorem goodA2_nil {H : Heap} {n : Nat} {vs : List Value} (h : GoodA2 Tryz.prog H n [] vs) : vs = [] := by
 cases vs with
 | nil => rfl
 | cons v vs => exact h.elim
theorem slice_read2 {α : Type} {f : α -> List Value} {H : Heap} {n t e : Nat} {cs : List Value} (hu : Tryz.prog.underlying t = some (.slice e)) (hg : ∀ c, GoodD Tryz.prog n e c -> ∃ x : α, c = f x /\ True) (h : Good2 Tryz.prog H (n + 1) t cs) :
  ∃ (v : Value) (xs : List α), cs = [v] /\ xs.length <= maxLen /\ ∀ K : Heap, ∃ (gs : List KObj) (id : Nat) (own : Bool) (z : Nat), wk v (.slice (some ⟨id, 0, some 2⟩) xs.length xs.length) /\ (H ++ K ++ gs)[id]? = some (.cells own z (xs.flatMap f)) := by
 unfold Good2 at h
 rw [hu] at h
 rcases h with h | h | ⟨id, len, cs', h1, h2, h3, h4, h5⟩
 ·exact ⟨_, [], h, by simp [maxLen], fun K => ⟨[.cells false 0 []], (H ++ K).length, false, 0, wk_nil _ _ _ (.inr rfl), by rw [List.getElem?_append_right (Nat.le_refl _)]; simp⟩⟩
 ·exact ⟨_, [], h, by simp [maxLen], fun K => ⟨[.cells false 0 []], (H ++ K).length, false, 0, wk_E _ _ _ (.inr rfl), by rw [List.getElem?_append_right (Nat.le_refl _)]; simp⟩⟩
 ·obtain ⟨xs, rfl, rfl, _⟩ := goodL_list (f := f) (q := fun _ => True) hg len cs' h5
  refine ⟨_, xs, h1, h4, fun K => ⟨[], id, false, 0, wk_R, ?_⟩⟩
  rw [List.append_nil, List.getElem?_append_left (List.getElem?_eq_some_iff.1 h2).1]; exact h2
theorem goodV2_slice {α : Type} {f : α -> List Value} {H : Heap} {t e : Nat} {v : Value} (hu : Tryz.prog.underlying t = some (.slice e)) (hg : ∀ c, GoodD Tryz.prog 5 e c -> ∃ x : α, c = f x /\ True) (h : GoodV2 Tryz.prog H 6 t v) :
  ∃ xs : List α, xs.length <= maxLen /\ ∀ K : Heap, ∃ (gs : List KObj) (id : Nat) (own : Bool) (z : Nat), wk v (.slice (some ⟨id, 0, some 2⟩) xs.length xs.length) /\ (H ++ K ++ gs)[id]? = some (.cells own z (xs.flatMap f)) := by
 unfold GoodV2 at h
 rw [hu] at h
 obtain ⟨v', xs, h1, h2, h3⟩ := slice_read2 hu hg h
 cases h1
 exact ⟨xs, h2, h3⟩
theorem goodD_flat {α : Type} {f : α -> List Value} {n m t : Nat} (hf : flatI Tryz.prog m t = some n) (hα : ∀ ns : List Int, ns.length = n -> ∃ x : α, ns.map (Value.int .i64) = f x) :
  ∀ c, GoodD Tryz.prog m t c -> ∃ x : α, c = f x /\ True := by
 intro c h
 obtain ⟨ns, rfl, h2, _⟩ := flatI_goodD m t n c hf h
 obtain ⟨x, hx⟩ := hα ns h2
 exact ⟨x, hx, trivial⟩
theorem int_of (ns : List Int) (h : ns.length = 1) : ∃ x : Int, ns.map (Value.int .i64) = intC x := by
 match ns, h with
 | [x], _ => exact ⟨x, rfl⟩
theorem rq_of (ns : List Int) (h : ns.length = 7) : ∃ r : Rq, ns.map (Value.int .i64) = rqC r := by
 match ns, h with
 | [a, b, c, d, e, f, g], _ => exact ⟨⟨a, b, c, d, e, f, g⟩, rfl⟩
theorem sv_of (ns : List Int) (h : ns.length = 5) : ∃ r : Sv, ns.map (Value.int .i64) = svC r := by
 match ns, h with
 | [a, b, c, d, e], _ => exact ⟨⟨a, b, c, d, e⟩, rfl⟩
theorem goodD_ints {n : Nat} {c : List Value} (hf : flatI Tryz.prog n 3 = some 1) (h : GoodD Tryz.prog (n + 1) 23 c) : ∃ l : List Int, c = [inV l] /\ True := by
 unfold GoodD at h
 rw [show Tryz.prog.underlying 23 = some (.slice 3) by kernel_rfl] at h
 obtain ⟨len, ds, h1, h2, h3, h4⟩ := h
 obtain ⟨xs, e1, e2, _⟩ := goodL_list (f := intC) (q := fun _ => True) (goodD_flat hf int_of) len ds h4
 subst e1 e2
 exact ⟨xs, h1, trivial⟩
theorem inL_flat (ll : List (List Int)) : ll.flatMap (fun l => [inV l]) = inL ll := by
 induction ll with
 | nil => rfl
 | cons l ll ih => rw [List.flatMap_cons, ih]; rfl
theorem fleet_read2 {H : Heap} {v : Value} (h : GoodV2 Tryz.prog H 6 25 v) : ∃ f : Fleet, ∀ K : Heap, ∃ (gs : List KObj) (i j : Nat) (o o2 : Bool) (z z2 : Nat), wk v (fleetV f i j) /\ (H ++ K ++ gs)[i]? = some (.cells o z (inL f.t)) /\ (H ++ K ++ gs)[j]? = some (.cells o2 z2 (f.b.flatMap intC)) := by
 have hu : ∃ fs, Tryz.prog.underlying 25 = some (.struct fs) /\ fs.toList.map (·.type) = [22, 23] := by
  have : (match Tryz.prog.underlying 25 with | some (.struct fs) => decide (fs.toList.map (·.type) = [22, 23]) | _ => false) = true := by kernel_rfl
  split at this
  ·rename_i fs e; exact ⟨fs, e, of_decide_eq_true this⟩
  ·cases this
 obtain ⟨fs, hu, ht⟩ := hu
 unfold GoodV2 at h
 rw [hu] at h
 obtain ⟨cs, rfl, h⟩ := h
 unfold Good2 at h
 rw [hu] at h
 simp only [ht] at h
 obtain ⟨c1, r1, rfl, h1, c2, r2, rfl, h2, h3⟩ := h
 obtain rfl : r2 = [] := h3
 obtain ⟨v1, xs, rfl, _, q1⟩ := slice_read2 (f := fun l => [inV l]) (n := 4) (e := 23) (by kernel_rfl) (fun c hc => goodD_ints (by kernel_rfl) hc) h1
 obtain ⟨v2, ys, rfl, _, q2⟩ := slice_read2 (f := intC) (n := 4) (e := 3) (by kernel_rfl) (goodD_flat (by kernel_rfl) int_of) h2
 refine ⟨⟨xs, ys⟩, fun K => ?_⟩
 obtain ⟨gs1, i, o, z, g1, g2⟩ := q1 K
 obtain ⟨gs2, j, o2, z2, g3, g4⟩ := q2 (K ++ gs1)
 rw [inL_flat] at g2
 refine ⟨gs1 ++ gs2, i, j, o, o2, z, z2, wk_aggL ⟨g1, g3, trivial⟩, ?_, ?_⟩
 ·rw [<- List.append_assoc, List.getElem?_append_left (List.getElem?_eq_some_iff.1 g2).1]; exact g2
 ·rw [<- List.append_assoc] at g4 ⊢; exact g4
theorem rqs_read2 {H : Heap} {v : Value} (h : GoodV2 Tryz.prog H 6 29 v) : ∃ l : List Rq, l.length <= maxLen /\ ∀ K : Heap, ∃ (gs : List KObj) (id : Nat) (own : Bool) (z : Nat), wk v (.slice (some ⟨id, 0, some 2⟩) l.length l.length) /\ (H ++ K ++ gs)[id]? = some (.cells own z (l.flatMap rqC)) :=
 goodV2_slice (e := 109) (f := rqC) (by kernel_rfl) (goodD_flat (by kernel_rfl) rq_of) h
theorem svs_read2 {H : Heap} {v : Value} (h : GoodV2 Tryz.prog H 6 67 v) : ∃ l : List Sv, l.length <= maxLen /\ ∀ K : Heap, ∃ (gs : List KObj) (id : Nat) (own : Bool) (z : Nat), wk v (.slice (some ⟨id, 0, some 2⟩) l.length l.length) /\ (H ++ K ++ gs)[id]? = some (.cells own z (l.flatMap svC)) :=
 goodV2_slice (e := 91) (f := svC) (by kernel_rfl) (goodD_flat (by kernel_rfl) sv_of) h
theorem pol_read2 {H : Heap} {v : Value} (h : GoodV2 Tryz.prog H 6 28 v) : ∃ q : Pol, v = .agg ⟨polC q⟩ := by
 have hu : ∃ fs, Tryz.prog.underlying 28 = some (.struct fs) /\ fs.toList.map (·.type) = [3, 3, 26] := by
  have : (match Tryz.prog.underlying 28 with | some (.struct fs) => decide (fs.toList.map (·.type) = [3, 3, 26]) | _ => false) = true := by kernel_rfl
  split at this
  ·rename_i fs e; exact ⟨fs, e, of_decide_eq_true this⟩
  ·cases this
 obtain ⟨fs, hu, ht⟩ := hu
 have ha : Tryz.prog.underlying 26 = some (.array 3 3) := by kernel_rfl
 have one : ∀ (m : Nat) (c : List Value), Good2 Tryz.prog H (m + 1) 3 c -> ∃ x : Int, c = [.int .i64 x] := by
  intro m c h
  have hf : flatI Tryz.prog (m + 1) 3 = some 1 := by
   unfold flatI; rw [show Tryz.prog.underlying 3 = some (.int .i64) by kernel_rfl]
  obtain ⟨ns, rfl, h2, _⟩ := flatI_good2 (m + 1) 3 1 c hf h
  match ns, h2 with
  | [x], _ => exact ⟨x, rfl⟩
 unfold GoodV2 at h
 rw [hu] at h
 obtain ⟨cs, rfl, h⟩ := h
 unfold Good2 at h
 rw [hu] at h
 simp only [ht] at h
 obtain ⟨c1, r1, rfl, h1, c2, r2, rfl, h2, c3, r3, rfl, h3, h4⟩ := h
 obtain rfl : r3 = [] := h4
 obtain ⟨a, rfl⟩ := one _ _ h1
 obtain ⟨b, rfl⟩ := one _ _ h2
 unfold Good2 at h3
 rw [ha] at h3
 obtain ⟨d1, s1, rfl, k1, d2, s2, rfl, k2, d3, s3, rfl, k3, k4⟩ := h3
 obtain rfl : s3 = [] := k4
 obtain ⟨x, rfl⟩ := one _ _ k1
 obtain ⟨y, rfl⟩ := one _ _ k2
 obtain ⟨z, rfl⟩ := one _ _ k3
 exact ⟨⟨a, b, x, y, z⟩, rfl⟩
end
end Go.Proofs.YthdekmpkioikdaaGreat
