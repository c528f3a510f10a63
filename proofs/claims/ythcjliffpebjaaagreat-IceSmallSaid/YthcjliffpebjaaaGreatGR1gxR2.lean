/- What is to be shown of functions. Printed by a program. No condition. -/
import Derived.Test.YthcjliffpebjaaaGreatGB4xS6g
import Derived.Test.YthcjliffpebjaaaGreatGX0xS4a
open Go Go.K
set_option maxRecDepth 1000000
set_option maxHeartbeats 4000000
set_option linter.unusedVariables false
set_option linter.unusedSimpArgs false
namespace Go.Proofs.YthcjliffpebjaaaGreat
noncomputable section
attribute [local irreducible] vF
abbrev iA:Value:=nI 20
abbrev Fn(qH0:Report):=Int.tdiv (Int.tdiv qH0.has 2) 2
abbrev se(qH0:Report):=Int.tdiv (Fn qH0) 2
abbrev eY:Value:=nI 0
abbrev L9(qH0:Report)(qv0:Value):=nw (se qH0) (∃i_0:Int,bw (Int.tmod (se qH0) 2) i_0/\(fk ((i_0:Int) == 1) (fk (decide ((qH0.cell.ac.lo:Int)<0)) (iA=qv0) (fk (decide ((3:Int)<qH0.cell.ac.hi)) (iA=qv0) (fk (decide ((qH0.cell.ac.hi:Int)<qH0.cell.ac.lo)) (iA=qv0) (nw (Int.tdiv (se qH0) 2) (∃i_1:Int,bw (Int.tdiv (se qH0) 2) i_1/\eY=qv0))))) (nw (Int.tdiv (se qH0) 2) (∃i_1:Int,bw (Int.tdiv (se qH0) 2) i_1/\eY=qv0))))
abbrev jm0(qH0:Report)(qv0:Value):=nw (Fn qH0) (fk (((Int.tmod (Fn qH0) 2):Int) == 1) (fk (decide ((qH0.cell.aa.lo:Int)<0)) (iA=qv0) (fk (decide ((100:Int)<qH0.cell.aa.hi)) (iA=qv0) (fk (decide ((qH0.cell.aa.hi:Int)<qH0.cell.aa.lo)) (iA=qv0) (L9 qH0 qv0)))) (L9 qH0 qv0))
abbrev jml(qH0:Report)(qv0:Value):=nw (Int.tdiv qH0.has 2) (fk (((Int.tmod (Int.tdiv qH0.has 2) 2):Int) == 1) (fk (decide ((qH0.cell.ab.lo:Int)<0)) (iA=qv0) (fk (decide ((400:Int)<qH0.cell.ab.hi)) (iA=qv0) (fk (decide ((qH0.cell.ab.hi:Int)<qH0.cell.ab.lo)) (iA=qv0) (jm0 qH0 qv0)))) (jm0 qH0 qv0))
def nJ(sp:Value)(r:Report):Prop :=
 (fk (decide ((r.id:Int)<0)) (iA=sp) (fk (decide ((1000000:Int)<r.id)) (iA=sp) (fk (decide ((r.source:Int)<1)) (iA=sp) (fk (decide ((3:Int)<r.source)) (iA=sp) (fk (decide ((r.at_:Int)<0)) (iA=sp) (fk (decide ((10000:Int)<r.at_)) (iA=sp) (fk (decide ((r.x:Int)<0)) (iA=sp) (fk (decide ((63:Int)<r.x)) (iA=sp) (fk (decide ((r.y:Int)<0)) (iA=sp) (fk (decide ((63:Int)<r.y)) (iA=sp) (fk (decide ((r.has:Int)<1)) (iA=sp) (fk (decide ((15:Int)<r.has)) (iA=sp) (fk (((Int.tmod r.has 2):Int) == 1) (fk (decide ((r.cell.ae.lo:Int)<0)) (iA=sp) (fk (decide ((100:Int)<r.cell.ae.hi)) (iA=sp) (fk (decide ((r.cell.ae.hi:Int)<r.cell.ae.lo)) (iA=sp) (jml r sp)))) (jml r sp))))))))))))))
abbrev N9(qH0:Report):Hint:=.slot 81 (nI (se qH0)) (.go 8 (.bind Int (fun i_0 => .slot 70 (nI i_0) (.go 1 (.am (.go 26 (.am (.auto) (.go 18 (.am (.auto) (.go 7 (.fork (.auto) (.go 1 (.slot 81 (nI (Int.tdiv (se qH0) 2)) (.bind Int (fun i_1 => .slot 81 (nI i_1) (.auto))))))))))) (.go 3 (.slot 81 (nI (Int.tdiv (se qH0) 2)) (.bind Int (fun i_1 => .slot 81 (nI i_1) (.auto))))))))))
abbrev jm3(qn0:Nat)(qH0:Report):Hint:=.go qn0 (.slot 81 (nI (Fn qH0)) (.go 10 (.am (.go 26 (.am (.auto) (.go 15 (.am (.auto) (.go 7 (.fork (.auto) (.go 1 (N9 qH0)))))))) (.go 3 (N9 qH0)))))
abbrev Oa(qH0:Report):Hint:=.slot 81 (nI (Int.tdiv qH0.has 2)) (.go 10 (.am (.go 23 (.am (.auto) (.go 18 (.am (.auto) (.go 7 (.fork (.auto) (jm3 1 qH0))))))) (jm3 3 qH0)))
theorem vA(sp:Value)(r:Report):vE 77 [(az r)] ⟨0,.leaf⟩ (some [])
 (.go 5 (.am (.auto) (.go 4 (.am (.auto) (.go 4 (.am (.auto) (.go 4 (.am (.auto) (.go 4 (.am (.auto) (.go 4 (.am (.auto) (.go 4 (.am (.auto) (.go 4 (.am (.auto) (.go 4 (.am (.auto) (.go 4 (.am (.auto) (.go 4 (.am (.auto) (.go 3 (.fork (.auto) (.go 10 (.am (.go 20 (.am (.auto) (.go 13 (.am (.auto) (.go 7 (.fork (.auto) (.go 1 (Oa r)))))))) (.go 3 (Oa r))))))))))))))))))))))))))))
 (fun v _ _=>v=sp)=nJ sp r:=by kernel_rfl
def Ed(sp:Value)(m:af)(now:Int):Prop :=
 (∃i_0:Int,(c0q 1 32 [(ao m)] (nI i_0) (fk ((i_0:Int) != 0) ((nI i_0:Value)=sp) (fk (decide ((now:Int)<0)) ((nI 6:Value)=sp) (fk (decide ((10000:Int)<now)) ((nI 6:Value)=sp) (eY=sp))))))
theorem KC(sp:Value)(m:af)(now:Int):vE 76 [(ao m),nI now] ⟨0,.leaf⟩ (some [])
 (.go 2 (.bind (Int) (fun r0 => .ans [] (nI r0) [] (.go 2 (.fork (.auto) (.go 2 (.am (.auto) (.go 2 (.fork (.auto) (.auto))))))))))
 (fun v _ _=>v=sp)=Ed sp m now:=by kernel_rfl
abbrev vo(r:Report):=Int.tdiv (Int.tdiv r.has 2) 2
abbrev tW(r:Report):=Int.tdiv (vo r) 2
abbrev xS(r:Report):=Int.tmod (tW r) 2
abbrev fF(r:Report):=Int.tdiv (tW r) 2
abbrev l8(bP:Cell)(sp:Value):Prop:=((cellV bP):Value)=sp
def IA(sp:Value)(r:Report)(m:af)(now:Int):Prop :=
 (fk (((Int.tmod r.has 2):Int) == 1) (nw (Int.tdiv r.has 2) (fk (((Int.tmod (Int.tdiv r.has 2) 2):Int) == 1) (nw (vo r) (fk (((Int.tmod (vo r) 2):Int) == 1) (nw (tW r) (∃i_0:Int,bw (xS r) i_0/\fk ((i_0:Int) == 1) (nw (fF r) (∃i_1:Int,bw (fF r) i_1/\nw (now-r.at_) (∃bP:Cell,(c0q 4 113 [.agg #[nI r.cell.ae.lo,nI r.cell.ae.hi,nI r.cell.ab.lo,nI r.cell.ab.hi,nI r.cell.aa.lo,nI r.cell.aa.hi,nI r.cell.ac.lo,nI r.cell.ac.hi],(ao m),nI (now-r.at_)] (cellV bP) (l8 bP sp))))) (nw (fF r) (∃i_1:Int,bw (fF r) i_1/\nw (now-r.at_) (∃bP:Cell,(c0q 4 113 [.agg #[nI r.cell.ae.lo,nI r.cell.ae.hi,nI r.cell.ab.lo,nI r.cell.ab.hi,nI r.cell.aa.lo,nI r.cell.aa.hi,nI 0,nI 3],(ao m),nI (now-r.at_)] (cellV bP) (l8 bP sp))))))) (nw (tW r) (∃i_0:Int,bw (xS r) i_0/\fk ((i_0:Int) == 1) (nw (fF r) (∃i_1:Int,bw (fF r) i_1/\nw (now-r.at_) (∃bP:Cell,(c0q 4 113 [.agg #[nI r.cell.ae.lo,nI r.cell.ae.hi,nI r.cell.ab.lo,nI r.cell.ab.hi,nI 0,nI 100,nI r.cell.ac.lo,nI r.cell.ac.hi],(ao m),nI (now-r.at_)] (cellV bP) (l8 bP sp))))) (nw (fF r) (∃i_1:Int,bw (fF r) i_1/\nw (now-r.at_) (∃bP:Cell,(c0q 4 113 [.agg #[nI r.cell.ae.lo,nI r.cell.ae.hi,nI r.cell.ab.lo,nI r.cell.ab.hi,nI 0,nI 100,nI 0,nI 3],(ao m),nI (now-r.at_)] (cellV bP) (l8 bP sp))))))))) (nw (vo r) (fk (((Int.tmod (vo r) 2):Int) == 1) (nw (tW r) (∃i_0:Int,bw (xS r) i_0/\fk ((i_0:Int) == 1) (nw (fF r) (∃i_1:Int,bw (fF r) i_1/\nw (now-r.at_) (∃bP:Cell,(c0q 4 113 [.agg #[nI r.cell.ae.lo,nI r.cell.ae.hi,nI 0,nI 400,nI r.cell.aa.lo,nI r.cell.aa.hi,nI r.cell.ac.lo,nI r.cell.ac.hi],(ao m),nI (now-r.at_)] (cellV bP) (l8 bP sp))))) (nw (fF r) (∃i_1:Int,bw (fF r) i_1/\nw (now-r.at_) (∃bP:Cell,(c0q 4 113 [.agg #[nI r.cell.ae.lo,nI r.cell.ae.hi,nI 0,nI 400,nI r.cell.aa.lo,nI r.cell.aa.hi,nI 0,nI 3],(ao m),nI (now-r.at_)] (cellV bP) (l8 bP sp))))))) (nw (tW r) (∃i_0:Int,bw (xS r) i_0/\fk ((i_0:Int) == 1) (nw (fF r) (∃i_1:Int,bw (fF r) i_1/\nw (now-r.at_) (∃bP:Cell,(c0q 4 113 [.agg #[nI r.cell.ae.lo,nI r.cell.ae.hi,nI 0,nI 400,nI 0,nI 100,nI r.cell.ac.lo,nI r.cell.ac.hi],(ao m),nI (now-r.at_)] (cellV bP) (l8 bP sp))))) (nw (fF r) (∃i_1:Int,bw (fF r) i_1/\nw (now-r.at_) (∃bP:Cell,(c0q 4 113 [.agg #[nI r.cell.ae.lo,nI r.cell.ae.hi,nI 0,nI 400,nI 0,nI 100,nI 0,nI 3],(ao m),nI (now-r.at_)] (cellV bP) (l8 bP sp))))))))))) (nw (Int.tdiv r.has 2) (fk (((Int.tmod (Int.tdiv r.has 2) 2):Int) == 1) (nw (vo r) (fk (((Int.tmod (vo r) 2):Int) == 1) (nw (tW r) (∃i_0:Int,bw (xS r) i_0/\fk ((i_0:Int) == 1) (nw (fF r) (∃i_1:Int,bw (fF r) i_1/\nw (now-r.at_) (∃bP:Cell,(c0q 4 113 [.agg #[nI 0,nI 100,nI r.cell.ab.lo,nI r.cell.ab.hi,nI r.cell.aa.lo,nI r.cell.aa.hi,nI r.cell.ac.lo,nI r.cell.ac.hi],(ao m),nI (now-r.at_)] (cellV bP) (l8 bP sp))))) (nw (fF r) (∃i_1:Int,bw (fF r) i_1/\nw (now-r.at_) (∃bP:Cell,(c0q 4 113 [.agg #[nI 0,nI 100,nI r.cell.ab.lo,nI r.cell.ab.hi,nI r.cell.aa.lo,nI r.cell.aa.hi,nI 0,nI 3],(ao m),nI (now-r.at_)] (cellV bP) (l8 bP sp))))))) (nw (tW r) (∃i_0:Int,bw (xS r) i_0/\fk ((i_0:Int) == 1) (nw (fF r) (∃i_1:Int,bw (fF r) i_1/\nw (now-r.at_) (∃bP:Cell,(c0q 4 113 [.agg #[nI 0,nI 100,nI r.cell.ab.lo,nI r.cell.ab.hi,nI 0,nI 100,nI r.cell.ac.lo,nI r.cell.ac.hi],(ao m),nI (now-r.at_)] (cellV bP) (l8 bP sp))))) (nw (fF r) (∃i_1:Int,bw (fF r) i_1/\nw (now-r.at_) (∃bP:Cell,(c0q 4 113 [.agg #[nI 0,nI 100,nI r.cell.ab.lo,nI r.cell.ab.hi,nI 0,nI 100,nI 0,nI 3],(ao m),nI (now-r.at_)] (cellV bP) (l8 bP sp))))))))) (nw (vo r) (fk (((Int.tmod (vo r) 2):Int) == 1) (nw (tW r) (∃i_0:Int,bw (xS r) i_0/\fk ((i_0:Int) == 1) (nw (fF r) (∃i_1:Int,bw (fF r) i_1/\nw (now-r.at_) (∃bP:Cell,(c0q 4 113 [.agg #[nI 0,nI 100,nI 0,nI 400,nI r.cell.aa.lo,nI r.cell.aa.hi,nI r.cell.ac.lo,nI r.cell.ac.hi],(ao m),nI (now-r.at_)] (cellV bP) (l8 bP sp))))) (nw (fF r) (∃i_1:Int,bw (fF r) i_1/\nw (now-r.at_) (∃bP:Cell,(c0q 4 113 [.agg #[nI 0,nI 100,nI 0,nI 400,nI r.cell.aa.lo,nI r.cell.aa.hi,nI 0,nI 3],(ao m),nI (now-r.at_)] (cellV bP) (l8 bP sp))))))) (nw (tW r) (∃i_0:Int,bw (xS r) i_0/\fk ((i_0:Int) == 1) (nw (fF r) (∃i_1:Int,bw (fF r) i_1/\nw (now-r.at_) (∃bP:Cell,(c0q 4 113 [.agg #[nI 0,nI 100,nI 0,nI 400,nI 0,nI 100,nI r.cell.ac.lo,nI r.cell.ac.hi],(ao m),nI (now-r.at_)] (cellV bP) (l8 bP sp))))) (nw (fF r) (∃i_1:Int,bw (fF r) i_1/\nw (now-r.at_) (∃bP:Cell,(c0q 4 113 [.agg #[nI 0,nI 100,nI 0,nI 400,nI 0,nI 100,nI 0,nI 3],(ao m),nI (now-r.at_)] (cellV bP) (l8 bP sp))))))))))))
abbrev N8(qH0:Report)(qi0:Int):Hint:=.slot 28 (nI (Int.tdiv (se qH0) 2)) (.bind Int (fun i_1 => .slot 28 (nI i_1) (.go 12 (.slot 34 (nI (qi0-qH0.at_)) (.bind (Cell) (fun r2 => .ans [] ((cellV r2)) [] (.auto)))))))
abbrev jm2(qn0:Nat)(qH0:Report)(qi0:Int):Hint:=.go qn0 (.slot 28 (nI (se qH0)) (.go 8 (.bind Int (fun i_0 => .slot 18 (nI i_0) (.go 0 (.fork (.go 42 (N8 qH0 qi0)) (.go 1 (N8 qH0 qi0))))))))
abbrev jmq(qn0:Nat)(qH0:Report)(qi0:Int):Hint:=.go qn0 (.slot 28 (nI (Fn qH0)) (.go 9 (.fork (jm2 42 qH0 qi0) (jm2 1 qH0 qi0))))
theorem Nh(sp:Value)(r:Report)(m:af)(now:Int):vE 78 [(az r),(ao m),nI now] ⟨0,.leaf⟩ (some [])
 (.go 22 (.fork (.go 30 (.slot 28 (nI (Int.tdiv r.has 2)) (.go 9 (.fork (jmq 36 r now) (jmq 1 r now))))) (.go 1 (.slot 28 (nI (Int.tdiv r.has 2)) (.go 9 (.fork (jmq 36 r now) (jmq 1 r now)))))))
 (fun v _ _=>v=sp)=IA sp r m now:=by kernel_rfl
abbrev Hm(qi0:Int):Value:=.tuple #[.agg #[nI 0,nI 0,nI 0,nI 0,nI 0,nI 0,nI 0,nI 0],nI qi0]
def Ef(sp:Value)(r:Report)(m:af)(now:Int):Prop :=
 (∃i_0:Int,(c0q 3 76 [(ao m),nI now] (nI i_0) (fk ((i_0:Int) != 0) ((Hm i_0)=sp) (∃i_1:Int,(c0q 3 77 [(az r)] (nI i_1) (fk ((i_1:Int) != 0) ((Hm i_1)=sp) (fk (decide ((now:Int)<r.at_)) ((.tuple #[.agg #[nI 0,nI 0,nI 0,nI 0,nI 0,nI 0,nI 0,nI 0],nI 12]:Value)=sp) (∃bP:Cell,(c0q 3 78 [(az r),(ao m),nI now] (cellV bP) ((.tuple #[(cellV bP),nI 0]:Value)=sp))))))))))
theorem KF(sp:Value)(r:Report)(m:af)(now:Int):vE 13 [(az r),(ao m),nI now] ⟨0,.leaf⟩ (some [])
 (.go 5 (.bind (Int) (fun r0 => .ans [] (nI r0) [] (.go 2 (.fork (.auto) (.go 0 (.bind (Int) (fun r1 => .ans [] (nI r1) [] (.go 2 (.fork (.auto) (.go 3 (.fork (.auto) (.go 2 (.bind (Cell) (fun r2 => .ans [] ((cellV r2)) [] (.auto))))))))))))))))
 (fun v _ _=>v=sp)=Ef sp r m now:=by kernel_rfl
abbrev nl(l:List Report):Int:=(l.length:Nat)
abbrev jq:Int:=(0:Nat)
abbrev jg(l:List Report):=slQ 0 2 l.length
abbrev gV:Prop:=(True)/\(True)/\(True)
abbrev jmj(qn0:Nat)(qA0:List Report):Prop:=(0:Int)<=(qn0:Int)/\(qn0:Int)<((qA0.length:Nat):Int)
abbrev iM(l:List Report):=l.flatMap ai
def A6(sp:Value)(l:List Report)(m:af)(now:Int):Prop :=
 (∃i_0:Int,(c0q 2 76 [(ao m),nI now] (nI i_0) (fk ((i_0:Int) != 0) ((nI i_0:Value)=sp) (fk (decide ((12:Int)<(nl l))) ((nI 2:Value)=sp) (lq (0<=List.length l/\cj (dr l now) 0=0) (true=true/\(eY=nI jq/\eR (nI now)/\wR (jg l)/\True)/\gV) (∀U:Nat,(U<=List.length l/\cj (dr l now) U=0)->(fk (decide ((U:Int)<(nl l))) ((jmj U l)/\((cu 14 (iM l) (0+Int.toNat (U:Int)*14)=some ((az (l.getD U ag))))/\∃i_2:Int,(c0q 2 77 [(az (l.getD U ag))] (nI i_2) (fk ((i_2:Int) != 0) ((nI i_2:Value)=sp) (lq (0<=U/\∀n_3:Nat,n_3<0->(l.getD n_3 ag).id≠(l.getD U ag).id) (true=true/\(eY=nI jq/\wR (jg l)/\eR (nI now)/\eR (nI (U:Int))/\eR (nI i_2)/\True)/\gV) (∀n_3:Nat,(n_3<=U/\∀n_4:Nat,n_4<n_3->(l.getD n_4 ag).id≠(l.getD U ag).id)->(fk (decide ((n_3:Int)<(U:Int))) ((jmj n_3 l)/\((iM l)[((0+Int.toNat (n_3:Int)*14)+0)]?=some (nI (l.getD n_3 ag).id))/\(jmj U l)/\((iM l)[((0+Int.toNat (U:Int)*14)+0)]?=some (nI (l.getD U ag).id))/\fk (((l.getD n_3 ag).id:Int) == (l.getD U ag).id) ((nI 10:Value)=sp) (nw ((n_3:Int)+1) (∃aQ:Nat,(aQ<=U/\∀n_4:Nat,n_4<aQ->(l.getD n_4 ag).id≠(l.getD U ag).id)/\(U-aQ)<(U-n_3)/\true=true/\((nI ((n_3:Int)+1):Value)=nI (aQ:Int)/\wR (jg l)/\eR (nI now)/\eR (nI (U:Int))/\eR (nI i_2)/\True)/\gV))) ((jmj U l)/\((iM l)[((0+Int.toNat (U:Int)*14)+3)]?=some (nI (l.getD U ag).x))/\(ixq 0 l.length)/\((iM l)[3]?=some (nI (l.getD 0 ag).x))/\fk (((l.getD U ag).x:Int) != (l.getD 0 ag).x) ((nI 1:Value)=sp) ((jmj U l)/\((iM l)[((0+Int.toNat (U:Int)*14)+4)]?=some (nI (l.getD U ag).y))/\(ixq 0 l.length)/\((iM l)[4]?=some (nI (l.getD 0 ag).y))/\fk (((l.getD U ag).y:Int) != (l.getD 0 ag).y) ((nI 1:Value)=sp) ((jmj U l)/\((iM l)[((0+Int.toNat (U:Int)*14)+2)]?=some (nI (l.getD U ag).at_))/\fk (decide ((now:Int)<(l.getD U ag).at_)) ((nI 12:Value)=sp) (nw ((U:Int)+1) (∃aQ:Nat,(aQ<=List.length l/\cj (dr l now) aQ=0)/\(List.length l-aQ)<(List.length l-U)/\true=true/\((nI ((U:Int)+1):Value)=nI (aQ:Int)/\eR (nI now)/\wR (jg l)/\True)/\gV)))))))))))) (eY=sp))))))))
abbrev fO(l:List Report)(m:af)(now:Int):List Value:=[slQ 0 2 l.length,(ao m),nI now]
abbrev l9(l:List Report):=aH 0 [l.flatMap ai]
abbrev sa(l:List Report):Nat×Value:=(0,slQ 0 2 l.length)
abbrev jme(qn0 qn1 qn2:Nat):Hint:=.go qn0 (.slot qn1 (nI ((qn2:Int)+1)) (.go 0 (.again [])))
theorem IX(sp:Value)(l:List Report)(m:af)(now:Int):vE 81 (fO l m now) (l9 l) (some [])
 (.go 3 (.bind (Int) (fun r0 => .ans [] (nI r0) [] (.go 2 (.fork (.auto) (.go 2 (.fork (.auto) (.go 0 (.inv 3 (Nat) (0) [] [] (fun J=>[(8,nI (J:Int)),(2,nI now),(sa l)]) (fun J=>[]) (fun J=>[]) (fun J=>[]) (fun J=>(J<=List.length l/\cj (dr l now) J=0)) (fun J=>(List.length l-J)) (fun J => .go 3 (.fork (.go 1 (.need (.val ((az (l.getD J ag))) (.bind (Int) (fun EQ => .ans [] (nI EQ) [] (.go 2 (.fork (.auto) (.go 0 (.inv 3 (Nat) (0) [] [] (fun U=>[(10,nI (U:Int)),(sa l),(2,nI now),(8,nI (J:Int)),(9,nI EQ)]) (fun U=>[]) (fun U=>[]) (fun U=>[]) (fun U=>(U<=J/\∀Z:Nat,Z<U->(l.getD Z ag).id≠(l.getD J ag).id)) (fun U=>(J-U)) (fun U => .go 2 (.fork (.go 1 (.need (.go 0 (.val (nI (l.getD U ag).id) (.go 1 (.need (.go 0 (.val (nI (l.getD J ag).id) (.go 0 (.fork (.auto) (jme 1 38 U))))))))))) (.go 1 (.need (.go 0 (.val (nI (l.getD J ag).x) (.go 0 (.need (.go 0 (.val (nI (l.getD 0 ag).x) (.go 1 (.am (.auto) (.go 1 (.need (.go 0 (.val (nI (l.getD J ag).y) (.go 0 (.need (.go 0 (.val (nI (l.getD 0 ag).y) (.go 1 (.fork (.auto) (.go 1 (.need (.go 0 (.val (nI (l.getD J ag).at_) (.go 1 (.fork (.auto) (jme 1 25 J)))))))))))))))))))))))))))))))))))))) (.auto))))))))))))
 (fun v _ _=>v=sp)=A6 sp l m now:=by kernel_rfl
abbrev rZ:Value:=.slice none 0 0
abbrev iB:Value:=.slice none 0 0
abbrev nk:Prop:=True/\True
abbrev xU:Prop:=(True)/\nk/\(True)
abbrev oB(J:Nat):Value:=nI ((J:Int)+1)
abbrev JG(l:List Report)(now:Int)(J:Nat):Prop:=eR iB/\eR (pt 1)/\wR (jg l)/\eR (nI now)/\eR (nI (J:Int))/\True
abbrev qO(J U:Nat):Int:=((J+1+U):Nat)
abbrev Hk(qn0:Nat)(qA0:List Report)(qB0:af)(qi0:Int)(qn1 qn2:Nat):Value:=slQ qn0 1 (conf (told qA0 qB0 qi0) qn1++aU (told qA0 qB0 qi0) qn1 qn2).length
abbrev Hl(qA0:List Report)(qB0:af)(qi0:Int)(qn0 qn1:Nat):ah:=.cells true 2 ((conf (told qA0 qB0 qi0) qn0++aU (told qA0 qB0 qi0) qn0 qn1).flatMap bo)
abbrev jh(l:List Report)(m:af)(now:Int):=conf (told l m now) l.length
def Eb(l:List Report)(m:af)(now:Int):Prop :=
 (lq (0<=List.length l) (true=true/\(eY=nI jq/\wk rZ (slQ 0 1 (conf (told l m now) 0).length:Value)/\eR (nI now)/\wR (jg l)/\eR (pt 1)/\eR iB/\True)/\xU) (∀J:Nat,(J<=List.length l)->(fk (decide ((J:Int)<(nl l))) (nw ((J:Int)+1) (lq (J+1+0<=List.length l) (true=true/\((oB J)=nI (((J+1+0):Nat):Int)/\wk (slQ 2 1 (conf (told l m now) J).length:Value) (slQ 2 1 (conf (told l m now) J++aU (told l m now) J 0).length:Value)/\JG l now J)/\nk/\((kbq 3 (.cells true 2 ((conf (told l m now) J).flatMap bo)) (.cells true 2 ((conf (told l m now) J++aU (told l m now) J 0).flatMap bo)))/\True)/\True) (∀U:Nat,(J+1+U<=List.length l)->(fk (decide (((qO J U):Int)<(nl l))) ((jmj J l)/\(cu 14 (iM l) (0+Int.toNat (J:Int)*14)=some ((az (l.getD J ag))))/\(ixq (qO J U) l.length)/\((cu 14 (iM l) (0+Int.toNat (qO J U)*14)=some ((az (l.getD (J+1+U) ag))))/\∃bP:Cell,(c0q 4 78 [(az (l.getD J ag)),(ao m),nI now] (cellV bP) (∃ir:Cell,(c0q 4 78 [(az (l.getD (J+1+U) ag)),(ao m),nI now] (cellV ir) (∃c_4:Bool,(c0q 4 109 [(cellV bP),(cellV ir)] (.bool c_4) (fk c_4 (apq (conf (told l m now) J++aU (told l m now) J U).length 16 2 ((conf (told l m now) J++aU (told l m now) J U).flatMap bo) [nI (J:Int),nI (qO J U)] (nw ((qO J U)+1) (∃cZ:Nat,(J+1+cZ<=List.length l)/\(List.length l-(J+1)-cZ)<(List.length l-(J+1)-U)/\true=true/\((nI ((qO J U)+1):Value)=nI (((J+1+cZ):Nat):Int)/\wk (slN 5 ((conf (told l m now) J++aU (told l m now) J U).length+1):Value) (Hk 5 l m now J cZ)/\JG l now J)/\nk/\((kbq 3 (.cells true 2 (((((conf (told l m now) J++aU (told l m now) J U).flatMap bo).drop 0).take ((conf (told l m now) J++aU (told l m now) J U).length*2))++((([nI (J:Int),nI (qO J U)]:List Value).drop 0).take (1*2)))) (Hl l m now J cZ))/\True)/\True))) (nw ((qO J U)+1) (∃cZ:Nat,(J+1+cZ<=List.length l)/\(List.length l-(J+1)-cZ)<(List.length l-(J+1)-U)/\true=true/\((nI ((qO J U)+1):Value)=nI (((J+1+cZ):Nat):Int)/\wk (Hk 3 l m now J U) (Hk 3 l m now J cZ)/\JG l now J)/\nk/\((kbq 3 (Hl l m now J U) (Hl l m now J cZ))/\True)/\True)))))))))) (nw ((J:Int)+1) (∃bH:Nat,(bH<=List.length l)/\(List.length l-bH)<(List.length l-J)/\true=true/\((oB J)=nI (bH:Int)/\wk (Hk 3 l m now J U) (slQ 3 1 (conf (told l m now) bH).length:Value)/\eR (nI now)/\wR (jg l)/\eR (pt 1)/\eR iB/\True)/\(True)/\((kbq 2 (Hl l m now J U) (.cells true 2 ((conf (told l m now) bH).flatMap bo)))/\True)/\True)))))) (true=true/\wk (slQ 2 1 (conf (told l m now) J).length:Value) (rn (sg 1 [(1,2)]) 3 (slQ 1 1 (jh l m now).length:Value))/\(kbq 1 (.cells true 2 ((conf (told l m now) J).flatMap bo)) (.cells true 2 ((jh l m now).flatMap bo)))/\True))))
abbrev sd:Nat×Value:=(6,.slice none 0 0)
abbrev jmh(qn0 qn1 qn2 qn3 qn4:Nat):Hint:=.go qn0 (.slot qn1 (nI ((qn2:Int)+1)) (.go 0 (.again [(qn3,qn4)])))
theorem KA(l:List Report)(m:af)(now:Int):vE 82 (fO l m now) (l9 l) (some [])
 (.go 3 (.inv 3 (Nat) (0) [] [] (fun J=>[(8,nI (J:Int)),(7,slQ 2 1 (conf (told l m now) J).length),(2,nI now),(sa l),(4,pt 1),sd]) (fun J=>[]) (fun J=>[(true,.cells true 2 ((conf (told l m now) J).flatMap bo))]) (fun J=>[]) (fun J=>(J<=List.length l)) (fun J=>(List.length l-J)) (fun J => .go 3 (.fork (.go 1 (.slot 17 (nI ((J:Int)+1)) (.go 0 (.inv 3 (Nat) (0) [(3,2)] [2] (fun U=>[(9,nI (qO J U)),(7,slQ 3 1 (conf (told l m now) J++aU (told l m now) J U).length),sd,(4,pt 1),(sa l),(2,nI now),(8,nI (J:Int))]) (fun U=>[(2,false,.dead)]) (fun U=>[(true,.cells true 2 ((conf (told l m now) J++aU (told l m now) J U).flatMap bo))]) (fun U=>[]) (fun U=>(J+1+U<=List.length l)) (fun U=>(List.length l-(J+1)-U)) (fun U => .go 3 (.fork (.go 1 (.need (.val ((az (l.getD J ag))) (.go 3 (.need (.val ((az (l.getD (J+1+U) ag))) (.go 1 (.bind (Cell) (fun r2 => .ans [] ((cellV r2)) [] (.bind (Cell) (fun r3 => .ans [] ((cellV r3)) [] (.bind (Bool) (fun r4 => .ans [] (.bool r4) [] (.fork (.go 4 (.need (.go 2 (.slot 23 (nI ((qO J U)+1)) (.go 0 (.again [(3,5)])))))) (.go 1 (.slot 23 (nI ((qO J U)+1)) (.go 0 (.again [(3,3)])))))))))))))))))) (jmh 1 15 J 2 3))))))) (.go 1 (.again [(1,2)]))))))
 (er ((l9 l):HT).n 3 (slQ 1 1 (jh l m now).length) [(true,.cells true 2 ((jh l m now).flatMap bo))])=Eb l m now:=by kernel_rfl
abbrev jM(l:List Report):ah:=.cells false 0 (iM l)
abbrev Fo(i_0:Int):Value:=.tuple #[.slice none 0 0,nI i_0]
abbrev Fr(qA0:List Report)(qB0:af)(qi0:Int):ah:=.cells true 2 ((conf (told qA0 qB0 qi0) qA0.length).flatMap bo)
def rL(l:List Report)(m:af)(now:Int):Prop :=
 (∃i_0:Int,(c1q 2 0 (jM l) 81 (fO l m now) (nI i_0) (fk ((i_0:Int) != 0) (true=true/\wk (Fo i_0) (rn (sg 1 []) 3 (.tuple #[slQ 1 1 (List.length (a7 l m now).1),nI (a7 l m now).2]:Value))/\nk) (n1q 2 0 (jM l) 82 (fO l m now) (slQ 2 1 (jh l m now).length) [(Fr l m now)] (true=true/\wk (.tuple #[slQ 2 1 (jh l m now).length,nI 0]:Value) (rn (sg 1 [(1,2)]) 3 (.tuple #[slQ 1 1 (List.length (a7 l m now).1),nI (a7 l m now).2]:Value))/\(kbq 1 (.cells true 2 ((jh l m now).flatMap bo)) (.cells true 2 (List.flatMap bo (a7 l m now).1)))/\True)))))
abbrev qP(l:List Report):List (Nat×ah):=[(0,.cells false 0 (iM l))]
theorem Bg(l:List Report)(m:af)(now:Int):vE 17 (fO l m now) (l9 l) (some [])
 (.go 5 (.bind (Int) (fun r0 => .ans (qP l) (nI r0) [] (.go 2 (.fork (.go 2 (.again [])) (.go 2 (.ans (qP l) (slQ 2 1 (jh l m now).length) [.cells true 2 ((jh l m now).flatMap bo)] (.go 1 (.again [(1,2)])))))))))
 (er ((l9 l):HT).n 3 (.tuple #[slQ 1 1 (List.length (a7 l m now).1),nI (a7 l m now).2]) [(true,.cells true 2 (List.flatMap bo (a7 l m now).1))])=rL l m now:=by kernel_rfl
abbrev L6:Prop:=eR (pt 1)/\eR (pt 2)/\eR (nI 0)/\eR (pt 4)/\True
abbrev jmk:=kbq 5 (.cells true 0 [nI 0,nI 100,nI 0,nI 400,nI 0,nI 100,nI 0,nI 3]) (.cells true 0 [nI (0,aO).2.ae.lo,nI (0,aO).2.ae.hi,nI (0,aO).2.ab.lo,nI (0,aO).2.ab.hi,nI (0,aO).2.aa.lo,nI (0,aO).2.aa.hi,nI (0,aO).2.ac.lo,nI (0,aO).2.ac.hi])
abbrev JH(qB0:af):List Value:=[nI qB0.up.ae,nI qB0.up.ab,nI qB0.up.aa,nI qB0.up.ac,nI qB0.down.ae,nI qB0.down.ab,nI qB0.down.aa,nI qB0.down.ac]
abbrev jmb(qB0:af):=krq 5 (.cells true 0 (JH qB0))
abbrev vm:Prop:=(True)/\(True)
abbrev JO(qI0:Nat×Cell)(qA0:List Report)(qB0:af)(qi0:Int):Prop:=qI0.1<=List.length qA0/\tog (told qA0 qB0 qi0) (2 ^ List.length qA0-1) qI0.1=some qI0.2
abbrev JR(qD0:Cell):ah:=.cells true 0 [nI qD0.ae.lo,nI qD0.ae.hi,nI qD0.ab.lo,nI qD0.ab.hi,nI qD0.aa.lo,nI qD0.aa.hi,nI qD0.ac.lo,nI qD0.ac.hi]
abbrev JI(qI0:Nat×Cell):List Value:=[nI qI0.2.ae.lo,nI qI0.2.ae.hi,nI qI0.2.ab.lo,nI qI0.2.ab.hi,nI qI0.2.aa.lo,nI qI0.2.aa.hi,nI qI0.2.ac.lo,nI qI0.2.ac.hi]
abbrev jmd(qI0:Nat×Cell):ah:=.cells true 0 (JI qI0)
def ID(sp:Value)(l:List Report)(m:af)(now:Int):Prop :=
 (∃i_0:Int,(c1q 3 0 (jM l) 81 (fO l m now) (nI i_0) (fk ((i_0:Int) != 0) ((Hm i_0)=sp) (n1q 3 0 (jM l) 82 (fO l m now) (slQ 3 1 (jh l m now).length) [(Fr l m now)] (∃i_1:Int,bw (((jh l m now).length:Nat):Int) i_1/\fk (decide ((0:Int)<i_1)) ((.tuple #[.agg #[nI 0,nI 0,nI 0,nI 0,nI 0,nI 0,nI 0,nI 0],nI 21]:Value)=sp) (true=true/\((0,aO).1<=List.length l/\tog (told l m now) (2 ^ List.length l-1) (0,aO).1=some (0,aO).2)/\(true=true/\(eY=nI (((0,aO).1:Nat):Int)/\eR (nI now)/\wR (jg l)/\L6)/\(jmk/\(jmb m)/\True)/\vm)/\(∀iw:Nat×Cell,true=true)/\∀iw:Nat×Cell,(JO iw l m now)->(fk (decide ((((iw.1:Nat):Int):Int)<(nl l))) ((ixq ((iw.1:Nat):Int) l.length)/\((cu 14 (iM l) (0+Int.toNat ((iw.1:Nat):Int)*14)=some ((az (l.getD iw.1 ag))))/\∃bP:Cell,(c0q 5 78 [(az (l.getD iw.1 ag)),(ao m),nI now] (cellV bP) (∃ir:Cell,(c0q 5 83 [(cellV iw.2),(cellV bP)] (cellV ir) (nw (((iw.1:Nat):Int)+1) (∃CS:Nat×Cell,(JO CS l m now)/\(List.length l-CS.1)<(List.length l-iw.1)/\true=true/\((nI (((iw.1:Nat):Int)+1):Value)=nI ((CS.1:Nat):Int)/\eR (nI now)/\wR (jg l)/\L6)/\((kbq 5 (JR ir) (jmd CS))/\(jmb m)/\True)/\vm))))))) ((.tuple #[(cellV iw.2),nI 0]:Value)=sp))))))))
abbrev jmy(qI0:Nat×Cell):Nat×Bool×ah:=(4,true,.cells true 0 (JI qI0))
abbrev Ob(qB0:af):Nat×Bool×ah:=(1,true,.cells true 0 (JH qB0))
abbrev Ma(qn0:Nat)(qI0:Nat×Cell):Hint:=.slot qn0 (nI (((qI0.1:Nat):Int)+1)) (.go 0 (.again []))
theorem Nk(sp:Value)(l:List Report)(m:af)(now:Int):vE 15 (fO l m now) (l9 l) (some [])
 (.go 5 (.bind (Int) (fun r0 => .ans (qP l) (nI r0) [] (.go 2 (.fork (.auto) (.go 2 (.ans (qP l) (slQ 3 1 (jh l m now).length) [.cells true 2 ((jh l m now).flatMap bo)] (.go 0 (.bind Int (fun i_0 => .slot 23 (nI i_0) (.go 0 (.fork (.auto) (.go 10 (.inv 3 (Nat×Cell) ((0,aO)) [] [4,1] (fun iw=>[(10,nI ((iw.1:Nat):Int)),(2,nI now),(sa l),(4,pt 1),(6,pt 2),(7,nI 0),(9,pt 4)]) (fun iw=>[(jmy iw),(Ob m)]) (fun iw=>[]) (fun iw=>[]) (fun iw=>(JO iw l m now)) (fun iw=>(List.length l-iw.1)) (fun iw => .go 3 (.fork (.go 2 (.need (.val ((az (l.getD iw.1 ag))) (.go 1 (.bind (Cell) (fun LB => .ans [] ((cellV LB)) [] (.bind (Cell) (fun r5 => .ans [] ((cellV r5)) [] (.go 2 (Ma 32 iw)))))))))) (.auto)))))))))))))))))
 (fun v _ _=>v=sp)=ID sp l m now:=by kernel_rfl
abbrev xR(b:List Bool):Value:=.agg ⟨(b.flatMap aC)⟩
abbrev Cb(b:List Bool):Value:=.iface (b.length+1) (xR b)
abbrev JF(b:List Bool):Prop:=(Cb b)=rn (sg 0 []) 3 (Cb b)/\eR (nI 0)/\True
abbrev Ca(b:List Bool)(J:Nat):Int:=((cL b J):Nat)
def Ec(sp:Value)(b:List Bool):Prop :=
 (lq (0<=List.length b) (true=true/\(eY=nI jq/\eY=nI (((cL b 0):Nat):Int)/\JF b)/\gV) (∀J:Nat,(J<=List.length b)->(fk (decide ((J:Int)<((b.length:Nat):Int))) (((0:Int)<=(J:Int)/\(J:Int)<((b.length:Nat):Int))/\((b.flatMap aC)[(Int.toNat (J:Int)*1)]?=some (.bool (b.getD J false)))/\fk (b.getD J false) (nw ((Ca b J)+1) (nw ((J:Int)+1) (∃bJ:Nat,(bJ<=List.length b)/\(List.length b-bJ)<(List.length b-J)/\true=true/\((oB J)=nI (bJ:Int)/\(nI ((Ca b J)+1):Value)=nI (((cL b bJ):Nat):Int)/\JF b)/\gV))) (nw ((J:Int)+1) (∃bJ:Nat,(bJ<=List.length b)/\(List.length b-bJ)<(List.length b-J)/\true=true/\((oB J)=nI (bJ:Int)/\(nI (Ca b J):Value)=nI (((cL b bJ):Nat):Int)/\JF b)/\gV))) ((nI (Ca b J):Value)=sp))))
theorem KB(sp:Value)(b:List Bool):vE 157 [.iface (b.length+1) (xR b)] ⟨0,.leaf⟩ (some [])
 (.go 2 (.inv 3 (Nat) (0) [] [] (fun J=>[(4,nI (J:Int)),(3,nI (Ca b J)),(0,.iface (b.length+1) (xR b)),(2,nI 0)]) (fun J=>[]) (fun J=>[]) (fun J=>[]) (fun J=>(J<=List.length b)) (fun J=>(List.length b-J)) (fun J => .go 3 (.fork (.go 1 (.need (.val (.bool (b.getD J false)) (.fork (.go 1 (.slot 16 (nI ((Ca b J)+1)) (jme 2 10 J))) (jme 1 10 J))))) (.auto)))))
 (fun v _ _=>v=sp)=Ec sp b:=by kernel_rfl
abbrev vn(b:List Bool)(d:Nat):Int:=((List.length b+d):Nat)
abbrev Fq(p:List (Nat×Nat))(b:List Bool)(d:Nat):Prop:=wR (slQ 0 2 p.length)/\eR (nI (vn b d))/\(Cb b)=rn (sg 1 []) 3 (Cb b)/\eR iB/\True
abbrev Fp(p:List (Nat×Nat)):ah:=.cells false 0 (p.flatMap bo)
abbrev iN(qJ0:List (Nat×Nat))(qn0:Nat)(qK0:List Bool):=lst qJ0 (qn0-1) (qK0 ++ [false])
abbrev qN(qJ0:List (Nat×Nat))(qn0:Nat)(qK0:List Bool):=lst qJ0 (qn0-1) (qK0 ++ [true])
abbrev JM(qJ0:List (Nat×Nat))(qn0:Nat)(qK0:List Bool):Prop:=((iN qJ0 qn0 qK0).length<=(iN qJ0 qn0 qK0).length/\0+(iN qJ0 qn0 qK0).length*1<=List.length (dBL (iN qJ0 qn0 qK0)))/\((((dBL (iN qJ0 qn0 qK0)).drop 0).take ((iN qJ0 qn0 qK0).length*1)):List Value).all (fun v=>dS v)=true
abbrev jm1(qJ0:List (Nat×Nat))(qn0:Nat)(qK0:List Bool)(qn1 qn2:Nat):=ck ((iN qJ0 qn0 qK0).length=0) ((((qN qJ0 qn0 qK0).length+(iN qJ0 qn0 qK0).length)*24<=2 ^ 44/\(iN qJ0 qn0 qK0).length=0)/\(true=true/\wk (slQ qn1 1 (qN qJ0 qn0 qK0).length:Value) (rn (sg 1 [(1,qn1)]) 3 (slQ 1 1 (lst qJ0 qn0 qK0).length:Value))/\((kbq 1 (.cells true 1 (dBL (qN qJ0 qn0 qK0))) (.cells true 1 (dBL (lst qJ0 qn0 qK0))))/\True))) ((((qN qJ0 qn0 qK0).length+(iN qJ0 qn0 qK0).length)*24<=2 ^ 44/\(iN qJ0 qn0 qK0).length≠0/\((qN qJ0 qn0 qK0).length<=(qN qJ0 qn0 qK0).length/\0+(qN qJ0 qn0 qK0).length*1<=List.length (dBL (qN qJ0 qn0 qK0)))/\JM qJ0 qn0 qK0)/\true=true/\(true=true/\wk (slN qn2 ((qN qJ0 qn0 qK0).length+(iN qJ0 qn0 qK0).length):Value) (rn (sg 1 [(1,qn2)]) 3 (slQ 1 1 (lst qJ0 qn0 qK0).length:Value))/\((kbq 1 (.cells true 1 ((((dBL (qN qJ0 qn0 qK0)).drop 0).take ((qN qJ0 qn0 qK0).length*1))++(((dBL (iN qJ0 qn0 qK0)).drop 0).take ((iN qJ0 qn0 qK0).length*1)))) (.cells true 1 (dBL (lst qJ0 qn0 qK0))))/\True)))
abbrev jmp(qK0:List Bool)(qn0:Nat)(qJ0:List (Nat×Nat))(qn1 qn2 qn3:Nat):Prop:=((0+qK0.length)*1<=2 ^ 44/\qK0.length=0)/\(n1q qn0 0 (.cells false 0 (qJ0.flatMap bo)) 156 [.iface (1+1) (.agg ⟨[.bool false]⟩),nI (((List.length qK0+qn1):Nat):Int),slQ 0 2 qJ0.length] (slQ qn0 1 (lst qJ0 (qn1-1) (qK0 ++ [false])).length) [(.cells true 1 (dBL (lst qJ0 (qn1-1) (qK0 ++ [false]))):ah)] (jm1 qJ0 qn1 qK0 qn2 qn3))
abbrev xT:List Value:=[]
abbrev JE(qK0:List Bool):Prop:=qK0.length<=qK0.length/\0+qK0.length*1<=List.length (qK0.flatMap aC)
abbrev JL:Prop:=(1<=1/\0+1*1<=List.length ([.bool false]:List Value))/\(((([.bool false]:List Value).drop 0).take (1*1)):List Value).all (fun v=>dS v)=true
abbrev jm7(qK0:List Bool)(qn0:Nat)(qJ0:List (Nat×Nat))(qn1 qn2 qn3:Nat):Prop:=((0+qK0.length)*1<=2 ^ 44/\qK0.length≠0/\(0<=0/\0+0*1<=List.length xT)/\(JE qK0)/\((((qK0.flatMap aC).drop 0).take (qK0.length*1)):List Value).all (fun v=>dS v)=true)/\true=true/\((((0+qK0.length)+1)*1<=2 ^ 44/\1≠0/\((0+qK0.length)<=(0+qK0.length)/\0+(0+qK0.length)*1<=List.length (((xT.drop 0).take (0*1))++(((qK0.flatMap aC).drop 0).take (qK0.length*1))))/\JL)/\true=true/\(n1q qn0 0 (.cells false 0 (qJ0.flatMap bo)) 156 [.iface (((0+qK0.length)+1)+1) (.agg ⟨((((((xT.drop 0).take (0*1))++(((qK0.flatMap aC).drop 0).take (qK0.length*1))).drop 0).take ((0+qK0.length)*1))++((([.bool false]:List Value).drop 0).take (1*1)))⟩),nI (((List.length qK0+qn1):Nat):Int),slQ 0 2 qJ0.length] (slQ qn0 1 (lst qJ0 (qn1-1) (qK0 ++ [false])).length) [(.cells true 1 (dBL (lst qJ0 (qn1-1) (qK0 ++ [false]))):ah)] (jm1 qJ0 qn1 qK0 qn2 qn3)))
abbrev jmn(qK0:List Bool):Prop:=(0+qK0.length)*1<=2 ^ 44/\qK0.length≠0/\(0<=0/\0+0*1<=List.length xT)/\(JE qK0)/\((((qK0.flatMap aC).drop 0).take (qK0.length*1)):List Value).all (fun v=>dS v)=true
abbrev jmz(qK0:List Bool):Prop:=(0+qK0.length)<=(0+qK0.length)/\0+(0+qK0.length)*1<=List.length (((xT.drop 0).take (0*1))++(((qK0.flatMap aC).drop 0).take (qK0.length*1)))
abbrev jm8(qJ0:List (Nat×Nat))(qn0:Nat)(qK0:List Bool)(qn1:Nat):=ck ((iN qJ0 qn0 qK0).length=0) (((0+(iN qJ0 qn0 qK0).length)*24<=2 ^ 44/\(iN qJ0 qn0 qK0).length=0)/\(true=true/\wk rZ (rn (sg 1 []) 3 (slQ 1 1 (lst qJ0 qn0 qK0).length:Value))/\nk)) (((0+(iN qJ0 qn0 qK0).length)*24<=2 ^ 44/\(iN qJ0 qn0 qK0).length≠0/\(0=0)/\JM qJ0 qn0 qK0)/\true=true/\(true=true/\wk (slN qn1 (0+(iN qJ0 qn0 qK0).length):Value) (rn (sg 1 [(1,qn1)]) 3 (slQ 1 1 (lst qJ0 qn0 qK0).length:Value))/\((kbq 1 (.cells true 1 ([]++(((dBL (iN qJ0 qn0 qK0)).drop 0).take ((iN qJ0 qn0 qK0).length*1)))) (.cells true 1 (dBL (lst qJ0 qn0 qK0))))/\True)))
def yq(b:List Bool)(d:Nat)(p:List (Nat×Nat)):Prop :=
 (fk ((((b.length:Nat):Int):Int) == (vn b d)) (true=true/\wk (slN 1 1:Value) (rn (sg 1 [(1,1)]) 3 (slQ 1 1 (lst p d b).length:Value))/\(kbq 1 (.cells true 1 [.iface (b.length+1) (xR b)]) (.cells true 1 (dBL (lst p d b))))/\True) (lq (0<=List.length p) (true=true/\(eY=nI jq/\(.bool true:Value) = .bool (eF p b 0)/\Fq p b d)/\gV) (∀J:Nat,(J<=List.length p)->(fk (decide ((J:Int)<((p.length:Nat):Int))) (fk (eF p b J) (((0:Int)<=(J:Int)/\(J:Int)<((p.length:Nat):Int))/\((p.flatMap bo)[((0+Int.toNat (J:Int)*2)+1*1)]?=some (nI (((p.getD J (0,0)).2:Nat):Int)))/\fk (((((p.getD J (0,0)).2:Nat):Int):Int) != ((b.length:Nat):Int)) (nw ((J:Int)+1) (∃bJ:Nat,(bJ<=List.length p)/\(List.length p-bJ)<(List.length p-J)/\true=true/\((oB J)=nI (bJ:Int)/\(.bool true:Value) = .bool (eF p b bJ)/\Fq p b d)/\gV)) (((0:Int)<=(J:Int)/\(J:Int)<((p.length:Nat):Int))/\((p.flatMap bo)[((0+Int.toNat (J:Int)*2)+0*1)]?=some (nI (((p.getD J (0,0)).1:Nat):Int)))/\(ixq (((p.getD J (0,0)).1:Nat):Int) b.length)/\((b.flatMap aC)[(Int.toNat (((p.getD J (0,0)).1:Nat):Int)*1)]?=some (.bool (List.getD b (p.getD J (0,0)).1 false)))/\nw ((J:Int)+1) (∃bJ:Nat,(bJ<=List.length p)/\(List.length p-bJ)<(List.length p-J)/\true=true/\((oB J)=nI (bJ:Int)/\(.bool (!(List.getD b (p.getD J (0,0)).1 false)):Value) = .bool (eF p b bJ)/\Fq p b d)/\gV))) (nw ((J:Int)+1) (∃bJ:Nat,(bJ<=List.length p)/\(List.length p-bJ)<(List.length p-J)/\true=true/\((oB J)=nI (bJ:Int)/\(.bool false:Value) = .bool (eF p b bJ)/\Fq p b d)/\gV))) (fk (eF p b J) (ck (b.length=0) (((0+b.length)*1<=2 ^ 44/\b.length=0)/\n1q 5 0 (Fp p) 156 [.iface (1+1) (.agg ⟨[.bool true]⟩),nI (vn b d),slQ 0 2 p.length] (slQ 5 1 (lst p (d-1) (b ++ [true])).length) [(.cells true 1 (dBL (lst p (d-1) (b ++ [true]))):ah)] (ck (b.length=0) (jmp b 10 p d 5 11) (jm7 b 11 p d 5 12))) ((jmn b)/\true=true/\(((0+b.length)+1)*1<=2 ^ 44/\1≠0/\(jmz b)/\(1<=1/\0+1*1<=List.length ([.bool true]:List Value))/\(((([.bool true]:List Value).drop 0).take (1*1)):List Value).all (fun v=>dS v)=true)/\true=true/\n1q 6 0 (Fp p) 156 [.iface (((0+b.length)+1)+1) (.agg ⟨((((((xT.drop 0).take (0*1))++(((b.flatMap aC).drop 0).take (b.length*1))).drop 0).take ((0+b.length)*1))++((([.bool true]:List Value).drop 0).take (1*1)))⟩),nI (vn b d),slQ 0 2 p.length] (slQ 6 1 (lst p (d-1) (b ++ [true])).length) [(.cells true 1 (dBL (lst p (d-1) (b ++ [true]))):ah)] (ck (b.length=0) (jmp b 11 p d 6 12) (jm7 b 12 p d 6 13)))) (ck (b.length=0) (((0+b.length)*1<=2 ^ 44/\b.length=0)/\n1q 5 0 (Fp p) 156 [.iface (1+1) (.agg ⟨[.bool false]⟩),nI (vn b d),slQ 0 2 p.length] (slQ 5 1 (lst p (d-1) (b ++ [false])).length) [(.cells true 1 (dBL (lst p (d-1) (b ++ [false]))):ah)] (jm8 p d b 6)) ((jmn b)/\true=true/\(((0+b.length)+1)*1<=2 ^ 44/\1≠0/\(jmz b)/\JL)/\true=true/\n1q 6 0 (Fp p) 156 [.iface (((0+b.length)+1)+1) (.agg ⟨((((((xT.drop 0).take (0*1))++(((b.flatMap aC).drop 0).take (b.length*1))).drop 0).take ((0+b.length)*1))++((([.bool false]:List Value).drop 0).take (1*1)))⟩),nI (vn b d),slQ 0 2 p.length] (slQ 6 1 (lst p (d-1) (b ++ [false])).length) [(.cells true 1 (dBL (lst p (d-1) (b ++ [false]))):ah)] (jm8 p d b 7))))))))
abbrev jm9(qn0:Nat)(qJ0:List (Nat×Nat))(qn1 qn2:Nat)(qK0:List Bool)(qn3 qn4:Nat):Hint:=.go qn0 (.frz [62] (.ans [(0,.cells false 0 (qJ0.flatMap bo))] (slQ qn1 1 (lst qJ0 (qn2-1) (qK0 ++ [false])).length) [.cells true 1 (dBL (lst qJ0 (qn2-1) (qK0 ++ [false])))] (.cas ((lst qJ0 (qn2-1) (qK0 ++ [false])).length=0) (.val (.bool true) (.go 0 (.again [(1,qn3)]))) (.need (.go 0 (.again [(1,qn4)]))))))
abbrev jmv(qJ0:List (Nat×Nat))(qn0 qn1:Nat)(qK0:List Bool)(qn2 qn3 qn4:Nat):Hint:=.frz [52] (.ans [(0,.cells false 0 (qJ0.flatMap bo))] (slQ qn0 1 (lst qJ0 (qn1-1) (qK0 ++ [true])).length) [.cells true 1 (dBL (lst qJ0 (qn1-1) (qK0 ++ [true])))] (.go 2 (.frz [57] (.cas (qK0.length=0) (.val (.bool true) (jm9 6 qJ0 qn2 qn1 qK0 qn0 qn3)) (.need (.go 3 (.need (jm9 1 qJ0 qn3 qn1 qK0 qn0 qn4))))))))
abbrev jms(qJ0:List (Nat×Nat))(qn0 qn1:Nat)(qK0:List Bool)(qn2:Nat):Hint:=.frz [62] (.ans [(0,.cells false 0 (qJ0.flatMap bo))] (slQ qn0 1 (lst qJ0 (qn1-1) (qK0 ++ [false])).length) [.cells true 1 (dBL (lst qJ0 (qn1-1) (qK0 ++ [false])))] (.cas ((lst qJ0 (qn1-1) (qK0 ++ [false])).length=0) (.val (.bool true) (.go 0 (.again []))) (.need (.go 0 (.again [(1,qn2)])))))
theorem Eu(b:List Bool)(d:Nat)(p:List (Nat×Nat)):vE 156 [.iface (b.length+1) (xR b),nI (vn b d),slQ 0 2 p.length] (aH 0 [p.flatMap bo]) (some [])
 (.go 4 (.fork (.go 2 (.again [(1,1)])) (.go 1 (.inv 3 (Nat) (0) [] [] (fun J=>[(8,nI (J:Int)),(7,.bool (eF p b J)),(2,slQ 0 2 p.length),(1,nI (vn b d)),(0,.iface (b.length+1) (xR b)),sd]) (fun J=>[]) (fun J=>[]) (fun J=>[]) (fun J=>(J<=List.length p)) (fun J=>(List.length p-J)) (fun J => .go 3 (.fork (.go 1 (.am (.go 1 (.need (.go 0 (.val (nI (((p.getD J (0,0)).2:Nat):Int)) (.go 3 (.am (jme 4 23 J) (.go 2 (.need (.go 0 (.val (nI (((p.getD J (0,0)).1:Nat):Int)) (.need (.val (.bool (List.getD b (p.getD J (0,0)).1 false)) (jme 5 23 J))))))))))))) (jme 3 23 J))) (.go 1 (.fork (.go 1 (.frz [48] (.cas (b.length=0) (.val (.bool true) (.go 5 (jmv p 5 d b 10 11 12))) (.need (.go 2 (.need (.go 1 (jmv p 6 d b 11 12 13)))))))) (.go 1 (.frz [57] (.cas (b.length=0) (.val (.bool true) (.go 6 (jms p 5 d b 6))) (.need (.go 3 (.need (.go 1 (jms p 6 d b 7))))))))))))))))
 (er ((aH 0 [p.flatMap bo]):HT).n 3 (slQ 1 1 (lst p d b).length) [(true,.cells true 1 (dBL (lst p d b)))])=yq b d p:=by kernel_rfl
abbrev dN(l:List Report)(m:af)(now:Int):=eK (told l m now)
abbrev JQ(qn0:Nat)(qA0:List Report)(qB0:af)(qi0:Int):Prop:=(0:Int)<=(qn0:Int)/\(qn0:Int)<(((eK (told qA0 qB0 qi0)).length:Nat):Int)
abbrev jmf(qA0:List Report)(qB0:af)(qi0:Int)(qn0:Nat):Value:=.iface (((eK (told qA0 qB0 qi0)).getD qn0 []).length+1) (.agg ⟨(((eK (told qA0 qB0 qi0)).getD qn0 []).flatMap aC)⟩)
abbrev JP(qA0:List Report)(qB0:af)(qi0:Int)(qn0:Nat):Prop:=(dBL (eK (told qA0 qB0 qi0)))[(0+Int.toNat (qn0:Int)*1)]?=some (jmf qA0 qB0 qi0 qn0)
abbrev JJ(l:List Report)(m:af)(now:Int)(J:Nat):Prop:=wR (slQ 3 1 (dN l m now).length)/\eR iB/\eR (nI (((cV (dN l m now) J):Nat):Int))/\True
abbrev jm6(qA0:List Report)(qB0:af)(qi0:Int)(qn0:Nat):=gN (eK (told qA0 qB0 qi0)) (cV (eK (told qA0 qB0 qi0)) (eK (told qA0 qB0 qi0)).length) qn0
abbrev jmt(qA0:List Report)(qB0:af)(qi0:Int)(qn0:Nat):List Value:=[.iface (((eK (told qA0 qB0 qi0)).getD qn0 []).length+1) (.agg ⟨(((eK (told qA0 qB0 qi0)).getD qn0 []).flatMap aC)⟩)]
abbrev zO(Z:Nat):Value:=nI ((Z:Int)+1)
abbrev bU(l:List Report)(m:af)(now:Int):=e9 (told l m now)
def uP(l:List Report)(m:af)(now:Int):Prop :=
 (n1q 2 0 (jM l) 82 (fO l m now) (slQ 2 1 (jh l m now).length) [(Fr l m now)] (n1q 3 2 (.cells true 2 ((jh l m now).flatMap bo)) 156 [.slice none 0 0,nI (nl l),slQ 2 1 (jh l m now).length] (slQ 3 1 (dN l m now).length) [(.cells true 1 (dBL (dN l m now)):ah)] (lq (0<=List.length (dN l m now)) (true=true/\(eY=nI jq/\eY=nI (((cV (dN l m now) 0):Nat):Int)/\eR iB/\wR (slQ 3 1 (dN l m now).length)/\True)/\gV) (∀J:Nat,(J<=List.length (dN l m now))->(∃i_1:Int,bw (((dN l m now).length:Nat):Int) i_1/\fk (decide ((J:Int)<i_1)) (∃i_2:Int,bw (((cV (dN l m now) J):Nat):Int) i_2/\(JQ J l m now)/\((JP l m now J)/\∃i_3:Int,(c0q 4 157 [.iface (((dN l m now).getD J []).length+1) (.agg ⟨(((dN l m now).getD J []).flatMap aC)⟩)] (nI i_3) (nw ((J:Int)+1) (∃aQ:Nat,(aQ<=List.length (dN l m now))/\(List.length (dN l m now)-aQ)<(List.length (dN l m now)-J)/\true=true/\((oB J)=nI (aQ:Int)/\(nI (if (i_3:Int) > i_2 then (i_3:Int) else i_2):Value)=nI (((cV (dN l m now) aQ):Nat):Int)/\eR iB/\wR (slQ 3 1 (dN l m now).length)/\True)/\gV))))) (lq (0<=List.length (dN l m now)) (true=true/\(eY=nI jq/\wk rZ (slQ 0 1 (gN (dN l m now) (cV (dN l m now) (dN l m now).length) 0).length:Value)/\JJ l m now J)/\xU) (∀Z:Nat,(Z<=List.length (dN l m now))->(∃i_3:Int,bw (((dN l m now).length:Nat):Int) i_3/\fk (decide ((Z:Int)<i_3)) ((JQ Z l m now)/\((JP l m now Z)/\∃i_4:Int,(c0q 5 157 [.iface (((dN l m now).getD Z []).length+1) (.agg ⟨(((dN l m now).getD Z []).flatMap aC)⟩)] (nI i_4) (∃i_5:Int,bw (((cV (dN l m now) J):Nat):Int) i_5/\fk ((i_4:Int) == i_5) ((JQ Z l m now)/\(JP l m now Z)/\(((jm6 l m now Z).length+1)*24<=2 ^ 44/\1≠0/\((jm6 l m now Z).length<=(jm6 l m now Z).length/\0+(jm6 l m now Z).length*1<=List.length (dBL (jm6 l m now Z)))/\(1<=1/\0+1*1<=List.length (jmt l m now Z))/\((((jmt l m now Z).drop 0).take (1*1)):List Value).all (fun v=>dS v)=true)/\true=true/\nw ((Z:Int)+1) (∃fA:Nat,(fA<=List.length (dN l m now))/\(List.length (dN l m now)-fA)<(List.length (dN l m now)-Z)/\true=true/\((zO Z)=nI (fA:Int)/\wk (slN 6 ((jm6 l m now Z).length+1):Value) (slQ 6 1 (jm6 l m now fA).length:Value)/\JJ l m now J)/\(True)/\((kbq 4 (.cells true 1 ((((dBL (jm6 l m now Z)).drop 0).take ((jm6 l m now Z).length*1))++(((jmt l m now Z).drop 0).take (1*1)))) (.cells true 1 (dBL (jm6 l m now fA))))/\True)/\True)) (nw ((Z:Int)+1) (∃fA:Nat,(fA<=List.length (dN l m now))/\(List.length (dN l m now)-fA)<(List.length (dN l m now)-Z)/\true=true/\((zO Z)=nI (fA:Int)/\wk (slQ 4 1 (jm6 l m now Z).length:Value) (slQ 4 1 (jm6 l m now fA).length:Value)/\JJ l m now J)/\(True)/\((kbq 4 (.cells true 1 (dBL (jm6 l m now Z))) (.cells true 1 (dBL (jm6 l m now fA))))/\True)/\True)))))) (true=true/\wk (slQ 4 1 (jm6 l m now Z).length:Value) (rn (sg 1 [(1,4)]) 3 (slQ 1 1 (bU l m now).length:Value))/\(kbq 1 (.cells true 1 (dBL (jm6 l m now Z))) (.cells true 1 (dBL (bU l m now))))/\True)))))))))
theorem CI(l:List Report)(m:af)(now:Int):vE 139 (fO l m now) (l9 l) (some [])
 (.go 6 (.ans (qP l) (slQ 2 1 (jh l m now).length) [.cells true 2 ((jh l m now).flatMap bo)] (.ans [(2,.cells true 2 ((jh l m now).flatMap bo))] (slQ 3 1 (dN l m now).length) [.cells true 1 (dBL (dN l m now))] (.go 2 (.inv 3 (Nat) (0) [] [] (fun J=>[(9,nI (J:Int)),(8,nI (((cV (dN l m now) J):Nat):Int)),sd,(7,slQ 3 1 (dN l m now).length)]) (fun J=>[]) (fun J=>[]) (fun J=>[]) (fun J=>(J<=List.length (dN l m now))) (fun J=>(List.length (dN l m now)-J)) (fun J => .go 2 (.bind Int (fun i_1 => .slot 21 (nI i_1) (.go 0 (.fork (.go 0 (.bind Int (fun i_2 => .slot 25 (nI i_2) (.go 1 (.need (.val (jmf l m now J) (.bind (Int) (fun Pg => .ans [] (nI Pg) [] (jme 3 24 J))))))))) (.go 1 (.inv 3 (Nat) (0) [] [] (fun Z=>[(11,nI (Z:Int)),(10,slQ 4 1 (jm6 l m now Z).length),(7,slQ 3 1 (dN l m now).length),sd,(8,nI (((cV (dN l m now) J):Nat):Int))]) (fun Z=>[]) (fun Z=>[(true,.cells true 1 (dBL (jm6 l m now Z)))]) (fun Z=>[]) (fun Z=>(Z<=List.length (dN l m now))) (fun Z=>(List.length (dN l m now)-Z)) (fun Z => .go 2 (.bind Int (fun i_3 => .slot 34 (nI i_3) (.go 0 (.fork (.go 1 (.need (.val (jmf l m now Z) (.bind (Int) (fun r6 => .ans [] (nI r6) [] (.go 0 (.bind Int (fun i_4 => .slot 43 (nI i_4) (.go 0 (.fork (.go 2 (.need (.val (jmf l m now Z) (.go 0 (.need (jmh 2 37 Z 4 6)))))) (jmh 1 37 Z 4 4))))))))))) (.go 1 (.again [(1,4)])))))))))))))))))))
 (er ((l9 l):HT).n 3 (slQ 1 1 (bU l m now).length) [(true,.cells true 1 (dBL (bU l m now)))])=uP l m now:=by kernel_rfl
abbrev Hj(l:List Report)(m:af)(now:Int):Value:=.agg ⟨(((bU l m now).getD 0 []).flatMap aC)⟩
abbrev jmc(qA0:List Report)(qB0:af)(qi0:Int):Value:=.iface (((e9 (told qA0 qB0 qi0)).getD 0 []).length+1) (.agg ⟨(((e9 (told qA0 qB0 qi0)).getD 0 []).flatMap aC)⟩)
abbrev JS:=krq 5 (.cells true 0 [nI 0,nI 0,nI 0,nI 0,nI 0,nI 0,nI 0,nI 0])
abbrev jmw(qI0:Nat×Cell)(qA0:List Report)(qB0:af)(qi0:Int):Prop:=qI0.1<=List.length qA0/\tog (told qA0 qB0 qi0) (bI (told qA0 qB0 qi0)) qI0.1=some qI0.2
abbrev xQ(eC:Nat×Cell):Int:=(eC.1:Nat)
abbrev Mi(qI0 qI1:Nat×Cell)(qi0:Int)(qA0:List Report)(qB0:af):Prop:=(nI (((qI0.1:Nat):Int)+1):Value)=nI ((qI1.1:Nat):Int)/\eR (nI qi0)/\wR (slQ 0 2 qA0.length)/\eR (pt 1)/\eR iB/\eR (pt 2)/\(jmc qA0 qB0 qi0)=rn (sg 5 []) 3 (jmc qA0 qB0 qi0)/\eR (pt 4)/\True
def wU(sp:Value)(l:List Report)(m:af)(now:Int):Prop :=
 (n1q 3 0 (jM l) 139 (fO l m now) (slQ 3 1 (bU l m now).length) [(.cells true 1 (dBL (bU l m now)):ah)] ((ixq 0 (bU l m now).length)/\((dBL (bU l m now))[0]?=some (.iface (((bU l m now).getD 0 []).length+1) (Hj l m now)))/\(true=true/\((0,aO).1<=List.length l/\tog (told l m now) (bI (told l m now)) (0,aO).1=some (0,aO).2)/\(true=true/\(eY=nI (((0,aO).1:Nat):Int)/\eR (nI now)/\wR (jg l)/\eR (pt 1)/\eR iB/\eR (pt 2)/\(jmc l m now)=rn (sg 5 []) 3 (jmc l m now)/\eR (pt 4)/\True)/\(jmk/\(jmb m)/\JS/\True)/\vm)/\(∀eC:Nat×Cell,true=true)/\∀eC:Nat×Cell,(jmw eC l m now)->(fk (decide (((xQ eC):Int)<(nl l))) ((ixq (xQ eC) ((bU l m now).getD 0 []).length)/\((((bU l m now).getD 0 []).flatMap aC)[(Int.toNat (xQ eC)*1)]?=some (.bool (((bU l m now).getD 0 []).getD eC.1 false)))/\fk (((bU l m now).getD 0 []).getD eC.1 false) ((ixq (xQ eC) l.length)/\((cu 14 (iM l) (0+Int.toNat (xQ eC)*14)=some ((az (l.getD eC.1 ag))))/\∃ON:Cell,(c0q 5 78 [(az (l.getD eC.1 ag)),(ao m),nI now] (cellV ON) (∃OM:Cell,(c0q 5 83 [(cellV eC.2),(cellV ON)] (cellV OM) (nw ((xQ eC)+1) (∃oR:Nat×Cell,(jmw oR l m now)/\(List.length l-oR.1)<(List.length l-eC.1)/\true=true/\(Mi eC oR now l m)/\((kbq 5 (JR OM) (jmd oR))/\(jmb m)/\JS/\True)/\vm))))))) (nw ((xQ eC)+1) (∃oR:Nat×Cell,(jmw oR l m now)/\(List.length l-oR.1)<(List.length l-eC.1)/\true=true/\(Mi eC oR now l m)/\((kbq 5 (jmd eC) (jmd oR))/\(jmb m)/\JS/\True)/\vm))) ((.tuple #[.iface (((bU l m now).getD 0 []).length+1) (Hj l m now),(cellV eC.2)]:Value)=sp)))))
theorem F6(sp:Value)(l:List Report)(m:af)(now:Int):vE 86 (fO l m now) (l9 l) (some [])
 (.go 5 (.ans (qP l) (slQ 3 1 (bU l m now).length) [.cells true 1 (dBL (bU l m now))] (.need (.val (.iface (((bU l m now).getD 0 []).length+1) (Hj l m now)) (.go 11 (.inv 3 (Nat×Cell) ((0,aO)) [] [4,1,2] (fun eC=>[(10,nI (xQ eC)),(2,nI now),(sa l),(4,pt 1),sd,(7,pt 2),(8,.iface (((bU l m now).getD 0 []).length+1) (Hj l m now)),(9,pt 4)]) (fun eC=>[(jmy eC),(Ob m),(2,true,.cells true 0 [nI 0,nI 0,nI 0,nI 0,nI 0,nI 0,nI 0,nI 0])]) (fun eC=>[]) (fun eC=>[]) (fun eC=>(jmw eC l m now)) (fun eC=>(List.length l-eC.1)) (fun eC => .go 3 (.fork (.go 1 (.need (.val (.bool (((bU l m now).getD 0 []).getD eC.1 false)) (.fork (.go 2 (.need (.val ((az (l.getD eC.1 ag))) (.go 1 (.bind (Cell) (fun r2 => .ans [] ((cellV r2)) [] (.bind (Cell) (fun r3 => .ans [] ((cellV r3)) [] (.go 2 (Ma 23 eC)))))))))) (.go 1 (Ma 23 eC)))))) (.go 3 (.keep (.auto)))))))))))
 (fun v _ _=>v=sp)=wU sp l m now:=by kernel_rfl
abbrev Mg(qA0:List Report)(qB0:af)(qi0:Int):Value:=.tuple #[.iface ((List.length (aB qA0 qB0 qi0).1)+1) (.agg ⟨(List.flatMap aC (aB qA0 qB0 qi0).1)⟩),(cellV (aB qA0 qB0 qi0).2.1),nI (aB qA0 qB0 qi0).2.2]
abbrev Mj(qA0:List Report)(qB0:af)(qi0:Int):Value:=.tuple #[.iface ((bh (told qA0 qB0 qi0) qA0.length).length+1) (.agg ⟨((bh (told qA0 qB0 qi0) qA0.length).flatMap aC)⟩),(cellV ((di (told qA0 qB0 qi0) (bI (told qA0 qB0 qi0))).getD aj))]
def Ee(l:List Report)(m:af)(now:Int):Prop :=
 (∃i_0:Int,(c1q 3 0 (jM l) 81 (fO l m now) (nI i_0) (fk ((i_0:Int) != 0) (true=true/\wk (.tuple #[.slice none 0 0,.agg #[nI 0,nI 0,nI 0,nI 0,nI 0,nI 0,nI 0,nI 0],nI i_0]:Value) (rn (sg 1 []) 3 (Mg l m now))/\True) (c1q 3 0 (jM l) 86 (fO l m now) (Mj l m now) (true=true/\wk (.tuple #[.iface ((bh (told l m now) l.length).length+1) (.agg ⟨((bh (told l m now) l.length).flatMap aC)⟩),(cellV ((di (told l m now) (bI (told l m now))).getD aj)),nI 0]:Value) (rn (sg 1 []) 3 (Mg l m now))/\True)))))
theorem KE(l:List Report)(m:af)(now:Int):vE 19 (fO l m now) (l9 l) (some [])
 (.go 6 (.bind (Int) (fun r0 => .ans (qP l) (nI r0) [] (.go 2 (.fork (.go 4 (.again [])) (.go 2 (.ans (qP l) (Mj l m now) [] (.go 10 (.keep (.again []))))))))))
 (er ((l9 l):HT).n 3 (.tuple #[.iface ((List.length (aB l m now).1)+1) (.agg ⟨(List.flatMap aC (aB l m now).1)⟩),(cellV (aB l m now).2.1),nI (aB l m now).2.2]) [])=Ee l m now:=by kernel_rfl
abbrev Mk(qd0:List Int):Value:=.iface (qd0.length+1) (.agg ⟨(qd0.flatMap aA)⟩)
abbrev L8(b1_ a:List Int):Prop:=(Mk b1_)=rn (sg 0 []) 3 (Mk b1_)/\(.iface (a.length+1) (.agg ⟨(a.flatMap aA)⟩):Value)=rn (sg 0 []) 3 (.iface (a.length+1) (.agg ⟨(a.flatMap aA)⟩):Value)/\True
abbrev Hn(qn0:Nat)(qd0:List Int):Prop:=(0:Int)<=(qn0:Int)/\(qn0:Int)<((qd0.length:Nat):Int)
abbrev jmx(qd0:List Int)(qn0:Nat):Prop:=(qd0.flatMap aA)[(Int.toNat (qn0:Int)*1)]?=some (nI (qd0.getD qn0 0))
def A9(sp:Value)(a b1_:List Int):Prop :=
 (lq (0<=List.length a/\List.take 0 a=List.take 0 b1_) (true=true/\(eY=nI jq/\L8 b1_ a)/\gV) (∀J:Nat,(J<=List.length a/\List.take J a=List.take J b1_)->(fk (decide ((J:Int)<((a.length:Nat):Int))) ((Hn J a)/\(jmx a J)/\(Hn J b1_)/\(jmx b1_ J)/\fk (((a.getD J 0):Int) != (b1_.getD J 0)) ((Hn J a)/\(jmx a J)/\(Hn J b1_)/\(jmx b1_ J)/\(.bool (decide (((a.getD J 0):Int)<(b1_.getD J 0))):Value)=sp) (nw ((J:Int)+1) (∃bJ:Nat,(bJ<=List.length a/\List.take bJ a=List.take bJ b1_)/\(List.length a-bJ)<(List.length a-J)/\true=true/\((oB J)=nI (bJ:Int)/\L8 b1_ a)/\gV))) ((.bool false:Value)=sp))))
theorem I1(sp:Value)(a b1_:List Int):vE 142 [.iface (a.length+1) (.agg ⟨(a.flatMap aA)⟩),.iface (b1_.length+1) (.agg ⟨(b1_.flatMap aA)⟩)] ⟨0,.leaf⟩ (some [])
 (.go 1 (.inv 3 (Nat) (0) [] [] (fun J=>[(5,nI (J:Int)),(1,.iface (b1_.length+1) (.agg ⟨(b1_.flatMap aA)⟩)),(0,.iface (a.length+1) (.agg ⟨(a.flatMap aA)⟩))]) (fun J=>[]) (fun J=>[]) (fun J=>[]) (fun J=>(J<=List.length a/\List.take J a=List.take J b1_)) (fun J=>(List.length a-J)) (fun J => .go 3 (.fork (.go 1 (.need (.val (nI (a.getD J 0)) (.go 1 (.need (.val (nI (b1_.getD J 0)) (.go 0 (.fork (.go 1 (.need (.val (nI (a.getD J 0)) (.go 1 (.need (.val (nI (b1_.getD J 0)) (.auto))))))) (jme 1 11 J))))))))) (.auto)))))
 (fun v _ _=>v=sp)=A9 sp a b1_:=by kernel_rfl
abbrev JK(l:List Report)(m:af)(now:Int)(J:Nat):Prop:=wR (slQ 2 1 (bU l m now).length)/\eR iB/\wR (jg l)/\wR (slQ 3 1 J)/\eR (nI (J:Int))/\True
abbrev rY(l:List Report)(m:af)(now:Int)(J Z:Nat):=cr ((bU l m now).getD J []) Z
abbrev jmr(qA0:List Report)(qB0:af)(qi0:Int)(qn0 qn1:Nat):List Value:=[.iface ((cr ((e9 (told qA0 qB0 qi0)).getD qn0 []) qn1).length+1) (.agg ⟨((cr ((e9 (told qA0 qB0 qi0)).getD qn0 []) qn1).flatMap aA)⟩)]
abbrev jmi(qA0:List Report)(qB0:af)(qi0:Int)(qn0 qn1:Nat):Value:=.iface ((cr ((e9 (told qA0 qB0 qi0)).getD qn0 []) qn1).length+1) (.agg ⟨((cr ((e9 (told qA0 qB0 qi0)).getD qn0 []) qn1).flatMap aA)⟩)
abbrev L7(J:Nat)(l:List Report)(m:af)(now:Int)(Z:Nat):Prop:=eR (nI (J:Int))/\wR (jg l)/\eR iB/\wR (slQ 2 1 (bU l m now).length)/\eR (nI (Z:Int))/\(jmi l m now J Z)=rn (sg 7 []) 3 (jmi l m now J Z)/\eR (slN 6 (J+1))/\True
abbrev Mf(qn0 qn1:Nat)(qA0:List Report)(qB0:af)(qi0:Int):Prop:=qn0<=qn1/\∀n_4:Nat,qn1-qn0<=n_4->n_4<qn1->cmpL (cr ((e9 (told qA0 qB0 qi0)).getD qn1 []) qA0.length) ((ig (e9 (told qA0 qB0 qi0)) qn1).getD n_4 [])<0
abbrev im(J n_3:Nat):Int:=((J-n_3):Nat)
abbrev jm4(qA0:List Report)(qB0:af)(qi0:Int)(qn0 qn1:Nat):=ft (ig (e9 (told qA0 qB0 qi0)) qn0) (cr ((e9 (told qA0 qB0 qi0)).getD qn0 []) qA0.length) (qn0-qn1)
abbrev jmm(qA0:List Report)(qB0:af)(qi0:Int)(qn0 qn1:Nat):Value:=.iface (((jm4 qA0 qB0 qi0 qn0 qn1).getD (qn0-qn1) []).length+1) (.agg ⟨(((jm4 qA0 qB0 qi0 qn0 qn1).getD (qn0-qn1) []).flatMap aA)⟩)
abbrev jmg(qA0:List Report)(qB0:af)(qi0:Int)(qn0 qn1:Nat):Value:=.iface (((jm4 qA0 qB0 qi0 qn0 qn1).getD ((((qn0-qn1):Nat):Int)-1).toNat []).length+1) (.agg ⟨(((jm4 qA0 qB0 qi0 qn0 qn1).getD ((((qn0-qn1):Nat):Int)-1).toNat []).flatMap aA)⟩)
abbrev Me(qA0:List Report)(qB0:af)(qi0:Int)(qn0 qn1:Nat):Value:=.agg ⟨(((jm4 qA0 qB0 qi0 qn0 qn1).getD ((((qn0-qn1):Nat):Int)-1).toNat []).flatMap aA)⟩
abbrev Md(qA0:List Report)(qB0:af)(qi0:Int)(qn0 qn1:Nat):=bQ (dIL (jm4 qA0 qB0 qi0 qn0 qn1)) (0+Int.toNat (((qn0-qn1):Nat):Int)*1) [.iface (((jm4 qA0 qB0 qi0 qn0 qn1).getD ((((qn0-qn1):Nat):Int)-1).toNat []).length+1) (Me qA0 qB0 qi0 qn0 qn1)]
abbrev Mh(qn0 qn1:Nat)(qA0:List Report)(qB0:af)(qi0:Int):Prop:=(nI ((qn0:Int)+1):Value)=nI (qn1:Int)/\wk (slN 6 (qn0+1):Value) (slQ 6 1 qn1:Value)/\wR (slQ 0 2 qA0.length)/\eR iB/\wR (slQ 2 1 (e9 (told qA0 qB0 qi0)).length)/\True
abbrev cW(l:List Report)(m:af)(now:Int):=aN (told l m now)
def A8(l:List Report)(m:af)(now:Int):Prop :=
 (n1q 2 0 (jM l) 139 (fO l m now) (slQ 2 1 (bU l m now).length) [(.cells true 1 (dBL (bU l m now)):ah)] (lq (0<=List.length (bU l m now)) (true=true/\(eY=nI jq/\wk rZ (slQ 0 1 0:Value)/\wR (jg l)/\eR iB/\wR (slQ 2 1 (bU l m now).length)/\True)/\xU) (∀J:Nat,(J<=List.length (bU l m now))->(∃i_1:Int,bw (((bU l m now).length:Nat):Int) i_1/\fk (decide ((J:Int)<i_1)) (lq (0<=List.length l) (true=true/\(eY=nI jq/\wk rZ (slQ 0 1 (cr ((bU l m now).getD J []) 0).length:Value)/\JK l m now J)/\xU) (∀Z:Nat,(Z<=List.length l)->(fk (decide ((Z:Int)<(nl l))) (((0:Int)<=(J:Int)/\(J:Int)<(((bU l m now).length:Nat):Int))/\((dBL (bU l m now))[(0+Int.toNat (J:Int)*1)]?=some (.iface (((bU l m now).getD J []).length+1) (.agg ⟨(((bU l m now).getD J []).flatMap aC)⟩)))/\((0:Int)<=(Z:Int)/\(Z:Int)<((((bU l m now).getD J []).length:Nat):Int))/\((((bU l m now).getD J []).flatMap aC)[(Int.toNat (Z:Int)*1)]?=some (.bool (((bU l m now).getD J []).getD Z false)))/\fk (!(((bU l m now).getD J []).getD Z false)) (apq (rY l m now J Z).length 8 1 ((rY l m now J Z).flatMap aA) [nI (Z:Int)] (nw ((Z:Int)+1) (∃bg:Nat,(bg<=List.length l)/\(List.length l-bg)<(List.length l-Z)/\true=true/\((zO Z)=nI (bg:Int)/\wk (slN 6 ((rY l m now J Z).length+1):Value) (slQ 6 1 (cr ((bU l m now).getD J []) bg).length:Value)/\JK l m now J)/\(True)/\((kbq 4 (.cells true 1 (((((rY l m now J Z).flatMap aA).drop 0).take ((rY l m now J Z).length*1))++((([nI (Z:Int)]:List Value).drop 0).take (1*1)))) (.cells true 1 ((cr ((bU l m now).getD J []) bg).flatMap aA)))/\True)/\True))) (nw ((Z:Int)+1) (∃bg:Nat,(bg<=List.length l)/\(List.length l-bg)<(List.length l-Z)/\true=true/\((zO Z)=nI (bg:Int)/\wk (slQ 4 1 (rY l m now J Z).length:Value) (slQ 4 1 (cr ((bU l m now).getD J []) bg).length:Value)/\JK l m now J)/\(True)/\((kbq 4 (.cells true 1 ((rY l m now J Z).flatMap aA)) (.cells true 1 ((cr ((bU l m now).getD J []) bg).flatMap aA)))/\True)/\True))) (((J+1)*24<=2 ^ 44/\1≠0/\(J<=J/\0+J*1<=List.length (dIL (ig (bU l m now) J)))/\(1<=1/\0+1*1<=List.length (jmr l m now J Z))/\((((jmr l m now J Z).drop 0).take (1*1)):List Value).all (fun v=>dS v)=true)/\true=true/\nw ((((J+1):Nat):Int)-1) (lq (0<=J/\∀n_3:Nat,J-0<=n_3->n_3<J->cmpL (cr ((bU l m now).getD J []) l.length) ((ig (bU l m now) J).getD n_3 [])<0) (true=true/\((nI ((((J+1):Nat):Int)-1):Value)=nI (((J-0):Nat):Int)/\L7 J l m now Z)/\((kbq 7 (.cells true 1 ((((dIL (ig (bU l m now) J)).drop 0).take (J*1))++(((jmr l m now J Z).drop 0).take (1*1)))) (.cells true 1 (dIL (ft (ig (bU l m now) J) (cr ((bU l m now).getD J []) l.length) (J-0)))))/\True)/\vm) (∀n_3:Nat,(Mf n_3 J l m now)->(fk (decide ((0:Int)<(im J n_3))) ((ixq (im J n_3) (J+1))/\((dIL (jm4 l m now J n_3))[(0+Int.toNat (im J n_3)*1)]?=some (jmm l m now J n_3))/\nw ((im J n_3)-1) ((ixq ((im J n_3)-1) (J+1))/\(((dIL (jm4 l m now J n_3))[(0+Int.toNat ((im J n_3)-1)*1)]?=some (jmg l m now J n_3))/\∃c_4:Bool,(c0q 7 142 [.iface (((jm4 l m now J n_3).getD (J-n_3) []).length+1) (.agg ⟨(((jm4 l m now J n_3).getD (J-n_3) []).flatMap aA)⟩),.iface (((jm4 l m now J n_3).getD ((im J n_3)-1).toNat []).length+1) (Me l m now J n_3)] (.bool c_4) (fk c_4 (nw ((im J n_3)-1) (nw ((im J n_3)-1) ((ixq ((im J n_3)-1) (J+1))/\((dIL (jm4 l m now J n_3))[(0+Int.toNat ((im J n_3)-1)*1)]?=some (jmg l m now J n_3))/\(ixq (im J n_3) (J+1))/\((dIL (jm4 l m now J n_3))[(0+Int.toNat (im J n_3)*1)]?=some (jmm l m now J n_3))/\(ixq (im J n_3) (J+1))/\((0+Int.toNat (im J n_3)*1)+1<=List.length (dIL (jm4 l m now J n_3)))/\true=true/\(ixq ((im J n_3)-1) (J+1))/\((0+Int.toNat ((im J n_3)-1)*1)+1<=List.length (Md l m now J n_3))/\true=true/\nw ((im J n_3)-1) (∃cZ:Nat,(cZ<=J/\∀n_5:Nat,J-cZ<=n_5->n_5<J->cmpL (cr ((bU l m now).getD J []) l.length) ((ig (bU l m now) J).getD n_5 [])<0)/\(J-cZ)<(J-n_3)/\true=true/\((nI ((im J n_3)-1):Value)=nI (((J-cZ):Nat):Int)/\L7 J l m now Z)/\((kbq 7 (.cells true 1 (bQ (Md l m now J n_3) (0+Int.toNat ((im J n_3)-1)*1) [.iface (((jm4 l m now J n_3).getD (J-n_3) []).length+1) (.agg ⟨(((jm4 l m now J n_3).getD (J-n_3) []).flatMap aA)⟩)])) (.cells true 1 (dIL (jm4 l m now J cZ))))/\True)/\vm)))) (nw ((J:Int)+1) (∃cZ:Nat,(cZ<=List.length (bU l m now))/\(List.length (bU l m now)-cZ)<(List.length (bU l m now)-J)/\true=true/\(Mh J cZ l m now)/\(True)/\((kbq 3 (.cells true 1 (dIL (jm4 l m now J n_3))) (.cells true 1 (dIL (ig (bU l m now) cZ))))/\True)/\True))))))) (nw ((J:Int)+1) (∃aQ:Nat,(aQ<=List.length (bU l m now))/\(List.length (bU l m now)-aQ)<(List.length (bU l m now)-J)/\true=true/\(Mh J aQ l m now)/\(True)/\((kbq 3 (.cells true 1 (dIL (jm4 l m now J n_3))) (.cells true 1 (dIL (ig (bU l m now) aQ))))/\True)/\True))))))))) (true=true/\wk (slQ 3 1 J:Value) (rn (sg 1 [(1,3)]) 3 (slQ 1 1 (cW l m now).length:Value))/\(kbq 1 (.cells true 1 (dIL (ig (bU l m now) J))) (.cells true 1 (dIL (cW l m now))))/\True)))))
theorem IZ(l:List Report)(m:af)(now:Int):vE 88 (fO l m now) (l9 l) (some [])
 (.go 5 (.ans (qP l) (slQ 2 1 (bU l m now).length) [.cells true 1 (dBL (bU l m now))] (.go 1 (.inv 3 (Nat) (0) [] [] (fun J=>[(9,nI (J:Int)),(7,slQ 3 1 J),(sa l),sd,(8,slQ 2 1 (bU l m now).length)]) (fun J=>[]) (fun J=>[(true,.cells true 1 (dIL (ig (bU l m now) J)))]) (fun J=>[]) (fun J=>(J<=List.length (bU l m now))) (fun J=>(List.length (bU l m now)-J)) (fun J => .go 2 (.bind Int (fun i_1 => .slot 19 (nI i_1) (.go 0 (.fork (.go 1 (.inv 3 (Nat) (0) [] [] (fun Z=>[(11,nI (Z:Int)),(10,slQ 4 1 (rY l m now J Z).length),(8,slQ 2 1 (bU l m now).length),sd,(sa l),(7,slQ 3 1 J),(9,nI (J:Int))]) (fun Z=>[]) (fun Z=>[(true,.cells true 1 ((rY l m now J Z).flatMap aA))]) (fun Z=>[]) (fun Z=>(Z<=List.length l)) (fun Z=>(List.length l-Z)) (fun Z => .go 3 (.fork (.go 1 (.need (.val (.iface (((bU l m now).getD J []).length+1) (.agg ⟨(((bU l m now).getD J []).flatMap aC)⟩)) (.go 0 (.need (.val (.bool (((bU l m now).getD J []).getD Z false)) (.go 0 (.fork (.go 2 (.need (jmh 2 28 Z 4 6))) (jmh 1 28 Z 4 4))))))))) (.frz [10] (.go 2 (.need (.go 3 (.slot 47 (nI ((((J+1):Nat):Int)-1)) (.go 0 (.inv 3 (Nat) (0) [] [6] (fun n_3=>[(12,nI (im J n_3)),(9,nI (J:Int)),(sa l),sd,(8,slQ 2 1 (bU l m now).length),(11,nI (Z:Int)),(10,.iface ((rY l m now J Z).length+1) (.agg ⟨((rY l m now J Z).flatMap aA)⟩)),(7,slN 6 (J+1))]) (fun n_3=>[(6,true,.cells true 1 (dIL (jm4 l m now J n_3)))]) (fun n_3=>[]) (fun n_3=>[]) (fun n_3=>(Mf n_3 J l m now)) (fun n_3=>(J-n_3)) (fun n_3 => .go 2 (.am (.go 1 (.need (.val (jmm l m now J n_3) (.go 2 (.slot 57 (nI ((im J n_3)-1)) (.need (.val (jmg l m now J n_3) (.bind (Bool) (fun Pf => .ans [] (.bool Pf) [] (.go 0 (.fork (.go 4 (.slot 68 (nI ((im J n_3)-1)) (.go 2 (.slot 71 (nI ((im J n_3)-1)) (.need (.val (jmg l m now J n_3) (.go 1 (.need (.val (jmm l m now J n_3) (.need (.need (.need (.need (.go 1 (.slot 63 (nI ((im J n_3)-1)) (.go 0 (.again []))))))))))))))))) (jmh 1 22 J 3 6)))))))))))) (jmh 3 22 J 3 6)))))))))))))) (.go 1 (.again [(1,3)])))))))))))
 (er ((l9 l):HT).n 3 (slQ 1 1 (cW l m now).length) [(true,.cells true 1 (dIL (cW l m now)))])=A8 l m now:=by kernel_rfl
abbrev vk(l:List Report)(m:af)(now:Int):=slQ 2 1 (cW l m now).length
def El(l:List Report)(m:af)(now:Int):Prop :=
 (∃i_0:Int,(c1q 2 0 (jM l) 81 (fO l m now) (nI i_0) (fk ((i_0:Int) != 0) (true=true/\wk (Fo i_0) (rn (sg 1 []) 3 (.tuple #[slQ 1 1 (List.length (aF l m now).1),nI (aF l m now).2]:Value))/\nk) (n1q 2 0 (jM l) 88 (fO l m now) (vk l m now) [(.cells true 1 (dIL (cW l m now)):ah)] (true=true/\wk (.tuple #[slQ 2 1 (cW l m now).length,nI 0]:Value) (rn (sg 1 [(1,2)]) 3 (.tuple #[slQ 1 1 (List.length (aF l m now).1),nI (aF l m now).2]:Value))/\(kbq 1 (.cells true 1 (dIL (cW l m now))) (.cells true 1 (dIL (aF l m now).1)))/\True)))))
theorem KL(l:List Report)(m:af)(now:Int):vE 22 (fO l m now) (l9 l) (some [])
 (.go 5 (.bind (Int) (fun r0 => .ans (qP l) (nI r0) [] (.go 2 (.fork (.go 2 (.again [])) (.go 2 (.ans (qP l) (vk l m now) [.cells true 1 (dIL (cW l m now))] (.go 1 (.again [(1,2)])))))))))
 (er ((l9 l):HT).n 3 (.tuple #[slQ 1 1 (List.length (aF l m now).1),nI (aF l m now).2]) [(true,.cells true 1 (dIL (aF l m now).1))])=El l m now:=by kernel_rfl
abbrev jmu(qA0:List Report)(qB0:af)(qi0:Int)(qn0 qn1:Nat):Int:=((kg (aN (told qA0 qB0 qi0)) (qn0:Int) qn1):Nat)
abbrev JN(U:Nat)(l:List Report)(m:af)(now:Int)(Z:Nat):Prop:=eR (nI (U:Int))/\wR (slQ 3 1 U)/\wR (jg l)/\eR iB/\eR (nI 0)/\wR (vk l m now)/\eR (nI (Z:Int))/\True
abbrev jmo(qA0:List Report)(qB0:af)(qi0:Int)(qn0:Nat):Value:=.iface (((aN (told qA0 qB0 qi0)).getD qn0 []).length+1) (.agg ⟨(((aN (told qA0 qB0 qi0)).getD qn0 []).flatMap aA)⟩)
abbrev jma(qA0:List Report)(qB0:af)(qi0:Int)(qn0 qn1 qn2:Nat):Int:=((kg (aN (told qA0 qB0 qi0)) (qn0:Int) qn1+List.count (qn0:Int) (((aN (told qA0 qB0 qi0)).getD qn1 []).take qn2)):Nat)
abbrev jm5(qn0:Nat)(qA0:List Report)(qB0:af)(qi0 qi1:Int):=apq qn0 8 1 ((aE (cJ (aN (told qA0 qB0 qi0))) qn0).flatMap aA) [nI qi1] (nw ((qn0:Int)+1) (∃bg:Nat,(bg<=List.length qA0)/\(List.length qA0-bg)<(List.length qA0-qn0)/\true=true/\((nI ((qn0:Int)+1):Value)=nI (bg:Int)/\wk (slN 5 (qn0+1):Value) (slQ 5 1 bg:Value)/\wR (slQ 0 2 qA0.length)/\eR iB/\eR (nI 0)/\wR (slQ 2 1 (aN (told qA0 qB0 qi0)).length)/\True)/\(True)/\((kbq 3 (.cells true 1 (((((aE (cJ (aN (told qA0 qB0 qi0))) qn0).flatMap aA).drop 0).take (qn0*1))++((([nI qi1]:List Value).drop 0).take (1*1)))) (.cells true 1 ((aE (cJ (aN (told qA0 qB0 qi0))) bg).flatMap aA)))/\True)/\(True)))
def Ei(l:List Report)(m:af)(now:Int):Prop :=
 (∃i_0:Int,(c1q 2 0 (jM l) 81 (fO l m now) (nI i_0) (fk ((i_0:Int) != 0) (true=true/\wk (Fo i_0) (rn (sg 1 []) 3 (.tuple #[slQ 1 1 (List.length (a6 l m now).1),nI (a6 l m now).2]:Value))/\nk) (n1q 2 0 (jM l) 88 (fO l m now) (vk l m now) [(.cells true 1 (dIL (cW l m now)):ah)] (lq (0<=List.length l) (true=true/\(eY=nI jq/\wk rZ (slQ 0 1 0:Value)/\wR (jg l)/\eR iB/\eR (nI 0)/\wR (vk l m now)/\True)/\xU) (∀U:Nat,(U<=List.length l)->(fk (decide ((U:Int)<(nl l))) (lq (0<=List.length (cW l m now)) (true=true/\(eY=nI jq/\eY=nI (((kg (cW l m now) (U:Int) 0):Nat):Int)/\wR (vk l m now)/\eR (nI 0)/\eR iB/\wR (jg l)/\wR (slQ 3 1 U)/\eR (nI (U:Int))/\True)/\gV) (∀Z:Nat,(Z<=List.length (cW l m now))->(fk (decide ((Z:Int)<(((cW l m now).length:Nat):Int))) (lq (0<=List.length ((cW l m now).getD Z [])) (true=true/\(eY=nI jq/\(nI (jmu l m now U Z):Value)=nI (((kg (cW l m now) (U:Int) Z+List.count (U:Int) (((cW l m now).getD Z []).take 0)):Nat):Int)/\JN U l m now Z)/\gV) (∀n_3:Nat,(n_3<=List.length ((cW l m now).getD Z []))->(((0:Int)<=(Z:Int)/\(Z:Int)<(((cW l m now).length:Nat):Int))/\((dIL (cW l m now))[(0+Int.toNat (Z:Int)*1)]?=some (jmo l m now Z))/\fk (decide ((n_3:Int)<((((cW l m now).getD Z []).length:Nat):Int))) (((0:Int)<=(Z:Int)/\(Z:Int)<(((cW l m now).length:Nat):Int))/\((dIL (cW l m now))[(0+Int.toNat (Z:Int)*1)]?=some (jmo l m now Z))/\((0:Int)<=(n_3:Int)/\(n_3:Int)<((((cW l m now).getD Z []).length:Nat):Int))/\((((cW l m now).getD Z []).flatMap aA)[(Int.toNat (n_3:Int)*1)]?=some (nI (((cW l m now).getD Z []).getD n_3 0)))/\fk (((((cW l m now).getD Z []).getD n_3 0):Int) == (U:Int)) (nw ((jma l m now U Z n_3)+1) (nw ((n_3:Int)+1) (∃aQ:Nat,(aQ<=List.length ((cW l m now).getD Z []))/\(List.length ((cW l m now).getD Z [])-aQ)<(List.length ((cW l m now).getD Z [])-n_3)/\true=true/\((nI ((n_3:Int)+1):Value)=nI (aQ:Int)/\(nI ((jma l m now U Z n_3)+1):Value)=nI (jma l m now U Z aQ)/\JN U l m now Z)/\gV))) (nw ((n_3:Int)+1) (∃aQ:Nat,(aQ<=List.length ((cW l m now).getD Z []))/\(List.length ((cW l m now).getD Z [])-aQ)<(List.length ((cW l m now).getD Z [])-n_3)/\true=true/\((nI ((n_3:Int)+1):Value)=nI (aQ:Int)/\(nI (jma l m now U Z n_3):Value)=nI (jma l m now U Z aQ)/\JN U l m now Z)/\gV))) (nw ((Z:Int)+1) (∃aQ:Nat,(aQ<=List.length (cW l m now))/\(List.length (cW l m now)-aQ)<(List.length (cW l m now)-Z)/\true=true/\((zO Z)=nI (aQ:Int)/\(nI (jma l m now U Z n_3):Value)=nI (jmu l m now U aQ)/\wR (vk l m now)/\eR (nI 0)/\eR iB/\wR (jg l)/\wR (slQ 3 1 U)/\eR (nI (U:Int))/\True)/\gV))))) (fk (decide ((0:Int)<(jmu l m now U Z))) ((.bool (decide ((0:Int)<(jmu l m now U Z))):Value) = .bool true/\fk (((jmu l m now U Z):Int) == (((cW l m now).length:Nat):Int)) (jm5 U l m now 2) (jm5 U l m now 1)) ((.bool (decide ((0:Int)<(jmu l m now U Z))):Value) = .bool false/\jm5 U l m now 0))))) (true=true/\wk (.tuple #[slQ 3 1 U,nI 0]:Value) (rn (sg 1 [(1,3)]) 3 (.tuple #[slQ 1 1 (List.length (a6 l m now).1),nI (a6 l m now).2]:Value))/\(kbq 1 (.cells true 1 ((aE (cJ (cW l m now)) U).flatMap aA)) (.cells true 1 (List.flatMap aA (a6 l m now).1)))/\True))))))))
theorem KI(l:List Report)(m:af)(now:Int):vE 25 (fO l m now) (l9 l) (some [])
 (.go 5 (.bind (Int) (fun r0 => .ans (qP l) (nI r0) [] (.go 2 (.fork (.go 2 (.again [])) (.go 2 (.ans (qP l) (vk l m now) [.cells true 1 (dIL (cW l m now))] (.go 2 (.inv 3 (Nat) (0) [] [] (fun J=>[(11,nI (J:Int)),(10,slQ 3 1 J),(sa l),sd,(7,nI 0),(9,slQ 2 1 (cW l m now).length)]) (fun J=>[]) (fun J=>[(true,.cells true 1 ((aE (cJ (cW l m now)) J).flatMap aA))]) (fun J=>[]) (fun J=>(J<=List.length l)) (fun J=>(List.length l-J)) (fun J => .go 3 (.fork (.go 1 (.inv 3 (Nat) (0) [] [] (fun U=>[(13,nI (U:Int)),(12,nI (jmu l m now J U)),(9,slQ 2 1 (cW l m now).length),(7,nI 0),sd,(sa l),(10,slQ 3 1 J),(11,nI (J:Int))]) (fun U=>[]) (fun U=>[]) (fun U=>[]) (fun U=>(U<=List.length (cW l m now))) (fun U=>(List.length (cW l m now)-U)) (fun U => .go 3 (.fork (.go 0 (.inv 3 (Nat) (0) [] [] (fun Z=>[(14,nI (Z:Int)),(12,nI (jma l m now J U Z)),(11,nI (J:Int)),(10,slQ 3 1 J),(sa l),sd,(7,nI 0),(9,slQ 2 1 (cW l m now).length),(13,nI (U:Int))]) (fun Z=>[]) (fun Z=>[]) (fun Z=>[]) (fun Z=>(Z<=List.length ((cW l m now).getD U []))) (fun Z=>(List.length ((cW l m now).getD U [])-Z)) (fun Z => .go 2 (.need (.val (jmo l m now U) (.go 1 (.fork (.go 1 (.need (.val (jmo l m now U) (.go 0 (.need (.val (nI (((cW l m now).getD U []).getD Z 0)) (.go 1 (.fork (.go 1 (.slot 58 (nI ((jma l m now J U Z)+1)) (jme 2 47 Z))) (jme 1 47 Z))))))))) (jme 1 38 U)))))))) (.go 2 (.fork (.go 3 (.slot 63 (.bool true) (.go 4 (.fork (.go 3 (.need (jmh 2 32 J 3 5))) (.go 2 (.need (jmh 2 32 J 3 5))))))) (.go 2 (.slot 63 (.bool false) (.go 4 (.need (jmh 2 32 J 3 5))))))))))) (.go 2 (.again [(1,3)])))))))))))))
 (er ((l9 l):HT).n 3 (.tuple #[slQ 1 1 (List.length (a6 l m now).1),nI (a6 l m now).2]) [(true,.cells true 1 (List.flatMap aA (a6 l m now).1))])=Ei l m now:=by kernel_rfl
end
end Go.Proofs.YthcjliffpebjaaaGreat
namespace Go.Proofs.YthcjliffpebjaaaGreat
noncomputable section
attribute [local irreducible] vF iP dt
theorem Dy{h:Int}(k:1<=h):Int.tmod h 2=h % 2/\Int.tdiv h 2=h / 2/\Int.tmod (h / 2) 2=h / 2 % 2/\Int.tdiv (h / 2) 2=h / 4/\Int.tmod (h / 4) 2=h / 4 % 2/\Int.tdiv (h / 4) 2=h / 8/\Int.tmod (h / 8) 2=h / 8 % 2/\Int.tdiv (h / 8) 2=h / 16:=by
 refine ⟨Int.tmod_eq_emod_of_nonneg Om,Int.tdiv_eq_ediv_of_nonneg Om,Int.tmod_eq_emod_of_nonneg Om,?_,Int.tmod_eq_emod_of_nonneg Om,?_,Int.tmod_eq_emod_of_nonneg Om,?_⟩
 ·rw[Int.tdiv_eq_ediv_of_nonneg Om];omega
 ·rw[Int.tdiv_eq_ediv_of_nonneg Om];omega
 ·rw[Int.tdiv_eq_ediv_of_nonneg Om];omega
set_option maxHeartbeats 4000000 in
theorem jI(r:Report)(H:Heap):ak prog F.jF [az r] H [] (Is (nI (errReport r)) H):=by
 refine cQ 40 (fun _=>rfl) rfl (Eq.mpr (vA _ r) ?_) H
 delta nJ iA jml jm0 Fn L9 se eY nI fk nw bw
 have bad:∀(h:¬ eT r),(nI 20)=nI (errReport r):=fun h=>iEq (if_neg h).symm
 iterate 12 refine aq (fun h=>bad (fun o=>by have o:=o.1;omega)) (fun _ =>?_)
 obtain ⟨m0,t0,m1,t1,m2,t2,m3,t3⟩:=Dy (h:=r.has) Om
 simp only[m0,t0,m1,t1,m2,t2,m3,t3]
 repeat' first|refine ⟨_,rfl,?_⟩|exact trivial|exact rfl|exact ad _|refine bb ?_|refine aD ?_ ?_|exact kF|exact bx _ _ _ (.inl rfl)|exact eJ Om|refine dz ?_|refine iL ?_|refine ⟨rfl,?_⟩|refine ⟨trivial,?_⟩|(refine aq (fun h =>?_) (fun h =>?_))|(refine aZ (fun h =>?_) (fun h =>?_))|(refine cO (fun h =>?_) (fun h =>?_))|refine cy ?_|refine ⟨ay Om,?_⟩|refine And.intro Om ?_|apply And.intro|exact iEq Om|exact ay Om
 all_goals first
  |exact bad (fun o=>by have o:=o.2.1 ‹_›;unfold bz at o;omega)
  |exact bad (fun o=>by have o:=o.2.2.1 ‹_›;unfold bz at o;omega)
  |exact bad (fun o=>by have o:=o.2.2.2.1 ‹_›;unfold bz at o;omega)
  |exact bad (fun o=>by have o:=o.2.2.2.2 ‹_›;unfold bz at o;omega)
  |exact iEq (if_pos ⟨Om,fun q=>by unfold bz;omega,fun q=>by unfold bz;omega,fun q=>by unfold bz;omega,fun q=>by unfold bz;omega⟩).symm
theorem Dk(m:af)(now:Int)(H:Heap):ak prog F.nS [ao m,nI now] H [] (Is (nI (dx m now)) H):=by
 refine cQ 40 (fun _=>rfl) rfl (Eq.mpr (KC _ m now) ?_) H
 delta Ed eY nI fk c0q
 refine ⟨_,trivial,fun H' _ _=>fh _ H',aZ (fun h0=>iEq (dL h0).symm) (fun h0 =>?_)⟩
 exact aq (fun h1=>iEq ((bi h0).trans (if_neg Om)).symm) (fun h1=>aq (fun h2=>iEq ((bi h0).trans (if_neg Om)).symm) (fun h2=>iEq ((bi h0).trans (if_pos Om)).symm))
set_option maxHeartbeats 4000000 in
theorem tn(r:Report)(m:af)(now:Int)(hr:eT r)(hm:eS m)(hh:r.at_<=now/\now<=10000)(H:Heap):ak prog F.pg [az r,ao m,nI now] H [] (Is (cellV (bW r m now)) H):=by
 refine cQ 40 (fun _=>rfl) rfl (Eq.mpr (Nh _ r m now) ?_) H
 have hs:=lS hr
 obtain ⟨⟨_,_,ha,_,_,hq⟩,_⟩:=hr
 delta IA vo tW xS fF l8 nI fk nw bw c0q
 obtain ⟨m0,t0,m1,t1,m2,t2,m3,t3⟩:=Dy (h:=r.has) Om
 simp only[m0,t0,m1,t1,m2,t2,m3,t3]
 repeat' first|(refine cO (fun h =>?_) (fun h =>?_))|refine ⟨ay Om,?_⟩|refine ⟨_,rfl,?_⟩
 all_goals
  refine ⟨bW r m now,trivial,fun H' _ _ =>?_,rfl⟩
  have k:=Dm (sU r) m (now-r.at_) hs hm Om H'
  refine (congrArg (fun a=>ak prog F.i9 [a,ao m,nI (now-r.at_)] H' [] (Is (cellV (bW r m now)) H')) ?_).mp k
  simp only[*,sU,if_true,if_false]
theorem Jr(r:Report)(m:af)(now:Int)(H:Heap):ak prog F.nV [az r,ao m,nI now] H [] (Is (.tuple #[cellV (gA r m now).1,nI (gA r m now).2]) H):=by
 refine cQ 40 (fun _=>rfl) rfl (Eq.mpr (KF _ r m now) ?_) H
 delta Ef Hm nI fk c0q
 refine ⟨_,trivial,fun H' _ _=>Dk _ _ H',aZ (fun h0=>ej (Av h0)) (fun h0=>⟨_,trivial,fun H' _ _=>jI r H',aZ (fun h1=>ej (Au h0 h1)) (fun h1=>aq (fun h2=>ej (At h0 h1 h2)) (fun h2 =>?_))⟩)⟩
 obtain ⟨hm,hn⟩:=kr h0
 exact ⟨_,trivial,fun H' _ _=>tn r m now (dO.1 h1) hm Om H',ej (As h0 h1 h2)⟩
theorem fp{l:List Report}{x c:Nat}(h:x<l.length){v:Value}(hv:(ai (l.getD x ag))[c]?=some v):(l.flatMap ai)[0+Int.toNat ((x:Nat):Int)*14+c]?=some v :=
 jA (n:=14) (f:=ai) (d:=ag) cb h (by rw[Int.toNat_natCast];omega) hv
theorem l5(l:List Report)(m:af)(now:Int){H:Heap}{id:Nat}{own:Bool}{z:Nat}(hid:H[id]?=some (.cells own z (l.flatMap ai))) :
  ak prog F.mZ [slQ id 2 l.length,ao m,nI now] H [] (Is (nI (av l m now)) H):=by
 refine ix (Eq.mpr (IX _ l m now) ?_) (cU (b9 0 l)) rfl [id] rfl (cT hid)
 delta A6 nl eY jq jg gV jmj iM nI slQ fk nw eR wR ixq lq c0q
 refine ⟨_,trivial,fun H' _ _=>Dk _ _ H',aZ (fun h0=>iEq (kn h0).symm) (fun h0 =>?_)⟩
 refine aq (fun h1=>iEq (mQ h0 Om).symm) (fun h1 =>?_)
 have e3:=km h0 (l:=l) Om
 refine ⟨rfl,⟨Nat.zero_le _,rfl⟩,?_,fun _=>rfl,?_⟩
 ·repeat' first|exact trivial|exact ad _|refine ⟨rfl,?_⟩|refine ⟨trivial,?_⟩|apply And.intro
 rintro x ⟨hx,he⟩
 refine aq (fun h =>?_) (fun h =>?_)
 ·have hlt:x<l.length:=Om
  have stop:∀{n:Int},dr l now x=n->n≠0->(nI n)=nI (av l m now):=fun h hn=>iEq (by rw[e3,jl he (by rw[h];exact hn) hlt,h])
  refine ⟨Om,da hlt,_,trivial,fun H' _ _=>jI _ H',aZ (fun h2=>stop (kq h2) h2) (fun h2 =>?_)⟩
  refine ⟨rfl,⟨Nat.zero_le _,fun k hk=>absurd hk (Nat.not_lt_zero k)⟩,?_,fun _=>rfl,?_⟩
  ·repeat' first|exact trivial|exact ad _|refine ⟨rfl,?_⟩|refine ⟨trivial,?_⟩|apply And.intro
  rintro y ⟨hy,hno⟩
  refine aq (fun hl2 =>?_) (fun hl2 =>?_)
  ·refine ⟨Om,fp (c:=0) Om rfl,Om,fp (c:=0) hlt rfl,cO (fun hq=>stop (kp h2 ⟨y,Om,hq⟩) (by decide)) (fun hq =>?_)⟩
   refine ⟨ay Om,y+1,⟨Om,fun k hk =>?_⟩,Om,rfl,?_⟩
   ·rcases Nat.lt_or_ge k y with h3|h3
    ·exact hno k h3
    ·obtain rfl:k=y:=Om
     exact hq
   ·repeat' first|exact trivial|exact ad _|refine ⟨rfl,?_⟩|refine ⟨trivial,?_⟩|apply And.intro
  ·obtain rfl:y=x:=Om
   have h3:¬ ∃k,k<y/\(l.getD k ag).id=(l.getD y ag).id:=fun ⟨k,h,e⟩=>hno k h e
   refine ⟨Om,fp hlt rfl,Om,Lz Om,aZ (fun h4=>stop (fb h2 h3 (.inl h4)) (by decide)) (fun h4 =>?_)⟩
   refine ⟨Om,fp hlt rfl,Om,Ly Om,aZ (fun h5=>stop (fb h2 h3 (.inr h5)) (by decide)) (fun h5 =>?_)⟩
   have h6:¬ ((l.getD y ag).x≠(l.getD 0 ag).x∨(l.getD y ag).y≠(l.getD 0 ag).y):=fun q=>q.elim (fun a=>a h4) (fun a=>a h5)
   refine ⟨Om,fp hlt rfl,aq (fun h7=>stop (ko h2 h3 h6 Om) (by decide)) (fun h7 =>?_)⟩
   refine ⟨ay Om,y+1,⟨Om,fa he (p7 h2 h3 h6 Om)⟩,Om,rfl,?_⟩
   repeat' first|exact trivial|exact ad _|refine ⟨rfl,?_⟩|refine ⟨trivial,?_⟩|apply And.intro
 ·obtain rfl:x=l.length:=Om
  exact iEq (by rw[e3,he])
structure Na(l:List Report)(m:af)(now:Int):Prop where
 rates:eS m
 hour:0<=now/\now<=10000
 len:l.length<=12
 each:∀i,i<l.length->eT (l.getD i ag)/\(l.getD i ag).at_<=now
theorem opened{l:List Report}{m:af}{now:Int}(h:av l m now=0):Na l m now:=by
 have h0:dx m now=0:=by
  rcases Classical.em (dx m now=0) with k|k
  ·exact k
  ·rw[kn k]at h;exact absurd h k
 obtain ⟨hm,hn⟩:=kr h0
 have hl:=fU h
 refine ⟨hm,hn,hl,fun i hi =>?_⟩
 have e:=hC ((km h0 (l:=l) Om).symm.trans h) i hi
 have h2:errReport (l.getD i ag)=0:=by
  rcases Classical.em (errReport (l.getD i ag)=0) with k|k
  ·exact k
  ·rw[kq k]at e;exact absurd e k
 refine ⟨dO.1 h2,?_⟩
 rcases Classical.em (∃k,k<i/\(l.getD k ag).id=(l.getD i ag).id) with h3|h3
 ·rw[kp h2 h3]at e;cases e
 rcases Classical.em ((l.getD i ag).x≠(l.getD 0 ag).x∨(l.getD i ag).y≠(l.getD 0 ag).y) with h6|h6
 ·rw[fb h2 h3 h6]at e;cases e
 rcases Classical.em ((l.getD i ag).at_ > now) with h7|h7
 ·rw[ko h2 h3 h6 h7]at e;cases e
 ·omega
theorem fR{l:List Report}{m:af}{now:Int}(h:av l m now=0):ec (told l m now):=by
 have o:=opened h
 intro i hi
 rw[cz]at hi
 rw[lO hi]
 obtain ⟨h1,h2⟩:=o.each i hi
 have:=h1.1.2.2.1
 have:=o.hour
 exact CC (lS h1) o.rates (show 0<=now-(l.getD i ag).at_/\now-(l.getD i ag).at_<=10000 by omega)
theorem w9{f:FuncId}{args:List Value}{c:List Value}{h:Hint}(v:Nat->Value){z:Nat}{cs:List Value}
    (hc:vE f args (aH 0 [c]) (some []) h (er (aH 0 [c]).n 3 (v 1) [(true,.cells true z cs)]))
    (hp0:c.all (aw 0)=true) (hp:∀n,cs.all (aw n)=true) (h1:dD 3 (v 1)=true) (h2:rn (bD (0+1)) 3 (v 1)=v 1) (h3:∀j,rn (bT (0+1) j) 3 (v 1)=v j)
    {H:Heap} {id:Nat} {own:Bool} {z2:Nat} (hid:H[id]?=some (.cells own z2 c)) {args':List Value} (ha:args.map (rn (sgR 0 [id]) 3)=args') :
    ak prog f args' H [] (Is (v H.length) (H ++ [.cells true z cs])):=by
  subst ha
  have key:=rU (css:=[c]) (v:=v 1) (new:=[(true,.cells true z cs)]) hc (cU hp0) h1 h2
    (by show ((cY 3 (.cells true z cs) && true) && true) = true
        rw[Bool.and_true,Bool.and_true];exact (dw (σ:=fun _=>none) (d:=0) (hp 0)).2)
    (congrArg (fun q=>[ah.cells true z q]) (dw (d:=0) (hp 0)).1) (H:=H) [id] rfl (cT hid)
  have e2:(List.map (fun x:Bool×ah=>x.2) [(true,ah.cells true z cs)]).map (rno (bT (0 + [c].length) H.length) 3)=[.cells true z cs] :=
    congrArg (fun q=>[ah.cells true z q]) (dw (d:=0) (hp 0)).1
  rw[e2,show rn (bT (0 + [c].length) H.length) 3 (v 1)=v H.length from h3 _]at key
  exact key
theorem xz(l:List Report)(m:af)(now:Int)(he:av l m now=0){H:Heap}{L:Nat}(hL:H.length=L){id:Nat}{own:Bool}{z:Nat}(hid:H[id]?=some (.cells own z (l.flatMap ai))) :
  ak prog F.nQ [slQ id 2 l.length,ao m,nI now] H []
   (Is (.slice (some ⟨L,0,some 1⟩) (conf (told l m now) l.length).length (conf (told l m now) l.length).length) (H ++ [.cells true 2 ((conf (told l m now) l.length).flatMap bo)])):=by
 subst hL
 refine w9 (fun i => .slice (some ⟨i,0,some 1⟩) (conf (told l m now) l.length).length (conf (told l m now) l.length).length) (Eq.mpr (KA l m now) ?_) (b9 0 l) (fun n=>eD n _) rfl (by simp[rn,bD]) (fun j=>by simp[rn,bT]) hid rfl
 delta Eb eY jq rZ jg iB xU nl oB JG nk qO jmj iM Hk Hl jh nI slQ pt slN fk nw eR wR kbq ixq lq apq c0q
 have o:=opened he
 have hn:=o.len
 have hn2:=cz l m now
 have hr:=fR he
 refine ⟨rfl,Nat.zero_le _,?_,fun _=>rfl,?_⟩
 ·repeat' first|exact trivial|exact ad _|exact bx _ _ _ (.inl rfl)|refine ⟨rfl,?_⟩|refine ⟨trivial,?_⟩|apply And.intro
 intro x hx
 have hcx:(conf (told l m now) x).length<=12*12:=Nat.le_trans (qf (told l m now) x) (Nat.mul_le_mul Om Om)
 refine aq (fun h =>?_) (fun h =>?_)
 ·have hlt:x<l.length:=Om
  refine ⟨ay Om,rfl,Om,?_,fun _=>rfl,?_⟩
  ·have ea:conf (told l m now) x++aU (told l m now) x 0=conf (told l m now) x:=List.append_nil _
   rw[ea]
   repeat' first|exact eD _ _|exact trivial|exact ad _|refine ⟨rfl,?_⟩|refine ⟨trivial,?_⟩|apply And.intro
  intro k hk
  have hcr:=mt (told l m now) x k
  have hap:(conf (told l m now) x++aU (told l m now) x k).length=(conf (told l m now) x).length+(aU (told l m now) x k).length:=aI
  refine aq (fun h2 =>?_) (fun h2 =>?_)
  ·have hlt2:x+1+k<l.length:=Om
   have g1:=lO (m:=m) (now:=now) hlt
   have g2:=lO (m:=m) (now:=now) hlt2
   have r1:=hr x Om
   have r2:=hr (x+1+k) Om
   rw[g1]at r1
   rw[g2]at r2
   refine ⟨Om,da hlt,Om,da hlt2,_,trivial,fun H' _ _=>tn _ m now (o.each x hlt).1 o.rates ⟨(o.each x hlt).2,o.hour.2⟩ H',_,trivial,fun H' _ _=>tn _ m now (o.each _ hlt2).1 o.rates ⟨(o.each _ hlt2).2,o.hour.2⟩ H',_,trivial,fun H' _ _=>Dn _ _ r1 r2 H',cy (aq (fun ok =>?_) (fun ok =>?_))⟩
   ·rw[<- g1,<- g2]at ok
    refine ⟨ay Om,k+1,Om,Om,?_⟩
    rw[kw ok]
    repeat' first|exact eD _ _|exact trivial|exact ad _|refine ⟨rfl,?_⟩|refine ⟨trivial,?_⟩|apply And.intro
   ·rw[<- g1,<- g2]at ok
    refine ⟨⟨Om,by decide,⟨Nat.le_refl _,by rw[aK gS];omega⟩,⟨by decide,Nat.le_refl _⟩,rfl⟩,rfl,ay Om,k+1,Om,Om,?_⟩
    rw[ku ok,<- List.append_assoc]
    have hl1:(conf (told l m now) x++aU (told l m now) x k ++ [(x,x+1+k)]).length=(conf (told l m now) x++aU (told l m now) x k).length+1:=aI
    repeat' first|exact eD _ _|(exact (by rw[hl1];exact eJ Om))|(exact congrArg (fun l=>some (ah.cells true 2 l)) (cF gS _ (x,x+1+k) rfl))|exact trivial|exact ad _|refine ⟨rfl,?_⟩|refine ⟨trivial,?_⟩|apply And.intro
  ·have e:conf (told l m now) (x+1)=conf (told l m now) x++aU (told l m now) x k:=by
    show _++aU _ _ _=_
    rw[show (told l m now).length-(x+1)=k by omega]
   refine ⟨ay Om,x+1,Om,Om,?_⟩
   rw[e]
   repeat' first|exact eD _ _|exact trivial|exact ad _|refine ⟨rfl,?_⟩|refine ⟨trivial,?_⟩|apply And.intro
 ·obtain rfl:x=l.length:=Om
  repeat' first|exact eD _ _|exact trivial|exact ad _|refine ⟨rfl,?_⟩|apply And.intro
theorem zt(l:List Report)(m:af)(now:Int){H:Heap}{L:Nat}(hL:H.length=L){id:Nat}{own:Bool}{z:Nat}(hid:H[id]?=some (.cells own z (l.flatMap ai))) :
  ak prog F.kJ [slQ id 2 l.length,ao m,nI now] H []
   (Is (.tuple #[.slice (some ⟨L,0,some 1⟩) (a7 l m now).1.length (a7 l m now).1.length,nI (a7 l m now).2]) (H ++ [.cells true 2 ((a7 l m now).1.flatMap bo)])):=by
 subst hL
 refine w9 (fun i => .tuple #[.slice (some ⟨i,0,some 1⟩) (a7 l m now).1.length (a7 l m now).1.length,nI (a7 l m now).2]) (Eq.mpr (Bg l m now) ?_) (b9 0 l) (fun n=>eD n _) rfl (by simp[rn,bD]) (fun j=>by simp[rn,bT]) hid rfl
 delta rL jM fO Fo nk jh Fr iM nI slQ fk kbq c1q n1q
 refine ⟨_,⟨rfl,trivial⟩,fun H' _ hd=>l5 l m now hd.1,aZ (fun h0 =>?_) (fun h0 =>?_)⟩
 ·rw[yi h0]
  repeat' first|exact trivial|exact ad _|refine aD ?_ ?_|exact bx _ _ _ (.inl rfl)|refine dz ?_|refine ⟨rfl,?_⟩|refine ⟨trivial,?_⟩|apply And.intro
 ·rw[yh h0]
  refine ⟨⟨rfl,trivial⟩,fun H' hl hd=>xz l m now h0 hl hd.1,?_⟩
  repeat' first|exact eD _ _|exact trivial|exact ad _|refine ⟨rfl,?_⟩|apply And.intro
theorem FP{l:List Report}{m:af}{now:Int}(h:av l m now=0):(di (told l m now) (2 ^ l.length-1)).isSome=true ↔ conf (told l m now) l.length=[]:=by
 have hf:∀i,i<(told l m now).length->bM (told l m now).length (2 ^ l.length-1) i=true:=fun i hi=>by
  rw[cz]at hi ⊢;exact tZ hi
 have hr:=fR h
 rw[sm hr,mI hf,<- Ig hr,cz]
theorem LO(l:List Report)(m:af)(now:Int){H:Heap}{id:Nat}{own:Bool}{z:Nat}(hid:H[id]?=some (.cells own z (l.flatMap ai))) :
  ak prog F.pm [slQ id 2 l.length,ao m,nI now] H [] (Is (.tuple #[cellV (lw l m now).1,nI (lw l m now).2]) H):=by
 refine ix (Eq.mpr (Nk _ l m now) ?_) (cU (b9 0 l)) rfl [id] rfl (cT hid)
 delta ID jM fO Hm jh Fr eY jg L6 jmk jmb vm JO nl iM JR jmd JI JH nI slQ pt fk nw bw eR wR krq kbq ixq c0q c1q n1q
 refine ⟨_,⟨rfl,trivial⟩,fun H' _ hd=>l5 l m now hd.1,aZ (fun h0=>ej (DR h0)) (fun h0 =>?_)⟩
 have o:=opened h0
 have hn:=o.len
 have hn2:=cz l m now
 have hfc:=FP h0
 refine ⟨⟨rfl,trivial⟩,fun H' hl hd=>xz l m now h0 hl hd.1,_,rfl,aq (fun h1=>ej (DQ h0 ?_)) (fun h1 =>?_)⟩
 ·cases hq:(di (told l m now) (2 ^ l.length-1)).isSome with
  |false=>rfl
  |true=>rw[hfc.1 hq]at h1;simp at h1
 have hsome:(di (told l m now) (2 ^ l.length-1)).isSome=true:=hfc.2 (List.length_eq_zero_iff.1 Om)
 refine ⟨rfl,⟨Nat.zero_le _,rfl⟩,?_,fun _=>rfl,?_⟩
 ·repeat' first|exact trivial|exact rfl|exact ad _|refine ⟨rfl,?_⟩|refine ⟨trivial,?_⟩|apply And.intro
 rintro ⟨x,c⟩ ⟨hx,hc⟩
 dsimp only at hx hc ⊢
 refine aq (fun h =>?_) (fun h =>?_)
 ·have hlt:x<l.length:=Om
  have g1:=lO (m:=m) (now:=now) hlt
  have ht:=jW hc
  rw[show bM (told l m now).length (2 ^ l.length-1) x=true from by rw[hn2];exact tZ hlt,if_pos rfl,g1]at ht
  have hok:okC (bK c (bW (l.getD x ag) m now)):=by
   refine Classical.byContradiction fun hk =>?_
   rw[if_neg hk]at ht
   have:=oU ht (n:=(told l m now).length) Om
   unfold di at hsome
   rw[this]at hsome;cases hsome
  rw[if_pos hok]at ht
  refine ⟨Om,da hlt,_,trivial,fun H' _ _=>tn _ m now (o.each x hlt).1 o.rates ⟨(o.each x hlt).2,o.hour.2⟩ H',_,trivial,fun H' _ _=>tt _ _ H',ay Om,(x+1,bK c (bW (l.getD x ag) m now)),⟨hlt,ht⟩,(show l.length-(x+1)<l.length-x by omega),?_⟩
  repeat' first|exact trivial|exact rfl|exact ad _|refine ⟨rfl,?_⟩|refine ⟨trivial,?_⟩|apply And.intro
 ·obtain rfl:x=l.length:=Om
  refine ej ?_
  rw[DP h0 hsome]
  unfold di
  rw[hn2,hc];rfl
end
end Go.Proofs.YthcjliffpebjaaaGreat
