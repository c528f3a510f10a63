/- What is to be shown of functions. Printed by a program. No condition. -/
import Derived.Test.YthcjliffpebjaaaGreatGS4gxP1a
import Derived.Test.YthcjliffpebjaaaGreatGX0xS4a
open Go Go.K
set_option maxRecDepth 1000000
set_option maxHeartbeats 4000000
set_option linter.unusedVariables false
set_option linter.unusedSimpArgs false
namespace Go.Proofs.YthcjliffpebjaaaGreat
noncomputable section
attribute [local irreducible] vF
abbrev jr:=IntKind.bits .i64
abbrev Mo(qi0:Int)(qn0:Nat):=IntKind.wrap .i64 ((BitVec.ofInt jr qi0 &&& BitVec.ofInt jr qn0).toNat:Nat)
def Lo(sp:Value)(r:Report)(k:Int):Prop :=
 (((0:Int)<=k)/\(∃i_0:Int,bw (Int.fdiv r.has (2 ^ min k.toNat jr)) i_0/\(∃i_1:Int,bw (Mo i_0 1) i_1/\(.bool ((i_1:Int) == 1):Value)=sp)))
theorem O5(sp:Value)(r:Report)(k:Int):vE 131 [(az r),nI k] ⟨0,.leaf⟩ (some [])
 (.go 4 (.need (.bind Int (fun i_0 => .slot 8 (nI i_0) (.go 0 (.bind Int (fun i_1 => .slot 9 (nI i_1) (.auto))))))))
 (fun v _ _=>v=sp)=Lo sp r k:=by kernel_rfl
abbrev gj:Value:=nI 20
abbrev nm:Value:=nI 0
abbrev Mn(qH0:Report)(qv0:Value):Prop:=∃c_3:Bool,(c0q 2 131 [(az qH0),nI 3] (.bool c_3) (fk (!c_3) (nm=qv0) (fk (decide ((0:Int)<=qH0.cell.ac.lo)) (fk (decide ((qH0.cell.ac.lo:Int)<=3)) (fk (decide ((qH0.cell.ac.lo:Int)<=qH0.cell.ac.hi)) (fk (!(decide ((qH0.cell.ac.hi:Int)<=3))) (gj=qv0) (nm=qv0)) (gj=qv0)) (gj=qv0)) (gj=qv0))))
abbrev jk1(qH0:Report)(qv0:Value):Prop:=∃c_2:Bool,(c0q 2 131 [(az qH0),nI 2] (.bool c_2) (fk (!c_2) (Mn qH0 qv0) (fk (decide ((0:Int)<=qH0.cell.aa.lo)) (fk (decide ((qH0.cell.aa.lo:Int)<=100)) (fk (decide ((qH0.cell.aa.lo:Int)<=qH0.cell.aa.hi)) (fk (!(decide ((qH0.cell.aa.hi:Int)<=100))) (gj=qv0) (Mn qH0 qv0)) (gj=qv0)) (gj=qv0)) (gj=qv0))))
abbrev jkc(qH0:Report)(qv0:Value):Prop:=∃c_1:Bool,(c0q 2 131 [(az qH0),nI 1] (.bool c_1) (fk (!c_1) (jk1 qH0 qv0) (fk (decide ((0:Int)<=qH0.cell.ab.lo)) (fk (decide ((qH0.cell.ab.lo:Int)<=400)) (fk (decide ((qH0.cell.ab.lo:Int)<=qH0.cell.ab.hi)) (fk (!(decide ((qH0.cell.ab.hi:Int)<=400))) (gj=qv0) (jk1 qH0 qv0)) (gj=qv0)) (gj=qv0)) (gj=qv0))))
def IP(sp:Value)(r:Report):Prop :=
 (fk (decide ((0:Int)<=r.id)) (fk (!(decide ((r.id:Int)<=1000000))) (gj=sp) (fk (decide ((1:Int)<=r.source)) (fk (!(decide ((r.source:Int)<=3))) (gj=sp) (fk (decide ((0:Int)<=r.at_)) (fk (!(decide ((r.at_:Int)<=10000))) (gj=sp) (fk (decide ((0:Int)<=r.x)) (fk (!(decide ((r.x:Int)<=63))) (gj=sp) (fk (decide ((0:Int)<=r.y)) (fk (!(decide ((r.y:Int)<=63))) (gj=sp) (fk (decide ((1:Int)<=r.has)) (fk (!(decide ((r.has:Int)<=15))) (gj=sp) (∃c_0:Bool,(c0q 2 131 [(az r),nI 0] (.bool c_0) (fk (!c_0) (jkc r sp) (fk (decide ((0:Int)<=r.cell.ae.lo)) (fk (decide ((r.cell.ae.lo:Int)<=100)) (fk (decide ((r.cell.ae.lo:Int)<=r.cell.ae.hi)) (fk (!(decide ((r.cell.ae.hi:Int)<=100))) (gj=sp) (jkc r sp)) (gj=sp)) (gj=sp)) (gj=sp)))))) (gj=sp))) (gj=sp))) (gj=sp))) (gj=sp))) (gj=sp))) (gj=sp))
abbrev Od:Hint:=.bind (Bool) (fun r3 => .ans [] (.bool r3) [] (.go 1 (.am (.auto) (.go 20 (.am (.go 5 (.am (.go 15 (.am (.go 9 (.fork (.auto) (.auto))) (.auto))) (.auto))) (.auto))))))
abbrev jk2(qn0:Nat):Hint:=.go qn0 (.bind (Bool) (fun r2 => .ans [] (.bool r2) [] (.go 1 (.am (.go 15 Od) (.go 20 (.am (.go 5 (.am (.go 15 (.am (.go 9 (.fork (.auto) (.go 11 Od))) (.auto))) (.auto))) (.auto)))))))
abbrev jkm:Hint:=.bind (Bool) (fun r1 => .ans [] (.bool r1) [] (.go 1 (.am (jk2 15) (.go 20 (.am (.go 5 (.am (.go 15 (.am (.go 9 (.fork (.auto) (jk2 11))) (.auto))) (.auto))) (.auto))))))
theorem Nw(sp:Value)(r:Report):vE 73 [(az r)] ⟨0,.leaf⟩ (some [])
 (.go 26 (.am (.go 6 (.am (.auto) (.go 7 (.am (.go 7 (.am (.auto) (.go 7 (.am (.go 7 (.am (.auto) (.go 7 (.am (.go 7 (.am (.auto) (.go 7 (.am (.go 7 (.am (.auto) (.go 7 (.am (.go 7 (.am (.auto) (.go 17 (.bind (Bool) (fun r0 => .ans [] (.bool r0) [] (.go 1 (.am (.go 15 jkm) (.go 20 (.am (.go 5 (.am (.go 15 (.am (.go 9 (.fork (.auto) (.go 11 jkm))) (.auto))) (.auto))) (.auto)))))))))) (.auto))))) (.auto))))) (.auto))))) (.auto))))) (.auto))))) (.auto)))
 (fun v _ _=>v=sp)=IP sp r:=by kernel_rfl
abbrev ma(cn:Cell)(sp:Value):Prop:=((cellV cn):Value)=sp
def Ix(sp:Value)(r:Report)(m:af)(now:Int):Prop :=
 (nw (now-r.at_) (∃c_0:Bool,(c0q 8 131 [(az r),nI 0] (.bool c_0) (fk c_0 (∃c_1:Bool,(c0q 8 131 [(az r),nI 1] (.bool c_1) (fk c_1 (∃c_2:Bool,(c0q 8 131 [(az r),nI 2] (.bool c_2) (fk c_2 (∃c_3:Bool,(c0q 8 131 [(az r),nI 3] (.bool c_3) (fk c_3 (∃cn:Cell,(c0q 5 112 [.agg #[nI r.cell.ae.lo,nI r.cell.ae.hi,nI r.cell.ab.lo,nI r.cell.ab.hi,nI r.cell.aa.lo,nI r.cell.aa.hi,nI r.cell.ac.lo,nI r.cell.ac.hi],(ao m),nI (now-r.at_)] (cellV cn) (ma cn sp))) (∃cn:Cell,(c0q 5 112 [.agg #[nI r.cell.ae.lo,nI r.cell.ae.hi,nI r.cell.ab.lo,nI r.cell.ab.hi,nI r.cell.aa.lo,nI r.cell.aa.hi,nI 0,nI 3],(ao m),nI (now-r.at_)] (cellV cn) (ma cn sp)))))) (∃c_3:Bool,(c0q 8 131 [(az r),nI 3] (.bool c_3) (fk c_3 (∃cn:Cell,(c0q 5 112 [.agg #[nI r.cell.ae.lo,nI r.cell.ae.hi,nI r.cell.ab.lo,nI r.cell.ab.hi,nI 0,nI 100,nI r.cell.ac.lo,nI r.cell.ac.hi],(ao m),nI (now-r.at_)] (cellV cn) (ma cn sp))) (∃cn:Cell,(c0q 5 112 [.agg #[nI r.cell.ae.lo,nI r.cell.ae.hi,nI r.cell.ab.lo,nI r.cell.ab.hi,nI 0,nI 100,nI 0,nI 3],(ao m),nI (now-r.at_)] (cellV cn) (ma cn sp))))))))) (∃c_2:Bool,(c0q 8 131 [(az r),nI 2] (.bool c_2) (fk c_2 (∃c_3:Bool,(c0q 8 131 [(az r),nI 3] (.bool c_3) (fk c_3 (∃cn:Cell,(c0q 5 112 [.agg #[nI r.cell.ae.lo,nI r.cell.ae.hi,nI 0,nI 400,nI r.cell.aa.lo,nI r.cell.aa.hi,nI r.cell.ac.lo,nI r.cell.ac.hi],(ao m),nI (now-r.at_)] (cellV cn) (ma cn sp))) (∃cn:Cell,(c0q 5 112 [.agg #[nI r.cell.ae.lo,nI r.cell.ae.hi,nI 0,nI 400,nI r.cell.aa.lo,nI r.cell.aa.hi,nI 0,nI 3],(ao m),nI (now-r.at_)] (cellV cn) (ma cn sp)))))) (∃c_3:Bool,(c0q 8 131 [(az r),nI 3] (.bool c_3) (fk c_3 (∃cn:Cell,(c0q 5 112 [.agg #[nI r.cell.ae.lo,nI r.cell.ae.hi,nI 0,nI 400,nI 0,nI 100,nI r.cell.ac.lo,nI r.cell.ac.hi],(ao m),nI (now-r.at_)] (cellV cn) (ma cn sp))) (∃cn:Cell,(c0q 5 112 [.agg #[nI r.cell.ae.lo,nI r.cell.ae.hi,nI 0,nI 400,nI 0,nI 100,nI 0,nI 3],(ao m),nI (now-r.at_)] (cellV cn) (ma cn sp)))))))))))) (∃c_1:Bool,(c0q 8 131 [(az r),nI 1] (.bool c_1) (fk c_1 (∃c_2:Bool,(c0q 8 131 [(az r),nI 2] (.bool c_2) (fk c_2 (∃c_3:Bool,(c0q 8 131 [(az r),nI 3] (.bool c_3) (fk c_3 (∃cn:Cell,(c0q 5 112 [.agg #[nI 0,nI 100,nI r.cell.ab.lo,nI r.cell.ab.hi,nI r.cell.aa.lo,nI r.cell.aa.hi,nI r.cell.ac.lo,nI r.cell.ac.hi],(ao m),nI (now-r.at_)] (cellV cn) (ma cn sp))) (∃cn:Cell,(c0q 5 112 [.agg #[nI 0,nI 100,nI r.cell.ab.lo,nI r.cell.ab.hi,nI r.cell.aa.lo,nI r.cell.aa.hi,nI 0,nI 3],(ao m),nI (now-r.at_)] (cellV cn) (ma cn sp)))))) (∃c_3:Bool,(c0q 8 131 [(az r),nI 3] (.bool c_3) (fk c_3 (∃cn:Cell,(c0q 5 112 [.agg #[nI 0,nI 100,nI r.cell.ab.lo,nI r.cell.ab.hi,nI 0,nI 100,nI r.cell.ac.lo,nI r.cell.ac.hi],(ao m),nI (now-r.at_)] (cellV cn) (ma cn sp))) (∃cn:Cell,(c0q 5 112 [.agg #[nI 0,nI 100,nI r.cell.ab.lo,nI r.cell.ab.hi,nI 0,nI 100,nI 0,nI 3],(ao m),nI (now-r.at_)] (cellV cn) (ma cn sp))))))))) (∃c_2:Bool,(c0q 8 131 [(az r),nI 2] (.bool c_2) (fk c_2 (∃c_3:Bool,(c0q 8 131 [(az r),nI 3] (.bool c_3) (fk c_3 (∃cn:Cell,(c0q 5 112 [.agg #[nI 0,nI 100,nI 0,nI 400,nI r.cell.aa.lo,nI r.cell.aa.hi,nI r.cell.ac.lo,nI r.cell.ac.hi],(ao m),nI (now-r.at_)] (cellV cn) (ma cn sp))) (∃cn:Cell,(c0q 5 112 [.agg #[nI 0,nI 100,nI 0,nI 400,nI r.cell.aa.lo,nI r.cell.aa.hi,nI 0,nI 3],(ao m),nI (now-r.at_)] (cellV cn) (ma cn sp)))))) (∃c_3:Bool,(c0q 8 131 [(az r),nI 3] (.bool c_3) (fk c_3 (∃cn:Cell,(c0q 5 112 [.agg #[nI 0,nI 100,nI 0,nI 400,nI 0,nI 100,nI r.cell.ac.lo,nI r.cell.ac.hi],(ao m),nI (now-r.at_)] (cellV cn) (ma cn sp))) (∃cn:Cell,(c0q 5 112 [.agg #[nI 0,nI 100,nI 0,nI 400,nI 0,nI 100,nI 0,nI 3],(ao m),nI (now-r.at_)] (cellV cn) (ma cn sp))))))))))))))))
abbrev Oe:Hint:=.go 18 (.bind (Bool) (fun r3 => .ans [] (.bool r3) [] (.fork (.go 11 (.bind (Cell) (fun r4 => .ans [] ((cellV r4)) [] (.auto)))) (.go 11 (.bind (Cell) (fun r4 => .ans [] ((cellV r4)) [] (.auto)))))))
abbrev jk3:Hint:=.go 18 (.bind (Bool) (fun r2 => .ans [] (.bool r2) [] (.fork Oe Oe)))
abbrev Of:Hint:=.go 18 (.bind (Bool) (fun r1 => .ans [] (.bool r1) [] (.fork jk3 jk3)))
theorem Nd(sp:Value)(r:Report)(m:af)(now:Int):vE 74 [(az r),(ao m),nI now] ⟨0,.leaf⟩ (some [])
 (.go 122 (.slot 19 (nI (now-r.at_)) (.go 14 (.bind (Bool) (fun r0 => .ans [] (.bool r0) [] (.fork Of Of))))))
 (fun v _ _=>v=sp)=Ix sp r m now:=by kernel_rfl
def OS(sp:Value)(m:af)(now:Int):Prop :=
 (∃i_0:Int,(c0q 1 31 [(ao m)] (nI i_0) (fk ((i_0:Int) != 0) ((nI i_0:Value)=sp) (fk (decide ((0:Int)<=now)) (fk (!(decide ((now:Int)<=10000))) ((nI 6:Value)=sp) (nm=sp)) ((nI 6:Value)=sp)))))
theorem PC(sp:Value)(m:af)(now:Int):vE 72 [(ao m),nI now] ⟨0,.leaf⟩ (some [])
 (.go 2 (.bind (Int) (fun Bx => .ans [] (nI Bx) [] (.go 2 (.fork (.auto) (.go 6 (.am (.go 5 (.fork (.auto) (.auto))) (.auto))))))))
 (fun v _ _=>v=sp)=OS sp m now:=by kernel_rfl
abbrev jkw(qi0:Int)(qv0:Value):Prop:=(.bool ((qi0:Int) != 0):Value) = .bool true/\(.tuple #[.agg #[nI 0,nI 0,nI 0,nI 0,nI 0,nI 0,nI 0,nI 0],nI qi0]:Value)=qv0
def IJ(sp:Value)(r:Report)(m:af)(now:Int):Prop :=
 (∃i_0:Int,(c0q 3 72 [(ao m),nI now] (nI i_0) (∃i_1:Int,(c0q 3 73 [(az r)] (nI i_1) (fk ((i_0:Int) != 0) (jkw i_0 sp) (fk ((i_1:Int) != 0) (jkw i_1 sp) (fk (decide ((now:Int)<r.at_)) ((.tuple #[.agg #[nI 0,nI 0,nI 0,nI 0,nI 0,nI 0,nI 0,nI 0],nI 12]:Value)=sp) (∃bP:Cell,(c0q 4 74 [(az r),(ao m),nI now] (cellV bP) ((.tuple #[(cellV bP),nI 0]:Value)=sp))))))))))
theorem Nr(sp:Value)(r:Report)(m:af)(now:Int):vE 11 [(az r),(ao m),nI now] ⟨0,.leaf⟩ (some [])
 (.go 6 (.bind (Int) (fun Bx => .ans [] (nI Bx) [] (.bind (Int) (fun LC => .ans [] (nI LC) [] (.go 12 (.fork (.go 4 (.slot 17 (.bool true) (.auto))) (.go 8 (.fork (.go 4 (.slot 17 (.bool true) (.auto))) (.go 12 (.fork (.auto) (.go 2 (.bind (Cell) (fun EQ => .ans [] ((cellV EQ)) [] (.auto)))))))))))))))
 (fun v _ _=>v=sp)=IJ sp r m now:=by kernel_rfl
abbrev vr:=IntKind.bits .u64
abbrev zR(i_4:Int):=Int.fdiv i_4 (2 ^ 8)
abbrev JU(i_4:Int):=Int.fdiv (i_4+(zR i_4)) (2 ^ 16)
def CE(sp:Value)(n:Int):Prop :=
 (∃i_0:Int,(.int .u64 (IntKind.wrap .u64 ((BitVec.ofInt vr (Int.fdiv n (2 ^ 1)) &&& BitVec.ofInt vr 6148914691236517205).toNat:Nat)):Value) = .int .u64 i_0/\(∃i_1:Int,(.int .u64 (IntKind.wrap .u64 ((BitVec.ofInt vr n &&& BitVec.ofInt vr 6148914691236517205).toNat:Nat)):Value) = .int .u64 i_1/\((.int .u64 (IntKind.wrap .u64 (i_0+i_1)):Value) = .int .u64 (i_0+i_1)/\(∃i_2:Int,(.int .u64 (IntKind.wrap .u64 ((BitVec.ofInt vr (Int.fdiv (i_0+i_1) (2 ^ 2)) &&& BitVec.ofInt vr 3689348814741910323).toNat:Nat)):Value) = .int .u64 i_2/\(∃i_3:Int,(.int .u64 (IntKind.wrap .u64 ((BitVec.ofInt vr (i_0+i_1) &&& BitVec.ofInt vr 3689348814741910323).toNat:Nat)):Value) = .int .u64 i_3/\((.int .u64 (IntKind.wrap .u64 (i_2+i_3)):Value) = .int .u64 (i_2+i_3)/\((.int .u64 (IntKind.wrap .u64 ((Int.fdiv (i_2+i_3) (2 ^ 4))+(i_2+i_3))):Value) = .int .u64 ((Int.fdiv (i_2+i_3) (2 ^ 4))+(i_2+i_3))/\(∃i_4:Int,(.int .u64 (IntKind.wrap .u64 ((BitVec.ofInt vr ((Int.fdiv (i_2+i_3) (2 ^ 4))+(i_2+i_3)) &&& BitVec.ofInt vr 1085102592571150095).toNat:Nat)):Value) = .int .u64 i_4/\((.int .u64 (IntKind.wrap .u64 (i_4+(zR i_4))):Value) = .int .u64 (i_4+(zR i_4))/\((.int .u64 (IntKind.wrap .u64 ((i_4+(zR i_4))+(JU i_4))):Value) = .int .u64 ((i_4+(zR i_4))+(JU i_4))/\(∃i_5:Int,(.int .u64 ((i_4+(zR i_4))+(JU i_4)):Value) = .int .u64 i_5/\((.int .u64 (IntKind.wrap .u64 (i_5+(Int.fdiv i_5 (2 ^ 32)))):Value) = .int .u64 (i_5+(Int.fdiv i_5 (2 ^ 32)))/\(∃i_6:Int,bw (IntKind.wrap .i64 (i_5+(Int.fdiv i_5 (2 ^ 32)))) i_6/\(∃i_7:Int,bw (Mo i_6 127) i_7/\(nI i_7:Value)=sp))))))))))))))
theorem CO(sp:Value)(n:Int):vE 155 [.int .u64 n] ⟨0,.leaf⟩ (some [])
 (.go 6 (.bind Int (fun i_0 => .slot 5 (.int .u64 i_0) (.go 1 (.bind Int (fun i_1 => .slot 7 (.int .u64 i_1) (.go 0 (.slot 8 (.int .u64 (i_0+i_1)) (.go 3 (.bind Int (fun i_2 => .slot 11 (.int .u64 i_2) (.go 1 (.bind Int (fun i_3 => .slot 13 (.int .u64 i_3) (.go 0 (.slot 14 (.int .u64 (i_2+i_3)) (.go 4 (.slot 18 (.int .u64 ((Int.fdiv (i_2+i_3) (2 ^ 4))+(i_2+i_3))) (.go 0 (.bind Int (fun i_4 => .slot 19 (.int .u64 i_4) (.go 4 (.slot 23 (.int .u64 (i_4+(zR i_4))) (.go 4 (.slot 27 (.int .u64 ((i_4+(zR i_4))+(JU i_4))) (.bind Int (fun i_5 => .slot 27 (.int .u64 i_5) (.go 4 (.slot 31 (.int .u64 (i_5+(Int.fdiv i_5 (2 ^ 32)))) (.go 2 (.bind Int (fun i_6 => .slot 33 (nI i_6) (.go 0 (.bind Int (fun i_7 => .slot 34 (nI i_7) (.auto))))))))))))))))))))))))))))))))))))
 (fun v _ _=>v=sp)=CE sp n:=by kernel_rfl
abbrev jt(ts:List Cell):Int:=(ts.length:Nat)
def OR(sp:Value)(m:af)(ts:List Cell)(i:Int):Prop :=
 (nw ((jt ts)-1) (nw (((jt ts)-1)-i) (((0:Int)<=(((jt ts)-1)-i))/\(nw (1*2 ^ min (((jt ts)-1)-i).toNat jr) (∃i_0:Int,bw (1*2 ^ min (((jt ts)-1)-i).toNat jr) i_0/\(nI i_0:Value)=sp)))))
abbrev Fv(qB0:af)(qC0:List Cell):List Value:=[nI qB0.up.ae,nI qB0.up.ab,nI qB0.up.aa,nI qB0.up.ac,nI qB0.down.ae,nI qB0.down.ab,nI qB0.down.aa,nI qB0.down.ac,slQ 1 1 qC0.length]
abbrev jk5(qB0:af)(qC0:List Cell):=aH 0 [(Fv qB0 qC0),qC0.flatMap cellC]
theorem PB(sp:Value)(m:af)(ts:List Cell)(i:Int):vE 135 [pt 0,nI i] (jk5 m ts) (some [])
 (.go 6 (.slot 10 (nI ((jt ts)-1)) (.go 1 (.slot 12 (nI (((jt ts)-1)-i)) (.need (.slot 13 (nI (1*2 ^ min (((jt ts)-1)-i).toNat jr)) (.bind Int (fun i_0 => .slot 13 (nI i_0) (.auto)))))))))
 (fun v _ _=>v=sp)=OR sp m ts i:=by kernel_rfl
abbrev jkr:=krq 4 (.cells true 0 [nI 0,nI 0,nI 0,nI 0,nI 0,nI 0,nI 0,nI 0])
abbrev vp(x0:Nat×Cell):Int:=(x0.1:Nat)
abbrev jk8(qB0:af)(qC0:List Cell):ah:=.cells false 0 (Fv qB0 qC0)
abbrev zP(ts:List Cell):ah:=.cells false 0 (ts.flatMap cellC)
abbrev jku(qI0 qI1:Nat×Cell)(qn0:Nat)(qC0:List Cell):Prop:=(nI (((qI0.1:Nat):Int)+1):Value)=nI ((qI1.1:Nat):Int)/\eR (nI ((qn0:Nat):Int))/\eR (pt 0)/\eR (pt 2)/\eR (pt 3)/\wR (slQ 1 1 qC0.length)/\eR (nI ((qC0.length:Nat):Int))/\True
abbrev jkg(qI0:Nat×Cell):ah:=.cells true 0 [nI qI0.2.ae.lo,nI qI0.2.ae.hi,nI qI0.2.ab.lo,nI qI0.2.ab.hi,nI qI0.2.aa.lo,nI qI0.2.aa.hi,nI qI0.2.ac.lo,nI qI0.2.ac.hi]
def wT(sp:Value)(m:af)(ts:List Cell)(s:Nat):Prop :=
 (true=true/\((0,aO).1<=List.length ts/\tog ts s (0,aO).1=some (0,aO).2)/\(true=true/\(nm=nI (((0,aO).1:Nat):Int)/\eR (nI ((s:Nat):Int))/\eR (pt 0)/\eR (pt 2)/\eR (pt 3)/\wR (slQ 1 1 ts.length)/\eR (nI (jt ts))/\True)/\((kbq 4 (.cells true 0 [nI 0,nI 100,nI 0,nI 400,nI 0,nI 100,nI 0,nI 3]) (.cells true 0 [nI (0,aO).2.ae.lo,nI (0,aO).2.ae.hi,nI (0,aO).2.ab.lo,nI (0,aO).2.ab.hi,nI (0,aO).2.aa.lo,nI (0,aO).2.aa.hi,nI (0,aO).2.ac.lo,nI (0,aO).2.ac.hi]))/\jkr/\True)/\(True)/\(True))/\(∀x0:Nat×Cell,true=true)/\∀x0:Nat×Cell,(x0.1<=List.length ts/\tog ts s x0.1=some x0.2)->(fk (decide (((vp x0):Int)<(jt ts))) ((ixq (vp x0) ts.length)/\((cu 8 (ts.flatMap cellC) (0+Int.toNat (vp x0)*8)=some ((cellV (ts.getD x0.1 aj))))/\(∃i_0:Int,(c2q 5 0 (jk8 m ts) 1 (zP ts) 135 [pt 0,nI (vp x0)] (nI i_0) (∃i_1:Int,bw (IntKind.wrap .i64 ((BitVec.ofInt jr ((s:Nat):Int) &&& BitVec.ofInt jr i_0).toNat:Nat)) i_1/\(fk ((i_1:Int) == 0) (nw ((vp x0)+1) (∃x0':Nat×Cell,(x0'.1<=List.length ts/\tog ts s x0'.1=some x0'.2)/\(List.length ts-x0'.1)<(List.length ts-x0.1)/\true=true/\(jku x0 x0' s ts)/\((kbq 4 (jkg x0) (jkg x0'))/\jkr/\True)/\(True)/\(True))) (∃iD:Cell×Bool,(c0q 5 84 [(cellV x0.2),(cellV (ts.getD x0.1 aj))] (.tuple #[(cellV iD.1),.bool iD.2]) (fk (!iD.2) ((.tuple #[.agg #[nI 0,nI 0,nI 0,nI 0,nI 0,nI 0,nI 0,nI 0],.bool false]:Value)=sp) (nw ((vp x0)+1) (∃x0':Nat×Cell,(x0'.1<=List.length ts/\tog ts s x0'.1=some x0'.2)/\(List.length ts-x0'.1)<(List.length ts-x0.1)/\true=true/\(jku x0 x0' s ts)/\((kbq 4 (.cells true 0 [nI iD.1.ae.lo,nI iD.1.ae.hi,nI iD.1.ab.lo,nI iD.1.ab.hi,nI iD.1.aa.lo,nI iD.1.aa.hi,nI iD.1.ac.lo,nI iD.1.ac.hi]) (jkg x0'))/\jkr/\True)/\(True)/\(True)))))))))))) ((.tuple #[(cellV x0.2),.bool true]:Value)=sp)))
abbrev jk7(qB0:af)(qC0:List Cell):Nat×ah:=(0,.cells false 0 (Fv qB0 qC0))
abbrev Ho(ts:List Cell):Nat×ah:=(1,.cells false 0 (ts.flatMap cellC))
theorem F5(sp:Value)(m:af)(ts:List Cell)(s:Nat):vE 80 [pt 0,nI ((s:Nat):Int)] (jk5 m ts) (some [])
 (.go 104 (.inv 3 (Nat×Cell) ((0,aO)) [] [3,2] (fun x0=>[(17,nI (vp x0)),(1,nI ((s:Nat):Int)),(0,pt 0),(4,pt 2),(6,pt 3),(15,slQ 1 1 ts.length),(16,nI (jt ts))]) (fun x0=>[(3,true,.cells true 0 [nI x0.2.ae.lo,nI x0.2.ae.hi,nI x0.2.ab.lo,nI x0.2.ab.hi,nI x0.2.aa.lo,nI x0.2.aa.hi,nI x0.2.ac.lo,nI x0.2.ac.hi]),(2,true,.cells true 0 [nI 0,nI 0,nI 0,nI 0,nI 0,nI 0,nI 0,nI 0])]) (fun x0=>[]) (fun x0=>[]) (fun x0=>(x0.1<=List.length ts/\tog ts s x0.1=some x0.2)) (fun x0=>(List.length ts-x0.1)) (fun x0 => .go 0 (.fork (.go 0 (.need (.val ((cellV (ts.getD x0.1 aj))) (.go 5 (.bind (Int) (fun LC => .ans [(jk7 m ts),(Ho ts)] (nI LC) [] (.go 0 (.bind Int (fun i_0 => .slot 26 (nI i_0) (.go 0 (.fork (.go 0 (.slot 38 (nI ((vp x0)+1)) (.go 0 (.again [])))) (.go 1 (.bind (Cell×Bool) (fun EO => .ans [] (.tuple #[(cellV EO.1),.bool EO.2]) [] (.go 7 (.fork (.auto) (.go 2 (.slot 38 (nI ((vp x0)+1)) (.go 0 (.again [])))))))))))))))))))) (.auto)))))
 (fun v _ _=>v=sp)=wT sp m ts s:=by kernel_rfl
abbrev JT:Value:=.tuple #[pt 1,nI 0]
abbrev jkv(qi0:Int):Prop:=true=true/\wk (.tuple #[.pointer none,nI qi0]:Value) (rn (sg 1 []) 3 JT)/\(True/\True/\True)
abbrev oC(l:List Report):Int:=(l.length:Nat)
abbrev jk4(qi0:Int):Prop:=true=true/\wk (.tuple #[.pointer none,nI qi0]:Value) (rn (sg 1 []) 3 JT)/\(True/\True/\True)
abbrev tX:Int:=(0:Nat)
abbrev JW(qA0:List Report):Prop:=wR (slQ 0 2 qA0.length)/\eR (pt 2)/\wR (slQ 0 2 qA0.length)/\eR (nI ((qA0.length:Nat):Int))/\True
abbrev qQ:Prop:=True/\True
abbrev jk9(qi0:Int)(qA0:List Report)(qB0:af):Prop:=true=true/\(nm=nI tX/\eR (nI qi0)/\JW qA0)/\(wkO (.cells true 0 [nI qB0.up.ae,nI qB0.up.ab,nI qB0.up.aa,nI qB0.up.ac,nI qB0.down.ae,nI qB0.down.ab,nI qB0.down.aa,nI qB0.down.ac,.slice none 0 0]:ah) (rno (sg 3 []) 3 (.cells true 0 [nI qB0.up.ae,nI qB0.up.ab,nI qB0.up.aa,nI qB0.up.ac,nI qB0.down.ae,nI qB0.down.ab,nI qB0.down.aa,nI qB0.down.ac,slQ 3 1 0]:ah))/\True)/\qQ/\(True)
abbrev jkk(qA0:List Report)(qn0:Nat):Prop:=cu 14 (qA0.flatMap ai) (0+Int.toNat (qn0:Int)*14)=some ((az (qA0.getD qn0 ag)))
abbrev jkq(qn0:Nat)(qA0:List Report):Prop:=((false=false∨0=0∨0=14)/\(qn0:Int).toNat<=qA0.length)/\((0:Int)<=(qn0:Int)/\(qn0:Int)<=((qA0.length:Nat):Int))/\(0<=(qn0:Int).toNat)
abbrev jko(qn0:Nat):Prop:=true=true/\(nm=nI tX/\eR (.func (.func 134) #[] #[pt 4])/\wR (slQ 0 2 qn0)/\eR (nI (qn0:Int))/\True)/\(True)/\(True)/\(True)
abbrev pN(qA0:List Report):=qA0.getD 0 ag
abbrev JX(cn:Cell):List Value:=[nI cn.ae.lo,nI cn.ae.hi,nI cn.ab.lo,nI cn.ab.hi,nI cn.aa.lo,nI cn.aa.hi,nI cn.ac.lo,nI cn.ac.hi]
abbrev jk0(qA0:List Report)(qn0:Nat)(qB0:af)(qi0:Int):Prop:=∃cn:Cell,(c0q 5 74 [(az (qA0.getD qn0 ag)),(ao qB0),nI qi0] (cellV cn) (apq qn0 64 8 ((nx qA0 qB0 qi0 qn0).flatMap cellC) (JX cn) (nw ((qn0:Int)+1) (∃cZ:Nat,(cZ<=List.length qA0/\cj (dr qA0 qi0) cZ=0)/\(List.length qA0-cZ)<(List.length qA0-qn0)/\true=true/\((nI ((qn0:Int)+1):Value)=nI (cZ:Int)/\eR (nI qi0)/\JW qA0)/\(wkO (.cells true 0 [nI qB0.up.ae,nI qB0.up.ab,nI qB0.up.aa,nI qB0.up.ac,nI qB0.down.ae,nI qB0.down.ab,nI qB0.down.aa,nI qB0.down.ac,slN 6 (qn0+1)]:ah) (rno (sg 3 [(3,6)]) 3 (.cells true 0 [nI qB0.up.ae,nI qB0.up.ab,nI qB0.up.aa,nI qB0.up.ac,nI qB0.down.ae,nI qB0.down.ab,nI qB0.down.aa,nI qB0.down.ac,slQ 3 1 cZ]:ah))/\True)/\((kbq 3 (.cells true 8 (((((nx qA0 qB0 qi0 qn0).flatMap cellC).drop 0).take (qn0*8))++((((JX cn):List Value).drop 0).take (1*8)))) (.cells true 8 ((nx qA0 qB0 qi0 cZ).flatMap cellC)))/\True)/\(True)))))
abbrev jkd(qA0:List Report)(qn0:Nat)(qi0:Int)(qB0:af):Prop:=(ixq 0 qA0.length)/\(((qA0.flatMap ai)[3]?=some (nI (pN qA0).x))/\(fk (((qA0.getD qn0 ag).x:Int) != (pN qA0).x) (jk4 1) ((ixq 0 qA0.length)/\(((qA0.flatMap ai)[4]?=some (nI (pN qA0).y))/\(fk (((qA0.getD qn0 ag).y:Int) != (pN qA0).y) (jk4 1) (fk (decide ((qi0:Int)<(qA0.getD qn0 ag).at_)) (jk4 12) (jk0 qA0 qn0 qB0 qi0)))))))
abbrev jke(qn0 qn1:Nat)(qA0:List Report):=nw ((qn0:Int)+1) (∃aQ:Nat,(aQ<=qn1/\∀n_4:Nat,n_4<aQ->(qA0.getD n_4 ag).id≠(qA0.getD qn1 ag).id)/\(qn1-aQ)<(qn1-qn0)/\true=true/\((nI ((qn0:Int)+1):Value)=nI (aQ:Int)/\eR (.func (.func 134) #[] #[pt 4])/\wR (slQ 0 2 qn1)/\eR (nI (qn1:Int))/\True)/\(True)/\(True)/\(True))
abbrev jkh(qB0:af)(qn0:Nat)(qA0:List Report)(qi0:Int):ah:=.cells true 0 [nI qB0.up.ae,nI qB0.up.ab,nI qB0.up.aa,nI qB0.up.ac,nI qB0.down.ae,nI qB0.down.ab,nI qB0.down.aa,nI qB0.down.ac,slQ qn0 1 (told qA0 qB0 qi0).length]
def IF(l:List Report)(m:af)(now:Int):Prop :=
 (∃i_0:Int,(c0q 2 72 [(ao m),nI now] (nI i_0) (fk ((i_0:Int) != 0) (jkv i_0) (fk (decide ((12:Int)<(oC l))) (jk4 2) (lq (0<=List.length l/\cj (dr l now) 0=0) (jk9 now l m) (∀U:Nat,(U<=List.length l/\cj (dr l now) U=0)->(fk (decide ((U:Int)<(oC l))) (((0:Int)<=(U:Int)/\(U:Int)<(oC l))/\((jkk l U)/\(∃i_2:Int,(c0q 5 73 [(az (l.getD U ag))] (nI i_2) (fk ((i_2:Int) != 0) (jkv i_2) ((jkq U l)/\((slQ 0 2 ((U:Int).toNat-0):Value)=slQ 0 2 U/\(lq (0<=U/\∀n_3:Nat,n_3<0->(l.getD n_3 ag).id≠(l.getD U ag).id) (jko U) (∀n_3:Nat,(n_3<=U/\∀n_4:Nat,n_4<n_3->(l.getD n_4 ag).id≠(l.getD U ag).id)->(fk (decide ((n_3:Int)<(U:Int))) (((0:Int)<=(n_3:Int)/\(n_3:Int)<(U:Int))/\((jkk l n_3)/\(fk (((l.getD n_3 ag).id:Int) == (l.getD U ag).id) (fk (decide ((0:Int)<=(n_3:Int))) (jk4 10) (jkd l U now m)) (jke n_3 U l)))) (jkd l U now m))))))))))) (true=true/\wk (.tuple #[pt 2,nI 0]:Value) (rn (sg 1 [(1,2),(2,3)]) 3 JT)/\(wkO (.cells true 0 [nI m.up.ae,nI m.up.ab,nI m.up.aa,nI m.up.ac,nI m.down.ae,nI m.down.ab,nI m.down.aa,nI m.down.ac,slQ 3 1 U]:ah) (rno (sg 1 [(1,2),(2,3)]) 3 (jkh m 2 l now))/\(kbq 1 (.cells true 8 ((nx l m now U).flatMap cellC)) (.cells true 8 ((told l m now).flatMap cellC)))/\True)))))))))
abbrev vq(l:List Report)(m:af)(now:Int):List Value:=[slQ 0 2 l.length,(ao m),nI now]
abbrev Fu(l:List Report):=aH 0 [l.flatMap ai]
abbrev jkt(qB0:af)(qn0:Nat):Nat×Bool×ah:=(2,false,.cells true 0 [nI qB0.up.ae,nI qB0.up.ab,nI qB0.up.aa,nI qB0.up.ac,nI qB0.down.ae,nI qB0.down.ab,nI qB0.down.aa,nI qB0.down.ac,slQ 3 1 qn0])
abbrev Oc(U J:Nat):List (Nat×Value):=[(8,nI (U:Int)),(1,.func (.func 134) #[] #[pt 4]),(0,slQ 0 2 J),(7,nI (J:Int))]
abbrev jkb(qn0:Nat):Hint:=.go 17 (.bind (Cell) (fun r4 => .ans [] ((cellV r4)) [] (.go 0 (.need (.go 3 (.slot 89 (nI ((qn0:Int)+1)) (.go 0 (.again [(3,6)]))))))))
abbrev jkn(qA0:List Report)(qn0:Nat):Hint:=.need (.go 0 (.val (nI (pN qA0).x) (.go 1 (.am (.go 4 (.again [])) (.go 2 (.need (.go 0 (.val (nI (pN qA0).y) (.go 2 (.fork (.go 1 (.again [])) (.go 4 (.fork (.go 1 (.again [])) (jkb qn0)))))))))))))
theorem Nm(l:List Report)(m:af)(now:Int):vE 79 (vq l m now) (Fu l) (some [])
 (.go 4 (.bind (Int) (fun Bx => .ans [] (nI Bx) [] (.go 2 (.fork (.go 2 (.again [])) (.go 2 (.fork (.go 1 (.again [])) (.go 6 (.inv 3 (Nat) (0) [] [2] (fun J=>[(27,nI (J:Int)),(2,nI now),(0,slQ 0 2 l.length),(9,pt 2),(25,slQ 0 2 l.length),(26,nI (oC l))]) (fun J=>[(jkt m J)]) (fun J=>[(true,.cells true 8 ((nx l m now J).flatMap cellC))]) (fun J=>[]) (fun J=>(J<=List.length l/\cj (dr l now) J=0)) (fun J=>(List.length l-J)) (fun J => .go 0 (.fork (.go 0 (.need (.val ((az (l.getD J ag))) (.go 3 (.bind (Int) (fun xl => .ans [] (nI xl) [] (.go 3 (.fork (.go 2 (.again [])) (.go 1 (.need (.slot 41 (slQ 0 2 J) (.go 9 (.inv 3 (Nat) (0) [] [] (fun U=>(Oc U J)) (fun U=>[]) (fun U=>[]) (fun U=>[]) (fun U=>(U<=J/\∀Z:Nat,Z<U->(l.getD Z ag).id≠(l.getD J ag).id)) (fun U=>(J-U)) (fun U => .go 0 (.fork (.go 4 (.need (.val ((az (l.getD U ag))) (.go 8 (.fork (.go 4 (.fork (.go 1 (.again [])) (.go 2 (jkn l J)))) (.go 0 (.slot 18 (nI ((U:Int)+1)) (.go 0 (.again []))))))))) (.go 7 (jkn l J))))))))))))))))) (.go 2 (.again [(1,2),(2,3)])))))))))))))
 (er ((Fu l):HT).n 3 (.tuple #[pt 1,nI 0]) [(false,.cells true 0 [nI m.up.ae,nI m.up.ab,nI m.up.aa,nI m.up.ac,nI m.down.ae,nI m.down.ab,nI m.down.aa,nI m.down.ac,slQ 2 1 (told l m now).length]),(true,.cells true 8 ((told l m now).flatMap cellC))])=IF l m now:=by kernel_rfl
abbrev jka(qA0:List Report)(qn0:Nat)(qv0:Value)(qi0:Int)(qB0:af):Prop:=(ixq 0 qA0.length)/\(((qA0.flatMap ai)[3]?=some (nI (pN qA0).x))/\(fk (((qA0.getD qn0 ag).x:Int) != (pN qA0).x) ((.tuple #[.pointer none,nI 1]:Value)=qv0) ((ixq 0 qA0.length)/\(((qA0.flatMap ai)[4]?=some (nI (pN qA0).y))/\(fk (((qA0.getD qn0 ag).y:Int) != (pN qA0).y) ((.tuple #[.pointer none,nI 1]:Value)=qv0) (fk (decide ((qi0:Int)<(qA0.getD qn0 ag).at_)) ((.tuple #[.pointer none,nI 12]:Value)=qv0) (jk0 qA0 qn0 qB0 qi0)))))))
def IG(sp:Value)(l:List Report)(m:af)(now:Int):Prop :=
 (∃i_0:Int,(c0q 2 72 [(ao m),nI now] (nI i_0) (fk ((i_0:Int) != 0) ((.tuple #[.pointer none,nI i_0]:Value)=sp) (fk (decide ((12:Int)<(oC l))) ((.tuple #[.pointer none,nI 2]:Value)=sp) (lq (0<=List.length l/\cj (dr l now) 0=0) (jk9 now l m) (∀U:Nat,(U<=List.length l/\cj (dr l now) U=0)->(fk (decide ((U:Int)<(oC l))) (((0:Int)<=(U:Int)/\(U:Int)<(oC l))/\((jkk l U)/\(∃i_2:Int,(c0q 5 73 [(az (l.getD U ag))] (nI i_2) (fk ((i_2:Int) != 0) ((.tuple #[.pointer none,nI i_2]:Value)=sp) ((jkq U l)/\((slQ 0 2 ((U:Int).toNat-0):Value)=slQ 0 2 U/\(lq (0<=U/\∀n_3:Nat,n_3<0->(l.getD n_3 ag).id≠(l.getD U ag).id) (jko U) (∀n_3:Nat,(n_3<=U/\∀n_4:Nat,n_4<n_3->(l.getD n_4 ag).id≠(l.getD U ag).id)->(fk (decide ((n_3:Int)<(U:Int))) (((0:Int)<=(n_3:Int)/\(n_3:Int)<(U:Int))/\((jkk l n_3)/\(fk (((l.getD n_3 ag).id:Int) == (l.getD U ag).id) (fk (decide ((0:Int)<=(n_3:Int))) ((.tuple #[.pointer none,nI 10]:Value)=sp) (jka l U sp now m)) (jke n_3 U l)))) (jka l U sp now m))))))))))) ((.tuple #[pt 2,nI 0]:Value)=sp))))))))
abbrev jkp(qA0:List Report)(qn0:Nat):Hint:=.need (.go 0 (.val (nI (pN qA0).x) (.go 1 (.am (.auto) (.go 2 (.need (.go 0 (.val (nI (pN qA0).y) (.go 2 (.fork (.auto) (.go 4 (.fork (.auto) (jkb qn0)))))))))))))
theorem Nn(sp:Value)(l:List Report)(m:af)(now:Int):vE 79 (vq l m now) (Fu l) (some [])
 (.go 4 (.bind (Int) (fun Bx => .ans [] (nI Bx) [] (.go 2 (.fork (.auto) (.go 2 (.fork (.auto) (.go 6 (.inv 3 (Nat) (0) [] [2] (fun J=>[(27,nI (J:Int)),(2,nI now),(0,slQ 0 2 l.length),(9,pt 2),(25,slQ 0 2 l.length),(26,nI (oC l))]) (fun J=>[(jkt m J)]) (fun J=>[(true,.cells true 8 ((nx l m now J).flatMap cellC))]) (fun J=>[]) (fun J=>(J<=List.length l/\cj (dr l now) J=0)) (fun J=>(List.length l-J)) (fun J => .go 0 (.fork (.go 0 (.need (.val ((az (l.getD J ag))) (.go 3 (.bind (Int) (fun xl => .ans [] (nI xl) [] (.go 3 (.fork (.auto) (.go 1 (.need (.slot 41 (slQ 0 2 J) (.go 9 (.inv 3 (Nat) (0) [] [] (fun U=>(Oc U J)) (fun U=>[]) (fun U=>[]) (fun U=>[]) (fun U=>(U<=J/\∀Z:Nat,Z<U->(l.getD Z ag).id≠(l.getD J ag).id)) (fun U=>(J-U)) (fun U => .go 0 (.fork (.go 4 (.need (.val ((az (l.getD U ag))) (.go 8 (.fork (.go 4 (.fork (.auto) (.go 2 (jkp l J)))) (.go 0 (.slot 18 (nI ((U:Int)+1)) (.go 0 (.again []))))))))) (.go 7 (jkp l J))))))))))))))))) (.auto))))))))))))
 (fun v _ _=>v=sp)=IG sp l m now:=by kernel_rfl
abbrev jk6:Prop:=(LG prog 138 0/\eR (.func (.func 173) #[] #[pt 5])/\eR (pt 0)/\eR (pt 4)/\eR (pt 3)/\eR (.slice none 0 0)/\eR (pt 2)/\eR (pt 0)/\True)/\True
abbrev jkj(qi0:Int)(qC0:List Cell)(qn0:Nat):Prop:=(nI (qi0-1):Value)=nI ((2:Int) ^ List.length qC0-1-(qn0:Int))/\eR (.func (.yield 6) #[] #[])/\True
abbrev jkl(qC0:List Cell)(qn0:Nat):ah:=.cells true 0 [slQ 7 1 (List.length (agr qC0 qn0).2)]
abbrev jky(qC0:List Cell)(qn0 qn1:Nat):Prop:=wkO (jkl qC0 qn0) (rno (sg 7 [(7,7)]) 3 (jkl qC0 qn1))/\(kbq 7 (.cells true 0 [nI (agr qC0 qn0).1]) (.cells true 0 [nI (agr qC0 qn1).1]))/\True
abbrev Cc(ts:List Cell)(U:Nat):=List.flatMap jb (agr ts U).2
def wW(m:af)(ts:List Cell):Prop :=
 (((0:Int)<=(jt ts))/\(nw (1*2 ^ min (jt ts).toNat jr) (∃i_0:Int,bw (1*2 ^ min (jt ts).toNat jr) i_0/\(nw (i_0-1) (lq (0<=2 ^ List.length ts) (true=true/\((nI (i_0-1):Value)=nI ((2:Int) ^ List.length ts-1-tX)/\eR (.func (.yield 6) #[] #[])/\True)/\(wkO (.cells true 0 [.slice none 0 0]:ah) (rno (sg 7 []) 3 (.cells true 0 [slQ 7 1 (List.length (agr ts 0).2)]:ah))/\(kbq 7 (.cells true 0 [nI (-1)]) (.cells true 0 [nI (agr ts 0).1]))/\True)/\qQ/\jk6) (∀U:Nat,(U<=2 ^ List.length ts)->(∃i_2:Int,bw ((2:Int) ^ List.length ts-1-(U:Int)) i_2/\(fk (decide ((0:Int)<=i_2)) (∃i_3:Int,bw ((2:Int) ^ List.length ts-1-(U:Int)) i_3/\(∃i_4:Int,(c0q 8 155 [.int .u64 (IntKind.wrap .u64 i_3)] (nI i_4) (fk (decide ((i_4:Int)<(agr ts U).1)) (∃i_5:Int,bw ((2:Int) ^ List.length ts-1-(U:Int)) i_5/\(nw (i_5-1) (∃fA:Nat,(fA<=2 ^ List.length ts)/\(2 ^ List.length ts-fA)<(2 ^ List.length ts-U)/\true=true/\(jkj i_5 ts fA)/\(jky ts U fA)/\((kbq 7 (.cells true 1 (Cc ts U)) (.cells true 1 (List.flatMap jb (agr ts fA).2)))/\True)/\jk6))) (∃MA:Cell×Bool,(c2q 8 0 (jk8 m ts) 1 (zP ts) 80 [pt 0,nI i_3] (.tuple #[(cellV MA.1),.bool MA.2]) (fk (!MA.2) (∃i_6:Int,bw ((2:Int) ^ List.length ts-1-(U:Int)) i_6/\(nw (i_6-1) (∃jc:Nat,(jc<=2 ^ List.length ts)/\(2 ^ List.length ts-jc)<(2 ^ List.length ts-U)/\true=true/\(jkj i_6 ts jc)/\(jky ts U jc)/\((kbq 7 (.cells true 1 (Cc ts U)) (.cells true 1 (List.flatMap jb (agr ts jc).2)))/\True)/\jk6))) (fk (decide (((agr ts U).1:Int)<i_4)) (∃i_6:Int,bw ((2:Int) ^ List.length ts-1-(U:Int)) i_6/\(nw (i_6-1) (∃jc:Nat,(jc<=2 ^ List.length ts)/\(2 ^ List.length ts-jc)<(2 ^ List.length ts-U)/\true=true/\(jkj i_6 ts jc)/\(wkO (.cells true 0 [slN 10 1]:ah) (rno (sg 7 [(7,10)]) 3 (jkl ts jc))/\(kbq 7 (.cells true 0 [nI i_4]) (.cells true 0 [nI (agr ts jc).1]))/\True)/\((kbq 7 (.cells true 1 [nI i_3]) (.cells true 1 (List.flatMap jb (agr ts jc).2)))/\True)/\jk6))) (apq (List.length (agr ts U).2) 8 1 (Cc ts U) [nI i_3] (∃i_6:Int,bw ((2:Int) ^ List.length ts-1-(U:Int)) i_6/\(nw (i_6-1) (∃jc:Nat,(jc<=2 ^ List.length ts)/\(2 ^ List.length ts-jc)<(2 ^ List.length ts-U)/\true=true/\(jkj i_6 ts jc)/\(wkO (.cells true 0 [slN 10 ((List.length (agr ts U).2)+1)]:ah) (rno (sg 7 [(7,10)]) 3 (jkl ts jc))/\(kbq 7 (.cells true 0 [nI (agr ts U).1]) (.cells true 0 [nI (agr ts jc).1]))/\True)/\((kbq 7 (.cells true 1 ((((Cc ts U).drop 0).take ((List.length (agr ts U).2)*1))++((([nI i_3]:List Value).drop 0).take (1*1)))) (.cells true 1 (List.flatMap jb (agr ts jc).2)))/\True)/\jk6)))))))))))) (true=true/\wk (slQ 7 1 (List.length (agr ts U).2):Value) (rn (sg 2 [(2,7)]) 3 (slQ 2 1 (bt ts).length:Value))/\((kbq 2 (.cells true 1 (Cc ts U)) (.cells true 1 ((bt ts).flatMap jb)))/\True))))))))))
abbrev jki(qn0 qn1:Nat):Hint:=.go qn0 (.bind Int (fun i_4 => .slot 13 (nI i_4) (.go 0 (.slot 14 (nI (i_4-1)) (.go 0 (.again [(7,qn1)]))))))
theorem F8(m:af)(ts:List Cell):vE 138 [pt 0] (jk5 m ts) (some [])
 (.go 10 (.into (some [2,3,4,5]) (.go 4 (.need (.slot 9 (nI (1*2 ^ min (jt ts).toNat jr)) (.bind Int (fun i_0 => .slot 9 (nI i_0) (.go 0 (.slot 10 (nI (i_0-1)) (.go 0 (.inv 3 (Nat) (0) [] [3,4,6] (fun U=>[(3,nI ((2:Int) ^ List.length ts-1-(U:Int))),(0,.func (.yield 6) #[] #[])]) (fun U=>[(3,false,.cells true 0 [slQ 7 1 (List.length (agr ts U).2)]),(4,true,.cells true 0 [nI (agr ts U).1])]) (fun U=>[(true,.cells true 1 (Cc ts U))]) (fun U=>[(6,[(10,.func (.func 173) #[] #[pt 5]),(9,pt 0),(4,pt 4),(3,pt 3),(2,.slice none 0 0),(1,pt 2),(0,pt 0)])]) (fun U=>(U<=2 ^ List.length ts)) (fun U=>(2 ^ List.length ts-U)) (fun U => .go 0 (.bind Int (fun i_2 => .slot 11 (nI i_2) (.go 0 (.fork (.go 1 (.bind Int (fun i_3 => .slot 16 (nI i_3) (.into (some [3,4,6,7]) (.go 2 (.bind (Int) (fun LB => .ans [] (nI LB) [] (.go 3 (.fork (jki 2 7) (.go 1 (.bind (Cell×Bool) (fun r5 => .ans [(jk7 m ts),(Ho ts)] (.tuple #[(cellV r5.1),.bool r5.2]) [] (.go 7 (.fork (jki 2 7) (.go 2 (.fork (jki 10 10) (.go 2 (.need (jki 3 10))))))))))))))))))) (.go 1 (.again [(2,7)]))))))))))))))))))
 (er ((jk5 m ts):HT).n 3 (slQ 2 1 (bt ts).length) [(true,.cells true 1 ((bt ts).flatMap jb))])=wW m ts:=by kernel_rfl
abbrev Ft(l:List Report):ah:=.cells false 0 (l.flatMap ai)
abbrev JY(m:af)(l:List Report)(now:Int):List Value:=[nI m.up.ae,nI m.up.ab,nI m.up.aa,nI m.up.ac,nI m.down.ae,nI m.down.ab,nI m.down.aa,nI m.down.ac,slQ 4 1 (told l m now).length]
abbrev Fs(l:List Report)(m:af)(now:Int):Value:=.tuple #[.pointer none,nI (av l m now)]
def Lp(sp:Value)(l:List Report)(m:af)(now:Int):Prop :=
 (ck (av l m now=0) (n1q 3 0 (Ft l) 79 (vq l m now) (.tuple #[pt 3,nI 0]) [(jkh m 4 l now),(.cells true 8 ((told l m now).flatMap cellC):ah)] (((0:Int)<=(oC l))/\(nw (1*2 ^ min (oC l).toNat jr) (∃i_0:Int,bw (1*2 ^ min (oC l).toNat jr) i_0/\(nw (i_0-1) (∃J3:Cell×Bool,(c2q 5 3 (.cells true 0 (JY m l now)) 4 (.cells true 8 ((told l m now).flatMap cellC)) 80 [pt 3,nI (i_0-1)] (.tuple #[(cellV J3.1),.bool J3.2]) (fk (!J3.2) ((.tuple #[.agg #[nI 0,nI 0,nI 0,nI 0,nI 0,nI 0,nI 0,nI 0],nI 21]:Value)=sp) ((.tuple #[(cellV J3.1),nI 0]:Value)=sp))))))))) (c1q 3 0 (Ft l) 79 (vq l m now) (Fs l m now) ((.bool (((av l m now):Int) != 0):Value) = .bool true/\(.tuple #[.agg #[nI 0,nI 0,nI 0,nI 0,nI 0,nI 0,nI 0,nI 0],nI (av l m now)]:Value)=sp)))
abbrev JV(l:List Report):List (Nat×ah):=[(0,.cells false 0 (l.flatMap ai))]
theorem O6(sp:Value)(l:List Report)(m:af)(now:Int):vE 14 (vq l m now) (Fu l) (some [])
 (.go 5 (.cas (av l m now=0) (.ans (JV l) (.tuple #[pt 3,nI 0]) [.cells true 0 (JY m l now),.cells true 8 ((told l m now).flatMap cellC)] (.go 10 (.need (.slot 27 (nI (1*2 ^ min (oC l).toNat jr)) (.bind Int (fun i_0 => .slot 27 (nI i_0) (.go 0 (.slot 28 (nI (i_0-1)) (.bind (Cell×Bool) (fun EP => .ans [(3,.cells true 0 (JY m l now)),(4,.cells true 8 ((told l m now).flatMap cellC))] (.tuple #[(cellV EP.1),.bool EP.2]) [] (.go 7 (.fork (.auto) (.auto))))))))))))) (.ans (JV l) (Fs l m now) [] (.go 6 (.slot 20 (.bool true) (.auto))))))
 (fun v _ _=>v=sp)=Lp sp l m now:=by kernel_rfl
abbrev zQ(l:List Report)(m:af)(now:Int):Int:=((told l m now).length:Nat)
abbrev Ml(l:List Report)(m:af)(now:Int):Prop:=eR (.slice none 0 0)/\eR (nI 0)/\eR (pt 2)/\wR (slQ 3 1 (told l m now).length)/\eR (nI (zQ l m now))/\True
abbrev jkf(qn0:Nat)(qA0:List Report)(qB0:af)(qi0:Int):Value:=.slice (some ⟨3,(0+((qn0:Int)+1).toNat*8),some 2⟩) ((told qA0 qB0 qi0).length-(qn0+1)) ((told qA0 qB0 qi0).length-(qn0+1))
abbrev JZ(l:List Report)(m:af)(now:Int)(J:Nat)(i_1:Int):Prop:=eR (nI (zQ l m now))/\wR (slQ 3 1 (told l m now).length)/\eR (pt 2)/\eR (nI 0)/\eR (.slice none 0 0)/\eR (nI (J:Int))/\eR (pt 5)/\eR (nI (J:Int))/\wR (jkf J l m now)/\eR (nI i_1)/\True
abbrev jkx(qn0:Nat)(qA0:List Report)(qB0:af)(qi0:Int)(qn1 qn2:Nat):Value:=slQ qn0 1 (conf (told qA0 qB0 qi0) qn1++aU (told qA0 qB0 qi0) qn1 qn2).length
abbrev jks(qA0:List Report)(qB0:af)(qi0:Int)(qn0 qn1:Nat):ah:=.cells true 2 ((conf (told qA0 qB0 qi0) qn0++aU (told qA0 qB0 qi0) qn0 qn1).flatMap bo)
def uV(l:List Report)(m:af)(now:Int):Prop :=
 (ck (av l m now=0) (n1q 2 0 (Ft l) 79 (vq l m now) (.tuple #[pt 2,nI 0]) [(jkh m 3 l now),(.cells true 8 ((told l m now).flatMap cellC):ah)] (lq (0<=List.length l) (true=true/\(nm=nI tX/\wk (.slice none 0 0:Value) (slQ 0 1 (conf (told l m now) 0).length:Value)/\Ml l m now)/\(True)/\qQ/\(True)) (∀J:Nat,(J<=List.length l)->(fk (decide ((J:Int)<(zQ l m now))) (((0:Int)<=(J:Int)/\(J:Int)<(zQ l m now))/\((cu 8 ((told l m now).flatMap cellC) (0+Int.toNat (J:Int)*8)=some ((cellV ((told l m now).getD J aj))))/\(nw ((J:Int)+1) ((((true=false∨8=0∨8=8)/\(told l m now).length<=(told l m now).length)/\((told l m now).length<=(told l m now).length)/\((0:Int)<=((J:Int)+1)/\(((J:Int)+1):Int)<=(zQ l m now)))/\((.slice (some ⟨3,(0+((J:Int)+1).toNat*8),some 2⟩) ((told l m now).length-((J:Int)+1).toNat) ((told l m now).length-((J:Int)+1).toNat):Value) = .slice (some ⟨3,(0+((J:Int)+1).toNat*8),some 2⟩) ((told l m now).length-(J+1)) ((told l m now).length-(J+1))/\(∃i_1:Int,bw ((((told l m now).length-(J+1)):Nat):Int) i_1/\(lq (J+1+0<=List.length l) (true=true/\(nm=nI tX/\wk (slQ 4 1 (conf (told l m now) J).length:Value) (slQ 4 1 (conf (told l m now) J++aU (told l m now) J 0).length:Value)/\JZ l m now J i_1)/\qQ/\((kbq 6 (.cells true 2 ((conf (told l m now) J).flatMap bo)) (.cells true 2 ((conf (told l m now) J++aU (told l m now) J 0).flatMap bo)))/\True)/\(True)) (∀Z:Nat,(J+1+Z<=List.length l)->(fk (decide ((Z:Int)<i_1)) (((0:Int)<=(Z:Int)/\(Z:Int)<((((told l m now).length-(J+1)):Nat):Int))/\((cu 8 ((told l m now).flatMap cellC) ((0+((J:Int)+1).toNat*8)+Int.toNat (Z:Int)*8)=some ((cellV ((told l m now).getD ((J+1)+Z) aj))))/\(∃MB:Cell×Bool,(c0q 8 84 [(cellV ((told l m now).getD J aj)),(cellV ((told l m now).getD ((J+1)+Z) aj))] (.tuple #[(cellV MB.1),.bool MB.2]) (fk (!MB.2) (nw ((J:Int)+1) (nw (((J:Int)+1)+(Z:Int)) (apq (conf (told l m now) J++aU (told l m now) J Z).length 16 2 ((conf (told l m now) J++aU (told l m now) J Z).flatMap bo) [nI (J:Int),nI (((J:Int)+1)+(Z:Int))] (nw ((Z:Int)+1) (∃aQ:Nat,(J+1+aQ<=List.length l)/\(List.length l-(J+1)-aQ)<(List.length l-(J+1)-Z)/\true=true/\((nI ((Z:Int)+1):Value)=nI (aQ:Int)/\wk (slN 10 ((conf (told l m now) J++aU (told l m now) J Z).length+1):Value) (jkx 10 l m now J aQ)/\JZ l m now J i_1)/\qQ/\((kbq 6 (.cells true 2 (((((conf (told l m now) J++aU (told l m now) J Z).flatMap bo).drop 0).take ((conf (told l m now) J++aU (told l m now) J Z).length*2))++((([nI (J:Int),nI (((J:Int)+1)+(Z:Int))]:List Value).drop 0).take (1*2)))) (jks l m now J aQ))/\True)/\(True)))))) (nw ((Z:Int)+1) (∃aQ:Nat,(J+1+aQ<=List.length l)/\(List.length l-(J+1)-aQ)<(List.length l-(J+1)-Z)/\true=true/\((nI ((Z:Int)+1):Value)=nI (aQ:Int)/\wk (jkx 6 l m now J Z) (jkx 6 l m now J aQ)/\JZ l m now J i_1)/\qQ/\((kbq 6 (jks l m now J Z) (jks l m now J aQ))/\True)/\(True)))))))) (nw ((J:Int)+1) (∃bg:Nat,(bg<=List.length l)/\(List.length l-bg)<(List.length l-J)/\true=true/\((nI ((J:Int)+1):Value)=nI (bg:Int)/\wk (jkx 6 l m now J Z) (slQ 6 1 (conf (told l m now) bg).length:Value)/\Ml l m now)/\(True)/\((kbq 4 (jks l m now J Z) (.cells true 2 ((conf (told l m now) bg).flatMap bo)))/\True)/\(True)))))))))))) (true=true/\wk (.tuple #[slQ 4 1 (conf (told l m now) J).length,nI 0]:Value) (rn (sg 1 [(1,4)]) 3 (.tuple #[slQ 1 1 (List.length (a7 l m now).1),nI (a7 l m now).2]:Value))/\((kbq 1 (.cells true 2 ((conf (told l m now) J).flatMap bo)) (.cells true 2 (List.flatMap bo (a7 l m now).1)))/\True)))))) (c1q 2 0 (Ft l) 79 (vq l m now) (Fs l m now) ((.bool (((av l m now):Int) != 0):Value) = .bool true/\(true=true/\wk (.tuple #[.slice none 0 0,nI (av l m now)]:Value) (rn (sg 1 []) 3 (.tuple #[slQ 1 1 (List.length (a7 l m now).1),nI (a7 l m now).2]:Value))/\qQ))))
abbrev jkz(qn0 qn1 qn2 qn3 qn4:Nat):Hint:=.go qn0 (.slot qn1 (nI ((qn2:Int)+1)) (.go 0 (.again [(qn3,qn4)])))
theorem CP(l:List Report)(m:af)(now:Int):vE 16 (vq l m now) (Fu l) (some [])
 (.go 5 (.cas (av l m now=0) (.ans (JV l) (.tuple #[pt 2,nI 0]) [.cells true 0 [nI m.up.ae,nI m.up.ab,nI m.up.aa,nI m.up.ac,nI m.down.ae,nI m.down.ab,nI m.down.aa,nI m.down.ac,slQ 3 1 (told l m now).length],.cells true 8 ((told l m now).flatMap cellC)] (.go 14 (.inv 3 (Nat) (0) [] [] (fun J=>[(32,nI (J:Int)),(10,slQ 4 1 (conf (told l m now) J).length),(6,.slice none 0 0),(7,nI 0),(8,pt 2),(30,slQ 3 1 (told l m now).length),(31,nI (zQ l m now))]) (fun J=>[]) (fun J=>[(true,.cells true 2 ((conf (told l m now) J).flatMap bo))]) (fun J=>[]) (fun J=>(J<=List.length l)) (fun J=>(List.length l-J)) (fun J => .go 0 (.fork (.go 0 (.need (.val ((cellV ((told l m now).getD J aj))) (.go 8 (.slot 42 (nI ((J:Int)+1)) (.need (.slot 43 (jkf J l m now) (.go 0 (.bind Int (fun i_1 => .slot 44 (nI i_1) (.go 0 (.inv 3 (Nat) (0) [(6,4)] [4] (fun Z=>[(45,nI (Z:Int)),(10,slQ 6 1 (conf (told l m now) J++aU (told l m now) J Z).length),(31,nI (zQ l m now)),(30,slQ 3 1 (told l m now).length),(8,pt 2),(7,nI 0),(6,.slice none 0 0),(32,nI (J:Int)),(12,pt 5),(11,nI (J:Int)),(43,.slice (some ⟨3,(0+((J:Int)+1).toNat*8),some 2⟩) ((told l m now).length-(J+1)) ((told l m now).length-(J+1))),(44,nI i_1)]) (fun Z=>[(4,false,.dead)]) (fun Z=>[(true,.cells true 2 ((conf (told l m now) J++aU (told l m now) J Z).flatMap bo))]) (fun Z=>[]) (fun Z=>(J+1+Z<=List.length l)) (fun Z=>(List.length l-(J+1)-Z)) (fun Z => .go 0 (.fork (.go 0 (.need (.val ((cellV ((told l m now).getD ((J+1)+Z) aj))) (.go 4 (.bind (Cell×Bool) (fun NN => .ans [] (.tuple #[(cellV NN.1),.bool NN.2]) [] (.go 7 (.fork (.go 3 (.slot 61 (nI ((J:Int)+1)) (.go 1 (.slot 63 (nI (((J:Int)+1)+(Z:Int))) (.go 1 (.need (jkz 1 67 Z 6 10))))))) (jkz 0 67 Z 6 6))))))))) (jkz 0 68 J 4 6))))))))))))))) (.go 2 (.again [(1,4)]))))))) (.ans (JV l) (Fs l m now) [] (.go 6 (.slot 25 (.bool true) (.go 3 (.again [])))))))
 (er ((Fu l):HT).n 3 (.tuple #[slQ 1 1 (List.length (a7 l m now).1),nI (a7 l m now).2]) [(true,.cells true 2 (List.flatMap bo (a7 l m now).1))])=uV l m now:=by kernel_rfl
abbrev Cd(ts:List Cell):Int:=(((bt ts).getD 0 0):Nat)
abbrev Mm(ts:List Cell):Prop:=eR (pt 0)/\eR (.slice none 0 0)/\eR (pt 2)/\eR (nI (Cd ts))/\eR (pt 4)/\eR (nI (jt ts))/\True
def Iw(m:af)(ts:List Cell):Prop :=
 (n2q 3 0 (jk8 m ts) 1 (zP ts) 138 [pt 0] (slQ 3 1 (bt ts).length) [(.cells true 1 ((bt ts).flatMap jb):ah)] ((ixq 0 (bt ts).length)/\((((bt ts).flatMap jb)[0]?=some (nI (Cd ts)))/\(∃MC:Cell×Bool,(c2q 4 0 (jk8 m ts) 1 (zP ts) 80 [pt 0,nI (Cd ts)] (.tuple #[(cellV MC.1),.bool MC.2]) (lq (0<=List.length ts) (true=true/\(nm=nI tX/\wk (.slice none 0 0:Value) (slQ 0 1 0:Value)/\Mm ts)/\(True)/\qQ/\(True)) (∀U:Nat,(U<=List.length ts)->(fk (decide ((U:Int)<(jt ts))) (∃i_2:Int,(c2q 6 0 (jk8 m ts) 1 (zP ts) 135 [pt 0,nI (U:Int)] (nI i_2) (∃i_3:Int,bw (IntKind.wrap .i64 ((BitVec.ofInt jr (Cd ts) &&& BitVec.ofInt jr i_2).toNat:Nat)) i_3/\(((U+1)*1<=2 ^ 44/\1≠0/\(U<=U/\0+U*1<=List.length ((bh ts U).flatMap aC))/\(1<=1/\0+1*1<=List.length ([.bool ((i_3:Int) != 0)]:List Value))/\(((([.bool ((i_3:Int) != 0)]:List Value).drop 0).take (1*1)):List Value).all (fun v=>dS v)=true)/\true=true/\(nw ((U:Int)+1) (∃aQ:Nat,(aQ<=List.length ts)/\(List.length ts-aQ)<(List.length ts-U)/\true=true/\((nI ((U:Int)+1):Value)=nI (aQ:Int)/\wk (slN 7 (U+1):Value) (slQ 7 1 aQ:Value)/\Mm ts)/\(True)/\((kbq 5 (.cells true 1 (((((bh ts U).flatMap aC).drop 0).take (U*1))++((([.bool ((i_3:Int) != 0)]:List Value).drop 0).take (1*1)))) (.cells true 1 ((bh ts aQ).flatMap aC)))/\True)/\(True))))))) (true=true/\wk (.tuple #[slQ 5 1 U,(cellV MC.1)]:Value) (rn (sg 2 [(2,5)]) 3 (.tuple #[slQ 2 1 (bh ts ts.length).length,(cellV ((di ts (bI ts)).getD aj))]:Value))/\((kbq 2 (.cells true 1 ((bh ts U).flatMap aC)) (.cells true 1 ((bh ts ts.length).flatMap aC)))/\True))))))))))
theorem Nc(m:af)(ts:List Cell):vE 85 [pt 0] (jk5 m ts) (some [])
 (.go 2 (.ans [(jk7 m ts),(Ho ts)] (slQ 3 1 (bt ts).length) [.cells true 1 ((bt ts).flatMap jb)] (.need (.val (nI (Cd ts)) (.go 2 (.bind (Cell×Bool) (fun NO => .ans [(jk7 m ts),(Ho ts)] (.tuple #[(cellV NO.1),.bool NO.2]) [] (.go 12 (.inv 3 (Nat) (0) [] [] (fun J=>[(24,nI (J:Int)),(7,slQ 5 1 J),(0,pt 0),(2,.slice none 0 0),(3,pt 2),(4,nI (Cd ts)),(5,pt 4),(23,nI (jt ts))]) (fun J=>[]) (fun J=>[(true,.cells true 1 ((bh ts J).flatMap aC))]) (fun J=>[]) (fun J=>(J<=List.length ts)) (fun J=>(List.length ts-J)) (fun J => .go 0 (.fork (.go 5 (.bind (Int) (fun Ph => .ans [(jk7 m ts),(Ho ts)] (nI Ph) [] (.go 0 (.bind Int (fun i_1 => .slot 32 (nI i_1) (.go 1 (.need (jkz 1 36 J 5 7))))))))) (.go 3 (.again [(2,5)])))))))))))))
 (er ((jk5 m ts):HT).n 3 (.tuple #[slQ 2 1 (bh ts ts.length).length,(cellV ((di ts (bI ts)).getD aj))]) [(true,.cells true 1 ((bh ts ts.length).flatMap aC))])=Iw m ts:=by kernel_rfl
end
end Go.Proofs.YthcjliffpebjaaaGreat
namespace Go.Proofs.YthcjliffpebjaaaGreat
noncomputable section
attribute [local irreducible] vF
theorem fc(c:Cell):(cellC c).length=8:=rfl
theorem cb(r:Report):(ai r).length=14:=rfl
theorem vQ{xs:List Cell}{x:Nat}(h:x<xs.length):cu 8 (List.flatMap cellC xs) (0+Int.toNat ((x:Nat):Int)*8)=some (.agg ⟨cellC (List.getD xs x aj)⟩) :=
 mH (f:=cellC) (d:=aj) (c:=0) (m:=8) fc h (by rw[Int.toNat_natCast];omega) (by decide)
theorem da{xs:List Report}{x:Nat}(h:x<xs.length):cu 14 (List.flatMap ai xs) (0+Int.toNat ((x:Nat):Int)*14)=some (.agg ⟨ai (List.getD xs x ag)⟩) :=
 mH (f:=ai) (d:=ag) (c:=0) (m:=14) cb h (by rw[Int.toNat_natCast];omega) (by decide)
theorem fw(n:Nat)(l:List Cell):(l.flatMap cellC).all (aw n)=true:=cD (fun _=>rfl) l
theorem b9(n:Nat)(l:List Report):(l.flatMap ai).all (aw n)=true:=cD (fun _=>rfl) l
theorem OO{n k:Nat}(h:n<2 ^ 62)(hk:k<2 ^ 62):IntKind.wrap .i64 (((BitVec.ofInt (IntKind.bits .i64) ((n:Nat):Int) &&& BitVec.ofInt (IntKind.bits .i64) ((k:Nat):Int)).toNat:Nat):Int)=((n &&& k:Nat):Int):=by
 have e:(BitVec.ofInt 64 ((n:Nat):Int) &&& BitVec.ofInt 64 ((k:Nat):Int)).toNat=n &&& k:=by
  rw[BitVec.ofInt_natCast,BitVec.ofInt_natCast,BitVec.toNat_and,BitVec.toNat_ofNat,BitVec.toNat_ofNat,Nat.mod_eq_of_lt Om,Nat.mod_eq_of_lt Om]
 have:n &&& k<=n:=Nat.and_le_left
 exact (congrArg (fun q:Nat=>IntKind.wrap .i64 (q:Int)) e).trans (Lr Om)
theorem Kr(n k:Nat):n &&& 2 ^ k=if n.testBit k then 2 ^ k else 0:=by
 apply Nat.eq_of_testBit_eq
 intro i
 rw[Nat.testBit_and,Nat.testBit_two_pow]
 by_cases h:k=i
 ·subst h;cases hb:n.testBit k <;> simp
 ·cases hb:n.testBit k <;> simp[h,Nat.testBit_two_pow]
theorem and1{x:Int}(h:0<=x/\x<2 ^ 62):IntKind.wrap .i64 (((BitVec.ofInt (IntKind.bits .i64) x &&& BitVec.ofInt (IntKind.bits .i64) 1).toNat:Nat):Int)=x % 2:=by
 obtain ⟨n,rfl⟩:=Int.eq_ofNat_of_zero_le h.1
 have:=OO (n:=n) (k:=1) Om (by decide)
 rw[show ((1:Nat):Int)=1 from rfl]at this
 rw[this,Nat.and_one_is_mod];omega
theorem CA{n k:Nat}(h:n<2 ^ 62)(hk:k<62):IntKind.wrap .i64 (((BitVec.ofInt (IntKind.bits .i64) ((n:Nat):Int) &&& BitVec.ofInt (IntKind.bits .i64) (((2 ^ k:Nat)):Int)).toNat:Nat):Int)=if n.testBit k then (((2 ^ k:Nat)):Int) else 0:=by
 rw[OO h (Nat.pow_lt_pow_right (by decide) hk),Kr]
 cases n.testBit k <;> simp
def iP(r:Report)(k:Nat):Bool:=decide (r.has / 2 ^ k % 2=1)
theorem rF(r:Report)(k:Nat)(hr:1<=r.has/\r.has<=15)(hk:k<4)(H:Heap):ak prog F.uc [az r,nI ((k:Nat):Int)] H [] (Is (.bool (iP r k)) H):=by
 refine cQ 40 (fun _=>rfl) rfl (Eq.mpr (O5 _ r _) ?_) H
 delta Lo jr Mo bw
 have e:Int.fdiv r.has (2 ^ min (Int.toNat ((k:Nat):Int)) (IntKind.bits .i64))=r.has / 2 ^ k:=by
  rw[Int.toNat_natCast,show min k (IntKind.bits .i64)=k from Nat.min_eq_left (by show k<=64;omega)]
  exact Int.fdiv_eq_ediv_of_nonneg _ (Int.pow_nonneg (by decide))
 have hb:0<=r.has / 2 ^ k/\r.has / 2 ^ k<2 ^ 62:=by
  have h1:=Int.ediv_nonneg (a:=r.has) (b:=2 ^ k) Om (Int.pow_nonneg (by decide))
  have h2:=Int.ediv_le_self (a:=r.has) (2 ^ k) Om
  omega
 refine ⟨Om,_,iEq e,_,iEq (and1 hb),?_⟩
 exact bEq (by unfold iP;rw[Bool.eq_iff_iff];simp)
theorem OD{r:Report}:iP r 0=decide (r.has % 2=1):=by unfold iP;simp
theorem OA{r:Report}:iP r 1=decide (r.has / 2 % 2=1):=rfl
theorem Oz{r:Report}:iP r 2=decide (r.has / 4 % 2=1):=rfl
theorem Oy{r:Report}:iP r 3=decide (r.has / 8 % 2=1):=rfl
theorem HR{r:Report}{A B:Prop}(h1:r.has % 2=1->A)(h2:¬ r.has % 2=1->B):(iP r 0=true->A)/\(iP r 0=false->B):=by rw[OD];exact aq h1 h2
theorem HQ{r:Report}{A B:Prop}(h1:r.has / 2 % 2=1->A)(h2:¬ r.has / 2 % 2=1->B):(iP r 1=true->A)/\(iP r 1=false->B):=by rw[OA];exact aq h1 h2
theorem HP{r:Report}{A B:Prop}(h1:r.has / 4 % 2=1->A)(h2:¬ r.has / 4 % 2=1->B):(iP r 2=true->A)/\(iP r 2=false->B):=by rw[Oz];exact aq h1 h2
theorem HO{r:Report}{A B:Prop}(h1:r.has / 8 % 2=1->A)(h2:¬ r.has / 8 % 2=1->B):(iP r 3=true->A)/\(iP r 3=false->B):=by rw[Oy];exact aq h1 h2
attribute [local irreducible] iP
set_option maxHeartbeats 2000000 in
theorem xO(r:Report)(H:Heap):ak prog F.qV [az r] H [] (Is (nI (errReport r)) H):=by
 refine cQ 40 (fun _=>rfl) rfl (Eq.mpr (Nw _ r) ?_) H
 delta IP gj jkc jk1 Mn nm nI fk c0q
 repeat' first|(refine HR (fun h =>?_) (fun h =>?_))|(refine HQ (fun h =>?_) (fun h =>?_))|(refine HP (fun h =>?_) (fun h =>?_))|(refine HO (fun h =>?_) (fun h =>?_))|(refine ⟨_,trivial,fun H' _ _=>rF r 0 Om (by decide) H',?_⟩)|(refine ⟨_,trivial,fun H' _ _=>rF r 1 Om (by decide) H',?_⟩)|(refine ⟨_,trivial,fun H' _ _=>rF r 2 Om (by decide) H',?_⟩)|(refine ⟨_,trivial,fun H' _ _=>rF r 3 Om (by decide) H',?_⟩)|exact trivial|exact rfl|exact ad _|refine bb ?_|refine aD ?_ ?_|exact kF|exact bx _ _ _ (.inl rfl)|exact eJ Om|refine dz ?_|refine iL ?_|refine pM ?_ ?_ ?_|refine pL ?_ ?_ ?_|refine toMax ?_|refine toMin ?_|refine ⟨rfl,?_⟩|refine ⟨trivial,?_⟩|(refine aq (fun h =>?_) (fun h =>?_))|(refine aZ (fun h =>?_) (fun h =>?_))|(refine cO (fun h =>?_) (fun h =>?_))|refine cy ?_|refine ⟨ay Om,?_⟩|refine And.intro Om ?_|apply And.intro|exact iEq Om|exact ay Om|fail
 all_goals first
  |(refine iEq (if_pos ⟨Om,fun q =>?_,fun q =>?_,fun q =>?_,fun q =>?_⟩).symm <;> first|exact absurd q ‹_› |exact ⟨‹_›,‹_›,‹_›,‹_›⟩)
  |exact iEq (if_neg (fun o=>by have o:=o.1;omega)).symm
  |exact iEq (if_neg (fun o=>by have o:=o.2.1 ‹_›;unfold bz at o;omega)).symm
  |exact iEq (if_neg (fun o=>by have o:=o.2.2.1 ‹_›;unfold bz at o;omega)).symm
  |exact iEq (if_neg (fun o=>by have o:=o.2.2.2.1 ‹_›;unfold bz at o;omega)).symm
  |exact iEq (if_neg (fun o=>by have o:=o.2.2.2.2 ‹_›;unfold bz at o;omega)).symm
theorem xv(r:Report)(m:af)(now:Int)(hr:eT r)(hm:eS m)(hh:r.at_<=now/\now<=10000)(H:Heap):ak prog F.qU [az r,ao m,nI now] H [] (Is (cellV (bW r m now)) H):=by
 refine cQ 40 (fun _=>rfl) rfl (Eq.mpr (Nd _ r m now) ?_) H
 have hs:=lS hr
 obtain ⟨⟨_,_,ha,_,_,hq⟩,_⟩:=hr
 delta Ix ma nI fk nw c0q
 repeat' first|(refine HR (fun h =>?_) (fun h =>?_))|(refine HQ (fun h =>?_) (fun h =>?_))|(refine HP (fun h =>?_) (fun h =>?_))|(refine HO (fun h =>?_) (fun h =>?_))|(refine ⟨_,trivial,fun H' _ _=>rF r 0 Om (by decide) H',?_⟩)|(refine ⟨_,trivial,fun H' _ _=>rF r 1 Om (by decide) H',?_⟩)|(refine ⟨_,trivial,fun H' _ _=>rF r 2 Om (by decide) H',?_⟩)|(refine ⟨_,trivial,fun H' _ _=>rF r 3 Om (by decide) H',?_⟩)|exact trivial|exact rfl|exact ad _|refine bb ?_|refine aD ?_ ?_|exact kF|exact bx _ _ _ (.inl rfl)|exact eJ Om|refine dz ?_|refine iL ?_|refine pM ?_ ?_ ?_|refine pL ?_ ?_ ?_|refine toMax ?_|refine toMin ?_|refine ⟨rfl,?_⟩|refine ⟨trivial,?_⟩|(refine aq (fun h =>?_) (fun h =>?_))|(refine aZ (fun h =>?_) (fun h =>?_))|(refine cO (fun h =>?_) (fun h =>?_))|refine cy ?_|refine ⟨ay Om,?_⟩|refine And.intro Om ?_|apply And.intro|exact iEq Om|exact ay Om|fail
 all_goals
  refine ⟨bW r m now,trivial,fun H' _ _ =>?_,rfl⟩
  have k:=Df (sU r) m (now-r.at_) hs hm Om H'
  refine (congrArg (fun a=>ak prog F.mf [a,ao m,nI (now-r.at_)] H' [] (Is (cellV (bW r m now)) H')) ?_).mp k
  simp only[*,sU,if_true,if_false]
end
end Go.Proofs.YthcjliffpebjaaaGreat
namespace Go.Proofs.YthcjliffpebjaaaGreat
noncomputable section
attribute [local irreducible] vF iP
theorem LR(m:af)(now:Int)(H:Heap):ak prog F.J7 [ao m,nI now] H [] (Is (nI (dx m now)) H):=by
 refine cQ 40 (fun _=>rfl) rfl (Eq.mpr (PC _ m now) ?_) H
 delta OS nm nI fk c0q
 refine ⟨_,trivial,fun H' _ _=>eW _ H',aZ (fun h0=>iEq (dL h0).symm) (fun h0 =>?_)⟩
 repeat' first|exact iEq ((bi h0).trans (if_pos ⟨‹_›,‹_›⟩)).symm|exact iEq ((bi h0).trans (if_neg Om)).symm|(refine aq (fun h =>?_) (fun h =>?_))|refine cy ?_
theorem kr{m:af}{now:Int}(h:dx m now=0):eS m/\0<=now/\now<=10000:=by
 unfold dx at h
 rcases Classical.em (aM m=0) with h1|h1
 ·rw[bi h1]at h
  unfold DX at h
  split at h
  ·exact ⟨dc.1 h1,‹_›⟩
  ·cases h
 ·rw[dL h1]at h;exact absurd h h1
theorem Av{r:Report}{m:af}{now:Int}(h:¬ dx m now=0):gA r m now=(aj,dx m now):=by unfold gA;rw[dL h,if_neg h]
theorem Au{r:Report}{m:af}{now:Int}(h:dx m now=0)(k:¬ errReport r=0):gA r m now=(aj,errReport r):=by unfold gA;rw[bi h,if_neg k]
theorem At{r:Report}{m:af}{now:Int}(h:dx m now=0)(k:errReport r=0)(q:r.at_ > now):gA r m now=(aj,12):=by unfold gA;rw[bi h,if_pos k,if_pos q]
theorem As{r:Report}{m:af}{now:Int}(h:dx m now=0)(k:errReport r=0)(q:¬ r.at_ > now):gA r m now=(bW r m now,0):=by unfold gA;rw[bi h,if_pos k,if_neg q]
theorem LT(r:Report)(m:af)(now:Int)(H:Heap):ak prog F.FD [az r,ao m,nI now] H [] (Is (.tuple #[cellV (gA r m now).1,nI (gA r m now).2]) H):=by
 refine cQ 40 (fun _=>rfl) rfl (Eq.mpr (Nr _ r m now) ?_) H
 delta IJ jkw nI fk c0q
 refine ⟨_,trivial,fun H' _ _=>LR _ _ H',_,trivial,fun H' _ _=>xO r H',?_⟩
 refine aZ (fun h0=>⟨vbT (bne_iff_ne.2 h0),ej (Av h0)⟩) (fun h0 =>?_)
 refine aZ (fun h1=>⟨vbT (bne_iff_ne.2 h1),ej (Au h0 h1)⟩) (fun h1 =>?_)
 obtain ⟨hm,hn⟩:=kr h0
 refine aq (fun h2=>ej (At h0 h1 h2)) (fun h2 =>?_)
 refine ⟨_,trivial,fun H' _ _=>xv r m now (dO.1 h1) hm Om H',ej (As h0 h1 h2)⟩
theorem KS{f:FuncId}{args:List Value}{css:List (List Value)}{h:Hint}{v:Value}(hc:vE f args (aH 0 css) (some []) h (fun v' _ _=>v'=v))(hv:cP 0 v=true)
  {H:Heap} (ids:List Nat) (hl:ids.length=css.length) (gv:∀(k:Nat) (cs:List Value),css[k]?=some cs->∃id own z,ids[k]?=some id/\H[id]?=some (ah.cells own z (cs.map (rn (sgR 0 ids) 3)))) (h3:dD 3 v=true:=by rfl) (h4:∀σ,rn σ 3 v=v:=by intro σ;rfl) :
  ak prog f (args.map (rn (sgR 0 ids) 3)) H [] (Is v H):=by
 have:=NG (H:=H) vX mixed 40 (v:=v) (by rw[gO];exact hc) hv ids hl (by rw[gO];exact gv) h3 h4
 rw[gO]at this;exact this
theorem Gm{f:FuncId}{args:List Value}{css:List (List Value)}{h:Hint}{v:Value}{new:List (Bool×ah)}(hc:vE f args (aH 0 css) (some []) h (er (aH 0 css).n 3 v new))
  (hv:dD 3 v=true) (hv2:rn (bD (0+css.length)) 3 v=v) (hn:(new.map (·.2)).all (fun o=>cY 3 o&&o.owned)=true) (hn2:(new.map (·.2)).map (rno (bD (0+css.length)) 3)=new.map (·.2))
  {H:Heap} (ids:List Nat) (hl:ids.length=css.length) (gv:∀(k:Nat) (cs:List Value),css[k]?=some cs->∃id own z,ids[k]?=some id/\H[id]?=some (ah.cells own z (cs.map (rn (sgR 0 ids) 3)))) :
  ak prog f (args.map (rn (sgR 0 ids) 3)) H [] (Is (rn (bT (0+css.length) H.length) 3 v) (H++(new.map (·.2)).map (rno (bT (0+css.length) H.length) 3))):=by
 have:=Pa (H:=H) vX mixed 40 (v:=v) (new:=new) (by rw[gO];exact hc) hv (by rw[gO];exact hv2) hn (by rw[gO];exact hn2) ids hl (by rw[gO];exact gv)
 rw[gO]at this;exact this
abbrev eH(m:af)(id n:Nat):List Value:=GE m ++ [slQ id 1 n]
theorem lK{H:Heap}{m:af}{ts:List Cell}{i j:Nat}{own dp:Bool}{z z2:Nat}(h1:H[i]?=some (.cells own z (eH m j ts.length)))(h2:H[j]?=some (.cells dp z2 (ts.flatMap cellC))) :
  ∀(k:Nat) (cs:List Value),[eH m 1 ts.length,ts.flatMap cellC][k]?=some cs->∃id own z,[i,j][k]?=some id/\H[id]?=some (ah.cells own z (cs.map (rn (sgR 0 [i,j]) 3))):=by
 intro k cs h
 match k with
 |0=>cases h;exact ⟨i,own,z,rfl,h1⟩
 |1=>cases h;exact ⟨j,dp,z2,rfl,by rw[h2,(dw (d:=0) (fw 0 ts)).1]⟩
theorem M1{n i:Nat}(hn:n<=12)(hi:i<n):(1*2 ^ min (Int.toNat ((((n:Nat):Int)-1)-((i:Nat):Int))) (IntKind.bits .i64):Int)=(((2 ^ (n-1-i):Nat)):Int):=by
 have e:Int.toNat ((((n:Nat):Int)-1)-((i:Nat):Int))=n-1-i:=Om
 rw[e,show min (n-1-i) (IntKind.bits .i64)=n-1-i from Nat.min_eq_left (by show n-1-i<=64;omega)]
 simp
theorem ls{k:Nat}(h:k<=12):1<=2 ^ k/\2 ^ k<=4096:=⟨Nat.one_le_two_pow,Nat.pow_le_pow_right (by decide) h⟩
theorem LQ(m:af)(i:Nat){ts:List Cell}(hn:ts.length<=12)(hi:i<ts.length){H:Heap}{w j:Nat}{own dp:Bool}{z z2:Nat}(h1:H[w]?=some (.cells own z (eH m j ts.length)))(h2:H[j]?=some (.cells dp z2 (ts.flatMap cellC))) :
  ak prog F.xX [pt w,nI ((i:Nat):Int)] H [] (Is (nI (((2 ^ (ts.length-1-i):Nat)):Int)) H):=by
 refine KS (css:=[eH m 1 ts.length,ts.flatMap cellC]) (Eq.mpr (PB _ m ts _) ?_) rfl [w,j] rfl (lK h1 h2)
 delta OR jt jr nI nw bw
 have e:=M1 hn hi
 have p:=ls (k:=ts.length-1-i) Om
 refine ⟨ay Om,ay Om,Om,ay (by rw[e];omega),_,iEq e,rfl⟩
theorem jW{ts:List Cell}{s j:Nat}{c:Cell}(h:tog ts s j=some c):tog ts s (j+1)=if bM ts.length s j then (if okC (bK c (ts.getD j aj)) then some (bK c (ts.getD j aj)) else none) else some c:=by
 show (match tog ts s j with|none=>none|some c=>_)=_;rw[h]
theorem oU{ts:List Cell}{s j n:Nat}(h:tog ts s j=none)(hn:j<=n):tog ts s n=none:=by
 have key:∀d,tog ts s (j+d)=none:=by
  intro d
  induction d with
  |zero=>exact h
  |succ d ih=>show (match tog ts s (j+d) with|none=>none|some c=>_)=none;rw[ih]
 have:=key (n-j);rwa [show j+(n-j)=n by omega]at this
theorem qG(m:af)(s:Nat){ts:List Cell}(hn:ts.length<=12)(hs:s<4096){H:Heap}{w j:Nat}{own dp:Bool}{z z2:Nat}(h1:H[w]?=some (.cells own z (eH m j ts.length)))(h2:H[j]?=some (.cells dp z2 (ts.flatMap cellC))) :
    ak prog F.pP [pt w,nI ((s:Nat):Int)] H [] (Is (.tuple #[cellV ((di ts s).getD aj),.bool (di ts s).isSome]) H):=by
  refine KS (css:=[eH m 1 ts.length,ts.flatMap cellC]) (Eq.mpr (F5 _ m ts s) ?_) rfl [w,j] rfl (lK h1 h2)
  delta wT nm jt jkr vp jk8 zP jr jku jkg Fv nI slQ pt fk nw bw eR wR krq kbq ixq c0q c2q
  refine ⟨rfl,⟨Nat.zero_le _,rfl⟩,?_,fun _=>rfl,?_⟩
  · repeat' first|exact trivial|exact rfl|exact ad _|refine ⟨rfl,?_⟩|refine ⟨trivial,?_⟩|apply And.intro
  rintro ⟨x,c⟩ ⟨hx,hc⟩
  replace hx:x<=ts.length:=hx
  replace hc:tog ts s x=some c:=hc
  refine aq (fun hl =>?_) (fun hl =>?_)
  · replace hl : x < ts.length := by simpa using hl
    have hk:ts.length-1-x<62:=Om
    have hb:=CA (n:=s) (k:=ts.length-1-x) Om hk
    have hp:=ls (k:=ts.length-1-x) Om
    have ht:=jW hc
    refine ⟨⟨Om,by simpa using hl⟩,vQ hl,_,⟨rfl,rfl,trivial⟩,fun H' _ hd=>LQ m x hn hl hd.1 hd.2.1,?_⟩
    refine ⟨_,iEq hb,?_⟩
    have step:∀c',tog ts s (x+1)=some c'->(((x+1,c'):Nat×Cell).1<=ts.length/\tog ts s ((x+1,c'):Nat×Cell).1=some ((x+1,c'):Nat×Cell).2):=fun c' h=>⟨hl,h⟩
    refine cO (fun h0 =>?_) (fun h0 =>?_)
    · have hf:bM ts.length s x=false:=by
        cases hq:s.testBit (ts.length-1-x) with
        |false=>exact hq
        |true=>rw[hq,if_pos rfl]at h0;omega
      rw[hf,if_neg (by decide)]at ht
      repeat' first|(refine ⟨ay (show _/\(((x:Nat):Int)+1<=_) by omega),?_⟩)|(refine ⟨(x+1,c),step c ht,(show ts.length-(x+1)<ts.length-x by omega),?_⟩)|exact trivial|exact rfl|exact ad _|refine ⟨rfl,?_⟩|refine ⟨trivial,?_⟩|apply And.intro
    · have hf:bM ts.length s x=true:=by
        cases hq:s.testBit (ts.length-1-x) with
        |true=>exact hq
        |false=>rw[hq,if_neg (by decide)]at h0;exact absurd rfl h0
      rw[hf,if_pos rfl]at ht
      refine ⟨(_,_),trivial,fun H' _ _=>xx _ _ H',cy (aq (fun ok =>?_) (fun ok =>?_))⟩
      · rw [if_pos ok] at ht
        repeat' first|(refine ⟨ay (show _/\(((x:Nat):Int)+1<=_) by omega),?_⟩)|(refine ⟨(x+1,bK c (ts.getD x aj)),step _ ht,(show ts.length-(x+1)<ts.length-x by omega),?_⟩)|exact trivial|exact rfl|exact ad _|refine ⟨rfl,?_⟩|refine ⟨trivial,?_⟩|apply And.intro
      · rw [if_neg ok] at ht
        have:=oU ht hl
        show _=Value.tuple #[cellV ((tog ts s ts.length).getD aj),.bool (tog ts s ts.length).isSome]
        rw[this];rfl
  · obtain rfl : x = ts.length := by have : ¬ x < ts.length := by simpa using hl
                                     omega
    show _=Value.tuple #[cellV ((tog ts s ts.length).getD aj),.bool (tog ts s ts.length).isSome]
    rw[hc];rfl
theorem kn{l:List Report}{m:af}{now:Int}(h:¬ dx m now=0):av l m now=dx m now:=dL h
theorem mQ{l:List Report}{m:af}{now:Int}(h:dx m now=0)(k:12<l.length):av l m now=2:=(bi h).trans (if_pos k)
theorem km{l:List Report}{m:af}{now:Int}(h:dx m now=0)(k:¬ 12<l.length):av l m now=cj (dr l now) l.length:=(bi h).trans (if_neg k)
theorem kq{l:List Report}{now:Int}{i:Nat}(h:¬ errReport (l.getD i ag)=0):dr l now i=errReport (l.getD i ag):=if_neg h
theorem kp{l:List Report}{now:Int}{i:Nat}(h:errReport (l.getD i ag)=0)(k:∃k,k<i/\(l.getD k ag).id=(l.getD i ag).id):dr l now i=10:=(if_pos h).trans (if_pos k)
theorem fb{l:List Report}{now:Int}{i:Nat}(h:errReport (l.getD i ag)=0)(k:¬ ∃k,k<i/\(l.getD k ag).id=(l.getD i ag).id)(q:(l.getD i ag).x≠(l.getD 0 ag).x∨(l.getD i ag).y≠(l.getD 0 ag).y):dr l now i=1:=(if_pos h).trans ((if_neg k).trans (if_pos q))
theorem ko{l:List Report}{now:Int}{i:Nat}(h:errReport (l.getD i ag)=0)(k:¬ ∃k,k<i/\(l.getD k ag).id=(l.getD i ag).id)(q:¬ ((l.getD i ag).x≠(l.getD 0 ag).x∨(l.getD i ag).y≠(l.getD 0 ag).y))(r:(l.getD i ag).at_ > now):dr l now i=12:=(if_pos h).trans ((if_neg k).trans ((if_neg q).trans (if_pos r)))
theorem p7{l:List Report}{now:Int}{i:Nat}(h:errReport (l.getD i ag)=0)(k:¬ ∃k,k<i/\(l.getD k ag).id=(l.getD i ag).id)(q:¬ ((l.getD i ag).x≠(l.getD 0 ag).x∨(l.getD i ag).y≠(l.getD 0 ag).y))(r:¬ (l.getD i ag).at_ > now):dr l now i=0:=(if_pos h).trans ((if_neg k).trans ((if_neg q).trans (if_neg r)))
theorem Lz{l:List Report}(h:0<l.length):(l.flatMap ai)[3]?=some (nI (l.getD 0 ag).x):=by
 cases l with
 |nil=>simp at h
 |cons x r=>rfl
theorem Ly{l:List Report}(h:0<l.length):(l.flatMap ai)[4]?=some (nI (l.getD 0 ag).y):=by
 cases l with
 |nil=>simp at h
 |cons x r=>rfl
theorem sN(l:List Report)(m:af)(now:Int)(x:Nat):nx l m now (x+1)=nx l m now x ++ [bW (l.getD x ag) m now]:=ew _ _
theorem iV(l:List Report)(m:af)(now:Int)(x:Nat):(nx l m now x).length=x:=bY _ _
theorem tz(l:List Report)(m:af)(now:Int)(he:¬ av l m now=0){H:Heap}{id:Nat}{own:Bool}{z:Nat}(hid:H[id]?=some (.cells own z (l.flatMap ai))) :
  ak prog F.zY [slQ id 2 l.length,ao m,nI now] H [] (Is (.tuple #[.pointer none,nI (av l m now)]) H):=by
 refine ix (Eq.mpr (Nn _ l m now) ?_) (cU (b9 0 l)) rfl [id] rfl (cT hid)
 delta IG oC jk9 jkk jkq jko jka jke pN jk0 JX JW nm tX qQ nI slQ pt slN fk nw eR wR kbq ixq lq apq c0q
 have tp:∀{a b:Int},a=b->(Value.tuple #[.pointer none,nI a]) = .tuple #[.pointer none,nI b]:=fun h=>by rw[h]
 refine ⟨_,trivial,fun H' _ _=>LR _ _ H',aZ (fun h0=>tp (kn h0).symm) (fun h0 =>?_)⟩
 obtain ⟨hm,MK⟩:=kr h0
 refine aq (fun h1=>tp (mQ h0 Om).symm) (fun h1 =>?_)
 have e3:=km h0 (l:=l) Om
 repeat' first|(refine ⟨rfl,⟨Nat.zero_le _,rfl⟩,?_,fun _=>rfl,?_⟩)|exact trivial|exact ad _|refine bb ?_|refine aD ?_ ?_|exact bx _ _ _ (.inl rfl)|refine ⟨rfl,?_⟩|refine ⟨trivial,?_⟩|apply And.intro
 rintro x ⟨hx,hz⟩
 refine aq (fun hl =>?_) (fun hl =>?_)
 ·have hlt:x<l.length:=Om
  refine ⟨Om,da hlt,_,trivial,fun H' _ _=>xO _ H',?_⟩
  have stop:¬ dr l now x=0->dr l now x=av l m now:=fun h=>(e3.trans (jl hz h hlt)).symm
  refine aZ (fun h2=>tp ((stop (by rw[kq h2];exact h2)).symm.trans (kq h2)).symm) (fun h2 =>?_)
  refine ⟨⟨⟨.inl rfl,Om⟩,Om,Nat.zero_le _⟩,rfl,rfl,⟨Nat.zero_le _,fun k hk=>absurd hk (Nat.not_lt_zero k)⟩,?_,fun _=>rfl,?_⟩
  ·repeat' first|exact trivial|exact ad _|refine ⟨rfl,?_⟩|refine ⟨trivial,?_⟩|apply And.intro
  rintro y ⟨hy,hno⟩
  refine aq (fun hl2 =>?_) (fun hl2 =>?_)
  ·refine ⟨Om,da Om,cO (fun hq =>?_) (fun hq =>?_)⟩
   ·refine aq (fun _=>tp ((stop (by rw[kp h2 ⟨y,Om,hq⟩];exact (by decide))).symm.trans (kp h2 ⟨y,Om,hq⟩)).symm) (fun h=>absurd Om h)
   ·repeat' first|(refine ⟨y+1,⟨Om,fun k hk =>?_⟩,Om,?_⟩)|exact trivial|exact ad _|refine ⟨rfl,?_⟩|refine ⟨trivial,?_⟩|refine ⟨ay Om,?_⟩|apply And.intro
    rcases Nat.lt_or_ge k y with h3|h3
    ·exact hno k h3
    ·obtain rfl:k=y:=Om
     exact hq
  ·obtain rfl:y=x:=Om
   have h3:¬ ∃k,k<y/\(l.getD k ag).id=(l.getD y ag).id:=fun ⟨k,h,e⟩=>hno k h e
   refine ⟨Om,Lz Om,aZ (fun h4=>tp ((stop (by rw[fb h2 h3 (.inl h4)];exact (by decide))).symm.trans (fb h2 h3 (.inl h4))).symm) (fun h4 =>?_)⟩
   refine ⟨Om,Ly Om,aZ (fun h5=>tp ((stop (by rw[fb h2 h3 (.inr h5)];exact (by decide))).symm.trans (fb h2 h3 (.inr h5))).symm) (fun h5 =>?_)⟩
   have h6:¬ ((l.getD y ag).x≠(l.getD 0 ag).x∨(l.getD y ag).y≠(l.getD 0 ag).y):=fun q=>q.elim (fun a=>a h4) (fun a=>a h5)
   refine aq (fun h7=>tp ((stop (by rw[ko h2 h3 h6 Om];exact (by decide))).symm.trans (ko h2 h3 h6 Om)).symm) (fun h7 =>?_)
   have ok:=dO.1 h2
   have e5:=p7 h2 h3 h6 Om
   repeat' first|(refine ⟨_,trivial,fun H' _ _=>xv _ m now ok hm Om H',?_⟩)|(refine ⟨⟨Om,by decide,⟨Nat.le_refl _,by rw[aK fc,iV];omega⟩,⟨by decide,Nat.le_refl _⟩,rfl⟩,rfl,?_⟩)|refine ⟨y+1,⟨Om,fa hz e5⟩,Om,?_⟩|exact fw _ _|(exact (by rw[sN];exact congrArg (fun l=>some (ah.cells true 8 l)) (cF fc _ _ (iV ..).symm)))|exact trivial|exact ad _|refine bb ?_|refine aD ?_ ?_|exact eJ Om|refine ⟨rfl,?_⟩|refine ⟨ay Om,?_⟩|apply And.intro
 ·have hxe:x=l.length:=Om
  exact absurd (by rw[e3,<- hxe];exact hz) he
theorem tw(l:List Report)(m:af)(now:Int)(he:av l m now=0){H:Heap}{L:Nat}(hL:H.length=L){id:Nat}{own:Bool}{z:Nat}(hid:H[id]?=some (.cells own z (l.flatMap ai))) :
    ak prog F.zY [slQ id 2 l.length,ao m,nI now] H [] (Is (.tuple #[pt L,nI 0]) (H ++ [.cells true 0 (eH m (L+1) (told l m now).length),.cells true 8 ((told l m now).flatMap cellC)])):=by
  subst hL
  have key:=fun hc=>rU (css:=[l.flatMap ai]) (v:=.tuple #[pt 1,nI 0]) (new:=[(false,.cells true 0 (eH m 2 (told l m now).length)),(true,.cells true 8 ((told l m now).flatMap cellC))]) (Eq.mpr (Nm l m now) hc) (cU (b9 0 l)) rfl (by simp[rn,bD])
    (by show ((true && true) && ((cY 3 (.cells true 8 ((told l m now).flatMap cellC)) && true) && true)) = true
        simp only[Bool.and_true,Bool.true_and];exact (dw (σ:=fun _=>none) (d:=0) (fw 0 _)).2)
    (congrArg (fun q=>[ah.cells true 0 (eH m 2 (told l m now).length),ah.cells true 8 q]) (dw (d:=0) (fw 0 _)).1) (H:=H) [id] rfl (cT hid)
  have e1:rn (bT (0 + [l.flatMap ai].length) H.length) 3 (.tuple #[pt 1,nI 0]) = .tuple #[pt H.length,nI 0]:=by simp[rn,bT]
  have e2:(List.map (fun x:Bool×ah=>x.2) [(false,ah.cells true 0 (eH m 2 (told l m now).length)),(true,.cells true 8 ((told l m now).flatMap cellC))]).map (rno (bT (0 + [l.flatMap ai].length) H.length) 3)=[.cells true 0 (eH m (H.length+1) (told l m now).length),.cells true 8 ((told l m now).flatMap cellC)] :=
    congrArg (fun q=>[ah.cells true 0 (eH m (H.length+1) (told l m now).length),ah.cells true 8 q]) (dw (d:=0) (fw 0 _)).1
  rw[e1,e2]at key
  refine key ?_
  delta IF jkv oC jk4 jk9 jkk jkq jko jkd jke JT jkh pN jk0 JX JW nm tX qQ nI slQ pt slN fk nw eR wR kbq ixq lq apq c0q
  refine ⟨_,trivial,fun H' _ _=>LR _ _ H',aZ (fun h0=>absurd ((kn h0).symm.trans he) (h0)) (fun h0 =>?_)⟩
  obtain ⟨hm,MK⟩:=kr h0
  refine aq (fun h1=>absurd ((mQ h0 Om).symm.trans he) ((by decide))) (fun h1 =>?_)
  have e3:=km h0 (l:=l) Om
  repeat' first|(refine ⟨rfl,⟨Nat.zero_le _,rfl⟩,?_,fun _=>rfl,?_⟩)|exact trivial|exact ad _|refine bb ?_|refine aD ?_ ?_|exact bx _ _ _ (.inl rfl)|refine ⟨rfl,?_⟩|refine ⟨trivial,?_⟩|apply And.intro
  rintro x ⟨hx,hz⟩
  refine aq (fun hl =>?_) (fun hl =>?_)
  · have hlt : x < l.length := Om
    refine ⟨Om,da hlt,_,trivial,fun H' _ _=>xO _ H',?_⟩
    have stop:¬ dr l now x=0->dr l now x=av l m now:=fun h=>(e3.trans (jl hz h hlt)).symm
    refine aZ (fun h2=>absurd (((stop (by rw[kq h2];exact h2)).symm.trans (kq h2)).symm.trans he) (h2)) (fun h2 =>?_)
    refine ⟨⟨⟨.inl rfl,Om⟩,Om,Nat.zero_le _⟩,rfl,rfl,⟨Nat.zero_le _,fun k hk=>absurd hk (Nat.not_lt_zero k)⟩,?_,fun _=>rfl,?_⟩
    · repeat' first|exact trivial|exact ad _|refine ⟨rfl,?_⟩|refine ⟨trivial,?_⟩|apply And.intro
    rintro y ⟨hy,hno⟩
    refine aq (fun hl2 =>?_) (fun hl2 =>?_)
    · refine ⟨Om, da Om, cO (fun hq => ?_) (fun hq => ?_)⟩
      · refine aq (fun _=>absurd (((stop (by rw[kp h2 ⟨y,Om,hq⟩];exact (by decide))).symm.trans (kp h2 ⟨y,Om,hq⟩)).symm.trans he) ((by decide))) (fun h=>absurd Om h)
      · repeat' first | (refine ⟨y + 1, ⟨Om, fun k hk => ?_⟩, Om, ?_⟩) | exact trivial | exact ad _ | refine ⟨rfl, ?_⟩ | refine ⟨trivial, ?_⟩ | refine ⟨ay Om, ?_⟩ | apply And.intro
        rcases Nat.lt_or_ge k y with h3|h3
        · exact hno k h3
        · obtain rfl : k = y := Om
          exact hq
    · obtain rfl : y = x := Om
      have h3:¬ ∃k,k<y/\(l.getD k ag).id=(l.getD y ag).id:=fun ⟨k,h,e⟩=>hno k h e
      refine ⟨Om,Lz Om,aZ (fun h4=>absurd (((stop (by rw[fb h2 h3 (.inl h4)];exact (by decide))).symm.trans (fb h2 h3 (.inl h4))).symm.trans he) ((by decide))) (fun h4 =>?_)⟩
      refine ⟨Om,Ly Om,aZ (fun h5=>absurd (((stop (by rw[fb h2 h3 (.inr h5)];exact (by decide))).symm.trans (fb h2 h3 (.inr h5))).symm.trans he) ((by decide))) (fun h5 =>?_)⟩
      have h6:¬ ((l.getD y ag).x≠(l.getD 0 ag).x∨(l.getD y ag).y≠(l.getD 0 ag).y):=fun q=>q.elim (fun a=>a h4) (fun a=>a h5)
      refine aq (fun h7=>absurd (((stop (by rw[ko h2 h3 h6 Om];exact (by decide))).symm.trans (ko h2 h3 h6 Om)).symm.trans he) ((by decide))) (fun h7 =>?_)
      have ok:=dO.1 h2
      have e5:=p7 h2 h3 h6 Om
      repeat' first|(refine ⟨_,trivial,fun H' _ _=>xv _ m now ok hm Om H',?_⟩)|(refine ⟨⟨Om,by decide,⟨Nat.le_refl _,by rw[aK fc,iV];omega⟩,⟨by decide,Nat.le_refl _⟩,rfl⟩,rfl,?_⟩)|refine ⟨y+1,⟨Om,fa hz e5⟩,Om,?_⟩|exact fw _ _|(exact (by rw[sN];exact congrArg (fun l=>some (ah.cells true 8 l)) (cF fc _ _ (iV ..).symm)))|exact trivial|exact ad _|refine bb ?_|refine aD ?_ ?_|exact eJ Om|refine ⟨rfl,?_⟩|refine ⟨ay Om,?_⟩|apply And.intro
  · have hxe : x = l.length := Om
    subst hxe
    repeat' first|exact fw _ _|exact trivial|exact ad _|refine bb ?_|refine aD ?_ ?_|refine ⟨rfl,?_⟩|apply And.intro
    all_goals (rw[show (told l m now).length=l.length from iV ..];exact ad _)
end
end Go.Proofs.YthcjliffpebjaaaGreat
namespace Go.Proofs.YthcjliffpebjaaaGreat
noncomputable section
attribute [local irreducible] vF iP
section
abbrev wu(n:Int):Int:=IntKind.wrap .u64 n
abbrev au(n m:Int):Int:=IntKind.wrap .u64 (((BitVec.ofInt (IntKind.bits .u64) n &&& BitVec.ofInt (IntKind.bits .u64) m).toNat:Nat):Int)
def o0(n:Int):Int:=au (Int.fdiv n (2 ^ 1)) 6148914691236517205
def o1(n:Int):Int:=au n 6148914691236517205
def o2(n:Int):Int:=au (Int.fdiv (o0 n+o1 n) (2 ^ 2)) 3689348814741910323
def o3(n:Int):Int:=au (o0 n+o1 n) 3689348814741910323
def o4(n:Int):Int:=au ((Int.fdiv (o2 n+o3 n) (2 ^ 4))+(o2 n+o3 n)) 1085102592571150095
def o5(n:Int):Int:=(o4 n+(Int.fdiv (o4 n) (2 ^ 8)))+(Int.fdiv (o4 n+(Int.fdiv (o4 n) (2 ^ 8))) (2 ^ 16))
def o6(n:Int):Int:=IntKind.wrap .i64 (o5 n+(Int.fdiv (o5 n) (2 ^ 32)))
def o7(n:Int):Int:=IntKind.wrap .i64 (((BitVec.ofInt (IntKind.bits .i64) (o6 n) &&& BitVec.ofInt (IntKind.bits .i64) 127).toNat:Nat):Int)
def GH(s:Nat):Bool :=
 decide (wu (o0 s+o1 s)=o0 s+o1 s)&&(decide (wu (o2 s+o3 s)=o2 s+o3 s)&&(decide (wu ((Int.fdiv (o2 s+o3 s) (2 ^ 4))+(o2 s+o3 s))=(Int.fdiv (o2 s+o3 s) (2 ^ 4))+(o2 s+o3 s)) &&
 (decide (wu (o4 s+(Int.fdiv (o4 s) (2 ^ 8)))=o4 s+(Int.fdiv (o4 s) (2 ^ 8)))&&(decide (wu (o5 s)=o5 s)&&(decide (wu (o5 s+(Int.fdiv (o5 s) (2 ^ 32)))=o5 s+(Int.fdiv (o5 s) (2 ^ 32)))&&decide (o7 s=(dt s:Int)))))))
theorem GG:(List.range 4096).all GH=true:=by kernel_rfl
end
theorem NY(s:Nat)(hs:s<4096)(H:Heap):ak prog F.nh [.int .u64 ((s:Nat):Int)] H [] (Is (nI ((dt s:Nat):Int)) H):=by
 refine cQ 40 (fun _=>rfl) rfl (Eq.mpr (CO _ _) ?_) H
 have h:=List.all_eq_true.1 GG s (List.mem_range.2 hs)
 simp only[GH,Bool.and_eq_true,decide_eq_true_eq]at h
 obtain ⟨h1,h2,h3,h4,h5,h6,h7⟩:=h
 exact ⟨o0 s,rfl,o1 s,rfl,iEq h1,o2 s,rfl,o3 s,rfl,iEq h2,iEq h3,o4 s,rfl,iEq h4,iEq h5,o5 s,rfl,iEq h6,o6 s,rfl,o7 s,rfl,iEq h7⟩
end
end Go.Proofs.YthcjliffpebjaaaGreat
namespace Go.Proofs.YthcjliffpebjaaaGreat
noncomputable section
attribute [local irreducible] vF iP dt
theorem zk(s:Nat):(jb s).length=1:=rfl
theorem lW(n:Nat)(l:List Nat):(l.flatMap jb).all (aw n)=true:=cD (fun _=>rfl) l
theorem Gv{n:Nat}(hn:n<=12):(1*2 ^ min (Int.toNat ((n:Nat):Int)) (IntKind.bits .i64):Int)=(2:Int) ^ n:=by
 rw[Int.toNat_natCast,show min n (IntKind.bits .i64)=n from Nat.min_eq_left (by show n<=64;omega),Int.one_mul]
theorem mz(ts:List Cell)(j:Nat):agr ts (j+1)=if (dt (2 ^ ts.length-1-j):Int)<(agr ts j).1 then agr ts j else if (di ts (2 ^ ts.length-1-j)).isSome then (if (agr ts j).1<dt (2 ^ ts.length-1-j) then (((dt (2 ^ ts.length-1-j):Nat):Int),[2 ^ ts.length-1-j]) else ((agr ts j).1,(agr ts j).2 ++ [2 ^ ts.length-1-j])) else agr ts j:=rfl
theorem wS{ts:List Cell}{j s:Nat}(hs:2 ^ ts.length-1-j=s)(h:(dt s:Int)<(agr ts j).1):agr ts (j+1)=agr ts j:=by rw[mz,hs,if_pos h]
theorem D4{ts:List Cell}{j s:Nat}(hs:2 ^ ts.length-1-j=s)(h:¬ (dt s:Int)<(agr ts j).1)(k:(di ts s).isSome=false):agr ts (j+1)=agr ts j:=by rw[mz,hs,if_neg h,if_neg (by rw[k];decide)]
theorem wQ{ts:List Cell}{j s:Nat}(hs:2 ^ ts.length-1-j=s)(h:¬ (dt s:Int)<(agr ts j).1)(k:(di ts s).isSome=true)(q:(agr ts j).1<dt s):agr ts (j+1)=(((dt s:Nat):Int),[s]):=by rw[mz,hs,if_neg h,if_pos k,if_pos q]
theorem wP{ts:List Cell}{j s:Nat}(hs:2 ^ ts.length-1-j=s)(h:¬ (dt s:Int)<(agr ts j).1)(k:(di ts s).isSome=true)(q:¬ (agr ts j).1<dt s):agr ts (j+1)=((agr ts j).1,(agr ts j).2 ++ [s]):=by rw[mz,hs,if_neg h,if_pos k,if_neg q]
theorem mV(ts:List Cell)(j:Nat):(agr ts j).2.length<=j:=by
 induction j with
 |zero=>exact Nat.le_refl _
 |succ j ih =>
  rw[mz]
  split
  ·omega
  ·split
   ·split
    ·show [_].length<=_
     simp
    ·show ((agr ts j).2 ++ [_]).length<=_
     simp;omega
   ·omega
theorem NC{n:Nat}(h:n<4096):IntKind.wrap .u64 ((n:Nat):Int)=((n:Nat):Int):=by
 show ((n:Int) % 18446744073709551616)=n
 omega
theorem wq(m:af){ts:List Cell}(hn:ts.length<=12){H:Heap}{L:Nat}(hL:H.length=L){w j:Nat}{own dp:Bool}{z z2:Nat}(h1:H[w]?=some (.cells own z (eH m j ts.length)))(h2:H[j]?=some (.cells dp z2 (ts.flatMap cellC))) :
    ak prog F.pQ [pt w] H [] (Is (.slice (some ⟨L,0,some 1⟩) (bt ts).length (bt ts).length) (H ++ [.cells true 1 ((bt ts).flatMap jb)])):=by
  subst hL
  have key:=fun hc=>Gm (css:=[eH m 1 ts.length,ts.flatMap cellC]) (v:=.slice (some ⟨2,0,some 1⟩) (bt ts).length (bt ts).length) (new:=[(true,.cells true 1 ((bt ts).flatMap jb))]) (Eq.mpr (F8 m ts) hc) rfl (by simp[rn,bD])
    (by show ((cY 3 (.cells true 1 ((bt ts).flatMap jb)) && true) && true) = true
        rw[Bool.and_true,Bool.and_true];exact (dw (σ:=fun _=>none) (d:=0) (lW 0 _)).2)
    (congrArg (fun q=>[ah.cells true 1 q]) (dw (d:=0) (lW 0 _)).1) (H:=H) [w,j] rfl (lK h1 h2)
  have e1:rn (bT (0 + [eH m 1 ts.length,ts.flatMap cellC].length) H.length) 3 (.slice (some ⟨2,0,some 1⟩) (bt ts).length (bt ts).length) = .slice (some ⟨H.length,0,some 1⟩) (bt ts).length (bt ts).length:=by simp[rn,bT]
  have e2:(List.map (fun x:Bool×ah=>x.2) [(true,ah.cells true 1 ((bt ts).flatMap jb))]).map (rno (bT (0 + [eH m 1 ts.length,ts.flatMap cellC].length) H.length) 3)=[.cells true 1 ((bt ts).flatMap jb)] :=
    congrArg (fun q=>[ah.cells true 1 q]) (dw (d:=0) (lW 0 _)).1
  rw[e1,e2]at key
  refine key ?_
  delta wW jt jr tX qQ jk6 jkj jky Cc jk8 zP jkl Fv nI slQ pt slN fk nw bw eR kbq lq apq c0q c2q
  have hp:=ls hn
  have hpi:((2:Int) ^ ts.length)=(((2 ^ ts.length:Nat)):Int):=by simp
  have hs:=Gv hn
  refine ⟨Om,ay (by rw[hs,hpi];omega),_,iEq hs,ay (by rw[hpi];omega),rfl,Nat.zero_le _,?_,fun _=>rfl,?_⟩
  · repeat' first|(exact iEq (by simp))|exact trivial|exact rfl|refine bb ?_|refine aD ?_ ?_|exact bx _ _ _ (.inl rfl)|refine ⟨rfl,?_⟩|refine ⟨trivial,?_⟩|apply And.intro
  intro x hx
  refine ⟨_,rfl,aq (fun h =>?_) (fun h =>?_)⟩
  · have hx1 : x < 2 ^ ts.length := by rw [hpi] at h; omega
    obtain ⟨s,he⟩:∃s,2 ^ ts.length-1-x=s:=⟨_,rfl⟩
    have ey:(2:Int) ^ ts.length-1-((x:Nat):Int)=((s:Nat):Int):=by rw[hpi];omega
    have hs1:s<4096:=Om
    have hal:=mV ts x
    refine ⟨_,iEq ey,_,trivial,fun H' _ _=>by rw[NC hs1];exact NY s hs1 H',?_⟩
    refine aq (fun h1 =>?_) (fun h1 =>?_)
    · refine ⟨_, iEq ey, ay Om, x + 1, Om, Om, ?_⟩
      rw[wS he h1]
      repeat' first|exact iEq Om|exact lW _ _|exact trivial|exact rfl|exact ad _|refine bb ?_|refine aD ?_ ?_|refine ⟨rfl,?_⟩|apply And.intro
    refine ⟨(_,_),⟨rfl,rfl,trivial⟩,fun H' _ hd=>qG m s hn hs1 hd.1 hd.2.1,cy (pZ (fun h2 =>?_) (fun h2 =>?_))⟩
    · refine aq (fun h3 => ?_) (fun h3 => ?_)
      · refine ⟨_, iEq ey, ay Om, x + 1, Om, Om, ?_⟩
        rw[wQ he h1 h2 h3]
        repeat' first|exact iEq Om|exact lW _ _|exact trivial|exact rfl|refine bb ?_|refine aD ?_ ?_|exact eJ Om|refine ⟨rfl,?_⟩|apply And.intro
      · refine ⟨⟨Om, by decide, ⟨Nat.le_refl _, by rw [aK zk]; omega⟩, ⟨by decide, Nat.le_refl _⟩, rfl⟩, rfl, _, iEq ey, ay Om, x + 1, Om, Om, ?_⟩
        rw[wP he h1 h2 h3]
        have hl1:((agr ts x).2 ++ [s]).length=(agr ts x).2.length+1:=by simp
        repeat' first|exact iEq Om|exact lW _ _|(exact (by rw[hl1];exact eJ Om))|(exact congrArg (fun l=>some (ah.cells true 1 l)) (cF zk (agr ts x).2 s rfl))|exact trivial|exact rfl|refine bb ?_|refine aD ?_ ?_|refine ⟨rfl,?_⟩|apply And.intro
    · refine ⟨_, iEq ey, ay Om, x + 1, Om, Om, ?_⟩
      rw[D4 he h1 h2]
      repeat' first|exact iEq Om|exact lW _ _|exact trivial|exact rfl|exact ad _|refine bb ?_|refine aD ?_ ?_|refine ⟨rfl,?_⟩|apply And.intro
  · obtain rfl : x = 2 ^ ts.length := by rw [hpi] at h; omega
    repeat' first|exact lW _ _|exact trivial|exact ad _|refine ⟨rfl,?_⟩|apply And.intro
end
end Go.Proofs.YthcjliffpebjaaaGreat
namespace Go.Proofs.YthcjliffpebjaaaGreat
noncomputable section
attribute [local irreducible] vF
abbrev jl1(m:af)(l:List Report)(now:Int):List Value:=[nI m.up.ae,nI m.up.ab,nI m.up.aa,nI m.up.ac,nI m.down.ae,nI m.down.ab,nI m.down.aa,nI m.down.ac,slQ 4 1 (told l m now).length]
abbrev jl0(qA0:List Report)(qB0:af)(qi0:Int):Value:=.tuple #[slQ 5 1 (bh (told qA0 qB0 qi0) (told qA0 qB0 qi0).length).length,(cellV ((di (told qA0 qB0 qi0) (bI (told qA0 qB0 qi0))).getD aj))]
abbrev jl2(l:List Report)(m:af)(now:Int):Value:=.tuple #[slQ 1 1 (List.length (aB l m now).1),(cellV (aB l m now).2.1),nI (aB l m now).2.2]
def II(l:List Report)(m:af)(now:Int):Prop :=
 (ck (av l m now=0) (n1q 3 0 (.cells false 0 (l.flatMap ai)) 79 [slQ 0 2 l.length,(ao m),nI now] (.tuple #[pt 3,nI 0]) [(.cells true 0 (jl1 m l now):ah),(.cells true 8 ((told l m now).flatMap cellC):ah)] (n2q 5 3 (.cells true 0 (jl1 m l now)) 4 (.cells true 8 ((told l m now).flatMap cellC)) 85 [pt 3] (jl0 l m now) [(.cells true 1 ((bh (told l m now) (told l m now).length).flatMap aC):ah)] (true=true/\wk (.tuple #[slQ 5 1 (bh (told l m now) (told l m now).length).length,(cellV ((di (told l m now) (bI (told l m now))).getD aj)),nI 0]:Value) (rn (sg 1 [(1,5)]) 3 (jl2 l m now))/\((kbq 1 (.cells true 1 ((bh (told l m now) (told l m now).length).flatMap aC)) (.cells true 1 (List.flatMap aC (aB l m now).1)))/\True)))) (c1q 3 0 (.cells false 0 (l.flatMap ai)) 79 [slQ 0 2 l.length,(ao m),nI now] (.tuple #[.pointer none,nI (av l m now)]) ((.bool (((av l m now):Int) != 0):Value) = .bool true/\(true=true/\wk (.tuple #[.slice none 0 0,.agg #[nI 0,nI 0,nI 0,nI 0,nI 0,nI 0,nI 0,nI 0],nI (av l m now)]:Value) (rn (sg 1 []) 3 (jl2 l m now))/\(True/\True)))))
theorem Nq(l:List Report)(m:af)(now:Int):vE 18 [slQ 0 2 l.length,(ao m),nI now] (aH 0 [l.flatMap ai]) (some [])
 (.go 6 (.cas (av l m now=0) (.ans [(0,.cells false 0 (l.flatMap ai))] (.tuple #[pt 3,nI 0]) [.cells true 0 (jl1 m l now),.cells true 8 ((told l m now).flatMap cellC)] (.go 8 (.ans [(3,.cells true 0 (jl1 m l now)),(4,.cells true 8 ((told l m now).flatMap cellC))] (jl0 l m now) [.cells true 1 ((bh (told l m now) (told l m now).length).flatMap aC)] (.go 23 (.again [(1,5)]))))) (.ans [(0,.cells false 0 (l.flatMap ai))] (.tuple #[.pointer none,nI (av l m now)]) [] (.go 6 (.slot 21 (.bool true) (.go 5 (.again [])))))))
 (er ((aH 0 [l.flatMap ai]):HT).n 3 (.tuple #[slQ 1 1 (List.length (aB l m now).1),(cellV (aB l m now).2.1),nI (aB l m now).2.2]) [(true,.cells true 1 (List.flatMap aC (aB l m now).1))])=II l m now:=by kernel_rfl
end
end Go.Proofs.YthcjliffpebjaaaGreat
