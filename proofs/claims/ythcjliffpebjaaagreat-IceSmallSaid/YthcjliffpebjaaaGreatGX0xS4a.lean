/- The schemes in which printed texts are said. No condition. -/
import Derived.Test.YthcjliffpebjaaaGreatN
import Derived.IntWalk
open Go Go.K
set_option maxRecDepth 1000000
set_option maxHeartbeats 4000000
set_option linter.unusedVariables false
set_option linter.unusedSimpArgs false
namespace Go.Proofs.YthcjliffpebjaaaGreat
noncomputable section
attribute [local irreducible] vF
abbrev nI(x:Int):Value:=.int .i64 x
abbrev slQ(i k n:Nat):Value:=.slice (some ⟨i,0,some k⟩) n n
abbrev pt(i:Nat):Value:=.pointer (some ⟨i,0,none⟩)
abbrev slN(i n:Nat):Value:=.slice (some ⟨i,0,none⟩) n n
abbrev C0(o:ah):Prop:=(some o:Option ah)=some o
abbrev fk(b:Bool)(A B:Prop):Prop:=(b=true->A)/\(b=false->B)
abbrev ck(p A B:Prop):Prop:=(p->A)/\(¬ p->B)
abbrev nw(e:Int)(K:Prop):Prop:=(Value.int .i64 (IntKind.wrap .i64 e)) = .int .i64 e/\K
abbrev bw(e y:Int):Prop:=(Value.int .i64 e) = .int .i64 y
abbrev eR(v:Value):Prop:=v=v
abbrev wR(v:Value):Prop:=wk v v
abbrev krq(n:Nat)(o:ah):Prop:=(some o:Option ah)=some o/\ei n o=true
abbrev kbq(n:Nat)(o p:ah):Prop:=(some o:Option ah)=some p/\ei n p=true
abbrev ixq(e:Int)(n:Nat):Prop:=0<=e/\e<(n:Int)
abbrev lq(I0 H0 K:Prop):Prop:=true=true/\I0/\H0/\(∀_x:Nat,true=true)/\K
abbrev apq(n z k:Nat)(X Y:List Value)(K:Prop):Prop:=((n+1)*z<=2 ^ 44/\1≠0/\(n<=n/\0+n*k<=X.length)/\(1<=1/\0+1*k<=Y.length)/\(List.take (1*k) (List.drop 0 Y)).all (fun v=>dS v)=true)/\true=true/\K
abbrev c0q(L f:Nat)(a:List Value)(v:Value)(K:Prop):Prop:=True/\(∀H':Heap,H'.length=L->True->ak prog f a H' [] (Is v H'))/\K
abbrev c1q(L i:Nat)(o:ah)(f:Nat)(a:List Value)(v:Value)(K:Prop):Prop:=(((some o:Option ah)=some o)/\True)/\(∀H':Heap,H'.length=L->(H'[i]?=some o/\True)->ak prog f a H' [] (Is v H'))/\K
abbrev c2q(L i:Nat)(o:ah)(i2:Nat)(o2:ah)(f:Nat)(a:List Value)(v:Value)(K:Prop):Prop:=(((some o:Option ah)=some o)/\((some o2:Option ah)=some o2)/\True)/\(∀H':Heap,H'.length=L->(H'[i]?=some o/\H'[i2]?=some o2/\True)->ak prog f a H' [] (Is v H'))/\K
abbrev n0q(L f:Nat)(a:List Value)(v:Value)(w:List ah)(K:Prop):Prop:=True/\(∀H':Heap,H'.length=L->True->ak prog f a H' [] (Is v (H'++w)))/\K
abbrev n1q(L i:Nat)(o:ah)(f:Nat)(a:List Value)(v:Value)(w:List ah)(K:Prop):Prop:=(((some o:Option ah)=some o)/\True)/\(∀H':Heap,H'.length=L->(H'[i]?=some o/\True)->ak prog f a H' [] (Is v (H'++w)))/\K
abbrev n2q(L i:Nat)(o:ah)(i2:Nat)(o2:ah)(f:Nat)(a:List Value)(v:Value)(w:List ah)(K:Prop):Prop:=(((some o:Option ah)=some o)/\((some o2:Option ah)=some o2)/\True)/\(∀H':Heap,H'.length=L->(H'[i]?=some o/\H'[i2]?=some o2/\True)->ak prog f a H' [] (Is v (H'++w)))/\K
def dm(imp:Nat):Value->MS
 | .func (.func f) _ _=>cond (Nat.testBit imp f) none (some [])
 | .func (.yield _) _ _=>none
 |_=>some []
abbrev vE:=vF prog msk (dm 0) 100000 true 40 true
theorem bu{a b:Int}(h:a=b):(nI a)=nI b:=by rw[h]
structure Span where
 lo:Int
 hi:Int
structure Cell where
 ae:Span
 ab:Span
 aa:Span
 ac:Span
structure Ice where
 ae:Int
 ab:Int
 aa:Int
 ac:Int
structure af where
 up:Ice
 down:Ice
structure Report where
 id:Int
 source:Int
 at_:Int
 x:Int
 y:Int
 has:Int
 cell:Cell
abbrev bB(x:Ice):List Value:=[nI x.ae,nI x.ab,nI x.aa,nI x.ac]
abbrev cellC(c:Cell):List Value:=[nI c.ae.lo,nI c.ae.hi,nI c.ab.lo,nI c.ab.hi,nI c.aa.lo,nI c.aa.hi,nI c.ac.lo,nI c.ac.hi]
abbrev GE(m:af):List Value:=[nI m.up.ae,nI m.up.ab,nI m.up.aa,nI m.up.ac,nI m.down.ae,nI m.down.ab,nI m.down.aa,nI m.down.ac]
abbrev ai(r:Report):List Value:=[nI r.id,nI r.source,nI r.at_,nI r.x,nI r.y,nI r.has]++cellC r.cell
abbrev Aa(x:Ice):Value:=.agg ⟨bB x⟩
abbrev cellV(c:Cell):Value:=.agg ⟨cellC c⟩
abbrev ao(m:af):Value:=.agg ⟨GE m⟩
theorem cQ{f:FuncId}{args:List Value}{h:Hint}{v:Value}(n:Nat)(hargs:∀σ,args.map (rn σ 5)=args)(hv:cP 0 v=true)
  (hc:vF prog msk (dm 0) 100000 true n true f args ⟨0,.leaf⟩ (some []) h (fun v' _ _=>v'=v)) (H:Heap):ak prog f args H [] (Is v H) :=
 vcP vX mixed n hargs hv (by rw[gO];exact hc) H (by rw[gO];exact Nat.zero_le _)
abbrev jp7(sp:Value):Prop:=(nI 20:Value)=sp
def uW(sp:Value)(c:Cell):Prop :=
 (fk (decide ((0:Int)<=c.ae.lo)) (fk (decide ((c.ae.lo:Int)<=100)) (fk (decide ((c.ae.lo:Int)<=c.ae.hi)) (fk (!(decide ((c.ae.hi:Int)<=100))) (jp7 sp) (fk (decide ((0:Int)<=c.ab.lo)) (fk (decide ((c.ab.lo:Int)<=400)) (fk (decide ((c.ab.lo:Int)<=c.ab.hi)) (fk (!(decide ((c.ab.hi:Int)<=400))) (jp7 sp) (fk (decide ((0:Int)<=c.aa.lo)) (fk (decide ((c.aa.lo:Int)<=100)) (fk (decide ((c.aa.lo:Int)<=c.aa.hi)) (fk (!(decide ((c.aa.hi:Int)<=100))) (jp7 sp) (fk (decide ((0:Int)<=c.ac.lo)) (fk (decide ((c.ac.lo:Int)<=3)) (fk (decide ((c.ac.lo:Int)<=c.ac.hi)) (fk (!(decide ((c.ac.hi:Int)<=3))) (jp7 sp) ((nI 0:Value)=sp)) (jp7 sp)) (jp7 sp)) (jp7 sp))) (jp7 sp)) (jp7 sp)) (jp7 sp))) (jp7 sp)) (jp7 sp)) (jp7 sp))) (jp7 sp)) (jp7 sp)) (jp7 sp))
abbrev jp8(c:Cell):List Value:=[.agg #[nI c.ae.lo,nI c.ae.hi,nI c.ab.lo,nI c.ab.hi,nI c.aa.lo,nI c.aa.hi,nI c.ac.lo,nI c.ac.hi]]
abbrev jpf:Hint:=.fork (.auto) (.auto)
abbrev jp3(qn0 qn1 qn2:Nat):Hint:=.am (.go 5 (.am (.go qn0 (.am (.go qn1 (.fork (.auto) (.go qn2 (.am (.go 5 (.am (.go qn0 (.am (.go qn1 (.fork (.auto) (.go qn2 (.am (.go 5 (.am (.go qn0 (.am (.go qn1 (.fork (.auto) (.go qn2 (.am (.go 5 (.am (.go qn0 (.am (.go qn1 jpf) (.auto))) (.auto))) (.auto))))) (.auto))) (.auto))) (.auto))))) (.auto))) (.auto))) (.auto))))) (.auto))) (.auto))) (.auto)
theorem CR(sp:Value)(c:Cell):vE 27 (jp8 c) ⟨0,.leaf⟩ (some [])
 (.go 54 (jp3 15 8 30))
 (fun v _ _=>v=sp)=uW sp c:=by kernel_rfl
def w5(sp:Value)(x:Ice):Prop :=
 (fk (decide ((0:Int)<=x.ae)) (fk (!(decide ((x.ae:Int)<=100))) (jp7 sp) (fk (decide ((0:Int)<=x.ab)) (fk (!(decide ((x.ab:Int)<=400))) (jp7 sp) (fk (decide ((0:Int)<=x.aa)) (fk (!(decide ((x.aa:Int)<=100))) (jp7 sp) (fk (decide ((0:Int)<=x.ac)) (fk (!(decide ((x.ac:Int)<=3))) (jp7 sp) ((nI 0:Value)=sp)) (jp7 sp))) (jp7 sp))) (jp7 sp))) (jp7 sp))
theorem Gc(sp:Value)(x:Ice):vE 29 [.agg #[nI x.ae,nI x.ab,nI x.aa,nI x.ac]] ⟨0,.leaf⟩ (some [])
 (.go 48 (.am (.go 6 (.fork (.auto) (.go 24 (.am (.go 6 (.fork (.auto) (.go 24 (.am (.go 6 (.fork (.auto) (.go 24 (.am (.go 6 jpf) (.auto))))) (.auto))))) (.auto))))) (.auto)))
 (fun v _ _=>v=sp)=w5 sp x:=by kernel_rfl
abbrev jpb(sp:Value):Prop:=(nI 6:Value)=sp
def rR(sp:Value)(m:af):Prop :=
 (fk (decide ((0:Int)<=m.up.ae)) (fk (decide ((m.up.ae:Int)<=1000)) (fk (decide ((0:Int)<=m.down.ae)) (fk (!(decide ((m.down.ae:Int)<=1000))) (jpb sp) (fk (decide ((0:Int)<=m.up.ab)) (fk (decide ((m.up.ab:Int)<=1000)) (fk (decide ((0:Int)<=m.down.ab)) (fk (!(decide ((m.down.ab:Int)<=1000))) (jpb sp) (fk (decide ((0:Int)<=m.up.aa)) (fk (decide ((m.up.aa:Int)<=1000)) (fk (decide ((0:Int)<=m.down.aa)) (fk (!(decide ((m.down.aa:Int)<=1000))) (jpb sp) (fk (decide ((0:Int)<=m.up.ac)) (fk (decide ((m.up.ac:Int)<=1000)) (fk (decide ((0:Int)<=m.down.ac)) (fk (!(decide ((m.down.ac:Int)<=1000))) (jpb sp) ((nI 0:Value)=sp)) (jpb sp)) (jpb sp)) (jpb sp))) (jpb sp)) (jpb sp)) (jpb sp))) (jpb sp)) (jpb sp)) (jpb sp))) (jpb sp)) (jpb sp)) (jpb sp))
abbrev jpc(m:af):List Value:=[.agg #[nI m.up.ae,nI m.up.ab,nI m.up.aa,nI m.up.ac,nI m.down.ae,nI m.down.ab,nI m.down.aa,nI m.down.ac]]
theorem Bm(sp:Value)(m:af):vE 31 (jpc m) ⟨0,.leaf⟩ (some [])
 (.go 60 (jp3 8 7 18))
 (fun v _ _=>v=sp)=rR sp m:=by kernel_rfl
def En(sp:Value)(rate hours:Int):Prop :=
 (nw (rate*hours) (nw ((rate*hours)+24) (nw (((rate*hours)+24)-1) (nw (Int.tdiv (((rate*hours)+24)-1) 24) ((nI (Int.tdiv (((rate*hours)+24)-1) 24):Value)=sp)))))
theorem KN(sp:Value)(rate hours:Int):vE 149 [nI rate,nI hours] ⟨0,.leaf⟩ (some [])
 (.go 3 (.slot 7 (nI (rate*hours)) (.go 0 (.slot 8 (nI ((rate*hours)+24)) (.go 0 (.slot 9 (nI (((rate*hours)+24)-1)) (.go 0 (.slot 10 (nI (Int.tdiv (((rate*hours)+24)-1) 24)) (.auto)))))))))
 (fun v _ _=>v=sp)=En sp rate hours:=by kernel_rfl
abbrev jp4(qi0:Int)(qv0:Value):Prop:=(.bool ((qi0:Int) != 0):Value) = .bool true/\(.tuple #[.bool false,nI qi0]:Value)=qv0
abbrev jp5(sp:Value):Prop:=(.tuple #[.bool false,nI 0]:Value)=sp
def OU(sp:Value)(c:Cell)(x:Ice):Prop :=
 (∃i_0:Int,(c0q 2 27 (jp8 c) (nI i_0) (∃i_1:Int,(c0q 2 29 [.agg #[nI x.ae,nI x.ab,nI x.aa,nI x.ac]] (nI i_1) (fk ((i_0:Int) != 0) (jp4 i_0 sp) (fk ((i_1:Int) != 0) (jp4 i_1 sp) (fk (decide ((c.ae.lo:Int)<=x.ae)) (fk (!(decide ((x.ae:Int)<=c.ae.hi))) (jp5 sp) (fk (decide ((c.ab.lo:Int)<=x.ab)) (fk (!(decide ((x.ab:Int)<=c.ab.hi))) (jp5 sp) (fk (decide ((c.aa.lo:Int)<=x.aa)) (fk (!(decide ((x.aa:Int)<=c.aa.hi))) (jp5 sp) (fk (decide ((c.ac.lo:Int)<=x.ac)) (fk (!(decide ((x.ac:Int)<=c.ac.hi))) (jp5 sp) ((.tuple #[.bool true,nI 0]:Value)=sp)) (jp5 sp))) (jp5 sp))) (jp5 sp))) (jp5 sp))))))))
abbrev jpe:Hint:=.go 4 (.slot 14 (.bool true) (.auto))
abbrev jp1(qn0 qn1 qn2:Nat):Hint:=.go 5 (.bind (Int) (fun r0 => .ans [] (nI r0) [] (.bind (Int) (fun r1 => .ans [] (nI r1) [] (.go 12 (.fork jpe (.go 8 (.fork jpe (.go qn0 (.am (.go qn1 (.fork (.auto) (.go qn2 (.am (.go qn1 (.fork (.auto) (.go qn2 (.am (.go qn1 (.fork (.auto) (.go qn2 (.am (.go qn1 jpf) (.auto))))) (.auto))))) (.auto))))) (.auto)))))))))))
theorem PE(sp:Value)(c:Cell)(x:Ice):vE 35 [.agg #[nI c.ae.lo,nI c.ae.hi,nI c.ab.lo,nI c.ab.hi,nI c.aa.lo,nI c.aa.hi,nI c.ac.lo,nI c.ac.hi],.agg #[nI x.ae,nI x.ab,nI x.aa,nI x.ac]] ⟨0,.leaf⟩ (some [])
 (jp1 76 6 26)
 (fun v _ _=>v=sp)=OU sp c x:=by kernel_rfl
abbrev jp9(a:Cell):List Value:=[.agg #[nI a.ae.lo,nI a.ae.hi,nI a.ab.lo,nI a.ab.hi,nI a.aa.lo,nI a.aa.hi,nI a.ac.lo,nI a.ac.hi]]
abbrev jpa(b:Cell):List Value:=[.agg #[nI b.ae.lo,nI b.ae.hi,nI b.ab.lo,nI b.ab.hi,nI b.aa.lo,nI b.aa.hi,nI b.ac.lo,nI b.ac.hi]]
def Er(sp:Value)(a b:Cell):Prop :=
 (∃i_0:Int,(c0q 2 27 (jp9 a) (nI i_0) (∃i_1:Int,(c0q 2 27 (jpa b) (nI i_1) (fk ((i_0:Int) != 0) (jp4 i_0 sp) (fk ((i_1:Int) != 0) (jp4 i_1 sp) (fk (decide ((b.ae.lo:Int)<=a.ae.lo)) (fk (!(decide ((a.ae.hi:Int)<=b.ae.hi))) (jp5 sp) (fk (decide ((b.ab.lo:Int)<=a.ab.lo)) (fk (!(decide ((a.ab.hi:Int)<=b.ab.hi))) (jp5 sp) (fk (decide ((b.aa.lo:Int)<=a.aa.lo)) (fk (!(decide ((a.aa.hi:Int)<=b.aa.hi))) (jp5 sp) (fk (decide ((b.ac.lo:Int)<=a.ac.lo)) (fk (!(decide ((a.ac.hi:Int)<=b.ac.hi))) (jp5 sp) ((.tuple #[.bool true,nI 0]:Value)=sp)) (jp5 sp))) (jp5 sp))) (jp5 sp))) (jp5 sp))))))))
abbrev jp6(a b:Cell):List Value:=[.agg #[nI a.ae.lo,nI a.ae.hi,nI a.ab.lo,nI a.ab.hi,nI a.aa.lo,nI a.aa.hi,nI a.ac.lo,nI a.ac.hi],.agg #[nI b.ae.lo,nI b.ae.hi,nI b.ab.lo,nI b.ab.hi,nI b.aa.lo,nI b.aa.hi,nI b.ac.lo,nI b.ac.hi]]
theorem KQ(sp:Value)(a b:Cell):vE 37 (jp6 a b) ⟨0,.leaf⟩ (some [])
 (jp1 66 11 19)
 (fun v _ _=>v=sp)=Er sp a b:=by kernel_rfl
abbrev jpg(qi0:Int):Value:=.tuple #[.agg #[nI 0,nI 0,nI 0,nI 0,nI 0,nI 0,nI 0,nI 0],nI qi0]
abbrev jp0(qi0:Int)(qv0:Value):Prop:=(.bool ((qi0:Int) != 0):Value) = .bool true/\(jpg qi0)=qv0
abbrev jp2(qi0:Int)(qv0:Value):Prop:=(jpg qi0)=qv0
def Lm(sp:Value)(a b:Cell):Prop :=
 (∃i_0:Int,(c0q 3 27 (jp9 a) (nI i_0) (∃i_1:Int,(c0q 3 27 (jpa b) (nI i_1) (fk ((i_0:Int) != 0) (jp0 i_0 sp) (fk ((i_1:Int) != 0) (jp0 i_1 sp) (∃i_2:Int,bw (if (b.ae.lo:Int) > a.ae.lo then (b.ae.lo:Int) else a.ae.lo) i_2/\(∃i_3:Int,bw (if (b.ae.hi:Int)<a.ae.hi then (b.ae.hi:Int) else a.ae.hi) i_3/\(∃i_4:Int,bw (if (b.ab.lo:Int) > a.ab.lo then (b.ab.lo:Int) else a.ab.lo) i_4/\(∃i_5:Int,bw (if (b.ab.hi:Int)<a.ab.hi then (b.ab.hi:Int) else a.ab.hi) i_5/\(∃i_6:Int,bw (if (b.aa.lo:Int) > a.aa.lo then (b.aa.lo:Int) else a.aa.lo) i_6/\(∃i_7:Int,bw (if (b.aa.hi:Int)<a.aa.hi then (b.aa.hi:Int) else a.aa.hi) i_7/\(∃i_8:Int,bw (if (b.ac.lo:Int) > a.ac.lo then (b.ac.lo:Int) else a.ac.lo) i_8/\(∃i_9:Int,bw (if (b.ac.hi:Int)<a.ac.hi then (b.ac.hi:Int) else a.ac.hi) i_9/\(fk (!(decide ((i_2:Int)<=i_3))) (jp2 21 sp) (fk (!(decide ((i_4:Int)<=i_5))) (jp2 21 sp) (fk (!(decide ((i_6:Int)<=i_7))) (jp2 21 sp) (fk (!(decide ((i_8:Int)<=i_9))) (jp2 21 sp) ((.tuple #[.agg #[nI i_2,nI i_3,nI i_4,nI i_5,nI i_6,nI i_7,nI i_8,nI i_9],nI 0]:Value)=sp)))))))))))))))))))
abbrev jpd:Hint:=.go 4 (.slot 16 (.bool true) (.auto))
theorem O3(sp:Value)(a b:Cell):vE 39 (jp6 a b) ⟨0,.leaf⟩ (some [])
 (.go 5 (.bind (Int) (fun r0 => .ans [] (nI r0) [] (.bind (Int) (fun r1 => .ans [] (nI r1) [] (.go 12 (.fork jpd (.go 8 (.fork jpd (.go 65 (.bind Int (fun i_0 => .slot 13 (nI i_0) (.go 8 (.bind Int (fun i_1 => .slot 22 (nI i_1) (.go 23 (.bind Int (fun i_2 => .slot 13 (nI i_2) (.go 8 (.bind Int (fun i_3 => .slot 22 (nI i_3) (.go 23 (.bind Int (fun i_4 => .slot 13 (nI i_4) (.go 8 (.bind Int (fun i_5 => .slot 22 (nI i_5) (.go 23 (.bind Int (fun i_6 => .slot 13 (nI i_6) (.go 8 (.bind Int (fun i_7 => .slot 22 (nI i_7) (.go 39 (.fork (.auto) (.go 20 (.fork (.auto) (.go 20 (.fork (.auto) (.go 20 jpf))))))))))))))))))))))))))))))))))))))))
 (fun v _ _=>v=sp)=Lm sp a b:=by kernel_rfl
def Ln(sp:Value)(a b:Cell):Prop :=
 (∃i_0:Int,(c0q 3 27 (jp9 a) (nI i_0) (∃i_1:Int,(c0q 3 27 (jpa b) (nI i_1) (fk ((i_0:Int) != 0) (jp0 i_0 sp) (fk ((i_1:Int) != 0) (jp0 i_1 sp) (∃i_2:Int,bw (if (b.ae.lo:Int)<a.ae.lo then (b.ae.lo:Int) else a.ae.lo) i_2/\(∃i_3:Int,bw (if (b.ae.hi:Int) > a.ae.hi then (b.ae.hi:Int) else a.ae.hi) i_3/\(∃i_4:Int,bw (if (b.ab.lo:Int)<a.ab.lo then (b.ab.lo:Int) else a.ab.lo) i_4/\(∃i_5:Int,bw (if (b.ab.hi:Int) > a.ab.hi then (b.ab.hi:Int) else a.ab.hi) i_5/\(∃i_6:Int,bw (if (b.aa.lo:Int)<a.aa.lo then (b.aa.lo:Int) else a.aa.lo) i_6/\(∃i_7:Int,bw (if (b.aa.hi:Int) > a.aa.hi then (b.aa.hi:Int) else a.aa.hi) i_7/\(∃i_8:Int,bw (if (b.ac.lo:Int)<a.ac.lo then (b.ac.lo:Int) else a.ac.lo) i_8/\(∃i_9:Int,bw (if (b.ac.hi:Int) > a.ac.hi then (b.ac.hi:Int) else a.ac.hi) i_9/\(.tuple #[.agg #[nI i_2,nI i_3,nI i_4,nI i_5,nI i_6,nI i_7,nI i_8,nI i_9],nI 0]:Value)=sp))))))))))))))
theorem O4(sp:Value)(a b:Cell):vE 41 (jp6 a b) ⟨0,.leaf⟩ (some [])
 (.go 5 (.bind (Int) (fun r0 => .ans [] (nI r0) [] (.bind (Int) (fun r1 => .ans [] (nI r1) [] (.go 12 (.fork jpe (.go 8 (.fork jpe (.go 63 (.bind Int (fun i_0 => .slot 13 (nI i_0) (.go 8 (.bind Int (fun i_1 => .slot 22 (nI i_1) (.go 23 (.bind Int (fun i_2 => .slot 13 (nI i_2) (.go 8 (.bind Int (fun i_3 => .slot 22 (nI i_3) (.go 23 (.bind Int (fun i_4 => .slot 13 (nI i_4) (.go 8 (.bind Int (fun i_5 => .slot 22 (nI i_5) (.go 23 (.bind Int (fun i_6 => .slot 13 (nI i_6) (.go 8 (.bind Int (fun i_7 => .slot 22 (nI i_7) (.auto))))))))))))))))))))))))))))))))))
 (fun v _ _=>v=sp)=Ln sp a b:=by kernel_rfl
def OV(sp:Value)(c:Cell)(m:af)(hours:Int):Prop :=
 (∃i_0:Int,(c0q 3 27 (jp8 c) (nI i_0) (∃i_1:Int,(c0q 3 31 (jpc m) (nI i_1) (fk ((i_0:Int) != 0) (jp0 i_0 sp) (fk ((i_1:Int) != 0) (jp0 i_1 sp) (fk (decide ((0:Int)<=hours)) (fk (!(decide ((hours:Int)<=10000))) (jp2 6 sp) (∃i_2:Int,(c0q 13 149 [nI m.down.ae,nI hours] (nI i_2) (nw (c.ae.lo-i_2) (∃i_3:Int,bw (if (0:Int) > (c.ae.lo-i_2) then (0:Int) else (c.ae.lo-i_2)) i_3/\(∃i_4:Int,(c0q 13 149 [nI m.up.ae,nI hours] (nI i_4) (nw (c.ae.hi+i_4) (∃i_5:Int,bw (if (100:Int)<(c.ae.hi+i_4) then (100:Int) else (c.ae.hi+i_4)) i_5/\(∃i_6:Int,(c0q 13 149 [nI m.down.ab,nI hours] (nI i_6) (nw (c.ab.lo-i_6) (∃i_7:Int,bw (if (0:Int) > (c.ab.lo-i_6) then (0:Int) else (c.ab.lo-i_6)) i_7/\(∃i_8:Int,(c0q 13 149 [nI m.up.ab,nI hours] (nI i_8) (nw (c.ab.hi+i_8) (∃i_9:Int,bw (if (400:Int)<(c.ab.hi+i_8) then (400:Int) else (c.ab.hi+i_8)) i_9/\(∃fj:Int,(c0q 13 149 [nI m.down.aa,nI hours] (nI fj) (nw (c.aa.lo-fj) (∃gn:Int,bw (if (0:Int) > (c.aa.lo-fj) then (0:Int) else (c.aa.lo-fj)) gn/\(∃eZ:Int,(c0q 13 149 [nI m.up.aa,nI hours] (nI eZ) (nw (c.aa.hi+eZ) (∃gk:Int,bw (if (100:Int)<(c.aa.hi+eZ) then (100:Int) else (c.aa.hi+eZ)) gk/\(∃eL:Int,(c0q 13 149 [nI m.down.ac,nI hours] (nI eL) (nw (c.ac.lo-eL) (∃gW:Int,bw (if (0:Int) > (c.ac.lo-eL) then (0:Int) else (c.ac.lo-eL)) gW/\(∃lJ:Int,(c0q 13 149 [nI m.up.ac,nI hours] (nI lJ) (nw (c.ac.hi+lJ) (∃uj:Int,bw (if (3:Int)<(c.ac.hi+lJ) then (3:Int) else (c.ac.hi+lJ)) uj/\(.tuple #[.agg #[nI i_3,nI i_5,nI i_7,nI i_9,nI gn,nI gk,nI gW,nI uj],nI 0]:Value)=sp))))))))))))))))))))))))))))))))) (jp2 6 sp))))))))
theorem PF(sp:Value)(c:Cell)(m:af)(hours:Int):vE 43 [.agg #[nI c.ae.lo,nI c.ae.hi,nI c.ab.lo,nI c.ab.hi,nI c.aa.lo,nI c.aa.hi,nI c.ac.lo,nI c.ac.hi],.agg #[nI m.up.ae,nI m.up.ab,nI m.up.aa,nI m.up.ac,nI m.down.ae,nI m.down.ab,nI m.down.aa,nI m.down.ac],nI hours] ⟨0,.leaf⟩ (some [])
 (.go 5 (.bind (Int) (fun r0 => .ans [] (nI r0) [] (.bind (Int) (fun r1 => .ans [] (nI r1) [] (.go 12 (.fork jpd (.go 8 (.fork jpd (.go 15 (.am (.go 5 (.fork (.auto) (.go 85 (.bind (Int) (fun r2 => .ans [] (nI r2) [] (.go 0 (.slot 16 (nI (c.ae.lo-r2)) (.go 0 (.bind Int (fun i_0 => .slot 17 (nI i_0) (.bind (Int) (fun r4 => .ans [] (nI r4) [] (.go 0 (.slot 27 (nI (c.ae.hi+r4)) (.go 5 (.bind Int (fun i_1 => .slot 31 (nI i_1) (.go 31 (.bind (Int) (fun r6 => .ans [] (nI r6) [] (.go 0 (.slot 16 (nI (c.ab.lo-r6)) (.go 0 (.bind Int (fun i_2 => .slot 17 (nI i_2) (.bind (Int) (fun r8 => .ans [] (nI r8) [] (.go 0 (.slot 27 (nI (c.ab.hi+r8)) (.go 5 (.bind Int (fun i_3 => .slot 31 (nI i_3) (.go 31 (.bind (Int) (fun r10 => .ans [] (nI r10) [] (.go 0 (.slot 16 (nI (c.aa.lo-r10)) (.go 0 (.bind Int (fun i_4 => .slot 17 (nI i_4) (.bind (Int) (fun r12 => .ans [] (nI r12) [] (.go 0 (.slot 27 (nI (c.aa.hi+r12)) (.go 5 (.bind Int (fun i_5 => .slot 31 (nI i_5) (.go 31 (.bind (Int) (fun r14 => .ans [] (nI r14) [] (.go 0 (.slot 16 (nI (c.ac.lo-r14)) (.go 0 (.bind Int (fun i_6 => .slot 17 (nI i_6) (.bind (Int) (fun r16 => .ans [] (nI r16) [] (.go 0 (.slot 27 (nI (c.ac.hi+r16)) (.go 5 (.bind Int (fun i_7 => .slot 31 (nI i_7) (.auto))))))))))))))))))))))))))))))))))))))))))))))))))))))))))))))) (.auto))))))))))))
 (fun v _ _=>v=sp)=OV sp c m hours:=by kernel_rfl
def M8(sp:Value)  : Prop :=
 (.agg #[nI 0,nI 100,nI 0,nI 400,nI 0,nI 100,nI 0,nI 3]:Value)=sp
theorem Np (sp : Value)  : vE 33 [] ⟨0, .leaf⟩ (some [])
  (.auto)
  (fun v _ _ => v = sp) = M8 sp  := by kernel_rfl
def bz(s:Span)(m:Int):Prop:=0<=s.lo/\s.lo<=m/\s.lo<=s.hi/\s.hi<=m
def cw(c:Cell):Prop:=bz c.ae 100/\bz c.ab 400/\bz c.aa 100/\bz c.ac 3
def jD(x:Ice):Prop:=(0<=x.ae/\x.ae<=100)/\(0<=x.ab/\x.ab<=400)/\(0<=x.aa/\x.aa<=100)/\0<=x.ac/\x.ac<=3
def rt(x:Ice):Prop:=(0<=x.ae/\x.ae<=1000)/\(0<=x.ab/\x.ab<=1000)/\(0<=x.aa/\x.aa<=1000)/\0<=x.ac/\x.ac<=1000
def eS(m:af):Prop:=rt m.up/\rt m.down
instance (s:Span) (m:Int):Decidable (bz s m):=by unfold bz;infer_instance
instance (c:Cell):Decidable (cw c):=by unfold cw;infer_instance
instance (x:Ice):Decidable (jD x):=by unfold jD;infer_instance
instance (x:Ice):Decidable (rt x):=by unfold rt;infer_instance
instance (m:af):Decidable (eS m):=by unfold eS;infer_instance
def ax(c:Cell):Int:=if cw c then 0 else 20
def bF(x:Ice):Int:=if jD x then 0 else 20
def aM(m:af):Int:=if eS m then 0 else 6
def aj:Cell:=⟨⟨0,0⟩,⟨0,0⟩,⟨0,0⟩,⟨0,0⟩⟩
def pU(s:Span)(n:Int):Prop:=s.lo<=n/\n<=s.hi
def oG(c:Cell)(x:Ice):Prop:=pU c.ae x.ae/\pU c.ab x.ab/\pU c.aa x.aa/\pU c.ac x.ac
def pO(s t:Span):Prop:=t.lo<=s.lo/\s.hi<=t.hi
def oD(a b:Cell):Prop:=pO a.ae b.ae/\pO a.ab b.ab/\pO a.aa b.aa/\pO a.ac b.ac
def okC(c:Cell):Prop:=c.ae.lo<=c.ae.hi/\c.ab.lo<=c.ab.hi/\c.aa.lo<=c.aa.hi/\c.ac.lo<=c.ac.hi
instance (s:Span) (n:Int):Decidable (pU s n):=by unfold pU;infer_instance
instance (c:Cell) (x:Ice):Decidable (oG c x):=by unfold oG;infer_instance
instance (s t:Span):Decidable (pO s t):=by unfold pO;infer_instance
instance (a b:Cell):Decidable (oD a b):=by unfold oD;infer_instance
instance (c:Cell):Decidable (okC c):=by unfold okC;infer_instance
def fS(s t:Span):Span:=⟨max s.lo t.lo,min s.hi t.hi⟩
def bK(a b:Cell):Cell:=⟨fS a.ae b.ae,fS a.ab b.ab,fS a.aa b.aa,fS a.ac b.ac⟩
def Aj(s t:Span):Span:=⟨min s.lo t.lo,max s.hi t.hi⟩
def wx(a b:Cell):Cell:=⟨Aj a.ae b.ae,Aj a.ab b.ab,Aj a.aa b.aa,Aj a.ac b.ac⟩
def chg(rate hours:Int):Int:=(rate*hours+23) / 24
def CB(s:Span)(u d h m:Int):Span:=⟨max (s.lo-chg d h) 0,min (s.hi+chg u h) m⟩
def nu(c:Cell)(m:af)(h:Int):Cell:=⟨CB c.ae m.up.ae m.down.ae h 100,CB c.ab m.up.ab m.down.ab h 400,CB c.aa m.up.aa m.down.aa h 100,CB c.ac m.up.ac m.down.ac h 3⟩
def aO:Cell:=⟨⟨0,100⟩,⟨0,400⟩,⟨0,100⟩,⟨0,3⟩⟩
def cX(e f:Int):Int:=if e=0 then f else e
def vv(c:Cell)(x:Ice):Bool×Int:=if cX (ax c) (bF x)=0 then (decide (oG c x),0) else (false,cX (ax c) (bF x))
def ia(a b:Cell):Bool×Int:=if cX (ax a) (ax b)=0 then (decide (oD a b),0) else (false,cX (ax a) (ax b))
def jy(a b:Cell):Cell×Int:=if cX (ax a) (ax b)=0 then (if okC (bK a b) then (bK a b,0) else (aj,21)) else (aj,cX (ax a) (ax b))
def nG(a b:Cell):Cell×Int:=if cX (ax a) (ax b)=0 then (wx a b,0) else (aj,cX (ax a) (ax b))
def sj(c:Cell)(m:af)(h:Int):Cell×Int :=
 if cX (ax c) (aM m)=0 then (if 0<=h/\h<=10000 then (nu c m h,0) else (aj,6)) else (aj,cX (ax c) (aM m))
theorem w64{n:Int}(h : -9223372036854775808<=n/\n<=9223372036854775807):IntKind.wrap .i64 n=n:=IntWalk.i64_in n h
theorem v64{n:Int}(h : -9223372036854775808<=n/\n<=9223372036854775807):(nI (IntKind.wrap .i64 n))=nI n:=by rw[w64 h]
theorem GR{a b A B:Int}(h1:0<=a)(h2:a<=A)(h3:0<=b)(h4:b<=B):0<=a*b/\a*b<=A*B :=
 ⟨Int.mul_nonneg h1 h3,Int.mul_le_mul h2 h4 h3 (Int.le_trans h1 h2)⟩
theorem rH{c:Cell}(h:cw c):ax c=0:=if_pos h
theorem rI{c:Cell}(h:¬ cw c):ax c=20:=if_neg h
theorem uE{c:Ice}(h:jD c):bF c=0:=if_pos h
theorem uF{c:Ice}(h:¬ jD c):bF c=20:=if_neg h
theorem p5{c:af}(h:eS c):aM c=0:=if_pos h
theorem p6{c:af}(h:¬ eS c):aM c=6:=if_neg h
theorem fW{c:Cell}:ax c=0 ↔ cw c:=by unfold ax;split <;> simp_all
theorem lc{c:Ice}:bF c=0 ↔ jD c:=by unfold bF;split <;> simp_all
theorem dc{c:af}:aM c=0 ↔ eS c:=by unfold aM;split <;> simp_all
theorem dM(c:Cell)(H:Heap):ak prog F.nD [cellV c] H [] (Is (nI (ax c)) H):=by
 refine cQ 40 (fun _=>rfl) rfl (Eq.mpr (CR _ c) ?_) H
 delta uW jp7 nI fk
 simp only[decide_eq_true_eq,decide_eq_false_iff_not,Bool.not_eq_true',Bool.not_eq_false']
 repeat' (first|apply And.intro|intro _)
 all_goals first
  |exact bu (rI (by unfold cw bz;omega)).symm
  |exact bu (rH (by unfold cw bz;omega)).symm
theorem qL(x:Ice)(H:Heap):ak prog F.pR [Aa x] H [] (Is (nI (bF x)) H):=by
 refine cQ 40 (fun _=>rfl) rfl (Eq.mpr (Gc _ x) ?_) H
 delta w5 jp7 nI fk
 simp only[decide_eq_true_eq,decide_eq_false_iff_not,Bool.not_eq_true',Bool.not_eq_false']
 repeat' (first|apply And.intro|intro _)
 all_goals first
  |exact bu (uF (by unfold jD;omega)).symm
  |exact bu (uE (by unfold jD;omega)).symm
theorem eW(m:af)(H:Heap):ak prog F.uf [ao m] H [] (Is (nI (aM m)) H):=by
 refine cQ 40 (fun _=>rfl) rfl (Eq.mpr (Bm _ m) ?_) H
 delta rR jpb nI fk
 simp only[decide_eq_true_eq,decide_eq_false_iff_not,Bool.not_eq_true',Bool.not_eq_false']
 repeat' (first|apply And.intro|intro _)
 all_goals first
  |exact bu (p6 (by unfold eS rt;omega)).symm
  |exact bu (p5 (by unfold eS rt;omega)).symm
theorem dJ(rate hours:Int)(h1:0<=rate/\rate<=1000)(h2:0<=hours/\hours<=10000)(H:Heap):ak prog F.Cg [nI rate,nI hours] H [] (Is (nI (chg rate hours)) H):=by
 refine cQ 40 (fun _=>rfl) rfl (Eq.mpr (KN _ rate hours) ?_) H
 have hb:=GR h1.1 h1.2 h2.1 h2.2
 have ht:Int.tdiv (rate*hours+24-1) 24=(rate*hours+24-1) / 24:=Int.tdiv_eq_ediv_of_nonneg Om
 delta En nI nw
 refine ⟨v64 Om,v64 Om,v64 Om,v64 (by rw[ht];omega),bu ?_⟩
 rw[ht];unfold chg;congr 1;omega
theorem dL{e f:Int}(h:¬ e=0):cX e f=e:=if_neg h
theorem bi{e f:Int}(h:e=0):cX e f=f:=if_pos h
theorem vC{b:Bool}(h:b=true):(Value.bool b) = .bool true:=by rw[h]
theorem vne{e:Int}(h:¬ e=0):(Value.bool (e != 0)) = .bool true:=vC (by simp[h])
theorem dR{b:Bool}{e:Int}{r:Bool×Int}(h:r=(b,e)):(Value.tuple #[.bool b,nI e]) = .tuple #[.bool r.1,nI r.2]:=by rw[h]
theorem ej{a b c d e f g i n:Int}{r:Cell×Int}(h:r=(⟨⟨a,b⟩,⟨c,d⟩,⟨e,f⟩,⟨g,i⟩⟩,n)) :
  (Value.tuple #[.agg #[nI a,nI b,nI c,nI d,nI e,nI f,nI g,nI i],nI n]) = .tuple #[cellV r.1,nI r.2]:=by rw[h]
theorem HW{c:Cell}{x:Ice}(h:¬ ax c=0):vv c x=(false,ax c):=by unfold vv;rw[dL h,if_neg h]
theorem HV{c:Cell}{x:Ice}(h:ax c=0)(k:¬ bF x=0):vv c x=(false,bF x):=by unfold vv;rw[bi h,if_neg k]
theorem yf{c:Cell}{x:Ice}{b:Bool}(h:ax c=0)(k:bF x=0)(hb:decide (oG c x)=b):vv c x=(b,0):=by unfold vv;rw[bi h,if_pos k,hb]
theorem wB{a b:Cell}(h:¬ ax a=0):ia a b=(false,ax a):=by unfold ia;rw[dL h,if_neg h]
theorem wA{a b:Cell}(h:ax a=0)(k:¬ ax b=0):ia a b=(false,ax b):=by unfold ia;rw[bi h,if_neg k]
theorem mO{a b:Cell}{r:Bool}(h:ax a=0)(k:ax b=0)(hb:decide (oD a b)=r):ia a b=(r,0):=by unfold ia;rw[bi h,if_pos k,hb]
theorem DI{a b:Cell}(h:¬ ax a=0):jy a b=(aj,ax a):=by unfold jy;rw[dL h,if_neg h]
theorem DH{a b:Cell}(h:ax a=0)(k:¬ ax b=0):jy a b=(aj,ax b):=by unfold jy;rw[bi h,if_neg k]
theorem DG{a b:Cell}(h:ax a=0)(k:ax b=0)(hb:¬ okC (bK a b)):jy a b=(aj,21):=by unfold jy;rw[bi h,if_pos k,if_neg hb]
theorem DF{a b:Cell}(h:ax a=0)(k:ax b=0)(hb:okC (bK a b)):jy a b=(bK a b,0):=by unfold jy;rw[bi h,if_pos k,if_pos hb]
theorem DO{a b:Cell}(h:¬ ax a=0):nG a b=(aj,ax a):=by unfold nG;rw[dL h,if_neg h]
theorem DN{a b:Cell}(h:ax a=0)(k:¬ ax b=0):nG a b=(aj,ax b):=by unfold nG;rw[bi h,if_neg k]
theorem DM{a b:Cell}(h:ax a=0)(k:ax b=0):nG a b=(wx a b,0):=by unfold nG;rw[bi h,if_pos k]
theorem H5{c:Cell}{m:af}{h:Int}(k:¬ ax c=0):sj c m h=(aj,ax c):=by unfold sj;rw[dL k,if_neg k]
theorem HZ{c:Cell}{m:af}{h:Int}(k:ax c=0)(l:¬ aM m=0):sj c m h=(aj,aM m):=by unfold sj;rw[bi k,if_neg l]
theorem yj{c:Cell}{m:af}{h:Int}(k:ax c=0)(l:aM m=0)(q:¬ (0<=h/\h<=10000)):sj c m h=(aj,6):=by unfold sj;rw[bi k,if_pos l,if_neg q]
theorem HY{c:Cell}{m:af}{h:Int}(k:ax c=0)(l:aM m=0)(q:0<=h/\h<=10000):sj c m h=(nu c m h,0):=by unfold sj;rw[bi k,if_pos l,if_pos q]
theorem Pn(c:Cell)(x:Ice)(H:Heap):ak prog F.J8 [cellV c,Aa x] H [] (Is (.tuple #[.bool (vv c x).1,nI (vv c x).2]) H):=by
 refine cQ 40 (fun _=>rfl) rfl (Eq.mpr (PE _ c x) ?_) H
 delta OU jp8 jp4 jp5 nI fk c0q
 refine ⟨_,trivial,fun H' _ _=>dM c H',_,trivial,fun H' _ _=>qL x H',?_⟩
 simp only[decide_eq_true_eq,decide_eq_false_iff_not,Bool.not_eq_true',Bool.not_eq_false',bne_iff_ne,ne_eq,bne_eq_false_iff_eq]
 repeat' (first|apply And.intro|intro _)
 all_goals first
  |exact vne (by assumption)
  |exact dR (HW (by assumption))
  |exact dR (HV (by assumption) (by assumption))
  |exact dR (yf (by assumption) (by assumption) (decide_eq_false (by unfold oG pU;omega)))
  |exact dR (yf (by assumption) (by assumption) (decide_eq_true (by unfold oG pU;omega)))
theorem Jx(a b:Cell)(H:Heap):ak prog F.Ch [cellV a,cellV b] H [] (Is (.tuple #[.bool (ia a b).1,nI (ia a b).2]) H):=by
 refine cQ 40 (fun _=>rfl) rfl (Eq.mpr (KQ _ a b) ?_) H
 delta Er jp9 jpa jp4 jp5 nI fk c0q
 refine ⟨_,trivial,fun H' _ _=>dM a H',_,trivial,fun H' _ _=>dM b H',?_⟩
 simp only[decide_eq_true_eq,decide_eq_false_iff_not,Bool.not_eq_true',Bool.not_eq_false',bne_iff_ne,ne_eq,bne_eq_false_iff_eq]
 repeat' (first|apply And.intro|intro _)
 all_goals first
  |exact vne (by assumption)
  |exact dR (wB (by assumption))
  |exact dR (wA (by assumption) (by assumption))
  |exact dR (mO (by assumption) (by assumption) (decide_eq_false (by unfold oD pO;omega)))
  |exact dR (mO (by assumption) (by assumption) (decide_eq_true (by unfold oD pO;omega)))
theorem NZ(a b:Cell)(H:Heap):ak prog F.Hx [cellV a,cellV b] H [] (Is (.tuple #[cellV (jy a b).1,nI (jy a b).2]) H):=by
 refine cQ 40 (fun _=>rfl) rfl (Eq.mpr (O3 _ a b) ?_) H
 delta Lm jp9 jpa jp0 jp2 jpg nI fk bw c0q
 refine ⟨_,trivial,fun H' _ _=>dM a H',_,trivial,fun H' _ _=>dM b H',?_⟩
 simp only[decide_eq_true_eq,decide_eq_false_iff_not,Bool.not_eq_true',Bool.not_eq_false',bne_iff_ne,ne_eq,bne_eq_false_iff_eq]
 refine ⟨fun h=>⟨vne h,ej (DI h)⟩,fun h0=>⟨fun h=>⟨vne h,ej (DH h0 h)⟩,fun h1 =>?_⟩⟩
 refine ⟨max a.ae.lo b.ae.lo,bu (by split <;> omega),min a.ae.hi b.ae.hi,bu (by split <;> omega),max a.ab.lo b.ab.lo,bu (by split <;> omega),min a.ab.hi b.ab.hi,bu (by split <;> omega),
  max a.aa.lo b.aa.lo,bu (by split <;> omega),min a.aa.hi b.aa.hi,bu (by split <;> omega),max a.ac.lo b.ac.lo,bu (by split <;> omega),min a.ac.hi b.ac.hi,bu (by split <;> omega),?_⟩
 repeat' (first|apply And.intro|intro _)
 all_goals first
  |exact ej (DG h0 h1 (by unfold okC bK fS;simp only;omega))
  |exact ej (DF h0 h1 (by unfold okC bK fS;simp only;omega))
theorem N0(a b:Cell)(H:Heap):ak prog F.Hy [cellV a,cellV b] H [] (Is (.tuple #[cellV (nG a b).1,nI (nG a b).2]) H):=by
 refine cQ 40 (fun _=>rfl) rfl (Eq.mpr (O4 _ a b) ?_) H
 delta Ln jp9 jpa jp0 jpg nI fk bw c0q
 refine ⟨_,trivial,fun H' _ _=>dM a H',_,trivial,fun H' _ _=>dM b H',?_⟩
 simp only[decide_eq_true_eq,decide_eq_false_iff_not,Bool.not_eq_true',Bool.not_eq_false',bne_iff_ne,ne_eq,bne_eq_false_iff_eq]
 refine ⟨fun h=>⟨vne h,ej (DO h)⟩,fun h0=>⟨fun h=>⟨vne h,ej (DN h0 h)⟩,fun h1 =>?_⟩⟩
 refine ⟨min a.ae.lo b.ae.lo,bu (by split <;> omega),max a.ae.hi b.ae.hi,bu (by split <;> omega),min a.ab.lo b.ab.lo,bu (by split <;> omega),max a.ab.hi b.ab.hi,bu (by split <;> omega),
  min a.aa.lo b.aa.lo,bu (by split <;> omega),max a.aa.hi b.aa.hi,bu (by split <;> omega),min a.ac.lo b.ac.lo,bu (by split <;> omega),max a.ac.hi b.ac.hi,bu (by split <;> omega),?_⟩
 exact ej (DM h0 h1)
theorem cx{r h:Int}(h1:0<=r/\r<=1000)(h2:0<=h/\h<=10000):0<=chg r h/\chg r h<=500000:=by
 have:=GR h1.1 h1.2 h2.1 h2.2
 unfold chg;omega
theorem Po(c:Cell)(m:af)(h:Int)(H:Heap):ak prog F.J9 [cellV c,ao m,nI h] H [] (Is (.tuple #[cellV (sj c m h).1,nI (sj c m h).2]) H):=by
 refine cQ 40 (fun _=>rfl) rfl (Eq.mpr (PF _ c m h) ?_) H
 delta OV jp8 jpc jp0 jp2 jpg nI fk nw bw c0q
 refine ⟨_,trivial,fun H' _ _=>dM c H',_,trivial,fun H' _ _=>eW m H',?_⟩
 simp only[decide_eq_true_eq,decide_eq_false_iff_not,Bool.not_eq_true',Bool.not_eq_false',bne_iff_ne,ne_eq,bne_eq_false_iff_eq]
 refine ⟨fun h=>⟨vne h,ej (H5 h)⟩,fun h0=>⟨fun h=>⟨vne h,ej (HZ h0 h)⟩,fun h1=>⟨fun h2=>⟨fun h3=>ej (yj h0 h1 Om),fun h3 =>?_⟩,fun h2=>ej (yj h0 h1 Om)⟩⟩⟩
 obtain ⟨⟨u1,u2,u3,u4⟩,d1,d2,d3,d4⟩:=dc.1 h1
 obtain ⟨c1,c2,c3,c4⟩:=fW.1 h0
 unfold bz at c1 c2 c3 c4
 have bd:=fun (r:Int) (hr:0<=r/\r<=1000)=>cx hr ⟨h2,h3⟩
 have b1:=bd _ u1;have b2:=bd _ u2;have b3:=bd _ u3;have b4:=bd _ u4
 have e1:=bd _ d1;have e2:=bd _ d2;have e3:=bd _ d3;have e4:=bd _ d4
 refine ⟨_,trivial,fun H' _ _=>dJ _ _ d1 ⟨h2,h3⟩ H',v64 Om,max (c.ae.lo-chg m.down.ae h) 0,bu (by split <;> omega),_,trivial,fun H' _ _=>dJ _ _ u1 ⟨h2,h3⟩ H',v64 Om,min (c.ae.hi+chg m.up.ae h) 100,bu (by split <;> omega),
  _,trivial,fun H' _ _=>dJ _ _ d2 ⟨h2,h3⟩ H',v64 Om,max (c.ab.lo-chg m.down.ab h) 0,bu (by split <;> omega),_,trivial,fun H' _ _=>dJ _ _ u2 ⟨h2,h3⟩ H',v64 Om,min (c.ab.hi+chg m.up.ab h) 400,bu (by split <;> omega),
  _,trivial,fun H' _ _=>dJ _ _ d3 ⟨h2,h3⟩ H',v64 Om,max (c.aa.lo-chg m.down.aa h) 0,bu (by split <;> omega),_,trivial,fun H' _ _=>dJ _ _ u3 ⟨h2,h3⟩ H',v64 Om,min (c.aa.hi+chg m.up.aa h) 100,bu (by split <;> omega),
  _,trivial,fun H' _ _=>dJ _ _ d4 ⟨h2,h3⟩ H',v64 Om,max (c.ac.lo-chg m.down.ac h) 0,bu (by split <;> omega),_,trivial,fun H' _ _=>dJ _ _ u4 ⟨h2,h3⟩ H',v64 Om,min (c.ac.hi+chg m.up.ac h) 3,bu (by split <;> omega),?_⟩
 exact ej (HY h0 h1 ⟨h2,h3⟩)
theorem Hd(H:Heap):ak prog F.FA [] H [] (Is (cellV aO) H):=cQ 40 (fun _=>rfl) rfl (Eq.mpr (Np _) rfl) H
def ar:Ice:=⟨0,0,0,0⟩
def ag:Report:=⟨0,0,0,0,0,0,aj⟩
def errs{α:Type}(e:α->Int):List α->Int
 | [] =>0
 |x :: r=>if e x=0 then errs e r else e x
abbrev jqk(sp:Value):Prop:=(nI 20:Value)=sp
abbrev tV:Value:=nI 0
def rM(sp:Value)(c:Cell):Prop :=
 (fk (decide ((c.ae.lo:Int)<0)) (jqk sp) (fk (decide ((100:Int)<c.ae.hi)) (jqk sp) (fk (decide ((c.ae.hi:Int)<c.ae.lo)) (jqk sp) (fk (decide ((c.ab.lo:Int)<0)) (jqk sp) (fk (decide ((400:Int)<c.ab.hi)) (jqk sp) (fk (decide ((c.ab.hi:Int)<c.ab.lo)) (jqk sp) (fk (decide ((c.aa.lo:Int)<0)) (jqk sp) (fk (decide ((100:Int)<c.aa.hi)) (jqk sp) (fk (decide ((c.aa.hi:Int)<c.aa.lo)) (jqk sp) (fk (decide ((c.ac.lo:Int)<0)) (jqk sp) (fk (decide ((3:Int)<c.ac.hi)) (jqk sp) (fk (decide ((c.ac.hi:Int)<c.ac.lo)) (jqk sp) (tV=sp)))))))))))))
abbrev jql(c:Cell):List Value:=[.agg #[nI c.ae.lo,nI c.ae.hi,nI c.ab.lo,nI c.ab.hi,nI c.aa.lo,nI c.aa.hi,nI c.ac.lo,nI c.ac.hi]]
theorem Bh(sp:Value)(c:Cell):vE 28 (jql c) ⟨0,.leaf⟩ (some [])
 (.go 25 (.am (.auto) (.go 13 (.am (.auto) (.go 6 (.fork (.auto) (.go 28 (.am (.auto) (.go 18 (.am (.auto) (.go 6 (.fork (.auto) (.go 31 (.am (.auto) (.go 15 (.am (.auto) (.go 6 (.fork (.auto) (.go 31 (.am (.auto) (.go 18 (.am (.auto) (.go 6 (.fork (.auto) (.auto)))))))))))))))))))))))))
 (fun v _ _=>v=sp)=rM sp c:=by kernel_rfl
def uR(sp:Value)(x:Ice):Prop :=
 (fk (decide ((x.ae:Int)<0)) (jqk sp) (fk (decide ((100:Int)<x.ae)) (jqk sp) (fk (decide ((x.ab:Int)<0)) (jqk sp) (fk (decide ((400:Int)<x.ab)) (jqk sp) (fk (decide ((x.aa:Int)<0)) (jqk sp) (fk (decide ((100:Int)<x.aa)) (jqk sp) (fk (decide ((x.ac:Int)<0)) (jqk sp) (fk (decide ((3:Int)<x.ac)) (jqk sp) (tV=sp)))))))))
abbrev jqe(qn0 qn1 qn2 qn3 qn4 qn5:Nat):Hint:=.am (.auto) (.go qn0 (.fork (.auto) (.go qn1 (.am (.auto) (.go qn2 (.fork (.auto) (.go qn3 (.am (.auto) (.go qn4 (.fork (.auto) (.go qn3 (.am (.auto) (.go qn5 (.fork (.auto) (.auto)))))))))))))))
theorem CK(sp:Value)(x:Ice):vE 30 [.agg #[nI x.ae,nI x.ab,nI x.aa,nI x.ac]] ⟨0,.leaf⟩ (some [])
 (.go 19 (jqe 22 22 30 25 30 33))
 (fun v _ _=>v=sp)=uR sp x:=by kernel_rfl
abbrev jqw(sp:Value):Prop:=(nI 6:Value)=sp
def qp(sp:Value)(m:af):Prop :=
 (fk (decide ((m.up.ae:Int)<0)) (jqw sp) (fk (decide ((1000:Int)<m.up.ae)) (jqw sp) (fk (decide ((m.down.ae:Int)<0)) (jqw sp) (fk (decide ((1000:Int)<m.down.ae)) (jqw sp) (fk (decide ((m.up.ab:Int)<0)) (jqw sp) (fk (decide ((1000:Int)<m.up.ab)) (jqw sp) (fk (decide ((m.down.ab:Int)<0)) (jqw sp) (fk (decide ((1000:Int)<m.down.ab)) (jqw sp) (fk (decide ((m.up.aa:Int)<0)) (jqw sp) (fk (decide ((1000:Int)<m.up.aa)) (jqw sp) (fk (decide ((m.down.aa:Int)<0)) (jqw sp) (fk (decide ((1000:Int)<m.down.aa)) (jqw sp) (fk (decide ((m.up.ac:Int)<0)) (jqw sp) (fk (decide ((1000:Int)<m.up.ac)) (jqw sp) (fk (decide ((m.down.ac:Int)<0)) (jqw sp) (fk (decide ((1000:Int)<m.down.ac)) (jqw sp) (tV=sp)))))))))))))))))
abbrev jqx(m:af):List Value:=[.agg #[nI m.up.ae,nI m.up.ab,nI m.up.aa,nI m.up.ac,nI m.down.ae,nI m.down.ab,nI m.down.aa,nI m.down.ac]]
theorem yw(sp:Value)(m:af):vE 32 (jqx m) ⟨0,.leaf⟩ (some [])
 (.go 36 (.am (.auto) (.go 3 (.am (.auto) (.go 3 (.am (.auto) (.go 2 (.fork (.auto) (.go 42 (.am (.auto) (.go 3 (.am (.auto) (.go 3 (.am (.auto) (.go 2 (.fork (.auto) (.go 48 (.am (.auto) (.go 3 (.am (.auto) (.go 3 (.am (.auto) (.go 2 (.fork (.auto) (.go 48 (.am (.auto) (.go 3 (.am (.auto) (.go 3 (.am (.auto) (.go 2 (.fork (.auto) (.auto)))))))))))))))))))))))))))))))))
 (fun v _ _=>v=sp)=qp sp m:=by kernel_rfl
abbrev vj(rate hours:Int):=Int.tdiv (rate*hours) 24
def A7(sp:Value)(rate hours:Int):Prop :=
 (nw (rate*hours) (nw (vj rate hours) (nw ((vj rate hours)*24) (nw (rate*hours) (fk (decide ((((vj rate hours)*24):Int)<(rate*hours))) (nw ((vj rate hours)+1) ((nI ((vj rate hours)+1):Value)=sp)) ((nI (vj rate hours):Value)=sp))))))
theorem IY(sp:Value)(rate hours:Int):vE 117 [nI rate,nI hours] ⟨0,.leaf⟩ (some [])
 (.go 3 (.slot 8 (nI (rate*hours)) (.go 0 (.slot 9 (nI (vj rate hours)) (.go 2 (.slot 11 (nI ((vj rate hours)*24)) (.go 2 (.slot 14 (nI (rate*hours)) (.go 0 (.fork (.go 1 (.slot 17 (nI ((vj rate hours)+1)) (.auto))) (.auto)))))))))))
 (fun v _ _=>v=sp)=A7 sp rate hours:=by kernel_rfl
abbrev jqg(sp:Value):Prop:=(.tuple #[.bool false,nI 0]:Value)=sp
def Lg(sp:Value)(c:Cell)(x:Ice):Prop :=
 (∃i_0:Int,(c0q 2 28 (jql c) (nI i_0) (fk ((i_0:Int) != 0) ((.tuple #[.bool false,nI i_0]:Value)=sp) (∃i_1:Int,(c0q 2 30 [.agg #[nI x.ae,nI x.ab,nI x.aa,nI x.ac]] (nI i_1) (fk ((i_1:Int) != 0) ((.tuple #[.bool false,nI i_1]:Value)=sp) (fk (decide ((x.ae:Int)<c.ae.lo)) (jqg sp) (fk (decide ((c.ae.hi:Int)<x.ae)) (jqg sp) (fk (decide ((x.ab:Int)<c.ab.lo)) (jqg sp) (fk (decide ((c.ab.hi:Int)<x.ab)) (jqg sp) (fk (decide ((x.aa:Int)<c.aa.lo)) (jqg sp) (fk (decide ((c.aa.hi:Int)<x.aa)) (jqg sp) (fk (decide ((x.ac:Int)<c.ac.lo)) (jqg sp) (fk (decide ((c.ac.hi:Int)<x.ac)) (jqg sp) ((.tuple #[.bool true,nI 0]:Value)=sp)))))))))))))))
theorem OX(sp:Value)(c:Cell)(x:Ice):vE 36 [.agg #[nI c.ae.lo,nI c.ae.hi,nI c.ab.lo,nI c.ab.hi,nI c.aa.lo,nI c.aa.hi,nI c.ac.lo,nI c.ac.hi],.agg #[nI x.ae,nI x.ab,nI x.aa,nI x.ac]] ⟨0,.leaf⟩ (some [])
 (.go 4 (.bind (Int) (fun r0 => .ans [] (nI r0) [] (.go 2 (.fork (.auto) (.go 0 (.bind (Int) (fun r1 => .ans [] (nI r1) [] (.go 2 (.fork (.auto) (.go 36 (jqe 26 38 32 44 38 38))))))))))))
 (fun v _ _=>v=sp)=Lg sp c x:=by kernel_rfl
abbrev jqm(a:Cell):List Value:=[.agg #[nI a.ae.lo,nI a.ae.hi,nI a.ab.lo,nI a.ab.hi,nI a.aa.lo,nI a.aa.hi,nI a.ac.lo,nI a.ac.hi]]
abbrev jqn(b:Cell):List Value:=[.agg #[nI b.ae.lo,nI b.ae.hi,nI b.ab.lo,nI b.ab.hi,nI b.aa.lo,nI b.aa.hi,nI b.ac.lo,nI b.ac.hi]]
def Ba(sp:Value)(a b:Cell):Prop :=
 (∃i_0:Int,(c0q 4 28 (jqm a) (nI i_0) (fk ((i_0:Int) != 0) ((.bool ((i_0:Int) != 0):Value) = .bool true/\(.tuple #[.bool false,nI i_0]:Value)=sp) (∃i_1:Int,(c0q 4 28 (jqn b) (nI i_1) (fk ((i_1:Int) != 0) ((.tuple #[.bool false,nI i_1]:Value)=sp) (fk (decide ((a.ae.lo:Int)<b.ae.lo)) (jqg sp) (fk (decide ((b.ae.hi:Int)<a.ae.lo)) (jqg sp) (fk (decide ((a.ab.lo:Int)<b.ab.lo)) (jqg sp) (fk (decide ((b.ab.hi:Int)<a.ab.lo)) (jqg sp) (fk (decide ((a.aa.lo:Int)<b.aa.lo)) (jqg sp) (fk (decide ((b.aa.hi:Int)<a.aa.lo)) (jqg sp) (fk (decide ((a.ac.lo:Int)<b.ac.lo)) (jqg sp) (fk (decide ((b.ac.hi:Int)<a.ac.lo)) (jqg sp) (fk (decide ((a.ae.hi:Int)<b.ae.lo)) (jqg sp) (fk (decide ((b.ae.hi:Int)<a.ae.hi)) (jqg sp) (fk (decide ((a.ab.hi:Int)<b.ab.lo)) (jqg sp) (fk (decide ((b.ab.hi:Int)<a.ab.hi)) (jqg sp) (fk (decide ((a.aa.hi:Int)<b.aa.lo)) (jqg sp) (fk (decide ((b.aa.hi:Int)<a.aa.hi)) (jqg sp) (fk (decide ((a.ac.hi:Int)<b.ac.lo)) (jqg sp) (fk (decide ((b.ac.hi:Int)<a.ac.hi)) (jqg sp) ((.tuple #[.bool true,nI 0]:Value)=sp)))))))))))))))))))))))
abbrev jqi(a b:Cell):List Value:=[.agg #[nI a.ae.lo,nI a.ae.hi,nI a.ab.lo,nI a.ab.hi,nI a.aa.lo,nI a.aa.hi,nI a.ac.lo,nI a.ac.hi],.agg #[nI b.ae.lo,nI b.ae.hi,nI b.ab.lo,nI b.ab.hi,nI b.aa.lo,nI b.aa.hi,nI b.ac.lo,nI b.ac.hi]]
abbrev L4:Hint:=.go 4 (.slot 11 (.bool true) (.auto))
theorem I3(sp:Value)(a b:Cell):vE 38 (jqi a b) ⟨0,.leaf⟩ (some [])
 (.go 10 (.bind (Int) (fun r0 => .ans [] (nI r0) [] (.go 2 (.fork L4 (.go 0 (.bind (Int) (fun r1 => .ans [] (nI r1) [] (.go 3 (.fork (.auto) (.go 72 (.am (.auto) (.go 26 (.fork (.auto) (.go 38 (.am (.auto) (.go 32 (.fork (.auto) (.go 44 (.am (.auto) (.go 38 (.fork (.auto) (.go 44 (.am (.auto) (.go 38 (.fork (.auto) (.go 44 (jqe 26 38 32 44 38 38))))))))))))))))))))))))))))
 (fun v _ _=>v=sp)=Ba sp a b:=by kernel_rfl
abbrev jqc(qi0:Int):Value:=.tuple #[.agg #[nI 0,nI 0,nI 0,nI 0,nI 0,nI 0,nI 0,nI 0],nI qi0]
abbrev jq3(qi0:Int)(qv0:Value):Prop:=(.tuple #[.agg #[nI 0,nI 0,nI 0,nI 0,nI 0,nI 0,nI 0,nI 0],nI qi0]:Value)=qv0
abbrev jqu(qD0 qD1:Cell):=decide ((qD0.ae.lo:Int)<qD1.ae.lo)
abbrev jqh:Prop:=eR (pt 5)/\eR (pt 4)/\eR (pt 3)/\True
abbrev jqy:Prop:=eR (pt 6)/\eR (nI 0)/\jqh
abbrev jqj:Prop:=(True)/\(True)
abbrev jqv(qD1 qD0:Cell):=decide ((qD1.ae.hi:Int)<qD0.ae.hi)
abbrev jqo(qD0 qD1:Cell):=decide ((qD0.ab.lo:Int)<qD1.ab.lo)
abbrev jqz:Prop:=eR (pt 7)/\eR (nI 1)/\jqh
abbrev jqp(qD1 qD0:Cell):=decide ((qD1.ab.hi:Int)<qD0.ab.hi)
abbrev jqq(qD0 qD1:Cell):=decide ((qD0.aa.lo:Int)<qD1.aa.lo)
abbrev Fm:Prop:=eR (pt 8)/\eR (nI 2)/\jqh
abbrev jqr(qD1 qD0:Cell):=decide ((qD1.aa.hi:Int)<qD0.aa.hi)
abbrev jqs(qD0 qD1:Cell):=decide ((qD0.ac.lo:Int)<qD1.ac.lo)
abbrev Fl:Prop:=eR (pt 9)/\eR (nI 3)/\jqh
abbrev jqt(qD1 qD0:Cell):=decide ((qD1.ac.hi:Int)<qD0.ac.hi)
abbrev jq0(qD0 qD1 qD2 qD3:Cell)(qv0:Value):Prop:=true=true/\((jqu qD0 qD1)=true->(∃jS:Int,(((jqu qD0 qD1)=true/\(jS:Int)=qD2.ae.lo/\True)∨((jqu qD0 qD1)=false/\(jS:Int)=qD3.ae.lo/\True))/\true=true/\jqy/\((kbq 7 (.cells true 0 [nI qD2.ae.lo,nI qD3.ae.hi]) (.cells true 0 [nI jS,nI qD3.ae.hi]))/\True)/\jqj))/\((jqu qD0 qD1)=false->(∃jS:Int,(((jqu qD0 qD1)=true/\(jS:Int)=qD2.ae.lo/\True)∨((jqu qD0 qD1)=false/\(jS:Int)=qD3.ae.lo/\True))/\true=true/\jqy/\((kbq 7 (.cells true 0 [nI qD3.ae.lo,nI qD3.ae.hi]) (.cells true 0 [nI jS,nI qD3.ae.hi]))/\True)/\jqj))/\∀i_2:Int,(((jqu qD0 qD1)=true/\(i_2:Int)=qD2.ae.lo/\True)∨((jqu qD0 qD1)=false/\(i_2:Int)=qD3.ae.lo/\True))->(true=true/\((jqv qD1 qD0)=true->(∃jR:Int,(((jqv qD1 qD0)=true/\(jR:Int)=qD2.ae.hi/\True)∨((jqv qD1 qD0)=false/\(jR:Int)=qD3.ae.hi/\True))/\true=true/\jqy/\((kbq 7 (.cells true 0 [nI i_2,nI qD2.ae.hi]) (.cells true 0 [nI i_2,nI jR]))/\True)/\jqj))/\((jqv qD1 qD0)=false->(∃jR:Int,(((jqv qD1 qD0)=true/\(jR:Int)=qD2.ae.hi/\True)∨((jqv qD1 qD0)=false/\(jR:Int)=qD3.ae.hi/\True))/\true=true/\jqy/\((kbq 7 (.cells true 0 [nI i_2,nI qD3.ae.hi]) (.cells true 0 [nI i_2,nI jR]))/\True)/\jqj))/\∀i_3:Int,(((jqv qD1 qD0)=true/\(i_3:Int)=qD2.ae.hi/\True)∨((jqv qD1 qD0)=false/\(i_3:Int)=qD3.ae.hi/\True))->(true=true/\((jqo qD0 qD1)=true->(∃jQ:Int,(((jqo qD0 qD1)=true/\(jQ:Int)=qD2.ab.lo/\True)∨((jqo qD0 qD1)=false/\(jQ:Int)=qD3.ab.lo/\True))/\true=true/\jqz/\((kbq 8 (.cells true 0 [nI qD2.ab.lo,nI qD3.ab.hi]) (.cells true 0 [nI jQ,nI qD3.ab.hi]))/\True)/\jqj))/\((jqo qD0 qD1)=false->(∃jQ:Int,(((jqo qD0 qD1)=true/\(jQ:Int)=qD2.ab.lo/\True)∨((jqo qD0 qD1)=false/\(jQ:Int)=qD3.ab.lo/\True))/\true=true/\jqz/\((kbq 8 (.cells true 0 [nI qD3.ab.lo,nI qD3.ab.hi]) (.cells true 0 [nI jQ,nI qD3.ab.hi]))/\True)/\jqj))/\∀i_4:Int,(((jqo qD0 qD1)=true/\(i_4:Int)=qD2.ab.lo/\True)∨((jqo qD0 qD1)=false/\(i_4:Int)=qD3.ab.lo/\True))->(true=true/\((jqp qD1 qD0)=true->(∃jP:Int,(((jqp qD1 qD0)=true/\(jP:Int)=qD2.ab.hi/\True)∨((jqp qD1 qD0)=false/\(jP:Int)=qD3.ab.hi/\True))/\true=true/\jqz/\((kbq 8 (.cells true 0 [nI i_4,nI qD2.ab.hi]) (.cells true 0 [nI i_4,nI jP]))/\True)/\jqj))/\((jqp qD1 qD0)=false->(∃jP:Int,(((jqp qD1 qD0)=true/\(jP:Int)=qD2.ab.hi/\True)∨((jqp qD1 qD0)=false/\(jP:Int)=qD3.ab.hi/\True))/\true=true/\jqz/\((kbq 8 (.cells true 0 [nI i_4,nI qD3.ab.hi]) (.cells true 0 [nI i_4,nI jP]))/\True)/\jqj))/\∀i_5:Int,(((jqp qD1 qD0)=true/\(i_5:Int)=qD2.ab.hi/\True)∨((jqp qD1 qD0)=false/\(i_5:Int)=qD3.ab.hi/\True))->(true=true/\((jqq qD0 qD1)=true->(∃jO:Int,(((jqq qD0 qD1)=true/\(jO:Int)=qD2.aa.lo/\True)∨((jqq qD0 qD1)=false/\(jO:Int)=qD3.aa.lo/\True))/\true=true/\Fm/\((kbq 9 (.cells true 0 [nI qD2.aa.lo,nI qD3.aa.hi]) (.cells true 0 [nI jO,nI qD3.aa.hi]))/\True)/\jqj))/\((jqq qD0 qD1)=false->(∃jO:Int,(((jqq qD0 qD1)=true/\(jO:Int)=qD2.aa.lo/\True)∨((jqq qD0 qD1)=false/\(jO:Int)=qD3.aa.lo/\True))/\true=true/\Fm/\((kbq 9 (.cells true 0 [nI qD3.aa.lo,nI qD3.aa.hi]) (.cells true 0 [nI jO,nI qD3.aa.hi]))/\True)/\jqj))/\∀i_6:Int,(((jqq qD0 qD1)=true/\(i_6:Int)=qD2.aa.lo/\True)∨((jqq qD0 qD1)=false/\(i_6:Int)=qD3.aa.lo/\True))->(true=true/\((jqr qD1 qD0)=true->(∃jN:Int,(((jqr qD1 qD0)=true/\(jN:Int)=qD2.aa.hi/\True)∨((jqr qD1 qD0)=false/\(jN:Int)=qD3.aa.hi/\True))/\true=true/\Fm/\((kbq 9 (.cells true 0 [nI i_6,nI qD2.aa.hi]) (.cells true 0 [nI i_6,nI jN]))/\True)/\jqj))/\((jqr qD1 qD0)=false->(∃jN:Int,(((jqr qD1 qD0)=true/\(jN:Int)=qD2.aa.hi/\True)∨((jqr qD1 qD0)=false/\(jN:Int)=qD3.aa.hi/\True))/\true=true/\Fm/\((kbq 9 (.cells true 0 [nI i_6,nI qD3.aa.hi]) (.cells true 0 [nI i_6,nI jN]))/\True)/\jqj))/\∀i_7:Int,(((jqr qD1 qD0)=true/\(i_7:Int)=qD2.aa.hi/\True)∨((jqr qD1 qD0)=false/\(i_7:Int)=qD3.aa.hi/\True))->(true=true/\((jqs qD0 qD1)=true->(∃qY:Int,(((jqs qD0 qD1)=true/\(qY:Int)=qD2.ac.lo/\True)∨((jqs qD0 qD1)=false/\(qY:Int)=qD3.ac.lo/\True))/\true=true/\Fl/\((kbq 10 (.cells true 0 [nI qD2.ac.lo,nI qD3.ac.hi]) (.cells true 0 [nI qY,nI qD3.ac.hi]))/\True)/\jqj))/\((jqs qD0 qD1)=false->(∃qY:Int,(((jqs qD0 qD1)=true/\(qY:Int)=qD2.ac.lo/\True)∨((jqs qD0 qD1)=false/\(qY:Int)=qD3.ac.lo/\True))/\true=true/\Fl/\((kbq 10 (.cells true 0 [nI qD3.ac.lo,nI qD3.ac.hi]) (.cells true 0 [nI qY,nI qD3.ac.hi]))/\True)/\jqj))/\∀i_8:Int,(((jqs qD0 qD1)=true/\(i_8:Int)=qD2.ac.lo/\True)∨((jqs qD0 qD1)=false/\(i_8:Int)=qD3.ac.lo/\True))->(true=true/\((jqt qD1 qD0)=true->(∃qX:Int,(((jqt qD1 qD0)=true/\(qX:Int)=qD2.ac.hi/\True)∨((jqt qD1 qD0)=false/\(qX:Int)=qD3.ac.hi/\True))/\true=true/\Fl/\((kbq 10 (.cells true 0 [nI i_8,nI qD2.ac.hi]) (.cells true 0 [nI i_8,nI qX]))/\True)/\jqj))/\((jqt qD1 qD0)=false->(∃qX:Int,(((jqt qD1 qD0)=true/\(qX:Int)=qD2.ac.hi/\True)∨((jqt qD1 qD0)=false/\(qX:Int)=qD3.ac.hi/\True))/\true=true/\Fl/\((kbq 10 (.cells true 0 [nI i_8,nI qD3.ac.hi]) (.cells true 0 [nI i_8,nI qX]))/\True)/\jqj))/\∀i_9:Int,(((jqt qD1 qD0)=true/\(i_9:Int)=qD2.ac.hi/\True)∨((jqt qD1 qD0)=false/\(i_9:Int)=qD3.ac.hi/\True))->(.tuple #[.agg #[nI i_2,nI i_3,nI i_4,nI i_5,nI i_6,nI i_7,nI i_8,nI i_9],nI 0]:Value)=qv0)))))))
def IB(sp:Value)(a b:Cell):Prop :=
 (∃i_0:Int,(c0q 5 28 (jqm a) (nI i_0) (fk ((i_0:Int) != 0) ((.bool ((i_0:Int) != 0):Value) = .bool true/\(jqc i_0)=sp) (∃i_1:Int,(c0q 5 28 (jqn b) (nI i_1) (fk ((i_1:Int) != 0) ((jqc i_1)=sp) (fk (decide ((a.ae.hi:Int)<b.ae.lo)) (jq3 21 sp) (fk (decide ((b.ae.hi:Int)<a.ae.lo)) (jq3 21 sp) (fk (decide ((a.ab.hi:Int)<b.ab.lo)) (jq3 21 sp) (fk (decide ((b.ab.hi:Int)<a.ab.lo)) (jq3 21 sp) (fk (decide ((a.aa.hi:Int)<b.aa.lo)) (jq3 21 sp) (fk (decide ((b.aa.hi:Int)<a.aa.lo)) (jq3 21 sp) (fk (decide ((a.ac.hi:Int)<b.ac.lo)) (jq3 21 sp) (fk (decide ((b.ac.hi:Int)<a.ac.lo)) (jq3 21 sp) (jq0 a b b a sp)))))))))))))))
abbrev JD:Hint:=.go 20 (.again [])
abbrev jq1(qn0:Nat)(qD0 qD1 qD2 qD3:Cell):Hint:=.fork (.auto) (.go qn0 (.join 3 (Int) [6] (fun i_0=>[(6,pt 6),(5,nI 0),(4,pt 5),(3,pt 4),(2,pt 3)]) (fun i_0=>[(6,true,.cells true 0 [nI i_0,nI qD0.ae.hi])]) (fun i_0=>[]) (fun i_0=>[]) (fun i_0=>(((decide ((qD1.ae.lo:Int)<qD2.ae.lo))=true/\(i_0:Int)=qD3.ae.lo/\True)∨((decide ((qD1.ae.lo:Int)<qD2.ae.lo))=false/\(i_0:Int)=qD0.ae.lo/\True))) (.go 14 (.again [])) (.again []) (fun i_0 => .go 15 (.join 3 (Int) [6] (fun i_1=>[(6,pt 6),(5,nI 0),(4,pt 5),(3,pt 4),(2,pt 3)]) (fun i_1=>[(6,true,.cells true 0 [nI i_0,nI i_1])]) (fun i_1=>[]) (fun i_1=>[]) (fun i_1=>(((decide ((qD2.ae.hi:Int)<qD1.ae.hi))=true/\(i_1:Int)=qD3.ae.hi/\True)∨((decide ((qD2.ae.hi:Int)<qD1.ae.hi))=false/\(i_1:Int)=qD0.ae.hi/\True))) (.go 14 (.again [])) (.again []) (fun i_1 => .go 58 (.join 3 (Int) [7] (fun i_2=>[(6,pt 7),(5,nI 1),(4,pt 5),(3,pt 4),(2,pt 3)]) (fun i_2=>[(7,true,.cells true 0 [nI i_2,nI qD0.ab.hi])]) (fun i_2=>[]) (fun i_2=>[]) (fun i_2=>(((decide ((qD1.ab.lo:Int)<qD2.ab.lo))=true/\(i_2:Int)=qD3.ab.lo/\True)∨((decide ((qD1.ab.lo:Int)<qD2.ab.lo))=false/\(i_2:Int)=qD0.ab.lo/\True))) (.go 17 (.again [])) (.again []) (fun i_2 => .go 18 (.join 3 (Int) [7] (fun i_3=>[(6,pt 7),(5,nI 1),(4,pt 5),(3,pt 4),(2,pt 3)]) (fun i_3=>[(7,true,.cells true 0 [nI i_2,nI i_3])]) (fun i_3=>[]) (fun i_3=>[]) (fun i_3=>(((decide ((qD2.ab.hi:Int)<qD1.ab.hi))=true/\(i_3:Int)=qD3.ab.hi/\True)∨((decide ((qD2.ab.hi:Int)<qD1.ab.hi))=false/\(i_3:Int)=qD0.ab.hi/\True))) (.go 17 (.again [])) (.again []) (fun i_3 => .go 67 (.join 3 (Int) [8] (fun i_4=>[(6,pt 8),(5,nI 2),(4,pt 5),(3,pt 4),(2,pt 3)]) (fun i_4=>[(8,true,.cells true 0 [nI i_4,nI qD0.aa.hi])]) (fun i_4=>[]) (fun i_4=>[]) (fun i_4=>(((decide ((qD1.aa.lo:Int)<qD2.aa.lo))=true/\(i_4:Int)=qD3.aa.lo/\True)∨((decide ((qD1.aa.lo:Int)<qD2.aa.lo))=false/\(i_4:Int)=qD0.aa.lo/\True))) JD (.again []) (fun i_4 => .go 21 (.join 3 (Int) [8] (fun i_5=>[(6,pt 8),(5,nI 2),(4,pt 5),(3,pt 4),(2,pt 3)]) (fun i_5=>[(8,true,.cells true 0 [nI i_4,nI i_5])]) (fun i_5=>[]) (fun i_5=>[]) (fun i_5=>(((decide ((qD2.aa.hi:Int)<qD1.aa.hi))=true/\(i_5:Int)=qD3.aa.hi/\True)∨((decide ((qD2.aa.hi:Int)<qD1.aa.hi))=false/\(i_5:Int)=qD0.aa.hi/\True))) JD (.again []) (fun i_5 => .go 70 (.join 3 (Int) [9] (fun i_6=>[(6,pt 9),(5,nI 3),(4,pt 5),(3,pt 4),(2,pt 3)]) (fun i_6=>[(9,true,.cells true 0 [nI i_6,nI qD0.ac.hi])]) (fun i_6=>[]) (fun i_6=>[]) (fun i_6=>(((decide ((qD1.ac.lo:Int)<qD2.ac.lo))=true/\(i_6:Int)=qD3.ac.lo/\True)∨((decide ((qD1.ac.lo:Int)<qD2.ac.lo))=false/\(i_6:Int)=qD0.ac.lo/\True))) JD (.again []) (fun i_6 => .go 21 (.join 3 (Int) [9] (fun i_7=>[(6,pt 9),(5,nI 3),(4,pt 5),(3,pt 4),(2,pt 3)]) (fun i_7=>[(9,true,.cells true 0 [nI i_6,nI i_7])]) (fun i_7=>[]) (fun i_7=>[]) (fun i_7=>(((decide ((qD2.ac.hi:Int)<qD1.ac.hi))=true/\(i_7:Int)=qD3.ac.hi/\True)∨((decide ((qD2.ac.hi:Int)<qD1.ac.hi))=false/\(i_7:Int)=qD0.ac.hi/\True))) JD (.again []) (fun i_7 => .auto)))))))))))))))))
theorem Ni(sp:Value)(a b:Cell):vE 40 (jqi a b) ⟨0,.leaf⟩ (some [])
 (.go 10 (.bind (Int) (fun r0 => .ans [] (nI r0) [] (.go 2 (.fork L4 (.go 0 (.bind (Int) (fun r1 => .ans [] (nI r1) [] (.go 3 (.fork (.auto) (.go 37 (.am (.auto) (.go 27 (.fork (.auto) (.go 39 (.am (.auto) (.go 33 (.fork (.auto) (.go 45 (.am (.auto) (.go 39 (.fork (.auto) (.go 45 (.am (.auto) (.go 39 (jq1 47 a a b b))))))))))))))))))))))))))
 (fun v _ _=>v=sp)=IB sp a b:=by kernel_rfl
def IC(sp:Value)(a b:Cell):Prop :=
 (∃i_0:Int,(c0q 5 28 (jqm a) (nI i_0) (fk ((i_0:Int) != 0) ((.bool ((i_0:Int) != 0):Value) = .bool true/\(jqc i_0)=sp) (∃i_1:Int,(c0q 5 28 (jqn b) (nI i_1) (fk ((i_1:Int) != 0) ((jqc i_1)=sp) (jq0 b a b a sp)))))))
theorem Nj(sp:Value)(a b:Cell):vE 42 (jqi a b) ⟨0,.leaf⟩ (some [])
 (.go 10 (.bind (Int) (fun r0 => .ans [] (nI r0) [] (.go 2 (.fork L4 (.go 0 (.bind (Int) (fun r1 => .ans [] (nI r1) [] (.go 3 (jq1 39 a b a b))))))))))
 (fun v _ _=>v=sp)=IC sp a b:=by kernel_rfl
abbrev jqb(qD0:Cell)(qi0 qi1:Int):Prop:=((decide (((qD0.ae.lo-qi0):Int)<0))=true/\(qi1:Int)=0/\True)∨((decide (((qD0.ae.lo-qi0):Int)<0))=false/\(qi1:Int)=(qD0.ae.lo-qi0)/\True)
abbrev jq2(qn0:Nat)(qi0 qi1:Int):Prop:=eR (pt qn0)/\eR (nI qi0)/\eR (pt 5)/\eR (pt 4)/\eR (pt 3)/\eR (nI qi1)/\True
abbrev jq6(qD0:Cell)(qi0 qi1:Int):Prop:=((decide ((100:Int)<(qD0.ae.hi+qi0)))=true/\(qi1:Int)=100/\True)∨((decide ((100:Int)<(qD0.ae.hi+qi0)))=false/\(qi1:Int)=(qD0.ae.hi+qi0)/\True)
abbrev jqf(qn0:Nat)(qi0 qi1 qi2:Int):Prop:=(kbq qn0 (.cells true 0 [nI qi0,nI qi1]) (.cells true 0 [nI qi0,nI qi2]))/\True
abbrev jqa(qD0:Cell)(qi0 qi1:Int):Prop:=((decide (((qD0.ab.lo-qi0):Int)<0))=true/\(qi1:Int)=0/\True)∨((decide (((qD0.ab.lo-qi0):Int)<0))=false/\(qi1:Int)=(qD0.ab.lo-qi0)/\True)
abbrev jq5(qD0:Cell)(qi0 qi1:Int):Prop:=((decide ((400:Int)<(qD0.ab.hi+qi0)))=true/\(qi1:Int)=400/\True)∨((decide ((400:Int)<(qD0.ab.hi+qi0)))=false/\(qi1:Int)=(qD0.ab.hi+qi0)/\True)
abbrev jq7(qD0:Cell)(qi0 qi1:Int):Prop:=((decide (((qD0.aa.lo-qi0):Int)<0))=true/\(qi1:Int)=0/\True)∨((decide (((qD0.aa.lo-qi0):Int)<0))=false/\(qi1:Int)=(qD0.aa.lo-qi0)/\True)
abbrev jq4(qD0:Cell)(qi0 qi1:Int):Prop:=((decide ((100:Int)<(qD0.aa.hi+qi0)))=true/\(qi1:Int)=100/\True)∨((decide ((100:Int)<(qD0.aa.hi+qi0)))=false/\(qi1:Int)=(qD0.aa.hi+qi0)/\True)
abbrev jq8(qD0:Cell)(qi0 qi1:Int):Prop:=((decide (((qD0.ac.lo-qi0):Int)<0))=true/\(qi1:Int)=0/\True)∨((decide (((qD0.ac.lo-qi0):Int)<0))=false/\(qi1:Int)=(qD0.ac.lo-qi0)/\True)
abbrev jq9(qD0:Cell)(qi0 qi1:Int):Prop:=((decide ((3:Int)<(qD0.ac.hi+qi0)))=true/\(qi1:Int)=3/\True)∨((decide ((3:Int)<(qD0.ac.hi+qi0)))=false/\(qi1:Int)=(qD0.ac.hi+qi0)/\True)
def Lh(sp:Value)(c:Cell)(m:af)(hours:Int):Prop :=
 (∃i_0:Int,(c0q 3 28 (jql c) (nI i_0) (fk ((i_0:Int) != 0) ((jqc i_0)=sp) (∃i_1:Int,(c0q 3 32 (jqx m) (nI i_1) (fk ((i_1:Int) != 0) ((jqc i_1)=sp) (fk (decide ((hours:Int)<0)) (jq3 6 sp) (fk (decide ((10000:Int)<hours)) (jq3 6 sp) (∃i_2:Int,(c0q 7 117 [nI m.down.ae,nI hours] (nI i_2) (nw (c.ae.lo-i_2) (∃i_3:Int,(c0q 7 117 [nI m.up.ae,nI hours] (nI i_3) (nw (c.ae.hi+i_3) (true=true/\((decide (((c.ae.lo-i_2):Int)<0))=true->(∃jQ:Int,(jqb c i_2 jQ)/\true=true/\(jq2 6 0 hours)/\((kbq 7 (.cells true 0 [nI 0,nI (c.ae.hi+i_3)]) (.cells true 0 [nI jQ,nI (c.ae.hi+i_3)]))/\True)/\jqj))/\((decide (((c.ae.lo-i_2):Int)<0))=false->(∃jQ:Int,(jqb c i_2 jQ)/\true=true/\(jq2 6 0 hours)/\((kbq 7 (.cells true 0 [nI (c.ae.lo-i_2),nI (c.ae.hi+i_3)]) (.cells true 0 [nI jQ,nI (c.ae.hi+i_3)]))/\True)/\jqj))/\∀i_4:Int,(jqb c i_2 i_4)->(true=true/\((decide ((100:Int)<(c.ae.hi+i_3)))=true->(∃jP:Int,(jq6 c i_3 jP)/\true=true/\(jq2 6 0 hours)/\(jqf 7 i_4 100 jP)/\jqj))/\((decide ((100:Int)<(c.ae.hi+i_3)))=false->(∃jP:Int,(jq6 c i_3 jP)/\true=true/\(jq2 6 0 hours)/\((kbq 7 (.cells true 0 [nI i_4,nI (c.ae.hi+i_3)]) (.cells true 0 [nI i_4,nI jP]))/\True)/\jqj))/\∀i_5:Int,(jq6 c i_3 i_5)->(∃i_6:Int,(c0q 8 117 [nI m.down.ab,nI hours] (nI i_6) (nw (c.ab.lo-i_6) (∃i_7:Int,(c0q 8 117 [nI m.up.ab,nI hours] (nI i_7) (nw (c.ab.hi+i_7) (true=true/\((decide (((c.ab.lo-i_6):Int)<0))=true->(∃qY:Int,(jqa c i_6 qY)/\true=true/\(jq2 7 1 hours)/\((kbq 8 (.cells true 0 [nI 0,nI (c.ab.hi+i_7)]) (.cells true 0 [nI qY,nI (c.ab.hi+i_7)]))/\True)/\jqj))/\((decide (((c.ab.lo-i_6):Int)<0))=false->(∃qY:Int,(jqa c i_6 qY)/\true=true/\(jq2 7 1 hours)/\((kbq 8 (.cells true 0 [nI (c.ab.lo-i_6),nI (c.ab.hi+i_7)]) (.cells true 0 [nI qY,nI (c.ab.hi+i_7)]))/\True)/\jqj))/\∀i_8:Int,(jqa c i_6 i_8)->(true=true/\((decide ((400:Int)<(c.ab.hi+i_7)))=true->(∃qX:Int,(jq5 c i_7 qX)/\true=true/\(jq2 7 1 hours)/\(jqf 8 i_8 400 qX)/\jqj))/\((decide ((400:Int)<(c.ab.hi+i_7)))=false->(∃qX:Int,(jq5 c i_7 qX)/\true=true/\(jq2 7 1 hours)/\((kbq 8 (.cells true 0 [nI i_8,nI (c.ab.hi+i_7)]) (.cells true 0 [nI i_8,nI qX]))/\True)/\jqj))/\∀i_9:Int,(jq5 c i_7 i_9)->(∃fj:Int,(c0q 9 117 [nI m.down.aa,nI hours] (nI fj) (nw (c.aa.lo-fj) (∃gn:Int,(c0q 9 117 [nI m.up.aa,nI hours] (nI gn) (nw (c.aa.hi+gn) (true=true/\((decide (((c.aa.lo-fj):Int)<0))=true->(∃Ag:Int,(jq7 c fj Ag)/\true=true/\(jq2 8 2 hours)/\((kbq 9 (.cells true 0 [nI 0,nI (c.aa.hi+gn)]) (.cells true 0 [nI Ag,nI (c.aa.hi+gn)]))/\True)/\jqj))/\((decide (((c.aa.lo-fj):Int)<0))=false->(∃Ag:Int,(jq7 c fj Ag)/\true=true/\(jq2 8 2 hours)/\((kbq 9 (.cells true 0 [nI (c.aa.lo-fj),nI (c.aa.hi+gn)]) (.cells true 0 [nI Ag,nI (c.aa.hi+gn)]))/\True)/\jqj))/\∀eZ:Int,(jq7 c fj eZ)->(true=true/\((decide ((100:Int)<(c.aa.hi+gn)))=true->(∃Af:Int,(jq4 c gn Af)/\true=true/\(jq2 8 2 hours)/\(jqf 9 eZ 100 Af)/\jqj))/\((decide ((100:Int)<(c.aa.hi+gn)))=false->(∃Af:Int,(jq4 c gn Af)/\true=true/\(jq2 8 2 hours)/\((kbq 9 (.cells true 0 [nI eZ,nI (c.aa.hi+gn)]) (.cells true 0 [nI eZ,nI Af]))/\True)/\jqj))/\∀gk:Int,(jq4 c gn gk)->(∃eL:Int,(c0q 10 117 [nI m.down.ac,nI hours] (nI eL) (nw (c.ac.lo-eL) (∃gW:Int,(c0q 10 117 [nI m.up.ac,nI hours] (nI gW) (nw (c.ac.hi+gW) (true=true/\((decide (((c.ac.lo-eL):Int)<0))=true->(∃Ac:Int,(jq8 c eL Ac)/\true=true/\(jq2 9 3 hours)/\((kbq 10 (.cells true 0 [nI 0,nI (c.ac.hi+gW)]) (.cells true 0 [nI Ac,nI (c.ac.hi+gW)]))/\True)/\jqj))/\((decide (((c.ac.lo-eL):Int)<0))=false->(∃Ac:Int,(jq8 c eL Ac)/\true=true/\(jq2 9 3 hours)/\((kbq 10 (.cells true 0 [nI (c.ac.lo-eL),nI (c.ac.hi+gW)]) (.cells true 0 [nI Ac,nI (c.ac.hi+gW)]))/\True)/\jqj))/\∀lJ:Int,(jq8 c eL lJ)->(true=true/\((decide ((3:Int)<(c.ac.hi+gW)))=true->(∃Ab:Int,(jq9 c gW Ab)/\true=true/\(jq2 9 3 hours)/\(jqf 10 lJ 3 Ab)/\jqj))/\((decide ((3:Int)<(c.ac.hi+gW)))=false->(∃Ab:Int,(jq9 c gW Ab)/\true=true/\(jq2 9 3 hours)/\((kbq 10 (.cells true 0 [nI lJ,nI (c.ac.hi+gW)]) (.cells true 0 [nI lJ,nI Ab]))/\True)/\jqj))/\∀uj:Int,(jq9 c gW uj)->(.tuple #[.agg #[nI i_4,nI i_5,nI i_8,nI i_9,nI eZ,nI gk,nI lJ,nI uj],nI 0]:Value)=sp))))))))))))))))))))))))))))))))))))))))
theorem OY(sp:Value)(c:Cell)(m:af)(hours:Int):vE 44 [.agg #[nI c.ae.lo,nI c.ae.hi,nI c.ab.lo,nI c.ab.hi,nI c.aa.lo,nI c.aa.hi,nI c.ac.lo,nI c.ac.hi],.agg #[nI m.up.ae,nI m.up.ab,nI m.up.aa,nI m.up.ac,nI m.down.ae,nI m.down.ab,nI m.down.aa,nI m.down.ac],nI hours] ⟨0,.leaf⟩ (some [])
 (.go 4 (.bind (Int) (fun r0 => .ans [] (nI r0) [] (.go 2 (.fork (.auto) (.go 0 (.bind (Int) (fun r1 => .ans [] (nI r1) [] (.go 2 (.fork (.auto) (.go 2 (.am (.auto) (.go 2 (.fork (.auto) (.go 40 (.bind (Int) (fun r2 => .ans [] (nI r2) [] (.go 0 (.slot 24 (nI (c.ae.lo-r2)) (.go 17 (.bind (Int) (fun r3 => .ans [] (nI r3) [] (.go 0 (.slot 34 (nI (c.ae.hi+r3)) (.go 4 (.join 3 (Int) [6] (fun i_0=>[(8,pt 6),(7,nI 0),(6,pt 5),(4,pt 4),(3,pt 3),(2,nI hours)]) (fun i_0=>[(6,true,.cells true 0 [nI i_0,nI (c.ae.hi+r3)])]) (fun i_0=>[]) (fun i_0=>[]) (fun i_0=>(jqb c r2 i_0)) (.go 1 (.again [])) (.again []) (fun i_0 => .go 11 (.join 3 (Int) [6] (fun i_1=>[(8,pt 6),(7,nI 0),(6,pt 5),(4,pt 4),(3,pt 3),(2,nI hours)]) (fun i_1=>[(6,true,.cells true 0 [nI i_0,nI i_1])]) (fun i_1=>[]) (fun i_1=>[]) (fun i_1=>(jq6 c r3 i_1)) (.go 10 (.again [])) (.again []) (fun i_1 => .go 58 (.bind (Int) (fun r6 => .ans [] (nI r6) [] (.go 0 (.slot 24 (nI (c.ab.lo-r6)) (.go 20 (.bind (Int) (fun r7 => .ans [] (nI r7) [] (.go 0 (.slot 34 (nI (c.ab.hi+r7)) (.go 4 (.join 3 (Int) [7] (fun i_2=>[(8,pt 7),(7,nI 1),(6,pt 5),(4,pt 4),(3,pt 3),(2,nI hours)]) (fun i_2=>[(7,true,.cells true 0 [nI i_2,nI (c.ab.hi+r7)])]) (fun i_2=>[]) (fun i_2=>[]) (fun i_2=>(jqa c r6 i_2)) (.go 1 (.again [])) (.again []) (fun i_2 => .go 16 (.join 3 (Int) [7] (fun i_3=>[(8,pt 7),(7,nI 1),(6,pt 5),(4,pt 4),(3,pt 3),(2,nI hours)]) (fun i_3=>[(7,true,.cells true 0 [nI i_2,nI i_3])]) (fun i_3=>[]) (fun i_3=>[]) (fun i_3=>(jq5 c r7 i_3)) (.go 15 (.again [])) (.again []) (fun i_3 => .go 67 (.bind (Int) (fun r10 => .ans [] (nI r10) [] (.go 0 (.slot 24 (nI (c.aa.lo-r10)) (.go 23 (.bind (Int) (fun r11 => .ans [] (nI r11) [] (.go 0 (.slot 34 (nI (c.aa.hi+r11)) (.go 4 (.join 3 (Int) [8] (fun i_4=>[(8,pt 8),(7,nI 2),(6,pt 5),(4,pt 4),(3,pt 3),(2,nI hours)]) (fun i_4=>[(8,true,.cells true 0 [nI i_4,nI (c.aa.hi+r11)])]) (fun i_4=>[]) (fun i_4=>[]) (fun i_4=>(jq7 c r10 i_4)) (.go 1 (.again [])) (.again []) (fun i_4 => .go 13 (.join 3 (Int) [8] (fun i_5=>[(8,pt 8),(7,nI 2),(6,pt 5),(4,pt 4),(3,pt 3),(2,nI hours)]) (fun i_5=>[(8,true,.cells true 0 [nI i_4,nI i_5])]) (fun i_5=>[]) (fun i_5=>[]) (fun i_5=>(jq4 c r11 i_5)) (.go 12 (.again [])) (.again []) (fun i_5 => .go 70 (.bind (Int) (fun r14 => .ans [] (nI r14) [] (.go 0 (.slot 24 (nI (c.ac.lo-r14)) (.go 23 (.bind (Int) (fun r15 => .ans [] (nI r15) [] (.go 0 (.slot 34 (nI (c.ac.hi+r15)) (.go 4 (.join 3 (Int) [9] (fun i_6=>[(8,pt 9),(7,nI 3),(6,pt 5),(4,pt 4),(3,pt 3),(2,nI hours)]) (fun i_6=>[(9,true,.cells true 0 [nI i_6,nI (c.ac.hi+r15)])]) (fun i_6=>[]) (fun i_6=>[]) (fun i_6=>(jq8 c r14 i_6)) (.go 1 (.again [])) (.again []) (fun i_6 => .go 16 (.join 3 (Int) [9] (fun i_7=>[(8,pt 9),(7,nI 3),(6,pt 5),(4,pt 4),(3,pt 3),(2,nI hours)]) (fun i_7=>[(9,true,.cells true 0 [nI i_6,nI i_7])]) (fun i_7=>[]) (fun i_7=>[]) (fun i_7=>(jq9 c r15 i_7)) (.go 15 (.again [])) (.again []) (fun i_7 => .auto)))))))))))))))))))))))))))))))))))))))))))))))))))))))))))))))))))))))
 (fun v _ _=>v=sp)=Lh sp c m hours:=by kernel_rfl
def Kt(sp:Value)  : Prop :=
 (.agg #[nI 0,nI 100,nI 0,nI 400,nI 0,nI 100,nI 0,nI 3]:Value)=sp
theorem KD (sp : Value)  : vE 34 [] ⟨0, .leaf⟩ (some [])
  (.auto)
  (fun v _ _ => v = sp) = Kt sp  := by kernel_rfl
abbrev L5(xs:List Ice):Prop:=eR (.func (.func 29) #[] #[])/\wR (slQ 0 2 xs.length)/\eR (nI ((xs.length:Nat):Int))/\True
abbrev jqd(qN0:List Ice)(qn0:Nat):Value:=.agg #[nI (qN0.getD qn0 ar).ae,nI (qN0.getD qn0 ar).ab,nI (qN0.getD qn0 ar).aa,nI (qN0.getD qn0 ar).ac]
def D5(sp:Value)(xs:List Ice):Prop :=
 (lq (0<=List.length xs/\sp=nI (errs bF (xs.drop 0))) (true=true/\(tV=nI ((0:Nat):Int)/\L5 xs)/\(True)/\jqj) (∀J:Nat,(J<=List.length xs/\sp=nI (errs bF (xs.drop J)))->(fk (decide (((J:Int):Int)<((xs.length:Nat):Int))) ((ixq (J:Int) xs.length)/\((cu 4 (xs.flatMap bB) (0+Int.toNat (J:Int)*4)=some (jqd xs J))/\(∃i_1:Int,(c0q 2 29 [.agg #[nI (xs.getD J ar).ae,nI (xs.getD J ar).ab,nI (xs.getD J ar).aa,nI (xs.getD J ar).ac]] (nI i_1) (fk ((i_1:Int) != 0) ((nI i_1:Value)=sp) (nw ((J:Int)+1) (∃bH:Nat,(bH<=List.length xs/\sp=nI (errs bF (xs.drop bH)))/\(List.length xs-bH)<(List.length xs-J)/\true=true/\((nI ((J:Int)+1):Value)=nI (bH:Int)/\L5 xs)/\(True)/\jqj))))))) (tV=sp))))
theorem Ku(sp:Value)(xs:List Ice):vE 114 [slQ 0 2 xs.length,.func (.func 29) #[] #[]] (aH 0 [xs.flatMap bB]) (some [])
 (.go 3 (.inv 3 (Nat) (0) [] [] (fun J=>[(10,nI (J:Int)),(1,.func (.func 29) #[] #[]),(8,slQ 0 2 xs.length),(9,nI ((xs.length:Nat):Int))]) (fun J=>[]) (fun J=>[]) (fun J=>[]) (fun J=>(J<=List.length xs/\sp=nI (errs bF (xs.drop J)))) (fun J=>(List.length xs-J)) (fun J => .go 0 (.fork (.need (.val (jqd xs J) (.go 3 (.bind (Int) (fun r1 => .ans [] (nI r1) [] (.go 2 (.fork (.auto) (.go 0 (.slot 20 (nI ((J:Int)+1)) (.go 0 (.again []))))))))))) (.auto)))))
 (fun v _ _=>v=sp)=D5 sp xs:=by kernel_rfl
abbrev L3(xs:List Ice)(J:Nat):List Value:=[nI (xs.getD J ar).ae,nI (xs.getD J ar).ab,nI (xs.getD J ar).aa,nI (xs.getD J ar).ac]
def IM(xs:List Ice):Prop :=
 (lq (0<=List.length xs) (true=true/\(tV=nI ((0:Nat):Int)/\wk (.slice none 0 0:Value) (slQ 0 1 0:Value)/\wR (slQ 0 2 xs.length)/\eR (.slice none 0 0)/\True)/\(True)/\(True/\True)/\(True)) (∀J:Nat,(J<=List.length xs)->(fk (decide (((J:Int):Int)<((xs.length:Nat):Int))) ((ixq (J:Int) xs.length)/\((cu 4 (xs.flatMap bB) (0+Int.toNat (J:Int)*4)=some (jqd xs J))/\(apq J 32 4 ((xs.take J).flatMap bB) (L3 xs J) (nw ((J:Int)+1) (∃bJ:Nat,(bJ<=List.length xs)/\(List.length xs-bJ)<(List.length xs-J)/\true=true/\((nI ((J:Int)+1):Value)=nI (bJ:Int)/\wk (slN 3 (J+1):Value) (slQ 3 1 bJ:Value)/\wR (slQ 0 2 xs.length)/\eR (.slice none 0 0)/\True)/\(True)/\((kbq 1 (.cells true 4 (((((xs.take J).flatMap bB).drop 0).take (J*4))++((((L3 xs J):List Value).drop 0).take (1*4)))) (.cells true 4 ((xs.take bJ).flatMap bB)))/\True)/\(True)))))) (true=true/\wk (slQ 1 1 J:Value) (rn (sg 1 [(1,1)]) 3 (slQ 1 1 xs.length:Value))/\((kbq 1 (.cells true 4 ((xs.take J).flatMap bB)) (.cells true 4 (xs.flatMap bB)))/\True)))))
theorem Nv(xs:List Ice):vE 45 [slQ 0 2 xs.length] (aH 0 [xs.flatMap bB]) (some [])
 (.go 2 (.inv 3 (Nat) (0) [] [] (fun J=>[(4,nI (J:Int)),(3,slQ 1 1 J),(0,slQ 0 2 xs.length),(2,.slice none 0 0)]) (fun J=>[]) (fun J=>[(true,.cells true 4 ((xs.take J).flatMap bB))]) (fun J=>[]) (fun J=>(J<=List.length xs)) (fun J=>(List.length xs-J)) (fun J => .go 3 (.fork (.go 2 (.need (.val (jqd xs J) (.go 0 (.need (.go 2 (.slot 10 (nI ((J:Int)+1)) (.go 0 (.again [(1,3)]))))))))) (.go 1 (.again [(1,1)]))))))
 (er ((aH 0 [xs.flatMap bB]):HT).n 3 (slQ 1 1 xs.length) [(true,.cells true 4 (xs.flatMap bB))])=IM xs:=by kernel_rfl
theorem dd(c:Cell)(H:Heap):ak prog F.kK [cellV c] H [] (Is (nI (ax c)) H):=by
 refine cQ 40 (fun _=>rfl) rfl (Eq.mpr (Bh _ c) ?_) H
 delta rM jqk tV nI fk
 simp only[decide_eq_true_eq,decide_eq_false_iff_not,Bool.not_eq_true',Bool.not_eq_false']
 repeat' (first|apply And.intro|intro _)
 all_goals first
  |exact bu (rI (by unfold cw bz;omega)).symm
  |exact bu (rH (by unfold cw bz;omega)).symm
theorem kO(x:Ice)(H:Heap):ak prog F.lC [Aa x] H [] (Is (nI (bF x)) H):=by
 refine cQ 40 (fun _=>rfl) rfl (Eq.mpr (CK _ x) ?_) H
 delta uR jqk tV nI fk
 simp only[decide_eq_true_eq,decide_eq_false_iff_not,Bool.not_eq_true',Bool.not_eq_false']
 repeat' (first|apply And.intro|intro _)
 all_goals first
  |exact bu (uF (by unfold jD;omega)).symm
  |exact bu (uE (by unfold jD;omega)).symm
theorem fh(m:af)(H:Heap):ak prog F.j8 [ao m] H [] (Is (nI (aM m)) H):=by
 refine cQ 40 (fun _=>rfl) rfl (Eq.mpr (yw _ m) ?_) H
 delta qp jqw tV nI fk
 simp only[decide_eq_true_eq,decide_eq_false_iff_not,Bool.not_eq_true',Bool.not_eq_false']
 repeat' (first|apply And.intro|intro _)
 all_goals first
  |exact bu (p6 (by unfold eS rt;omega)).symm
  |exact bu (p5 (by unfold eS rt;omega)).symm
theorem ix{f:FuncId}{args:List Value}{css:List (List Value)}{h:Hint}{v:Value}(hc:vE f args (aH 0 css) (some []) h (fun v' _ _=>v'=v))(jT:∀cs∈css,cs.all (aw 0)=true)(hv:cP 0 v=true)
  {H:Heap} (ids:List Nat) (hl:ids.length=css.length) (gv:∀(k:Nat) (cs:List Value),css[k]?=some cs->∃id own z,ids[k]?=some id/\H[id]?=some (ah.cells own z cs)) :
  ak prog f (args.map (rn (sgR 0 ids) 5)) H [] (Is v H):=by
 have:=Pb (H:=H) vX mixed 40 (v:=v) jT (by rw[gO];exact hc) hv ids hl gv
 rw[gO]at this;exact this
theorem rU{f:FuncId}{args:List Value}{css:List (List Value)}{h:Hint}{v:Value}{new:List (Bool×ah)}(hc:vE f args (aH 0 css) (some []) h (er (aH 0 css).n 3 v new))(jT:∀cs∈css,cs.all (aw 0)=true)
  (hv:dD 3 v=true) (hv2:rn (bD (0+css.length)) 3 v=v) (hn:(new.map (·.2)).all (fun o=>cY 3 o&&o.owned)=true) (hn2:(new.map (·.2)).map (rno (bD (0+css.length)) 3)=new.map (·.2))
  {H:Heap} (ids:List Nat) (hl:ids.length=css.length) (gv:∀(k:Nat) (cs:List Value),css[k]?=some cs->∃id own z,ids[k]?=some id/\H[id]?=some (ah.cells own z cs)) :
  ak prog f (args.map (rn (sgR 0 ids) 3)) H [] (Is (rn (bT (0+css.length) H.length) 3 v) (H++(new.map (·.2)).map (rno (bT (0+css.length) H.length) 3))):=by
 have:=vcR (H:=H) vX mixed 40 (v:=v) (new:=new) jT (by rw[gO];exact hc) hv (by rw[gO];exact hv2) hn (by rw[gO];exact hn2) ids hl gv
 rw[gO]at this;exact this
theorem Pc{f:FuncId}{args:List Value}{css:List (List Value)}{h:Hint}{n z:Nat}{cs:List Value}(hc:vE f args (aH 0 css) (some []) h (er (aH 0 css).n 3 (slQ css.length 1 n) [(true,.cells true z cs)]))
  (hcs:cs.all (aw 0)=true) (jT:∀cs∈css,cs.all (aw 0)=true)
  {H:Heap} (ids:List Nat) (hl:ids.length=css.length) (gv:∀(k:Nat) (cs:List Value),css[k]?=some cs->∃id own z,ids[k]?=some id/\H[id]?=some (ah.cells own z cs)) :
  ak prog f (args.map (rn (sgR 0 ids) 3)) H [] (Is (slQ H.length 1 n) (H ++ [.cells true z cs])):=by
 have:=rU hc jT rfl (by simp[rn,bD]) (by
  show ((cY 3 (.cells true z cs)&&true)&&true)=true
  rw[Bool.and_true,Bool.and_true];exact (dw (σ:=fun _=>none) (d:=0) hcs).2) (congrArg (fun l=>[ah.cells true z l]) (dw (d:=0) hcs).1) ids hl gv
 have e1:rn (bT (0+css.length) H.length) 3 (slQ css.length 1 n)=slQ H.length 1 n:=by simp[rn,bT]
 have e2:(List.map (fun x:Bool×ah=>x.2) [(true,ah.cells true z cs)]).map (rno (bT (0+css.length) H.length) 3)=[.cells true z cs]:=congrArg (fun l=>[ah.cells true z l]) (dw (d:=0) hcs).1
 rw[e1,e2]at this
 exact this
theorem cT{H:Heap}{id:Nat}{own:Bool}{z:Nat}{cs:List Value}(hid:H[id]?=some (.cells own z cs)):∀(k:Nat) (c:List Value),[cs][k]?=some c->∃id' own z,[id][k]?=some id'/\H[id']?=some (ah.cells own z c):=by
 intro k c h
 match k with
 |0=>cases h;exact ⟨id,own,z,rfl,hid⟩
theorem cU{cs:List Value}(h:cs.all (aw 0)=true):∀c ∈ [cs],c.all (aw 0)=true:=by intro c hc;rw[List.mem_singleton.1 hc];exact h
theorem ui(x:Ice):(bB x).length=4:=rfl
theorem dF{xs:List Ice}{x:Nat}(h:x<xs.length):cu 4 (List.flatMap bB xs) (0+Int.toNat ((x:Nat):Int)*4)=some (.agg #[nI (List.getD xs x ar).ae,nI (List.getD xs x ar).ab,nI (List.getD xs x ar).aa,nI (List.getD xs x ar).ac]) :=
 (mH (f:=bB) (d:=ar) (c:=0) (m:=4) ui h (by rw[Int.toNat_natCast];omega) (by decide)).trans rfl
theorem drop_at{α:Type}{xs:List α}{d:α}{k:Nat}(hk:k<xs.length):xs.drop k=xs.getD k d :: xs.drop (k+1):=by
 rw[List.drop_eq_getElem_cons hk,List.getD_eq_getElem?_getD,List.getElem?_eq_getElem hk];rfl
theorem take_at{α:Type}{xs:List α}{d:α}{k:Nat}(hk:k<xs.length):xs.take (k+1)=xs.take k ++ [xs.getD k d]:=by
 rw[List.take_add_one,List.getElem?_eq_getElem hk,List.getD_eq_getElem?_getD,List.getElem?_eq_getElem hk];rfl
theorem mP{α:Type}{e:α->Int}{xs:List α}{d:α}{k:Nat}(hk:k<xs.length):errs e (xs.drop k)=if e (xs.getD k d)=0 then errs e (xs.drop (k+1)) else e (xs.getD k d):=by
 rw[drop_at (d:=d) hk];rfl
theorem Dd(xs:List Ice)(hn:xs.length<=2 ^ 30){H:Heap}{id:Nat}{own:Bool}{z:Nat}(hid:H[id]?=some (.cells own z (xs.flatMap bB))) :
  ak prog F.oF [slQ id 2 xs.length,.func (.func F.pR) #[] #[]] H [] (Is (nI (errs bF xs)) H):=by
 refine ix (Eq.mpr (Ku _ xs) ?_) (cU (cD (fun _=>rfl) xs)) rfl [id] rfl (cT hid)
 delta D5 tV L5 jqj jqd nI slQ fk nw eR wR ixq lq c0q
 refine ⟨rfl,⟨Nat.zero_le _,rfl⟩,⟨rfl,⟨rfl,rfl,ad _,rfl,trivial⟩,trivial,trivial,trivial⟩,fun _=>rfl,?_⟩
 rintro x ⟨hx,hsp⟩
 refine ⟨fun h =>?_,fun h =>?_⟩
 ·have hlt:x<xs.length:=by have:=cc h;omega
  refine ⟨⟨Om,Om⟩,dF hlt,_,trivial,fun H' _ _=>qL _ H',fun h1 =>?_,fun h1 =>?_⟩
  ·rw[hsp,mP (d:=ar) hlt,if_neg (by simpa using h1)]
  ·refine ⟨v64 Om,x+1,⟨hlt,?_⟩,Om,rfl,⟨bu Om,rfl,ad _,rfl,trivial⟩,trivial,trivial,trivial⟩
   rw[hsp,mP (d:=ar) hlt,if_pos (by simpa using h1)]
 ·have hge:x=xs.length:=by have:=dG h;omega
  rw[hsp,hge,List.drop_length];rfl
theorem xN(xs:List Ice)(hn:xs.length<=2 ^ 30){H:Heap}{id:Nat}{own:Bool}{z:Nat}(hid:H[id]?=some (.cells own z (xs.flatMap bB))) :
  ak prog F.od [slQ id 2 xs.length] H [] (Is (slQ H.length 1 xs.length) (H ++ [.cells true 4 (xs.flatMap bB)])):=by
 have pf:∀(n:Nat) (l:List Ice),(l.flatMap bB).all (aw n)=true:=fun n l=>cD (fun _=>rfl) l
 refine Pc (css:=[xs.flatMap bB]) (Eq.mpr (Nv xs) ?_) (pf 0 xs) (cU (pf 0 xs)) [id] rfl (cT hid)
 delta IM tV jqd L3 nI slQ slN fk nw eR wR kbq ixq lq apq
 refine ⟨rfl,Nat.zero_le _,⟨rfl,⟨rfl,bx _ _ _ (.inl rfl),ad _,rfl,trivial⟩,trivial,⟨trivial,trivial⟩,trivial⟩,fun _=>rfl,?_⟩
 rintro x hx
 refine ⟨fun h =>?_,fun h =>?_⟩
 ·have hlt:x<xs.length:=by have:=cc h;omega
  have htl:(xs.take x).length=x:=by rw[List.length_take];omega
  refine ⟨⟨Om,Om⟩,dF hlt,⟨Om,by decide,⟨Nat.le_refl _,by rw[aK ui,htl];omega⟩,⟨by decide,Nat.le_refl _⟩,rfl⟩,rfl,v64 Om,x+1,hlt,Om,rfl,⟨bu Om,eJ Om,ad _,rfl,trivial⟩,trivial,⟨⟨?_,pf 1 _⟩,trivial⟩,trivial⟩
  rw[take_at (d:=ar) hlt]
  exact congrArg (fun l=>some (ah.cells true 4 l)) (cF ui (xs.take x) (xs.getD x ar) htl.symm)
 ·have hge:x=xs.length:=by have:=dG h;omega
  subst hge
  refine ⟨rfl,ad _,⟨⟨?_,pf 1 _⟩,trivial⟩⟩
  rw[List.take_length]
theorem cM(rate hours:Int)(h1:0<=rate/\rate<=1000)(h2:0<=hours/\hours<=10000)(H:Heap):ak prog F.m9 [nI rate,nI hours] H [] (Is (nI (chg rate hours)) H):=by
 refine cQ 40 (fun _=>rfl) rfl (Eq.mpr (IY _ rate hours) ?_) H
 have hb:=GR h1.1 h1.2 h2.1 h2.2
 have ht:Int.tdiv (rate*hours) 24=(rate*hours) / 24:=Int.tdiv_eq_ediv_of_nonneg Om
 delta A7 vj nI fk nw
 rw[ht]
 refine ⟨v64 Om,v64 Om,v64 Om,v64 Om,fun h=>⟨v64 Om,bu ?_⟩,fun h=>bu ?_⟩
 ·have:=cc h;unfold chg;omega
 ·have:=dG h;unfold chg;omega
theorem NV(c:Cell)(x:Ice)(H:Heap):ak prog F.qB [cellV c,Aa x] H [] (Is (.tuple #[.bool (vv c x).1,nI (vv c x).2]) H):=by
 refine cQ 40 (fun _=>rfl) rfl (Eq.mpr (OX _ c x) ?_) H
 delta Lg jql jqg nI fk c0q
 refine ⟨_,trivial,fun H' _ _=>dd c H',fun h0 =>?_,fun h0=>⟨_,trivial,fun H' _ _=>kO x H',fun h1 =>?_,fun h1 =>?_⟩⟩
 ·exact dR (HW (by simpa using h0))
 ·exact dR (HV (by simpa using h0) (by simpa using h1))
 ·have k0:ax c=0:=by simpa using h0
  have k1:bF x=0:=by simpa using h1
  simp only[decide_eq_true_eq,decide_eq_false_iff_not]
  repeat' (first|apply And.intro|intro _)
  all_goals first
   |exact dR (yf k0 k1 (decide_eq_false (by unfold oG pU;omega)))
   |exact dR (yf k0 k1 (decide_eq_true (by unfold oG pU;omega)))
theorem Dl(H:Heap):ak prog F.nT [] H [] (Is (cellV aO) H):=cQ 40 (fun _=>rfl) rfl (Eq.mpr (KD _) rfl) H
theorem G2(a b:Cell)(H:Heap):ak prog F.nc [cellV a,cellV b] H [] (Is (.tuple #[.bool (ia a b).1,nI (ia a b).2]) H):=by
 refine cQ 40 (fun _=>rfl) rfl (Eq.mpr (I3 _ a b) ?_) H
 delta Ba jqm jqn jqg nI fk c0q
 refine ⟨_,trivial,fun H' _ _=>dd a H',fun h0=>⟨vC h0,dR (wB (by simpa using h0))⟩,fun h0=>⟨_,trivial,fun H' _ _=>dd b H',fun h1=>dR (wA (by simpa using h0) (by simpa using h1)),fun h1 =>?_⟩⟩
 have k0:ax a=0:=by simpa using h0
 have k1:ax b=0:=by simpa using h1
 obtain ⟨ra1,ra2,ra3,ra4⟩:=fW.1 k0
 have q1:=ra1.2.2.1
 have q2:=ra2.2.2.1
 have q3:=ra3.2.2.1
 have q4:=ra4.2.2.1
 clear ra1 ra2 ra3 ra4 h0 h1
 simp only[decide_eq_true_eq,decide_eq_false_iff_not]
 repeat' (first|apply And.intro|intro _)
 all_goals first
  |exact dR (mO k0 k1 (decide_eq_false (by unfold oD pO;omega)))
  |exact dR (mO k0 k1 (decide_eq_true (by unfold oD pO;omega)))
theorem db{c:Bool}{v1 v2:Int}{S1 S2 R:Int->Prop}(h1:S1 v1)(h2:S2 v2)(hr:∀x,x=(if c=true then v1 else v2)->R x) :
  (true=true/\(c=true->∃x':Int,((c=true/\x'=v1/\True)∨(c=false/\x'=v2/\True))/\S1 x')/\(c=false->∃x':Int,((c=true/\x'=v1/\True)∨(c=false/\x'=v2/\True))/\S2 x') /\
   ∀x:Int,((c=true/\x=v1/\True)∨(c=false/\x=v2/\True))->R x):=by
 refine ⟨rfl,fun h=>⟨v1,.inl ⟨h,rfl,trivial⟩,h1⟩,fun h=>⟨v2,.inr ⟨h,rfl,trivial⟩,h2⟩,fun x hx=>hr x ?_⟩
 rcases hx with ⟨h,rfl,_⟩|⟨h,rfl,_⟩
 ·rw[if_pos h]
 ·rw[if_neg (by rw[h];decide)]
theorem LM(a b:Cell)(H:Heap):ak prog F.pi [cellV a,cellV b] H [] (Is (.tuple #[cellV (jy a b).1,nI (jy a b).2]) H):=by
 refine cQ 40 (fun _=>rfl) rfl (Eq.mpr (Ni _ a b) ?_) H
 delta IB jqm jqc jqn jq3 jq0 jqu jqy jqj jqv jqo jqz jqp jqq Fm jqr jqs Fl jqt jqh nI pt fk eR kbq c0q
 refine ⟨_,trivial,fun H' _ _=>dd a H',fun h0=>⟨vC h0,ej (DI (by simpa using h0))⟩,fun h0=>⟨_,trivial,fun H' _ _=>dd b H',fun h1=>ej (DH (by simpa using h0) (by simpa using h1)),fun h1 =>?_⟩⟩
 have k0:ax a=0:=by simpa using h0
 have k1:ax b=0:=by simpa using h1
 obtain ⟨ra1,ra2,ra3,ra4⟩:=fW.1 k0
 obtain ⟨rb1,rb2,rb3,rb4⟩:=fW.1 k1
 have p1:=ra1.2.2.1
 have p2:=ra2.2.2.1
 have p3:=ra3.2.2.1
 have p4:=ra4.2.2.1
 have q1:=rb1.2.2.1
 have q2:=rb2.2.2.1
 have q3:=rb3.2.2.1
 have q4:=rb4.2.2.1
 clear ra1 ra2 ra3 ra4 rb1 rb2 rb3 rb4 h0 h1
 have bad:∀{n:Int},n=21->(¬ okC (bK a b))->(Value.tuple #[.agg #[nI 0,nI 0,nI 0,nI 0,nI 0,nI 0,nI 0,nI 0],nI n]) = .tuple #[cellV (jy a b).1,nI (jy a b).2]:=fun hn hb=>by subst hn;exact ej (DG k0 k1 hb)
 refine ⟨fun h=>bad rfl (fun o=>by have:=cc h;have:=o.1;simp only[bK,fS]at this;omega),fun c1 =>?_⟩
 refine ⟨fun h=>bad rfl (fun o=>by have:=cc h;have:=o.1;simp only[bK,fS]at this;omega),fun c2 =>?_⟩
 refine ⟨fun h=>bad rfl (fun o=>by have:=cc h;have:=o.2.1;simp only[bK,fS]at this;omega),fun c3 =>?_⟩
 refine ⟨fun h=>bad rfl (fun o=>by have:=cc h;have:=o.2.1;simp only[bK,fS]at this;omega),fun c4 =>?_⟩
 refine ⟨fun h=>bad rfl (fun o=>by have:=cc h;have:=o.2.2.1;simp only[bK,fS]at this;omega),fun c5 =>?_⟩
 refine ⟨fun h=>bad rfl (fun o=>by have:=cc h;have:=o.2.2.1;simp only[bK,fS]at this;omega),fun c6 =>?_⟩
 refine ⟨fun h=>bad rfl (fun o=>by have:=cc h;have:=o.2.2.2;simp only[bK,fS]at this;omega),fun c7 =>?_⟩
 refine ⟨fun h=>bad rfl (fun o=>by have:=cc h;have:=o.2.2.2;simp only[bK,fS]at this;omega),fun c8 =>?_⟩
 simp only[decide_eq_false_iff_not]at c1 c2 c3 c4 c5 c6 c7 c8
 have hok:okC (bK a b):=by
  refine ⟨?_,?_,?_,?_⟩ <;> simp only[bK,fS]
  ·clear p2 p3 p4 q2 q3 q4;omega
  ·clear p1 p3 p4 q1 q3 q4;omega
  ·clear p1 p2 p4 q1 q2 q4;omega
  ·clear p1 p2 p3 q1 q2 q3;omega
 refine db (by repeat' (first|exact trivial|exact rfl|constructor)) (by repeat' (first|exact trivial|exact rfl|constructor)) fun x1 e1 =>?_
 refine db (by repeat' (first|exact trivial|exact rfl|constructor)) (by repeat' (first|exact trivial|exact rfl|constructor)) fun x2 e2 =>?_
 refine db (by repeat' (first|exact trivial|exact rfl|constructor)) (by repeat' (first|exact trivial|exact rfl|constructor)) fun x3 e3 =>?_
 refine db (by repeat' (first|exact trivial|exact rfl|constructor)) (by repeat' (first|exact trivial|exact rfl|constructor)) fun x4 e4 =>?_
 refine db (by repeat' (first|exact trivial|exact rfl|constructor)) (by repeat' (first|exact trivial|exact rfl|constructor)) fun x5 e5 =>?_
 refine db (by repeat' (first|exact trivial|exact rfl|constructor)) (by repeat' (first|exact trivial|exact rfl|constructor)) fun x6 e6 =>?_
 refine db (by repeat' (first|exact trivial|exact rfl|constructor)) (by repeat' (first|exact trivial|exact rfl|constructor)) fun x7 e7 =>?_
 refine db (by repeat' (first|exact trivial|exact rfl|constructor)) (by repeat' (first|exact trivial|exact rfl|constructor)) fun x8 e8 =>?_
 refine ej ((DF k0 k1 hok).trans ?_)
 simp only[decide_eq_true_eq]at e1 e2 e3 e4 e5 e6 e7 e8
 have m1:max a.ae.lo b.ae.lo=x1:=by rw[e1];split <;> omega
 have m2:min a.ae.hi b.ae.hi=x2:=by rw[e2];split <;> omega
 have m3:max a.ab.lo b.ab.lo=x3:=by rw[e3];split <;> omega
 have m4:min a.ab.hi b.ab.hi=x4:=by rw[e4];split <;> omega
 have m5:max a.aa.lo b.aa.lo=x5:=by rw[e5];split <;> omega
 have m6:min a.aa.hi b.aa.hi=x6:=by rw[e6];split <;> omega
 have m7:max a.ac.lo b.ac.lo=x7:=by rw[e7];split <;> omega
 have m8:min a.ac.hi b.ac.hi=x8:=by rw[e8];split <;> omega
 unfold bK fS
 rw[m1,m2,m3,m4,m5,m6,m7,m8]
theorem LN(a b:Cell)(H:Heap):ak prog F.pj [cellV a,cellV b] H [] (Is (.tuple #[cellV (nG a b).1,nI (nG a b).2]) H):=by
 refine cQ 40 (fun _=>rfl) rfl (Eq.mpr (Nj _ a b) ?_) H
 delta IC jqm jqc jqn jq0 jqu jqy jqj jqv jqo jqz jqp jqq Fm jqr jqs Fl jqt jqh nI pt fk eR kbq c0q
 refine ⟨_,trivial,fun H' _ _=>dd a H',fun h0=>⟨vC h0,ej (DO (by simpa using h0))⟩,fun h0=>⟨_,trivial,fun H' _ _=>dd b H',fun h1=>ej (DN (by simpa using h0) (by simpa using h1)),fun h1 =>?_⟩⟩
 have k0:ax a=0:=by simpa using h0
 have k1:ax b=0:=by simpa using h1
 refine db (by repeat' (first|exact trivial|exact rfl|constructor)) (by repeat' (first|exact trivial|exact rfl|constructor)) fun x1 e1 =>?_
 refine db (by repeat' (first|exact trivial|exact rfl|constructor)) (by repeat' (first|exact trivial|exact rfl|constructor)) fun x2 e2 =>?_
 refine db (by repeat' (first|exact trivial|exact rfl|constructor)) (by repeat' (first|exact trivial|exact rfl|constructor)) fun x3 e3 =>?_
 refine db (by repeat' (first|exact trivial|exact rfl|constructor)) (by repeat' (first|exact trivial|exact rfl|constructor)) fun x4 e4 =>?_
 refine db (by repeat' (first|exact trivial|exact rfl|constructor)) (by repeat' (first|exact trivial|exact rfl|constructor)) fun x5 e5 =>?_
 refine db (by repeat' (first|exact trivial|exact rfl|constructor)) (by repeat' (first|exact trivial|exact rfl|constructor)) fun x6 e6 =>?_
 refine db (by repeat' (first|exact trivial|exact rfl|constructor)) (by repeat' (first|exact trivial|exact rfl|constructor)) fun x7 e7 =>?_
 refine db (by repeat' (first|exact trivial|exact rfl|constructor)) (by repeat' (first|exact trivial|exact rfl|constructor)) fun x8 e8 =>?_
 refine ej ((DM k0 k1).trans ?_)
 simp only[decide_eq_true_eq]at e1 e2 e3 e4 e5 e6 e7 e8
 have m1:min a.ae.lo b.ae.lo=x1:=by rw[e1];split <;> omega
 have m2:max a.ae.hi b.ae.hi=x2:=by rw[e2];split <;> omega
 have m3:min a.ab.lo b.ab.lo=x3:=by rw[e3];split <;> omega
 have m4:max a.ab.hi b.ab.hi=x4:=by rw[e4];split <;> omega
 have m5:min a.aa.lo b.aa.lo=x5:=by rw[e5];split <;> omega
 have m6:max a.aa.hi b.aa.hi=x6:=by rw[e6];split <;> omega
 have m7:min a.ac.lo b.ac.lo=x7:=by rw[e7];split <;> omega
 have m8:max a.ac.hi b.ac.hi=x8:=by rw[e8];split <;> omega
 unfold wx Aj
 rw[m1,m2,m3,m4,m5,m6,m7,m8]
theorem NW(c:Cell)(m:af)(h:Int)(H:Heap):ak prog F.qC [cellV c,ao m,nI h] H [] (Is (.tuple #[cellV (sj c m h).1,nI (sj c m h).2]) H):=by
 refine cQ 40 (fun _=>rfl) rfl (Eq.mpr (OY _ c m h) ?_) H
 delta Lh jql jqc jqx jq3 jqb jq2 jqj jq6 jqf jqa jq5 jq7 jq4 jq8 jq9 nI pt fk nw eR kbq c0q
 refine ⟨_,trivial,fun H' _ _=>dd c H',fun h0=>ej (H5 (by simpa using h0)),fun h0=>⟨_,trivial,fun H' _ _=>fh m H',fun h1=>ej (HZ (by simpa using h0) (by simpa using h1)),fun h1 =>?_⟩⟩
 have k0:ax c=0:=by simpa using h0
 have k1:aM m=0:=by simpa using h1
 refine ⟨fun h2=>ej (yj k0 k1 (by have:=cc h2;omega)),fun h2=>⟨fun h3=>ej (yj k0 k1 (by have:=cc h3;omega)),fun h3 =>?_⟩⟩
 replace h2:0<=h:=by have:=dG h2;omega
 replace h3:h<=10000:=by have:=dG h3;omega
 obtain ⟨⟨u1,u2,u3,u4⟩,d1,d2,d3,d4⟩:=dc.1 k1
 obtain ⟨c1,c2,c3,c4⟩:=fW.1 k0
 unfold bz at c1 c2 c3 c4
 have bd:=fun (r:Int) (hr:0<=r/\r<=1000)=>cx hr ⟨h2,h3⟩
 have b1:=bd _ u1;have b2:=bd _ u2;have b3:=bd _ u3;have b4:=bd _ u4
 have e1:=bd _ d1;have e2:=bd _ d2;have e3:=bd _ d3;have e4:=bd _ d4
 refine ⟨_,trivial,fun H' _ _=>cM _ _ d1 ⟨h2,h3⟩ H',v64 Om,_,trivial,fun H' _ _=>cM _ _ u1 ⟨h2,h3⟩ H',v64 Om,?_⟩
 refine db (by repeat' (first|exact trivial|exact rfl|constructor)) (by repeat' (first|exact trivial|exact rfl|constructor)) fun x1 f1 =>?_
 refine db (by repeat' (first|exact trivial|exact rfl|constructor)) (by repeat' (first|exact trivial|exact rfl|constructor)) fun x2 f2 =>?_
 refine ⟨_,trivial,fun H' _ _=>cM _ _ d2 ⟨h2,h3⟩ H',v64 Om,_,trivial,fun H' _ _=>cM _ _ u2 ⟨h2,h3⟩ H',v64 Om,?_⟩
 refine db (by repeat' (first|exact trivial|exact rfl|constructor)) (by repeat' (first|exact trivial|exact rfl|constructor)) fun x3 f3 =>?_
 refine db (by repeat' (first|exact trivial|exact rfl|constructor)) (by repeat' (first|exact trivial|exact rfl|constructor)) fun x4 f4 =>?_
 refine ⟨_,trivial,fun H' _ _=>cM _ _ d3 ⟨h2,h3⟩ H',v64 Om,_,trivial,fun H' _ _=>cM _ _ u3 ⟨h2,h3⟩ H',v64 Om,?_⟩
 refine db (by repeat' (first|exact trivial|exact rfl|constructor)) (by repeat' (first|exact trivial|exact rfl|constructor)) fun x5 f5 =>?_
 refine db (by repeat' (first|exact trivial|exact rfl|constructor)) (by repeat' (first|exact trivial|exact rfl|constructor)) fun x6 f6 =>?_
 refine ⟨_,trivial,fun H' _ _=>cM _ _ d4 ⟨h2,h3⟩ H',v64 Om,_,trivial,fun H' _ _=>cM _ _ u4 ⟨h2,h3⟩ H',v64 Om,?_⟩
 refine db (by repeat' (first|exact trivial|exact rfl|constructor)) (by repeat' (first|exact trivial|exact rfl|constructor)) fun x7 f7 =>?_
 refine db (by repeat' (first|exact trivial|exact rfl|constructor)) (by repeat' (first|exact trivial|exact rfl|constructor)) fun x8 f8 =>?_
 refine ej ((HY k0 k1 ⟨h2,h3⟩).trans ?_)
 simp only[decide_eq_true_eq]at f1 f2 f3 f4 f5 f6 f7 f8
 have m1:max (c.ae.lo-chg m.down.ae h) 0=x1:=by rw[f1];split <;> omega
 have m2:min (c.ae.hi+chg m.up.ae h) 100=x2:=by rw[f2];split <;> omega
 have m3:max (c.ab.lo-chg m.down.ab h) 0=x3:=by rw[f3];split <;> omega
 have m4:min (c.ab.hi+chg m.up.ab h) 400=x4:=by rw[f4];split <;> omega
 have m5:max (c.aa.lo-chg m.down.aa h) 0=x5:=by rw[f5];split <;> omega
 have m6:min (c.aa.hi+chg m.up.aa h) 100=x6:=by rw[f6];split <;> omega
 have m7:max (c.ac.lo-chg m.down.ac h) 0=x7:=by rw[f7];split <;> omega
 have m8:min (c.ac.hi+chg m.up.ac h) 3=x8:=by rw[f8];split <;> omega
 unfold nu CB
 rw[m1,m2,m3,m4,m5,m6,m7,m8]
end
end Go.Proofs.YthcjliffpebjaaaGreat
namespace Go.Proofs.YthcjliffpebjaaaGreat
noncomputable section
def zd(m:af)(x y:Ice)(h:Int):Prop :=
 (x.ae-chg m.down.ae h<=y.ae/\y.ae<=x.ae+chg m.up.ae h)/\(x.ab-chg m.down.ab h<=y.ab/\y.ab<=x.ab+chg m.up.ab h) /\
 (x.aa-chg m.down.aa h<=y.aa/\y.aa<=x.aa+chg m.up.aa h)/\(x.ac-chg m.down.ac h<=y.ac/\y.ac<=x.ac+chg m.up.ac h)
def row(xs:List Ice)(m:af)(t n:Nat):Prop:=∀s,s<n->zd m (xs.getD s ar) (xs.getD t ar) ((t:Int)-(s:Int))
def upto(xs:List Ice)(m:af)(n:Nat):Prop:=∀t,t<n->row xs m t t
open Classical in
def cA(xs:List Ice)(m:af):Bool×Int :=
 if 400<xs.length then (false,2) else if cX (errs bF xs) (aM m)=0 then (decide (upto xs m xs.length),0) else (false,cX (errs bF xs) (aM m))
end
end Go.Proofs.YthcjliffpebjaaaGreat
