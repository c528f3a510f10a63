/- Ice: what all texts share. No condition. -/
import Derived.Test.YthcjliffpebjaaaGreatN
import Derived.IntWalk
import Derived.Test.YthcjliffpebjaaaGreatGV11xV14
open Go Go.K
set_option maxRecDepth 1000000
set_option maxHeartbeats 4000000
set_option linter.unusedVariables false
set_option linter.unusedSimpArgs false
namespace Go.Proofs.YthcjliffpebjaaaGreat
noncomputable section
attribute [local irreducible] vF
def dm(imp:Nat):Value->MS
 | .func (.func f) _ _=>cond (Nat.testBit imp f) none (some [])
 | .func (.yield _) _ _=>none
 |_=>some []
theorem fl{a b:Int}(h:a=b):(Value.int .i64 a) = .int .i64 b:=by rw[h]
structure Span where
 lo:Int
 hi:Int
structure Cell where
 ag:Span
 ad:Span
 ac:Span
 ab:Span
structure Ice where
 ag:Int
 ad:Int
 ac:Int
 ab:Int
structure aR where
 up:Ice
 down:Ice
structure Report where
 id:Int
 source:Int
 at_:Int
 x:Int
 y:Int
 has:Int
 cell:Cell
abbrev dr(x:Ice):List Value:=[.int .i64 x.ag,.int .i64 x.ad,.int .i64 x.ac,.int .i64 x.ab]
abbrev cellC(c:Cell):List Value:=[.int .i64 c.ag.lo,.int .i64 c.ag.hi,.int .i64 c.ad.lo,.int .i64 c.ad.hi,.int .i64 c.ac.lo,.int .i64 c.ac.hi,.int .i64 c.ab.lo,.int .i64 c.ab.hi]
abbrev vn(m:aR):List Value:=[.int .i64 m.up.ag,.int .i64 m.up.ad,.int .i64 m.up.ac,.int .i64 m.up.ab,.int .i64 m.down.ag,.int .i64 m.down.ad,.int .i64 m.down.ac,.int .i64 m.down.ab]
abbrev bu(r:Report):List Value:=[.int .i64 r.id,.int .i64 r.source,.int .i64 r.at_,.int .i64 r.x,.int .i64 r.y,.int .i64 r.has]++cellC r.cell
abbrev vS(x:Ice):Value:=.agg ⟨dr x⟩
abbrev cellV(c:Cell):Value:=.agg ⟨cellC c⟩
abbrev cn(m:aR):Value:=.agg ⟨vn m⟩
theorem fL{f:FuncId}{args:List Value}{h:Hint}{v:Value}(n:Nat)(hargs:∀U,args.map (rn U 5)=args)(hv:b7 0 v=true)
  (hc:vF prog msk (dm 0) 100000 true n true f args ⟨0,.leaf⟩ (some []) h (fun v' _ _=>v'=v)) (H:Heap):ai prog f args H [] (Is v H) :=
 vcP nu mixed n hargs hv (by rw[dQ];exact hc) H (by rw[dQ];exact Nat.zero_le _)
def mK(sp:Value)(c:Cell):Prop :=
 (((decide ((0:Int)<=c.ag.lo))=true->(((decide ((c.ag.lo:Int)<=100))=true->(((decide ((c.ag.lo:Int)<=c.ag.hi))=true->(((!(decide ((c.ag.hi:Int)<=100)))=true->(.int .i64 20:Value)=sp)/\((!(decide ((c.ag.hi:Int)<=100)))=false->(((decide ((0:Int)<=c.ad.lo))=true->(((decide ((c.ad.lo:Int)<=400))=true->(((decide ((c.ad.lo:Int)<=c.ad.hi))=true->(((!(decide ((c.ad.hi:Int)<=400)))=true->(.int .i64 20:Value)=sp)/\((!(decide ((c.ad.hi:Int)<=400)))=false->(((decide ((0:Int)<=c.ac.lo))=true->(((decide ((c.ac.lo:Int)<=100))=true->(((decide ((c.ac.lo:Int)<=c.ac.hi))=true->(((!(decide ((c.ac.hi:Int)<=100)))=true->(.int .i64 20:Value)=sp)/\((!(decide ((c.ac.hi:Int)<=100)))=false->(((decide ((0:Int)<=c.ab.lo))=true->(((decide ((c.ab.lo:Int)<=3))=true->(((decide ((c.ab.lo:Int)<=c.ab.hi))=true->(((!(decide ((c.ab.hi:Int)<=3)))=true->(.int .i64 20:Value)=sp)/\((!(decide ((c.ab.hi:Int)<=3)))=false->(.int .i64 0:Value)=sp)))/\((decide ((c.ab.lo:Int)<=c.ab.hi))=false->(.int .i64 20:Value)=sp)))/\((decide ((c.ab.lo:Int)<=3))=false->(.int .i64 20:Value)=sp)))/\((decide ((0:Int)<=c.ab.lo))=false->(.int .i64 20:Value)=sp)))))/\((decide ((c.ac.lo:Int)<=c.ac.hi))=false->(.int .i64 20:Value)=sp)))/\((decide ((c.ac.lo:Int)<=100))=false->(.int .i64 20:Value)=sp)))/\((decide ((0:Int)<=c.ac.lo))=false->(.int .i64 20:Value)=sp)))))/\((decide ((c.ad.lo:Int)<=c.ad.hi))=false->(.int .i64 20:Value)=sp)))/\((decide ((c.ad.lo:Int)<=400))=false->(.int .i64 20:Value)=sp)))/\((decide ((0:Int)<=c.ad.lo))=false->(.int .i64 20:Value)=sp)))))/\((decide ((c.ag.lo:Int)<=c.ag.hi))=false->(.int .i64 20:Value)=sp)))/\((decide ((c.ag.lo:Int)<=100))=false->(.int .i64 20:Value)=sp)))/\((decide ((0:Int)<=c.ag.lo))=false->(.int .i64 20:Value)=sp))
theorem sV(sp:Value)(c:Cell):vF prog msk (dm 0) 100000 true 40 true 27 [.agg #[.int .i64 c.ag.lo,.int .i64 c.ag.hi,.int .i64 c.ad.lo,.int .i64 c.ad.hi,.int .i64 c.ac.lo,.int .i64 c.ac.hi,.int .i64 c.ab.lo,.int .i64 c.ab.hi]] ⟨0,.leaf⟩ (some [])
 (.go 54 (.ax (.go 5 (.ax (.go 15 (.ax (.go 8 (.fork (.auto) (.go 30 (.ax (.go 5 (.ax (.go 15 (.ax (.go 8 (.fork (.auto) (.go 30 (.ax (.go 5 (.ax (.go 15 (.ax (.go 8 (.fork (.auto) (.go 30 (.ax (.go 5 (.ax (.go 15 (.ax (.go 8 (.fork (.auto) (.auto))) (.auto))) (.auto))) (.auto))))) (.auto))) (.auto))) (.auto))))) (.auto))) (.auto))) (.auto))))) (.auto))) (.auto))) (.auto)))
 (fun v _ _=>v=sp)=mK sp c:=by kernel_rfl
def oh(sp:Value)(x:Ice):Prop :=
 (((decide ((0:Int)<=x.ag))=true->(((!(decide ((x.ag:Int)<=100)))=true->(.int .i64 20:Value)=sp)/\((!(decide ((x.ag:Int)<=100)))=false->(((decide ((0:Int)<=x.ad))=true->(((!(decide ((x.ad:Int)<=400)))=true->(.int .i64 20:Value)=sp)/\((!(decide ((x.ad:Int)<=400)))=false->(((decide ((0:Int)<=x.ac))=true->(((!(decide ((x.ac:Int)<=100)))=true->(.int .i64 20:Value)=sp)/\((!(decide ((x.ac:Int)<=100)))=false->(((decide ((0:Int)<=x.ab))=true->(((!(decide ((x.ab:Int)<=3)))=true->(.int .i64 20:Value)=sp)/\((!(decide ((x.ab:Int)<=3)))=false->(.int .i64 0:Value)=sp)))/\((decide ((0:Int)<=x.ab))=false->(.int .i64 20:Value)=sp)))))/\((decide ((0:Int)<=x.ac))=false->(.int .i64 20:Value)=sp)))))/\((decide ((0:Int)<=x.ad))=false->(.int .i64 20:Value)=sp)))))/\((decide ((0:Int)<=x.ag))=false->(.int .i64 20:Value)=sp))
theorem uV(sp:Value)(x:Ice):vF prog msk (dm 0) 100000 true 40 true 29 [.agg #[.int .i64 x.ag,.int .i64 x.ad,.int .i64 x.ac,.int .i64 x.ab]] ⟨0,.leaf⟩ (some [])
 (.go 48 (.ax (.go 6 (.fork (.auto) (.go 24 (.ax (.go 6 (.fork (.auto) (.go 24 (.ax (.go 6 (.fork (.auto) (.go 24 (.ax (.go 6 (.fork (.auto) (.auto))) (.auto))))) (.auto))))) (.auto))))) (.auto)))
 (fun v _ _=>v=sp)=oh sp x:=by kernel_rfl
def kC(sp:Value)(m:aR):Prop :=
 (((decide ((0:Int)<=m.up.ag))=true->(((decide ((m.up.ag:Int)<=1000))=true->(((decide ((0:Int)<=m.down.ag))=true->(((!(decide ((m.down.ag:Int)<=1000)))=true->(.int .i64 6:Value)=sp)/\((!(decide ((m.down.ag:Int)<=1000)))=false->(((decide ((0:Int)<=m.up.ad))=true->(((decide ((m.up.ad:Int)<=1000))=true->(((decide ((0:Int)<=m.down.ad))=true->(((!(decide ((m.down.ad:Int)<=1000)))=true->(.int .i64 6:Value)=sp)/\((!(decide ((m.down.ad:Int)<=1000)))=false->(((decide ((0:Int)<=m.up.ac))=true->(((decide ((m.up.ac:Int)<=1000))=true->(((decide ((0:Int)<=m.down.ac))=true->(((!(decide ((m.down.ac:Int)<=1000)))=true->(.int .i64 6:Value)=sp)/\((!(decide ((m.down.ac:Int)<=1000)))=false->(((decide ((0:Int)<=m.up.ab))=true->(((decide ((m.up.ab:Int)<=1000))=true->(((decide ((0:Int)<=m.down.ab))=true->(((!(decide ((m.down.ab:Int)<=1000)))=true->(.int .i64 6:Value)=sp)/\((!(decide ((m.down.ab:Int)<=1000)))=false->(.int .i64 0:Value)=sp)))/\((decide ((0:Int)<=m.down.ab))=false->(.int .i64 6:Value)=sp)))/\((decide ((m.up.ab:Int)<=1000))=false->(.int .i64 6:Value)=sp)))/\((decide ((0:Int)<=m.up.ab))=false->(.int .i64 6:Value)=sp)))))/\((decide ((0:Int)<=m.down.ac))=false->(.int .i64 6:Value)=sp)))/\((decide ((m.up.ac:Int)<=1000))=false->(.int .i64 6:Value)=sp)))/\((decide ((0:Int)<=m.up.ac))=false->(.int .i64 6:Value)=sp)))))/\((decide ((0:Int)<=m.down.ad))=false->(.int .i64 6:Value)=sp)))/\((decide ((m.up.ad:Int)<=1000))=false->(.int .i64 6:Value)=sp)))/\((decide ((0:Int)<=m.up.ad))=false->(.int .i64 6:Value)=sp)))))/\((decide ((0:Int)<=m.down.ag))=false->(.int .i64 6:Value)=sp)))/\((decide ((m.up.ag:Int)<=1000))=false->(.int .i64 6:Value)=sp)))/\((decide ((0:Int)<=m.up.ag))=false->(.int .i64 6:Value)=sp))
theorem rz(sp:Value)(m:aR):vF prog msk (dm 0) 100000 true 40 true 31 [.agg #[.int .i64 m.up.ag,.int .i64 m.up.ad,.int .i64 m.up.ac,.int .i64 m.up.ab,.int .i64 m.down.ag,.int .i64 m.down.ad,.int .i64 m.down.ac,.int .i64 m.down.ab]] ⟨0,.leaf⟩ (some [])
 (.go 60 (.ax (.go 5 (.ax (.go 8 (.ax (.go 7 (.fork (.auto) (.go 18 (.ax (.go 5 (.ax (.go 8 (.ax (.go 7 (.fork (.auto) (.go 18 (.ax (.go 5 (.ax (.go 8 (.ax (.go 7 (.fork (.auto) (.go 18 (.ax (.go 5 (.ax (.go 8 (.ax (.go 7 (.fork (.auto) (.auto))) (.auto))) (.auto))) (.auto))))) (.auto))) (.auto))) (.auto))))) (.auto))) (.auto))) (.auto))))) (.auto))) (.auto))) (.auto)))
 (fun v _ _=>v=sp)=kC sp m:=by kernel_rfl
def yd(sp:Value)(x n:Int):Prop :=
 (((decide ((n:Int)<1))=true->(.int .i64 0:Value)=sp)/\((decide ((n:Int)<1))=false->(((n:Int)≠0)/\(((decide (((Int.tmod x n):Int)<0))=true->((.int .i64 (IntKind.wrap .i64 ((Int.tmod x n)+n)):Value) = .int .i64 ((Int.tmod x n)+n)/\(.int .i64 ((Int.tmod x n)+n):Value)=sp))/\((decide (((Int.tmod x n):Int)<0))=false->(.int .i64 (Int.tmod x n):Value)=sp)))))
theorem Av(sp:Value)(x n:Int):vF prog msk (dm 0) 100000 true 40 true 67 [.int .i64 x,.int .i64 n] ⟨0,.leaf⟩ (some [])
 (.go 2 (.fork (.auto) (.go 1 (.need (.go 2 (.fork (.go 2 (.slot 15 (.int .i64 ((Int.tmod x n)+n)) (.auto))) (.auto)))))))
 (fun v _ _=>v=sp)=yd sp x n:=by kernel_rfl
def tT(sp:Value)(rate hours:Int):Prop :=
 ((.int .i64 (IntKind.wrap .i64 (rate*hours)):Value) = .int .i64 (rate*hours)/\((.int .i64 (IntKind.wrap .i64 ((rate*hours)+24)):Value) = .int .i64 ((rate*hours)+24)/\((.int .i64 (IntKind.wrap .i64 (((rate*hours)+24)-1)):Value) = .int .i64 (((rate*hours)+24)-1)/\((.int .i64 (IntKind.wrap .i64 (Int.tdiv (((rate*hours)+24)-1) 24)):Value) = .int .i64 (Int.tdiv (((rate*hours)+24)-1) 24)/\(.int .i64 (Int.tdiv (((rate*hours)+24)-1) 24):Value)=sp))))
theorem xL(sp:Value)(rate hours:Int):vF prog msk (dm 0) 100000 true 40 true 149 [.int .i64 rate,.int .i64 hours] ⟨0,.leaf⟩ (some [])
 (.go 3 (.slot 7 (.int .i64 (rate*hours)) (.go 0 (.slot 8 (.int .i64 ((rate*hours)+24)) (.go 0 (.slot 9 (.int .i64 (((rate*hours)+24)-1)) (.go 0 (.slot 10 (.int .i64 (Int.tdiv (((rate*hours)+24)-1) 24)) (.auto)))))))))
 (fun v _ _=>v=sp)=tT sp rate hours:=by kernel_rfl
def As(sp:Value)(c:Cell)(x:Ice):Prop :=
 (∃r0:Int,((True)/\(∀H':Heap,H'.length=2->(True)->ai prog 27 [.agg #[.int .i64 c.ag.lo,.int .i64 c.ag.hi,.int .i64 c.ad.lo,.int .i64 c.ad.hi,.int .i64 c.ac.lo,.int .i64 c.ac.hi,.int .i64 c.ab.lo,.int .i64 c.ab.hi]] H' [] (Is (.int .i64 r0) H'))/\(∃r1:Int,((True)/\(∀H':Heap,H'.length=2->(True)->ai prog 29 [.agg #[.int .i64 x.ag,.int .i64 x.ad,.int .i64 x.ac,.int .i64 x.ab]] H' [] (Is (.int .i64 r1) H'))/\((((r0:Int) != 0)=true->((.bool ((r0:Int) != 0):Value) = .bool true/\(.tuple #[.bool false,.int .i64 r0]:Value)=sp))/\(((r0:Int) != 0)=false->((((r1:Int) != 0)=true->((.bool ((r1:Int) != 0):Value) = .bool true/\(.tuple #[.bool false,.int .i64 r1]:Value)=sp))/\(((r1:Int) != 0)=false->(((decide ((c.ag.lo:Int)<=x.ag))=true->(((!(decide ((x.ag:Int)<=c.ag.hi)))=true->(.tuple #[.bool false,.int .i64 0]:Value)=sp)/\((!(decide ((x.ag:Int)<=c.ag.hi)))=false->(((decide ((c.ad.lo:Int)<=x.ad))=true->(((!(decide ((x.ad:Int)<=c.ad.hi)))=true->(.tuple #[.bool false,.int .i64 0]:Value)=sp)/\((!(decide ((x.ad:Int)<=c.ad.hi)))=false->(((decide ((c.ac.lo:Int)<=x.ac))=true->(((!(decide ((x.ac:Int)<=c.ac.hi)))=true->(.tuple #[.bool false,.int .i64 0]:Value)=sp)/\((!(decide ((x.ac:Int)<=c.ac.hi)))=false->(((decide ((c.ab.lo:Int)<=x.ab))=true->(((!(decide ((x.ab:Int)<=c.ab.hi)))=true->(.tuple #[.bool false,.int .i64 0]:Value)=sp)/\((!(decide ((x.ab:Int)<=c.ab.hi)))=false->(.tuple #[.bool true,.int .i64 0]:Value)=sp)))/\((decide ((c.ab.lo:Int)<=x.ab))=false->(.tuple #[.bool false,.int .i64 0]:Value)=sp)))))/\((decide ((c.ac.lo:Int)<=x.ac))=false->(.tuple #[.bool false,.int .i64 0]:Value)=sp)))))/\((decide ((c.ad.lo:Int)<=x.ad))=false->(.tuple #[.bool false,.int .i64 0]:Value)=sp)))))/\((decide ((c.ag.lo:Int)<=x.ag))=false->(.tuple #[.bool false,.int .i64 0]:Value)=sp))))))))))
theorem A0(sp:Value)(c:Cell)(x:Ice):vF prog msk (dm 0) 100000 true 40 true 35 [.agg #[.int .i64 c.ag.lo,.int .i64 c.ag.hi,.int .i64 c.ad.lo,.int .i64 c.ad.hi,.int .i64 c.ac.lo,.int .i64 c.ac.hi,.int .i64 c.ab.lo,.int .i64 c.ab.hi],.agg #[.int .i64 x.ag,.int .i64 x.ad,.int .i64 x.ac,.int .i64 x.ab]] ⟨0,.leaf⟩ (some [])
 (.go 5 (.bind (Int) (fun r0 => .ans [] (.int .i64 r0) [] (.bind (Int) (fun r1 => .ans [] (.int .i64 r1) [] (.go 12 (.fork (.go 4 (.slot 14 (.bool true) (.auto))) (.go 8 (.fork (.go 4 (.slot 14 (.bool true) (.auto))) (.go 76 (.ax (.go 6 (.fork (.auto) (.go 26 (.ax (.go 6 (.fork (.auto) (.go 26 (.ax (.go 6 (.fork (.auto) (.go 26 (.ax (.go 6 (.fork (.auto) (.auto))) (.auto))))) (.auto))))) (.auto))))) (.auto))))))))))))
 (fun v _ _=>v=sp)=As sp c x:=by kernel_rfl
def ze(sp:Value)  : Prop :=
 (.agg #[.int .i64 0,.int .i64 100,.int .i64 0,.int .i64 400,.int .i64 0,.int .i64 100,.int .i64 0,.int .i64 3]:Value)=sp
theorem zm (sp : Value)  : vF prog msk (dm 0) 100000 true 40 true 33 [] ⟨0, .leaf⟩ (some [])
  (.auto)
  (fun v _ _ => v = sp) = ze sp  := by kernel_rfl
def bF(s:Span)(m:Int):Prop:=0<=s.lo/\s.lo<=m/\s.lo<=s.hi/\s.hi<=m
def bG(c:Cell):Prop:=bF c.ag 100/\bF c.ad 400/\bF c.ac 100/\bF c.ab 3
def cm(x:Ice):Prop:=(0<=x.ag/\x.ag<=100)/\(0<=x.ad/\x.ad<=400)/\(0<=x.ac/\x.ac<=100)/\0<=x.ab/\x.ab<=3
def ir(x:Ice):Prop:=(0<=x.ag/\x.ag<=1000)/\(0<=x.ad/\x.ad<=1000)/\(0<=x.ac/\x.ac<=1000)/\0<=x.ab/\x.ab<=1000
def cb(m:aR):Prop:=ir m.up/\ir m.down
instance (s:Span) (m:Int):Decidable (bF s m):=by unfold bF;infer_instance
instance (c:Cell):Decidable (bG c):=by unfold bG;infer_instance
instance (x:Ice):Decidable (cm x):=by unfold cm;infer_instance
instance (x:Ice):Decidable (ir x):=by unfold ir;infer_instance
instance (m:aR):Decidable (cb m):=by unfold cb;infer_instance
def cc(c:Cell):Int:=if bG c then 0 else 20
def cu(x:Ice):Int:=if cm x then 0 else 20
def bA(m:aR):Int:=if cb m then 0 else 6
def ah:Cell:=⟨⟨0,0⟩,⟨0,0⟩,⟨0,0⟩,⟨0,0⟩⟩
def io(s:Span)(n:Int):Prop:=s.lo<=n/\n<=s.hi
def db(c:Cell)(x:Ice):Prop:=io c.ag x.ag/\io c.ad x.ad/\io c.ac x.ac/\io c.ab x.ab
def mY(s t:Span):Prop:=t.lo<=s.lo/\s.hi<=t.hi
def mZ(a b:Cell):Prop:=mY a.ag b.ag/\mY a.ad b.ad/\mY a.ac b.ac/\mY a.ab b.ab
def okC(c:Cell):Prop:=c.ag.lo<=c.ag.hi/\c.ad.lo<=c.ad.hi/\c.ac.lo<=c.ac.hi/\c.ab.lo<=c.ab.hi
instance (s:Span) (n:Int):Decidable (io s n):=by unfold io;infer_instance
instance (c:Cell) (x:Ice):Decidable (db c x):=by unfold db;infer_instance
instance (s t:Span):Decidable (mY s t):=by unfold mY;infer_instance
instance (a b:Cell):Decidable (mZ a b):=by unfold mZ;infer_instance
instance (c:Cell):Decidable (okC c):=by unfold okC;infer_instance
def nv(s t:Span):Span:=⟨max s.lo t.lo,min s.hi t.hi⟩
def d8(a b:Cell):Cell:=⟨nv a.ag b.ag,nv a.ad b.ad,nv a.ac b.ac,nv a.ab b.ab⟩
def chg(rate hours:Int):Int:=(rate*hours+23) / 24
def rx(s:Span)(u d h m:Int):Span:=⟨max (s.lo-chg d h) 0,min (s.hi+chg u h) m⟩
def gP(c:Cell)(m:aR)(h:Int):Cell:=⟨rx c.ag m.up.ag m.down.ag h 100,rx c.ad m.up.ad m.down.ad h 400,rx c.ac m.up.ac m.down.ac h 100,rx c.ab m.up.ab m.down.ab h 3⟩
def az:Cell:=⟨⟨0,100⟩,⟨0,400⟩,⟨0,100⟩,⟨0,3⟩⟩
def ew(e f:Int):Int:=if e=0 then f else e
def mq(c:Cell)(x:Ice):Bool×Int:=if ew (cc c) (cu x)=0 then (decide (db c x),0) else (false,ew (cc c) (cu x))
theorem w64{n:Int}(h : -9223372036854775808<=n/\n<=9223372036854775807):IntKind.wrap .i64 n=n:=IntWalk.i64_in n h
theorem v64{n:Int}(h : -9223372036854775808<=n/\n<=9223372036854775807):(Value.int .i64 (IntKind.wrap .i64 n)) = .int .i64 n:=by rw[w64 h]
theorem yo{a b A B:Int}(h1:0<=a)(h2:a<=A)(h3:0<=b)(h4:b<=B):0<=a*b/\a*b<=A*B :=
 ⟨Int.mul_nonneg h1 h3,Int.mul_le_mul h2 h4 h3 (Int.le_trans h1 h2)⟩
theorem qS{c:Cell}(h:bG c):cc c=0:=if_pos h
theorem qT{c:Cell}(h:¬ bG c):cc c=20:=if_neg h
theorem sG{c:Ice}(h:cm c):cu c=0:=if_pos h
theorem sH{c:Ice}(h:¬ cm c):cu c=20:=if_neg h
theorem pr{c:aR}(h:cb c):bA c=0:=if_pos h
theorem pt{c:aR}(h:¬ cb c):bA c=6:=if_neg h
theorem gI{c:Cell}:cc c=0 ↔ bG c:=by unfold cc;split <;> simp_all
theorem mu{c:Ice}:cu c=0 ↔ cm c:=by unfold cu;split <;> simp_all
theorem dL{c:aR}:bA c=0 ↔ cb c:=by unfold bA;split <;> simp_all
theorem lZ(c:Cell)(H:Heap):ai prog F.ix [cellV c] H [] (Is (.int .i64 (cc c)) H):=by
 refine fL 40 (fun _=>rfl) rfl (Eq.mpr (sV _ c) ?_) H
 unfold mK
 simp only[decide_eq_true_eq,decide_eq_false_iff_not,Bool.not_eq_true',Bool.not_eq_false']
 repeat' (first|apply And.intro|intro _)
 all_goals first
  |exact fl (qT (by unfold bG bF;omega)).symm
  |exact fl (qS (by unfold bG bF;omega)).symm
theorem nM(x:Ice)(H:Heap):ai prog F.jt [vS x] H [] (Is (.int .i64 (cu x)) H):=by
 refine fL 40 (fun _=>rfl) rfl (Eq.mpr (uV _ x) ?_) H
 unfold oh
 simp only[decide_eq_true_eq,decide_eq_false_iff_not,Bool.not_eq_true',Bool.not_eq_false']
 repeat' (first|apply And.intro|intro _)
 all_goals first
  |exact fl (sH (by unfold cm;omega)).symm
  |exact fl (sG (by unfold cm;omega)).symm
theorem gA(m:aR)(H:Heap):ai prog F.l7 [cn m] H [] (Is (.int .i64 (bA m)) H):=by
 refine fL 40 (fun _=>rfl) rfl (Eq.mpr (rz _ m) ?_) H
 unfold kC
 simp only[decide_eq_true_eq,decide_eq_false_iff_not,Bool.not_eq_true',Bool.not_eq_false']
 repeat' (first|apply And.intro|intro _)
 all_goals first
  |exact fl (pt (by unfold cb ir;omega)).symm
  |exact fl (pr (by unfold cb ir;omega)).symm
theorem t8{x n:Int}(hn:1<=n):(Int.tmod x n<0->Int.tmod x n+n=x % n)/\(¬ Int.tmod x n<0->Int.tmod x n=x % n) /\ -n<Int.tmod x n/\Int.tmod x n<n:=by
 have h1:=Int.mul_tdiv_add_tmod x n
 have h2:=Int.lt_tmod_of_pos x (by omega:0<n)
 have h3:=Int.tmod_lt_of_pos x (by omega:0<n)
 refine ⟨fun h =>?_,fun h =>?_,h2,h3⟩
 ·have:x=(Int.tmod x n+n)+n*(x.tdiv n-1):=by rw[Int.mul_sub];omega
  rw[this,Int.add_mul_emod_self_left,<- this]
  exact (Int.emod_eq_of_lt (by omega) (by omega)).symm
 ·have:x=Int.tmod x n+n*x.tdiv n:=by omega
  conv=>rhs;rw[this,Int.add_mul_emod_self_left]
  exact (Int.emod_eq_of_lt (by omega) (by omega)).symm
theorem lY(x n:Int)(h1:1<=n)(h2:n<=9223372036854775807)(H:Heap):ai prog F.kG [.int .i64 x,.int .i64 n] H [] (Is (.int .i64 (x % n)) H):=by
 refine fL 40 (fun _=>rfl) rfl (Eq.mpr (Av _ x n) ?_) H
 obtain ⟨t1,t2,t3,t4⟩:=t8 (x:=x) h1
 unfold yd
 simp only[decide_eq_true_eq,decide_eq_false_iff_not]
 refine ⟨fun h=>by omega,fun _=>⟨by omega,fun h=>⟨v64 (by omega),fl (t1 h)⟩,fun h=>fl (t2 h)⟩⟩
theorem xh(rate hours:Int)(h1:0<=rate/\rate<=1000)(h2:0<=hours/\hours<=10000)(H:Heap):ai prog F.sy [.int .i64 rate,.int .i64 hours] H [] (Is (.int .i64 (chg rate hours)) H):=by
 refine fL 40 (fun _=>rfl) rfl (Eq.mpr (xL _ rate hours) ?_) H
 have hb:=yo h1.1 h1.2 h2.1 h2.2
 have ht:Int.tdiv (rate*hours+24-1) 24=(rate*hours+24-1) / 24:=Int.tdiv_eq_ediv_of_nonneg (by omega)
 unfold tT
 refine ⟨v64 (by omega),v64 (by omega),v64 (by omega),v64 (by rw[ht];omega),fl ?_⟩
 rw[ht];unfold chg;congr 1;omega
theorem jz{e f:Int}(h:¬ e=0):ew e f=e:=if_neg h
theorem cE{e f:Int}(h:e=0):ew e f=f:=if_pos h
theorem zB{b:Bool}(h:b=true):(Value.bool b) = .bool true:=by rw[h]
theorem vne{e:Int}(h:¬ e=0):(Value.bool (e != 0)) = .bool true:=zB (by simp[h])
theorem kF{b:Bool}{e:Int}{r:Bool×Int}(h:r=(b,e)):(Value.tuple #[.bool b,.int .i64 e]) = .tuple #[.bool r.1,.int .i64 r.2]:=by rw[h]
theorem yS{c:Cell}{x:Ice}(h:¬ cc c=0):mq c x=(false,cc c):=by unfold mq;rw[jz h,if_neg h]
theorem yR{c:Cell}{x:Ice}(h:cc c=0)(k:¬ cu x=0):mq c x=(false,cu x):=by unfold mq;rw[cE h,if_neg k]
theorem wq{c:Cell}{x:Ice}{b:Bool}(h:cc c=0)(k:cu x=0)(hb:decide (db c x)=b):mq c x=(b,0):=by unfold mq;rw[cE h,if_pos k,hb]
theorem AK(c:Cell)(x:Ice)(H:Heap):ai prog F.xl [cellV c,vS x] H [] (Is (.tuple #[.bool (mq c x).1,.int .i64 (mq c x).2]) H):=by
 refine fL 40 (fun _=>rfl) rfl (Eq.mpr (A0 _ c x) ?_) H
 unfold As
 refine ⟨_,trivial,fun H' _ _=>lZ c H',_,trivial,fun H' _ _=>nM x H',?_⟩
 simp only[decide_eq_true_eq,decide_eq_false_iff_not,Bool.not_eq_true',Bool.not_eq_false',bne_iff_ne,ne_eq,bne_eq_false_iff_eq]
 repeat' (first|apply And.intro|intro _)
 all_goals first
  |exact vne (by assumption)
  |exact kF (yS (by assumption))
  |exact kF (yR (by assumption) (by assumption))
  |exact kF (wq (by assumption) (by assumption) (decide_eq_false (by unfold db io;omega)))
  |exact kF (wq (by assumption) (by assumption) (decide_eq_true (by unfold db io;omega)))
theorem dt{r h:Int}(h1:0<=r/\r<=1000)(h2:0<=h/\h<=10000):0<=chg r h/\chg r h<=500000:=by
 have:=yo h1.1 h1.2 h2.1 h2.2
 unfold chg;omega
theorem yx(H:Heap):ai prog F.uE [] H [] (Is (cellV az) H):=fL 40 (fun _=>rfl) rfl (Eq.mpr (zm _) rfl) H
def bq:Ice:=⟨0,0,0,0⟩
def af:Report:=⟨0,0,0,0,0,0,ah⟩
def errs{Y:Type}(e:Y->Int):List Y->Int
 | [] =>0
 |x :: r=>if e x=0 then errs e r else e x
def tO(sp:Value)(xs:List Ice):Prop :=
 (true=true/\(0<=List.length xs/\sp = .int .i64 (errs cu (List.drop 0 xs)))/\(true=true/\((.int .i64 0:Value) = .int .i64 ((0:Nat):Int)/\(.func (.func 29) #[] #[]:Value) = .func (.func 29) #[] #[]/\wk (.slice (some ⟨0,0,some 2⟩) (List.length xs) (List.length xs):Value) (.slice (some ⟨0,0,some 2⟩) (List.length xs) (List.length xs):Value)/\(.int .i64 (((List.length xs):Nat):Int):Value) = .int .i64 (((List.length xs):Nat):Int)/\True)/\(True)/\(True)/\(True))/\(∀x0:Nat,true=true)/\∀x0:Nat,(x0<=List.length xs/\sp = .int .i64 (errs cu (List.drop x0 xs)))->(((decide ((((x0:Nat):Int):Int)<(((List.length xs):Nat):Int)))=true->(((0:Int)<=((x0:Nat):Int)/\(((x0:Nat):Int):Int)<(((List.length xs):Nat):Int))/\((c8 4 (List.flatMap dr xs) (0+Int.toNat ((x0:Nat):Int)*4)=some (.agg #[.int .i64 (List.getD xs x0 bq).ag,.int .i64 (List.getD xs x0 bq).ad,.int .i64 (List.getD xs x0 bq).ac,.int .i64 (List.getD xs x0 bq).ab]))/\(∃r1:Int,((True)/\(∀H':Heap,H'.length=2->(True)->ai prog 29 [.agg #[.int .i64 (List.getD xs x0 bq).ag,.int .i64 (List.getD xs x0 bq).ad,.int .i64 (List.getD xs x0 bq).ac,.int .i64 (List.getD xs x0 bq).ab]] H' [] (Is (.int .i64 r1) H'))/\((((r1:Int) != 0)=true->(.int .i64 r1:Value)=sp)/\(((r1:Int) != 0)=false->((.int .i64 (IntKind.wrap .i64 (((x0:Nat):Int)+1)):Value) = .int .i64 (((x0:Nat):Int)+1)/\(∃x0':Nat,(x0'<=List.length xs/\sp = .int .i64 (errs cu (List.drop x0' xs)))/\(List.length xs-x0')<(List.length xs-x0)/\true=true/\((.int .i64 (((x0:Nat):Int)+1):Value) = .int .i64 ((x0':Nat):Int)/\(.func (.func 29) #[] #[]:Value) = .func (.func 29) #[] #[]/\wk (.slice (some ⟨0,0,some 2⟩) (List.length xs) (List.length xs):Value) (.slice (some ⟨0,0,some 2⟩) (List.length xs) (List.length xs):Value)/\(.int .i64 (((List.length xs):Nat):Int):Value) = .int .i64 (((List.length xs):Nat):Int)/\True)/\(True)/\(True)/\(True))))))))))/\((decide ((((x0:Nat):Int):Int)<(((List.length xs):Nat):Int)))=false->(.int .i64 0:Value)=sp)))
theorem xG(sp:Value)(xs:List Ice):vF prog msk (dm 0) 100000 true 40 true 114 [.slice (some ⟨0,0,some 2⟩) (List.length xs) (List.length xs),.func (.func 29) #[] #[]] (bg 0 [xs.flatMap dr]) (some [])
 (.go 3 (.inv 3 (Nat) (0) [] [] (fun x0=>[(10,.int .i64 ((x0:Nat):Int)),(1,.func (.func 29) #[] #[]),(8,.slice (some ⟨0,0,some 2⟩) (List.length xs) (List.length xs)),(9,.int .i64 (((List.length xs):Nat):Int))]) (fun x0=>[]) (fun x0=>[]) (fun x0=>[]) (fun x0=>(x0<=List.length xs/\sp = .int .i64 (errs cu (List.drop x0 xs)))) (fun x0=>(List.length xs-x0)) (fun x0 => .go 0 (.fork (.need (.val (.agg #[.int .i64 (List.getD xs x0 bq).ag,.int .i64 (List.getD xs x0 bq).ad,.int .i64 (List.getD xs x0 bq).ac,.int .i64 (List.getD xs x0 bq).ab]) (.go 3 (.bind (Int) (fun r1 => .ans [] (.int .i64 r1) [] (.go 2 (.fork (.auto) (.go 0 (.slot 20 (.int .i64 (((x0:Nat):Int)+1)) (.go 0 (.again []))))))))))) (.auto)))))
 (fun v _ _=>v=sp)=tO sp xs:=by kernel_rfl
theorem pK{f:FuncId}{args:List Value}{css:List (List Value)}{h:Hint}{v:Value}(hc:vF prog msk (dm 0) 100000 true 40 true f args (bg 0 css) (some []) h (fun v' _ _=>v'=v))(fZ:∀cs∈css,cs.all (aE 0)=true)(hv:b7 0 v=true)
  {H:Heap} (ids:List Nat) (hl:ids.length=css.length) (dR:∀(k:Nat) (cs:List Value),css[k]?=some cs->∃id own z,ids[k]?=some id/\H[id]?=some (ae.cells own z cs)) :
  ai prog f (args.map (rn (sgR 0 ids) 5)) H [] (Is v H):=by
 have:=AC (H:=H) nu mixed 40 (v:=v) fZ (by rw[dQ];exact hc) hv ids hl dR
 rw[dQ]at this;exact this
theorem yh{f:FuncId}{args:List Value}{css:List (List Value)}{h:Hint}{v:Value}{new:List (Bool×ae)}(hc:vF prog msk (dm 0) 100000 true 40 true f args (bg 0 css) (some []) h (iJ (bg 0 css).n 3 v new))(fZ:∀cs∈css,cs.all (aE 0)=true)
  (hv:cJ 3 v=true) (hv2:rn (bZ (0+css.length)) 3 v=v) (hn:(new.map (·.2)).all (fun o=>cT 3 o&&o.owned)=true) (hn2:(new.map (·.2)).map (rno (bZ (0+css.length)) 3)=new.map (·.2))
  {H:Heap} (ids:List Nat) (hl:ids.length=css.length) (dR:∀(k:Nat) (cs:List Value),css[k]?=some cs->∃id own z,ids[k]?=some id/\H[id]?=some (ae.cells own z cs)) :
  ai prog f (args.map (rn (sgR 0 ids) 3)) H [] (Is (rn (cY (0+css.length) H.length) 3 v) (H++(new.map (·.2)).map (rno (cY (0+css.length) H.length) 3))):=by
 have:=vcR (H:=H) nu mixed 40 (v:=v) (new:=new) fZ (by rw[dQ];exact hc) hv (by rw[dQ];exact hv2) hn (by rw[dQ];exact hn2) ids hl dR
 rw[dQ]at this;exact this
theorem oI{H:Heap}{id:Nat}{own:Bool}{z:Nat}{cs:List Value}(hid:H[id]?=some (.cells own z cs)):∀(k:Nat) (c:List Value),[cs][k]?=some c->∃id' own z,[id][k]?=some id'/\H[id']?=some (ae.cells own z c):=by
 intro k c h
 match k with
 |0=>cases h;exact ⟨id,own,z,rfl,hid⟩
theorem oJ{cs:List Value}(h:cs.all (aE 0)=true):∀c ∈ [cs],c.all (aE 0)=true:=by intro c hc;rw[List.mem_singleton.1 hc];exact h
theorem vT(x:Ice):(dr x).length=4:=rfl
theorem kM{xs:List Ice}{x:Nat}(h:x<xs.length):c8 4 (List.flatMap dr xs) (0+Int.toNat ((x:Nat):Int)*4)=some (.agg #[.int .i64 (List.getD xs x bq).ag,.int .i64 (List.getD xs x bq).ad,.int .i64 (List.getD xs x bq).ac,.int .i64 (List.getD xs x bq).ab]) :=
 (kL (f:=dr) (d:=bq) (c:=0) (m:=4) vT h (by rw[Int.toNat_natCast];omega) (by decide)).trans rfl
theorem drop_at{Y:Type}{xs:List Y}{d:Y}{k:Nat}(hk:k<xs.length):xs.drop k=xs.getD k d :: xs.drop (k+1):=by
 rw[List.drop_eq_getElem_cons hk,List.getD_eq_getElem?_getD,List.getElem?_eq_getElem hk];rfl
theorem pq{Y:Type}{e:Y->Int}{xs:List Y}{d:Y}{k:Nat}(hk:k<xs.length):errs e (xs.drop k)=if e (xs.getD k d)=0 then errs e (xs.drop (k+1)) else e (xs.getD k d):=by
 rw[drop_at (d:=d) hk];rfl
theorem xa(xs:List Ice)(hn:xs.length<=2 ^ 30){H:Heap}{id:Nat}{own:Bool}{z:Nat}(hid:H[id]?=some (.cells own z (xs.flatMap dr))) :
  ai prog F.iQ [.slice (some ⟨id,0,some 2⟩) xs.length xs.length,.func (.func F.jt) #[] #[]] H [] (Is (.int .i64 (errs cu xs)) H):=by
 refine pK (Eq.mpr (xG _ xs) ?_) (oJ (dz (fun _=>rfl) xs)) rfl [id] rfl (oI hid)
 unfold tO
 refine ⟨rfl,⟨Nat.zero_le _,rfl⟩,⟨rfl,⟨rfl,rfl,ar _,rfl,trivial⟩,trivial,trivial,trivial⟩,fun _=>rfl,?_⟩
 rintro x ⟨hx,hsp⟩
 refine ⟨fun h =>?_,fun h =>?_⟩
 ·have hlt:x<xs.length:=by have:=e7 h;omega
  refine ⟨⟨by omega,by omega⟩,kM hlt,_,trivial,fun H' _ _=>nM _ H',fun h1 =>?_,fun h1 =>?_⟩
  ·rw[hsp,pq (d:=bq) hlt,if_neg (by simpa using h1)]
  ·refine ⟨v64 (by omega),x+1,⟨hlt,?_⟩,by omega,rfl,⟨fl (by omega),rfl,ar _,rfl,trivial⟩,trivial,trivial,trivial⟩
   rw[hsp,pq (d:=bq) hlt,if_pos (by simpa using h1)]
 ·have hge:x=xs.length:=by have:=td h;omega
  rw[hsp,hge,List.drop_length];rfl
def zK(m:aR)(x y:Ice)(h:Int):Prop :=
 (x.ag-chg m.down.ag h<=y.ag/\y.ag<=x.ag+chg m.up.ag h)/\(x.ad-chg m.down.ad h<=y.ad/\y.ad<=x.ad+chg m.up.ad h) /\
 (x.ac-chg m.down.ac h<=y.ac/\y.ac<=x.ac+chg m.up.ac h)/\(x.ab-chg m.down.ab h<=y.ab/\y.ab<=x.ab+chg m.up.ab h)
def row(xs:List Ice)(m:aR)(t n:Nat):Prop:=∀s,s<n->zK m (xs.getD s bq) (xs.getD t bq) ((t:Int)-(s:Int))
theorem nS{Y:Type}{e:Y->Int}:∀{xs:List Y},errs e xs=0->∀x∈xs,e x=0
 | [],_,x,h=>by cases h
 |y :: r,he,x,h=>by
  unfold errs at he
  split at he
  ·rename_i h0
   rcases List.mem_cons.1 h with rfl|h
   ·exact h0
   ·exact nS he x h
  ·rename_i h0;exact absurd he h0
theorem gF{Y:Type}{xs:List Y}{d:Y}{k:Nat}(h:k<xs.length):xs.getD k d∈xs:=by
 rw[List.getD_eq_getElem?_getD,List.getElem?_eq_getElem h];exact List.getElem_mem h
def tQ(sp:Value)(a b:Cell):Prop :=
 (∃y0:Int,(.int .i64 (if (b.ag.lo:Int) > a.ag.lo then (b.ag.lo:Int) else a.ag.lo):Value) = .int .i64 y0/\(∃y1:Int,(.int .i64 (if (b.ag.hi:Int)<a.ag.hi then (b.ag.hi:Int) else a.ag.hi):Value) = .int .i64 y1/\(∃y2:Int,(.int .i64 (if (b.ad.lo:Int) > a.ad.lo then (b.ad.lo:Int) else a.ad.lo):Value) = .int .i64 y2/\(∃y3:Int,(.int .i64 (if (b.ad.hi:Int)<a.ad.hi then (b.ad.hi:Int) else a.ad.hi):Value) = .int .i64 y3/\(∃y4:Int,(.int .i64 (if (b.ac.lo:Int) > a.ac.lo then (b.ac.lo:Int) else a.ac.lo):Value) = .int .i64 y4/\(∃y5:Int,(.int .i64 (if (b.ac.hi:Int)<a.ac.hi then (b.ac.hi:Int) else a.ac.hi):Value) = .int .i64 y5/\(∃y6:Int,(.int .i64 (if (b.ab.lo:Int) > a.ab.lo then (b.ab.lo:Int) else a.ab.lo):Value) = .int .i64 y6/\(∃y7:Int,(.int .i64 (if (b.ab.hi:Int)<a.ab.hi then (b.ab.hi:Int) else a.ab.hi):Value) = .int .i64 y7/\(((!(decide ((y0:Int)<=y1)))=true->(.tuple #[.agg #[.int .i64 y0,.int .i64 y1,.int .i64 y2,.int .i64 y3,.int .i64 y4,.int .i64 y5,.int .i64 y6,.int .i64 y7],.bool false]:Value)=sp)/\((!(decide ((y0:Int)<=y1)))=false->(((!(decide ((y2:Int)<=y3)))=true->(.tuple #[.agg #[.int .i64 y0,.int .i64 y1,.int .i64 y2,.int .i64 y3,.int .i64 y4,.int .i64 y5,.int .i64 y6,.int .i64 y7],.bool false]:Value)=sp)/\((!(decide ((y2:Int)<=y3)))=false->(((!(decide ((y4:Int)<=y5)))=true->(.tuple #[.agg #[.int .i64 y0,.int .i64 y1,.int .i64 y2,.int .i64 y3,.int .i64 y4,.int .i64 y5,.int .i64 y6,.int .i64 y7],.bool false]:Value)=sp)/\((!(decide ((y4:Int)<=y5)))=false->(((!(decide ((y6:Int)<=y7)))=true->(.tuple #[.agg #[.int .i64 y0,.int .i64 y1,.int .i64 y2,.int .i64 y3,.int .i64 y4,.int .i64 y5,.int .i64 y6,.int .i64 y7],.bool false]:Value)=sp)/\((!(decide ((y6:Int)<=y7)))=false->(.tuple #[.agg #[.int .i64 y0,.int .i64 y1,.int .i64 y2,.int .i64 y3,.int .i64 y4,.int .i64 y5,.int .i64 y6,.int .i64 y7],.bool true]:Value)=sp))))))))))))))))
theorem xI(sp:Value)(a b:Cell):vF prog msk (dm 0) 100000 true 40 true 84 [.agg #[.int .i64 a.ag.lo,.int .i64 a.ag.hi,.int .i64 a.ad.lo,.int .i64 a.ad.hi,.int .i64 a.ac.lo,.int .i64 a.ac.hi,.int .i64 a.ab.lo,.int .i64 a.ab.hi],.agg #[.int .i64 b.ag.lo,.int .i64 b.ag.hi,.int .i64 b.ad.lo,.int .i64 b.ad.hi,.int .i64 b.ac.lo,.int .i64 b.ac.hi,.int .i64 b.ab.lo,.int .i64 b.ab.hi]] ⟨0,.leaf⟩ (some [])
 (.go 26 (.bind Int (fun y0 => .slot 13 (.int .i64 y0) (.go 8 (.bind Int (fun y1 => .slot 22 (.int .i64 y1) (.go 23 (.bind Int (fun y2 => .slot 13 (.int .i64 y2) (.go 8 (.bind Int (fun y3 => .slot 22 (.int .i64 y3) (.go 23 (.bind Int (fun y4 => .slot 13 (.int .i64 y4) (.go 8 (.bind Int (fun y5 => .slot 22 (.int .i64 y5) (.go 23 (.bind Int (fun y6 => .slot 13 (.int .i64 y6) (.go 8 (.bind Int (fun y7 => .slot 22 (.int .i64 y7) (.go 39 (.fork (.auto) (.go 20 (.fork (.auto) (.go 20 (.fork (.auto) (.go 20 (.fork (.auto) (.auto)))))))))))))))))))))))))))))))))
 (fun v _ _=>v=sp)=tQ sp a b:=by kernel_rfl
def tR(sp:Value)(c:Cell)(m:aR)(h:Int):Prop :=
 (∃r0:Int,((True)/\(∀H':Heap,H'.length=9->(True)->ai prog 149 [.int .i64 m.down.ag,.int .i64 h] H' [] (Is (.int .i64 r0) H'))/\((.int .i64 (IntKind.wrap .i64 (c.ag.lo-r0)):Value) = .int .i64 (c.ag.lo-r0)/\(∃y1:Int,(.int .i64 (if (0:Int) > (c.ag.lo-r0) then (0:Int) else (c.ag.lo-r0)):Value) = .int .i64 y1/\(∃r2:Int,((True)/\(∀H':Heap,H'.length=9->(True)->ai prog 149 [.int .i64 m.up.ag,.int .i64 h] H' [] (Is (.int .i64 r2) H'))/\((.int .i64 (IntKind.wrap .i64 (c.ag.hi+r2)):Value) = .int .i64 (c.ag.hi+r2)/\(∃y3:Int,(.int .i64 (if (100:Int)<(c.ag.hi+r2) then (100:Int) else (c.ag.hi+r2)):Value) = .int .i64 y3/\(∃r4:Int,((True)/\(∀H':Heap,H'.length=9->(True)->ai prog 149 [.int .i64 m.down.ad,.int .i64 h] H' [] (Is (.int .i64 r4) H'))/\((.int .i64 (IntKind.wrap .i64 (c.ad.lo-r4)):Value) = .int .i64 (c.ad.lo-r4)/\(∃y5:Int,(.int .i64 (if (0:Int) > (c.ad.lo-r4) then (0:Int) else (c.ad.lo-r4)):Value) = .int .i64 y5/\(∃r6:Int,((True)/\(∀H':Heap,H'.length=9->(True)->ai prog 149 [.int .i64 m.up.ad,.int .i64 h] H' [] (Is (.int .i64 r6) H'))/\((.int .i64 (IntKind.wrap .i64 (c.ad.hi+r6)):Value) = .int .i64 (c.ad.hi+r6)/\(∃y7:Int,(.int .i64 (if (400:Int)<(c.ad.hi+r6) then (400:Int) else (c.ad.hi+r6)):Value) = .int .i64 y7/\(∃r8:Int,((True)/\(∀H':Heap,H'.length=9->(True)->ai prog 149 [.int .i64 m.down.ac,.int .i64 h] H' [] (Is (.int .i64 r8) H'))/\((.int .i64 (IntKind.wrap .i64 (c.ac.lo-r8)):Value) = .int .i64 (c.ac.lo-r8)/\(∃y9:Int,(.int .i64 (if (0:Int) > (c.ac.lo-r8) then (0:Int) else (c.ac.lo-r8)):Value) = .int .i64 y9/\(∃r10:Int,((True)/\(∀H':Heap,H'.length=9->(True)->ai prog 149 [.int .i64 m.up.ac,.int .i64 h] H' [] (Is (.int .i64 r10) H'))/\((.int .i64 (IntKind.wrap .i64 (c.ac.hi+r10)):Value) = .int .i64 (c.ac.hi+r10)/\(∃y11:Int,(.int .i64 (if (100:Int)<(c.ac.hi+r10) then (100:Int) else (c.ac.hi+r10)):Value) = .int .i64 y11/\(∃r12:Int,((True)/\(∀H':Heap,H'.length=9->(True)->ai prog 149 [.int .i64 m.down.ab,.int .i64 h] H' [] (Is (.int .i64 r12) H'))/\((.int .i64 (IntKind.wrap .i64 (c.ab.lo-r12)):Value) = .int .i64 (c.ab.lo-r12)/\(∃y13:Int,(.int .i64 (if (0:Int) > (c.ab.lo-r12) then (0:Int) else (c.ab.lo-r12)):Value) = .int .i64 y13/\(∃r14:Int,((True)/\(∀H':Heap,H'.length=9->(True)->ai prog 149 [.int .i64 m.up.ab,.int .i64 h] H' [] (Is (.int .i64 r14) H'))/\((.int .i64 (IntKind.wrap .i64 (c.ab.hi+r14)):Value) = .int .i64 (c.ab.hi+r14)/\(∃y15:Int,(.int .i64 (if (3:Int)<(c.ab.hi+r14) then (3:Int) else (c.ab.hi+r14)):Value) = .int .i64 y15/\(.agg #[.int .i64 y1,.int .i64 y3,.int .i64 y5,.int .i64 y7,.int .i64 y9,.int .i64 y11,.int .i64 y13,.int .i64 y15]:Value)=sp))))))))))))))))))))))))))))))))
theorem xJ(sp:Value)(c:Cell)(m:aR)(h:Int):vF prog msk (dm 0) 100000 true 40 true 112 [.agg #[.int .i64 c.ag.lo,.int .i64 c.ag.hi,.int .i64 c.ad.lo,.int .i64 c.ad.hi,.int .i64 c.ac.lo,.int .i64 c.ac.hi,.int .i64 c.ab.lo,.int .i64 c.ab.hi],.agg #[.int .i64 m.up.ag,.int .i64 m.up.ad,.int .i64 m.up.ac,.int .i64 m.up.ab,.int .i64 m.down.ag,.int .i64 m.down.ad,.int .i64 m.down.ac,.int .i64 m.down.ab],.int .i64 h] ⟨0,.leaf⟩ (some [])
 (.go 68 (.bind (Int) (fun r0 => .ans [] (.int .i64 r0) [] (.go 0 (.slot 16 (.int .i64 (c.ag.lo-r0)) (.go 0 (.bind Int (fun y1 => .slot 17 (.int .i64 y1) (.bind (Int) (fun r2 => .ans [] (.int .i64 r2) [] (.go 0 (.slot 27 (.int .i64 (c.ag.hi+r2)) (.go 5 (.bind Int (fun y3 => .slot 31 (.int .i64 y3) (.go 31 (.bind (Int) (fun r4 => .ans [] (.int .i64 r4) [] (.go 0 (.slot 16 (.int .i64 (c.ad.lo-r4)) (.go 0 (.bind Int (fun y5 => .slot 17 (.int .i64 y5) (.bind (Int) (fun r6 => .ans [] (.int .i64 r6) [] (.go 0 (.slot 27 (.int .i64 (c.ad.hi+r6)) (.go 5 (.bind Int (fun y7 => .slot 31 (.int .i64 y7) (.go 31 (.bind (Int) (fun r8 => .ans [] (.int .i64 r8) [] (.go 0 (.slot 16 (.int .i64 (c.ac.lo-r8)) (.go 0 (.bind Int (fun y9 => .slot 17 (.int .i64 y9) (.bind (Int) (fun r10 => .ans [] (.int .i64 r10) [] (.go 0 (.slot 27 (.int .i64 (c.ac.hi+r10)) (.go 5 (.bind Int (fun y11 => .slot 31 (.int .i64 y11) (.go 31 (.bind (Int) (fun r12 => .ans [] (.int .i64 r12) [] (.go 0 (.slot 16 (.int .i64 (c.ab.lo-r12)) (.go 0 (.bind Int (fun y13 => .slot 17 (.int .i64 y13) (.bind (Int) (fun r14 => .ans [] (.int .i64 r14) [] (.go 0 (.slot 27 (.int .i64 (c.ab.hi+r14)) (.go 5 (.bind Int (fun y15 => .slot 31 (.int .i64 y15) (.auto)))))))))))))))))))))))))))))))))))))))))))))))))))))))))))))
 (fun v _ _=>v=sp)=tR sp c m h:=by kernel_rfl
def wL(sp:Value)(a b:Cell):Prop :=
 (((decide ((b.ag.lo:Int)<=a.ag.lo))=true->(((!(decide ((a.ag.hi:Int)<=b.ag.hi)))=true->(.bool false:Value)=sp)/\((!(decide ((a.ag.hi:Int)<=b.ag.hi)))=false->(((decide ((b.ad.lo:Int)<=a.ad.lo))=true->(((!(decide ((a.ad.hi:Int)<=b.ad.hi)))=true->(.bool false:Value)=sp)/\((!(decide ((a.ad.hi:Int)<=b.ad.hi)))=false->(((decide ((b.ac.lo:Int)<=a.ac.lo))=true->(((!(decide ((a.ac.hi:Int)<=b.ac.hi)))=true->(.bool false:Value)=sp)/\((!(decide ((a.ac.hi:Int)<=b.ac.hi)))=false->(((decide ((b.ab.lo:Int)<=a.ab.lo))=true->(((!(decide ((a.ab.hi:Int)<=b.ab.hi)))=true->(.bool false:Value)=sp)/\((!(decide ((a.ab.hi:Int)<=b.ab.hi)))=false->(.bool true:Value)=sp)))/\((decide ((b.ab.lo:Int)<=a.ab.lo))=false->(.bool false:Value)=sp)))))/\((decide ((b.ac.lo:Int)<=a.ac.lo))=false->(.bool false:Value)=sp)))))/\((decide ((b.ad.lo:Int)<=a.ad.lo))=false->(.bool false:Value)=sp)))))/\((decide ((b.ag.lo:Int)<=a.ag.lo))=false->(.bool false:Value)=sp))
theorem zk(sp:Value)(a b:Cell):vF prog msk (dm 0) 100000 true 40 true 106 [.agg #[.int .i64 a.ag.lo,.int .i64 a.ag.hi,.int .i64 a.ad.lo,.int .i64 a.ad.hi,.int .i64 a.ac.lo,.int .i64 a.ac.hi,.int .i64 a.ab.lo,.int .i64 a.ab.hi],.agg #[.int .i64 b.ag.lo,.int .i64 b.ag.hi,.int .i64 b.ad.lo,.int .i64 b.ad.hi,.int .i64 b.ac.lo,.int .i64 b.ac.hi,.int .i64 b.ab.lo,.int .i64 b.ab.hi]] ⟨0,.leaf⟩ (some [])
 (.go 28 (.ax (.go 11 (.fork (.auto) (.go 19 (.ax (.go 11 (.fork (.auto) (.go 19 (.ax (.go 11 (.fork (.auto) (.go 19 (.ax (.go 11 (.fork (.auto) (.auto))) (.auto))))) (.auto))))) (.auto))))) (.auto)))
 (fun v _ _=>v=sp)=wL sp a b:=by kernel_rfl
def wM(sp:Value)(c:Cell)(x:Ice):Prop :=
 (((decide ((c.ag.lo:Int)<=x.ag))=true->(((!(decide ((x.ag:Int)<=c.ag.hi)))=true->(.bool false:Value)=sp)/\((!(decide ((x.ag:Int)<=c.ag.hi)))=false->(((decide ((c.ad.lo:Int)<=x.ad))=true->(((!(decide ((x.ad:Int)<=c.ad.hi)))=true->(.bool false:Value)=sp)/\((!(decide ((x.ad:Int)<=c.ad.hi)))=false->(((decide ((c.ac.lo:Int)<=x.ac))=true->(((!(decide ((x.ac:Int)<=c.ac.hi)))=true->(.bool false:Value)=sp)/\((!(decide ((x.ac:Int)<=c.ac.hi)))=false->(((decide ((c.ab.lo:Int)<=x.ab))=true->(((!(decide ((x.ab:Int)<=c.ab.hi)))=true->(.bool false:Value)=sp)/\((!(decide ((x.ab:Int)<=c.ab.hi)))=false->(.bool true:Value)=sp)))/\((decide ((c.ab.lo:Int)<=x.ab))=false->(.bool false:Value)=sp)))))/\((decide ((c.ac.lo:Int)<=x.ac))=false->(.bool false:Value)=sp)))))/\((decide ((c.ad.lo:Int)<=x.ad))=false->(.bool false:Value)=sp)))))/\((decide ((c.ag.lo:Int)<=x.ag))=false->(.bool false:Value)=sp))
theorem zl(sp:Value)(c:Cell)(x:Ice):vF prog msk (dm 0) 100000 true 40 true 104 [.agg #[.int .i64 c.ag.lo,.int .i64 c.ag.hi,.int .i64 c.ad.lo,.int .i64 c.ad.hi,.int .i64 c.ac.lo,.int .i64 c.ac.hi,.int .i64 c.ab.lo,.int .i64 c.ab.hi],.agg #[.int .i64 x.ag,.int .i64 x.ad,.int .i64 x.ac,.int .i64 x.ab]] ⟨0,.leaf⟩ (some [])
 (.go 51 (.ax (.go 6 (.fork (.auto) (.go 26 (.ax (.go 6 (.fork (.auto) (.go 26 (.ax (.go 6 (.fork (.auto) (.go 26 (.ax (.go 6 (.fork (.auto) (.auto))) (.auto))))) (.auto))))) (.auto))))) (.auto)))
 (fun v _ _=>v=sp)=wM sp c x:=by kernel_rfl
def yb(sp:Value)(w h t:Int):Prop :=
 (((decide ((1:Int)<=w))=true->(((!(decide ((w:Int)<=64)))=true->(.int .i64 6:Value)=sp)/\((!(decide ((w:Int)<=64)))=false->(((decide ((1:Int)<=h))=true->(((!(decide ((h:Int)<=64)))=true->(.int .i64 6:Value)=sp)/\((!(decide ((h:Int)<=64)))=false->((.int .i64 (IntKind.wrap .i64 (w*h)):Value) = .int .i64 (w*h)/\(((decide ((1024:Int)<(w*h)))=true->(.int .i64 6:Value)=sp)/\((decide ((1024:Int)<(w*h)))=false->(((decide ((0:Int)<=t))=true->(((!(decide ((t:Int)<=10000)))=true->(.int .i64 6:Value)=sp)/\((!(decide ((t:Int)<=10000)))=false->(.int .i64 0:Value)=sp)))/\((decide ((0:Int)<=t))=false->(.int .i64 6:Value)=sp))))))))/\((decide ((1:Int)<=h))=false->(.int .i64 6:Value)=sp)))))/\((decide ((1:Int)<=w))=false->(.int .i64 6:Value)=sp))
theorem At(sp:Value)(w h t:Int):vF prog msk (dm 0) 100000 true 40 true 118 [.int .i64 w,.int .i64 h,.int .i64 t] ⟨0,.leaf⟩ (some [])
 (.go 7 (.ax (.go 6 (.ax (.auto) (.go 6 (.ax (.go 7 (.ax (.auto) (.go 2 (.slot 18 (.int .i64 (w*h)) (.go 2 (.ax (.auto) (.go 6 (.ax (.go 6 (.fork (.auto) (.auto))) (.auto))))))))) (.auto))))) (.auto)))
 (fun v _ _=>v=sp)=yb sp w h t:=by kernel_rfl
end
end Go.Proofs.YthcjliffpebjaaaGreat
namespace Go.K
noncomputable section
theorem aO{p A B:Prop}[Decidable p](h1:p->A)(h2:¬ p->B):(decide p=true->A)/\(decide p=false->B) :=
 ⟨fun h=>h1 (e7 h),fun h=>h2 (td h)⟩
theorem aM{a b:Int}{A B:Prop}(h1:a≠b->A)(h2:a=b->B):((a != b)=true->A)/\((a != b)=false->B) :=
 ⟨fun h=>h1 (by simpa using h),fun h=>h2 (by simpa using h)⟩
theorem aU{a b:Int}{A B:Prop}(h1:a=b->A)(h2:a≠b->B):((a == b)=true->A)/\((a == b)=false->B) :=
 ⟨fun h=>h1 (by simpa using h),fun h=>h2 (by simpa using h)⟩
theorem aD{b:Bool}{A B:Prop}(h:(b=true->B)/\(b=false->A)):((!b)=true->A)/\((!b)=false->B):=by
 cases b
 ·exact ⟨fun _=>h.2 rfl,fun h=>by cases h⟩
 ·exact ⟨fun h=>(by cases h),fun _=>h.1 rfl⟩
theorem qN{b:Bool}{A B:Prop}(h1:b=true->A)(h2:b=false->B):(b=true->A)/\(b=false->B):=⟨h1,h2⟩
theorem Ag{b:Bool}{A B:Prop}(hb:b=false)(h1:B):(b=true->A)/\(b=false->B):=⟨fun h=>(by rw[hb]at h;cases h),fun _=>h1⟩
theorem vbT{b:Bool}(h:b=true):(Value.bool b) = .bool true:=by rw[h]
theorem iEq{k:IntKind}{a b:Int}(h:a=b):(Value.int k a) = .int k b:=by rw[h]
theorem bEq{a b:Bool}(h:a=b):(Value.bool a) = .bool b:=by rw[h]
theorem wQ{n:Int}(h : -9223372036854775808<=n/\n<=9223372036854775807):IntKind.wrap .i64 n=n:=IntWalk.i64_in n h
theorem aG{n:Int}(h : -9223372036854775808<=n/\n<=9223372036854775807):(Value.int .i64 (IntKind.wrap .i64 n)) = .int .i64 n:=by rw[wQ h]
theorem xk(a b:Int):(if b > a then b else a)=max a b:=by split <;> omega
theorem xj(a b:Int):(if b<a then b else a)=min a b:=by split <;> omega
theorem toMax{k:IntKind}{a b:Int}{Q:Int->Prop}(h:Q (max a b)):∃y:Int,(Value.int k (if b > a then b else a)) = .int k y/\Q y:=⟨max a b,by rw[xk],h⟩
theorem toMin{k:IntKind}{a b:Int}{Q:Int->Prop}(h:Q (min a b)):∃y:Int,(Value.int k (if b<a then b else a)) = .int k y/\Q y:=⟨min a b,by rw[xj],h⟩
theorem xX{c:Bool}{v1 v2:Int}{S1 S2 R:Int->Prop}(h1:c=true->S1 v1)(h2:c=false->S2 v2)(hr:∀x,x=(if c=true then v1 else v2)->R x) :
  (true=true/\(c=true->∃x':Int,((c=true/\x'=v1/\True)∨(c=false/\x'=v2/\True))/\S1 x')/\(c=false->∃x':Int,((c=true/\x'=v1/\True)∨(c=false/\x'=v2/\True))/\S2 x') /\
   ∀x:Int,((c=true/\x=v1/\True)∨(c=false/\x=v2/\True))->R x):=by
 refine ⟨rfl,fun h=>⟨v1,.inl ⟨h,rfl,trivial⟩,h1 h⟩,fun h=>⟨v2,.inr ⟨h,rfl,trivial⟩,h2 h⟩,fun x hx=>hr x ?_⟩
 rcases hx with ⟨h,rfl,_⟩|⟨h,rfl,_⟩
 ·rw[if_pos h]
 ·rw[if_neg (by rw[h];decide)]
theorem aK{a b:Int}{S1 S2 R:Int->Prop}(h1:S1 b)(h2:S2 a)(hr:R (max a b)) :
  (true=true/\(decide (a<b)=true->∃x':Int,((decide (a<b)=true/\x'=b/\True)∨(decide (a<b)=false/\x'=a/\True))/\S1 x')/\(decide (a<b)=false->∃x':Int,((decide (a<b)=true/\x'=b/\True)∨(decide (a<b)=false/\x'=a/\True))/\S2 x') /\
   ∀x:Int,((decide (a<b)=true/\x=b/\True)∨(decide (a<b)=false/\x=a/\True))->R x) :=
 xX (fun _=>h1) (fun _=>h2) fun x hx=>by
  have:x=max a b:=by rw[hx];simp only[decide_eq_true_eq];split <;> omega
  rw[this];exact hr
theorem aJ{a b:Int}{S1 S2 R:Int->Prop}(h1:S1 b)(h2:S2 a)(hr:R (min a b)) :
  (true=true/\(decide (b<a)=true->∃x':Int,((decide (b<a)=true/\x'=b/\True)∨(decide (b<a)=false/\x'=a/\True))/\S1 x')/\(decide (b<a)=false->∃x':Int,((decide (b<a)=true/\x'=b/\True)∨(decide (b<a)=false/\x'=a/\True))/\S2 x') /\
   ∀x:Int,((decide (b<a)=true/\x=b/\True)∨(decide (b<a)=false/\x=a/\True))->R x) :=
 xX (fun _=>h1) (fun _=>h2) fun x hx=>by
  have:x=min a b:=by rw[hx];simp only[decide_eq_true_eq];split <;> omega
  rw[this];exact hr
theorem aB{a b:Value}{r s:List Value}(h:wk a b)(hr:wks r s):wks (a :: r) (b :: s):=⟨h,hr⟩
theorem aP:wks [] []:=trivial
theorem ai.wkA{P:Program}{f:FuncId}{args args2:List Value}{H:Heap}{M:List Nat}{Q:Value->Heap->Prop}(h:ai P f args2 H M Q)(ha:wks args args2):ai P f args H M Q :=
 ai.pE [] (by rw[List.append_nil];exact h) (dX ha).1 (dX ha).2
theorem nj{P:Program}{css:List (List Value)}{ids:List Nat}{H:Heap}(dR:∀(k:Nat) (cs:List Value),css[k]?=some cs->∃id own z,ids[k]?=some id/\H[id]?=some (ae.cells own z (cs.map (rn (sgR P.globals.size ids) 3))))(hl:ids.length=css.length) :
  Reads P (bg P.globals.size css).list H (sgR P.globals.size ids) 3:=by
 have hn:(bg P.globals.size css).list.length=P.globals.size+css.length:=by rw[HT.length,jb]
 refine ⟨fun g hg=>if_pos hg,fun id id' h =>?_,by rw[hn];omega,fun id o h =>?_,fun id id' cs h1 h2 =>?_⟩
 ·rw[hn]
  unfold sgR at h
  split at h
  ·omega
  ·have:=(List.getElem?_eq_some_iff.1 h).1;omega
 ·rw[eZ]at h
  split at h
  ·cases h;exact .inl rfl
  ·obtain ⟨cs,_,rfl⟩:=a8 h;exact .inr ⟨cs,rfl⟩
 ·rw[eZ]at h2
  split at h2
  ·cases h2
  ·rename_i hlt
   obtain ⟨cs',a1,a2⟩:=a8 h2
   cases a2
   unfold sgR at h1
   rw[if_neg hlt]at h1
   obtain ⟨id2,own,z,b1,b2⟩:=dR _ _ a1
   rw[h1]at b1;cases b1
   exact ⟨own,z,[],by rw[List.append_nil];exact b2⟩
theorem AB{P:Program}{mixed:Bool}{mask:Nat}{dm:Value->MS}{rounds:Nat}(dG:eA P mixed mask)(ej:mixed=true->P.follows .mixedOrders=true)(n:Nat){f:FuncId}{args:List Value}{css:List (List Value)}{h:Hint}{v:Value}{new:List (Bool×ae)}
  (hc:vF P mask dm rounds mixed n true f args (bg P.globals.size css) (some []) h (iJ (bg P.globals.size css).n 3 v new))
  (hv:cJ 3 v=true) (hv2:rn (bZ (P.globals.size+css.length)) 3 v=v) (hn:(new.map (·.2)).all (fun o=>cT 3 o&&o.owned)=true) (hn2:(new.map (·.2)).map (rno (bZ (P.globals.size+css.length)) 3)=new.map (·.2))
  {H:Heap} (ids:List Nat) (hl:ids.length=css.length) (dR:∀(k:Nat) (cs:List Value),css[k]?=some cs->∃id own z,ids[k]?=some id/\H[id]?=some (ae.cells own z (cs.map (rn (sgR P.globals.size ids) 3)))) :
  ai P f (args.map (rn (sgR P.globals.size ids) 3)) H [] (Is (rn (cY (P.globals.size+css.length) H.length) 3 v) (H++(new.map (·.2)).map (rno (cY (P.globals.size+css.length) H.length) 3))):=by
 have h1:=vcN dG ej n hc
 have e:(bg P.globals.size css).list.length=P.globals.size+css.length:=by rw[HT.length,jb]
 have:=ai.reads (nj dR hl) h1 hv (by rw[e];exact hv2) hn (by rw[e];exact hn2)
 rw[e]at this
 exact this
theorem zy{P:Program}{mixed:Bool}{mask:Nat}{dm:Value->MS}{rounds:Nat}(dG:eA P mixed mask)(ej:mixed=true->P.follows .mixedOrders=true)(n:Nat){f:FuncId}{args:List Value}{css:List (List Value)}{h:Hint}{v:Value}
  (hc:vF P mask dm rounds mixed n true f args (bg P.globals.size css) (some []) h (fun v' _ _=>v'=v)) (hv:b7 0 v=true)
  {H:Heap} (ids:List Nat) (hl:ids.length=css.length) (dR:∀(k:Nat) (cs:List Value),css[k]?=some cs->∃id own z,ids[k]?=some id/\H[id]?=some (ae.cells own z (cs.map (rn (sgR P.globals.size ids) 3)))) (h3:cJ 3 v=true:=by rfl) (h4:∀U,rn U 3 v=v:=by intro U;rfl) :
  ai P f (args.map (rn (sgR P.globals.size ids) 3)) H [] (Is v H):=by
 have h1:ai P f args (bg P.globals.size css).list [] (Is v ((bg P.globals.size css).list ++ [])):=by
  have:=ai.clean (vc dG ej n (Q:=fun v' _=>v'=v) hc) hv
  simpa using this
 have:=ai.reads (nj dR hl) h1 h3 (h4 _) rfl rfl
 rw[h4]at this
 simpa using this
end
end Go.K
namespace Go.Proofs.YthcjliffpebjaaaGreat
noncomputable section
attribute [local irreducible] vF
theorem xf(a b:Cell)(H:Heap):ai prog F.l5 [cellV a,cellV b] H [] (Is (.tuple #[cellV (d8 a b),.bool (decide (okC (d8 a b)))]) H):=by
 refine fL 40 (fun _=>rfl) rfl (Eq.mpr (xI _ a b) ?_) H
 unfold tQ
 repeat' first|exact trivial|exact rfl|refine aK ?_ ?_ ?_|refine aJ ?_ ?_ ?_|refine toMax ?_|refine toMin ?_|refine ⟨rfl,?_⟩|refine ⟨trivial,?_⟩|(refine aO (fun h =>?_) (fun h =>?_))|(refine aM (fun h =>?_) (fun h =>?_))|(refine aU (fun h =>?_) (fun h =>?_))|refine aD ?_|(refine ⟨aG (by omega),?_⟩)|(refine And.intro (by omega) ?_)|apply And.intro|exact ar _|(exact iEq (by omega))|(exact aG (by omega))
 ·exact congrArg (fun q=>Value.tuple #[cellV (d8 a b),Value.bool q]) (decide_eq_true (p:=okC (d8 a b)) ⟨‹_›,‹_›,‹_›,‹_›⟩).symm
 all_goals exact congrArg (fun q=>Value.tuple #[cellV (d8 a b),Value.bool q]) (decide_eq_false (p:=okC (d8 a b)) (fun o=>by first|exact h o.1|exact h o.2.1|exact h o.2.2.1|exact h o.2.2.2)).symm
theorem ti(c:Cell)(m:aR)(h:Int)(hc:bG c)(hm:cb m)(hh:0<=h/\h<=10000)(H:Heap):ai prog F.gC [cellV c,cn m,.int .i64 h] H [] (Is (cellV (gP c m h)) H):=by
 refine fL 40 (fun _=>rfl) rfl (Eq.mpr (xJ _ c m h) ?_) H
 unfold tR
 obtain ⟨⟨u1,u2,u3,u4⟩,d1,d2,d3,d4⟩:=hm
 obtain ⟨c1,c2,c3,c4⟩:=hc
 unfold bF at c1 c2 c3 c4
 have b1:=dt u1 hh;have b2:=dt u2 hh;have b3:=dt u3 hh;have b4:=dt u4 hh
 have e1:=dt d1 hh;have e2:=dt d2 hh;have e3:=dt d3 hh;have e4:=dt d4 hh
 repeat' first
  |refine ⟨_,trivial,fun H' _ _=>xh _ _ (by first
  |exact u1
  |exact u2
  |exact u3
  |exact u4
  |exact d1
  |exact d2
  |exact d3
  |exact d4) hh H',?_⟩
  |exact trivial
  |exact rfl
  |refine aK ?_ ?_ ?_
  |refine aJ ?_ ?_ ?_
  |refine toMax ?_
  |refine toMin ?_
  |refine ⟨rfl,?_⟩
  |refine ⟨trivial,?_⟩
  |refine aO (fun h =>?_) (fun h =>?_)
  |refine aM (fun h =>?_) (fun h =>?_)
  |refine aU (fun h =>?_) (fun h =>?_)
  |refine aD ?_
  |refine ⟨aG (by omega),?_⟩
  |refine And.intro (by omega) ?_
  |apply And.intro
  |exact ar _
  |exact iEq (by omega)
  |exact aG (by omega)
theorem yv(a b:Cell)(H:Heap):ai prog F.jW [cellV a,cellV b] H [] (Is (.bool (decide (mZ a b))) H):=by
 refine fL 40 (fun _=>rfl) rfl (Eq.mpr (zk _ a b) ?_) H
 unfold wL
 repeat' first|exact trivial|exact rfl|refine aK ?_ ?_ ?_|refine aJ ?_ ?_ ?_|refine toMax ?_|refine toMin ?_|refine ⟨rfl,?_⟩|refine ⟨trivial,?_⟩|(refine aO (fun h =>?_) (fun h =>?_))|(refine aM (fun h =>?_) (fun h =>?_))|(refine aU (fun h =>?_) (fun h =>?_))|refine aD ?_|(refine ⟨aG (by omega),?_⟩)|(refine And.intro (by omega) ?_)|apply And.intro|exact ar _|(exact iEq (by omega))|(exact aG (by omega))
 all_goals first|exact bEq (decide_eq_true (by unfold mZ mY;omega)).symm|exact bEq (decide_eq_false (by unfold mZ mY;omega)).symm
theorem yw(c:Cell)(x:Ice)(H:Heap):ai prog F.m3 [cellV c,vS x] H [] (Is (.bool (decide (db c x))) H):=by
 refine fL 40 (fun _=>rfl) rfl (Eq.mpr (zl _ c x) ?_) H
 unfold wM
 repeat' first|exact trivial|exact rfl|refine aK ?_ ?_ ?_|refine aJ ?_ ?_ ?_|refine toMax ?_|refine toMin ?_|refine ⟨rfl,?_⟩|refine ⟨trivial,?_⟩|(refine aO (fun h =>?_) (fun h =>?_))|(refine aM (fun h =>?_) (fun h =>?_))|(refine aU (fun h =>?_) (fun h =>?_))|refine aD ?_|(refine ⟨aG (by omega),?_⟩)|(refine And.intro (by omega) ?_)|apply And.intro|exact ar _|(exact iEq (by omega))|(exact aG (by omega))
 all_goals first|exact bEq (decide_eq_true (by unfold db io;omega)).symm|exact bEq (decide_eq_false (by unfold db io;omega)).symm
def fg(w h t:Int):Prop:=(1<=w/\w<=64)/\(1<=h/\h<=64)/\w*h<=1024/\(0<=t/\t<=10000)
instance (w h t:Int):Decidable (fg w h t):=by unfold fg;infer_instance
def bp(w h t:Int):Int:=if fg w h t then 0 else 6
theorem dd{w h t:Int}:bp w h t=0 ↔ fg w h t:=by unfold bp;split <;> simp_all
theorem bh(w h t:Int)(H:Heap):ai prog F.vP [.int .i64 w,.int .i64 h,.int .i64 t] H [] (Is (.int .i64 (bp w h t)) H):=by
 refine fL 40 (fun _=>rfl) rfl (Eq.mpr (At _ w h t) ?_) H
 unfold yb
 have mb:(1<=w/\w<=64)->(1<=h/\h<=64)->0<=w*h/\w*h<=64*64:=fun h1 h2=>yo (by omega) h1.2 (by omega) h2.2
 repeat' first|(refine ⟨aG (by have:=mb ⟨‹_›,‹_›⟩ ⟨‹_›,‹_›⟩;omega),?_⟩)|(exact iEq (if_pos (by unfold fg;omega)).symm)|(exact iEq (if_neg (by unfold fg;omega)).symm)|exact trivial|exact rfl|refine aK ?_ ?_ ?_|refine aJ ?_ ?_ ?_|refine toMax ?_|refine toMin ?_|refine ⟨rfl,?_⟩|refine ⟨trivial,?_⟩|(refine aO (fun h =>?_) (fun h =>?_))|(refine aM (fun h =>?_) (fun h =>?_))|(refine aU (fun h =>?_) (fun h =>?_))|refine aD ?_|(refine ⟨aG (by omega),?_⟩)|(refine And.intro (by omega) ?_)|apply And.intro|exact ar _|(exact iEq (by omega))|(exact aG (by omega))
def aQ{Y:Type}(f:Nat->Y)(n:Nat):List Y:=(List.range n).map f
theorem bK{Y:Type}(f:Nat->Y)(n:Nat):(aQ f n).length=n:=by simp[aQ]
theorem na{Y:Type}(f:Nat->Y)(n:Nat):aQ f (n+1)=aQ f n ++ [f n]:=by simp[aQ,List.range_succ]
theorem ck{Y:Type}{f:Nat->Y}{n k:Nat}{d:Y}(h:k<n):(aQ f n).getD k d=f k:=by simp[aQ,List.getD_eq_getElem?_getD,List.getElem?_range h]
abbrev br(r:Report):Value:=.agg ⟨bu r⟩
def c7(r:Report):Prop:=((0<=r.id/\r.id<=1000000)/\(1<=r.source/\r.source<=3)/\(0<=r.at_/\r.at_<=10000)/\(0<=r.x/\r.x<=63)/\(0<=r.y/\r.y<=63)/\(1<=r.has/\r.has<=15)) /\
 (r.has % 2=1->bF r.cell.ag 100)/\(r.has / 2 % 2=1->bF r.cell.ad 400)/\(r.has / 4 % 2=1->bF r.cell.ac 100)/\(r.has / 8 % 2=1->bF r.cell.ab 3)
instance (r:Report):Decidable (c7 r):=by unfold c7;infer_instance
def errReport(r:Report):Int:=if c7 r then 0 else 20
theorem iz{r:Report}:errReport r=0 ↔ c7 r:=by unfold errReport;split <;> simp_all
def ll(r:Report):Cell:=⟨if r.has % 2=1 then r.cell.ag else ⟨0,100⟩,if r.has / 2 % 2=1 then r.cell.ad else ⟨0,400⟩,if r.has / 4 % 2=1 then r.cell.ac else ⟨0,100⟩,if r.has / 8 % 2=1 then r.cell.ab else ⟨0,3⟩⟩
theorem kg{r:Report}(h:c7 r):bG (ll r):=by
 obtain ⟨_,h1,h2,h3,h4⟩:=h
 unfold ll
 refine ⟨?_,?_,?_,?_⟩
 ·show bF (if _ then _ else _) 100
  split
  ·exact h1 ‹_›
  ·unfold bF;decide
 ·show bF (if _ then _ else _) 400
  split
  ·exact h2 ‹_›
  ·unfold bF;decide
 ·show bF (if _ then _ else _) 100
  split
  ·exact h3 ‹_›
  ·unfold bF;decide
 ·show bF (if _ then _ else _) 3
  split
  ·exact h4 ‹_›
  ·unfold bF;decide
def bl(r:Report)(m:aR)(now:Int):Cell:=gP (ll r) m (now-r.at_)
def xy(now:Int):Int:=if 0<=now/\now<=10000 then 0 else 6
def yV(m:aR)(now:Int):Int:=ew (bA m) (xy now)
def ca(f:Nat->Int):Nat->Int
 |0=>0
 |n+1=>if ca f n=0 then f n else ca f n
theorem gH{f:Nat->Int}{n:Nat}(h:ca f n=0)(k:f n=0):ca f (n+1)=0:=by unfold ca;rw[if_pos h,k]
theorem sE{f:Nat->Int}{i n:Nat}(h:ca f i=0)(k:¬ f i=0)(hn:i<n):ca f n=f i:=by
 have key:∀d,ca f (i+1+d)=f i:=by
  intro d
  induction d with
  |zero=>show (if ca f i=0 then f i else ca f i)=f i;rw[if_pos h]
  |succ d ih=>show (if ca f (i+1+d)=0 then f (i+1+d) else ca f (i+1+d))=f i;rw[ih,if_neg k]
 have:=key (n-(i+1))
 rwa [show i+1+(n-(i+1))=n by omega]at this
theorem iT{f:Nat->Int}{n:Nat}(h:ca f n=0):∀i,i<n->f i=0:=by
 induction n with
 |zero=>intro i hi;omega
 |succ n ih =>
  unfold ca at h
  split at h
  ·intro i hi
   rcases Nat.lt_or_ge i n with h1|h1
   ·exact ih (by assumption) i h1
   ·obtain rfl:i=n:=by omega
    exact h
  ·rename_i h1;exact absurd h h1
def cx(n s i:Nat):Bool:=s.testBit (n-1-i)
def tog(ts:List Cell)(s:Nat):Nat->Option Cell
 |0=>some az
 |j+1=>match tog ts s j with
  |none=>none
  |some c=>if cx ts.length s j then (if okC (d8 c (ts.getD j ah)) then some (d8 c (ts.getD j ah)) else none) else some c
def aT(ts:List Cell)(s:Nat):Option Cell:=tog ts s ts.length
def cQ(s:Nat):Nat:=((List.range 12).filter fun i=>s.testBit i).length
def agr(ts:List Cell):Nat->Int×List Nat
 |0=>(-1,[])
 |j+1 =>
  let s:=2 ^ ts.length-1-j
  if (cQ s:Int)<(agr ts j).1 then agr ts j else if (aT ts s).isSome then (if (agr ts j).1<cQ s then (cQ s,[s]) else ((agr ts j).1,(agr ts j).2 ++ [s])) else agr ts j
def cG(ts:List Cell):List Nat:=(agr ts (2 ^ ts.length)).2
def dO(s:Nat):List Value:=[.int .i64 ((s:Nat):Int)]
abbrev bO(b:Bool):List Value:=[.bool b]
def ao(ts:List Cell):Nat:=(cG ts).getD 0 0
def aX(ts:List Cell)(n:Nat):List Bool:=aQ (fun i=>cx ts.length (ao ts) i) n
end
end Go.Proofs.YthcjliffpebjaaaGreat
