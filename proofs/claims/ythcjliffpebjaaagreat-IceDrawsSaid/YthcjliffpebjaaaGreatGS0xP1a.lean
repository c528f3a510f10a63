/- Ice: what all texts share. No condition. -/
import Derived.Test.YthcjliffpebjaaaGreatN
import Derived.IntWalk
import Derived.Test.YthcjliffpebjaaaGreatGV11xV14
open Go Go.K
set_option maxRecDepth 1000000
set_option maxHeartbeats 4000000
set_option linter.unusedVariables false
set_option linter.unusedSimpArgs false
namespace Go.Proofs.YthcjliffpebjaaaGreat
noncomputable section
attribute [local irreducible] vF
def dm(imp:Nat):Value->MS
 | .func (.func f) _ _=>cond (Nat.testBit imp f) none (some [])
 | .func (.yield _) _ _=>none
 |_=>some []
theorem iY{a b:Int}(h:a=b):(Value.int .i64 a) = .int .i64 b:=by rw[h]
structure Span where
 lo:Int
 hi:Int
structure Cell where
 ag:Span
 ac:Span
 ab:Span
 aa:Span
structure Ice where
 ag:Int
 ac:Int
 ab:Int
 aa:Int
structure aO where
 up:Ice
 down:Ice
structure Report where
 id:Int
 source:Int
 at_:Int
 x:Int
 y:Int
 has:Int
 cell:Cell
abbrev cellC(c:Cell):List Value:=[.int .i64 c.ag.lo,.int .i64 c.ag.hi,.int .i64 c.ac.lo,.int .i64 c.ac.hi,.int .i64 c.ab.lo,.int .i64 c.ab.hi,.int .i64 c.aa.lo,.int .i64 c.aa.hi]
abbrev vA(m:aO):List Value:=[.int .i64 m.up.ag,.int .i64 m.up.ac,.int .i64 m.up.ab,.int .i64 m.up.aa,.int .i64 m.down.ag,.int .i64 m.down.ac,.int .i64 m.down.ab,.int .i64 m.down.aa]
abbrev aq(r:Report):List Value:=[.int .i64 r.id,.int .i64 r.source,.int .i64 r.at_,.int .i64 r.x,.int .i64 r.y,.int .i64 r.has]++cellC r.cell
abbrev cellV(c:Cell):Value:=.agg ⟨cellC c⟩
abbrev bj(m:aO):Value:=.agg ⟨vA m⟩
theorem fk{f:FuncId}{args:List Value}{h:Hint}{v:Value}(n:Nat)(hargs:∀U,args.map (rn U 5)=args)(hv:cc 0 v=true)
  (hc:vF prog msk (dm 0) 100000 true n true f args ⟨0,.leaf⟩ (some []) h (fun v' _ _=>v'=v)) (H:Heap):ap prog f args H [] (Is v H) :=
 vcP ny mixed n hargs hv (by rw[dS];exact hc) H (by rw[dS];exact Nat.zero_le _)
def kS(sp:Value)(m:aO):Prop :=
 (((decide ((0:Int)<=m.up.ag))=true->(((decide ((m.up.ag:Int)<=1000))=true->(((decide ((0:Int)<=m.down.ag))=true->(((!(decide ((m.down.ag:Int)<=1000)))=true->(.int .i64 6:Value)=sp)/\((!(decide ((m.down.ag:Int)<=1000)))=false->(((decide ((0:Int)<=m.up.ac))=true->(((decide ((m.up.ac:Int)<=1000))=true->(((decide ((0:Int)<=m.down.ac))=true->(((!(decide ((m.down.ac:Int)<=1000)))=true->(.int .i64 6:Value)=sp)/\((!(decide ((m.down.ac:Int)<=1000)))=false->(((decide ((0:Int)<=m.up.ab))=true->(((decide ((m.up.ab:Int)<=1000))=true->(((decide ((0:Int)<=m.down.ab))=true->(((!(decide ((m.down.ab:Int)<=1000)))=true->(.int .i64 6:Value)=sp)/\((!(decide ((m.down.ab:Int)<=1000)))=false->(((decide ((0:Int)<=m.up.aa))=true->(((decide ((m.up.aa:Int)<=1000))=true->(((decide ((0:Int)<=m.down.aa))=true->(((!(decide ((m.down.aa:Int)<=1000)))=true->(.int .i64 6:Value)=sp)/\((!(decide ((m.down.aa:Int)<=1000)))=false->(.int .i64 0:Value)=sp)))/\((decide ((0:Int)<=m.down.aa))=false->(.int .i64 6:Value)=sp)))/\((decide ((m.up.aa:Int)<=1000))=false->(.int .i64 6:Value)=sp)))/\((decide ((0:Int)<=m.up.aa))=false->(.int .i64 6:Value)=sp)))))/\((decide ((0:Int)<=m.down.ab))=false->(.int .i64 6:Value)=sp)))/\((decide ((m.up.ab:Int)<=1000))=false->(.int .i64 6:Value)=sp)))/\((decide ((0:Int)<=m.up.ab))=false->(.int .i64 6:Value)=sp)))))/\((decide ((0:Int)<=m.down.ac))=false->(.int .i64 6:Value)=sp)))/\((decide ((m.up.ac:Int)<=1000))=false->(.int .i64 6:Value)=sp)))/\((decide ((0:Int)<=m.up.ac))=false->(.int .i64 6:Value)=sp)))))/\((decide ((0:Int)<=m.down.ag))=false->(.int .i64 6:Value)=sp)))/\((decide ((m.up.ag:Int)<=1000))=false->(.int .i64 6:Value)=sp)))/\((decide ((0:Int)<=m.up.ag))=false->(.int .i64 6:Value)=sp))
theorem ry(sp:Value)(m:aO):vF prog msk (dm 0) 100000 true 40 true 31 [.agg #[.int .i64 m.up.ag,.int .i64 m.up.ac,.int .i64 m.up.ab,.int .i64 m.up.aa,.int .i64 m.down.ag,.int .i64 m.down.ac,.int .i64 m.down.ab,.int .i64 m.down.aa]] ⟨0,.leaf⟩ (some [])
 (.go 60 (.az (.go 5 (.az (.go 8 (.az (.go 7 (.fork (.auto) (.go 18 (.az (.go 5 (.az (.go 8 (.az (.go 7 (.fork (.auto) (.go 18 (.az (.go 5 (.az (.go 8 (.az (.go 7 (.fork (.auto) (.go 18 (.az (.go 5 (.az (.go 8 (.az (.go 7 (.fork (.auto) (.auto))) (.auto))) (.auto))) (.auto))))) (.auto))) (.auto))) (.auto))))) (.auto))) (.auto))) (.auto))))) (.auto))) (.auto))) (.auto)))
 (fun v _ _=>v=sp)=kS sp m:=by kernel_rfl
def tW(sp:Value)(rate hours:Int):Prop :=
 ((.int .i64 (IntKind.wrap .i64 (rate*hours)):Value) = .int .i64 (rate*hours)/\((.int .i64 (IntKind.wrap .i64 ((rate*hours)+24)):Value) = .int .i64 ((rate*hours)+24)/\((.int .i64 (IntKind.wrap .i64 (((rate*hours)+24)-1)):Value) = .int .i64 (((rate*hours)+24)-1)/\((.int .i64 (IntKind.wrap .i64 (Int.tdiv (((rate*hours)+24)-1) 24)):Value) = .int .i64 (Int.tdiv (((rate*hours)+24)-1) 24)/\(.int .i64 (Int.tdiv (((rate*hours)+24)-1) 24):Value)=sp))))
theorem yg(sp:Value)(rate hours:Int):vF prog msk (dm 0) 100000 true 40 true 149 [.int .i64 rate,.int .i64 hours] ⟨0,.leaf⟩ (some [])
 (.go 3 (.slot 7 (.int .i64 (rate*hours)) (.go 0 (.slot 8 (.int .i64 ((rate*hours)+24)) (.go 0 (.slot 9 (.int .i64 (((rate*hours)+24)-1)) (.go 0 (.slot 10 (.int .i64 (Int.tdiv (((rate*hours)+24)-1) 24)) (.auto)))))))))
 (fun v _ _=>v=sp)=tW sp rate hours:=by kernel_rfl
def zG(sp:Value)  : Prop :=
 (.agg #[.int .i64 0,.int .i64 100,.int .i64 0,.int .i64 400,.int .i64 0,.int .i64 100,.int .i64 0,.int .i64 3]:Value)=sp
theorem zO (sp : Value)  : vF prog msk (dm 0) 100000 true 40 true 33 [] ⟨0, .leaf⟩ (some [])
  (.auto)
  (fun v _ _ => v = sp) = zG sp  := by kernel_rfl
def bJ(s:Span)(m:Int):Prop:=0<=s.lo/\s.lo<=m/\s.lo<=s.hi/\s.hi<=m
def dE(c:Cell):Prop:=bJ c.ag 100/\bJ c.ac 400/\bJ c.ab 100/\bJ c.aa 3
def vv(x:Ice):Prop:=(0<=x.ag/\x.ag<=100)/\(0<=x.ac/\x.ac<=400)/\(0<=x.ab/\x.ab<=100)/\0<=x.aa/\x.aa<=3
def kG(x:Ice):Prop:=(0<=x.ag/\x.ag<=1000)/\(0<=x.ac/\x.ac<=1000)/\(0<=x.ab/\x.ab<=1000)/\0<=x.aa/\x.aa<=1000
def c7(m:aO):Prop:=kG m.up/\kG m.down
instance (s:Span) (m:Int):Decidable (bJ s m):=by unfold bJ;infer_instance
instance (c:Cell):Decidable (dE c):=by unfold dE;infer_instance
instance (x:Ice):Decidable (vv x):=by unfold vv;infer_instance
instance (x:Ice):Decidable (kG x):=by unfold kG;infer_instance
instance (m:aO):Decidable (c7 m):=by unfold c7;infer_instance
def bG(m:aO):Int:=if c7 m then 0 else 6
def ak:Cell:=⟨⟨0,0⟩,⟨0,0⟩,⟨0,0⟩,⟨0,0⟩⟩
def uM(s:Span)(n:Int):Prop:=s.lo<=n/\n<=s.hi
def AA(c:Cell)(x:Ice):Prop:=uM c.ag x.ag/\uM c.ac x.ac/\uM c.ab x.ab/\uM c.aa x.aa
def uH(s t:Span):Prop:=t.lo<=s.lo/\s.hi<=t.hi
def Am(a b:Cell):Prop:=uH a.ag b.ag/\uH a.ac b.ac/\uH a.ab b.ab/\uH a.aa b.aa
def okC(c:Cell):Prop:=c.ag.lo<=c.ag.hi/\c.ac.lo<=c.ac.hi/\c.ab.lo<=c.ab.hi/\c.aa.lo<=c.aa.hi
instance (s:Span) (n:Int):Decidable (uM s n):=by unfold uM;infer_instance
instance (c:Cell) (x:Ice):Decidable (AA c x):=by unfold AA;infer_instance
instance (s t:Span):Decidable (uH s t):=by unfold uH;infer_instance
instance (a b:Cell):Decidable (Am a b):=by unfold Am;infer_instance
instance (c:Cell):Decidable (okC c):=by unfold okC;infer_instance
def kH(s t:Span):Span:=⟨max s.lo t.lo,min s.hi t.hi⟩
def cj(a b:Cell):Cell:=⟨kH a.ag b.ag,kH a.ac b.ac,kH a.ab b.ab,kH a.aa b.aa⟩
def chg(rate hours:Int):Int:=(rate*hours+23) / 24
def u6(s:Span)(u d h m:Int):Span:=⟨max (s.lo-chg d h) 0,min (s.hi+chg u h) m⟩
def xV(c:Cell)(m:aO)(h:Int):Cell:=⟨u6 c.ag m.up.ag m.down.ag h 100,u6 c.ac m.up.ac m.down.ac h 400,u6 c.ab m.up.ab m.down.ab h 100,u6 c.aa m.up.aa m.down.aa h 3⟩
def ay:Cell:=⟨⟨0,100⟩,⟨0,400⟩,⟨0,100⟩,⟨0,3⟩⟩
def kp(e f:Int):Int:=if e=0 then f else e
theorem w64{n:Int}(h : -9223372036854775808<=n/\n<=9223372036854775807):IntKind.wrap .i64 n=n:=IntWalk.i64_in n h
theorem v64{n:Int}(h : -9223372036854775808<=n/\n<=9223372036854775807):(Value.int .i64 (IntKind.wrap .i64 n)) = .int .i64 n:=by rw[w64 h]
theorem vN{a b A B:Int}(h1:0<=a)(h2:a<=A)(h3:0<=b)(h4:b<=B):0<=a*b/\a*b<=A*B :=
 ⟨Int.mul_nonneg h1 h3,Int.mul_le_mul h2 h4 h3 (Int.le_trans h1 h2)⟩
theorem jN{c:aO}(h:c7 c):bG c=0:=if_pos h
theorem jO{c:aO}(h:¬ c7 c):bG c=6:=if_neg h
theorem f5{c:aO}:bG c=0 ↔ c7 c:=by unfold bG;split <;> simp_all
theorem kO(m:aO)(H:Heap):ap prog F.mr [bj m] H [] (Is (.int .i64 (bG m)) H):=by
 refine fk 40 (fun _=>rfl) rfl (Eq.mpr (ry _ m) ?_) H
 unfold kS
 simp only[decide_eq_true_eq,decide_eq_false_iff_not,Bool.not_eq_true',Bool.not_eq_false']
 repeat' (first|apply And.intro|intro _)
 all_goals first
  |exact iY (jO (by unfold c7 kG;omega)).symm
  |exact iY (jN (by unfold c7 kG;omega)).symm
theorem xE(rate hours:Int)(h1:0<=rate/\rate<=1000)(h2:0<=hours/\hours<=10000)(H:Heap):ap prog F.sB [.int .i64 rate,.int .i64 hours] H [] (Is (.int .i64 (chg rate hours)) H):=by
 refine fk 40 (fun _=>rfl) rfl (Eq.mpr (yg _ rate hours) ?_) H
 have hb:=vN h1.1 h1.2 h2.1 h2.2
 have ht:Int.tdiv (rate*hours+24-1) 24=(rate*hours+24-1) / 24:=Int.tdiv_eq_ediv_of_nonneg (by omega)
 unfold tW
 refine ⟨v64 (by omega),v64 (by omega),v64 (by omega),v64 (by rw[ht];omega),iY ?_⟩
 rw[ht];unfold chg;congr 1;omega
theorem qO{e f:Int}(h:¬ e=0):kp e f=e:=if_neg h
theorem jM{e f:Int}(h:e=0):kp e f=f:=if_pos h
theorem cg{r h:Int}(h1:0<=r/\r<=1000)(h2:0<=h/\h<=10000):0<=chg r h/\chg r h<=500000:=by
 have:=vN h1.1 h1.2 h2.1 h2.2
 unfold chg;omega
theorem zb(H:Heap):ap prog F.uI [] H [] (Is (cellV ay) H):=fk 40 (fun _=>rfl) rfl (Eq.mpr (zO _) rfl) H
def yi:Ice:=⟨0,0,0,0⟩
def ad:Report:=⟨0,0,0,0,0,0,ak⟩
def jV(sp:Value)(m:aO):Prop :=
 (((decide ((m.up.ag:Int)<0))=true->(.int .i64 6:Value)=sp)/\((decide ((m.up.ag:Int)<0))=false->(((decide ((1000:Int)<m.up.ag))=true->(.int .i64 6:Value)=sp)/\((decide ((1000:Int)<m.up.ag))=false->(((decide ((m.down.ag:Int)<0))=true->(.int .i64 6:Value)=sp)/\((decide ((m.down.ag:Int)<0))=false->(((decide ((1000:Int)<m.down.ag))=true->(.int .i64 6:Value)=sp)/\((decide ((1000:Int)<m.down.ag))=false->(((decide ((m.up.ac:Int)<0))=true->(.int .i64 6:Value)=sp)/\((decide ((m.up.ac:Int)<0))=false->(((decide ((1000:Int)<m.up.ac))=true->(.int .i64 6:Value)=sp)/\((decide ((1000:Int)<m.up.ac))=false->(((decide ((m.down.ac:Int)<0))=true->(.int .i64 6:Value)=sp)/\((decide ((m.down.ac:Int)<0))=false->(((decide ((1000:Int)<m.down.ac))=true->(.int .i64 6:Value)=sp)/\((decide ((1000:Int)<m.down.ac))=false->(((decide ((m.up.ab:Int)<0))=true->(.int .i64 6:Value)=sp)/\((decide ((m.up.ab:Int)<0))=false->(((decide ((1000:Int)<m.up.ab))=true->(.int .i64 6:Value)=sp)/\((decide ((1000:Int)<m.up.ab))=false->(((decide ((m.down.ab:Int)<0))=true->(.int .i64 6:Value)=sp)/\((decide ((m.down.ab:Int)<0))=false->(((decide ((1000:Int)<m.down.ab))=true->(.int .i64 6:Value)=sp)/\((decide ((1000:Int)<m.down.ab))=false->(((decide ((m.up.aa:Int)<0))=true->(.int .i64 6:Value)=sp)/\((decide ((m.up.aa:Int)<0))=false->(((decide ((1000:Int)<m.up.aa))=true->(.int .i64 6:Value)=sp)/\((decide ((1000:Int)<m.up.aa))=false->(((decide ((m.down.aa:Int)<0))=true->(.int .i64 6:Value)=sp)/\((decide ((m.down.aa:Int)<0))=false->(((decide ((1000:Int)<m.down.aa))=true->(.int .i64 6:Value)=sp)/\((decide ((1000:Int)<m.down.aa))=false->(.int .i64 0:Value)=sp))))))))))))))))))))))))))))))))
theorem pA(sp:Value)(m:aO):vF prog msk (dm 0) 100000 true 40 true 32 [.agg #[.int .i64 m.up.ag,.int .i64 m.up.ac,.int .i64 m.up.ab,.int .i64 m.up.aa,.int .i64 m.down.ag,.int .i64 m.down.ac,.int .i64 m.down.ab,.int .i64 m.down.aa]] ⟨0,.leaf⟩ (some [])
 (.go 36 (.az (.auto) (.go 3 (.az (.auto) (.go 3 (.az (.auto) (.go 2 (.fork (.auto) (.go 42 (.az (.auto) (.go 3 (.az (.auto) (.go 3 (.az (.auto) (.go 2 (.fork (.auto) (.go 48 (.az (.auto) (.go 3 (.az (.auto) (.go 3 (.az (.auto) (.go 2 (.fork (.auto) (.go 48 (.az (.auto) (.go 3 (.az (.auto) (.go 3 (.az (.auto) (.go 2 (.fork (.auto) (.auto)))))))))))))))))))))))))))))))))
 (fun v _ _=>v=sp)=jV sp m:=by kernel_rfl
def rt(sp:Value)(rate hours:Int):Prop :=
 ((.int .i64 (IntKind.wrap .i64 (rate*hours)):Value) = .int .i64 (rate*hours)/\((.int .i64 (IntKind.wrap .i64 (Int.tdiv (rate*hours) 24)):Value) = .int .i64 (Int.tdiv (rate*hours) 24)/\((.int .i64 (IntKind.wrap .i64 ((Int.tdiv (rate*hours) 24)*24)):Value) = .int .i64 ((Int.tdiv (rate*hours) 24)*24)/\((.int .i64 (IntKind.wrap .i64 (rate*hours)):Value) = .int .i64 (rate*hours)/\(((decide ((((Int.tdiv (rate*hours) 24)*24):Int)<(rate*hours)))=true->((.int .i64 (IntKind.wrap .i64 ((Int.tdiv (rate*hours) 24)+1)):Value) = .int .i64 ((Int.tdiv (rate*hours) 24)+1)/\(.int .i64 ((Int.tdiv (rate*hours) 24)+1):Value)=sp))/\((decide ((((Int.tdiv (rate*hours) 24)*24):Int)<(rate*hours)))=false->(.int .i64 (Int.tdiv (rate*hours) 24):Value)=sp))))))
theorem xe(sp:Value)(rate hours:Int):vF prog msk (dm 0) 100000 true 40 true 117 [.int .i64 rate,.int .i64 hours] ⟨0,.leaf⟩ (some [])
 (.go 3 (.slot 8 (.int .i64 (rate*hours)) (.go 0 (.slot 9 (.int .i64 (Int.tdiv (rate*hours) 24)) (.go 2 (.slot 11 (.int .i64 ((Int.tdiv (rate*hours) 24)*24)) (.go 2 (.slot 14 (.int .i64 (rate*hours)) (.go 0 (.fork (.go 1 (.slot 17 (.int .i64 ((Int.tdiv (rate*hours) 24)+1)) (.auto))) (.auto)))))))))))
 (fun v _ _=>v=sp)=rt sp rate hours:=by kernel_rfl
def xW(sp:Value)  : Prop :=
 (.agg #[.int .i64 0,.int .i64 100,.int .i64 0,.int .i64 400,.int .i64 0,.int .i64 100,.int .i64 0,.int .i64 3]:Value)=sp
theorem yc (sp : Value)  : vF prog msk (dm 0) 100000 true 40 true 34 [] ⟨0, .leaf⟩ (some [])
  (.auto)
  (fun v _ _ => v = sp) = xW sp  := by kernel_rfl
theorem oS(m:aO)(H:Heap):ap prog F.fC [bj m] H [] (Is (.int .i64 (bG m)) H):=by
 refine fk 40 (fun _=>rfl) rfl (Eq.mpr (pA _ m) ?_) H
 unfold jV
 simp only[decide_eq_true_eq,decide_eq_false_iff_not,Bool.not_eq_true',Bool.not_eq_false']
 repeat' (first|apply And.intro|intro _)
 all_goals first
  |exact iY (jO (by unfold c7 kG;omega)).symm
  |exact iY (jN (by unfold c7 kG;omega)).symm
theorem ua{f:FuncId}{args:List Value}{css:List (List Value)}{h:Hint}{v:Value}(hc:vF prog msk (dm 0) 100000 true 40 true f args (bi 0 css) (some []) h (fun v' _ _=>v'=v))(gR:∀cs∈css,cs.all (aS 0)=true)(hv:cc 0 v=true)
  {H:Heap} (ids:List Nat) (hl:ids.length=css.length) (ew:∀(k:Nat) (cs:List Value),css[k]?=some cs->∃id own z,ids[k]?=some id/\H[id]?=some (ae.cells own z cs)) :
  ap prog f (args.map (rn (sgR 0 ids) 5)) H [] (Is v H):=by
 have:=AY (H:=H) ny mixed 40 (v:=v) gR (by rw[dS];exact hc) hv ids hl ew
 rw[dS]at this;exact this
theorem yJ{f:FuncId}{args:List Value}{css:List (List Value)}{h:Hint}{v:Value}{new:List (Bool×ae)}(hc:vF prog msk (dm 0) 100000 true 40 true f args (bi 0 css) (some []) h (fD (bi 0 css).n 3 v new))(gR:∀cs∈css,cs.all (aS 0)=true)
  (hv:cC 3 v=true) (hv2:rn (bQ (0+css.length)) 3 v=v) (hn:(new.map (·.2)).all (fun o=>cT 3 o&&o.owned)=true) (hn2:(new.map (·.2)).map (rno (bQ (0+css.length)) 3)=new.map (·.2))
  {H:Heap} (ids:List Nat) (hl:ids.length=css.length) (ew:∀(k:Nat) (cs:List Value),css[k]?=some cs->∃id own z,ids[k]?=some id/\H[id]?=some (ae.cells own z cs)) :
  ap prog f (args.map (rn (sgR 0 ids) 3)) H [] (Is (rn (cG (0+css.length) H.length) 3 v) (H++(new.map (·.2)).map (rno (cG (0+css.length) H.length) 3))):=by
 have:=vcR (H:=H) ny mixed 40 (v:=v) (new:=new) gR (by rw[dS];exact hc) hv (by rw[dS];exact hv2) hn (by rw[dS];exact hn2) ids hl ew
 rw[dS]at this;exact this
theorem rM{H:Heap}{id:Nat}{own:Bool}{z:Nat}{cs:List Value}(hid:H[id]?=some (.cells own z cs)):∀(k:Nat) (c:List Value),[cs][k]?=some c->∃id' own z,[id][k]?=some id'/\H[id']?=some (ae.cells own z c):=by
 intro k c h
 match k with
 |0=>cases h;exact ⟨id,own,z,rfl,hid⟩
theorem rN{cs:List Value}(h:cs.all (aS 0)=true):∀c ∈ [cs],c.all (aS 0)=true:=by intro c hc;rw[List.mem_singleton.1 hc];exact h
theorem vU(rate hours:Int)(h1:0<=rate/\rate<=1000)(h2:0<=hours/\hours<=10000)(H:Heap):ap prog F.im [.int .i64 rate,.int .i64 hours] H [] (Is (.int .i64 (chg rate hours)) H):=by
 refine fk 40 (fun _=>rfl) rfl (Eq.mpr (xe _ rate hours) ?_) H
 have hb:=vN h1.1 h1.2 h2.1 h2.2
 have ht:Int.tdiv (rate*hours) 24=(rate*hours) / 24:=Int.tdiv_eq_ediv_of_nonneg (by omega)
 unfold rt
 rw[ht]
 refine ⟨v64 (by omega),v64 (by omega),v64 (by omega),v64 (by omega),fun h=>⟨v64 (by omega),iY ?_⟩,fun h=>iY ?_⟩
 ·have:=gJ h;unfold chg;omega
 ·have:=vJ h;unfold chg;omega
theorem xA(H:Heap):ap prog F.iM [] H [] (Is (cellV ay) H):=fk 40 (fun _=>rfl) rfl (Eq.mpr (yc _) rfl) H
def Af(m:aO)(x y:Ice)(h:Int):Prop :=
 (x.ag-chg m.down.ag h<=y.ag/\y.ag<=x.ag+chg m.up.ag h)/\(x.ac-chg m.down.ac h<=y.ac/\y.ac<=x.ac+chg m.up.ac h) /\
 (x.ab-chg m.down.ab h<=y.ab/\y.ab<=x.ab+chg m.up.ab h)/\(x.aa-chg m.down.aa h<=y.aa/\y.aa<=x.aa+chg m.up.aa h)
def row(xs:List Ice)(m:aO)(t n:Nat):Prop:=∀s,s<n->Af m (xs.getD s yi) (xs.getD t yi) ((t:Int)-(s:Int))
theorem wx{Y:Type}{xs:List Y}{d:Y}{k:Nat}(h:k<xs.length):xs.getD k d∈xs:=by
 rw[List.getD_eq_getElem?_getD,List.getElem?_eq_getElem h];exact List.getElem_mem h
def tO(sp:Value)(a b:Cell):Prop :=
 (∃y0:Int,(.int .i64 (if (b.ag.lo:Int) > a.ag.lo then (b.ag.lo:Int) else a.ag.lo):Value) = .int .i64 y0/\(∃y1:Int,(.int .i64 (if (b.ag.hi:Int)<a.ag.hi then (b.ag.hi:Int) else a.ag.hi):Value) = .int .i64 y1/\(∃y2:Int,(.int .i64 (if (b.ac.lo:Int) > a.ac.lo then (b.ac.lo:Int) else a.ac.lo):Value) = .int .i64 y2/\(∃y3:Int,(.int .i64 (if (b.ac.hi:Int)<a.ac.hi then (b.ac.hi:Int) else a.ac.hi):Value) = .int .i64 y3/\(∃y4:Int,(.int .i64 (if (b.ab.lo:Int) > a.ab.lo then (b.ab.lo:Int) else a.ab.lo):Value) = .int .i64 y4/\(∃y5:Int,(.int .i64 (if (b.ab.hi:Int)<a.ab.hi then (b.ab.hi:Int) else a.ab.hi):Value) = .int .i64 y5/\(∃y6:Int,(.int .i64 (if (b.aa.lo:Int) > a.aa.lo then (b.aa.lo:Int) else a.aa.lo):Value) = .int .i64 y6/\(∃y7:Int,(.int .i64 (if (b.aa.hi:Int)<a.aa.hi then (b.aa.hi:Int) else a.aa.hi):Value) = .int .i64 y7/\(((!(decide ((y0:Int)<=y1)))=true->(.tuple #[.agg #[.int .i64 y0,.int .i64 y1,.int .i64 y2,.int .i64 y3,.int .i64 y4,.int .i64 y5,.int .i64 y6,.int .i64 y7],.bool false]:Value)=sp)/\((!(decide ((y0:Int)<=y1)))=false->(((!(decide ((y2:Int)<=y3)))=true->(.tuple #[.agg #[.int .i64 y0,.int .i64 y1,.int .i64 y2,.int .i64 y3,.int .i64 y4,.int .i64 y5,.int .i64 y6,.int .i64 y7],.bool false]:Value)=sp)/\((!(decide ((y2:Int)<=y3)))=false->(((!(decide ((y4:Int)<=y5)))=true->(.tuple #[.agg #[.int .i64 y0,.int .i64 y1,.int .i64 y2,.int .i64 y3,.int .i64 y4,.int .i64 y5,.int .i64 y6,.int .i64 y7],.bool false]:Value)=sp)/\((!(decide ((y4:Int)<=y5)))=false->(((!(decide ((y6:Int)<=y7)))=true->(.tuple #[.agg #[.int .i64 y0,.int .i64 y1,.int .i64 y2,.int .i64 y3,.int .i64 y4,.int .i64 y5,.int .i64 y6,.int .i64 y7],.bool false]:Value)=sp)/\((!(decide ((y6:Int)<=y7)))=false->(.tuple #[.agg #[.int .i64 y0,.int .i64 y1,.int .i64 y2,.int .i64 y3,.int .i64 y4,.int .i64 y5,.int .i64 y6,.int .i64 y7],.bool true]:Value)=sp))))))))))))))))
theorem xX(sp:Value)(a b:Cell):vF prog msk (dm 0) 100000 true 40 true 84 [.agg #[.int .i64 a.ag.lo,.int .i64 a.ag.hi,.int .i64 a.ac.lo,.int .i64 a.ac.hi,.int .i64 a.ab.lo,.int .i64 a.ab.hi,.int .i64 a.aa.lo,.int .i64 a.aa.hi],.agg #[.int .i64 b.ag.lo,.int .i64 b.ag.hi,.int .i64 b.ac.lo,.int .i64 b.ac.hi,.int .i64 b.ab.lo,.int .i64 b.ab.hi,.int .i64 b.aa.lo,.int .i64 b.aa.hi]] ⟨0,.leaf⟩ (some [])
 (.go 26 (.bind Int (fun y0 => .slot 13 (.int .i64 y0) (.go 8 (.bind Int (fun y1 => .slot 22 (.int .i64 y1) (.go 23 (.bind Int (fun y2 => .slot 13 (.int .i64 y2) (.go 8 (.bind Int (fun y3 => .slot 22 (.int .i64 y3) (.go 23 (.bind Int (fun y4 => .slot 13 (.int .i64 y4) (.go 8 (.bind Int (fun y5 => .slot 22 (.int .i64 y5) (.go 23 (.bind Int (fun y6 => .slot 13 (.int .i64 y6) (.go 8 (.bind Int (fun y7 => .slot 22 (.int .i64 y7) (.go 39 (.fork (.auto) (.go 20 (.fork (.auto) (.go 20 (.fork (.auto) (.go 20 (.fork (.auto) (.auto)))))))))))))))))))))))))))))))))
 (fun v _ _=>v=sp)=tO sp a b:=by kernel_rfl
def tP(sp:Value)(c:Cell)(m:aO)(h:Int):Prop :=
 (∃r0:Int,((True)/\(∀H':Heap,H'.length=9->(True)->ap prog 149 [.int .i64 m.down.ag,.int .i64 h] H' [] (Is (.int .i64 r0) H'))/\((.int .i64 (IntKind.wrap .i64 (c.ag.lo-r0)):Value) = .int .i64 (c.ag.lo-r0)/\(∃y1:Int,(.int .i64 (if (0:Int) > (c.ag.lo-r0) then (0:Int) else (c.ag.lo-r0)):Value) = .int .i64 y1/\(∃r2:Int,((True)/\(∀H':Heap,H'.length=9->(True)->ap prog 149 [.int .i64 m.up.ag,.int .i64 h] H' [] (Is (.int .i64 r2) H'))/\((.int .i64 (IntKind.wrap .i64 (c.ag.hi+r2)):Value) = .int .i64 (c.ag.hi+r2)/\(∃y3:Int,(.int .i64 (if (100:Int)<(c.ag.hi+r2) then (100:Int) else (c.ag.hi+r2)):Value) = .int .i64 y3/\(∃r4:Int,((True)/\(∀H':Heap,H'.length=9->(True)->ap prog 149 [.int .i64 m.down.ac,.int .i64 h] H' [] (Is (.int .i64 r4) H'))/\((.int .i64 (IntKind.wrap .i64 (c.ac.lo-r4)):Value) = .int .i64 (c.ac.lo-r4)/\(∃y5:Int,(.int .i64 (if (0:Int) > (c.ac.lo-r4) then (0:Int) else (c.ac.lo-r4)):Value) = .int .i64 y5/\(∃r6:Int,((True)/\(∀H':Heap,H'.length=9->(True)->ap prog 149 [.int .i64 m.up.ac,.int .i64 h] H' [] (Is (.int .i64 r6) H'))/\((.int .i64 (IntKind.wrap .i64 (c.ac.hi+r6)):Value) = .int .i64 (c.ac.hi+r6)/\(∃y7:Int,(.int .i64 (if (400:Int)<(c.ac.hi+r6) then (400:Int) else (c.ac.hi+r6)):Value) = .int .i64 y7/\(∃r8:Int,((True)/\(∀H':Heap,H'.length=9->(True)->ap prog 149 [.int .i64 m.down.ab,.int .i64 h] H' [] (Is (.int .i64 r8) H'))/\((.int .i64 (IntKind.wrap .i64 (c.ab.lo-r8)):Value) = .int .i64 (c.ab.lo-r8)/\(∃y9:Int,(.int .i64 (if (0:Int) > (c.ab.lo-r8) then (0:Int) else (c.ab.lo-r8)):Value) = .int .i64 y9/\(∃r10:Int,((True)/\(∀H':Heap,H'.length=9->(True)->ap prog 149 [.int .i64 m.up.ab,.int .i64 h] H' [] (Is (.int .i64 r10) H'))/\((.int .i64 (IntKind.wrap .i64 (c.ab.hi+r10)):Value) = .int .i64 (c.ab.hi+r10)/\(∃y11:Int,(.int .i64 (if (100:Int)<(c.ab.hi+r10) then (100:Int) else (c.ab.hi+r10)):Value) = .int .i64 y11/\(∃r12:Int,((True)/\(∀H':Heap,H'.length=9->(True)->ap prog 149 [.int .i64 m.down.aa,.int .i64 h] H' [] (Is (.int .i64 r12) H'))/\((.int .i64 (IntKind.wrap .i64 (c.aa.lo-r12)):Value) = .int .i64 (c.aa.lo-r12)/\(∃y13:Int,(.int .i64 (if (0:Int) > (c.aa.lo-r12) then (0:Int) else (c.aa.lo-r12)):Value) = .int .i64 y13/\(∃r14:Int,((True)/\(∀H':Heap,H'.length=9->(True)->ap prog 149 [.int .i64 m.up.aa,.int .i64 h] H' [] (Is (.int .i64 r14) H'))/\((.int .i64 (IntKind.wrap .i64 (c.aa.hi+r14)):Value) = .int .i64 (c.aa.hi+r14)/\(∃y15:Int,(.int .i64 (if (3:Int)<(c.aa.hi+r14) then (3:Int) else (c.aa.hi+r14)):Value) = .int .i64 y15/\(.agg #[.int .i64 y1,.int .i64 y3,.int .i64 y5,.int .i64 y7,.int .i64 y9,.int .i64 y11,.int .i64 y13,.int .i64 y15]:Value)=sp))))))))))))))))))))))))))))))))
theorem xY(sp:Value)(c:Cell)(m:aO)(h:Int):vF prog msk (dm 0) 100000 true 40 true 112 [.agg #[.int .i64 c.ag.lo,.int .i64 c.ag.hi,.int .i64 c.ac.lo,.int .i64 c.ac.hi,.int .i64 c.ab.lo,.int .i64 c.ab.hi,.int .i64 c.aa.lo,.int .i64 c.aa.hi],.agg #[.int .i64 m.up.ag,.int .i64 m.up.ac,.int .i64 m.up.ab,.int .i64 m.up.aa,.int .i64 m.down.ag,.int .i64 m.down.ac,.int .i64 m.down.ab,.int .i64 m.down.aa],.int .i64 h] ⟨0,.leaf⟩ (some [])
 (.go 68 (.bind (Int) (fun r0 => .ans [] (.int .i64 r0) [] (.go 0 (.slot 16 (.int .i64 (c.ag.lo-r0)) (.go 0 (.bind Int (fun y1 => .slot 17 (.int .i64 y1) (.bind (Int) (fun r2 => .ans [] (.int .i64 r2) [] (.go 0 (.slot 27 (.int .i64 (c.ag.hi+r2)) (.go 5 (.bind Int (fun y3 => .slot 31 (.int .i64 y3) (.go 31 (.bind (Int) (fun r4 => .ans [] (.int .i64 r4) [] (.go 0 (.slot 16 (.int .i64 (c.ac.lo-r4)) (.go 0 (.bind Int (fun y5 => .slot 17 (.int .i64 y5) (.bind (Int) (fun r6 => .ans [] (.int .i64 r6) [] (.go 0 (.slot 27 (.int .i64 (c.ac.hi+r6)) (.go 5 (.bind Int (fun y7 => .slot 31 (.int .i64 y7) (.go 31 (.bind (Int) (fun r8 => .ans [] (.int .i64 r8) [] (.go 0 (.slot 16 (.int .i64 (c.ab.lo-r8)) (.go 0 (.bind Int (fun y9 => .slot 17 (.int .i64 y9) (.bind (Int) (fun r10 => .ans [] (.int .i64 r10) [] (.go 0 (.slot 27 (.int .i64 (c.ab.hi+r10)) (.go 5 (.bind Int (fun y11 => .slot 31 (.int .i64 y11) (.go 31 (.bind (Int) (fun r12 => .ans [] (.int .i64 r12) [] (.go 0 (.slot 16 (.int .i64 (c.aa.lo-r12)) (.go 0 (.bind Int (fun y13 => .slot 17 (.int .i64 y13) (.bind (Int) (fun r14 => .ans [] (.int .i64 r14) [] (.go 0 (.slot 27 (.int .i64 (c.aa.hi+r14)) (.go 5 (.bind Int (fun y15 => .slot 31 (.int .i64 y15) (.auto)))))))))))))))))))))))))))))))))))))))))))))))))))))))))))))
 (fun v _ _=>v=sp)=tP sp c m h:=by kernel_rfl
def tV(sp:Value)(a b:Cell):Prop :=
 (((decide ((a.ag.hi:Int)<b.ag.lo))=true->(.bool true:Value)=sp)/\((decide ((a.ag.hi:Int)<b.ag.lo))=false->(((decide ((b.ag.hi:Int)<a.ag.lo))=true->(.bool true:Value)=sp)/\((decide ((b.ag.hi:Int)<a.ag.lo))=false->(((decide ((a.ac.hi:Int)<b.ac.lo))=true->(.bool true:Value)=sp)/\((decide ((a.ac.hi:Int)<b.ac.lo))=false->(((decide ((b.ac.hi:Int)<a.ac.lo))=true->(.bool true:Value)=sp)/\((decide ((b.ac.hi:Int)<a.ac.lo))=false->(((decide ((a.ab.hi:Int)<b.ab.lo))=true->(.bool true:Value)=sp)/\((decide ((a.ab.hi:Int)<b.ab.lo))=false->(((decide ((b.ab.hi:Int)<a.ab.lo))=true->(.bool true:Value)=sp)/\((decide ((b.ab.hi:Int)<a.ab.lo))=false->(((decide ((a.aa.hi:Int)<b.aa.lo))=true->(.bool true:Value)=sp)/\((decide ((a.aa.hi:Int)<b.aa.lo))=false->(((decide ((b.aa.hi:Int)<a.aa.lo))=true->(.bool true:Value)=sp)/\((decide ((b.aa.hi:Int)<a.aa.lo))=false->(.bool false:Value)=sp))))))))))))))))
theorem yf(sp:Value)(a b:Cell):vF prog msk (dm 0) 100000 true 40 true 109 [.agg #[.int .i64 a.ag.lo,.int .i64 a.ag.hi,.int .i64 a.ac.lo,.int .i64 a.ac.hi,.int .i64 a.ab.lo,.int .i64 a.ab.hi,.int .i64 a.aa.lo,.int .i64 a.aa.hi],.agg #[.int .i64 b.ag.lo,.int .i64 b.ag.hi,.int .i64 b.ac.lo,.int .i64 b.ac.hi,.int .i64 b.ab.lo,.int .i64 b.ab.hi,.int .i64 b.aa.lo,.int .i64 b.aa.hi]] ⟨0,.leaf⟩ (some [])
 (.go 34 (.az (.auto) (.go 27 (.fork (.auto) (.go 39 (.az (.auto) (.go 33 (.fork (.auto) (.go 45 (.az (.auto) (.go 39 (.fork (.auto) (.go 45 (.az (.auto) (.go 39 (.fork (.auto) (.auto)))))))))))))))))
 (fun v _ _=>v=sp)=tV sp a b:=by kernel_rfl
def ru(sp:Value)(a b:Cell):Prop :=
 (true=true/\((decide ((a.ag.lo:Int)<b.ag.lo))=true->(∃x0':Int,(((decide ((a.ag.lo:Int)<b.ag.lo))=true/\(x0':Int)=b.ag.lo/\True)∨((decide ((a.ag.lo:Int)<b.ag.lo))=false/\(x0':Int)=a.ag.lo/\True))/\true=true/\((.pointer (some ⟨3,0,none⟩):Value) = .pointer (some ⟨3,0,none⟩)/\(.int .i64 0:Value) = .int .i64 0/\(.pointer (some ⟨2,0,none⟩):Value) = .pointer (some ⟨2,0,none⟩)/\(.pointer (some ⟨1,0,none⟩):Value) = .pointer (some ⟨1,0,none⟩)/\(.pointer (some ⟨0,0,none⟩):Value) = .pointer (some ⟨0,0,none⟩)/\True)/\((some (.cells true 0 [.int .i64 b.ag.lo,.int .i64 a.ag.hi]:ae)=some (.cells true 0 [.int .i64 x0',.int .i64 a.ag.hi]:ae)/\aj 4 (.cells true 0 [.int .i64 x0',.int .i64 a.ag.hi]:ae)=true)/\True)/\(True)/\(True)))/\((decide ((a.ag.lo:Int)<b.ag.lo))=false->(∃x0':Int,(((decide ((a.ag.lo:Int)<b.ag.lo))=true/\(x0':Int)=b.ag.lo/\True)∨((decide ((a.ag.lo:Int)<b.ag.lo))=false/\(x0':Int)=a.ag.lo/\True))/\true=true/\((.pointer (some ⟨3,0,none⟩):Value) = .pointer (some ⟨3,0,none⟩)/\(.int .i64 0:Value) = .int .i64 0/\(.pointer (some ⟨2,0,none⟩):Value) = .pointer (some ⟨2,0,none⟩)/\(.pointer (some ⟨1,0,none⟩):Value) = .pointer (some ⟨1,0,none⟩)/\(.pointer (some ⟨0,0,none⟩):Value) = .pointer (some ⟨0,0,none⟩)/\True)/\((some (.cells true 0 [.int .i64 a.ag.lo,.int .i64 a.ag.hi]:ae)=some (.cells true 0 [.int .i64 x0',.int .i64 a.ag.hi]:ae)/\aj 4 (.cells true 0 [.int .i64 x0',.int .i64 a.ag.hi]:ae)=true)/\True)/\(True)/\(True)))/\∀x0:Int,(((decide ((a.ag.lo:Int)<b.ag.lo))=true/\(x0:Int)=b.ag.lo/\True)∨((decide ((a.ag.lo:Int)<b.ag.lo))=false/\(x0:Int)=a.ag.lo/\True))->(true=true/\((decide ((b.ag.hi:Int)<a.ag.hi))=true->(∃x1':Int,(((decide ((b.ag.hi:Int)<a.ag.hi))=true/\(x1':Int)=b.ag.hi/\True)∨((decide ((b.ag.hi:Int)<a.ag.hi))=false/\(x1':Int)=a.ag.hi/\True))/\true=true/\((.pointer (some ⟨3,0,none⟩):Value) = .pointer (some ⟨3,0,none⟩)/\(.int .i64 0:Value) = .int .i64 0/\(.pointer (some ⟨2,0,none⟩):Value) = .pointer (some ⟨2,0,none⟩)/\(.pointer (some ⟨1,0,none⟩):Value) = .pointer (some ⟨1,0,none⟩)/\(.pointer (some ⟨0,0,none⟩):Value) = .pointer (some ⟨0,0,none⟩)/\True)/\((some (.cells true 0 [.int .i64 x0,.int .i64 b.ag.hi]:ae)=some (.cells true 0 [.int .i64 x0,.int .i64 x1']:ae)/\aj 4 (.cells true 0 [.int .i64 x0,.int .i64 x1']:ae)=true)/\True)/\(True)/\(True)))/\((decide ((b.ag.hi:Int)<a.ag.hi))=false->(∃x1':Int,(((decide ((b.ag.hi:Int)<a.ag.hi))=true/\(x1':Int)=b.ag.hi/\True)∨((decide ((b.ag.hi:Int)<a.ag.hi))=false/\(x1':Int)=a.ag.hi/\True))/\true=true/\((.pointer (some ⟨3,0,none⟩):Value) = .pointer (some ⟨3,0,none⟩)/\(.int .i64 0:Value) = .int .i64 0/\(.pointer (some ⟨2,0,none⟩):Value) = .pointer (some ⟨2,0,none⟩)/\(.pointer (some ⟨1,0,none⟩):Value) = .pointer (some ⟨1,0,none⟩)/\(.pointer (some ⟨0,0,none⟩):Value) = .pointer (some ⟨0,0,none⟩)/\True)/\((some (.cells true 0 [.int .i64 x0,.int .i64 a.ag.hi]:ae)=some (.cells true 0 [.int .i64 x0,.int .i64 x1']:ae)/\aj 4 (.cells true 0 [.int .i64 x0,.int .i64 x1']:ae)=true)/\True)/\(True)/\(True)))/\∀x1:Int,(((decide ((b.ag.hi:Int)<a.ag.hi))=true/\(x1:Int)=b.ag.hi/\True)∨((decide ((b.ag.hi:Int)<a.ag.hi))=false/\(x1:Int)=a.ag.hi/\True))->(true=true/\((decide ((a.ac.lo:Int)<b.ac.lo))=true->(∃x2':Int,(((decide ((a.ac.lo:Int)<b.ac.lo))=true/\(x2':Int)=b.ac.lo/\True)∨((decide ((a.ac.lo:Int)<b.ac.lo))=false/\(x2':Int)=a.ac.lo/\True))/\true=true/\((.pointer (some ⟨4,0,none⟩):Value) = .pointer (some ⟨4,0,none⟩)/\(.int .i64 1:Value) = .int .i64 1/\(.pointer (some ⟨2,0,none⟩):Value) = .pointer (some ⟨2,0,none⟩)/\(.pointer (some ⟨1,0,none⟩):Value) = .pointer (some ⟨1,0,none⟩)/\(.pointer (some ⟨0,0,none⟩):Value) = .pointer (some ⟨0,0,none⟩)/\True)/\((some (.cells true 0 [.int .i64 b.ac.lo,.int .i64 a.ac.hi]:ae)=some (.cells true 0 [.int .i64 x2',.int .i64 a.ac.hi]:ae)/\aj 5 (.cells true 0 [.int .i64 x2',.int .i64 a.ac.hi]:ae)=true)/\True)/\(True)/\(True)))/\((decide ((a.ac.lo:Int)<b.ac.lo))=false->(∃x2':Int,(((decide ((a.ac.lo:Int)<b.ac.lo))=true/\(x2':Int)=b.ac.lo/\True)∨((decide ((a.ac.lo:Int)<b.ac.lo))=false/\(x2':Int)=a.ac.lo/\True))/\true=true/\((.pointer (some ⟨4,0,none⟩):Value) = .pointer (some ⟨4,0,none⟩)/\(.int .i64 1:Value) = .int .i64 1/\(.pointer (some ⟨2,0,none⟩):Value) = .pointer (some ⟨2,0,none⟩)/\(.pointer (some ⟨1,0,none⟩):Value) = .pointer (some ⟨1,0,none⟩)/\(.pointer (some ⟨0,0,none⟩):Value) = .pointer (some ⟨0,0,none⟩)/\True)/\((some (.cells true 0 [.int .i64 a.ac.lo,.int .i64 a.ac.hi]:ae)=some (.cells true 0 [.int .i64 x2',.int .i64 a.ac.hi]:ae)/\aj 5 (.cells true 0 [.int .i64 x2',.int .i64 a.ac.hi]:ae)=true)/\True)/\(True)/\(True)))/\∀x2:Int,(((decide ((a.ac.lo:Int)<b.ac.lo))=true/\(x2:Int)=b.ac.lo/\True)∨((decide ((a.ac.lo:Int)<b.ac.lo))=false/\(x2:Int)=a.ac.lo/\True))->(true=true/\((decide ((b.ac.hi:Int)<a.ac.hi))=true->(∃x3':Int,(((decide ((b.ac.hi:Int)<a.ac.hi))=true/\(x3':Int)=b.ac.hi/\True)∨((decide ((b.ac.hi:Int)<a.ac.hi))=false/\(x3':Int)=a.ac.hi/\True))/\true=true/\((.pointer (some ⟨4,0,none⟩):Value) = .pointer (some ⟨4,0,none⟩)/\(.int .i64 1:Value) = .int .i64 1/\(.pointer (some ⟨2,0,none⟩):Value) = .pointer (some ⟨2,0,none⟩)/\(.pointer (some ⟨1,0,none⟩):Value) = .pointer (some ⟨1,0,none⟩)/\(.pointer (some ⟨0,0,none⟩):Value) = .pointer (some ⟨0,0,none⟩)/\True)/\((some (.cells true 0 [.int .i64 x2,.int .i64 b.ac.hi]:ae)=some (.cells true 0 [.int .i64 x2,.int .i64 x3']:ae)/\aj 5 (.cells true 0 [.int .i64 x2,.int .i64 x3']:ae)=true)/\True)/\(True)/\(True)))/\((decide ((b.ac.hi:Int)<a.ac.hi))=false->(∃x3':Int,(((decide ((b.ac.hi:Int)<a.ac.hi))=true/\(x3':Int)=b.ac.hi/\True)∨((decide ((b.ac.hi:Int)<a.ac.hi))=false/\(x3':Int)=a.ac.hi/\True))/\true=true/\((.pointer (some ⟨4,0,none⟩):Value) = .pointer (some ⟨4,0,none⟩)/\(.int .i64 1:Value) = .int .i64 1/\(.pointer (some ⟨2,0,none⟩):Value) = .pointer (some ⟨2,0,none⟩)/\(.pointer (some ⟨1,0,none⟩):Value) = .pointer (some ⟨1,0,none⟩)/\(.pointer (some ⟨0,0,none⟩):Value) = .pointer (some ⟨0,0,none⟩)/\True)/\((some (.cells true 0 [.int .i64 x2,.int .i64 a.ac.hi]:ae)=some (.cells true 0 [.int .i64 x2,.int .i64 x3']:ae)/\aj 5 (.cells true 0 [.int .i64 x2,.int .i64 x3']:ae)=true)/\True)/\(True)/\(True)))/\∀x3:Int,(((decide ((b.ac.hi:Int)<a.ac.hi))=true/\(x3:Int)=b.ac.hi/\True)∨((decide ((b.ac.hi:Int)<a.ac.hi))=false/\(x3:Int)=a.ac.hi/\True))->(true=true/\((decide ((a.ab.lo:Int)<b.ab.lo))=true->(∃x4':Int,(((decide ((a.ab.lo:Int)<b.ab.lo))=true/\(x4':Int)=b.ab.lo/\True)∨((decide ((a.ab.lo:Int)<b.ab.lo))=false/\(x4':Int)=a.ab.lo/\True))/\true=true/\((.pointer (some ⟨5,0,none⟩):Value) = .pointer (some ⟨5,0,none⟩)/\(.int .i64 2:Value) = .int .i64 2/\(.pointer (some ⟨2,0,none⟩):Value) = .pointer (some ⟨2,0,none⟩)/\(.pointer (some ⟨1,0,none⟩):Value) = .pointer (some ⟨1,0,none⟩)/\(.pointer (some ⟨0,0,none⟩):Value) = .pointer (some ⟨0,0,none⟩)/\True)/\((some (.cells true 0 [.int .i64 b.ab.lo,.int .i64 a.ab.hi]:ae)=some (.cells true 0 [.int .i64 x4',.int .i64 a.ab.hi]:ae)/\aj 6 (.cells true 0 [.int .i64 x4',.int .i64 a.ab.hi]:ae)=true)/\True)/\(True)/\(True)))/\((decide ((a.ab.lo:Int)<b.ab.lo))=false->(∃x4':Int,(((decide ((a.ab.lo:Int)<b.ab.lo))=true/\(x4':Int)=b.ab.lo/\True)∨((decide ((a.ab.lo:Int)<b.ab.lo))=false/\(x4':Int)=a.ab.lo/\True))/\true=true/\((.pointer (some ⟨5,0,none⟩):Value) = .pointer (some ⟨5,0,none⟩)/\(.int .i64 2:Value) = .int .i64 2/\(.pointer (some ⟨2,0,none⟩):Value) = .pointer (some ⟨2,0,none⟩)/\(.pointer (some ⟨1,0,none⟩):Value) = .pointer (some ⟨1,0,none⟩)/\(.pointer (some ⟨0,0,none⟩):Value) = .pointer (some ⟨0,0,none⟩)/\True)/\((some (.cells true 0 [.int .i64 a.ab.lo,.int .i64 a.ab.hi]:ae)=some (.cells true 0 [.int .i64 x4',.int .i64 a.ab.hi]:ae)/\aj 6 (.cells true 0 [.int .i64 x4',.int .i64 a.ab.hi]:ae)=true)/\True)/\(True)/\(True)))/\∀x4:Int,(((decide ((a.ab.lo:Int)<b.ab.lo))=true/\(x4:Int)=b.ab.lo/\True)∨((decide ((a.ab.lo:Int)<b.ab.lo))=false/\(x4:Int)=a.ab.lo/\True))->(true=true/\((decide ((b.ab.hi:Int)<a.ab.hi))=true->(∃x5':Int,(((decide ((b.ab.hi:Int)<a.ab.hi))=true/\(x5':Int)=b.ab.hi/\True)∨((decide ((b.ab.hi:Int)<a.ab.hi))=false/\(x5':Int)=a.ab.hi/\True))/\true=true/\((.pointer (some ⟨5,0,none⟩):Value) = .pointer (some ⟨5,0,none⟩)/\(.int .i64 2:Value) = .int .i64 2/\(.pointer (some ⟨2,0,none⟩):Value) = .pointer (some ⟨2,0,none⟩)/\(.pointer (some ⟨1,0,none⟩):Value) = .pointer (some ⟨1,0,none⟩)/\(.pointer (some ⟨0,0,none⟩):Value) = .pointer (some ⟨0,0,none⟩)/\True)/\((some (.cells true 0 [.int .i64 x4,.int .i64 b.ab.hi]:ae)=some (.cells true 0 [.int .i64 x4,.int .i64 x5']:ae)/\aj 6 (.cells true 0 [.int .i64 x4,.int .i64 x5']:ae)=true)/\True)/\(True)/\(True)))/\((decide ((b.ab.hi:Int)<a.ab.hi))=false->(∃x5':Int,(((decide ((b.ab.hi:Int)<a.ab.hi))=true/\(x5':Int)=b.ab.hi/\True)∨((decide ((b.ab.hi:Int)<a.ab.hi))=false/\(x5':Int)=a.ab.hi/\True))/\true=true/\((.pointer (some ⟨5,0,none⟩):Value) = .pointer (some ⟨5,0,none⟩)/\(.int .i64 2:Value) = .int .i64 2/\(.pointer (some ⟨2,0,none⟩):Value) = .pointer (some ⟨2,0,none⟩)/\(.pointer (some ⟨1,0,none⟩):Value) = .pointer (some ⟨1,0,none⟩)/\(.pointer (some ⟨0,0,none⟩):Value) = .pointer (some ⟨0,0,none⟩)/\True)/\((some (.cells true 0 [.int .i64 x4,.int .i64 a.ab.hi]:ae)=some (.cells true 0 [.int .i64 x4,.int .i64 x5']:ae)/\aj 6 (.cells true 0 [.int .i64 x4,.int .i64 x5']:ae)=true)/\True)/\(True)/\(True)))/\∀x5:Int,(((decide ((b.ab.hi:Int)<a.ab.hi))=true/\(x5:Int)=b.ab.hi/\True)∨((decide ((b.ab.hi:Int)<a.ab.hi))=false/\(x5:Int)=a.ab.hi/\True))->(true=true/\((decide ((a.aa.lo:Int)<b.aa.lo))=true->(∃x6':Int,(((decide ((a.aa.lo:Int)<b.aa.lo))=true/\(x6':Int)=b.aa.lo/\True)∨((decide ((a.aa.lo:Int)<b.aa.lo))=false/\(x6':Int)=a.aa.lo/\True))/\true=true/\((.pointer (some ⟨6,0,none⟩):Value) = .pointer (some ⟨6,0,none⟩)/\(.int .i64 3:Value) = .int .i64 3/\(.pointer (some ⟨2,0,none⟩):Value) = .pointer (some ⟨2,0,none⟩)/\(.pointer (some ⟨1,0,none⟩):Value) = .pointer (some ⟨1,0,none⟩)/\(.pointer (some ⟨0,0,none⟩):Value) = .pointer (some ⟨0,0,none⟩)/\True)/\((some (.cells true 0 [.int .i64 b.aa.lo,.int .i64 a.aa.hi]:ae)=some (.cells true 0 [.int .i64 x6',.int .i64 a.aa.hi]:ae)/\aj 7 (.cells true 0 [.int .i64 x6',.int .i64 a.aa.hi]:ae)=true)/\True)/\(True)/\(True)))/\((decide ((a.aa.lo:Int)<b.aa.lo))=false->(∃x6':Int,(((decide ((a.aa.lo:Int)<b.aa.lo))=true/\(x6':Int)=b.aa.lo/\True)∨((decide ((a.aa.lo:Int)<b.aa.lo))=false/\(x6':Int)=a.aa.lo/\True))/\true=true/\((.pointer (some ⟨6,0,none⟩):Value) = .pointer (some ⟨6,0,none⟩)/\(.int .i64 3:Value) = .int .i64 3/\(.pointer (some ⟨2,0,none⟩):Value) = .pointer (some ⟨2,0,none⟩)/\(.pointer (some ⟨1,0,none⟩):Value) = .pointer (some ⟨1,0,none⟩)/\(.pointer (some ⟨0,0,none⟩):Value) = .pointer (some ⟨0,0,none⟩)/\True)/\((some (.cells true 0 [.int .i64 a.aa.lo,.int .i64 a.aa.hi]:ae)=some (.cells true 0 [.int .i64 x6',.int .i64 a.aa.hi]:ae)/\aj 7 (.cells true 0 [.int .i64 x6',.int .i64 a.aa.hi]:ae)=true)/\True)/\(True)/\(True)))/\∀x6:Int,(((decide ((a.aa.lo:Int)<b.aa.lo))=true/\(x6:Int)=b.aa.lo/\True)∨((decide ((a.aa.lo:Int)<b.aa.lo))=false/\(x6:Int)=a.aa.lo/\True))->(true=true/\((decide ((b.aa.hi:Int)<a.aa.hi))=true->(∃x7':Int,(((decide ((b.aa.hi:Int)<a.aa.hi))=true/\(x7':Int)=b.aa.hi/\True)∨((decide ((b.aa.hi:Int)<a.aa.hi))=false/\(x7':Int)=a.aa.hi/\True))/\true=true/\((.pointer (some ⟨6,0,none⟩):Value) = .pointer (some ⟨6,0,none⟩)/\(.int .i64 3:Value) = .int .i64 3/\(.pointer (some ⟨2,0,none⟩):Value) = .pointer (some ⟨2,0,none⟩)/\(.pointer (some ⟨1,0,none⟩):Value) = .pointer (some ⟨1,0,none⟩)/\(.pointer (some ⟨0,0,none⟩):Value) = .pointer (some ⟨0,0,none⟩)/\True)/\((some (.cells true 0 [.int .i64 x6,.int .i64 b.aa.hi]:ae)=some (.cells true 0 [.int .i64 x6,.int .i64 x7']:ae)/\aj 7 (.cells true 0 [.int .i64 x6,.int .i64 x7']:ae)=true)/\True)/\(True)/\(True)))/\((decide ((b.aa.hi:Int)<a.aa.hi))=false->(∃x7':Int,(((decide ((b.aa.hi:Int)<a.aa.hi))=true/\(x7':Int)=b.aa.hi/\True)∨((decide ((b.aa.hi:Int)<a.aa.hi))=false/\(x7':Int)=a.aa.hi/\True))/\true=true/\((.pointer (some ⟨6,0,none⟩):Value) = .pointer (some ⟨6,0,none⟩)/\(.int .i64 3:Value) = .int .i64 3/\(.pointer (some ⟨2,0,none⟩):Value) = .pointer (some ⟨2,0,none⟩)/\(.pointer (some ⟨1,0,none⟩):Value) = .pointer (some ⟨1,0,none⟩)/\(.pointer (some ⟨0,0,none⟩):Value) = .pointer (some ⟨0,0,none⟩)/\True)/\((some (.cells true 0 [.int .i64 x6,.int .i64 a.aa.hi]:ae)=some (.cells true 0 [.int .i64 x6,.int .i64 x7']:ae)/\aj 7 (.cells true 0 [.int .i64 x6,.int .i64 x7']:ae)=true)/\True)/\(True)/\(True)))/\∀x7:Int,(((decide ((b.aa.hi:Int)<a.aa.hi))=true/\(x7:Int)=b.aa.hi/\True)∨((decide ((b.aa.hi:Int)<a.aa.hi))=false/\(x7:Int)=a.aa.hi/\True))->(.agg #[.int .i64 x0,.int .i64 x1,.int .i64 x2,.int .i64 x3,.int .i64 x4,.int .i64 x5,.int .i64 x6,.int .i64 x7]:Value)=sp))))))))
theorem xf(sp:Value)(a b:Cell):vF prog msk (dm 0) 100000 true 40 true 83 [.agg #[.int .i64 a.ag.lo,.int .i64 a.ag.hi,.int .i64 a.ac.lo,.int .i64 a.ac.hi,.int .i64 a.ab.lo,.int .i64 a.ab.hi,.int .i64 a.aa.lo,.int .i64 a.aa.hi],.agg #[.int .i64 b.ag.lo,.int .i64 b.ag.hi,.int .i64 b.ac.lo,.int .i64 b.ac.hi,.int .i64 b.ab.lo,.int .i64 b.ab.hi,.int .i64 b.aa.lo,.int .i64 b.aa.hi]] ⟨0,.leaf⟩ (some [])
 (.go 36 (.join 3 (Int) [3] (fun x0=>[(6,.pointer (some ⟨3,0,none⟩)),(5,.int .i64 0),(4,.pointer (some ⟨2,0,none⟩)),(3,.pointer (some ⟨1,0,none⟩)),(2,.pointer (some ⟨0,0,none⟩))]) (fun x0=>[(3,true,.cells true 0 [.int .i64 x0,.int .i64 a.ag.hi])]) (fun x0=>[]) (fun x0=>[]) (fun x0=>(((decide ((a.ag.lo:Int)<b.ag.lo))=true/\(x0:Int)=b.ag.lo/\True)∨((decide ((a.ag.lo:Int)<b.ag.lo))=false/\(x0:Int)=a.ag.lo/\True))) (.go 14 (.again [])) (.again []) (fun x0 => .go 15 (.join 3 (Int) [3] (fun x1=>[(6,.pointer (some ⟨3,0,none⟩)),(5,.int .i64 0),(4,.pointer (some ⟨2,0,none⟩)),(3,.pointer (some ⟨1,0,none⟩)),(2,.pointer (some ⟨0,0,none⟩))]) (fun x1=>[(3,true,.cells true 0 [.int .i64 x0,.int .i64 x1])]) (fun x1=>[]) (fun x1=>[]) (fun x1=>(((decide ((b.ag.hi:Int)<a.ag.hi))=true/\(x1:Int)=b.ag.hi/\True)∨((decide ((b.ag.hi:Int)<a.ag.hi))=false/\(x1:Int)=a.ag.hi/\True))) (.go 14 (.again [])) (.again []) (fun x1 => .go 58 (.join 3 (Int) [4] (fun x2=>[(6,.pointer (some ⟨4,0,none⟩)),(5,.int .i64 1),(4,.pointer (some ⟨2,0,none⟩)),(3,.pointer (some ⟨1,0,none⟩)),(2,.pointer (some ⟨0,0,none⟩))]) (fun x2=>[(4,true,.cells true 0 [.int .i64 x2,.int .i64 a.ac.hi])]) (fun x2=>[]) (fun x2=>[]) (fun x2=>(((decide ((a.ac.lo:Int)<b.ac.lo))=true/\(x2:Int)=b.ac.lo/\True)∨((decide ((a.ac.lo:Int)<b.ac.lo))=false/\(x2:Int)=a.ac.lo/\True))) (.go 17 (.again [])) (.again []) (fun x2 => .go 18 (.join 3 (Int) [4] (fun x3=>[(6,.pointer (some ⟨4,0,none⟩)),(5,.int .i64 1),(4,.pointer (some ⟨2,0,none⟩)),(3,.pointer (some ⟨1,0,none⟩)),(2,.pointer (some ⟨0,0,none⟩))]) (fun x3=>[(4,true,.cells true 0 [.int .i64 x2,.int .i64 x3])]) (fun x3=>[]) (fun x3=>[]) (fun x3=>(((decide ((b.ac.hi:Int)<a.ac.hi))=true/\(x3:Int)=b.ac.hi/\True)∨((decide ((b.ac.hi:Int)<a.ac.hi))=false/\(x3:Int)=a.ac.hi/\True))) (.go 17 (.again [])) (.again []) (fun x3 => .go 67 (.join 3 (Int) [5] (fun x4=>[(6,.pointer (some ⟨5,0,none⟩)),(5,.int .i64 2),(4,.pointer (some ⟨2,0,none⟩)),(3,.pointer (some ⟨1,0,none⟩)),(2,.pointer (some ⟨0,0,none⟩))]) (fun x4=>[(5,true,.cells true 0 [.int .i64 x4,.int .i64 a.ab.hi])]) (fun x4=>[]) (fun x4=>[]) (fun x4=>(((decide ((a.ab.lo:Int)<b.ab.lo))=true/\(x4:Int)=b.ab.lo/\True)∨((decide ((a.ab.lo:Int)<b.ab.lo))=false/\(x4:Int)=a.ab.lo/\True))) (.go 20 (.again [])) (.again []) (fun x4 => .go 21 (.join 3 (Int) [5] (fun x5=>[(6,.pointer (some ⟨5,0,none⟩)),(5,.int .i64 2),(4,.pointer (some ⟨2,0,none⟩)),(3,.pointer (some ⟨1,0,none⟩)),(2,.pointer (some ⟨0,0,none⟩))]) (fun x5=>[(5,true,.cells true 0 [.int .i64 x4,.int .i64 x5])]) (fun x5=>[]) (fun x5=>[]) (fun x5=>(((decide ((b.ab.hi:Int)<a.ab.hi))=true/\(x5:Int)=b.ab.hi/\True)∨((decide ((b.ab.hi:Int)<a.ab.hi))=false/\(x5:Int)=a.ab.hi/\True))) (.go 20 (.again [])) (.again []) (fun x5 => .go 70 (.join 3 (Int) [6] (fun x6=>[(6,.pointer (some ⟨6,0,none⟩)),(5,.int .i64 3),(4,.pointer (some ⟨2,0,none⟩)),(3,.pointer (some ⟨1,0,none⟩)),(2,.pointer (some ⟨0,0,none⟩))]) (fun x6=>[(6,true,.cells true 0 [.int .i64 x6,.int .i64 a.aa.hi])]) (fun x6=>[]) (fun x6=>[]) (fun x6=>(((decide ((a.aa.lo:Int)<b.aa.lo))=true/\(x6:Int)=b.aa.lo/\True)∨((decide ((a.aa.lo:Int)<b.aa.lo))=false/\(x6:Int)=a.aa.lo/\True))) (.go 20 (.again [])) (.again []) (fun x6 => .go 21 (.join 3 (Int) [6] (fun x7=>[(6,.pointer (some ⟨6,0,none⟩)),(5,.int .i64 3),(4,.pointer (some ⟨2,0,none⟩)),(3,.pointer (some ⟨1,0,none⟩)),(2,.pointer (some ⟨0,0,none⟩))]) (fun x7=>[(6,true,.cells true 0 [.int .i64 x6,.int .i64 x7])]) (fun x7=>[]) (fun x7=>[]) (fun x7=>(((decide ((b.aa.hi:Int)<a.aa.hi))=true/\(x7:Int)=b.aa.hi/\True)∨((decide ((b.aa.hi:Int)<a.aa.hi))=false/\(x7:Int)=a.aa.hi/\True))) (.go 20 (.again [])) (.again []) (fun x7 => .auto)))))))))))))))))
 (fun v _ _=>v=sp)=ru sp a b:=by kernel_rfl
def tT(sp:Value)(c:Cell)(m:aO)(h:Int):Prop :=
 (∃r0:Int,((True)/\(∀H':Heap,H'.length=4->(True)->ap prog 117 [.int .i64 m.down.ag,.int .i64 h] H' [] (Is (.int .i64 r0) H'))/\((.int .i64 (IntKind.wrap .i64 (c.ag.lo-r0)):Value) = .int .i64 (c.ag.lo-r0)/\(∃r1:Int,((True)/\(∀H':Heap,H'.length=4->(True)->ap prog 117 [.int .i64 m.up.ag,.int .i64 h] H' [] (Is (.int .i64 r1) H'))/\((.int .i64 (IntKind.wrap .i64 (c.ag.hi+r1)):Value) = .int .i64 (c.ag.hi+r1)/\(true=true/\((decide (((c.ag.lo-r0):Int)<0))=true->(∃x2':Int,(((decide (((c.ag.lo-r0):Int)<0))=true/\(x2':Int)=0/\True)∨((decide (((c.ag.lo-r0):Int)<0))=false/\(x2':Int)=(c.ag.lo-r0)/\True))/\true=true/\((.pointer (some ⟨3,0,none⟩):Value) = .pointer (some ⟨3,0,none⟩)/\(.int .i64 0:Value) = .int .i64 0/\(.pointer (some ⟨2,0,none⟩):Value) = .pointer (some ⟨2,0,none⟩)/\(.pointer (some ⟨1,0,none⟩):Value) = .pointer (some ⟨1,0,none⟩)/\(.pointer (some ⟨0,0,none⟩):Value) = .pointer (some ⟨0,0,none⟩)/\(.int .i64 h:Value) = .int .i64 h/\True)/\((some (.cells true 0 [.int .i64 0,.int .i64 (c.ag.hi+r1)]:ae)=some (.cells true 0 [.int .i64 x2',.int .i64 (c.ag.hi+r1)]:ae)/\aj 4 (.cells true 0 [.int .i64 x2',.int .i64 (c.ag.hi+r1)]:ae)=true)/\True)/\(True)/\(True)))/\((decide (((c.ag.lo-r0):Int)<0))=false->(∃x2':Int,(((decide (((c.ag.lo-r0):Int)<0))=true/\(x2':Int)=0/\True)∨((decide (((c.ag.lo-r0):Int)<0))=false/\(x2':Int)=(c.ag.lo-r0)/\True))/\true=true/\((.pointer (some ⟨3,0,none⟩):Value) = .pointer (some ⟨3,0,none⟩)/\(.int .i64 0:Value) = .int .i64 0/\(.pointer (some ⟨2,0,none⟩):Value) = .pointer (some ⟨2,0,none⟩)/\(.pointer (some ⟨1,0,none⟩):Value) = .pointer (some ⟨1,0,none⟩)/\(.pointer (some ⟨0,0,none⟩):Value) = .pointer (some ⟨0,0,none⟩)/\(.int .i64 h:Value) = .int .i64 h/\True)/\((some (.cells true 0 [.int .i64 (c.ag.lo-r0),.int .i64 (c.ag.hi+r1)]:ae)=some (.cells true 0 [.int .i64 x2',.int .i64 (c.ag.hi+r1)]:ae)/\aj 4 (.cells true 0 [.int .i64 x2',.int .i64 (c.ag.hi+r1)]:ae)=true)/\True)/\(True)/\(True)))/\∀x2:Int,(((decide (((c.ag.lo-r0):Int)<0))=true/\(x2:Int)=0/\True)∨((decide (((c.ag.lo-r0):Int)<0))=false/\(x2:Int)=(c.ag.lo-r0)/\True))->(true=true/\((decide ((100:Int)<(c.ag.hi+r1)))=true->(∃x3':Int,(((decide ((100:Int)<(c.ag.hi+r1)))=true/\(x3':Int)=100/\True)∨((decide ((100:Int)<(c.ag.hi+r1)))=false/\(x3':Int)=(c.ag.hi+r1)/\True))/\true=true/\((.pointer (some ⟨3,0,none⟩):Value) = .pointer (some ⟨3,0,none⟩)/\(.int .i64 0:Value) = .int .i64 0/\(.pointer (some ⟨2,0,none⟩):Value) = .pointer (some ⟨2,0,none⟩)/\(.pointer (some ⟨1,0,none⟩):Value) = .pointer (some ⟨1,0,none⟩)/\(.pointer (some ⟨0,0,none⟩):Value) = .pointer (some ⟨0,0,none⟩)/\(.int .i64 h:Value) = .int .i64 h/\True)/\((some (.cells true 0 [.int .i64 x2,.int .i64 100]:ae)=some (.cells true 0 [.int .i64 x2,.int .i64 x3']:ae)/\aj 4 (.cells true 0 [.int .i64 x2,.int .i64 x3']:ae)=true)/\True)/\(True)/\(True)))/\((decide ((100:Int)<(c.ag.hi+r1)))=false->(∃x3':Int,(((decide ((100:Int)<(c.ag.hi+r1)))=true/\(x3':Int)=100/\True)∨((decide ((100:Int)<(c.ag.hi+r1)))=false/\(x3':Int)=(c.ag.hi+r1)/\True))/\true=true/\((.pointer (some ⟨3,0,none⟩):Value) = .pointer (some ⟨3,0,none⟩)/\(.int .i64 0:Value) = .int .i64 0/\(.pointer (some ⟨2,0,none⟩):Value) = .pointer (some ⟨2,0,none⟩)/\(.pointer (some ⟨1,0,none⟩):Value) = .pointer (some ⟨1,0,none⟩)/\(.pointer (some ⟨0,0,none⟩):Value) = .pointer (some ⟨0,0,none⟩)/\(.int .i64 h:Value) = .int .i64 h/\True)/\((some (.cells true 0 [.int .i64 x2,.int .i64 (c.ag.hi+r1)]:ae)=some (.cells true 0 [.int .i64 x2,.int .i64 x3']:ae)/\aj 4 (.cells true 0 [.int .i64 x2,.int .i64 x3']:ae)=true)/\True)/\(True)/\(True)))/\∀x3:Int,(((decide ((100:Int)<(c.ag.hi+r1)))=true/\(x3:Int)=100/\True)∨((decide ((100:Int)<(c.ag.hi+r1)))=false/\(x3:Int)=(c.ag.hi+r1)/\True))->(∃r4:Int,((True)/\(∀H':Heap,H'.length=5->(True)->ap prog 117 [.int .i64 m.down.ac,.int .i64 h] H' [] (Is (.int .i64 r4) H'))/\((.int .i64 (IntKind.wrap .i64 (c.ac.lo-r4)):Value) = .int .i64 (c.ac.lo-r4)/\(∃r5:Int,((True)/\(∀H':Heap,H'.length=5->(True)->ap prog 117 [.int .i64 m.up.ac,.int .i64 h] H' [] (Is (.int .i64 r5) H'))/\((.int .i64 (IntKind.wrap .i64 (c.ac.hi+r5)):Value) = .int .i64 (c.ac.hi+r5)/\(true=true/\((decide (((c.ac.lo-r4):Int)<0))=true->(∃x6':Int,(((decide (((c.ac.lo-r4):Int)<0))=true/\(x6':Int)=0/\True)∨((decide (((c.ac.lo-r4):Int)<0))=false/\(x6':Int)=(c.ac.lo-r4)/\True))/\true=true/\((.pointer (some ⟨4,0,none⟩):Value) = .pointer (some ⟨4,0,none⟩)/\(.int .i64 1:Value) = .int .i64 1/\(.pointer (some ⟨2,0,none⟩):Value) = .pointer (some ⟨2,0,none⟩)/\(.pointer (some ⟨1,0,none⟩):Value) = .pointer (some ⟨1,0,none⟩)/\(.pointer (some ⟨0,0,none⟩):Value) = .pointer (some ⟨0,0,none⟩)/\(.int .i64 h:Value) = .int .i64 h/\True)/\((some (.cells true 0 [.int .i64 0,.int .i64 (c.ac.hi+r5)]:ae)=some (.cells true 0 [.int .i64 x6',.int .i64 (c.ac.hi+r5)]:ae)/\aj 5 (.cells true 0 [.int .i64 x6',.int .i64 (c.ac.hi+r5)]:ae)=true)/\True)/\(True)/\(True)))/\((decide (((c.ac.lo-r4):Int)<0))=false->(∃x6':Int,(((decide (((c.ac.lo-r4):Int)<0))=true/\(x6':Int)=0/\True)∨((decide (((c.ac.lo-r4):Int)<0))=false/\(x6':Int)=(c.ac.lo-r4)/\True))/\true=true/\((.pointer (some ⟨4,0,none⟩):Value) = .pointer (some ⟨4,0,none⟩)/\(.int .i64 1:Value) = .int .i64 1/\(.pointer (some ⟨2,0,none⟩):Value) = .pointer (some ⟨2,0,none⟩)/\(.pointer (some ⟨1,0,none⟩):Value) = .pointer (some ⟨1,0,none⟩)/\(.pointer (some ⟨0,0,none⟩):Value) = .pointer (some ⟨0,0,none⟩)/\(.int .i64 h:Value) = .int .i64 h/\True)/\((some (.cells true 0 [.int .i64 (c.ac.lo-r4),.int .i64 (c.ac.hi+r5)]:ae)=some (.cells true 0 [.int .i64 x6',.int .i64 (c.ac.hi+r5)]:ae)/\aj 5 (.cells true 0 [.int .i64 x6',.int .i64 (c.ac.hi+r5)]:ae)=true)/\True)/\(True)/\(True)))/\∀x6:Int,(((decide (((c.ac.lo-r4):Int)<0))=true/\(x6:Int)=0/\True)∨((decide (((c.ac.lo-r4):Int)<0))=false/\(x6:Int)=(c.ac.lo-r4)/\True))->(true=true/\((decide ((400:Int)<(c.ac.hi+r5)))=true->(∃x7':Int,(((decide ((400:Int)<(c.ac.hi+r5)))=true/\(x7':Int)=400/\True)∨((decide ((400:Int)<(c.ac.hi+r5)))=false/\(x7':Int)=(c.ac.hi+r5)/\True))/\true=true/\((.pointer (some ⟨4,0,none⟩):Value) = .pointer (some ⟨4,0,none⟩)/\(.int .i64 1:Value) = .int .i64 1/\(.pointer (some ⟨2,0,none⟩):Value) = .pointer (some ⟨2,0,none⟩)/\(.pointer (some ⟨1,0,none⟩):Value) = .pointer (some ⟨1,0,none⟩)/\(.pointer (some ⟨0,0,none⟩):Value) = .pointer (some ⟨0,0,none⟩)/\(.int .i64 h:Value) = .int .i64 h/\True)/\((some (.cells true 0 [.int .i64 x6,.int .i64 400]:ae)=some (.cells true 0 [.int .i64 x6,.int .i64 x7']:ae)/\aj 5 (.cells true 0 [.int .i64 x6,.int .i64 x7']:ae)=true)/\True)/\(True)/\(True)))/\((decide ((400:Int)<(c.ac.hi+r5)))=false->(∃x7':Int,(((decide ((400:Int)<(c.ac.hi+r5)))=true/\(x7':Int)=400/\True)∨((decide ((400:Int)<(c.ac.hi+r5)))=false/\(x7':Int)=(c.ac.hi+r5)/\True))/\true=true/\((.pointer (some ⟨4,0,none⟩):Value) = .pointer (some ⟨4,0,none⟩)/\(.int .i64 1:Value) = .int .i64 1/\(.pointer (some ⟨2,0,none⟩):Value) = .pointer (some ⟨2,0,none⟩)/\(.pointer (some ⟨1,0,none⟩):Value) = .pointer (some ⟨1,0,none⟩)/\(.pointer (some ⟨0,0,none⟩):Value) = .pointer (some ⟨0,0,none⟩)/\(.int .i64 h:Value) = .int .i64 h/\True)/\((some (.cells true 0 [.int .i64 x6,.int .i64 (c.ac.hi+r5)]:ae)=some (.cells true 0 [.int .i64 x6,.int .i64 x7']:ae)/\aj 5 (.cells true 0 [.int .i64 x6,.int .i64 x7']:ae)=true)/\True)/\(True)/\(True)))/\∀x7:Int,(((decide ((400:Int)<(c.ac.hi+r5)))=true/\(x7:Int)=400/\True)∨((decide ((400:Int)<(c.ac.hi+r5)))=false/\(x7:Int)=(c.ac.hi+r5)/\True))->(∃r8:Int,((True)/\(∀H':Heap,H'.length=6->(True)->ap prog 117 [.int .i64 m.down.ab,.int .i64 h] H' [] (Is (.int .i64 r8) H'))/\((.int .i64 (IntKind.wrap .i64 (c.ab.lo-r8)):Value) = .int .i64 (c.ab.lo-r8)/\(∃r9:Int,((True)/\(∀H':Heap,H'.length=6->(True)->ap prog 117 [.int .i64 m.up.ab,.int .i64 h] H' [] (Is (.int .i64 r9) H'))/\((.int .i64 (IntKind.wrap .i64 (c.ab.hi+r9)):Value) = .int .i64 (c.ab.hi+r9)/\(true=true/\((decide (((c.ab.lo-r8):Int)<0))=true->(∃ov:Int,(((decide (((c.ab.lo-r8):Int)<0))=true/\(ov:Int)=0/\True)∨((decide (((c.ab.lo-r8):Int)<0))=false/\(ov:Int)=(c.ab.lo-r8)/\True))/\true=true/\((.pointer (some ⟨5,0,none⟩):Value) = .pointer (some ⟨5,0,none⟩)/\(.int .i64 2:Value) = .int .i64 2/\(.pointer (some ⟨2,0,none⟩):Value) = .pointer (some ⟨2,0,none⟩)/\(.pointer (some ⟨1,0,none⟩):Value) = .pointer (some ⟨1,0,none⟩)/\(.pointer (some ⟨0,0,none⟩):Value) = .pointer (some ⟨0,0,none⟩)/\(.int .i64 h:Value) = .int .i64 h/\True)/\((some (.cells true 0 [.int .i64 0,.int .i64 (c.ab.hi+r9)]:ae)=some (.cells true 0 [.int .i64 ov,.int .i64 (c.ab.hi+r9)]:ae)/\aj 6 (.cells true 0 [.int .i64 ov,.int .i64 (c.ab.hi+r9)]:ae)=true)/\True)/\(True)/\(True)))/\((decide (((c.ab.lo-r8):Int)<0))=false->(∃ov:Int,(((decide (((c.ab.lo-r8):Int)<0))=true/\(ov:Int)=0/\True)∨((decide (((c.ab.lo-r8):Int)<0))=false/\(ov:Int)=(c.ab.lo-r8)/\True))/\true=true/\((.pointer (some ⟨5,0,none⟩):Value) = .pointer (some ⟨5,0,none⟩)/\(.int .i64 2:Value) = .int .i64 2/\(.pointer (some ⟨2,0,none⟩):Value) = .pointer (some ⟨2,0,none⟩)/\(.pointer (some ⟨1,0,none⟩):Value) = .pointer (some ⟨1,0,none⟩)/\(.pointer (some ⟨0,0,none⟩):Value) = .pointer (some ⟨0,0,none⟩)/\(.int .i64 h:Value) = .int .i64 h/\True)/\((some (.cells true 0 [.int .i64 (c.ab.lo-r8),.int .i64 (c.ab.hi+r9)]:ae)=some (.cells true 0 [.int .i64 ov,.int .i64 (c.ab.hi+r9)]:ae)/\aj 6 (.cells true 0 [.int .i64 ov,.int .i64 (c.ab.hi+r9)]:ae)=true)/\True)/\(True)/\(True)))/\∀x10:Int,(((decide (((c.ab.lo-r8):Int)<0))=true/\(x10:Int)=0/\True)∨((decide (((c.ab.lo-r8):Int)<0))=false/\(x10:Int)=(c.ab.lo-r8)/\True))->(true=true/\((decide ((100:Int)<(c.ab.hi+r9)))=true->(∃ou:Int,(((decide ((100:Int)<(c.ab.hi+r9)))=true/\(ou:Int)=100/\True)∨((decide ((100:Int)<(c.ab.hi+r9)))=false/\(ou:Int)=(c.ab.hi+r9)/\True))/\true=true/\((.pointer (some ⟨5,0,none⟩):Value) = .pointer (some ⟨5,0,none⟩)/\(.int .i64 2:Value) = .int .i64 2/\(.pointer (some ⟨2,0,none⟩):Value) = .pointer (some ⟨2,0,none⟩)/\(.pointer (some ⟨1,0,none⟩):Value) = .pointer (some ⟨1,0,none⟩)/\(.pointer (some ⟨0,0,none⟩):Value) = .pointer (some ⟨0,0,none⟩)/\(.int .i64 h:Value) = .int .i64 h/\True)/\((some (.cells true 0 [.int .i64 x10,.int .i64 100]:ae)=some (.cells true 0 [.int .i64 x10,.int .i64 ou]:ae)/\aj 6 (.cells true 0 [.int .i64 x10,.int .i64 ou]:ae)=true)/\True)/\(True)/\(True)))/\((decide ((100:Int)<(c.ab.hi+r9)))=false->(∃ou:Int,(((decide ((100:Int)<(c.ab.hi+r9)))=true/\(ou:Int)=100/\True)∨((decide ((100:Int)<(c.ab.hi+r9)))=false/\(ou:Int)=(c.ab.hi+r9)/\True))/\true=true/\((.pointer (some ⟨5,0,none⟩):Value) = .pointer (some ⟨5,0,none⟩)/\(.int .i64 2:Value) = .int .i64 2/\(.pointer (some ⟨2,0,none⟩):Value) = .pointer (some ⟨2,0,none⟩)/\(.pointer (some ⟨1,0,none⟩):Value) = .pointer (some ⟨1,0,none⟩)/\(.pointer (some ⟨0,0,none⟩):Value) = .pointer (some ⟨0,0,none⟩)/\(.int .i64 h:Value) = .int .i64 h/\True)/\((some (.cells true 0 [.int .i64 x10,.int .i64 (c.ab.hi+r9)]:ae)=some (.cells true 0 [.int .i64 x10,.int .i64 ou]:ae)/\aj 6 (.cells true 0 [.int .i64 x10,.int .i64 ou]:ae)=true)/\True)/\(True)/\(True)))/\∀x11:Int,(((decide ((100:Int)<(c.ab.hi+r9)))=true/\(x11:Int)=100/\True)∨((decide ((100:Int)<(c.ab.hi+r9)))=false/\(x11:Int)=(c.ab.hi+r9)/\True))->(∃r12:Int,((True)/\(∀H':Heap,H'.length=7->(True)->ap prog 117 [.int .i64 m.down.aa,.int .i64 h] H' [] (Is (.int .i64 r12) H'))/\((.int .i64 (IntKind.wrap .i64 (c.aa.lo-r12)):Value) = .int .i64 (c.aa.lo-r12)/\(∃r13:Int,((True)/\(∀H':Heap,H'.length=7->(True)->ap prog 117 [.int .i64 m.up.aa,.int .i64 h] H' [] (Is (.int .i64 r13) H'))/\((.int .i64 (IntKind.wrap .i64 (c.aa.hi+r13)):Value) = .int .i64 (c.aa.hi+r13)/\(true=true/\((decide (((c.aa.lo-r12):Int)<0))=true->(∃ot:Int,(((decide (((c.aa.lo-r12):Int)<0))=true/\(ot:Int)=0/\True)∨((decide (((c.aa.lo-r12):Int)<0))=false/\(ot:Int)=(c.aa.lo-r12)/\True))/\true=true/\((.pointer (some ⟨6,0,none⟩):Value) = .pointer (some ⟨6,0,none⟩)/\(.int .i64 3:Value) = .int .i64 3/\(.pointer (some ⟨2,0,none⟩):Value) = .pointer (some ⟨2,0,none⟩)/\(.pointer (some ⟨1,0,none⟩):Value) = .pointer (some ⟨1,0,none⟩)/\(.pointer (some ⟨0,0,none⟩):Value) = .pointer (some ⟨0,0,none⟩)/\(.int .i64 h:Value) = .int .i64 h/\True)/\((some (.cells true 0 [.int .i64 0,.int .i64 (c.aa.hi+r13)]:ae)=some (.cells true 0 [.int .i64 ot,.int .i64 (c.aa.hi+r13)]:ae)/\aj 7 (.cells true 0 [.int .i64 ot,.int .i64 (c.aa.hi+r13)]:ae)=true)/\True)/\(True)/\(True)))/\((decide (((c.aa.lo-r12):Int)<0))=false->(∃ot:Int,(((decide (((c.aa.lo-r12):Int)<0))=true/\(ot:Int)=0/\True)∨((decide (((c.aa.lo-r12):Int)<0))=false/\(ot:Int)=(c.aa.lo-r12)/\True))/\true=true/\((.pointer (some ⟨6,0,none⟩):Value) = .pointer (some ⟨6,0,none⟩)/\(.int .i64 3:Value) = .int .i64 3/\(.pointer (some ⟨2,0,none⟩):Value) = .pointer (some ⟨2,0,none⟩)/\(.pointer (some ⟨1,0,none⟩):Value) = .pointer (some ⟨1,0,none⟩)/\(.pointer (some ⟨0,0,none⟩):Value) = .pointer (some ⟨0,0,none⟩)/\(.int .i64 h:Value) = .int .i64 h/\True)/\((some (.cells true 0 [.int .i64 (c.aa.lo-r12),.int .i64 (c.aa.hi+r13)]:ae)=some (.cells true 0 [.int .i64 ot,.int .i64 (c.aa.hi+r13)]:ae)/\aj 7 (.cells true 0 [.int .i64 ot,.int .i64 (c.aa.hi+r13)]:ae)=true)/\True)/\(True)/\(True)))/\∀x14:Int,(((decide (((c.aa.lo-r12):Int)<0))=true/\(x14:Int)=0/\True)∨((decide (((c.aa.lo-r12):Int)<0))=false/\(x14:Int)=(c.aa.lo-r12)/\True))->(true=true/\((decide ((3:Int)<(c.aa.hi+r13)))=true->(∃oq:Int,(((decide ((3:Int)<(c.aa.hi+r13)))=true/\(oq:Int)=3/\True)∨((decide ((3:Int)<(c.aa.hi+r13)))=false/\(oq:Int)=(c.aa.hi+r13)/\True))/\true=true/\((.pointer (some ⟨6,0,none⟩):Value) = .pointer (some ⟨6,0,none⟩)/\(.int .i64 3:Value) = .int .i64 3/\(.pointer (some ⟨2,0,none⟩):Value) = .pointer (some ⟨2,0,none⟩)/\(.pointer (some ⟨1,0,none⟩):Value) = .pointer (some ⟨1,0,none⟩)/\(.pointer (some ⟨0,0,none⟩):Value) = .pointer (some ⟨0,0,none⟩)/\(.int .i64 h:Value) = .int .i64 h/\True)/\((some (.cells true 0 [.int .i64 x14,.int .i64 3]:ae)=some (.cells true 0 [.int .i64 x14,.int .i64 oq]:ae)/\aj 7 (.cells true 0 [.int .i64 x14,.int .i64 oq]:ae)=true)/\True)/\(True)/\(True)))/\((decide ((3:Int)<(c.aa.hi+r13)))=false->(∃oq:Int,(((decide ((3:Int)<(c.aa.hi+r13)))=true/\(oq:Int)=3/\True)∨((decide ((3:Int)<(c.aa.hi+r13)))=false/\(oq:Int)=(c.aa.hi+r13)/\True))/\true=true/\((.pointer (some ⟨6,0,none⟩):Value) = .pointer (some ⟨6,0,none⟩)/\(.int .i64 3:Value) = .int .i64 3/\(.pointer (some ⟨2,0,none⟩):Value) = .pointer (some ⟨2,0,none⟩)/\(.pointer (some ⟨1,0,none⟩):Value) = .pointer (some ⟨1,0,none⟩)/\(.pointer (some ⟨0,0,none⟩):Value) = .pointer (some ⟨0,0,none⟩)/\(.int .i64 h:Value) = .int .i64 h/\True)/\((some (.cells true 0 [.int .i64 x14,.int .i64 (c.aa.hi+r13)]:ae)=some (.cells true 0 [.int .i64 x14,.int .i64 oq]:ae)/\aj 7 (.cells true 0 [.int .i64 x14,.int .i64 oq]:ae)=true)/\True)/\(True)/\(True)))/\∀x15:Int,(((decide ((3:Int)<(c.aa.hi+r13)))=true/\(x15:Int)=3/\True)∨((decide ((3:Int)<(c.aa.hi+r13)))=false/\(x15:Int)=(c.aa.hi+r13)/\True))->(.agg #[.int .i64 x2,.int .i64 x3,.int .i64 x6,.int .i64 x7,.int .i64 x10,.int .i64 x11,.int .i64 x14,.int .i64 x15]:Value)=sp))))))))))))))))))))))))))))))))
theorem yd(sp:Value)(c:Cell)(m:aO)(h:Int):vF prog msk (dm 0) 100000 true 40 true 113 [.agg #[.int .i64 c.ag.lo,.int .i64 c.ag.hi,.int .i64 c.ac.lo,.int .i64 c.ac.hi,.int .i64 c.ab.lo,.int .i64 c.ab.hi,.int .i64 c.aa.lo,.int .i64 c.aa.hi],.agg #[.int .i64 m.up.ag,.int .i64 m.up.ac,.int .i64 m.up.ab,.int .i64 m.up.aa,.int .i64 m.down.ag,.int .i64 m.down.ac,.int .i64 m.down.ab,.int .i64 m.down.aa],.int .i64 h] ⟨0,.leaf⟩ (some [])
 (.go 36 (.bind (Int) (fun r0 => .ans [] (.int .i64 r0) [] (.go 0 (.slot 24 (.int .i64 (c.ag.lo-r0)) (.go 17 (.bind (Int) (fun r1 => .ans [] (.int .i64 r1) [] (.go 0 (.slot 34 (.int .i64 (c.ag.hi+r1)) (.go 4 (.join 3 (Int) [3] (fun x2=>[(8,.pointer (some ⟨3,0,none⟩)),(7,.int .i64 0),(6,.pointer (some ⟨2,0,none⟩)),(4,.pointer (some ⟨1,0,none⟩)),(3,.pointer (some ⟨0,0,none⟩)),(2,.int .i64 h)]) (fun x2=>[(3,true,.cells true 0 [.int .i64 x2,.int .i64 (c.ag.hi+r1)])]) (fun x2=>[]) (fun x2=>[]) (fun x2=>(((decide (((c.ag.lo-r0):Int)<0))=true/\(x2:Int)=0/\True)∨((decide (((c.ag.lo-r0):Int)<0))=false/\(x2:Int)=(c.ag.lo-r0)/\True))) (.go 1 (.again [])) (.again []) (fun x2 => .go 11 (.join 3 (Int) [3] (fun x3=>[(8,.pointer (some ⟨3,0,none⟩)),(7,.int .i64 0),(6,.pointer (some ⟨2,0,none⟩)),(4,.pointer (some ⟨1,0,none⟩)),(3,.pointer (some ⟨0,0,none⟩)),(2,.int .i64 h)]) (fun x3=>[(3,true,.cells true 0 [.int .i64 x2,.int .i64 x3])]) (fun x3=>[]) (fun x3=>[]) (fun x3=>(((decide ((100:Int)<(c.ag.hi+r1)))=true/\(x3:Int)=100/\True)∨((decide ((100:Int)<(c.ag.hi+r1)))=false/\(x3:Int)=(c.ag.hi+r1)/\True))) (.go 10 (.again [])) (.again []) (fun x3 => .go 58 (.bind (Int) (fun r4 => .ans [] (.int .i64 r4) [] (.go 0 (.slot 24 (.int .i64 (c.ac.lo-r4)) (.go 20 (.bind (Int) (fun r5 => .ans [] (.int .i64 r5) [] (.go 0 (.slot 34 (.int .i64 (c.ac.hi+r5)) (.go 4 (.join 3 (Int) [4] (fun x6=>[(8,.pointer (some ⟨4,0,none⟩)),(7,.int .i64 1),(6,.pointer (some ⟨2,0,none⟩)),(4,.pointer (some ⟨1,0,none⟩)),(3,.pointer (some ⟨0,0,none⟩)),(2,.int .i64 h)]) (fun x6=>[(4,true,.cells true 0 [.int .i64 x6,.int .i64 (c.ac.hi+r5)])]) (fun x6=>[]) (fun x6=>[]) (fun x6=>(((decide (((c.ac.lo-r4):Int)<0))=true/\(x6:Int)=0/\True)∨((decide (((c.ac.lo-r4):Int)<0))=false/\(x6:Int)=(c.ac.lo-r4)/\True))) (.go 1 (.again [])) (.again []) (fun x6 => .go 16 (.join 3 (Int) [4] (fun x7=>[(8,.pointer (some ⟨4,0,none⟩)),(7,.int .i64 1),(6,.pointer (some ⟨2,0,none⟩)),(4,.pointer (some ⟨1,0,none⟩)),(3,.pointer (some ⟨0,0,none⟩)),(2,.int .i64 h)]) (fun x7=>[(4,true,.cells true 0 [.int .i64 x6,.int .i64 x7])]) (fun x7=>[]) (fun x7=>[]) (fun x7=>(((decide ((400:Int)<(c.ac.hi+r5)))=true/\(x7:Int)=400/\True)∨((decide ((400:Int)<(c.ac.hi+r5)))=false/\(x7:Int)=(c.ac.hi+r5)/\True))) (.go 15 (.again [])) (.again []) (fun x7 => .go 67 (.bind (Int) (fun r8 => .ans [] (.int .i64 r8) [] (.go 0 (.slot 24 (.int .i64 (c.ab.lo-r8)) (.go 23 (.bind (Int) (fun r9 => .ans [] (.int .i64 r9) [] (.go 0 (.slot 34 (.int .i64 (c.ab.hi+r9)) (.go 4 (.join 3 (Int) [5] (fun x10=>[(8,.pointer (some ⟨5,0,none⟩)),(7,.int .i64 2),(6,.pointer (some ⟨2,0,none⟩)),(4,.pointer (some ⟨1,0,none⟩)),(3,.pointer (some ⟨0,0,none⟩)),(2,.int .i64 h)]) (fun x10=>[(5,true,.cells true 0 [.int .i64 x10,.int .i64 (c.ab.hi+r9)])]) (fun x10=>[]) (fun x10=>[]) (fun x10=>(((decide (((c.ab.lo-r8):Int)<0))=true/\(x10:Int)=0/\True)∨((decide (((c.ab.lo-r8):Int)<0))=false/\(x10:Int)=(c.ab.lo-r8)/\True))) (.go 1 (.again [])) (.again []) (fun x10 => .go 13 (.join 3 (Int) [5] (fun x11=>[(8,.pointer (some ⟨5,0,none⟩)),(7,.int .i64 2),(6,.pointer (some ⟨2,0,none⟩)),(4,.pointer (some ⟨1,0,none⟩)),(3,.pointer (some ⟨0,0,none⟩)),(2,.int .i64 h)]) (fun x11=>[(5,true,.cells true 0 [.int .i64 x10,.int .i64 x11])]) (fun x11=>[]) (fun x11=>[]) (fun x11=>(((decide ((100:Int)<(c.ab.hi+r9)))=true/\(x11:Int)=100/\True)∨((decide ((100:Int)<(c.ab.hi+r9)))=false/\(x11:Int)=(c.ab.hi+r9)/\True))) (.go 12 (.again [])) (.again []) (fun x11 => .go 70 (.bind (Int) (fun r12 => .ans [] (.int .i64 r12) [] (.go 0 (.slot 24 (.int .i64 (c.aa.lo-r12)) (.go 23 (.bind (Int) (fun r13 => .ans [] (.int .i64 r13) [] (.go 0 (.slot 34 (.int .i64 (c.aa.hi+r13)) (.go 4 (.join 3 (Int) [6] (fun x14=>[(8,.pointer (some ⟨6,0,none⟩)),(7,.int .i64 3),(6,.pointer (some ⟨2,0,none⟩)),(4,.pointer (some ⟨1,0,none⟩)),(3,.pointer (some ⟨0,0,none⟩)),(2,.int .i64 h)]) (fun x14=>[(6,true,.cells true 0 [.int .i64 x14,.int .i64 (c.aa.hi+r13)])]) (fun x14=>[]) (fun x14=>[]) (fun x14=>(((decide (((c.aa.lo-r12):Int)<0))=true/\(x14:Int)=0/\True)∨((decide (((c.aa.lo-r12):Int)<0))=false/\(x14:Int)=(c.aa.lo-r12)/\True))) (.go 1 (.again [])) (.again []) (fun x14 => .go 16 (.join 3 (Int) [6] (fun x15=>[(8,.pointer (some ⟨6,0,none⟩)),(7,.int .i64 3),(6,.pointer (some ⟨2,0,none⟩)),(4,.pointer (some ⟨1,0,none⟩)),(3,.pointer (some ⟨0,0,none⟩)),(2,.int .i64 h)]) (fun x15=>[(6,true,.cells true 0 [.int .i64 x14,.int .i64 x15])]) (fun x15=>[]) (fun x15=>[]) (fun x15=>(((decide ((3:Int)<(c.aa.hi+r13)))=true/\(x15:Int)=3/\True)∨((decide ((3:Int)<(c.aa.hi+r13)))=false/\(x15:Int)=(c.aa.hi+r13)/\True))) (.go 15 (.again [])) (.again []) (fun x15 => .auto)))))))))))))))))))))))))))))))))))))))))))))))))))))))))
 (fun v _ _=>v=sp)=tT sp c m h:=by kernel_rfl
def yC(sp:Value)(w h t:Int):Prop :=
 (((decide ((1:Int)<=w))=true->(((!(decide ((w:Int)<=64)))=true->(.int .i64 6:Value)=sp)/\((!(decide ((w:Int)<=64)))=false->(((decide ((1:Int)<=h))=true->(((!(decide ((h:Int)<=64)))=true->(.int .i64 6:Value)=sp)/\((!(decide ((h:Int)<=64)))=false->((.int .i64 (IntKind.wrap .i64 (w*h)):Value) = .int .i64 (w*h)/\(((decide ((1024:Int)<(w*h)))=true->(.int .i64 6:Value)=sp)/\((decide ((1024:Int)<(w*h)))=false->(((decide ((0:Int)<=t))=true->(((!(decide ((t:Int)<=10000)))=true->(.int .i64 6:Value)=sp)/\((!(decide ((t:Int)<=10000)))=false->(.int .i64 0:Value)=sp)))/\((decide ((0:Int)<=t))=false->(.int .i64 6:Value)=sp))))))))/\((decide ((1:Int)<=h))=false->(.int .i64 6:Value)=sp)))))/\((decide ((1:Int)<=w))=false->(.int .i64 6:Value)=sp))
theorem AO(sp:Value)(w h t:Int):vF prog msk (dm 0) 100000 true 40 true 118 [.int .i64 w,.int .i64 h,.int .i64 t] ⟨0,.leaf⟩ (some [])
 (.go 7 (.az (.go 6 (.az (.auto) (.go 6 (.az (.go 7 (.az (.auto) (.go 2 (.slot 18 (.int .i64 (w*h)) (.go 2 (.az (.auto) (.go 6 (.az (.go 6 (.fork (.auto) (.auto))) (.auto))))))))) (.auto))))) (.auto)))
 (fun v _ _=>v=sp)=yC sp w h t:=by kernel_rfl
def tQ(sp:Value)(w h t:Int):Prop :=
 (((decide ((w:Int)<1))=true->(.int .i64 6:Value)=sp)/\((decide ((w:Int)<1))=false->(((decide ((64:Int)<w))=true->(.int .i64 6:Value)=sp)/\((decide ((64:Int)<w))=false->(((decide ((h:Int)<1))=true->(.int .i64 6:Value)=sp)/\((decide ((h:Int)<1))=false->(((decide ((64:Int)<h))=true->(.int .i64 6:Value)=sp)/\((decide ((64:Int)<h))=false->((.int .i64 (IntKind.wrap .i64 (w*h)):Value) = .int .i64 (w*h)/\(((decide ((1024:Int)<(w*h)))=true->(.int .i64 6:Value)=sp)/\((decide ((1024:Int)<(w*h)))=false->(((decide ((t:Int)<0))=true->(.int .i64 6:Value)=sp)/\((decide ((t:Int)<0))=false->(((decide ((10000:Int)<t))=true->(.int .i64 6:Value)=sp)/\((decide ((10000:Int)<t))=false->(.int .i64 0:Value)=sp)))))))))))))))
theorem xZ(sp:Value)(w h t:Int):vF prog msk (dm 0) 100000 true 40 true 120 [.int .i64 w,.int .i64 h,.int .i64 t] ⟨0,.leaf⟩ (some [])
 (.go 3 (.az (.auto) (.go 3 (.az (.auto) (.go 3 (.az (.auto) (.go 3 (.az (.auto) (.go 2 (.slot 24 (.int .i64 (w*h)) (.go 2 (.az (.auto) (.go 3 (.az (.auto) (.go 2 (.fork (.auto) (.auto)))))))))))))))))
 (fun v _ _=>v=sp)=tQ sp w h t:=by kernel_rfl
end
end Go.Proofs.YthcjliffpebjaaaGreat
namespace Go.K
noncomputable section
theorem aH{p A B:Prop}[Decidable p](h1:p->A)(h2:¬ p->B):(decide p=true->A)/\(decide p=false->B) :=
 ⟨fun h=>h1 (gJ h),fun h=>h2 (vJ h)⟩
theorem aJ{a b:Int}{A B:Prop}(h1:a≠b->A)(h2:a=b->B):((a != b)=true->A)/\((a != b)=false->B) :=
 ⟨fun h=>h1 (by simpa using h),fun h=>h2 (by simpa using h)⟩
theorem aI{a b:Int}{A B:Prop}(h1:a=b->A)(h2:a≠b->B):((a == b)=true->A)/\((a == b)=false->B) :=
 ⟨fun h=>h1 (by simpa using h),fun h=>h2 (by simpa using h)⟩
theorem aC{b:Bool}{A B:Prop}(h:(b=true->B)/\(b=false->A)):((!b)=true->A)/\((!b)=false->B):=by
 cases b
 ·exact ⟨fun _=>h.2 rfl,fun h=>by cases h⟩
 ·exact ⟨fun h=>(by cases h),fun _=>h.1 rfl⟩
theorem mD{b:Bool}{A B:Prop}(h1:b=true->A)(h2:b=false->B):(b=true->A)/\(b=false->B):=⟨h1,h2⟩
theorem AF{b:Bool}{A B:Prop}(hb:b=true)(h1:A):(b=true->A)/\(b=false->B):=⟨fun _=>h1,fun h=>by rw[hb]at h;cases h⟩
theorem jJ{b:Bool}{A B:Prop}(hb:b=false)(h1:B):(b=true->A)/\(b=false->B):=⟨fun h=>(by rw[hb]at h;cases h),fun _=>h1⟩
theorem iEq{k:IntKind}{a b:Int}(h:a=b):(Value.int k a) = .int k b:=by rw[h]
theorem bEq{a b:Bool}(h:a=b):(Value.bool a) = .bool b:=by rw[h]
theorem yH{n:Int}(h : -9223372036854775808<=n/\n<=9223372036854775807):IntKind.wrap .i64 n=n:=IntWalk.i64_in n h
theorem aB{n:Int}(h : -9223372036854775808<=n/\n<=9223372036854775807):(Value.int .i64 (IntKind.wrap .i64 n)) = .int .i64 n:=by rw[yH h]
theorem xH(a b:Int):(if b > a then b else a)=max a b:=by split <;> omega
theorem xG(a b:Int):(if b<a then b else a)=min a b:=by split <;> omega
theorem toMax{k:IntKind}{a b:Int}{Q:Int->Prop}(h:Q (max a b)):∃y:Int,(Value.int k (if b > a then b else a)) = .int k y/\Q y:=⟨max a b,by rw[xH],h⟩
theorem toMin{k:IntKind}{a b:Int}{Q:Int->Prop}(h:Q (min a b)):∃y:Int,(Value.int k (if b<a then b else a)) = .int k y/\Q y:=⟨min a b,by rw[xG],h⟩
theorem yw{c:Bool}{v1 v2:Int}{S1 S2 R:Int->Prop}(h1:c=true->S1 v1)(h2:c=false->S2 v2)(hr:∀x,x=(if c=true then v1 else v2)->R x) :
  (true=true/\(c=true->∃x':Int,((c=true/\x'=v1/\True)∨(c=false/\x'=v2/\True))/\S1 x')/\(c=false->∃x':Int,((c=true/\x'=v1/\True)∨(c=false/\x'=v2/\True))/\S2 x') /\
   ∀x:Int,((c=true/\x=v1/\True)∨(c=false/\x=v2/\True))->R x):=by
 refine ⟨rfl,fun h=>⟨v1,.inl ⟨h,rfl,trivial⟩,h1 h⟩,fun h=>⟨v2,.inr ⟨h,rfl,trivial⟩,h2 h⟩,fun x hx=>hr x ?_⟩
 rcases hx with ⟨h,rfl,_⟩|⟨h,rfl,_⟩
 ·rw[if_pos h]
 ·rw[if_neg (by rw[h];decide)]
theorem aQ{a b:Int}{S1 S2 R:Int->Prop}(h1:S1 b)(h2:S2 a)(hr:R (max a b)) :
  (true=true/\(decide (a<b)=true->∃x':Int,((decide (a<b)=true/\x'=b/\True)∨(decide (a<b)=false/\x'=a/\True))/\S1 x')/\(decide (a<b)=false->∃x':Int,((decide (a<b)=true/\x'=b/\True)∨(decide (a<b)=false/\x'=a/\True))/\S2 x') /\
   ∀x:Int,((decide (a<b)=true/\x=b/\True)∨(decide (a<b)=false/\x=a/\True))->R x) :=
 yw (fun _=>h1) (fun _=>h2) fun x hx=>by
  have:x=max a b:=by rw[hx];simp only[decide_eq_true_eq];split <;> omega
  rw[this];exact hr
theorem aP{a b:Int}{S1 S2 R:Int->Prop}(h1:S1 b)(h2:S2 a)(hr:R (min a b)) :
  (true=true/\(decide (b<a)=true->∃x':Int,((decide (b<a)=true/\x'=b/\True)∨(decide (b<a)=false/\x'=a/\True))/\S1 x')/\(decide (b<a)=false->∃x':Int,((decide (b<a)=true/\x'=b/\True)∨(decide (b<a)=false/\x'=a/\True))/\S2 x') /\
   ∀x:Int,((decide (b<a)=true/\x=b/\True)∨(decide (b<a)=false/\x=a/\True))->R x) :=
 yw (fun _=>h1) (fun _=>h2) fun x hx=>by
  have:x=min a b:=by rw[hx];simp only[decide_eq_true_eq];split <;> omega
  rw[this];exact hr
theorem aA{a b:Value}{r s:List Value}(h:wk a b)(hr:wks r s):wks (a :: r) (b :: s):=⟨h,hr⟩
theorem aG:wks [] []:=trivial
theorem ap.wkA{P:Program}{f:FuncId}{args args2:List Value}{H:Heap}{M:List Nat}{Q:Value->Heap->Prop}(h:ap P f args2 H M Q)(ha:wks args args2):ap P f args H M Q :=
 ap.pD [] (by rw[List.append_nil];exact h) (ed ha).1 (ed ha).2
theorem nn{P:Program}{css:List (List Value)}{ids:List Nat}{H:Heap}(ew:∀(k:Nat) (cs:List Value),css[k]?=some cs->∃id own z,ids[k]?=some id/\H[id]?=some (ae.cells own z (cs.map (rn (sgR P.globals.size ids) 3))))(hl:ids.length=css.length) :
  Reads P (bi P.globals.size css).list H (sgR P.globals.size ids) 3:=by
 have hn:(bi P.globals.size css).list.length=P.globals.size+css.length:=by rw[HT.length,jj]
 refine ⟨fun g hg=>if_pos hg,fun id id' h =>?_,by rw[hn];omega,fun id o h =>?_,fun id id' cs h1 h2 =>?_⟩
 ·rw[hn]
  unfold sgR at h
  split at h
  ·omega
  ·have:=(List.getElem?_eq_some_iff.1 h).1;omega
 ·rw[fb]at h
  split at h
  ·cases h;exact .inl rfl
  ·obtain ⟨cs,_,rfl⟩:=bk h;exact .inr ⟨cs,rfl⟩
 ·rw[fb]at h2
  split at h2
  ·cases h2
  ·rename_i hlt
   obtain ⟨cs',a1,a2⟩:=bk h2
   cases a2
   unfold sgR at h1
   rw[if_neg hlt]at h1
   obtain ⟨id2,own,z,b1,b2⟩:=ew _ _ a1
   rw[h1]at b1;cases b1
   exact ⟨own,z,[],by rw[List.append_nil];exact b2⟩
theorem AX{P:Program}{mixed:Bool}{mask:Nat}{dm:Value->MS}{rounds:Nat}(dK:eB P mixed mask)(et:mixed=true->P.follows .mixedOrders=true)(n:Nat){f:FuncId}{args:List Value}{css:List (List Value)}{h:Hint}{v:Value}{new:List (Bool×ae)}
  (hc:vF P mask dm rounds mixed n true f args (bi P.globals.size css) (some []) h (fD (bi P.globals.size css).n 3 v new))
  (hv:cC 3 v=true) (hv2:rn (bQ (P.globals.size+css.length)) 3 v=v) (hn:(new.map (·.2)).all (fun o=>cT 3 o&&o.owned)=true) (hn2:(new.map (·.2)).map (rno (bQ (P.globals.size+css.length)) 3)=new.map (·.2))
  {H:Heap} (ids:List Nat) (hl:ids.length=css.length) (ew:∀(k:Nat) (cs:List Value),css[k]?=some cs->∃id own z,ids[k]?=some id/\H[id]?=some (ae.cells own z (cs.map (rn (sgR P.globals.size ids) 3)))) :
  ap P f (args.map (rn (sgR P.globals.size ids) 3)) H [] (Is (rn (cG (P.globals.size+css.length) H.length) 3 v) (H++(new.map (·.2)).map (rno (cG (P.globals.size+css.length) H.length) 3))):=by
 have h1:=vcN dK et n hc
 have e:(bi P.globals.size css).list.length=P.globals.size+css.length:=by rw[HT.length,jj]
 have:=ap.reads (nn ew hl) h1 hv (by rw[e];exact hv2) hn (by rw[e];exact hn2)
 rw[e]at this
 exact this
theorem zY{P:Program}{mixed:Bool}{mask:Nat}{dm:Value->MS}{rounds:Nat}(dK:eB P mixed mask)(et:mixed=true->P.follows .mixedOrders=true)(n:Nat){f:FuncId}{args:List Value}{css:List (List Value)}{h:Hint}{v:Value}
  (hc:vF P mask dm rounds mixed n true f args (bi P.globals.size css) (some []) h (fun v' _ _=>v'=v)) (hv:cc 0 v=true)
  {H:Heap} (ids:List Nat) (hl:ids.length=css.length) (ew:∀(k:Nat) (cs:List Value),css[k]?=some cs->∃id own z,ids[k]?=some id/\H[id]?=some (ae.cells own z (cs.map (rn (sgR P.globals.size ids) 3)))) (h3:cC 3 v=true:=by rfl) (h4:∀U,rn U 3 v=v:=by intro U;rfl) :
  ap P f (args.map (rn (sgR P.globals.size ids) 3)) H [] (Is v H):=by
 have h1:ap P f args (bi P.globals.size css).list [] (Is v ((bi P.globals.size css).list ++ [])):=by
  have:=ap.clean (vc dK et n (Q:=fun v' _=>v'=v) hc) hv
  simpa using this
 have:=ap.reads (nn ew hl) h1 h3 (h4 _) rfl rfl
 rw[h4]at this
 simpa using this
end
end Go.K
namespace Go.Proofs.YthcjliffpebjaaaGreat
noncomputable section
attribute [local irreducible] vF
theorem xv(a b:Cell)(H:Heap):ap prog F.mo [cellV a,cellV b] H [] (Is (.tuple #[cellV (cj a b),.bool (decide (okC (cj a b)))]) H):=by
 refine fk 40 (fun _=>rfl) rfl (Eq.mpr (xX _ a b) ?_) H
 unfold tO
 repeat' first|exact trivial|exact rfl|refine aQ ?_ ?_ ?_|refine aP ?_ ?_ ?_|refine toMax ?_|refine toMin ?_|refine ⟨rfl,?_⟩|refine ⟨trivial,?_⟩|(refine aH (fun h =>?_) (fun h =>?_))|(refine aJ (fun h =>?_) (fun h =>?_))|(refine aI (fun h =>?_) (fun h =>?_))|refine aC ?_|(refine ⟨aB (by omega),?_⟩)|(refine And.intro (by omega) ?_)|apply And.intro|exact aw _|(exact iEq (by omega))|(exact aB (by omega))
 ·exact congrArg (fun q=>Value.tuple #[cellV (cj a b),Value.bool q]) (decide_eq_true (p:=okC (cj a b)) ⟨‹_›,‹_›,‹_›,‹_›⟩).symm
 all_goals exact congrArg (fun q=>Value.tuple #[cellV (cj a b),Value.bool q]) (decide_eq_false (p:=okC (cj a b)) (fun o=>by first|exact h o.1|exact h o.2.1|exact h o.2.2.1|exact h o.2.2.2)).symm
theorem xw(c:Cell)(m:aO)(h:Int)(hc:dE c)(hm:c7 m)(hh:0<=h/\h<=10000)(H:Heap):ap prog F.gO [cellV c,bj m,.int .i64 h] H [] (Is (cellV (xV c m h)) H):=by
 refine fk 40 (fun _=>rfl) rfl (Eq.mpr (xY _ c m h) ?_) H
 unfold tP
 obtain ⟨⟨u1,u2,u3,u4⟩,d1,d2,d3,d4⟩:=hm
 obtain ⟨c1,c2,c3,c4⟩:=hc
 unfold bJ at c1 c2 c3 c4
 have b1:=cg u1 hh;have b2:=cg u2 hh;have b3:=cg u3 hh;have b4:=cg u4 hh
 have e1:=cg d1 hh;have e2:=cg d2 hh;have e3:=cg d3 hh;have e4:=cg d4 hh
 repeat' first
  |refine ⟨_,trivial,fun H' _ _=>xE _ _ (by first
  |exact u1
  |exact u2
  |exact u3
  |exact u4
  |exact d1
  |exact d2
  |exact d3
  |exact d4) hh H',?_⟩
  |exact trivial
  |exact rfl
  |refine aQ ?_ ?_ ?_
  |refine aP ?_ ?_ ?_
  |refine toMax ?_
  |refine toMin ?_
  |refine ⟨rfl,?_⟩
  |refine ⟨trivial,?_⟩
  |refine aH (fun h =>?_) (fun h =>?_)
  |refine aJ (fun h =>?_) (fun h =>?_)
  |refine aI (fun h =>?_) (fun h =>?_)
  |refine aC ?_
  |refine ⟨aB (by omega),?_⟩
  |refine And.intro (by omega) ?_
  |apply And.intro
  |exact aw _
  |exact iEq (by omega)
  |exact aB (by omega)
theorem qd{a b:Cell}(ha:dE a)(hb:dE b):okC (cj a b) ↔ (b.ag.lo<=a.ag.hi/\a.ag.lo<=b.ag.hi)/\(b.ac.lo<=a.ac.hi/\a.ac.lo<=b.ac.hi)/\(b.ab.lo<=a.ab.hi/\a.ab.lo<=b.ab.hi)/\(b.aa.lo<=a.aa.hi/\a.aa.lo<=b.aa.hi):=by
 obtain ⟨a1,a2,a3,a4⟩:=ha
 obtain ⟨b1,b2,b3,b4⟩:=hb
 have key:∀{s t:Span} {m:Int},bJ s m->bJ t m->((kH s t).lo<=(kH s t).hi ↔ t.lo<=s.hi/\s.lo<=t.hi):=by
  intro s t m h1 h2;unfold bJ at h1 h2;simp only[kH];omega
 exact and_congr (key a1 b1) (and_congr (key a2 b2) (and_congr (key a3 b3) (key a4 b4)))
theorem xC(a b:Cell)(ha:dE a)(hb:dE b)(H:Heap):ap prog F.iO [cellV a,cellV b] H [] (Is (.bool (!decide (okC (cj a b)))) H):=by
 refine fk 40 (fun _=>rfl) rfl (Eq.mpr (yf _ a b) ?_) H
 unfold tV
 repeat' first|exact trivial|exact rfl|refine aQ ?_ ?_ ?_|refine aP ?_ ?_ ?_|refine toMax ?_|refine toMin ?_|refine ⟨rfl,?_⟩|refine ⟨trivial,?_⟩|(refine aH (fun h =>?_) (fun h =>?_))|(refine aJ (fun h =>?_) (fun h =>?_))|(refine aI (fun h =>?_) (fun h =>?_))|refine aC ?_|(refine ⟨aB (by omega),?_⟩)|(refine And.intro (by omega) ?_)|apply And.intro|exact aw _|(exact iEq (by omega))|(exact aB (by omega))
 all_goals first|exact bEq (by rw[decide_eq_false (fun o=>by have:=(qd ha hb).1 o;omega)];rfl)|exact bEq (by rw[decide_eq_true ((qd ha hb).2 (by omega))];rfl)
theorem vV(a b:Cell)(H:Heap):ap prog F.io [cellV a,cellV b] H [] (Is (cellV (cj a b)) H):=by
 refine fk 40 (fun _=>rfl) rfl (Eq.mpr (xf _ a b) ?_) H
 unfold ru
 repeat' first|exact trivial|exact rfl|refine aQ ?_ ?_ ?_|refine aP ?_ ?_ ?_|refine toMax ?_|refine toMin ?_|refine ⟨rfl,?_⟩|refine ⟨trivial,?_⟩|(refine aH (fun h =>?_) (fun h =>?_))|(refine aJ (fun h =>?_) (fun h =>?_))|(refine aI (fun h =>?_) (fun h =>?_))|refine aC ?_|(refine ⟨aB (by omega),?_⟩)|(refine And.intro (by omega) ?_)|apply And.intro|exact aw _|(exact iEq (by omega))|(exact aB (by omega))
theorem xB(c:Cell)(m:aO)(h:Int)(hc:dE c)(hm:c7 m)(hh:0<=h/\h<=10000)(H:Heap):ap prog F.eR [cellV c,bj m,.int .i64 h] H [] (Is (cellV (xV c m h)) H):=by
 refine fk 40 (fun _=>rfl) rfl (Eq.mpr (yd _ c m h) ?_) H
 unfold tT
 obtain ⟨⟨u1,u2,u3,u4⟩,d1,d2,d3,d4⟩:=hm
 obtain ⟨c1,c2,c3,c4⟩:=hc
 unfold bJ at c1 c2 c3 c4
 have b1:=cg u1 hh;have b2:=cg u2 hh;have b3:=cg u3 hh;have b4:=cg u4 hh
 have e1:=cg d1 hh;have e2:=cg d2 hh;have e3:=cg d3 hh;have e4:=cg d4 hh
 repeat' first
  |refine ⟨_,trivial,fun H' _ _=>vU _ _ (by first
  |exact u1
  |exact u2
  |exact u3
  |exact u4
  |exact d1
  |exact d2
  |exact d3
  |exact d4) hh H',?_⟩
  |exact trivial
  |exact rfl
  |refine aQ ?_ ?_ ?_
  |refine aP ?_ ?_ ?_
  |refine toMax ?_
  |refine toMin ?_
  |refine ⟨rfl,?_⟩
  |refine ⟨trivial,?_⟩
  |refine aH (fun h =>?_) (fun h =>?_)
  |refine aJ (fun h =>?_) (fun h =>?_)
  |refine aI (fun h =>?_) (fun h =>?_)
  |refine aC ?_
  |refine ⟨aB (by omega),?_⟩
  |refine And.intro (by omega) ?_
  |apply And.intro
  |exact aw _
  |exact iEq (by omega)
  |exact aB (by omega)
def gE(w h t:Int):Prop:=(1<=w/\w<=64)/\(1<=h/\h<=64)/\w*h<=1024/\(0<=t/\t<=10000)
instance (w h t:Int):Decidable (gE w h t):=by unfold gE;infer_instance
def bl(w h t:Int):Int:=if gE w h t then 0 else 6
theorem dz{w h t:Int}:bl w h t=0 ↔ gE w h t:=by unfold bl;split <;> simp_all
theorem bu(w h t:Int)(H:Heap):ap prog F.we [.int .i64 w,.int .i64 h,.int .i64 t] H [] (Is (.int .i64 (bl w h t)) H):=by
 refine fk 40 (fun _=>rfl) rfl (Eq.mpr (AO _ w h t) ?_) H
 unfold yC
 have mb:(1<=w/\w<=64)->(1<=h/\h<=64)->0<=w*h/\w*h<=64*64:=fun h1 h2=>vN (by omega) h1.2 (by omega) h2.2
 repeat' first|(refine ⟨aB (by have:=mb ⟨‹_›,‹_›⟩ ⟨‹_›,‹_›⟩;omega),?_⟩)|(exact iEq (if_pos (by unfold gE;omega)).symm)|(exact iEq (if_neg (by unfold gE;omega)).symm)|exact trivial|exact rfl|refine aQ ?_ ?_ ?_|refine aP ?_ ?_ ?_|refine toMax ?_|refine toMin ?_|refine ⟨rfl,?_⟩|refine ⟨trivial,?_⟩|(refine aH (fun h =>?_) (fun h =>?_))|(refine aJ (fun h =>?_) (fun h =>?_))|(refine aI (fun h =>?_) (fun h =>?_))|refine aC ?_|(refine ⟨aB (by omega),?_⟩)|(refine And.intro (by omega) ?_)|apply And.intro|exact aw _|(exact iEq (by omega))|(exact aB (by omega))
theorem xx(w h t:Int)(H:Heap):ap prog F.iJ [.int .i64 w,.int .i64 h,.int .i64 t] H [] (Is (.int .i64 (bl w h t)) H):=by
 refine fk 40 (fun _=>rfl) rfl (Eq.mpr (xZ _ w h t) ?_) H
 unfold tQ
 have mb:(1<=w/\w<=64)->(1<=h/\h<=64)->0<=w*h/\w*h<=64*64:=fun h1 h2=>vN (by omega) h1.2 (by omega) h2.2
 repeat' first|(refine ⟨aB (by have:=mb ⟨by omega,by omega⟩ ⟨by omega,by omega⟩;omega),?_⟩)|(exact iEq (if_pos (by unfold gE;omega)).symm)|(exact iEq (if_neg (by unfold gE;omega)).symm)|exact trivial|exact rfl|refine aQ ?_ ?_ ?_|refine aP ?_ ?_ ?_|refine toMax ?_|refine toMin ?_|refine ⟨rfl,?_⟩|refine ⟨trivial,?_⟩|(refine aH (fun h =>?_) (fun h =>?_))|(refine aJ (fun h =>?_) (fun h =>?_))|(refine aI (fun h =>?_) (fun h =>?_))|refine aC ?_|(refine ⟨aB (by omega),?_⟩)|(refine And.intro (by omega) ?_)|apply And.intro|exact aw _|(exact iEq (by omega))|(exact aB (by omega))
end
end Go.Proofs.YthcjliffpebjaaaGreat
namespace Go.Proofs.YthcjliffpebjaaaGreat
noncomputable section
def eC{Y:Type}(f:Nat->Y)(n:Nat):List Y:=(List.range n).map f
theorem cw{Y:Type}(f:Nat->Y)(n:Nat):(eC f n).length=n:=by simp[eC]
theorem uf{Y:Type}(f:Nat->Y)(n:Nat):eC f (n+1)=eC f n ++ [f n]:=by simp[eC,List.range_succ]
theorem di{Y:Type}{f:Nat->Y}{n k:Nat}{d:Y}(h:k<n):(eC f n).getD k d=f k:=by simp[eC,List.getD_eq_getElem?_getD,List.getElem?_range h]
abbrev aW(r:Report):Value:=.agg ⟨aq r⟩
def c8(r:Report):Prop:=((0<=r.id/\r.id<=1000000)/\(1<=r.source/\r.source<=3)/\(0<=r.at_/\r.at_<=10000)/\(0<=r.x/\r.x<=63)/\(0<=r.y/\r.y<=63)/\(1<=r.has/\r.has<=15)) /\
 (r.has % 2=1->bJ r.cell.ag 100)/\(r.has / 2 % 2=1->bJ r.cell.ac 400)/\(r.has / 4 % 2=1->bJ r.cell.ab 100)/\(r.has / 8 % 2=1->bJ r.cell.aa 3)
instance (r:Report):Decidable (c8 r):=by unfold c8;infer_instance
def errReport(r:Report):Int:=if c8 r then 0 else 20
theorem fu{r:Report}:errReport r=0 ↔ c8 r:=by unfold errReport;split <;> simp_all
def lB(r:Report):Cell:=⟨if r.has % 2=1 then r.cell.ag else ⟨0,100⟩,if r.has / 2 % 2=1 then r.cell.ac else ⟨0,400⟩,if r.has / 4 % 2=1 then r.cell.ab else ⟨0,100⟩,if r.has / 8 % 2=1 then r.cell.aa else ⟨0,3⟩⟩
theorem gF{r:Report}(h:c8 r):dE (lB r):=by
 obtain ⟨_,h1,h2,h3,h4⟩:=h
 unfold lB
 refine ⟨?_,?_,?_,?_⟩
 ·show bJ (if _ then _ else _) 100
  split
  ·exact h1 ‹_›
  ·unfold bJ;decide
 ·show bJ (if _ then _ else _) 400
  split
  ·exact h2 ‹_›
  ·unfold bJ;decide
 ·show bJ (if _ then _ else _) 100
  split
  ·exact h3 ‹_›
  ·unfold bJ;decide
 ·show bJ (if _ then _ else _) 3
  split
  ·exact h4 ‹_›
  ·unfold bJ;decide
def br(r:Report)(m:aO)(now:Int):Cell:=xV (lB r) m (now-r.at_)
def tG(now:Int):Int:=if 0<=now/\now<=10000 then 0 else 6
def dY(m:aO)(now:Int):Int:=kp (bG m) (tG now)
def ce(f:Nat->Int):Nat->Int
 |0=>0
 |n+1=>if ce f n=0 then f n else ce f n
theorem fg{f:Nat->Int}{n:Nat}(h:ce f n=0)(k:f n=0):ce f (n+1)=0:=by unfold ce;rw[if_pos h,k]
theorem mG{f:Nat->Int}{i n:Nat}(h:ce f i=0)(k:¬ f i=0)(hn:i<n):ce f n=f i:=by
 have key:∀d,ce f (i+1+d)=f i:=by
  intro d
  induction d with
  |zero=>show (if ce f i=0 then f i else ce f i)=f i;rw[if_pos h]
  |succ d ih=>show (if ce f (i+1+d)=0 then f (i+1+d) else ce f (i+1+d))=f i;rw[ih,if_neg k]
 have:=key (n-(i+1))
 rwa [show i+1+(n-(i+1))=n by omega]at this
theorem dX{f:Nat->Int}{n:Nat}(h:ce f n=0):∀i,i<n->f i=0:=by
 induction n with
 |zero=>intro i hi;omega
 |succ n ih =>
  unfold ce at h
  split at h
  ·intro i hi
   rcases Nat.lt_or_ge i n with h1|h1
   ·exact ih (by assumption) i h1
   ·obtain rfl:i=n:=by omega
    exact h
  ·rename_i h1;exact absurd h h1
open Classical in
def i0(l:List Report)(now:Int)(i:Nat):Int :=
 if errReport (l.getD i ad)=0 then (if ∃k,k<i/\(l.getD k ad).id=(l.getD i ad).id then 10 else
  if (l.getD i ad).x≠(l.getD 0 ad).x∨(l.getD i ad).y≠(l.getD 0 ad).y then 1 else if (l.getD i ad).at_ > now then 12 else 0) else errReport (l.getD i ad)
def d9(l:List Report)(m:aO)(now:Int):Int:=kp (dY m now) (if 12<l.length then 2 else ce (i0 l now) l.length)
def yp(l:List Report)(m:aO)(now:Int)(n:Nat):List Cell:=eC (fun i=>br (l.getD i ad) m now) n
abbrev told(l:List Report)(m:aO)(now:Int):List Cell:=yp l m now l.length
def bW(n s i:Nat):Bool:=s.testBit (n-1-i)
def tog(ts:List Cell)(s:Nat):Nat->Option Cell
 |0=>some ay
 |j+1=>match tog ts s j with
  |none=>none
  |some c=>if bW ts.length s j then (if okC (cj c (ts.getD j ak)) then some (cj c (ts.getD j ak)) else none) else some c
def aK(ts:List Cell)(s:Nat):Option Cell:=tog ts s ts.length
def cB(s:Nat):Nat:=((List.range 12).filter fun i=>s.testBit i).length
def agr(ts:List Cell):Nat->Int×List Nat
 |0=>(-1,[])
 |j+1 =>
  let s:=2 ^ ts.length-1-j
  if (cB s:Int)<(agr ts j).1 then agr ts j else if (aK ts s).isSome then (if (agr ts j).1<cB s then (cB s,[s]) else ((agr ts j).1,(agr ts j).2 ++ [s])) else agr ts j
def cp(ts:List Cell):List Nat:=(agr ts (2 ^ ts.length)).2
def dQ(s:Nat):List Value:=[.int .i64 ((s:Nat):Int)]
abbrev aN(b:Bool):List Value:=[.bool b]
def bq(p:Nat×Nat):List Value:=[.int .i64 ((p.1:Nat):Int),.int .i64 ((p.2:Nat):Int)]
def bg(ts:List Cell)(i:Nat):Nat->List (Nat×Nat)
 |0=>[]
 |k+1=>if okC (cj (ts.getD i ak) (ts.getD (i+1+k) ak)) then bg ts i k else bg ts i k ++ [(i,i+1+k)]
def conf(ts:List Cell):Nat->List (Nat×Nat)
 |0=>[]
 |i+1=>conf ts i++bg ts i (ts.length-(i+1))
def ao(ts:List Cell):Nat:=(cp ts).getD 0 0
def aR(ts:List Cell)(n:Nat):List Bool:=eC (fun i=>bW ts.length (ao ts) i) n
end
end Go.Proofs.YthcjliffpebjaaaGreat
