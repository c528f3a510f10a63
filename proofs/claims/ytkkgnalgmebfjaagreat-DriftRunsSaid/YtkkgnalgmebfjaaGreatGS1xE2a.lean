/- Ice: the contracts of the functions of values alone. No condition. -/
import Derived.IntWalk
import Derived.Test.YtkkgnalgmebfjaaGreatGD3xS1g
import Derived.Test.YtkkgnalgmebfjaaGreatGK27xD3g
open Go Go.K
set_option maxRecDepth 1000000
set_option maxHeartbeats 4000000
set_option linter.unusedVariables false
set_option linter.unusedSimpArgs false
namespace Go.Proofs.YtkkgnalgmebfjaaGreat
noncomputable section
attribute [local irreducible] vF
def dr(s:Span)(m:Int):Prop:=0<=s.lo/\s.lo<=m/\s.lo<=s.hi/\s.hi<=m
def ck(c:Cell):Prop:=dr c.ai 100/\dr c.ac 400/\dr c.ad 100/\dr c.ae 3
def eO(x:Ice):Prop:=(0<=x.ai/\x.ai<=100)/\(0<=x.ac/\x.ac<=400)/\(0<=x.ad/\x.ad<=100)/\0<=x.ae/\x.ae<=3
def lG(x:Ice):Prop:=(0<=x.ai/\x.ai<=1000)/\(0<=x.ac/\x.ac<=1000)/\(0<=x.ad/\x.ad<=1000)/\0<=x.ae/\x.ae<=1000
def dZ(m:bu):Prop:=lG m.up/\lG m.down
instance (s:Span) (m:Int):Decidable (dr s m):=by unfold dr;infer_instance
instance (c:Cell):Decidable (ck c):=by unfold ck;infer_instance
instance (x:Ice):Decidable (eO x):=by unfold eO;infer_instance
instance (x:Ice):Decidable (lG x):=by unfold lG;infer_instance
instance (m:bu):Decidable (dZ m):=by unfold dZ;infer_instance
def bS(c:Cell):Int:=if ck c then 0 else 20
def bD(m:bu):Int:=if dZ m then 0 else 6
def aa:Cell:=⟨⟨0,0⟩,⟨0,0⟩,⟨0,0⟩,⟨0,0⟩⟩
def wa(s:Span)(n:Int):Prop:=s.lo<=n/\n<=s.hi
def CE(c:Cell)(x:Ice):Prop:=wa c.ai x.ai/\wa c.ac x.ac/\wa c.ad x.ad/\wa c.ae x.ae
def rS(s t:Span):Prop:=t.lo<=s.lo/\s.hi<=t.hi
def Bm(a b:Cell):Prop:=rS a.ai b.ai/\rS a.ac b.ac/\rS a.ad b.ad/\rS a.ae b.ae
def okC(c:Cell):Prop:=c.ai.lo<=c.ai.hi/\c.ac.lo<=c.ac.hi/\c.ad.lo<=c.ad.hi/\c.ae.lo<=c.ae.hi
instance (s:Span) (n:Int):Decidable (wa s n):=by unfold wa;infer_instance
instance (c:Cell) (x:Ice):Decidable (CE c x):=by unfold CE;infer_instance
instance (s t:Span):Decidable (rS s t):=by unfold rS;infer_instance
instance (a b:Cell):Decidable (Bm a b):=by unfold Bm;infer_instance
instance (c:Cell):Decidable (okC c):=by unfold okC;infer_instance
def chg(rate hours:Int):Int:=(rate*hours+23) / 24
def tU(s:Span)(u d h m:Int):Span:=⟨max (s.lo-chg d h) 0,min (s.hi+chg u h) m⟩
def wj(c:Cell)(m:bu)(h:Int):Cell:=⟨tU c.ai m.up.ai m.down.ai h 100,tU c.ac m.up.ac m.down.ac h 400,tU c.ad m.up.ad m.down.ad h 100,tU c.ae m.up.ae m.down.ae h 3⟩
def cn:Cell:=⟨⟨0,100⟩,⟨0,400⟩,⟨0,100⟩,⟨0,3⟩⟩
def bV(c:Cell)(m:bu)(h:Int):Cell×Int :=
 if cU (bS c) (bD m)=0 then (if 0<=h/\h<=10000 then (wj c m h,0) else (aa,6)) else (aa,cU (bS c) (bD m))
theorem w64{n:Int}(h : -9223372036854775808<=n/\n<=9223372036854775807):IntKind.wrap .i64 n=n:=IntWalk.i64_in n h
theorem v64{n:Int}(h : -9223372036854775808<=n/\n<=9223372036854775807):(Value.int .i64 (IntKind.wrap .i64 n)) = .int .i64 n:=by rw[w64 h]
theorem w6{a b A B:Int}(h1:0<=a)(h2:a<=A)(h3:0<=b)(h4:b<=B):0<=a*b/\a*b<=A*B :=
 ⟨Int.mul_nonneg h1 h3,Int.mul_le_mul h2 h4 h3 (Int.le_trans h1 h2)⟩
theorem lR{c:Cell}(h:ck c):bS c=0:=if_pos h
theorem lS{c:Cell}(h:¬ ck c):bS c=20:=if_neg h
theorem kx{c:bu}(h:dZ c):bD c=0:=if_pos h
theorem ky{c:bu}(h:¬ dZ c):bD c=6:=if_neg h
theorem ga{c:Cell}:bS c=0 ↔ ck c:=by unfold bS;split <;> simp_all
theorem ie{c:bu}:bD c=0 ↔ dZ c:=by unfold bD;split <;> simp_all
theorem nz(c:Cell)(H:Heap):am prog F.jy [cellV c] H [] (Is (.int .i64 (bS c)) H):=by
 refine iu 40 (fun _=>rfl) rfl (Eq.mpr (t8 _ c) ?_) H
 unfold nZ
 simp only[decide_eq_true_eq,decide_eq_false_iff_not,Bool.not_eq_true',Bool.not_eq_false']
 repeat' (first|apply And.intro|intro _)
 all_goals first
  |exact du (lS (by unfold ck dr;omega)).symm
  |exact du (lR (by unfold ck dr;omega)).symm
theorem lO(m:bu)(H:Heap):am prog F.nB [gj m] H [] (Is (.int .i64 (bD m)) H):=by
 refine iu 40 (fun _=>rfl) rfl (Eq.mpr (sP _ m) ?_) H
 unfold lX
 simp only[decide_eq_true_eq,decide_eq_false_iff_not,Bool.not_eq_true',Bool.not_eq_false']
 repeat' (first|apply And.intro|intro _)
 all_goals first
  |exact du (ky (by unfold dZ lG;omega)).symm
  |exact du (kx (by unfold dZ lG;omega)).symm
theorem f0(rate hours:Int)(h1:0<=rate/\rate<=1000)(h2:0<=hours/\hours<=10000)(H:Heap):am prog F.tE [.int .i64 rate,.int .i64 hours] H [] (Is (.int .i64 (chg rate hours)) H):=by
 refine iu 40 (fun _=>rfl) rfl (Eq.mpr (Aj _ rate hours) ?_) H
 have hb:=w6 h1.1 h1.2 h2.1 h2.2
 have ht:Int.tdiv (rate*hours+24-1) 24=(rate*hours+24-1) / 24:=Int.tdiv_eq_ediv_of_nonneg (by omega)
 unfold vi
 refine ⟨v64 (by omega),v64 (by omega),v64 (by omega),v64 (by rw[ht];omega),du ?_⟩
 rw[ht];unfold chg;congr 1;omega
theorem Cc{b:Bool}(h:b=true):(Value.bool b) = .bool true:=by rw[h]
theorem vne{e:Int}(h:¬ e=0):(Value.bool (e != 0)) = .bool true:=Cc (by simp[h])
theorem wA{a b c d e f g i n:Int}{r:Cell×Int}(h:r=(⟨⟨a,b⟩,⟨c,d⟩,⟨e,f⟩,⟨g,i⟩⟩,n)) :
  (Value.tuple #[.agg #[.int .i64 a,.int .i64 b,.int .i64 c,.int .i64 d,.int .i64 e,.int .i64 f,.int .i64 g,.int .i64 i],.int .i64 n]) = .tuple #[cellV r.1,.int .i64 r.2]:=by rw[h]
theorem BG{c:Cell}{m:bu}{h:Int}(k:¬ bS c=0):bV c m h=(aa,bS c):=by unfold bV;rw[dl k,if_neg k]
theorem BF{c:Cell}{m:bu}{h:Int}(k:bS c=0)(l:¬ bD m=0):bV c m h=(aa,bD m):=by unfold bV;rw[bH k,if_neg l]
theorem yo{c:Cell}{m:bu}{h:Int}(k:bS c=0)(l:bD m=0)(q:¬ (0<=h/\h<=10000)):bV c m h=(aa,6):=by unfold bV;rw[bH k,if_pos l,if_neg q]
theorem BE{c:Cell}{m:bu}{h:Int}(k:bS c=0)(l:bD m=0)(q:0<=h/\h<=10000):bV c m h=(wj c m h,0):=by unfold bV;rw[bH k,if_pos l,if_pos q]
theorem ij{r h:Int}(h1:0<=r/\r<=1000)(h2:0<=h/\h<=10000):0<=chg r h/\chg r h<=500000:=by
 have:=w6 h1.1 h1.2 h2.1 h2.2
 unfold chg;omega
theorem C8(c:Cell)(m:bu)(h:Int)(H:Heap):am prog F.zK [cellV c,gj m,.int .i64 h] H [] (Is (.tuple #[cellV (bV c m h).1,.int .i64 (bV c m h).2]) H):=by
 refine iu 40 (fun _=>rfl) rfl (Eq.mpr (Di _ c m h) ?_) H
 unfold CO
 refine ⟨_,trivial,fun H' _ _=>nz c H',_,trivial,fun H' _ _=>lO m H',?_⟩
 simp only[decide_eq_true_eq,decide_eq_false_iff_not,Bool.not_eq_true',Bool.not_eq_false',bne_iff_ne,ne_eq,bne_eq_false_iff_eq]
 refine ⟨fun h=>⟨vne h,wA (BG h)⟩,fun h0=>⟨fun h=>⟨vne h,wA (BF h0 h)⟩,fun h1=>⟨fun h2=>⟨fun h3=>wA (yo h0 h1 (by omega)),fun h3 =>?_⟩,fun h2=>wA (yo h0 h1 (by omega))⟩⟩⟩
 obtain ⟨⟨u1,u2,u3,u4⟩,d1,d2,d3,d4⟩:=ie.1 h1
 obtain ⟨c1,c2,c3,c4⟩:=ga.1 h0
 unfold dr at c1 c2 c3 c4
 have bd:=fun (r:Int) (hr:0<=r/\r<=1000)=>ij hr ⟨h2,h3⟩
 have b1:=bd _ u1;have b2:=bd _ u2;have b3:=bd _ u3;have b4:=bd _ u4
 have e1:=bd _ d1;have e2:=bd _ d2;have e3:=bd _ d3;have e4:=bd _ d4
 refine ⟨_,trivial,fun H' _ _=>f0 _ _ d1 ⟨h2,h3⟩ H',v64 (by omega),max (c.ai.lo-chg m.down.ai h) 0,du (by split <;> omega),_,trivial,fun H' _ _=>f0 _ _ u1 ⟨h2,h3⟩ H',v64 (by omega),min (c.ai.hi+chg m.up.ai h) 100,du (by split <;> omega),
  _,trivial,fun H' _ _=>f0 _ _ d2 ⟨h2,h3⟩ H',v64 (by omega),max (c.ac.lo-chg m.down.ac h) 0,du (by split <;> omega),_,trivial,fun H' _ _=>f0 _ _ u2 ⟨h2,h3⟩ H',v64 (by omega),min (c.ac.hi+chg m.up.ac h) 400,du (by split <;> omega),
  _,trivial,fun H' _ _=>f0 _ _ d3 ⟨h2,h3⟩ H',v64 (by omega),max (c.ad.lo-chg m.down.ad h) 0,du (by split <;> omega),_,trivial,fun H' _ _=>f0 _ _ u3 ⟨h2,h3⟩ H',v64 (by omega),min (c.ad.hi+chg m.up.ad h) 100,du (by split <;> omega),
  _,trivial,fun H' _ _=>f0 _ _ d4 ⟨h2,h3⟩ H',v64 (by omega),max (c.ae.lo-chg m.down.ae h) 0,du (by split <;> omega),_,trivial,fun H' _ _=>f0 _ _ u4 ⟨h2,h3⟩ H',v64 (by omega),min (c.ae.hi+chg m.up.ae h) 3,du (by split <;> omega),?_⟩
 exact wA (BE h0 h1 ⟨h2,h3⟩)
def cN:Ice:=⟨0,0,0,0⟩
def errs{α:Type}(e:α->Int):List α->Int
 | [] =>0
 |x :: r=>if e x=0 then errs e r else e x
def lV(sp:Value)(c:Cell):Prop :=
 (((decide ((c.ai.lo:Int)<0))=true->(nI 20:Value)=sp)/\((decide ((c.ai.lo:Int)<0))=false->(((decide ((100:Int)<c.ai.hi))=true->(nI 20:Value)=sp)/\((decide ((100:Int)<c.ai.hi))=false->(((decide ((c.ai.hi:Int)<c.ai.lo))=true->(nI 20:Value)=sp)/\((decide ((c.ai.hi:Int)<c.ai.lo))=false->(((decide ((c.ac.lo:Int)<0))=true->(nI 20:Value)=sp)/\((decide ((c.ac.lo:Int)<0))=false->(((decide ((400:Int)<c.ac.hi))=true->(nI 20:Value)=sp)/\((decide ((400:Int)<c.ac.hi))=false->(((decide ((c.ac.hi:Int)<c.ac.lo))=true->(nI 20:Value)=sp)/\((decide ((c.ac.hi:Int)<c.ac.lo))=false->(((decide ((c.ad.lo:Int)<0))=true->(nI 20:Value)=sp)/\((decide ((c.ad.lo:Int)<0))=false->(((decide ((100:Int)<c.ad.hi))=true->(nI 20:Value)=sp)/\((decide ((100:Int)<c.ad.hi))=false->(((decide ((c.ad.hi:Int)<c.ad.lo))=true->(nI 20:Value)=sp)/\((decide ((c.ad.hi:Int)<c.ad.lo))=false->(((decide ((c.ae.lo:Int)<0))=true->(nI 20:Value)=sp)/\((decide ((c.ae.lo:Int)<0))=false->(((decide ((3:Int)<c.ae.hi))=true->(nI 20:Value)=sp)/\((decide ((3:Int)<c.ae.hi))=false->(((decide ((c.ae.hi:Int)<c.ae.lo))=true->(nI 20:Value)=sp)/\((decide ((c.ae.hi:Int)<c.ae.lo))=false->(nI 0:Value)=sp))))))))))))))))))))))))
theorem sN(sp:Value)(c:Cell):vF prog msk (dm 0) 100000 true 40 true 164 [.agg #[nI c.ai.lo,nI c.ai.hi,nI c.ac.lo,nI c.ac.hi,nI c.ad.lo,nI c.ad.hi,nI c.ae.lo,nI c.ae.hi]] ⟨0,.leaf⟩ (some [])
 (.go 25 (.aO (.auto) (.go 13 (.aO (.auto) (.go 6 (.fork (.auto) (.go 28 (.aO (.auto) (.go 18 (.aO (.auto) (.go 6 (.fork (.auto) (.go 31 (.aO (.auto) (.go 15 (.aO (.auto) (.go 6 (.fork (.auto) (.go 31 (.aO (.auto) (.go 18 (.aO (.auto) (.go 6 (.fork (.auto) (.auto)))))))))))))))))))))))))
 (fun v _ _=>v=sp)=lV sp c:=by kernel_rfl
def kH(sp:Value)(m:bu):Prop :=
 (((decide ((m.up.ai:Int)<0))=true->(nI 6:Value)=sp)/\((decide ((m.up.ai:Int)<0))=false->(((decide ((1000:Int)<m.up.ai))=true->(nI 6:Value)=sp)/\((decide ((1000:Int)<m.up.ai))=false->(((decide ((m.down.ai:Int)<0))=true->(nI 6:Value)=sp)/\((decide ((m.down.ai:Int)<0))=false->(((decide ((1000:Int)<m.down.ai))=true->(nI 6:Value)=sp)/\((decide ((1000:Int)<m.down.ai))=false->(((decide ((m.up.ac:Int)<0))=true->(nI 6:Value)=sp)/\((decide ((m.up.ac:Int)<0))=false->(((decide ((1000:Int)<m.up.ac))=true->(nI 6:Value)=sp)/\((decide ((1000:Int)<m.up.ac))=false->(((decide ((m.down.ac:Int)<0))=true->(nI 6:Value)=sp)/\((decide ((m.down.ac:Int)<0))=false->(((decide ((1000:Int)<m.down.ac))=true->(nI 6:Value)=sp)/\((decide ((1000:Int)<m.down.ac))=false->(((decide ((m.up.ad:Int)<0))=true->(nI 6:Value)=sp)/\((decide ((m.up.ad:Int)<0))=false->(((decide ((1000:Int)<m.up.ad))=true->(nI 6:Value)=sp)/\((decide ((1000:Int)<m.up.ad))=false->(((decide ((m.down.ad:Int)<0))=true->(nI 6:Value)=sp)/\((decide ((m.down.ad:Int)<0))=false->(((decide ((1000:Int)<m.down.ad))=true->(nI 6:Value)=sp)/\((decide ((1000:Int)<m.down.ad))=false->(((decide ((m.up.ae:Int)<0))=true->(nI 6:Value)=sp)/\((decide ((m.up.ae:Int)<0))=false->(((decide ((1000:Int)<m.up.ae))=true->(nI 6:Value)=sp)/\((decide ((1000:Int)<m.up.ae))=false->(((decide ((m.down.ae:Int)<0))=true->(nI 6:Value)=sp)/\((decide ((m.down.ae:Int)<0))=false->(((decide ((1000:Int)<m.down.ae))=true->(nI 6:Value)=sp)/\((decide ((1000:Int)<m.down.ae))=false->(nI 0:Value)=sp))))))))))))))))))))))))))))))))
theorem qz(sp:Value)(m:bu):vF prog msk (dm 0) 100000 true 40 true 73 [.agg #[nI m.up.ai,nI m.up.ac,nI m.up.ad,nI m.up.ae,nI m.down.ai,nI m.down.ac,nI m.down.ad,nI m.down.ae]] ⟨0,.leaf⟩ (some [])
 (.go 36 (.aO (.auto) (.go 3 (.aO (.auto) (.go 3 (.aO (.auto) (.go 2 (.fork (.auto) (.go 42 (.aO (.auto) (.go 3 (.aO (.auto) (.go 3 (.aO (.auto) (.go 2 (.fork (.auto) (.go 48 (.aO (.auto) (.go 3 (.aO (.auto) (.go 3 (.aO (.auto) (.go 2 (.fork (.auto) (.go 48 (.aO (.auto) (.go 3 (.aO (.auto) (.go 3 (.aO (.auto) (.go 2 (.fork (.auto) (.auto)))))))))))))))))))))))))))))))))
 (fun v _ _=>v=sp)=kH sp m:=by kernel_rfl
def sK(sp:Value)(rate hours:Int):Prop :=
 ((nI (IntKind.wrap .i64 (rate*hours)):Value)=nI (rate*hours)/\((nI (IntKind.wrap .i64 (Int.tdiv (rate*hours) 24)):Value)=nI (Int.tdiv (rate*hours) 24)/\((nI (IntKind.wrap .i64 ((Int.tdiv (rate*hours) 24)*24)):Value)=nI ((Int.tdiv (rate*hours) 24)*24)/\((nI (IntKind.wrap .i64 (rate*hours)):Value)=nI (rate*hours)/\(((decide ((((Int.tdiv (rate*hours) 24)*24):Int)<(rate*hours)))=true->((nI (IntKind.wrap .i64 ((Int.tdiv (rate*hours) 24)+1)):Value)=nI ((Int.tdiv (rate*hours) 24)+1)/\(nI ((Int.tdiv (rate*hours) 24)+1):Value)=sp))/\((decide ((((Int.tdiv (rate*hours) 24)*24):Int)<(rate*hours)))=false->(nI (Int.tdiv (rate*hours) 24):Value)=sp))))))
theorem yV(sp:Value)(rate hours:Int):vF prog msk (dm 0) 100000 true 40 true 134 [nI rate,nI hours] ⟨0,.leaf⟩ (some [])
 (.go 3 (.slot 8 (nI (rate*hours)) (.go 0 (.slot 9 (nI (Int.tdiv (rate*hours) 24)) (.go 2 (.slot 11 (nI ((Int.tdiv (rate*hours) 24)*24)) (.go 2 (.slot 14 (nI (rate*hours)) (.go 0 (.fork (.go 1 (.slot 17 (nI ((Int.tdiv (rate*hours) 24)+1)) (.auto))) (.auto)))))))))))
 (fun v _ _=>v=sp)=sK sp rate hours:=by kernel_rfl
theorem rH(c:Cell)(H:Heap):am prog F.gU [cellV c] H [] (Is (.int .i64 (bS c)) H):=by
 refine iu 40 (fun _=>rfl) rfl (Eq.mpr (sN _ c) ?_) H
 unfold lV
 simp only[decide_eq_true_eq,decide_eq_false_iff_not,Bool.not_eq_true',Bool.not_eq_false']
 repeat' (first|apply And.intro|intro _)
 all_goals first
  |exact du (lS (by unfold ck dr;omega)).symm
  |exact du (lR (by unfold ck dr;omega)).symm
theorem cy(x:Ice):(bM x).length=4:=rfl
theorem drop_at{α:Type}{xs:List α}{d:α}{k:Nat}(hk:k<xs.length):xs.drop k=xs.getD k d :: xs.drop (k+1):=by
 rw[List.drop_eq_getElem_cons hk,List.getD_eq_getElem?_getD,List.getElem?_eq_getElem hk];rfl
theorem take_at{α:Type}{xs:List α}{d:α}{k:Nat}(hk:k<xs.length):xs.take (k+1)=xs.take k ++ [xs.getD k d]:=by
 rw[List.take_add_one,List.getElem?_eq_getElem hk,List.getD_eq_getElem?_getD,List.getElem?_eq_getElem hk];rfl
theorem uT{α:Type}{e:α->Int}{xs:List α}{d:α}{k:Nat}(hk:k<xs.length):errs e (xs.drop k)=if e (xs.getD k d)=0 then errs e (xs.drop (k+1)) else e (xs.getD k d):=by
 rw[drop_at (d:=d) hk];rfl
theorem pj{α:Type}{e:α->Int}:∀{xs:List α},errs e xs=0->∀x∈xs,e x=0
 | [],_,x,h=>by cases h
 |y :: r,he,x,h=>by
  unfold errs at he
  split at he
  ·rename_i h0
   rcases List.mem_cons.1 h with rfl|h
   ·exact h0
   ·exact pj he x h
  ·rename_i h0;exact absurd he h0
def vf(sp:Value)(c:Cell)(m:bu)(h:Int):Prop :=
 (∃r0:Int,((True)/\(∀H':Heap,H'.length=4->(True)->am prog 134 [nI m.down.ai,nI h] H' [] (Is (nI r0) H'))/\((nI (IntKind.wrap .i64 (c.ai.lo-r0)):Value)=nI (c.ai.lo-r0)/\(∃r1:Int,((True)/\(∀H':Heap,H'.length=4->(True)->am prog 134 [nI m.up.ai,nI h] H' [] (Is (nI r1) H'))/\((nI (IntKind.wrap .i64 (c.ai.hi+r1)):Value)=nI (c.ai.hi+r1)/\(true=true/\((decide (((c.ai.lo-r0):Int)<0))=true->(∃x2':Int,(((decide (((c.ai.lo-r0):Int)<0))=true/\(x2':Int)=0/\True)∨((decide (((c.ai.lo-r0):Int)<0))=false/\(x2':Int)=(c.ai.lo-r0)/\True))/\true=true/\((.pointer (some ⟨3,0,none⟩):Value) = .pointer (some ⟨3,0,none⟩)/\(nI 0:Value)=nI 0/\(.pointer (some ⟨2,0,none⟩):Value) = .pointer (some ⟨2,0,none⟩)/\(.pointer (some ⟨1,0,none⟩):Value) = .pointer (some ⟨1,0,none⟩)/\(.pointer (some ⟨0,0,none⟩):Value) = .pointer (some ⟨0,0,none⟩)/\(nI h:Value)=nI h/\True)/\((some (.cells true 0 [nI 0,nI (c.ai.hi+r1)]:ab)=some (.cells true 0 [nI x2',nI (c.ai.hi+r1)]:ab)/\ar 4 (.cells true 0 [nI x2',nI (c.ai.hi+r1)]:ab)=true)/\True)/\(True)/\(True)))/\((decide (((c.ai.lo-r0):Int)<0))=false->(∃x2':Int,(((decide (((c.ai.lo-r0):Int)<0))=true/\(x2':Int)=0/\True)∨((decide (((c.ai.lo-r0):Int)<0))=false/\(x2':Int)=(c.ai.lo-r0)/\True))/\true=true/\((.pointer (some ⟨3,0,none⟩):Value) = .pointer (some ⟨3,0,none⟩)/\(nI 0:Value)=nI 0/\(.pointer (some ⟨2,0,none⟩):Value) = .pointer (some ⟨2,0,none⟩)/\(.pointer (some ⟨1,0,none⟩):Value) = .pointer (some ⟨1,0,none⟩)/\(.pointer (some ⟨0,0,none⟩):Value) = .pointer (some ⟨0,0,none⟩)/\(nI h:Value)=nI h/\True)/\((some (.cells true 0 [nI (c.ai.lo-r0),nI (c.ai.hi+r1)]:ab)=some (.cells true 0 [nI x2',nI (c.ai.hi+r1)]:ab)/\ar 4 (.cells true 0 [nI x2',nI (c.ai.hi+r1)]:ab)=true)/\True)/\(True)/\(True)))/\∀x2:Int,(((decide (((c.ai.lo-r0):Int)<0))=true/\(x2:Int)=0/\True)∨((decide (((c.ai.lo-r0):Int)<0))=false/\(x2:Int)=(c.ai.lo-r0)/\True))->(true=true/\((decide ((100:Int)<(c.ai.hi+r1)))=true->(∃x3':Int,(((decide ((100:Int)<(c.ai.hi+r1)))=true/\(x3':Int)=100/\True)∨((decide ((100:Int)<(c.ai.hi+r1)))=false/\(x3':Int)=(c.ai.hi+r1)/\True))/\true=true/\((.pointer (some ⟨3,0,none⟩):Value) = .pointer (some ⟨3,0,none⟩)/\(nI 0:Value)=nI 0/\(.pointer (some ⟨2,0,none⟩):Value) = .pointer (some ⟨2,0,none⟩)/\(.pointer (some ⟨1,0,none⟩):Value) = .pointer (some ⟨1,0,none⟩)/\(.pointer (some ⟨0,0,none⟩):Value) = .pointer (some ⟨0,0,none⟩)/\(nI h:Value)=nI h/\True)/\((some (.cells true 0 [nI x2,nI 100]:ab)=some (.cells true 0 [nI x2,nI x3']:ab)/\ar 4 (.cells true 0 [nI x2,nI x3']:ab)=true)/\True)/\(True)/\(True)))/\((decide ((100:Int)<(c.ai.hi+r1)))=false->(∃x3':Int,(((decide ((100:Int)<(c.ai.hi+r1)))=true/\(x3':Int)=100/\True)∨((decide ((100:Int)<(c.ai.hi+r1)))=false/\(x3':Int)=(c.ai.hi+r1)/\True))/\true=true/\((.pointer (some ⟨3,0,none⟩):Value) = .pointer (some ⟨3,0,none⟩)/\(nI 0:Value)=nI 0/\(.pointer (some ⟨2,0,none⟩):Value) = .pointer (some ⟨2,0,none⟩)/\(.pointer (some ⟨1,0,none⟩):Value) = .pointer (some ⟨1,0,none⟩)/\(.pointer (some ⟨0,0,none⟩):Value) = .pointer (some ⟨0,0,none⟩)/\(nI h:Value)=nI h/\True)/\((some (.cells true 0 [nI x2,nI (c.ai.hi+r1)]:ab)=some (.cells true 0 [nI x2,nI x3']:ab)/\ar 4 (.cells true 0 [nI x2,nI x3']:ab)=true)/\True)/\(True)/\(True)))/\∀x3:Int,(((decide ((100:Int)<(c.ai.hi+r1)))=true/\(x3:Int)=100/\True)∨((decide ((100:Int)<(c.ai.hi+r1)))=false/\(x3:Int)=(c.ai.hi+r1)/\True))->(∃r4:Int,((True)/\(∀H':Heap,H'.length=5->(True)->am prog 134 [nI m.down.ac,nI h] H' [] (Is (nI r4) H'))/\((nI (IntKind.wrap .i64 (c.ac.lo-r4)):Value)=nI (c.ac.lo-r4)/\(∃r5:Int,((True)/\(∀H':Heap,H'.length=5->(True)->am prog 134 [nI m.up.ac,nI h] H' [] (Is (nI r5) H'))/\((nI (IntKind.wrap .i64 (c.ac.hi+r5)):Value)=nI (c.ac.hi+r5)/\(true=true/\((decide (((c.ac.lo-r4):Int)<0))=true->(∃x6':Int,(((decide (((c.ac.lo-r4):Int)<0))=true/\(x6':Int)=0/\True)∨((decide (((c.ac.lo-r4):Int)<0))=false/\(x6':Int)=(c.ac.lo-r4)/\True))/\true=true/\((.pointer (some ⟨4,0,none⟩):Value) = .pointer (some ⟨4,0,none⟩)/\(nI 1:Value)=nI 1/\(.pointer (some ⟨2,0,none⟩):Value) = .pointer (some ⟨2,0,none⟩)/\(.pointer (some ⟨1,0,none⟩):Value) = .pointer (some ⟨1,0,none⟩)/\(.pointer (some ⟨0,0,none⟩):Value) = .pointer (some ⟨0,0,none⟩)/\(nI h:Value)=nI h/\True)/\((some (.cells true 0 [nI 0,nI (c.ac.hi+r5)]:ab)=some (.cells true 0 [nI x6',nI (c.ac.hi+r5)]:ab)/\ar 5 (.cells true 0 [nI x6',nI (c.ac.hi+r5)]:ab)=true)/\True)/\(True)/\(True)))/\((decide (((c.ac.lo-r4):Int)<0))=false->(∃x6':Int,(((decide (((c.ac.lo-r4):Int)<0))=true/\(x6':Int)=0/\True)∨((decide (((c.ac.lo-r4):Int)<0))=false/\(x6':Int)=(c.ac.lo-r4)/\True))/\true=true/\((.pointer (some ⟨4,0,none⟩):Value) = .pointer (some ⟨4,0,none⟩)/\(nI 1:Value)=nI 1/\(.pointer (some ⟨2,0,none⟩):Value) = .pointer (some ⟨2,0,none⟩)/\(.pointer (some ⟨1,0,none⟩):Value) = .pointer (some ⟨1,0,none⟩)/\(.pointer (some ⟨0,0,none⟩):Value) = .pointer (some ⟨0,0,none⟩)/\(nI h:Value)=nI h/\True)/\((some (.cells true 0 [nI (c.ac.lo-r4),nI (c.ac.hi+r5)]:ab)=some (.cells true 0 [nI x6',nI (c.ac.hi+r5)]:ab)/\ar 5 (.cells true 0 [nI x6',nI (c.ac.hi+r5)]:ab)=true)/\True)/\(True)/\(True)))/\∀x6:Int,(((decide (((c.ac.lo-r4):Int)<0))=true/\(x6:Int)=0/\True)∨((decide (((c.ac.lo-r4):Int)<0))=false/\(x6:Int)=(c.ac.lo-r4)/\True))->(true=true/\((decide ((400:Int)<(c.ac.hi+r5)))=true->(∃x7':Int,(((decide ((400:Int)<(c.ac.hi+r5)))=true/\(x7':Int)=400/\True)∨((decide ((400:Int)<(c.ac.hi+r5)))=false/\(x7':Int)=(c.ac.hi+r5)/\True))/\true=true/\((.pointer (some ⟨4,0,none⟩):Value) = .pointer (some ⟨4,0,none⟩)/\(nI 1:Value)=nI 1/\(.pointer (some ⟨2,0,none⟩):Value) = .pointer (some ⟨2,0,none⟩)/\(.pointer (some ⟨1,0,none⟩):Value) = .pointer (some ⟨1,0,none⟩)/\(.pointer (some ⟨0,0,none⟩):Value) = .pointer (some ⟨0,0,none⟩)/\(nI h:Value)=nI h/\True)/\((some (.cells true 0 [nI x6,nI 400]:ab)=some (.cells true 0 [nI x6,nI x7']:ab)/\ar 5 (.cells true 0 [nI x6,nI x7']:ab)=true)/\True)/\(True)/\(True)))/\((decide ((400:Int)<(c.ac.hi+r5)))=false->(∃x7':Int,(((decide ((400:Int)<(c.ac.hi+r5)))=true/\(x7':Int)=400/\True)∨((decide ((400:Int)<(c.ac.hi+r5)))=false/\(x7':Int)=(c.ac.hi+r5)/\True))/\true=true/\((.pointer (some ⟨4,0,none⟩):Value) = .pointer (some ⟨4,0,none⟩)/\(nI 1:Value)=nI 1/\(.pointer (some ⟨2,0,none⟩):Value) = .pointer (some ⟨2,0,none⟩)/\(.pointer (some ⟨1,0,none⟩):Value) = .pointer (some ⟨1,0,none⟩)/\(.pointer (some ⟨0,0,none⟩):Value) = .pointer (some ⟨0,0,none⟩)/\(nI h:Value)=nI h/\True)/\((some (.cells true 0 [nI x6,nI (c.ac.hi+r5)]:ab)=some (.cells true 0 [nI x6,nI x7']:ab)/\ar 5 (.cells true 0 [nI x6,nI x7']:ab)=true)/\True)/\(True)/\(True)))/\∀x7:Int,(((decide ((400:Int)<(c.ac.hi+r5)))=true/\(x7:Int)=400/\True)∨((decide ((400:Int)<(c.ac.hi+r5)))=false/\(x7:Int)=(c.ac.hi+r5)/\True))->(∃r8:Int,((True)/\(∀H':Heap,H'.length=6->(True)->am prog 134 [nI m.down.ad,nI h] H' [] (Is (nI r8) H'))/\((nI (IntKind.wrap .i64 (c.ad.lo-r8)):Value)=nI (c.ad.lo-r8)/\(∃r9:Int,((True)/\(∀H':Heap,H'.length=6->(True)->am prog 134 [nI m.up.ad,nI h] H' [] (Is (nI r9) H'))/\((nI (IntKind.wrap .i64 (c.ad.hi+r9)):Value)=nI (c.ad.hi+r9)/\(true=true/\((decide (((c.ad.lo-r8):Int)<0))=true->(∃eA:Int,(((decide (((c.ad.lo-r8):Int)<0))=true/\(eA:Int)=0/\True)∨((decide (((c.ad.lo-r8):Int)<0))=false/\(eA:Int)=(c.ad.lo-r8)/\True))/\true=true/\((.pointer (some ⟨5,0,none⟩):Value) = .pointer (some ⟨5,0,none⟩)/\(nI 2:Value)=nI 2/\(.pointer (some ⟨2,0,none⟩):Value) = .pointer (some ⟨2,0,none⟩)/\(.pointer (some ⟨1,0,none⟩):Value) = .pointer (some ⟨1,0,none⟩)/\(.pointer (some ⟨0,0,none⟩):Value) = .pointer (some ⟨0,0,none⟩)/\(nI h:Value)=nI h/\True)/\((some (.cells true 0 [nI 0,nI (c.ad.hi+r9)]:ab)=some (.cells true 0 [nI eA,nI (c.ad.hi+r9)]:ab)/\ar 6 (.cells true 0 [nI eA,nI (c.ad.hi+r9)]:ab)=true)/\True)/\(True)/\(True)))/\((decide (((c.ad.lo-r8):Int)<0))=false->(∃eA:Int,(((decide (((c.ad.lo-r8):Int)<0))=true/\(eA:Int)=0/\True)∨((decide (((c.ad.lo-r8):Int)<0))=false/\(eA:Int)=(c.ad.lo-r8)/\True))/\true=true/\((.pointer (some ⟨5,0,none⟩):Value) = .pointer (some ⟨5,0,none⟩)/\(nI 2:Value)=nI 2/\(.pointer (some ⟨2,0,none⟩):Value) = .pointer (some ⟨2,0,none⟩)/\(.pointer (some ⟨1,0,none⟩):Value) = .pointer (some ⟨1,0,none⟩)/\(.pointer (some ⟨0,0,none⟩):Value) = .pointer (some ⟨0,0,none⟩)/\(nI h:Value)=nI h/\True)/\((some (.cells true 0 [nI (c.ad.lo-r8),nI (c.ad.hi+r9)]:ab)=some (.cells true 0 [nI eA,nI (c.ad.hi+r9)]:ab)/\ar 6 (.cells true 0 [nI eA,nI (c.ad.hi+r9)]:ab)=true)/\True)/\(True)/\(True)))/\∀x10:Int,(((decide (((c.ad.lo-r8):Int)<0))=true/\(x10:Int)=0/\True)∨((decide (((c.ad.lo-r8):Int)<0))=false/\(x10:Int)=(c.ad.lo-r8)/\True))->(true=true/\((decide ((100:Int)<(c.ad.hi+r9)))=true->(∃px:Int,(((decide ((100:Int)<(c.ad.hi+r9)))=true/\(px:Int)=100/\True)∨((decide ((100:Int)<(c.ad.hi+r9)))=false/\(px:Int)=(c.ad.hi+r9)/\True))/\true=true/\((.pointer (some ⟨5,0,none⟩):Value) = .pointer (some ⟨5,0,none⟩)/\(nI 2:Value)=nI 2/\(.pointer (some ⟨2,0,none⟩):Value) = .pointer (some ⟨2,0,none⟩)/\(.pointer (some ⟨1,0,none⟩):Value) = .pointer (some ⟨1,0,none⟩)/\(.pointer (some ⟨0,0,none⟩):Value) = .pointer (some ⟨0,0,none⟩)/\(nI h:Value)=nI h/\True)/\((some (.cells true 0 [nI x10,nI 100]:ab)=some (.cells true 0 [nI x10,nI px]:ab)/\ar 6 (.cells true 0 [nI x10,nI px]:ab)=true)/\True)/\(True)/\(True)))/\((decide ((100:Int)<(c.ad.hi+r9)))=false->(∃px:Int,(((decide ((100:Int)<(c.ad.hi+r9)))=true/\(px:Int)=100/\True)∨((decide ((100:Int)<(c.ad.hi+r9)))=false/\(px:Int)=(c.ad.hi+r9)/\True))/\true=true/\((.pointer (some ⟨5,0,none⟩):Value) = .pointer (some ⟨5,0,none⟩)/\(nI 2:Value)=nI 2/\(.pointer (some ⟨2,0,none⟩):Value) = .pointer (some ⟨2,0,none⟩)/\(.pointer (some ⟨1,0,none⟩):Value) = .pointer (some ⟨1,0,none⟩)/\(.pointer (some ⟨0,0,none⟩):Value) = .pointer (some ⟨0,0,none⟩)/\(nI h:Value)=nI h/\True)/\((some (.cells true 0 [nI x10,nI (c.ad.hi+r9)]:ab)=some (.cells true 0 [nI x10,nI px]:ab)/\ar 6 (.cells true 0 [nI x10,nI px]:ab)=true)/\True)/\(True)/\(True)))/\∀x11:Int,(((decide ((100:Int)<(c.ad.hi+r9)))=true/\(x11:Int)=100/\True)∨((decide ((100:Int)<(c.ad.hi+r9)))=false/\(x11:Int)=(c.ad.hi+r9)/\True))->(∃r12:Int,((True)/\(∀H':Heap,H'.length=7->(True)->am prog 134 [nI m.down.ae,nI h] H' [] (Is (nI r12) H'))/\((nI (IntKind.wrap .i64 (c.ae.lo-r12)):Value)=nI (c.ae.lo-r12)/\(∃r13:Int,((True)/\(∀H':Heap,H'.length=7->(True)->am prog 134 [nI m.up.ae,nI h] H' [] (Is (nI r13) H'))/\((nI (IntKind.wrap .i64 (c.ae.hi+r13)):Value)=nI (c.ae.hi+r13)/\(true=true/\((decide (((c.ae.lo-r12):Int)<0))=true->(∃pw:Int,(((decide (((c.ae.lo-r12):Int)<0))=true/\(pw:Int)=0/\True)∨((decide (((c.ae.lo-r12):Int)<0))=false/\(pw:Int)=(c.ae.lo-r12)/\True))/\true=true/\((.pointer (some ⟨6,0,none⟩):Value) = .pointer (some ⟨6,0,none⟩)/\(nI 3:Value)=nI 3/\(.pointer (some ⟨2,0,none⟩):Value) = .pointer (some ⟨2,0,none⟩)/\(.pointer (some ⟨1,0,none⟩):Value) = .pointer (some ⟨1,0,none⟩)/\(.pointer (some ⟨0,0,none⟩):Value) = .pointer (some ⟨0,0,none⟩)/\(nI h:Value)=nI h/\True)/\((some (.cells true 0 [nI 0,nI (c.ae.hi+r13)]:ab)=some (.cells true 0 [nI pw,nI (c.ae.hi+r13)]:ab)/\ar 7 (.cells true 0 [nI pw,nI (c.ae.hi+r13)]:ab)=true)/\True)/\(True)/\(True)))/\((decide (((c.ae.lo-r12):Int)<0))=false->(∃pw:Int,(((decide (((c.ae.lo-r12):Int)<0))=true/\(pw:Int)=0/\True)∨((decide (((c.ae.lo-r12):Int)<0))=false/\(pw:Int)=(c.ae.lo-r12)/\True))/\true=true/\((.pointer (some ⟨6,0,none⟩):Value) = .pointer (some ⟨6,0,none⟩)/\(nI 3:Value)=nI 3/\(.pointer (some ⟨2,0,none⟩):Value) = .pointer (some ⟨2,0,none⟩)/\(.pointer (some ⟨1,0,none⟩):Value) = .pointer (some ⟨1,0,none⟩)/\(.pointer (some ⟨0,0,none⟩):Value) = .pointer (some ⟨0,0,none⟩)/\(nI h:Value)=nI h/\True)/\((some (.cells true 0 [nI (c.ae.lo-r12),nI (c.ae.hi+r13)]:ab)=some (.cells true 0 [nI pw,nI (c.ae.hi+r13)]:ab)/\ar 7 (.cells true 0 [nI pw,nI (c.ae.hi+r13)]:ab)=true)/\True)/\(True)/\(True)))/\∀x14:Int,(((decide (((c.ae.lo-r12):Int)<0))=true/\(x14:Int)=0/\True)∨((decide (((c.ae.lo-r12):Int)<0))=false/\(x14:Int)=(c.ae.lo-r12)/\True))->(true=true/\((decide ((3:Int)<(c.ae.hi+r13)))=true->(∃pv:Int,(((decide ((3:Int)<(c.ae.hi+r13)))=true/\(pv:Int)=3/\True)∨((decide ((3:Int)<(c.ae.hi+r13)))=false/\(pv:Int)=(c.ae.hi+r13)/\True))/\true=true/\((.pointer (some ⟨6,0,none⟩):Value) = .pointer (some ⟨6,0,none⟩)/\(nI 3:Value)=nI 3/\(.pointer (some ⟨2,0,none⟩):Value) = .pointer (some ⟨2,0,none⟩)/\(.pointer (some ⟨1,0,none⟩):Value) = .pointer (some ⟨1,0,none⟩)/\(.pointer (some ⟨0,0,none⟩):Value) = .pointer (some ⟨0,0,none⟩)/\(nI h:Value)=nI h/\True)/\((some (.cells true 0 [nI x14,nI 3]:ab)=some (.cells true 0 [nI x14,nI pv]:ab)/\ar 7 (.cells true 0 [nI x14,nI pv]:ab)=true)/\True)/\(True)/\(True)))/\((decide ((3:Int)<(c.ae.hi+r13)))=false->(∃pv:Int,(((decide ((3:Int)<(c.ae.hi+r13)))=true/\(pv:Int)=3/\True)∨((decide ((3:Int)<(c.ae.hi+r13)))=false/\(pv:Int)=(c.ae.hi+r13)/\True))/\true=true/\((.pointer (some ⟨6,0,none⟩):Value) = .pointer (some ⟨6,0,none⟩)/\(nI 3:Value)=nI 3/\(.pointer (some ⟨2,0,none⟩):Value) = .pointer (some ⟨2,0,none⟩)/\(.pointer (some ⟨1,0,none⟩):Value) = .pointer (some ⟨1,0,none⟩)/\(.pointer (some ⟨0,0,none⟩):Value) = .pointer (some ⟨0,0,none⟩)/\(nI h:Value)=nI h/\True)/\((some (.cells true 0 [nI x14,nI (c.ae.hi+r13)]:ab)=some (.cells true 0 [nI x14,nI pv]:ab)/\ar 7 (.cells true 0 [nI x14,nI pv]:ab)=true)/\True)/\(True)/\(True)))/\∀x15:Int,(((decide ((3:Int)<(c.ae.hi+r13)))=true/\(x15:Int)=3/\True)∨((decide ((3:Int)<(c.ae.hi+r13)))=false/\(x15:Int)=(c.ae.hi+r13)/\True))->(.agg #[nI x2,nI x3,nI x6,nI x7,nI x10,nI x11,nI x14,nI x15]:Value)=sp))))))))))))))))))))))))))))))))
theorem Ag(sp:Value)(c:Cell)(m:bu)(h:Int):vF prog msk (dm 0) 100000 true 40 true 74 [.agg #[nI c.ai.lo,nI c.ai.hi,nI c.ac.lo,nI c.ac.hi,nI c.ad.lo,nI c.ad.hi,nI c.ae.lo,nI c.ae.hi],.agg #[nI m.up.ai,nI m.up.ac,nI m.up.ad,nI m.up.ae,nI m.down.ai,nI m.down.ac,nI m.down.ad,nI m.down.ae],nI h] ⟨0,.leaf⟩ (some [])
 (.go 36 (.bind (Int) (fun r0 => .ans [] (nI r0) [] (.go 0 (.slot 24 (nI (c.ai.lo-r0)) (.go 17 (.bind (Int) (fun r1 => .ans [] (nI r1) [] (.go 0 (.slot 34 (nI (c.ai.hi+r1)) (.go 4 (.join 3 (Int) [3] (fun x2=>[(8,.pointer (some ⟨3,0,none⟩)),(7,nI 0),(6,.pointer (some ⟨2,0,none⟩)),(4,.pointer (some ⟨1,0,none⟩)),(3,.pointer (some ⟨0,0,none⟩)),(2,nI h)]) (fun x2=>[(3,true,.cells true 0 [nI x2,nI (c.ai.hi+r1)])]) (fun x2=>[]) (fun x2=>[]) (fun x2=>(((decide (((c.ai.lo-r0):Int)<0))=true/\(x2:Int)=0/\True)∨((decide (((c.ai.lo-r0):Int)<0))=false/\(x2:Int)=(c.ai.lo-r0)/\True))) (.go 1 (.again [])) (.again []) (fun x2 => .go 11 (.join 3 (Int) [3] (fun x3=>[(8,.pointer (some ⟨3,0,none⟩)),(7,nI 0),(6,.pointer (some ⟨2,0,none⟩)),(4,.pointer (some ⟨1,0,none⟩)),(3,.pointer (some ⟨0,0,none⟩)),(2,nI h)]) (fun x3=>[(3,true,.cells true 0 [nI x2,nI x3])]) (fun x3=>[]) (fun x3=>[]) (fun x3=>(((decide ((100:Int)<(c.ai.hi+r1)))=true/\(x3:Int)=100/\True)∨((decide ((100:Int)<(c.ai.hi+r1)))=false/\(x3:Int)=(c.ai.hi+r1)/\True))) (.go 10 (.again [])) (.again []) (fun x3 => .go 58 (.bind (Int) (fun r4 => .ans [] (nI r4) [] (.go 0 (.slot 24 (nI (c.ac.lo-r4)) (.go 20 (.bind (Int) (fun r5 => .ans [] (nI r5) [] (.go 0 (.slot 34 (nI (c.ac.hi+r5)) (.go 4 (.join 3 (Int) [4] (fun x6=>[(8,.pointer (some ⟨4,0,none⟩)),(7,nI 1),(6,.pointer (some ⟨2,0,none⟩)),(4,.pointer (some ⟨1,0,none⟩)),(3,.pointer (some ⟨0,0,none⟩)),(2,nI h)]) (fun x6=>[(4,true,.cells true 0 [nI x6,nI (c.ac.hi+r5)])]) (fun x6=>[]) (fun x6=>[]) (fun x6=>(((decide (((c.ac.lo-r4):Int)<0))=true/\(x6:Int)=0/\True)∨((decide (((c.ac.lo-r4):Int)<0))=false/\(x6:Int)=(c.ac.lo-r4)/\True))) (.go 1 (.again [])) (.again []) (fun x6 => .go 16 (.join 3 (Int) [4] (fun x7=>[(8,.pointer (some ⟨4,0,none⟩)),(7,nI 1),(6,.pointer (some ⟨2,0,none⟩)),(4,.pointer (some ⟨1,0,none⟩)),(3,.pointer (some ⟨0,0,none⟩)),(2,nI h)]) (fun x7=>[(4,true,.cells true 0 [nI x6,nI x7])]) (fun x7=>[]) (fun x7=>[]) (fun x7=>(((decide ((400:Int)<(c.ac.hi+r5)))=true/\(x7:Int)=400/\True)∨((decide ((400:Int)<(c.ac.hi+r5)))=false/\(x7:Int)=(c.ac.hi+r5)/\True))) (.go 15 (.again [])) (.again []) (fun x7 => .go 67 (.bind (Int) (fun r8 => .ans [] (nI r8) [] (.go 0 (.slot 24 (nI (c.ad.lo-r8)) (.go 23 (.bind (Int) (fun r9 => .ans [] (nI r9) [] (.go 0 (.slot 34 (nI (c.ad.hi+r9)) (.go 4 (.join 3 (Int) [5] (fun x10=>[(8,.pointer (some ⟨5,0,none⟩)),(7,nI 2),(6,.pointer (some ⟨2,0,none⟩)),(4,.pointer (some ⟨1,0,none⟩)),(3,.pointer (some ⟨0,0,none⟩)),(2,nI h)]) (fun x10=>[(5,true,.cells true 0 [nI x10,nI (c.ad.hi+r9)])]) (fun x10=>[]) (fun x10=>[]) (fun x10=>(((decide (((c.ad.lo-r8):Int)<0))=true/\(x10:Int)=0/\True)∨((decide (((c.ad.lo-r8):Int)<0))=false/\(x10:Int)=(c.ad.lo-r8)/\True))) (.go 1 (.again [])) (.again []) (fun x10 => .go 13 (.join 3 (Int) [5] (fun x11=>[(8,.pointer (some ⟨5,0,none⟩)),(7,nI 2),(6,.pointer (some ⟨2,0,none⟩)),(4,.pointer (some ⟨1,0,none⟩)),(3,.pointer (some ⟨0,0,none⟩)),(2,nI h)]) (fun x11=>[(5,true,.cells true 0 [nI x10,nI x11])]) (fun x11=>[]) (fun x11=>[]) (fun x11=>(((decide ((100:Int)<(c.ad.hi+r9)))=true/\(x11:Int)=100/\True)∨((decide ((100:Int)<(c.ad.hi+r9)))=false/\(x11:Int)=(c.ad.hi+r9)/\True))) (.go 12 (.again [])) (.again []) (fun x11 => .go 70 (.bind (Int) (fun r12 => .ans [] (nI r12) [] (.go 0 (.slot 24 (nI (c.ae.lo-r12)) (.go 23 (.bind (Int) (fun r13 => .ans [] (nI r13) [] (.go 0 (.slot 34 (nI (c.ae.hi+r13)) (.go 4 (.join 3 (Int) [6] (fun x14=>[(8,.pointer (some ⟨6,0,none⟩)),(7,nI 3),(6,.pointer (some ⟨2,0,none⟩)),(4,.pointer (some ⟨1,0,none⟩)),(3,.pointer (some ⟨0,0,none⟩)),(2,nI h)]) (fun x14=>[(6,true,.cells true 0 [nI x14,nI (c.ae.hi+r13)])]) (fun x14=>[]) (fun x14=>[]) (fun x14=>(((decide (((c.ae.lo-r12):Int)<0))=true/\(x14:Int)=0/\True)∨((decide (((c.ae.lo-r12):Int)<0))=false/\(x14:Int)=(c.ae.lo-r12)/\True))) (.go 1 (.again [])) (.again []) (fun x14 => .go 16 (.join 3 (Int) [6] (fun x15=>[(8,.pointer (some ⟨6,0,none⟩)),(7,nI 3),(6,.pointer (some ⟨2,0,none⟩)),(4,.pointer (some ⟨1,0,none⟩)),(3,.pointer (some ⟨0,0,none⟩)),(2,nI h)]) (fun x15=>[(6,true,.cells true 0 [nI x14,nI x15])]) (fun x15=>[]) (fun x15=>[]) (fun x15=>(((decide ((3:Int)<(c.ae.hi+r13)))=true/\(x15:Int)=3/\True)∨((decide ((3:Int)<(c.ae.hi+r13)))=false/\(x15:Int)=(c.ae.hi+r13)/\True))) (.go 15 (.again [])) (.again []) (fun x15 => .auto)))))))))))))))))))))))))))))))))))))))))))))))))))))))))
 (fun v _ _=>v=sp)=vf sp c m h:=by kernel_rfl
def AH(sp:Value)(w h t:Int):Prop :=
 (((decide ((1:Int)<=w))=true->(((!(decide ((w:Int)<=64)))=true->(nI 6:Value)=sp)/\((!(decide ((w:Int)<=64)))=false->(((decide ((1:Int)<=h))=true->(((!(decide ((h:Int)<=64)))=true->(nI 6:Value)=sp)/\((!(decide ((h:Int)<=64)))=false->((nI (IntKind.wrap .i64 (w*h)):Value)=nI (w*h)/\(((decide ((1024:Int)<(w*h)))=true->(nI 6:Value)=sp)/\((decide ((1024:Int)<(w*h)))=false->(((decide ((0:Int)<=t))=true->(((!(decide ((t:Int)<=10000)))=true->(nI 6:Value)=sp)/\((!(decide ((t:Int)<=10000)))=false->(nI 0:Value)=sp)))/\((decide ((0:Int)<=t))=false->(nI 6:Value)=sp))))))))/\((decide ((1:Int)<=h))=false->(nI 6:Value)=sp)))))/\((decide ((1:Int)<=w))=false->(nI 6:Value)=sp))
theorem CR(sp:Value)(w h t:Int):vF prog msk (dm 0) 100000 true 40 true 158 [nI w,nI h,nI t] ⟨0,.leaf⟩ (some [])
 (.go 7 (.aO (.go 6 (.aO (.auto) (.go 6 (.aO (.go 7 (.aO (.auto) (.go 2 (.slot 18 (nI (w*h)) (.go 2 (.aO (.auto) (.go 6 (.aO (.go 6 (.fork (.auto) (.auto))) (.auto))))))))) (.auto))))) (.auto)))
 (fun v _ _=>v=sp)=AH sp w h t:=by kernel_rfl
def ve(sp:Value)(w h t:Int):Prop :=
 (((decide ((w:Int)<1))=true->(nI 6:Value)=sp)/\((decide ((w:Int)<1))=false->(((decide ((64:Int)<w))=true->(nI 6:Value)=sp)/\((decide ((64:Int)<w))=false->(((decide ((h:Int)<1))=true->(nI 6:Value)=sp)/\((decide ((h:Int)<1))=false->(((decide ((64:Int)<h))=true->(nI 6:Value)=sp)/\((decide ((64:Int)<h))=false->((nI (IntKind.wrap .i64 (w*h)):Value)=nI (w*h)/\(((decide ((1024:Int)<(w*h)))=true->(nI 6:Value)=sp)/\((decide ((1024:Int)<(w*h)))=false->(((decide ((t:Int)<0))=true->(nI 6:Value)=sp)/\((decide ((t:Int)<0))=false->(((decide ((10000:Int)<t))=true->(nI 6:Value)=sp)/\((decide ((10000:Int)<t))=false->(nI 0:Value)=sp)))))))))))))))
theorem Af(sp:Value)(w h t:Int):vF prog msk (dm 0) 100000 true 40 true 163 [nI w,nI h,nI t] ⟨0,.leaf⟩ (some [])
 (.go 3 (.aO (.auto) (.go 3 (.aO (.auto) (.go 3 (.aO (.auto) (.go 3 (.aO (.auto) (.go 2 (.slot 24 (nI (w*h)) (.go 2 (.aO (.auto) (.go 3 (.aO (.auto) (.go 2 (.fork (.auto) (.auto)))))))))))))))))
 (fun v _ _=>v=sp)=ve sp w h t:=by kernel_rfl
def gi(w h t:Int):Prop:=(1<=w/\w<=64)/\(1<=h/\h<=64)/\w*h<=1024/\(0<=t/\t<=10000)
instance (w h t:Int):Decidable (gi w h t):=by unfold gi;infer_instance
def eg(w h t:Int):Int:=if gi w h t then 0 else 6
theorem iO{w h t:Int}:eg w h t=0 ↔ gi w h t:=by unfold eg;split <;> simp_all
theorem bq(w h t:Int)(H:Heap):am prog F.xF [.int .i64 w,.int .i64 h,.int .i64 t] H [] (Is (.int .i64 (eg w h t)) H):=by
 refine iu 40 (fun _=>rfl) rfl (Eq.mpr (CR _ w h t) ?_) H
 unfold AH
 have mb:(1<=w/\w<=64)->(1<=h/\h<=64)->0<=w*h/\w*h<=64*64:=fun h1 h2=>w6 (by omega) h1.2 (by omega) h2.2
 repeat' first|(refine ⟨az (by have:=mb ⟨‹_›,‹_›⟩ ⟨‹_›,‹_›⟩;omega),?_⟩)|(exact iEq (if_pos (by unfold gi;omega)).symm)|(exact iEq (if_neg (by unfold gi;omega)).symm)|exact trivial|exact rfl|refine aC ?_ ?_ ?_|refine aB ?_ ?_ ?_|refine toMax ?_|refine toMin ?_|refine ⟨rfl,?_⟩|refine ⟨trivial,?_⟩|(refine aG (fun h =>?_) (fun h =>?_))|(refine aE (fun h =>?_) (fun h =>?_))|(refine aI (fun h =>?_) (fun h =>?_))|refine aA ?_|(refine ⟨az (by omega),?_⟩)|(refine And.intro (by omega) ?_)|apply And.intro|exact ah _|(exact iEq (by omega))|(exact az (by omega))
theorem zx(w h t:Int)(H:Heap):am prog F.jF [.int .i64 w,.int .i64 h,.int .i64 t] H [] (Is (.int .i64 (eg w h t)) H):=by
 refine iu 40 (fun _=>rfl) rfl (Eq.mpr (Af _ w h t) ?_) H
 unfold ve
 have mb:(1<=w/\w<=64)->(1<=h/\h<=64)->0<=w*h/\w*h<=64*64:=fun h1 h2=>w6 (by omega) h1.2 (by omega) h2.2
 repeat' first|(refine ⟨az (by have:=mb ⟨by omega,by omega⟩ ⟨by omega,by omega⟩;omega),?_⟩)|(exact iEq (if_pos (by unfold gi;omega)).symm)|(exact iEq (if_neg (by unfold gi;omega)).symm)|exact trivial|exact rfl|refine aC ?_ ?_ ?_|refine aB ?_ ?_ ?_|refine toMax ?_|refine toMin ?_|refine ⟨rfl,?_⟩|refine ⟨trivial,?_⟩|(refine aG (fun h =>?_) (fun h =>?_))|(refine aE (fun h =>?_) (fun h =>?_))|(refine aI (fun h =>?_) (fun h =>?_))|refine aA ?_|(refine ⟨az (by omega),?_⟩)|(refine And.intro (by omega) ?_)|apply And.intro|exact ah _|(exact iEq (by omega))|(exact az (by omega))
structure iT where
 w:Int
 h:Int
 hour:Int
 cells:List Cell
def dB:iT:=⟨0,0,0,[]⟩
def tab{α:Type}(f:Nat->α)(n:Nat):List α:=(List.range n).map f
def bZ(w h t:Int)(cs:List Cell):Int:=cU (eg w h t) (if (cs.length:Int)=w*h then errs bS cs else 1)
def vb(sp:Value)(cs:List Cell):Prop :=
 (true=true/\(0<=List.length cs/\sp=nI (errs bS (cs.drop 0)))/\(true=true/\((nI 0:Value)=nI ((0:Nat):Int)/\(.func (.func 131) #[] #[]:Value) = .func (.func 131) #[] #[]/\wkR (slQ 0 2 cs.length)/\(nI ((cs.length:Nat):Int):Value)=nI ((cs.length:Nat):Int)/\True)/\(True)/\(True)/\(True))/\(∀x0:Nat,true=true)/\∀x0:Nat,(x0<=List.length cs/\sp=nI (errs bS (cs.drop x0)))->(((decide (((x0:Int):Int)<((cs.length:Nat):Int)))=true->(((0:Int)<=(x0:Int)/\((x0:Int):Int)<((cs.length:Nat):Int))/\((cj 8 (cs.flatMap cellC) (0+Int.toNat (x0:Int)*8)=some (.agg #[nI (cs.getD x0 aa).ai.lo,nI (cs.getD x0 aa).ai.hi,nI (cs.getD x0 aa).ac.lo,nI (cs.getD x0 aa).ac.hi,nI (cs.getD x0 aa).ad.lo,nI (cs.getD x0 aa).ad.hi,nI (cs.getD x0 aa).ae.lo,nI (cs.getD x0 aa).ae.hi]))/\(∃r1:Int,((True)/\(∀H':Heap,H'.length=2->(True)->am prog 131 [.agg #[nI (cs.getD x0 aa).ai.lo,nI (cs.getD x0 aa).ai.hi,nI (cs.getD x0 aa).ac.lo,nI (cs.getD x0 aa).ac.hi,nI (cs.getD x0 aa).ad.lo,nI (cs.getD x0 aa).ad.hi,nI (cs.getD x0 aa).ae.lo,nI (cs.getD x0 aa).ae.hi]] H' [] (Is (nI r1) H'))/\((((r1:Int) != 0)=true->(nI r1:Value)=sp)/\(((r1:Int) != 0)=false->((nI (IntKind.wrap .i64 ((x0:Int)+1)):Value)=nI ((x0:Int)+1)/\(∃x0':Nat,(x0'<=List.length cs/\sp=nI (errs bS (cs.drop x0')))/\(List.length cs-x0')<(List.length cs-x0)/\true=true/\((nI ((x0:Int)+1):Value)=nI (x0':Int)/\(.func (.func 131) #[] #[]:Value) = .func (.func 131) #[] #[]/\wkR (slQ 0 2 cs.length)/\(nI ((cs.length:Nat):Int):Value)=nI ((cs.length:Nat):Int)/\True)/\(True)/\(True)/\(True))))))))))/\((decide (((x0:Int):Int)<((cs.length:Nat):Int)))=false->(nI 0:Value)=sp)))
theorem Ad(sp:Value)(cs:List Cell):vF prog msk (dm 0) 100000 true 40 true 159 [slQ 0 2 cs.length,.func (.func 131) #[] #[]] (aY 0 [cs.flatMap cellC]) (some [])
 (.go 3 (.inv 3 (Nat) (0) [] [] (fun x0=>[(10,nI (x0:Int)),(1,.func (.func 131) #[] #[]),(8,slQ 0 2 cs.length),(9,nI ((cs.length:Nat):Int))]) (fun x0=>[]) (fun x0=>[]) (fun x0=>[]) (fun x0=>(x0<=List.length cs/\sp=nI (errs bS (cs.drop x0)))) (fun x0=>(List.length cs-x0)) (fun x0 => .go 0 (.fork (.need (.val (.agg #[nI (cs.getD x0 aa).ai.lo,nI (cs.getD x0 aa).ai.hi,nI (cs.getD x0 aa).ac.lo,nI (cs.getD x0 aa).ac.hi,nI (cs.getD x0 aa).ad.lo,nI (cs.getD x0 aa).ad.hi,nI (cs.getD x0 aa).ae.lo,nI (cs.getD x0 aa).ae.hi]) (.go 3 (.bind (Int) (fun r1 => .ans [] (nI r1) [] (.go 2 (.fork (.auto) (.go 0 (.slot 20 (nI ((x0:Int)+1)) (.go 0 (.again []))))))))))) (.auto)))))
 (fun v _ _=>v=sp)=vb sp cs:=by kernel_rfl
def lZ(sp:Value)(w h t:Int)(cs:List Cell):Prop :=
 (∃r0:Int,((True)/\(∀H':Heap,H'.length=2->(True)->am prog 158 [nI w,nI h,nI t] H' [] (Is (nI r0) H'))/\((((r0:Int) != 0)=true->(nI r0:Value)=sp)/\(((r0:Int) != 0)=false->((nI (IntKind.wrap .i64 (w*h)):Value)=nI (w*h)/\((((((cs.length:Nat):Int):Int) != (w*h))=true->(nI 1:Value)=sp)/\(((((cs.length:Nat):Int):Int) != (w*h))=false->(∃r1:Int,(((aX (.cells false 0 (cs.flatMap cellC)))/\True)/\(∀H':Heap,H'.length=2->(H'[0]?=some (.cells false 0 (cs.flatMap cellC):ab)/\True)->am prog 159 [slQ 0 2 cs.length,.func (.func 131) #[] #[]] H' [] (Is (nI r1) H'))/\(nI r1:Value)=sp)))))))))
theorem sR(sp:Value)(w h t:Int)(cs:List Cell):vF prog msk (dm 0) 100000 true 40 true 92 [.agg #[nI w,nI h,nI t,slQ 0 2 cs.length]] (aY 0 [cs.flatMap cellC]) (some [])
 (.go 7 (.bind (Int) (fun r0 => .ans [] (nI r0) [] (.go 2 (.fork (.auto) (.go 7 (.slot 21 (nI (w*h)) (.go 0 (.fork (.auto) (.go 1 (.bind (Int) (fun r1 => .ans [(0,.cells false 0 (cs.flatMap cellC))] (nI r1) [] (.auto)))))))))))))
 (fun v _ _=>v=sp)=lZ sp w h t cs:=by kernel_rfl
def kJ(sp:Value)(w h t:Int)(cs:List Cell):Prop :=
 (∃r0:Int,((True)/\(∀H':Heap,H'.length=2->(True)->am prog 163 [nI w,nI h,nI t] H' [] (Is (nI r0) H'))/\((((r0:Int) != 0)=true->(nI r0:Value)=sp)/\(((r0:Int) != 0)=false->((nI (IntKind.wrap .i64 (w*h)):Value)=nI (w*h)/\((((((cs.length:Nat):Int):Int) != (w*h))=true->(nI 1:Value)=sp)/\(((((cs.length:Nat):Int):Int) != (w*h))=false->(true=true/\(0<=List.length cs/\errs bS cs=errs bS (cs.drop 0))/\(true=true/\((nI 0:Value)=nI ((0:Nat):Int)/\(.pointer (some ⟨1,0,none⟩):Value) = .pointer (some ⟨1,0,none⟩)/\True)/\(True)/\(True)/\(True))/\(∀x1:Nat,true=true)/\∀x1:Nat,(x1<=List.length cs/\errs bS cs=errs bS (cs.drop x1))->(((decide (((x1:Int):Int)<((cs.length:Nat):Int)))=true->(((0:Int)<=(x1:Int)/\((x1:Int):Int)<((cs.length:Nat):Int))/\((cj 8 (cs.flatMap cellC) (0+Int.toNat (x1:Int)*8)=some (.agg #[nI (cs.getD x1 aa).ai.lo,nI (cs.getD x1 aa).ai.hi,nI (cs.getD x1 aa).ac.lo,nI (cs.getD x1 aa).ac.hi,nI (cs.getD x1 aa).ad.lo,nI (cs.getD x1 aa).ad.hi,nI (cs.getD x1 aa).ae.lo,nI (cs.getD x1 aa).ae.hi]))/\(∃r2:Int,((True)/\(∀H':Heap,H'.length=2->(True)->am prog 164 [.agg #[nI (cs.getD x1 aa).ai.lo,nI (cs.getD x1 aa).ai.hi,nI (cs.getD x1 aa).ac.lo,nI (cs.getD x1 aa).ac.hi,nI (cs.getD x1 aa).ad.lo,nI (cs.getD x1 aa).ad.hi,nI (cs.getD x1 aa).ae.lo,nI (cs.getD x1 aa).ae.hi]] H' [] (Is (nI r2) H'))/\((((r2:Int) != 0)=true->(nI r2:Value)=sp)/\(((r2:Int) != 0)=false->((nI (IntKind.wrap .i64 ((x1:Int)+1)):Value)=nI ((x1:Int)+1)/\(∃x1':Nat,(x1'<=List.length cs/\errs bS cs=errs bS (cs.drop x1'))/\(List.length cs-x1')<(List.length cs-x1)/\true=true/\((nI ((x1:Int)+1):Value)=nI (x1':Int)/\(.pointer (some ⟨1,0,none⟩):Value) = .pointer (some ⟨1,0,none⟩)/\True)/\(True)/\(True)/\(True))))))))))/\((decide (((x1:Int):Int)<((cs.length:Nat):Int)))=false->(nI 0:Value)=sp))))))))))
theorem qB(sp:Value)(w h t:Int)(cs:List Cell):vF prog msk (dm 0) 100000 true 40 true 126 [.agg #[nI w,nI h,nI t,slQ 0 2 cs.length]] (aY 0 [cs.flatMap cellC]) (some [])
 (.go 7 (.bind (Int) (fun r0 => .ans [] (nI r0) [] (.go 2 (.fork (.auto) (.go 7 (.slot 23 (nI (w*h)) (.go 0 (.fork (.auto) (.go 0 (.inv 3 (Nat) (0) [] [] (fun x1=>[(4,nI (x1:Int)),(1,.pointer (some ⟨1,0,none⟩))]) (fun x1=>[]) (fun x1=>[]) (fun x1=>[]) (fun x1=>(x1<=List.length cs/\errs bS cs=errs bS (cs.drop x1))) (fun x1=>(List.length cs-x1)) (fun x1 => .go 4 (.fork (.go 2 (.need (.val (.agg #[nI (cs.getD x1 aa).ai.lo,nI (cs.getD x1 aa).ai.hi,nI (cs.getD x1 aa).ac.lo,nI (cs.getD x1 aa).ac.hi,nI (cs.getD x1 aa).ad.lo,nI (cs.getD x1 aa).ad.hi,nI (cs.getD x1 aa).ae.lo,nI (cs.getD x1 aa).ae.hi]) (.bind (Int) (fun r2 => .ans [] (nI r2) [] (.go 2 (.fork (.auto) (.go 1 (.slot 31 (nI ((x1:Int)+1)) (.go 0 (.again []))))))))))) (.auto))))))))))))))
 (fun v _ _=>v=sp)=kJ sp w h t cs:=by kernel_rfl
def yR(w h t:Int)(cs:List Cell):Prop :=
 (true=true/\(0<=List.length cs)/\(true=true/\((nI 0:Value)=nI ((0:Nat):Int)/\(.pointer (some ⟨1,0,none⟩):Value) = .pointer (some ⟨1,0,none⟩)/\(.pointer (some ⟨2,0,none⟩):Value) = .pointer (some ⟨2,0,none⟩)/\(.pointer (some ⟨3,0,none⟩):Value) = .pointer (some ⟨3,0,none⟩)/\True)/\(wkO (.cells true 0 [nI w,nI h,nI t,.slice none 0 0]:ab) (rno (sg 4 []) 3 (.cells true 0 [nI w,nI h,nI t,slQ 4 1 0]:ab))/\True)/\(True/\True)/\(True))/\(∀x0:Nat,true=true)/\∀x0:Nat,(x0<=List.length cs)->(((decide (((x0:Int):Int)<((cs.length:Nat):Int)))=true->(((0:Int)<=(x0:Int)/\((x0:Int):Int)<((cs.length:Nat):Int))/\((cj 8 (cs.flatMap cellC) (0+Int.toNat (x0:Int)*8)=some (.agg #[nI (cs.getD x0 aa).ai.lo,nI (cs.getD x0 aa).ai.hi,nI (cs.getD x0 aa).ac.lo,nI (cs.getD x0 aa).ac.hi,nI (cs.getD x0 aa).ad.lo,nI (cs.getD x0 aa).ad.hi,nI (cs.getD x0 aa).ae.lo,nI (cs.getD x0 aa).ae.hi]))/\(((x0+1)*64<=2 ^ 44/\1≠0/\(x0<=x0/\0+x0*8<=List.length ((cs.take x0).flatMap cellC))/\(1<=1/\0+1*8<=List.length ([nI (cs.getD x0 aa).ai.lo,nI (cs.getD x0 aa).ai.hi,nI (cs.getD x0 aa).ac.lo,nI (cs.getD x0 aa).ac.hi,nI (cs.getD x0 aa).ad.lo,nI (cs.getD x0 aa).ad.hi,nI (cs.getD x0 aa).ae.lo,nI (cs.getD x0 aa).ae.hi]:List Value))/\(((([nI (cs.getD x0 aa).ai.lo,nI (cs.getD x0 aa).ai.hi,nI (cs.getD x0 aa).ac.lo,nI (cs.getD x0 aa).ac.hi,nI (cs.getD x0 aa).ad.lo,nI (cs.getD x0 aa).ad.hi,nI (cs.getD x0 aa).ae.lo,nI (cs.getD x0 aa).ae.hi]:List Value).drop 0).take (1*8)):List Value).all (fun v=>di v)=true)/\true=true/\((nI (IntKind.wrap .i64 ((x0:Int)+1)):Value)=nI ((x0:Int)+1)/\(∃x0':Nat,(x0'<=List.length cs)/\(List.length cs-x0')<(List.length cs-x0)/\true=true/\((nI ((x0:Int)+1):Value)=nI (x0':Int)/\(.pointer (some ⟨1,0,none⟩):Value) = .pointer (some ⟨1,0,none⟩)/\(.pointer (some ⟨2,0,none⟩):Value) = .pointer (some ⟨2,0,none⟩)/\(.pointer (some ⟨3,0,none⟩):Value) = .pointer (some ⟨3,0,none⟩)/\True)/\(wkO (.cells true 0 [nI w,nI h,nI t,.slice (some ⟨6,0,none⟩) (x0+1) (x0+1)]:ab) (rno (sg 4 [(4,6)]) 3 (.cells true 0 [nI w,nI h,nI t,slQ 4 1 x0']:ab))/\True)/\((some (.cells true 8 (((((cs.take x0).flatMap cellC).drop 0).take (x0*8))++((([nI (cs.getD x0 aa).ai.lo,nI (cs.getD x0 aa).ai.hi,nI (cs.getD x0 aa).ac.lo,nI (cs.getD x0 aa).ac.hi,nI (cs.getD x0 aa).ad.lo,nI (cs.getD x0 aa).ad.hi,nI (cs.getD x0 aa).ae.lo,nI (cs.getD x0 aa).ae.hi]:List Value).drop 0).take (1*8))):ab)=some (.cells true 8 ((cs.take x0').flatMap cellC):ab)/\ar 4 (.cells true 8 ((cs.take x0').flatMap cellC):ab)=true)/\True)/\(True)))))))/\((decide (((x0:Int):Int)<((cs.length:Nat):Int)))=false->(true=true/\wk (.agg #[nI w,nI h,nI t,slQ 4 1 x0]:Value) (rn (sg 1 [(1,4)]) 3 (.agg #[nI w,nI h,nI t,slQ 1 1 cs.length]:Value))/\((some (.cells true 8 ((cs.take x0).flatMap cellC):ab)=some (.cells true 8 (cs.flatMap cellC):ab)/\ar 1 (.cells true 8 (cs.flatMap cellC):ab)=true)/\True)))))
theorem B5(w h t:Int)(cs:List Cell):vF prog msk (dm 0) 100000 true 40 true 11 [.agg #[nI w,nI h,nI t,slQ 0 2 cs.length]] (aY 0 [cs.flatMap cellC]) (some [])
 (.go 11 (.inv 3 (Nat) (0) [] [3] (fun x0=>[(4,nI (x0:Int)),(1,.pointer (some ⟨1,0,none⟩)),(2,.pointer (some ⟨2,0,none⟩)),(3,.pointer (some ⟨3,0,none⟩))]) (fun x0=>[(3,false,.cells true 0 [nI w,nI h,nI t,slQ 4 1 x0])]) (fun x0=>[(true,.cells true 8 ((cs.take x0).flatMap cellC))]) (fun x0=>[]) (fun x0=>(x0<=List.length cs)) (fun x0=>(List.length cs-x0)) (fun x0 => .go 4 (.fork (.go 4 (.need (.val (.agg #[nI (cs.getD x0 aa).ai.lo,nI (cs.getD x0 aa).ai.hi,nI (cs.getD x0 aa).ac.lo,nI (cs.getD x0 aa).ac.hi,nI (cs.getD x0 aa).ad.lo,nI (cs.getD x0 aa).ad.hi,nI (cs.getD x0 aa).ae.lo,nI (cs.getD x0 aa).ae.hi]) (.go 0 (.need (.go 3 (.slot 18 (nI ((x0:Int)+1)) (.go 0 (.again [(4,6)]))))))))) (.go 1 (.again [(1,4)]))))))
 (gu ((aY 0 [cs.flatMap cellC]):HT).n 3 (.agg #[nI w,nI h,nI t,slQ 1 1 cs.length]) [(true,.cells true 8 (cs.flatMap cellC))])=yR w h t cs:=by kernel_rfl
def AR(sp:Value)(w h t:Int)(cs:List Cell):Prop :=
 ((((w:Int) != w)=true->(.bool false:Value)=sp)/\(((w:Int) != w)=false->((((h:Int) != h)=true->(.bool false:Value)=sp)/\(((h:Int) != h)=false->((((t:Int) != t)=true->(.bool false:Value)=sp)/\(((t:Int) != t)=false->((((((cs.length:Nat):Int):Int) != ((cs.length:Nat):Int))=true->(.bool false:Value)=sp)/\(((((cs.length:Nat):Int):Int) != ((cs.length:Nat):Int))=false->(true=true/\(0<=List.length cs)/\(true=true/\((nI 0:Value)=nI ((0:Nat):Int)/\(.pointer (some ⟨2,0,none⟩):Value) = .pointer (some ⟨2,0,none⟩)/\(.pointer (some ⟨3,0,none⟩):Value) = .pointer (some ⟨3,0,none⟩)/\True)/\(True)/\(True)/\(True))/\(∀x0:Nat,true=true)/\∀x0:Nat,(x0<=List.length cs)->(((decide (((x0:Int):Int)<((cs.length:Nat):Int)))=true->(((0:Int)<=(x0:Int)/\((x0:Int):Int)<((cs.length:Nat):Int))/\((cj 8 (cs.flatMap cellC) (0+Int.toNat (x0:Int)*8)=some (.agg #[nI (cs.getD x0 aa).ai.lo,nI (cs.getD x0 aa).ai.hi,nI (cs.getD x0 aa).ac.lo,nI (cs.getD x0 aa).ac.hi,nI (cs.getD x0 aa).ad.lo,nI (cs.getD x0 aa).ad.hi,nI (cs.getD x0 aa).ae.lo,nI (cs.getD x0 aa).ae.hi]))/\(((0:Int)<=(x0:Int)/\((x0:Int):Int)<((cs.length:Nat):Int))/\((cj 8 (cs.flatMap cellC) (0+Int.toNat (x0:Int)*8)=some (.agg #[nI (cs.getD x0 aa).ai.lo,nI (cs.getD x0 aa).ai.hi,nI (cs.getD x0 aa).ac.lo,nI (cs.getD x0 aa).ac.hi,nI (cs.getD x0 aa).ad.lo,nI (cs.getD x0 aa).ad.hi,nI (cs.getD x0 aa).ae.lo,nI (cs.getD x0 aa).ae.hi]))/\(((!(((((cs.getD x0 aa).ai.lo:Int) == (cs.getD x0 aa).ai.lo)&&((((cs.getD x0 aa).ai.hi:Int) == (cs.getD x0 aa).ai.hi)&&true))&&(((((cs.getD x0 aa).ac.lo:Int) == (cs.getD x0 aa).ac.lo)&&((((cs.getD x0 aa).ac.hi:Int) == (cs.getD x0 aa).ac.hi)&&true))&&(((((cs.getD x0 aa).ad.lo:Int) == (cs.getD x0 aa).ad.lo)&&((((cs.getD x0 aa).ad.hi:Int) == (cs.getD x0 aa).ad.hi)&&true))&&(((((cs.getD x0 aa).ae.lo:Int) == (cs.getD x0 aa).ae.lo)&&((((cs.getD x0 aa).ae.hi:Int) == (cs.getD x0 aa).ae.hi)&&true))&&true)))))=true->(.bool false:Value)=sp)/\((!(((((cs.getD x0 aa).ai.lo:Int) == (cs.getD x0 aa).ai.lo)&&((((cs.getD x0 aa).ai.hi:Int) == (cs.getD x0 aa).ai.hi)&&true))&&(((((cs.getD x0 aa).ac.lo:Int) == (cs.getD x0 aa).ac.lo)&&((((cs.getD x0 aa).ac.hi:Int) == (cs.getD x0 aa).ac.hi)&&true))&&(((((cs.getD x0 aa).ad.lo:Int) == (cs.getD x0 aa).ad.lo)&&((((cs.getD x0 aa).ad.hi:Int) == (cs.getD x0 aa).ad.hi)&&true))&&(((((cs.getD x0 aa).ae.lo:Int) == (cs.getD x0 aa).ae.lo)&&((((cs.getD x0 aa).ae.hi:Int) == (cs.getD x0 aa).ae.hi)&&true))&&true)))))=false->((nI (IntKind.wrap .i64 ((x0:Int)+1)):Value)=nI ((x0:Int)+1)/\(∃x0':Nat,(x0'<=List.length cs)/\(List.length cs-x0')<(List.length cs-x0)/\true=true/\((nI ((x0:Int)+1):Value)=nI (x0':Int)/\(.pointer (some ⟨2,0,none⟩):Value) = .pointer (some ⟨2,0,none⟩)/\(.pointer (some ⟨3,0,none⟩):Value) = .pointer (some ⟨3,0,none⟩)/\True)/\(True)/\(True)/\(True))))))))))/\((decide (((x0:Int):Int)<((cs.length:Nat):Int)))=false->(.bool true:Value)=sp)))))))))))
theorem CZ(sp:Value)(w h t:Int)(cs:List Cell):vF prog msk (dm 0) 100000 true 40 true 19 [.agg #[nI w,nI h,nI t,slQ 0 2 cs.length],.agg #[nI w,nI h,nI t,slQ 1 2 cs.length]] (aY 0 [cs.flatMap cellC,cs.flatMap cellC]) (some [])
 (.go 8 (.aO (.auto) (.go 6 (.aO (.auto) (.go 6 (.aO (.auto) (.go 7 (.fork (.auto) (.go 0 (.inv 3 (Nat) (0) [] [] (fun x0=>[(5,nI (x0:Int)),(2,.pointer (some ⟨2,0,none⟩)),(3,.pointer (some ⟨3,0,none⟩))]) (fun x0=>[]) (fun x0=>[]) (fun x0=>[]) (fun x0=>(x0<=List.length cs)) (fun x0=>(List.length cs-x0)) (fun x0 => .go 4 (.fork (.go 2 (.need (.val (.agg #[nI (cs.getD x0 aa).ai.lo,nI (cs.getD x0 aa).ai.hi,nI (cs.getD x0 aa).ac.lo,nI (cs.getD x0 aa).ac.hi,nI (cs.getD x0 aa).ad.lo,nI (cs.getD x0 aa).ad.hi,nI (cs.getD x0 aa).ae.lo,nI (cs.getD x0 aa).ae.hi]) (.go 2 (.need (.val (.agg #[nI (cs.getD x0 aa).ai.lo,nI (cs.getD x0 aa).ai.hi,nI (cs.getD x0 aa).ac.lo,nI (cs.getD x0 aa).ac.hi,nI (cs.getD x0 aa).ad.lo,nI (cs.getD x0 aa).ad.hi,nI (cs.getD x0 aa).ae.lo,nI (cs.getD x0 aa).ae.hi]) (.go 0 (.fork (.auto) (.go 1 (.slot 40 (nI ((x0:Int)+1)) (.go 0 (.again [])))))))))))) (.auto)))))))))))))
 (fun v _ _=>v=sp)=AR sp w h t cs:=by kernel_rfl
theorem bJ(c:Cell):(cellC c).length=8:=rfl
theorem eC{xs:List Cell}{x:Nat}(h:x<xs.length):cj 8 (List.flatMap cellC xs) (0+Int.toNat ((x:Nat):Int)*8)=some (.agg ⟨cellC (List.getD xs x aa)⟩) :=
 eU (f:=cellC) (d:=aa) (c:=0) (m:=8) bJ h (by rw[Int.toNat_natCast];omega) (by decide)
theorem bn(n:Nat)(l:List Cell):(l.flatMap cellC).all (aN n)=true:=dt (fun _=>rfl) l
theorem AV{H:Heap}{id id2:Nat}{own kX:Bool}{z z2:Nat}{cs ds:List Value}(h1:H[id]?=some (.cells own z cs))(h2:H[id2]?=some (.cells kX z2 ds)):∀(k:Nat) (c:List Value),[cs,ds][k]?=some c->∃id' own z,[id,id2][k]?=some id'/\H[id']?=some (ab.cells own z c):=by
 intro k c h
 match k with
 |0=>cases h;exact ⟨id,own,z,rfl,h1⟩
 |1=>cases h;exact ⟨id2,kX,z2,rfl,h2⟩
theorem AW{cs ds:List Value}(h1:cs.all (aN 0)=true)(h2:ds.all (aN 0)=true):∀c ∈ [cs,ds],c.all (aN 0)=true:=by
 intro c hc
 rcases List.mem_cons.1 hc with rfl|hc
 ·exact h1
 ·rw[List.mem_singleton.1 hc];exact h2
theorem zu(xs:List Cell)(hn:xs.length<=2 ^ 30){H:Heap}{id:Nat}{own:Bool}{z:Nat}(hid:H[id]?=some (.cells own z (xs.flatMap cellC))) :
  am prog F.jp [.slice (some ⟨id,0,some 2⟩) xs.length xs.length,.func (.func F.jy) #[] #[]] H [] (Is (.int .i64 (errs bS xs)) H):=by
 refine ir (Eq.mpr (Ad _ xs) ?_) (gq (bn 0 xs)) rfl [id] rfl (gn hid)
 unfold vb
 refine ⟨rfl,⟨Nat.zero_le _,rfl⟩,?_,fun _=>rfl,?_⟩
 ·repeat' first|exact trivial|exact rfl|exact ah _|refine aq ?_|refine aw ?_ ?_|exact aF|exact aJ _ _ _ (.inl rfl)|(exact bi (by omega))|refine aD ?_|refine av ?_|refine aC ?_ ?_ ?_|refine aB ?_ ?_ ?_|refine toMax ?_|refine toMin ?_|refine ⟨rfl,?_⟩|refine ⟨trivial,?_⟩|(refine aG (fun h =>?_) (fun h =>?_))|(refine aE (fun h =>?_) (fun h =>?_))|(refine aI (fun h =>?_) (fun h =>?_))|refine aA ?_|(refine ⟨az (by omega),?_⟩)|(refine And.intro (by omega) ?_)|apply And.intro|(exact iEq (by omega))|(exact az (by omega))
 rintro x ⟨hx,hsp⟩
 refine aG (fun h =>?_) (fun h =>?_)
 ·have hlt:x<xs.length:=by omega
  rw[uT (d:=aa) hlt]at hsp
  refine ⟨by omega,eC hlt,_,trivial,fun H' _ _=>nz _ H',?_⟩
  refine aE (fun h1 =>?_) (fun h1 =>?_)
  ·rw[hsp,if_neg h1]
  ·repeat' first|(refine ⟨x+1,⟨by omega,by rw[hsp,if_pos h1]⟩,by omega,?_⟩)|exact trivial|exact rfl|exact ah _|refine aq ?_|refine aw ?_ ?_|exact aF|exact aJ _ _ _ (.inl rfl)|(exact bi (by omega))|refine aD ?_|refine av ?_|refine aC ?_ ?_ ?_|refine aB ?_ ?_ ?_|refine toMax ?_|refine toMin ?_|refine ⟨rfl,?_⟩|refine ⟨trivial,?_⟩|(refine aG (fun h =>?_) (fun h =>?_))|(refine aE (fun h =>?_) (fun h =>?_))|(refine aI (fun h =>?_) (fun h =>?_))|refine aA ?_|(refine ⟨az (by omega),?_⟩)|(refine And.intro (by omega) ?_)|apply And.intro|(exact iEq (by omega))|(exact az (by omega))
 ·rw[hsp,show x=xs.length by omega,List.drop_length];rfl
theorem jU{w h t:Int}{cs:List Cell}(h0:¬ eg w h t=0):bZ w h t cs=eg w h t:=dl h0
theorem jT{w h t:Int}{cs:List Cell}(h0:eg w h t=0)(h1:(cs.length:Int)≠w*h):bZ w h t cs=1:=(bH h0).trans (if_neg h1)
theorem ig{w h t:Int}{cs:List Cell}(h0:eg w h t=0)(h1:(cs.length:Int)=w*h):bZ w h t cs=errs bS cs:=(bH h0).trans (if_pos h1)
theorem mF{w h t:Int}(h0:eg w h t=0):1<=w*h/\w*h<=1024:=by
 obtain ⟨h1,h2,h3,_⟩:=iO.1 h0
 refine ⟨?_,h3⟩
 have:1*1<=w*h:=Int.mul_le_mul h1.1 h2.1 (by omega) (by omega)
 omega
theorem rR(w h t:Int)(cs:List Cell){H:Heap}{id:Nat}{own:Bool}{z:Nat}(hid:H[id]?=some (.cells own z (cs.flatMap cellC))) :
  am prog F.nC [.agg #[.int .i64 w,.int .i64 h,.int .i64 t,.slice (some ⟨id,0,some 2⟩) cs.length cs.length]] H [] (Is (.int .i64 (bZ w h t cs)) H):=by
 refine ir (Eq.mpr (sR _ w h t cs) ?_) (gq (bn 0 cs)) rfl [id] rfl (gn hid)
 unfold lZ
 refine ⟨_,trivial,fun H' _ _=>bq _ _ _ H',?_⟩
 refine aE (fun h0=>iEq (jU h0).symm) (fun h0 =>?_)
 have hm:=mF h0
 repeat' first|(refine ⟨_,⟨rfl,trivial⟩,fun H' _ hd=>zu _ (by omega) hd.1,?_⟩)|exact iEq (jT h0 h).symm|exact iEq (ig h0 h).symm|exact trivial|exact rfl|exact ah _|refine aq ?_|refine aw ?_ ?_|exact aF|exact aJ _ _ _ (.inl rfl)|(exact bi (by omega))|refine aD ?_|refine av ?_|refine aC ?_ ?_ ?_|refine aB ?_ ?_ ?_|refine toMax ?_|refine toMin ?_|refine ⟨rfl,?_⟩|refine ⟨trivial,?_⟩|(refine aG (fun h =>?_) (fun h =>?_))|(refine aE (fun h =>?_) (fun h =>?_))|(refine aI (fun h =>?_) (fun h =>?_))|refine aA ?_|(refine ⟨az (by omega),?_⟩)|(refine And.intro (by omega) ?_)|apply And.intro|(exact iEq (by omega))|(exact az (by omega))
theorem pZ(w h t:Int)(cs:List Cell){H:Heap}{id:Nat}{own:Bool}{z:Nat}(hid:H[id]?=some (.cells own z (cs.flatMap cellC))) :
  am prog F.gH [.agg #[.int .i64 w,.int .i64 h,.int .i64 t,.slice (some ⟨id,0,some 2⟩) cs.length cs.length]] H [] (Is (.int .i64 (bZ w h t cs)) H):=by
 refine ir (Eq.mpr (qB _ w h t cs) ?_) (gq (bn 0 cs)) rfl [id] rfl (gn hid)
 unfold kJ
 refine ⟨_,trivial,fun H' _ _=>zx _ _ _ H',?_⟩
 refine aE (fun h0=>iEq (jU h0).symm) (fun h0 =>?_)
 have hm:=mF h0
 repeat' first|(refine ⟨rfl,⟨Nat.zero_le _,rfl⟩,?_,fun _=>rfl,?_⟩)|exact iEq (jT h0 h).symm|exact trivial|exact rfl|exact ah _|refine aq ?_|refine aw ?_ ?_|exact aF|exact aJ _ _ _ (.inl rfl)|(exact bi (by omega))|refine aD ?_|refine av ?_|refine aC ?_ ?_ ?_|refine aB ?_ ?_ ?_|refine toMax ?_|refine toMin ?_|refine ⟨rfl,?_⟩|refine ⟨trivial,?_⟩|(refine aG (fun h =>?_) (fun h =>?_))|(refine aE (fun h =>?_) (fun h =>?_))|(refine aI (fun h =>?_) (fun h =>?_))|refine aA ?_|(refine ⟨az (by omega),?_⟩)|(refine And.intro (by omega) ?_)|apply And.intro|(exact iEq (by omega))|(exact az (by omega))
 rintro x ⟨hx,he⟩
 refine aG (fun hl =>?_) (fun hl =>?_)
 ·have hlt:x<cs.length:=by omega
  rw[uT (d:=aa) hlt]at he
  refine ⟨by omega,eC hlt,_,trivial,fun H' _ _=>rH _ H',?_⟩
  refine aE (fun h1 =>?_) (fun h1 =>?_)
  ·exact iEq ((ig h0 h).trans (by rw[he,if_neg h1])).symm
  ·repeat' first|(refine ⟨x+1,⟨by omega,by rw[he,if_pos h1]⟩,by omega,?_⟩)|exact trivial|exact rfl|exact ah _|refine aq ?_|refine aw ?_ ?_|exact aF|exact aJ _ _ _ (.inl rfl)|(exact bi (by omega))|refine aD ?_|refine av ?_|refine aC ?_ ?_ ?_|refine aB ?_ ?_ ?_|refine toMax ?_|refine toMin ?_|refine ⟨rfl,?_⟩|refine ⟨trivial,?_⟩|(refine aG (fun h =>?_) (fun h =>?_))|(refine aE (fun h =>?_) (fun h =>?_))|(refine aI (fun h =>?_) (fun h =>?_))|refine aA ?_|(refine ⟨az (by omega),?_⟩)|(refine And.intro (by omega) ?_)|apply And.intro|(exact iEq (by omega))|(exact az (by omega))
 ·exact iEq ((ig h0 h).trans (by rw[he,show x=cs.length by omega,List.drop_length];rfl)).symm
theorem lQ{w h t:Int}{cs:List Cell}(h0:bZ w h t cs=0):gi w h t/\(cs.length:Int)=w*h/\cs.length<=1024/\∀c∈cs,ck c:=by
 have h1:eg w h t=0:=by
  rcases Classical.em (eg w h t=0) with h1|h1
  ·exact h1
  ·rw[jU h1]at h0;exact h0
 have h2:(cs.length:Int)=w*h:=by
  rcases Classical.em ((cs.length:Int)=w*h) with h2|h2
  ·exact h2
  ·rw[jT h1 h2]at h0;cases h0
 rw[ig h1 h2]at h0
 have hm:=mF h1
 exact ⟨iO.1 h1,h2,by omega,fun c hc=>ga.1 (pj h0 c hc)⟩
theorem Bk(w v t:Int)(cs:List Cell)(hn:cs.length<=2 ^ 30){H:Heap}{id:Nat}{own:Bool}{z:Nat}{L:Nat}(hL:H.length=L)(hid:H[id]?=some (.cells own z (cs.flatMap cellC))) :
  am prog F.fJ [.agg #[.int .i64 w,.int .i64 v,.int .i64 t,.slice (some ⟨id,0,some 2⟩) cs.length cs.length]] H []
   (Is (.agg #[.int .i64 w,.int .i64 v,.int .i64 t,.slice (some ⟨L,0,some 1⟩) cs.length cs.length]) (H ++ [.cells true 8 (cs.flatMap cellC)])):=by
 subst hL
 have key:=fun hc=>yZ (css:=[cs.flatMap cellC]) (new:=[(true,.cells true 8 (cs.flatMap cellC))]) (v:=.agg #[.int .i64 w,.int .i64 v,.int .i64 t,.slice (some ⟨1,0,some 1⟩) cs.length cs.length]) (Eq.mpr (B5 w v t cs) hc) (gq (bn 0 cs)) rfl (by simp[rn,c8]) (by
  show ((d8 3 (.cells true 8 (cs.flatMap cellC))&&true)&&true)=true
  rw[Bool.and_true,Bool.and_true];exact (kc (V:=fun _=>none) (d:=0) (bn 0 cs)).2) (congrArg (fun l=>[ab.cells true 8 l]) (kc (d:=0) (bn 0 cs)).1) (H:=H) [id] rfl (gn hid)
 have e1:rn (eN (0 + [cs.flatMap cellC].length) H.length) 3 (.agg #[.int .i64 w,.int .i64 v,.int .i64 t,.slice (some ⟨1,0,some 1⟩) cs.length cs.length]) = .agg #[.int .i64 w,.int .i64 v,.int .i64 t,.slice (some ⟨H.length,0,some 1⟩) cs.length cs.length]:=by simp[rn,eN]
 have e2:(List.map (fun x:Bool×ab=>x.2) [(true,ab.cells true 8 (cs.flatMap cellC))]).map (rno (eN (0 + [cs.flatMap cellC].length) H.length) 3)=[.cells true 8 (cs.flatMap cellC)]:=congrArg (fun l=>[ab.cells true 8 l]) (kc (d:=0) (bn 0 cs)).1
 rw[e1,e2]at key
 refine key ?_
 unfold yR
 repeat' first|(refine ⟨rfl,Nat.zero_le _,?_,fun _=>rfl,?_⟩)|exact trivial|exact rfl|exact ah _|refine aq ?_|refine aw ?_ ?_|exact aF|exact aJ _ _ _ (.inl rfl)|(exact bi (by omega))|refine aD ?_|refine av ?_|refine aC ?_ ?_ ?_|refine aB ?_ ?_ ?_|refine toMax ?_|refine toMin ?_|refine ⟨rfl,?_⟩|refine ⟨trivial,?_⟩|(refine aG (fun h =>?_) (fun h =>?_))|(refine aE (fun h =>?_) (fun h =>?_))|(refine aI (fun h =>?_) (fun h =>?_))|refine aA ?_|(refine ⟨az (by omega),?_⟩)|(refine And.intro (by omega) ?_)|apply And.intro|(exact iEq (by omega))|(exact az (by omega))
 intro x hx
 refine aG (fun hl =>?_) (fun hl =>?_)
 ·have hlt:x<cs.length:=by omega
  have htl:(cs.take x).length=x:=by rw[List.length_take];omega
  repeat' first|refine ⟨eC hlt,?_⟩|(refine ⟨⟨by omega,by decide,⟨Nat.le_refl _,by rw[aU bJ,htl];omega⟩,⟨by decide,Nat.le_refl _⟩,rfl⟩,rfl,?_⟩)|(refine ⟨x+1,by omega,by omega,?_⟩)|(exact (by rw[take_at (d:=aa) hlt];exact congrArg (fun l=>some (ab.cells true 8 l)) (jb bJ (cs.take x) (cs.getD x aa) htl.symm)))|exact bn _ _|exact trivial|exact rfl|exact ah _|refine aq ?_|refine aw ?_ ?_|exact aF|exact aJ _ _ _ (.inl rfl)|(exact bi (by omega))|refine aD ?_|refine av ?_|refine aC ?_ ?_ ?_|refine aB ?_ ?_ ?_|refine toMax ?_|refine toMin ?_|refine ⟨rfl,?_⟩|refine ⟨trivial,?_⟩|(refine aG (fun h =>?_) (fun h =>?_))|(refine aE (fun h =>?_) (fun h =>?_))|(refine aI (fun h =>?_) (fun h =>?_))|refine aA ?_|(refine ⟨az (by omega),?_⟩)|(refine And.intro (by omega) ?_)|apply And.intro|(exact iEq (by omega))|(exact az (by omega))
 ·obtain rfl:x=cs.length:=by omega
  exact ⟨rfl,ah _,⟨by rw[List.take_length],bn _ _⟩,trivial⟩
theorem Cr(w v t:Int)(cs:List Cell)(hn:cs.length<=2 ^ 30){H:Heap}{id id2:Nat}{own kX:Bool}{z z2:Nat}(hid:H[id]?=some (.cells own z (cs.flatMap cellC)))(tG:H[id2]?=some (.cells kX z2 (cs.flatMap cellC))) :
  am prog F.fY [.agg #[.int .i64 w,.int .i64 v,.int .i64 t,.slice (some ⟨id,0,some 2⟩) cs.length cs.length],.agg #[.int .i64 w,.int .i64 v,.int .i64 t,.slice (some ⟨id2,0,some 2⟩) cs.length cs.length]] H [] (Is (.bool true) H):=by
 refine ir (Eq.mpr (CZ _ w v t cs) ?_) (AW (bn 0 cs) (bn 0 cs)) rfl [id,id2] rfl (AV hid tG)
 unfold AR
 repeat' first|(refine dG (by simp only[bne_self_eq_false,BEq.rfl,Bool.and_self,Bool.not_true]) ?_)|(refine ⟨rfl,Nat.zero_le _,?_,fun _=>rfl,?_⟩)|exact trivial|exact rfl|exact ah _|refine aq ?_|refine aw ?_ ?_|exact aF|exact aJ _ _ _ (.inl rfl)|(exact bi (by omega))|refine aD ?_|refine av ?_|refine aC ?_ ?_ ?_|refine aB ?_ ?_ ?_|refine toMax ?_|refine toMin ?_|refine ⟨rfl,?_⟩|refine ⟨trivial,?_⟩|(refine aG (fun h =>?_) (fun h =>?_))|(refine aE (fun h =>?_) (fun h =>?_))|(refine aI (fun h =>?_) (fun h =>?_))|refine aA ?_|(refine ⟨az (by omega),?_⟩)|(refine And.intro (by omega) ?_)|apply And.intro|(exact iEq (by omega))|(exact az (by omega))
 intro x hx
 refine aG (fun hl =>?_) (fun hl =>?_)
 ·have hlt:x<cs.length:=by omega
  repeat' first|refine ⟨eC hlt,?_⟩|(refine dG (by simp only[bne_self_eq_false,BEq.rfl,Bool.and_self,Bool.not_true]) ?_)|(refine ⟨x+1,by omega,by omega,?_⟩)|exact trivial|exact rfl|exact ah _|refine aq ?_|refine aw ?_ ?_|exact aF|exact aJ _ _ _ (.inl rfl)|(exact bi (by omega))|refine aD ?_|refine av ?_|refine aC ?_ ?_ ?_|refine aB ?_ ?_ ?_|refine toMax ?_|refine toMin ?_|refine ⟨rfl,?_⟩|refine ⟨trivial,?_⟩|(refine aG (fun h =>?_) (fun h =>?_))|(refine aE (fun h =>?_) (fun h =>?_))|(refine aI (fun h =>?_) (fun h =>?_))|refine aA ?_|(refine ⟨az (by omega),?_⟩)|(refine And.intro (by omega) ?_)|apply And.intro|(exact iEq (by omega))|(exact az (by omega))
 ·rfl
structure Pl where
 s:Int
 t:Int
 r:Int
def ag:Pl:=⟨0,0,0⟩
abbrev bC(p:Pl):List Value:=[.int .i64 p.s]
abbrev bv(p:Pl):List Value:=[.int .i64 0,.int .i64 p.t,.int .i64 p.r,.int .i64 0]
def fh(p:Pl)(x:Ice):Pl:=if x.ai=0 then p else ⟨p.s+x.ai,max p.t x.ac,max p.r x.ad⟩
def cm(p:Pl):Int:=max (p.s-100) 0
def bN(p:Pl):Ice:=⟨p.s-cm p,min (p.t+Int.tdiv (cm p) 10) 400,min (p.r+Int.tdiv (cm p) 5) 100,min (Int.tdiv (cm p+25-1) 25) 3⟩
def BI(f F1 F2 j:Nat):Value:=.func (.func f) #[] #[.pointer (some ⟨F1,0,some (j+3)⟩),.pointer (some ⟨F2,0,some (j+3)⟩)]
def cc(f F1 F2 x n:Nat):List Value:=(List.range n).map fun j=>if j<x then BI f F1 F2 j else .nilFunc
def cK(e:Nat->Int):Nat->Int
 |0=>0
 |k+1=>cU (cK e k) (e k)
def rT(H:Heap):List Nat->List (List Value)->Prop
 | [],[] =>True
 |id :: ids,c :: css=>(∃own z,H[id]?=some (.cells own z c))/\rT H ids css
 |_,_=>False
theorem lh{H:Heap}:∀{ids:List Nat} {css:List (List Value)},rT H ids css->ids.length=css.length
 | [],[],_=>rfl
 |_ :: ids,_ :: css,h=>by rw[List.length_cons,List.length_cons,lh h.2]
 | [],_ :: _,h=>h.elim
 |_ :: _,[],h=>h.elim
theorem jP{H:Heap}:∀{ids:List Nat} {css:List (List Value)},rT H ids css->∀(k:Nat) (c:List Value),css[k]?=some c->∃id own z,ids[k]?=some id/\H[id]?=some (ab.cells own z c)
 | [],[],_,k,c,hk=>by simp at hk
 |i :: ids,d :: css,h,0,c,hk=>by
  obtain ⟨⟨own,z,e⟩,_⟩:=h
  cases hk
  exact ⟨i,own,z,rfl,e⟩
 |i :: ids,d :: css,h,k+1,c,hk=>by
  obtain ⟨id,own,z,a,b⟩:=jP h.2 k c (by simpa using hk)
  exact ⟨id,own,z,by simpa using a,b⟩
 | [],_ :: _,h,_,_,_=>h.elim
 |_ :: _,[],h,_,_,_=>h.elim
def ki:List (List Value)->Prop
 | [] =>True
 |c :: css=>c.all (aN 0)=true/\ki css
theorem gk:∀{css:List (List Value)},ki css->∀c∈css,c.all (aN 0)=true
 | [],_,c,h=>by cases h
 |d :: css,hp,c,h=>by
  rcases List.mem_cons.1 h with rfl|h
  ·exact hp.1
  ·exact gk hp.2 c h
def mU:List ab->Prop
 | [] =>True
 |o :: os=>(∃z cs,o = .cells true z cs/\cs.all (aN 0)=true)/\mU os
theorem fa{V:Nat->Option Nat}:∀{os:List ab},mU os->(os.all fun o=>d8 3 o&&o.owned)=true/\os.map (rno V 3)=os
 | [],_=>⟨rfl,rfl⟩
 |o :: os,⟨⟨z,cs,e,h⟩,hs⟩=>by
  subst e
  obtain ⟨a,b⟩:=fa (V:=V) hs
  obtain ⟨c,d⟩:=kc (V:=V) (d:=0) h
  refine ⟨?_,?_⟩
  ·rw[List.all_cons,a,Bool.and_true]
   show (d8 3 (.cells true z cs)&&true)=true
   rw[Bool.and_true];exact d
  ·rw[List.map_cons,b]
   show ab.cells true z (cs.map (rn V 3)) :: os=_
   rw[c]
theorem ue{f:FuncId}{args:List Value}{css:List (List Value)}{h:Hint}(v:Nat->Value){new:List ab}
  (hc:vF prog msk (dm 0) 100000 true 40 true f args (aY 0 css) (some []) h (gu (aY 0 css).n 3 (v css.length) (new.map fun o=>(true,o))))
  (hp:ki css) (hn:mU new) (h1:dw 3 (v css.length)=true) (h2:rn (c8 (0+css.length)) 3 (v css.length)=v css.length) (h3:∀j,rn (eN (0+css.length) j) 3 (v css.length)=v j)
  {H:Heap} {ids:List Nat} (hi:rT H ids css) {args':List Value} (ha:args.map (rn (sgR 0 ids) 3)=args') :
  am prog f args' H [] (Is (v H.length) (H++new)):=by
 subst ha
 have e0:(new.map fun o=>(true,o)).map (·.2)=new:=by rw[List.map_map];exact List.map_id _
 have key:=yZ (css:=css) (v:=v css.length) (new:=new.map fun o=>(true,o)) hc (gk hp) h1 h2 (by rw[e0];exact (fa (V:=fun _=>none) hn).1) (by rw[e0];exact (fa hn).2) (H:=H) ids (lh hi) (jP hi)
 rw[e0,(fa hn).2,h3]at key
 exact key
theorem qR:∀(n A B:List Value) (k:Nat),bp (A++B) (A.length+k) n=A++bp B k n
 | [],A,B,k=>rfl
 |v :: n,A,B,k=>by
  simp only[bp]
  rw[List.set_append_right _ _ (by omega),show A.length+k-A.length=k by omega,Nat.add_assoc,qR n A _ (k+1)]
theorem oH:∀(n A B:List Value) (k:Nat),k+n.length<=A.length->bp (A++B) k n=bp A k n++B
 | [],A,B,k,_=>rfl
 |v :: n,A,B,k,h=>by
  simp only[List.length_cons]at h
  simp only[bp]
  rw[List.set_append_left _ _ (by omega),oH n (A.set k v) B (k+1) (by rw[List.length_set];omega)]
theorem jR{α:Type}{f:α->List Value}{m c:Nat}{d y:α}{vs:List Value}(hf:∀x,(f x).length=m)(xs:List α)(k:Nat)(hk:k<xs.length)(hc:c+vs.length<=m)(hy:f y=bp (f (xs.getD k d)) c vs) :
  bp (xs.flatMap f) (k*m+c) vs=(xs.set k y).flatMap f:=by
 have e1:xs=xs.take k++xs.getD k d :: xs.drop (k+1):=by
  rw[show xs.getD k d=xs[k] from by rw[List.getD_eq_getElem?_getD,List.getElem?_eq_getElem hk];rfl,<- List.drop_eq_getElem_cons hk,List.take_append_drop]
 have e2:xs.set k y=xs.take k++y :: xs.drop (k+1):=by rw[List.set_eq_take_append_cons_drop,if_pos hk]
 have hl:((xs.take k).flatMap f).length=k*m:=by rw[aU hf,List.length_take,Nat.min_eq_left (Nat.le_of_lt hk)]
 rw[e2]
 conv=>lhs;rw[e1]
 rw[List.flatMap_append,List.flatMap_cons,List.flatMap_append,List.flatMap_cons,<- hl,qR,oH _ _ _ _ (by rw[hf];exact hc),<- hy]
theorem gI(p:Pl):(bC p).length=1:=rfl
theorem ec(p:Pl):(bv p).length=4:=rfl
theorem gX(n:Nat)(l:List Pl):(l.flatMap bC).all (aN n)=true:=dt (fun _=>rfl) l
theorem gW(n:Nat)(l:List Pl):(l.flatMap bv).all (aN n)=true:=dt (fun _=>rfl) l
theorem zi(n:Nat)(l:List Ice):(l.flatMap bM).all (aN n)=true:=dt (fun _=>rfl) l
theorem um{l:List Pl}{x:Nat}(h:x<l.length):(l.flatMap bC)[x*1+0]?=some (.int .i64 (l.getD x ag).s):=fp (n:=1) (c:=0) (d:=ag) gI h rfl rfl
theorem ul{l:List Pl}{x:Nat}(h:x<l.length):(l.flatMap bv)[x*4+1]?=some (.int .i64 (l.getD x ag).t)/\(l.flatMap bv)[x*4+2]?=some (.int .i64 (l.getD x ag).r) :=
 ⟨fp (n:=4) (c:=1) (d:=ag) ec h rfl rfl,fp (n:=4) (c:=2) (d:=ag) ec h rfl rfl⟩
theorem wW{l:List Pl}{x:Nat}(h:x<l.length)(p:Pl):bp (l.flatMap bC) (x*1+0) [.int .i64 p.s]=(l.set x p).flatMap bC :=
 jR (d:=ag) gI l x h (Nat.le_refl _) rfl
theorem wV{l:List Pl}{x:Nat}(h:x<l.length)(p:Pl):bp (bp (l.flatMap bv) (x*4+1) [.int .i64 p.t]) (x*4+2) [.int .i64 p.r]=(l.set x p).flatMap bv:=by
 rw[jR (d:=ag) (y:=(⟨0,p.t,(l.getD x ag).r⟩:Pl)) ec l x h (show 1+1<=4 by decide) rfl]
 rw[jR (d:=ag) (y:=p) ec (l.set x _) x (by rw[List.length_set];exact h) (show 2+1<=4 by decide) ?_,List.set_set]
 rw[show (l.set x (⟨0,p.t,(l.getD x ag).r⟩:Pl)).getD x ag=⟨0,p.t,(l.getD x ag).r⟩ from by rw[List.getD_eq_getElem?_getD,List.getElem?_set_self h];rfl]
 rfl
theorem wP{α:Type}(x:α)(n:Nat):List.replicate (n+1) x=List.replicate n x ++ [x]:=by rw[List.replicate_succ']
theorem je(f F1 F2 x n:Nat):(cc f F1 F2 x n).length=n:=by simp[cc]
theorem zV(f F1 F2 n:Nat):cc f F1 F2 0 n=cC [.nilFunc] n:=by
 have key:∀n,cC [Value.nilFunc] n=List.replicate n .nilFunc:=by
  intro n
  induction n with
  |zero=>rfl
  |succ n ih=>show Value.nilFunc :: cC [.nilFunc] n=_;rw[ih];rfl
 rw[key]
 refine List.ext_getElem? fun i =>?_
 unfold cc
 rw[List.getElem?_map,List.getElem?_replicate]
 by_cases h:i<n
 ·rw[List.getElem?_range h,if_pos h];rfl
 ·rw[List.getElem?_eq_none (by simp;omega),if_neg h];rfl
theorem jf{f F1 F2 x n j:Nat}(h:j<x)(hn:j<n){off:Nat}(ho:off=j):(cc f F1 F2 x n)[off]?=some (BI f F1 F2 j):=by
 subst ho
 unfold cc
 rw[List.getElem?_map,List.getElem?_range hn]
 show some (if off<x then _ else _)=_
 rw[if_pos h]
theorem we{f F1 F2 x n:Nat}(h:x<n){off:Nat}(ho:off=x):bp (cc f F1 F2 x n) off [BI f F1 F2 x]=cc f F1 F2 (x+1) n:=by
 subst ho
 simp only[bp]
 refine List.ext_getElem? fun i =>?_
 unfold cc
 rw[List.getElem?_set]
 by_cases h1:off=i
 ·subst h1
  rw[if_pos rfl,if_pos (by simpa using h),List.getElem?_map,List.getElem?_range h]
  show _=some (if off<off+1 then _ else _)
  rw[if_pos (Nat.lt_succ_self _)]
 ·rw[if_neg h1,List.getElem?_map,List.getElem?_map]
  by_cases h2:i<n
  ·rw[List.getElem?_range h2]
   show some (if i<off then _ else _)=some (if i<off+1 then _ else _)
   by_cases h3:i<off
   ·rw[if_pos h3,if_pos (by omega)]
   ·rw[if_neg h3,if_neg (by omega)]
  ·rw[List.getElem?_eq_none (by simp;omega)];rfl
theorem yx{V:Nat->Option Nat}{f F1 F2 x n:Nat}(h1:V F1=some F1)(h2:V F2=some F2):(cc f F1 F2 x n).map (rn V 3)=cc f F1 F2 x n:=by
 unfold cc
 rw[List.map_map]
 refine List.map_congr_left fun j _ =>?_
 show rn V 3 (if j<x then _ else _)=if j<x then _ else _
 by_cases h:j<x
 ·rw[if_pos h]
  show Value.func (.func f) ⟨[]⟩ ⟨[rn V 2 (.pointer (some ⟨F1,0,some (j+3)⟩)),rn V 2 (.pointer (some ⟨F2,0,some (j+3)⟩))]⟩=_
  have e:∀F,V F=some F->rn V 2 (.pointer (some ⟨F,0,some (j+3)⟩)) = .pointer (some ⟨F,0,some (j+3)⟩):=fun F hF=>by
   show (match V F with|some id'=>Value.pointer (some ⟨id',0,some (j+3)⟩)|none=>bad)=_
   rw[hF]
  rw[e _ h1,e _ h2];rfl
 ·rw[if_neg h];rfl
theorem AC{n0:Nat}{V:List (Nat×Nat)}{f F1 F2 x n:Nat}{cs:List Value}(h1:sg n0 V F1=some F1)(h2:sg n0 V F2=some F2)(e:cs=cc f F1 F2 x n):wkO (.cells true 1 cs) (rno (sg n0 V) 3 (.cells true 1 (cc f F1 F2 x n))):=by
 refine iU ?_
 show _=ab.cells true 1 ((cc f F1 F2 x n).map (rn (sg n0 V) 3))
 rw[yx h1 h2,e]
theorem li{e:Nat->Int}:∀{n:Nat},cK e n=0->∀k,k<n->e k=0
 |0,_,k,h=>by omega
 |n+1,h0,k,h=>by
  have h0:cU (cK e n) (e n)=0:=h0
  unfold cU at h0
  split at h0
  ·rename_i h1
   rcases Nat.lt_or_ge k n with h2|h2
   ·exact li h1 k h2
   ·obtain rfl:k=n:=by omega
    exact h0
  ·rename_i h1;exact absurd h0 h1
theorem gO{e:Nat->Int}{k:Nat}(h0:cK e k=0)(hk:e k≠0):∀{n:Nat},k<n->cK e n=e k
 |0,h=>by omega
 |n+1,h=>by
  show cU (cK e n) (e n)=e k
  rcases Nat.lt_or_ge k n with h2|h2
  ·rw[gO h0 hk h2,dl hk]
  ·obtain rfl:k=n:=by omega
   rw[h0,bH rfl]
theorem ek{e:Nat->Int}{k:Nat}(h0:cK e k=0)(h1:e k=0):cK e (k+1)=0:=by
 show cU (cK e k) (e k)=0
 rw[h0,bH rfl,h1]
def jn(k:Nat)(p:Pl):Prop:=(0<=p.s/\p.s<=100*(k:Int))/\(0<=p.t/\p.t<=400)/\0<=p.r/\p.r<=100
theorem er{k m:Nat}(h:k<=m){p:Pl}(hp:jn k p):jn m p:=by
 obtain ⟨⟨a,b⟩,c⟩:=hp
 exact ⟨⟨a,by omega⟩,c⟩
theorem rf{k:Nat}{p:Pl}{x:Ice}(hp:jn k p)(hx:eO x):jn (k+1) (fh p x):=by
 unfold fh
 split
 ·exact er (by omega) hp
 ·obtain ⟨⟨a,b⟩,c,d⟩:=hp
  obtain ⟨x1,x2,x3,x4⟩:=hx
  refine ⟨⟨?_,?_⟩,⟨?_,?_⟩,?_,?_⟩ <;> dsimp only <;> omega
theorem iM{α:Type}{l:List α}{d y:α}{i j:Nat}(hi:i<l.length):(l.set i y).getD j d=if j=i then y else l.getD j d:=by
 rw[List.getD_eq_getElem?_getD,List.getElem?_set,List.getD_eq_getElem?_getD]
 by_cases h:i=j
 ·rw[if_pos h,if_pos (h ▸ hi),if_pos h.symm];rfl
 ·rw[if_neg h,if_neg (fun e=>h e.symm)]
theorem aQ{α:Type}{l:List α}{d:α}{i:Nat}:l.set i (l.getD i d)=l:=by
 refine List.ext_getElem? fun j =>?_
 rw[List.getElem?_set]
 by_cases h:i=j
 ·subst h
  rw[if_pos rfl,List.getD_eq_getElem?_getD]
  by_cases h2:i<l.length
  ·rw[if_pos h2,List.getElem?_eq_getElem h2];rfl
  ·rw[if_neg h2,List.getElem?_eq_none (by omega)]
 ·rw[if_neg h]
theorem map_take{α β:Type}{f:α->β}{l:List α}{d:α}{k:Nat}(h:k<l.length):(l.map f).take (k+1)=(l.map f).take k ++ [f (l.getD k d)]:=by
 rw[List.take_add_one,List.getElem?_map,List.getElem?_eq_getElem h,List.getD_eq_getElem?_getD,List.getElem?_eq_getElem h];rfl
theorem eB{o d:Int}(h:0<=o)(hd:1<=d):0<=Int.tdiv o d/\Int.tdiv o d<=o:=by
 rw[Int.tdiv_eq_ediv_of_nonneg h]
 exact ⟨Int.ediv_nonneg h (by omega),Int.ediv_le_self d h⟩
def loI(c:Cell):Ice:=⟨c.ai.lo,c.ac.lo,c.ad.lo,c.ae.lo⟩
def hiI(c:Cell):Ice:=⟨c.ai.hi,c.ac.hi,c.ad.hi,c.ae.hi⟩
def cellOf(a z:Ice):Cell:=⟨⟨a.ai,z.ai⟩,⟨a.ac,z.ac⟩,⟨a.ad,z.ad⟩,⟨a.ae,z.ae⟩⟩
def eL(ps:List Pl)(t:Int)(x:Ice):List Pl:=ps.set (Int.toNat t) (fh (ps.getD (Int.toNat t) ag) x)
def aL(ps:List Pl)(ts:List Int)(x:Ice):List Pl:=ts.foldl (fun ps t=>eL ps t x) ps
def TG(w h:Int)(a:List Bool)(l:List Flow)(k:Nat):List Int:=tgts w h a (k:Int) (l.getD k af)
def aj(w h:Int)(a:List Bool)(l:List Flow)(cs:List Cell):Nat->List Pl
 |0=>List.replicate a.length ag
 |k+1=>if a.getD k false=true then aj w h a l cs k else aL (aj w h a l cs k) (TG w h a l k) (hiI (cs.getD k aa))
def ap(w h:Int)(a:List Bool)(l:List Flow)(cs:List Cell):Nat->List Pl
 |0=>List.replicate a.length ag
 |k+1=>if a.getD k false=true then ap w h a l cs k else if (TG w h a l k).length=1 then eL (ap w h a l cs k) ((TG w h a l k).getD 0 0) (loI (cs.getD k aa)) else ap w h a l cs k
def cR(w h:Int)(a:List Bool)(l:List Flow)(cs:List Cell)(k:Nat):Cell:=cellOf (bN ((ap w h a l cs cs.length).getD k ag)) (bN ((aj w h a l cs cs.length).getD k ag))
def au(w h:Int)(a:List Bool)(l:List Flow)(cs:List Cell):List Cell:=dg (cR w h a l cs) a.length
def v6(c:Cell):Bool:=(c.ai.lo == 0&&(c.ai.hi == 0&&true))&&((c.ac.lo == 0&&(c.ac.hi == 0&&true))&&((c.ad.lo == 0&&(c.ad.hi == 0&&true))&&((c.ae.lo == 0&&(c.ae.hi == 0&&true))&&true)))
def ca(w h w' h' t:Int)(cs:List Cell):Int:=cU (bZ w' h' t cs) (if w'=w/\h'=h then 0 else 1)
def dE(a:List Bool)(cs:List Cell)(k:Nat):Int:=if a.getD k false=true then (if v6 (cs.getD k aa)=true then 0 else 30) else 0
def gA(a:List Bool)(cs:List Cell):Int:=cK (dE a cs) cs.length
def bl(w h:Int)(a:List Bool)(w' h' t:Int)(cs:List Cell):Int:=cU (ca w h w' h' t cs) (gA a cs)
def b8(w h:Int)(a:List Bool)(l:List Flow)(w' h' t:Int)(cs:List Cell):iT×Int :=
 if bk w h a.length l=0 then (if bl w h a w' h' t cs=0 then (if t=10000 then (dB,6) else (⟨w',h',t+1,au w h a l cs⟩,0)) else (dB,bl w h a w' h' t cs)) else (dB,bk w h a.length l)
end
end Go.Proofs.YtkkgnalgmebfjaaGreat
