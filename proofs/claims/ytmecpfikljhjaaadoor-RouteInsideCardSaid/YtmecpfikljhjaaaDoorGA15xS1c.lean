/- Route: less ice is not worse: safe speeds. No condition. -/
import Derived.Test.YtmecpfikljhjaaaDoorGA7xJ5g
import Derived.Test.YtmecpfikljhjaaaDoorGH1gxH5g
import Derived.Test.YtmecpfikljhjaaaDoorGK27xA0
import Derived.Test.YtmecpfikljhjaaaDoorGM4gxL1c
import Derived.Test.YtmecpfikljhjaaaDoorGK47xM3
open Go Go.K
set_option maxRecDepth 1000000
set_option maxHeartbeats 4000000
set_option linter.unusedVariables false
set_option linter.unusedSimpArgs false
namespace Go.Proofs.YtmecpfikljhjaaaDoor
noncomputable section
attribute [local irreducible] vF
def UpL:List Pt->Prop
 |a :: b :: r=>a.1<b.1/\a.2<=b.2/\UpL (b :: r)
 |_=>True
theorem AW:∀{l:List Pt},(∀i,0<i->i<l.length->(l.getD (i-1) zP).1<(l.getD i zP).1/\(l.getD (i-1) zP).2<=(l.getD i zP).2)->UpL l
 | [],_=>trivial
 | [_],_=>trivial
 |a :: b :: r,h=>by
  have h1:=h 1 (by decide) (by simp)
  refine ⟨h1.1,h1.2,AW fun i hi hl =>?_⟩
  have h2:=h (i+1) (by omega) (by simpa using hl)
  obtain ⟨j,rfl⟩:∃j,i=j+1:=⟨i-1,by omega⟩
  exact h2
theorem Ik{l:List Pt}(h:cT l 1=true):UpL l:=by
 have c:=bk h
 unfold cT at h
 rw[Bool.and_eq_true,List.all_eq_true]at h
 refine AW fun i hi hl=>⟨c.up i hi hl,?_⟩
 have:=h.2 i (List.mem_range.2 hl)
 unfold lm at this
 rw[Bool.or_eq_true,decide_eq_true_eq,Bool.not_eq_true',decide_eq_false_iff_not,Int.mul_one]at this
 omega
theorem FH{a b c d:Int}(h1:a<=b)(h2:c<=d)(hc:0<=c)(hb:0<=b):a*c<=b*d :=
 Int.le_trans (Int.mul_le_mul_of_nonneg_right h1 hc) (Int.mul_le_mul_of_nonneg_left h2 hb)
theorem xv:∀{r:List Pt} {a:Pt} {x:Int},UpL (a :: r)->a.1<=x->0<(aI (a :: r) x).2/\a.2*(aI (a :: r) x).2<=(aI (a :: r) x).1
 | [],a,x,_,_=>⟨by show (0:Int)<1;decide,by show a.2*1<=a.2;omega⟩
 |b :: r,a,x,u,hx=>by
  obtain ⟨u1,u2,u3⟩:=u
  by_cases h:x<=b.1
  ·have e:aI (a :: b :: r) x=(a.2*(b.1-a.1)+(b.2-a.2)*(x-a.1),b.1-a.1):=if_pos h
   rw[e]
   have:=Int.mul_nonneg (show 0<=b.2-a.2 by omega) (show 0<=x-a.1 by omega)
   exact ⟨by show 0<b.1-a.1;omega,by show a.2*(b.1-a.1)<=a.2*(b.1-a.1)+(b.2-a.2)*(x-a.1);omega⟩
  ·have e:aI (a :: b :: r) x=aI (b :: r) x:=if_neg h
   rw[e]
   obtain ⟨k1,k2⟩:=xv (a:=b) u3 (show b.1<=x by omega)
   exact ⟨k1,Int.le_trans (Int.mul_le_mul_of_nonneg_right u2 (by omega)) k2⟩
theorem ti:∀{r:List Pt} {a:Pt} {x y:Int},UpL (a :: r)->a.1<=x->x<=y->(aI (a :: r) x).1*(aI (a :: r) y).2<=(aI (a :: r) y).1*(aI (a :: r) x).2
 | [],a,x,y,_,_,_=>Int.le_refl _
 |b :: r,a,x,y,u,hx,hy=>by
  obtain ⟨u1,u2,u3⟩:=u
  by_cases h:x<=b.1
  ·have e:aI (a :: b :: r) x=(a.2*(b.1-a.1)+(b.2-a.2)*(x-a.1),b.1-a.1):=if_pos h
   by_cases g:y<=b.1
   ·have e':aI (a :: b :: r) y=(a.2*(b.1-a.1)+(b.2-a.2)*(y-a.1),b.1-a.1):=if_pos g
    rw[e,e']
    have:=Int.mul_le_mul_of_nonneg_left (show x-a.1<=y-a.1 by omega) (show 0<=b.2-a.2 by omega)
    exact Int.mul_le_mul_of_nonneg_right (show a.2*(b.1-a.1)+(b.2-a.2)*(x-a.1)<=a.2*(b.1-a.1)+(b.2-a.2)*(y-a.1) by omega) (show 0<=b.1-a.1 by omega)
   ·have e':aI (a :: b :: r) y=aI (b :: r) y:=if_neg g
    rw[e,e']
    obtain ⟨k1,k2⟩:=xv (a:=b) u3 (show b.1<=y by omega)
    have h1:=Int.mul_le_mul_of_nonneg_left (show x-a.1<=b.1-a.1 by omega) (show 0<=b.2-a.2 by omega)
    have h2:a.2*(b.1-a.1)+(b.2-a.2)*(b.1-a.1)=b.2*(b.1-a.1):=by rw[<- Int.add_mul];congr 1;omega
    have h3:(a.2*(b.1-a.1)+(b.2-a.2)*(x-a.1))*(aI (b :: r) y).2<=b.2*(b.1-a.1)*(aI (b :: r) y).2:=Int.mul_le_mul_of_nonneg_right (by omega) (by omega)
    have h4:b.2*(aI (b :: r) y).2*(b.1-a.1)<=(aI (b :: r) y).1*(b.1-a.1):=Int.mul_le_mul_of_nonneg_right k2 (by omega)
    have h5:b.2*(b.1-a.1)*(aI (b :: r) y).2=b.2*(aI (b :: r) y).2*(b.1-a.1):=by ac_rfl
    exact Int.le_trans h3 (h5 ▸ h4)
  ·have e:aI (a :: b :: r) x=aI (b :: r) x:=if_neg h
   have e':aI (a :: b :: r) y=aI (b :: r) y:=if_neg (by omega)
   rw[e,e']
   exact ti (a:=b) u3 (by omega) hy
structure qA(x y:Ice):Prop where
 c:0<=x.ar/\x.ar<=y.ar
 t:0<=x.ai/\x.ai<=y.ai
 r:0<=x.ak/\x.ak<=y.ak
 p:0<=x.aj/\x.aj<=y.aj
structure yM(s:Shp):Prop where
 th:cT s.th (-1)=true
 wa:cT s.wa 1=true
 ic:cT s.ic 1=true
 n:0<=s.slow/\(0<=s.aw/\s.aw<=100)/\0<=s.rdg/\0<=s.prs
theorem ya{s:Shp}(e:aZ s=0):yM s:=by
 unfold aZ at e
 split at e
 ·cases e
 split at e
 ·cases e
 split at e
 ·cases e
 rename_i h3
 split at e
 ·cases e
 rename_i h4
 split at e
 ·cases e
 rename_i h5
 split at e
 ·cases e
 rename_i h6
 simp only[Bool.not_eq_false,Bool.and_eq_true,bj]at h3 h4 h5 h6
 exact ⟨h4.1,h5.1,h6.1.1,by omega,by omega,by omega,by omega⟩
theorem EP{a D k:Int}(hD:0<D)(ha:0<=a)(h:a<=k*D):Int.tdiv (a+D-1) D<=k:=by
 rw[Int.tdiv_eq_ediv_of_nonneg (by omega)]
 have:=Int.ediv_lt_of_lt_mul (a:=a+D-1) (b:=k+1) hD (by rw[Int.add_mul,Int.one_mul];omega)
 omega
theorem le_ceil{a D:Int}(hD:0<D)(ha:0<=a):a<=Int.tdiv (a+D-1) D*D:=by
 rw[Int.tdiv_eq_ediv_of_nonneg (by omega)]
 have h1:=Int.mul_ediv_add_emod (a+D-1) D
 have h2:=Int.emod_lt_of_pos (a+D-1) hD
 rw[Int.mul_comm]at h1
 omega
theorem An{a' D' a D:Int}(h':0<D')(h:0<D)(ha':0<=a')(ha:0<=a)(hx:a'*D<=a*D'):Int.tdiv (a'+D'-1) D'<=Int.tdiv (a+D-1) D:=by
 refine EP h' ha' ?_
 have h1:=Int.mul_le_mul_of_nonneg_right (le_ceil h ha) (show 0<=D' by omega)
 have h2:a'*D<=Int.tdiv (a+D-1) D*D'*D:=by
  refine Int.le_trans hx (Int.le_trans h1 ?_)
  rw[Int.mul_right_comm];exact Int.le_refl _
 exact Int.le_of_mul_le_mul_right h2 h
theorem zw{s:Shp}(o:yM s){x x':Ice}(i:qA x' x){ch ch':Bool}(hc:ch=true->ch'=true){v:Int}(hv:0<=v) :
  (0<=ry s x' ch' v/\0<=ry s x ch v)/\ry s x' ch' v*((aI s.ic x.ai).2*10000000)<=ry s x ch v*((aI s.ic x'.ai).2*10000000):=by
 have co:=bk o.ic
 have hx':=i.t.1
 obtain ⟨b1,b2,_⟩:=fJ co hx'
 obtain ⟨b3,b4,_⟩:=fJ co (show 0<=x.ai by have:=i.t;omega)
 have cr:(aI s.ic x'.ai).1*(aI s.ic x.ai).2<=(aI s.ic x.ai).1*(aI s.ic x'.ai).2:=by
  have u:=Ik o.ic
  have hl:=co.len
  have h0:=co.x0
  cases hs:s.ic with
  |nil=>rw[hs]at hl;simp at hl
  |cons a r=>rw[hs]at u h0;exact ti u (by show a.1<=_;have:a.1=0:=h0;omega) i.t.2
 have hsh:0<=(if ch' then s.aw else 100)/\(if ch' then s.aw else 100)<=(if ch then s.aw else 100):=by
  have:=o.n
  cases ch <;> cases ch' <;> simp_all
 have hri:0<=(if ch' then 0 else x'.ak)/\(if ch' then 0 else x'.ak)<=(if ch then 0 else x.ak):=by
  have:=i.r
  cases ch <;> cases ch' <;> simp_all <;> omega
 unfold ry
 generalize (if ch' then s.aw else 100)=sh' at *
 generalize (if ch then s.aw else 100)=sh at *
 generalize (if ch' then 0 else x'.ak)=ri' at *
 generalize (if ch then 0 else x.ak)=ri at *
 generalize (aI s.ic x'.ai).1=a' at *
 generalize (aI s.ic x'.ai).2=d' at *
 generalize (aI s.ic x.ai).1=a at *
 generalize (aI s.ic x.ai).2=d at *
 have hA:0<=1000+s.slow*v:=by have:=Int.mul_nonneg o.n.1 hv;omega
 generalize 1000+s.slow*v=A at *
 have hg:=o.n.2.2.1
 generalize s.rdg=g at *
 have t1':0<=a'*A*sh':=Int.mul_nonneg (Int.mul_nonneg b2 hA) hsh.1
 have t2':0<=g*ri'*d'*100000:=Int.mul_nonneg (Int.mul_nonneg (Int.mul_nonneg hg hri.1) (by omega)) (by decide)
 have t1:0<=a*A*sh:=Int.mul_nonneg (Int.mul_nonneg b4 hA) (by omega)
 have t2:0<=g*ri*d*100000:=Int.mul_nonneg (Int.mul_nonneg (Int.mul_nonneg hg (by omega)) (by omega)) (by decide)
 have c1:a'*A*sh'*d<=a*A*sh*d':=by
  have e1:a'*A*sh'*d=a'*d*(A*sh'):=by ac_rfl
  have e2:a*A*sh*d'=a*d'*(A*sh):=by ac_rfl
  rw[e1,e2]
  exact FH cr (Int.mul_le_mul_of_nonneg_left hsh.2 hA) (Int.mul_nonneg hA hsh.1) (Int.mul_nonneg b4 (by omega))
 have c2:g*ri'*d'*100000*d<=g*ri*d*100000*d':=by
  have e1:g*ri'*d'*100000*d=ri'*(g*d'*100000*d):=by ac_rfl
  have e2:g*ri*d*100000*d'=ri*(g*d'*100000*d):=by ac_rfl
  rw[e1,e2]
  exact Int.mul_le_mul_of_nonneg_right hri.2 (Int.mul_nonneg (Int.mul_nonneg (Int.mul_nonneg hg (by omega)) (by decide)) (by omega))
 refine ⟨⟨Int.mul_nonneg i.c.1 (by omega),Int.mul_nonneg (by have:=i.c;omega) (by omega)⟩,?_⟩
 have c3:(a'*A*sh'+g*ri'*d'*100000)*d<=(a*A*sh+g*ri*d*100000)*d':=by rw[Int.add_mul,Int.add_mul];omega
 have c4:=FH i.c.2 c3 (Int.mul_nonneg (by omega) (by omega)) (by have:=i.c;omega)
 have c5:=Int.mul_le_mul_of_nonneg_right c4 (show (0:Int)<=10000000 by decide)
 have e1:x'.ar*(a'*A*sh'+g*ri'*d'*100000)*(d*10000000)=x'.ar*((a'*A*sh'+g*ri'*d'*100000)*d)*10000000:=by ac_rfl
 have e2:x.ar*(a*A*sh+g*ri*d*100000)*(d'*10000000)=x.ar*((a*A*sh+g*ri*d*100000)*d')*10000000:=by ac_rfl
 rw[e1,e2];exact c5
theorem zx{s:Shp}(o:yM s){x x':Ice}(i:qA x' x){ch ch':Bool}(hc:ch=true->ch'=true){v:Int}(hv:0<=v):rz s x' ch' v<=rz s x ch v:=by
 have co:=bk o.ic
 obtain ⟨b1,_,_⟩:=fJ co i.t.1
 obtain ⟨b3,_,_⟩:=fJ co (show 0<=x.ai by have:=i.t;omega)
 obtain ⟨w1,w2,_⟩:=fJ (bk o.wa) hv
 obtain ⟨⟨n1,n2⟩,n3⟩:=zw o i hc hv
 unfold rz
 dsimp only
 have hp:=o.n.2.2.2
 have hpr:=i.p
 generalize ry s x' ch' v=n' at *
 generalize ry s x ch v=n at *
 generalize (aI s.wa v).1=w at *
 generalize (aI s.wa v).2=wd at *
 have d1:0<(aI s.ic x'.ai).2*10000000:=by omega
 have d2:0<(aI s.ic x.ai).2*10000000:=by omega
 generalize (aI s.ic x'.ai).2*10000000=d' at *
 generalize (aI s.ic x.ai).2*10000000=d at *
 have p1:0<=s.prs*x'.aj:=Int.mul_nonneg hp hpr.1
 have p2:s.prs*x'.aj<=s.prs*x.aj:=Int.mul_le_mul_of_nonneg_left hpr.2 hp
 generalize s.prs*x'.aj=P' at *
 generalize s.prs*x.aj=P at *
 have hw:0<wd:=by omega
 refine An (Int.mul_pos hw d1) (Int.mul_pos hw d2) ?_ ?_ ?_
 ·have:=Int.mul_nonneg w2 (show 0<=d' by omega)
  have:=Int.mul_nonneg n1 (show 0<=wd by omega)
  have:=Int.mul_nonneg (Int.mul_nonneg p1 (show 0<=wd by omega)) (show 0<=d' by omega)
  omega
 ·have:=Int.mul_nonneg w2 (show 0<=d by omega)
  have:=Int.mul_nonneg n2 (show 0<=wd by omega)
  have:=Int.mul_nonneg (Int.mul_nonneg (show 0<=P by omega) (show 0<=wd by omega)) (show 0<=d by omega)
  omega
 ·rw[Int.add_mul,Int.add_mul,Int.add_mul,Int.add_mul]
  have e1:w*d'*(wd*d)=w*d*(wd*d'):=by ac_rfl
  have e2:n'*wd*(wd*d)=n'*d*(wd*wd):=by ac_rfl
  have e3:n*wd*(wd*d')=n*d'*(wd*wd):=by ac_rfl
  have e4:P'*wd*d'*(wd*d)=P'*(wd*d'*(wd*d)):=by ac_rfl
  have e5:P*wd*d*(wd*d')=P*(wd*d'*(wd*d)):=by ac_rfl
  rw[e1,e2,e3,e4,e5]
  have f1:=Int.mul_le_mul_of_nonneg_right n3 (Int.mul_nonneg (show 0<=wd by omega) (show 0<=wd by omega))
  have f2:=Int.mul_le_mul_of_nonneg_right p2 (Int.mul_nonneg (Int.mul_nonneg (show 0<=wd by omega) (show 0<=d' by omega)) (Int.mul_nonneg (show 0<=wd by omega) (show 0<=d by omega)))
  omega
theorem vD{a b:Int}(ha:0<=a)(h:a<=b):0<=Int.tdiv (a+1) 2/\Int.tdiv (a+1) 2<=Int.tdiv (b+1) 2/\Int.tdiv (a+1) 2<=a:=by
 rw[Int.tdiv_eq_ediv_of_nonneg (by omega),Int.tdiv_eq_ediv_of_nonneg (by omega)];omega
theorem vS{x x':Ice}(i:qA x' x){ch ch':Bool}(hc:ch=true->ch'=true){v:Int}(hv:0<=v):iz x' v ch'<=iz x v ch:=by
 have hc1:=i.c;have ht:=i.t;have hr:=i.r;have hp:=i.p
 have t0:0<=x'.ai*(100+v):=Int.mul_nonneg ht.1 (by omega)
 have t1:x'.ai*(100+v)<=x.ai*(100+v):=Int.mul_le_mul_of_nonneg_right ht.2 (by omega)
 have q:=vD t0 t1
 unfold iz
 generalize x'.ai*(100+v)=a at *
 generalize x.ai*(100+v)=b at *
 by_cases h:x'.ar=0
 ·rw[if_pos h]
  split
  ·omega
  ·cases ch <;> simp <;> omega
 ·rw[if_neg h,if_neg (show ¬ x.ar=0 by omega)]
  cases ch <;> cases ch' <;> simp_all <;> omega
theorem kW{f g:Int->Bool}:∀(n:Nat) {lo hi:Int},lo<=hi->(∀v,lo<=v->v<=hi->f v=true->g v=true)->bsG f n lo hi<=bsG g n lo hi
 |0,_,_,_,_=>Int.le_refl _
 |n+1,lo,hi,hl,h=>by
  show (if lo<hi then _ else _)<=(if lo<hi then _ else _)
  by_cases q:lo<hi
  ·rw[if_pos q,if_pos q]
   have m:lo<lo+Int.tdiv (hi-lo+1) 2/\lo+Int.tdiv (hi-lo+1) 2<=hi:=by rw[Int.tdiv_eq_ediv_of_nonneg (by omega)];omega
   by_cases hf:f (lo+Int.tdiv (hi-lo+1) 2)=true
   ·rw[if_pos hf,if_pos (h _ (by omega) m.2 hf)]
    exact kW n m.2 fun v a b=>h v (by omega) b
   ·rw[if_neg hf]
    by_cases hg:g (lo+Int.tdiv (hi-lo+1) 2)=true
    ·rw[if_pos hg]
     have a:=(lV f n lo (lo+Int.tdiv (hi-lo+1) 2-1) (by omega)).2
     have b:=(lV g n (lo+Int.tdiv (hi-lo+1) 2) hi m.2).1
     omega
    ·rw[if_neg hg]
     exact kW n (by omega) fun v a b=>h v a (by omega)
  ·rw[if_neg q,if_neg q];exact Int.le_refl _
theorem ns{s:Shp}(o:yM s){x x':Ice}(i:qA x' x){ch ch':Bool}(hc:ch=true->ch'=true){v:Int}(hv:0<=v)(h:mkB s x ch v=true):mkB s x' ch' v=true:=by
 unfold mkB at *
 rw[Bool.and_eq_true,decide_eq_true_eq,decide_eq_true_eq]at *
 have:=zx o i hc hv
 exact ⟨h.1,by omega⟩
theorem CB{s:Shp}{x x':Ice}(i:qA x' x){ch ch':Bool}(hc:ch=true->ch'=true){v:Int}(hv:0<=v)(h:brB s x ch v=true):brB s x' ch' v=true:=by
 unfold brB at *
 rw[decide_eq_true_eq]at *
 have:=vS i hc hv
 omega
structure fG(a b:Cell):Prop where
 c:a.ar.hi<=b.ar.hi
 t:a.ai.hi<=b.ai.hi
 r:a.ak.hi<=b.ak.hi
 p:a.aj.hi<=b.aj.hi
theorem fG.refl(a:Cell):fG a a:=⟨Int.le_refl _,Int.le_refl _,Int.le_refl _,Int.le_refl _⟩
theorem A1{s:Shp}{a b:Cell}(ha:bv a)(hb:bv b)(l:fG a b){ch ch':Bool}(hc:ch=true->ch'=true):(sfX s b ch).1<=(sfX s a ch').1:=by
 unfold sfX
 by_cases e:aZ s=0
 ·have o:=ya e
  rw[if_pos e,if_pos e,if_pos (show aM b=0 from if_pos hb),if_pos (show aM a=0 from if_pos ha)]
  have i:qA (de a) (de b):=by
   obtain ⟨h1,h2,h3,h4⟩:=ha
   unfold bO at h1 h2 h3 h4
   exact ⟨⟨by show 0<=a.ar.hi;omega,l.c⟩,⟨by show 0<=a.ai.hi;omega,l.t⟩,⟨by show 0<=a.ak.hi;omega,l.r⟩,⟨by show 0<=a.aj.hi;omega,l.p⟩⟩
  have g0:0<=(sfS s a ch').1:=by
   unfold sfS
   split
   ·exact Int.le_refl _
   ·split
    ·exact Int.le_refl _
    ·exact (Cf s _ _).1
  have s0:ls s (de b) ch<=ls s (de a) ch':=by
   unfold ls grG
   by_cases q:mkB s (de b) ch 0=true
   ·rw[if_pos q,if_pos (ns o i hc (Int.le_refl _) q)]
    exact kW _ (by decide) fun v h1 h2 h3=>ns o i hc h1 h3
   ·rw[if_neg q]
    split
    ·exact (lV _ _ _ _ (by decide)).1
    ·exact Int.le_refl _
  unfold sfS at *
  by_cases q:ls s (de b) ch<10
  ·rw[if_pos q];exact g0
  ·rw[if_neg q]
   rw[if_neg (show ¬ ls s (de a) ch'<10 by omega)]at g0 ⊢
   by_cases r:(goS s (de b) ch).2=false
   ·rw[if_pos r];exact g0
   ·rw[if_neg r]
    have mm:∀v:Int,0<=v->mbB s (de b) ch v=true->mbB s (de a) ch' v=true:=fun v hv h=>by
     unfold mbB at *
     rw[Bool.and_eq_true]at *
     exact ⟨ns o i hc hv h.1,CB i hc hv h.2⟩
    unfold goS grG at r ⊢
    by_cases f:mbB s (de b) ch 10=true
    ·rw[if_pos f]
     have f':=mm 10 (by decide) f
     rw[if_pos f',if_neg (fun e=>by cases e)]
     exact kW _ (by decide) fun v h1 h2 h3=>mm v (by omega) h3
    ·rw[if_neg f]at r;exact absurd rfl r
 ·rw[if_neg e]
  show 0<=_
  split
  ·split
   ·unfold sfS
    split
    ·exact Int.le_refl _
    ·split
     ·exact Int.le_refl _
     ·exact (Cf s _ _).1
   ·exact Int.le_refl _
  ·exact Int.le_refl _
theorem Walk.waits{p:Pl}{l:List Leg}{c t:Int}(k:Walk p l c t):∀n:Nat,t+(n:Int)<=endP p->wtB p c t (t+(n:Int))=true->Walk p l c (t+(n:Int))
 |0,_,_=>by rw[show t+((0:Nat):Int)=t by omega];exact k
 |n+1,h,w=>by
  have w':=gi.1 w
  have k1:=Walk.waits k n (by omega) (gi.2 fun u h1 h2=>w' u h1 (by omega))
  have q:=w' (t+(n:Int)) (by omega) (by omega)
  have:=k1.le
  rw[show t+((n+1:Nat):Int)=t+(n:Int)+1 by omega]
  exact ⟨k1.ok,k1.at_,k1.r0,.wait k1.r (xo q) (by omega),by omega,mS k1.le k1.w q,by omega⟩
theorem xP{p:Pl}{a:Int}:∀(n:Nat) {c t:Int},t<=a->Int.toNat (a-t)=n->lfP p a c t=0->c=p.to
 |0,c,t,h1,h2,h3=>by
  obtain rfl:t=a:=by omega
  rw[jm]at h3
  by_cases e:c=p.to
  ·exact e
  ·rw[if_neg e]at h3;omega
 |n+1,c,t,h1,h2,h3=>by
  have hlt:t<a:=by omega
  rw[lI hlt]at h3
  rcases nD p a (lgP p c t) (lf0 p a c t) with e|⟨x,hx,hxa,e⟩
  ·rw[e]at h3
   unfold lf0 at h3
   by_cases w:wtB p c t (t+1)=true
   ·rw[if_pos w]at h3
    exact xP n (by omega) (by omega) h3
   ·rw[if_neg w]at h3;omega
  ·have:=(Bq p (c:=x.to) hxa).1;omega
theorem qs{p:Pl}(o:bV p)(h:0<=bG p):∀k:Nat,(k:Int)<=lfP p (bG p) p.frm 0->Walk p (bsL p (bG p) k) (bsC p (bG p) k) (bsT p (bG p) k)
 |0,_=>Walk.start o
 |k+1,hk=>by
  have b:=Ht o h
  have ih:=qs o h k (by omega)
  have A:=ET o b k (by omega)
  have hp:=oG A.t.2 (by have:=A.n;omega) (by have:=A.n;have:=b.fin;omega)
  obtain ⟨j,j1,j2,j3,j4,_⟩:=vh (x:=nxL p (bG p) k) (uQ hp)
  have w:=ih.waits j (by have:=b.a1;omega) j2
  have:=w.leg j3
  rw[u5,CA,Cy];exact this
structure HX(p:Pl):Prop where
 w:Walk p (ap p) p.to (bG p)
 t:acT (ap p) (ap p).length=bG p
 n:(ap p).length<=300
theorem kY{p:Pl}(o:bV p)(h:0<=bG p):HX p:=by
 have b:=Ht o h
 have he:=yj o
 have n0:=(Bq p (c:=p.frm) b.a0).1
 have e:ap p=bsL p (bG p) (Int.toNat (lfP p (bG p) p.frm 0)):=by unfold ap dW;rw[if_neg (by omega)]
 have k:=qs o h (Int.toNat (lfP p (bG p) p.frm 0)) (by omega)
 have A:=ET o b (Int.toNat (lfP p (bG p) p.frm 0)) (by omega)
 have z:lfP p (bG p) (bsC p (bG p) (Int.toNat (lfP p (bG p) p.frm 0))) (bsT p (bG p) (Int.toNat (lfP p (bG p) p.frm 0)))=0:=by have:=A.n;unfold bsN at this;omega
 have hc:=xP _ A.t.2 rfl z
 rw[hc]at k
 have l:=(jy o k.r k.e).2
 have ht:bsT p (bG p) (Int.toNat (lfP p (bG p) p.frm 0))=bG p:=by have:=A.t.2;omega
 rw[ht]at k
 have l0:=(jy o k.r0 (by have:=k.le;have:=k.e;omega)).2
 rw[<- e]at k l0
 refine ⟨k,by have:=k.le;omega,?_⟩
 have l1:=(FK k.r (Int.le_refl _)).2
 rw[jm,if_pos rfl]at l1
 rw[e,yp]
 have:=b.a1
 omega
structure Inn(q p:Pl):Prop where
 w:q.w=p.w
 h:q.h=p.h
 land:q.land=p.land
 shp:q.shp=p.shp
 size:q.size=p.size
 frm:q.frm=p.frm
 to:q.to=p.to
 cts:q.cts.length=p.cts.length
 chan:∀j:Nat,p.chan.getD j false=true->q.chan.getD j false=true
 rp:∀i j:Nat,bv ((p.cts.getD i zCh).cells.getD j am)
 rq:∀i j:Nat,bv ((q.cts.getD i zCh).cells.getD j am)
 le:∀i j:Nat,fG ((q.cts.getD i zCh).cells.getD j am) ((p.cts.getD i zCh).cells.getD j am)
theorem A7:bv am:=by unfold bv bO am;decide
theorem bV.right{p:Pl}(o:bV p)(i j:Nat):bv ((p.cts.getD i zCh).cells.getD j am):=by
 by_cases hi:i<p.cts.length
 ·by_cases hj:j<(p.cts.getD i zCh).cells.length
  ·exact (o.dE hi).cell j hj
  ·rw[List.getD_eq_getElem?_getD (l:=(p.cts.getD i zCh).cells),List.getElem?_eq_none (by omega)];exact A7
 ·rw[List.getD_eq_getElem?_getD (l:=p.cts),List.getElem?_eq_none (by omega)];exact A7
theorem Inn.sf{q p:Pl}(n:Inn q p)(c t:Int):sfP p c t<=sfP q c t:=by
 unfold sfP
 rw[n.shp]
 exact A1 (n.rq _ _) (n.rp _ _) (n.le _ _) (n.chan _)
theorem Inn.Cr{q p:Pl}(n:Inn q p):endP q=endP p:=by unfold endP;rw[n.cts]
theorem Inn.bs{q p:Pl}(n:Inn q p)(c:Int):bsP q c=bsP p c:=by
 unfold bsP eM nbB nbT nbU nbV
 rw[n.w,n.h,n.land]
theorem Inn.tk{q p:Pl}(n:Inn q p)(v:Int):tkP q v=tkP p v:=by unfold tkP;rw[n.size]
theorem Inn.wt{q p:Pl}(n:Inn q p){c a b:Int}(h:wtB p c a b=true):wtB q c a b=true:=gi.2 fun u h1 h2=>by
 have:=gi.1 h u h1 h2
 have:=xB p c (Int.tdiv u 6)
 have:=n.sf c (Int.tdiv u 6)
 omega
theorem Inn.low{q p:Pl}(n:Inn q p)(to t:Int):∀k,bQ p to t k<=bQ q to t k
 |0=>Int.le_refl _
 |k+1=>by
  have i:=n.low to t k
  have s:=n.sf to (Int.tdiv (t+(k:Int)) 6)
  show (if _ then _ else _)<=(if _ then _ else _)
  split <;> split <;> omega
theorem Inn.sp{q p:Pl}(n:Inn q p)(to t:Int)(k:Nat):spL p to t k<=spL q to t k:=by
 have l:=n.low to t k
 unfold spL
 rw[n.size]
 split
 ·split <;> split <;> omega
 ·exact l
theorem ll{s v m:Int}(hs:0<=s)(hv:1<=v):Int.tdiv (s+v-1) v=m ↔ v*(m-1)<s/\s<=v*m:=by
 rw[Int.tdiv_eq_ediv_of_nonneg (by omega)]
 have h1:=Int.mul_ediv_add_emod (s+v-1) v
 have h2:=Int.emod_nonneg (s+v-1) (show v≠0 by omega)
 have h3:=Int.emod_lt_of_pos (s+v-1) (show 0<v by omega)
 have e1:∀m:Int,v*(m-1)=v*m-v:=fun m=>by rw[Int.mul_sub,Int.mul_one]
 constructor
 ·rintro rfl
  rw[e1]
  exact ⟨by omega,by omega⟩
 ·rintro ⟨g1,g2⟩
  rw[e1]at g1
  have a:(s+v-1) / v<m+1:=Int.ediv_lt_of_lt_mul (by omega) (by rw[Int.mul_comm,Int.mul_add,Int.mul_one];omega)
  have b:m<=(s+v-1) / v:=Int.le_ediv_of_mul_le (by omega) (by rw[Int.mul_comm];omega)
  omega
theorem EQ{s k v:Int}(hs:0<=s)(hk:1<=k):v<=Int.tdiv (s-1) k->1<=s->v*k<s:=fun h h1=>by
 rw[Int.tdiv_eq_ediv_of_nonneg (by omega)]at h
 have:=(Int.le_ediv_iff_mul_le (by omega)).1 h
 omega
theorem DP(p:Pl)(to t:Int){n:Nat}(h:1<n):spL p to t n<=Int.tdiv (6*p.size-1) ((n:Int)-1):=by
 unfold spL
 rw[if_pos h]
 split <;> omega
theorem Inn.leg{q p:Pl}(n:Inn q p)(hz:1<=p.size){c t:Int}{x:Leg}(h:x∈lgP p c t):∃y∈lgP q c t,y.to=x.to/\y.arr=x.arr:=by
 unfold lgP at h ⊢
 obtain ⟨to,h1,h2⟩:=List.mem_flatMap.1 h
 obtain ⟨k,h3,h4⟩:=j0 h2
 obtain ⟨e1,e2,e3,e4,e5,e6⟩:=lH h4
 refine ⟨⟨to,t,spL q to t (k+1),t+1+(k:Int)⟩,List.mem_flatMap.2 ⟨to,by rw[n.bs];exact h1,?_⟩,e1.symm,e3.symm⟩
 have ok:okL q to t (k+1)=true:=by
  unfold okL at e5 ⊢
  rw[List.all_eq_true]at e5 ⊢
  intro j hj
  have g:=e5 j hj
  unfold goB at g ⊢
  rw[Bool.and_eq_true,decide_eq_true_eq,decide_eq_true_eq]at g ⊢
  have:=n.low to t (j+1);have:=n.sp to t (j+1)
  omega
 have g:=Bh e5 (Nat.lt_succ_self k)
 unfold goB at g
 rw[Bool.and_eq_true,decide_eq_true_eq,decide_eq_true_eq]at g
 have sp:=n.sp to t (k+1)
 rw[e4]at e6
 unfold tkP at e6
 have u:=(ll (by omega) (by omega)).1 e6
 have tk:tkP q (spL q to t (k+1))=((k+1:Nat):Int):=by
  unfold tkP
  rw[n.size]
  refine (ll (by omega) (by omega)).2 ⟨?_,Int.le_trans u.2 (Int.mul_le_mul_of_nonneg_right sp (by omega))⟩
  by_cases q1:1<k+1
  ·have c:=DP q to t q1
   rw[n.size]at c
   exact EQ (by omega) (by omega) c (by omega)
  ·rw[show (((k+1:Nat):Int)-1)=0 by omega,Int.mul_zero];omega
 unfold iU bK
 refine List.mem_flatMap.2 ⟨k,List.mem_range.2 (by rw[n.Cr];omega),?_⟩
 unfold eh
 rw[ok,show (tkP q (spL q to t (k+1)) == ((k+1:Nat):Int))=true from beq_iff_eq.2 tk]
 exact List.mem_singleton.2 rfl
theorem Inn.rch{q p:Pl}(n:Inn q p)(hz:1<=p.size){t c:Int}(r:Rch p t c):Rch q t c:=by
 induction r with
 |start=>rw[<- n.frm];exact .start
 |wait r w h ih=>exact .wait ih (n.wt w) (by rw[n.Cr];exact h)
 |leg r h m ih =>
  obtain ⟨y,hy,e1,e2⟩:=n.leg hz m
  rw[<- e1,<- e2];exact .leg ih (by rw[n.Cr];exact h) hy
theorem Inn.arr{q p:Pl}(n:Inn q p)(oq:bV q)(op:bV p)(h:0<=bG p):0<=bG q/\bG q<=bG p:=by
 have b:=kY op h
 have r:=n.rch op.size.1 b.w.r
 rw[<- n.to]at r
 exact jy oq r (by rw[n.Cr];exact b.w.e)
theorem Inn.acE{q p:Pl}(n:Inn q p){c t:Int}{x:Leg}(h:acE p c t x=0):acE q c t x=0:=by
 obtain ⟨a,b,d,e⟩:=vg h
 refine sH (fh.2 ?_) (by rw[n.Cr];exact b) (n.wt d) ?_
 ·have:=fh.1 a
  rw[n.bs,n.tk];exact this
 ·unfold jZ at e ⊢
  rw[List.all_eq_true]at e ⊢
  intro j hj
  have:=e j hj
  rw[Bool.not_eq_true',decide_eq_false_iff_not]at this ⊢
  unfold acD at this ⊢
  have:=n.sf x.to (Int.tdiv (x.dep+(j:Int)) 6)
  omega
theorem Inn.acC{q p:Pl}(n:Inn q p)(l:List Leg):∀k,acC q l k=acC p l k
 |0=>n.frm
 |k+1=>rfl
theorem pT{q p:Pl}(n:Inn q p){x:Leg}{a b:Int}(h:a<=b):∀k,nu p x a k<=nu q x b k
 |0=>h
 |k+1=>by
  have i:=pT n (x:=x) h k
  have s:acD p x k<=acD q x k:=by unfold acD;have:=n.sf x.to (Int.tdiv (x.dep+(k:Int)) 6);omega
  show (if _ then _ else _)<=(if _ then _ else _)
  split <;> split <;> omega
theorem vf{q p:Pl}(n:Inn q p)(l:List Leg):∀k,acM p l k<=acM q l k
 |0=>Int.le_refl _
 |k+1=>pT n (vf n l k) _
theorem Inn.acc{q p:Pl}(n:Inn q p){l:List Leg}(h:bR p l=0):bR q l=0/\dc q l=dc p l/\cN p l<=cN q l:=by
 have h':=h
 unfold bR at h'
 by_cases hl:300<l.length
 ·rw[if_pos hl]at h';cases h'
 rw[if_neg hl]at h'
 obtain ⟨h1,h2⟩:=cS h'
 have e:bR q l=0:=by
  unfold bR
  rw[if_neg hl,bC (mL fun i hi =>?_),n.acC,n.to]
  ·exact h2
  ·unfold acU
   rw[n.acC]
   exact n.acE (dJ h1 i hi)
 refine ⟨e,?_,?_⟩
 ·unfold dc;rw[if_pos e,if_pos h]
 ·unfold cN;rw[if_pos e,if_pos h];exact vf n l _
theorem CC{p:Pl}(o:bV p)(h:0<=bG p):bR p (ap p)=0/\dc p (ap p)=bG p:=by
 have b:=kY o h
 have w:=b.w.home o b.n
 exact ⟨w.1,by rw[w.2.1];exact b.t⟩
def Still(p:Pl):Prop:=∀i,i<p.cts.length->(p.cts.getD i zCh).cells=(p.cts.getD 0 zCh).cells
theorem Still.sf{p:Pl}(s:Still p){c t:Int}(h0:0<=t)(h1:t<endP p):sfP p c (Int.tdiv t 6)=sfP p c 0:=by
 have d:=Fx (e:=((p.cts.length:Nat):Int)) h0 h1
 unfold sfP
 rw[s (Int.toNat (Int.tdiv t 6)) (by omega)];rfl
theorem Still.low{p:Pl}(s:Still p){to t:Int}(h0:0<=t):∀n:Nat,t+(n:Int)+1<=endP p->bQ p to t (n+1)=sfP p to 0
 |0,h=>by
  show (if sfP p to (Int.tdiv (t+((0:Nat):Int)) 6)<bQ p to t 0 then sfP p to (Int.tdiv (t+((0:Nat):Int)) 6) else bQ p to t 0)=_
  have e:bQ p to t 0=250:=rfl
  have b:=(xB p to 0).2
  rw[e,s.sf (by omega) (by omega)]
  split <;> omega
 |n+1,h=>by
  show (if sfP p to (Int.tdiv (t+((n+1:Nat):Int)) 6)<bQ p to t (n+1) then sfP p to (Int.tdiv (t+((n+1:Nat):Int)) 6) else bQ p to t (n+1))=_
  rw[s.low h0 n (by omega),s.sf (by omega) (by omega),if_neg (Int.lt_irrefl _)]
def tkS(p:Pl)(c:Int):Int:=tkP p (sfP p c 0)
theorem rf{p:Pl}(hz:1<=p.size){v:Int}(hv:1<=v):1<=tkP p v:=by
 have h:=(ll (s:=6*p.size) (m:=tkP p v) (by omega) hv).1 rfl
 rcases Int.lt_or_le (tkP p v) 1 with g|g
 ·have:=Int.mul_le_mul_of_nonneg_left (show tkP p v<=0 by omega) (show 0<=v by omega)
  omega
 ·exact g
theorem DL{p:Pl}(hz:1<=p.size){v w:Int}(hv:1<=v)(h:v<=w):tkP p w<=tkP p v:=by
 have a:=(ll (s:=6*p.size) (m:=tkP p v) (by omega) hv).1 rfl
 have b:=(ll (s:=6*p.size) (m:=tkP p w) (by omega) (show 1<=w by omega)).1 rfl
 have c:=rf hz hv
 rcases Int.lt_or_le (tkP p v) (tkP p w) with g|g
 ·have d:=Int.mul_le_mul_of_nonneg_left (show tkP p v<=tkP p w-1 by omega) (show 0<=w by omega)
  have e:=Int.mul_le_mul_of_nonneg_right h (show 0<=tkP p v by omega)
  omega
 ·exact g
theorem Still.leg{p:Pl}(s:Still p)(hz:1<=p.size){c t to:Int}(hto:to∈bsP p c)(h0:0<=t)(hv:10<=sfP p to 0)(he:t+tkS p to<=endP p):∃x∈lgP p c t,x.to=to/\x.arr=t+tkS p to:=by
 have k1:=rf hz (show 1<=sfP p to 0 by omega)
 obtain ⟨k,hk⟩:∃k:Nat,tkP p (sfP p to 0)=((k+1:Nat):Int):=⟨Int.toNat (tkP p (sfP p to 0)-1),by omega⟩
 have u:=(ll (s:=6*p.size) (by omega) (show 1<=sfP p to 0 by omega)).1 hk
 unfold tkS at he ⊢
 rw[hk]at he ⊢
 have sp:∀j:Nat,j<=k->spL p to t (j+1)=sfP p to 0:=fun j hj=>by
  have l:=s.low (to:=to) h0 j (by omega)
  unfold spL
  rw[l]
  by_cases q:1<j+1
  ·rw[if_pos q]
   have m:=Int.mul_le_mul_of_nonneg_left (show ((j:Nat):Int)<=(((k+1:Nat):Int)-1) by omega) (show 0<=sfP p to 0 by omega)
   have d:sfP p to 0<=Int.tdiv (6*p.size-1) (((j+1:Nat):Int)-1):=by
    rw[Int.tdiv_eq_ediv_of_nonneg (by omega)]
    refine Int.le_ediv_of_mul_le (by omega) ?_
    rw[show (((j+1:Nat):Int)-1)=(j:Int) by omega]
    omega
   rw[if_neg (by omega)]
  ·rw[if_neg q]
 refine ⟨⟨to,t,spL p to t (k+1),t+1+(k:Int)⟩,List.mem_flatMap.2 ⟨to,hto,?_⟩,rfl,by show t+1+(k:Int)=_;omega⟩
 have ok:okL p to t (k+1)=true:=by
  unfold okL
  rw[List.all_eq_true]
  intro j hj
  have:=List.mem_range.1 hj
  unfold goB
  rw[sp j (by omega),s.low h0 j (by omega),Bool.and_eq_true,decide_eq_true_eq]
  exact ⟨hv,hv⟩
 unfold iU bK
 refine List.mem_flatMap.2 ⟨k,List.mem_range.2 (by omega),?_⟩
 unfold eh
 rw[ok,show (tkP p (spL p to t (k+1)) == ((k+1:Nat):Int))=true from beq_iff_eq.2 (by rw[sp k (Nat.le_refl k)];exact hk)]
 exact List.mem_singleton.2 rfl
def smS(p:Pl)(l:List Leg):Nat->Int
 |0=>0
 |k+1=>smS p l k+tkS p (l.getD k zL).to
theorem Still.go{p:Pl}(s:Still p)(hz:1<=p.size){l:List Leg}(h:cq (acU p l) l.length=0):∀k,k<=l.length->(0<=smS p l k/\smS p l k<=acT l k)/\Rch p (smS p l k) (acC p l k)/\∀j,j<k->10<=sfP p (l.getD j zL).to 0
 |0,_=>⟨⟨Int.le_refl _,Int.le_refl _⟩,.start,fun j hj=>absurd hj (Nat.not_lt_zero j)⟩
 |k+1,hk=>by
  obtain ⟨⟨i0,i1⟩,i2,i3⟩:=s.go hz h k (by omega)
  have e:acE p (acC p l k) (acT l k) (l.getD k zL)=0:=dJ h k (by omega)
  obtain ⟨a,b,_,d⟩:=vg e
  obtain ⟨b1,b2,b3,b4,b5⟩:=fh.1 a
  have b3:=bj.1 b3
  have tp:=rf hz (show 1<=(l.getD k zL).spd by omega)
  have hN:0<lgN (l.getD k zL):=by unfold lgN;omega
  have g:=List.all_eq_true.1 d 0 (List.mem_range.2 hN)
  rw[Bool.not_eq_true',decide_eq_false_iff_not]at g
  unfold acD at g
  rw[s.sf (by omega) (by omega)]at g
  have hv:10<=sfP p (l.getD k zL).to 0:=by omega
  have tm:=DL (w:=sfP p (l.getD k zL).to 0) hz (show 1<=(l.getD k zL).spd by omega) (by omega)
  have tq:=rf hz (show 1<=sfP p (l.getD k zL).to 0 by omega)
  obtain ⟨x,hx,e1,e2⟩:=s.leg hz (c:=acC p l k) (t:=smS p l k) (sy b1) i0 hv (by unfold tkS;omega)
  refine ⟨⟨?_,?_⟩,?_,fun j hj =>?_⟩
  ·show 0<=smS p l k+tkP p (sfP p (l.getD k zL).to 0);omega
  ·show smS p l k+tkP p (sfP p (l.getD k zL).to 0)<=(l.getD k zL).arr;omega
  ·show Rch p (smS p l k+tkS p (l.getD k zL).to) (l.getD k zL).to
   have r:=Rch.leg i2 (by omega) hx
   rw[e1,e2]at r;exact r
  ·by_cases q:j=k
   ·rw[q];exact hv
   ·exact i3 j (by omega)
structure Prt where
 cell:Cell
 ch:Bool
 len:Int
def zPr:Prt:=⟨am,false,0⟩
def spS(s:Shp)(x:Prt):Int:=(sfS s x.cell x.ch).1
def tkM(x:Prt)(v:Int):Int:=Int.tdiv (60*x.len+v-1) v
def hiM(s:Shp)(P:List Prt):Nat->Int
 |0=>0
 |k+1=>hiM s P k+tkM (P.getD k zPr) (spS s (P.getD k zPr))
structure Ky(s:Shp)(P:List Prt):Prop where
 n:1<=P.length/\P.length<=100
 len:∀k,k<P.length->1<=(P.getD k zPr).len/\(P.getD k zPr).len<=10000
 cell:∀k,k<P.length->aM (P.getD k zPr).cell=0
 safe:∀k,k<P.length->(sfS s (P.getD k zPr).cell (P.getD k zPr).ch).2=0
def stC(p:Pl)(k:Nat):List Cht:=(List.range (k+1)).map fun (j:Nat)=>⟨(p.cts.getD 0 zCh).w,(p.cts.getD 0 zCh).h,(p.cts.getD 0 zCh).hr+(j:Int),(p.cts.getD 0 zCh).cells⟩
def stP(p:Pl):Pl:={ p with cts:=stC p 5 }
def tP(p:Pl)(l:List Leg)(k:Nat):List Prt:=(List.range k).map fun j=>⟨(p.cts.getD 0 zCh).cells.getD (Int.toNat (l.getD j zL).to) am,p.chan.getD (Int.toNat (l.getD j zL).to) false,p.size⟩
def smL(p:Pl)(l:List Leg):Nat->Int
 |0=>0
 |k+1=>smL p l k+Int.tdiv (Int.tdiv (60*p.size+spS p.shp ((tP p l l.length).getD k zPr)-1) (if spS p.shp ((tP p l l.length).getD k zPr)<1 then 1 else spS p.shp ((tP p l l.length).getD k zPr))+9) 10
structure Kq(p:Pl)(l:List Leg):Prop where
 n:l.length<=36
 to:∀k,k<l.length->(0<=(l.getD k zL).to/\(l.getD k zL).to<(p.land.length:Int))
 sp:∀k,k<l.length->spS p.shp ((tP p l l.length).getD k zPr)=sfP (stP p) (l.getD k zL).to 0/\10<=sfP (stP p) (l.getD k zL).to 0
 sm:smL p l l.length=bq (stP p)
 bd:∀k,k<=l.length->0<=smL p l k/\smL p l k<=36
 hi:hiM p.shp (tP p l l.length) l.length<=10*bq (stP p)
 t:0<=bq (stP p)/\bq (stP p)<=36
def nSp(M:List Int)(m:Int)(s:Span):Span:=⟨s.lo+dN M m (s.hi-s.lo+1),s.lo+dN M m (s.hi-s.lo+1)+dN M (m+1) (s.hi-(s.lo+dN M m (s.hi-s.lo+1))+1)⟩
structure xf(a b:Span):Prop where
 l:b.lo<=a.lo
 o:a.lo<=a.hi
 h:a.hi<=b.hi
structure gh(a b:Cell):Prop where
 c:xf a.ar b.ar
 t:xf a.ai b.ai
 r:xf a.ak b.ak
 p:xf a.aj b.aj
def Nar(cs l:List Cell)(i:Nat):Prop:=l.length=cs.length/\∀j,j<cs.length->(j<i->gh (l.getD j am) (cs.getD j am))/\(i<=j->l.getD j am=cs.getD j am)
def Wid(a b:List Bool):Prop:=b.length=a.length/\∀j,a.getD j false=true->b.getD j false=true
def qCt(p:Pl)(i:Nat)(l:List Cell):Cht:=⟨(p.cts.getD i zCh).w,(p.cts.getD i zCh).h,(p.cts.getD i zCh).hr,l⟩
def inP(p:Pl)(cts:List Cht)(ch:List Bool):Pl:={ p with cts:=cts,chan:=ch }
theorem rF(M:List Int)(m:Int){s:Span}(h:s.lo<=s.hi):xf (nSp M m s) s:=by
 have a:=bf M m (m:=s.hi-s.lo+1) (by omega)
 have b:=bf M (m+1) (m:=s.hi-(s.lo+dN M m (s.hi-s.lo+1))+1) (by omega)
 exact ⟨by show s.lo<=s.lo+_;omega,by show s.lo+_<=s.lo+_+_;omega,by show s.lo+_+_<=s.hi;omega⟩
theorem xf.right{a b:Span}{m:Int}(i:xf a b)(h:bO b m):bO a m:=by
 have l:=i.l;have o:=i.o;have g:=i.h
 unfold bO at *;omega
theorem gh.right{a b:Cell}(i:gh a b)(h:bv b):bv a:=⟨i.c.right h.1,i.t.right h.2.1,i.r.right h.2.2.1,i.p.right h.2.2.2⟩
theorem gh.le{a b:Cell}(i:gh a b):fG a b:=⟨i.c.h,i.t.h,i.r.h,i.p.h⟩
theorem Nar.start(cs:List Cell):Nar cs cs 0:=⟨rfl,fun j hj=>⟨fun h=>absurd h (Nat.not_lt_zero j),fun _=>rfl⟩⟩
theorem Nar.step{cs l:List Cell}{i:Nat}(n:Nar cs l i)(hi:i<cs.length){c:Cell}(hc:gh c (cs.getD i am)):Nar cs (l.set i c) (i+1):=by
 refine ⟨by rw[List.length_set];exact n.1,fun j hj =>?_⟩
 rw[cL (by rw[n.1];exact hi)]
 by_cases e:j=i
 ·subst e;rw[if_pos rfl];exact ⟨fun _=>hc,fun h=>absurd h (by omega)⟩
 ·rw[if_neg e];exact ⟨fun h=>(n.2 j hj).1 (by omega),fun h=>(n.2 j hj).2 (by omega)⟩
theorem Nar.at_{cs l:List Cell}{i:Nat}(n:Nar cs l i)(hi:i<cs.length):l.getD i am=cs.getD i am:=(n.2 i hi).2 (Nat.le_refl _)
theorem Wid.refl(a:List Bool):Wid a a:=⟨rfl,fun _ h=>h⟩
theorem Wid.set{a b:List Bool}{k:Nat}(w:Wid a b)(hk:k<a.length){v:Bool}(h:b.getD k false=true->v=true):Wid a (b.set k v):=by
 refine ⟨by rw[List.length_set];exact w.1,fun j hj =>?_⟩
 rw[cL (by rw[w.1];exact hk)]
 by_cases e:j=k
 ·subst e;rw[if_pos rfl];exact h (w.2 j hj)
 ·rw[if_neg e];exact w.2 j hj
structure QOk(p:Pl)(L:List Cht):Prop where
 len:L.length=p.cts.length
 at_:∀i,i<p.cts.length->∃l,L.getD i zCh=qCt p i l/\Nar (p.cts.getD i zCh).cells l (p.cts.getD i zCh).cells.length
theorem QOk.cell{p:Pl}{L:List Cht}(k:QOk p L)(i j:Nat):((L.getD i zCh).cells.getD j am=(p.cts.getD i zCh).cells.getD j am)∨gh ((L.getD i zCh).cells.getD j am) ((p.cts.getD i zCh).cells.getD j am):=by
 by_cases hi:i<p.cts.length
 ·obtain ⟨l,e,n⟩:=k.at_ i hi
  rw[e]
  show l.getD j am=_∨gh (l.getD j am) _
  by_cases hj:j<(p.cts.getD i zCh).cells.length
  ·exact .inr ((n.2 j hj).1 hj)
  ·left
   rw[List.getD_eq_getElem?_getD,List.getD_eq_getElem?_getD,List.getElem?_eq_none (by rw[n.1];omega),List.getElem?_eq_none (by omega)]
 ·left
  rw[List.getD_eq_getElem?_getD (l:=L),List.getD_eq_getElem?_getD (l:=p.cts),List.getElem?_eq_none (by rw[k.len];omega),List.getElem?_eq_none (by omega)]
theorem Hm{l:List Cell}(h:∀k,k<l.length->bv (l.getD k am)):errs aM l=0:=by
 induction l with
 |nil=>rfl
 |cons x l ih =>
  show (if aM x=0 then errs aM l else aM x)=0
  rw[if_pos (ek.2 (show bv x from h 0 (Nat.succ_pos _)))]
  exact ih fun k hk=>h (k+1) (Nat.succ_lt_succ hk)
theorem vJ{p:Pl}(o:bV p){i:Nat}(hi:i<p.cts.length){l:List Cell}(n:Nar (p.cts.getD i zCh).cells l (p.cts.getD i zCh).cells.length):aV (p.cts.getD i zCh).w (p.cts.getD i zCh).h (p.cts.getD i zCh).hr l=0:=by
 have e:=o.cht i hi
 unfold cc at e
 have e1:=(cS e).1
 unfold aV at e1 ⊢
 obtain ⟨e2,e3⟩:=cS e1
 have hl:((p.cts.getD i zCh).cells.length:Int)=(p.cts.getD i zCh).w*(p.cts.getD i zCh).h:=by
  split at e3
  ·assumption
  ·cases e3
 rw[e2,bC rfl,n.1,if_pos hl]
 exact Hm fun k hk=>by
  rw[n.1]at hk
  exact ((n.2 k hk).1 hk).right ((o.dE hi).cell k hk)
theorem zF{p:Pl}(o:bV p){i:Nat}(hi:i<p.cts.length):aV (p.cts.getD i zCh).w (p.cts.getD i zCh).h (p.cts.getD i zCh).hr (p.cts.getD i zCh).cells=0:=by
 have e:=o.cht i hi
 unfold cc at e
 exact (cS e).1
theorem xY{p:Pl}(e0:bF p=0){L:List Cht}(k:QOk p L){c:List Bool}(w:Wid p.chan c):bF (inP p L c)=0:=by
 have o:=fZ e0
 have eb:e8 p.w p.h p.land.length=0:=by unfold bF at e0;exact (cS e0).1
 have hc:=o.cts
 have hch:=o.chan
 unfold bF
 rw[show e8 (inP p L c).w (inP p L c).h (inP p L c).land.length=0 from eb,bC rfl,show (inP p L c).cts.length=p.cts.length from k.len,bj.2 (show (1:Int)<=((p.cts.length:Nat):Int)/\((p.cts.length:Nat):Int)<=48 by omega),if_neg (by decide)]
 have ec:∀i,i<p.cts.length->cc (inP p L c) i=0:=fun i hi=>by
  obtain ⟨l,e,n⟩:=k.at_ i hi
  obtain ⟨l0,e00,n0⟩:=k.at_ 0 (by omega)
  have ep:=o.cht i hi
  unfold cc at ep ⊢
  dsimp only at ep ⊢
  rw[show (inP p L c).cts.getD i zCh=qCt p i l from e,show (inP p L c).cts.getD 0 zCh=qCt p 0 l0 from e00]
  rw[show aV (qCt p i l).w (qCt p i l).h (qCt p i l).hr (qCt p i l).cells=0 from vJ o hi n,bC rfl]
  exact (cS ep).2
 rw[f8 ec,bC rfl,if_neg (by show ¬ c.length≠p.land.length;rw[w.1];omega),show aZ (inP p L c).shp=0 from o.shp,bC rfl,bj.2 (show (1:Int)<=(inP p L c).size/\(inP p L c).size<=500 from o.size),if_neg (by decide),show eW (inP p L c).land (inP p L c).frm=true from o.frm,show eW (inP p L c).land (inP p L c).to=true from o.to]
 rfl
theorem BX{p:Pl}(e0:bF p=0){L:List Cht}(k:QOk p L){c:List Bool}(w:Wid p.chan c):Inn (inP p L c) p:=by
 have o:=fZ e0
 have oq:=fZ (xY e0 k w)
 refine ⟨rfl,rfl,rfl,rfl,rfl,rfl,rfl,k.len,w.2,o.right,oq.right,fun i j =>?_⟩
 rcases k.cell i j with h|h
 ·show fG ((L.getD i zCh).cells.getD j am) _
  rw[h];exact fG.refl _
 ·exact h.le
theorem Bt{cs:List Cell}(h:∀k,k<cs.length->bv (cs.getD k am))(j:Nat):fG ((cs.map leC).getD j am) (cs.getD j am):=by
 by_cases hj:j<cs.length
 ·have e:(cs.map leC).getD j am=leC (cs.getD j am):=by rw[List.getD_eq_getElem?_getD,List.getElem?_map,List.getD_eq_getElem?_getD,List.getElem?_eq_getElem hj];rfl
  rw[e]
  obtain ⟨h1,h2,h3,h4⟩:=h j hj
  exact ⟨h1.2.2.1,h2.2.2.1,h3.2.2.1,h4.2.2.1⟩
 ·have e:(cs.map leC).getD j am=am:=by rw[List.getD_eq_getElem?_getD,List.getElem?_eq_none (by rw[List.length_map];omega)];rfl
  have f:cs.getD j am=am:=by rw[List.getD_eq_getElem?_getD,List.getElem?_eq_none (by omega)];rfl
  rw[e,f];exact fG.refl _
theorem Ey{p:Pl}(e0:bF p=0):Inn (bh p) p:=by
 have o:=fZ e0
 have oq:=fZ (sn e0)
 refine ⟨rfl,rfl,rfl,rfl,rfl,rfl,rfl,eY _ _,fun _ h=>h,o.right,oq.right,fun i j =>?_⟩
 show fG (((dq p.cts p.cts.length).getD i zCh).cells.getD j am) _
 by_cases hi:i<p.cts.length
 ·rw[fR p.cts p.cts.length (Nat.le_refl _) i hi,if_pos hi]
  show fG ((ij (p.cts.getD i zCh) (p.cts.getD i zCh).cells.length).getD j am) _
  unfold ij
  rw[List.take_length]
  exact Bt (o.dE hi).cell j
 ·have e:(dq p.cts p.cts.length).getD i zCh=zCh:=by rw[List.getD_eq_getElem?_getD,List.getElem?_eq_none (by rw[eY];omega)];rfl
  have f:p.cts.getD i zCh=zCh:=by rw[List.getD_eq_getElem?_getD,List.getElem?_eq_none (by omega)];rfl
  rw[e,f];exact fG.refl _
theorem fT(p:Pl):bi p=0 ↔ 0<=bG p:=by unfold bi;split <;> omega
theorem dh(p:Pl):bi p=51∨bi p=0:=by unfold bi;split <;> simp
structure Jm(p q:Pl):Prop where
 f:bi q=0
 u:bq q<=bq p
 g:bi (bh p)=0
 hope:bq (bh p)<=bq p
 h:bR q (ap p)=0
 n:dc q (ap p)=bq p
 i:bR p (ap p)=0
 m:cN p (ap p)<=cN q (ap p)
theorem BW{p q:Pl}(ep:bF p=0)(eq:bF q=0)(n:Inn q p)(h:bi p=0):Jm p q:=by
 have o:=fZ ep
 have oq:=fZ eq
 have oh:=fZ (sn ep)
 have a:=(fT p).1 h
 have aq:=n.arr oq o a
 have ah:=(Ey ep).arr oh o a
 have b:=CC o a
 have c:=n.acc b.1
 have t:∀r:Pl,0<=bG r->bq r=bG r:=fun r hr=>by unfold bq;rw[if_neg (by omega)]
 exact ⟨(fT q).2 aq.1,by rw[t p a,t q aq.1];exact aq.2,(fT _).2 ah.1,by rw[t p a,t _ ah.1];exact ah.2,c.1,by rw[c.2.1,b.2,t p a],b.1,c.2.2⟩
abbrev yd4:Value:=.tuple #[.bool false,nI 1]
abbrev yd5(cs:List Cell):Prop:=eR (pt 4)/\wR (slQ 1 2 cs.length)/\eR (nI ((cs.length:Nat):Int))/\True
abbrev yd1(cs:List Cell)(x2:Nat):Value:=.agg #[nI (cs.getD x2 am).ar.lo,nI (cs.getD x2 am).ar.hi,nI (cs.getD x2 am).ai.lo,nI (cs.getD x2 am).ai.hi,nI (cs.getD x2 am).ak.lo,nI (cs.getD x2 am).ak.hi,nI (cs.getD x2 am).aj.lo,nI (cs.getD x2 am).aj.hi]
abbrev yd2(ds:List Cell)(x2:Nat):Value:=.agg #[nI (ds.getD x2 am).ar.lo,nI (ds.getD x2 am).ar.hi,nI (ds.getD x2 am).ai.lo,nI (ds.getD x2 am).ai.hi,nI (ds.getD x2 am).ak.lo,nI (ds.getD x2 am).ak.hi,nI (ds.getD x2 am).aj.lo,nI (ds.getD x2 am).aj.hi]
abbrev yd0:Value:=.tuple #[.bool false,nI 0]
def F8(sp:Value)(w h t:Int)(cs ds:List Cell):Prop :=
 (c1q 7 1 (.cells false 0 (cs.flatMap cellC)) 88 [.agg #[nI w,nI h,nI t,slQ 1 2 cs.length]] (nI (aV w h t cs)) (c1q 7 2 (.cells false 0 (ds.flatMap cellC)) 88 [.agg #[nI w,nI h,nI t,slQ 2 2 ds.length]] (nI (aV w h t ds)) (fk (((aV w h t cs):Int) != 0) ((.bool (((aV w h t cs):Int) != 0):Value) = .bool true/\((.bool (((aV w h t cs):Int) != 0):Value) = .bool true/\(.tuple #[.bool false,nI (aV w h t cs)]:Value)=sp)) (fk (((aV w h t ds):Int) != 0) ((.bool (((aV w h t ds):Int) != 0):Value) = .bool true/\((.bool (((aV w h t ds):Int) != 0):Value) = .bool true/\(.tuple #[.bool false,nI (aV w h t ds)]:Value)=sp)) (fk ((w:Int) != w) (yd4=sp) (fk ((h:Int) != h) (yd4=sp) (fk ((t:Int) != t) (yd4=sp) (lq (0<=List.length cs) (true=true/\((nI 0:Value)=nI ((0:Nat):Int)/\yd5 cs)/\(True)/\(True)/\(True)) (∀x2:Nat,(x2<=List.length cs)->(fk (decide (((x2:Int):Int)<((cs.length:Nat):Int))) ((ixq (x2:Int) cs.length)/\((b7 8 (cs.flatMap cellC) (0+Int.toNat (x2:Int)*8)=some (yd1 cs x2))/\((ixq (x2:Int) ds.length)/\((b7 8 (ds.flatMap cellC) (0+Int.toNat (x2:Int)*8)=some (yd2 ds x2))/\(fk (decide (((ds.getD x2 am).ar.lo:Int)<=(cs.getD x2 am).ar.lo)) (fk (!(decide (((cs.getD x2 am).ar.hi:Int)<=(ds.getD x2 am).ar.hi))) (yd0=sp) (fk (decide (((ds.getD x2 am).ai.lo:Int)<=(cs.getD x2 am).ai.lo)) (fk (!(decide (((cs.getD x2 am).ai.hi:Int)<=(ds.getD x2 am).ai.hi))) (yd0=sp) (fk (decide (((ds.getD x2 am).ak.lo:Int)<=(cs.getD x2 am).ak.lo)) (fk (!(decide (((cs.getD x2 am).ak.hi:Int)<=(ds.getD x2 am).ak.hi))) (yd0=sp) (fk (decide (((ds.getD x2 am).aj.lo:Int)<=(cs.getD x2 am).aj.lo)) (fk (!(decide (((cs.getD x2 am).aj.hi:Int)<=(ds.getD x2 am).aj.hi))) (yd0=sp) (nw ((x2:Int)+1) (∃x2':Nat,(x2'<=List.length cs)/\(List.length cs-x2')<(List.length cs-x2)/\true=true/\((nI ((x2:Int)+1):Value)=nI (x2':Int)/\yd5 cs)/\(True)/\(True)/\(True)))) (yd0=sp))) (yd0=sp))) (yd0=sp))) (yd0=sp)))))) ((.tuple #[.bool true,nI 0]:Value)=sp)))))))))))
abbrev yd3:Hint:=.go 4 (.slot 13 (.bool true) (.go 5 (.slot 13 (.bool true) (.auto))))
theorem Jw(sp:Value)(w h t:Int)(cs ds:List Cell):vF prog msk (dm 0) 100000 true 40 true 24 [.agg #[nI w,nI h,nI t,slQ 1 2 cs.length],.agg #[nI w,nI h,nI t,slQ 2 2 ds.length]] (cB 1 [cs.flatMap cellC,ds.flatMap cellC]) (some [])
 (.go 11 (.ans [(1,.cells false 0 (cs.flatMap cellC))] (nI (aV w h t cs)) [] (.ans [(2,.cells false 0 (ds.flatMap cellC))] (nI (aV w h t ds)) [] (.go 12 (.fork yd3 (.go 8 (.fork yd3 (.go 14 (.aJ (.auto) (.go 6 (.aJ (.auto) (.go 5 (.fork (.auto) (.go 8 (.inv 3 (Nat) (0) [] [] (fun x2=>[(18,nI (x2:Int)),(3,pt 4),(16,slQ 1 2 cs.length),(17,nI ((cs.length:Nat):Int))]) (fun x2=>[]) (fun x2=>[]) (fun x2=>[]) (fun x2=>(x2<=List.length cs)) (fun x2=>(List.length cs-x2)) (fun x2 => .go 0 (.fork (.go 0 (.need (.val (yd1 cs x2) (.go 6 (.need (.val (yd2 ds x2) (.go 55 (.aJ (.go 11 (.fork (.auto) (.go 19 (.aJ (.go 11 (.fork (.auto) (.go 19 (.aJ (.go 11 (.fork (.auto) (.go 19 (.aJ (.go 11 (.fork (.auto) (.go 8 (.slot 33 (nI ((x2:Int)+1)) (.go 0 (.again [])))))) (.auto))))) (.auto))))) (.auto))))) (.auto))))))))) (.auto))))))))))))))))))
 (fun v _ _=>v=sp)=F8 sp w h t cs ds:=by kernel_rfl
theorem IE{w h t:Int}{cs ds:List Cell}(e1:aV w h t cs=0)(e2:aV w h t ds=0)(hn:cs.length=ds.length)(hl:cs.length<=1000000)(hin:∀j,j<cs.length->gh (cs.getD j am) (ds.getD j am))
  {H:Heap} {a b:Nat} {o1 o2:Bool} {z1 z2:Nat} (ha:H[a]?=some (.cells o1 z1 (cs.flatMap cellC))) (hb:H[b]?=some (.cells o2 z2 (ds.flatMap cellC))) :
  ad prog 24 [.agg #[.int .i64 w,.int .i64 h,.int .i64 t,slR a cs.length],.agg #[.int .i64 w,.int .i64 h,.int .i64 t,slR b ds.length]] H [] (Is (.tuple #[.bool true,.int .i64 0]) H):=by
 refine iy (css:=[cs.flatMap cellC,ds.flatMap cellC]) (v:=.tuple #[.bool true,.int .i64 0]) (ids:=[a,b]) (Eq.mpr (Jw _ w h t cs ds) ?_) ⟨cQ _ _,cQ _ _,trivial⟩ rfl ⟨⟨_,_,ha⟩,⟨_,_,hb⟩,trivial⟩ rfl
 delta F8 yd4 yd5 yd1 yd2 yd0 nI slQ pt fk nw eR wR ixq lq c1q
 refine ⟨⟨rfl,trivial⟩,fun H' hn h=>wm _ _ _ _ h.1,⟨rfl,trivial⟩,fun H' hn h=>wm _ _ _ _ h.1,gM (fun q=>absurd e1 q) (fun _=>gM (fun q=>absurd e2 q) (fun _=>gM (fun q=>absurd rfl q) (fun _=>gM (fun q=>absurd rfl q) (fun _=>gM (fun q=>absurd rfl q) (fun _ =>?_)))))⟩
 refine ⟨rfl,Nat.zero_le _,?_,fun _=>rfl,fun x hx=>cp (fun hx1 =>?_) (fun _=>rfl)⟩
 ·repeat' first|exact trivial|exact ae _|refine ⟨rfl,?_⟩|refine ⟨trivial,?_⟩|apply And.intro
 ·have c:=hin x (by omega)
  refine ⟨⟨by omega,by omega⟩,gG (by omega) (by omega),⟨by omega,by omega⟩,gG (by omega) (by omega),cp (fun _=>jv (cp (fun _=>cp (fun _=>jv (cp (fun _=>cp (fun _=>jv (cp (fun _=>cp (fun _=>jv (cp (fun _=>⟨ag (by omega),x+1,by omega,by omega,?_⟩) (fun q=>absurd c.p.h q))) (fun q=>absurd c.p.l q)) (fun q=>absurd c.r.h q))) (fun q=>absurd c.r.l q)) (fun q=>absurd c.t.h q))) (fun q=>absurd c.t.l q)) (fun q=>absurd c.c.h q))) (fun q=>absurd c.c.l q)⟩
  repeat' first|exact trivial|exact ae _|refine ⟨rfl,?_⟩|refine ⟨trivial,?_⟩|apply And.intro
def yE(cs:List Pt):Prop :=
 (ck (cs.length=0) False (((0+cs.length)*16<=2 ^ 44/\cs.length≠0/\(0<=0/\0+0*2<=List.length ([]:List Value))/\(cs.length<=cs.length/\0+cs.length*2<=List.length (cs.flatMap ptC))/\((((cs.flatMap ptC).drop 0).take (cs.length*2)):List Value).all (fun v=>cU v)=true)/\true=true/\(true=true/\wk (slN 3 (0+cs.length):Value) (rn (sg 2 [(2,3)]) 3 (slQ 2 1 cs.length:Value))/\((kbq 2 (.cells true 2 (((([]:List Value).drop 0).take (0*2))++(((cs.flatMap ptC).drop 0).take (cs.length*2)))) (.cells true 2 (cs.flatMap ptC)))/\True))))
abbrev yf0(cs:List Pt):=aO [.cells false 0 [nI 4000,nI 8000,nI 14000,nI 24000,nI 40000,nI 90000],.cells true 2 (cs.flatMap ptC)]
theorem Fi(cs:List Pt):vF prog msk (dm 0) 100000 true 40 true 94 [slN 1 cs.length] (yf0 cs) (some [])
 (.go 5 (.cas (cs.length=0) (.again []) (.need (.go 0 (.again [(2,3)])))))
 (mC ((yf0 cs):HT).n 3 (slQ 2 1 cs.length) [(true,.cells true 2 (cs.flatMap ptC))])=yE cs:=by kernel_rfl
theorem DT(l:List Pt)(n:Nat):((List.take n (List.drop 0 (l.flatMap ptC))).all fun v=>cU v)=true:=by
 rw[List.all_eq_true]
 intro v hv
 obtain ⟨c,_,h⟩:=List.mem_flatMap.1 (List.mem_of_mem_drop (List.mem_of_mem_take hv))
 simp only[ptC,List.mem_cons,List.not_mem_nil,or_false]at h
 rcases h with h|h <;> (subst h;rfl)
theorem fK{cs:List Pt}(h0:0<cs.length)(h1:cs.length<=1000000){H:Heap}{L z:Nat}(hz:H.length=z)(hH:H[0]?=some bN)(hL:H[L]?=some (.cells true 2 (cs.flatMap ptC)))(hne:L≠0) :
  ad prog 94 [.slice (some ⟨L,0,some 1⟩) cs.length cs.length] H [] (Is (.slice (some ⟨z,0,some 1⟩) cs.length cs.length) (H ++ [.cells true 2 (cs.flatMap ptC)])):=by
 subst hz
 have fl:=aD (f:=ptC) dY cs
 refine ad.wkA (args2:=[.slice (some ⟨L,0,some 2⟩) cs.length cs.length]) ?_ ⟨gj,trivial⟩
 refine ad.wkA (args2:=[.slice (some ⟨L,0,none⟩) cs.length cs.length]) ?_ ⟨Fp h0,trivial⟩
 refine l6 (os:=[bN,.cells true 2 (cs.flatMap ptC)]) (ids:=[0,L]) (fun j => .slice (some ⟨j,0,some 1⟩) cs.length cs.length) (new:=[.cells true 2 (cs.flatMap ptC)]) (Eq.mpr (Fi cs) ?_) (by show (ay 3 bN&&(ay 3 (.cells true 2 (cs.flatMap ptC))&&true))=true;rw[gV];rfl) rfl ⟨⟨_,_,rfl,dz _ _⟩,trivial⟩ (by simp[Ne.symm hne]) ⟨hH,by rw[dK];exact hL,trivial⟩ rfl (fun j=>rfl) rfl
 delta yE slQ slN ck kbq
 refine ⟨fun q=>absurd q (by omega),fun _=>⟨⟨by omega,by omega,⟨Nat.le_refl _,Nat.le_refl _⟩,⟨Nat.le_refl _,by omega⟩,DT _ _⟩,rfl,?_⟩⟩
 have e:List.take (0*2) (List.drop 0 ([]:List Value))++List.take (cs.length*2) (List.drop 0 (cs.flatMap ptC))=cs.flatMap ptC:=by
  rw[List.drop_zero,List.drop_zero,List.take_of_length_le (l:=cs.flatMap ptC) (by omega)];rfl
 rw[e,Nat.zero_add]
 repeat' first|exact dz _ _|exact trivial|(exact s9 (by omega))|refine ⟨rfl,?_⟩|apply And.intro
end
end Go.Proofs.YtmecpfikljhjaaaDoor
namespace Go.Proofs.YtmecpfikljhjaaaDoor
noncomputable section
attribute [local irreducible] vF
section
variable {p:Pl} {H:Heap} {l c n t w i z:Nat} {v:Value}
theorem qg(e0:bF p=0)(hn:H.length=z)(a:iv H p l c n t w i)(hv:wk v (plV p l c n t w i)) :
  ad prog 8 [v] H [] (Is (.tuple #[.slice (some ⟨z,0,some 1⟩) (ap p).length (ap p).length,.int .i64 (bq p),.int .i64 (bi p)]) (H ++ [.cells true 4 ((ap p).flatMap lgC)])):=by
 subst hn;exact (GY (fZ e0).lst e0 a).wkA ⟨hv,trivial⟩
theorem wl(e0:bF p=0)(a:iv H p l c n t w i)(hv:wk v (plV p l c n t w i)) :
  ad prog 25 [v] H [] (Is (.tuple #[.int .i64 (bq (bh p)),.int .i64 (bi (bh p))]) H):=(FS e0 a).wkA ⟨hv,trivial⟩
theorem BO(e0:bF p=0){L:List Leg}(hr:∀j,j<L.length->(L.getD j zL).arr<=9223372036854775807)(hl:L.length<=1000000){b:Nat}(a:iv H p l c n t w i)(hnd:[0,l,c,n,t,w,i,b].Nodup)(h1:H[b]?=some (.cells true 4 (L.flatMap lgC)))(hv:wk v (plV p l c n t w i)) :
  ad prog 15 [v,.slice (some ⟨b,0,some 1⟩) L.length L.length] H [] (Is (.tuple #[.int .i64 (dc p L),.int .i64 (bR p L)]) H):=(BN e0 hr hl a hnd h1).wkA ⟨hv,gj,trivial⟩
theorem qf(e0:bF p=0){L:List Leg}(hr:∀j,j<L.length->(L.getD j zL).arr<=9223372036854775807)(hl:L.length<=1000000){b:Nat}(a:iv H p l c n t w i)(hnd:[0,l,c,n,t,w,i,b].Nodup)(h1:H[b]?=some (.cells true 4 (L.flatMap lgC)))(hv:wk v (plV p l c n t w i)) :
  ad prog 26 [v,.slice (some ⟨b,0,some 1⟩) L.length L.length] H [] (Is (.tuple #[.int .i64 (cN p L),.int .i64 (bR p L)]) H):=(D5 e0 hr hl a hnd h1).wkA ⟨hv,gj,trivial⟩
end
theorem qY(p:Pl){k:Nat}(hk:p.cts.length=k)(l c n t w i:Nat) :
  wk (.agg ⟨[nI p.w,nI p.h,slQ l 1 p.land.length,slR c k,slQ n 1 p.chan.length,nI p.shp.cls,nI p.shp.pow,nI p.shp.dra,nI p.shp.ton,slQ t 1 p.shp.th.length,slQ w 1 p.shp.wa.length,slQ i 1 p.shp.ic.length,nI p.shp.slow,nI p.shp.aw,nI p.shp.rdg,nI p.shp.prs,nI p.size,nI p.frm,nI p.to]⟩) (plV p l c n t w i):=by
 subst hk;exact wkP p l c n t w i
theorem qX(p:Pl){L:List Cht}{ch:List Bool}{k:Nat}(hk:L.length=k)(hc:ch.length=p.chan.length)(l c n t w i:Nat) :
  wk (.agg ⟨[nI p.w,nI p.h,.slice (some ⟨l,0,none⟩) p.land.length p.land.length,slR c k,.slice (some ⟨n,0,none⟩) p.chan.length p.chan.length,nI p.shp.cls,nI p.shp.pow,nI p.shp.dra,nI p.shp.ton,slQ t 1 p.shp.th.length,slQ w 1 p.shp.wa.length,slQ i 1 p.shp.ic.length,nI p.shp.slow,nI p.shp.aw,nI p.shp.rdg,nI p.shp.prs,nI p.size,nI p.frm,nI p.to]⟩) (plV (inP p L ch) l c n t w i):=by
 subst hk
 exact jg ⟨ae _,ae _,H6,ae _,Fq hc,ae _,ae _,ae _,ae _,gj,gj,gj,ae _,ae _,ae _,ae _,ae _,ae _,ae _,trivial⟩
theorem lO{w h t:Int}{cs ds:List Cell}(e1:aV w h t cs=0)(e2:aV w h t ds=0)(hn:cs.length=ds.length)(hl:cs.length<=1000000)(hin:∀j,j<cs.length->gh (cs.getD j am) (ds.getD j am))
  {H:Heap} {a:Nat} (ha:H[a]?=some (.cells true 8 (cs.flatMap cellC))) :
  ad prog 24 [.agg #[.int .i64 w,.int .i64 h,.int .i64 t,.slice (some ⟨a,0,none⟩) ds.length ds.length],.agg #[.int .i64 w,.int .i64 h,.int .i64 t,.iface (ds.length+1) (.agg ⟨ds.flatMap cellC⟩)]] H [] (Is (.tuple #[.bool true,.int .i64 0]) H):=by
 have k:=Fu (H:=H) (new:=[]) (gs:=[.cells false 0 (ds.flatMap cellC)]) (args:=[.agg ⟨[.int .i64 w,.int .i64 h,.int .i64 t,slR a cs.length]⟩,.agg ⟨[.int .i64 w,.int .i64 h,.int .i64 t,.iface (ds.length+1) (.agg ⟨ds.flatMap cellC⟩)]⟩]) (fun _ => .tuple #[.bool true,.int .i64 0])
  (eS.keep (eS.agg (i:=3) rfl eS.nil)) (by rw[List.append_nil];exact IE (b:=H.length) (o2:=false) (z2:=0) e1 e2 hn hl hin (ki ha) (by simp)) trivial rfl
 rw[List.append_nil]at k
 exact k.wkA ⟨jg ⟨ae _,ae _,ae _,Fq hn,trivial⟩,ae _,trivial⟩
def nC8(M:List Int)(m:Int)(c:Cell):Cell:=⟨nSp M m c.ar,nSp M (m+1+1) c.ai,nSp M (m+1+1+1+1) c.ak,nSp M (m+1+1+1+1+1+1) c.aj⟩
theorem lD(M:List Int)(m:Int){c:Cell}(h:bv c):gh (nC8 M m c) c:=by
 obtain ⟨h1,h2,h3,h4⟩:=h
 exact ⟨rF M _ h1.2.2.1,rF M _ h2.2.2.1,rF M _ h3.2.2.1,rF M _ h4.2.2.1⟩
theorem jk{l:List Cell}{k off:Nat}(hk:k<l.length)(ho:off=k*8)(c:Cell){vs:List Value}(hv:cellC c=vs):(some (aa.cells true 8 (bl (l.flatMap cellC) off vs)):Option aa)=some (.cells true 8 ((l.set k c).flatMap cellC)):=by
 subst ho hv
 rw[ol bp l k hk c]
theorem pQ{l:List Bool}{k off:Nat}(hk:k<l.length)(ho:off=0+k*1)(b:Bool):(some (aa.cells true 1 (bl (l.flatMap af) off [.bool b])):Option aa)=some (.cells true 1 ((l.set k b).flatMap af)):=by
 rw[rk l b hk ho]
theorem fQ(l:List Bool)(n:Nat):((List.take n (List.drop 0 (l.flatMap af))).all fun v=>cU v)=true:=by
 rw[List.all_eq_true]
 intro v hv
 obtain ⟨c,_,h⟩:=List.mem_flatMap.1 (List.mem_of_mem_drop (List.mem_of_mem_take hv))
 obtain rfl:=List.mem_singleton.1 h
 rfl
theorem fP(l:List Cell)(n:Nat):((List.take n (List.drop 0 (l.flatMap cellC))).all fun v=>cU v)=true:=by
 rw[List.all_eq_true]
 intro v hv
 obtain ⟨c,_,h⟩:=List.mem_flatMap.1 (List.mem_of_mem_drop (List.mem_of_mem_take hv))
 simp only[cellC,List.mem_cons,List.not_mem_nil,or_false]at h
 rcases h with h|h|h|h|h|h|h|h <;> (subst h;rfl)
theorem lC(l:List Bool):(some (aa.cells true 1 ([]++List.take (l.length*1) (List.drop 0 (l.flatMap af)))):Option aa)=some (.cells true 1 (l.flatMap af)):=by
 rw[List.drop_zero,List.take_of_length_le (l:=l.flatMap af) (by rw[aD aW];exact Nat.le_refl _),List.nil_append]
theorem lB(l:List Cell):(some (aa.cells true 8 (List.take (0*8) (List.drop 0 ([]:List Value))++List.take (l.length*8) (List.drop 0 (l.flatMap cellC)))):Option aa)=some (.cells true 8 (l.flatMap cellC)):=by
 show some (aa.cells true 8 ([]++List.take (l.length*8) (l.flatMap cellC)))=_
 rw[List.take_of_length_le (by rw[aD bp];exact Nat.le_refl _),List.nil_append]
end
end Go.Proofs.YtmecpfikljhjaaaDoor
