/- Route: less ice is not worse: safe speeds. No condition. -/
import Derived.Test.YtmecpfikljhjaaaDoorGA7xJ5
import Derived.Test.YtmecpfikljhjaaaDoorGK27xA0
import Derived.Test.YtmecpfikljhjaaaDoorGH1gxH5g
import Derived.Test.YtmecpfikljhjaaaDoorGM4gxL1c
import Derived.Test.YtmecpfikljhjaaaDoorCards
import Derived.Test.YtmecpfikljhjaaaDoorTie
import Derived.JoinedCond
import Derived.JoinedOf
import Derived.Lib.LaidTab
import Derived.ChangeVars
import Derived.SevenTiedAt
open Go Go.K
set_option maxRecDepth 1000000
set_option maxHeartbeats 4000000
set_option linter.unusedVariables false
set_option linter.unusedSimpArgs false
namespace Go.Proofs.YtmecpfikljhjaaaDoor
noncomputable section
attribute [local irreducible] vF
def UpL:List Pt->Prop
 |a :: b :: r=>a.1<b.1/\a.2<=b.2/\UpL (b :: r)
 |_=>True
theorem upL_of:∀{l:List Pt},(∀i,0<i->i<l.length->(l.getD (i-1) zP).1<(l.getD i zP).1/\(l.getD (i-1) zP).2<=(l.getD i zP).2)->UpL l
 | [],_=>trivial
 | [_],_=>trivial
 |a :: b :: r,h=>by
  have h1:=h 1 (by decide) (by simp)
  refine ⟨h1.1,h1.2,upL_of fun i hi hl =>?_⟩
  have h2:=h (i+1) (by omega) (by simpa using hl)
  obtain ⟨j,rfl⟩:∃j,i=j+1:=⟨i-1,by omega⟩
  exact h2
theorem steUp{l:List Pt}(h:steB l 1=true):UpL l:=by
 have c:=steB_cur h
 unfold steB at h
 rw[Bool.and_eq_true,List.all_eq_true]at h
 refine upL_of fun i hi hl=>⟨c.up i hi hl,?_⟩
 have:=h.2 i (List.mem_range.2 hl)
 unfold stOk at this
 rw[Bool.or_eq_true,decide_eq_true_eq,Bool.not_eq_true',decide_eq_false_iff_not,Int.mul_one]at this
 omega
theorem mulLe{a b c d:Int}(h1:a<=b)(h2:c<=d)(hc:0<=c)(hb:0<=b):a*c<=b*d :=
 Int.le_trans (Int.mul_le_mul_of_nonneg_right h1 hc) (Int.mul_le_mul_of_nonneg_left h2 hb)
theorem val_low:∀{r:List Pt} {a:Pt} {x:Int},UpL (a :: r)->a.1<=x->0<(valL (a :: r) x).2/\a.2*(valL (a :: r) x).2<=(valL (a :: r) x).1
 | [],a,x,_,_=>⟨by show (0:Int)<1;decide,by show a.2*1<=a.2;omega⟩
 |b :: r,a,x,u,hx=>by
  obtain ⟨u1,u2,u3⟩:=u
  by_cases h:x<=b.1
  ·have e:valL (a :: b :: r) x=(a.2*(b.1-a.1)+(b.2-a.2)*(x-a.1),b.1-a.1):=if_pos h
   rw[e]
   have:=Int.mul_nonneg (show 0<=b.2-a.2 by omega) (show 0<=x-a.1 by omega)
   exact ⟨by show 0<b.1-a.1;omega,by show a.2*(b.1-a.1)<=a.2*(b.1-a.1)+(b.2-a.2)*(x-a.1);omega⟩
  ·have e:valL (a :: b :: r) x=valL (b :: r) x:=if_neg h
   rw[e]
   obtain ⟨k1,k2⟩:=val_low (a:=b) u3 (show b.1<=x by omega)
   exact ⟨k1,Int.le_trans (Int.mul_le_mul_of_nonneg_right u2 (by omega)) k2⟩
theorem val_mono:∀{r:List Pt} {a:Pt} {x y:Int},UpL (a :: r)->a.1<=x->x<=y->(valL (a :: r) x).1*(valL (a :: r) y).2<=(valL (a :: r) y).1*(valL (a :: r) x).2
 | [],a,x,y,_,_,_=>Int.le_refl _
 |b :: r,a,x,y,u,hx,hy=>by
  obtain ⟨u1,u2,u3⟩:=u
  by_cases h:x<=b.1
  ·have e:valL (a :: b :: r) x=(a.2*(b.1-a.1)+(b.2-a.2)*(x-a.1),b.1-a.1):=if_pos h
   by_cases g:y<=b.1
   ·have e':valL (a :: b :: r) y=(a.2*(b.1-a.1)+(b.2-a.2)*(y-a.1),b.1-a.1):=if_pos g
    rw[e,e']
    have:=Int.mul_le_mul_of_nonneg_left (show x-a.1<=y-a.1 by omega) (show 0<=b.2-a.2 by omega)
    exact Int.mul_le_mul_of_nonneg_right (show a.2*(b.1-a.1)+(b.2-a.2)*(x-a.1)<=a.2*(b.1-a.1)+(b.2-a.2)*(y-a.1) by omega) (show 0<=b.1-a.1 by omega)
   ·have e':valL (a :: b :: r) y=valL (b :: r) y:=if_neg g
    rw[e,e']
    obtain ⟨k1,k2⟩:=val_low (a:=b) u3 (show b.1<=y by omega)
    have h1:=Int.mul_le_mul_of_nonneg_left (show x-a.1<=b.1-a.1 by omega) (show 0<=b.2-a.2 by omega)
    have h2:a.2*(b.1-a.1)+(b.2-a.2)*(b.1-a.1)=b.2*(b.1-a.1):=by rw[<- Int.add_mul];congr 1;omega
    have h3:(a.2*(b.1-a.1)+(b.2-a.2)*(x-a.1))*(valL (b :: r) y).2<=b.2*(b.1-a.1)*(valL (b :: r) y).2:=Int.mul_le_mul_of_nonneg_right (by omega) (by omega)
    have h4:b.2*(valL (b :: r) y).2*(b.1-a.1)<=(valL (b :: r) y).1*(b.1-a.1):=Int.mul_le_mul_of_nonneg_right k2 (by omega)
    have h5:b.2*(b.1-a.1)*(valL (b :: r) y).2=b.2*(valL (b :: r) y).2*(b.1-a.1):=by ac_rfl
    exact Int.le_trans h3 (h5 ▸ h4)
  ·have e:valL (a :: b :: r) x=valL (b :: r) x:=if_neg h
   have e':valL (a :: b :: r) y=valL (b :: r) y:=if_neg (by omega)
   rw[e,e']
   exact val_mono (a:=b) u3 (by omega) hy
structure IceLe(x y:Ice):Prop where
 c:0<=x.conc/\x.conc<=y.conc
 t:0<=x.thick/\x.thick<=y.thick
 r:0<=x.ridge/\x.ridge<=y.ridge
 p:0<=x.press/\x.press<=y.press
structure HulOk(s:Shp):Prop where
 th:steB s.th (-1)=true
 wa:steB s.wa 1=true
 ic:steB s.ic 1=true
 n:0<=s.slow/\(0<=s.brash/\s.brash<=100)/\0<=s.rdg/\0<=s.prs
theorem hulOk{s:Shp}(e:errShp s=0):HulOk s:=by
 unfold errShp at e
 split at e
 ·cases e
 split at e
 ·cases e
 split at e
 ·cases e
 rename_i h3
 split at e
 ·cases e
 rename_i h4
 split at e
 ·cases e
 rename_i h5
 split at e
 ·cases e
 rename_i h6
 simp only[Bool.not_eq_false,Bool.and_eq_true,inB_iff]at h3 h4 h5 h6
 exact ⟨h4.1,h5.1,h6.1.1,by omega,by omega,by omega,by omega⟩
theorem ceil_le{a D k:Int}(hD:0<D)(ha:0<=a)(h:a<=k*D):Int.tdiv (a+D-1) D<=k:=by
 rw[Int.tdiv_eq_ediv_of_nonneg (by omega)]
 have:=Int.ediv_lt_of_lt_mul (a:=a+D-1) (b:=k+1) hD (by rw[Int.add_mul,Int.one_mul];omega)
 omega
theorem le_ceil{a D:Int}(hD:0<D)(ha:0<=a):a<=Int.tdiv (a+D-1) D*D:=by
 rw[Int.tdiv_eq_ediv_of_nonneg (by omega)]
 have h1:=Int.mul_ediv_add_emod (a+D-1) D
 have h2:=Int.emod_lt_of_pos (a+D-1) hD
 rw[Int.mul_comm]at h1
 omega
theorem ceil_mono{a' D' a D:Int}(h':0<D')(h:0<D)(ha':0<=a')(ha:0<=a)(hx:a'*D<=a*D'):Int.tdiv (a'+D'-1) D'<=Int.tdiv (a+D-1) D:=by
 refine ceil_le h' ha' ?_
 have h1:=Int.mul_le_mul_of_nonneg_right (le_ceil h ha) (show 0<=D' by omega)
 have h2:a'*D<=Int.tdiv (a+D-1) D*D'*D:=by
  refine Int.le_trans hx (Int.le_trans h1 ?_)
  rw[Int.mul_right_comm];exact Int.le_refl _
 exact Int.le_of_mul_le_mul_right h2 h
theorem resW_mono{s:Shp}(o:HulOk s){x x':Ice}(i:IceLe x' x){ch ch':Bool}(hc:ch=true->ch'=true){v:Int}(hv:0<=v) :
  (0<=resW s x' ch' v/\0<=resW s x ch v)/\resW s x' ch' v*((valL s.ic x.thick).2*10000000)<=resW s x ch v*((valL s.ic x'.thick).2*10000000):=by
 have co:=steB_cur o.ic
 have hx':=i.t.1
 obtain ⟨b1,b2,_⟩:=valL_bd co hx'
 obtain ⟨b3,b4,_⟩:=valL_bd co (show 0<=x.thick by have:=i.t;omega)
 have cr:(valL s.ic x'.thick).1*(valL s.ic x.thick).2<=(valL s.ic x.thick).1*(valL s.ic x'.thick).2:=by
  have u:=steUp o.ic
  have hl:=co.len
  have h0:=co.x0
  cases hs:s.ic with
  |nil=>rw[hs]at hl;simp at hl
  |cons a r=>rw[hs]at u h0;exact val_mono u (by show a.1<=_;have:a.1=0:=h0;omega) i.t.2
 have hsh:0<=(if ch' then s.brash else 100)/\(if ch' then s.brash else 100)<=(if ch then s.brash else 100):=by
  have:=o.n
  cases ch <;> cases ch' <;> simp_all
 have hri:0<=(if ch' then 0 else x'.ridge)/\(if ch' then 0 else x'.ridge)<=(if ch then 0 else x.ridge):=by
  have:=i.r
  cases ch <;> cases ch' <;> simp_all <;> omega
 unfold resW
 generalize (if ch' then s.brash else 100)=sh' at *
 generalize (if ch then s.brash else 100)=sh at *
 generalize (if ch' then 0 else x'.ridge)=ri' at *
 generalize (if ch then 0 else x.ridge)=ri at *
 generalize (valL s.ic x'.thick).1=a' at *
 generalize (valL s.ic x'.thick).2=d' at *
 generalize (valL s.ic x.thick).1=a at *
 generalize (valL s.ic x.thick).2=d at *
 have hA:0<=1000+s.slow*v:=by have:=Int.mul_nonneg o.n.1 hv;omega
 generalize 1000+s.slow*v=A at *
 have hg:=o.n.2.2.1
 generalize s.rdg=g at *
 have t1':0<=a'*A*sh':=Int.mul_nonneg (Int.mul_nonneg b2 hA) hsh.1
 have t2':0<=g*ri'*d'*100000:=Int.mul_nonneg (Int.mul_nonneg (Int.mul_nonneg hg hri.1) (by omega)) (by decide)
 have t1:0<=a*A*sh:=Int.mul_nonneg (Int.mul_nonneg b4 hA) (by omega)
 have t2:0<=g*ri*d*100000:=Int.mul_nonneg (Int.mul_nonneg (Int.mul_nonneg hg (by omega)) (by omega)) (by decide)
 have c1:a'*A*sh'*d<=a*A*sh*d':=by
  have e1:a'*A*sh'*d=a'*d*(A*sh'):=by ac_rfl
  have e2:a*A*sh*d'=a*d'*(A*sh):=by ac_rfl
  rw[e1,e2]
  exact mulLe cr (Int.mul_le_mul_of_nonneg_left hsh.2 hA) (Int.mul_nonneg hA hsh.1) (Int.mul_nonneg b4 (by omega))
 have c2:g*ri'*d'*100000*d<=g*ri*d*100000*d':=by
  have e1:g*ri'*d'*100000*d=ri'*(g*d'*100000*d):=by ac_rfl
  have e2:g*ri*d*100000*d'=ri*(g*d'*100000*d):=by ac_rfl
  rw[e1,e2]
  exact Int.mul_le_mul_of_nonneg_right hri.2 (Int.mul_nonneg (Int.mul_nonneg (Int.mul_nonneg hg (by omega)) (by decide)) (by omega))
 refine ⟨⟨Int.mul_nonneg i.c.1 (by omega),Int.mul_nonneg (by have:=i.c;omega) (by omega)⟩,?_⟩
 have c3:(a'*A*sh'+g*ri'*d'*100000)*d<=(a*A*sh+g*ri*d*100000)*d':=by rw[Int.add_mul,Int.add_mul];omega
 have c4:=mulLe i.c.2 c3 (Int.mul_nonneg (by omega) (by omega)) (by have:=i.c;omega)
 have c5:=Int.mul_le_mul_of_nonneg_right c4 (show (0:Int)<=10000000 by decide)
 have e1:x'.conc*(a'*A*sh'+g*ri'*d'*100000)*(d*10000000)=x'.conc*((a'*A*sh'+g*ri'*d'*100000)*d)*10000000:=by ac_rfl
 have e2:x.conc*(a*A*sh+g*ri*d*100000)*(d'*10000000)=x.conc*((a*A*sh+g*ri*d*100000)*d')*10000000:=by ac_rfl
 rw[e1,e2];exact c5
theorem resS_mono{s:Shp}(o:HulOk s){x x':Ice}(i:IceLe x' x){ch ch':Bool}(hc:ch=true->ch'=true){v:Int}(hv:0<=v):resS s x' ch' v<=resS s x ch v:=by
 have co:=steB_cur o.ic
 obtain ⟨b1,_,_⟩:=valL_bd co i.t.1
 obtain ⟨b3,_,_⟩:=valL_bd co (show 0<=x.thick by have:=i.t;omega)
 obtain ⟨w1,w2,_⟩:=valL_bd (steB_cur o.wa) hv
 obtain ⟨⟨n1,n2⟩,n3⟩:=resW_mono o i hc hv
 unfold resS
 dsimp only
 have hp:=o.n.2.2.2
 have hpr:=i.p
 generalize resW s x' ch' v=n' at *
 generalize resW s x ch v=n at *
 generalize (valL s.wa v).1=w at *
 generalize (valL s.wa v).2=wd at *
 have d1:0<(valL s.ic x'.thick).2*10000000:=by omega
 have d2:0<(valL s.ic x.thick).2*10000000:=by omega
 generalize (valL s.ic x'.thick).2*10000000=d' at *
 generalize (valL s.ic x.thick).2*10000000=d at *
 have p1:0<=s.prs*x'.press:=Int.mul_nonneg hp hpr.1
 have p2:s.prs*x'.press<=s.prs*x.press:=Int.mul_le_mul_of_nonneg_left hpr.2 hp
 generalize s.prs*x'.press=P' at *
 generalize s.prs*x.press=P at *
 have hw:0<wd:=by omega
 refine ceil_mono (Int.mul_pos hw d1) (Int.mul_pos hw d2) ?_ ?_ ?_
 ·have:=Int.mul_nonneg w2 (show 0<=d' by omega)
  have:=Int.mul_nonneg n1 (show 0<=wd by omega)
  have:=Int.mul_nonneg (Int.mul_nonneg p1 (show 0<=wd by omega)) (show 0<=d' by omega)
  omega
 ·have:=Int.mul_nonneg w2 (show 0<=d by omega)
  have:=Int.mul_nonneg n2 (show 0<=wd by omega)
  have:=Int.mul_nonneg (Int.mul_nonneg (show 0<=P by omega) (show 0<=wd by omega)) (show 0<=d by omega)
  omega
 ·rw[Int.add_mul,Int.add_mul,Int.add_mul,Int.add_mul]
  have e1:w*d'*(wd*d)=w*d*(wd*d'):=by ac_rfl
  have e2:n'*wd*(wd*d)=n'*d*(wd*wd):=by ac_rfl
  have e3:n*wd*(wd*d')=n*d'*(wd*wd):=by ac_rfl
  have e4:P'*wd*d'*(wd*d)=P'*(wd*d'*(wd*d)):=by ac_rfl
  have e5:P*wd*d*(wd*d')=P*(wd*d'*(wd*d)):=by ac_rfl
  rw[e1,e2,e3,e4,e5]
  have f1:=Int.mul_le_mul_of_nonneg_right n3 (Int.mul_nonneg (show 0<=wd by omega) (show 0<=wd by omega))
  have f2:=Int.mul_le_mul_of_nonneg_right p2 (Int.mul_nonneg (Int.mul_nonneg (show 0<=wd by omega) (show 0<=d' by omega)) (Int.mul_nonneg (show 0<=wd by omega) (show 0<=d by omega)))
  omega
theorem tdiv2_mono{a b:Int}(ha:0<=a)(h:a<=b):0<=Int.tdiv (a+1) 2/\Int.tdiv (a+1) 2<=Int.tdiv (b+1) 2/\Int.tdiv (a+1) 2<=a:=by
 rw[Int.tdiv_eq_ediv_of_nonneg (by omega),Int.tdiv_eq_ediv_of_nonneg (by omega)];omega
theorem loadS_mono{x x':Ice}(i:IceLe x' x){ch ch':Bool}(hc:ch=true->ch'=true){v:Int}(hv:0<=v):loadS x' v ch'<=loadS x v ch:=by
 have hc1:=i.c;have ht:=i.t;have hr:=i.r;have hp:=i.p
 have t0:0<=x'.thick*(100+v):=Int.mul_nonneg ht.1 (by omega)
 have t1:x'.thick*(100+v)<=x.thick*(100+v):=Int.mul_le_mul_of_nonneg_right ht.2 (by omega)
 have q:=tdiv2_mono t0 t1
 unfold loadS
 generalize x'.thick*(100+v)=a at *
 generalize x.thick*(100+v)=b at *
 by_cases h:x'.conc=0
 ·rw[if_pos h]
  split
  ·omega
  ·cases ch <;> simp <;> omega
 ·rw[if_neg h,if_neg (show ¬ x.conc=0 by omega)]
  cases ch <;> cases ch' <;> simp_all <;> omega
theorem bsG_mono{f g:Int->Bool}:∀(n:Nat) {lo hi:Int},lo<=hi->(∀v,lo<=v->v<=hi->f v=true->g v=true)->bsG f n lo hi<=bsG g n lo hi
 |0,_,_,_,_=>Int.le_refl _
 |n+1,lo,hi,hl,h=>by
  show (if lo<hi then _ else _)<=(if lo<hi then _ else _)
  by_cases q:lo<hi
  ·rw[if_pos q,if_pos q]
   have m:lo<lo+Int.tdiv (hi-lo+1) 2/\lo+Int.tdiv (hi-lo+1) 2<=hi:=by rw[Int.tdiv_eq_ediv_of_nonneg (by omega)];omega
   by_cases hf:f (lo+Int.tdiv (hi-lo+1) 2)=true
   ·rw[if_pos hf,if_pos (h _ (by omega) m.2 hf)]
    exact bsG_mono n m.2 fun v a b=>h v (by omega) b
   ·rw[if_neg hf]
    by_cases hg:g (lo+Int.tdiv (hi-lo+1) 2)=true
    ·rw[if_pos hg]
     have a:=(bsG_bd f n lo (lo+Int.tdiv (hi-lo+1) 2-1) (by omega)).2
     have b:=(bsG_bd g n (lo+Int.tdiv (hi-lo+1) 2) hi m.2).1
     omega
    ·rw[if_neg hg]
     exact bsG_mono n (by omega) fun v a b=>h v a (by omega)
  ·rw[if_neg q,if_neg q];exact Int.le_refl _
theorem mkB_mono{s:Shp}(o:HulOk s){x x':Ice}(i:IceLe x' x){ch ch':Bool}(hc:ch=true->ch'=true){v:Int}(hv:0<=v)(h:mkB s x ch v=true):mkB s x' ch' v=true:=by
 unfold mkB at *
 rw[Bool.and_eq_true,decide_eq_true_eq,decide_eq_true_eq]at *
 have:=resS_mono o i hc hv
 exact ⟨h.1,by omega⟩
theorem brB_mono{s:Shp}{x x':Ice}(i:IceLe x' x){ch ch':Bool}(hc:ch=true->ch'=true){v:Int}(hv:0<=v)(h:brB s x ch v=true):brB s x' ch' v=true:=by
 unfold brB at *
 rw[decide_eq_true_eq]at *
 have:=loadS_mono i hc hv
 omega
structure CellLe(a b:Cell):Prop where
 c:a.conc.hi<=b.conc.hi
 t:a.thick.hi<=b.thick.hi
 r:a.ridge.hi<=b.ridge.hi
 p:a.press.hi<=b.press.hi
theorem CellLe.refl(a:Cell):CellLe a a:=⟨Int.le_refl _,Int.le_refl _,Int.le_refl _,Int.le_refl _⟩
theorem sfX_mono{s:Shp}{a b:Cell}(ha:rightC a)(hb:rightC b)(l:CellLe a b){ch ch':Bool}(hc:ch=true->ch'=true):(sfX s b ch).1<=(sfX s a ch').1:=by
 unfold sfX
 by_cases e:errShp s=0
 ·have o:=hulOk e
  rw[if_pos e,if_pos e,if_pos (show errCell b=0 from if_pos hb),if_pos (show errCell a=0 from if_pos ha)]
  have i:IceLe (lastI a) (lastI b):=by
   obtain ⟨h1,h2,h3,h4⟩:=ha
   unfold rightSp at h1 h2 h3 h4
   exact ⟨⟨by show 0<=a.conc.hi;omega,l.c⟩,⟨by show 0<=a.thick.hi;omega,l.t⟩,⟨by show 0<=a.ridge.hi;omega,l.r⟩,⟨by show 0<=a.press.hi;omega,l.p⟩⟩
  have g0:0<=(sfS s a ch').1:=by
   unfold sfS
   split
   ·exact Int.le_refl _
   ·split
    ·exact Int.le_refl _
    ·exact (go_bd s _ _).1
  have s0:spdS s (lastI b) ch<=spdS s (lastI a) ch':=by
   unfold spdS grG
   by_cases q:mkB s (lastI b) ch 0=true
   ·rw[if_pos q,if_pos (mkB_mono o i hc (Int.le_refl _) q)]
    exact bsG_mono _ (by decide) fun v h1 h2 h3=>mkB_mono o i hc h1 h3
   ·rw[if_neg q]
    split
    ·exact (bsG_bd _ _ _ _ (by decide)).1
    ·exact Int.le_refl _
  unfold sfS at *
  by_cases q:spdS s (lastI b) ch<10
  ·rw[if_pos q];exact g0
  ·rw[if_neg q]
   rw[if_neg (show ¬ spdS s (lastI a) ch'<10 by omega)]at g0 ⊢
   by_cases r:(goS s (lastI b) ch).2=false
   ·rw[if_pos r];exact g0
   ·rw[if_neg r]
    have mm:∀v:Int,0<=v->mbB s (lastI b) ch v=true->mbB s (lastI a) ch' v=true:=fun v hv h=>by
     unfold mbB at *
     rw[Bool.and_eq_true]at *
     exact ⟨mkB_mono o i hc hv h.1,brB_mono i hc hv h.2⟩
    unfold goS grG at r ⊢
    by_cases f:mbB s (lastI b) ch 10=true
    ·rw[if_pos f]
     have f':=mm 10 (by decide) f
     rw[if_pos f',if_neg (fun e=>by cases e)]
     exact bsG_mono _ (by decide) fun v h1 h2 h3=>mm v (by omega) h3
    ·rw[if_neg f]at r;exact absurd rfl r
 ·rw[if_neg e]
  show 0<=_
  split
  ·split
   ·unfold sfS
    split
    ·exact Int.le_refl _
    ·split
     ·exact Int.le_refl _
     ·exact (go_bd s _ _).1
   ·exact Int.le_refl _
  ·exact Int.le_refl _
theorem Walk.waits{p:Pl}{l:List Leg}{c t:Int}(k:Walk p l c t):∀n:Nat,t+(n:Int)<=endP p->wtB p c t (t+(n:Int))=true->Walk p l c (t+(n:Int))
 |0,_,_=>by rw[show t+((0:Nat):Int)=t by omega];exact k
 |n+1,h,w=>by
  have w':=wtB_iff.1 w
  have k1:=Walk.waits k n (by omega) (wtB_iff.2 fun u h1 h2=>w' u h1 (by omega))
  have q:=w' (t+(n:Int)) (by omega) (by omega)
  have:=k1.le
  rw[show t+((n+1:Nat):Int)=t+(n:Int)+1 by omega]
  exact ⟨k1.ok,k1.at_,k1.r0,.wait k1.r (wtB_one q) (by omega),by omega,wtB_more k1.le k1.w q,by omega⟩
theorem lf_zero{p:Pl}{a:Int}:∀(n:Nat) {c t:Int},t<=a->Int.toNat (a-t)=n->lfP p a c t=0->c=p.to
 |0,c,t,h1,h2,h3=>by
  obtain rfl:t=a:=by omega
  rw[lfP_end]at h3
  by_cases e:c=p.to
  ·exact e
  ·rw[if_neg e]at h3;omega
 |n+1,c,t,h1,h2,h3=>by
  have hlt:t<a:=by omega
  rw[lfP_eq hlt]at h3
  rcases lfTo_min p a (lgP p c t) (lf0 p a c t) with e|⟨x,hx,hxa,e⟩
  ·rw[e]at h3
   unfold lf0 at h3
   by_cases w:wtB p c t (t+1)=true
   ·rw[if_pos w]at h3
    exact lf_zero n (by omega) (by omega) h3
   ·rw[if_neg w]at h3;omega
  ·have:=(lfBd p (c:=x.to) hxa).1;omega
theorem best_walk{p:Pl}(o:PlOk p)(h:0<=arrP p):∀k:Nat,(k:Int)<=lfP p (arrP p) p.frm 0->Walk p (bsL p (arrP p) k) (bsC p (arrP p) k) (bsT p (arrP p) k)
 |0,_=>Walk.start o
 |k+1,hk=>by
  have b:=bsOk o h
  have ih:=best_walk o h k (by omega)
  have A:=bsAt o b k (by omega)
  have hp:=ablK_pos A.t.2 (by have:=A.n;omega) (by have:=A.n;have:=b.fin;omega)
  obtain ⟨j,j1,j2,j3,j4,_⟩:=ablK_mem (x:=nxL p (arrP p) k) (firL_mem hp)
  have w:=ih.waits j (by have:=b.a1;omega) j2
  have:=w.leg j3
  rw[bsL_succ,bsC_succ,bsT_succ];exact this
structure BestOk(p:Pl):Prop where
 w:Walk p (bestLs p) p.to (arrP p)
 t:acT (bestLs p) (bestLs p).length=arrP p
 n:(bestLs p).length<=300
theorem best_ok{p:Pl}(o:PlOk p)(h:0<=arrP p):BestOk p:=by
 have b:=bsOk o h
 have he:=endP_le o
 have n0:=(lfBd p (c:=p.frm) b.a0).1
 have e:bestLs p=bsL p (arrP p) (Int.toNat (lfP p (arrP p) p.frm 0)):=by unfold bestLs bestP;rw[if_neg (by omega)]
 have k:=best_walk o h (Int.toNat (lfP p (arrP p) p.frm 0)) (by omega)
 have A:=bsAt o b (Int.toNat (lfP p (arrP p) p.frm 0)) (by omega)
 have z:lfP p (arrP p) (bsC p (arrP p) (Int.toNat (lfP p (arrP p) p.frm 0))) (bsT p (arrP p) (Int.toNat (lfP p (arrP p) p.frm 0)))=0:=by have:=A.n;unfold bsN at this;omega
 have hc:=lf_zero _ A.t.2 rfl z
 rw[hc]at k
 have l:=(arr_least o k.r k.e).2
 have ht:bsT p (arrP p) (Int.toNat (lfP p (arrP p) p.frm 0))=arrP p:=by have:=A.t.2;omega
 rw[ht]at k
 have l0:=(arr_least o k.r0 (by have:=k.le;have:=k.e;omega)).2
 rw[<- e]at k l0
 refine ⟨k,by have:=k.le;omega,?_⟩
 have l1:=(lf_le k.r (Int.le_refl _)).2
 rw[lfP_end,if_pos rfl]at l1
 rw[e,bsL_len]
 have:=b.a1
 omega
structure Inn(q p:Pl):Prop where
 w:q.w=p.w
 h:q.h=p.h
 land:q.land=p.land
 shp:q.shp=p.shp
 size:q.size=p.size
 frm:q.frm=p.frm
 to:q.to=p.to
 cts:q.cts.length=p.cts.length
 chan:∀j:Nat,p.chan.getD j false=true->q.chan.getD j false=true
 rp:∀i j:Nat,rightC ((p.cts.getD i zCh).cells.getD j zeroC)
 rq:∀i j:Nat,rightC ((q.cts.getD i zCh).cells.getD j zeroC)
 le:∀i j:Nat,CellLe ((q.cts.getD i zCh).cells.getD j zeroC) ((p.cts.getD i zCh).cells.getD j zeroC)
theorem rightZ:rightC zeroC:=by unfold rightC rightSp zeroC;decide
theorem PlOk.right{p:Pl}(o:PlOk p)(i j:Nat):rightC ((p.cts.getD i zCh).cells.getD j zeroC):=by
 by_cases hi:i<p.cts.length
 ·by_cases hj:j<(p.cts.getD i zCh).cells.length
  ·exact (o.chart hi).cell j hj
  ·rw[List.getD_eq_getElem?_getD (l:=(p.cts.getD i zCh).cells),List.getElem?_eq_none (by omega)];exact rightZ
 ·rw[List.getD_eq_getElem?_getD (l:=p.cts),List.getElem?_eq_none (by omega)];exact rightZ
theorem Inn.sf{q p:Pl}(n:Inn q p)(c t:Int):sfP p c t<=sfP q c t:=by
 unfold sfP
 rw[n.shp]
 exact sfX_mono (n.rq _ _) (n.rp _ _) (n.le _ _) (n.chan _)
theorem Inn.endE{q p:Pl}(n:Inn q p):endP q=endP p:=by unfold endP;rw[n.cts]
theorem Inn.bs{q p:Pl}(n:Inn q p)(c:Int):bsP q c=bsP p c:=by
 unfold bsP bsTo nbB nbT nbU nbV
 rw[n.w,n.h,n.land]
theorem Inn.tk{q p:Pl}(n:Inn q p)(v:Int):tkP q v=tkP p v:=by unfold tkP;rw[n.size]
theorem Inn.wt{q p:Pl}(n:Inn q p){c a b:Int}(h:wtB p c a b=true):wtB q c a b=true:=wtB_iff.2 fun u h1 h2=>by
 have:=wtB_iff.1 h u h1 h2
 have:=sf_bd p c (Int.tdiv u 6)
 have:=n.sf c (Int.tdiv u 6)
 omega
theorem Inn.low{q p:Pl}(n:Inn q p)(to t:Int):∀k,lowP p to t k<=lowP q to t k
 |0=>Int.le_refl _
 |k+1=>by
  have i:=n.low to t k
  have s:=n.sf to (Int.tdiv (t+(k:Int)) 6)
  show (if _ then _ else _)<=(if _ then _ else _)
  split <;> split <;> omega
theorem Inn.sp{q p:Pl}(n:Inn q p)(to t:Int)(k:Nat):spL p to t k<=spL q to t k:=by
 have l:=n.low to t k
 unfold spL
 rw[n.size]
 split
 ·split <;> split <;> omega
 ·exact l
theorem tk_iff{s v m:Int}(hs:0<=s)(hv:1<=v):Int.tdiv (s+v-1) v=m ↔ v*(m-1)<s/\s<=v*m:=by
 rw[Int.tdiv_eq_ediv_of_nonneg (by omega)]
 have h1:=Int.mul_ediv_add_emod (s+v-1) v
 have h2:=Int.emod_nonneg (s+v-1) (show v≠0 by omega)
 have h3:=Int.emod_lt_of_pos (s+v-1) (show 0<v by omega)
 have e1:∀m:Int,v*(m-1)=v*m-v:=fun m=>by rw[Int.mul_sub,Int.mul_one]
 constructor
 ·rintro rfl
  rw[e1]
  exact ⟨by omega,by omega⟩
 ·rintro ⟨g1,g2⟩
  rw[e1]at g1
  have a:(s+v-1) / v<m+1:=Int.ediv_lt_of_lt_mul (by omega) (by rw[Int.mul_comm,Int.mul_add,Int.mul_one];omega)
  have b:m<=(s+v-1) / v:=Int.le_ediv_of_mul_le (by omega) (by rw[Int.mul_comm];omega)
  omega
theorem cap_iff{s k v:Int}(hs:0<=s)(hk:1<=k):v<=Int.tdiv (s-1) k->1<=s->v*k<s:=fun h h1=>by
 rw[Int.tdiv_eq_ediv_of_nonneg (by omega)]at h
 have:=(Int.le_ediv_iff_mul_le (by omega)).1 h
 omega
theorem spL_cap(p:Pl)(to t:Int){n:Nat}(h:1<n):spL p to t n<=Int.tdiv (6*p.size-1) ((n:Int)-1):=by
 unfold spL
 rw[if_pos h]
 split <;> omega
theorem Inn.leg{q p:Pl}(n:Inn q p)(hz:1<=p.size){c t:Int}{x:Leg}(h:x∈lgP p c t):∃y∈lgP q c t,y.to=x.to/\y.arr=x.arr:=by
 unfold lgP at h ⊢
 obtain ⟨to,h1,h2⟩:=List.mem_flatMap.1 h
 obtain ⟨k,h3,h4⟩:=lgFull_mem h2
 obtain ⟨e1,e2,e3,e4,e5,e6⟩:=lgOne_mem h4
 refine ⟨⟨to,t,spL q to t (k+1),t+1+(k:Int)⟩,List.mem_flatMap.2 ⟨to,by rw[n.bs];exact h1,?_⟩,e1.symm,e3.symm⟩
 have ok:okL q to t (k+1)=true:=by
  unfold okL at e5 ⊢
  rw[List.all_eq_true]at e5 ⊢
  intro j hj
  have g:=e5 j hj
  unfold goB at g ⊢
  rw[Bool.and_eq_true,decide_eq_true_eq,decide_eq_true_eq]at g ⊢
  have:=n.low to t (j+1);have:=n.sp to t (j+1)
  omega
 have g:=okL_at e5 (Nat.lt_succ_self k)
 unfold goB at g
 rw[Bool.and_eq_true,decide_eq_true_eq,decide_eq_true_eq]at g
 have sp:=n.sp to t (k+1)
 rw[e4]at e6
 unfold tkP at e6
 have u:=(tk_iff (by omega) (by omega)).1 e6
 have tk:tkP q (spL q to t (k+1))=((k+1:Nat):Int):=by
  unfold tkP
  rw[n.size]
  refine (tk_iff (by omega) (by omega)).2 ⟨?_,Int.le_trans u.2 (Int.mul_le_mul_of_nonneg_right sp (by omega))⟩
  by_cases q1:1<k+1
  ·have c:=spL_cap q to t q1
   rw[n.size]at c
   exact cap_iff (by omega) (by omega) c (by omega)
  ·rw[show (((k+1:Nat):Int)-1)=0 by omega,Int.mul_zero];omega
 unfold lgFull lgTo
 refine List.mem_flatMap.2 ⟨k,List.mem_range.2 (by rw[n.endE];omega),?_⟩
 unfold lgOne
 rw[ok,show (tkP q (spL q to t (k+1)) == ((k+1:Nat):Int))=true from beq_iff_eq.2 tk]
 exact List.mem_singleton.2 rfl
theorem Inn.rch{q p:Pl}(n:Inn q p)(hz:1<=p.size){t c:Int}(r:Rch p t c):Rch q t c:=by
 induction r with
 |start=>rw[<- n.frm];exact .start
 |wait r w h ih=>exact .wait ih (n.wt w) (by rw[n.endE];exact h)
 |leg r h m ih =>
  obtain ⟨y,hy,e1,e2⟩:=n.leg hz m
  rw[<- e1,<- e2];exact .leg ih (by rw[n.endE];exact h) hy
theorem Inn.arr{q p:Pl}(n:Inn q p)(oq:PlOk q)(op:PlOk p)(h:0<=arrP p):0<=arrP q/\arrP q<=arrP p:=by
 have b:=best_ok op h
 have r:=n.rch op.size.1 b.w.r
 rw[<- n.to]at r
 exact arr_least oq r (by rw[n.endE];exact b.w.e)
theorem Inn.acE{q p:Pl}(n:Inn q p){c t:Int}{x:Leg}(h:acE p c t x=0):acE q c t x=0:=by
 obtain ⟨a,b,d,e⟩:=acE_0 h
 refine acE_is (acB_iff.2 ?_) (by rw[n.endE];exact b) (n.wt d) ?_
 ·have:=acB_iff.1 a
  rw[n.bs,n.tk];exact this
 ·unfold mgOk at e ⊢
  rw[List.all_eq_true]at e ⊢
  intro j hj
  have:=e j hj
  rw[Bool.not_eq_true',decide_eq_false_iff_not]at this ⊢
  unfold acD at this ⊢
  have:=n.sf x.to (Int.tdiv (x.dep+(j:Int)) 6)
  omega
theorem Inn.acC{q p:Pl}(n:Inn q p)(l:List Leg):∀k,acC q l k=acC p l k
 |0=>n.frm
 |k+1=>rfl
theorem mgTo_mono{q p:Pl}(n:Inn q p){x:Leg}{a b:Int}(h:a<=b):∀k,mgTo p x a k<=mgTo q x b k
 |0=>h
 |k+1=>by
  have i:=mgTo_mono n (x:=x) h k
  have s:acD p x k<=acD q x k:=by unfold acD;have:=n.sf x.to (Int.tdiv (x.dep+(k:Int)) 6);omega
  show (if _ then _ else _)<=(if _ then _ else _)
  split <;> split <;> omega
theorem acM_mono{q p:Pl}(n:Inn q p)(l:List Leg):∀k,acM p l k<=acM q l k
 |0=>Int.le_refl _
 |k+1=>mgTo_mono n (acM_mono n l k) _
theorem Inn.acc{q p:Pl}(n:Inn q p){l:List Leg}(h:accE p l=0):accE q l=0/\accT q l=accT p l/\accM p l<=accM q l:=by
 have h':=h
 unfold accE at h'
 by_cases hl:300<l.length
 ·rw[if_pos hl]at h';cases h'
 rw[if_neg hl]at h'
 obtain ⟨h1,h2⟩:=first2_0 h'
 have e:accE q l=0:=by
  unfold accE
  rw[if_neg hl,first2_2 (errUp_z fun i hi =>?_),n.acC,n.to]
  ·exact h2
  ·unfold acU
   rw[n.acC]
   exact n.acE (errUp_all h1 i hi)
 refine ⟨e,?_,?_⟩
 ·unfold accT;rw[if_pos e,if_pos h]
 ·unfold accM;rw[if_pos e,if_pos h];exact acM_mono n l _
def Still(p:Pl):Prop:=∀i,i<p.cts.length->(p.cts.getD i zCh).cells=(p.cts.getD 0 zCh).cells
theorem Still.sf{p:Pl}(s:Still p){c t:Int}(h0:0<=t)(h1:t<endP p):sfP p c (Int.tdiv t 6)=sfP p c 0:=by
 have d:=tdiv6 (e:=((p.cts.length:Nat):Int)) h0 h1
 unfold sfP
 rw[s (Int.toNat (Int.tdiv t 6)) (by omega)];rfl
theorem Still.low{p:Pl}(s:Still p){to t:Int}(h0:0<=t):∀n:Nat,t+(n:Int)+1<=endP p->lowP p to t (n+1)=sfP p to 0
 |0,h=>by
  show (if sfP p to (Int.tdiv (t+((0:Nat):Int)) 6)<lowP p to t 0 then sfP p to (Int.tdiv (t+((0:Nat):Int)) 6) else lowP p to t 0)=_
  have e:lowP p to t 0=250:=rfl
  have b:=(sf_bd p to 0).2
  rw[e,s.sf (by omega) (by omega)]
  split <;> omega
 |n+1,h=>by
  show (if sfP p to (Int.tdiv (t+((n+1:Nat):Int)) 6)<lowP p to t (n+1) then sfP p to (Int.tdiv (t+((n+1:Nat):Int)) 6) else lowP p to t (n+1))=_
  rw[s.low h0 n (by omega),s.sf (by omega) (by omega),if_neg (Int.lt_irrefl _)]
def tkS(p:Pl)(c:Int):Int:=tkP p (sfP p c 0)
theorem tk_pos{p:Pl}(hz:1<=p.size){v:Int}(hv:1<=v):1<=tkP p v:=by
 have h:=(tk_iff (s:=6*p.size) (m:=tkP p v) (by omega) hv).1 rfl
 rcases Int.lt_or_le (tkP p v) 1 with g|g
 ·have:=Int.mul_le_mul_of_nonneg_left (show tkP p v<=0 by omega) (show 0<=v by omega)
  omega
 ·exact g
theorem tk_mono{p:Pl}(hz:1<=p.size){v w:Int}(hv:1<=v)(h:v<=w):tkP p w<=tkP p v:=by
 have a:=(tk_iff (s:=6*p.size) (m:=tkP p v) (by omega) hv).1 rfl
 have b:=(tk_iff (s:=6*p.size) (m:=tkP p w) (by omega) (show 1<=w by omega)).1 rfl
 have c:=tk_pos hz hv
 rcases Int.lt_or_le (tkP p v) (tkP p w) with g|g
 ·have d:=Int.mul_le_mul_of_nonneg_left (show tkP p v<=tkP p w-1 by omega) (show 0<=w by omega)
  have e:=Int.mul_le_mul_of_nonneg_right h (show 0<=tkP p v by omega)
  omega
 ·exact g
theorem Still.leg{p:Pl}(s:Still p)(hz:1<=p.size){c t to:Int}(hto:to∈bsP p c)(h0:0<=t)(hv:10<=sfP p to 0)(he:t+tkS p to<=endP p):∃x∈lgP p c t,x.to=to/\x.arr=t+tkS p to:=by
 have k1:=tk_pos hz (show 1<=sfP p to 0 by omega)
 obtain ⟨k,hk⟩:∃k:Nat,tkP p (sfP p to 0)=((k+1:Nat):Int):=⟨Int.toNat (tkP p (sfP p to 0)-1),by omega⟩
 have u:=(tk_iff (s:=6*p.size) (by omega) (show 1<=sfP p to 0 by omega)).1 hk
 unfold tkS at he ⊢
 rw[hk]at he ⊢
 have sp:∀j:Nat,j<=k->spL p to t (j+1)=sfP p to 0:=fun j hj=>by
  have l:=s.low (to:=to) h0 j (by omega)
  unfold spL
  rw[l]
  by_cases q:1<j+1
  ·rw[if_pos q]
   have m:=Int.mul_le_mul_of_nonneg_left (show ((j:Nat):Int)<=(((k+1:Nat):Int)-1) by omega) (show 0<=sfP p to 0 by omega)
   have d:sfP p to 0<=Int.tdiv (6*p.size-1) (((j+1:Nat):Int)-1):=by
    rw[Int.tdiv_eq_ediv_of_nonneg (by omega)]
    refine Int.le_ediv_of_mul_le (by omega) ?_
    rw[show (((j+1:Nat):Int)-1)=(j:Int) by omega]
    omega
   rw[if_neg (by omega)]
  ·rw[if_neg q]
 refine ⟨⟨to,t,spL p to t (k+1),t+1+(k:Int)⟩,List.mem_flatMap.2 ⟨to,hto,?_⟩,rfl,by show t+1+(k:Int)=_;omega⟩
 have ok:okL p to t (k+1)=true:=by
  unfold okL
  rw[List.all_eq_true]
  intro j hj
  have:=List.mem_range.1 hj
  unfold goB
  rw[sp j (by omega),s.low h0 j (by omega),Bool.and_eq_true,decide_eq_true_eq]
  exact ⟨hv,hv⟩
 unfold lgFull lgTo
 refine List.mem_flatMap.2 ⟨k,List.mem_range.2 (by omega),?_⟩
 unfold lgOne
 rw[ok,show (tkP p (spL p to t (k+1)) == ((k+1:Nat):Int))=true from beq_iff_eq.2 (by rw[sp k (Nat.le_refl k)];exact hk)]
 exact List.mem_singleton.2 rfl
def smS(p:Pl)(l:List Leg):Nat->Int
 |0=>0
 |k+1=>smS p l k+tkS p (l.getD k zL).to
theorem Still.go{p:Pl}(s:Still p)(hz:1<=p.size){l:List Leg}(h:errUp (acU p l) l.length=0):∀k,k<=l.length->(0<=smS p l k/\smS p l k<=acT l k)/\Rch p (smS p l k) (acC p l k)/\∀j,j<k->10<=sfP p (l.getD j zL).to 0
 |0,_=>⟨⟨Int.le_refl _,Int.le_refl _⟩,.start,fun j hj=>absurd hj (Nat.not_lt_zero j)⟩
 |k+1,hk=>by
  obtain ⟨⟨i0,i1⟩,i2,i3⟩:=s.go hz h k (by omega)
  have e:acE p (acC p l k) (acT l k) (l.getD k zL)=0:=errUp_all h k (by omega)
  obtain ⟨a,b,_,d⟩:=acE_0 e
  obtain ⟨b1,b2,b3,b4,b5⟩:=acB_iff.1 a
  have b3:=inB_iff.1 b3
  have tp:=tk_pos hz (show 1<=(l.getD k zL).spd by omega)
  have hN:0<lgN (l.getD k zL):=by unfold lgN;omega
  have g:=List.all_eq_true.1 d 0 (List.mem_range.2 hN)
  rw[Bool.not_eq_true',decide_eq_false_iff_not]at g
  unfold acD at g
  rw[s.sf (by omega) (by omega)]at g
  have hv:10<=sfP p (l.getD k zL).to 0:=by omega
  have tm:=tk_mono (w:=sfP p (l.getD k zL).to 0) hz (show 1<=(l.getD k zL).spd by omega) (by omega)
  have tq:=tk_pos hz (show 1<=sfP p (l.getD k zL).to 0 by omega)
  obtain ⟨x,hx,e1,e2⟩:=s.leg hz (c:=acC p l k) (t:=smS p l k) (ctI_mem b1) i0 hv (by unfold tkS;omega)
  refine ⟨⟨?_,?_⟩,?_,fun j hj =>?_⟩
  ·show 0<=smS p l k+tkP p (sfP p (l.getD k zL).to 0);omega
  ·show smS p l k+tkP p (sfP p (l.getD k zL).to 0)<=(l.getD k zL).arr;omega
  ·show Rch p (smS p l k+tkS p (l.getD k zL).to) (l.getD k zL).to
   have r:=Rch.leg i2 (by omega) hx
   rw[e1,e2]at r;exact r
  ·by_cases q:j=k
   ·rw[q];exact hv
   ·exact i3 j (by omega)
theorem Still.best{p:Pl}(s:Still p)(o:PlOk p)(h:0<=arrP p):smS p (bestLs p) (bestLs p).length=arrP p:=by
 have b:=best_ok o h
 obtain ⟨⟨g0,g1⟩,g2,_⟩:=s.go o.size.1 b.w.ok (bestLs p).length (Nat.le_refl _)
 rw[b.w.at_]at g2
 have l:=(arr_least o g2 (by have:=b.w.e;have:=b.t;omega)).2
 have:=b.t
 omega
structure Prt where
 cell:Cell
 ch:Bool
 len:Int
abbrev prC(x:Prt):List Value:=[.int .i64 x.cell.conc.lo,.int .i64 x.cell.conc.hi,.int .i64 x.cell.thick.lo,.int .i64 x.cell.thick.hi,.int .i64 x.cell.ridge.lo,.int .i64 x.cell.ridge.hi,.int .i64 x.cell.press.lo,.int .i64 x.cell.press.hi,.bool x.ch,.int .i64 x.len]
def zPr:Prt:=⟨zeroC,false,0⟩
theorem prC_len(x:Prt):(prC x).length=10:=rfl
def spS(s:Shp)(x:Prt):Int:=(sfS s x.cell x.ch).1
def moS(s:Shp)(x:Prt):Int:=(goS s (firstI x.cell) x.ch).1
def tkM(x:Prt)(v:Int):Int:=Int.tdiv (60*x.len+v-1) v
def spsTo(s:Shp)(P:List Prt)(k:Nat):List Int:=(List.range k).map fun j=>spS s (P.getD j zPr)
def loM(s:Shp)(P:List Prt):Nat->Int
 |0=>0
 |k+1=>loM s P k+tkM (P.getD k zPr) (moS s (P.getD k zPr))
def hiM(s:Shp)(P:List Prt):Nat->Int
 |0=>0
 |k+1=>hiM s P k+tkM (P.getD k zPr) (spS s (P.getD k zPr))
theorem spsTo_len(s:Shp)(P:List Prt)(k:Nat):(spsTo s P k).length=k:=by unfold spsTo;simp
theorem spsTo_succ(s:Shp)(P:List Prt)(k:Nat):spsTo s P (k+1)=spsTo s P k ++ [spS s (P.getD k zPr)]:=by unfold spsTo;rw[List.range_succ,List.map_append];rfl
structure PrtOk(s:Shp)(P:List Prt):Prop where
 n:1<=P.length/\P.length<=100
 len:∀k,k<P.length->1<=(P.getD k zPr).len/\(P.getD k zPr).len<=10000
 cell:∀k,k<P.length->errCell (P.getD k zPr).cell=0
 safe:∀k,k<P.length->(sfS s (P.getD k zPr).cell (P.getD k zPr).ch).2=0
def stC(p:Pl)(k:Nat):List Cht:=(List.range (k+1)).map fun (j:Nat)=>⟨(p.cts.getD 0 zCh).w,(p.cts.getD 0 zCh).h,(p.cts.getD 0 zCh).hr+(j:Int),(p.cts.getD 0 zCh).cells⟩
def stP(p:Pl):Pl:={ p with cts:=stC p 5 }
def prtTo(p:Pl)(l:List Leg)(k:Nat):List Prt:=(List.range k).map fun j=>⟨(p.cts.getD 0 zCh).cells.getD (Int.toNat (l.getD j zL).to) zeroC,p.chan.getD (Int.toNat (l.getD j zL).to) false,p.size⟩
def smL(p:Pl)(l:List Leg):Nat->Int
 |0=>0
 |k+1=>smL p l k+Int.tdiv (Int.tdiv (60*p.size+spS p.shp ((prtTo p l l.length).getD k zPr)-1) (if spS p.shp ((prtTo p l l.length).getD k zPr)<1 then 1 else spS p.shp ((prtTo p l l.length).getD k zPr))+9) 10
abbrev yb3(s:Shp)(P:List Prt):Value:=.tuple #[slQ 5 1 (spsTo s P P.length).length,.agg #[nI (loM s P P.length),nI (hiM s P P.length)],nI 0]
abbrev ybi:Prop:=True/\True
abbrev ybf(P:List Prt):Int:=(P.length:Nat)
abbrev ybb(P:List Prt):Prop:=wR (slQ 4 2 P.length)/\eR (nI (ybf P))/\True
abbrev ybe:KObj:=.cells true 0 [nI 0,nI 0]
abbrev yb5(P:List Prt)(x2:Nat):Value:=.agg #[nI (P.getD x2 zPr).cell.conc.lo,nI (P.getD x2 zPr).cell.conc.hi,nI (P.getD x2 zPr).cell.thick.lo,nI (P.getD x2 zPr).cell.thick.hi,nI (P.getD x2 zPr).cell.ridge.lo,nI (P.getD x2 zPr).cell.ridge.hi,nI (P.getD x2 zPr).cell.press.lo,nI (P.getD x2 zPr).cell.press.hi,.bool (P.getD x2 zPr).ch,nI (P.getD x2 zPr).len]
abbrev ybh(P:List Prt):Prop:=eR (pt 6)/\eR (pt 5)/\eR (.func (.func 39) #[] #[])/\eR (pt 7)/\ybb P
abbrev ybg(P:List Prt)(x3:Nat):=P.getD x3 zPr
abbrev yb6(P:List Prt)(x3:Nat):Value:=.agg #[nI (ybg P x3).cell.conc.lo,nI (ybg P x3).cell.conc.hi,nI (ybg P x3).cell.thick.lo,nI (ybg P x3).cell.thick.hi,nI (ybg P x3).cell.ridge.lo,nI (ybg P x3).cell.ridge.hi,nI (ybg P x3).cell.press.lo,nI (ybg P x3).cell.press.hi,.bool (ybg P x3).ch,nI (ybg P x3).len]
abbrev yb4:List Value:=[nI 4000,nI 8000,nI 14000,nI 24000,nI 40000,nI 90000]
abbrev yb2(s:Shp):List Value:=[nI s.cls,nI s.pow,nI s.dra,nI s.ton,slQ 1 2 s.th.length,slQ 2 2 s.wa.length,slQ 3 2 s.ic.length,nI s.slow,nI s.brash,nI s.rdg,nI s.prs]
abbrev yba(s:Shp):Prop:=(someR (.cells false 0 yb4))/\(someR (.cells true 0 (yb2 s)))/\(someR (.cells true 2 (s.th.flatMap ptC)))/\(someR (.cells true 2 (s.wa.flatMap ptC)))/\(someR (.cells true 2 (s.ic.flatMap ptC)))/\True
abbrev yb7(H':Heap)(s:Shp):Prop:=H'[0]?=some (.cells false 0 yb4:KObj)/\H'[5]?=some (.cells true 0 (yb2 s):KObj)/\H'[1]?=some (.cells true 2 (s.th.flatMap ptC):KObj)/\H'[2]?=some (.cells true 2 (s.wa.flatMap ptC):KObj)/\H'[3]?=some (.cells true 2 (s.ic.flatMap ptC):KObj)/\True
abbrev yb1(s:Shp)(P:List Prt)(x3:Nat):=sfS s (ybg P x3).cell (ybg P x3).ch
abbrev yb0(s:Shp)(P:List Prt)(x3:Nat):=goS s (firstI (ybg P x3).cell) (ybg P x3).ch
abbrev yb8(P:List Prt)(x3:Nat)(s:Shp):=Int.tdiv (((60*(ybg P x3).len)+(yb0 s P x3).1)-1) (yb0 s P x3).1
abbrev yb9(P:List Prt)(x3:Nat)(s:Shp):=Int.tdiv (((60*(ybg P x3).len)+(yb1 s P x3).1)-1) (yb1 s P x3).1
def Rhleg(s:Shp)(P:List Prt):Prop :=
 (c3q 7 1 (.cells true 2 (s.th.flatMap ptC)) 2 (.cells true 2 (s.wa.flatMap ptC)) 3 (.cells true 2 (s.ic.flatMap ptC)) 36 [.agg #[nI s.cls,nI s.pow,nI s.dra,nI s.ton,slQ 1 2 s.th.length,slQ 2 2 s.wa.length,slQ 3 2 s.ic.length,nI s.slow,nI s.brash,nI s.rdg,nI s.prs]] (nI (errShp s)) (fk (((errShp s):Int) != 0) (true=true/\wk (.tuple #[.slice none 0 0,.agg #[nI 0,nI 0],nI (errShp s)]:Value) (rn (sg 5 []) 3 (yb3 s P))/\ybi) (c0q 7 37 [nI (ybf P),nI 1,nI 100] (.bool (inB (ybf P) 1 100)) (fk (!(inB (ybf P) 1 100)) (true=true/\wk (.tuple #[.slice none 0 0,.agg #[nI 0,nI 0],nI 2]:Value) (rn (sg 5 []) 3 (yb3 s P))/\ybi) (lq (0<=List.length P) (true=true/\((nI 0:Value)=nI ((0:Nat):Int)/\wR (slQ 4 2 P.length)/\eR (pt 5)/\eR (pt 6)/\ybb P)/\((krq 7 ybe)/\True)/\(True)/\(True)) (∀x2:Nat,(x2<=List.length P)->(fk (decide (((x2:Int):Int)<(ybf P))) ((ixq (x2:Int) P.length)/\((partA 10 (P.flatMap prC) (0+Int.toNat (x2:Int)*10)=some (yb5 P x2))/\(c0q 8 37 [nI (P.getD x2 zPr).len,nI 1,nI 10000] (.bool (inB (P.getD x2 zPr).len 1 10000)) (fk (!(inB (P.getD x2 zPr).len 1 10000)) (true=true/\wk (.tuple #[.slice none 0 0,.agg #[nI 0,nI 0],nI 6]:Value) (rn (sg 5 []) 3 (yb3 s P))/\ybi) (c0q 8 38 [.agg #[nI (P.getD x2 zPr).cell.conc.lo,nI (P.getD x2 zPr).cell.conc.hi,nI (P.getD x2 zPr).cell.thick.lo,nI (P.getD x2 zPr).cell.thick.hi,nI (P.getD x2 zPr).cell.ridge.lo,nI (P.getD x2 zPr).cell.ridge.hi,nI (P.getD x2 zPr).cell.press.lo,nI (P.getD x2 zPr).cell.press.hi]] (nI (errCell (P.getD x2 zPr).cell)) (fk (((errCell (P.getD x2 zPr).cell):Int) != 0) (true=true/\wk (.tuple #[.slice none 0 0,.agg #[nI 0,nI 0],nI (errCell (P.getD x2 zPr).cell)]:Value) (rn (sg 5 []) 3 (yb3 s P))/\ybi) (nw ((x2:Int)+1) (∃x2':Nat,(x2'<=List.length P)/\(List.length P-x2')<(List.length P-x2)/\true=true/\((nI ((x2:Int)+1):Value)=nI (x2':Int)/\wR (slQ 4 2 P.length)/\eR (pt 5)/\eR (pt 6)/\ybb P)/\((krq 7 ybe)/\True)/\(True)/\(True))))))))) (lq (0<=List.length P) (true=true/\((nI 0:Value)=nI ((0:Nat):Int)/\wk (.slice none 0 0:Value) (slQ 0 1 (spsTo s P 0).length:Value)/\ybh P)/\((krq 8 ybe)/\(kbq 8 ybe (.cells true 0 [nI (loM s P 0),nI (hiM s P 0)]))/\True)/\ybi/\(True)) (∀x3:Nat,(x3<=List.length P)->(fk (decide (((x3:Int):Int)<(ybf P))) ((ixq (x3:Int) P.length)/\((partA 10 (P.flatMap prC) (0+Int.toNat (x3:Int)*10)=some (yb6 P x3))/\((yba s)/\(∀H':Heap,H'.length=10->(yb7 H' s)->KCall prog 40 [pt 5,.agg #[nI (ybg P x3).cell.conc.lo,nI (ybg P x3).cell.conc.hi,nI (ybg P x3).cell.thick.lo,nI (ybg P x3).cell.thick.hi,nI (ybg P x3).cell.ridge.lo,nI (ybg P x3).cell.ridge.hi,nI (ybg P x3).cell.press.lo,nI (ybg P x3).cell.press.hi],.bool (ybg P x3).ch] H' [] (Is (.tuple #[nI (yb1 s P x3).1,nI (yb1 s P x3).2]) H'))/\(fk (((yb1 s P x3).2:Int) != 0) (true=true/\wk (.tuple #[.slice none 0 0,.agg #[nI (x3:Int),nI 0],nI (yb1 s P x3).2]:Value) (rn (sg 5 []) 3 (yb3 s P))/\ybi) ((yba s)/\(∀H':Heap,H'.length=10->(yb7 H' s)->KCall prog 42 [.agg #[pt 5,nI (ybg P x3).cell.conc.lo,nI (ybg P x3).cell.thick.lo,nI (ybg P x3).cell.ridge.lo,nI (ybg P x3).cell.press.lo,.bool (ybg P x3).ch]] H' [] (Is (.tuple #[nI (yb0 s P x3).1,.bool (yb0 s P x3).2]) H'))/\(apq (spsTo s P x3).length 8 1 ((spsTo s P x3).flatMap intC) [nI (yb1 s P x3).1] (nw (60*(ybg P x3).len) (nw ((60*(ybg P x3).len)+(yb0 s P x3).1) (nw (((60*(ybg P x3).len)+(yb0 s P x3).1)-1) ((((yb0 s P x3).1:Int)≠0)/\(nw (yb8 P x3 s) (nw ((loM s P x3)+(yb8 P x3 s)) (nw (60*(ybg P x3).len) (nw ((60*(ybg P x3).len)+(yb1 s P x3).1) (nw (((60*(ybg P x3).len)+(yb1 s P x3).1)-1) ((((yb1 s P x3).1:Int)≠0)/\(nw (yb9 P x3 s) (nw ((hiM s P x3)+(yb9 P x3 s)) (nw ((x3:Int)+1) (∃x3':Nat,(x3'<=List.length P)/\(List.length P-x3')<(List.length P-x3)/\true=true/\((nI ((x3:Int)+1):Value)=nI (x3':Int)/\wk (slN 11 ((spsTo s P x3).length+1):Value) (slQ 11 1 (spsTo s P x3').length:Value)/\ybh P)/\((krq 8 ybe)/\(kbq 8 (.cells true 0 [nI ((loM s P x3)+(yb8 P x3 s)),nI ((hiM s P x3)+(yb9 P x3 s))]) (.cells true 0 [nI (loM s P x3'),nI (hiM s P x3')]))/\True)/\((kbq 8 (.cells true 1 (((((spsTo s P x3).flatMap intC).drop 0).take ((spsTo s P x3).length*1))++((([nI (yb1 s P x3).1]:List Value).drop 0).take (1*1)))) (.cells true 1 ((spsTo s P x3').flatMap intC)))/\True)/\(True))))))))))))))))))))) (true=true/\wk (.tuple #[slQ 8 1 (spsTo s P x3).length,.agg #[nI (loM s P x3),nI (hiM s P x3)],nI 0]:Value) (rn (sg 5 [(5,8)]) 3 (yb3 s P))/\((kbq 5 (.cells true 1 ((spsTo s P x3).flatMap intC)) (.cells true 1 ((spsTo s P P.length).flatMap intC)))/\True))))))))))))
abbrev ybd(s:Shp)(P:List Prt):=readsK [.cells false 0 yb4,.cells true 2 (s.th.flatMap ptC),.cells true 2 (s.wa.flatMap ptC),.cells true 2 (s.ic.flatMap ptC),.cells true 10 (P.flatMap prC)]
abbrev ybc(s:Shp):List (Nat×KObj):=[(0,.cells false 0 yb4),(5,.cells true 0 (yb2 s)),(1,.cells true 2 (s.th.flatMap ptC)),(2,.cells true 2 (s.wa.flatMap ptC)),(3,.cells true 2 (s.ic.flatMap ptC))]
theorem Ehleg(s:Shp)(P:List Prt):vF prog msk (dm 0) 100000 true 40 true 10 [.agg #[nI s.cls,nI s.pow,nI s.dra,nI s.ton,slQ 1 2 s.th.length,slQ 2 2 s.wa.length,slQ 3 2 s.ic.length,nI s.slow,nI s.brash,nI s.rdg,nI s.prs],slQ 4 2 P.length] (ybd s P) (some [])
 (.go 4 (.ans [(1,.cells true 2 (s.th.flatMap ptC)),(2,.cells true 2 (s.wa.flatMap ptC)),(3,.cells true 2 (s.ic.flatMap ptC))] (nI (errShp s)) [] (.go 2 (.fork (.go 4 (.again [])) (.go 1 (.ans [] (.bool (inB (ybf P) 1 100)) [] (.go 0 (.fork (.go 3 (.again [])) (.go 2 (.inv 3 (Nat) (0) [] [6] (fun x2=>[(33,nI (x2:Int)),(1,slQ 4 2 P.length),(2,pt 5),(5,pt 6),(31,slQ 4 2 P.length),(32,nI (ybf P))]) (fun x2=>[(6,true,.cells true 0 [nI 0,nI 0])]) (fun x2=>[]) (fun x2=>[]) (fun x2=>(x2<=List.length P)) (fun x2=>(List.length P-x2)) (fun x2 => .go 0 (.fork (.need (.val (yb5 P x2) (.go 3 (.ans [] (.bool (inB (P.getD x2 zPr).len 1 10000)) [] (.go 0 (.fork (.go 3 (.again [])) (.go 1 (.ans [] (nI (errCell (P.getD x2 zPr).cell)) [] (.go 2 (.fork (.go 4 (.again [])) (.go 0 (.slot 49 (nI ((x2:Int)+1)) (.go 0 (.again [])))))))))))))) (.go 5 (.inv 3 (Nat) (0) [] [6,7] (fun x3=>[(52,nI (x3:Int)),(12,slQ 8 1 (spsTo s P x3).length),(5,pt 6),(2,pt 5),(11,.func (.func 39) #[] #[]),(13,pt 7),(50,slQ 4 2 P.length),(51,nI (ybf P))]) (fun x3=>[(6,true,.cells true 0 [nI 0,nI 0]),(7,true,.cells true 0 [nI (loM s P x3),nI (hiM s P x3)])]) (fun x3=>[(true,.cells true 1 ((spsTo s P x3).flatMap intC))]) (fun x3=>[]) (fun x3=>(x3<=List.length P)) (fun x3=>(List.length P-x3)) (fun x3 => .go 0 (.fork (.go 0 (.need (.val (yb6 P x3) (.go 6 (.ans (ybc s) (.tuple #[nI (yb1 s P x3).1,nI (yb1 s P x3).2]) [] (.go 6 (.fork (.go 5 (.again [])) (.go 21 (.ans (ybc s) (.tuple #[nI (yb0 s P x3).1,.bool (yb0 s P x3).2]) [] (.go 7 (.need (.go 16 (.slot 7 (nI (60*(ybg P x3).len)) (.go 1 (.slot 9 (nI ((60*(ybg P x3).len)+(yb0 s P x3).1)) (.go 0 (.slot 10 (nI (((60*(ybg P x3).len)+(yb0 s P x3).1)-1)) (.go 0 (.need (.slot 12 (nI (yb8 P x3 s)) (.go 1 (.slot 90 (nI ((loM s P x3)+(yb8 P x3 s))) (.go 6 (.slot 7 (nI (60*(ybg P x3).len)) (.go 1 (.slot 9 (nI ((60*(ybg P x3).len)+(yb1 s P x3).1)) (.go 0 (.slot 10 (nI (((60*(ybg P x3).len)+(yb1 s P x3).1)-1)) (.go 0 (.need (.slot 12 (nI (yb9 P x3 s)) (.go 1 (.slot 97 (nI ((hiM s P x3)+(yb9 P x3 s))) (.go 3 (.slot 100 (nI ((x3:Int)+1)) (.go 0 (.again [(8,11)]))))))))))))))))))))))))))))))))))))) (.go 4 (.again [(5,8)]))))))))))))))))))
 (newK ((ybd s P):HT).n 3 (.tuple #[slQ 5 1 (spsTo s P P.length).length,.agg #[nI (loM s P P.length),nI (hiM s P P.length)],nI 0]) [(true,.cells true 1 ((spsTo s P P.length).flatMap intC))])=Rhleg s P:=by kernel_rfl
theorem firstOk{c:Cell}(h:rightC c):IceOk (firstI c):=by
 obtain ⟨h1,h2,h3,h4⟩:=h
 unfold rightSp at h1 h2 h3 h4
 unfold IceOk firstI
 dsimp only;omega
theorem first_le{c:Cell}(h:rightC c):IceLe (firstI c) (lastI c):=by
 obtain ⟨h1,h2,h3,h4⟩:=h
 unfold rightSp at h1 h2 h3 h4
 exact ⟨by show 0<=c.conc.lo/\c.conc.lo<=c.conc.hi;omega,by show 0<=c.thick.lo/\c.thick.lo<=c.thick.hi;omega,by show 0<=c.ridge.lo/\c.ridge.lo<=c.ridge.hi;omega,by show 0<=c.press.lo/\c.press.lo<=c.press.hi;omega⟩
theorem go_first{s:Shp}(e:errShp s=0){c:Cell}{ch:Bool}(hc:rightC c)(h:(sfS s c ch).2=0):(10<=(sfS s c ch).1/\(sfS s c ch).1<=250)/\10<=(goS s (firstI c) ch).1/\(goS s (firstI c) ch).1<=250:=by
 unfold sfS at h ⊢
 by_cases q:spdS s (lastI c) ch<10
 ·rw[if_pos q]at h;cases h
 rw[if_neg q]at h ⊢
 by_cases r:(goS s (lastI c) ch).2=false
 ·rw[if_pos r]at h;cases h
 rw[if_neg r]
 unfold goS grG at r ⊢
 by_cases f:mbB s (lastI c) ch 10=true
 ·have f':mbB s (firstI c) ch 10=true:=by
   unfold mbB at *
   rw[Bool.and_eq_true]at *
   exact ⟨mkB_mono (hulOk e) (first_le hc) (fun h=>h) (by decide) f.1,brB_mono (first_le hc) (fun h=>h) (by decide) f.2⟩
  rw[if_pos f,if_pos f']
  exact ⟨bsG_bd _ _ _ _ (by decide),bsG_bd _ _ _ _ (by decide)⟩
 ·rw[if_neg f]at r;exact absurd rfl r
theorem tkM_bd{x:Prt}(h:1<=x.len/\x.len<=10000){v:Int}(hv:10<=v/\v<=250):0<=tkM x v/\tkM x v<=60025:=tdiv_bd (by omega) (by omega) (by omega)
theorem partPr{l:List Prt}{k off:Nat}(h:k<l.length)(ho:off=k*10):partA 10 (l.flatMap prC) off=some (.agg ⟨prC (l.getD k zPr)⟩):=part_at (n:=10) (d:=zPr) (c:=0) (m:=10) prC_len h (by omega) (by omega)
theorem plainPr(n:Nat)(l:List Prt):(l.flatMap prC).all (belowC n)=true:=plain_flat (fun _=>rfl) l
theorem kHLeg{s:Shp}(e:errShp s=0)(hs:LstOk s){P:List Prt}(o:PrtOk s P){H:Heap}{i j k L:Nat}(a:CvAt H s i j k)(hnd:[0,i,j,k,L].Nodup)(h4:H[L]?=some (.cells true 10 (P.flatMap prC))) :
  KCall prog 10 [shpV s i j k,slR L P.length] H [] (Is (.tuple #[.slice (some ⟨H.length,0,some 1⟩) (spsTo s P P.length).length (spsTo s P P.length).length,.agg #[.int .i64 (loM s P P.length),.int .i64 (hiM s P P.length)],.int .i64 0]) (H ++ [.cells true 1 ((spsTo s P P.length).flatMap intC)])):=by
 have pr:∀σ,rno σ 3 (.cells true 10 (P.flatMap prC)) = .cells true 10 (P.flatMap prC):=fun σ=>congrArg (KObj.cells true 10) (rnCl (d:=0) (plainPr 0 P)).1
 have ok:[strO,.cells true 2 (s.th.flatMap ptC),.cells true 2 (s.wa.flatMap ptC),.cells true 2 (s.ic.flatMap ptC),.cells true 10 (P.flatMap prC)].all (rnoOk 3)=true:=by
  show (rnoOk 3 strO&&(rnoOk 3 (.cells true 2 (s.th.flatMap ptC))&&(rnoOk 3 (.cells true 2 (s.wa.flatMap ptC))&&(rnoOk 3 (.cells true 2 (s.ic.flatMap ptC))&&(rnoOk 3 (.cells true 10 (P.flatMap prC))&&true)))))=true
  rw[ptRok,ptRok,ptRok,show rnoOk 3 (.cells true 10 (P.flatMap prC))=true from (rnCl (σ:=fun _=>none) (d:=0) (plainPr 0 P)).2];rfl
 refine valKs (fun j => .tuple #[.slice (some ⟨j,0,some 1⟩) (spsTo s P P.length).length (spsTo s P P.length).length,.agg #[.int .i64 (loM s P P.length),.int .i64 (hiM s P P.length)],.int .i64 0]) (new:=[.cells true 1 ((spsTo s P P.length).flatMap intC)]) (os:=[strO,.cells true 2 (s.th.flatMap ptC),.cells true 2 (s.wa.flatMap ptC),.cells true 2 (s.ic.flatMap ptC),.cells true 10 (P.flatMap prC)]) (ids:=[0,i,j,k,L]) (Eq.mpr (Ehleg s P) ?_) ok rfl ⟨⟨_,_,rfl,plainIL _ _⟩,trivial⟩ hnd ⟨a.2.1,by rw[ptRno];exact a.2.2.1,by rw[ptRno];exact a.2.2.2.1,by rw[ptRno];exact a.2.2.2.2,by rw[pr];exact h4,trivial⟩ rfl (fun j=>rfl) rfl
 have hn:=o.n
 have so:=shpOk e
 have gf:∀y,y<P.length->(10<=spS s (P.getD y zPr)/\spS s (P.getD y zPr)<=250)/\10<=moS s (P.getD y zPr)/\moS s (P.getD y zPr)<=250:=fun y hy=>go_first e (errCell_iff.1 (o.cell y hy)) (o.safe y hy)
 have bd:∀y,y<=P.length->(0<=loM s P y/\loM s P y<=60025*(y:Int))/\0<=hiM s P y/\hiM s P y<=60025*(y:Int):=fun y=>by
  induction y with
  |zero=>intro _;exact ⟨⟨Int.le_refl 0,Int.le_refl 0⟩,Int.le_refl 0,Int.le_refl 0⟩
  |succ y ih =>
   intro h
   have a:=ih (by omega)
   have g:=gf y (by omega)
   have t1:=tkM_bd (o.len y (by omega)) g.1
   have t2:=tkM_bd (o.len y (by omega)) g.2
   show (0<=loM s P y+tkM (P.getD y zPr) (moS s (P.getD y zPr))/\_)/\0<=hiM s P y+tkM (P.getD y zPr) (spS s (P.getD y zPr))/\_
   refine ⟨⟨by omega,?_⟩,by omega,?_⟩
   ·show loM s P y+tkM (P.getD y zPr) (moS s (P.getD y zPr))<=_;omega
   ·show hiM s P y+tkM (P.getD y zPr) (spS s (P.getD y zPr))<=_;omega
 delta Rhleg yb3 ybi ybf ybb ybe yb5 ybh yb6 yba yb7 ybg yb1 yb0 yb8 yb9 yb4 yb2 nI slQ pt slN someR fk nw eR wR krq kbq ixq lq apq c0q c3q
 refine ⟨⟨rfl,rfl,rfl,trivial⟩,fun H' hn h=>kHCheck s hs h.1 h.2.1 h.2.2.1,forkNe (fun q=>absurd e q) (fun _=>⟨trivial,fun H' hn _=>kWithin _ _ _ (by omega),forkNot ⟨fun _ =>?_,fun q =>?_⟩⟩)⟩
 ·refine ⟨rfl,Nat.zero_le _,?_,fun _=>rfl,fun x hx=>forkD (fun hx1 =>?_) (fun _ =>?_)⟩
  ·repeat' first|exact trivial|exact rfl|exact wk_refl _|refine ⟨rfl,?_⟩|refine ⟨trivial,?_⟩|apply And.intro
  ·refine ⟨⟨by omega,by omega⟩,partPr (by omega) (by omega),trivial,fun H' hn _=>kWithin _ _ _ (by omega),forkNot ⟨fun _=>⟨trivial,fun H' hn _=>kCCell _ (by omega),forkNe (fun q=>absurd (o.cell x (by omega)) q) (fun _=>⟨vI64 (by omega),x+1,by omega,by omega,?_⟩)⟩,fun q =>?_⟩⟩
   ·repeat' first|exact trivial|exact rfl|exact wk_refl _|refine ⟨rfl,?_⟩|refine ⟨trivial,?_⟩|apply And.intro
   ·rw[inB_iff.2 (o.len x (by omega))]at q;cases q
  ·refine ⟨rfl,Nat.zero_le _,?_,fun _=>rfl,fun y hy=>forkD (fun hy1 =>?_) (fun hy1 =>?_)⟩
   ·repeat' first|exact trivial|exact rfl|exact wk_refl _|exact wk_nil _ _ _ (.inl rfl)|refine ⟨rfl,?_⟩|refine ⟨trivial,?_⟩|apply And.intro
   ·have hy2:y<P.length:=by omega
    have hc:=errCell_iff.1 (o.cell y hy2)
    have g:=gf y hy2
    have t1:=tkM_bd (o.len y hy2) g.1
    have t2:=tkM_bd (o.len y hy2) g.2
    have ln:=o.len y hy2
    have b:=bd y hy
    refine ⟨⟨by omega,by omega⟩,partPr (by omega) (by omega),⟨rfl,rfl,rfl,rfl,rfl,trivial⟩,fun H' hn h=>kSSafe so hc ⟨by decide,h.1,h.2.1,h.2.2.1,h.2.2.2.1,h.2.2.2.2.1⟩,forkNe (fun q=>absurd (o.safe y hy2) q) (fun _=>⟨⟨rfl,rfl,rfl,rfl,rfl,trivial⟩,fun H' hn h=>kGoes so (firstOk hc) ⟨by decide,h.1,h.2.1,h.2.2.1,h.2.2.2.1,h.2.2.2.2.1⟩,?_⟩)⟩
    rw[show (sfS s (P.getD y zPr).cell (P.getD y zPr).ch).1=spS s (P.getD y zPr) from rfl,show (goS s (firstI (P.getD y zPr).cell) (P.getD y zPr).ch).1=moS s (P.getD y zPr) from rfl]
    rw[show Int.tdiv (60*(P.getD y zPr).len+spS s (P.getD y zPr)-1) (spS s (P.getD y zPr))=tkM (P.getD y zPr) (spS s (P.getD y zPr)) from rfl,show Int.tdiv (60*(P.getD y zPr).len+moS s (P.getD y zPr)-1) (moS s (P.getD y zPr))=tkM (P.getD y zPr) (moS s (P.getD y zPr)) from rfl]
    refine ⟨⟨by rw[spsTo_len];omega,by decide,⟨Nat.le_refl _,by rw[flat_len intC_len];omega⟩,⟨Nat.le_refl _,by simp⟩,rfl⟩,rfl,vI64 (by omega),vI64 (by omega),vI64 (by omega),by omega,vI64 (by omega),vI64 (by omega),vI64 (by omega),vI64 (by omega),vI64 (by omega),by omega,vI64 (by omega),vI64 (by omega),vI64 (by omega),y+1,by omega,by omega,?_⟩
    repeat' first|exact plainIL _ _|exact ob_snoc intC_len (spsTo_succ s P y) rfl|(exact wk_QF (by rw[spsTo_len,spsTo_len]) (by omega))|exact trivial|exact rfl|exact wk_refl _|refine ⟨rfl,?_⟩|apply And.intro
   ·obtain rfl:y=P.length:=by omega
    repeat' first|exact plainIL _ _|exact trivial|exact wk_refl _|refine ⟨rfl,?_⟩|apply And.intro
 ·rw[inB_iff.2 ⟨by omega,by omega⟩]at q;cases q
theorem stC_len(p:Pl)(k:Nat):(stC p k).length=k+1:=by unfold stC;simp
theorem stC_get(p:Pl){k j:Nat}(h:j<=k):(stC p k).getD j zCh=⟨(p.cts.getD 0 zCh).w,(p.cts.getD 0 zCh).h,(p.cts.getD 0 zCh).hr+(j:Int),(p.cts.getD 0 zCh).cells⟩:=by
 unfold stC
 rw[List.getD_eq_getElem?_getD,List.getElem?_map,List.getElem?_range (by omega)];rfl
theorem stC_succ(p:Pl)(k:Nat):stC p (k+1)=stC p k ++ [⟨(p.cts.getD 0 zCh).w,(p.cts.getD 0 zCh).h,(p.cts.getD 0 zCh).hr+((k+1:Nat):Int),(p.cts.getD 0 zCh).cells⟩]:=by
 unfold stC
 rw[List.range_succ,List.map_append];rfl
theorem stC_zero{p:Pl}(h:p.cts.length=1):stC p 0=p.cts:=by
 match hc:p.cts,h with
 | [c],_ =>
  unfold stC
  rw[hc]
  show [(⟨c.w,c.h,c.hr+((0:Nat):Int),c.cells⟩:Cht)]=[c]
  rw[show c.hr+((0:Nat):Int)=c.hr by omega]
theorem stErr{p:Pl}(e:errPl p=0)(h:p.cts.length=1)(hr:(p.cts.getD 0 zCh).hr<=499):errPl (stP p)=0:=by
 have o:=plOk e
 have c:=o.chart (i:=0) (by omega)
 have eb:errBas p.w p.h p.land.length=0:=by unfold errPl at e;exact (first2_0 e).1
 have hl:(stP p).cts.length=6:=stC_len p 5
 refine errPl_zero eb (by omega) (chs_err (b:=(p.cts.getD 0 zCh).hr) (by have:=c.hr;omega) eb (by omega) fun i hi =>?_) o.chan o.shp o.size o.frm o.to
 rw[show (stP p).cts.getD i zCh=_ from stC_get p (k:=5) (by omega)]
 exact ⟨c.w,c.h,rfl,c.len,c.cell⟩
theorem stStill(p:Pl):Still (stP p):=fun i hi=>by
 have hl:(stP p).cts.length=6:=stC_len p 5
 rw[show (stP p).cts.getD i zCh=_ from stC_get p (k:=5) (by omega),show (stP p).cts.getD 0 zCh=_ from stC_get p (k:=5) (by omega)]
theorem st_cell(p:Pl):((stP p).cts.getD 0 zCh).cells=(p.cts.getD 0 zCh).cells:=by rw[show (stP p).cts.getD 0 zCh=_ from stC_get p (k:=5) (by omega)]
theorem prtTo_len(p:Pl)(l:List Leg)(k:Nat):(prtTo p l k).length=k:=by unfold prtTo;simp
theorem prtTo_get(p:Pl)(l:List Leg){k j:Nat}(h:j<k):(prtTo p l k).getD j zPr=⟨(p.cts.getD 0 zCh).cells.getD (Int.toNat (l.getD j zL).to) zeroC,p.chan.getD (Int.toNat (l.getD j zL).to) false,p.size⟩:=by
 unfold prtTo
 rw[List.getD_eq_getElem?_getD,List.getElem?_map,List.getElem?_range h];rfl
theorem prtTo_succ(p:Pl)(l:List Leg)(k:Nat):prtTo p l (k+1)=prtTo p l k ++ [⟨(p.cts.getD 0 zCh).cells.getD (Int.toNat (l.getD k zL).to) zeroC,p.chan.getD (Int.toNat (l.getD k zL).to) false,p.size⟩]:=by
 unfold prtTo
 rw[List.range_succ,List.map_append];rfl
theorem spsTo_get(s:Shp)(P:List Prt){k j:Nat}(h:j<k):(spsTo s P k).getD j 0=spS s (P.getD j zPr):=by
 unfold spsTo
 rw[List.getD_eq_getElem?_getD,List.getElem?_map,List.getElem?_range h];rfl
theorem sfS_ok{s:Shp}{c:Cell}{ch:Bool}(h:10<=(sfS s c ch).1):(sfS s c ch).2=0:=by
 unfold sfS at h ⊢
 split at h
 ·exact absurd h (by decide)
 ·rename_i q
  rw[if_neg q]
  split at h
  ·exact absurd h (by decide)
  ·rename_i r;rw[if_neg r]
theorem tens{z v:Int}(hz:1<=z)(hv:1<=v):Int.tdiv (Int.tdiv (60*z+v-1) v+9) 10=Int.tdiv (6*z+v-1) v/\Int.tdiv (60*z+v-1) v<=10*Int.tdiv (6*z+v-1) v/\0<=Int.tdiv (60*z+v-1) v:=by
 have a:=(tk_iff (s:=60*z) (v:=v) (m:=Int.tdiv (60*z+v-1) v) (by omega) hv).1 rfl
 have n0:0<=Int.tdiv (60*z+v-1) v:=by rw[Int.tdiv_eq_ediv_of_nonneg (by omega)];exact Int.ediv_nonneg (by omega) (by omega)
 generalize Int.tdiv (60*z+v-1) v=n at *
 have e:Int.tdiv (n+9) 10=(n+9) / 10:=Int.tdiv_eq_ediv_of_nonneg (by omega)
 have key:Int.tdiv (6*z+v-1) v=(n+9) / 10:=by
  refine (tk_iff (by omega) hv).2 ⟨?_,?_⟩
  ·have:=Int.mul_le_mul_of_nonneg_left (show 10*((n+9) / 10-1)<=n-1 by omega) (show 0<=v by omega)
   rw[<- Int.mul_assoc,Int.mul_comm v 10,Int.mul_assoc]at this
   omega
  ·have:=Int.mul_le_mul_of_nonneg_left (show n<=10*((n+9) / 10) by omega) (show 0<=v by omega)
   rw[<- Int.mul_assoc,Int.mul_comm v 10,Int.mul_assoc]at this
   omega
 exact ⟨by rw[e,key],by rw[key];omega,n0⟩
structure HelpOk(p:Pl)(l:List Leg):Prop where
 n:l.length<=36
 to:∀k,k<l.length->(0<=(l.getD k zL).to/\(l.getD k zL).to<(p.land.length:Int))
 sp:∀k,k<l.length->spS p.shp ((prtTo p l l.length).getD k zPr)=sfP (stP p) (l.getD k zL).to 0/\10<=sfP (stP p) (l.getD k zL).to 0
 sm:smL p l l.length=bestT (stP p)
 bd:∀k,k<=l.length->0<=smL p l k/\smL p l k<=36
 hi:hiM p.shp (prtTo p l l.length) l.length<=10*bestT (stP p)
 t:0<=bestT (stP p)/\bestT (stP p)<=36
theorem helpOk{p:Pl}(e:errPl p=0)(h:p.cts.length=1)(hr:(p.cts.getD 0 zCh).hr<=499)(hb:bestE (stP p)=0):HelpOk p (bestLs (stP p)):=by
 have o:=plOk e
 have eq:=stErr e h hr
 have oq:=plOk eq
 have ha:0<=arrP (stP p):=by
  unfold bestE at hb
  split at hb
  ·cases hb
  ·omega
 have b:=best_ok oq ha
 have s:=stStill p
 have ht:bestT (stP p)=arrP (stP p):=by unfold bestT;rw[if_neg (by omega)]
 have hE:endP (stP p)=36:=by show 6*(((stC p 5).length:Nat):Int)=36;rw[stC_len];rfl
 have bw:=b.w
 have smE:=s.best oq ha
 generalize bestLs (stP p)=l at *
 have g:=fun k hk=>s.go oq.size.1 bw.ok k hk
 have hz:1<=p.size:=o.size.1
 have tk1:∀j,j<l.length->1<=tkS (stP p) (l.getD j zL).to:=fun j hj=>by
  have:=(g l.length (Nat.le_refl _)).2.2 j hj
  exact tk_pos oq.size.1 (by omega)
 have smk:∀k:Nat,k<=l.length->(k:Int)<=smS (stP p) l k:=fun k=>by
  induction k with
  |zero=>intro _;exact Int.le_refl 0
  |succ k ih=>intro hk;have:=ih (by omega);have:=tk1 k (by omega);show _<=smS (stP p) l k+tkS (stP p) (l.getD k zL).to;omega
 have aE:=bw.e
 have hto:∀k,k<l.length->(0<=(l.getD k zL).to/\(l.getD k zL).to<(p.land.length:Int)):=fun k hk=>by
  have r:=(g (k+1) (by omega)).2.1
  exact (sea_in (rch_sea oq r)).1
 have hsp:∀k,k<l.length->spS p.shp ((prtTo p l l.length).getD k zPr)=sfP (stP p) (l.getD k zL).to 0:=fun k hk=>by
  rw[prtTo_get p l hk]
  unfold spS sfP
  rw[show Int.toNat 0=0 from rfl,st_cell]
  show _=(sfX p.shp _ _).1
  unfold sfX
  rw[if_pos o.shp,if_pos (show errCell _=0 from if_pos (o.right 0 _))];rfl
 have sm:∀k,k<=l.length->smL p l k=smS (stP p) l k/\hiM p.shp (prtTo p l l.length) k<=10*smS (stP p) l k:=fun k=>by
  induction k with
  |zero=>intro _;exact ⟨rfl,Int.le_refl 0⟩
  |succ k ih =>
   intro hk
   have i:=ih (by omega)
   have v:=(g l.length (Nat.le_refl _)).2.2 k (by omega)
   have q:=tens hz (show 1<=sfP (stP p) (l.getD k zL).to 0 by omega)
   have et:tkS (stP p) (l.getD k zL).to=Int.tdiv (6*p.size+sfP (stP p) (l.getD k zL).to 0-1) (sfP (stP p) (l.getD k zL).to 0):=rfl
   have el:((prtTo p l l.length).getD k zPr).len=p.size:=by rw[prtTo_get p l (by omega)]
   constructor
   ·show smL p l k+_=smS (stP p) l k+tkS (stP p) (l.getD k zL).to
    rw[i.1,hsp k (by omega),if_neg (by omega),q.1,et]
   ·show hiM p.shp (prtTo p l l.length) k+tkM _ _<=10*(smS (stP p) l k+tkS (stP p) (l.getD k zL).to)
    unfold tkM
    rw[el,hsp k (by omega),et]
    have:=q.2.1
    have:=i.2
    omega
 have sml:∀k,k<=l.length->smS (stP p) l k<=acT l k:=fun k hk=>(g k hk).1.2
 have mono:∀k,k<=l.length->∀j,j<=k->smS (stP p) l j<=smS (stP p) l k:=fun k=>by
  induction k with
  |zero=>intro _ j hj;rw[Nat.le_zero.1 hj];exact Int.le_refl _
  |succ k ih =>
   intro hk j hj
   by_cases q:j=k+1
   ·rw[q];exact Int.le_refl _
   ·have:=ih (by omega) j (by omega)
    have:=tk1 k (by omega)
    show _<=smS (stP p) l k+tkS (stP p) (l.getD k zL).to
    omega
 have nl:=smk l.length (Nat.le_refl _)
 exact ⟨by omega,hto,fun k hk=>⟨hsp k hk,(g l.length (Nat.le_refl _)).2.2 k hk⟩,by rw[(sm l.length (Nat.le_refl _)).1,smE,ht],fun k hk=>⟨by rw[(sm k hk).1];exact (g k hk).1.1,by rw[(sm k hk).1];have:=mono l.length (Nat.le_refl _) k hk;omega⟩,
  by rw[ht,<- smE];exact (sm l.length (Nat.le_refl _)).2,by omega⟩
theorem HelpOk.prt{p:Pl}{l:List Leg}(k:HelpOk p l)(o:PlOk p)(h0:0<l.length):PrtOk p.shp (prtTo p l l.length):=by
 have hz:=o.size
 refine ⟨by rw[prtTo_len];have:=k.n;omega,fun j hj =>?_,fun j hj =>?_,fun j hj =>?_⟩
 ·rw[prtTo_len]at hj;rw[prtTo_get p l hj];show 1<=p.size/\p.size<=10000;omega
 ·rw[prtTo_len]at hj;rw[prtTo_get p l hj];exact if_pos (o.right 0 _)
 ·rw[prtTo_len]at hj
  have:=k.sp j hj
  exact sfS_ok (by show 10<=spS p.shp _;omega)
abbrev yc4:List Value:=[nI 4000,nI 8000,nI 14000,nI 24000,nI 40000,nI 90000]
abbrev ycq:KObj:=.cells false 0 yc4
abbrev ycp(N:List Int):Value:=.agg ⟨(N.flatMap intC)⟩
abbrev yck(r0:Pl×Int):Prop:=errPl r0.1=0/\((List.length r0.1.cts:Nat):Int)=1/\0<=r0.2/\r0.2<=0+100000/\(r0.1.cts.getD 0 zCh).hr<=499
abbrev ych(r0:Pl×Int):Value:=.agg #[nI (r0.1.cts.getD 0 zCh).w,nI (r0.1.cts.getD 0 zCh).h,nI (r0.1.cts.getD 0 zCh).hr,.iface ((List.length (r0.1.cts.getD 0 zCh).cells)+1) (.agg ⟨(List.flatMap cellC (r0.1.cts.getD 0 zCh).cells)⟩)]
abbrev yc9(r0:Pl×Int):List Value:=[nI (r0.1.cts.getD 0 zCh).w,nI (r0.1.cts.getD 0 zCh).h,nI ((r0.1.cts.getD 0 zCh).hr+1),.iface ((List.length (r0.1.cts.getD 0 zCh).cells)+1) (.agg ⟨(List.flatMap cellC (r0.1.cts.getD 0 zCh).cells)⟩)]
abbrev ycd(r0:Pl×Int):Value:=.agg #[nI ((stC r0.1 1).getD 0 zCh).w,nI ((stC r0.1 1).getD 0 zCh).h,nI ((stC r0.1 1).getD 0 zCh).hr,.iface ((List.length ((stC r0.1 1).getD 0 zCh).cells)+1) (.agg ⟨(List.flatMap cellC ((stC r0.1 1).getD 0 zCh).cells)⟩)]
abbrev yc5(r0:Pl×Int):List Value:=[nI ((stC r0.1 1).getD 0 zCh).w,nI ((stC r0.1 1).getD 0 zCh).h,nI (((stC r0.1 1).getD 0 zCh).hr+2),.iface ((List.length ((stC r0.1 1).getD 0 zCh).cells)+1) (.agg ⟨(List.flatMap cellC ((stC r0.1 1).getD 0 zCh).cells)⟩)]
abbrev yce(r0:Pl×Int):Value:=.agg #[nI ((stC r0.1 2).getD 0 zCh).w,nI ((stC r0.1 2).getD 0 zCh).h,nI ((stC r0.1 2).getD 0 zCh).hr,.iface ((List.length ((stC r0.1 2).getD 0 zCh).cells)+1) (.agg ⟨(List.flatMap cellC ((stC r0.1 2).getD 0 zCh).cells)⟩)]
abbrev yc6(r0:Pl×Int):List Value:=[nI ((stC r0.1 2).getD 0 zCh).w,nI ((stC r0.1 2).getD 0 zCh).h,nI (((stC r0.1 2).getD 0 zCh).hr+3),.iface ((List.length ((stC r0.1 2).getD 0 zCh).cells)+1) (.agg ⟨(List.flatMap cellC ((stC r0.1 2).getD 0 zCh).cells)⟩)]
abbrev ycf(r0:Pl×Int):Value:=.agg #[nI ((stC r0.1 3).getD 0 zCh).w,nI ((stC r0.1 3).getD 0 zCh).h,nI ((stC r0.1 3).getD 0 zCh).hr,.iface ((List.length ((stC r0.1 3).getD 0 zCh).cells)+1) (.agg ⟨(List.flatMap cellC ((stC r0.1 3).getD 0 zCh).cells)⟩)]
abbrev yc7(r0:Pl×Int):List Value:=[nI ((stC r0.1 3).getD 0 zCh).w,nI ((stC r0.1 3).getD 0 zCh).h,nI (((stC r0.1 3).getD 0 zCh).hr+4),.iface ((List.length ((stC r0.1 3).getD 0 zCh).cells)+1) (.agg ⟨(List.flatMap cellC ((stC r0.1 3).getD 0 zCh).cells)⟩)]
abbrev ycg(r0:Pl×Int):Value:=.agg #[nI ((stC r0.1 4).getD 0 zCh).w,nI ((stC r0.1 4).getD 0 zCh).h,nI ((stC r0.1 4).getD 0 zCh).hr,.iface ((List.length ((stC r0.1 4).getD 0 zCh).cells)+1) (.agg ⟨(List.flatMap cellC ((stC r0.1 4).getD 0 zCh).cells)⟩)]
abbrev yc8(r0:Pl×Int):List Value:=[nI ((stC r0.1 4).getD 0 zCh).w,nI ((stC r0.1 4).getD 0 zCh).h,nI (((stC r0.1 4).getD 0 zCh).hr+5),.iface ((List.length ((stC r0.1 4).getD 0 zCh).cells)+1) (.agg ⟨(List.flatMap cellC ((stC r0.1 4).getD 0 zCh).cells)⟩)]
abbrev ycs(r0:Pl×Int):=r0.1.shp.th.flatMap ptC
abbrev yct(r0:Pl×Int):=r0.1.shp.wa.flatMap ptC
abbrev ycu(r0:Pl×Int):=r0.1.shp.ic.flatMap ptC
abbrev yc3(r0:Pl×Int):=bestLs (stP r0.1)
abbrev ycv(r0:Pl×Int):Value:=.tuple #[slQ 25 1 (yc3 r0).length,nI (bestT (stP r0.1)),nI (bestE (stP r0.1))]
abbrev ycm:Value:=.bool false
abbrev yco(r0:Pl×Int):Prop:=eR (pt 8)/\wR (slQ 25 1 (yc3 r0).length)/\eR (nI (bestT (stP r0.1)))/\eR (nI (bestE (stP r0.1)))/\True
abbrev ycb(r0:Pl×Int)(x2:Nat):Prop:=((yc3 r0).flatMap lgC)[((0+Int.toNat (x2:Int)*4)+0)]?=some (nI ((yc3 r0).getD x2 zL).to)
abbrev ycn(r0:Pl×Int):Value:=.iface ((List.length ((stC r0.1 5).getD 0 zCh).cells)+1) (.agg ⟨(List.flatMap cellC ((stC r0.1 5).getD 0 zCh).cells)⟩)
abbrev yc1(r0:Pl×Int)(x2:Nat):=List.getD ((stC r0.1 5).getD 0 zCh).cells (Int.toNat ((yc3 r0).getD x2 zL).to) zeroC
abbrev yci(r0:Pl×Int)(x2:Nat):Value:=.agg #[nI (yc1 r0 x2).conc.lo,nI (yc1 r0 x2).conc.hi,nI (yc1 r0 x2).thick.lo,nI (yc1 r0 x2).thick.hi,nI (yc1 r0 x2).ridge.lo,nI (yc1 r0 x2).ridge.hi,nI (yc1 r0 x2).press.lo,nI (yc1 r0 x2).press.hi]
abbrev ycc(r0:Pl×Int)(x2:Nat):=prtTo r0.1 (yc3 r0) x2
abbrev yca(r0:Pl×Int)(x2:Nat):List Value:=[nI (yc1 r0 x2).conc.lo,nI (yc1 r0 x2).conc.hi,nI (yc1 r0 x2).thick.lo,nI (yc1 r0 x2).thick.hi,nI (yc1 r0 x2).ridge.lo,nI (yc1 r0 x2).ridge.hi,nI (yc1 r0 x2).press.lo,nI (yc1 r0 x2).press.hi,.bool (r0.1.chan.getD (Int.toNat ((yc3 r0).getD x2 zL).to) false),nI r0.1.size]
abbrev yc0(r0:Pl×Int)(x2:Nat):=spsTo r0.1.shp (ycc r0 x2) (ycc r0 x2).length
abbrev ycl(r0:Pl×Int)(x2:Nat):Value:=.tuple #[slQ 27 1 (yc0 r0 x2).length,.agg #[nI (loM r0.1.shp (ycc r0 x2) (ycc r0 x2).length),nI (hiM r0.1.shp (ycc r0 x2) (ycc r0 x2).length)],nI 0]
abbrev ycr(r0:Pl×Int)(x2:Nat):Prop:=eR (nI (bestT (stP r0.1)))/\wR (slQ 25 1 (yc3 r0).length)/\eR (pt 8)/\wR (slQ 27 1 (yc0 r0 x2).length)/\True
abbrev yc2(r0:Pl×Int)(x2 x4:Nat):=Int.tdiv (((60*r0.1.size)+((yc0 r0 x2).getD x4 0))-1) (if (1:Int) > ((yc0 r0 x2).getD x4 0) then (1:Int) else ((yc0 r0 x2).getD x4 0))
def Rhelped(sp:Value)(N:List Int):Prop :=
 (((someR ycq)/\(someR (.cells true 0 [.iface (N.length+1) (ycp N),nI 0]))/\True)/\(∀H':Heap,H'.length=2->(H'[0]?=some (.cells false 0 yc4:KObj)/\H'[1]?=some (.cells true 0 [.iface (N.length+1) (ycp N),nI 0]:KObj)/\True)->KCall prog 7 [pt 1,nI 1] H' [1] (fun y H2 => ∃z:Pl×Int,(errPl z.1=0/\((List.length z.1.cts:Nat):Int)=1/\0<=z.2/\z.2<=0+100000/\(z.1.cts.getD 0 zCh).hr<=499)/\y = .agg #[nI z.1.w,nI z.1.h,slQ 2 1 z.1.land.length,slQ 3 1 z.1.cts.length,slQ 4 1 z.1.chan.length,nI z.1.shp.cls,nI z.1.shp.pow,nI z.1.shp.dra,nI z.1.shp.ton,slQ 5 1 z.1.shp.th.length,slQ 6 1 z.1.shp.wa.length,slQ 7 1 z.1.shp.ic.length,nI z.1.shp.slow,nI z.1.shp.brash,nI z.1.shp.rdg,nI z.1.shp.prs,nI z.1.size,nI z.1.frm,nI z.1.to]/\H2=((List.set H' 1 (.cells true 0 [.iface (N.length+1) (ycp N),nI z.2]:KObj)) ++ [(.cells true 1 (z.1.land.flatMap boolC):KObj),(.cells true 4 (z.1.cts.flatMap chC):KObj),(.cells true 1 (z.1.chan.flatMap boolC):KObj),(.cells true 2 (z.1.shp.th.flatMap ptC):KObj),(.cells true 2 (z.1.shp.wa.flatMap ptC):KObj),(.cells true 2 (z.1.shp.ic.flatMap ptC):KObj)])))/\(∀r0:Pl×Int,(yck r0)->((ixq 0 r0.1.cts.length)/\((partA 4 (r0.1.cts.flatMap chC) 0=some (ych r0))/\(nw ((r0.1.cts.getD 0 zCh).hr+1) (((r0.1.cts.length+1)*48<=2 ^ 44/\1≠0/\(r0.1.cts.length<=r0.1.cts.length/\0+r0.1.cts.length*4<=List.length (r0.1.cts.flatMap chC))/\(1<=1/\0+1*4<=List.length (yc9 r0))/\((((yc9 r0).drop 0).take (1*4)):List Value).all (fun v=>one1 v)=true)/\true=true/\((some (.cells true 4 ((((r0.1.cts.flatMap chC).drop 0).take (r0.1.cts.length*4))++(((yc9 r0).drop 0).take (1*4))):KObj)=some (.cells true 4 ((stC r0.1 1).flatMap chC):KObj))/\((ixq 0 (r0.1.cts.length+1))/\((partA 4 ((stC r0.1 1).flatMap chC) 0=some (ycd r0))/\(nw (((stC r0.1 1).getD 0 zCh).hr+2) ((((r0.1.cts.length+1)+1)*48<=2 ^ 44/\1≠0/\((r0.1.cts.length+1)<=(r0.1.cts.length+1)/\0+(r0.1.cts.length+1)*4<=List.length ((stC r0.1 1).flatMap chC))/\(1<=1/\0+1*4<=List.length (yc5 r0))/\((((yc5 r0).drop 0).take (1*4)):List Value).all (fun v=>one1 v)=true)/\true=true/\((some (.cells true 4 (((((stC r0.1 1).flatMap chC).drop 0).take ((r0.1.cts.length+1)*4))++(((yc5 r0).drop 0).take (1*4))):KObj)=some (.cells true 4 ((stC r0.1 2).flatMap chC):KObj))/\((ixq 0 ((r0.1.cts.length+1)+1))/\((partA 4 ((stC r0.1 2).flatMap chC) 0=some (yce r0))/\(nw (((stC r0.1 2).getD 0 zCh).hr+3) (((((r0.1.cts.length+1)+1)+1)*48<=2 ^ 44/\1≠0/\(((r0.1.cts.length+1)+1)<=((r0.1.cts.length+1)+1)/\0+((r0.1.cts.length+1)+1)*4<=List.length ((stC r0.1 2).flatMap chC))/\(1<=1/\0+1*4<=List.length (yc6 r0))/\((((yc6 r0).drop 0).take (1*4)):List Value).all (fun v=>one1 v)=true)/\true=true/\((some (.cells true 4 (((((stC r0.1 2).flatMap chC).drop 0).take (((r0.1.cts.length+1)+1)*4))++(((yc6 r0).drop 0).take (1*4))):KObj)=some (.cells true 4 ((stC r0.1 3).flatMap chC):KObj))/\((ixq 0 (((r0.1.cts.length+1)+1)+1))/\((partA 4 ((stC r0.1 3).flatMap chC) 0=some (ycf r0))/\(nw (((stC r0.1 3).getD 0 zCh).hr+4) ((((((r0.1.cts.length+1)+1)+1)+1)*48<=2 ^ 44/\1≠0/\((((r0.1.cts.length+1)+1)+1)<=(((r0.1.cts.length+1)+1)+1)/\0+(((r0.1.cts.length+1)+1)+1)*4<=List.length ((stC r0.1 3).flatMap chC))/\(1<=1/\0+1*4<=List.length (yc7 r0))/\((((yc7 r0).drop 0).take (1*4)):List Value).all (fun v=>one1 v)=true)/\true=true/\((some (.cells true 4 (((((stC r0.1 3).flatMap chC).drop 0).take ((((r0.1.cts.length+1)+1)+1)*4))++(((yc7 r0).drop 0).take (1*4))):KObj)=some (.cells true 4 ((stC r0.1 4).flatMap chC):KObj))/\((ixq 0 ((((r0.1.cts.length+1)+1)+1)+1))/\((partA 4 ((stC r0.1 4).flatMap chC) 0=some (ycg r0))/\(nw (((stC r0.1 4).getD 0 zCh).hr+5) (((((((r0.1.cts.length+1)+1)+1)+1)+1)*48<=2 ^ 44/\1≠0/\(((((r0.1.cts.length+1)+1)+1)+1)<=((((r0.1.cts.length+1)+1)+1)+1)/\0+((((r0.1.cts.length+1)+1)+1)+1)*4<=List.length ((stC r0.1 4).flatMap chC))/\(1<=1/\0+1*4<=List.length (yc8 r0))/\((((yc8 r0).drop 0).take (1*4)):List Value).all (fun v=>one1 v)=true)/\true=true/\((some (.cells true 4 (((((stC r0.1 4).flatMap chC).drop 0).take (((((r0.1.cts.length+1)+1)+1)+1)*4))++(((yc8 r0).drop 0).take (1*4))):KObj)=some (.cells true 4 ((stC r0.1 5).flatMap chC):KObj))/\(((([nI r0.1.w,nI r0.1.h,slQ 2 1 r0.1.land.length,slN 23 (((((r0.1.cts.length+1)+1)+1)+1)+1),slQ 4 1 r0.1.chan.length,nI r0.1.shp.cls,nI r0.1.shp.pow,nI r0.1.shp.dra,nI r0.1.shp.ton,slQ 5 1 r0.1.shp.th.length,slQ 6 1 r0.1.shp.wa.length,slQ 7 1 r0.1.shp.ic.length,nI r0.1.shp.slow,nI r0.1.shp.brash,nI r0.1.shp.rdg,nI r0.1.shp.prs,nI r0.1.size,nI r0.1.frm,nI r0.1.to]:List Value):List Value)[3]?=some (slN 23 (((((r0.1.cts.length+1)+1)+1)+1)+1)))/\(((someR ycq)/\(someR (.cells true 1 (r0.1.land.flatMap boolC)))/\(someR (.cells false 0 ((stC r0.1 5).flatMap chC)))/\(someR (.cells true 1 (r0.1.chan.flatMap boolC)))/\(someR (.cells true 2 (ycs r0)))/\(someR (.cells true 2 (yct r0)))/\(someR (.cells true 2 (ycu r0)))/\True)/\(∀H':Heap,H'.length=25->(H'[0]?=some (.cells false 0 yc4:KObj)/\H'[2]?=some (.cells true 1 (r0.1.land.flatMap boolC):KObj)/\H'[24]?=some (.cells false 0 ((stC r0.1 5).flatMap chC):KObj)/\H'[4]?=some (.cells true 1 (r0.1.chan.flatMap boolC):KObj)/\H'[5]?=some (.cells true 2 (ycs r0):KObj)/\H'[6]?=some (.cells true 2 (yct r0):KObj)/\H'[7]?=some (.cells true 2 (ycu r0):KObj)/\True)->KCall prog 8 [.agg #[nI r0.1.w,nI r0.1.h,slQ 2 1 r0.1.land.length,slQ 24 2 (((((r0.1.cts.length+1)+1)+1)+1)+1),slQ 4 1 r0.1.chan.length,nI r0.1.shp.cls,nI r0.1.shp.pow,nI r0.1.shp.dra,nI r0.1.shp.ton,slQ 5 1 r0.1.shp.th.length,slQ 6 1 r0.1.shp.wa.length,slQ 7 1 r0.1.shp.ic.length,nI r0.1.shp.slow,nI r0.1.shp.brash,nI r0.1.shp.rdg,nI r0.1.shp.prs,nI r0.1.size,nI r0.1.frm,nI r0.1.to]] H' [] (Is (ycv r0) (H' ++ [(.cells true 4 ((yc3 r0).flatMap lgC):KObj)])))/\(fk (((bestE (stP r0.1)):Int) != 0) (fk (((bestE (stP r0.1)):Int) == 51) (c1q 26 0 ycq 9 [] (.bool true) ((.bool true:Value)=sp)) (ycm=sp)) (fk (((((yc3 r0).length:Nat):Int):Int) == 0) (fk (((bestT (stP r0.1)):Int) == 0) (c1q 26 0 ycq 9 [] (.bool true) ((.bool true:Value)=sp)) (ycm=sp)) (lq (0<=List.length (yc3 r0)) (true=true/\((nI 0:Value)=nI ((0:Nat):Int)/\wk (.slice none 0 0:Value) (slQ 0 1 (prtTo r0.1 (yc3 r0) 0).length:Value)/\yco r0)/\(True)/\(True/\True)/\(True)) (∀x2:Nat,(x2<=List.length (yc3 r0))->(fk (decide (((x2:Int):Int)<(((yc3 r0).length:Nat):Int))) ((ixq (x2:Int) (yc3 r0).length)/\((ycb r0 x2)/\(fk (decide ((((yc3 r0).getD x2 zL).to:Int)<0)) (ycm=sp) ((ixq (x2:Int) (yc3 r0).length)/\((ycb r0 x2)/\(fk (decide ((((r0.1.chan.length:Nat):Int):Int)<=((yc3 r0).getD x2 zL).to)) (ycm=sp) ((ixq 0 (((((r0.1.cts.length+1)+1)+1)+1)+1))/\((((stC r0.1 5).flatMap chC)[3]?=some (ycn r0))/\((ixq (x2:Int) (yc3 r0).length)/\((ycb r0 x2)/\((ixq (((yc3 r0).getD x2 zL).to) (List.length ((stC r0.1 5).getD 0 zCh).cells))/\((partA 8 (List.flatMap cellC ((stC r0.1 5).getD 0 zCh).cells) (Int.toNat ((yc3 r0).getD x2 zL).to*8)=some (yci r0 x2))/\((ixq (x2:Int) (yc3 r0).length)/\((ycb r0 x2)/\((ixq (((yc3 r0).getD x2 zL).to) r0.1.chan.length)/\(((r0.1.chan.flatMap boolC)[(0+Int.toNat ((yc3 r0).getD x2 zL).to*1)]?=some (.bool (r0.1.chan.getD (Int.toNat ((yc3 r0).getD x2 zL).to) false)))/\(apq (ycc r0 x2).length 80 10 ((ycc r0 x2).flatMap prC) (yca r0 x2) (nw ((x2:Int)+1) (∃x2':Nat,(x2'<=List.length (yc3 r0))/\(List.length (yc3 r0)-x2')<(List.length (yc3 r0)-x2)/\true=true/\((nI ((x2:Int)+1):Value)=nI (x2':Int)/\wk (slN 28 ((ycc r0 x2).length+1):Value) (slQ 28 1 (prtTo r0.1 (yc3 r0) x2').length:Value)/\yco r0)/\(True)/\((kbq 26 (.cells true 10 (((((ycc r0 x2).flatMap prC).drop 0).take ((ycc r0 x2).length*10))++((((yca r0 x2):List Value).drop 0).take (1*10)))) (.cells true 10 ((prtTo r0.1 (yc3 r0) x2').flatMap prC)))/\True)/\(True)))))))))))))))))))) (((someR ycq)/\(someR (.cells true 2 (ycs r0)))/\(someR (.cells true 2 (yct r0)))/\(someR (.cells true 2 (ycu r0)))/\(someR (.cells true 10 ((ycc r0 x2).flatMap prC)))/\True)/\(∀H':Heap,H'.length=27->(H'[0]?=some (.cells false 0 yc4:KObj)/\H'[5]?=some (.cells true 2 (ycs r0):KObj)/\H'[6]?=some (.cells true 2 (yct r0):KObj)/\H'[7]?=some (.cells true 2 (ycu r0):KObj)/\H'[26]?=some (.cells true 10 ((ycc r0 x2).flatMap prC):KObj)/\True)->KCall prog 10 [.agg #[nI r0.1.shp.cls,nI r0.1.shp.pow,nI r0.1.shp.dra,nI r0.1.shp.ton,slQ 5 1 r0.1.shp.th.length,slQ 6 1 r0.1.shp.wa.length,slQ 7 1 r0.1.shp.ic.length,nI r0.1.shp.slow,nI r0.1.shp.brash,nI r0.1.shp.rdg,nI r0.1.shp.prs],slQ 26 1 (ycc r0 x2).length] H' [] (Is (ycl r0 x2) (H' ++ [(.cells true 1 ((yc0 r0 x2).flatMap intC):KObj)])))/\(fk (((((yc0 r0 x2).length:Nat):Int):Int) != (((yc3 r0).length:Nat):Int)) (ycm=sp) (nw (10*(bestT (stP r0.1))) (fk (decide (((10*(bestT (stP r0.1))):Int)<(hiM r0.1.shp (ycc r0 x2) (ycc r0 x2).length))) (ycm=sp) (lq (0<=List.length (yc3 r0)) (true=true/\((nI 0:Value)=nI ((0:Nat):Int)/\(nI 0:Value)=nI (smL r0.1 (yc3 r0) 0)/\ycr r0 x2)/\(True)/\(True)/\(True)) (∀x4:Nat,(x4<=List.length (yc3 r0))->(fk (decide (((x4:Int):Int)<(((yc3 r0).length:Nat):Int))) (nw (60*r0.1.size) ((ixq (x4:Int) (yc0 r0 x2).length)/\((((yc0 r0 x2).flatMap intC)[(0+Int.toNat (x4:Int)*1)]?=some (nI ((yc0 r0 x2).getD x4 0)))/\(nw ((60*r0.1.size)+((yc0 r0 x2).getD x4 0)) (nw (((60*r0.1.size)+((yc0 r0 x2).getD x4 0))-1) ((ixq (x4:Int) (yc0 r0 x2).length)/\((((yc0 r0 x2).flatMap intC)[(0+Int.toNat (x4:Int)*1)]?=some (nI ((yc0 r0 x2).getD x4 0)))/\((((if (1:Int) > ((yc0 r0 x2).getD x4 0) then (1:Int) else ((yc0 r0 x2).getD x4 0)):Int)≠0)/\(nw (yc2 r0 x2 x4) (nw ((yc2 r0 x2 x4)+9) (nw (Int.tdiv ((yc2 r0 x2 x4)+9) 10) (nw ((smL r0.1 (yc3 r0) x4)+(Int.tdiv ((yc2 r0 x2 x4)+9) 10)) (nw ((x4:Int)+1) (∃x4':Nat,(x4'<=List.length (yc3 r0))/\(List.length (yc3 r0)-x4')<(List.length (yc3 r0)-x4)/\true=true/\((nI ((x4:Int)+1):Value)=nI (x4':Int)/\(nI ((smL r0.1 (yc3 r0) x4)+(Int.tdiv ((yc2 r0 x2 x4)+9) 10)):Value)=nI (smL r0.1 (yc3 r0) x4')/\ycr r0 x2)/\(True)/\(True)/\(True))))))))))))))) (fk (((smL r0.1 (yc3 r0) x4):Int) == (bestT (stP r0.1))) (c1q 29 0 ycq 9 [] (.bool true) ((.bool true:Value)=sp)) (ycm=sp)))))))))))))))))))))))))))))))))))))))))))
abbrev ycj:Hint:=.gfork (.ans [(0,.cells false 0 yc4)] (.bool true) [] (.auto)) (.auto)
theorem Ehelped(sp:Value)(N:List Int):vF prog msk (dm 0) 100000 true 40 true 3 [.iface (N.length+1) (ycp N)] (readsK [.cells false 0 yc4]) (some [])
 (.go 3 (.anse [(0,.cells false 0 yc4),(1,.cells true 0 [.iface (N.length+1) (ycp N),nI 0])] [1] (Pl×Int) (fun r0=>(yck r0)) (fun r0 => .agg #[nI r0.1.w,nI r0.1.h,slQ 2 1 r0.1.land.length,slQ 3 1 r0.1.cts.length,slQ 4 1 r0.1.chan.length,nI r0.1.shp.cls,nI r0.1.shp.pow,nI r0.1.shp.dra,nI r0.1.shp.ton,slQ 5 1 r0.1.shp.th.length,slQ 6 1 r0.1.shp.wa.length,slQ 7 1 r0.1.shp.ic.length,nI r0.1.shp.slow,nI r0.1.shp.brash,nI r0.1.shp.rdg,nI r0.1.shp.prs,nI r0.1.size,nI r0.1.frm,nI r0.1.to]) (fun r0=>[(1,.cells true 0 [.iface (N.length+1) (ycp N),nI r0.2])]) (fun r0=>[.cells true 1 (r0.1.land.flatMap boolC),.cells true 4 (r0.1.cts.flatMap chC),.cells true 1 (r0.1.chan.flatMap boolC),.cells true 2 (ycs r0),.cells true 2 (yct r0),.cells true 2 (ycu r0)]) (fun r0 => .go 7 (.need (.val (ych r0) (.go 5 (.slot 32 (nI ((r0.1.cts.getD 0 zCh).hr+1)) (.go 7 (.need (.obj 11 (.cells true 4 ((stC r0.1 1).flatMap chC)) (.go 9 (.need (.val (ycd r0) (.go 5 (.slot 32 (nI (((stC r0.1 1).getD 0 zCh).hr+2)) (.go 7 (.need (.obj 14 (.cells true 4 ((stC r0.1 2).flatMap chC)) (.go 9 (.need (.val (yce r0) (.go 5 (.slot 32 (nI (((stC r0.1 2).getD 0 zCh).hr+3)) (.go 7 (.need (.obj 17 (.cells true 4 ((stC r0.1 3).flatMap chC)) (.go 9 (.need (.val (ycf r0) (.go 5 (.slot 32 (nI (((stC r0.1 3).getD 0 zCh).hr+4)) (.go 7 (.need (.obj 20 (.cells true 4 ((stC r0.1 4).flatMap chC)) (.go 9 (.need (.val (ycg r0) (.go 5 (.slot 32 (nI (((stC r0.1 4).getD 0 zCh).hr+5)) (.go 7 (.need (.obj 23 (.cells true 4 ((stC r0.1 5).flatMap chC)) (.go 7 (.tab [.frzH 8 3 23 (((((r0.1.cts.length+1)+1)+1)+1)+1) (((((r0.1.cts.length+1)+1)+1)+1)+1) false] (.go 0 (.tab [.tog 42 3] (.ans [(0,.cells false 0 yc4),(2,.cells true 1 (r0.1.land.flatMap boolC)),(24,.cells false 0 ((stC r0.1 5).flatMap chC)),(4,.cells true 1 (r0.1.chan.flatMap boolC)),(5,.cells true 2 (ycs r0)),(6,.cells true 2 (yct r0)),(7,.cells true 2 (ycu r0))] (ycv r0) [.cells true 4 ((yc3 r0).flatMap lgC)] (.go 8 (.fork (.go 2 ycj) (.go 2 (.fork (.go 2 ycj) (.go 1 (.inv 3 (Nat) (0) [] [] (fun x2=>[(11,nI (x2:Int)),(10,slQ 26 1 (ycc r0 x2).length),(3,pt 8),(7,slQ 25 1 (yc3 r0).length),(8,nI (bestT (stP r0.1))),(9,nI (bestE (stP r0.1)))]) (fun x2=>[]) (fun x2=>[(true,.cells true 10 ((ycc r0 x2).flatMap prC))]) (fun x2=>[]) (fun x2=>(x2<=List.length (yc3 r0))) (fun x2=>(List.length (yc3 r0)-x2)) (fun x2 => .go 3 (.fork (.go 1 (.need (.go 0 (.val (nI ((yc3 r0).getD x2 zL).to) (.go 1 (.gfork (.auto) (.go 1 (.need (.go 0 (.val (nI ((yc3 r0).getD x2 zL).to) (.go 4 (.fork (.auto) (.go 2 (.need (.go 0 (.val (ycn r0) (.go 1 (.need (.go 0 (.val (nI ((yc3 r0).getD x2 zL).to) (.need (.val (yci r0 x2) (.go 3 (.need (.go 0 (.val (nI ((yc3 r0).getD x2 zL).to) (.need (.val (.bool (r0.1.chan.getD (Int.toNat ((yc3 r0).getD x2 zL).to) false)) (.go 3 (.need (.go 2 (.slot 67 (nI ((x2:Int)+1)) (.go 0 (.again [(26,28)])))))))))))))))))))))))))))))))))) (.go 2 (.ans [(0,.cells false 0 yc4),(5,.cells true 2 (ycs r0)),(6,.cells true 2 (yct r0)),(7,.cells true 2 (ycu r0)),(26,.cells true 10 ((ycc r0 x2).flatMap prC))] (ycl r0 x2) [.cells true 1 ((yc0 r0 x2).flatMap intC)] (.go 17 (.gfork (.auto) (.go 3 (.slot 133 (nI (10*(bestT (stP r0.1)))) (.go 1 (.fork (.auto) (.go 1 (.inv 3 (Nat) (0) [] [] (fun x4=>[(15,nI (x4:Int)),(14,nI (smL r0.1 (yc3 r0) x4)),(8,nI (bestT (stP r0.1))),(7,slQ 25 1 (yc3 r0).length),(3,pt 8),(12,slQ 27 1 (yc0 r0 x2).length)]) (fun x4=>[]) (fun x4=>[]) (fun x4=>[]) (fun x4=>(x4<=List.length (yc3 r0))) (fun x4=>(List.length (yc3 r0)-x4)) (fun x4 => .go 3 (.fork (.go 2 (.slot 144 (nI (60*r0.1.size)) (.go 1 (.need (.val (nI ((yc0 r0 x2).getD x4 0)) (.go 0 (.slot 149 (nI ((60*r0.1.size)+((yc0 r0 x2).getD x4 0))) (.go 0 (.slot 150 (nI (((60*r0.1.size)+((yc0 r0 x2).getD x4 0))-1)) (.go 1 (.need (.val (nI ((yc0 r0 x2).getD x4 0)) (.go 0 (.need (.slot 156 (nI (yc2 r0 x2 x4)) (.go 3 (.slot 159 (nI ((yc2 r0 x2 x4)+9)) (.go 0 (.slot 160 (nI (Int.tdiv ((yc2 r0 x2 x4)+9) 10)) (.go 0 (.slot 161 (nI ((smL r0.1 (yc3 r0) x4)+(Int.tdiv ((yc2 r0 x2 x4)+9) 10))) (.go 2 (.slot 141 (nI ((x4:Int)+1)) (.go 0 (.again []))))))))))))))))))))))))) (.go 3 ycj))))))))))))))))))))))))))))))))))))))))))))))))))))))))))))))))))))
 (fun v _ _=>v=sp)=Rhelped sp N:=by kernel_rfl
theorem stC_get0(p:Pl)(k:Nat):(stC p k).getD 0 zCh=p.cts.getD 0 zCh:=by
 rw[stC_get p (Nat.zero_le k),show (p.cts.getD 0 zCh).hr+((0:Nat):Int)=(p.cts.getD 0 zCh).hr by omega]
theorem partCh0(p:Pl)(k:Nat){v:Option Value}(hv:some (.agg ⟨chC (p.cts.getD 0 zCh)⟩)=v):partA 4 ((stC p k).flatMap chC) 0=v:=by
 subst hv;rw[partCh (k:=0) (by rw[stC_len];omega) rfl,stC_get0]
theorem stCells(p:Pl):((stC p 5).flatMap chC)[3]?=some (.iface ((p.cts.getD 0 zCh).cells.length+1) (.agg ⟨(p.cts.getD 0 zCh).cells.flatMap cellC⟩)):=by
 have h:=cell_at (f:=chC) (n:=4) (xs:=stC p 5) (k:=0) (off:=3) (c:=3) (d:=zCh) chC_len (by rw[stC_len];decide) rfl rfl
 rw[stC_get0]at h;exact h
theorem ob_st(p:Pl)(k:Nat){n:Nat}{c:List Value}(hn:n=k+1)(hc:chC ⟨(p.cts.getD 0 zCh).w,(p.cts.getD 0 zCh).h,(p.cts.getD 0 zCh).hr+((k+1:Nat):Int),(p.cts.getD 0 zCh).cells⟩=c) :
  (some (KObj.cells true 4 (List.take (n*4) (List.drop 0 ((stC p k).flatMap chC))++List.take (1*4) (List.drop 0 c))):Option KObj)=some (.cells true 4 ((stC p (k+1)).flatMap chC)):=by
 subst hn
 have h:=ob_snoc (own:=true) chC_len (stC_succ p k) hc
 rwa [stC_len]at h
theorem ob_st1{p:Pl}(h:p.cts.length=1){c:List Value}(hc:chC ⟨(p.cts.getD 0 zCh).w,(p.cts.getD 0 zCh).h,(p.cts.getD 0 zCh).hr+((0+1:Nat):Int),(p.cts.getD 0 zCh).cells⟩=c) :
  (some (KObj.cells true 4 (List.take (1*4) (List.drop 0 (p.cts.flatMap chC))++List.take (1*4) (List.drop 0 c))):Option KObj)=some (.cells true 4 ((stC p 1).flatMap chC)):=by
 have k:=ob_st p 0 (n:=1) rfl hc
 rwa [stC_zero h]at k
theorem cHLeg{s:Shp}(e:errShp s=0)(hs:LstOk s){P:List Prt}(o:PrtOk s P){H:Heap}{i j k L z:Nat}(hz:H.length=z)(a:CvAt H s i j k)(hnd:[0,i,j,k,L].Nodup)(h4:H[L]?=some (.cells true 10 (P.flatMap prC))) :
  KCall prog 10 [.agg ⟨[nI s.cls,nI s.pow,nI s.dra,nI s.ton,slQ i 1 s.th.length,slQ j 1 s.wa.length,slQ k 1 s.ic.length,nI s.slow,nI s.brash,nI s.rdg,nI s.prs]⟩,slQ L 1 P.length] H [] (Is (.tuple #[.slice (some ⟨z,0,some 1⟩) (spsTo s P P.length).length (spsTo s P P.length).length,.agg #[.int .i64 (loM s P P.length),.int .i64 (hiM s P P.length)],.int .i64 0]) (H ++ [.cells true 1 ((spsTo s P P.length).flatMap intC)])):=by
 subst hz
 exact (kHLeg e hs o a hnd h4).wkA ⟨wk_aggL ⟨wk_refl _,wk_refl _,wk_refl _,wk_refl _,wk_QR,wk_QR,wk_QR,wk_refl _,wk_refl _,wk_refl _,wk_refl _,trivial⟩,wk_QR,trivial⟩
theorem helpedR(N:List Int):Rhelped (.bool true) N:=by
 delta Rhelped ycq ycp yc4 yck ych yc9 ycd yc5 yce yc6 ycf yc7 ycg yc8 ycs yct ycu ycv yc3 ycm yco ycb ycn yci ycc yca ycl yc0 ycr yc2 yc1 nI slQ pt slN someR fk nw eR wR kbq ixq lq apq c1q
 refine ⟨⟨rfl,rfl,trivial⟩,fun H' hn h=>cMade1 hn h.1 h.2.1,fun r hr =>?_⟩
 obtain ⟨e0,hl,_,_,h499⟩:=hr
 generalize r.1=p at *
 have o:=plOk e0
 have hl1:p.cts.length=1:=by omega
 have oc:=o.chart (i:=0) (by omega)
 have hhr:=oc.hr
 have eq:=stErr e0 hl1 h499
 have h6:(stP p).cts.length=6:=stC_len p 5
 have hB:bestE (stP p)=51∨bestE (stP p)=0:=by unfold bestE;split <;> simp
 rw[stC_get0 p 1,stC_get0 p 2,stC_get0 p 3,stC_get0 p 4,stC_get0 p 5,hl1]
 refine ⟨⟨by decide,by decide⟩,partCh (by omega) rfl,vI64 (by omega),⟨by decide,by decide,⟨Nat.le_refl _,by rw[flat_len chC_len,hl1];decide⟩,⟨Nat.le_refl _,by simp⟩,rfl⟩,rfl,ob_st1 hl1 rfl,⟨by decide,by decide⟩,partCh0 p _ rfl,vI64 (by omega),⟨by decide,by decide,⟨Nat.le_refl _,by rw[flat_len chC_len,stC_len];decide⟩,⟨Nat.le_refl _,by simp⟩,rfl⟩,rfl,ob_st p 1 rfl rfl,⟨by decide,by decide⟩,partCh0 p _ rfl,vI64 (by omega),⟨by decide,by decide,⟨Nat.le_refl _,by rw[flat_len chC_len,stC_len];decide⟩,⟨Nat.le_refl _,by simp⟩,rfl⟩,rfl,ob_st p 2 rfl rfl,⟨by decide,by decide⟩,partCh0 p _ rfl,vI64 (by omega),⟨by decide,by decide,⟨Nat.le_refl _,by rw[flat_len chC_len,stC_len];decide⟩,⟨Nat.le_refl _,by simp⟩,rfl⟩,rfl,ob_st p 3 rfl rfl,⟨by decide,by decide⟩,partCh0 p _ rfl,vI64 (by omega),⟨by decide,by decide,⟨Nat.le_refl _,by rw[flat_len chC_len,stC_len];decide⟩,⟨Nat.le_refl _,by simp⟩,rfl⟩,rfl,ob_st p 4 rfl rfl,?_⟩
 refine ⟨rfl,⟨rfl,rfl,rfl,rfl,rfl,rfl,rfl,trivial⟩,fun H' hn h=>cBst eq hn (plAtL (p:=stP p) (by decide) h),forkNe (fun hb=>forkEq (fun _=>⟨⟨rfl,trivial⟩,fun H' hn h=>kAwake h.1,rfl⟩) (fun q=>by omega)) (fun hE =>?_)⟩
 have K:=helpOk e0 hl1 h499 hE
 generalize bestLs (stP p)=l at *
 have KT:=K.t
 have Kn:=K.n
 have Ks:=K.sm
 have Kh:=K.hi
 have hch:=o.chan
 have hz:=o.size
 generalize bestT (stP p)=T at *
 refine forkEq (fun h0 =>?_) (fun h0 =>?_)
 ·have h00:l.length=0:=by omega
  rw[h00]at Ks
  have Ks:(0:Int)=T:=Ks
  exact forkEq (fun _=>⟨⟨rfl,trivial⟩,fun H' hn h=>kAwake h.1,rfl⟩) (fun q=>absurd Ks.symm q)
 refine ⟨rfl,Nat.zero_le _,?_,fun _=>rfl,fun x hx=>forkD (fun hx1 =>?_) (fun hx1 =>?_)⟩
 ·repeat' first|exact trivial|exact wk_refl _|exact wk_nil _ _ _ (.inl rfl)|refine ⟨rfl,?_⟩|refine ⟨trivial,?_⟩|apply And.intro
 ·have ht:=K.to x (by omega)
  have ia:(l.flatMap lgC)[((0+Int.toNat ((x:Nat):Int)*4)+0)]?=some (.int .i64 (l.getD x zL).to):=cell_at (c:=0) (d:=zL) lgC_len (by omega) (by omega) rfl
  have hcl:=oc.len
  refine ⟨⟨by omega,by omega⟩,ia,forkD (fun q=>by omega) (fun _=>⟨⟨by omega,by omega⟩,ia,forkD (fun q=>by omega) (fun _=>⟨⟨by decide,by decide⟩,stCells p,⟨by omega,by omega⟩,ia,⟨by omega,by omega⟩,partCl (by omega) (by omega),⟨by omega,by omega⟩,ia,⟨by omega,by omega⟩,boolAt (by omega) (by omega),⟨by rw[prtTo_len];omega,by decide,⟨Nat.le_refl _,by rw[flat_len prC_len];omega⟩,⟨Nat.le_refl _,by simp⟩,rfl⟩,rfl,vI64 (by omega),x+1,by omega,by omega,?_⟩)⟩)⟩
  repeat' first|exact plainPr _ _|exact ob_snoc prC_len (prtTo_succ p l x) rfl|(exact wk_QF (by rw[prtTo_len,prtTo_len]) (by omega))|exact trivial|exact wk_refl _|refine ⟨rfl,?_⟩|refine ⟨trivial,?_⟩|apply And.intro
 obtain rfl:x=l.length:=by omega
 have hpo:=K.prt o (by omega)
 refine ⟨⟨rfl,rfl,rfl,rfl,rfl,trivial⟩,fun H' hn h=>cHLeg o.shp (o.lst.shp) hpo hn ⟨by decide,h.1,h.2.1,h.2.2.1,h.2.2.2.1⟩ (by decide) h.2.2.2.2.1,?_⟩
 rw[prtTo_len,spsTo_len]
 refine forkNe (fun q=>absurd rfl q) (fun _=>⟨vI64 (by omega),forkD (fun q=>by omega) (fun _=>⟨rfl,Nat.zero_le _,?_,fun _=>rfl,fun y hy=>forkD (fun hy1 =>?_) (fun hy1 =>?_)⟩)⟩)
 ·repeat' first|exact trivial|exact wk_refl _|refine ⟨rfl,?_⟩|refine ⟨trivial,?_⟩|apply And.intro
 ·have hv:=K.sp y (by omega)
  have hv2:=sf_bd (stP p) (l.getD y zL).to 0
  have eg:(spsTo p.shp (prtTo p l l.length) l.length).getD y 0=spS p.shp ((prtTo p l l.length).getD y zPr):=spsTo_get _ _ (by omega)
  have ib:((spsTo p.shp (prtTo p l l.length) l.length).flatMap intC)[(0+Int.toNat ((y:Nat):Int)*1)]?=some (.int .i64 ((spsTo p.shp (prtTo p l l.length) l.length).getD y 0)):=intAt (by rw[spsTo_len];omega) (by omega)
  have b1:=K.bd y (by omega)
  have b2:=K.bd (y+1) (by omega)
  have es:smL p l (y+1)=smL p l y+Int.tdiv (Int.tdiv (60*p.size+spS p.shp ((prtTo p l l.length).getD y zPr)-1) (if spS p.shp ((prtTo p l l.length).getD y zPr)<1 then 1 else spS p.shp ((prtTo p l l.length).getD y zPr))+9) 10:=rfl
  rw[eg]at ib ⊢
  generalize spS p.shp ((prtTo p l l.length).getD y zPr)=v at *
  have tn:=tens (z:=p.size) (v:=v) (by omega) (by omega)
  have td:=tdiv_bd (a:=60*p.size+v-1) (b:=v) (n:=30250) (by omega) (by omega) (by omega)
  have ev:(if (1:Int) > v then (1:Int) else v)=v:=if_neg (by omega)
  rw[if_neg (by omega)]at es
  refine ⟨vI64 (by omega),⟨by omega,by omega⟩,ib,vI64 (by omega),vI64 (by omega),⟨by omega,by omega⟩,ib,by rw[ev];omega,by rw[ev];exact vI64 (by omega),by rw[ev];exact vI64 (by omega),by rw[ev];exact vI64 (by omega),by rw[ev];exact vI64 (by omega),vI64 (by omega),y+1,by omega,by omega,?_⟩
  rw[ev,<- es]
  repeat' first|exact trivial|exact wk_refl _|refine ⟨rfl,?_⟩|refine ⟨trivial,?_⟩|apply And.intro
 ·obtain rfl:y=l.length:=by omega
  exact forkEq (fun _=>⟨⟨rfl,trivial⟩,fun H' hn h=>kAwake h.1,rfl⟩) (fun q=>absurd Ks q)
end
end Go.Proofs.YtmecpfikljhjaaaDoor
namespace Go.K
open Go Go.ChangeShapes Go.WideShapes Go.ChangeAt Go.RowKit
variable {P:Program} {HH:Type} {enc:TypeId×Value->HH}
theorem law_calls4{N n b0:Nat}{ts:List TypeId}{args:Array Value}{W:World}{ds:List (DataW HH)}{ps:List MemPlace}{held:Bool}(hG:P.globals.size=1)(zs:List Int){ty:TypeId}{fz:Nat×Nat}
  (h0:W.heap[0]?=some (.cells (zs.map fun z=>Value.int .i64 z).toArray ty fz)) (hplain:ts.all (topT P n)=true)
  (hok:∀(j:Nat) (t:TypeId) (v:Value),ts[j]?=some t->args.toList[j]?=some v->Value.okWide P W .any b0 t v) (h:DataW.TrodAll enc P W 0 (fun _=>true) held ts args.toList ds ps)
  (hlaw:∀(H:Heap) (vs:List Value),GoodAD P n ts vs->H[0]?=some (.cells false 0 (zs.map fun z=>Value.int .i64 z))->KCall P N vs H [] (fun v _=>v = .bool true)) :
  Calls P N args W fun e W'=>e = .returned (.bool true)/\RowKit.Below W.heap.size W W':=by
 have hlt:0<W.heap.size:=by
  rcases Nat.lt_or_ge 0 W.heap.size with h|h
  ·exact h
  ·rw[Array.getElem?_eq_none h]at h0;cases h0
 have ho:∀(id:Nat) (o:KObj),([KObj.cells false 0 (zs.map fun z=>Value.int .i64 z)])[id]?=some o->id=0/\o = .cells false 0 (zs.map fun z=>Value.int .i64 z):=fun id o e=>by
  cases id with
  |zero=>exact ⟨rfl,(Option.some.inj e).symm⟩
  |succ id=>simp at e
 have hρ:∀(id:Nat) (r:RI),(if id=0 then some (⟨0,0,zs.length,0,false⟩:RI) else none)=some r->id=0/\r=⟨0,0,zs.length,0,false⟩:=fun id r e=>by
  split at e
  ·exact ⟨‹_›,(Option.some.inj e).symm⟩
  ·cases e
 have hr:Rel P W.heap.size ⟨fun id=>if id=0 then some ⟨0,0,zs.length,0,false⟩ else none,fun b=>match W.heap[b]? with|some (.cells m _ _)=>some m|_=>none,fun _ _=>none⟩ [KObj.cells false 0 (zs.map fun z=>Value.int .i64 z)] W:=by
  refine ⟨Nat.le_refl _,fun g hg =>?_,fun id r h1 =>?_,fun id r h1 =>?_,fun id r o h1 h2 =>?_,fun id r o h1 h2 h3 =>?_,fun id id' r r' o o' h1 h1' h2 h2' h3 _ hne =>?_,fun b m hm=>⟨?_,fun id r o h1 h2 h3 =>?_⟩,FRel.nofam (fun _ _ _ h=>by cases h) (fun _ _ _ h=>by cases h) (fun F z cs h=>by have:=(ho F _ h).2;cases this)⟩
  ·obtain rfl:g=0:=by omega
   exact ⟨_,rfl,rfl,rfl⟩
  ·obtain ⟨rfl,_⟩:=hρ id r h1;exact Nat.zero_lt_one
  ·obtain ⟨rfl,rfl⟩:=hρ id r h1;exact hlt
  ·obtain ⟨rfl,rfl⟩:=hρ id r h1
   obtain ⟨_,rfl⟩:=ho 0 o h2
   refine ⟨rfl,rfl,_,ty,fz,h0,by simp,fun e=>(by cases e),fun i v e=>⟨v,?_,?_⟩⟩
   ·show (zs.map fun z=>Value.int .i64 z).toArray[i+0]?=some v
    simpa using e
   ·rw[List.getElem?_map,Option.map_eq_some_iff]at e
    obtain ⟨z,_,rfl⟩:=e
    exact .int _ _
  ·obtain ⟨_,rfl⟩:=ho id o h2;cases h3
  ·obtain ⟨rfl,_⟩:=hρ id r h1;obtain ⟨rfl,_⟩:=hρ id' r' h1';exact absurd rfl hne
  ·dsimp only at hm
   split at hm
   ·rename_i m' ty fz e;cases hm;exact ⟨ty,fz,e⟩
   ·cases hm
  ·obtain ⟨_,rfl⟩:=ho id o h2;cases h3
 have hlow0:Low W.heap.size ⟨fun id=>if id=0 then some ⟨0,0,zs.length,0,false⟩ else none,fun b=>match W.heap[b]? with|some (.cells m _ _)=>some m|_=>none,fun _ _=>none⟩ W :=
  ⟨fun b m ty fz _ hb=>by show (match W.heap[b]? with|some (.cells m _ _)=>some m|_=>none)=_;rw[hb],fun id r h1=>by obtain ⟨rfl,rfl⟩:=hρ id r h1;exact hlt⟩
 obtain ⟨ρ',H',vs',e,hv,g⟩:=bring_args rfl ts args.toList ds ps _ _ hplain hok h hr
 have hlow1:Low W.heap.size ρ' W:=⟨fun b m ty fz h1 h2=>e.le.mem b m (hlow0.1 b m ty fz h1 h2),fun id r h1=>e.rel.lt id r h1⟩
 obtain ⟨ws,hv2,g2⟩:=bringAD e.rel hlow1 ts vs' args.toList g hv
 obtain ⟨K,hK⟩:=e.pre
 have hh:H'[0]?=some (.cells false 0 (zs.map fun z=>Value.int .i64 z)):=by rw[hK];rfl
 refine callsIn_wide.1 (((hlaw H' ws g2 hh).2 _ ρ' W args e.rel hv2).mono ?_)
 rintro en w' ⟨v,v',ρ3,H3,rfl,h1,h2,rfl⟩
 cases h1
 exact ⟨rfl,h2.below e.rel⟩
end Go.K
namespace Go.Proofs.YtmecpfikljhjaaaDoor
open Go Go.K Go.ChangeShapes Go.WideShapes Go.ChangeAt Go.RowKit
noncomputable section
theorem own:ownKnob Tryd.prog.godebug=none:=by kernel_rfl
theorem sized:slicesSized Tryd.prog=true:=by kernel_rfl
abbrev known(t:TypeId):Prop:=t<Tryd.prog.types.size
theorem kids:Kids Tryd.prog known:=kids_rows (by kernel_rfl) (by kernel_rfl)
theorem goodAD_cons{n:Nat}{t:TypeId}{ts:List TypeId}{vs:List Value}(h:GoodAD Tryd.prog n (t :: ts) vs):∃v vs',vs=v :: vs'/\GoodVD Tryd.prog n t v/\GoodAD Tryd.prog n ts vs':=by
 cases vs with
 |nil=>exact h.elim
 |cons v vs=>exact ⟨v,vs,rfl,h.1,h.2⟩
theorem goodAD_nil{n:Nat}{vs:List Value}(h:GoodAD Tryd.prog n [] vs):vs=[]:=by
 cases vs with
 |nil=>rfl
 |cons v vs=>exact h.elim
theorem goodD_i64{n:Nat}{c:List Value}(h:GoodD Tryd.prog (n+1) 3 c):∃x:Int,c=[.int .i64 x]/\inI x:=by
 unfold GoodD at h
 rw[show Tryd.prog.underlying 3=some (.int .i64) by kernel_rfl]at h
 obtain ⟨x,rfl,h1,h2⟩:=h
 refine ⟨x,rfl,?_⟩
 simp only[IntKind.min,IntKind.max,IntKind.signed,IntKind.bits]at h1 h2
 unfold inI
 simp at h1 h2
 omega
theorem goodVD_ints{v:Value}(h:GoodVD Tryd.prog 6 22 v):∃L:List Int,v = .iface (L.length+1) (.agg ⟨L.flatMap intC⟩)/\L.length<=maxLen/\∀x∈L,inI x:=by
 unfold GoodVD at h
 rw[show Tryd.prog.underlying 22=some (.slice 3) by kernel_rfl]at h
 unfold GoodD at h
 rw[show Tryd.prog.underlying 22=some (.slice 3) by kernel_rfl]at h
 obtain ⟨len,ds,h1,h2,h3,h4⟩:=h
 obtain ⟨xs,e1,e2,e3⟩:=goodL_list (f:=intC) (q:=inI) (fun c hc=>goodD_i64 (n:=4) hc) len ds h4
 subst e1 e2
 exact ⟨xs,by simpa using h1,h3,e3⟩
theorem strAt {W : World} (hL : laidMet Tryd.prog [("polynya/hull.strengths", Rows.laid_polynya_hull_strengths)] W) : ∃ ty fz, W.heap[0]? = some (.cells (strL.map fun z => Value.int .i64 z).toArray ty fz) := by
 have hT:=Lib.tabIs_of_head (k:=.i64) (zs:=strL) (g:=0) (t:=168) (e:=3) (n:=6) (by kernel_rfl) (by kernel_rfl) (by kernel_rfl) (by kernel_rfl) (by kernel_rfl) (by kernel_rfl) hL
 unfold Lib.TabIs World.var? at hT
 rw [show Tryd.prog.globalNamed "polynya/hull.strengths" = some 0 by kernel_rfl] at hT
 simp only[Option.bind_some]at hT
 split at hT
 ·rename_i cs ty fz e
  obtain rfl:=Option.some.inj hT
  exact ⟨ty,fz,e⟩
 ·cases hT
noncomputable def laidWorld(os:Os):World :=
 let w0:=World.holding Tryd.prog os ⟨#[],#[],[]⟩
 { w0 with heap:=w0.heap.modify 0 fun
   | .cells _ t frozen => .cells (strL.map fun z=>Value.int .i64 z).toArray t frozen
   |o=>o }
theorem laidWorld_met (os : Os) (args : Array Value) : laidMet Tryd.prog [("polynya/hull.strengths", Rows.laid_polynya_hull_strengths)] ((laidWorld os).forCall (fun _ _ => 0) ⟨#[], args, []⟩).memory :=
 laidMet_of_run' 8 (by kernel_rfl) (by kernel_rfl)
theorem rn_dI(σ:Nat->Option Nat)(n:Nat)(l:List Int):rn σ 3 (.iface n (.agg ⟨l.flatMap intC⟩)) = .iface n (.agg ⟨l.flatMap intC⟩):=by
 show Value.iface _ (.agg ⟨(l.flatMap intC).map (rn σ 2)⟩)=_
 rw[List.map_congr_left (g:=fun v=>v) fun v hv =>?_,List.map_id']
 obtain ⟨c,_,h⟩:=List.mem_flatMap.1 hv
 obtain rfl:=List.mem_singleton.1 h
 rfl
end
end Go.Proofs.YtmecpfikljhjaaaDoor
