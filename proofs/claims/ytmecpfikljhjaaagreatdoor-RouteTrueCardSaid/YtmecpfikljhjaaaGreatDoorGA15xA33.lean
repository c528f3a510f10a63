/- Route: less ice is not worse: safe speeds. No condition. -/
import Derived.Test.YtmecpfikljhjaaaGreatDoorGA7xJ5g
import Derived.Test.YtmecpfikljhjaaaGreatDoorGK27xA0
import Derived.Test.YtmecpfikljhjaaaGreatDoorGK47xM3
import Derived.Test.YtmecpfikljhjaaaGreatDoorGM4gxL1c
open Go Go.K
set_option maxRecDepth 1000000
set_option maxHeartbeats 4000000
set_option linter.unusedVariables false
set_option linter.unusedSimpArgs false
namespace Go.Proofs.YtmecpfikljhjaaaGreatDoor
noncomputable section
attribute [local irreducible] vF
def UpL:List Pt->Prop
 |a :: b :: r=>a.1<b.1/\a.2<=b.2/\UpL (b :: r)
 |_=>True
theorem uQ:∀{l:List Pt},(∀i,0<i->i<l.length->(l.getD (i-1) zP).1<(l.getD i zP).1/\(l.getD (i-1) zP).2<=(l.getD i zP).2)->UpL l
 | [],_=>trivial
 | [_],_=>trivial
 |a :: b :: r,h=>by
  have h1:=h 1 (by decide) (by simp)
  refine ⟨h1.1,h1.2,uQ fun i hi hl =>?_⟩
  have h2:=h (i+1) (by omega) (by simpa using hl)
  obtain ⟨j,rfl⟩:∃j,i=j+1:=⟨i-1,by omega⟩
  exact h2
theorem EA{l:List Pt}(h:cF l 1=true):UpL l:=by
 have c:=a9 h
 unfold cF at h
 rw[Bool.and_eq_true,List.all_eq_true]at h
 refine uQ fun i hi hl=>⟨c.up i hi hl,?_⟩
 have:=h.2 i (List.mem_range.2 hl)
 unfold kf at this
 rw[Bool.or_eq_true,decide_eq_true_eq,Bool.not_eq_true',decide_eq_false_iff_not,Int.mul_one]at this
 omega
theorem EI{a b c d:Int}(h1:a<=b)(h2:c<=d)(hc:0<=c)(hb:0<=b):a*c<=b*d :=
 Int.le_trans (Int.mul_le_mul_of_nonneg_right h1 hc) (Int.mul_le_mul_of_nonneg_left h2 hb)
theorem wI:∀{r:List Pt} {a:Pt} {x:Int},UpL (a :: r)->a.1<=x->0<(ar (a :: r) x).2/\a.2*(ar (a :: r) x).2<=(ar (a :: r) x).1
 | [],a,x,_,_=>⟨by show (0:Int)<1;decide,by show a.2*1<=a.2;omega⟩
 |b :: r,a,x,u,hx=>by
  obtain ⟨u1,u2,u3⟩:=u
  by_cases h:x<=b.1
  ·have e:ar (a :: b :: r) x=(a.2*(b.1-a.1)+(b.2-a.2)*(x-a.1),b.1-a.1):=if_pos h
   rw[e]
   have:=Int.mul_nonneg (show 0<=b.2-a.2 by omega) (show 0<=x-a.1 by omega)
   exact ⟨by show 0<b.1-a.1;omega,by show a.2*(b.1-a.1)<=a.2*(b.1-a.1)+(b.2-a.2)*(x-a.1);omega⟩
  ·have e:ar (a :: b :: r) x=ar (b :: r) x:=if_neg h
   rw[e]
   obtain ⟨k1,k2⟩:=wI (a:=b) u3 (show b.1<=x by omega)
   exact ⟨k1,Int.le_trans (Int.mul_le_mul_of_nonneg_right u2 (by omega)) k2⟩
theorem kb:∀{r:List Pt} {a:Pt} {x y:Int},UpL (a :: r)->a.1<=x->x<=y->(ar (a :: r) x).1*(ar (a :: r) y).2<=(ar (a :: r) y).1*(ar (a :: r) x).2
 | [],a,x,y,_,_,_=>Int.le_refl _
 |b :: r,a,x,y,u,hx,hy=>by
  obtain ⟨u1,u2,u3⟩:=u
  by_cases h:x<=b.1
  ·have e:ar (a :: b :: r) x=(a.2*(b.1-a.1)+(b.2-a.2)*(x-a.1),b.1-a.1):=if_pos h
   by_cases g:y<=b.1
   ·have e':ar (a :: b :: r) y=(a.2*(b.1-a.1)+(b.2-a.2)*(y-a.1),b.1-a.1):=if_pos g
    rw[e,e']
    have:=Int.mul_le_mul_of_nonneg_left (show x-a.1<=y-a.1 by omega) (show 0<=b.2-a.2 by omega)
    exact Int.mul_le_mul_of_nonneg_right (show a.2*(b.1-a.1)+(b.2-a.2)*(x-a.1)<=a.2*(b.1-a.1)+(b.2-a.2)*(y-a.1) by omega) (show 0<=b.1-a.1 by omega)
   ·have e':ar (a :: b :: r) y=ar (b :: r) y:=if_neg g
    rw[e,e']
    obtain ⟨k1,k2⟩:=wI (a:=b) u3 (show b.1<=y by omega)
    have h1:=Int.mul_le_mul_of_nonneg_left (show x-a.1<=b.1-a.1 by omega) (show 0<=b.2-a.2 by omega)
    have h2:a.2*(b.1-a.1)+(b.2-a.2)*(b.1-a.1)=b.2*(b.1-a.1):=by rw[<- Int.add_mul];congr 1;omega
    have h3:(a.2*(b.1-a.1)+(b.2-a.2)*(x-a.1))*(ar (b :: r) y).2<=b.2*(b.1-a.1)*(ar (b :: r) y).2:=Int.mul_le_mul_of_nonneg_right (by omega) (by omega)
    have h4:b.2*(ar (b :: r) y).2*(b.1-a.1)<=(ar (b :: r) y).1*(b.1-a.1):=Int.mul_le_mul_of_nonneg_right k2 (by omega)
    have h5:b.2*(b.1-a.1)*(ar (b :: r) y).2=b.2*(ar (b :: r) y).2*(b.1-a.1):=by ac_rfl
    exact Int.le_trans h3 (h5 ▸ h4)
  ·have e:ar (a :: b :: r) x=ar (b :: r) x:=if_neg h
   have e':ar (a :: b :: r) y=ar (b :: r) y:=if_neg (by omega)
   rw[e,e']
   exact kb (a:=b) u3 (by omega) hy
structure gQ(x y:Ice):Prop where
 c:0<=x.ap/\x.ap<=y.ap
 t:0<=x.ag/\x.ag<=y.ag
 r:0<=x.ai/\x.ai<=y.ai
 p:0<=x.ah/\x.ah<=y.ah
structure l5(s:Shp):Prop where
 th:cF s.th (-1)=true
 wa:cF s.wa 1=true
 ic:cF s.ic 1=true
 n:0<=s.slow/\(0<=s.aw/\s.aw<=100)/\0<=s.rdg/\0<=s.prs
theorem ET{s:Shp}(e:aU s=0):l5 s:=by
 unfold aU at e
 split at e
 ·cases e
 split at e
 ·cases e
 split at e
 ·cases e
 rename_i h3
 split at e
 ·cases e
 rename_i h4
 split at e
 ·cases e
 rename_i h5
 split at e
 ·cases e
 rename_i h6
 simp only[Bool.not_eq_false,Bool.and_eq_true,aR]at h3 h4 h5 h6
 exact ⟨h4.1,h5.1,h6.1.1,by omega,by omega,by omega,by omega⟩
theorem DO{a D k:Int}(hD:0<D)(ha:0<=a)(h:a<=k*D):Int.tdiv (a+D-1) D<=k:=by
 rw[Int.tdiv_eq_ediv_of_nonneg (by omega)]
 have:=Int.ediv_lt_of_lt_mul (a:=a+D-1) (b:=k+1) hD (by rw[Int.add_mul,Int.one_mul];omega)
 omega
theorem le_ceil{a D:Int}(hD:0<D)(ha:0<=a):a<=Int.tdiv (a+D-1) D*D:=by
 rw[Int.tdiv_eq_ediv_of_nonneg (by omega)]
 have h1:=Int.mul_ediv_add_emod (a+D-1) D
 have h2:=Int.emod_lt_of_pos (a+D-1) hD
 rw[Int.mul_comm]at h1
 omega
theorem pX{a' D' a D:Int}(h':0<D')(h:0<D)(ha':0<=a')(ha:0<=a)(hx:a'*D<=a*D'):Int.tdiv (a'+D'-1) D'<=Int.tdiv (a+D-1) D:=by
 refine DO h' ha' ?_
 have h1:=Int.mul_le_mul_of_nonneg_right (le_ceil h ha) (show 0<=D' by omega)
 have h2:a'*D<=Int.tdiv (a+D-1) D*D'*D:=by
  refine Int.le_trans hx (Int.le_trans h1 ?_)
  rw[Int.mul_right_comm];exact Int.le_refl _
 exact Int.le_of_mul_le_mul_right h2 h
theorem yv{s:Shp}(o:l5 s){x x':Ice}(i:gQ x' x){ch ch':Bool}(hc:ch=true->ch'=true){v:Int}(hv:0<=v) :
  (0<=jJ s x' ch' v/\0<=jJ s x ch v)/\jJ s x' ch' v*((ar s.ic x.ag).2*10000000)<=jJ s x ch v*((ar s.ic x'.ag).2*10000000):=by
 have co:=a9 o.ic
 have hx':=i.t.1
 obtain ⟨b1,b2,_⟩:=cP co hx'
 obtain ⟨b3,b4,_⟩:=cP co (show 0<=x.ag by have:=i.t;omega)
 have cr:(ar s.ic x'.ag).1*(ar s.ic x.ag).2<=(ar s.ic x.ag).1*(ar s.ic x'.ag).2:=by
  have u:=EA o.ic
  have hl:=co.len
  have h0:=co.x0
  cases hs:s.ic with
  |nil=>rw[hs]at hl;simp at hl
  |cons a r=>rw[hs]at u h0;exact kb u (by show a.1<=_;have:a.1=0:=h0;omega) i.t.2
 have hsh:0<=(if ch' then s.aw else 100)/\(if ch' then s.aw else 100)<=(if ch then s.aw else 100):=by
  have:=o.n
  cases ch <;> cases ch' <;> simp_all
 have hri:0<=(if ch' then 0 else x'.ai)/\(if ch' then 0 else x'.ai)<=(if ch then 0 else x.ai):=by
  have:=i.r
  cases ch <;> cases ch' <;> simp_all <;> omega
 unfold jJ
 generalize (if ch' then s.aw else 100)=sh' at *
 generalize (if ch then s.aw else 100)=sh at *
 generalize (if ch' then 0 else x'.ai)=ri' at *
 generalize (if ch then 0 else x.ai)=ri at *
 generalize (ar s.ic x'.ag).1=a' at *
 generalize (ar s.ic x'.ag).2=d' at *
 generalize (ar s.ic x.ag).1=a at *
 generalize (ar s.ic x.ag).2=d at *
 have hA:0<=1000+s.slow*v:=by have:=Int.mul_nonneg o.n.1 hv;omega
 generalize 1000+s.slow*v=A at *
 have hg:=o.n.2.2.1
 generalize s.rdg=g at *
 have t1':0<=a'*A*sh':=Int.mul_nonneg (Int.mul_nonneg b2 hA) hsh.1
 have t2':0<=g*ri'*d'*100000:=Int.mul_nonneg (Int.mul_nonneg (Int.mul_nonneg hg hri.1) (by omega)) (by decide)
 have t1:0<=a*A*sh:=Int.mul_nonneg (Int.mul_nonneg b4 hA) (by omega)
 have t2:0<=g*ri*d*100000:=Int.mul_nonneg (Int.mul_nonneg (Int.mul_nonneg hg (by omega)) (by omega)) (by decide)
 have c1:a'*A*sh'*d<=a*A*sh*d':=by
  have e1:a'*A*sh'*d=a'*d*(A*sh'):=by ac_rfl
  have e2:a*A*sh*d'=a*d'*(A*sh):=by ac_rfl
  rw[e1,e2]
  exact EI cr (Int.mul_le_mul_of_nonneg_left hsh.2 hA) (Int.mul_nonneg hA hsh.1) (Int.mul_nonneg b4 (by omega))
 have c2:g*ri'*d'*100000*d<=g*ri*d*100000*d':=by
  have e1:g*ri'*d'*100000*d=ri'*(g*d'*100000*d):=by ac_rfl
  have e2:g*ri*d*100000*d'=ri*(g*d'*100000*d):=by ac_rfl
  rw[e1,e2]
  exact Int.mul_le_mul_of_nonneg_right hri.2 (Int.mul_nonneg (Int.mul_nonneg (Int.mul_nonneg hg (by omega)) (by decide)) (by omega))
 refine ⟨⟨Int.mul_nonneg i.c.1 (by omega),Int.mul_nonneg (by have:=i.c;omega) (by omega)⟩,?_⟩
 have c3:(a'*A*sh'+g*ri'*d'*100000)*d<=(a*A*sh+g*ri*d*100000)*d':=by rw[Int.add_mul,Int.add_mul];omega
 have c4:=EI i.c.2 c3 (Int.mul_nonneg (by omega) (by omega)) (by have:=i.c;omega)
 have c5:=Int.mul_le_mul_of_nonneg_right c4 (show (0:Int)<=10000000 by decide)
 have e1:x'.ap*(a'*A*sh'+g*ri'*d'*100000)*(d*10000000)=x'.ap*((a'*A*sh'+g*ri'*d'*100000)*d)*10000000:=by ac_rfl
 have e2:x.ap*(a*A*sh+g*ri*d*100000)*(d'*10000000)=x.ap*((a*A*sh+g*ri*d*100000)*d')*10000000:=by ac_rfl
 rw[e1,e2];exact c5
theorem yw{s:Shp}(o:l5 s){x x':Ice}(i:gQ x' x){ch ch':Bool}(hc:ch=true->ch'=true){v:Int}(hv:0<=v):md s x' ch' v<=md s x ch v:=by
 have co:=a9 o.ic
 obtain ⟨b1,_,_⟩:=cP co i.t.1
 obtain ⟨b3,_,_⟩:=cP co (show 0<=x.ag by have:=i.t;omega)
 obtain ⟨w1,w2,_⟩:=cP (a9 o.wa) hv
 obtain ⟨⟨n1,n2⟩,n3⟩:=yv o i hc hv
 unfold md
 dsimp only
 have hp:=o.n.2.2.2
 have hpr:=i.p
 generalize jJ s x' ch' v=n' at *
 generalize jJ s x ch v=n at *
 generalize (ar s.wa v).1=w at *
 generalize (ar s.wa v).2=wd at *
 have d1:0<(ar s.ic x'.ag).2*10000000:=by omega
 have d2:0<(ar s.ic x.ag).2*10000000:=by omega
 generalize (ar s.ic x'.ag).2*10000000=d' at *
 generalize (ar s.ic x.ag).2*10000000=d at *
 have p1:0<=s.prs*x'.ah:=Int.mul_nonneg hp hpr.1
 have p2:s.prs*x'.ah<=s.prs*x.ah:=Int.mul_le_mul_of_nonneg_left hpr.2 hp
 generalize s.prs*x'.ah=P' at *
 generalize s.prs*x.ah=P at *
 have hw:0<wd:=by omega
 refine pX (Int.mul_pos hw d1) (Int.mul_pos hw d2) ?_ ?_ ?_
 ·have:=Int.mul_nonneg w2 (show 0<=d' by omega)
  have:=Int.mul_nonneg n1 (show 0<=wd by omega)
  have:=Int.mul_nonneg (Int.mul_nonneg p1 (show 0<=wd by omega)) (show 0<=d' by omega)
  omega
 ·have:=Int.mul_nonneg w2 (show 0<=d by omega)
  have:=Int.mul_nonneg n2 (show 0<=wd by omega)
  have:=Int.mul_nonneg (Int.mul_nonneg (show 0<=P by omega) (show 0<=wd by omega)) (show 0<=d by omega)
  omega
 ·rw[Int.add_mul,Int.add_mul,Int.add_mul,Int.add_mul]
  have e1:w*d'*(wd*d)=w*d*(wd*d'):=by ac_rfl
  have e2:n'*wd*(wd*d)=n'*d*(wd*wd):=by ac_rfl
  have e3:n*wd*(wd*d')=n*d'*(wd*wd):=by ac_rfl
  have e4:P'*wd*d'*(wd*d)=P'*(wd*d'*(wd*d)):=by ac_rfl
  have e5:P*wd*d*(wd*d')=P*(wd*d'*(wd*d)):=by ac_rfl
  rw[e1,e2,e3,e4,e5]
  have f1:=Int.mul_le_mul_of_nonneg_right n3 (Int.mul_nonneg (show 0<=wd by omega) (show 0<=wd by omega))
  have f2:=Int.mul_le_mul_of_nonneg_right p2 (Int.mul_nonneg (Int.mul_nonneg (show 0<=wd by omega) (show 0<=d' by omega)) (Int.mul_nonneg (show 0<=wd by omega) (show 0<=d by omega)))
  omega
theorem mI{a b:Int}(ha:0<=a)(h:a<=b):0<=Int.tdiv (a+1) 2/\Int.tdiv (a+1) 2<=Int.tdiv (b+1) 2/\Int.tdiv (a+1) 2<=a:=by
 rw[Int.tdiv_eq_ediv_of_nonneg (by omega),Int.tdiv_eq_ediv_of_nonneg (by omega)];omega
theorem u7{x x':Ice}(i:gQ x' x){ch ch':Bool}(hc:ch=true->ch'=true){v:Int}(hv:0<=v):gA x' v ch'<=gA x v ch:=by
 have hc1:=i.c;have ht:=i.t;have hr:=i.r;have hp:=i.p
 have t0:0<=x'.ag*(100+v):=Int.mul_nonneg ht.1 (by omega)
 have t1:x'.ag*(100+v)<=x.ag*(100+v):=Int.mul_le_mul_of_nonneg_right ht.2 (by omega)
 have q:=mI t0 t1
 unfold gA
 generalize x'.ag*(100+v)=a at *
 generalize x.ag*(100+v)=b at *
 by_cases h:x'.ap=0
 ·rw[if_pos h]
  split
  ·omega
  ·cases ch <;> simp <;> omega
 ·rw[if_neg h,if_neg (show ¬ x.ap=0 by omega)]
  cases ch <;> cases ch' <;> simp_all <;> omega
theorem iY{f g:Int->Bool}:∀(n:Nat) {lo hi:Int},lo<=hi->(∀v,lo<=v->v<=hi->f v=true->g v=true)->bsG f n lo hi<=bsG g n lo hi
 |0,_,_,_,_=>Int.le_refl _
 |n+1,lo,hi,hl,h=>by
  show (if lo<hi then _ else _)<=(if lo<hi then _ else _)
  by_cases q:lo<hi
  ·rw[if_pos q,if_pos q]
   have m:lo<lo+Int.tdiv (hi-lo+1) 2/\lo+Int.tdiv (hi-lo+1) 2<=hi:=by rw[Int.tdiv_eq_ediv_of_nonneg (by omega)];omega
   by_cases hf:f (lo+Int.tdiv (hi-lo+1) 2)=true
   ·rw[if_pos hf,if_pos (h _ (by omega) m.2 hf)]
    exact iY n m.2 fun v a b=>h v (by omega) b
   ·rw[if_neg hf]
    by_cases hg:g (lo+Int.tdiv (hi-lo+1) 2)=true
    ·rw[if_pos hg]
     have a:=(iZ f n lo (lo+Int.tdiv (hi-lo+1) 2-1) (by omega)).2
     have b:=(iZ g n (lo+Int.tdiv (hi-lo+1) 2) hi m.2).1
     omega
    ·rw[if_neg hg]
     exact iY n (by omega) fun v a b=>h v a (by omega)
  ·rw[if_neg q,if_neg q];exact Int.le_refl _
theorem gv{s:Shp}(o:l5 s){x x':Ice}(i:gQ x' x){ch ch':Bool}(hc:ch=true->ch'=true){v:Int}(hv:0<=v)(h:mkB s x ch v=true):mkB s x' ch' v=true:=by
 unfold mkB at *
 rw[Bool.and_eq_true,decide_eq_true_eq,decide_eq_true_eq]at *
 have:=yw o i hc hv
 exact ⟨h.1,by omega⟩
theorem us{s:Shp}{x x':Ice}(i:gQ x' x){ch ch':Bool}(hc:ch=true->ch'=true){v:Int}(hv:0<=v)(h:brB s x ch v=true):brB s x' ch' v=true:=by
 unfold brB at *
 rw[decide_eq_true_eq]at *
 have:=u7 i hc hv
 omega
structure rO(a b:Cell):Prop where
 c:a.ap.hi<=b.ap.hi
 t:a.ag.hi<=b.ag.hi
 r:a.ai.hi<=b.ai.hi
 p:a.ah.hi<=b.ah.hi
theorem rO.refl(a:Cell):rO a a:=⟨Int.le_refl _,Int.le_refl _,Int.le_refl _,Int.le_refl _⟩
theorem zO{s:Shp}{a b:Cell}(ha:bk a)(hb:bk b)(l:rO a b){ch ch':Bool}(hc:ch=true->ch'=true):(sfX s b ch).1<=(sfX s a ch').1:=by
 unfold sfX
 by_cases e:aU s=0
 ·have o:=ET e
  rw[if_pos e,if_pos e,if_pos (show aK b=0 from if_pos hb),if_pos (show aK a=0 from if_pos ha)]
  have i:gQ (bX a) (bX b):=by
   obtain ⟨h1,h2,h3,h4⟩:=ha
   unfold cH at h1 h2 h3 h4
   exact ⟨⟨by show 0<=a.ap.hi;omega,l.c⟩,⟨by show 0<=a.ag.hi;omega,l.t⟩,⟨by show 0<=a.ai.hi;omega,l.r⟩,⟨by show 0<=a.ah.hi;omega,l.p⟩⟩
  have g0:0<=(sfS s a ch').1:=by
   unfold sfS
   split
   ·exact Int.le_refl _
   ·split
    ·exact Int.le_refl _
    ·exact (Bj s _ _).1
  have s0:e9 s (bX b) ch<=e9 s (bX a) ch':=by
   unfold e9 grG
   by_cases q:mkB s (bX b) ch 0=true
   ·rw[if_pos q,if_pos (gv o i hc (Int.le_refl _) q)]
    exact iY _ (by decide) fun v h1 h2 h3=>gv o i hc h1 h3
   ·rw[if_neg q]
    split
    ·exact (iZ _ _ _ _ (by decide)).1
    ·exact Int.le_refl _
  unfold sfS at *
  by_cases q:e9 s (bX b) ch<10
  ·rw[if_pos q];exact g0
  ·rw[if_neg q]
   rw[if_neg (show ¬ e9 s (bX a) ch'<10 by omega)]at g0 ⊢
   by_cases r:(goS s (bX b) ch).2=false
   ·rw[if_pos r];exact g0
   ·rw[if_neg r]
    have mm:∀v:Int,0<=v->mbB s (bX b) ch v=true->mbB s (bX a) ch' v=true:=fun v hv h=>by
     unfold mbB at *
     rw[Bool.and_eq_true]at *
     exact ⟨gv o i hc hv h.1,us i hc hv h.2⟩
    unfold goS grG at r ⊢
    by_cases f:mbB s (bX b) ch 10=true
    ·rw[if_pos f]
     have f':=mm 10 (by decide) f
     rw[if_pos f',if_neg (fun e=>by cases e)]
     exact iY _ (by decide) fun v h1 h2 h3=>mm v (by omega) h3
    ·rw[if_neg f]at r;exact absurd rfl r
 ·rw[if_neg e]
  show 0<=_
  split
  ·split
   ·unfold sfS
    split
    ·exact Int.le_refl _
    ·split
     ·exact Int.le_refl _
     ·exact (Bj s _ _).1
   ·exact Int.le_refl _
  ·exact Int.le_refl _
theorem Walk.waits{p:Pl}{l:List Leg}{c t:Int}(k:Walk p l c t):∀n:Nat,t+(n:Int)<=endP p->wtB p c t (t+(n:Int))=true->Walk p l c (t+(n:Int))
 |0,_,_=>by rw[show t+((0:Nat):Int)=t by omega];exact k
 |n+1,h,w=>by
  have w':=fU.1 w
  have k1:=Walk.waits k n (by omega) (fU.2 fun u h1 h2=>w' u h1 (by omega))
  have q:=w' (t+(n:Int)) (by omega) (by omega)
  have:=k1.le
  rw[show t+((n+1:Nat):Int)=t+(n:Int)+1 by omega]
  exact ⟨k1.ok,k1.at_,k1.r0,.wait k1.r (wB q) (by omega),by omega,my k1.le k1.w q,by omega⟩
theorem xf{p:Pl}{a:Int}:∀(n:Nat) {c t:Int},t<=a->Int.toNat (a-t)=n->lfP p a c t=0->c=p.to
 |0,c,t,h1,h2,h3=>by
  obtain rfl:t=a:=by omega
  rw[je]at h3
  by_cases e:c=p.to
  ·exact e
  ·rw[if_neg e]at h3;omega
 |n+1,c,t,h1,h2,h3=>by
  have hlt:t<a:=by omega
  rw[lj hlt]at h3
  rcases ni p a (lgP p c t) (lf0 p a c t) with e|⟨x,hx,hxa,e⟩
  ·rw[e]at h3
   unfold lf0 at h3
   by_cases w:wtB p c t (t+1)=true
   ·rw[if_pos w]at h3
    exact xf n (by omega) (by omega) h3
   ·rw[if_neg w]at h3;omega
  ·have:=(As p (c:=x.to) hxa).1;omega
theorem pZ{p:Pl}(o:bG p)(h:0<=bp p):∀k:Nat,(k:Int)<=lfP p (bp p) p.frm 0->Walk p (bsL p (bp p) k) (bsC p (bp p) k) (bsT p (bp p) k)
 |0,_=>Walk.start o
 |k+1,hk=>by
  have b:=GG o h
  have ih:=pZ o h k (by omega)
  have A:=DU o b k (by omega)
  have hp:=oh A.t.2 (by have:=A.n;omega) (by have:=A.n;have:=b.fin;omega)
  obtain ⟨j,j1,j2,j3,j4,_⟩:=uA (x:=nxL p (bp p) k) (ua hp)
  have w:=ih.waits j (by have:=b.a1;omega) j2
  have:=w.leg j3
  rw[um,BI,BG];exact this
structure Hh(p:Pl):Prop where
 w:Walk p (aF p) p.to (bp p)
 t:acT (aF p) (aF p).length=bp p
 n:(aF p).length<=300
theorem xH{p:Pl}(o:bG p)(h:0<=bp p):Hh p:=by
 have b:=GG o h
 have he:=xz o
 have n0:=(As p (c:=p.frm) b.a0).1
 have e:aF p=bsL p (bp p) (Int.toNat (lfP p (bp p) p.frm 0)):=by unfold aF dO;rw[if_neg (by omega)]
 have k:=pZ o h (Int.toNat (lfP p (bp p) p.frm 0)) (by omega)
 have A:=DU o b (Int.toNat (lfP p (bp p) p.frm 0)) (by omega)
 have z:lfP p (bp p) (bsC p (bp p) (Int.toNat (lfP p (bp p) p.frm 0))) (bsT p (bp p) (Int.toNat (lfP p (bp p) p.frm 0)))=0:=by have:=A.n;unfold bsN at this;omega
 have hc:=xf _ A.t.2 rfl z
 rw[hc]at k
 have l:=(jn o k.r k.e).2
 have ht:bsT p (bp p) (Int.toNat (lfP p (bp p) p.frm 0))=bp p:=by have:=A.t.2;omega
 rw[ht]at k
 have l0:=(jn o k.r0 (by have:=k.le;have:=k.e;omega)).2
 rw[<- e]at k l0
 refine ⟨k,by have:=k.le;omega,?_⟩
 have l1:=(EL k.r (Int.le_refl _)).2
 rw[je,if_pos rfl]at l1
 rw[e,xG]
 have:=b.a1
 omega
structure Inn(q p:Pl):Prop where
 w:q.w=p.w
 h:q.h=p.h
 land:q.land=p.land
 shp:q.shp=p.shp
 size:q.size=p.size
 frm:q.frm=p.frm
 to:q.to=p.to
 cts:q.cts.length=p.cts.length
 chan:∀j:Nat,p.chan.getD j false=true->q.chan.getD j false=true
 rp:∀i j:Nat,bk ((p.cts.getD i zCh).cells.getD j az)
 rq:∀i j:Nat,bk ((q.cts.getD i zCh).cells.getD j az)
 le:∀i j:Nat,rO ((q.cts.getD i zCh).cells.getD j az) ((p.cts.getD i zCh).cells.getD j az)
theorem zV:bk az:=by unfold bk cH az;decide
theorem bG.right{p:Pl}(o:bG p)(i j:Nat):bk ((p.cts.getD i zCh).cells.getD j az):=by
 by_cases hi:i<p.cts.length
 ·by_cases hj:j<(p.cts.getD i zCh).cells.length
  ·exact (o.pW hi).cell j hj
  ·rw[List.getD_eq_getElem?_getD (l:=(p.cts.getD i zCh).cells),List.getElem?_eq_none (by omega)];exact zV
 ·rw[List.getD_eq_getElem?_getD (l:=p.cts),List.getElem?_eq_none (by omega)];exact zV
theorem Inn.sf{q p:Pl}(n:Inn q p)(c t:Int):sfP p c t<=sfP q c t:=by
 unfold sfP
 rw[n.shp]
 exact zO (n.rq _ _) (n.rp _ _) (n.le _ _) (n.chan _)
theorem Inn.Bz{q p:Pl}(n:Inn q p):endP q=endP p:=by unfold endP;rw[n.cts]
theorem Inn.bs{q p:Pl}(n:Inn q p)(c:Int):bsP q c=bsP p c:=by
 unfold bsP eF nbB nbT nbU nbV
 rw[n.w,n.h,n.land]
theorem Inn.tk{q p:Pl}(n:Inn q p)(v:Int):tkP q v=tkP p v:=by unfold tkP;rw[n.size]
theorem Inn.wt{q p:Pl}(n:Inn q p){c a b:Int}(h:wtB p c a b=true):wtB q c a b=true:=fU.2 fun u h1 h2=>by
 have:=fU.1 h u h1 h2
 have:=zN p c (Int.tdiv u 6)
 have:=n.sf c (Int.tdiv u 6)
 omega
theorem Inn.low{q p:Pl}(n:Inn q p)(to t:Int):∀k,bR p to t k<=bR q to t k
 |0=>Int.le_refl _
 |k+1=>by
  have i:=n.low to t k
  have s:=n.sf to (Int.tdiv (t+(k:Int)) 6)
  show (if _ then _ else _)<=(if _ then _ else _)
  split <;> split <;> omega
theorem Inn.sp{q p:Pl}(n:Inn q p)(to t:Int)(k:Nat):spL p to t k<=spL q to t k:=by
 have l:=n.low to t k
 unfold spL
 rw[n.size]
 split
 ·split <;> split <;> omega
 ·exact l
theorem zG{s v m:Int}(hs:0<=s)(hv:1<=v):Int.tdiv (s+v-1) v=m ↔ v*(m-1)<s/\s<=v*m:=by
 rw[Int.tdiv_eq_ediv_of_nonneg (by omega)]
 have h1:=Int.mul_ediv_add_emod (s+v-1) v
 have h2:=Int.emod_nonneg (s+v-1) (show v≠0 by omega)
 have h3:=Int.emod_lt_of_pos (s+v-1) (show 0<v by omega)
 have e1:∀m:Int,v*(m-1)=v*m-v:=fun m=>by rw[Int.mul_sub,Int.mul_one]
 constructor
 ·rintro rfl
  rw[e1]
  exact ⟨by omega,by omega⟩
 ·rintro ⟨g1,g2⟩
  rw[e1]at g1
  have a:(s+v-1) / v<m+1:=Int.ediv_lt_of_lt_mul (by omega) (by rw[Int.mul_comm,Int.mul_add,Int.mul_one];omega)
  have b:m<=(s+v-1) / v:=Int.le_ediv_of_mul_le (by omega) (by rw[Int.mul_comm];omega)
  omega
theorem DR{s k v:Int}(hs:0<=s)(hk:1<=k):v<=Int.tdiv (s-1) k->1<=s->v*k<s:=fun h h1=>by
 rw[Int.tdiv_eq_ediv_of_nonneg (by omega)]at h
 have:=(Int.le_ediv_iff_mul_le (by omega)).1 h
 omega
theorem Cx(p:Pl)(to t:Int){n:Nat}(h:1<n):spL p to t n<=Int.tdiv (6*p.size-1) ((n:Int)-1):=by
 unfold spL
 rw[if_pos h]
 split <;> omega
theorem Inn.leg{q p:Pl}(n:Inn q p)(hz:1<=p.size){c t:Int}{x:Leg}(h:x∈lgP p c t):∃y∈lgP q c t,y.to=x.to/\y.arr=x.arr:=by
 unfold lgP at h ⊢
 obtain ⟨to,h1,h2⟩:=List.mem_flatMap.1 h
 obtain ⟨k,h3,h4⟩:=jN h2
 obtain ⟨e1,e2,e3,e4,e5,e6⟩:=li h4
 refine ⟨⟨to,t,spL q to t (k+1),t+1+(k:Int)⟩,List.mem_flatMap.2 ⟨to,by rw[n.bs];exact h1,?_⟩,e1.symm,e3.symm⟩
 have ok:okL q to t (k+1)=true:=by
  unfold okL at e5 ⊢
  rw[List.all_eq_true]at e5 ⊢
  intro j hj
  have g:=e5 j hj
  unfold goB at g ⊢
  rw[Bool.and_eq_true,decide_eq_true_eq,decide_eq_true_eq]at g ⊢
  have:=n.low to t (j+1);have:=n.sp to t (j+1)
  omega
 have g:=Aj e5 (Nat.lt_succ_self k)
 unfold goB at g
 rw[Bool.and_eq_true,decide_eq_true_eq,decide_eq_true_eq]at g
 have sp:=n.sp to t (k+1)
 rw[e4]at e6
 unfold tkP at e6
 have u:=(zG (by omega) (by omega)).1 e6
 have tk:tkP q (spL q to t (k+1))=((k+1:Nat):Int):=by
  unfold tkP
  rw[n.size]
  refine (zG (by omega) (by omega)).2 ⟨?_,Int.le_trans u.2 (Int.mul_le_mul_of_nonneg_right sp (by omega))⟩
  by_cases q1:1<k+1
  ·have c:=Cx q to t q1
   rw[n.size]at c
   exact DR (by omega) (by omega) c (by omega)
  ·rw[show (((k+1:Nat):Int)-1)=0 by omega,Int.mul_zero];omega
 unfold jO bD
 refine List.mem_flatMap.2 ⟨k,List.mem_range.2 (by rw[n.Bz];omega),?_⟩
 unfold ek
 rw[ok,show (tkP q (spL q to t (k+1)) == ((k+1:Nat):Int))=true from beq_iff_eq.2 tk]
 exact List.mem_singleton.2 rfl
theorem Inn.rch{q p:Pl}(n:Inn q p)(hz:1<=p.size){t c:Int}(r:Rch p t c):Rch q t c:=by
 induction r with
 |start=>rw[<- n.frm];exact .start
 |wait r w h ih=>exact .wait ih (n.wt w) (by rw[n.Bz];exact h)
 |leg r h m ih =>
  obtain ⟨y,hy,e1,e2⟩:=n.leg hz m
  rw[<- e1,<- e2];exact .leg ih (by rw[n.Bz];exact h) hy
theorem Inn.arr{q p:Pl}(n:Inn q p)(oq:bG q)(op:bG p)(h:0<=bp p):0<=bp q/\bp q<=bp p:=by
 have b:=xH op h
 have r:=n.rch op.size.1 b.w.r
 rw[<- n.to]at r
 exact jn oq r (by rw[n.Bz];exact b.w.e)
theorem Inn.acE{q p:Pl}(n:Inn q p){c t:Int}{x:Leg}(h:acE p c t x=0):acE q c t x=0:=by
 obtain ⟨a,b,d,e⟩:=uz h
 refine rH (fu.2 ?_) (by rw[n.Bz];exact b) (n.wt d) ?_
 ·have:=fu.1 a
  rw[n.bs,n.tk];exact this
 ·unfold iJ at e ⊢
  rw[List.all_eq_true]at e ⊢
  intro j hj
  have:=e j hj
  rw[Bool.not_eq_true',decide_eq_false_iff_not]at this ⊢
  unfold acD at this ⊢
  have:=n.sf x.to (Int.tdiv (x.dep+(j:Int)) 6)
  omega
theorem Inn.acC{q p:Pl}(n:Inn q p)(l:List Leg):∀k,acC q l k=acC p l k
 |0=>n.frm
 |k+1=>rfl
theorem pz{q p:Pl}(n:Inn q p){x:Leg}{a b:Int}(h:a<=b):∀k,hJ p x a k<=hJ q x b k
 |0=>h
 |k+1=>by
  have i:=pz n (x:=x) h k
  have s:acD p x k<=acD q x k:=by unfold acD;have:=n.sf x.to (Int.tdiv (x.dep+(k:Int)) 6);omega
  show (if _ then _ else _)<=(if _ then _ else _)
  split <;> split <;> omega
theorem uy{q p:Pl}(n:Inn q p)(l:List Leg):∀k,acM p l k<=acM q l k
 |0=>Int.le_refl _
 |k+1=>pz n (uy n l k) _
theorem Inn.acc{q p:Pl}(n:Inn q p){l:List Leg}(h:cn p l=0):cn q l=0/\dH q l=dH p l/\dI p l<=dI q l:=by
 have h':=h
 unfold cn at h'
 by_cases hl:300<l.length
 ·rw[if_pos hl]at h';cases h'
 rw[if_neg hl]at h'
 obtain ⟨h1,h2⟩:=eB h'
 have e:cn q l=0:=by
  unfold cn
  rw[if_neg hl,bI (mq fun i hi =>?_),n.acC,n.to]
  ·exact h2
  ·unfold acU
   rw[n.acC]
   exact n.acE (dX h1 i hi)
 refine ⟨e,?_,?_⟩
 ·unfold dH;rw[if_pos e,if_pos h]
 ·unfold dI;rw[if_pos e,if_pos h];exact uy n l _
theorem BJ{p:Pl}(o:bG p)(h:0<=bp p):cn p (aF p)=0/\dH p (aF p)=bp p:=by
 have b:=xH o h
 have w:=b.w.home o b.n
 exact ⟨w.1,by rw[w.2.1];exact b.t⟩
theorem Fu{l:List Pt}(c:uJ l)(u:UpL l){x y:Int}(hx:0<=x)(h:x<=y):(ar l x).1*(ar l y).2<=(ar l y).1*(ar l x).2:=by
 match l,c,u with
 |a :: r,c,u=>exact kb u (by have:a.1=0:=c.x0;omega) h
 | [],c,_=>have:=c.len;simp at this
def negL(l:List Pt):List Pt:=l.map fun p=>(p.1,-p.2)
theorem mE:∀(l:List Pt) (x:Int),ar (negL l) x=(-(ar l x).1,(ar l x).2)
 | [],_=>rfl
 | [_],_=>rfl
 |a :: b :: r,x=>by
  have ih:=mE (b :: r) x
  show (if x<=b.1 then ((-a.2)*(b.1-a.1)+(-b.2 - -a.2)*(x-a.1),b.1-a.1) else ar (negL (b :: r)) x)=_
  by_cases h:x<=b.1
  ·rw[if_pos h]
   have e:ar (a :: b :: r) x=(a.2*(b.1-a.1)+(b.2-a.2)*(x-a.1),b.1-a.1):=if_pos h
   rw[e,show (-b.2 - -a.2) = -(b.2-a.2) by omega,Int.neg_mul,Int.neg_mul,<- Int.neg_add]
  ·rw[if_neg h,ih]
   have e:ar (a :: b :: r) x=ar (b :: r) x:=if_neg h
   rw[e]
theorem sQ(l:List Pt)(i:Nat):(negL l).getD i zP=((l.getD i zP).1,-(l.getD i zP).2):=by
 unfold negL
 rw[List.getD_eq_getElem?_getD,List.getD_eq_getElem?_getD,List.getElem?_map]
 cases l[i]? <;> rfl
theorem Fv{l:List Pt}(h:cF l (-1)=true){x y:Int}(hx:0<=x)(hy:x<=y):(ar l y).1*(ar l x).2<=(ar l x).1*(ar l y).2:=by
 have c:=a9 h
 have u:UpL (negL l):=by
  unfold cF at h
  rw[Bool.and_eq_true,List.all_eq_true]at h
  refine uQ fun i hi hl =>?_
  rw[sQ,sQ]
  have hl':i<l.length:=by unfold negL at hl;rw[List.length_map]at hl;exact hl
  have:=h.2 i (List.mem_range.2 hl')
  unfold kf at this
  rw[Bool.or_eq_true,decide_eq_true_eq,Bool.not_eq_true',decide_eq_false_iff_not]at this
  exact ⟨c.up i hi hl',by show -(l.getD (i-1) zP).2 <= -(l.getD i zP).2;omega⟩
 have m:(ar (negL l) x).1*(ar (negL l) y).2<=(ar (negL l) y).1*(ar (negL l) x).2:=by
  have l0:=c.x0
  have len:=c.len
  cases l with
  |nil=>simp at len
  |cons a r=>exact kb (a:=(a.1,-a.2)) (r:=negL r) u (by have:a.1=0:=l0;show a.1<=x;omega) hy
 rw[mE,mE]at m
 dsimp only at m
 rw[Int.neg_mul,Int.neg_mul]at m
 omega
theorem Bo{a b c d:Int}(ha:0<=a)(hc:0<=c)(hb:0<b)(hd:0<d)(h:a*d<=c*b):Int.tdiv a b<=Int.tdiv c d:=by
 rw[Int.tdiv_eq_ediv_of_nonneg ha,Int.tdiv_eq_ediv_of_nonneg hc]
 refine Int.le_ediv_of_mul_le hd ?_
 have h1:=Int.ediv_mul_le a (show b≠0 by omega)
 have h2:=Int.mul_le_mul_of_nonneg_right h1 (show 0<=d by omega)
 have h3:a / b*d*b<=c*b:=by rw[Int.mul_right_comm];exact Int.le_trans h2 h
 exact Int.le_of_mul_le_mul_right h3 hb
theorem Fz{s:Shp}(o:l5 s){v v':Int}(hv:0<=v)(h:v<=v'):mH s v'<=mH s v:=by
 obtain ⟨b1,b2,_⟩:=cP (a9 o.th) hv
 obtain ⟨b3,b4,_⟩:=cP (a9 o.th) (show 0<=v' by omega)
 unfold mH
 exact Bo b4 b2 (by omega) (by omega) (Fv o.th hv h)
theorem FH{s:Shp}(o:l5 s){x:Ice}(i:gQ x x){ch:Bool}{v v':Int}(hv:0<=v)(h:v<=v'):0<=jJ s x ch v/\jJ s x ch v<=jJ s x ch v':=by
 obtain ⟨b1,b2,_⟩:=cP (a9 o.ic) i.t.1
 have hn:=o.n
 have ic:=i.c
 have ir:=i.r
 unfold jJ
 dsimp only
 have sh:0<=(if ch=true then s.aw else 100):=by split <;> omega
 have ri:0<=(if ch=true then 0 else x.ai):=by split <;> omega
 generalize (if ch=true then s.aw else 100)=S at *
 generalize (if ch=true then 0 else x.ai)=R at *
 generalize (ar s.ic x.ag).1=a at *
 generalize (ar s.ic x.ag).2=d at *
 have e1:0<=s.slow*v:=Int.mul_nonneg hn.1 hv
 have e2:s.slow*v<=s.slow*v':=Int.mul_le_mul_of_nonneg_left h hn.1
 have f1:0<=a*(1000+s.slow*v)*S:=Int.mul_nonneg (Int.mul_nonneg b2 (by omega)) sh
 have f2:a*(1000+s.slow*v)*S<=a*(1000+s.slow*v')*S:=Int.mul_le_mul_of_nonneg_right (Int.mul_le_mul_of_nonneg_left (by omega) b2) sh
 have f3:0<=s.rdg*R*d*100000:=Int.mul_nonneg (Int.mul_nonneg (Int.mul_nonneg hn.2.2.1 ri) (by omega)) (by decide)
 exact ⟨Int.mul_nonneg ic.1 (by omega),Int.mul_le_mul_of_nonneg_left (by omega) ic.1⟩
theorem FI{s:Shp}(o:l5 s){x:Ice}(i:gQ x x){ch:Bool}{v v':Int}(hv:0<=v)(h:v<=v'):md s x ch v<=md s x ch v':=by
 obtain ⟨b1,_,_⟩:=cP (a9 o.ic) i.t.1
 obtain ⟨w1,w2,_⟩:=cP (a9 o.wa) hv
 obtain ⟨w3,w4,_⟩:=cP (a9 o.wa) (show 0<=v' by omega)
 obtain ⟨n1,n2⟩:=FH o i (ch:=ch) hv h
 have wm:=Fu (a9 o.wa) (EA o.wa) hv h
 have hp:=o.n.2.2.2
 have hpr:=i.p
 unfold md
 dsimp only
 generalize jJ s x ch v=n at *
 generalize jJ s x ch v'=n' at *
 generalize (ar s.wa v).1=w at *
 generalize (ar s.wa v).2=wd at *
 generalize (ar s.wa v').1=w' at *
 generalize (ar s.wa v').2=wd' at *
 have d1:0<(ar s.ic x.ag).2*10000000:=by omega
 generalize (ar s.ic x.ag).2*10000000=d at *
 have p1:0<=s.prs*x.ah:=Int.mul_nonneg hp hpr.1
 generalize s.prs*x.ah=P at *
 have hw:0<wd:=by omega
 have hw':0<wd':=by omega
 refine pX (Int.mul_pos hw d1) (Int.mul_pos hw' d1) ?_ ?_ ?_
 ·have:=Int.mul_nonneg w2 (show 0<=d by omega)
  have:=Int.mul_nonneg n1 (show 0<=wd by omega)
  have:=Int.mul_nonneg (Int.mul_nonneg p1 (show 0<=wd by omega)) (show 0<=d by omega)
  omega
 ·have:=Int.mul_nonneg w4 (show 0<=d by omega)
  have:=Int.mul_nonneg (show 0<=n' by omega) (show 0<=wd' by omega)
  have:=Int.mul_nonneg (Int.mul_nonneg p1 (show 0<=wd' by omega)) (show 0<=d by omega)
  omega
 ·rw[Int.add_mul,Int.add_mul,Int.add_mul,Int.add_mul]
  have e1:w*d*(wd'*d)=w*wd'*(d*d):=by ac_rfl
  have e2:w'*d*(wd*d)=w'*wd*(d*d):=by ac_rfl
  have e3:n*wd*(wd'*d)=n*(wd*wd'*d):=by ac_rfl
  have e4:n'*wd'*(wd*d)=n'*(wd*wd'*d):=by ac_rfl
  have e5:P*wd*d*(wd'*d)=P*wd'*d*(wd*d):=by ac_rfl
  rw[e1,e2,e3,e4,e5]
  have f1:=Int.mul_le_mul_of_nonneg_right wm (Int.mul_nonneg (show 0<=d by omega) (show 0<=d by omega))
  have f2:=Int.mul_le_mul_of_nonneg_right n2 (Int.mul_nonneg (Int.mul_nonneg (show 0<=wd by omega) (show 0<=wd' by omega)) (show 0<=d by omega))
  omega
theorem HJ{s:Shp}(o:l5 s){x:Ice}(i:gQ x x){ch:Bool}{v v':Int}(hv:0<=v)(h:v<=v')(m:mkB s x ch v'=true):mkB s x ch v=true:=by
 unfold mkB at *
 rw[Bool.and_eq_true,decide_eq_true_eq,decide_eq_true_eq]at *
 have:=FI o i (ch:=ch) hv h
 have:=Fz o hv h
 omega
theorem IF{s:Shp}{x:Ice}(i:gQ x x){ch:Bool}{v v':Int}(hv:0<=v)(h:v<=v')(m:brB s x ch v'=true):brB s x ch v=true:=by
 unfold brB at *
 rw[decide_eq_true_eq]at *
 refine Int.le_trans ?_ m
 have t0:0<=x.ag*(100+v):=Int.mul_nonneg i.t.1 (by omega)
 have t1:x.ag*(100+v)<=x.ag*(100+v'):=Int.mul_le_mul_of_nonneg_left (by omega) i.t.1
 have q:=mI t0 t1
 unfold gA
 split
 ·exact Int.le_refl _
 ·cases ch <;> simp <;> omega
theorem rC{f:Int->Bool}:∀(n:Nat) {lo hi:Int},f lo=true->f (bsG f n lo hi)=true
 |0,_,_,h=>h
 |n+1,lo,hi,h=>by
  show f (if lo<hi then _ else _)=true
  split
  ·split
   ·exact rC n ‹_›
   ·exact rC n h
  ·exact h
theorem go_sat{s:Shp}{x:Ice}{ch:Bool}(h:¬ (goS s x ch).2=false):mbB s x ch (goS s x ch).1=true:=by
 unfold goS grG at *
 by_cases e:mbB s x ch 10=true
 ·rw[if_pos e];exact rC _ e
 ·rw[if_neg e]at h;exact absurd rfl h
def uY(s:Shp)(x:Ice)(ch:Bool)(v:Int):Bool:=mkB s x ch v&&(brB s x ch v&&decide (10<=e9 s x ch))
theorem FK{s:Shp}{c:Cell}{ch:Bool}{x:Ice}{v:Int}(hx:gQ x (bX c))(h1:10<=v)(h2:v<=(sfX s c ch).1):uY s x ch v=true:=by
 unfold sfX at h2
 by_cases e:aU s=0
 ·have o:=ET e
  rw[if_pos e]at h2
  by_cases ec:aK c=0
  ·rw[if_pos ec]at h2
   unfold sfS at h2
   by_cases q:e9 s (bX c) ch<10
   ·rw[if_pos q]at h2;have h2:v<=0:=h2;omega
   ·rw[if_neg q]at h2
    by_cases r:(goS s (bX c) ch).2=false
    ·rw[if_pos r]at h2;have h2:v<=0:=h2;omega
    ·rw[if_neg r]at h2
     have h2:v<=(goS s (bX c) ch).1:=h2
     have m:=go_sat r
     unfold mbB at m
     rw[Bool.and_eq_true]at m
     have lc:gQ (bX c) (bX c):=⟨⟨by have:=hx.c;omega,Int.le_refl _⟩,⟨by have:=hx.t;omega,Int.le_refl _⟩,⟨by have:=hx.r;omega,Int.le_refl _⟩,⟨by have:=hx.p;omega,Int.le_refl _⟩⟩
     have k1:=gv o hx (ch':=ch) id (show 0<=v by omega) (HJ o lc (by omega) h2 m.1)
     have k2:=us hx (ch':=ch) id (show 0<=v by omega) (IF lc (by omega) h2 m.2)
     have s0:e9 s (bX c) ch<=e9 s x ch:=by
      unfold e9 grG
      by_cases q:mkB s (bX c) ch 0=true
      ·rw[if_pos q,if_pos (gv o hx id (Int.le_refl _) q)]
       exact iY _ (by decide) fun v h1 h2 h3=>gv o hx id h1 h3
      ·rw[if_neg q]
       split
       ·exact (iZ _ _ _ _ (by decide)).1
       ·exact Int.le_refl _
     unfold uY
     rw[k1,k2,decide_eq_true (show 10<=e9 s x ch by omega)];rfl
  ·rw[if_neg ec]at h2;have h2:v<=0:=h2;omega
 ·rw[if_neg e]at h2;have h2:v<=0:=h2;omega
def IW(sp:Value)(x:Ice):Prop :=
 (c0q 3 152 [nI x.ap,nI 0,nI 100] (.bool (inB x.ap 0 100)) (fk (!(inB x.ap 0 100)) ((nI 20:Value)=sp) (c0q 3 152 [nI x.ag,nI 0,nI 400] (.bool (inB x.ag 0 400)) (fk (!(inB x.ag 0 400)) ((nI 20:Value)=sp) (c0q 3 152 [nI x.ai,nI 0,nI 100] (.bool (inB x.ai 0 100)) (fk (!(inB x.ai 0 100)) ((nI 20:Value)=sp) (c0q 3 152 [nI x.ah,nI 0,nI 3] (.bool (inB x.ah 0 3)) (fk (!(inB x.ah 0 3)) ((nI 20:Value)=sp) ((nI 0:Value)=sp)))))))))
abbrev yoe(x:Ice):List Value:=[.agg #[nI x.ap,nI x.ag,nI x.ai,nI x.ah]]
theorem I9(sp:Value)(x:Ice):vF prog msk (dm 0) 100000 true 40 true 99 (yoe x) ⟨1,.leaf⟩ (some [])
 (.go 42 (.ans [] (.bool (inB x.ap 0 100)) [] (.go 1 (.fork (.auto) (.go 18 (.ans [] (.bool (inB x.ag 0 400)) [] (.go 1 (.fork (.auto) (.go 18 (.ans [] (.bool (inB x.ai 0 100)) [] (.go 1 (.fork (.auto) (.go 18 (.ans [] (.bool (inB x.ah 0 3)) [] (.go 1 (.fork (.auto) (.auto)))))))))))))))))
 (fun v _ _=>v=sp)=IW sp x:=by kernel_rfl
def D7(sp:Value)(x:Ice)(v:Int):Prop :=
 (c0q 2 99 (yoe x) (nI 0) (fk ((0:Int) != 0) ((nI 0:Value)=sp) (c0q 2 170 [nI v,nI 0,nI 250] (.bool (inB v 0 250)) (fk (!(inB v 0 250)) ((nI 6:Value)=sp) ((nI 0:Value)=sp)))))
theorem Ei(sp:Value)(x:Ice)(v:Int):vF prog msk (dm 0) 100000 true 40 true 210 [.agg #[nI x.ap,nI x.ag,nI x.ai,nI x.ah],nI v] ⟨1,.leaf⟩ (some [])
 (.go 2 (.ans [] (nI 0) [] (.go 2 (.fork (.auto) (.go 0 (.ans [] (.bool (inB v 0 250)) [] (.go 0 (.fork (.auto) (.auto)))))))))
 (fun v _ _=>v=sp)=D7 sp x v:=by kernel_rfl
abbrev yob(s:Shp):aa:=.cells true 2 (s.th.flatMap ptC)
abbrev yoc(s:Shp):aa:=.cells true 2 (s.wa.flatMap ptC)
abbrev yod(s:Shp):aa:=.cells true 2 (s.ic.flatMap ptC)
def GO(sp:Value)(s:Shp)(x:Ice)(v:Int):Prop :=
 (c3q 6 1 (yob s) 2 (yoc s) 3 (yod s) 79 [.agg #[nI s.cls,nI s.pow,nI s.dra,nI s.ton,slQ 1 2 s.th.length,slQ 2 2 s.wa.length,slQ 3 2 s.ic.length,nI s.slow,nI s.aw,nI s.rdg,nI s.prs]] (nI 0) (fk ((0:Int) != 0) ((nI 0:Value)=sp) (c0q 6 210 [.agg #[nI x.ap,nI x.ag,nI x.ai,nI x.ah],nI v] (nI 0) ((nI 0:Value)=sp))))
abbrev yo9(s:Shp)(x:Ice)(v:Int):List Value:=[.agg #[nI s.cls,nI s.pow,nI s.dra,nI s.ton,slQ 1 2 s.th.length,slQ 2 2 s.wa.length,slQ 3 2 s.ic.length,nI s.slow,nI s.aw,nI s.rdg,nI s.prs],.agg #[nI x.ap,nI x.ag,nI x.ai,nI x.ah],nI v]
abbrev yo1:List Value:=[nI 4000,nI 8000,nI 14000,nI 24000,nI 40000,nI 90000]
abbrev yo5(s:Shp):=aG [.cells false 0 yo1,.cells true 2 (s.th.flatMap ptC),.cells true 2 (s.wa.flatMap ptC),.cells true 2 (s.ic.flatMap ptC)]
abbrev yof(s:Shp):List (Nat×aa):=[(1,.cells true 2 (s.th.flatMap ptC)),(2,.cells true 2 (s.wa.flatMap ptC)),(3,.cells true 2 (s.ic.flatMap ptC))]
theorem Hg(sp:Value)(s:Shp)(x:Ice)(v:Int):vF prog msk (dm 0) 100000 true 40 true 190 (yo9 s x v) (yo5 s) (some [])
 (.go 3 (.ans (yof s) (nI 0) [] (.go 2 (.fork (.auto) (.go 1 (.ans [] (nI 0) [] (.auto)))))))
 (fun v _ _=>v=sp)=GO sp s x v:=by kernel_rfl
abbrev yoi:aa:=.cells false 0 yo1
abbrev yo0(s:Shp):List Value:=[nI s.cls,nI s.pow,nI s.dra,nI s.ton,slQ 1 2 s.th.length,slQ 2 2 s.wa.length,slQ 3 2 s.ic.length,nI s.slow,nI s.aw,nI s.rdg,nI s.prs]
abbrev yo3(s:Shp):Prop:=(ac yoi)/\(ac (.cells true 0 (yo0 s)))/\(ac (yob s))/\(ac (yoc s))/\(ac (yod s))/\True
abbrev yo2(H':Heap)(s:Shp):Prop:=H'[0]?=some (.cells false 0 yo1:aa)/\H'[4]?=some (.cells true 0 (yo0 s):aa)/\H'[1]?=some (.cells true 2 (s.th.flatMap ptC):aa)/\H'[2]?=some (.cells true 2 (s.wa.flatMap ptC):aa)/\H'[3]?=some (.cells true 2 (s.ic.flatMap ptC):aa)/\True
abbrev yog(x:Ice)(ch:Bool)(v:Int):List Value:=[.agg #[pt 4,nI x.ap,nI x.ag,nI x.ai,nI x.ah,.bool ch],nI v]
def D9(sp:Value)(s:Shp)(x:Ice)(ch:Bool)(v:Int):Prop :=
 (c4q 6 0 yoi 1 (yob s) 2 (yoc s) 3 (yod s) 190 (yo9 s x v) (nI 0) (fk ((0:Int) != 0) ((.tuple #[.bool false,nI 0]:Value)=sp) ((yo3 s)/\(∀H':Heap,H'.length=6->(yo2 H' s)->ad prog 191 (yog x ch v) H' [] (Is (.bool (mkB s x ch v)) H'))/\(.tuple #[.bool (mkB s x ch v),nI 0]:Value)=sp)))
abbrev yo7(s:Shp)(x:Ice)(v:Int)(ch:Bool):List Value:=[.agg #[nI s.cls,nI s.pow,nI s.dra,nI s.ton,slQ 1 2 s.th.length,slQ 2 2 s.wa.length,slQ 3 2 s.ic.length,nI s.slow,nI s.aw,nI s.rdg,nI s.prs],.agg #[nI x.ap,nI x.ag,nI x.ai,nI x.ah],nI v,.bool ch]
abbrev yo4(s:Shp):List (Nat×aa):=[(0,.cells false 0 yo1),(1,.cells true 2 (s.th.flatMap ptC)),(2,.cells true 2 (s.wa.flatMap ptC)),(3,.cells true 2 (s.ic.flatMap ptC))]
abbrev yo6(s:Shp):List (Nat×aa):=[(0,.cells false 0 yo1),(4,.cells true 0 (yo0 s)),(1,.cells true 2 (s.th.flatMap ptC)),(2,.cells true 2 (s.wa.flatMap ptC)),(3,.cells true 2 (s.ic.flatMap ptC))]
theorem El(sp:Value)(s:Shp)(x:Ice)(ch:Bool)(v:Int):vF prog msk (dm 0) 100000 true 40 true 141 (yo7 s x v ch) (yo5 s) (some [])
 (.go 6 (.ans (yo4 s) (nI 0) [] (.go 2 (.fork (.auto) (.go 3 (.ans (yo6 s) (.bool (mkB s x ch v)) [] (.auto)))))))
 (fun v _ _=>v=sp)=D9 sp s x ch v:=by kernel_rfl
def D8(sp:Value)(s:Shp)(x:Ice)(ch:Bool):Prop :=
 (c4q 6 0 yoi 1 (yob s) 2 (yoc s) 3 (yod s) 190 [.agg #[nI s.cls,nI s.pow,nI s.dra,nI s.ton,slQ 1 2 s.th.length,slQ 2 2 s.wa.length,slQ 3 2 s.ic.length,nI s.slow,nI s.aw,nI s.rdg,nI s.prs],.agg #[nI x.ap,nI x.ag,nI x.ai,nI x.ah],nI 0] (nI 0) (fk ((0:Int) != 0) ((.tuple #[nI 0,nI 0]:Value)=sp) ((yo3 s)/\(∀H':Heap,H'.length=6->(yo2 H' s)->ad prog 181 [.agg #[pt 4,nI x.ap,nI x.ag,nI x.ai,nI x.ah,.bool ch]] H' [] (Is (nI (e9 s x ch)) H'))/\(.tuple #[nI (e9 s x ch),nI 0]:Value)=sp)))
abbrev yoa(s:Shp)(x:Ice)(ch:Bool):List Value:=[.agg #[nI s.cls,nI s.pow,nI s.dra,nI s.ton,slQ 1 2 s.th.length,slQ 2 2 s.wa.length,slQ 3 2 s.ic.length,nI s.slow,nI s.aw,nI s.rdg,nI s.prs],.agg #[nI x.ap,nI x.ag,nI x.ai,nI x.ah],.bool ch]
theorem Ek(sp:Value)(s:Shp)(x:Ice)(ch:Bool):vF prog msk (dm 0) 100000 true 40 true 142 (yoa s x ch) (yo5 s) (some [])
 (.go 5 (.ans (yo4 s) (nI 0) [] (.go 2 (.fork (.auto) (.go 2 (.ans (yo6 s) (nI (e9 s x ch)) [] (.auto)))))))
 (fun v _ _=>v=sp)=D8 sp s x ch:=by kernel_rfl
def B7(sp:Value)(s:Shp)(x:Ice)(ch:Bool)(v:Int):Prop :=
 (c3q 8 1 (yob s) 2 (yoc s) 3 (yod s) 134 [.agg #[nI s.cls,nI s.pow,nI s.dra,nI s.ton,slQ 1 2 s.th.length,slQ 2 2 s.wa.length,slQ 3 2 s.ic.length,nI s.slow,nI s.aw,nI s.rdg,nI s.prs],.agg #[nI x.ap,nI x.ap,nI x.ag,nI x.ag,nI x.ai,nI x.ai,nI x.ah,nI x.ah]] (nI 0) (fk ((0:Int) != 0) ((.tuple #[.bool false,.bool false,nI 0]:Value)=sp) (c0q 8 170 [nI v,nI 0,nI 250] (.bool (inB v 0 250)) (fk (!(inB v 0 250)) ((.tuple #[.bool false,.bool false,nI 6]:Value)=sp) ((yo3 s)/\(∀H':Heap,H'.length=13->(yo2 H' s)->ad prog 193 (yog x ch v) H' [] (Is (.bool (brB s x ch v)) H'))/\(fk (!(((x.ap:Int) == x.ap)&&(((x.ag:Int) == x.ag)&&(((x.ai:Int) == x.ai)&&(((x.ah:Int) == x.ah)&&true))))) ((yo3 s)/\(∀H':Heap,H'.length=14->(yo2 H' s)->ad prog 193 (yog x ch v) H' [] (Is (.bool (brB s x ch v)) H'))/\(fk (!(brB s x ch v)) ((.bool (!(brB s x ch v)):Value) = .bool true/\(.tuple #[.bool true,.bool (!(brB s x ch v)),nI 0]:Value)=sp) ((.bool (!(brB s x ch v)):Value) = .bool false/\(.tuple #[.bool (!(brB s x ch v)),.bool false,nI 0]:Value)=sp))) ((.tuple #[.bool (!(brB s x ch v)),.bool (!(brB s x ch v)),nI 0]:Value)=sp)))))))
abbrev yo8(s:Shp)(x:Ice)(v:Int)(ch:Bool):List Value:=[.agg #[nI s.cls,nI s.pow,nI s.dra,nI s.ton,slQ 1 2 s.th.length,slQ 2 2 s.wa.length,slQ 3 2 s.ic.length,nI s.slow,nI s.aw,nI s.rdg,nI s.prs],.agg #[nI x.ap,nI x.ap,nI x.ag,nI x.ag,nI x.ai,nI x.ai,nI x.ah,nI x.ah],nI v,.bool ch]
theorem Ck(sp:Value)(s:Shp)(x:Ice)(ch:Bool)(v:Int):vF prog msk (dm 0) 100000 true 40 true 143 (yo8 s x v ch) (yo5 s) (some [])
 (.go 8 (.ans (yof s) (nI 0) [] (.go 2 (.fork (.auto) (.go 0 (.ans [] (.bool (inB v 0 250)) [] (.go 0 (.fork (.auto) (.go 9 (.into (some [4,5,6,7,8,9,10]) (.go 18 (.into (some [11,4,5,6,7,8,9,10]) (.go 5 (.ans (yo6 s) (.bool (brB s x ch v)) [] (.go 50 (.fork (.go 18 (.into (some [11,4,5,6,7,8,9,10,12]) (.go 5 (.ans (yo6 s) (.bool (brB s x ch v)) [] (.go 3 (.aM (.go 2 (.slot 39 (.bool true) (.auto))) (.go 3 (.slot 39 (.bool false) (.auto))))))))) (.auto)))))))))))))))))
 (fun v _ _=>v=sp)=B7 sp s x ch v:=by kernel_rfl
def IU(sp:Value)(x:Ice):Prop :=
 (.agg #[nI x.ap,nI x.ap,nI x.ag,nI x.ag,nI x.ai,nI x.ai,nI x.ah,nI x.ah]:Value)=sp
theorem I4(sp:Value)(x:Ice):vF prog msk (dm 0) 100000 true 40 true 144 (yoe x) ⟨1,.leaf⟩ (some [])
 (.auto)
 (fun v _ _=>v=sp)=IU sp x:=by kernel_rfl
abbrev yoh(x:Ice):Value:=.agg #[nI x.ap,nI x.ap,nI x.ag,nI x.ag,nI x.ai,nI x.ai,nI x.ah,nI x.ah]
def D6(sp:Value)(s:Shp)(x:Ice)(ch:Bool)(v:Int):Prop :=
 (c4q 6 0 yoi 1 (yob s) 2 (yoc s) 3 (yod s) 141 (yo7 s x v ch) (.tuple #[.bool (mkB s x ch v),nI 0]) (c4q 6 0 yoi 1 (yob s) 2 (yoc s) 3 (yod s) 142 (yoa s x ch) (.tuple #[nI (e9 s x ch),nI 0]) (c0q 6 144 (yoe x) (yoh x) (c4q 6 0 yoi 1 (yob s) 2 (yoc s) 3 (yod s) 143 (yo8 s x v ch) (.tuple #[.bool (!(brB s x ch v)),.bool (!(brB s x ch v)),nI 0]) (fk ((0:Int) == 0) ((.bool ((0:Int) == 0):Value) = .bool true/\((.bool ((0:Int) == 0):Value) = .bool true/\(fk (mkB s x ch v) (fk (!(!(brB s x ch v))) ((.bool (decide ((10:Int)<=(e9 s x ch))):Value)=sp) ((.bool false:Value)=sp)) ((.bool false:Value)=sp)))) ((.bool false:Value)=sp))))))
theorem Eg(sp:Value)(s:Shp)(x:Ice)(ch:Bool)(v:Int):vF prog msk (dm 0) 100000 true 40 true 92 (yo7 s x v ch) (yo5 s) (some [])
 (.go 6 (.ans (yo4 s) (.tuple #[.bool (mkB s x ch v),nI 0]) [] (.go 7 (.ans (yo4 s) (.tuple #[nI (e9 s x ch),nI 0]) [] (.go 8 (.ans [] (yoh x) [] (.ans (yo4 s) (.tuple #[.bool (!(brB s x ch v)),.bool (!(brB s x ch v)),nI 0]) [] (.go 9 (.aM (.go 3 (.slot 47 (.bool true) (.go 3 (.slot 51 (.bool true) (.go 2 (.aM (.go 3 (.aM (.auto) (.auto))) (.auto))))))) (.auto))))))))))
 (fun v _ _=>v=sp)=D6 sp s x ch v:=by kernel_rfl
end
end Go.Proofs.YtmecpfikljhjaaaGreatDoor
namespace Go.Proofs.YtmecpfikljhjaaaGreatDoor
noncomputable section
attribute [local irreducible] vF
theorem Ic{x:Ice}(hx:f4 x){H:Heap}(hH:1<=H.length):ad prog 99 [oR x] H [] (Is (.int .i64 0) H):=by
 refine l9 40 (fun _=>rfl) rfl (Eq.mpr (I9 _ x) ?_) hH
 obtain ⟨h1,h2,h3,h4⟩:=hx
 exact ⟨trivial,fun H' hl _=>CW _ _ _ (by omega),eW (lV (aR.2 h1) ⟨trivial,fun H' hl _=>CW _ _ _ (by omega),eW (lV (aR.2 h2) ⟨trivial,fun H' hl _=>CW _ _ _ (by omega),eW (lV (aR.2 h3) ⟨trivial,fun H' hl _=>CW _ _ _ (by omega),eW (lV (aR.2 h4) rfl)⟩)⟩)⟩)⟩
theorem CV{x:Ice}(hx:f4 x){v:Int}(hv:0<=v/\v<=250){H:Heap}(hH:1<=H.length):ad prog 210 [oR x,.int .i64 v] H [] (Is (.int .i64 0) H):=by
 refine l9 40 (fun _=>rfl) rfl (Eq.mpr (Ei _ x v) ?_) hH
 exact ⟨trivial,fun H' hl _=>Ic hx (by omega),fun q=>absurd q (by decide),fun _=>⟨trivial,fun H' hl _=>jj _ _ _ (by omega),eW (lV (aR.2 hv) rfl)⟩⟩
abbrev IA(s:Shp):List aa:=[bC,.cells true 2 (s.th.flatMap ptC),.cells true 2 (s.wa.flatMap ptC),.cells true 2 (s.ic.flatMap ptC)]
theorem kH(s:Shp):(IA s).all (am 3)=true:=by
 show (am 3 bC&&(am 3 (.cells true 2 (s.th.flatMap ptC))&&(am 3 (.cells true 2 (s.wa.flatMap ptC))&&(am 3 (.cells true 2 (s.ic.flatMap ptC))&&true))))=true
 rw[fD,fD,fD];rfl
theorem Eu.objs{H:Heap}{s:Shp}{i j k:Nat}(a:Eu H s i j k):cR H (sgI [0,i,j,k]) [0,i,j,k] (IA s) :=
 ⟨a.2.1,by rw[cJ];exact a.2.2.1,by rw[cJ];exact a.2.2.2.1,by rw[cJ];exact a.2.2.2.2,trivial⟩
theorem H7(x:Ice){H:Heap}(hH:1<=H.length):ad prog 144 [oR x] H [] (Is (cellV ⟨⟨x.ap,x.ap⟩,⟨x.ag,x.ag⟩,⟨x.ai,x.ai⟩,⟨x.ah,x.ah⟩⟩) H) :=
 l9 40 (fun _=>rfl) rfl (Eq.mpr (I4 _ x) rfl) hH
section
variable {s:Shp} (hs:uG s) (e0:aU s=0) {x:Ice} (hx:f4 x) {ch:Bool} {H:Heap} {i j k:Nat} (a:Eu H s i j k)
include hs e0 hx a
theorem AY{v:Int}(hv:0<=v/\v<=250):ad prog 190 [sj s i j k,oR x,.int .i64 v] H [] (Is (.int .i64 0) H):=by
 refine gi (Eq.mpr (Hg _ s x v) ?_) (kH s) rfl rfl (fun _=>rfl) a.1 a.objs rfl rfl
 exact ⟨⟨rfl,rfl,rfl,trivial⟩,fun H' _ h=>by have:=qX s hs h.1 h.2.1 h.2.2.1;rw[e0]at this;exact this,fun q=>absurd q (by decide),fun _=>⟨trivial,fun H' hl _=>CV hx hv (by omega),rfl⟩⟩
theorem CY{v:Int}(hv:0<=v/\v<=250):ad prog 141 [sj s i j k,oR x,.int .i64 v,.bool ch] H [] (Is (.tuple #[.bool (mkB s x ch v),.int .i64 0]) H):=by
 refine gi (Eq.mpr (El _ s x ch v) ?_) (kH s) rfl rfl (fun _=>rfl) a.1 a.objs rfl rfl
 exact ⟨⟨rfl,rfl,rfl,rfl,trivial⟩,fun H' _ h=>AY hs e0 hx ⟨by decide,h.1,h.2.1,h.2.2.1,h.2.2.2.1⟩ hv,fun q=>absurd q (by decide),fun _=>⟨⟨rfl,rfl,rfl,rfl,rfl,trivial⟩,fun H' _ h=>nE (sk e0) hx hv ⟨by decide,h.1,h.2.1,h.2.2.1,h.2.2.2.1,h.2.2.2.2.1⟩,rfl⟩⟩
theorem CX:ad prog 142 [sj s i j k,oR x,.bool ch] H [] (Is (.tuple #[.int .i64 (e9 s x ch),.int .i64 0]) H):=by
 refine gi (Eq.mpr (Ek _ s x ch) ?_) (kH s) rfl rfl (fun _=>rfl) a.1 a.objs rfl rfl
 exact ⟨⟨rfl,rfl,rfl,rfl,trivial⟩,fun H' _ h=>AY hs e0 hx ⟨by decide,h.1,h.2.1,h.2.2.1,h.2.2.2.1⟩ (by decide),fun q=>absurd q (by decide),fun _=>⟨⟨rfl,rfl,rfl,rfl,rfl,trivial⟩,fun H' _ h=>AO (sk e0) hx ⟨by decide,h.1,h.2.1,h.2.2.1,h.2.2.2.1,h.2.2.2.2.1⟩,rfl⟩⟩
theorem AQ{v:Int}(hv:0<=v/\v<=250):ad prog 143 [sj s i j k,cellV ⟨⟨x.ap,x.ap⟩,⟨x.ag,x.ag⟩,⟨x.ai,x.ai⟩,⟨x.ah,x.ah⟩⟩,.int .i64 v,.bool ch] H [] (Is (.tuple #[.bool (!brB s x ch v),.bool (!brB s x ch v),.int .i64 0]) H):=by
 refine gi (Eq.mpr (Ck _ s x ch v) ?_) (kH s) rfl rfl (fun _=>rfl) a.1 a.objs rfl rfl
 have ec:aK ⟨⟨x.ap,x.ap⟩,⟨x.ag,x.ag⟩,⟨x.ai,x.ai⟩,⟨x.ah,x.ah⟩⟩=0:=by
  obtain ⟨h1,h2,h3,h4⟩:=hx
  exact dY.2 (by unfold bk cH;dsimp only;omega)
 refine ⟨⟨rfl,rfl,rfl,trivial⟩,fun H' _ h=>by have:=HY s hs ⟨⟨x.ap,x.ap⟩,⟨x.ag,x.ag⟩,⟨x.ai,x.ai⟩,⟨x.ah,x.ah⟩⟩ h.1 h.2.1 h.2.2.1;rw[e0,ec]at this;exact this,fun q=>absurd q (by decide),fun _=>⟨trivial,fun H' hl _=>jj _ _ _ (by omega),eW (lV (aR.2 hv) ?_)⟩⟩
 refine ⟨⟨rfl,rfl,rfl,rfl,rfl,trivial⟩,fun H' _ h=>vu (sk e0) hx hv ⟨by decide,h.1,h.2.1,h.2.2.1,h.2.2.2.1,h.2.2.2.2.1⟩,?_⟩
 refine ⟨fun q=>absurd q (by simp),fun _ =>?_⟩
 cases brB s x ch v <;> simp
theorem xl{v:Int}(hv:0<=v/\v<=250):ad prog 92 [sj s i j k,oR x,.int .i64 v,.bool ch] H [] (Is (.bool (uY s x ch v)) H):=by
 refine gi (Eq.mpr (Eg _ s x ch v) ?_) (kH s) rfl rfl (fun _=>rfl) a.1 a.objs rfl rfl
 refine ⟨⟨rfl,rfl,rfl,rfl,trivial⟩,fun H' _ h=>CY hs e0 hx ⟨by decide,h.1,h.2.1,h.2.2.1,h.2.2.2.1⟩ hv,⟨rfl,rfl,rfl,rfl,trivial⟩,fun H' _ h=>CX hs e0 hx ⟨by decide,h.1,h.2.1,h.2.2.1,h.2.2.2.1⟩,trivial,fun H' hl _=>H7 x (by omega),⟨rfl,rfl,rfl,rfl,trivial⟩,fun H' _ h=>AQ hs e0 hx ⟨by decide,h.1,h.2.1,h.2.2.1,h.2.2.2.1⟩ hv,?_⟩
 refine ⟨fun _=>⟨rfl,rfl,fun m=>⟨fun b=>bEq ?_,fun b=>bEq ?_⟩,fun m=>bEq ?_⟩,fun q=>absurd q (by decide)⟩ <;> (unfold uY;simp_all)
end
end
end Go.Proofs.YtmecpfikljhjaaaGreatDoor
namespace Go.Proofs.YtmecpfikljhjaaaGreatDoor
noncomputable section
attribute [local irreducible] vF
abbrev dIc(l:List Ice):Value:=.iface (l.length+1) (.agg ⟨l.flatMap ib⟩)
structure InC(c:Cell)(x:Ice):Prop where
 le:gQ x (bX c)
 ok:f4 x
structure ye(p:Pl)(F:List (List Ice)):Prop where
 n:F.length=p.cts.length
 row:∀h,h<F.length->(F.getD h []).length=p.land.length
 at_:∀h,h<F.length->∀i,i<p.land.length->InC ((p.cts.getD h zCh).cells.getD i az) ((F.getD h []).getD i cU)
theorem JD{s:Shp}{x:Ice}{ch:Bool}(h:¬ (goS s x ch).2=false):10<=(goS s x ch).1:=by
 unfold goS grG at *
 by_cases e:mbB s x ch 10=true
 ·rw[if_pos e];exact (iZ _ _ _ _ (by decide)).1
 ·rw[if_neg e]at h;exact absurd rfl h
theorem Jn{p:Pl}{c t:Int}(h:sfP p c t≠0):10<=sfP p c t:=by
 revert h
 unfold sfP sfX sfS
 intro h
 split at h
 ·rename_i e1
  rw[if_pos e1]
  split at h
  ·rename_i e2
   rw[if_pos e2]
   split at h
   ·exact absurd rfl h
   ·rename_i e3
    rw[if_neg e3]
    split at h
    ·exact absurd rfl h
    ·rename_i e4
     rw[if_neg e4];exact JD e4
  ·exact absurd rfl h
 ·exact absurd rfl h
theorem Fx{p:Pl}(o:bG p){v:Int}(hv:1<=v):1<=tkP p v:=by
 have:=o.size
 unfold tkP
 rw[Int.tdiv_eq_ediv_of_nonneg (by omega)]
 exact Int.le_ediv_of_mul_le (by omega) (by omega)
structure Stp(p:Pl)(c t:Int)(x:Leg):Prop where
 hc:0<=c/\c<(p.land.length:Int)
 ht:0<=t/\t<=x.dep/\x.dep<x.arr/\x.arr<=endP p
 hto:0<=x.to/\x.to<(p.land.length:Int)
 spd:10<=x.spd/\x.spd<=250
 wait:∀s:Int,t<=s->s<x.dep->10<=sfP p c (Int.tdiv s 6)
 go:∀s:Int,x.dep<=s->s<x.arr->x.spd<=sfP p x.to (Int.tdiv s 6)
theorem zJ{p:Pl}(o:bG p){c t:Int}{x:Leg}(hc:0<=c/\c<(p.land.length:Int))(ht:0<=t)(h:acE p c t x=0):Stp p c t x:=by
 obtain ⟨h1,h2,h3,h4⟩:=uz h
 obtain ⟨b1,b2,b3,b4,b5⟩:=fu.1 h1
 have b3:=aR.1 b3
 have tp:=Fx o (v:=x.spd) (by omega)
 refine ⟨hc,⟨ht,b2,by omega,h2⟩,(jX o hc (ru b1)).1,b3,fun s q1 q2 =>?_,fun s q1 q2 =>?_⟩
 ·unfold wtB l8 at h3
  have:=(List.all_eq_true.1 h3) (Int.toNat (s-t)) (List.mem_range.2 (by omega))
  rw[show t+((Int.toNat (s-t):Nat):Int)=s by omega]at this
  exact Jn (by simpa using this)
 ·unfold iJ at h4
  have:=(List.all_eq_true.1 h4) (Int.toNat (s-x.dep)) (List.mem_range.2 (by unfold lgN;omega))
  rw[Bool.not_eq_true',decide_eq_false_iff_not]at this
  unfold acD at this
  rw[show x.dep+((Int.toNat (s-x.dep):Nat):Int)=s by omega]at this
  omega
theorem kN{p:Pl}{l:List Leg}(h:cn p l=0):l.length<=300/\(∀k,k<l.length->acU p l k=0)/\acC p l l.length=p.to:=by
 unfold cn at h
 split at h
 ·cases h
 ·have:=eB h
  refine ⟨by omega,dX this.1,?_⟩
  have e:=this.2
  split at e
  ·assumption
  ·cases e
theorem zK{p:Pl}(o:bG p){l:List Leg}(h:cn p l=0):∀k,k<=l.length->(0<=acC p l k/\acC p l k<(p.land.length:Int))/\0<=acT l k
 |0,_=>⟨(gV o.frm).1,Int.le_refl _⟩
 |k+1,hk=>by
  have ih:=zK o h k (by omega)
  have s:=zJ o ih.1 ih.2 ((kN h).2.1 k (by omega))
  exact ⟨s.hto,by show 0<=(l.getD k zL).arr;have:=s.ht;omega⟩
theorem stp{p:Pl}(o:bG p){l:List Leg}(h:cn p l=0){k:Nat}(hk:k<l.length):Stp p (acC p l k) (acT l k) (l.getD k zL) :=
 have s:=zK o h k (by omega)
 zJ o s.1 s.2 ((kN h).2.1 k hk)
theorem Ag{p:Pl}{F:List (List Ice)}(f:ye p F){c s v:Int}(hc:0<=c/\c<(p.land.length:Int))(hs:0<=s/\s<endP p)(h1:10<=v)(h2:v<=sfP p c (Int.tdiv s 6)) :
  f4 ((F.getD (Int.toNat (Int.tdiv s 6)) []).getD (Int.toNat c) cU)/\uY p.shp ((F.getD (Int.toNat (Int.tdiv s 6)) []).getD (Int.toNat c) cU) (p.chan.getD (Int.toNat c) false) v=true:=by
 have hE:endP p=6*((p.cts.length:Nat):Int):=rfl
 have hn:=f.n
 have ht:Int.toNat (Int.tdiv s 6)<F.length:=by rw[Int.tdiv_eq_ediv_of_nonneg hs.1];omega
 have i:=f.at_ _ ht (Int.toNat c) (by omega)
 exact ⟨i.ok,FK i.le h1 h2⟩
abbrev yp0(L:List Int):Value:=.agg ⟨(L.flatMap bc)⟩
abbrev yp9(L:List Int)(n:Int)(c:Cell):=dN L n ((c.ap.hi-c.ap.lo)+1)
abbrev yp5(L:List Int)(n:Int):List Value:=[.iface (L.length+1) (yp0 L),nI (n+1)]
abbrev yp7(L:List Int)(n:Int)(c:Cell):=dN L (n+1) ((c.ag.hi-c.ag.lo)+1)
abbrev yp3(L:List Int)(n:Int):List Value:=[.iface (L.length+1) (yp0 L),nI ((n+1)+1)]
abbrev yp4(L:List Int)(n:Int)(c:Cell):=dN L ((n+1)+1) ((c.ai.hi-c.ai.lo)+1)
abbrev yp1(L:List Int)(n:Int):List Value:=[.iface (L.length+1) (yp0 L),nI (((n+1)+1)+1)]
abbrev yp2(L:List Int)(n:Int)(c:Cell):=dN L (((n+1)+1)+1) ((c.ah.hi-c.ah.lo)+1)
abbrev yp8(L:List Int)(n:Int):List Value:=[.iface (L.length+1) (yp0 L),nI ((((n+1)+1)+1)+1)]
def B0(L:List Int)(n:Int)(c:Cell):Prop :=
 (nw (c.ap.hi-c.ap.lo) (nw ((c.ap.hi-c.ap.lo)+1) (((ac (.cells true 0 [.iface (L.length+1) (yp0 L),nI n]))/\True)/\(∀H':Heap,H'.length=6->(H'[1]?=some (.cells true 0 [.iface (L.length+1) (yp0 L),nI n]:aa)/\True)->ad prog 89 [pt 1,nI ((c.ap.hi-c.ap.lo)+1)] H' [1] (Is (nI (yp9 L n c)) (List.set H' 1 (.cells true 0 (yp5 L n):aa))))/\(nw (c.ap.lo+(yp9 L n c)) (nw (c.ag.hi-c.ag.lo) (nw ((c.ag.hi-c.ag.lo)+1) (((ac (.cells true 0 (yp5 L n)))/\True)/\(∀H':Heap,H'.length=7->(H'[1]?=some (.cells true 0 (yp5 L n):aa)/\True)->ad prog 89 [pt 1,nI ((c.ag.hi-c.ag.lo)+1)] H' [1] (Is (nI (yp7 L n c)) (List.set H' 1 (.cells true 0 (yp3 L n):aa))))/\(nw (c.ag.lo+(yp7 L n c)) (nw (c.ai.hi-c.ai.lo) (nw ((c.ai.hi-c.ai.lo)+1) (((ac (.cells true 0 (yp3 L n)))/\True)/\(∀H':Heap,H'.length=8->(H'[1]?=some (.cells true 0 (yp3 L n):aa)/\True)->ad prog 89 [pt 1,nI ((c.ai.hi-c.ai.lo)+1)] H' [1] (Is (nI (yp4 L n c)) (List.set H' 1 (.cells true 0 (yp1 L n):aa))))/\(nw (c.ai.lo+(yp4 L n c)) (nw (c.ah.hi-c.ah.lo) (nw ((c.ah.hi-c.ah.lo)+1) (((ac (.cells true 0 (yp1 L n)))/\True)/\(∀H':Heap,H'.length=9->(H'[1]?=some (.cells true 0 (yp1 L n):aa)/\True)->ad prog 89 [pt 1,nI ((c.ah.hi-c.ah.lo)+1)] H' [1] (Is (nI (yp2 L n c)) (List.set H' 1 (.cells true 0 (yp8 L n):aa))))/\(nw (c.ah.lo+(yp2 L n c)) (∃x:Ice×Int,(InC c x.1/\n<=x.2/\x.2<=n+4)/\(true=true/\wk (.agg #[nI (c.ap.lo+(yp9 L n c)),nI (c.ag.lo+(yp7 L n c)),nI (c.ai.lo+(yp4 L n c)),nI (c.ah.lo+(yp2 L n c))]:Value) (rn (sg 2 []) 3 (.agg #[nI x.1.ap,nI x.1.ag,nI x.1.ai,nI x.1.ah]:Value))/\((kbq 2 (.cells true 0 (yp8 L n)) (.cells true 0 [.iface (L.length+1) (yp0 L),nI x.2]))/\True)/\(True)))))))))))))))))))
abbrev yp6(L:List Int)(n:Int):=aG [.cells false 0 [nI 4000,nI 8000,nI 14000,nI 24000,nI 40000,nI 90000],.cells true 0 [.iface (L.length+1) (yp0 L),nI n]]
theorem G3(L:List Int)(n:Int)(c:Cell):vF prog msk (dm 0) 100000 true 40 true 40 [pt 1,.agg #[nI c.ap.lo,nI c.ap.hi,nI c.ag.lo,nI c.ag.hi,nI c.ai.lo,nI c.ai.hi,nI c.ah.lo,nI c.ah.hi]] (yp6 L n) (some [1])
 (.go 16 (.into (some [1]) (.go 9 (.slot 11 (nI (c.ap.hi-c.ap.lo)) (.go 0 (.slot 12 (nI ((c.ap.hi-c.ap.lo)+1)) (.dw [(1,.cells true 0 [.iface (L.length+1) (yp0 L),nI n])] (nI (yp9 L n c)) [(1,.cells true 0 (yp5 L n))] [] (.go 0 (.slot 14 (nI (c.ap.lo+(yp9 L n c))) (.go 0 (.keep (.into (some [1]) (.go 9 (.slot 11 (nI (c.ag.hi-c.ag.lo)) (.go 0 (.slot 12 (nI ((c.ag.hi-c.ag.lo)+1)) (.dw [(1,.cells true 0 (yp5 L n))] (nI (yp7 L n c)) [(1,.cells true 0 (yp3 L n))] [] (.go 0 (.slot 14 (nI (c.ag.lo+(yp7 L n c))) (.go 0 (.keep (.into (some [1]) (.go 9 (.slot 11 (nI (c.ai.hi-c.ai.lo)) (.go 0 (.slot 12 (nI ((c.ai.hi-c.ai.lo)+1)) (.dw [(1,.cells true 0 (yp3 L n))] (nI (yp4 L n c)) [(1,.cells true 0 (yp1 L n))] [] (.go 0 (.slot 14 (nI (c.ai.lo+(yp4 L n c))) (.go 0 (.keep (.into (some [1]) (.go 9 (.slot 11 (nI (c.ah.hi-c.ah.lo)) (.go 0 (.slot 12 (nI ((c.ah.hi-c.ah.lo)+1)) (.dw [(1,.cells true 0 (yp1 L n))] (nI (yp2 L n c)) [(1,.cells true 0 (yp8 L n))] [] (.go 0 (.slot 14 (nI (c.ah.lo+(yp2 L n c))) (.go 0 (.keep (.go 1 (.keep (.again []))))))))))))))))))))))))))))))))))))))))))))
 (cK (α:=Ice×Int) ((yp6 L n):HT).n 3 [1] (fun x=>(InC c x.1/\n<=x.2/\x.2<=n+4)) (fun x => .agg #[nI x.1.ap,nI x.1.ag,nI x.1.ai,nI x.1.ah]) (fun x=>[(1,true,.cells true 0 [.iface (L.length+1) (yp0 L),nI x.2])]) (fun x=>[]))=B0 L n c:=by kernel_rfl
theorem HS{L:List Int}{n:Int}{c:Cell}(hc:bk c)(hn:0<=n/\n<=900000000){H:Heap}{D:Nat}(hD:D≠0)(h0:H[0]?=some bC)(h1:H[D]?=some (dgO L n)) :
  ad prog 40 [.pointer (some ⟨D,0,none⟩),cellV c] H [D] (fun y H2 => ∃x:Ice×Int,(InC c x.1/\n<=x.2/\x.2<=n+4)/\y=oR x.1/\H2=H.set D (dgO L x.2)):=by
 have key:=zD (α:=Ice×Int) (I:=fun x=>InC c x.1/\n<=x.2/\x.2<=n+4) (fun x _=>oR x.1) (d:=fun x=>x.2) (new:=fun _=>[]) (Eq.mpr (G3 L n c) ?_) (fun _ _=>rfl) (fun _ _=>trivial) hD (fun _ _ _=>rfl) h0 h1 (args':=[.pointer (some ⟨D,0,none⟩),cellV c]) rfl
 ·refine key.post ?_
  rintro y H2 ⟨x,hx,rfl,rfl⟩
  exact ⟨x,hx,rfl,List.append_nil _⟩
 delta B0 yp0 yp9 yp5 yp7 yp3 yp4 yp1 yp2 yp8 nI pt ac nw kbq
 obtain ⟨c1,c2,c3,c4⟩:=hc
 unfold cH at c1 c2 c3 c4
 have d1:=eK L n (m:=c.ap.hi-c.ap.lo+1) (by omega)
 have d2:=eK L (n+1) (m:=c.ag.hi-c.ag.lo+1) (by omega)
 have d3:=eK L (n+1+1) (m:=c.ai.hi-c.ai.lo+1) (by omega)
 have d4:=eK L (n+1+1+1) (m:=c.ah.hi-c.ah.lo+1) (by omega)
 refine ⟨ak (by omega),ak (by omega),⟨rfl,trivial⟩,fun H' hl h=>bq (by omega) (by omega) (by omega) h.1,ak (by omega),ak (by omega),ak (by omega),⟨rfl,trivial⟩,fun H' hl h=>bq (by omega) (by omega) (by omega) h.1,ak (by omega),ak (by omega),ak (by omega),⟨rfl,trivial⟩,fun H' hl h=>bq (by omega) (by omega) (by omega) h.1,ak (by omega),ak (by omega),ak (by omega),⟨rfl,trivial⟩,fun H' hl h=>bq (by omega) (by omega) (by omega) h.1,ak (by omega),?_⟩
 generalize dN L n (c.ap.hi-c.ap.lo+1)=a1 at *
 generalize dN L (n+1) (c.ag.hi-c.ag.lo+1)=a2 at *
 generalize dN L (n+1+1) (c.ai.hi-c.ai.lo+1)=a3 at *
 generalize dN L (n+1+1+1) (c.ah.hi-c.ah.lo+1)=a4 at *
 refine ⟨(⟨c.ap.lo+a1,c.ag.lo+a2,c.ai.lo+a3,c.ah.lo+a4⟩,n+1+1+1+1),⟨⟨⟨⟨by show 0<=c.ap.lo+a1;omega,by show c.ap.lo+a1<=c.ap.hi;omega⟩,⟨by show 0<=c.ag.lo+a2;omega,by show c.ag.lo+a2<=c.ag.hi;omega⟩,⟨by show 0<=c.ai.lo+a3;omega,by show c.ai.lo+a3<=c.ai.hi;omega⟩,⟨by show 0<=c.ah.lo+a4;omega,by show c.ah.lo+a4<=c.ah.hi;omega⟩⟩,by unfold f4;dsimp only;omega⟩,by show n<=n+1+1+1+1;omega,by show n+1+1+1+1<=n+4;omega⟩,?_⟩
 repeat' first|exact aZ _ _ _|exact trivial|exact ae _|refine ⟨rfl,?_⟩|apply And.intro
abbrev yq7:Prop:=(True)/\(True)/\(True)
abbrev yq4(l:List Leg)(x0:Nat):=l.getD x0 zL
abbrev yq9:Value:=.bool false
abbrev yqd(l:List Leg)(F:List (List Ice))(x0:Nat)(p:Pl):Prop:=eR (pt 9)/\wR (slQ 7 2 l.length)/\wR (slQ 8 2 F.length)/\eR (nI (acT l x0))/\eR (nI (acC p l x0))/\eR (nI (x0:Int))/\eR (pt 10)/\True
abbrev yq1(F:List (List Ice))(l:List Leg)(x0 x1:Nat):=F.getD (Int.tdiv (acT l x0+(x1:Int)) 6).toNat []
abbrev yq5(F:List (List Ice))(l:List Leg)(x0 x1:Nat)(p:Pl):Value:=.agg #[nI ((yq1 F l x0 x1).getD (acC p l x0).toNat cU).ap,nI ((yq1 F l x0 x1).getD (acC p l x0).toNat cU).ag,nI ((yq1 F l x0 x1).getD (acC p l x0).toNat cU).ai,nI ((yq1 F l x0 x1).getD (acC p l x0).toNat cU).ah]
abbrev yq3:List Value:=[nI 4000,nI 8000,nI 14000,nI 24000,nI 40000,nI 90000]
abbrev yqb(p:Pl)(F:List (List Ice))(l:List Leg)(x0 x1:Nat):=uY p.shp ((yq1 F l x0 x1).getD (acC p l x0).toNat cU) (p.chan.getD (acC p l x0).toNat false) 10
abbrev yqa(x0:Nat)(p:Pl)(l:List Leg)(F:List (List Ice))(x1:Nat):Prop:=eR (pt 10)/\eR (nI (x0:Int))/\eR (nI (acC p l x0))/\eR (nI (acT l x0))/\wR (slQ 8 2 F.length)/\wR (slQ 7 2 l.length)/\eR (pt 9)/\eR (nI (acT l x0+(x1:Int)))/\True
abbrev yq0(F:List (List Ice))(l:List Leg)(x0 x2:Nat):=F.getD (Int.tdiv ((yq4 l x0).dep+(x2:Int)) 6).toNat []
abbrev yq2(l:List Leg)(x0:Nat):=Int.toNat (yq4 l x0).to
abbrev yq8(F:List (List Ice))(l:List Leg)(x0 x2:Nat):Value:=.agg #[nI ((yq0 F l x0 x2).getD (yq2 l x0) cU).ap,nI ((yq0 F l x0 x2).getD (yq2 l x0) cU).ag,nI ((yq0 F l x0 x2).getD (yq2 l x0) cU).ai,nI ((yq0 F l x0 x2).getD (yq2 l x0) cU).ah]
abbrev yqc(p:Pl)(F:List (List Ice))(l:List Leg)(x0 x2:Nat):=uY p.shp ((yq0 F l x0 x2).getD (yq2 l x0) cU) (p.chan.getD (yq2 l x0) false) (yq4 l x0).spd
def uC(sp:Value)(p:Pl)(l:List Leg)(F:List (List Ice)):Prop :=
 (lq (0<=List.length l) (true=true/\((nI 0:Value)=nI ((0:Nat):Int)/\(nI p.frm:Value)=nI (acC p l 0)/\(nI 0:Value)=nI (acT l 0)/\wR (slQ 8 2 F.length)/\wR (slQ 7 2 l.length)/\eR (pt 9)/\True)/\yq7) (∀x0:Nat,(x0<=List.length l)->(fk (decide (((x0:Int):Int)<((l.length:Nat):Int))) ((ixq (x0:Int) l.length)/\((cN 4 (l.flatMap lgC) (0+Int.toNat (x0:Int)*4)=some (.agg #[nI (yq4 l x0).to,nI (yq4 l x0).dep,nI (yq4 l x0).spd,nI (yq4 l x0).arr]))/\(fk (decide (((yq4 l x0).to:Int)<0)) (yq9=sp) (fk (decide ((((p.chan.length:Nat):Int):Int)<=(yq4 l x0).to)) (yq9=sp) (fk (decide (((yq4 l x0).dep:Int)<(acT l x0))) (yq9=sp) (fk (decide (((yq4 l x0).arr:Int)<=(yq4 l x0).dep)) (yq9=sp) (nw (6*((F.length:Nat):Int)) (fk (decide (((6*((F.length:Nat):Int)):Int)<(yq4 l x0).arr)) (yq9=sp) (lq (0<=Int.toNat ((yq4 l x0).dep-acT l x0)) (true=true/\((nI (acT l x0):Value)=nI (acT l x0+((0:Nat):Int))/\yqd l F x0 p)/\yq7) (∀x1:Nat,(x1<=Int.toNat ((yq4 l x0).dep-acT l x0))->(fk (decide (((acT l x0+(x1:Int)):Int)<(yq4 l x0).dep)) (nw (Int.tdiv (acT l x0+(x1:Int)) 6) ((ixq (Int.tdiv (acT l x0+(x1:Int)) 6) F.length)/\(((List.map dIc F)[(0+Int.toNat (Int.tdiv (acT l x0+(x1:Int)) 6)*1)]?=some (.iface ((yq1 F l x0 x1).length+1) (.agg ⟨((yq1 F l x0 x1).flatMap ib)⟩)))/\((ixq (acC p l x0) (yq1 F l x0 x1).length)/\((cN 4 ((yq1 F l x0 x1).flatMap ib) (Int.toNat (acC p l x0)*4)=some (yq5 F l x0 x1 p))/\((ixq (acC p l x0) p.chan.length)/\(((p.chan.flatMap af)[(0+Int.toNat (acC p l x0)*1)]?=some (.bool (p.chan.getD (acC p l x0).toNat false)))/\(c4q 11 0 (.cells false 0 yq3) 4 (.cells true 2 (p.shp.th.flatMap ptC)) 5 (.cells true 2 (p.shp.wa.flatMap ptC)) 6 (.cells true 2 (p.shp.ic.flatMap ptC)) 92 [.agg #[nI p.shp.cls,nI p.shp.pow,nI p.shp.dra,nI p.shp.ton,slQ 4 2 p.shp.th.length,slQ 5 2 p.shp.wa.length,slQ 6 2 p.shp.ic.length,nI p.shp.slow,nI p.shp.aw,nI p.shp.rdg,nI p.shp.prs],.agg #[nI ((yq1 F l x0 x1).getD (acC p l x0).toNat cU).ap,nI ((yq1 F l x0 x1).getD (acC p l x0).toNat cU).ag,nI ((yq1 F l x0 x1).getD (acC p l x0).toNat cU).ai,nI ((yq1 F l x0 x1).getD (acC p l x0).toNat cU).ah],nI 10,.bool (p.chan.getD (acC p l x0).toNat false)] (.bool (yqb p F l x0 x1)) (fk (!(yqb p F l x0 x1)) (yq9=sp) (nw ((acT l x0+(x1:Int))+1) (∃x1':Nat,(x1'<=Int.toNat ((yq4 l x0).dep-acT l x0))/\(Int.toNat ((yq4 l x0).dep-acT l x0)-x1')<(Int.toNat ((yq4 l x0).dep-acT l x0)-x1)/\true=true/\((nI ((acT l x0+(x1:Int))+1):Value)=nI (acT l x0+(x1':Int))/\yqd l F x0 p)/\yq7))))))))))) (lq (0<=Int.toNat ((yq4 l x0).arr-(yq4 l x0).dep)) (true=true/\((nI (yq4 l x0).dep:Value)=nI ((yq4 l x0).dep+((0:Nat):Int))/\yqa x0 p l F x1)/\yq7) (∀x2:Nat,(x2<=Int.toNat ((yq4 l x0).arr-(yq4 l x0).dep))->(fk (decide ((((yq4 l x0).dep+(x2:Int)):Int)<(yq4 l x0).arr)) (nw (Int.tdiv ((yq4 l x0).dep+(x2:Int)) 6) ((ixq (Int.tdiv ((yq4 l x0).dep+(x2:Int)) 6) F.length)/\(((List.map dIc F)[(0+Int.toNat (Int.tdiv ((yq4 l x0).dep+(x2:Int)) 6)*1)]?=some (.iface ((yq0 F l x0 x2).length+1) (.agg ⟨((yq0 F l x0 x2).flatMap ib)⟩)))/\((ixq ((yq4 l x0).to) (yq0 F l x0 x2).length)/\((cN 4 ((yq0 F l x0 x2).flatMap ib) (Int.toNat (yq4 l x0).to*4)=some (yq8 F l x0 x2))/\((ixq ((yq4 l x0).to) p.chan.length)/\(((p.chan.flatMap af)[(0+Int.toNat (yq4 l x0).to*1)]?=some (.bool (p.chan.getD (yq2 l x0) false)))/\(c4q 11 0 (.cells false 0 yq3) 4 (.cells true 2 (p.shp.th.flatMap ptC)) 5 (.cells true 2 (p.shp.wa.flatMap ptC)) 6 (.cells true 2 (p.shp.ic.flatMap ptC)) 92 [.agg #[nI p.shp.cls,nI p.shp.pow,nI p.shp.dra,nI p.shp.ton,slQ 4 2 p.shp.th.length,slQ 5 2 p.shp.wa.length,slQ 6 2 p.shp.ic.length,nI p.shp.slow,nI p.shp.aw,nI p.shp.rdg,nI p.shp.prs],.agg #[nI ((yq0 F l x0 x2).getD (yq2 l x0) cU).ap,nI ((yq0 F l x0 x2).getD (yq2 l x0) cU).ag,nI ((yq0 F l x0 x2).getD (yq2 l x0) cU).ai,nI ((yq0 F l x0 x2).getD (yq2 l x0) cU).ah],nI (yq4 l x0).spd,.bool (p.chan.getD (yq2 l x0) false)] (.bool (yqc p F l x0 x2)) (fk (!(yqc p F l x0 x2)) (yq9=sp) (nw (((yq4 l x0).dep+(x2:Int))+1) (∃x2':Nat,(x2'<=Int.toNat ((yq4 l x0).arr-(yq4 l x0).dep))/\(Int.toNat ((yq4 l x0).arr-(yq4 l x0).dep)-x2')<(Int.toNat ((yq4 l x0).arr-(yq4 l x0).dep)-x2)/\true=true/\((nI (((yq4 l x0).dep+(x2:Int))+1):Value)=nI ((yq4 l x0).dep+(x2':Int))/\yqa x0 p l F x1)/\yq7))))))))))) (nw ((x0:Int)+1) (∃x0':Nat,(x0'<=List.length l)/\(List.length l-x0')<(List.length l-x0)/\true=true/\((nI ((x0:Int)+1):Value)=nI (x0':Int)/\(nI (yq4 l x0).to:Value)=nI (acC p l x0')/\(nI (yq4 l x0).arr:Value)=nI (acT l x0')/\wR (slQ 8 2 F.length)/\wR (slQ 7 2 l.length)/\eR (pt 9)/\True)/\yq7)))))))))))))))) ((.bool (((acC p l x0):Int) == p.to):Value)=sp))))
abbrev yq6(p:Pl):List (Nat×aa):=[(0,.cells false 0 yq3),(4,.cells true 2 (p.shp.th.flatMap ptC)),(5,.cells true 2 (p.shp.wa.flatMap ptC)),(6,.cells true 2 (p.shp.ic.flatMap ptC))]
theorem Cl(sp:Value)(p:Pl)(l:List Leg)(F:List (List Ice)):vF prog msk (dm 0) 100000 true 40 true 41 [.agg #[nI p.w,nI p.h,slQ 1 2 p.land.length,slQ 2 2 p.cts.length,slQ 3 2 p.chan.length,nI p.shp.cls,nI p.shp.pow,nI p.shp.dra,nI p.shp.ton,slQ 4 2 p.shp.th.length,slQ 5 2 p.shp.wa.length,slQ 6 2 p.shp.ic.length,nI p.shp.slow,nI p.shp.aw,nI p.shp.rdg,nI p.shp.prs,nI p.size,nI p.frm,nI p.to],slQ 7 2 l.length,slQ 8 2 F.length] (aG [.cells false 0 yq3,.cells true 1 (p.land.flatMap af),.cells false 0 (p.cts.flatMap chC),.cells true 1 (p.chan.flatMap af),.cells true 2 (p.shp.th.flatMap ptC),.cells true 2 (p.shp.wa.flatMap ptC),.cells true 2 (p.shp.ic.flatMap ptC),.cells true 4 (l.flatMap lgC),.cells true 1 (List.map dIc F)]) (some [])
 (.go 6 (.inv 3 (Nat) (0) [] [] (fun x0=>[(9,nI (x0:Int)),(7,nI (acC p l x0)),(8,nI (acT l x0)),(2,slQ 8 2 F.length),(1,slQ 7 2 l.length),(3,pt 9)]) (fun x0=>[]) (fun x0=>[]) (fun x0=>[]) (fun x0=>(x0<=List.length l)) (fun x0=>(List.length l-x0)) (fun x0 => .go 3 (.fork (.go 1 (.need (.val (.agg #[nI (yq4 l x0).to,nI (yq4 l x0).dep,nI (yq4 l x0).spd,nI (yq4 l x0).arr]) (.go 5 (.aM (.auto) (.go 7 (.aM (.auto) (.go 5 (.aM (.auto) (.go 6 (.aM (.auto) (.go 4 (.slot 54 (nI (6*((F.length:Nat):Int))) (.go 1 (.fork (.auto) (.go 1 (.inv 3 (Nat) (0) [] [] (fun x1=>[(11,nI (acT l x0+(x1:Int))),(3,pt 9),(1,slQ 7 2 l.length),(2,slQ 8 2 F.length),(8,nI (acT l x0)),(7,nI (acC p l x0)),(9,nI (x0:Int)),(10,pt 10)]) (fun x1=>[]) (fun x1=>[]) (fun x1=>[]) (fun x1=>(x1<=Int.toNat ((yq4 l x0).dep-acT l x0))) (fun x1=>(Int.toNat ((yq4 l x0).dep-acT l x0)-x1)) (fun x1 => .go 3 (.fork (.go 4 (.slot 68 (nI (Int.tdiv (acT l x0+(x1:Int)) 6)) (.need (.val (.iface ((yq1 F l x0 x1).length+1) (.agg ⟨((yq1 F l x0 x1).flatMap ib)⟩)) (.go 0 (.need (.val (yq5 F l x0 x1 p) (.go 2 (.need (.val (.bool (p.chan.getD (acC p l x0).toNat false)) (.ans (yq6 p) (.bool (yqb p F l x0 x1)) [] (.go 0 (.fork (.auto) (.go 1 (.slot 63 (nI ((acT l x0+(x1:Int))+1)) (.go 0 (.again []))))))))))))))))) (.go 2 (.inv 3 (Nat) (0) [] [] (fun x2=>[(12,nI ((yq4 l x0).dep+(x2:Int))),(10,pt 10),(9,nI (x0:Int)),(7,nI (acC p l x0)),(8,nI (acT l x0)),(2,slQ 8 2 F.length),(1,slQ 7 2 l.length),(3,pt 9),(11,nI (acT l x0+(x1:Int)))]) (fun x2=>[]) (fun x2=>[]) (fun x2=>[]) (fun x2=>(x2<=Int.toNat ((yq4 l x0).arr-(yq4 l x0).dep))) (fun x2=>(Int.toNat ((yq4 l x0).arr-(yq4 l x0).dep)-x2)) (fun x2 => .go 3 (.fork (.go 4 (.slot 93 (nI (Int.tdiv ((yq4 l x0).dep+(x2:Int)) 6)) (.need (.val (.iface ((yq0 F l x0 x2).length+1) (.agg ⟨((yq0 F l x0 x2).flatMap ib)⟩)) (.go 1 (.need (.val (yq8 F l x0 x2) (.go 5 (.need (.val (.bool (p.chan.getD (yq2 l x0) false)) (.ans (yq6 p) (.bool (yqc p F l x0 x2)) [] (.go 0 (.fork (.auto) (.go 1 (.slot 88 (nI (((yq4 l x0).dep+(x2:Int))+1)) (.go 0 (.again []))))))))))))))))) (.go 7 (.slot 20 (nI ((x0:Int)+1)) (.go 0 (.again []))))))))))))))))))))))))))) (.auto)))))
 (fun v _ _=>v=sp)=uC sp p l F:=by kernel_rfl
theorem nJ(x:Ice):(ib x).length=4:=rfl
theorem wZ{xs:List Ice}{x off:Nat}(h:x<xs.length)(ho:off=x*4):cN 4 (xs.flatMap ib) off=some (.agg ⟨ib (xs.getD x cU)⟩):=jc (n:=4) (d:=cU) (c:=0) (m:=4) nJ h (by omega) (by omega)
theorem qy(n:Nat)(F:List (List Ice)):(F.map dIc).all (ao n)=true:=by
 rw[List.all_eq_true]
 intro v hv
 obtain ⟨r,_,rfl⟩:=List.mem_map.1 hv
 show ((r.flatMap ib).all (b7 n))=true
 rw[List.all_eq_true]
 intro v hv
 obtain ⟨b,_,hb⟩:=List.mem_flatMap.1 hv
 simp only[ib,List.mem_cons,List.not_mem_nil,or_false]at hb
 rcases hb with h|h|h|h <;> (subst h;rfl)
theorem Af(n:Nat)(l:List Ice):(l.flatMap ib).all (ao n)=true:=cQ (fun _=>rfl) l
theorem Iy{R:List (List Ice)}{k off:Nat}(h:k<R.length)(ho:off=k):(R.map dIc)[off]?=some (dIc (R.getD k [])):=by
 subst ho
 rw[List.getElem?_map,List.getD_eq_getElem?_getD,List.getElem?_eq_getElem h];rfl
theorem AU{p:Pl}(e0:bO p=0){l:List Leg}(ha:cn p l=0){F:List (List Ice)}(f:ye p F){H:Heap}{l' c n t w i B D:Nat}(a:gJ H p l' c n t w i)(hnd:[0,l',c,n,t,w,i,B,D].Nodup)
  (h1:H[B]?=some (.cells true 4 (l.flatMap lgC))) (h2:H[D]?=some (.cells true 1 (F.map dIc))) :
  ad prog 41 [plV p l' c n t w i,slR B l.length,slR D F.length] H [] (Is (.bool true) H):=by
 have o:=kj e0
 have i1:am 3 (.cells true 4 (l.flatMap lgC))=true:=(ed (σ:=fun _=>none) (d:=0) (bu 0 l)).2
 have i2:∀σ,rno σ 3 (.cells true 4 (l.flatMap lgC)) = .cells true 4 (l.flatMap lgC):=fun σ=>congrArg (aa.cells true 4) (ed (d:=0) (bu 0 l)).1
 have i3:am 3 (.cells true 1 (F.map dIc))=true:=(ed (σ:=fun _=>none) (d:=0) (qy 0 F)).2
 have i4:∀σ,rno σ 3 (.cells true 1 (F.map dIc)) = .cells true 1 (F.map dIc):=fun σ=>congrArg (aa.cells true 1) (ed (d:=0) (qy 0 F)).1
 have hi:cR H (sgI [0,l',c,n,t,w,i,B,D]) [0,l',c,n,t,w,i,B,D] (pOs p ++ [.cells true 4 (l.flatMap lgC),.cells true 1 (F.map dIc)]):=by
  obtain ⟨_,a0,a1,a2,a3,a4,a5,a6⟩:=a
  exact ⟨a0,by rw[dB];exact a1,by rw[nX];exact a2,by rw[dB];exact a3,by rw[cJ];exact a4,by rw[cJ];exact a5,by rw[cJ];exact a6,by rw[i2];exact h1,by rw[i4];exact h2,trivial⟩
 refine gi (os:=pOs p ++ [.cells true 4 (l.flatMap lgC),.cells true 1 (F.map dIc)]) (Eq.mpr (Cl _ p l F) ?_) (by rw[List.all_append,kY];show (true&&(am 3 (.cells true 4 (l.flatMap lgC))&&(am 3 (.cells true 1 (F.map dIc))&&true)))=true;rw[i1,i3];rfl) rfl rfl (fun _=>rfl) hnd hi rfl rfl
 have he:=dG o
 have hE:endP p=6*((p.cts.length:Nat):Int):=rfl
 have hFn:=f.n
 have hch:=o.chan
 have hac:=kN ha
 delta uC yq7 yq4 yq9 yqd yq1 yq5 yq3 yqb yqa yq0 yq8 yq2 yqc nI slQ pt fk nw eR wR ixq lq c4q
 refine ⟨rfl,Nat.zero_le _,?_,fun _=>rfl,fun k hk =>?_⟩
 ·repeat' first|exact trivial|exact ae _|refine ⟨rfl,?_⟩|refine ⟨trivial,?_⟩|apply And.intro
 refine eJ (fun g =>?_) (fun g =>?_)
 ·have s:=stp o ha (k:=k) (by omega)
  have s1:=s.hc;have s2:=s.ht;have s3:=s.hto;have s4:=s.spd
  refine ⟨⟨by omega,by omega⟩,qA (by omega) (by omega),eJ (fun q=>by omega) (fun _=>eJ (fun q=>by omega) (fun _=>eJ (fun q=>by omega) (fun _=>eJ (fun q=>by omega) (fun _=>⟨ak (by omega),eJ (fun q=>by omega) (fun _ =>?_)⟩))))⟩
  refine ⟨rfl,Nat.zero_le _,?_,fun _=>rfl,fun j hj =>?_⟩
  ·repeat' first|exact trivial|exact ae _|refine ⟨rfl,?_⟩|refine ⟨trivial,?_⟩|apply And.intro|(exact iEq (by omega))
  refine eJ (fun g2 =>?_) (fun g2 =>?_)
  ·have hs:0<=acT l k+(j:Int)/\acT l k+(j:Int)<endP p:=⟨by omega,by omega⟩
   have P:=Ag f s1 hs (v:=10) (by decide) (s.wait _ (by omega) (by omega))
   have te:Int.tdiv (acT l k+(j:Int)) 6=(acT l k+(j:Int)) / 6:=Int.tdiv_eq_ediv_of_nonneg hs.1
   have tl:Int.toNat (Int.tdiv (acT l k+(j:Int)) 6)<F.length:=by rw[te];omega
   have tb:0<=Int.tdiv (acT l k+(j:Int)) 6/\Int.tdiv (acT l k+(j:Int)) 6<(F.length:Int):=by rw[te];omega
   have rl:=f.row _ tl
   generalize Int.tdiv (acT l k+(j:Int)) 6=T at *
   refine ⟨ak (by omega),tb,Iy tl (by omega),⟨by omega,by rw[rl];omega⟩,wZ (by rw[rl];omega) rfl,⟨by omega,by omega⟩,eQ (by omega) (by omega),⟨rfl,rfl,rfl,rfl,trivial⟩,fun H' hn h=>xl o.lst.shp o.shp P.1 ⟨by decide,h.1,h.2.1,h.2.2.1,h.2.2.2.1⟩ ⟨by omega,by omega⟩,eW (lV P.2 ⟨ak (by omega),j+1,by omega,by omega,?_⟩)⟩
   repeat' first|(exact iEq (by omega))|exact trivial|exact ae _|refine ⟨rfl,?_⟩|refine ⟨trivial,?_⟩|apply And.intro
  ·refine ⟨rfl,Nat.zero_le _,?_,fun _=>rfl,fun j2 hj2 =>?_⟩
   ·repeat' first|(exact iEq (by omega))|exact trivial|exact ae _|refine ⟨rfl,?_⟩|refine ⟨trivial,?_⟩|apply And.intro
   refine eJ (fun g3 =>?_) (fun g3 =>?_)
   ·have hs:0<=(l.getD k zL).dep+(j2:Int)/\(l.getD k zL).dep+(j2:Int)<endP p:=⟨by omega,by omega⟩
    have P:=Ag f s3 hs (v:=(l.getD k zL).spd) s4.1 (s.go _ (by omega) (by omega))
    have te:Int.tdiv ((l.getD k zL).dep+(j2:Int)) 6=((l.getD k zL).dep+(j2:Int)) / 6:=Int.tdiv_eq_ediv_of_nonneg hs.1
    have tl:Int.toNat (Int.tdiv ((l.getD k zL).dep+(j2:Int)) 6)<F.length:=by rw[te];omega
    have tb:0<=Int.tdiv ((l.getD k zL).dep+(j2:Int)) 6/\Int.tdiv ((l.getD k zL).dep+(j2:Int)) 6<(F.length:Int):=by rw[te];omega
    have rl:=f.row _ tl
    generalize Int.tdiv ((l.getD k zL).dep+(j2:Int)) 6=T at *
    refine ⟨ak (by omega),tb,Iy tl (by omega),⟨by omega,by rw[rl];omega⟩,wZ (by rw[rl];omega) rfl,⟨by omega,by omega⟩,eQ (by omega) (by omega),⟨rfl,rfl,rfl,rfl,trivial⟩,fun H' hn h=>xl o.lst.shp o.shp P.1 ⟨by decide,h.1,h.2.1,h.2.2.1,h.2.2.2.1⟩ ⟨by omega,by omega⟩,eW (lV P.2 ⟨ak (by omega),j2+1,by omega,by omega,?_⟩)⟩
    repeat' first|(exact iEq (by omega))|exact trivial|exact ae _|refine ⟨rfl,?_⟩|refine ⟨trivial,?_⟩|apply And.intro
   ·refine ⟨ak (by omega),k+1,by omega,by omega,?_⟩
    repeat' first|exact trivial|exact ae _|refine ⟨rfl,?_⟩|refine ⟨trivial,?_⟩|apply And.intro
 ·obtain rfl:k=l.length:=by omega
  rw[hac.2.2]
  exact bEq (by simp)
structure ip(p:Pl)(h:Nat)(r:List Ice)(k:Nat):Prop where
 n:r.length=k
 at_:∀i,i<k->InC ((p.cts.getD h zCh).cells.getD i az) (r.getD i cU)
structure iq(p:Pl)(F:List (List Ice))(k:Nat):Prop where
 n:F.length=k
 row:∀h,h<k->ip p h (F.getD h []) (p.cts.getD h zCh).cells.length
theorem ip.start(p:Pl)(h:Nat):ip p h [] 0:=⟨rfl,fun i hi=>absurd hi (Nat.not_lt_zero i)⟩
theorem pP{α:Type}{l:List α}{x d:α}{i:Nat}(h:i<l.length):(l ++ [x]).getD i d=l.getD i d:=by
 rw[List.getD_eq_getElem?_getD,List.getElem?_append_left h,<- List.getD_eq_getElem?_getD]
theorem pQ{α:Type}{l:List α}{x d:α}:(l ++ [x]).getD l.length d=x:=by
 rw[List.getD_eq_getElem?_getD,List.getElem?_append_right (Nat.le_refl _),Nat.sub_self];rfl
theorem ip.more{p:Pl}{h:Nat}{r:List Ice}{k:Nat}(o:ip p h r k){x:Ice}(hx:InC ((p.cts.getD h zCh).cells.getD k az) x):ip p h (r ++ [x]) (k+1):=by
 have n:=o.n
 refine ⟨by rw[List.length_append,n];rfl,fun i hi =>?_⟩
 by_cases e:i<k
 ·rw[pP (by omega)];exact o.at_ i e
 ·obtain rfl:i=k:=by omega
  have g:(r ++ [x]).getD i cU=x:=by rw[<- n];exact pQ
  rw[g];exact hx
theorem iq.start(p:Pl):iq p [] 0:=⟨rfl,fun i hi=>absurd hi (Nat.not_lt_zero i)⟩
theorem iq.more{p:Pl}{F:List (List Ice)}{k:Nat}(o:iq p F k){r:List Ice}(hr:ip p k r (p.cts.getD k zCh).cells.length):iq p (F ++ [r]) (k+1):=by
 have n:=o.n
 refine ⟨by rw[List.length_append,n];rfl,fun i hi =>?_⟩
 by_cases e:i<k
 ·rw[pP (by omega)];exact o.row i e
 ·obtain rfl:i=k:=by omega
  have g:(F ++ [r]).getD i []=r:=by rw[<- n];exact pQ
  rw[g];exact hr
theorem iq.ok{p:Pl}(o:bG p){F:List (List Ice)}(f:iq p F p.cts.length):ye p F:=by
 refine ⟨f.n,fun h hh =>?_,fun h hh i hi =>?_⟩
 ·have c:=o.pW (i:=h) (by have:=f.n;omega)
  exact (f.row h (by have:=f.n;omega)).n.trans c.len
 ·have c:=o.pW (i:=h) (by have:=f.n;omega)
  exact (f.row h (by have:=f.n;omega)).at_ i (by rw[c.len];exact hi)
theorem DZ{p:Pl}{l:List Leg}(h:cn p l=0):0<=dI p l/\dI p l<=250:=by
 have ha:=kN h
 unfold dI
 rw[if_pos h]
 have key:∀k,k<=l.length->0<=acM p l k/\acM p l k<=250:=by
  intro k
  induction k with
  |zero=>intro _;exact ⟨by show (0:Int)<=250;decide,Int.le_refl _⟩
  |succ k ih =>
   intro hk
   have i:=ih (by omega)
   have g:=(uz (ha.2.1 k (by omega))).2.2.2
   show 0<=hJ p (l.getD k zL) (acM p l k) (lgN (l.getD k zL))/\hJ p (l.getD k zL) (acM p l k) (lgN (l.getD k zL))<=250
   unfold iJ at g
   have g:=List.all_eq_true.1 g
   have m:∀j,j<=lgN (l.getD k zL)->0<=hJ p (l.getD k zL) (acM p l k) j/\hJ p (l.getD k zL) (acM p l k) j<=250:=by
    intro j
    induction j with
    |zero=>intro _;exact i
    |succ j ihj =>
     intro hj
     have q:=ihj (by omega)
     have d:=g j (List.mem_range.2 (by omega))
     rw[Bool.not_eq_true',decide_eq_false_iff_not]at d
     show 0<=(if acD p (l.getD k zL) j<hJ p (l.getD k zL) (acM p l k) j then acD p (l.getD k zL) j else hJ p (l.getD k zL) (acM p l k) j)/\(if acD p (l.getD k zL) j<hJ p (l.getD k zL) (acM p l k) j then acD p (l.getD k zL) j else hJ p (l.getD k zL) (acM p l k) j)<=250
     split <;> omega
   exact m _ (Nat.le_refl _)
 exact key _ (Nat.le_refl _)
end
end Go.Proofs.YtmecpfikljhjaaaGreatDoor
