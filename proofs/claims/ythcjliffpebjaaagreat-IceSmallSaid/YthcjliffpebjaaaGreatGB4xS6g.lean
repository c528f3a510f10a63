/- Ice: reports in conflict: which sets agree, and the greatest ones. No condition. -/
import Derived.Test.YthcjliffpebjaaaGreatGP5xB3
import Derived.Test.YthcjliffpebjaaaGreatGS4gxP1a
import Derived.Test.YthcjliffpebjaaaGreatGX0xS4a
open Go Go.K
set_option maxRecDepth 1000000
set_option maxHeartbeats 4000000
set_option linter.unusedVariables false
set_option linter.unusedSimpArgs false
namespace Go.Proofs.YthcjliffpebjaaaGreat
noncomputable section
attribute [local irreducible] vF dt
def sp(c:Cell):Nat->Span
 |0=>c.ae
 |1=>c.ab
 |2=>c.aa
 |_=>c.ac
theorem Ji(c:Cell):okC c ↔ ∀d,(sp c d).lo<=(sp c d).hi:=by
 constructor
 ·rintro ⟨h0,h1,h2,h3⟩ d
  match d with
  |0=>exact h0
  |1=>exact h1
  |2=>exact h2
  |_+3=>exact h3
 ·intro h;exact ⟨h 0,h 1,h 2,h 3⟩
theorem mE(a b:Cell)(d:Nat):sp (bK a b) d=fS (sp a d) (sp b d):=by
 match d with
 |0=>rfl
 |1=>rfl
 |2=>rfl
 |_+3=>rfl
theorem pa{c:Cell}(h:cw c)(d:Nat):(sp aO d).lo<=(sp c d).lo/\(sp c d).lo<=(sp c d).hi/\(sp c d).hi<=(sp aO d).hi:=by
 obtain ⟨⟨a1,a2,a3,a4⟩,⟨b1,b2,b3,b4⟩,⟨c1,c2,c3,c4⟩,⟨d1,d2,d3,d4⟩⟩:=h
 match d with
 |0=>exact ⟨a1,a3,a4⟩
 |1=>exact ⟨b1,b3,b4⟩
 |2=>exact ⟨c1,c3,c4⟩
 |_+3=>exact ⟨d1,d3,d4⟩
theorem okM{a b:Cell}:okC (bK a b) ↔ ∀d,max (sp a d).lo (sp b d).lo<=min (sp a d).hi (sp b d).hi:=by
 rw[Ji]
 constructor
 ·intro h d;have:=h d;rw[mE]at this;exact this
 ·intro h d;rw[mE];exact h d
def okA(ts:List Cell)(p:Nat->Bool):Prop:=∀i j,i<ts.length->j<ts.length->p i=true->p j=true->okC (bK (ts.getD i aj) (ts.getD j aj))
def ec(ts:List Cell):Prop:=∀i,i<ts.length->cw (ts.getD i aj)
structure M6(ts:List Cell)(s j:Nat)(c:Cell):Prop where
 ok:∀d,(sp c d).lo<=(sp c d).hi
 le:∀i d,i<j->bM ts.length s i=true->(sp (ts.getD i aj) d).lo<=(sp c d).lo/\(sp c d).hi<=(sp (ts.getD i aj) d).hi
 lo:∀d,(sp c d).lo=(sp aO d).lo∨∃i,i<j/\bM ts.length s i=true/\(sp c d).lo=(sp (ts.getD i aj) d).lo
 hi:∀d,(sp c d).hi=(sp aO d).hi∨∃i,i<j/\bM ts.length s i=true/\(sp c d).hi=(sp (ts.getD i aj) d).hi
theorem CY{ts:List Cell}{s:Nat}:∀j,j<=ts.length->∀c,tog ts s j=some c->M6 ts s j c:=by
 intro j
 induction j with
 |zero =>
  intro _ c h
  cases h
  refine ⟨fun d =>?_,fun i d h=>absurd h (Nat.not_lt_zero _),fun d => .inl rfl,fun d => .inl rfl⟩
  match d with
  |0=>exact (show (0:Int)<=100 by decide)
  |1=>exact (show (0:Int)<=400 by decide)
  |2=>exact (show (0:Int)<=100 by decide)
  |_+3=>exact (show (0:Int)<=3 by decide)
 |succ j ih =>
  intro hj c h
  cases h0:tog ts s j with
  |none=>rw[oU h0 (Nat.le_succ j)]at h;cases h
  |some c0 =>
   have I:=ih Om c0 h0
   rw[jW h0]at h
   split at h
   ·rename_i hin
    split at h
    ·rename_i hok
     cases h
     rw[okM]at hok
     refine ⟨fun d=>by rw[mE];exact hok d,fun i d hi hs =>?_,fun d =>?_,fun d =>?_⟩
     ·rw[mE]
      rcases Nat.lt_or_ge i j with h1|h1
      ·have:=I.le i d h1 hs
       show _<=max _ _/\min _ _<=_
       omega
      ·obtain rfl:i=j:=Om
       show _<=max _ _/\min _ _<=_
       omega
     ·rw[mE]
      show max _ _=_∨∃i,_/\_/\max _ _=_
      rcases Int.le_total (sp c0 d).lo (sp (ts.getD j aj) d).lo with h1|h1
      ·exact .inr ⟨j,Om,hin,Om⟩
      ·rw[show max (sp c0 d).lo (sp (ts.getD j aj) d).lo=(sp c0 d).lo by omega]
       rcases I.lo d with h2|⟨i,h2,h3,h4⟩
       ·exact .inl h2
       ·exact .inr ⟨i,Om,h3,h4⟩
     ·rw[mE]
      show min _ _=_∨∃i,_/\_/\min _ _=_
      rcases Int.le_total (sp (ts.getD j aj) d).hi (sp c0 d).hi with h1|h1
      ·exact .inr ⟨j,Om,hin,Om⟩
      ·rw[show min (sp c0 d).hi (sp (ts.getD j aj) d).hi=(sp c0 d).hi by omega]
       rcases I.hi d with h2|⟨i,h2,h3,h4⟩
       ·exact .inl h2
       ·exact .inr ⟨i,Om,h3,h4⟩
    ·cases h
   ·rename_i hin
    cases h
    refine ⟨I.ok,fun i d hi hs =>?_,fun d =>?_,fun d =>?_⟩
    ·rcases Nat.lt_or_ge i j with h1|h1
     ·exact I.le i d h1 hs
     ·obtain rfl:i=j:=Om
      exact absurd hs hin
    ·rcases I.lo d with h2|⟨i,h2,h3,h4⟩
     ·exact .inl h2
     ·exact .inr ⟨i,Om,h3,h4⟩
    ·rcases I.hi d with h2|⟨i,h2,h3,h4⟩
     ·exact .inl h2
     ·exact .inr ⟨i,Om,h3,h4⟩
theorem Gs{ts:List Cell}{s:Nat}(hr:ec ts)(h:okA ts (bM ts.length s)):∀j,j<=ts.length->∃c,tog ts s j=some c:=by
 intro j
 induction j with
 |zero=>intro _;exact ⟨_,rfl⟩
 |succ j ih =>
  intro hj
  obtain ⟨c,hc⟩:=ih Om
  have I:=CY j Om c hc
  rw[jW hc]
  split
  ·rename_i hin
   have hok:okC (bK c (ts.getD j aj)):=by
    rw[okM]
    intro d
    have r:=pa (hr j Om) d
    have o:=I.ok d
    have k1:(sp c d).lo<=(sp (ts.getD j aj) d).hi:=by
     rcases I.lo d with h2|⟨i,h2,h3,h4⟩
     ·omega
     ·have:=(okM.1 (h i j Om Om h3 hin)) d
      omega
    have k2:(sp (ts.getD j aj) d).lo<=(sp c d).hi:=by
     rcases I.hi d with h2|⟨i,h2,h3,h4⟩
     ·omega
     ·have:=(okM.1 (h i j Om Om h3 hin)) d
      omega
    omega
   rw[if_pos hok];exact ⟨_,rfl⟩
  ·exact ⟨_,rfl⟩
theorem sm{ts:List Cell}(hr:ec ts)(s:Nat):(di ts s).isSome=true ↔ okA ts (bM ts.length s):=by
 constructor
 ·intro h i j hi hj h1 h2
  obtain ⟨c,hc⟩:=Option.isSome_iff_exists.1 h
  have I:=CY ts.length (Nat.le_refl _) c hc
  rw[okM]
  intro d
  have a:=I.le i d hi h1
  have b:=I.le j d hj h2
  have o:=I.ok d
  have r1:=pa (hr i hi) d
  have r2:=pa (hr j hj) d
  omega
 ·intro h
  obtain ⟨c,hc⟩:=Gs hr h ts.length (Nat.le_refl _)
  show (tog ts s ts.length).isSome=true
  rw[hc];rfl
def cnt(n:Nat)(p:Nat->Bool):Nat:=(List.range n).countP p
theorem qg(n:Nat)(p:Nat->Bool):cnt (n+1) p=cnt n p+(p n).toNat:=by
 unfold cnt
 rw[List.range_succ,List.countP_append]
 cases h:p n <;> simp[h]
theorem kz{n:Nat}{p q:Nat->Bool}(h:∀i,i<n->p i=q i):cnt n p=cnt n q:=by
 induction n with
 |zero=>rfl
 |succ n ih=>rw[qg,qg,ih (fun i hi=>h i Om),h n Om]
theorem zU{n s i:Nat}(hi:i<n):bM (n+1) s i=bM n (s / 2) i:=by
 unfold bM
 rw[show n+1-1-i=(n-1-i)+1 by omega,Nat.testBit_succ]
theorem tY(n s:Nat):bM (n+1) s n=s.testBit 0:=by unfold bM;rw[show n+1-1-n=0 by omega]
theorem GF:(List.range 4096).all (fun s=>Nat.beq (dt s) (dt (s / 2)+s % 2))=true:=by kernel_rfl
theorem NQ{s:Nat}(h:s<4096):dt s=dt (s / 2)+s % 2:=Nat.eq_of_beq_eq_true (List.all_eq_true.1 GF s (List.mem_range.2 h))
theorem pc:∀(n s:Nat),s<2 ^ n->n<=12->dt s=cnt n (bM n s)
 |0,s,h,_=>by
  obtain rfl:s=0:=by simpa using h
  kernel_rfl
 |n+1,s,h,hn=>by
  have h12:2 ^ (n+1)<=2 ^ 12:=Nat.pow_le_pow_right (by decide) hn
  rw[NQ Om,pc n (s / 2) (by rw[Nat.pow_succ]at h;omega) Om,qg,kz (fun i hi=>zU hi),tY]
  congr 1
  rw[Nat.testBit_zero]
  rcases Nat.mod_two_eq_zero_or_one s with h1|h1 <;> rw[h1] <;> rfl
def nq(p:Nat->Bool):Nat->Nat
 |0=>0
 |n+1=>2*nq p n+(p n).toNat
theorem yk(p:Nat->Bool)(n:Nat):nq p n<2 ^ n:=by
 induction n with
 |zero=>exact Nat.one_pos
 |succ n ih =>
  rw[Nat.pow_succ]
  show 2*nq p n+(p n).toNat<_
  cases p n <;> simp <;> omega
theorem kf(p:Nat->Bool):∀(n i:Nat),i<n->bM n (nq p n) i=p i
 |0,_,h=>absurd h (Nat.not_lt_zero _)
 |n+1,i,h=>by
  rcases Nat.lt_or_ge i n with h1|h1
  ·rw[zU h1]
   show bM n ((2*nq p n+(p n).toNat) / 2) i=_
   rw[show (2*nq p n+(p n).toNat) / 2=nq p n by cases p n <;> simp <;> omega]
   exact kf p n i h1
  ·obtain rfl:i=n:=Om
   rw[tY,Nat.testBit_zero]
   show decide ((2*nq p i+(p i).toNat) % 2=1)=_
   cases p i <;> simp <;> omega
def td(ts:List Cell):Nat:=((agr ts (2 ^ ts.length)).1).toNat
theorem D3(ts:List Cell):∀j,j<=2 ^ ts.length->∀s,s<2 ^ ts.length->2 ^ ts.length<=s+j->(di ts s).isSome=true->((dt s:Nat):Int)<=(agr ts j).1/\(((dt s:Nat):Int)=(agr ts j).1->s∈(agr ts j).2):=by
 intro j
 induction j with
 |zero=>intro _ s h1 h2;omega
 |succ j ih =>
  intro hj s h1 h2 h3
  obtain ⟨q,hq⟩:∃q,2 ^ ts.length-1-j=q:=⟨_,rfl⟩
  rcases Nat.lt_or_ge (s+j) (2 ^ ts.length) with hl|hl
  ·obtain rfl:s=q:=Om
   rcases Classical.em ((dt s:Int)<(agr ts j).1) with k1|k1
   ·rw[wS hq k1];exact ⟨Om,fun h=>Om⟩
   ·rcases Classical.em ((agr ts j).1<dt s) with k2|k2
    ·rw[wQ hq k1 h3 k2];exact ⟨Int.le_refl _,fun _=>List.mem_singleton.2 rfl⟩
    ·rw[wP hq k1 h3 k2];exact ⟨by show _<=(agr ts j).1;omega,fun _=>List.mem_append_right _ (List.mem_singleton.2 rfl)⟩
  ·obtain ⟨i1,i2⟩:=ih Om s h1 hl h3
   rcases Classical.em ((dt q:Int)<(agr ts j).1) with k1|k1
   ·rw[wS hq k1];exact ⟨i1,i2⟩
   ·cases k3:(di ts q).isSome with
    |false=>rw[D4 hq k1 k3];exact ⟨i1,i2⟩
    |true =>
     rcases Classical.em ((agr ts j).1<dt q) with k2|k2
     ·rw[wQ hq k1 k3 k2]
      exact ⟨by show _<=((dt q:Nat):Int);omega,fun (h:((dt s:Nat):Int)=((dt q:Nat):Int))=>Om⟩
     ·rw[wP hq k1 k3 k2];exact ⟨i1,fun h=>List.mem_append_left _ (i2 h)⟩
theorem uM(ts:List Cell):0<=(agr ts (2 ^ ts.length)).1:=by
 rcases (qk ts _ (Nat.le_refl _)).1 with ⟨_,h⟩|⟨h,_⟩
 ·exact absurd h (qm ts)
 ·exact h
theorem zm{ts:List Cell}(hr:ec ts)(hn:ts.length<=12){s:Nat}:s∈bt ts ↔ s<2 ^ ts.length/\okA ts (bM ts.length s)/\cnt ts.length (bM ts.length s)=td ts:=by
 have h0:=uM ts
 constructor
 ·intro h
  obtain ⟨h1,h2,h3⟩:=(qk ts _ (Nat.le_refl _)).2 s h
  refine ⟨h1,(sm hr s).1 h2,?_⟩
  rw[<- pc _ s h1 hn]
  unfold td;omega
 ·rintro ⟨h1,h2,h3⟩
  refine (D3 ts _ (Nat.le_refl _) s h1 Om ((sm hr s).2 h2)).2 ?_
  rw[pc _ s h1 hn,h3]
  unfold td;omega
theorem Kp{ts:List Cell}(hr:ec ts)(hn:ts.length<=12){p:Nat->Bool}(h:okA ts p):cnt ts.length p<=td ts:=by
 have h0:=uM ts
 have e:∀i,i<ts.length->bM ts.length (nq p ts.length) i=p i:=fun i hi=>kf p _ i hi
 have h2:okA ts (bM ts.length (nq p ts.length)):=fun i j hi hj h1 h2=>h i j hi hj (by rw[<- e i hi];exact h1) (by rw[<- e j hj];exact h2)
 have:=(D3 ts _ (Nat.le_refl _) _ (yk p ts.length) Om ((sm hr _).2 h2)).1
 rw[pc _ _ (yk p ts.length) hn,kz e]at this
 unfold td;omega
theorem GU{ts:List Cell}(hr:ec ts)(hn:ts.length<=12):okA ts (bM ts.length (bI ts))/\cnt ts.length (bM ts.length (bI ts))=td ts :=
 ((zm hr hn).1 (sM ts)).2
structure rh(l:List Report)(m:af)(now:Int):Prop where
 ask:dx m now=0
 len:l.length<=12
 each:∀r∈l,eT r/\r.at_<=now
 ids:l.Pairwise (fun a b=>a.id≠b.id)
 here:∀a∈l,∀b∈l,a.x=b.x/\a.y=b.y
theorem gY{α:Type}{l:List α}{d:α}{i:Nat}(h:i<l.length):l.getD i d∈l:=by
 rw[List.getD_eq_getElem?_getD,List.getElem?_eq_getElem h];exact List.getElem_mem h
theorem HN{α:Type}{l:List α}{d a:α}(h:a∈l):∃i,i<l.length/\l.getD i d=a:=by
 obtain ⟨i,h1,rfl⟩:=List.mem_iff_getElem.1 h
 exact ⟨i,h1,by rw[List.getD_eq_getElem?_getD,List.getElem?_eq_getElem h1];rfl⟩
theorem dh{α:Type}{l:List α}{d:α}{i:Nat}(h:i<l.length):l.getD i d=l[i]:=by
 rw[List.getD_eq_getElem?_getD,List.getElem?_eq_getElem h];rfl
def yS(x:List Report)(p:Nat->Bool):Nat->List Report
 |0=>[]
 |k+1=>if p k then yS x p k ++ [x.getD k ag] else yS x p k
theorem EG(x:List Report)(p:Nat->Bool):∀k,k<=x.length->(yS x p k).Sublist (x.take k):=by
 intro k
 induction k with
 |zero=>intro _;exact List.Sublist.refl _
 |succ k ih =>
  intro hk
  rw[List.take_add_one,List.getElem?_eq_getElem Om]
  unfold yS
  split
  ·rw[dh Om]
   exact (ih Om).append (List.Sublist.refl _)
  ·exact (ih Om).trans (List.sublist_append_left ..)
theorem rh.sub{l l':List Report}{m:af}{now:Int}(h:rh l m now)(hs:l'.Sublist l):rh l' m now :=
 ⟨h.ask,Nat.le_trans hs.length_le h.len,fun r hr=>h.each r (hs.subset hr),h.ids.sublist hs,fun a ha b hb=>h.here a (hs.subset ha) b (hs.subset hb)⟩
theorem rh.some{x:List Report}{m:af}{now:Int}(h:rh x m now)(p:Nat->Bool){k:Nat}(hk:k<=x.length):rh (yS x p k) m now :=
 h.sub ((EG x p k hk).trans (List.take_sublist ..))
theorem lO{l:List Report}{m:af}{now:Int}{i:Nat}(h:i<l.length):(told l m now).getD i aj=bW (l.getD i ag) m now :=
 eP (f:=fun i=>bW (l.getD i ag) m now) h
theorem mI{ts:List Cell}{p q:Nat->Bool}(h:∀i,i<ts.length->p i=q i):okA ts p ↔ okA ts q :=
 ⟨fun k i j hi hj h1 h2=>k i j hi hj (by rw[h i hi];exact h1) (by rw[h j hj];exact h2),fun k i j hi hj h1 h2=>k i j hi hj (by rw[<- h i hi];exact h1) (by rw[<- h j hj];exact h2)⟩
theorem zl{ts:List Cell}{i k:Nat}{q:Nat×Nat}(h:q∈aU ts i k):∃j,j<k/\q=(i,i+1+j)/\¬ okC (bK (ts.getD i aj) (ts.getD (i+1+j) aj)):=by
 induction k with
 |zero=>cases h
 |succ k ih =>
  by_cases hc:okC (bK (ts.getD i aj) (ts.getD (i+1+k) aj))
  ·rw[kw hc]at h
   obtain ⟨j,h1,h2⟩:=ih h
   exact ⟨j,Om,h2⟩
  ·rw[ku hc]at h
   rcases List.mem_append.1 h with h|h
   ·obtain ⟨j,h1,h2⟩:=ih h
    exact ⟨j,Om,h2⟩
   ·rw[List.mem_singleton.1 h];exact ⟨k,Om,rfl,hc⟩
theorem AQ{ts:List Cell}{i k j:Nat}(hj:j<k)(hc:¬ okC (bK (ts.getD i aj) (ts.getD (i+1+j) aj))):(i,i+1+j)∈aU ts i k:=by
 induction k with
 |zero=>omega
 |succ k ih =>
  rcases Nat.lt_or_ge j k with h1|h1
  ·by_cases hk:okC (bK (ts.getD i aj) (ts.getD (i+1+k) aj))
   ·rw[kw hk];exact ih h1
   ·rw[ku hk];exact List.mem_append_left _ (ih h1)
  ·obtain rfl:j=k:=Om
   rw[ku hc];exact List.mem_append_right _ (List.mem_singleton.2 rfl)
theorem lY{ts:List Cell}{n:Nat}(hn:n<=ts.length){q:Nat×Nat}:q∈conf ts n ↔ q.1<n/\q.1<q.2/\q.2<ts.length/\¬ okC (bK (ts.getD q.1 aj) (ts.getD q.2 aj)):=by
  induction n with
  | zero => constructor
            · intro h;cases h
            · rintro ⟨h,_⟩;omega
  | succ n ih =>
    show q∈conf ts n++aU ts n (ts.length-(n+1)) ↔ _
    rw[List.mem_append,ih Om]
    constructor
    · rintro (⟨h1, h2, h3, h4⟩ | h)
      · exact ⟨Om,h2,h3,h4⟩
      · obtain ⟨j, h1, rfl, h2⟩ := zl h
        exact ⟨by show n<n+1;omega,by show n<n+1+j;omega,by show n+1+j<_;omega,h2⟩
    · rintro ⟨h1, h2, h3, h4⟩
      rcases Nat.lt_or_ge q.1 n with h5|h5
      · exact .inl ⟨h5,h2,h3,h4⟩
      · right
        obtain ⟨a,b⟩:=q
        simp only at h1 h2 h3 h4 h5
        obtain rfl:a=n:=Om
        have:=AQ (k:=ts.length-(a+1)) (j:=b-(a+1)) Om (by rw[show a+1+(b-(a+1))=b by omega];exact h4)
        rw[show a+1+(b-(a+1))=b by omega]at this
        exact this
theorem meet_comm(a b:Cell):okC (bK a b) ↔ okC (bK b a):=by
 rw[okM,okM];exact ⟨fun h d=>by have:=h d;omega,fun h d=>by have:=h d;omega⟩
theorem meet_self{a:Cell}(h:cw a):okC (bK a a):=by
 rw[okM];intro d;have:=pa h d;omega
theorem Ig{ts:List Cell}(hr:ec ts):conf ts ts.length=[] ↔ okA ts (fun _=>true):=by
 constructor
 ·intro h i j hi hj _ _
  rcases Nat.lt_trichotomy i j with h1|h1|h1
  ·refine Classical.byContradiction fun hc =>?_
   have:=(lY (Nat.le_refl _) (q:=(i,j))).2 ⟨hi,h1,hj,hc⟩
   rw[h]at this;cases this
  ·subst h1;exact meet_self (hr i hi)
  ·refine Classical.byContradiction fun hc =>?_
   have:=(lY (Nat.le_refl _) (q:=(j,i))).2 ⟨hj,h1,hi,fun h=>hc ((meet_comm _ _).1 h)⟩
   rw[h]at this;cases this
 ·intro h;exact FW (fun i k hi hk=>h i k hi hk rfl rfl) _ (Nat.le_refl _)
theorem EZ{n s x:Nat}{v:Int}:v∈eo n s x ↔ ∃k:Nat,k<x/\bM n s k=false/\v=((k:Nat):Int):=by
  induction x with
  | zero => constructor
            · intro h;cases h
            · rintro ⟨k,h,_⟩;omega
  | succ x ih =>
    cases h:bM n s x with
    | true =>
      rw[sr h,ih]
      constructor
      · rintro ⟨k,h1,h2⟩;exact ⟨k,Om,h2⟩
      · rintro ⟨k, h1, h2, h3⟩
        rcases Nat.lt_or_ge k x with g|g
        · exact ⟨k,g,h2,h3⟩
        · obtain rfl : k = x := Om
          rw[h]at h2;cases h2
    | false =>
      rw[sq (by rw[h];decide),List.mem_append,ih,List.mem_singleton]
      constructor
      · rintro (⟨k, h1, h2⟩ | rfl)
        · exact ⟨k,Om,h2⟩
        · exact ⟨x,Om,h,rfl⟩
      · rintro ⟨k, h1, h2, h3⟩
        rcases Nat.lt_or_ge k x with g|g
        · exact .inl ⟨k,g,h2,h3⟩
        · obtain rfl : k = x := Om
          exact .inr h3
theorem xn(n s x:Nat):(eo n s x).Pairwise (· < ·):=by
 induction x with
 |zero=>exact .nil
 |succ x ih =>
  cases h:bM n s x with
  |true=>rw[sr h];exact ih
  |false =>
   rw[sq (by rw[h];decide),List.pairwise_append]
   refine ⟨ih,List.pairwise_singleton ..,fun a ha b hb =>?_⟩
   obtain ⟨k,hk,_,rfl⟩:=EZ.1 ha
   rw[List.mem_singleton.1 hb];omega
end
end Go.Proofs.YthcjliffpebjaaaGreat
namespace Go.Proofs.YthcjliffpebjaaaGreat
noncomputable section
attribute [local irreducible] vF
abbrev dB(l:List Bool):Value:=.iface (l.length+1) (.agg ⟨l.flatMap aC⟩)
def dBL(L:List (List Bool)):List Value:=L.map dB
def eF(p:List (Nat×Nat))(b:List Bool)(x:Nat):Bool:=(p.take x).all fun q=>q.2 != b.length || !b.getD q.1 false
def lst(p:List (Nat×Nat)):Nat->List Bool->List (List Bool)
 |0,b=>[b]
 |d+1,b=>(if eF p b p.length then lst p d (b ++ [true]) else [])++lst p d (b ++ [false])
def cL(l:List Bool)(x:Nat):Nat:=(l.take x).countP id
def cV(L:List (List Bool)):Nat->Nat
 |0=>0
 |x+1=>max (cV L x) (cL (L.getD x []) (L.getD x []).length)
def gN(L:List (List Bool))(k:Nat):Nat->List (List Bool)
 |0=>[]
 |x+1=>if cL (L.getD x []) (L.getD x []).length=k then gN L k x ++ [L.getD x []] else gN L k x
def eK(ts:List Cell):List (List Bool):=lst (conf ts ts.length) ts.length []
def e9(ts:List Cell):List (List Bool):=gN (eK ts) (cV (eK ts) (eK ts).length) (eK ts).length
def cr(b:List Bool):Nat->List Int
 |0=>[]
 |x+1=>if b.getD x false then cr b x else cr b x ++ [((x:Nat):Int)]
def ig(L:List (List Bool))(x:Nat):List (List Int):=lz ((L.take x).map fun b=>cr b b.length)
def ft(L:List (List Int))(s:List Int)(k:Nat):List (List Int):=L.take k++s :: L.drop k
def smA(n i:Nat):Report:=⟨i,1+Int.tmod i 3,i,0,0,1+Int.tmod i 2,⟨⟨Int.tmod (Int.fdiv n (2 ^ min i 64)) 4,Int.tmod (Int.fdiv n (2 ^ min i 64)) 4+Int.tmod i 2⟩,⟨Int.tmod (Int.tdiv n 3) 5,5⟩,⟨0,0⟩,⟨0,0⟩⟩⟩
def smB(i:Nat):Report:=⟨i,1,0,0,0,2,⟨⟨0,0⟩,⟨10*Int.tmod i 3,10*Int.tmod i 3+5*Int.tmod i 2+2⟩,⟨0,0⟩,⟨0,0⟩⟩⟩
def fK(i:Nat):Report:=⟨i,1,0,Int.tmod i 16,Int.tmod (Int.tdiv i 16) 4,4,⟨⟨0,0⟩,⟨0,0⟩,⟨Int.tmod i 5,3⟩,⟨0,0⟩⟩⟩
def smC(i:Nat):Report:=⟨i,1,0,Int.tmod i 16,Int.tmod (Int.tdiv i 16) 4,4,⟨⟨0,0⟩,⟨0,0⟩,⟨Int.tmod i 5,3+Int.tmod i 5⟩,⟨0,0⟩⟩⟩
def smU(d i:Nat):Ice:=⟨if (100:Int)<Int.tdiv (30*i+23) 24+d*Int.tdiv i 39 then 100 else Int.tdiv (30*i+23) 24+d*Int.tdiv i 39,0,0,0⟩
def smD(d i:Nat):Ice:=⟨if (0:Int) > 100-2*i-d*Int.tdiv i 39 then 0 else 100-2*i-d*Int.tdiv i 39,0,0,0⟩
def smE:List Int:=[-1,0,1,2,3,4,12,15,16,63,64,99,100,101,400,401,1000,1001,10000,10001,1000000,1000001,9223372036854775807,-9223372036854775808]
def smN:List Int:=[20,40,30,90,2,9,1,2,30,40,5,1,5,12,1,1,7,30,2,3,5,2,4,1,2,11,20,40,30,90,2,9,1,2,30]
def smP:List Nat:=[0,3,4,7,8,9,10,11,12,17,15,20,21,22,23,24,25,27,30,32,34,18]
def smI(b:List Int)(k:Nat):Ice:=⟨b.getD k 0,b.getD (k+1) 0,b.getD (k+2) 0,b.getD (k+3) 0⟩
def smL(b:List Int)(k:Nat):Cell:=⟨⟨b.getD k 0,b.getD (k+1) 0⟩,⟨b.getD (k+2) 0,b.getD (k+3) 0⟩,⟨b.getD (k+4) 0,b.getD (k+5) 0⟩,⟨b.getD (k+6) 0,b.getD (k+7) 0⟩⟩
def smM(b:List Int):af:=⟨smI b 12,smI b 16⟩
def smR(b:List Int):List Report:=[⟨1,1,2,1,2,3,⟨⟨35,60⟩,⟨0,20⟩,⟨0,0⟩,⟨0,0⟩⟩⟩,⟨b.getD 20 0,b.getD 21 0,b.getD 22 0,b.getD 23 0,b.getD 24 0,b.getD 25 0,smL b 26⟩]
def smX(b:List Int):List Ice:=[smI b 8,⟨31,39,4,2⟩]
def u5(b:List Int):List Cell:=[smL b 0,aO]
def u0(b:List Int):List Cell:=[⟨⟨35,60⟩,⟨0,20⟩,⟨0,0⟩,⟨0,0⟩⟩,smL b 0]
abbrev smS(L:Nat):Value:=slN L 2
abbrev smW(b:List Int)(v:Int)(n L:Nat):Value:=.agg #[nI (if n=0 then v else 2),nI (if n=1 then v else 1),nI (if n=2 then v else 7),smS (L+1)]
abbrev smV(L:Nat):Value:=.agg #[nI 2,nI 1,nI 7,smS (L+2)]
abbrev smJ(c:List Value)(z:Nat):ah:=.cells true z c
def smQ(b:List Int)(v:Int)(n L e:Nat)(K:Prop):Prop :=
 ((some (smJ ((smX b).flatMap bB) 4)=some (smJ ((smX b).flatMap bB) 4))/\True)/\(∀H':Heap,H'.length=L->(H'[L-1]?=some (smJ ((smX b).flatMap bB) 4)/\True)->ak prog 4 [cellV (smL b 0),cellV ⟨⟨35,60⟩,⟨0,20⟩,⟨0,0⟩,⟨0,0⟩⟩,Aa (smI b 8),ao (smM b),nI (b.getD 34 0),smS (L-1)] H' [] (Is (.bool true) H')) /\
 ((some (smJ ((smR b).flatMap ai) 14)=some (smJ ((smR b).flatMap ai) 14))/\True)/\(∀H':Heap,H'.length=L->(H'[L-2]?=some (smJ ((smR b).flatMap ai) 14)/\True)->ak prog 3 [smS (L-2),ao (smM b),nI (b.getD 34 0)] H' [] (Is (.bool true) H')) /\
 ((some (smJ ((smR b).flatMap ai) 14)=some (smJ ((smR b).flatMap ai) 14))/\True)/\(∀H':Heap,H'.length=L->(H'[L-2]?=some (smJ ((smR b).flatMap ai) 14)/\True)->ak prog 6 [nI 3,nI 4,smS (L-2),ao (smM b),nI (b.getD 34 0)] H' [] (Is (.bool true) H')) /\
 ((some (smJ ((smR b).flatMap ai) 14)=some (smJ ((smR b).flatMap ai) 14))/\True)/\(∀H':Heap,H'.length=L->(H'[L-2]?=some (smJ ((smR b).flatMap ai) 14)/\True)->ak prog 6 [nI v,nI 2,smS (L-2),ao (smM b),nI (b.getD 34 0)] H' [] (Is (.bool true) H')) /\
 ((some (smJ ((u5 b).flatMap cellC) 8)=some (smJ ((u5 b).flatMap cellC) 8))/\(some (smJ ((u0 b).flatMap cellC) 8)=some (smJ ((u0 b).flatMap cellC) 8))/\(some (smJ ([smI b 8,smI b 8].flatMap bB) 4)=some (smJ ([smI b 8,smI b 8].flatMap bB) 4))/\True)/\(∀H':Heap,H'.length=L+e->(H'[L+1]?=some (smJ ((u5 b).flatMap cellC) 8)/\H'[L+2]?=some (smJ ((u0 b).flatMap cellC) 8)/\H'[L+e-1]?=some (smJ ([smI b 8,smI b 8].flatMap bB) 4)/\True)->ak prog 5 [smW b v n L,smV L,smS (L+e-1),ao (smM b),nI (b.getD 34 0)] H' [] (Is (.bool true) H')) /\
 ((some (smJ ((u0 b).flatMap cellC) 8)=some (smJ ((u0 b).flatMap cellC) 8))/\(some (smJ ((u5 b).flatMap cellC) 8)=some (smJ ((u5 b).flatMap cellC) 8))/\(some (smJ ([smI b 8].flatMap bB) 4)=some (smJ ([smI b 8].flatMap bB) 4))/\True)/\(∀H':Heap,H'.length=L+e+1->(H'[L+2]?=some (smJ ((u0 b).flatMap cellC) 8)/\H'[L+1]?=some (smJ ((u5 b).flatMap cellC) 8)/\H'[L+e]?=some (smJ ([smI b 8].flatMap bB) 4)/\True)->ak prog 5 [smV L,smW b v n L,slN (L+e) 1,ao (smM b),nI v] H' [] (Is (.bool true) H'))/\K
def Lu(v:Int):Nat->Nat->Nat->Prop->Prop
 |0,_,_,K=>K
 |k+1,n,L,K=>smQ (smN.set (smP.getD n 0) v) v n L (if n<3 then 6 else 5) (Lu v k (n+1) (if n<3 then L+15 else L+14) K)
def smH(b:List Int)(n L:Nat)(K:Hint):Hint :=
 .go (if n=0 then 86 else 91) (.ans [(L-1,smJ ((smX b).flatMap bB) 4)] (.bool true) [] (.go 4 (.ans [(L-2,smJ ((smR b).flatMap ai) 14)] (.bool true) [] (.go 5 (.ans [(L-2,smJ ((smR b).flatMap ai) 14)] (.bool true) [] (.go 6 (.ans [(L-2,smJ ((smR b).flatMap ai) 14)] (.bool true) [] (.go (if n<3 then 46 else 34) (.ans [(L+1,smJ ((u5 b).flatMap cellC) 8),(L+2,smJ ((u0 b).flatMap cellC) 8),(L+(if n<3 then 5 else 4),smJ ([smI b 8,smI b 8].flatMap bB) 4)] (.bool true) [] (.go 7 (.ans [(L+2,smJ ((u0 b).flatMap cellC) 8),(L+1,smJ ((u5 b).flatMap cellC) 8),(L+(if n<3 then 6 else 5),smJ ([smI b 8].flatMap bB) 4)] (.bool true) [] K)))))))))))
def NL(v:Int):Nat->Nat->Nat->Hint->Hint
 |0,_,_,K=>K
 |k+1,n,L,K=>smH (smN.set (smP.getD n 0) v) n L (NL v k (n+1) (if n<3 then L+15 else L+14) K)
abbrev jjm:Value:=nI 0
abbrev jjg:Int:=(0:Nat)
abbrev jj0(qn0 qn1:Nat)(qi0:Int):Prop:=true=true/\(jjm=nI jjg/\eR (slN qn0 qn1)/\eR (nI qi0)/\True)/\(True)/\(True)/\(True)
abbrev jj3(qn0 qn1 qn2 qn3:Nat)(qi0:Int):Prop:=(nI ((qn0:Int)+1):Value)=nI (qn1:Int)/\eR (slN qn2 qn3)/\eR (nI qi0)/\True
abbrev jja:Prop:=(True)/\(True)/\(True)
abbrev jj5(U:Nat):List Value:=[nI (Int.tmod (U:Int) 4),nI 0,nI 0,nI 0,nI (Int.tmod (Int.tdiv (U:Int) 4) 4),nI 0,nI 0,nI 0,nI (Int.tmod (Int.tdiv (U:Int) 16) 4),nI 0,nI 0,nI 0]
abbrev jje(U:Nat):=Int.tmod (U:Int) 3
abbrev jjd:Value:=.slice none 0 0
abbrev jjf:Prop:=eR (pt 2)/\eR (.func (.func 69) #[] #[pt 2])/\eR (pt 3)/\eR (pt 4)/\True
abbrev jji:Prop:=(True)/\(True/\True)/\(True)
abbrev jj7(Z:Nat)(i_3 i_5:Int)(U:Nat):List Value:=[nI (Z:Int),nI (1+(Int.tmod (Z:Int) 3)),nI (Z:Int),nI 0,nI 0,nI (1+(Int.tmod (Z:Int) 2)),nI (Int.tmod i_3 4),nI i_5,nI (Int.tmod (Int.tdiv (U:Int) 3) 5),nI 5,nI 0,nI 0,nI 0,nI 0]
abbrev jj6:List Int:=[0,1,9,13,14]
abbrev jjj(Z:Nat):Prop:=eR (nI 5)/\eR (slN 3 5)/\eR (nI (Z:Int))/\eR (nI (jj6.getD Z 0))/\True
abbrev jjb(n_3:Nat):=Int.tmod (n_3:Int) 3
abbrev jjh(n_3:Nat)(i_4:Int):List Value:=[nI (n_3:Int),nI 1,nI 0,nI 0,nI 0,nI 2,nI 0,nI 0,nI (10*(jjb n_3)),nI (i_4+2),nI 0,nI 0,nI 0,nI 0]
abbrev jjc:List Int:=[60,401]
abbrev jjk(n_3:Nat):Prop:=eR (nI 2)/\eR (slN 4 2)/\eR (nI (n_3:Int))/\eR (nI (jjc.getD n_3 0))/\True
abbrev jj4(n_4:Nat):List Value:=[nI (n_4:Int),nI 1,nI 0,nI (Int.tmod (n_4:Int) 16),nI (Int.tmod (Int.tdiv (n_4:Int) 16) 4),nI 4,nI 0,nI 0,nI 0,nI 0,nI (Int.tmod (n_4:Int) 5),nI 3,nI 0,nI 0]
abbrev jjl(n_4:Nat):=ixq (n_4:Int) ((aE smC n_4).length+1)
abbrev jj9(n_5:Nat):=Int.tdiv ((30*(n_5:Int))+23) 24
abbrev jj8(n_5:Nat):=Int.tdiv (n_5:Int) 39
def wX(sp:Value)  : Prop :=
 (lq (0<=24) (jj0 0 24 24) (∀J:Nat,(J<=24)->(fk (decide (((J:Int):Int)<24)) ((ixq (J:Int) 24)/\(((smE.flatMap aA)[(0+Int.toNat (J:Int)*1)]?=some (nI (smE.getD J 0)))/\(∃i_1:Int,bw (smE.getD J 0) i_1/\(Lu i_1 22 0 9 (nw ((J:Int)+1) (∃bH:Nat,(bH<=24)/\(24-bH)<(24-J)/\true=true/\(jj3 J bH 0 24 24)/\jja)))))) (lq (0<=768) (true=true/\(eR (pt 1)/\True)/\(True/\True)/\((kbq 2 (.cells true 0 [nI 0]) (.cells true 0 [nI jjg]))/\True)/\(True)) (∀U:Nat,(U<=768)->(fk (decide (((U:Int):Int)<768)) (nw (Int.tdiv (U:Int) 4) (nw (Int.tdiv (U:Int) 16) (nw (Int.tdiv (U:Int) 64) (nw (Int.tdiv (U:Int) 4) (nw (Int.tdiv (U:Int) 16) (c1q 6 5 (.cells true 4 (jj5 U)) 4 [.agg #[nI (Int.tmod (U:Int) 4),nI (Int.tmod (Int.tdiv (U:Int) 4) 4),nI 0,nI 0,nI 0,nI 0,nI 0,nI (jje U)],.agg #[nI (Int.tmod (Int.tdiv (U:Int) 16) 4),nI (Int.tmod (Int.tdiv (U:Int) 64) 4),nI 0,nI 0,nI 0,nI 0,nI 0,nI (jje U)],.agg #[nI (Int.tmod (U:Int) 5),nI 0,nI 0,nI (Int.tmod (U:Int) 2)],.agg #[nI (Int.tmod (U:Int) 7),nI 0,nI 0,nI 0,nI 0,nI 0,nI 0,nI 0],nI (Int.tmod (U:Int) 50),slN 5 3] (.bool true) (lq (0<=4) (true=true/\(jjm=nI jjg/\wk jjd (slQ 0 1 (aE (smA U) 0).length:Value)/\jjf)/\jji) (∀Z:Nat,(Z<=4)->(fk (decide (((Z:Int):Int)<4)) (nw (1+(Int.tmod (Z:Int) 3)) (nw (1+(Int.tmod (Z:Int) 2)) (((0:Int)<=(Z:Int))/\(∃i_3:Int,bw (Int.fdiv (U:Int) (2 ^ min (Z:Int).toNat (IntKind.bits .i64))) i_3/\(((0:Int)<=(Z:Int))/\(∃i_4:Int,bw (Int.fdiv (U:Int) (2 ^ min (Z:Int).toNat (IntKind.bits .i64))) i_4/\(nw ((Int.tmod i_4 4)+(Int.tmod (Z:Int) 2)) (∃i_5:Int,bw ((Int.tmod i_4 4)+(Int.tmod (Z:Int) 2)) i_5/\(nw (Int.tdiv (U:Int) 3) (apq (aE (smA U) Z).length 112 14 ((aE (smA U) Z).flatMap ai) (jj7 Z i_3 i_5 U) (nw ((Z:Int)+1) (∃fA:Nat,(fA<=4)/\(4-fA)<(4-Z)/\true=true/\((nI ((Z:Int)+1):Value)=nI (fA:Int)/\wk (slN 8 ((aE (smA U) Z).length+1):Value) (slQ 8 1 (aE (smA U) fA).length:Value)/\jjf)/\(True)/\((kbq 6 (.cells true 14 (((((aE (smA U) Z).flatMap ai).drop 0).take ((aE (smA U) Z).length*14))++((((jj7 Z i_3 i_5 U):List Value).drop 0).take (1*14)))) (.cells true 14 ((aE (smA U) fA).flatMap ai)))/\True)/\(True))))))))))))) (nw (12*(jje U)) (nw (2+(jje U)) (c1q 7 6 (.cells true 14 ((aE (smA U) Z).flatMap ai)) 3 [slQ 6 1 (aE (smA U) Z).length,.agg #[nI (12*(jje U)),nI 0,nI 0,nI 0,nI 0,nI 0,nI 0,nI 0],nI (2+(jje U))] (.bool true) (c1q 7 6 (.cells true 14 ((aE (smA U) Z).flatMap ai)) 6 [nI 1,nI 1,slQ 6 1 (aE (smA U) Z).length,.agg #[nI 0,nI 0,nI 0,nI 0,nI 0,nI 0,nI 0,nI 0],nI 3] (.bool true) (nw ((U:Int)+1) (∃bg:Nat,(bg<=768)/\(768-bg)<(768-U)/\true=true/\(eR (pt 7)/\True)/\(True/\True)/\((kbq 2 (.cells true 0 [nI ((U:Int)+1)]) (.cells true 0 [nI (bg:Int)]))/\True)/\(True)))))))))))))))) (lq (0<=5) (jj0 3 5 5) (∀Z:Nat,(Z<=5)->(fk (decide (((Z:Int):Int)<5)) ((ixq (Z:Int) 5)/\((([nI 0,nI 1,nI 9,nI 13,nI 14]:List Value)[(0+Int.toNat (Z:Int)*1)]?=some (nI (jj6.getD Z 0)))/\(lq (0<=1000) (true=true/\(jjm=nI jjg/\wk jjd (slQ 0 1 (aE smB 0).length:Value)/\jjj Z)/\jji) (∀n_3:Nat,(n_3<=1000)->(fk (decide (((n_3:Int):Int)<(jj6.getD Z 0))) (nw (10*(jjb n_3)) (nw (10*(jjb n_3)) (nw (5*(Int.tmod (n_3:Int) 2)) (nw ((10*(jjb n_3))+(5*(Int.tmod (n_3:Int) 2))) (∃i_4:Int,bw ((10*(jjb n_3))+(5*(Int.tmod (n_3:Int) 2))) i_4/\(nw (i_4+2) (apq (aE smB n_3).length 112 14 ((aE smB n_3).flatMap ai) (jjh n_3 i_4) (nw ((n_3:Int)+1) (∃cZ:Nat,(cZ<=1000)/\(1000-cZ)<(1000-n_3)/\true=true/\((nI ((n_3:Int)+1):Value)=nI (cZ:Int)/\wk (slN 6 ((aE smB n_3).length+1):Value) (slQ 6 1 (aE smB cZ).length:Value)/\jjj Z)/\(True)/\((kbq 4 (.cells true 14 (((((aE smB n_3).flatMap ai).drop 0).take ((aE smB n_3).length*14))++((((jjh n_3 i_4):List Value).drop 0).take (1*14)))) (.cells true 14 ((aE smB cZ).flatMap ai)))/\True)/\(True)))))))))) (c1q 5 4 (.cells true 14 ((aE smB n_3).flatMap ai)) 3 [slQ 4 1 (aE smB n_3).length,.agg #[nI 0,nI 0,nI 0,nI 0,nI 0,nI 0,nI 0,nI 0],nI 0] (.bool true) (c1q 5 4 (.cells true 14 ((aE smB n_3).flatMap ai)) 6 [nI 2,nI 2,slQ 4 1 (aE smB n_3).length,.agg #[nI 0,nI 0,nI 0,nI 0,nI 0,nI 0,nI 0,nI 0],nI 0] (.bool true) (nw ((Z:Int)+1) (∃aQ:Nat,(aQ<=5)/\(5-aQ)<(5-Z)/\true=true/\(jj3 Z aQ 3 5 5)/\jja))))))))) (lq (0<=2) (jj0 4 2 2) (∀n_3:Nat,(n_3<=2)->(fk (decide (((n_3:Int):Int)<2)) ((ixq (n_3:Int) 2)/\((([nI 60,nI 401]:List Value)[(0+Int.toNat (n_3:Int)*1)]?=some (nI (jjc.getD n_3 0)))/\(lq (0<=1000) (true=true/\(jjm=nI jjg/\wk jjd (slQ 0 1 (aE smC 0).length:Value)/\jjk n_3)/\jji) (∀n_4:Nat,(n_4<=1000)->(fk (decide (((n_4:Int):Int)<(jjc.getD n_3 0))) (nw (Int.tdiv (n_4:Int) 16) (apq (aE smC n_4).length 112 14 ((aE smC n_4).flatMap ai) (jj4 n_4) ((some (.cells true 14 (((((aE smC n_4).flatMap ai).drop 0).take ((aE smC n_4).length*14))++((((jj4 n_4):List Value).drop 0).take (1*14))):ah)=some (.cells true 14 ((aE smC n_4 ++ [fK n_4]).flatMap ai):ah))/\((jjl n_4)/\((((aE smC n_4 ++ [fK n_4]).flatMap ai)[((((0+Int.toNat (n_4:Int)*14)+6)+4)+1)]?=some (nI ((aE smC n_4 ++ [fK n_4]).getD n_4 ag).cell.aa.hi))/\((jjl n_4)/\((((aE smC n_4 ++ [fK n_4]).flatMap ai)[((((0+Int.toNat (n_4:Int)*14)+6)+4)+0)]?=some (nI ((aE smC n_4 ++ [fK n_4]).getD n_4 ag).cell.aa.lo))/\(nw (((aE smC n_4 ++ [fK n_4]).getD n_4 ag).cell.aa.hi+((aE smC n_4 ++ [fK n_4]).getD n_4 ag).cell.aa.lo) (∃i_5:Int,bw (((aE smC n_4 ++ [fK n_4]).getD n_4 ag).cell.aa.hi+((aE smC n_4 ++ [fK n_4]).getD n_4 ag).cell.aa.lo) i_5/\((jjl n_4)/\((((((0+Int.toNat (n_4:Int)*14)+6)+4)+1)+1<=List.length ((aE smC n_4 ++ [fK n_4]).flatMap ai))/\true=true/\(nw ((n_4:Int)+1) (∃fA:Nat,(fA<=1000)/\(1000-fA)<(1000-n_4)/\true=true/\((nI ((n_4:Int)+1):Value)=nI (fA:Int)/\wk (slN 7 ((aE smC n_4).length+1):Value) (slQ 7 1 (aE smC fA).length:Value)/\jjk n_3)/\(True)/\((kbq 5 (.cells true 14 (bQ ((aE smC n_4 ++ [fK n_4]).flatMap ai) ((((0+Int.toNat (n_4:Int)*14)+6)+4)+1) [nI i_5])) (.cells true 14 ((aE smC fA).flatMap ai)))/\True)/\(True)))))))))))))) (c1q 6 5 (.cells true 14 ((aE smC n_4).flatMap ai)) 6 [nI 16,nI 4,slQ 5 1 (aE smC n_4).length,.agg #[nI 0,nI 0,nI 0,nI 0,nI 0,nI 0,nI 0,nI 0],nI 0] (.bool true) (c1q 6 5 (.cells true 14 ((aE smC n_4).flatMap ai)) 6 [nI 64,nI 17,slQ 5 1 (aE smC n_4).length,.agg #[nI 0,nI 0,nI 0,nI 0,nI 0,nI 0,nI 0,nI 0],nI 0] (.bool true) (nw ((n_3:Int)+1) (∃cZ:Nat,(cZ<=2)/\(2-cZ)<(2-n_3)/\true=true/\(jj3 n_3 cZ 4 2 2)/\jja))))))))) (lq (0<=3) (true=true/\(jjm=nI jjg/\eR (pt 5)/\True)/\jja) (∀n_4:Nat,(n_4<=3)->(fk (decide (((n_4:Int):Int)<3)) (lq (0<=40) (true=true/\(jjm=nI jjg/\wk jjd (slQ 0 1 (aE (smU n_4) 0).length:Value)/\wk jjd (slQ 0 1 (aE (smD n_4) 0).length:Value)/\eR (pt 5)/\eR (nI (n_4:Int))/\True)/\(True)/\(True/\True/\True)/\(True)) (∀n_5:Nat,(n_5<=40)->(fk (decide (((n_5:Int):Int)<40)) (nw (30*(n_5:Int)) (nw ((30*(n_5:Int))+23) (nw (jj9 n_5) (nw (jj8 n_5) (nw ((n_4:Int)*(jj8 n_5)) (∃i_6:Int,bw ((n_4:Int)*(jj8 n_5)) i_6/\(nw ((jj9 n_5)+i_6) (∃i_7:Int,bw ((jj9 n_5)+i_6) i_7/\(apq (aE (smU n_4) n_5).length 32 4 ((aE (smU n_4) n_5).flatMap bB) [nI (if (100:Int)<i_7 then (100:Int) else i_7),nI 0,nI 0,nI 0] (nw (2*(n_5:Int)) (nw (100-(2*(n_5:Int))) (nw (jj8 n_5) (nw ((n_4:Int)*(jj8 n_5)) (∃i_8:Int,bw ((n_4:Int)*(jj8 n_5)) i_8/\(nw ((100-(2*(n_5:Int)))-i_8) (∃i_9:Int,bw (if (0:Int) > ((100-(2*(n_5:Int)))-i_8) then (0:Int) else ((100-(2*(n_5:Int)))-i_8)) i_9/\(apq (aE (smD n_4) n_5).length 32 4 ((aE (smD n_4) n_5).flatMap bB) [nI i_9,nI 0,nI 0,nI 0] (nw ((n_5:Int)+1) (∃tc:Nat,(tc<=40)/\(40-tc)<(40-n_5)/\true=true/\((nI ((n_5:Int)+1):Value)=nI (tc:Int)/\wk (slN 9 ((aE (smU n_4) n_5).length+1):Value) (slQ 9 1 (aE (smU n_4) tc).length:Value)/\wk (slN 11 ((aE (smD n_4) n_5).length+1):Value) (slQ 11 1 (aE (smD n_4) tc).length:Value)/\eR (pt 5)/\eR (nI (n_4:Int))/\True)/\(True)/\((kbq 6 (.cells true 4 (((((aE (smU n_4) n_5).flatMap bB).drop 0).take ((aE (smU n_4) n_5).length*4))++((([nI (if (100:Int)<i_7 then (100:Int) else i_7),nI 0,nI 0,nI 0]:List Value).drop 0).take (1*4)))) (.cells true 4 ((aE (smU n_4) tc).flatMap bB)))/\(kbq 6 (.cells true 4 (((((aE (smD n_4) n_5).flatMap bB).drop 0).take ((aE (smD n_4) n_5).length*4))++((([nI i_9,nI 0,nI 0,nI 0]:List Value).drop 0).take (1*4)))) (.cells true 4 ((aE (smD n_4) tc).flatMap bB)))/\True)/\(True)))))))))))))))))))) (c1q 8 6 (.cells true 4 ((aE (smU n_4) n_5).flatMap bB)) 4 [.agg #[nI 0,nI 100,nI 0,nI 400,nI 0,nI 100,nI 0,nI 3],.agg #[nI 0,nI 0,nI 0,nI 0,nI 0,nI 0,nI 0,nI 0],.agg #[nI 0,nI 0,nI 0,nI 0],.agg #[nI 30,nI 0,nI 0,nI 0,nI 48,nI 0,nI 0,nI 0],nI 1,slQ 6 1 (aE (smU n_4) n_5).length] (.bool true) (c1q 8 7 (.cells true 4 ((aE (smD n_4) n_5).flatMap bB)) 4 [.agg #[nI 0,nI 100,nI 0,nI 400,nI 0,nI 100,nI 0,nI 3],.agg #[nI 0,nI 0,nI 0,nI 0,nI 0,nI 0,nI 0,nI 0],.agg #[nI 0,nI 0,nI 0,nI 0],.agg #[nI 30,nI 0,nI 0,nI 0,nI 48,nI 0,nI 0,nI 0],nI 1,slQ 7 1 (aE (smD n_4) n_5).length] (.bool true) (nw ((n_4:Int)+1) (∃fA:Nat,(fA<=3)/\(3-fA)<(3-n_4)/\true=true/\((nI ((n_4:Int)+1):Value)=nI (fA:Int)/\eR (pt 5)/\True)/\jja))))))) (c1q 7 6 (.cells true 4 ((List.replicate 401 ar).flatMap bB)) 4 [.agg #[nI 0,nI 100,nI 0,nI 400,nI 0,nI 100,nI 0,nI 3],.agg #[nI 0,nI 100,nI 0,nI 400,nI 0,nI 100,nI 0,nI 3],.agg #[nI 0,nI 0,nI 0,nI 0],.agg #[nI 0,nI 0,nI 0,nI 0,nI 0,nI 0,nI 0,nI 0],nI 0,slN 6 401] (.bool true) (c0q 7 9 [] (.bool true) ((.bool true:Value)=sp))))))))))))))))))
abbrev jj1(qn0 qn1 qn2:Nat):Hint:=.go qn0 (.slot qn1 (nI ((qn2:Int)+1)) (.go 0 (.again [])))
abbrev jj2(qn0 qn1 qn2 qn3 qn4:Nat):Hint:=.go qn0 (.slot qn1 (nI ((qn2:Int)+1)) (.go 0 (.again [(qn3,qn4)])))
theorem F9 (sp : Value)  : vE 8 [] ⟨0, .leaf⟩ (some [])
  (.go 5 (.inv 3 (Nat) (0) [] [] (fun J=>[(37,nI (J:Int)),(35,slN 0 24),(36,nI 24)]) (fun J=>[]) (fun J=>[]) (fun J=>[]) (fun J=>(J<=24)) (fun J=>(24-J)) (fun J => .go 0 (.fork (.need (.val (nI (smE.getD J 0)) (.go 0 (.bind Int (fun i_1 => .slot 3 (nI i_1) (NL i_1 22 0 9 (jj1 9 181 J))))))) (.go 1 (.inv 3 (Nat) (0) [(2,1)] [1] (fun U=>[(15,pt 2)]) (fun U=>[(1,false,.dead)]) (fun U=>[(true,.cells true 0 [nI (U:Int)])]) (fun U=>[]) (fun U=>(U<=768)) (fun U=>(768-U)) (fun U => .go 1 (.fork (.go 6 (.slot 191 (nI (Int.tdiv (U:Int) 4)) (.go 3 (.slot 196 (nI (Int.tdiv (U:Int) 16)) (.go 2 (.slot 199 (nI (Int.tdiv (U:Int) 64)) (.go 42 (.slot 219 (nI (Int.tdiv (U:Int) 4)) (.go 3 (.slot 223 (nI (Int.tdiv (U:Int) 16)) (.go 2 (.ans [(5,.cells true 4 (jj5 U))] (.bool true) [] (.go 3 (.inv 3 (Nat) (0) [] [] (fun Z=>[(20,nI (Z:Int)),(19,slQ 6 1 (aE (smA U) Z).length),(15,pt 2),(16,.func (.func 69) #[] #[pt 2]),(17,pt 3),(18,pt 4)]) (fun Z=>[]) (fun Z=>[(true,.cells true 14 ((aE (smA U) Z).flatMap ai))]) (fun Z=>[]) (fun Z=>(Z<=4)) (fun Z=>(4-Z)) (fun Z => .go 1 (.fork (.go 4 (.slot 237 (nI (1+(Int.tmod (Z:Int) 3))) (.go 2 (.slot 240 (nI (1+(Int.tmod (Z:Int) 2))) (.go 2 (.need (.bind Int (fun i_3 => .slot 244 (nI i_3) (.go 2 (.need (.bind Int (fun i_4 => .slot 248 (nI i_4) (.go 3 (.slot 252 (nI ((Int.tmod i_4 4)+(Int.tmod (Z:Int) 2))) (.bind Int (fun i_5 => .slot 252 (nI i_5) (.go 2 (.slot 255 (nI (Int.tdiv (U:Int) 3)) (.go 4 (.need (jj2 2 232 Z 6 8))))))))))))))))))))) (.go 3 (.slot 265 (nI (12*(jje U))) (.go 4 (.slot 270 (nI (2+(jje U))) (.ans [(6,.cells true 14 ((aE (smA U) Z).flatMap ai))] (.bool true) [] (.go 3 (.ans [(6,.cells true 14 ((aE (smA U) Z).flatMap ai))] (.bool true) [] (jj2 7 185 U 2 7)))))))))))))))))))))))) (.go 2 (.inv 3 (Nat) (0) [] [] (fun Z=>[(282,nI (Z:Int)),(280,slN 3 5),(281,nI 5)]) (fun Z=>[]) (fun Z=>[]) (fun Z=>[]) (fun Z=>(Z<=5)) (fun Z=>(5-Z)) (fun Z => .go 0 (.fork (.need (.val (nI (jj6.getD Z 0)) (.go 2 (.inv 3 (Nat) (0) [] [] (fun n_3=>[(24,nI (n_3:Int)),(23,slQ 4 1 (aE smB n_3).length),(281,nI 5),(280,slN 3 5),(282,nI (Z:Int)),(22,nI (jj6.getD Z 0))]) (fun n_3=>[]) (fun n_3=>[(true,.cells true 14 ((aE smB n_3).flatMap ai))]) (fun n_3=>[]) (fun n_3=>(n_3<=1000)) (fun n_3=>(1000-n_3)) (fun n_3 => .go 2 (.fork (.go 4 (.slot 295 (nI (10*(jjb n_3))) (.go 2 (.slot 298 (nI (10*(jjb n_3))) (.go 2 (.slot 301 (nI (5*(Int.tmod (n_3:Int) 2))) (.go 0 (.slot 302 (nI ((10*(jjb n_3))+(5*(Int.tmod (n_3:Int) 2)))) (.bind Int (fun i_4 => .slot 302 (nI i_4) (.go 0 (.slot 303 (nI (i_4+2)) (.go 3 (.need (jj2 2 290 n_3 4 6))))))))))))))) (.go 1 (.ans [(4,.cells true 14 ((aE smB n_3).flatMap ai))] (.bool true) [] (.go 3 (.ans [(4,.cells true 14 ((aE smB n_3).flatMap ai))] (.bool true) [] (jj1 3 319 Z))))))))))) (.go 2 (.inv 3 (Nat) (0) [] [] (fun n_3=>[(322,nI (n_3:Int)),(320,slN 4 2),(321,nI 2)]) (fun n_3=>[]) (fun n_3=>[]) (fun n_3=>[]) (fun n_3=>(n_3<=2)) (fun n_3=>(2-n_3)) (fun n_3 => .go 0 (.fork (.need (.val (nI (jjc.getD n_3 0)) (.go 2 (.inv 3 (Nat) (0) [] [] (fun n_4=>[(28,nI (n_4:Int)),(27,slQ 5 1 (aE smC n_4).length),(321,nI 2),(320,slN 4 2),(322,nI (n_3:Int)),(26,nI (jjc.getD n_3 0))]) (fun n_4=>[]) (fun n_4=>[(true,.cells true 14 ((aE smC n_4).flatMap ai))]) (fun n_4=>[]) (fun n_4=>(n_4<=1000)) (fun n_4=>(1000-n_4)) (fun n_4 => .go 2 (.fork (.go 5 (.slot 336 (nI (Int.tdiv (n_4:Int) 16)) (.go 6 (.need (.go 0 (.obj 7 (.cells true 14 ((aE smC n_4 ++ [fK n_4]).flatMap ai)) (.go 1 (.need (.go 2 (.val (nI ((aE smC n_4 ++ [fK n_4]).getD n_4 ag).cell.aa.hi) (.go 1 (.need (.go 2 (.val (nI ((aE smC n_4 ++ [fK n_4]).getD n_4 ag).cell.aa.lo) (.go 0 (.slot 359 (nI (((aE smC n_4 ++ [fK n_4]).getD n_4 ag).cell.aa.hi+((aE smC n_4 ++ [fK n_4]).getD n_4 ag).cell.aa.lo)) (.bind Int (fun i_5 => .slot 359 (nI i_5) (.need (.go 2 (.need (jj2 1 330 n_4 5 7)))))))))))))))))))))) (.go 1 (.ans [(5,.cells true 14 ((aE smC n_4).flatMap ai))] (.bool true) [] (.go 3 (.ans [(5,.cells true 14 ((aE smC n_4).flatMap ai))] (.bool true) [] (jj1 3 374 n_3))))))))))) (.go 5 (.inv 3 (Nat) (0) [] [] (fun n_4=>[(30,nI (n_4:Int)),(29,pt 5)]) (fun n_4=>[]) (fun n_4=>[]) (fun n_4=>[]) (fun n_4=>(n_4<=3)) (fun n_4=>(3-n_4)) (fun n_4 => .go 1 (.fork (.go 2 (.inv 3 (Nat) (0) [] [] (fun n_5=>[(33,nI (n_5:Int)),(31,slQ 6 1 (aE (smU n_4) n_5).length),(32,slQ 7 1 (aE (smD n_4) n_5).length),(29,pt 5),(30,nI (n_4:Int))]) (fun n_5=>[]) (fun n_5=>[(true,.cells true 4 ((aE (smU n_4) n_5).flatMap bB)),(true,.cells true 4 ((aE (smD n_4) n_5).flatMap bB))]) (fun n_5=>[]) (fun n_5=>(n_5<=40)) (fun n_5=>(40-n_5)) (fun n_5 => .go 1 (.fork (.go 2 (.slot 388 (nI (30*(n_5:Int))) (.go 0 (.slot 389 (nI ((30*(n_5:Int))+23)) (.go 0 (.slot 390 (nI (jj9 n_5)) (.go 2 (.slot 393 (nI (jj8 n_5)) (.go 0 (.slot 394 (nI ((n_4:Int)*(jj8 n_5))) (.bind Int (fun i_6 => .slot 394 (nI i_6) (.go 0 (.slot 395 (nI ((jj9 n_5)+i_6)) (.bind Int (fun i_7 => .slot 395 (nI i_7) (.go 2 (.need (.go 2 (.slot 402 (nI (2*(n_5:Int))) (.go 0 (.slot 403 (nI (100-(2*(n_5:Int)))) (.go 2 (.slot 406 (nI (jj8 n_5)) (.go 0 (.slot 407 (nI ((n_4:Int)*(jj8 n_5))) (.bind Int (fun i_8 => .slot 407 (nI i_8) (.go 0 (.slot 408 (nI ((100-(2*(n_5:Int)))-i_8)) (.go 0 (.bind Int (fun i_9 => .slot 409 (nI i_9) (.go 1 (.need (.go 3 (.slot 385 (nI ((n_5:Int)+1)) (.go 0 (.again [(6,9),(7,11)]))))))))))))))))))))))))))))))))))))))) (.go 11 (.ans [(6,.cells true 4 ((aE (smU n_4) n_5).flatMap bB))] (.bool true) [] (.go 13 (.ans [(7,.cells true 4 ((aE (smD n_4) n_5).flatMap bB))] (.bool true) [] (jj1 4 381 n_4))))))))) (.go 18 (.ans [(6,.cells true 4 ((List.replicate 401 ar).flatMap bB))] (.bool true) [] (.go 0 (.ans [] (.bool true) [] (.auto)))))))))))))))))))))))))
  (fun v _ _ => v = sp) = wX sp  := by kernel_rfl
abbrev jt8(qD0:Cell):List Value:=[.agg #[nI qD0.ae.lo,nI qD0.ae.hi,nI qD0.ab.lo,nI qD0.ab.hi,nI qD0.aa.lo,nI qD0.aa.hi,nI qD0.ac.lo,nI qD0.ac.hi]]
abbrev jt3(qv0:Value):Prop:=(.bool false:Value)=qv0
abbrev jt7(qB0:af):List Value:=[.agg #[nI qB0.up.ae,nI qB0.up.ab,nI qB0.up.aa,nI qB0.up.ac,nI qB0.down.ae,nI qB0.down.ab,nI qB0.down.aa,nI qB0.down.ac]]
abbrev jt5(qD0:Cell)(qG0:Ice):List Value:=[.agg #[nI qD0.ae.lo,nI qD0.ae.hi,nI qD0.ab.lo,nI qD0.ab.hi,nI qD0.aa.lo,nI qD0.aa.hi,nI qD0.ac.lo,nI qD0.ac.hi],.agg #[nI qG0.ae,nI qG0.ab,nI qG0.aa,nI qG0.ac]]
abbrev jt2(qD0 qD1:Cell):List Value:=[.agg #[nI qD0.ae.lo,nI qD0.ae.hi,nI qD0.ab.lo,nI qD0.ab.hi,nI qD0.aa.lo,nI qD0.aa.hi,nI qD0.ac.lo,nI qD0.ac.hi],.agg #[nI qD1.ae.lo,nI qD1.ae.hi,nI qD1.ab.lo,nI qD1.ab.hi,nI qD1.aa.lo,nI qD1.aa.hi,nI qD1.ac.lo,nI qD1.ac.hi]]
abbrev jt4(qD0:Cell)(qB0:af)(qi0:Int):List Value:=[.agg #[nI qD0.ae.lo,nI qD0.ae.hi,nI qD0.ab.lo,nI qD0.ab.hi,nI qD0.aa.lo,nI qD0.aa.hi,nI qD0.ac.lo,nI qD0.ac.hi],.agg #[nI qB0.up.ae,nI qB0.up.ab,nI qB0.up.aa,nI qB0.up.ac,nI qB0.down.ae,nI qB0.down.ab,nI qB0.down.aa,nI qB0.down.ac],nI qi0]
abbrev jtb(qN0:List Ice)(pW pV:Bool×Int):Prop:=wR (slQ 0 2 qN0.length)/\wR (slQ 9 1 qN0.length)/\eR (.bool pW.1)/\eR (nI pW.2)/\eR (.bool pV.1)/\eR (nI pV.2)/\True
abbrev jt6(qN0:List Ice)(jd:Nat):Prop:=cu 4 (qN0.flatMap bB) (0+Int.toNat (jd:Int)*4)=some (.agg #[nI (qN0.getD jd ar).ae,nI (qN0.getD jd ar).ab,nI (qN0.getD jd ar).aa,nI (qN0.getD jd ar).ac])
abbrev jt0(qN0:List Ice)(qv0:Value)(qD0:Cell)(qG0:Ice)(qB0:af)(qD1:Cell)(qi0:Int):=fk (decide ((500:Int)<((qN0.length:Nat):Int))) (c0q 5 9 [] (.bool true) ((.bool true:Value)=qv0)) (∃i_0:Int,(c0q 7 27 (jt8 qD0) (nI i_0) (∃i_1:Int,(c0q 7 28 (jt8 qD0) (nI i_1) (fk ((i_0:Int) != i_1) (jt3 qv0) (∃i_2:Int,(c0q 7 29 [.agg #[nI qG0.ae,nI qG0.ab,nI qG0.aa,nI qG0.ac]] (nI i_2) (∃i_3:Int,(c0q 7 30 [.agg #[nI qG0.ae,nI qG0.ab,nI qG0.aa,nI qG0.ac]] (nI i_3) (fk ((i_2:Int) != i_3) (jt3 qv0) (∃i_4:Int,(c0q 7 31 (jt7 qB0) (nI i_4) (∃i_5:Int,(c0q 7 32 (jt7 qB0) (nI i_5) (fk ((i_4:Int) != i_5) (jt3 qv0) (∃ns:Cell,(c0q 7 33 [] (.agg #[nI ns.ae.lo,nI ns.ae.hi,nI ns.ab.lo,nI ns.ab.hi,nI ns.aa.lo,nI ns.aa.hi,nI ns.ac.lo,nI ns.ac.hi]) (∃nr:Cell,(c0q 7 34 [] (.agg #[nI nr.ae.lo,nI nr.ae.hi,nI nr.ab.lo,nI nr.ab.hi,nI nr.aa.lo,nI nr.aa.hi,nI nr.ac.lo,nI nr.ac.hi]) (fk (!((((ns.ae.lo:Int) == nr.ae.lo)&&(((ns.ae.hi:Int) == nr.ae.hi)&&true))&&((((ns.ab.lo:Int) == nr.ab.lo)&&(((ns.ab.hi:Int) == nr.ab.hi)&&true))&&((((ns.aa.lo:Int) == nr.aa.lo)&&(((ns.aa.hi:Int) == nr.aa.hi)&&true))&&((((ns.ac.lo:Int) == nr.ac.lo)&&(((ns.ac.hi:Int) == nr.ac.hi)&&true))&&true))))) (jt3 qv0) (∃Ke:Bool×Int,(c0q 7 35 (jt5 qD0 qG0) (.tuple #[.bool Ke.1,nI Ke.2]) (∃Kd:Bool×Int,(c0q 7 36 (jt5 qD0 qG0) (.tuple #[.bool Kd.1,nI Kd.2]) (fk (!(Ke.1 == Kd.1)) (jt3 qv0) (fk ((Ke.2:Int) != Kd.2) (jt3 qv0) (∃DA:Bool×Int,(c0q 7 37 (jt2 qD0 qD1) (.tuple #[.bool DA.1,nI DA.2]) (∃Dz:Bool×Int,(c0q 7 38 (jt2 qD0 qD1) (.tuple #[.bool Dz.1,nI Dz.2]) (fk (!(DA.1 == Dz.1)) (jt3 qv0) (fk ((DA.2:Int) != Dz.2) (jt3 qv0) (∃gM:Cell×Int,(c0q 7 39 (jt2 qD0 qD1) (.tuple #[.agg #[nI gM.1.ae.lo,nI gM.1.ae.hi,nI gM.1.ab.lo,nI gM.1.ab.hi,nI gM.1.aa.lo,nI gM.1.aa.hi,nI gM.1.ac.lo,nI gM.1.ac.hi],nI gM.2]) (∃gL:Cell×Int,(c0q 8 40 (jt2 qD0 qD1) (.tuple #[.agg #[nI gL.1.ae.lo,nI gL.1.ae.hi,nI gL.1.ab.lo,nI gL.1.ab.hi,nI gL.1.aa.lo,nI gL.1.aa.hi,nI gL.1.ac.lo,nI gL.1.ac.hi],nI gL.2]) (fk (!((((gM.1.ae.lo:Int) == gL.1.ae.lo)&&(((gM.1.ae.hi:Int) == gL.1.ae.hi)&&true))&&((((gM.1.ab.lo:Int) == gL.1.ab.lo)&&(((gM.1.ab.hi:Int) == gL.1.ab.hi)&&true))&&((((gM.1.aa.lo:Int) == gL.1.aa.lo)&&(((gM.1.aa.hi:Int) == gL.1.aa.hi)&&true))&&((((gM.1.ac.lo:Int) == gL.1.ac.lo)&&(((gM.1.ac.hi:Int) == gL.1.ac.hi)&&true))&&true))))) (jt3 qv0) (fk ((gM.2:Int) != gL.2) (jt3 qv0) (∃gK:Cell×Int,(c0q 9 41 (jt2 qD0 qD1) (.tuple #[.agg #[nI gK.1.ae.lo,nI gK.1.ae.hi,nI gK.1.ab.lo,nI gK.1.ab.hi,nI gK.1.aa.lo,nI gK.1.aa.hi,nI gK.1.ac.lo,nI gK.1.ac.hi],nI gK.2]) (∃gJ:Cell×Int,(c0q 9 42 (jt2 qD0 qD1) (.tuple #[.agg #[nI gJ.1.ae.lo,nI gJ.1.ae.hi,nI gJ.1.ab.lo,nI gJ.1.ab.hi,nI gJ.1.aa.lo,nI gJ.1.aa.hi,nI gJ.1.ac.lo,nI gJ.1.ac.hi],nI gJ.2]) (fk (!((((gK.1.ae.lo:Int) == gJ.1.ae.lo)&&(((gK.1.ae.hi:Int) == gJ.1.ae.hi)&&true))&&((((gK.1.ab.lo:Int) == gJ.1.ab.lo)&&(((gK.1.ab.hi:Int) == gJ.1.ab.hi)&&true))&&((((gK.1.aa.lo:Int) == gJ.1.aa.lo)&&(((gK.1.aa.hi:Int) == gJ.1.aa.hi)&&true))&&((((gK.1.ac.lo:Int) == gJ.1.ac.lo)&&(((gK.1.ac.hi:Int) == gJ.1.ac.hi)&&true))&&true))))) (jt3 qv0) (fk ((gK.2:Int) != gJ.2) (jt3 qv0) (∃gI:Cell×Int,(c0q 9 43 (jt4 qD0 qB0 qi0) (.tuple #[.agg #[nI gI.1.ae.lo,nI gI.1.ae.hi,nI gI.1.ab.lo,nI gI.1.ab.hi,nI gI.1.aa.lo,nI gI.1.aa.hi,nI gI.1.ac.lo,nI gI.1.ac.hi],nI gI.2]) (∃gH:Cell×Int,(c0q 9 44 (jt4 qD0 qB0 qi0) (.tuple #[.agg #[nI gH.1.ae.lo,nI gH.1.ae.hi,nI gH.1.ab.lo,nI gH.1.ab.hi,nI gH.1.aa.lo,nI gH.1.aa.hi,nI gH.1.ac.lo,nI gH.1.ac.hi],nI gH.2]) (fk (!((((gI.1.ae.lo:Int) == gH.1.ae.lo)&&(((gI.1.ae.hi:Int) == gH.1.ae.hi)&&true))&&((((gI.1.ab.lo:Int) == gH.1.ab.lo)&&(((gI.1.ab.hi:Int) == gH.1.ab.hi)&&true))&&((((gI.1.aa.lo:Int) == gH.1.aa.lo)&&(((gI.1.aa.hi:Int) == gH.1.aa.hi)&&true))&&((((gI.1.ac.lo:Int) == gH.1.ac.lo)&&(((gI.1.ac.hi:Int) == gH.1.ac.hi)&&true))&&true))))) (jt3 qv0) (fk ((gI.2:Int) != gH.2) (jt3 qv0) (n1q 9 0 (.cells false 0 (qN0.flatMap bB)) 45 [slQ 0 2 qN0.length] (slQ 9 1 qN0.length) [(.cells true 4 (qN0.flatMap bB):ah)] (∃pW:Bool×Int,(c1q 10 9 (.cells true 4 (qN0.flatMap bB)) 46 [slQ 9 1 qN0.length,.agg #[nI qB0.up.ae,nI qB0.up.ab,nI qB0.up.aa,nI qB0.up.ac,nI qB0.down.ae,nI qB0.down.ab,nI qB0.down.aa,nI qB0.down.ac]] (.tuple #[.bool pW.1,nI pW.2]) (∃pV:Bool×Int,(c1q 10 0 (.cells false 0 (qN0.flatMap bB)) 47 [slQ 0 2 qN0.length,.agg #[nI qB0.up.ae,nI qB0.up.ab,nI qB0.up.aa,nI qB0.up.ac,nI qB0.down.ae,nI qB0.down.ab,nI qB0.down.aa,nI qB0.down.ac]] (.tuple #[.bool pV.1,nI pV.2]) (lq (0<=List.length qN0) (true=true/\((nI 0:Value)=nI ((0:Nat):Int)/\jtb qN0 pW pV)/\(True)/\(True)/\(True)) (∀jd:Nat,(jd<=List.length qN0)->(fk (decide (((jd:Int):Int)<((qN0.length:Nat):Int))) ((ixq (jd:Int) qN0.length)/\((jt6 qN0 jd)/\((ixq (jd:Int) qN0.length)/\((jt6 qN0 jd)/\(fk (!((((qN0.getD jd ar).ae:Int) == (qN0.getD jd ar).ae)&&((((qN0.getD jd ar).ab:Int) == (qN0.getD jd ar).ab)&&((((qN0.getD jd ar).aa:Int) == (qN0.getD jd ar).aa)&&((((qN0.getD jd ar).ac:Int) == (qN0.getD jd ar).ac)&&true))))) (jt3 qv0) (nw ((jd:Int)+1) (∃GQ:Nat,(GQ<=List.length qN0)/\(List.length qN0-GQ)<(List.length qN0-jd)/\true=true/\((nI ((jd:Int)+1):Value)=nI (GQ:Int)/\jtb qN0 pW pV)/\(True)/\(True)/\(True)))))))) (fk (pW.1 == pV.1) (fk ((pW.2:Int) == pV.2) (c0q 10 9 [] (.bool true) ((.bool true:Value)=qv0)) (jt3 qv0)) (jt3 qv0))))))))))))))))))))))))))))))))))))))))))))))))))))))))))))
def IR(sp:Value)(a b:Cell)(x:Ice)(m:af)(hours:Int)(xs:List Ice):Prop :=
 (fk (decide ((60:Int)<((xs.length:Nat):Int))) (fk (decide ((((xs.length:Nat):Int):Int)<=400)) (c0q 5 9 [] (.bool true) ((.bool true:Value)=sp)) (jt0 xs sp a x m b hours)) (jt0 xs sp a x m b hours))
abbrev jta:Hint:=.ans [] (.bool true) [] (.auto)
abbrev jt9(qN0:List Ice)(J:Nat):Value:=.agg #[nI (qN0.getD J ar).ae,nI (qN0.getD J ar).ab,nI (qN0.getD J ar).aa,nI (qN0.getD J ar).ac]
abbrev jt1(qN0:List Ice):Hint:=.fork jta (.go 7 (.bind (Int) (fun r0 => .ans [] (nI r0) [] (.bind (Int) (fun r1 => .ans [] (nI r1) [] (.go 1 (.am (.auto) (.go 1 (.bind (Int) (fun r2 => .ans [] (nI r2) [] (.bind (Int) (fun r3 => .ans [] (nI r3) [] (.go 2 (.am (.auto) (.go 10 (.bind (Int) (fun r4 => .ans [] (nI r4) [] (.bind (Int) (fun r5 => .ans [] (nI r5) [] (.go 2 (.am (.auto) (.bind (Cell) (fun r6 => .ans [] (.agg #[nI r6.ae.lo,nI r6.ae.hi,nI r6.ab.lo,nI r6.ab.hi,nI r6.aa.lo,nI r6.aa.hi,nI r6.ac.lo,nI r6.ac.hi]) [] (.bind (Cell) (fun r7 => .ans [] (.agg #[nI r7.ae.lo,nI r7.ae.hi,nI r7.ab.lo,nI r7.ab.hi,nI r7.aa.lo,nI r7.aa.hi,nI r7.ac.lo,nI r7.ac.hi]) [] (.go 1 (.fork (.auto) (.go 1 (.bind (Bool×Int) (fun r8 => .ans [] (.tuple #[.bool r8.1,nI r8.2]) [] (.go 6 (.bind (Bool×Int) (fun r9 => .ans [] (.tuple #[.bool r9.1,nI r9.2]) [] (.go 8 (.am (.auto) (.go 3 (.fork (.auto) (.go 1 (.bind (Bool×Int) (fun r10 => .ans [] (.tuple #[.bool r10.1,nI r10.2]) [] (.go 6 (.bind (Bool×Int) (fun r11 => .ans [] (.tuple #[.bool r11.1,nI r11.2]) [] (.go 8 (.am (.auto) (.go 3 (.fork (.auto) (.go 1 (.bind (Cell×Int) (fun r12 => .ans [] (.tuple #[.agg #[nI r12.1.ae.lo,nI r12.1.ae.hi,nI r12.1.ab.lo,nI r12.1.ab.hi,nI r12.1.aa.lo,nI r12.1.aa.hi,nI r12.1.ac.lo,nI r12.1.ac.hi],nI r12.2]) [] (.go 7 (.bind (Cell×Int) (fun r13 => .ans [] (.tuple #[.agg #[nI r13.1.ae.lo,nI r13.1.ae.hi,nI r13.1.ab.lo,nI r13.1.ab.hi,nI r13.1.aa.lo,nI r13.1.aa.hi,nI r13.1.ac.lo,nI r13.1.ac.hi],nI r13.2]) [] (.go 9 (.am (.auto) (.go 3 (.fork (.auto) (.go 1 (.bind (Cell×Int) (fun r14 => .ans [] (.tuple #[.agg #[nI r14.1.ae.lo,nI r14.1.ae.hi,nI r14.1.ab.lo,nI r14.1.ab.hi,nI r14.1.aa.lo,nI r14.1.aa.hi,nI r14.1.ac.lo,nI r14.1.ac.hi],nI r14.2]) [] (.go 6 (.bind (Cell×Int) (fun r15 => .ans [] (.tuple #[.agg #[nI r15.1.ae.lo,nI r15.1.ae.hi,nI r15.1.ab.lo,nI r15.1.ab.hi,nI r15.1.aa.lo,nI r15.1.aa.hi,nI r15.1.ac.lo,nI r15.1.ac.hi],nI r15.2]) [] (.go 8 (.am (.auto) (.go 3 (.fork (.auto) (.go 11 (.bind (Cell×Int) (fun r16 => .ans [] (.tuple #[.agg #[nI r16.1.ae.lo,nI r16.1.ae.hi,nI r16.1.ab.lo,nI r16.1.ab.hi,nI r16.1.aa.lo,nI r16.1.aa.hi,nI r16.1.ac.lo,nI r16.1.ac.hi],nI r16.2]) [] (.go 7 (.bind (Cell×Int) (fun r17 => .ans [] (.tuple #[.agg #[nI r17.1.ae.lo,nI r17.1.ae.hi,nI r17.1.ab.lo,nI r17.1.ab.hi,nI r17.1.aa.lo,nI r17.1.aa.hi,nI r17.1.ac.lo,nI r17.1.ac.hi],nI r17.2]) [] (.go 8 (.am (.auto) (.go 3 (.fork (.auto) (.go 0 (.ans [(0,.cells false 0 (qN0.flatMap bB))] (slQ 9 1 qN0.length) [.cells true 4 (qN0.flatMap bB)] (.go 11 (.bind (Bool×Int) (fun r19 => .ans [(9,.cells true 4 (qN0.flatMap bB))] (.tuple #[.bool r19.1,nI r19.2]) [] (.go 6 (.bind (Bool×Int) (fun r20 => .ans [(0,.cells false 0 (qN0.flatMap bB))] (.tuple #[.bool r20.1,nI r20.2]) [] (.go 5 (.inv 3 (Nat) (0) [] [] (fun J=>[(22,nI (J:Int)),(5,slQ 0 2 qN0.length),(21,slQ 9 1 qN0.length),(15,.bool r19.1),(16,nI r19.2),(17,.bool r20.1),(18,nI r20.2)]) (fun J=>[]) (fun J=>[]) (fun J=>[]) (fun J=>(J<=List.length qN0)) (fun J=>(List.length qN0-J)) (fun J => .go 3 (.fork (.go 1 (.need (.val (jt9 qN0 J) (.go 1 (.need (.val (jt9 qN0 J) (.go 0 (.fork (.auto) (.go 1 (.slot 187 (nI ((J:Int)+1)) (.go 0 (.again [])))))))))))) (.go 3 (.am (.go 4 (.am jta (.auto))) (.auto))))))))))))))))))))))))))))))))))))))))))))))))))))))))))))))))))))))))))))))))))))))))))))
theorem Ny(sp:Value)(a b:Cell)(x:Ice)(m:af)(hours:Int)(xs:List Ice):vE 4 [.agg #[nI a.ae.lo,nI a.ae.hi,nI a.ab.lo,nI a.ab.hi,nI a.aa.lo,nI a.aa.hi,nI a.ac.lo,nI a.ac.hi],.agg #[nI b.ae.lo,nI b.ae.hi,nI b.ab.lo,nI b.ab.hi,nI b.aa.lo,nI b.aa.hi,nI b.ac.lo,nI b.ac.hi],.agg #[nI x.ae,nI x.ab,nI x.aa,nI x.ac],.agg #[nI m.up.ae,nI m.up.ab,nI m.up.aa,nI m.up.ac,nI m.down.ae,nI m.down.ab,nI m.down.aa,nI m.down.ac],nI hours,slQ 0 2 xs.length] (aH 0 [xs.flatMap bB]) (some [])
 (.go 8 (.am (.go 4 (.am (.go 1 jta) (.go 3 (jt1 xs)))) (.go 5 (jt1 xs))))
 (fun v _ _=>v=sp)=IR sp a b x m hours xs:=by kernel_rfl
end
end Go.Proofs.YthcjliffpebjaaaGreat
