/- Maps whose values are lists: what is known of one, and what stays known. No condition. -/
import Derived.Test.YthcjliffpebjaaaGreatGR3xT0
import Derived.Test.YthcjliffpebjaaaGreatGB4xS6g
import Derived.Test.YthcjliffpebjaaaGreatGA4xS10
import Derived.Test.YthcjliffpebjaaaGreatGX0xS4a
import Derived.Test.YthcjliffpebjaaaGreatGV11xV14
import Derived.Test.YthcjliffpebjaaaGreatGV3xK38
import Derived.Test.YthcjliffpebjaaaGreatGS4gxP1a
import Derived.Test.YthcjliffpebjaaaGreatGP5xB3
import Derived.Test.YthcjliffpebjaaaGreatGS11gxR6g
import Derived.Shelf.Sort.Plain
import Derived.Ground.Names2Prog
import Derived.Test.YthcjliffpebjaaaGreatChecked
open Go Go.K
set_option maxRecDepth 1000000
set_option maxHeartbeats 4000000
set_option linter.unusedVariables false
set_option linter.unusedSimpArgs false
namespace Go.K
section
variable {κ β:Type} [DecidableEq κ]
theorem yZ(k:κ)(u v:β):∀F:List (κ×β),c9 k v (c9 k u F)=c9 k v F
 | [] =>by show (if k=k then [(k,v)] else _)=[(k,v)];rw[if_pos rfl]
 |e :: F=>by
  show c9 k v (if e.1=k then (k,u) :: F else e :: c9 k u F)=if e.1=k then (k,v) :: F else e :: c9 k v F
  by_cases q:e.1=k
  ·rw[if_pos q,if_pos q];show (if k=k then (k,v) :: F else _)=_;rw[if_pos rfl]
  ·rw[if_neg q,if_neg q];show (if e.1=k then _ else e :: c9 k v (c9 k u F))=_;rw[if_neg q,yZ k u v F]
theorem AH(key:κ->Value)(val:β->Value)(k:κ)(d:β):∀F:List (κ×β),dY k F=true->(dU key val F)[fJ k F]?=some (key k,val (iG k d F))
 | [],h=>by cases h
 |e :: F,h=>by
  unfold dY at h;unfold fJ iG
  by_cases q:e.1=k
  ·rw[if_pos q,if_pos q];show some (key e.1,val e.2)=_;rw[q]
  ·rw[if_neg q]at h ⊢;rw[if_neg q]
   show (dU key val F)[fJ k F]?=_
   exact AH key val k d F h
theorem gD(key:κ->Value)(val:β->Value)(k:κ)(v:β):∀F:List (κ×β),(dU key val (c9 k v F))[fJ k F]?=some (key k,val v)
 | [] =>rfl
 |e :: F=>by
  unfold fJ c9
  by_cases q:e.1=k
  ·rw[if_pos q,if_pos q];rfl
  ·rw[if_neg q,if_neg q]
   show (dU key val (c9 k v F))[fJ k F]?=_
   exact gD key val k v F
theorem gC(key:κ->Value)(val:β->Value)(k:κ)(u v:β):∀F:List (κ×β),(dU key val (c9 k u F)).set (fJ k F) (key k,val v)=dU key val (c9 k v F)
 | [] =>rfl
 |e :: F=>by
  unfold fJ c9
  by_cases q:e.1=k
  ·rw[if_pos q,if_pos q,if_pos q];rfl
  ·rw[if_neg q,if_neg q,if_neg q]
   show (key e.1,val e.2) :: (dU key val (c9 k u F)).set (fJ k F) _=(key e.1,val e.2) :: dU key val (c9 k v F)
   rw[gC key val k u v F]
theorem vP(k:κ)(v:β)(j:κ):∀F:List (κ×β),j∈(c9 k v F).map (·.1) ↔ j=k∨j∈F.map (·.1)
 | [] =>by unfold c9;simp
 |e :: F=>by
  unfold c9
  by_cases q:e.1=k
  ·rw[if_pos q];simp only[List.map_cons,List.mem_cons,q]
   exact ⟨fun h=>h.elim .inl fun h => .inr (.inr h),fun h=>h.elim .inl fun h=>h⟩
  ·rw[if_neg q];simp only[List.map_cons,List.mem_cons,vP k v j F]
   exact ⟨fun h=>h.elim (fun h => .inr (.inl h)) fun h=>h.elim .inl fun h => .inr (.inr h),fun h=>h.elim (fun h => .inr (.inl h)) fun h=>h.elim .inl fun h => .inr (.inr h)⟩
theorem sX(k:κ)(v:β):∀F:List (κ×β),(F.map (·.1)).Nodup->((c9 k v F).map (·.1)).Nodup
 | [],_=>by unfold c9;simp
 |e :: F,h=>by
  rw[List.map_cons,List.nodup_cons]at h
  unfold c9
  by_cases q:e.1=k
  ·rw[if_pos q,List.map_cons,List.nodup_cons];rw[q]at h;exact h
  ·rw[if_neg q,List.map_cons,List.nodup_cons]
   exact ⟨fun hm=>((vP k v e.1 F).1 hm).elim q h.1,sX k v F h.2⟩
theorem ye(d:β):∀{F:List (κ×β)} {i:Nat} {k:κ} {v:β},(F.map (·.1)).Nodup->F[i]?=some (k,v)->dY k F=true/\iG k d F=v
 | [],i,k,v,_,h=>by cases h
 |e :: F,0,k,v,_,h=>by
  cases h
  unfold dY iG
  rw[if_pos rfl,if_pos rfl];exact ⟨rfl,rfl⟩
 |e :: F,i+1,k,v,hn,h=>by
  rw[List.map_cons,List.nodup_cons]at hn
  have h':F[i]?=some (k,v):=h
  have hm:k∈F.map (·.1):=List.mem_map.2 ⟨(k,v),List.mem_of_getElem? h',rfl⟩
  have q:¬ e.1=k:=fun q=>hn.1 (q ▸ hm)
  unfold dY iG
  rw[if_neg q,if_neg q]
  exact ye d hn.2 h'
end
structure Mb(κ:Type) where
 A:List (κ×Value)
 ks:κ->Nat
 ms:List Value
structure MbI{κ α:Type}[DecidableEq κ](F z:Nat)(enc:α->List Value)(rows:κ->List α)(T:Mb κ):Prop where
 nd:(T.A.map (·.1)).Nodup
 m0:T.ms[0]?=some (.int .i64 (z:Int))
 fx:∀v∈T.ms,rr v
 has:∀k,dY k T.A=decide (0<(rows k).length)
 vl:∀k d,0<(rows k).length->iG k d T.A=ff (rows k).length F (T.ks k)
 rw:∀k,0<(rows k).length->T.ms[T.ks k+1]?=some (.agg ⟨(rows k).flatMap enc⟩)
 dj:∀k l,k≠l->0<(rows k).length->0<(rows l).length->T.ks k≠T.ks l
section
variable {κ α:Type} [DecidableEq κ] {F z:Nat} {enc:α->List Value} {rows:κ->List α} {T:Mb κ}
def Mb.new(κ:Type)(z:Nat):Mb κ:=⟨[],fun _=>0,[.int .i64 (z:Int)]⟩
theorem MbI.new(F z:Nat)(enc:α->List Value):MbI F z enc (fun _:κ=>[]) (Mb.new κ z):=by
 refine ⟨List.nodup_nil,rfl,fun v hv σ =>?_,fun k=>rfl,fun k d h=>absurd h (Nat.lt_irrefl 0),fun k h=>absurd h (Nat.lt_irrefl 0),fun k l _ h=>absurd h (Nat.lt_irrefl 0)⟩
 cases List.mem_singleton.1 hv;rfl
theorem MbI.pos(I:MbI F z enc rows T):0<T.ms.length:=(List.getElem?_eq_some_iff.1 I.m0).1
theorem MbI.lt(I:MbI F z enc rows T){k:κ}(h:0<(rows k).length):T.ks k+1<T.ms.length:=(List.getElem?_eq_some_iff.1 (I.rw k h)).1
def Mb.put(F:Nat)(t:κ)(r:Nat)(row:List Value)(q:Nat)(T:Mb κ):Mb κ:=⟨c9 t (ff q F (T.ms.length-1)) T.A,fun j=>if j=t then T.ms.length-1 else T.ks j,cI q (a8 r (T.ks t) T.ms) row⟩
theorem MbI.put(I:MbI F z enc rows T)(t:κ)(l:List α)(h0:0<l.length)(hf:∀(σ:Nat->Option Nat) (x:α),∀v∈enc x,rn σ 2 v=v){row:List Value}(e:row=l.flatMap enc) :
  MbI F z enc (fun j=>if j=t then l else rows j) (T.put F t (rows t).length row l.length):=by
 subst e
 have hp:=I.pos
 have hfx:=l4 (r:=(rows t).length) (k:=T.ks t) I.fx
 have hll:=l0 (rows t).length (T.ks t) T.ms
 have hle:∀j,j≠t->0<(rows j).length->(a8 (rows t).length (T.ks t) T.ms)[T.ks j+1]?=T.ms[T.ks j+1]? := fun j hne h=>by
  cases hr:(rows t).length with
  |zero=>rfl
  |succ r =>
   show (T.ms.set (T.ks t+1) junk)[_]?=_
   rw[List.getElem?_set_ne fun e=>I.dj t j (Ne.symm hne) Om h Om]
 have hz0:(a8 (rows t).length (T.ks t) T.ms)[0]?=T.ms[0]? := by
  cases hr:(rows t).length with
  |zero=>rfl
  |succ r=>exact List.getElem?_set_ne Om
 have hmr:cI l.length (a8 (rows t).length (T.ks t) T.ms) (l.flatMap enc)=a8 (rows t).length (T.ks t) T.ms ++ [.agg ⟨l.flatMap enc⟩]:=by
  cases hq:l.length with
  |zero=>omega
  |succ q=>rfl
 refine ⟨sX _ _ _ I.nd,?_,?_,fun k =>?_,fun k d hk =>?_,fun k hk =>?_,fun k u hne h1 h2 =>?_⟩
 ·show (cI _ _ _)[0]?=_
  rw[hmr,List.getElem?_append_left Om,hz0];exact I.m0
 ·intro v hv
  have hv:v∈cI l.length (a8 (rows t).length (T.ks t) T.ms) (l.flatMap enc):=hv
  rw[hmr]at hv
  rcases List.mem_append.1 hv with hv|hv
  ·exact hfx v hv
  ·cases List.mem_singleton.1 hv
   refine vL fun σ v hv =>?_
   obtain ⟨x,_,hx⟩:=List.mem_flatMap.1 hv
   exact hf σ x v hx
 ·show dY k (c9 t _ T.A)=_
  rw[An,I.has]
  by_cases h:k=t
  ·rw[if_pos h,decide_eq_true h,decide_eq_true h0];rfl
  ·rw[if_neg h,decide_eq_false h];rfl
 ·show iG k d (c9 t _ T.A)=ff (if k=t then l else rows k).length F (if k=t then _ else _)
  rw[pX]
  by_cases h:k=t
  ·rw[if_pos h,if_pos h,if_pos h]
  ·rw[if_neg h]at hk
   rw[if_neg h,if_neg h,if_neg h];exact I.vl k d hk
 ·show (cI _ _ _)[(if k=t then T.ms.length-1 else T.ks k)+1]?=some (.agg ⟨(if k=t then l else rows k).flatMap enc⟩)
  rw[hmr]
  by_cases h:k=t
  ·rw[if_pos h,if_pos h,List.getElem?_append_right Om,show T.ms.length-1+1-(a8 (rows t).length (T.ks t) T.ms).length=0 by omega];rfl
  ·rw[if_neg h]at hk
   rw[if_neg h,if_neg h,List.getElem?_append_left (by have:=I.lt hk;omega),hle k h hk]
   exact I.rw k hk
 ·show (if k=t then T.ms.length-1 else T.ks k)≠(if u=t then T.ms.length-1 else T.ks u)
  by_cases a:k=t
  ·have b:¬ u=t:=fun b=>hne (a.trans b.symm)
   rw[if_neg b]at h2
   rw[if_pos a,if_neg b]
   have:=I.lt h2;omega
  ·rw[if_neg a]at h1
   rw[if_neg a]
   by_cases b:u=t
   ·rw[if_pos b]
    have:=I.lt h1;omega
   ·rw[if_neg b]at h2
    rw[if_neg b];exact I.dj k u hne h1 h2
end
end Go.K
namespace Go.K
section
variable {κ β:Type} [DecidableEq κ]
theorem zW(k:κ)(v:β):∀F:List (κ×β),fJ k (c9 k v F)=fJ k F
 | [] =>by show (if k=k then 0 else _)=0;rw[if_pos rfl]
 |e :: F=>by
  show fJ k (if e.1=k then (k,v) :: F else e :: c9 k v F)=if e.1=k then 0 else fJ k F+1
  by_cases q:e.1=k
  ·rw[if_pos q,if_pos q];show (if k=k then 0 else _)=0;rw[if_pos rfl]
  ·rw[if_neg q,if_neg q];show (if e.1=k then 0 else fJ k (c9 k v F)+1)=_;rw[if_neg q,zW k v F]
theorem Du(k:κ):∀F:List (κ×β),dY k F=false->fJ k F=F.length
 | [],_=>rfl
 |e :: F,h=>by
  unfold dY at h
  show (if e.1=k then 0 else fJ k F+1)=_
  by_cases q:e.1=k
  ·rw[if_pos q]at h;cases h
  ·rw[if_neg q]at h ⊢;rw[Du k F h];rfl
theorem y0(k:κ)(d:β):∀F:List (κ×β),dY k F=true->c9 k (iG k d F) F=F
 | [],h=>by cases h
 |e :: F,h=>by
  unfold dY at h
  show (if e.1=k then (k,iG k d (e :: F)) :: F else e :: c9 k (iG k d (e :: F)) F)=_
  have g:iG k d (e :: F)=if e.1=k then e.2 else iG k d F:=rfl
  by_cases q:e.1=k
  ·rw[if_pos q,g,if_pos q,<- q]
  ·rw[if_neg q]at h
   rw[if_neg q,g,if_neg q,y0 k d F h]
variable {P:Program} {kt:TypeId} {key:κ->Value} {val:β->Value}
theorem Lb(hk:∀a b,cN P Op.maxDepth kt (key a) (key b)=some (decide (a=b)))(hq:∀a,pG (key a) (key a)=true)(k:κ)(d:β){z:Value}(hz:val d=z)(F:List (κ×β)) :
  tM P kt z (key k) (dU key val F)=some (dU key val (c9 k (iG k d F) F),.tuple #[val (iG k d F),.int .i64 ((fJ k F:Nat):Int)]):=by
 unfold tM
 rw[xH hk k d F 0]
 cases h:dY k F with
 |true =>
  rw[if_pos rfl,y0 k d F h]
  obtain ⟨x,hx⟩:=DZ (key:=key) (val:=val) k F h
  simp only[Nat.zero_add]
  rw[hx]
  simp only[hq]
 |false =>
  rw[if_neg (by simp),pY k d F h,C4 k d F h,Du k F h,uH,<- hz]
  show some (dU key val F ++ [(key k,val d)],_)=some (dU key val (F ++ [(k,d)]),_)
  simp[dU]
omit [DecidableEq κ] in
theorem H7{es:List (Value×Value)}{i:Nat}{k v:Value}(h:es[i]?=some (k,v))(x:Value):wo (.int .i64 (i:Int)) x es=some (es.set i (k,x)):=by
 show (match es[Int.toNat (i:Int)]? with|some (k,_)=>if 0<=(i:Int) then some (es.set (Int.toNat (i:Int)) (k,x)) else none|none=>none)=_
 rw[Int.toNat_natCast,h]
 show (if 0<=(i:Int) then _ else _)=_
 rw[if_pos Om]
end
end Go.K
namespace Go.Proofs.YthcjliffpebjaaaGreat
noncomputable section
def kxy(r:Report):Int×Int:=(r.x,r.y)
def atN(l:List Report)(i:Nat)(q:Int×Int):List Nat:=(List.range i).filter fun k=>decide (kxy (l.getD k ag)=q)
def cg(l:List Report)(i:Nat)(q:Int×Int):List Int:=(atN l i q).map fun k:Nat=>(k:Int)
open Classical in
def jo(w h:Int)(l:List Report)(now:Int)(i:Nat):Int :=
 if errReport (l.getD i ag)=0 then (if ∃k,k<i/\(l.getD k ag).id=(l.getD i ag).id then 10 else
  if (l.getD i ag).x ≥ w∨(l.getD i ag).y ≥ h then 1 else if (l.getD i ag).at_ > now then 12 else if 12<=(atN l i (kxy (l.getD i ag))).length then 2 else 0) else errReport (l.getD i ag)
def iR(w h:Int)(l:List Report)(m:af)(now:Int):Int:=cX (aW w h now) (cX (aM m) (if 400<l.length then 2 else cj (jo w h l now) l.length))
def cS(l:List Report)(m:af)(now:Int)(q:Int×Int):List Cell:=(atN l l.length q).map fun k=>bW (l.getD k ag) m now
def cellAt(l:List Report)(m:af)(now:Int)(q:Int×Int):Cell:=(di (cS l m now q) (bI (cS l m now q))).getD aj
def lv(l:List Report)(m:af)(now:Int)(k:Nat):Bool:=!(bM (cS l m now (kxy (l.getD k ag))).length (bI (cS l m now (kxy (l.getD k ag)))) (atN l k (kxy (l.getD k ag))).length)
def ca(l:List Report)(m:af)(now:Int)(n:Nat):List Int:=((List.range n).filter (lv l m now)).map fun k:Nat=>(k:Int)
def plQ(w:Int)(p:Nat):Int×Int:=((p:Int) % w,(p:Int) / w)
def qa(w h:Int)(l:List Report)(m:af)(now:Int):List Cell:=aE (fun p=>cellAt l m now (plQ w p)) (Int.toNat (w*h))
def bS(n:Nat):List Cell:=List.replicate n aO
def bA(w h t:Int):dQ×Int:=if aW w h t=0 then (⟨w,h,t,bS (Int.toNat (w*h))⟩,0) else (bR,aW w h t)
def aP(w h:Int)(l:List Report)(m:af)(now:Int):dQ×List Int×Int :=
 if iR w h l m now=0 then (⟨w,h,now,qa w h l m now⟩,ca l m now l.length,0) else (bR,[],iR w h l m now)
def du(c:Cell)(n x:Nat):List Cell:=List.replicate x c++List.replicate (n-x) aj
end
end Go.Proofs.YthcjliffpebjaaaGreat
namespace Go.Proofs.YthcjliffpebjaaaGreat
noncomputable section
attribute [local irreducible] vF
abbrev jcf(n:Nat):Int:=(n:Nat)
abbrev jcd(n:Nat):=Int.fdiv (jcf n) (2 ^ 32)
abbrev jc5(qi0:Int):=Int.fdiv ((0*qi0)+(Int.fdiv (1*qi0) (2 ^ 32))) (2 ^ 32)
abbrev jc4(qi0:Int)(qn0:Nat):=Int.fdiv (qi0+(1*(Int.fdiv ((qn0:Nat):Int) (2 ^ 32)))) (2 ^ 32)
def OT(sp:Value)(n:Nat):Prop :=
 (∃i_0:Int,(.int .u64 (IntKind.wrap .u64 ((BitVec.ofInt (IntKind.bits .u64) (jcf n) &&& BitVec.ofInt (IntKind.bits .u64) 4294967295).toNat:Nat)):Value) = .int .u64 i_0/\((.int .u64 (IntKind.wrap .u64 (1*i_0)):Value) = .int .u64 (1*i_0)/\((.int .u64 (IntKind.wrap .u64 (0*i_0)):Value) = .int .u64 (0*i_0)/\((.int .u64 (IntKind.wrap .u64 ((0*i_0)+(Int.fdiv (1*i_0) (2 ^ 32)))):Value) = .int .u64 ((0*i_0)+(Int.fdiv (1*i_0) (2 ^ 32)))/\(∃i_1:Int,(.int .u64 (IntKind.wrap .u64 ((BitVec.ofInt (IntKind.bits .u64) ((0*i_0)+(Int.fdiv (1*i_0) (2 ^ 32))) &&& BitVec.ofInt (IntKind.bits .u64) 4294967295).toNat:Nat)):Value) = .int .u64 i_1/\((.int .u64 (IntKind.wrap .u64 (1*(jcd n))):Value) = .int .u64 (1*(jcd n))/\((.int .u64 (IntKind.wrap .u64 (i_1+(1*(jcd n)))):Value) = .int .u64 (i_1+(1*(jcd n)))/\((.int .u64 (IntKind.wrap .u64 (0*(jcd n))):Value) = .int .u64 (0*(jcd n))/\((.int .u64 (IntKind.wrap .u64 ((0*(jcd n))+(jc5 i_0))):Value) = .int .u64 ((0*(jcd n))+(jc5 i_0))/\(∃i_2:Int,(.int .u64 ((0*(jcd n))+(jc5 i_0)):Value) = .int .u64 i_2/\((.int .u64 (IntKind.wrap .u64 (i_2+(jc4 i_1 n))):Value) = .int .u64 (i_2+(jc4 i_1 n))/\((.int .u64 (IntKind.wrap .u64 (1*(jcf n))):Value) = .int .u64 (1*(jcf n))/\(.tuple #[.int .u64 (i_2+(jc4 i_1 n)),.int .u64 (1*(jcf n))]:Value)=sp))))))))))))
theorem PD(sp:Value)(n:Nat):vE 150 [.int .u64 1,.int .u64 (jcf n)] ⟨0,.leaf⟩ (some [])
 (.go 14 (.bind Int (fun i_0 => .slot 19 (.int .u64 i_0) (.go 6 (.slot 24 (.int .u64 (1*i_0)) (.go 3 (.slot 27 (.int .u64 (0*i_0)) (.go 2 (.slot 30 (.int .u64 ((0*i_0)+(Int.fdiv (1*i_0) (2 ^ 32)))) (.go 2 (.bind Int (fun i_1 => .slot 32 (.int .u64 i_1) (.go 7 (.slot 38 (.int .u64 (1*(jcd n))) (.go 0 (.slot 39 (.int .u64 (i_1+(1*(jcd n)))) (.go 3 (.slot 42 (.int .u64 (0*(jcd n))) (.go 1 (.slot 44 (.int .u64 ((0*(jcd n))+(jc5 i_0))) (.bind Int (fun i_2 => .slot 44 (.int .u64 i_2) (.go 2 (.slot 47 (.int .u64 (i_2+(jc4 i_1 n))) (.go 3 (.slot 50 (.int .u64 (1*(jcf n))) (.auto)))))))))))))))))))))))))))
 (fun v _ _=>v=sp)=OT sp n:=by kernel_rfl
abbrev jcb(n:Nat):=IntKind.wrap .i64 (jcf n)
abbrev jch(n:Nat):=min 1 (jcb n).toNat
abbrev jc3(qD0:Cell):List Value:=[nI qD0.ae.lo,nI qD0.ae.hi,nI qD0.ab.lo,nI qD0.ab.hi,nI qD0.aa.lo,nI qD0.aa.hi,nI qD0.ac.lo,nI qD0.ac.hi]
abbrev jca(qn0:Nat):=dX [nI 0,nI 0,nI 0,nI 0,nI 0,nI 0,nI 0,nI 0] (IntKind.wrap .i64 ((qn0:Nat):Int)).toNat
abbrev jc9(qn0:Nat):Value:=.slice (some ⟨1,0,none⟩) (IntKind.wrap .i64 ((qn0:Nat):Int)).toNat (IntKind.wrap .i64 ((qn0:Nat):Int)).toNat
abbrev jce(J:Nat):Int:=((J+1):Nat)
abbrev jc7(qn0 qn1:Nat):Prop:=(0:Int)<=(((qn0+1):Nat):Int)/\((((qn0+1):Nat):Int):Int)<=(((IntKind.wrap .i64 ((qn1:Nat):Int)).toNat:Nat):Int)
abbrev jc2(qn0 qn1:Nat):=min (qn0+1) ((IntKind.wrap .i64 ((qn1:Nat):Int)).toNat-(qn0+1))
def Ep(c:Cell)(n:Nat):Prop :=
 (fk (decide (((jcf n):Int)<0)) False (c0q 1 150 [.int .u64 1,.int .u64 (IntKind.wrap .u64 (jcf n))] (.tuple #[.int .u64 0,.int .u64 (jcf n)]) (fk (decide ((9223372036854775807:Int)<(jcf n))) False (((0:Int)<=(jcb n)/\((jcb n):Int)<=(jcb n)/\((jcb n):Int)<2 ^ 62/\64*((jcb n):Int)<=2 ^ 48)/\((((jch n)<=1/\0+(jch n)*8<=List.length (jc3 c))/\0+(jch n)*8<=List.length (jca n)/\List.all (((jc3 c).drop 0).take ((jch n)*8)) (fun v=>dS v)=true)/\true=true/\(lq (0+1<=n) (true=true/\((nI (((jch n):Nat):Int):Value)=nI (((0+1):Nat):Int)/\eR (.slice none 0 0)/\eR (jc9 n)/\True)/\((kbq 2 (.cells true 8 (bQ (jca n) 0 (((jc3 c).drop 0).take ((jch n)*8)))) (.cells true 8 ((du c n (0+1)).flatMap cellC)))/\True)/\(True)/\(True)) (∀J:Nat,(J+1<=n)->(fk (decide (((jce J):Int)<(((jcb n).toNat:Nat):Int))) (((true=false∨8=0∨8=8)/\((jcb n).toNat<=(jcb n).toNat)/\(jc7 J n))/\((.slice (some ⟨1,(0+(jce J).toNat*8),none⟩) ((jcb n).toNat-(jce J).toNat) ((jcb n).toNat-(jce J).toNat):Value) = .slice (some ⟨1,(0+(jce J).toNat*8),none⟩) ((jcb n).toNat-(J+1)) ((jcb n).toNat-(J+1))/\(((true=false∨8=0∨8=8)/\(jc7 J n)/\(0<=(jce J).toNat))/\((.slice (some ⟨1,0,none⟩) ((jce J).toNat-0) ((jcb n).toNat-0):Value) = .slice (some ⟨1,0,none⟩) (J+1) (jcb n).toNat/\((((jc2 J n)<=(J+1)/\0+(jc2 J n)*8<=List.length ((du c n (J+1)).flatMap cellC))/\(0+(jce J).toNat*8)+(jc2 J n)*8<=List.length ((du c n (J+1)).flatMap cellC)/\List.all ((((du c n (J+1)).flatMap cellC).drop 0).take ((jc2 J n)*8)) (fun v=>dS v)=true)/\true=true/\(nw ((jce J)+(((jc2 J n):Nat):Int)) (∃i_1:Int,bw ((jce J)+(((jc2 J n):Nat):Int)) i_1/\(∃bH:Nat,(bH+1<=n)/\(n-bH)<(n-J)/\true=true/\((nI i_1:Value)=nI (((bH+1):Nat):Int)/\eR (.slice none 0 0)/\eR (jc9 n)/\True)/\((kbq 2 (.cells true 8 (bQ ((du c n (J+1)).flatMap cellC) (0+(jce J).toNat*8) ((((du c n (J+1)).flatMap cellC).drop 0).take ((jc2 J n)*8)))) (.cells true 8 ((du c n (bH+1)).flatMap cellC)))/\True)/\(True)/\(True))))))))) (true=true/\wk (.slice (some ⟨1,0,none⟩) (jcb n).toNat (jcb n).toNat:Value) (rn (sg 1 [(1,1)]) 3 (slQ 1 1 n:Value))/\((kbq 1 (.cells true 8 ((du c n (J+1)).flatMap cellC)) (.cells true 8 ((du c n n).flatMap cellC)))/\True))))))))))
theorem KP(c:Cell)(n:Nat):vE 125 [slQ 0 2 1,nI (jcf n)] (aH 0 [cellC c]) (some [])
 (.go 2 (.fork (.auto) (.go 4 (.ans [] (.tuple #[.int .u64 0,.int .u64 (jcf n)]) [] (.go 10 (.fork (.auto) (.go 1 (.need (.go 2 (.need (.go 0 (.inv 3 (Nat) (0) [] [1] (fun J=>[(8,nI (jce J)),(4,.slice none 0 0),(7,.slice (some ⟨1,0,none⟩) (jcb n).toNat (jcb n).toNat)]) (fun J=>[(1,true,.cells true 8 ((du c n (J+1)).flatMap cellC))]) (fun J=>[]) (fun J=>[]) (fun J=>(J+1<=n)) (fun J=>(n-J)) (fun J => .go 3 (.fork (.go 2 (.need (.slot 41 (.slice (some ⟨1,(0+(jce J).toNat*8),none⟩) ((jcb n).toNat-(J+1)) ((jcb n).toNat-(J+1))) (.go 1 (.need (.slot 44 (.slice (some ⟨1,0,none⟩) (J+1) (jcb n).toNat) (.need (.go 0 (.slot 46 (nI ((jce J)+(((jc2 J n):Nat):Int))) (.bind Int (fun i_1 => .slot 46 (nI i_1) (.go 0 (.again []))))))))))))) (.go 1 (.again [(1,1)]))))))))))))))))
 (er ((aH 0 [cellC c]):HT).n 3 (slQ 1 1 n) [(true,.cells true 8 ((du c n n).flatMap cellC))])=Ep c n:=by kernel_rfl
abbrev jc1(qi0 qi1 qi2:Int):Value:=.tuple #[.agg #[nI (bA qi0 qi1 qi2).1.w,nI (bA qi0 qi1 qi2).1.h,nI (bA qi0 qi1 qi2).1.hour,slQ 0 1 (List.length (bA qi0 qi1 qi2).1.cells)],nI (bA qi0 qi1 qi2).2]
abbrev jc8(qi0 qi1 qi2:Int):Prop:=true=true/\wk (.tuple #[.agg #[nI 0,nI 0,nI 0,.slice none 0 0],nI (aW qi0 qi1 qi2)]:Value) (rn (sg 0 []) 3 (jc1 qi0 qi1 qi2))/\(True/\True)
abbrev jc0:Value:=.agg #[nI aO.ae.lo,nI aO.ae.hi,nI aO.ab.lo,nI aO.ab.hi,nI aO.aa.lo,nI aO.aa.hi,nI aO.ac.lo,nI aO.ac.hi]
abbrev jcc:List Value:=[nI aO.ae.lo,nI aO.ae.hi,nI aO.ab.lo,nI aO.ab.hi,nI aO.aa.lo,nI aO.aa.hi,nI aO.ac.lo,nI aO.ac.hi]
abbrev jcg(w h t:Int):=List.flatMap cellC (bA w h t).1.cells
def IU(w h t:Int):Prop :=
 (c0q 1 118 [nI w,nI h,nI t] (nI (aW w h t)) (fk (((aW w h t):Int) != 0) (jc8 w h t) (c0q 1 33 [] jc0 (nw (w*h) (n1q 2 1 (.cells true 8 jcc) 125 [slN 1 1,nI (w*h)] (slQ 2 1 (w*h).toNat) [(.cells true 8 ((bS (w*h).toNat).flatMap cellC):ah)] (true=true/\wk (.tuple #[.agg #[nI w,nI h,nI t,slQ 2 1 (w*h).toNat],nI 0]:Value) (rn (sg 0 [(0,2)]) 3 (jc1 w h t))/\((kbq 0 (.cells true 8 ((bS (w*h).toNat).flatMap cellC)) (.cells true 8 (jcg w h t)))/\True)))))))
abbrev jc6(qi0 qi1 qi2:Int):Value:=.tuple #[.agg #[nI (bA qi0 qi1 qi2).1.w,nI (bA qi0 qi1 qi2).1.h,nI (bA qi0 qi1 qi2).1.hour,slQ 0 1 (List.length (bA qi0 qi1 qi2).1.cells)],nI (bA qi0 qi1 qi2).2]
theorem Nz(w h t:Int):vE 62 [nI w,nI h,nI t] ⟨0,.leaf⟩ (some [])
 (.go 4 (.ans [] (nI (aW w h t)) [] (.go 2 (.fork (.go 3 (.again [])) (.go 2 (.ans [] jc0 [] (.go 3 (.slot 24 (nI (w*h)) (.ans [(1,.cells true 8 jcc)] (slQ 2 1 (w*h).toNat) [.cells true 8 ((bS (w*h).toNat).flatMap cellC)] (.go 2 (.again [(0,2)])))))))))))
 (er (⟨0,.leaf⟩:HT).n 3 (jc6 w h t) [(true,.cells true 8 (jcg w h t))])=IU w h t:=by kernel_rfl
def Ek(w h t:Int):Prop :=
 (c0q 1 120 [nI w,nI h,nI t] (nI (aW w h t)) (fk (((aW w h t):Int) != 0) (jc8 w h t) (lq (0<=Int.toNat (w*h)) (true=true/\((nI 0:Value)=nI ((0:Nat):Int)/\eR (nI h)/\eR (nI w)/\eR (pt 0)/\eR (nI 0)/\eR (pt 1)/\True)/\(wkO (.cells true 0 [nI w,nI h,nI t,.slice none 0 0]:ah) (rno (sg 2 []) 3 (.cells true 0 [nI w,nI h,nI t,slQ 2 1 0]:ah))/\True)/\(True/\True)/\(True)) (∀J:Nat,(J<=Int.toNat (w*h))->(nw (w*h) (fk (decide (((J:Int):Int)<(w*h))) (c0q 3 34 [] jc0 (apq J 64 8 ((bS J).flatMap cellC) jcc (nw ((J:Int)+1) (∃bJ:Nat,(bJ<=Int.toNat (w*h))/\(Int.toNat (w*h)-bJ)<(Int.toNat (w*h)-J)/\true=true/\((nI ((J:Int)+1):Value)=nI (bJ:Int)/\eR (nI h)/\eR (nI w)/\eR (pt 0)/\eR (nI 0)/\eR (pt 1)/\True)/\(wkO (.cells true 0 [nI w,nI h,nI t,slN 4 (J+1)]:ah) (rno (sg 2 [(2,4)]) 3 (.cells true 0 [nI w,nI h,nI t,slQ 2 1 bJ]:ah))/\True)/\((kbq 2 (.cells true 8 (((((bS J).flatMap cellC).drop 0).take (J*8))++(((jcc:List Value).drop 0).take (1*8)))) (.cells true 8 ((bS bJ).flatMap cellC)))/\True)/\(True))))) (true=true/\wk (.tuple #[.agg #[nI w,nI h,nI t,slQ 2 1 J],nI 0]:Value) (rn (sg 0 [(0,2)]) 3 (jc1 w h t))/\((kbq 0 (.cells true 8 ((bS J).flatMap cellC)) (.cells true 8 (jcg w h t)))/\True))))))))
theorem KK(w h t:Int):vE 63 [nI w,nI h,nI t] ⟨0,.leaf⟩ (some [])
 (.go 4 (.ans [] (nI (aW w h t)) [] (.go 2 (.fork (.go 3 (.again [])) (.go 6 (.inv 3 (Nat) (0) [] [1] (fun J=>[(10,nI (J:Int)),(1,nI h),(0,nI w),(6,pt 0),(7,nI 0),(9,pt 1)]) (fun J=>[(1,false,.cells true 0 [nI w,nI h,nI t,slQ 2 1 J])]) (fun J=>[(true,.cells true 8 ((bS J).flatMap cellC))]) (fun J=>[]) (fun J=>(J<=Int.toNat (w*h))) (fun J=>(Int.toNat (w*h)-J)) (fun J => .go 3 (.slot 26 (nI (w*h)) (.go 0 (.fork (.go 1 (.ans [] jc0 [] (.go 0 (.need (.go 3 (.slot 29 (nI ((J:Int)+1)) (.go 0 (.again [(2,4)])))))))) (.go 2 (.again [(0,2)]))))))))))))
 (er (⟨0,.leaf⟩:HT).n 3 (jc6 w h t) [(true,.cells true 8 (jcg w h t))])=Ek w h t:=by kernel_rfl
end
end Go.Proofs.YthcjliffpebjaaaGreat
namespace Go.K
noncomputable section
variable {P:Program}
theorem VRl.inv{V:Ren}{v:Value}{l:List Value}{m:List Value}(h:VRl V (v :: l) m):∃x l',m=x :: l'/\VR V v x/\VRl V l l':=by
 cases m with
 |nil=>exact absurd h.1 (by simp)
 |cons x l'=>exact ⟨x,l',rfl,h.2 0 v x rfl rfl,by have:=h.1;simpa using this,fun i a b c d=>h.2 (i+1) a b (by simpa using c) (by simpa using d)⟩
def lx(P:Program)(base:Nat)(H:Heap)(args args2:List Value)(gs:Heap):Prop :=
 ∀(B:Nat) (V:Ren) (w:World) (xs:List Value),Rel P B V H w->base<=H.length->VRl V args xs->∃ρ1,Post P B base [] V H w ρ1 (H++gs) w/\VRl ρ1 args2 xs
theorem lx.nil{base:Nat}{H:Heap}:lx P base H [] [] []:=fun B V w xs hr hb hv=>⟨V,by rw[List.append_nil];exact Post.refl hr,hv⟩
theorem lx.keep{base:Nat}{H:Heap}{a:Value}{as1 bs:List Value}{gs:Heap}(h:lx P base H as1 bs gs):lx P base H (a :: as1) (a :: bs) gs:=by
 intro B V w xs hr hb hv
 obtain ⟨x,l,rfl,h1,h2⟩:=hv.inv
 obtain ⟨ρ1,p,h3⟩:=h B V w l hr hb h2
 exact ⟨ρ1,p,.cons (h1.mono p.ext) h3⟩
theorem lx.deep{base n:Nat}{H:Heap}{cs:List Value}{as1 bs:List Value}{gs:Heap}(h:lx P base (H ++ [.cells false 0 cs]) as1 bs gs) :
  lx P base H (.iface (n+1) (.agg ⟨cs⟩) :: as1) (.slice (some ⟨H.length,0,some 2⟩) n n :: bs) (.cells false 0 cs :: gs):=by
 intro B V w xs hr hb hv
 obtain ⟨x,l,rfl,h1,h2⟩:=hv.inv
 obtain ⟨ρ1,p,h3⟩:=VR.thaw (base:=base) (M:=[]) hr hb h1
 obtain ⟨ρ2,q,h4⟩:=h B ρ1 w l p.rel (Nat.le_trans hb p.len) (h2.mono p.ext)
 refine ⟨ρ2,?_,.cons (h3.mono q.ext) h4⟩
 have:=p.trans q
 rw[List.append_assoc]at this
 exact this
theorem lx.agg{base n i:Nat}{H:Heap}{cs vs:List Value}{as1 bs:List Value}{gs:Heap}(hi:vs[i]?=some (.iface (n+1) (.agg ⟨cs⟩)))(h:lx P base (H ++ [.cells false 0 cs]) as1 bs gs) :
  lx P base H (.agg ⟨vs⟩ :: as1) (.agg ⟨vs.set i (.slice (some ⟨H.length,0,some 2⟩) n n)⟩ :: bs) (.cells false 0 cs :: gs):=by
 intro B V w xs hr hb hv
 obtain ⟨x,l,rfl,h1,h2⟩:=hv.inv
 have hl:=(List.getElem?_eq_some_iff.1 hi).1
 cases h1 with
 | @agg _ cs' g1 g2 =>
  have hlt:i<cs'.size:=by rw[<- g1];simpa using hl
  obtain ⟨ρ1,p,h3⟩:=VR.thaw (base:=base) (M:=[]) hr hb (g2 i _ _ (by simpa using hi) (Array.getElem?_eq_getElem hlt))
  obtain ⟨ρ2,q,h4⟩:=h B ρ1 w l p.rel (Nat.le_trans hb p.len) (h2.mono p.ext)
  have hpq:=p.trans q
  refine ⟨ρ2,?_,.cons (.agg (by simpa using g1) fun j v v' a b =>?_) h4⟩
  ·rw[List.append_assoc]at hpq;exact hpq
  have a':(vs.set i (.slice (some ⟨H.length,0,some 2⟩) n n))[j]?=some v:=by simpa using a
  rw[List.getElem?_set]at a'
  split at a'
  ·rename_i e;subst e
   cases a'
   rw[Array.getElem?_eq_getElem hlt]at b;cases b
   exact h3.mono q.ext
  ·exact (g2 j v v' (by simpa using a') b).mono hpq.ext
theorem ak.thaw{f:FuncId}{args args2:List Value}{H gs:Heap}{M:List Nat}{Q:Value->Heap->Prop}(ht:lx P H.length H args args2 gs)(h:ak P f args2 (H++gs) M Q):ak P f args H M Q:=by
 refine ⟨h.1,fun B V w args' hr ha =>?_⟩
 obtain ⟨ρ1,p,hv⟩:=ht B V w args'.toList hr (Nat.le_refl _) ha
 refine (h.2 B ρ1 w args' p.rel hv).mono ?_
 rintro e w' ⟨v,v',ρ',H',rfl,h1,h2,h3⟩
 exact ⟨v,v',ρ',H',rfl,h1,(p.weaken (Nat.le_refl _) (fun _ h=>by cases h)).trans (h2.weaken (by rw[aI];omega) (fun _ h _=>h)),h3⟩
def fM(L k n:Nat)(id:Nat):Option Nat:=if id<L then some id else if id<L+n then some (id+k) else none
theorem ak.drop{f:FuncId}{args:List Value}{H K gs new:Heap}{M:List Nat}{v v2:Value}{d:Nat}(h:ak P f args H M (Is v2 (K++gs++new)))(hK:K.length=H.length)(hs:∀id,id<H.length->id ∉ M->K[id]?=H[id]?)
  (hM:∀id o,id<H.length->id∈M->K[id]?=some o->(∃z cs,o = .cells true z cs)/\rno (fM H.length gs.length new.length) d o=o) (hv:rn (fM H.length gs.length new.length) d v=v2)
  (hn:new.map (rno (fM H.length gs.length new.length) d)=new) (hc:∀o∈new,∃z cs,o = .cells true z cs):ak P f args H M (Is v (K++new)):=by
 refine ⟨h.1,fun B V w args' hr ha=>(h.2 B V w args' hr ha).mono ?_⟩
 rintro e w' ⟨v',r,ρ',H',rfl,hv',hp,rfl,rfl⟩
 have he:Emb H M 0 (fM H.length gs.length new.length) d (fun _=>junk) (K++new) (fun _=>junk) (K++gs++new):=by
  refine ⟨by rw[aI];omega,fun id h=>if_pos h,fun id id' h =>?_,fun id1 id2 id' o1 o2 h1 h2 _ _ _ _ =>?_,fun t h=>Om,fun id h h2=>by rw[List.getElem?_append_left Om];exact hs id h h2,fun id id' o h1 h2 h3 =>?_⟩
  ·unfold fM at h
   rw[aI,hK]
   split at h
   ·omega
   ·split at h
    ·assumption
    ·cases h
  ·unfold fM at h1 h2
   split at h1 <;> split at h2 <;> (try split at h1) <;> (try split at h2) <;> first|(cases h1;done)|(cases h2;done)|(cases h1;cases h2;omega)|(simp only[Option.some.injEq]at h1 h2;omega)
  ·by_cases hlt:id<H.length
   ·rcases h2 with h2|h2
    ·omega
    ·have e1:fM H.length gs.length new.length id=some id:=if_pos hlt
     rw[e1]at h1;cases h1
     rw[List.getElem?_append_left Om]at h3
     obtain ⟨⟨z,cs,rfl⟩,h5⟩:=hM id o hlt h2 h3
     refine .inr ⟨.cells true z cs,?_,rfl,rfl,fun ρ1 ρ2 r1 w1 hle hob =>?_,fun z2 cs2 e=>by cases e⟩
     ·rw[List.append_assoc,List.getElem?_append_left Om];exact h3
     ·refine oZ (d:=d) hle.1 hle.2 hle.3 (o:=.cells true z cs) ?_ (fun q=>by rw[h5]at q;cases q)
      rw[h5];exact hob
   ·unfold fM at h1
    rw[if_neg hlt]at h1
    split at h1
    ·rename_i hl2
     cases h1
     rw[List.getElem?_append_right Om,hK]at h3
     have ho:=List.mem_of_getElem? h3
     obtain ⟨z,cs,rfl⟩:=hc o ho
     have h4:(new.map (rno (fM H.length gs.length new.length) d))[id-H.length]?=some (rno (fM H.length gs.length new.length) d (.cells true z cs)):=by rw[List.getElem?_map,h3];rfl
     rw[hn,h3]at h4
     have h5:rno (fM H.length gs.length new.length) d (.cells true z cs) = .cells true z cs:=(Option.some.inj h4).symm
     refine .inr ⟨.cells true z cs,?_,rfl,rfl,fun ρ1 ρ2 r1 w1 hle hob =>?_,fun z2 cs2 e=>by cases e⟩
     ·rw[List.getElem?_append_right (by rw[aI];omega),aI,hK,show id+gs.length-(H.length+gs.length)=id-H.length by omega];exact h3
     ·refine oZ (d:=d) hle.1 hle.2 hle.3 (o:=.cells true z cs) ?_ (fun q=>by rw[h5]at q;cases q)
      rw[h5];exact hob
    ·cases h1
 obtain ⟨q1,_⟩:=he.post hr hp
 refine ⟨v,r,cq ρ' (fM H.length gs.length new.length),_,rfl,?_,q1,rfl,rfl⟩
 have hσ:∀id id' r,fM H.length gs.length new.length id=some id'->ρ' id'=some r->(cq ρ' (fM H.length gs.length new.length)) id=some r:=fun id id' r h1 h2=>by show Option.bind _ _=_;rw[h1];exact h2
 refine ny (ρ':=ρ') (V:=cq ρ' (fM H.length gs.length new.length)) hσ (fun _ _ h=>h) (fun F F' k r h1 h2=>by show Option.bind _ _=_;rw[h1];exact h2) d ?_
 rw[hv];exact hv'
end
end Go.K
namespace Go.Proofs.YthcjliffpebjaaaGreat
noncomputable section
attribute [local irreducible] vF
theorem xq{w h:Int}(a:1<=w/\w<=64)(b:1<=h/\h<=64):1<=w*h/\w*h<=4096:=by
 have h1:1*1<=w*h:=Int.mul_le_mul a.1 b.1 Om Om
 have h2:w*h<=64*64:=Int.mul_le_mul a.2 b.2 Om Om
 omega
theorem oS{α:Type}{L M:List α}{x:α}{id:Nat}(hM:M=L ++ [x]):wk (slN id (L.length+1)) (slQ id 1 M.length):=by
 have:M.length=L.length+1:=by rw[hM,aI];rfl
 rw[this];exact eJ Om
theorem gd{α:Type}{f:α->List Value}{n:Nat}(hf:∀x,(f x).length=n){L M:List α}{x:α}{c:List Value}{own:Bool}(hM:M=L ++ [x])(hc:f x=c) :
  (some (ah.cells own n (List.take (L.length*n) (List.drop 0 (L.flatMap f))++List.take (1*n) (List.drop 0 c))):Option ah)=some (.cells own n (M.flatMap f)):=by
 subst hc
 rw[hM,<- cF hf L x rfl,List.drop_zero,List.drop_zero,List.take_of_length_le (l:=f x) (by rw[hf];omega),List.take_of_length_le (by rw[aK hf];omega)]
theorem KT{f:FuncId}{args:List Value}{h:Hint}(v:Nat->Value){z:Nat}{cs:List Value}
    (hc:vE f args ⟨0,.leaf⟩ (some []) h (er 0 3 (v 0) [(true,.cells true z cs)]))
    (hp:∀n,cs.all (aw n)=true) (h1:dD 3 (v 0)=true) (h2:rn (bD 0) 3 (v 0)=v 0) (h3:∀j,rn (bT 0 j) 3 (v 0)=v j) (ha:∀σ,args.map (rn σ 3)=args) (H:Heap) :
    ak prog f args H [] (Is (v H.length) (H ++ [.cells true z cs])):=by
  have key:=rU (css:=[]) (v:=v 0) (new:=[(true,.cells true z cs)]) hc (fun c hc=>by cases hc) h1 h2
    (by show ((cY 3 (.cells true z cs) && true) && true) = true
        rw[Bool.and_true,Bool.and_true];exact (dw (σ:=fun _=>none) (d:=0) (hp 0)).2)
    (congrArg (fun q=>[ah.cells true z q]) (dw (d:=0) (hp 0)).1) (H:=H) [] rfl (fun k c hk=>by cases hk)
  have e2:(List.map (fun x:Bool×ah=>x.2) [(true,ah.cells true z cs)]).map (rno (bT (0+([]:List (List Value)).length) H.length) 3)=[.cells true z cs] :=
    congrArg (fun q=>[ah.cells true z q]) (dw (d:=0) (hp 0)).1
  rw[e2,show rn (bT (0+([]:List (List Value)).length) H.length) 3 (v 0)=v H.length from h3 _,ha]at key
  exact key
def zX(H:Heap):List Nat->List (List Value)->Prop
 | [],[] =>True
 |id :: ids,c :: css=>(∃own z,H[id]?=some (.cells own z c))/\zX H ids css
 |_,_=>False
theorem qS{H:Heap}:∀{ids:List Nat} {css:List (List Value)},zX H ids css->ids.length=css.length
 | [],[],_=>rfl
 |_ :: ids,_ :: css,h=>by rw[List.length_cons,List.length_cons,qS h.2]
 | [],_ :: _,h=>h.elim
 |_ :: _,[],h=>h.elim
theorem oE{H:Heap}:∀{ids:List Nat} {css:List (List Value)},zX H ids css->∀(k:Nat) (c:List Value),css[k]?=some c->∃id own z,ids[k]?=some id/\H[id]?=some (ah.cells own z c)
 | [],[],_,k,c,hk=>by simp at hk
 |i :: ids,d :: css,h,0,c,hk=>by
  obtain ⟨⟨own,z,e⟩,_⟩:=h
  cases hk
  exact ⟨i,own,z,rfl,e⟩
 |i :: ids,d :: css,h,k+1,c,hk=>by
  obtain ⟨id,own,z,a,b⟩:=oE h.2 k c (by simpa using hk)
  exact ⟨id,own,z,by simpa using a,b⟩
 | [],_ :: _,h,_,_,_=>h.elim
 |_ :: _,[],h,_,_,_=>h.elim
def pr:List (List Value)->Prop
 | [] =>True
 |c :: css=>c.all (aw 0)=true/\pr css
theorem jG:∀{css:List (List Value)},pr css->∀c∈css,c.all (aw 0)=true
 | [],_,c,h=>by cases h
 |d :: css,hp,c,h=>by
  rcases List.mem_cons.1 h with rfl|h
  ·exact hp.1
  ·exact jG hp.2 c h
def BC:List ah->Prop
 | [] =>True
 |o :: os=>(∃z cs,o = .cells true z cs/\cs.all (aw 0)=true)/\BC os
theorem jx{σ:Nat->Option Nat}:∀{os:List ah},BC os->(os.all fun o=>cY 3 o&&o.owned)=true/\os.map (rno σ 3)=os
 | [],_=>⟨rfl,rfl⟩
 |o :: os,⟨⟨z,cs,e,h⟩,hs⟩=>by
  subst e
  obtain ⟨a,b⟩:=jx (σ:=σ) hs
  obtain ⟨c,d⟩:=dw (σ:=σ) (d:=0) h
  refine ⟨?_,?_⟩
  ·rw[List.all_cons,a,Bool.and_true]
   show (cY 3 (.cells true z cs)&&true)=true
   rw[Bool.and_true];exact d
  ·rw[List.map_cons,b]
   show ah.cells true z (cs.map (rn σ 3)) :: os=_
   rw[c]
theorem Gl{f:FuncId}{args:List Value}{css:List (List Value)}{h:Hint}(v:Nat->Value){new:List ah}
  (hc:vE f args (aH 0 css) (some []) h (er (aH 0 css).n 3 (v css.length) (new.map fun o=>(true,o))))
  (hp:pr css) (hn:BC new) (h1:dD 3 (v css.length)=true) (h2:rn (bD (0+css.length)) 3 (v css.length)=v css.length) (h3:∀j,rn (bT (0+css.length) j) 3 (v css.length)=v j)
  {H:Heap} {ids:List Nat} (hi:zX H ids css) {args':List Value} (ha:args.map (rn (sgR 0 ids) 3)=args') :
  ak prog f args' H [] (Is (v H.length) (H++new)):=by
 subst ha
 have e0:(new.map fun o=>(true,o)).map (·.2)=new:=by rw[List.map_map];exact List.map_id _
 have key:=rU (css:=css) (v:=v css.length) (new:=new.map fun o=>(true,o)) hc (jG hp) h1 h2 (by rw[e0];exact (jx (σ:=fun _=>none) hn).1) (by rw[e0];exact (jx hn).2) (H:=H) ids (qS hi) (oE hi)
 rw[e0,(jx hn).2,h3]at key
 exact key
theorem uq{α:Type}{l:List α}{d y:α}{i j:Nat}(hi:i<l.length):(l.set i y).getD j d=if j=i then y else l.getD j d:=by
 rw[List.getD_eq_getElem?_getD,List.getElem?_set,List.getD_eq_getElem?_getD]
 by_cases h:i=j
 ·rw[if_pos h,if_pos (h ▸ hi),if_pos h.symm];rfl
 ·rw[if_neg h,if_neg (fun e=>h e.symm)]
theorem qw{α:Type}{l:List α}{d:α}{k:Nat}(h:k<l.length):l.take (k+1)=l.take k ++ [l.getD k d]:=by
 rw[List.take_add_one,List.getElem?_eq_getElem h,List.getD_eq_getElem?_getD,List.getElem?_eq_getElem h];rfl
abbrev chV(k i:Nat)(c:dQ):Value:=.agg #[nI c.w,nI c.h,nI c.hour,.slice (some ⟨i,0,some k⟩) c.cells.length c.cells.length]
theorem ga{α:Type}{d:α}{f:Nat->α}{n:Nat}{l:List α}(hl:l.length=n)(h:∀k,k<n->l.getD k d=f k):aE f n=l:=by
 refine List.ext_getElem (by rw[bY,hl]) fun k h1 h2 =>?_
 have:=h k Om
 rw[List.getD_eq_getElem?_getD,List.getElem?_eq_getElem h2]at this
 simp only[aE,List.getElem_map,List.getElem_range]
 exact this.symm
theorem v8(r k:Nat)(ms:List Value):(a8 r k ms)[0]?=ms[0]? := by
 cases r with
 |zero=>rfl
 |succ r=>exact List.getElem?_set_ne Om
theorem NH{f:FuncId}{args:List Value}{css:List (List Value)}{h:Hint}{v:Value}(hc:vE f args (aH 0 css) (some []) h (fun v' _ _=>v'=v))(hp:pr css)(hv:cP 0 v=true)
  {H:Heap} {ids:List Nat} (hi:zX H ids css) {args':List Value} (ha:args.map (rn (sgR 0 ids) 5)=args'):ak prog f args' H [] (Is v H):=by
 subst ha
 exact ix hc (jG hp) hv ids (qS hi) (oE hi)
theorem CU{id n m:Nat}(h:m=n)(h0:0<n):wk (slN id n) (slQ id 1 m):=by subst h;exact eJ h0
theorem Gh{n:Nat}(h:n<18446744073709551616):IntKind.wrap .u64 (n:Int)=n:=by
 unfold IntKind.wrap
 simp[IntKind.signed,IntKind.bits]
 omega
theorem Le{n:Nat}(h:n<4294967296):(BitVec.ofInt (IntKind.bits .u64) (n:Int) &&& BitVec.ofInt (IntKind.bits .u64) 4294967295).toNat=n:=by
 show (BitVec.ofInt 64 (n:Int) &&& BitVec.ofInt 64 4294967295).toNat=n
 rw[BitVec.toNat_and,BitVec.toNat_ofInt,BitVec.toNat_ofInt]
 have e1:((n:Int) % (2 ^ 64:Nat)).toNat=n:=Om
 have e2:((4294967295:Int) % (2 ^ 64:Nat)).toNat=2 ^ 32-1:=by decide
 rw[e1,e2,Nat.and_two_pow_sub_one_eq_mod]
 exact Nat.mod_eq_of_lt h
theorem Pm(n:Nat)(hn:n<4294967296)(H:Heap):ak prog F.vb [.int .u64 1,.int .u64 (n:Int)] H [] (Is (.tuple #[.int .u64 0,.int .u64 (n:Int)]) H):=by
 refine cQ 40 (fun _=>rfl) rfl (Eq.mpr (PD _ n) ?_) H
 delta OT jcf jcd jc5 jc4
 have f0:Int.fdiv (n:Int) (2 ^ 32)=0:=by rw[Int.fdiv_eq_ediv_of_nonneg _ (by decide)];omega
 have a0:(BitVec.ofInt (IntKind.bits .u64) (0:Int) &&& BitVec.ofInt (IntKind.bits .u64) 4294967295).toNat=0:=Le (n:=0) (by decide)
 have w0:IntKind.wrap .u64 ((0:Nat):Int)=0:=Gh (by decide)
 refine ⟨n,by rw[Le hn,Gh Om],?_⟩
 simp only[Int.one_mul,Int.zero_mul,Int.zero_add,f0,a0]
 refine ⟨by rw[Gh Om],by first|rfl|exact congrArg _ w0,by first|rfl|exact congrArg _ w0,0,by first|rfl|exact congrArg _ w0,?_⟩
 simp only[Int.zero_add,Int.add_zero]
 exact ⟨congrArg _ w0,congrArg _ w0,congrArg _ w0,congrArg _ w0,0,rfl,congrArg _ w0,by rw[Gh Om],rfl⟩
theorem kA(n:Nat)(c:Cell):((List.replicate n c).flatMap cellC).length=n*8:=by rw[aK bX,List.length_replicate]
theorem xj(a b:Nat)(c:Cell):(List.replicate (a+b) c).flatMap cellC=(List.replicate a c).flatMap cellC++(List.replicate b c).flatMap cellC:=by
 rw[<- List.replicate_append_replicate,List.flatMap_append]
theorem vI:∀(N B A C:List Value),N.length=B.length->bQ (A++(B++C)) A.length N=A++(N++C)
 | [],B,A,C,h=>by
  cases B with
  |nil=>rfl
  |cons b B=>cases h
 |v :: N,B,A,C,h=>by
  cases B with
  |nil=>cases h
  |cons b B =>
   show bQ ((A++(b :: B++C)).set A.length v) (A.length+1) N=_
   have e:(A++(b :: B++C)).set A.length v=(A ++ [v])++(B++C):=by
    rw[List.set_append_right _ _ (Nat.le_refl _),Nat.sub_self];simp
   have e2:A.length+1=(A ++ [v]).length:=by simp
   rw[e,e2,vI N B (A ++ [v]) C (Nat.succ.inj h)]
   simp
theorem E9(n:Nat):dX [nI 0,nI 0,nI 0,nI 0,nI 0,nI 0,nI 0,nI 0] n=(List.replicate n aj).flatMap cellC:=by
 induction n with
 |zero=>rfl
 |succ n ih=>show _++dX _ n=_;rw[ih,List.replicate_succ,List.flatMap_cons];rfl
theorem EL{c:Cell}{n x:Nat}(h:x<=n):(du c n x).length=n:=by unfold du;rw[aI,List.length_replicate,List.length_replicate];omega
theorem GC{c:Cell}{n x q:Nat}(h1:q<=x)(h2:x+q<=n):bQ ((du c n x).flatMap cellC) (x*8) (List.take (q*8) (List.drop 0 ((du c n x).flatMap cellC)))=(du c n (x+q)).flatMap cellC:=by
 have e1:(du c n x).flatMap cellC=(List.replicate x c).flatMap cellC++((List.replicate q aj).flatMap cellC++(List.replicate (n-(x+q)) aj).flatMap cellC):=by
  unfold du
  rw[List.flatMap_append,<- xj,show n-x=q+(n-(x+q)) by omega]
 have e2:List.take (q*8) (List.drop 0 ((du c n x).flatMap cellC))=(List.replicate q c).flatMap cellC:=by
  have e3:(du c n x).flatMap cellC=(List.replicate q c).flatMap cellC++((List.replicate (x-q) c).flatMap cellC++(List.replicate (n-x) aj).flatMap cellC):=by
   unfold du
   rw[List.flatMap_append,<- List.append_assoc,<- xj,show q+(x-q)=x by omega]
  rw[e3,List.drop_zero,List.take_append_of_le_length (by rw[kA];exact Nat.le_refl _),List.take_of_length_le (by rw[kA];exact Nat.le_refl _)]
 rw[e2,e1,<- kA x c,vI _ _ _ _ (by rw[kA,kA])]
 unfold du
 rw[List.flatMap_append,xj,List.append_assoc]
theorem EV(l:List Cell)(n:Nat):((List.take n (List.drop 0 (l.flatMap cellC))).all fun v=>dS v)=true:=by
 rw[List.all_eq_true]
 intro v hv
 have h:=List.mem_of_mem_take hv
 rw[List.drop_zero]at h
 obtain ⟨c,_,h⟩:=List.mem_flatMap.1 h
 simp only[cellC,List.mem_cons,List.not_mem_nil,or_false,List.mem_append]at h
 rcases h with h|h|h|h|h|h|h|h <;> (subst h;rfl)
theorem Jw(c:Cell)(n:Nat)(h1:1<=n)(hn:n<=100000){H:Heap}{L:Nat}(hL:H.length=L){id:Nat}{own:Bool}{z:Nat}(hid:H[id]?=some (.cells own z (cellC c))) :
  ak prog F.fL [slQ id 2 1,nI (n:Int)] H [] (Is (slQ L 1 n) (H ++ [.cells true 8 ((List.replicate n c).flatMap cellC)])):=by
 subst hL
 have hnn:du c n n=List.replicate n c:=by unfold du;rw[Nat.sub_self];simp
 rw[<- hnn]
 refine Gl (fun i=>slQ i 1 n) (css:=[cellC c]) (new:=[.cells true 8 ((du c n n).flatMap cellC)]) (Eq.mpr (KP c n) ?_) ⟨rfl,trivial⟩ ⟨⟨_,_,rfl,aT 0 _⟩,trivial⟩ rfl rfl (fun _=>rfl) (ids:=[id]) ⟨⟨_,_,hid⟩,trivial⟩ rfl
 delta Ep jcf jcb jch jc3 jca jc9 jce jc7 jc2 nI slQ fk nw bw eR kbq lq c0q
 rw[Lr (n:=(n:Int)) Om,Gh Om,show Int.toNat (n:Int)=n from Int.toNat_natCast n,Nat.min_eq_left h1,E9]
 refine aq (fun q=>absurd q Om) (fun _=>⟨trivial,fun H' _ _=>Pm n Om H',aq (fun q=>absurd q Om) (fun _=>⟨⟨Om,Om,Om,Om⟩,⟨⟨Nat.le_refl _,Nat.le_refl 8⟩,by rw[kA];omega,rfl⟩,rfl,rfl,h1,?_,fun _=>rfl,?_⟩)⟩)
 ·have e:bQ ((List.replicate n aj).flatMap cellC) 0 (List.take (1*8) (List.drop 0 (cellC c)))=(du c n (0+1)).flatMap cellC:=by
   have:=kl (f:=cellC) bX (List.replicate n aj) 0 (by rw[List.length_replicate];omega) c
   rw[Nat.zero_mul]at this
   refine Eq.trans this (congrArg _ ?_)
   unfold du
   obtain ⟨k,rfl⟩:∃k,n=k+1:=⟨n-1,Om⟩
   rw[List.replicate_succ];rfl
  repeat' first|(exact congrArg (fun q=>some (ah.cells true 8 q)) e)|exact aT _ _|exact trivial|refine ⟨rfl,?_⟩|refine ⟨trivial,?_⟩|apply And.intro
 intro x hx
 have hl:=EL (c:=c) hx
 refine aq (fun k =>?_) (fun k =>?_)
 ·have hq1:min (x+1) (n-(x+1))<=x+1:=Nat.min_le_left _ _
  have hq2:min (x+1) (n-(x+1))<=n-(x+1):=Nat.min_le_right _ _
  have hq3:1<=min (x+1) (n-(x+1)):=Nat.le_min.2 ⟨Om,Om⟩
  have es:=GC (c:=c) hq1 (show (x+1)+min (x+1) (n-(x+1))<=n by omega)
  generalize min (x+1) (n-(x+1))=q at *
  have hxi:Int.toNat ((x+1:Nat):Int)=x+1:=Int.toNat_natCast _
  rw[hxi]
  refine ⟨⟨.inr (.inr rfl),Nat.le_refl _,Om,Om⟩,rfl,⟨.inr (.inr rfl),⟨Om,Om⟩,Nat.zero_le _⟩,rfl,⟨⟨hq1,by rw[aK bX,hl];omega⟩,by rw[aK bX,hl];omega,EV _ _⟩,rfl,ay Om,_,rfl,x+q,Om,Om,rfl,?_⟩
  have es2:bQ ((du c n (x+1)).flatMap cellC) (0+(x+1)*8) (List.take (q*8) (List.drop 0 ((du c n (x+1)).flatMap cellC)))=(du c n (x+q+1)).flatMap cellC:=by
   rw[Nat.zero_add,es,show x+1+q=x+q+1 by omega]
  repeat' first|(exact congrArg (fun q=>some (ah.cells true 8 q)) es2)|exact aT _ _|exact trivial|refine ⟨rfl,?_⟩|refine ⟨trivial,?_⟩|apply And.intro|exact iEq Om
 ·obtain rfl:n=x+1:=Om
  repeat' first|exact aT _ _|exact trivial|exact eJ Om|refine ⟨rfl,?_⟩|apply And.intro
theorem Lc{r:dQ×Int}{e:Int}(h:r=(bR,e)):true=true/\wk (.tuple #[.agg #[nI 0,nI 0,nI 0,.slice none 0 0],nI e]:Value) (rn (sg 0 []) 3 (.tuple #[chV 1 0 r.1,nI r.2]))/\(True/\True):=by
 subst h
 exact ⟨rfl,dz ⟨iL ⟨ad _,ad _,ad _,bx _ _ _ (.inl rfl),trivial⟩,ad _,trivial⟩,trivial,trivial⟩
theorem mq{w h t:Int}(e:¬ aW w h t=0):bA w h t=(bR,aW w h t):=if_neg e
theorem mo{w h t:Int}(e:aW w h t=0):bA w h t=(⟨w,h,t,bS (Int.toNat (w*h))⟩,0):=if_pos e
theorem yB(x:Nat):bS (x+1)=bS x ++ [aO]:=by
 unfold bS;rw[<- List.replicate_append_replicate];rfl
theorem d9(n:Nat):(bS n).length=n:=List.length_replicate
theorem B6(w h t:Int){H:Heap}{L:Nat}(hL:H.length=L) :
  ak prog F.FG [nI w,nI h,nI t] H [] (Is (.tuple #[chV 1 L (bA w h t).1,nI (bA w h t).2]) (H ++ [.cells true 8 ((bA w h t).1.cells.flatMap cellC)])):=by
 subst hL
 refine KT (fun i => .tuple #[chV 1 i (bA w h t).1,nI (bA w h t).2]) (Eq.mpr (Nz w h t) ?_) (fun n=>aT n _) rfl rfl (fun _=>rfl) (fun _=>rfl) H
 delta IU jc8 jc0 jcc jc1 jcg nI slQ slN fk nw kbq c0q n1q
 refine ⟨trivial,fun H' _ _=>bj w h t H',aZ (fun h0=>Lc (mq h0)) (fun h0 =>?_)⟩
 obtain ⟨h1,h2,h3,h4⟩:=d7.1 h0
 have hb:=xq h1 h2
 refine ⟨trivial,fun H' _ _=>Hd H',ay Om,⟨rfl,trivial⟩,fun H' hl hd =>?_,?_⟩
 ·have hw:(((Int.toNat (w*h):Nat):Nat):Int)=w*h:=Int.toNat_of_nonneg Om
  have:=Jw aO (Int.toNat (w*h)) Om Om hl hd.1
  rw[hw]at this
  exact this.wkA ⟨sF,ad _,trivial⟩
 ·rw[mo h0]
  dsimp only
  rw[d9]
  repeat' first|exact aT _ _|exact trivial|exact ad _|refine ⟨rfl,?_⟩|apply And.intro
theorem xB(w h t:Int){H:Heap}{L:Nat}(hL:H.length=L) :
  ak prog F.nZ [nI w,nI h,nI t] H [] (Is (.tuple #[chV 1 L (bA w h t).1,nI (bA w h t).2]) (H ++ [.cells true 8 ((bA w h t).1.cells.flatMap cellC)])):=by
 subst hL
 refine KT (fun i => .tuple #[chV 1 i (bA w h t).1,nI (bA w h t).2]) (Eq.mpr (KK w h t) ?_) (fun n=>aT n _) rfl rfl (fun _=>rfl) (fun _=>rfl) H
 delta Ek jc8 jc0 jcc jc1 jcg nI slQ pt slN fk nw eR kbq lq apq c0q
 refine ⟨trivial,fun H' _ _=>Dh w h t H',aZ (fun h0=>Lc (mq h0)) (fun h0 =>?_)⟩
 obtain ⟨h1,h2,h3,h4⟩:=d7.1 h0
 have hb:=xq h1 h2
 refine ⟨rfl,Nat.zero_le _,?_,fun _=>rfl,?_⟩
 ·repeat' first|exact trivial|exact ad _|refine bb ?_|refine aD ?_ ?_|exact bx _ _ _ (.inl rfl)|refine ⟨rfl,?_⟩|refine ⟨trivial,?_⟩|apply And.intro
 intro x hx
 have c1:((bS x).flatMap cellC).length=x*8:=by rw[aK bX,d9]
 refine ⟨ay Om,aq (fun k =>?_) (fun k =>?_)⟩
 ·have b1:=gd (own:=true) bX (yB x) (show cellC aO=cellC aO from rfl)
  rw[d9]at b1
  refine ⟨trivial,fun H' _ _=>Dl H',⟨Om,by decide,⟨Nat.le_refl _,Om⟩,⟨Nat.le_refl _,Nat.le_refl 8⟩,rfl⟩,rfl,ay Om,x+1,Om,Om,rfl,?_⟩
  repeat' first|exact aT _ _|exact trivial|exact ad _|refine bb ?_|refine aD ?_ ?_|exact eJ Om|refine ⟨rfl,?_⟩|refine And.intro Om ?_|apply And.intro
 ·obtain rfl:x=Int.toNat (w*h):=Om
  rw[mo h0]
  dsimp only
  rw[d9]
  repeat' first|exact aT _ _|exact trivial|exact ad _|refine ⟨rfl,?_⟩|apply And.intro
end
end Go.Proofs.YthcjliffpebjaaaGreat
namespace Go.Proofs.YthcjliffpebjaaaGreat
open Go Go.Shelf
def EF:Go.Shelf.Ren:=⟨fun|189=>128|125=>153|257=>152|128=>171|129=>172|294=>162|295=>163|296=>164|297=>165|298=>166|299=>167|216=>168|300=>169|301=>170|328=>185|329=>186|330=>187|331=>188|332=>189|215=>184|343=>193|n=>n,fun|28=>66|3=>3|46=>201|0=>0|51=>213|53=>216|4=>4|183=>221|182=>220|131=>226|5=>5|9=>9|218=>235|222=>127|228=>242|229=>243|n=>n,fun|n=>n⟩
theorem NK:Go.Proofs.Lays.n189 Tryz.prog EF:={
 mixed:=by kernel_rfl
 f125:=Tryz.func153.trans (congrArg some (by kernel_rfl))
 f128:=Tryz.func171.trans (congrArg some (by kernel_rfl))
 f129:=Tryz.func172.trans (congrArg some (by kernel_rfl))
 f189:=Tryz.func128.trans (congrArg some (by kernel_rfl))
 f215:=Tryz.func184.trans (congrArg some (by kernel_rfl))
 f216:=Tryz.func168.trans (congrArg some (by kernel_rfl))
 f257:=Tryz.func152.trans (congrArg some (by kernel_rfl))
 f294:=Tryz.func162.trans (congrArg some (by kernel_rfl))
 f295:=Tryz.func163.trans (congrArg some (by kernel_rfl))
 f296:=Tryz.func164.trans (congrArg some (by kernel_rfl))
 f297:=Tryz.func165.trans (congrArg some (by kernel_rfl))
 f298:=Tryz.func166.trans (congrArg some (by kernel_rfl))
 f299:=Tryz.func167.trans (congrArg some (by kernel_rfl))
 f300:=Tryz.func169.trans (congrArg some (by kernel_rfl))
 f301:=Tryz.func170.trans (congrArg some (by kernel_rfl))
 f328:=Tryz.func185.trans (congrArg some (by kernel_rfl))
 f329:=Tryz.func186.trans (congrArg some (by kernel_rfl))
 f330:=Tryz.func187.trans (congrArg some (by kernel_rfl))
 f331:=Tryz.func188.trans (congrArg some (by kernel_rfl))
 f332:=Tryz.func189.trans (congrArg some (by kernel_rfl))
 f343:=Tryz.func193.trans (congrArg some (by kernel_rfl))
 t0:=Tryz.underlying0
 a0:=Tryz.isAgg0
 z0:=Tryz.sizeOf0
 v0:=Tryz.zeroValue0
 t3:=Tryz.underlying3
 a3:=Tryz.isAgg3
 z3:=Tryz.sizeOf3
 v3:=Tryz.zeroValue3
 t4:=Tryz.underlying4
 a4:=Tryz.isAgg4
 z4:=Tryz.sizeOf4
 v4:=Tryz.zeroValue4
 t5:=Tryz.underlying5
 a5:=Tryz.isAgg5
 z5:=Tryz.sizeOf5
 v5:=Tryz.zeroValue5
 t9:=Tryz.underlying9
 a9:=Tryz.isAgg9
 z9:=Tryz.sizeOf9
 v9:=Tryz.zeroValue9
 t28:=Tryz.underlying66
 a28:=Tryz.isAgg66
 z28:=Tryz.sizeOf66
 v28:=Tryz.zeroValue66
 t46:=Tryz.underlying201
 a46:=Tryz.isAgg201
 z46:=Tryz.sizeOf201
 v46:=Tryz.zeroValue201
 t51:=Tryz.underlying213
 a51:=Tryz.isAgg213
 z51:=Tryz.sizeOf213
 v51:=Tryz.zeroValue213
 t53:=Tryz.underlying216
 a53:=Tryz.isAgg216
 z53:=Tryz.sizeOf216
 v53:=Tryz.zeroValue216
 t131:=Tryz.underlying226
 a131:=Tryz.isAgg226
 z131:=Tryz.sizeOf226
 v131:=Tryz.zeroValue226
 t182:=Tryz.underlying220
 a182:=Tryz.isAgg220
 z182:=Tryz.sizeOf220
 v182:=Tryz.zeroValue220
 t183:=Tryz.underlying221
 a183:=Tryz.isAgg221
 z183:=Tryz.sizeOf221
 v183:=Tryz.zeroValue221
 t218:=Tryz.underlying235
 a218:=Tryz.isAgg235
 z218:=Tryz.sizeOf235
 v218:=Tryz.zeroValue235
 t222:=Tryz.underlying127
 a222:=Tryz.isAgg127
 z222:=Tryz.sizeOf127
 v222:=Tryz.zeroValue127
 t228:=Tryz.underlying242
 a228:=Tryz.isAgg242
 z228:=Tryz.sizeOf242
 v228:=Tryz.zeroValue242
 t229:=Tryz.underlying243
 a229:=Tryz.isAgg243
 z229:=Tryz.sizeOf243
 v229:=Tryz.zeroValue243 }
end Go.Proofs.YthcjliffpebjaaaGreat
namespace Go.K
open Go Go.Proofs Go.RowKit Go.Lib Go.Sort Go.Shelf
variable {P:Program}
theorem He{R:Go.Shelf.Ren}(L:Lays.n189 P R)(ef:Enters P (R.f 189))
  {H:Heap} {id:Nat} {tag:Option Nat} (htag:tag=none∨tag=some 1) {L0:List Int} (h0:0<L0.length) (hlen:L0.length<4611686018427387904) (ho:H[id]?=some (.cells true 1 (L0.map (Value.int .i64)))) :
  ak P (R.f 189) [.slice (some ⟨id,0,tag⟩) L0.length L0.length] H [id] (Is (.tuple #[]) (H.set id (.cells true 1 ((L0.mergeSort fun x y=>decide (x<=y)).map (Value.int .i64))))):=by
 refine ⟨ef,fun B V w args' hr ha =>?_⟩
 obtain ⟨x',rfl⟩:∃x',args' = #[x']:=by
  have hl:=ha.1
  obtain ⟨l⟩:=args'
  match l,hl with
  | [a],_=>exact ⟨a,rfl⟩
 have hx:=ha.2 0 _ _ rfl rfl
 obtain ⟨r,cap',hid,hcap,rfl⟩:∃r cap',V id=some r/\L0.length<=cap'/\x' = .slice (some ⟨r.b,0+r.s,none⟩) L0.length cap':=by
  generalize L0.length=n at hx h0
  rcases htag with rfl|rfl
  ·cases hx with
   |slice h hl hc _=>exact ⟨_,_,h,Nat.le_trans hl hc,rfl⟩
   |bE h=>exact absurd h0 (Nat.lt_irrefl 0)
  ·cases hx with
   |aR=>exact absurd h0 (Nat.lt_irrefl 0)
   |aS=>exact absurd h0 (Nat.lt_irrefl 0)
   |bn h hp hl hc _=>exact ⟨_,_,h,Nat.le_trans hl hc,rfl⟩
 rw[Nat.zero_add]
 have HB:=hr.obj id r _ hid ho
 obtain ⟨ow,zz,cs',ty,fz,hb,hsz,hfz,hcs⟩:=HB
 obtain rfl:=hfz rfl
 have hel:∀i (hi:i<L0.length),cs'[i+r.s]?=some (Value.int .i64 L0[i]):=fun i hi=>by
  obtain ⟨v',e1,e2⟩:=hcs i (Value.int .i64 L0[i]) (by rw[List.getElem?_map,List.getElem?_eq_getElem hi];rfl)
  cases e2;exact e1
 have hgd:∀(M:List Int) j (hj:j<M.length),M.toArray[j]! = M[j]:=fun M j hj=>getElem!_pos M.toArray j hj
 have hH:Holds (Value.int .i64) w r.b r.s L0.toArray:=fun j hj=>by
  have hj':j<L0.length:=by simpa using hj
  have e:=hel j hj'
  refine ⟨?_,?_⟩
  ·rw[hgd L0 j hj']
   simp only[World.cell?,hb,Option.isSome_none,Bool.false_eq_true,if_false]
   rw[Nat.add_comm];exact e
  ·simp[World.frozen?,hb]
 have hblk:=hr.lt id r hid
 have hcon:=Any.slices_Sort_int L r.b r.s cap' L0 w hH hblk hlen
 refine callsIn_wide.2 (hcon.mono ?_)
 rintro e w' ⟨rfl,n1,os,rfl⟩
 have hml:(L0.mergeSort fun x y=>decide (x<=y)).length=L0.length:=List.length_mergeSort _
 generalize (L0.mergeSort fun x y=>decide (x<=y))=M at hml ⊢
 have hput:bk V r (.cells true 1 (M.map (Value.int .i64))) (w.putObj r.b (.cells (putCells (Value.int .i64) r.s M.toArray cs') ty (0,0))):=by
  refine ⟨ow,zz,putCells (Value.int .i64) r.s M.toArray cs',ty,(0,0),World.putObj_heap_same hblk,by simp[putCells,hml]at hsz ⊢;omega,fun _=>rfl,fun i v hv =>?_⟩
  rw[List.getElem?_map]at hv
  obtain ⟨a,ha1,rfl⟩:=aX hv
  obtain ⟨hi,ha2⟩:=List.getElem?_eq_some_iff.1 ha1
  refine ⟨.int .i64 a,?_,.int _ _⟩
  simp only[putCells,Array.getElem?_mapIdx,hel i Om,Option.map_some]
  rw[if_pos ⟨Om,by simp;omega⟩,show i+r.s-r.s=i by omega,hgd M i hi,ha2]
 have p1:=Post.put (base:=H.length) (M:=[id]) hr hid ho rfl (by rw[hb];rfl) hput (fun _=>List.mem_singleton.2 rfl)
 have hheap:∀b,b<w.heap.size->(grow (putRow (Value.int .i64) (Sort.ahead w n1) r.b r.s M.toArray) os).heap[b]?=(w.putObj r.b (.cells (putCells (Value.int .i64) r.s M.toArray cs') ty (0,0))).heap[b]? := by
  intro b hb1
  simp only[grow,putRow,mapBlock,Sort.ahead]
  rw[Array.getElem?_append_left (by simpa using hb1),Array.getElem?_modify]
  by_cases e:r.b=b
  ·subst e
   rw[if_pos rfl,World.putObj_heap_same hblk]
   show Option.map (onCells _) w.heap[r.b]?=_
   rw[hb];rfl
  ·rw[if_neg e,World.putObj_heap_other (Ne.symm e)]
 have p2:=p1.grown (w2:=grow (putRow (Value.int .i64) (Sort.ahead w n1) r.b r.s M.toArray) os) (by simp[grow,putRow,mapBlock,Sort.ahead,World.putObj]) (fun b hb1=>hheap b (by simpa[World.putObj] using hb1)) rfl rfl rfl (by simp[grow,putRow,mapBlock,Sort.ahead,World.putObj])
 exact ⟨.tuple #[],.tuple #[],V,_,rfl,.tuple rfl (fun i a b h=>by simp at h),p2,rfl,rfl⟩
end Go.K
namespace Go.Proofs.YthcjliffpebjaaaGreat
noncomputable section
attribute [local irreducible] vF
theorem MD(l:List Int):l.flatMap aA=l.map (Value.int .i64):=by
 induction l with
 |nil=>rfl
 |cons x l ih=>rw[List.flatMap_cons,ih];rfl
theorem FU:Enters prog 128:=mr Tryz.func128 (by kernel_rfl) (by kernel_rfl)
def yR(L:List Int):List Int:=L.mergeSort fun x y=>decide (x<=y)
theorem LU{L0:List Int}(h0:0<L0.length)(h1:L0.length<1000){H:Heap}{id:Nat}(ho:H[id]?=some (.cells true 1 (L0.flatMap aA))) :
  ak prog 128 [slQ id 1 L0.length] H [id] (Is (.tuple #[]) (H.set id (.cells true 1 ((yR L0).flatMap aA)))):=by
 rw[MD]at ho ⊢
 exact He NK FU (.inr rfl) h0 Om ho
end
end Go.Proofs.YthcjliffpebjaaaGreat
namespace Go.Proofs.YthcjliffpebjaaaGreat
noncomputable section
def kXY(q:Int×Int):Value:=.agg #[nI q.1,nI q.2]
def br(A:List ((Int×Int)×Value))(e:Nat):Int×Int:=(A.getD e ((0,0),.chan none)).1
def ep(l:List Report)(m:af)(now:Int)(q:Int×Int)(y:Nat):List Int:=(((atN l l.length q).take y).filter (lv l m now)).map fun k:Nat=>(k:Int)
def et(l:List Report)(m:af)(now:Int)(A:List ((Int×Int)×Value))(seen:List Nat):List Int:=seen.flatMap fun e=>ep l m now (br A e) l.length
open Classical in
def cellsS(w h:Int)(l:List Report)(m:af)(now:Int)(A:List ((Int×Int)×Value))(seen:List Nat):List Cell :=
 aE (fun p=>if plQ w p∈seen.map (br A) then cellAt l m now (plQ w p) else aO) (Int.toNat (w*h))
structure rK(l:List Report)(T:Mb (Int×Int))(seen:List Nat)(ms:List Value):Prop where
 nd:seen.Nodup
 lt:∀e∈seen,e<T.A.length
 m0:ms[0]?=some (nI ((1:Nat):Int))
 fx:∀v∈ms,rr v
 rw:∀e,e<T.A.length->e ∉ seen->ms[T.ks (br T.A e)+1]?=some (.agg ⟨(cg l l.length (br T.A e)).flatMap aA⟩)
end
end Go.Proofs.YthcjliffpebjaaaGreat
namespace Go.Proofs.YthcjliffpebjaaaGreat
noncomputable section
attribute [local irreducible] vF
theorem iv(l:List Report)(i:Nat)(q:Int×Int):atN l (i+1) q=if kxy (l.getD i ag)=q then atN l i q ++ [i] else atN l i q:=by
 unfold atN
 rw[List.range_succ,List.filter_append]
 by_cases h:kxy (l.getD i ag)=q
 ·rw[if_pos h,List.filter_cons_of_pos (by simpa using h)];rfl
 ·rw[if_neg h,List.filter_cons_of_neg (by simpa using h)];simp
theorem sD{l:List Report}{i:Nat}{q:Int×Int}{k:Nat}:k∈atN l i q ↔ k<i/\kxy (l.getD k ag)=q:=by
 unfold atN;rw[List.mem_filter,List.mem_range];simp
theorem iT(l:List Report)(q:Int×Int):∀i,(atN l i q).length<=i
 |0=>Nat.le_refl _
 |i+1=>by
  rw[iv]
  have:=iT l q i
  split
  ·rw[aI];show _+1<=_;omega
  ·omega
theorem qi{l:List Report}{q:Int×Int}:∀{i k:Nat},k<(atN l i q).length->(atN l ((atN l i q).getD k 0) q).length=k
 |0,k,h=>by exact absurd h (Nat.not_lt_zero _)
 |i+1,k,h=>by
  rw[iv]at h ⊢
  by_cases e:kxy (l.getD i ag)=q
  ·rw[if_pos e]at h ⊢
   rw[aI]at h
   by_cases e2:k<(atN l i q).length
   ·rw[List.getD_eq_getElem?_getD,List.getElem?_append_left e2,<- List.getD_eq_getElem?_getD]
    exact qi e2
   ·have h1:([i]:List Nat).length=1:=rfl
    obtain rfl:k=(atN l i q).length:=Om
    rw[List.getD_eq_getElem?_getD,List.getElem?_append_right (Nat.le_refl _),Nat.sub_self];rfl
  ·rw[if_neg e]at h ⊢
   exact qi h
theorem vS(l:List Report)(i:Nat):(fun q=>if q=kxy (l.getD i ag) then cg l i (kxy (l.getD i ag)) ++ [(i:Int)] else cg l i q)=cg l (i+1):=funext fun q=>by
 unfold cg
 rw[iv]
 by_cases e:q=kxy (l.getD i ag)
 ·subst e;rw[if_pos rfl,if_pos rfl,List.map_append];rfl
 ·rw[if_neg e,if_neg (fun h=>e h.symm)]
theorem lX(l:List Report)(i:Nat)(q:Int×Int):(cg l i q).length=(atN l i q).length:=List.length_map ..
theorem s8{l:List Report}{i:Nat}{q:Int×Int}{k:Nat}(h:k<(atN l i q).length):(cg l i q).getD k 0=(((atN l i q).getD k 0:Nat):Int):=by
 unfold cg
 rw[List.getD_eq_getElem?_getD,List.getElem?_map,List.getD_eq_getElem?_getD,List.getElem?_eq_getElem h];rfl
theorem lM(l:List Report)(m:af)(now:Int)(q:Int×Int):(cS l m now q).length=(atN l l.length q).length:=List.length_map ..
theorem yL{l:List Report}{m:af}{now:Int}{q:Int×Int}{k:Nat}(h:k<(atN l l.length q).length):(cS l m now q).getD k aj=bW (l.getD ((atN l l.length q).getD k 0) ag) m now:=by
 unfold cS
 rw[List.getD_eq_getElem?_getD,List.getElem?_map,List.getD_eq_getElem?_getD (l:=atN l l.length q),List.getElem?_eq_getElem h];rfl
theorem lk{l:List Report}{i:Nat}{q:Int×Int}{k:Nat}(h:k<(atN l i q).length):(atN l i q).getD k 0<i/\kxy (l.getD ((atN l i q).getD k 0) ag)=q:=sD.1 (ki h)
theorem qD{l:List Report}{m:af}{now:Int}{q:Int×Int}{k:Nat}(h:k<(atN l l.length q).length):lv l m now ((atN l l.length q).getD k 0) = !((bh (cS l m now q) (cS l m now q).length).getD k false):=by
 obtain ⟨_,h2⟩:=lk h
 unfold lv
 rw[h2,qi h]
 unfold bh
 rw[eP (by rw[lM];exact h)]
theorem EW{l:List Report}{m:af}{now:Int}{q:Int×Int}{k:Nat}(h:k<(atN l l.length q).length):ep l m now q (k+1)=if (bh (cS l m now q) (cS l m now q).length).getD k false=false then ep l m now q k ++ [(cg l l.length q).getD k 0] else ep l m now q k:=by
 unfold ep
 rw[qw (d:=0) h,List.filter_append,List.map_append,s8 h]
 cases e:(bh (cS l m now q) (cS l m now q).length).getD k false with
 |false=>rw[if_pos rfl,List.filter_cons_of_pos (by rw[qD h,e];rfl)];rfl
 |true=>rw[if_neg (by decide),List.filter_cons_of_neg (by rw[qD h,e];decide)];simp
theorem GL(l:List Report)(m:af)(now:Int)(q:Int×Int){y:Nat}(h:(atN l l.length q).length<=y):ep l m now q y=ep l m now q l.length:=by
 unfold ep
 rw[List.take_of_length_le h,List.take_of_length_le (iT l q _)]
theorem BH(l:List Report)(m:af)(now:Int)(A:List ((Int×Int)×Value))(seen:List Nat)(e:Nat):et l m now A (seen ++ [e])=et l m now A seen++ep l m now (br A e) l.length:=by
 unfold et;rw[List.flatMap_append];simp
theorem Ii(w h:Int)(l:List Report)(m:af)(now:Int)(A:List ((Int×Int)×Value)):cellsS w h l m now A []=bS (Int.toNat (w*h)):=by
 unfold cellsS bS
 refine ga (d:=aj) List.length_replicate fun k hk =>?_
 rw[if_neg (by simp),List.getD_eq_getElem?_getD,List.getElem?_replicate,if_pos hk];rfl
theorem oM(w h:Int)(l:List Report)(m:af)(now:Int)(A:List ((Int×Int)×Value))(seen:List Nat):(cellsS w h l m now A seen).length=Int.toNat (w*h):=bY _ _
theorem sn{w h x y:Int}(hx:0<=x/\x<w)(hy:0<=y/\y<h){p:Nat}:plQ w p=(x,y) ↔ (p:Int)=y*w+x:=by
 unfold plQ
 have hw:0<w:=Om
 constructor
 ·intro e
  injection e with e1 e2
  have:=Int.mul_ediv_add_emod (p:Int) w
  rw[e1,e2,Int.mul_comm w y]at this
  exact this.symm
 ·intro e
  rw[e]
  have e1:(y*w+x) % w=x:=by
   rw[Int.add_comm,Int.add_mul_emod_self_right];exact Int.emod_eq_of_lt hx.1 hx.2
  have e2:(y*w+x) / w=y:=by
   rw[Int.add_comm,Int.add_mul_ediv_right _ _ Om,Int.ediv_eq_zero_of_lt hx.1 hx.2,Int.zero_add]
  rw[e1,e2]
theorem s0{w h x y:Int}(hx:0<=x/\x<w)(hy:0<=y/\y<h):0<=y*w+x/\y*w+x<w*h:=by
 have h1:0<=y*w:=Int.mul_nonneg hy.1 Om
 have h2:(y+1)*w<=h*w:=Int.mul_le_mul_of_nonneg_right Om Om
 rw[Int.add_mul,Int.one_mul,Int.mul_comm h w]at h2
 omega
theorem AS{w h:Int}{l:List Report}{m:af}{now:Int}{A:List ((Int×Int)×Value)}{seen:List Nat}{e:Nat}(hx:0<=(br A e).1/\(br A e).1<w)(hy:0<=(br A e).2/\(br A e).2<h) :
  (cellsS w h l m now A seen).set (Int.toNat ((br A e).2*w+(br A e).1)) (cellAt l m now (br A e))=cellsS w h l m now A (seen ++ [e]):=by
 have hb:=s0 hx hy
 refine Eq.symm (ga (d:=aj) (by rw[List.length_set,oM]) fun p hp =>?_)
 rw[uq (by rw[oM];omega)]
 have key:=sn hx hy (p:=p)
 by_cases q:p=Int.toNat ((br A e).2*w+(br A e).1)
 ·have:plQ w p=br A e:=key.2 Om
  rw[if_pos q,this,if_pos (by simp)]
 ·have hne:¬ plQ w p=br A e:=fun e2=>q (by have:=key.1 e2;omega)
  rw[if_neg q]
  show (aE _ _).getD p aj=_
  rw[eP hp]
  by_cases q2:plQ w p∈seen.map (br A)
  ·rw[if_pos q2,if_pos (by rw[List.map_append];exact List.mem_append_left _ q2)]
  ·rw[if_neg q2,if_neg (by
    rw[List.map_append]
    intro h
    rcases List.mem_append.1 h with h|h
    ·exact q2 h
    ·exact hne (List.mem_singleton.1 h))]
theorem ta{α β:Type}{f:α->List β}:∀{s:List α},s.Nodup->(∀e∈s,(f e).Nodup)->(∀e∈s,∀e'∈s,e≠e'->∀x∈f e,∀y∈f e',x≠y)->(s.flatMap f).Nodup
 | [],_,_,_=>List.nodup_nil
 |e :: s,h1,h2,h3=>by
  rw[List.nodup_cons]at h1
  rw[List.flatMap_cons,List.nodup_append]
  refine ⟨h2 e (List.mem_cons_self ..),ta h1.2 (fun a ha=>h2 a (List.mem_cons_of_mem _ ha)) (fun a ha b hb=>h3 a (List.mem_cons_of_mem _ ha) b (List.mem_cons_of_mem _ hb)),fun x hx y hy =>?_⟩
  obtain ⟨b,hb,hy⟩:=List.mem_flatMap.1 hy
  exact h3 e (List.mem_cons_self ..) b (List.mem_cons_of_mem _ hb) (fun q=>h1.1 (q ▸ hb)) x hx y hy
theorem v6{α β:Type}{f:α->β}(hf:∀a b,f a=f b->a=b){l:List α}(h:l.Nodup):(l.map f).Nodup:=by
 unfold List.Nodup at *
 rw[List.pairwise_map]
 exact h.imp fun h e=>h (hf _ _ e)
theorem F0(l:List Report)(i:Nat)(q:Int×Int):(atN l i q).Nodup:=List.Nodup.sublist List.filter_sublist List.nodup_range
theorem pu{l:List Report}{m:af}{now:Int}{q:Int×Int}{x:Int}:x∈ep l m now q l.length ↔ ∃k:Nat,(k<l.length/\kxy (l.getD k ag)=q)/\lv l m now k=true/\(k:Int)=x:=by
 unfold ep
 rw[List.take_of_length_le (iT l q _)]
 simp only[List.mem_map,List.mem_filter,sD]
 exact ⟨fun ⟨k,⟨a,b⟩,c⟩=>⟨k,a,b,c⟩,fun ⟨k,a,b,c⟩=>⟨k,⟨a,b⟩,c⟩⟩
theorem BB(l:List Report)(m:af)(now:Int)(q:Int×Int):(ep l m now q l.length).Nodup:=by
 unfold ep
 rw[List.take_of_length_le (iT l q _)]
 exact v6 (fun a b e=>Om) (List.Nodup.sublist List.filter_sublist (F0 l _ q))
theorem wn{A:List ((Int×Int)×Value)}{e:Nat}(h:e<A.length):∃v,A[e]?=some (br A e,v):=by
 unfold br
 rw[List.getD_eq_getElem?_getD,List.getElem?_eq_getElem h]
 exact ⟨A[e].2,rfl⟩
theorem wm{A:List ((Int×Int)×Value)}{q:Int×Int}(h:dY q A=true):∃e,e<A.length/\br A e=q:=by
 obtain ⟨e,he,hq⟩:=List.mem_map.1 ((Ao q A).1 h)
 obtain ⟨i,hi,rfl⟩:=List.mem_iff_getElem.1 he
 refine ⟨i,hi,?_⟩
 unfold br
 rw[List.getD_eq_getElem?_getD,List.getElem?_eq_getElem hi];exact hq
theorem wl{A:List ((Int×Int)×Value)}(hn:(A.map (·.1)).Nodup){e e':Nat}(h:e<A.length)(h':e'<A.length)(q:br A e=br A e'):e=e':=by
 have g:∀{i},i<A.length->(A.map (·.1))[i]?=some (br A i):=fun {i} hi=>by
  obtain ⟨v,hv⟩:=wn hi
  rw[List.getElem?_map,hv];rfl
 exact (List.getElem?_inj (by rw[List.length_map];exact h) hn).1 ((g h).trans ((congrArg some q).trans (g h').symm))
theorem BG{l:List Report}{m:af}{now:Int}{n:Nat}{x:Int}:x∈ca l m now n ↔ ∃k:Nat,k<n/\lv l m now k=true/\(k:Int)=x:=by
 unfold ca
 simp only[List.mem_map,List.mem_filter,List.mem_range,and_assoc]
theorem GX{F:Nat}{l:List Report}{m:af}{now:Int}{T:Mb (Int×Int)}(I:MbI F 1 aA (cg l l.length) T){seen:List Nat}(h1:seen.Nodup)(h2:∀e∈seen,e<T.A.length)(h3:∀e,e<T.A.length->e∈seen):yR (et l m now T.A seen)=ca l m now l.length:=by
 have hs:=List.pairwise_mergeSort (le:=fun x y:Int=>decide (x<=y)) (fun a b c h1 h2=>by simp at *;omega) (fun a b=>by simp;omega) (et l m now T.A seen)
 have hs:(yR (et l m now T.A seen)).Pairwise (· <= ·):=hs.imp fun h=>by simpa using h
 have ht:(ca l m now l.length).Pairwise (· <= ·):=by
  unfold ca
  rw[List.pairwise_map]
  exact (List.Pairwise.sublist List.filter_sublist List.pairwise_lt_range).imp fun h=>Om
 refine List.Perm.eq_of_pairwise (fun a b _ _ h3 h4=>Int.le_antisymm h3 h4) hs ht ((List.mergeSort_perm _ _).trans ?_)
 refine (List.perm_ext_iff_of_nodup ?_ ?_).2 fun x =>?_
 ·refine ta h1 (fun e _=>BB l m now _) (fun e he e' he' hne x hx y hy hxy =>?_)
  obtain ⟨k,⟨_,a⟩,_,b⟩:=pu.1 hx
  obtain ⟨k',⟨_,a'⟩,_,b'⟩:=pu.1 hy
  obtain rfl:k=k':=Om
  exact hne (wl I.nd (h2 e he) (h2 e' he') (a.symm.trans a'))
 ·unfold ca
  exact v6 (fun a b e=>Om) (List.Nodup.sublist List.filter_sublist List.nodup_range)
 ·unfold et
  rw[List.mem_flatMap,BG]
  constructor
  ·rintro ⟨e,_,hx⟩
   obtain ⟨k,⟨a,_⟩,b,c⟩:=pu.1 hx
   exact ⟨k,a,b,c⟩
  ·rintro ⟨k,a,b,c⟩
   have hm:k∈atN l l.length (kxy (l.getD k ag)):=sD.2 ⟨a,rfl⟩
   have hh:dY (kxy (l.getD k ag)) T.A=true:=by
    rw[I.has,decide_eq_true]
    rw[lX];exact List.length_pos_of_mem hm
   obtain ⟨e,he,hq⟩:=wm hh
   exact ⟨e,h3 e he,pu.2 ⟨k,⟨a,hq.symm⟩,b,c⟩⟩
theorem AW{l:List Report}{m:af}{now:Int}{q:Int×Int}(h:(atN l l.length q).length=0):cellAt l m now q=aO:=by
 have:cS l m now q=[]:=List.length_eq_zero_iff.1 (by rw[lM];exact h)
 unfold cellAt
 rw[this];rfl
theorem FX{F:Nat}{w h:Int}{l:List Report}{m:af}{now:Int}{T:Mb (Int×Int)}(I:MbI F 1 aA (cg l l.length) T){seen:List Nat}(h3:∀e,e<T.A.length->e∈seen):cellsS w h l m now T.A seen=qa w h l m now:=by
 unfold cellsS qa aE
 refine List.map_congr_left fun p _ =>?_
 by_cases q:plQ w p∈seen.map (br T.A)
 ·rw[if_pos q]
 ·rw[if_neg q]
  refine (AW ?_).symm
  cases e:(atN l l.length (plQ w p)).length with
  |zero=>rfl
  |succ n =>
   have hh:dY (plQ w p) T.A=true:=by rw[I.has,lX,e];rfl
   obtain ⟨e,he,hq⟩:=wm hh
   exact absurd (List.mem_map.2 ⟨e,h3 e he,hq⟩) q
theorem mR{F:Nat}{l:List Report}{T:Mb (Int×Int)}(I:MbI F 1 aA (cg l l.length) T){e:Nat}(he:e<T.A.length):T.A[e]?=some (br T.A e,ff (cg l l.length (br T.A e)).length F (T.ks (br T.A e)))/\0<(cg l l.length (br T.A e)).length:=by
 obtain ⟨v,hv⟩:=wn he
 obtain ⟨g1,g2⟩:=ye (.chan none) I.nd hv
 rw[I.has]at g1
 have g1:=cc g1
 rw[I.vl _ _ g1]at g2
 rw[<- g2]at hv
 exact ⟨hv,g1⟩
theorem MbI.wkM{F:Nat}{α:Type}{enc:α->List Value}{rows:Int×Int->List α}{T:Mb (Int×Int)}(I:MbI F 1 enc rows T){σ:Nat->Option Nat}{ms:List Value}(e:ms=T.ms):wkO (.fam 0 ms) (rno σ 3 (.fam 0 T.ms)):=by
 refine mA ?_
 subst e
 show _=ah.fam 0 (T.ms.map (rn σ 3))
 rw[List.map_congr_left fun v hv=>I.fx v hv σ,List.map_id']
theorem HS{σ:Nat->Option Nat}{ms ms':List Value}(h:∀v∈ms',rr v)(e:ms=ms'):wkO (.fam 0 ms) (rno σ 3 (.fam 0 ms')):=by
 refine mA ?_
 subst e
 show _=ah.fam 0 (ms.map (rn σ 3))
 rw[List.map_congr_left fun v hv=>h v hv σ,List.map_id']
theorem MbI.wkA{F:Nat}{α:Type}{enc:α->List Value}{rows:Int×Int->List α}{T:Mb (Int×Int)}(I:MbI F 1 enc rows T){σ:Nat->Option Nat}(hF:σ F=some F){es:List (Value×Value)}(e:es=dU kXY id T.A):wkO (.map es) (rno σ 3 (.map (dU kXY id T.A))):=by
 refine mA ?_
 subst e
 show _=ah.map ((dU kXY id T.A).map fun e=>(rn σ 3 e.1,rn σ 3 e.2))
 congr 1
 unfold dU
 rw[List.map_map]
 refine List.map_congr_left fun p hp =>?_
 obtain ⟨i,hi,rfl⟩:=List.mem_iff_getElem.1 hp
 obtain ⟨g1,g2⟩:=ye (k:=T.A[i].1) (v:=T.A[i].2) (.chan none) I.nd (List.getElem?_eq_getElem hi)
 rw[I.has]at g1
 rw[I.vl _ _ (cc g1)]at g2
 show (kXY T.A[i].1,T.A[i].2)=(rn σ 3 (kXY T.A[i].1),rn σ 3 T.A[i].2)
 rw[<- g2,Lw hF];rfl
end
end Go.Proofs.YthcjliffpebjaaaGreat
namespace Go.Proofs.YthcjliffpebjaaaGreat
noncomputable section
def fo(l:List Report)(i:Nat)(q:Int×Int):List Report:=(atN l i q).map fun k=>l.getD k ag
def plR(w:Int)(l:List Report)(j:Nat):Int:=(l.getD j ag).y*w+(l.getD j ag).x
def kN(w:Int)(l:List Report)(m:af)(now:Int)(p:Int):List Bool:=aE (fun j=>decide (plR w l j<p)&&lv l m now j) l.length
open Classical in
def va(w:Int)(l:List Report)(m:af)(now:Int)(p:Int)(q:Int×Int)(k:Nat):List Bool:=aE (fun j=>decide (plR w l j<p∨j∈(atN l l.length q).take k)&&lv l m now j) l.length
def eG(w h:Int)(l:List Report)(m:af)(now:Int)(p:Int):List Cell:=aE (fun k=>if (k:Int)<p then cellAt l m now (plQ w k) else aO) (Int.toNat (w*h))
end
end Go.Proofs.YthcjliffpebjaaaGreat
namespace Go.Proofs.YthcjliffpebjaaaGreat
noncomputable section
attribute [local irreducible] vF
abbrev jgh:Value:=.bool true
abbrev jg2(qB0:af):Prop:=((krq 2 (.cells true 0 [nI qB0.up.ae,nI qB0.up.ab,nI qB0.up.aa,nI qB0.up.ac,nI qB0.down.ae,nI qB0.down.ab,nI qB0.down.aa,nI qB0.down.ac]))/\True)/\(True)/\(True)
abbrev jg9(qA0:List Report):=qA0.flatMap ai
abbrev jg4(qA0:List Report)(U J:Nat):Int:=((atN qA0 U (kxy (qA0.getD J ag))).length:Nat)
abbrev jg3(U:Nat)(qA0:List Report)(J:Nat)(qi2 qi1 qi0:Int)(qB0:af):=nw ((U:Int)+1) (∃bH:Nat,(bH<=qA0.length)/\(qA0.length-bH)<(qA0.length-U)/\true=true/\((nI ((U:Int)+1):Value)=nI (bH:Int)/\(nI (jg4 qA0 U J):Value)=nI (((atN qA0 bH (kxy (qA0.getD J ag))).length:Nat):Int)/\eR (pt 1)/\eR (nI qi2)/\eR (nI qi1)/\wR (slQ 0 2 qA0.length)/\eR (nI qi0)/\eR (nI (J:Int))/\True)/\jg2 qB0)
abbrev jg8(J:Nat)(qA0:List Report)(qi0 qi1 qi2:Int)(qB0:af):=nw ((J:Int)+1) (∃bH:Nat,(bH<=qA0.length)/\(qA0.length-bH)<(qA0.length-J)/\true=true/\((nI ((J:Int)+1):Value)=nI (bH:Int)/\eR (nI qi0)/\wR (slQ 0 2 qA0.length)/\eR (nI qi1)/\eR (nI qi2)/\eR (pt 1)/\True)/\jg2 qB0)
abbrev jgb(qi2 qi1 qi0:Int):Value:=.tuple #[.agg #[nI (bA qi2 qi1 qi0).1.w,nI (bA qi2 qi1 qi0).1.h,nI (bA qi2 qi1 qi0).1.hour,slQ 2 1 (List.length (bA qi2 qi1 qi0).1.cells)],nI (bA qi2 qi1 qi0).2]
abbrev jg5(qi2 qi1 qi0:Int):=List.flatMap cellC (bA qi2 qi1 qi0).1.cells
abbrev jgc(qi2 qi1 qi0:Int):Value:=.tuple #[.agg #[nI (bA qi2 qi1 qi0).1.w,nI (bA qi2 qi1 qi0).1.h,nI (bA qi2 qi1 qi0).1.hour,slQ 4 1 (List.length (bA qi2 qi1 qi0).1.cells)],nI (bA qi2 qi1 qi0).2]
abbrev jg7(qi2 qi1:Int)(qA0:List Report)(qB0:af)(qi0:Int):Value:=.tuple #[.agg #[nI (aP qi2 qi1 qA0 qB0 qi0).1.w,nI (aP qi2 qi1 qA0 qB0 qi0).1.h,nI (aP qi2 qi1 qA0 qB0 qi0).1.hour,slQ 7 1 (List.length (aP qi2 qi1 qA0 qB0 qi0).1.cells)],slQ 8 1 (List.length (aP qi2 qi1 qA0 qB0 qi0).2.1),nI (aP qi2 qi1 qA0 qB0 qi0).2.2]
abbrev jgd(qi2 qi1:Int)(qA0:List Report)(qB0:af)(qi0:Int):=List.flatMap cellC (aP qi2 qi1 qA0 qB0 qi0).1.cells
abbrev jgf(qi2 qi1:Int)(qA0:List Report)(qB0:af)(qi0:Int):=List.flatMap aA (aP qi2 qi1 qA0 qB0 qi0).2.1
abbrev jg6(qi2 qi1:Int)(qA0:List Report)(qB0:af)(qi0:Int):Value:=.tuple #[.agg #[nI (aP qi2 qi1 qA0 qB0 qi0).1.w,nI (aP qi2 qi1 qA0 qB0 qi0).1.h,nI (aP qi2 qi1 qA0 qB0 qi0).1.hour,slQ 9 1 (List.length (aP qi2 qi1 qA0 qB0 qi0).1.cells)],slQ 10 1 (List.length (aP qi2 qi1 qA0 qB0 qi0).2.1),nI (aP qi2 qi1 qA0 qB0 qi0).2.2]
abbrev jg0(qA0:List Report)(qv0:Value)(qi0 qi1 qi2:Int)(qB0:af):=fk (decide ((450:Int)<((qA0.length:Nat):Int))) (c0q 2 9 [] (.bool true) (jgh=qv0)) (lq (0<=qA0.length) (true=true/\((nI 0:Value)=nI ((0:Nat):Int)/\eR (nI qi0)/\wR (slQ 0 2 qA0.length)/\eR (nI qi1)/\eR (nI qi2)/\eR (pt 1)/\True)/\jg2 qB0) (∀J:Nat,(J<=qA0.length)->(fk (decide (((J:Int):Int)<((qA0.length:Nat):Int))) (lq (0<=qA0.length) (true=true/\((nI 0:Value)=nI ((0:Nat):Int)/\(nI 0:Value)=nI (((atN qA0 0 (kxy (qA0.getD J ag))).length:Nat):Int)/\eR (pt 1)/\eR (nI qi2)/\eR (nI qi1)/\wR (slQ 0 2 qA0.length)/\eR (nI qi0)/\eR (nI (J:Int))/\True)/\jg2 qB0) (∀U:Nat,(U<=qA0.length)->(fk (decide (((U:Int):Int)<((qA0.length:Nat):Int))) ((ixq (U:Int) qA0.length)/\(((jg9 qA0)[((0+Int.toNat (U:Int)*14)+3)]?=some (nI (qA0.getD U ag).x))/\((ixq (J:Int) qA0.length)/\(((jg9 qA0)[((0+Int.toNat (J:Int)*14)+3)]?=some (nI (qA0.getD J ag).x))/\(fk (((qA0.getD U ag).x:Int) == (qA0.getD J ag).x) ((ixq (U:Int) qA0.length)/\(((jg9 qA0)[((0+Int.toNat (U:Int)*14)+4)]?=some (nI (qA0.getD U ag).y))/\((ixq (J:Int) qA0.length)/\(((jg9 qA0)[((0+Int.toNat (J:Int)*14)+4)]?=some (nI (qA0.getD J ag).y))/\(fk (((qA0.getD U ag).y:Int) == (qA0.getD J ag).y) (nw ((jg4 qA0 U J)+1) (nw ((U:Int)+1) (∃bH:Nat,(bH<=qA0.length)/\(qA0.length-bH)<(qA0.length-U)/\true=true/\((nI ((U:Int)+1):Value)=nI (bH:Int)/\(nI ((jg4 qA0 U J)+1):Value)=nI (((atN qA0 bH (kxy (qA0.getD J ag))).length:Nat):Int)/\eR (pt 1)/\eR (nI qi2)/\eR (nI qi1)/\wR (slQ 0 2 qA0.length)/\eR (nI qi0)/\eR (nI (J:Int))/\True)/\jg2 qB0))) (jg3 U qA0 J qi2 qi1 qi0 qB0)))))) (jg3 U qA0 J qi2 qi1 qi0 qB0)))))) (fk (decide ((9:Int)<(jg4 qA0 U J))) (fk (decide (((jg4 qA0 U J):Int)<=12)) (c0q 2 9 [] (.bool true) (jgh=qv0)) (jg8 J qA0 qi0 qi1 qi2 qB0)) (jg8 J qA0 qi0 qi1 qi2 qB0))))) (n0q 2 62 [nI qi2,nI qi1,nI qi0] (jgb qi2 qi1 qi0) [(.cells true 8 (jg5 qi2 qi1 qi0):ah)] (n0q 4 63 [nI qi2,nI qi1,nI qi0] (jgc qi2 qi1 qi0) [(.cells true 8 (jg5 qi2 qi1 qi0):ah)] (c2q 6 2 (.cells true 8 (jg5 qi2 qi1 qi0)) 4 (.cells true 8 (jg5 qi2 qi1 qi0)) 53 [.agg #[nI (bA qi2 qi1 qi0).1.w,nI (bA qi2 qi1 qi0).1.h,nI (bA qi2 qi1 qi0).1.hour,slQ 2 1 (List.length (bA qi2 qi1 qi0).1.cells)],.agg #[nI (bA qi2 qi1 qi0).1.w,nI (bA qi2 qi1 qi0).1.h,nI (bA qi2 qi1 qi0).1.hour,slQ 4 1 (List.length (bA qi2 qi1 qi0).1.cells)]] (.bool true) (fk (((bA qi2 qi1 qi0).2:Int) != (bA qi2 qi1 qi0).2) ((.bool false:Value)=qv0) (n1q 6 0 (.cells false 0 (jg9 qA0)) 10 [slQ 0 2 qA0.length] (slQ 6 1 qA0.length) [(.cells true 14 (jg9 qA0):ah)] (n1q 7 6 (.cells true 14 (jg9 qA0)) 64 [nI qi2,nI qi1,slQ 6 1 qA0.length,.agg #[nI qB0.up.ae,nI qB0.up.ab,nI qB0.up.aa,nI qB0.up.ac,nI qB0.down.ae,nI qB0.down.ab,nI qB0.down.aa,nI qB0.down.ac],nI qi0] (jg7 qi2 qi1 qA0 qB0 qi0) [(.cells true 8 (jgd qi2 qi1 qA0 qB0 qi0):ah),(.cells true 1 (jgf qi2 qi1 qA0 qB0 qi0):ah)] (n1q 9 0 (.cells false 0 (jg9 qA0)) 65 [nI qi2,nI qi1,slQ 0 2 qA0.length,.agg #[nI qB0.up.ae,nI qB0.up.ab,nI qB0.up.aa,nI qB0.up.ac,nI qB0.down.ae,nI qB0.down.ab,nI qB0.down.aa,nI qB0.down.ac],nI qi0] (jg6 qi2 qi1 qA0 qB0 qi0) [(.cells true 8 (jgd qi2 qi1 qA0 qB0 qi0):ah),(.cells true 1 (jgf qi2 qi1 qA0 qB0 qi0):ah)] (c2q 11 7 (.cells true 8 (jgd qi2 qi1 qA0 qB0 qi0)) 9 (.cells true 8 (jgd qi2 qi1 qA0 qB0 qi0)) 53 [.agg #[nI (aP qi2 qi1 qA0 qB0 qi0).1.w,nI (aP qi2 qi1 qA0 qB0 qi0).1.h,nI (aP qi2 qi1 qA0 qB0 qi0).1.hour,slQ 7 1 (List.length (aP qi2 qi1 qA0 qB0 qi0).1.cells)],.agg #[nI (aP qi2 qi1 qA0 qB0 qi0).1.w,nI (aP qi2 qi1 qA0 qB0 qi0).1.h,nI (aP qi2 qi1 qA0 qB0 qi0).1.hour,slQ 9 1 (List.length (aP qi2 qi1 qA0 qB0 qi0).1.cells)]] (.bool true) (c2q 11 8 (.cells true 1 (jgf qi2 qi1 qA0 qB0 qi0)) 10 (.cells true 1 (jgf qi2 qi1 qA0 qB0 qi0)) 23 [slQ 8 1 (List.length (aP qi2 qi1 qA0 qB0 qi0).2.1),slQ 10 1 (List.length (aP qi2 qi1 qA0 qB0 qi0).2.1)] (.bool true) (fk (((aP qi2 qi1 qA0 qB0 qi0).2.2:Int) == (aP qi2 qi1 qA0 qB0 qi0).2.2) (c2q 11 6 (.cells true 14 (jg9 qA0)) 0 (.cells false 0 (jg9 qA0)) 26 [slQ 6 1 qA0.length,slQ 0 2 qA0.length] (.bool true) (c0q 11 9 [] (.bool true) (jgh=qv0))) ((.bool false:Value)=qv0))))))))))))))
def wY(sp:Value)(w h:Int)(l:List Report)(m:af)(now:Int):Prop :=
 (fk (decide ((60:Int)<((l.length:Nat):Int))) (fk (decide ((((l.length:Nat):Int):Int)<=400)) (c0q 2 9 [] (.bool true) (jgh=sp)) (jg0 l sp now h w m)) (jg0 l sp now h w m))
abbrev jge:Hint:=.ans [] (.bool true) [] (.auto)
abbrev jga(qB0:af):List (Nat×Bool×ah):=[(1,true,.cells true 0 [nI qB0.up.ae,nI qB0.up.ab,nI qB0.up.aa,nI qB0.up.ac,nI qB0.down.ae,nI qB0.down.ab,nI qB0.down.aa,nI qB0.down.ac])]
abbrev jgg(U:Nat):Hint:=.slot 46 (nI ((U:Int)+1)) (.go 0 (.again []))
abbrev jg1(qi0:Int)(qA0:List Report)(qi1 qi2:Int)(qB0:af):Hint:=.fork jge (.go 0 (.inv 3 (Nat) (0) [] [1] (fun J=>[(11,nI (J:Int)),(4,nI qi0),(2,slQ 0 2 qA0.length),(1,nI qi1),(0,nI qi2),(8,pt 1)]) (fun J=>(jga qB0)) (fun J=>[]) (fun J=>[]) (fun J=>(J<=qA0.length)) (fun J=>(qA0.length-J)) (fun J => .go 3 (.fork (.go 1 (.inv 3 (Nat) (0) [] [1] (fun U=>[(13,nI (U:Int)),(12,nI (jg4 qA0 U J)),(8,pt 1),(0,nI qi2),(1,nI qi1),(2,slQ 0 2 qA0.length),(4,nI qi0),(11,nI (J:Int))]) (fun U=>(jga qB0)) (fun U=>[]) (fun U=>[]) (fun U=>(U<=qA0.length)) (fun U=>(qA0.length-U)) (fun U => .go 3 (.fork (.go 1 (.need (.go 0 (.val (nI (qA0.getD U ag).x) (.go 1 (.need (.go 0 (.val (nI (qA0.getD J ag).x) (.go 1 (.am (.go 1 (.need (.go 0 (.val (nI (qA0.getD U ag).y) (.go 1 (.need (.go 0 (.val (nI (qA0.getD J ag).y) (.go 1 (.fork (.go 1 (.slot 72 (nI ((jg4 qA0 U J)+1)) (.go 2 (jgg U)))) (.go 1 (jgg U)))))))))))) (.go 3 (jgg U)))))))))))) (.go 2 (.am (.go 2 (.fork jge (.go 1 (.slot 40 (nI ((J:Int)+1)) (.go 0 (.again [])))))) (.go 3 (.slot 40 (nI ((J:Int)+1)) (.go 0 (.again [])))))))))) (.go 2 (.ans [] (jgb qi2 qi1 qi0) [.cells true 8 (jg5 qi2 qi1 qi0)] (.go 8 (.ans [] (jgc qi2 qi1 qi0) [.cells true 8 (jg5 qi2 qi1 qi0)] (.go 7 (.ans [(2,.cells true 8 (jg5 qi2 qi1 qi0)),(4,.cells true 8 (jg5 qi2 qi1 qi0))] (.bool true) [] (.go 5 (.fork (.auto) (.go 0 (.ans [(0,.cells false 0 (jg9 qA0))] (slQ 6 1 qA0.length) [.cells true 14 (jg9 qA0)] (.go 14 (.ans [(6,.cells true 14 (jg9 qA0))] (jg7 qi2 qi1 qA0 qB0 qi0) [.cells true 8 (jgd qi2 qi1 qA0 qB0 qi0),.cells true 1 (jgf qi2 qi1 qA0 qB0 qi0)] (.go 11 (.ans [(0,.cells false 0 (jg9 qA0))] (jg6 qi2 qi1 qA0 qB0 qi0) [.cells true 8 (jgd qi2 qi1 qA0 qB0 qi0),.cells true 1 (jgf qi2 qi1 qA0 qB0 qi0)] (.go 8 (.ans [(7,.cells true 8 (jgd qi2 qi1 qA0 qB0 qi0)),(9,.cells true 8 (jgd qi2 qi1 qA0 qB0 qi0))] (.bool true) [] (.go 2 (.ans [(8,.cells true 1 (jgf qi2 qi1 qA0 qB0 qi0)),(10,.cells true 1 (jgf qi2 qi1 qA0 qB0 qi0))] (.bool true) [] (.go 6 (.am (.go 1 (.ans [(6,.cells true 14 (jg9 qA0)),(0,.cells false 0 (jg9 qA0))] (.bool true) [] (.go 1 jge))) (.auto)))))))))))))))))))))))))
theorem Ga(sp:Value)(w h:Int)(l:List Report)(m:af)(now:Int):vE 6 [nI w,nI h,slQ 0 2 l.length,.agg #[nI m.up.ae,nI m.up.ab,nI m.up.aa,nI m.up.ac,nI m.down.ae,nI m.down.ab,nI m.down.aa,nI m.down.ac],nI now] (aH 0 [l.flatMap ai]) (some [])
 (.go 5 (.am (.go 4 (.am (.go 1 jge) (.go 3 (jg1 now l h w m)))) (.go 5 (jg1 now l h w m))))
 (fun v _ _=>v=sp)=wY sp w h l m now:=by kernel_rfl
end
end Go.Proofs.YthcjliffpebjaaaGreat
