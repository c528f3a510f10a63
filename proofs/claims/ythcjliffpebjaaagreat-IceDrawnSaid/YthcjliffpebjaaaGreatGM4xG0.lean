/- Maps whose values are lists: what is known of one, and what stays known. No condition. -/
import Derived.Test.YthcjliffpebjaaaGreatGP5xT0
import Derived.Test.YthcjliffpebjaaaGreatGV11xV14
import Derived.Test.YthcjliffpebjaaaGreatGV3xK38
import Derived.Test.YthcjliffpebjaaaGreatGS0xP1a
open Go Go.K
set_option maxRecDepth 1000000
set_option maxHeartbeats 4000000
set_option linter.unusedVariables false
set_option linter.unusedSimpArgs false
namespace Go.K
section
variable {κ β:Type} [DecidableEq κ]
theorem qd(k:κ)(u v:β):∀F:List (κ×β),bP k v (bP k u F)=bP k v F
 | [] =>by show (if k=k then [(k,v)] else _)=[(k,v)];rw[if_pos rfl]
 |e :: F=>by
  show bP k v (if e.1=k then (k,u) :: F else e :: bP k u F)=if e.1=k then (k,v) :: F else e :: bP k v F
  by_cases q:e.1=k
  ·rw[if_pos q,if_pos q];show (if k=k then (k,v) :: F else _)=_;rw[if_pos rfl]
  ·rw[if_neg q,if_neg q];show (if e.1=k then _ else e :: bP k v (bP k u F))=_;rw[if_neg q,qd k u v F]
theorem qW(key:κ->Value)(val:β->Value)(k:κ)(d:β):∀F:List (κ×β),cL k F=true->(bD key val F)[cy k F]?=some (key k,val (eo k d F))
 | [],h=>by cases h
 |e :: F,h=>by
  unfold cL at h;unfold cy eo
  by_cases q:e.1=k
  ·rw[if_pos q,if_pos q];show some (key e.1,val e.2)=_;rw[q]
  ·rw[if_neg q]at h ⊢;rw[if_neg q]
   show (bD key val F)[cy k F]?=_
   exact qW key val k d F h
theorem dN(key:κ->Value)(val:β->Value)(k:κ)(v:β):∀F:List (κ×β),(bD key val (bP k v F))[cy k F]?=some (key k,val v)
 | [] =>rfl
 |e :: F=>by
  unfold cy bP
  by_cases q:e.1=k
  ·rw[if_pos q,if_pos q];rfl
  ·rw[if_neg q,if_neg q]
   show (bD key val (bP k v F))[cy k F]?=_
   exact dN key val k v F
theorem dM(key:κ->Value)(val:β->Value)(k:κ)(u v:β):∀F:List (κ×β),(bD key val (bP k u F)).set (cy k F) (key k,val v)=bD key val (bP k v F)
 | [] =>rfl
 |e :: F=>by
  unfold cy bP
  by_cases q:e.1=k
  ·rw[if_pos q,if_pos q,if_pos q];rfl
  ·rw[if_neg q,if_neg q,if_neg q]
   show (key e.1,val e.2) :: (bD key val (bP k u F)).set (cy k F) _=(key e.1,val e.2) :: bD key val (bP k v F)
   rw[dM key val k u v F]
theorem nl(k:κ)(v:β)(j:κ):∀F:List (κ×β),j∈(bP k v F).map (·.1) ↔ j=k∨j∈F.map (·.1)
 | [] =>by unfold bP;simp
 |e :: F=>by
  unfold bP
  by_cases q:e.1=k
  ·rw[if_pos q];simp only[List.map_cons,List.mem_cons,q]
   exact ⟨fun h=>h.elim .inl fun h => .inr (.inr h),fun h=>h.elim .inl fun h=>h⟩
  ·rw[if_neg q];simp only[List.map_cons,List.mem_cons,nl k v j F]
   exact ⟨fun h=>h.elim (fun h => .inr (.inl h)) fun h=>h.elim .inl fun h => .inr (.inr h),fun h=>h.elim (fun h => .inr (.inl h)) fun h=>h.elim .inl fun h => .inr (.inr h)⟩
theorem ls(k:κ)(v:β):∀F:List (κ×β),(F.map (·.1)).Nodup->((bP k v F).map (·.1)).Nodup
 | [],_=>by unfold bP;simp
 |e :: F,h=>by
  rw[List.map_cons,List.nodup_cons]at h
  unfold bP
  by_cases q:e.1=k
  ·rw[if_pos q,List.map_cons,List.nodup_cons];rw[q]at h;exact h
  ·rw[if_neg q,List.map_cons,List.nodup_cons]
   exact ⟨fun hm=>((nl k v e.1 F).1 hm).elim q h.1,ls k v F h.2⟩
theorem po(d:β):∀{F:List (κ×β)} {i:Nat} {k:κ} {v:β},(F.map (·.1)).Nodup->F[i]?=some (k,v)->cL k F=true/\eo k d F=v
 | [],i,k,v,_,h=>by cases h
 |e :: F,0,k,v,_,h=>by
  cases h
  unfold cL eo
  rw[if_pos rfl,if_pos rfl];exact ⟨rfl,rfl⟩
 |e :: F,i+1,k,v,hn,h=>by
  rw[List.map_cons,List.nodup_cons]at hn
  have h':F[i]?=some (k,v):=h
  have hm:k∈F.map (·.1):=List.mem_map.2 ⟨(k,v),List.mem_of_getElem? h',rfl⟩
  have q:¬ e.1=k:=fun q=>hn.1 (q ▸ hm)
  unfold cL eo
  rw[if_neg q,if_neg q]
  exact po d hn.2 h'
end
structure Mb(κ:Type) where
 A:List (κ×Value)
 ks:κ->Nat
 ms:List Value
structure MbI{κ Y:Type}[DecidableEq κ](F z:Nat)(enc:Y->List Value)(rows:κ->List Y)(T:Mb κ):Prop where
 nd:(T.A.map (·.1)).Nodup
 m0:T.ms[0]?=some (.int .i64 (z:Int))
 fx:∀v∈T.ms,ki v
 has:∀k,cL k T.A=decide (0<(rows k).length)
 vl:∀k d,0<(rows k).length->eo k d T.A=cV (rows k).length F (T.ks k)
 rw:∀k,0<(rows k).length->T.ms[T.ks k+1]?=some (.agg ⟨(rows k).flatMap enc⟩)
 dj:∀k l,k≠l->0<(rows k).length->0<(rows l).length->T.ks k≠T.ks l
section
variable {κ Y:Type} [DecidableEq κ] {F z:Nat} {enc:Y->List Value} {rows:κ->List Y} {T:Mb κ}
def Mb.new(κ:Type)(z:Nat):Mb κ:=⟨[],fun _=>0,[.int .i64 (z:Int)]⟩
theorem MbI.new(F z:Nat)(enc:Y->List Value):MbI F z enc (fun _:κ=>[]) (Mb.new κ z):=by
 refine ⟨List.nodup_nil,rfl,fun v hv U =>?_,fun k=>rfl,fun k d h=>absurd h (Nat.lt_irrefl 0),fun k h=>absurd h (Nat.lt_irrefl 0),fun k l _ h=>absurd h (Nat.lt_irrefl 0)⟩
 cases List.mem_singleton.1 hv;rfl
theorem MbI.pos(I:MbI F z enc rows T):0<T.ms.length:=(List.getElem?_eq_some_iff.1 I.m0).1
theorem MbI.lt(I:MbI F z enc rows T){k:κ}(h:0<(rows k).length):T.ks k+1<T.ms.length:=(List.getElem?_eq_some_iff.1 (I.rw k h)).1
def Mb.put(F:Nat)(t:κ)(r:Nat)(row:List Value)(q:Nat)(T:Mb κ):Mb κ:=⟨bP t (cV q F (T.ms.length-1)) T.A,fun j=>if j=t then T.ms.length-1 else T.ks j,bX q (aW r (T.ks t) T.ms) row⟩
theorem MbI.put(I:MbI F z enc rows T)(t:κ)(l:List Y)(h0:0<l.length)(hf:∀(U:Nat->Option Nat) (x:Y),∀v∈enc x,rn U 2 v=v){row:List Value}(e:row=l.flatMap enc) :
  MbI F z enc (fun j=>if j=t then l else rows j) (T.put F t (rows t).length row l.length):=by
 subst e
 have hp:=I.pos
 have hfx:=gy (r:=(rows t).length) (k:=T.ks t) I.fx
 have hll:=gx (rows t).length (T.ks t) T.ms
 have hle:∀j,j≠t->0<(rows j).length->(aW (rows t).length (T.ks t) T.ms)[T.ks j+1]?=T.ms[T.ks j+1]? := fun j hne h=>by
  cases hr:(rows t).length with
  |zero=>rfl
  |succ r =>
   show (T.ms.set (T.ks t+1) junk)[_]?=_
   rw[List.getElem?_set_ne fun e=>I.dj t j (Ne.symm hne) (by omega) h (by omega)]
 have hz0:(aW (rows t).length (T.ks t) T.ms)[0]?=T.ms[0]? := by
  cases hr:(rows t).length with
  |zero=>rfl
  |succ r=>exact List.getElem?_set_ne (by omega)
 have hmr:bX l.length (aW (rows t).length (T.ks t) T.ms) (l.flatMap enc)=aW (rows t).length (T.ks t) T.ms ++ [.agg ⟨l.flatMap enc⟩]:=by
  cases hq:l.length with
  |zero=>omega
  |succ q=>rfl
 refine ⟨ls _ _ _ I.nd,?_,?_,fun k =>?_,fun k d hk =>?_,fun k hk =>?_,fun k u hne h1 h2 =>?_⟩
 ·show (bX _ _ _)[0]?=_
  rw[hmr,List.getElem?_append_left (by omega),hz0];exact I.m0
 ·intro v hv
  have hv:v∈bX l.length (aW (rows t).length (T.ks t) T.ms) (l.flatMap enc):=hv
  rw[hmr]at hv
  rcases List.mem_append.1 hv with hv|hv
  ·exact hfx v hv
  ·cases List.mem_singleton.1 hv
   refine nh fun U v hv =>?_
   obtain ⟨x,_,hx⟩:=List.mem_flatMap.1 hv
   exact hf U x v hx
 ·show cL k (bP t _ T.A)=_
  rw[qL,I.has]
  by_cases h:k=t
  ·rw[if_pos h,decide_eq_true h,decide_eq_true h0];rfl
  ·rw[if_neg h,decide_eq_false h];rfl
 ·show eo k d (bP t _ T.A)=cV (if k=t then l else rows k).length F (if k=t then _ else _)
  rw[jw]
  by_cases h:k=t
  ·rw[if_pos h,if_pos h,if_pos h]
  ·rw[if_neg h]at hk
   rw[if_neg h,if_neg h,if_neg h];exact I.vl k d hk
 ·show (bX _ _ _)[(if k=t then T.ms.length-1 else T.ks k)+1]?=some (.agg ⟨(if k=t then l else rows k).flatMap enc⟩)
  rw[hmr]
  by_cases h:k=t
  ·rw[if_pos h,if_pos h,List.getElem?_append_right (by omega),show T.ms.length-1+1-(aW (rows t).length (T.ks t) T.ms).length=0 by omega];rfl
  ·rw[if_neg h]at hk
   rw[if_neg h,if_neg h,List.getElem?_append_left (by have:=I.lt hk;omega),hle k h hk]
   exact I.rw k hk
 ·show (if k=t then T.ms.length-1 else T.ks k)≠(if u=t then T.ms.length-1 else T.ks u)
  by_cases a:k=t
  ·have b:¬ u=t:=fun b=>hne (a.trans b.symm)
   rw[if_neg b]at h2
   rw[if_pos a,if_neg b]
   have:=I.lt h2;omega
  ·rw[if_neg a]at h1
   rw[if_neg a]
   by_cases b:u=t
   ·rw[if_pos b]
    have:=I.lt h1;omega
   ·rw[if_neg b]at h2
    rw[if_neg b];exact I.dj k u hne h1 h2
end
end Go.K
namespace Go.K
section
variable {κ β:Type} [DecidableEq κ]
theorem qG(k:κ)(v:β):∀F:List (κ×β),cy k (bP k v F)=cy k F
 | [] =>by show (if k=k then 0 else _)=0;rw[if_pos rfl]
 |e :: F=>by
  show cy k (if e.1=k then (k,v) :: F else e :: bP k v F)=if e.1=k then 0 else cy k F+1
  by_cases q:e.1=k
  ·rw[if_pos q,if_pos q];show (if k=k then 0 else _)=0;rw[if_pos rfl]
  ·rw[if_neg q,if_neg q];show (if e.1=k then 0 else cy k (bP k v F)+1)=_;rw[if_neg q,qG k v F]
theorem tt(k:κ):∀F:List (κ×β),cL k F=false->cy k F=F.length
 | [],_=>rfl
 |e :: F,h=>by
  unfold cL at h
  show (if e.1=k then 0 else cy k F+1)=_
  by_cases q:e.1=k
  ·rw[if_pos q]at h;cases h
  ·rw[if_neg q]at h ⊢;rw[tt k F h];rfl
theorem qe(k:κ)(d:β):∀F:List (κ×β),cL k F=true->bP k (eo k d F) F=F
 | [],h=>by cases h
 |e :: F,h=>by
  unfold cL at h
  show (if e.1=k then (k,eo k d (e :: F)) :: F else e :: bP k (eo k d (e :: F)) F)=_
  have g:eo k d (e :: F)=if e.1=k then e.2 else eo k d F:=rfl
  by_cases q:e.1=k
  ·rw[if_pos q,g,if_pos q,<- q]
  ·rw[if_neg q]at h
   rw[if_neg q,g,if_neg q,qe k d F h]
variable {P:Program} {kt:TypeId} {key:κ->Value} {val:β->Value}
theorem xZ(hk:∀a b,b5 P Op.maxDepth kt (key a) (key b)=some (decide (a=b)))(hq:∀a,jm (key a) (key a)=true)(k:κ)(d:β){z:Value}(hz:val d=z)(F:List (κ×β)) :
  lS P kt z (key k) (bD key val F)=some (bD key val (bP k (eo k d F) F),.tuple #[val (eo k d F),.int .i64 ((cy k F:Nat):Int)]):=by
 unfold lS
 rw[oW hk k d F 0]
 cases h:cL k F with
 |true =>
  rw[if_pos rfl,qe k d F h]
  obtain ⟨x,hx⟩:=tI (key:=key) (val:=val) k F h
  simp only[Nat.zero_add]
  rw[hx]
  simp only[hq]
 |false =>
  rw[if_neg (by simp),jx k d F h,s9 k d F h,tt k F h,mz,<- hz]
  show some (bD key val F ++ [(key k,val d)],_)=some (bD key val (F ++ [(k,d)]),_)
  simp[bD]
omit [DecidableEq κ] in
theorem wv{es:List (Value×Value)}{i:Nat}{k v:Value}(h:es[i]?=some (k,v))(x:Value):nK (.int .i64 (i:Int)) x es=some (es.set i (k,x)):=by
 show (match es[Int.toNat (i:Int)]? with|some (k,_)=>if 0<=(i:Int) then some (es.set (Int.toNat (i:Int)) (k,x)) else none|none=>none)=_
 rw[Int.toNat_natCast,h]
 show (if 0<=(i:Int) then _ else _)=_
 rw[if_pos (by omega)]
end
end Go.K
namespace Go.Proofs.YthcjliffpebjaaaGreat
noncomputable section
def kxy(r:Report):Int×Int:=(r.x,r.y)
def atN(l:List Report)(i:Nat)(q:Int×Int):List Nat:=(List.range i).filter fun k=>decide (kxy (l.getD k af)=q)
def ak(l:List Report)(i:Nat)(q:Int×Int):List Int:=(atN l i q).map fun k:Nat=>(k:Int)
open Classical in
def ez(w h:Int)(l:List Report)(now:Int)(i:Nat):Int :=
 if errReport (l.getD i af)=0 then (if ∃k,k<i/\(l.getD k af).id=(l.getD i af).id then 10 else
  if (l.getD i af).x ≥ w∨(l.getD i af).y ≥ h then 1 else if (l.getD i af).at_ > now then 12 else if 12<=(atN l i (kxy (l.getD i af))).length then 2 else 0) else errReport (l.getD i af)
def eC(w h:Int)(l:List Report)(m:aR)(now:Int):Int:=ew (bp w h now) (ew (bA m) (if 400<l.length then 2 else ca (ez w h l now) l.length))
def aj(l:List Report)(m:aR)(now:Int)(q:Int×Int):List Cell:=(atN l l.length q).map fun k=>bl (l.getD k af) m now
def cellAt(l:List Report)(m:aR)(now:Int)(q:Int×Int):Cell:=(aT (aj l m now q) (ao (aj l m now q))).getD ah
def jp(l:List Report)(m:aR)(now:Int)(k:Nat):Bool:=!(cx (aj l m now (kxy (l.getD k af))).length (ao (aj l m now (kxy (l.getD k af)))) (atN l k (kxy (l.getD k af))).length)
def ct(l:List Report)(m:aR)(now:Int)(n:Nat):List Int:=((List.range n).filter (jp l m now)).map fun k:Nat=>(k:Int)
def plQ(w:Int)(p:Nat):Int×Int:=((p:Int) % w,(p:Int) / w)
def mA(w h:Int)(l:List Report)(m:aR)(now:Int):List Cell:=aQ (fun p=>cellAt l m now (plQ w p)) (Int.toNat (w*h))
def aw(n:Nat):List Cell:=List.replicate n az
def bS(w h t:Int):gQ×Int:=if bp w h t=0 then (⟨w,h,t,aw (Int.toNat (w*h))⟩,0) else (cj,bp w h t)
def aA(w h:Int)(l:List Report)(m:aR)(now:Int):gQ×List Int×Int :=
 if eC w h l m now=0 then (⟨w,h,now,mA w h l m now⟩,ct l m now l.length,0) else (cj,[],eC w h l m now)
def b9(c:Cell)(n x:Nat):List Cell:=List.replicate x c++List.replicate (n-x) ah
end
end Go.Proofs.YthcjliffpebjaaaGreat
namespace Go.Proofs.YthcjliffpebjaaaGreat
noncomputable section
attribute [local irreducible] vF
def Ar(sp:Value)(n:Nat):Prop :=
 (∃y0:Int,(.int .u64 (IntKind.wrap .u64 ((BitVec.ofInt (IntKind.bits .u64) ((n:Nat):Int) &&& BitVec.ofInt (IntKind.bits .u64) 4294967295).toNat:Nat)):Value) = .int .u64 y0/\((.int .u64 (IntKind.wrap .u64 (1*y0)):Value) = .int .u64 (1*y0)/\((.int .u64 (IntKind.wrap .u64 (0*y0)):Value) = .int .u64 (0*y0)/\((.int .u64 (IntKind.wrap .u64 ((0*y0)+(Int.fdiv (1*y0) (2 ^ 32)))):Value) = .int .u64 ((0*y0)+(Int.fdiv (1*y0) (2 ^ 32)))/\(∃y1:Int,(.int .u64 (IntKind.wrap .u64 ((BitVec.ofInt (IntKind.bits .u64) ((0*y0)+(Int.fdiv (1*y0) (2 ^ 32))) &&& BitVec.ofInt (IntKind.bits .u64) 4294967295).toNat:Nat)):Value) = .int .u64 y1/\((.int .u64 (IntKind.wrap .u64 (1*(Int.fdiv ((n:Nat):Int) (2 ^ 32)))):Value) = .int .u64 (1*(Int.fdiv ((n:Nat):Int) (2 ^ 32)))/\((.int .u64 (IntKind.wrap .u64 (y1+(1*(Int.fdiv ((n:Nat):Int) (2 ^ 32))))):Value) = .int .u64 (y1+(1*(Int.fdiv ((n:Nat):Int) (2 ^ 32))))/\((.int .u64 (IntKind.wrap .u64 (0*(Int.fdiv ((n:Nat):Int) (2 ^ 32)))):Value) = .int .u64 (0*(Int.fdiv ((n:Nat):Int) (2 ^ 32)))/\((.int .u64 (IntKind.wrap .u64 ((0*(Int.fdiv ((n:Nat):Int) (2 ^ 32)))+(Int.fdiv ((0*y0)+(Int.fdiv (1*y0) (2 ^ 32))) (2 ^ 32)))):Value) = .int .u64 ((0*(Int.fdiv ((n:Nat):Int) (2 ^ 32)))+(Int.fdiv ((0*y0)+(Int.fdiv (1*y0) (2 ^ 32))) (2 ^ 32)))/\(∃y2:Int,(.int .u64 ((0*(Int.fdiv ((n:Nat):Int) (2 ^ 32)))+(Int.fdiv ((0*y0)+(Int.fdiv (1*y0) (2 ^ 32))) (2 ^ 32))):Value) = .int .u64 y2/\((.int .u64 (IntKind.wrap .u64 (y2+(Int.fdiv (y1+(1*(Int.fdiv ((n:Nat):Int) (2 ^ 32)))) (2 ^ 32)))):Value) = .int .u64 (y2+(Int.fdiv (y1+(1*(Int.fdiv ((n:Nat):Int) (2 ^ 32)))) (2 ^ 32)))/\((.int .u64 (IntKind.wrap .u64 (1*((n:Nat):Int))):Value) = .int .u64 (1*((n:Nat):Int))/\(.tuple #[.int .u64 (y2+(Int.fdiv (y1+(1*(Int.fdiv ((n:Nat):Int) (2 ^ 32)))) (2 ^ 32))),.int .u64 (1*((n:Nat):Int))]:Value)=sp))))))))))))
theorem AZ(sp:Value)(n:Nat):vF prog msk (dm 0) 100000 true 40 true 150 [.int .u64 1,.int .u64 ((n:Nat):Int)] ⟨0,.leaf⟩ (some [])
 (.go 14 (.bind Int (fun y0 => .slot 19 (.int .u64 y0) (.go 6 (.slot 24 (.int .u64 (1*y0)) (.go 3 (.slot 27 (.int .u64 (0*y0)) (.go 2 (.slot 30 (.int .u64 ((0*y0)+(Int.fdiv (1*y0) (2 ^ 32)))) (.go 2 (.bind Int (fun y1 => .slot 32 (.int .u64 y1) (.go 7 (.slot 38 (.int .u64 (1*(Int.fdiv ((n:Nat):Int) (2 ^ 32)))) (.go 0 (.slot 39 (.int .u64 (y1+(1*(Int.fdiv ((n:Nat):Int) (2 ^ 32))))) (.go 3 (.slot 42 (.int .u64 (0*(Int.fdiv ((n:Nat):Int) (2 ^ 32)))) (.go 1 (.slot 44 (.int .u64 ((0*(Int.fdiv ((n:Nat):Int) (2 ^ 32)))+(Int.fdiv ((0*y0)+(Int.fdiv (1*y0) (2 ^ 32))) (2 ^ 32)))) (.bind Int (fun y2 => .slot 44 (.int .u64 y2) (.go 2 (.slot 47 (.int .u64 (y2+(Int.fdiv (y1+(1*(Int.fdiv ((n:Nat):Int) (2 ^ 32)))) (2 ^ 32)))) (.go 3 (.slot 50 (.int .u64 (1*((n:Nat):Int))) (.auto)))))))))))))))))))))))))))
 (fun v _ _=>v=sp)=Ar sp n:=by kernel_rfl
def tV(c:Cell)(n:Nat):Prop :=
 (((decide ((((n:Nat):Int):Int)<0))=true->False)/\((decide ((((n:Nat):Int):Int)<0))=false->((True)/\(∀H':Heap,H'.length=1->(True)->ai prog 150 [.int .u64 1,.int .u64 (IntKind.wrap .u64 ((n:Nat):Int))] H' [] (Is (.tuple #[.int .u64 0,.int .u64 ((n:Nat):Int)]) H'))/\(((decide ((9223372036854775807:Int)<((n:Nat):Int)))=true->False)/\((decide ((9223372036854775807:Int)<((n:Nat):Int)))=false->(((0:Int)<=(IntKind.wrap .i64 ((n:Nat):Int))/\((IntKind.wrap .i64 ((n:Nat):Int)):Int)<=(IntKind.wrap .i64 ((n:Nat):Int))/\((IntKind.wrap .i64 ((n:Nat):Int)):Int)<2 ^ 62/\64*((IntKind.wrap .i64 ((n:Nat):Int)):Int)<=2 ^ 48)/\((((min 1 (Int.toNat (IntKind.wrap .i64 ((n:Nat):Int))))<=1/\0+(min 1 (Int.toNat (IntKind.wrap .i64 ((n:Nat):Int))))*8<=List.length ([.int .i64 c.ag.lo,.int .i64 c.ag.hi,.int .i64 c.ad.lo,.int .i64 c.ad.hi,.int .i64 c.ac.lo,.int .i64 c.ac.hi,.int .i64 c.ab.lo,.int .i64 c.ab.hi]:List Value))/\0+(min 1 (Int.toNat (IntKind.wrap .i64 ((n:Nat):Int))))*8<=List.length (dh [.int .i64 0,.int .i64 0,.int .i64 0,.int .i64 0,.int .i64 0,.int .i64 0,.int .i64 0,.int .i64 0] (Int.toNat (IntKind.wrap .i64 ((n:Nat):Int))))/\List.all (List.take ((min 1 (Int.toNat (IntKind.wrap .i64 ((n:Nat):Int))))*8) (List.drop 0 ([.int .i64 c.ag.lo,.int .i64 c.ag.hi,.int .i64 c.ad.lo,.int .i64 c.ad.hi,.int .i64 c.ac.lo,.int .i64 c.ac.hi,.int .i64 c.ab.lo,.int .i64 c.ab.hi]:List Value))) (fun v=>cO v)=true)/\true=true/\(true=true/\(0+1<=n)/\(true=true/\((.int .i64 (((min 1 (Int.toNat (IntKind.wrap .i64 ((n:Nat):Int)))):Nat):Int):Value) = .int .i64 (((0+1):Nat):Int)/\(.slice none 0 0:Value) = .slice none 0 0/\(.slice (some ⟨1,0,none⟩) (Int.toNat (IntKind.wrap .i64 ((n:Nat):Int))) (Int.toNat (IntKind.wrap .i64 ((n:Nat):Int))):Value) = .slice (some ⟨1,0,none⟩) (Int.toNat (IntKind.wrap .i64 ((n:Nat):Int))) (Int.toNat (IntKind.wrap .i64 ((n:Nat):Int)))/\True)/\((some (.cells true 8 (bE (dh [.int .i64 0,.int .i64 0,.int .i64 0,.int .i64 0,.int .i64 0,.int .i64 0,.int .i64 0,.int .i64 0] (Int.toNat (IntKind.wrap .i64 ((n:Nat):Int)))) 0 (List.take ((min 1 (Int.toNat (IntKind.wrap .i64 ((n:Nat):Int))))*8) (List.drop 0 ([.int .i64 c.ag.lo,.int .i64 c.ag.hi,.int .i64 c.ad.lo,.int .i64 c.ad.hi,.int .i64 c.ac.lo,.int .i64 c.ac.hi,.int .i64 c.ab.lo,.int .i64 c.ab.hi]:List Value)))):ae)=some (.cells true 8 (List.flatMap cellC (b9 c n (0+1))):ae)/\av 2 (.cells true 8 (List.flatMap cellC (b9 c n (0+1))):ae)=true)/\True)/\(True)/\(True))/\(∀x1:Nat,true=true)/\∀x1:Nat,(x1+1<=n)->(((decide (((((x1+1):Nat):Int):Int)<(((Int.toNat (IntKind.wrap .i64 ((n:Nat):Int))):Nat):Int)))=true->(((true=false∨8=0∨8=8)/\((Int.toNat (IntKind.wrap .i64 ((n:Nat):Int)))<=(Int.toNat (IntKind.wrap .i64 ((n:Nat):Int))))/\((0:Int)<=(((x1+1):Nat):Int)/\((((x1+1):Nat):Int):Int)<=(((Int.toNat (IntKind.wrap .i64 ((n:Nat):Int))):Nat):Int)))/\((.slice (some ⟨1,(0+(Int.toNat (((x1+1):Nat):Int))*8),none⟩) ((Int.toNat (IntKind.wrap .i64 ((n:Nat):Int)))-(Int.toNat (((x1+1):Nat):Int))) ((Int.toNat (IntKind.wrap .i64 ((n:Nat):Int)))-(Int.toNat (((x1+1):Nat):Int))):Value) = .slice (some ⟨1,(0+(Int.toNat (((x1+1):Nat):Int))*8),none⟩) ((Int.toNat (IntKind.wrap .i64 ((n:Nat):Int)))-(x1+1)) ((Int.toNat (IntKind.wrap .i64 ((n:Nat):Int)))-(x1+1))/\(((true=false∨8=0∨8=8)/\((0:Int)<=(((x1+1):Nat):Int)/\((((x1+1):Nat):Int):Int)<=(((Int.toNat (IntKind.wrap .i64 ((n:Nat):Int))):Nat):Int))/\(0<=(Int.toNat (((x1+1):Nat):Int))))/\((.slice (some ⟨1,0,none⟩) ((Int.toNat (((x1+1):Nat):Int))-0) ((Int.toNat (IntKind.wrap .i64 ((n:Nat):Int)))-0):Value) = .slice (some ⟨1,0,none⟩) (x1+1) (Int.toNat (IntKind.wrap .i64 ((n:Nat):Int)))/\((((min (x1+1) ((Int.toNat (IntKind.wrap .i64 ((n:Nat):Int)))-(x1+1)))<=(x1+1)/\0+(min (x1+1) ((Int.toNat (IntKind.wrap .i64 ((n:Nat):Int)))-(x1+1)))*8<=List.length (List.flatMap cellC (b9 c n (x1+1))))/\(0+(Int.toNat (((x1+1):Nat):Int))*8)+(min (x1+1) ((Int.toNat (IntKind.wrap .i64 ((n:Nat):Int)))-(x1+1)))*8<=List.length (List.flatMap cellC (b9 c n (x1+1)))/\List.all (List.take ((min (x1+1) ((Int.toNat (IntKind.wrap .i64 ((n:Nat):Int)))-(x1+1)))*8) (List.drop 0 (List.flatMap cellC (b9 c n (x1+1))))) (fun v=>cO v)=true)/\true=true/\((.int .i64 (IntKind.wrap .i64 ((((x1+1):Nat):Int)+(((min (x1+1) ((Int.toNat (IntKind.wrap .i64 ((n:Nat):Int)))-(x1+1))):Nat):Int))):Value) = .int .i64 ((((x1+1):Nat):Int)+(((min (x1+1) ((Int.toNat (IntKind.wrap .i64 ((n:Nat):Int)))-(x1+1))):Nat):Int))/\(∃y2:Int,(.int .i64 ((((x1+1):Nat):Int)+(((min (x1+1) ((Int.toNat (IntKind.wrap .i64 ((n:Nat):Int)))-(x1+1))):Nat):Int)):Value) = .int .i64 y2/\(∃x1':Nat,(x1'+1<=n)/\(n-x1')<(n-x1)/\true=true/\((.int .i64 y2:Value) = .int .i64 (((x1'+1):Nat):Int)/\(.slice none 0 0:Value) = .slice none 0 0/\(.slice (some ⟨1,0,none⟩) (Int.toNat (IntKind.wrap .i64 ((n:Nat):Int))) (Int.toNat (IntKind.wrap .i64 ((n:Nat):Int))):Value) = .slice (some ⟨1,0,none⟩) (Int.toNat (IntKind.wrap .i64 ((n:Nat):Int))) (Int.toNat (IntKind.wrap .i64 ((n:Nat):Int)))/\True)/\((some (.cells true 8 (bE (List.flatMap cellC (b9 c n (x1+1))) (0+(Int.toNat (((x1+1):Nat):Int))*8) (List.take ((min (x1+1) ((Int.toNat (IntKind.wrap .i64 ((n:Nat):Int)))-(x1+1)))*8) (List.drop 0 (List.flatMap cellC (b9 c n (x1+1)))))):ae)=some (.cells true 8 (List.flatMap cellC (b9 c n (x1'+1))):ae)/\av 2 (.cells true 8 (List.flatMap cellC (b9 c n (x1'+1))):ae)=true)/\True)/\(True)/\(True))))))))))/\((decide (((((x1+1):Nat):Int):Int)<(((Int.toNat (IntKind.wrap .i64 ((n:Nat):Int))):Nat):Int)))=false->(true=true/\wk (.slice (some ⟨1,0,none⟩) (Int.toNat (IntKind.wrap .i64 ((n:Nat):Int))) (Int.toNat (IntKind.wrap .i64 ((n:Nat):Int))):Value) (rn (sg 1 [(1,1)]) 3 (.slice (some ⟨1,0,some 1⟩) n n:Value))/\((some (.cells true 8 (List.flatMap cellC (b9 c n (x1+1))):ae)=some (.cells true 8 (List.flatMap cellC (b9 c n n)):ae)/\av 1 (.cells true 8 (List.flatMap cellC (b9 c n n)):ae)=true)/\True))))))))))))
theorem xN(c:Cell)(n:Nat):vF prog msk (dm 0) 100000 true 40 true 125 [.slice (some ⟨0,0,some 2⟩) 1 1,.int .i64 ((n:Nat):Int)] (bg 0 [cellC c]) (some [])
 (.go 2 (.fork (.auto) (.go 4 (.ans [] (.tuple #[.int .u64 0,.int .u64 ((n:Nat):Int)]) [] (.go 10 (.fork (.auto) (.go 1 (.need (.go 2 (.need (.go 0 (.inv 3 (Nat) (0) [] [1] (fun x1=>[(8,.int .i64 (((x1+1):Nat):Int)),(4,.slice none 0 0),(7,.slice (some ⟨1,0,none⟩) (Int.toNat (IntKind.wrap .i64 ((n:Nat):Int))) (Int.toNat (IntKind.wrap .i64 ((n:Nat):Int))))]) (fun x1=>[(1,true,.cells true 8 (List.flatMap cellC (b9 c n (x1+1))))]) (fun x1=>[]) (fun x1=>[]) (fun x1=>(x1+1<=n)) (fun x1=>(n-x1)) (fun x1 => .go 3 (.fork (.go 2 (.need (.slot 41 (.slice (some ⟨1,(0+(Int.toNat (((x1+1):Nat):Int))*8),none⟩) ((Int.toNat (IntKind.wrap .i64 ((n:Nat):Int)))-(x1+1)) ((Int.toNat (IntKind.wrap .i64 ((n:Nat):Int)))-(x1+1))) (.go 1 (.need (.slot 44 (.slice (some ⟨1,0,none⟩) (x1+1) (Int.toNat (IntKind.wrap .i64 ((n:Nat):Int)))) (.need (.go 0 (.slot 46 (.int .i64 ((((x1+1):Nat):Int)+(((min (x1+1) ((Int.toNat (IntKind.wrap .i64 ((n:Nat):Int)))-(x1+1))):Nat):Int))) (.bind Int (fun y2 => .slot 46 (.int .i64 y2) (.go 0 (.again []))))))))))))) (.go 1 (.again [(1,1)]))))))))))))))))
 (iJ ((bg 0 [cellC c]):HT).n 3 (.slice (some ⟨1,0,some 1⟩) n n) [(true,.cells true 8 (List.flatMap cellC (b9 c n n)))])=tV c n:=by kernel_rfl
def wP(w h t:Int):Prop :=
 ((True)/\(∀H':Heap,H'.length=1->(True)->ai prog 118 [.int .i64 w,.int .i64 h,.int .i64 t] H' [] (Is (.int .i64 (bp w h t)) H'))/\(((((bp w h t):Int) != 0)=true->(true=true/\wk (.tuple #[.agg #[.int .i64 0,.int .i64 0,.int .i64 0,.slice none 0 0],.int .i64 (bp w h t)]:Value) (rn (sg 0 []) 3 (.tuple #[.agg #[.int .i64 (bS w h t).1.w,.int .i64 (bS w h t).1.h,.int .i64 (bS w h t).1.hour,.slice (some ⟨0,0,some 1⟩) (List.length (bS w h t).1.cells) (List.length (bS w h t).1.cells)],.int .i64 (bS w h t).2]:Value))/\(True/\True)))/\((((bp w h t):Int) != 0)=false->((True)/\(∀H':Heap,H'.length=1->(True)->ai prog 33 [] H' [] (Is (.agg #[.int .i64 az.ag.lo,.int .i64 az.ag.hi,.int .i64 az.ad.lo,.int .i64 az.ad.hi,.int .i64 az.ac.lo,.int .i64 az.ac.hi,.int .i64 az.ab.lo,.int .i64 az.ab.hi]) H'))/\((.int .i64 (IntKind.wrap .i64 (w*h)):Value) = .int .i64 (w*h)/\(((some (.cells true 8 [.int .i64 az.ag.lo,.int .i64 az.ag.hi,.int .i64 az.ad.lo,.int .i64 az.ad.hi,.int .i64 az.ac.lo,.int .i64 az.ac.hi,.int .i64 az.ab.lo,.int .i64 az.ab.hi]:ae)=some (.cells true 8 [.int .i64 az.ag.lo,.int .i64 az.ag.hi,.int .i64 az.ad.lo,.int .i64 az.ad.hi,.int .i64 az.ac.lo,.int .i64 az.ac.hi,.int .i64 az.ab.lo,.int .i64 az.ab.hi]:ae))/\True)/\(∀H':Heap,H'.length=2->(H'[1]?=some (.cells true 8 [.int .i64 az.ag.lo,.int .i64 az.ag.hi,.int .i64 az.ad.lo,.int .i64 az.ad.hi,.int .i64 az.ac.lo,.int .i64 az.ac.hi,.int .i64 az.ab.lo,.int .i64 az.ab.hi]:ae)/\True)->ai prog 125 [.slice (some ⟨1,0,none⟩) 1 1,.int .i64 (w*h)] H' [] (Is (.slice (some ⟨2,0,some 1⟩) (Int.toNat (w*h)) (Int.toNat (w*h))) (H' ++ [(.cells true 8 (List.flatMap cellC (aw (Int.toNat (w*h)))):ae)])))/\(true=true/\wk (.tuple #[.agg #[.int .i64 w,.int .i64 h,.int .i64 t,.slice (some ⟨2,0,some 1⟩) (Int.toNat (w*h)) (Int.toNat (w*h))],.int .i64 0]:Value) (rn (sg 0 [(0,2)]) 3 (.tuple #[.agg #[.int .i64 (bS w h t).1.w,.int .i64 (bS w h t).1.h,.int .i64 (bS w h t).1.hour,.slice (some ⟨0,0,some 1⟩) (List.length (bS w h t).1.cells) (List.length (bS w h t).1.cells)],.int .i64 (bS w h t).2]:Value))/\((some (.cells true 8 (List.flatMap cellC (aw (Int.toNat (w*h)))):ae)=some (.cells true 8 (List.flatMap cellC (bS w h t).1.cells):ae)/\av 0 (.cells true 8 (List.flatMap cellC (bS w h t).1.cells):ae)=true)/\True))))))))
theorem zq(w h t:Int):vF prog msk (dm 0) 100000 true 40 true 62 [.int .i64 w,.int .i64 h,.int .i64 t] ⟨0,.leaf⟩ (some [])
 (.go 4 (.ans [] (.int .i64 (bp w h t)) [] (.go 2 (.fork (.go 3 (.again [])) (.go 2 (.ans [] (.agg #[.int .i64 az.ag.lo,.int .i64 az.ag.hi,.int .i64 az.ad.lo,.int .i64 az.ad.hi,.int .i64 az.ac.lo,.int .i64 az.ac.hi,.int .i64 az.ab.lo,.int .i64 az.ab.hi]) [] (.go 3 (.slot 24 (.int .i64 (w*h)) (.ans [(1,.cells true 8 [.int .i64 az.ag.lo,.int .i64 az.ag.hi,.int .i64 az.ad.lo,.int .i64 az.ad.hi,.int .i64 az.ac.lo,.int .i64 az.ac.hi,.int .i64 az.ab.lo,.int .i64 az.ab.hi])] (.slice (some ⟨2,0,some 1⟩) (Int.toNat (w*h)) (Int.toNat (w*h))) [.cells true 8 (List.flatMap cellC (aw (Int.toNat (w*h))))] (.go 2 (.again [(0,2)])))))))))))
 (iJ (⟨0,.leaf⟩:HT).n 3 (.tuple #[.agg #[.int .i64 (bS w h t).1.w,.int .i64 (bS w h t).1.h,.int .i64 (bS w h t).1.hour,.slice (some ⟨0,0,some 1⟩) (List.length (bS w h t).1.cells) (List.length (bS w h t).1.cells)],.int .i64 (bS w h t).2]) [(true,.cells true 8 (List.flatMap cellC (bS w h t).1.cells))])=wP w h t:=by kernel_rfl
end
end Go.Proofs.YthcjliffpebjaaaGreat
namespace Go.K
noncomputable section
variable {P:Program}
theorem VRl.inv{J:Ren}{v:Value}{l:List Value}{m:List Value}(h:VRl J (v :: l) m):∃x l',m=x :: l'/\VR J v x/\VRl J l l':=by
 cases m with
 |nil=>exact absurd h.1 (by simp)
 |cons x l'=>exact ⟨x,l',rfl,h.2 0 v x rfl rfl,by have:=h.1;simpa using this,fun i a b c d=>h.2 (i+1) a b (by simpa using c) (by simpa using d)⟩
def ga(P:Program)(base:Nat)(H:Heap)(args args2:List Value)(gs:Heap):Prop :=
 ∀(B:Nat) (J:Ren) (w:World) (xs:List Value),Rel P B J H w->base<=H.length->VRl J args xs->∃ρ1,Post P B base [] J H w ρ1 (H++gs) w/\VRl ρ1 args2 xs
theorem ga.nil{base:Nat}{H:Heap}:ga P base H [] [] []:=fun B J w xs hr hb hv=>⟨J,by rw[List.append_nil];exact Post.refl hr,hv⟩
theorem ga.keep{base:Nat}{H:Heap}{a:Value}{as1 bs:List Value}{gs:Heap}(h:ga P base H as1 bs gs):ga P base H (a :: as1) (a :: bs) gs:=by
 intro B J w xs hr hb hv
 obtain ⟨x,l,rfl,h1,h2⟩:=hv.inv
 obtain ⟨ρ1,p,h3⟩:=h B J w l hr hb h2
 exact ⟨ρ1,p,.cons (h1.mono p.ext) h3⟩
theorem ga.deep{base n:Nat}{H:Heap}{cs:List Value}{as1 bs:List Value}{gs:Heap}(h:ga P base (H ++ [.cells false 0 cs]) as1 bs gs) :
  ga P base H (.iface (n+1) (.agg ⟨cs⟩) :: as1) (.slice (some ⟨H.length,0,some 2⟩) n n :: bs) (.cells false 0 cs :: gs):=by
 intro B J w xs hr hb hv
 obtain ⟨x,l,rfl,h1,h2⟩:=hv.inv
 obtain ⟨ρ1,p,h3⟩:=VR.thaw (base:=base) (M:=[]) hr hb h1
 obtain ⟨ρ2,q,h4⟩:=h B ρ1 w l p.rel (Nat.le_trans hb p.len) (h2.mono p.ext)
 refine ⟨ρ2,?_,.cons (h3.mono q.ext) h4⟩
 have:=p.trans q
 rw[List.append_assoc]at this
 exact this
theorem ga.agg{base n i:Nat}{H:Heap}{cs vs:List Value}{as1 bs:List Value}{gs:Heap}(hi:vs[i]?=some (.iface (n+1) (.agg ⟨cs⟩)))(h:ga P base (H ++ [.cells false 0 cs]) as1 bs gs) :
  ga P base H (.agg ⟨vs⟩ :: as1) (.agg ⟨vs.set i (.slice (some ⟨H.length,0,some 2⟩) n n)⟩ :: bs) (.cells false 0 cs :: gs):=by
 intro B J w xs hr hb hv
 obtain ⟨x,l,rfl,h1,h2⟩:=hv.inv
 have hl:=(List.getElem?_eq_some_iff.1 hi).1
 cases h1 with
 | @agg _ cs' g1 g2 =>
  have hlt:i<cs'.size:=by rw[<- g1];simpa using hl
  obtain ⟨ρ1,p,h3⟩:=VR.thaw (base:=base) (M:=[]) hr hb (g2 i _ _ (by simpa using hi) (Array.getElem?_eq_getElem hlt))
  obtain ⟨ρ2,q,h4⟩:=h B ρ1 w l p.rel (Nat.le_trans hb p.len) (h2.mono p.ext)
  have hpq:=p.trans q
  refine ⟨ρ2,?_,.cons (.agg (by simpa using g1) fun j v v' a b =>?_) h4⟩
  ·rw[List.append_assoc]at hpq;exact hpq
  have a':(vs.set i (.slice (some ⟨H.length,0,some 2⟩) n n))[j]?=some v:=by simpa using a
  rw[List.getElem?_set]at a'
  split at a'
  ·rename_i e;subst e
   cases a'
   rw[Array.getElem?_eq_getElem hlt]at b;cases b
   exact h3.mono q.ext
  ·exact (g2 j v v' (by simpa using a') b).mono hpq.ext
theorem ai.thaw{f:FuncId}{args args2:List Value}{H gs:Heap}{M:List Nat}{Q:Value->Heap->Prop}(ht:ga P H.length H args args2 gs)(h:ai P f args2 (H++gs) M Q):ai P f args H M Q:=by
 refine ⟨h.1,fun B J w args' hr ha =>?_⟩
 obtain ⟨ρ1,p,hv⟩:=ht B J w args'.toList hr (Nat.le_refl _) ha
 refine (h.2 B ρ1 w args' p.rel hv).mono ?_
 rintro e w' ⟨v,v',ρ',H',rfl,h1,h2,h3⟩
 exact ⟨v,v',ρ',H',rfl,h1,(p.weaken (Nat.le_refl _) (fun _ h=>by cases h)).trans (h2.weaken (by rw[bi];omega) (fun _ h _=>h)),h3⟩
def dy(L k n:Nat)(id:Nat):Option Nat:=if id<L then some id else if id<L+n then some (id+k) else none
theorem ai.drop{f:FuncId}{args:List Value}{H K gs new:Heap}{M:List Nat}{v v2:Value}{d:Nat}(h:ai P f args H M (Is v2 (K++gs++new)))(hK:K.length=H.length)(hs:∀id,id<H.length->id ∉ M->K[id]?=H[id]?)
  (hM:∀id o,id<H.length->id∈M->K[id]?=some o->(∃z cs,o = .cells true z cs)/\rno (dy H.length gs.length new.length) d o=o) (hv:rn (dy H.length gs.length new.length) d v=v2)
  (hn:new.map (rno (dy H.length gs.length new.length) d)=new) (hc:∀o∈new,∃z cs,o = .cells true z cs):ai P f args H M (Is v (K++new)):=by
 refine ⟨h.1,fun B J w args' hr ha=>(h.2 B J w args' hr ha).mono ?_⟩
 rintro e w' ⟨v',r,ρ',H',rfl,hv',hp,rfl,rfl⟩
 have he:Emb H M 0 (dy H.length gs.length new.length) d (fun _=>junk) (K++new) (fun _=>junk) (K++gs++new):=by
  refine ⟨by rw[bi];omega,fun id h=>if_pos h,fun id id' h =>?_,fun id1 id2 id' o1 o2 h1 h2 _ _ _ _ =>?_,fun t h=>by omega,fun id h h2=>by rw[List.getElem?_append_left (by omega)];exact hs id h h2,fun id id' o h1 h2 h3 =>?_⟩
  ·unfold dy at h
   rw[bi,hK]
   split at h
   ·omega
   ·split at h
    ·assumption
    ·cases h
  ·unfold dy at h1 h2
   split at h1 <;> split at h2 <;> (try split at h1) <;> (try split at h2) <;> first|(cases h1;done)|(cases h2;done)|(cases h1;cases h2;omega)|(simp only[Option.some.injEq]at h1 h2;omega)
  ·by_cases hlt:id<H.length
   ·rcases h2 with h2|h2
    ·omega
    ·have e1:dy H.length gs.length new.length id=some id:=if_pos hlt
     rw[e1]at h1;cases h1
     rw[List.getElem?_append_left (by omega)]at h3
     obtain ⟨⟨z,cs,rfl⟩,h5⟩:=hM id o hlt h2 h3
     refine .inr ⟨.cells true z cs,?_,rfl,rfl,fun ρ1 ρ2 r1 w1 hle hob =>?_,fun z2 cs2 e=>by cases e⟩
     ·rw[List.append_assoc,List.getElem?_append_left (by omega)];exact h3
     ·refine ja (d:=d) hle.1 hle.2 hle.3 (o:=.cells true z cs) ?_ (fun q=>by rw[h5]at q;cases q)
      rw[h5];exact hob
   ·unfold dy at h1
    rw[if_neg hlt]at h1
    split at h1
    ·rename_i hl2
     cases h1
     rw[List.getElem?_append_right (by omega),hK]at h3
     have ho:=List.mem_of_getElem? h3
     obtain ⟨z,cs,rfl⟩:=hc o ho
     have h4:(new.map (rno (dy H.length gs.length new.length) d))[id-H.length]?=some (rno (dy H.length gs.length new.length) d (.cells true z cs)):=by rw[List.getElem?_map,h3];rfl
     rw[hn,h3]at h4
     have h5:rno (dy H.length gs.length new.length) d (.cells true z cs) = .cells true z cs:=(Option.some.inj h4).symm
     refine .inr ⟨.cells true z cs,?_,rfl,rfl,fun ρ1 ρ2 r1 w1 hle hob =>?_,fun z2 cs2 e=>by cases e⟩
     ·rw[List.getElem?_append_right (by rw[bi];omega),bi,hK,show id+gs.length-(H.length+gs.length)=id-H.length by omega];exact h3
     ·refine ja (d:=d) hle.1 hle.2 hle.3 (o:=.cells true z cs) ?_ (fun q=>by rw[h5]at q;cases q)
      rw[h5];exact hob
    ·cases h1
 obtain ⟨q1,_⟩:=he.post hr hp
 refine ⟨v,r,bN ρ' (dy H.length gs.length new.length),_,rfl,?_,q1,rfl,rfl⟩
 have hσ:∀id id' r,dy H.length gs.length new.length id=some id'->ρ' id'=some r->(bN ρ' (dy H.length gs.length new.length)) id=some r:=fun id id' r h1 h2=>by show Option.bind _ _=_;rw[h1];exact h2
 refine iq (ρ':=ρ') (J:=bN ρ' (dy H.length gs.length new.length)) hσ (fun _ _ h=>h) (fun F F' k r h1 h2=>by show Option.bind _ _=_;rw[h1];exact h2) d ?_
 rw[hv];exact hv'
end
end Go.K
namespace Go.Proofs.YthcjliffpebjaaaGreat
noncomputable section
attribute [local irreducible] vF fo cQ
structure AX(l:List Report)(m:aR)(now:Int):Prop where
 rates:cb m
 hour:0<=now/\now<=10000
 len:l.length<=12
 each:∀i,i<l.length->c7 (l.getD i af)/\(l.getD i af).at_<=now
end
end Go.Proofs.YthcjliffpebjaaaGreat
namespace Go.Proofs.YthcjliffpebjaaaGreat
noncomputable section
attribute [local irreducible] vF
theorem vw{w h:Int}(a:1<=w/\w<=64)(b:1<=h/\h<=64):1<=w*h/\w*h<=4096:=by
 have h1:1*1<=w*h:=Int.mul_le_mul a.1 b.1 (by omega) (by omega)
 have h2:w*h<=64*64:=Int.mul_le_mul a.2 b.2 (by omega) (by omega)
 omega
theorem sW{Y:Type}{L M:List Y}{x:Y}{id:Nat}(hM:M=L ++ [x]):wk (.slice (some ⟨id,0,none⟩) (L.length+1) (L.length+1)) (.slice (some ⟨id,0,some 1⟩) M.length M.length):=by
 have:M.length=L.length+1:=by rw[hM,bi];rfl
 rw[this];exact bT (by omega)
theorem jf{Y:Type}{f:Y->List Value}{n:Nat}(hf:∀x,(f x).length=n){L M:List Y}{x:Y}{c:List Value}{own:Bool}(hM:M=L ++ [x])(hc:f x=c) :
  (some (ae.cells own n (List.take (L.length*n) (List.drop 0 (L.flatMap f))++List.take (1*n) (List.drop 0 c))):Option ae)=some (.cells own n (M.flatMap f)):=by
 subst hc
 rw[hM,<- fD hf L x rfl,List.drop_zero,List.drop_zero,List.take_of_length_le (l:=f x) (by rw[hf];omega),List.take_of_length_le (by rw[bJ hf];omega)]
theorem zD{f:FuncId}{args:List Value}{h:Hint}(v:Nat->Value){z:Nat}{cs:List Value}
    (hc:vF prog msk (dm 0) 100000 true 40 true f args ⟨0,.leaf⟩ (some []) h (iJ 0 3 (v 0) [(true,.cells true z cs)]))
    (hp:∀n,cs.all (aE n)=true) (h1:cJ 3 (v 0)=true) (h2:rn (bZ 0) 3 (v 0)=v 0) (h3:∀j,rn (cY 0 j) 3 (v 0)=v j) (ha:∀U,args.map (rn U 3)=args) (H:Heap) :
    ai prog f args H [] (Is (v H.length) (H ++ [.cells true z cs])):=by
  have key:=yh (css:=[]) (v:=v 0) (new:=[(true,.cells true z cs)]) hc (fun c hc=>by cases hc) h1 h2
    (by show ((cT 3 (.cells true z cs) && true) && true) = true
        rw[Bool.and_true,Bool.and_true];exact (gb (U:=fun _=>none) (d:=0) (hp 0)).2)
    (congrArg (fun q=>[ae.cells true z q]) (gb (d:=0) (hp 0)).1) (H:=H) [] rfl (fun k c hk=>by cases hk)
  have e2:(List.map (fun x:Bool×ae=>x.2) [(true,ae.cells true z cs)]).map (rno (cY (0+([]:List (List Value)).length) H.length) 3)=[.cells true z cs] :=
    congrArg (fun q=>[ae.cells true z q]) (gb (d:=0) (hp 0)).1
  rw[e2,show rn (cY (0+([]:List (List Value)).length) H.length) 3 (v 0)=v H.length from h3 _,ha]at key
  exact key
def qH(H:Heap):List Nat->List (List Value)->Prop
 | [],[] =>True
 |id :: ids,c :: css=>(∃own z,H[id]?=some (.cells own z c))/\qH H ids css
 |_,_=>False
theorem jV{H:Heap}:∀{ids:List Nat} {css:List (List Value)},qH H ids css->ids.length=css.length
 | [],[],_=>rfl
 |_ :: ids,_ :: css,h=>by rw[List.length_cons,List.length_cons,jV h.2]
 | [],_ :: _,h=>h.elim
 |_ :: _,[],h=>h.elim
theorem iP{H:Heap}:∀{ids:List Nat} {css:List (List Value)},qH H ids css->∀(k:Nat) (c:List Value),css[k]?=some c->∃id own z,ids[k]?=some id/\H[id]?=some (ae.cells own z c)
 | [],[],_,k,c,hk=>by simp at hk
 |i :: ids,d :: css,h,0,c,hk=>by
  obtain ⟨⟨own,z,e⟩,_⟩:=h
  cases hk
  exact ⟨i,own,z,rfl,e⟩
 |i :: ids,d :: css,h,k+1,c,hk=>by
  obtain ⟨id,own,z,a,b⟩:=iP h.2 k c (by simpa using hk)
  exact ⟨id,own,z,by simpa using a,b⟩
 | [],_ :: _,h,_,_,_=>h.elim
 |_ :: _,[],h,_,_,_=>h.elim
def jd:List (List Value)->Prop
 | [] =>True
 |c :: css=>c.all (aE 0)=true/\jd css
theorem fi:∀{css:List (List Value)},jd css->∀c∈css,c.all (aE 0)=true
 | [],_,c,h=>by cases h
 |d :: css,hp,c,h=>by
  rcases List.mem_cons.1 h with rfl|h
  ·exact hp.1
  ·exact fi hp.2 c h
def rN:List ae->Prop
 | [] =>True
 |o :: os=>(∃z cs,o = .cells true z cs/\cs.all (aE 0)=true)/\rN os
theorem e8{U:Nat->Option Nat}:∀{os:List ae},rN os->(os.all fun o=>cT 3 o&&o.owned)=true/\os.map (rno U 3)=os
 | [],_=>⟨rfl,rfl⟩
 |o :: os,⟨⟨z,cs,e,h⟩,hs⟩=>by
  subst e
  obtain ⟨a,b⟩:=e8 (U:=U) hs
  obtain ⟨c,d⟩:=gb (U:=U) (d:=0) h
  refine ⟨?_,?_⟩
  ·rw[List.all_cons,a,Bool.and_true]
   show (cT 3 (.cells true z cs)&&true)=true
   rw[Bool.and_true];exact d
  ·rw[List.map_cons,b]
   show ae.cells true z (cs.map (rn U 3)) :: os=_
   rw[c]
theorem xP{f:FuncId}{args:List Value}{css:List (List Value)}{h:Hint}(v:Nat->Value){new:List ae}
  (hc:vF prog msk (dm 0) 100000 true 40 true f args (bg 0 css) (some []) h (iJ (bg 0 css).n 3 (v css.length) (new.map fun o=>(true,o))))
  (hp:jd css) (hn:rN new) (h1:cJ 3 (v css.length)=true) (h2:rn (bZ (0+css.length)) 3 (v css.length)=v css.length) (h3:∀j,rn (cY (0+css.length) j) 3 (v css.length)=v j)
  {H:Heap} {ids:List Nat} (hi:qH H ids css) {args':List Value} (ha:args.map (rn (sgR 0 ids) 3)=args') :
  ai prog f args' H [] (Is (v H.length) (H++new)):=by
 subst ha
 have e0:(new.map fun o=>(true,o)).map (·.2)=new:=by rw[List.map_map];exact List.map_id _
 have key:=yh (css:=css) (v:=v css.length) (new:=new.map fun o=>(true,o)) hc (fi hp) h1 h2 (by rw[e0];exact (e8 (U:=fun _=>none) hn).1) (by rw[e0];exact (e8 hn).2) (H:=H) ids (jV hi) (iP hi)
 rw[e0,(e8 hn).2,h3]at key
 exact key
theorem mf{Y:Type}{l:List Y}{d y:Y}{i j:Nat}(hi:i<l.length):(l.set i y).getD j d=if j=i then y else l.getD j d:=by
 rw[List.getD_eq_getElem?_getD,List.getElem?_set,List.getD_eq_getElem?_getD]
 by_cases h:i=j
 ·rw[if_pos h,if_pos (h ▸ hi),if_pos h.symm];rfl
 ·rw[if_neg h,if_neg (fun e=>h e.symm)]
theorem jI{Y:Type}{l:List Y}{d:Y}{k:Nat}(h:k<l.length):l.take (k+1)=l.take k ++ [l.getD k d]:=by
 rw[List.take_add_one,List.getElem?_eq_getElem h,List.getD_eq_getElem?_getD,List.getElem?_eq_getElem h];rfl
abbrev chV(k i:Nat)(c:gQ):Value:=.agg #[.int .i64 c.w,.int .i64 c.h,.int .i64 c.hour,.slice (some ⟨i,0,some k⟩) c.cells.length c.cells.length]
theorem ft{Y:Type}{d:Y}{f:Nat->Y}{n:Nat}{l:List Y}(hl:l.length=n)(h:∀k,k<n->l.getD k d=f k):aQ f n=l:=by
 refine List.ext_getElem (by rw[bK,hl]) fun k h1 h2 =>?_
 have:=h k (by omega)
 rw[List.getD_eq_getElem?_getD,List.getElem?_eq_getElem h2]at this
 simp only[aQ,List.getElem_map,List.getElem_range]
 exact this.symm
theorem ny(r k:Nat)(ms:List Value):(aW r k ms)[0]?=ms[0]? := by
 cases r with
 |zero=>rfl
 |succ r=>exact List.getElem?_set_ne (by omega)
theorem zC{f:FuncId}{args:List Value}{css:List (List Value)}{h:Hint}{v:Value}(hc:vF prog msk (dm 0) 100000 true 40 true f args (bg 0 css) (some []) h (fun v' _ _=>v'=v))(hp:jd css)(hv:b7 0 v=true)
  {H:Heap} {ids:List Nat} (hi:qH H ids css) {args':List Value} (ha:args.map (rn (sgR 0 ids) 5)=args'):ai prog f args' H [] (Is v H):=by
 subst ha
 exact pK hc (fi hp) hv ids (jV hi) (iP hi)
theorem u0{id n m:Nat}(h:m=n)(h0:0<n):wk (.slice (some ⟨id,0,none⟩) n n) (.slice (some ⟨id,0,some 1⟩) m m):=by subst h;exact bT h0
end
end Go.Proofs.YthcjliffpebjaaaGreat
