/- Route: lists of cells in which one seeks. No condition. -/
import Derived.Test.YtmecpfikljhjaaaDoorGA7xJ5
import Derived.Test.YtmecpfikljhjaaaDoorGK27xA0
import Derived.Test.YtmecpfikljhjaaaDoorGH1gxH5g
import Derived.Test.YtmecpfikljhjaaaDoorGM4gxL0
import Derived.Test.YtmecpfikljhjaaaDoorGH5xA4
import Derived.Test.YtmecpfikljhjaaaDoorGI2gxI3
import Derived.Test.YtmecpfikljhjaaaDoorGJ3gxM3
open Go Go.K
set_option maxRecDepth 1000000
set_option maxHeartbeats 4000000
set_option linter.unusedVariables false
set_option linter.unusedSimpArgs false
namespace Go.Proofs.YtmecpfikljhjaaaDoor
noncomputable section
attribute [local irreducible] vF
def Asc(l:List Int):Prop:=∀i j,i<j->j<l.length->l.getD i 0<l.getD j 0
def oG(l:List Int)(n:Int):Nat:=(l.filter fun x=>decide (x<n)).length
def bP(l:List Int)(n:Int):Bool:=l.any fun x=>x == n
structure BsI(l:List Int)(n:Int)(x:Int×Int):Prop where
 a:0<=x.1
 b:x.1<=x.2
 c:x.2<=(l.length:Int)
 lo:∀j:Nat,(j:Int)<x.1->l.getD j 0<n
 hi:∀j:Nat,x.2<=(j:Int)->j<l.length->n<=l.getD j 0
theorem ky{l:List Int}{n:Int}:bP l n=true ↔ n∈l:=by
 unfold bP
 rw[List.any_eq_true]
 constructor
 ·rintro ⟨x,hx,e⟩;rw[beq_iff_eq]at e;rw[<- e];exact hx
 ·intro h;exact ⟨n,h,beq_self_eq_true n⟩
theorem kz{l:List Int}{n:Int}:bP l n=true ↔ ∃j,j<l.length/\l.getD j 0=n:=by
 rw[ky]
 constructor
 ·intro h
  obtain ⟨j,hj,e⟩:=List.getElem_of_mem h
  exact ⟨j,hj,by rw[List.getD_eq_getElem?_getD,List.getElem?_eq_getElem hj];exact e⟩
 ·rintro ⟨j,hj,e⟩;rw[<- e];exact cQ hj
theorem CV{l:List Int}{n:Int}:∀{k:Nat},k<=l.length->(∀j,j<k->l.getD j 0<n)->(∀j,k<=j->j<l.length->n<=l.getD j 0)->oG l n=k:=by
 induction l with
 |nil=>intro k hk _ _;exact (Nat.le_zero.1 hk).symm
 |cons x l ih =>
  intro k hk h1 h2
  unfold oG
  cases k with
  |zero =>
   rw[List.filter_eq_nil_iff.2 (fun y hy =>?_)]
   ·rfl
   ·obtain ⟨j,hj,e⟩:=List.getElem_of_mem hy
    have:=h2 j (Nat.zero_le _) hj
    rw[List.getD_eq_getElem?_getD,List.getElem?_eq_getElem hj]at this
    have e':n<=(x :: l)[j]:=this
    rw[e]at e'
    simp;omega
  |succ k =>
   have h0:x<n:=h1 0 (Nat.succ_pos k)
   rw[List.filter_cons_of_pos (by simpa using h0),List.length_cons]
   congr 1
   exact ih (by simpa using hk) (fun j hj=>h1 (j+1) (by omega)) (fun j hj hl=>h2 (j+1) (by omega) (by simpa using hl))
def bq(l:List Int)(n:Int):Nat->List Int×Bool
 |0=>([],false)
 |k+1=>if (bq l n k).2=false/\n<=l.getD k 0 then ((if n<l.getD k 0 then (bq l n k).1 ++ [n] else (bq l n k).1) ++ [l.getD k 0],true) else ((bq l n k).1 ++ [l.getD k 0],(bq l n k).2)
def cS(l:List Int)(n:Int):List Int:=if (bq l n l.length).2 then (bq l n l.length).1 else (bq l n l.length).1 ++ [n]
def E6(sp:Value)(l:List Int)(n:Int):Prop :=
 (lq (0<=List.length l/\(∀jz:Nat,jz<0->List.getD l jz 0≠n)) (true=true/\((nI 0:Value)=nI ((0:Nat):Int)/\eR (nI n)/\wR (slQ 1 2 l.length)/\True)/\(True)/\(True)/\(True)) (∀x0:Nat,(x0<=List.length l/\(∀jz:Nat,jz<x0->List.getD l jz 0≠n))->(fk (decide (((x0:Int):Int)<((l.length:Nat):Int))) ((ixq (x0:Int) l.length)/\(((l.flatMap aq)[(0+Int.toNat (x0:Int)*1)]?=some (nI (l.getD x0 0)))/\(fk (((l.getD x0 0):Int) == n) ((.bool true:Value)=sp) (nw ((x0:Int)+1) (∃x0':Nat,(x0'<=List.length l/\(∀jz:Nat,jz<x0'->List.getD l jz 0≠n))/\(List.length l-x0')<(List.length l-x0)/\true=true/\((nI ((x0:Int)+1):Value)=nI (x0':Int)/\eR (nI n)/\wR (slQ 1 2 l.length)/\True)/\(True)/\(True)/\(True)))))) ((.bool false:Value)=sp))))
theorem Ir(sp:Value)(l:List Int)(n:Int):vF prog msk (dm 0) 100000 true 40 true 19 [slQ 1 2 l.length,nI n] (ce 1 [l.flatMap aq]) (some [])
 (.go 1 (.inv 3 (Nat) (0) [] [] (fun x0=>[(5,nI (x0:Int)),(1,nI n),(0,slQ 1 2 l.length)]) (fun x0=>[]) (fun x0=>[]) (fun x0=>[]) (fun x0=>(x0<=List.length l/\(∀jz:Nat,jz<x0->List.getD l jz 0≠n))) (fun x0=>(List.length l-x0)) (fun x0 => .go 3 (.fork (.go 1 (.need (.val (nI (l.getD x0 0)) (.go 1 (.fork (.auto) (.go 1 (.slot 11 (nI ((x0:Int)+1)) (.go 0 (.again []))))))))) (.auto)))))
 (fun v _ _=>v=sp)=E6 sp l n:=by kernel_rfl
abbrev yg2(l:List Int):Int×Int:=(0,((List.length l:Nat):Int))
abbrev yg3(n:Int)(l:List Int):Prop:=eR (nI n)/\wR (slQ 1 2 l.length)/\eR (nI 0)/\eR (.bool false)/\eR (nI ((l.length:Nat):Int))/\True
abbrev yg4(y1:Int):=IntKind.wrap .i64 y1
abbrev yg0(l:List Int)(y1 n:Int)(x0:Int×Int):Prop:=∃y3:Int,bw (l.getD (yg4 y1).toNat 0) y3/\(fk (decide ((y3:Int)<n)) (nw ((yg4 y1)+1) (∃x0':Int×Int,(BsI l n x0')/\(x0'.2-x0'.1).toNat<(x0.2-x0.1).toNat/\true=true/\((nI ((yg4 y1)+1):Value)=nI x0'.1/\(nI x0.2:Value)=nI x0'.2/\yg3 n l)/\(True)/\(True)/\(True))) (∃x0':Int×Int,(BsI l n x0')/\(x0'.2-x0'.1).toNat<(x0.2-x0.1).toNat/\true=true/\((nI x0.1:Value)=nI x0'.1/\(nI (yg4 y1):Value)=nI x0'.2/\yg3 n l)/\(True)/\(True)/\(True)))
def Ck(sp:Value)(l:List Int)(n:Int):Prop :=
 (true=true/\(BsI l n (yg2 l))/\(true=true/\((nI 0:Value)=nI (yg2 l).1/\(nI ((l.length:Nat):Int):Value)=nI (yg2 l).2/\yg3 n l)/\(True)/\(True)/\(True))/\(∀x0:Int×Int,true=true)/\∀x0:Int×Int,(BsI l n x0)->(fk (decide ((x0.1:Int)<x0.2)) (nw (x0.1+x0.2) (∃y1:Int,(.int .u64 (Int.fdiv (IntKind.wrap .u64 (x0.1+x0.2)) (2 ^ 1)):Value) = .int .u64 y1/\((ixq (yg4 y1) l.length)/\(((l.flatMap aq)[(0+Int.toNat (yg4 y1)*1)]?=some (nI (l.getD (yg4 y1).toNat 0)))/\(∃y2:Int,bw (l.getD (yg4 y1).toNat 0) y2/\(fk ((y2:Int) != y2) (fk (!((n:Int) != n)) (nw ((yg4 y1)+1) (∃x0':Int×Int,(BsI l n x0')/\(x0'.2-x0'.1).toNat<(x0.2-x0.1).toNat/\true=true/\((nI ((yg4 y1)+1):Value)=nI x0'.1/\(nI x0.2:Value)=nI x0'.2/\yg3 n l)/\(True)/\(True)/\(True))) (yg0 l y1 n x0)) (yg0 l y1 n x0))))))) (fk (decide ((x0.1:Int)<((l.length:Nat):Int))) ((ixq x0.1 l.length)/\(((l.flatMap aq)[(0+Int.toNat x0.1*1)]?=some (nI (l.getD x0.1.toNat 0)))/\(fk (((l.getD x0.1.toNat 0):Int) == n) ((.tuple #[nI x0.1,.bool true]:Value)=sp) ((ixq x0.1 l.length)/\(((l.flatMap aq)[(0+Int.toNat x0.1*1)]?=some (nI (l.getD x0.1.toNat 0)))/\(fk (((l.getD x0.1.toNat 0):Int) != (l.getD x0.1.toNat 0)) ((.tuple #[nI x0.1,.bool ((n:Int) != n)]:Value)=sp) ((.tuple #[nI x0.1,.bool false]:Value)=sp))))))) ((.tuple #[nI x0.1,.bool false]:Value)=sp))))
abbrev yg1(y1:Int):Hint:=.bind Int (fun y3 => .slot 13 (nI y3) (.go 3 (.fork (.go 1 (.slot 29 (nI ((yg4 y1)+1)) (.go 0 (.again [])))) (.go 1 (.again [])))))
theorem GU(sp:Value)(l:List Int)(n:Int):vF prog msk (dm 0) 100000 true 40 true 56 [slQ 1 2 l.length,nI n] (ce 1 [l.flatMap aq]) (some [])
 (.go 7 (.inv 3 (Int×Int) ((yg2 l)) [] [] (fun x0=>[(7,nI x0.1),(8,nI x0.2),(1,nI n),(0,slQ 1 2 l.length),(4,nI 0),(5,.bool false),(6,nI ((l.length:Nat):Int))]) (fun x0=>[]) (fun x0=>[]) (fun x0=>[]) (fun x0=>(BsI l n x0)) (fun x0=>(x0.2-x0.1).toNat) (fun x0 => .go 2 (.fork (.go 2 (.slot 18 (nI (x0.1+x0.2)) (.go 1 (.bind Int (fun y1 => .slot 20 (.int .u64 y1) (.go 3 (.need (.val (nI (l.getD (yg4 y1).toNat 0)) (.go 3 (.bind Int (fun y2 => .slot 5 (nI y2) (.go 6 (.aH (.go 9 (.aH (.go 4 (.slot 29 (nI ((yg4 y1)+1)) (.go 0 (.again [])))) (.go 0 (yg1 y1)))) (.go 2 (yg1 y1))))))))))))))) (.go 4 (.aH (.go 1 (.need (.val (nI (l.getD x0.1.toNat 0)) (.go 2 (.aH (.auto) (.go 1 (.need (.val (nI (l.getD x0.1.toNat 0)) (.go 6 (.aH (.auto) (.auto))))))))))) (.auto)))))))
 (fun v _ _=>v=sp)=Ck sp l n:=by kernel_rfl
theorem I1(l:List Int)(n:Int)(hl:l.length<=1000000){H:Heap}{id:Nat}{own:Bool}{z:Nat}(hid:H[id]?=some (.cells own z (l.flatMap aq))):ae prog 19 [slR id l.length,nI n] H [] (Is (.bool (bP l n)) H):=by
 refine fT (css:=[l.flatMap aq]) (v:=.bool (bP l n)) (ids:=[id]) (Eq.mpr (Ir _ l n) ?_) ⟨bf _ _,trivial⟩ rfl ⟨⟨_,_,hid⟩,trivial⟩ rfl
 delta E6 nI slQ fk nw eR wR ixq lq
 refine ⟨rfl,⟨Nat.zero_le _,fun j hj=>absurd hj (Nat.not_lt_zero j)⟩,?_,fun _=>rfl,fun x hx=>cu (fun hx1 =>?_) (fun hx1 =>?_)⟩
 ·repeat' first|exact trivial|exact ad _|refine ⟨rfl,?_⟩|refine ⟨trivial,?_⟩|apply And.intro
 ·refine ⟨⟨by omega,by omega⟩,cJ (by omega) (by omega),Bv (fun e =>?_) (fun e=>⟨ag (by omega),x+1,⟨by omega,fun j hj =>?_⟩,by omega,?_⟩)⟩
  ·exact bEq (kz.2 ⟨x,by omega,e⟩).symm
  ·by_cases q:j=x
   ·rw[q];exact e
   ·exact hx.2 j (by omega)
  ·repeat' first|exact trivial|exact ad _|refine ⟨rfl,?_⟩|refine ⟨trivial,?_⟩|apply And.intro
 ·refine bEq (Eq.symm (Bool.eq_false_iff.2 fun h =>?_))
  obtain ⟨j,hj,e⟩:=kz.1 h
  exact hx.2 j (by omega) e
theorem HO{a b n:Int}(h0:0<=a)(h1:a<b)(h2:b<=n)(hn:n<=1000000):∃m:Int,Int.fdiv (IntKind.wrap .u64 (a+b)) (2 ^ 1)=m/\IntKind.wrap .i64 m=m/\a<=m/\m<b:=by
 have e:IntKind.wrap .u64 (a+b)=a+b:=IntWalk.u64_in _ ⟨by omega,by omega⟩
 rw[e]
 have d:Int.fdiv (a+b) (2 ^ 1)=(a+b) / 2:=Int.fdiv_eq_ediv_of_nonneg _ (by decide)
 refine ⟨(a+b) / 2,d,G7 (by omega),by omega,by omega⟩
theorem Da{l:List Int}(as_:Asc l)(n:Int)(hl:l.length<=1000000){H:Heap}{id:Nat}{own:Bool}{z:Nat}(hid:H[id]?=some (.cells own z (l.flatMap aq))):ae prog 56 [slR id l.length,nI n] H [] (Is (.tuple #[nI (oG l n),.bool (bP l n)]) H):=by
 refine fT (css:=[l.flatMap aq]) (v:=.tuple #[nI (oG l n),.bool (bP l n)]) (ids:=[id]) (Eq.mpr (GU _ l n) ?_) ⟨bf _ _,trivial⟩ rfl ⟨⟨_,_,hid⟩,trivial⟩ rfl
 delta Ck yg2 yg3 yg4 yg0 nI slQ fk nw bw eR wR ixq
 refine ⟨rfl,⟨Int.le_refl _,by show (0:Int)<=(l.length:Int);omega,Int.le_refl _,fun j hj=>by have:(j:Int)<0:=hj;omega,fun j hj hj2=>by have:(l.length:Int)<=(j:Int):=hj;omega⟩,?_,fun _=>rfl,fun x hx =>?_⟩
 ·repeat' first|exact trivial|exact ad _|refine ⟨rfl,?_⟩|refine ⟨trivial,?_⟩|apply And.intro
 obtain ⟨a,b⟩:=x
 have h1:=hx.a;have h2:=hx.b;have h3:=hx.c;have h4:=hx.lo;have h5:=hx.hi
 dsimp only at h1 h2 h3 h4 h5 ⊢
 refine cu (fun q =>?_) (fun q =>?_)
 ·obtain ⟨m,e1,e2,e3,e4⟩:=HO h1 q h3 (by omega)
  have lt:∀{u v:Int},u=l.getD (Int.toNat m) 0->u<n->∃x0':Int×Int,BsI l n x0'/\Int.toNat (x0'.2-x0'.1)<Int.toNat (b-a)/\x0'=(m+1,b):=fun {u v} hu huv=>by
   refine ⟨(m+1,b),⟨by show 0<=m+1;omega,by show m+1<=b;omega,by show b<=_;omega,fun j hj =>?_,h5⟩,by show Int.toNat (b-(m+1))<_;omega,rfl⟩
   have hj:(j:Int)<m+1:=hj
   by_cases g:j=Int.toNat m
   ·rw[g,<- hu];exact huv
   ·have:=as_ j (Int.toNat m) (by omega) (by omega);omega
  have ge:∀{u:Int},u=l.getD (Int.toNat m) 0->¬ u<n->∃x0':Int×Int,BsI l n x0'/\Int.toNat (x0'.2-x0'.1)<Int.toNat (b-a)/\x0'=(a,m):=fun {u} hu huv=>by
   refine ⟨(a,m),⟨h1,by show a<=m;omega,by show m<=_;omega,h4,fun j hj hj2 =>?_⟩,by show Int.toNat (m-a)<_;omega,rfl⟩
   have hj:m<=(j:Int):=hj
   by_cases g:j=Int.toNat m
   ·rw[g,<- hu];omega
   ·have:=as_ (Int.toNat m) j (by omega) hj2;omega
  refine ⟨ag (by omega),m,by rw[e1],?_⟩
  rw[e2]
  refine ⟨⟨by omega,by omega⟩,cJ (by omega) (by omega),l.getD (Int.toNat m) 0,rfl,nP (fun g=>absurd rfl g) (fun _=>⟨l.getD (Int.toNat m) 0,rfl,cu (fun g=>⟨ag (by omega),?_⟩) (fun g =>?_)⟩)⟩
  ·obtain ⟨y,y1,y2,rfl⟩:=lt (v:=0) rfl g
   refine ⟨_,y1,y2,rfl,?_⟩
   repeat' first|exact trivial|exact ad _|refine ⟨rfl,?_⟩|refine ⟨trivial,?_⟩|apply And.intro
  ·obtain ⟨y,y1,y2,rfl⟩:=ge rfl g
   refine ⟨_,y1,y2,rfl,?_⟩
   repeat' first|exact trivial|exact ad _|refine ⟨rfl,?_⟩|refine ⟨trivial,?_⟩|apply And.intro
 ·have eab:a=b:=by omega
  have pos:oG l n=Int.toNat a:=CV (by omega) (fun j hj=>h4 j (by omega)) (fun j hj hj2=>h5 j (by omega) hj2)
  have hp:((oG l n:Nat):Int)=a:=by omega
  rw[hp]
  refine cu (fun g=>⟨⟨by omega,by omega⟩,cJ (by omega) (by omega),Bv (fun e =>?_) (fun e=>⟨⟨by omega,by omega⟩,cJ (by omega) (by omega),nP (fun q=>absurd rfl q) (fun _ =>?_)⟩)⟩) (fun g =>?_)
  ·rw[kz.2 ⟨Int.toNat a,by omega,e⟩]
  ·have hf:bP l n=false:=Bool.eq_false_iff.2 fun h=>by
    obtain ⟨j,hj,e2⟩:=kz.1 h
    rcases Nat.lt_trichotomy j (Int.toNat a) with c|c|c
    ·have:=h4 j (by omega);omega
    ·rw[c]at e2;exact e e2
    ·have:=as_ (Int.toNat a) j c hj;have:=h5 (Int.toNat a) (by omega) (by omega);omega
   rw[hf]
  ·have hf:bP l n=false:=Bool.eq_false_iff.2 fun h=>by
    obtain ⟨j,hj,e2⟩:=kz.1 h
    have:=h4 j (by omega);omega
   rw[hf]
abbrev yh1(l:List Int):Value:=.iface (l.length+1) (.agg ⟨(l.flatMap aq)⟩)
abbrev yh7:Prop:=eR (.slice none 0 0)/\True
abbrev yh4(l:List Int)(x0:Nat):Prop:=(l.flatMap aq)[(Int.toNat (x0:Int)*1)]?=some (nI (l.getD x0 0))
abbrev yh3(l:List Int)(n:Int)(x0:Nat):=List.length (bq l n x0).1
abbrev yh5(l:List Int)(n:Int)(x0:Nat):=List.flatMap aq (bq l n x0).1
abbrev yh0(x0:Nat)(l:List Int)(n:Int):Prop:=(ixq (x0:Int) l.length)/\((yh4 l x0)/\(apq (yh3 l n x0) 8 1 (yh5 l n x0) [nI (l.getD x0 0)] (nw ((x0:Int)+1) (∃x0':Nat,(x0'<=List.length l)/\(List.length l-x0')<(List.length l-x0)/\true=true/\((nI ((x0:Int)+1):Value)=nI (x0':Int)/\wk (slN 3 ((yh3 l n x0)+1):Value) (slQ 3 1 (List.length (bq l n x0').1):Value)/\(.bool (bq l n x0).2:Value) = .bool (bq l n x0').2/\eR (nI n)/\(yh1 l)=rn (sg 1 [(1,3)]) 3 (yh1 l)/\yh7)/\(True)/\((kbq 1 (.cells true 1 ((((yh5 l n x0).drop 0).take ((yh3 l n x0)*1))++((([nI (l.getD x0 0)]:List Value).drop 0).take (1*1)))) (.cells true 1 (List.flatMap aq (bq l n x0').1)))/\True)/\(True)))))
def EZ(l:List Int)(n:Int):Prop :=
 (lq (0<=List.length l) (true=true/\((nI 0:Value)=nI ((0:Nat):Int)/\wk (.slice none 0 0:Value) (slQ 0 1 (List.length (bq l n 0).1):Value)/\(.bool false:Value) = .bool (bq l n 0).2/\eR (nI n)/\(yh1 l)=rn (sg 1 []) 3 (yh1 l)/\yh7)/\(True)/\(True/\True)/\(True)) (∀x0:Nat,(x0<=List.length l)->(fk (decide (((x0:Int):Int)<((l.length:Nat):Int))) (fk (!(bq l n x0).2) ((ixq (x0:Int) l.length)/\((yh4 l x0)/\(fk (decide ((n:Int)<=(l.getD x0 0))) ((ixq (x0:Int) l.length)/\((yh4 l x0)/\(fk (decide ((n:Int)<(l.getD x0 0))) (apq (yh3 l n x0) 8 1 (yh5 l n x0) [nI n] ((ixq (x0:Int) l.length)/\((yh4 l x0)/\(apq ((yh3 l n x0)+1) 8 1 ((((yh5 l n x0).drop 0).take ((yh3 l n x0)*1))++((([nI n]:List Value).drop 0).take (1*1))) [nI (l.getD x0 0)] (nw ((x0:Int)+1) (∃x0':Nat,(x0'<=List.length l)/\(List.length l-x0')<(List.length l-x0)/\true=true/\((nI ((x0:Int)+1):Value)=nI (x0':Int)/\wk (slN 5 (((yh3 l n x0)+1)+1):Value) (slQ 5 1 (List.length (bq l n x0').1):Value)/\(.bool true:Value) = .bool (bq l n x0').2/\eR (nI n)/\(yh1 l)=rn (sg 1 [(1,5)]) 3 (yh1 l)/\yh7)/\(True)/\((kbq 1 (.cells true 1 (((((((yh5 l n x0).drop 0).take ((yh3 l n x0)*1))++((([nI n]:List Value).drop 0).take (1*1))).drop 0).take (((yh3 l n x0)+1)*1))++((([nI (l.getD x0 0)]:List Value).drop 0).take (1*1)))) (.cells true 1 (List.flatMap aq (bq l n x0').1)))/\True)/\(True))))))) ((ixq (x0:Int) l.length)/\((yh4 l x0)/\(apq (yh3 l n x0) 8 1 (yh5 l n x0) [nI (l.getD x0 0)] (nw ((x0:Int)+1) (∃x0':Nat,(x0'<=List.length l)/\(List.length l-x0')<(List.length l-x0)/\true=true/\((nI ((x0:Int)+1):Value)=nI (x0':Int)/\wk (slN 3 ((yh3 l n x0)+1):Value) (slQ 3 1 (List.length (bq l n x0').1):Value)/\(.bool true:Value) = .bool (bq l n x0').2/\eR (nI n)/\(yh1 l)=rn (sg 1 [(1,3)]) 3 (yh1 l)/\yh7)/\(True)/\((kbq 1 (.cells true 1 ((((yh5 l n x0).drop 0).take ((yh3 l n x0)*1))++((([nI (l.getD x0 0)]:List Value).drop 0).take (1*1)))) (.cells true 1 (List.flatMap aq (bq l n x0').1)))/\True)/\(True))))))))) (yh0 x0 l n)))) (yh0 x0 l n)) (fk (!(bq l n x0).2) (apq (yh3 l n x0) 8 1 (yh5 l n x0) [nI n] (true=true/\wk (slN 3 ((yh3 l n x0)+1):Value) (rn (sg 1 [(1,3)]) 3 (slQ 1 1 (cS l n).length:Value))/\((kbq 1 (.cells true 1 ((((yh5 l n x0).drop 0).take ((yh3 l n x0)*1))++((([nI n]:List Value).drop 0).take (1*1)))) (.cells true 1 ((cS l n).flatMap aq)))/\True))) (true=true/\wk (slQ 1 1 (yh3 l n x0):Value) (rn (sg 1 [(1,1)]) 3 (slQ 1 1 (cS l n).length:Value))/\((kbq 1 (.cells true 1 (yh5 l n x0)) (.cells true 1 ((cS l n).flatMap aq)))/\True))))))
abbrev yh6:=aI [.cells false 0 [nI 4000,nI 8000,nI 14000,nI 24000,nI 40000,nI 90000]]
abbrev yh2(l:List Int)(x0:Nat):Hint:=.need (.val (nI (l.getD x0 0)) (.go 0 (.need (.go 2 (.slot 13 (nI ((x0:Int)+1)) (.go 0 (.again [(1,3)])))))))
theorem Ip(l:List Int)(n:Int):vF prog msk (dm 0) 100000 true 40 true 20 [.iface (l.length+1) (.agg ⟨(l.flatMap aq)⟩),nI n] yh6 (some [])
 (.go 3 (.inv 3 (Nat) (0) [] [] (fun x0=>[(7,nI (x0:Int)),(5,slQ 1 1 (yh3 l n x0)),(6,.bool (bq l n x0).2),(1,nI n),(0,.iface (l.length+1) (.agg ⟨(l.flatMap aq)⟩)),(4,.slice none 0 0)]) (fun x0=>[]) (fun x0=>[(true,.cells true 1 (yh5 l n x0))]) (fun x0=>[]) (fun x0=>(x0<=List.length l)) (fun x0=>(List.length l-x0)) (fun x0 => .go 3 (.fork (.go 2 (.aH (.go 1 (.need (.val (nI (l.getD x0 0)) (.go 2 (.fork (.go 1 (.need (.val (nI (l.getD x0 0)) (.go 1 (.fork (.go 2 (.need (.go 4 (.need (.val (nI (l.getD x0 0)) (.go 0 (.need (.go 2 (.slot 13 (nI ((x0:Int)+1)) (.go 0 (.again [(1,5)]))))))))))) (.go 3 (yh2 l x0))))))) (.go 2 (yh2 l x0))))))) (.go 4 (yh2 l x0)))) (.go 1 (.fork (.go 2 (.need (.go 2 (.again [(1,3)])))) (.go 1 (.again [(1,1)]))))))))
 (kd (yh6:HT).n 3 (slQ 1 1 (cS l n).length) [(true,.cells true 1 ((cS l n).flatMap aq))])=EZ l n:=by kernel_rfl
theorem uV{l:List Int}{n:Int}{k:Nat}(h:(bq l n k).2=false)(g:n<l.getD k 0):bq l n (k+1)=(((bq l n k).1 ++ [n]) ++ [l.getD k 0],true):=by
 show (if _ then _ else _)=_
 rw[if_pos ⟨h,Int.le_of_lt g⟩,if_pos g]
theorem put_eq{l:List Int}{n:Int}{k:Nat}(h:(bq l n k).2=false)(g:n<=l.getD k 0)(g2:¬ n<l.getD k 0):bq l n (k+1)=((bq l n k).1 ++ [l.getD k 0],true):=by
 show (if _ then _ else _)=_
 rw[if_pos ⟨h,g⟩,if_neg g2]
theorem qr{l:List Int}{n:Int}{k:Nat}(h:¬ ((bq l n k).2=false/\n<=l.getD k 0)):bq l n (k+1)=((bq l n k).1 ++ [l.getD k 0],(bq l n k).2):=by
 show (if _ then _ else _)=_
 rw[if_neg h]
theorem qq(l:List Int)(n:Int):∀k,(bq l n k).1.length<=2*k
 |0=>Nat.le_refl 0
 |k+1=>by
  have:=qq l n k
  by_cases h:(bq l n k).2=false/\n<=l.getD k 0
  ·by_cases g:n<l.getD k 0
   ·rw[uV h.1 g];simp;omega
   ·rw[put_eq h.1 h.2 g];simp;omega
  ·rw[qr h];simp;omega
theorem FC{L M:List Int}{a b:Int}(hM:M=(L ++ [a]) ++ [b]):(some (aa.cells true 1 (List.take ((L.length+1)*1) (List.drop 0 (List.take (L.length*1) (List.drop 0 (L.flatMap aq))++List.take (1*1) (List.drop 0 [nI a])))++List.take (1*1) (List.drop 0 [nI b]))):Option aa)=some (.cells true 1 (M.flatMap aq)):=by
 have e:=bN (own:=true) bH (L:=L) (M:=L ++ [a]) (x:=a) (c:=[nI a]) rfl rfl
 have e1:=Option.some.inj e
 injection e1 with e2 e3 e4
 rw[e4]
 have h:=bN (own:=true) bH (L:=L ++ [a]) (M:=M) (x:=b) (c:=[nI b]) hM rfl
 rwa [aE,w7]at h
theorem C5{L:List Int}{v:Value}:0+(L.length+1)*1<=List.length (List.take (L.length*1) (List.drop 0 (L.flatMap aq))++List.take (1*1) (List.drop 0 [v])):=by
 rw[aE,List.length_take,List.length_drop,aC bH];simp
theorem IY(l:List Int)(n:Int)(hl:l.length<=1000000){H:Heap}(h0:H[0]?=some bF) :
  ae prog 20 [.iface (l.length+1) (.agg ⟨l.flatMap aq⟩),nI n] H [] (Is (.slice (some ⟨H.length,0,some 1⟩) (cS l n).length (cS l n).length) (H ++ [.cells true 1 ((cS l n).flatMap aq)])):=by
 refine jV (os:=[bF]) (ids:=[0]) (fun j => .slice (some ⟨j,0,some 1⟩) (cS l n).length (cS l n).length) (new:=[.cells true 1 ((cS l n).flatMap aq)]) (Eq.mpr (Ip l n) ?_) rfl rfl ⟨⟨_,_,rfl,bf _ _⟩,trivial⟩ (by decide) ⟨h0,trivial⟩ rfl (fun j=>rfl) (by show [rn _ 3 _,_]=_;rw[dP];rfl)
 delta EZ yh1 yh7 yh4 yh3 yh5 yh0 nI slQ slN fk nw eR kbq ixq lq apq
 refine ⟨rfl,Nat.zero_le _,?_,fun _=>rfl,fun x hx=>cu (fun hx1 =>?_) (fun hx1 =>?_)⟩
 ·repeat' first|exact (dP _ _ _).symm|exact trivial|exact ed _ _ _ (.inl rfl)|refine ⟨rfl,?_⟩|refine ⟨trivial,?_⟩|apply And.intro
 ·have pl:=qq l n x
  have hx2:x<l.length:=by omega
  refine ⟨fun q =>?_,fun q =>?_⟩
  ·have q':(bq l n x).2=false:=by simpa using q
   refine ⟨⟨by omega,by omega⟩,cJ (by omega) (by omega),cu (fun g =>?_) (fun g =>?_)⟩
   ·refine ⟨⟨by omega,by omega⟩,cJ (by omega) (by omega),cu (fun r =>?_) (fun r =>?_)⟩
    ·refine ⟨⟨by omega,by decide,⟨Nat.le_refl _,by rw[aC bH];omega⟩,⟨Nat.le_refl _,by simp⟩,rfl⟩,rfl,⟨by omega,by omega⟩,cJ (by omega) (by omega),⟨by omega,by decide,⟨Nat.le_refl _,C5⟩,⟨Nat.le_refl _,by simp⟩,rfl⟩,rfl,ag (by omega),x+1,by omega,by omega,?_⟩
     rw[uV q' r]
     repeat' first|exact (dP _ _ _).symm|exact bf _ _|exact FC rfl|(exact oV (by simp) (by omega))|exact trivial|refine ⟨rfl,?_⟩|refine ⟨trivial,?_⟩|apply And.intro
    ·refine ⟨⟨by omega,by omega⟩,cJ (by omega) (by omega),⟨by omega,by decide,⟨Nat.le_refl _,by rw[aC bH];omega⟩,⟨Nat.le_refl _,by simp⟩,rfl⟩,rfl,ag (by omega),x+1,by omega,by omega,?_⟩
     rw[put_eq q' g r]
     repeat' first|exact (dP _ _ _).symm|exact bf _ _|exact bN bH rfl rfl|(exact oV (by simp) (by omega))|exact trivial|refine ⟨rfl,?_⟩|refine ⟨trivial,?_⟩|apply And.intro
   ·refine ⟨⟨by omega,by omega⟩,cJ (by omega) (by omega),⟨by omega,by decide,⟨Nat.le_refl _,by rw[aC bH];omega⟩,⟨Nat.le_refl _,by simp⟩,rfl⟩,rfl,ag (by omega),x+1,by omega,by omega,?_⟩
    rw[qr (fun u=>g u.2)]
    repeat' first|exact (dP _ _ _).symm|exact bf _ _|exact bN bH rfl rfl|(exact oV (by simp) (by omega))|exact trivial|refine ⟨rfl,?_⟩|refine ⟨trivial,?_⟩|apply And.intro
  ·have q':(bq l n x).2=true:=by simpa using q
   refine ⟨⟨by omega,by omega⟩,cJ (by omega) (by omega),⟨by omega,by decide,⟨Nat.le_refl _,by rw[aC bH];omega⟩,⟨Nat.le_refl _,by simp⟩,rfl⟩,rfl,ag (by omega),x+1,by omega,by omega,?_⟩
   rw[qr (fun u=>by rw[q']at u;cases u.1)]
   repeat' first|exact (dP _ _ _).symm|exact bf _ _|exact bN bH rfl rfl|(exact oV (by simp) (by omega))|exact trivial|refine ⟨rfl,?_⟩|refine ⟨trivial,?_⟩|apply And.intro
 ·have pl:=qq l n x
  obtain rfl:x=l.length:=by omega
  refine ⟨fun q =>?_,fun q =>?_⟩
  ·have q':(bq l n l.length).2=false:=by simpa using q
   rw[show cS l n=(bq l n l.length).1 ++ [n] by unfold cS;rw[q'];rfl]
   refine ⟨⟨by omega,by decide,⟨Nat.le_refl _,by rw[aC bH];omega⟩,⟨Nat.le_refl _,by simp⟩,rfl⟩,rfl,?_⟩
   repeat' first|exact bf _ _|exact bN bH rfl rfl|(exact oV (by simp) (by omega))|exact trivial|refine ⟨rfl,?_⟩|apply And.intro
  ·have q':(bq l n l.length).2=true:=by simpa using q
   rw[show cS l n=(bq l n l.length).1 by unfold cS;rw[q'];rfl]
   repeat' first|exact bf _ _|exact trivial|exact ad _|refine ⟨rfl,?_⟩|apply And.intro
def eW(r:List Bool):Nat->List Int
 |0=>[]
 |k+1=>if r.getD k false then eW r k ++ [(k:Int)] else eW r k
def lsT(r:List Bool):List Int:=eW r r.length
def lsD(T:List (List Bool)):List (List Int):=T.map lsT
abbrev dIL(l:List Int):Value:=.iface (l.length+1) (.agg ⟨l.flatMap aq⟩)
def hdO(T:List (List Bool))(k:Nat):List Value:=(T.take k).map (fun r=>dIL (lsT r))++List.replicate (T.length-k) (.slice none 0 0)
def hdI(T:List (List Bool))(k R n:Nat):List Value:=(hdO T k).set k (slQ R 1 n)
abbrev yi1(T:List (List Bool)):Int:=(T.length:Nat)
abbrev yi5(T:List (List Bool)):Prop:=eR (.slice none 0 0)/\eR (slN 2 T.length)/\wR (slQ 1 1 T.length)/\eR (nI (yi1 T))/\True
abbrev yi3(T:List (List Bool))(x0:Nat):=T.getD x0 []
abbrev yi0(T:List (List Bool))(x0:Nat):Value:=.iface ((yi3 T x0).length+1) (.agg ⟨((yi3 T x0).flatMap af)⟩)
abbrev yi6(T:List (List Bool))(x0:Nat):Int:=((yi3 T x0).length:Nat)
abbrev yi2(T:List (List Bool))(x0 x1:Nat):=hdI T x0 3 (eW (yi3 T x0) x1).length
def Cb(T:List (List Bool)):Prop :=
 (((0:Int)<=(yi1 T)/\((yi1 T):Int)<=(yi1 T)/\((yi1 T):Int)<2 ^ 62/\24*((yi1 T):Int)<=2 ^ 48)/\(lq (0<=List.length T) (true=true/\((nI 0:Value)=nI ((0:Nat):Int)/\yi5 T)/\((kbq 3 (.cells true 1 (cA [.slice none 0 0] T.length)) (.cells true 1 (hdO T 0)))/\True)/\(True)/\(True)) (∀x0:Nat,(x0<=List.length T)->(fk (decide (((x0:Int):Int)<(yi1 T))) ((ixq (x0:Int) T.length)/\(((List.map dV T)[(0+Int.toNat (x0:Int)*1)]?=some (.iface ((yi3 T x0).length+1) (.agg ⟨((yi3 T x0).flatMap af)⟩)))/\(lq (0<=List.length (yi3 T x0)) (true=true/\((nI 0:Value)=nI ((0:Nat):Int)/\eR (nI (yi1 T))/\wR (slQ 1 1 T.length)/\eR (slN 2 T.length)/\eR (.slice none 0 0)/\eR (nI (x0:Int))/\eR (nI (x0:Int))/\(yi0 T x0)=rn (sg 3 []) 3 (yi0 T x0)/\(yi0 T x0)=rn (sg 3 []) 3 (yi0 T x0)/\eR (nI (yi6 T x0))/\True)/\(wkO (.cells true 1 (hdO T x0):aa) (rno (sg 3 []) 3 (.cells true 1 (hdI T x0 3 (eW (yi3 T x0) 0).length):aa))/\True)/\(True/\True)/\(True)) (∀x1:Nat,(x1<=List.length (yi3 T x0))->(fk (decide (((x1:Int):Int)<(yi6 T x0))) ((ixq (x1:Int) (yi3 T x0).length)/\((((yi3 T x0).flatMap af)[(Int.toNat (x1:Int)*1)]?=some (.bool ((yi3 T x0).getD x1 false)))/\(fk ((yi3 T x0).getD x1 false) ((ixq (x0:Int) T.length)/\(((yi2 T x0 x1)[(0+Int.toNat (x0:Int)*1)]?=some (slQ 3 1 (eW (yi3 T x0) x1).length))/\(apq (eW (yi3 T x0) x1).length 8 1 ((eW (yi3 T x0) x1).flatMap aq) [nI (x1:Int)] ((ixq (x0:Int) T.length)/\(((0+Int.toNat (x0:Int)*1)+1<=List.length (yi2 T x0 x1))/\true=true/\(nw ((x1:Int)+1) (∃x1':Nat,(x1'<=List.length (yi3 T x0))/\(List.length (yi3 T x0)-x1')<(List.length (yi3 T x0)-x1)/\true=true/\((nI ((x1:Int)+1):Value)=nI (x1':Int)/\eR (nI (yi1 T))/\wR (slQ 1 1 T.length)/\eR (slN 2 T.length)/\eR (.slice none 0 0)/\eR (nI (x0:Int))/\eR (nI (x0:Int))/\(yi0 T x0)=rn (sg 3 [(3,5)]) 3 (yi0 T x0)/\(yi0 T x0)=rn (sg 3 [(3,5)]) 3 (yi0 T x0)/\eR (nI (yi6 T x0))/\True)/\(wkO (.cells true 1 (ba (yi2 T x0 x1) (0+Int.toNat (x0:Int)*1) [slN 5 ((eW (yi3 T x0) x1).length+1)]):aa) (rno (sg 3 [(3,5)]) 3 (.cells true 1 (hdI T x0 3 (eW (yi3 T x0) x1').length):aa))/\True)/\((kbq 3 (.cells true 1 (((((eW (yi3 T x0) x1).flatMap aq).drop 0).take ((eW (yi3 T x0) x1).length*1))++((([nI (x1:Int)]:List Value).drop 0).take (1*1)))) (.cells true 1 ((eW (yi3 T x0) x1').flatMap aq)))/\True)/\(True)))))))) (nw ((x1:Int)+1) (∃x1':Nat,(x1'<=List.length (yi3 T x0))/\(List.length (yi3 T x0)-x1')<(List.length (yi3 T x0)-x1)/\true=true/\((nI ((x1:Int)+1):Value)=nI (x1':Int)/\eR (nI (yi1 T))/\wR (slQ 1 1 T.length)/\eR (slN 2 T.length)/\eR (.slice none 0 0)/\eR (nI (x0:Int))/\eR (nI (x0:Int))/\(yi0 T x0)=rn (sg 3 [(3,3)]) 3 (yi0 T x0)/\(yi0 T x0)=rn (sg 3 [(3,3)]) 3 (yi0 T x0)/\eR (nI (yi6 T x0))/\True)/\(wkO (.cells true 1 (yi2 T x0 x1):aa) (rno (sg 3 [(3,3)]) 3 (.cells true 1 (hdI T x0 3 (eW (yi3 T x0) x1').length):aa))/\True)/\((kbq 3 (.cells true 1 ((eW (yi3 T x0) x1).flatMap aq)) (.cells true 1 ((eW (yi3 T x0) x1').flatMap aq)))/\True)/\(True)))))) ((((yi2 T x0 x1):List Value)[x0]?=some (slQ 3 1 (lsT (yi3 T x0)).length))/\((some (.cells true 1 (List.set (yi2 T x0 x1) x0 (.iface ((lsT (yi3 T x0)).length+1) (.agg ⟨((eW (yi3 T x0) x1).flatMap aq)⟩))):aa)=some (.cells true 1 (hdO T (x0+1)):aa))/\(nw ((x0:Int)+1) (∃x0':Nat,(x0'<=List.length T)/\(List.length T-x0')<(List.length T-x0)/\true=true/\((nI ((x0:Int)+1):Value)=nI (x0':Int)/\yi5 T)/\((kbq 3 (.cells true 1 (hdO T (x0+1))) (.cells true 1 (hdO T x0')))/\True)/\(True)/\(True)))))))))) (true=true/\wk (slN 2 T.length:Value) (rn (sg 2 [(2,2)]) 3 (slQ 2 1 T.length:Value))/\((kbq 2 (.cells true 1 (hdO T x0)) (.cells true 1 (List.map dIL (lsD T))))/\True))))))
abbrev yi4(T:List (List Bool)):=aI [.cells false 0 [nI 4000,nI 8000,nI 14000,nI 24000,nI 40000,nI 90000],.cells true 1 (List.map dV T)]
theorem GL(T:List (List Bool)):vF prog msk (dm 0) 100000 true 40 true 50 [slQ 1 1 T.length] (yi4 T) (some [])
 (.go 2 (.need (.go 3 (.inv 3 (Nat) (0) [] [2] (fun x0=>[(13,nI (x0:Int)),(2,.slice none 0 0),(3,slN 2 T.length),(11,slQ 1 1 T.length),(12,nI (yi1 T))]) (fun x0=>[(2,true,.cells true 1 (hdO T x0))]) (fun x0=>[]) (fun x0=>[]) (fun x0=>(x0<=List.length T)) (fun x0=>(List.length T-x0)) (fun x0 => .go 0 (.fork (.go 0 (.need (.val (.iface ((yi3 T x0).length+1) (.agg ⟨((yi3 T x0).flatMap af)⟩)) (.go 4 (.inv 3 (Nat) (0) [] [2] (fun x1=>[(20,nI (x1:Int)),(12,nI (yi1 T)),(11,slQ 1 1 T.length),(3,slN 2 T.length),(2,.slice none 0 0),(13,nI (x0:Int)),(4,nI (x0:Int)),(5,.iface ((yi3 T x0).length+1) (.agg ⟨((yi3 T x0).flatMap af)⟩)),(18,.iface ((yi3 T x0).length+1) (.agg ⟨((yi3 T x0).flatMap af)⟩)),(19,nI (yi6 T x0))]) (fun x1=>[(2,false,.cells true 1 (yi2 T x0 x1))]) (fun x1=>[(true,.cells true 1 ((eW (yi3 T x0) x1).flatMap aq))]) (fun x1=>[]) (fun x1=>(x1<=List.length (yi3 T x0))) (fun x1=>(List.length (yi3 T x0)-x1)) (fun x1 => .go 0 (.fork (.go 0 (.need (.val (.bool ((yi3 T x0).getD x1 false)) (.go 2 (.fork (.go 3 (.need (.val (slQ 3 1 (eW (yi3 T x0) x1).length) (.go 1 (.need (.need (.need (.go 0 (.slot 36 (nI ((x1:Int)+1)) (.go 0 (.again [(3,5)]))))))))))) (.go 0 (.slot 36 (nI ((x1:Int)+1)) (.go 0 (.again [(3,3)]))))))))) (.tab [.nO 2 x0 3 (lsT (yi3 T x0)).length (lsT (yi3 T x0)).length true] (.obj 2 (.cells true 1 (hdO T (x0+1))) (.go 0 (.slot 37 (nI ((x0:Int)+1)) (.go 0 (.again []))))))))))))) (.go 1 (.again [(2,2)]))))))))
 (kd ((yi4 T):HT).n 3 (slQ 2 1 T.length) [(true,.cells true 1 (List.map dIL (lsD T)))])=Cb T:=by kernel_rfl
theorem sH{k n:Nat}(h:k<n)(v:Value):List.replicate (n-k) v=v :: List.replicate (n-(k+1)) v:=by
 rw[show n-k=(n-(k+1))+1 by omega,List.replicate_succ]
theorem qX(T:List (List Bool)){k:Nat}(h:k<=T.length):((T.take k).map fun r=>dIL (lsT r)).length=k:=by
 rw[List.length_map,List.length_take];omega
theorem xk{T:List (List Bool)}{k:Nat}(h:k<T.length)(v:Value):(hdO T k).set k v=(T.take k).map (fun r=>dIL (lsT r))++v :: List.replicate (T.length-(k+1)) (.slice none 0 0):=by
 unfold hdO
 rw[sH h,List.set_append_right _ _ (by rw[qX T (by omega)];omega),qX T (by omega),Nat.sub_self];rfl
theorem DE{T:List (List Bool)}{k:Nat}(h:k<T.length):(hdO T k).set k (.slice none 0 0)=hdO T k:=by
 rw[xk h];unfold hdO;rw[sH h]
theorem xl{T:List (List Bool)}{k:Nat}(h:k<=T.length):(hdO T k).length=T.length:=by
 unfold hdO;rw[aE,qX T h,List.length_replicate];omega
theorem Bk{T:List (List Bool)}{k:Nat}(h:k<T.length){v:Value}(hv:v=dIL (lsT (T.getD k []))):(hdO T k).set k v=hdO T (k+1):=by
 subst hv
 rw[xk h]
 unfold hdO
 rw[List.take_succ_eq_append_getElem h,List.map_append,List.append_assoc,List.getD_eq_getElem?_getD,List.getElem?_eq_getElem h];rfl
theorem DG(T:List (List Bool)):hdO T T.length=(lsD T).map dIL:=by
 unfold hdO lsD
 rw[List.take_length,Nat.sub_self,List.map_map,List.replicate_zero,List.append_nil];rfl
theorem xa:∀n,cA [.slice none 0 0] n=List.replicate n (.slice none 0 0)
 |0=>rfl
 |n+1=>by rw[List.replicate_succ,<- xa n];rfl
theorem Bj(T:List (List Bool)):cA [.slice none 0 0] T.length=hdO T 0:=by rw[xa];rfl
theorem Bl{T:List (List Bool)}{k R n m off:Nat}(h:k<T.length)(ho:off=k)(hm:n=m):(hdI T k R n)[off]?=some (slQ R 1 m):=by
 subst ho hm
 unfold hdI
 rw[List.getElem?_set_self (by rw[xl (by omega)];exact h)]
theorem DH{T:List (List Bool)}{k R n:Nat}(h:k<=T.length):(hdI T k R n).length=T.length:=by
 unfold hdI;rw[List.length_set,xl h]
theorem DF(T:List (List Bool))(k:Nat)(S:Nat->Option Nat):∀v∈hdO T k,rn S 3 v=v:=by
 intro v hv
 rcases List.mem_append.1 hv with h|h
 ·obtain ⟨r,_,rfl⟩:=List.mem_map.1 h;exact dP _ _ _
 ·cases List.eq_of_mem_replicate h;rfl
theorem wy{f:Value->Value}{a b:Value}(h:wk a (f b)):∀{l:List Value} {k:Nat},(∀v∈l,f v=v)->wks (l.set k a) ((l.set k b).map f)
 | [],_,_=>CB
 |x :: l,0,hl=>aQ h (by rw[List.map_congr_left (g:=fun v=>v) fun v hv=>hl v (List.mem_cons_of_mem _ hv),List.map_id'];exact rV l)
 |x :: l,k+1,hl=>aQ (by rw[hl x List.mem_cons_self];exact ad x) (wy h fun v hv=>hl v (List.mem_cons_of_mem _ hv))
theorem hdW{T:List (List Bool)}{k R n:Nat}{S:Nat->Option Nat}{a:Value}{l:List Value}(e:l=(hdO T k).set k a)(h:wk a (rn S 3 (slQ R 1 n))):wkO (.cells true 1 l) (rno S 3 (.cells true 1 (hdI T k R n))):=by
 subst e
 exact aN (wy h (DF T k S))
theorem pj(n:Nat)(l:List Int):aj n (dIL l)=true:=by
 show ((l.flatMap aq).all (cg n))=true
 rw[List.all_eq_true]
 intro v hv
 obtain ⟨b,_,hb⟩:=List.mem_flatMap.1 hv
 cases List.mem_singleton.1 hb;rfl
theorem wS(n:Nat)(T:List (List Bool))(k:Nat):(hdO T k).all (aj n)=true:=by
 rw[List.all_eq_true]
 intro v hv
 rcases List.mem_append.1 hv with h|h
 ·obtain ⟨r,_,rfl⟩:=List.mem_map.1 h;exact pj _ _
 ·cases List.eq_of_mem_replicate h;rfl
theorem eg(n:Nat)(l:List (List Int)):(l.map dIL).all (aj n)=true:=by
 rw[List.all_eq_true]
 intro v hv
 obtain ⟨r,_,rfl⟩:=List.mem_map.1 hv
 exact pj _ _
theorem l9{r:List Bool}{k:Nat}(h:r.getD k false=true):eW r (k+1)=eW r k ++ [(k:Int)]:=by
 show (if _ then _ else _)=_;rw[if_pos h]
theorem kg{r:List Bool}{k:Nat}(h:r.getD k false=false):eW r (k+1)=eW r k:=by
 show (if _ then _ else _)=_;rw[if_neg (by rw[h];decide)]
theorem u5(r:List Bool):∀k,(eW r k).length<=k
 |0=>Nat.le_refl 0
 |k+1=>by
  have:=u5 r k
  cases h:r.getD k false
  ·rw[kg h];omega
  ·rw[l9 h];simp;omega
theorem FS{T:List (List Bool)}(h00:0<T.length)(hT:T.length<=1000000)(hr:∀k,k<T.length->(T.getD k []).length<=1000000){H:Heap}{L:Nat}(hnd:[0,L].Nodup)(h0:H[0]?=some bF)(h1:H[L]?=some (.cells true 1 (T.map dV))) :
  ae prog 50 [slQ L 1 T.length] H [] (Is (slQ H.length 1 T.length) (H ++ [.cells true 1 ((lsD T).map dIL)])):=by
 have i1:ap 3 (.cells true 1 (T.map dV))=true:=(eU (S:=fun _=>none) (d:=0) (l6 0 T)).2
 have i2:∀S,rno S 3 (.cells true 1 (T.map dV)) = .cells true 1 (T.map dV):=fun S=>congrArg (aa.cells true 1) (eU (d:=0) (l6 0 T)).1
 refine jV (os:=[bF,.cells true 1 (T.map dV)]) (ids:=[0,L]) (fun j=>slQ j 1 T.length) (new:=[.cells true 1 ((lsD T).map dIL)]) (Eq.mpr (GL T) ?_)
  (by show (ap 3 bF&&(ap 3 (.cells true 1 (T.map dV))&&true))=true;rw[i1];rfl) rfl ⟨⟨_,_,rfl,eg _ _⟩,trivial⟩ hnd ⟨h0,by rw[i2];exact h1,trivial⟩ rfl (fun j=>rfl) rfl
 delta Cb yi1 yi5 yi3 yi0 yi6 yi2 nI slQ slN fk nw eR wR kbq ixq lq apq
 refine ⟨⟨by omega,by omega,by omega,by omega⟩,rfl,Nat.zero_le _,⟨rfl,?_⟩,fun _=>rfl,fun x hx=>cu (fun q =>?_) (fun q =>?_)⟩
 ·repeat' first|(exact congrArg (fun l=>some (aa.cells true 1 l)) (Bj T))|exact wS _ _ _|exact trivial|exact ad _|refine ⟨rfl,?_⟩|refine ⟨trivial,?_⟩|apply And.intro
 ·have hx':x<T.length:=by omega
  have hrx:=hr x hx'
  refine ⟨⟨by omega,by omega⟩,At hx' (by omega),rfl,Nat.zero_le _,⟨rfl,?_⟩,fun _=>rfl,fun y hy=>cu (fun g =>?_) (fun g =>?_)⟩
  ·repeat' first|exact (eS _ _).symm|exact hdW (DE hx').symm (ed _ _ _ (.inl rfl))|exact trivial|exact ad _|refine ⟨rfl,?_⟩|refine ⟨trivial,?_⟩|apply And.intro
  ·have hl:=u5 (T.getD x []) y
   refine ⟨⟨by omega,by omega⟩,dl (by omega) (by omega),fun b =>?_,fun b =>?_⟩
   ·refine ⟨⟨by omega,by omega⟩,Bl hx' (by omega) rfl,⟨by omega,by decide,⟨Nat.le_refl _,by rw[aC bH];omega⟩,⟨Nat.le_refl _,by simp⟩,rfl⟩,rfl,⟨by omega,by omega⟩,by rw[DH (by omega)];omega,rfl,ag (by omega),y+1,by omega,by omega,?_⟩
    rw[l9 b]
    repeat' first|exact (eS _ _).symm|(exact hdW (by unfold hdI;show List.set (List.set _ _ _) _ _=_;rw[show 0+Int.toNat ((x:Nat):Int)*1=x by omega,List.set_set]) (oV (by simp) (by omega)))|exact bN bH rfl rfl|exact bf _ _|exact trivial|exact ad _|refine ⟨rfl,?_⟩|apply And.intro
   ·refine ⟨ag (by omega),y+1,by omega,by omega,?_⟩
    rw[kg b]
    repeat' first|exact (eS _ _).symm|exact hdW rfl (ad _)|exact bf _ _|exact trivial|exact ad _|refine ⟨rfl,?_⟩|apply And.intro
  ·obtain rfl:y=(T.getD x []).length:=by omega
   refine ⟨Bl hx' (by omega) rfl,congrArg (fun l=>some (aa.cells true 1 l)) (by unfold hdI;rw[List.set_set];exact Bk hx' rfl),ag (by omega),x+1,by omega,by omega,?_⟩
   repeat' first|exact wS _ _ _|exact trivial|exact ad _|refine ⟨rfl,?_⟩|refine ⟨trivial,?_⟩|apply And.intro
 ·obtain rfl:x=T.length:=by omega
  repeat' first|(exact congrArg (fun l=>some (aa.cells true 1 l)) (DG T))|exact eg _ _|exact trivial|(exact p5 (by omega))|refine ⟨rfl,?_⟩|apply And.intro
abbrev yj1:List Value:=[nI 4000,nI 8000,nI 14000,nI 24000,nI 40000,nI 90000]
abbrev yj5(p:Pl):=p.land.flatMap af
abbrev yj6(p:Pl):=p.chan.flatMap af
abbrev yj7(p:Pl):=p.shp.th.flatMap ptC
abbrev yj8(p:Pl):=p.shp.wa.flatMap ptC
abbrev yj9(p:Pl):=p.shp.ic.flatMap ptC
abbrev yj2(p:Pl):List Value:=[.agg #[nI p.w,nI p.h,slQ 1 2 p.land.length,slQ 2 2 p.cts.length,slQ 3 2 p.chan.length,nI p.shp.cls,nI p.shp.pow,nI p.shp.dra,nI p.shp.ton,slQ 4 2 p.shp.th.length,slQ 5 2 p.shp.wa.length,slQ 6 2 p.shp.ic.length,nI p.shp.slow,nI p.shp.aB,nI p.shp.rdg,nI p.shp.prs,nI p.size,nI p.frm,nI p.to]]
abbrev yj0(p:Pl):List Value:=[nI p.w,nI p.h,slQ 1 2 p.land.length,slQ 2 2 p.cts.length,slQ 3 2 p.chan.length,nI p.shp.cls,nI p.shp.pow,nI p.shp.dra,nI p.shp.ton,slQ 4 2 p.shp.th.length,slQ 5 2 p.shp.wa.length,slQ 6 2 p.shp.ic.length,nI p.shp.slow,nI p.shp.aB,nI p.shp.rdg,nI p.shp.prs,nI p.size,nI p.frm,nI p.to,nI (endP p),.map (some 9)]
abbrev yj4(p:Pl):=knE (ab.nil (sfP p)).1
abbrev yja(p:Pl):=List.map dIL (lsD (tbP p))
def Cn(p:Pl):Prop :=
 (((ac (.cells false 0 yj1))/\(ac (.cells true 1 (yj5 p)))/\(ac (.cells false 0 (p.cts.flatMap chC)))/\(ac (.cells true 1 (yj6 p)))/\(ac (.cells true 2 (yj7 p)))/\(ac (.cells true 2 (yj8 p)))/\(ac (.cells true 2 (yj9 p)))/\True)/\(∀H':Heap,H'.length=8->(H'[0]?=some (.cells false 0 yj1:aa)/\H'[1]?=some (.cells true 1 (yj5 p):aa)/\H'[2]?=some (.cells false 0 (p.cts.flatMap chC):aa)/\H'[3]?=some (.cells true 1 (yj6 p):aa)/\H'[4]?=some (.cells true 2 (yj7 p):aa)/\H'[5]?=some (.cells true 2 (yj8 p):aa)/\H'[6]?=some (.cells true 2 (yj9 p):aa)/\True)->ae prog 30 (yj2 p) H' [] (Is (.tuple #[pt 8,nI 0]) (H' ++ [(.cells true 0 (yj0 p):aa),(.map (yj4 p):aa)])))/\(((ac (.cells false 0 yj1))/\(ac (.cells true 0 (yj0 p)))/\(ac (.cells true 1 (yj5 p)))/\(ac (.cells false 0 (p.cts.flatMap chC)))/\(ac (.cells true 1 (yj6 p)))/\(ac (.cells true 2 (yj7 p)))/\(ac (.cells true 2 (yj8 p)))/\(ac (.cells true 2 (yj9 p)))/\(ac (.map (yj4 p)))/\True)/\(∀H':Heap,H'.length=10->(H'[0]?=some (.cells false 0 yj1:aa)/\H'[8]?=some (.cells true 0 (yj0 p):aa)/\H'[1]?=some (.cells true 1 (yj5 p):aa)/\H'[2]?=some (.cells false 0 (p.cts.flatMap chC):aa)/\H'[3]?=some (.cells true 1 (yj6 p):aa)/\H'[4]?=some (.cells true 2 (yj7 p):aa)/\H'[5]?=some (.cells true 2 (yj8 p):aa)/\H'[6]?=some (.cells true 2 (yj9 p):aa)/\H'[9]?=some (.map (yj4 p):aa)/\True)->ae prog 51 [pt 8] H' [9] (fun y H2 => ∃z:ab (sfP p),True/\y=slQ 10 1 (tbP p).length/\H2=((List.set H' 9 (.map (knE z.1):aa)) ++ [(.cells true 1 (List.map dV (tbP p)):aa)])))/\(∀r1:ab (sfP p),True->(n2q 11 0 (.cells false 0 yj1) 10 (.cells true 1 (List.map dV (tbP p))) 50 [slQ 10 1 (tbP p).length] (slQ 11 1 (tbP p).length) [(.cells true 1 (yja p):aa)] (true=true/\wk (.tuple #[slQ 11 1 (tbP p).length,nI 0]:Value) (rn (sg 7 [(7,11)]) 3 (.tuple #[slQ 7 1 (tbP p).length,nI (bQ p)]:Value))/\((krq 7 (.cells true 1 (yja p)))/\True))))))
abbrev yj3(p:Pl):=aI [.cells false 0 yj1,.cells true 1 (yj5 p),.cells false 0 (p.cts.flatMap chC),.cells true 1 (yj6 p),.cells true 2 (yj7 p),.cells true 2 (yj8 p),.cells true 2 (yj9 p)]
theorem GX(p:Pl):vF prog msk (dm 0) 100000 true 40 true 16 (yj2 p) (yj3 p) (some [])
 (.go 3 (.ans [(0,.cells false 0 yj1),(1,.cells true 1 (yj5 p)),(2,.cells false 0 (p.cts.flatMap chC)),(3,.cells true 1 (yj6 p)),(4,.cells true 2 (yj7 p)),(5,.cells true 2 (yj8 p)),(6,.cells true 2 (yj9 p))] (.tuple #[pt 8,nI 0]) [.cells true 0 (yj0 p),.map (yj4 p)] (.go 8 (.cx [(0,.cells false 0 yj1),(8,.cells true 0 (yj0 p)),(1,.cells true 1 (yj5 p)),(2,.cells false 0 (p.cts.flatMap chC)),(3,.cells true 1 (yj6 p)),(4,.cells true 2 (yj7 p)),(5,.cells true 2 (yj8 p)),(6,.cells true 2 (yj9 p)),(9,.map (yj4 p))] [9] (ab (sfP p)) (fun r1=>True) (fun r1=>slQ 10 1 (tbP p).length) (fun r1=>[(9,.map (knE r1.1))]) (fun r1=>[.cells true 1 (List.map dV (tbP p))]) (fun r1 => .ans [(0,.cells false 0 yj1),(10,.cells true 1 (List.map dV (tbP p)))] (slQ 11 1 (tbP p).length) [.cells true 1 (yja p)] (.go 1 (.again [(7,11)])))))))
 (kd ((yj3 p):HT).n 3 (.tuple #[slQ 7 1 (tbP p).length,nI (bQ p)]) [(true,.cells true 1 (yja p))])=Cn p:=by kernel_rfl
theorem IW{p:Pl}(hp:uE p)(e0:bQ p=0){H:Heap}{l c n t w i:Nat}(a:gU H p l c n t w i) :
  ae prog 16 [plV p l c n t w i] H [] (Is (.tuple #[.slice (some ⟨H.length,0,some 1⟩) (tbP p).length (tbP p).length,nI 0]) (H ++ [.cells true 1 ((lsD (tbP p)).map dIL)])):=by
 have o:=ip e0
 refine jV (fun j => .tuple #[.slice (some ⟨j,0,some 1⟩) (tbP p).length (tbP p).length,nI 0]) (new:=[.cells true 1 ((lsD (tbP p)).map dIL)]) (Eq.mpr ((congrArg (fun x=>vF prog msk (dm 0) 100000 true 40 true 16 _ _ _ _ (kd _ 3 (.tuple #[_,nI x]) _)) e0.symm).trans (GX p)) ?_) (kY p) rfl ⟨⟨_,_,rfl,eg _ _⟩,trivial⟩ a.1 a.objs rfl (fun j=>rfl) rfl
 have he:=cY o
 have he0:0<=endP p:=by unfold endP;omega
 have hct:=o.cts
 have hch:=o.chan
 have hbd:=o.bd
 have hT:=mF p
 have hl:=hT.gl
 have hN:NT p=Int.toNat (endP p+1):=rfl
 delta Cn yj1 yj5 yj6 yj7 yj8 yj9 yj2 yj0 yj4 yja nI slQ pt ac krq n2q
 refine ⟨?_,fun H' hn h=>nD hp e0 hn rfl (wT h),?_,fun H' hn h=>hn ▸ vt o (mw h),fun r1 _=>⟨?_,fun H' hn h=>hn ▸ FS (by omega) (by omega) (fun k hk=>by rw[hT.rl k (by omega)];omega) (by decide) h.1 h.2.1,?_⟩⟩
 ·repeat' first|exact trivial|refine ⟨rfl,?_⟩
 ·repeat' first|exact trivial|refine ⟨rfl,?_⟩
 ·repeat' first|exact trivial|refine ⟨rfl,?_⟩
 ·repeat' first|exact eg _ _|(exact (by rw[e0];exact ad _))|exact trivial|refine ⟨rfl,?_⟩|apply And.intro
abbrev yk0(R:List (List Int))(t:Int):=R.getD t.toNat []
def Ce(sp:Value)(R:List (List Int))(t c:Int):Prop :=
 ((ixq t R.length)/\(((List.map dIL R)[(0+Int.toNat t*1)]?=some (.iface ((yk0 R t).length+1) (.agg ⟨((yk0 R t).flatMap aq)⟩)))/\(c0q 3 56 [.iface ((yk0 R t).length+1) (.agg ⟨((yk0 R t).flatMap aq)⟩),nI c] (.tuple #[nI ((oG (yk0 R t) c:Nat):Int),.bool (bP (yk0 R t) c)]) ((.bool (bP (yk0 R t) c):Value)=sp))))
theorem GO(sp:Value)(R:List (List Int))(t c:Int):vF prog msk (dm 0) 100000 true 40 true 55 [nI t,nI c,pt 1] (aI [.cells false 0 [nI 4000,nI 8000,nI 14000,nI 24000,nI 40000,nI 90000],.cells true 0 [slQ 2 2 R.length],.cells true 1 (List.map dIL R)]) (some [])
 (.go 2 (.need (.val (.iface ((yk0 R t).length+1) (.agg ⟨((yk0 R t).flatMap aq)⟩)) (.go 0 (.ans [] (.tuple #[nI ((oG (yk0 R t) c:Nat):Int),.bool (bP (yk0 R t) c)]) [] (.auto))))))
 (fun v _ _=>v=sp)=Ce sp R t c:=by kernel_rfl
theorem AW(l:List Int)(n:Int)(hl:l.length<=1000000){H:Heap}:ae prog 19 [dIL l,nI n] H [] (Is (.bool (bP l n)) H):=by
 have k:=zH (new:=[]) (fun _ => .bool (bP l n)) (dW.deep (dW.keep dW.nil)) (by rw[List.append_nil];exact I1 l n hl (H:=H ++ [.cells false 0 (l.flatMap aq)]) (id:=H.length) (own:=false) (z:=0) (by simp)) trivial rfl
 rwa [List.append_nil]at k
theorem AQ{l:List Int}(as_:Asc l)(n:Int)(hl:l.length<=1000000){H:Heap}:ae prog 56 [dIL l,nI n] H [] (Is (.tuple #[nI (oG l n),.bool (bP l n)]) H):=by
 have k:=zH (new:=[]) (fun _ => .tuple #[nI (oG l n),.bool (bP l n)]) (dW.deep (dW.keep dW.nil)) (by rw[List.append_nil];exact Da as_ n hl (H:=H ++ [.cells false 0 (l.flatMap aq)]) (id:=H.length) (own:=false) (z:=0) (by simp)) trivial rfl
 rwa [List.append_nil]at k
theorem v6{R:List (List Int)}{k off:Nat}(h:k<R.length)(ho:off=k):(R.map dIL)[off]?=some (dIL (R.getD k [])):=by
 subst ho
 rw[List.getElem?_map,List.getD_eq_getElem?_getD,List.getElem?_eq_getElem h];rfl
theorem qS{R:List (List Int)}(hR:R.length<=1000000)(hr:∀k,k<R.length->Asc (R.getD k [])/\(R.getD k []).length<=1000000){t c:Int}(ht:0<=t/\t<(R.length:Int)){H:Heap}{B L:Nat}(hnd:[0,B,L].Nodup)(h0:H[0]?=some bF)
  (h1:H[B]?=some (.cells true 0 [slQ L 2 R.length])) (h2:H[L]?=some (.cells true 1 (R.map dIL))) :
  ae prog 55 [nI t,nI c,pt B] H [] (Is (.bool (bP (R.getD (Int.toNat t) []) c)) H):=by
 have i1:ap 3 (.cells true 1 (R.map dIL))=true:=(eU (S:=fun _=>none) (d:=0) (eg 0 R)).2
 have i2:∀S,rno S 3 (.cells true 1 (R.map dIL)) = .cells true 1 (R.map dIL):=fun S=>congrArg (aa.cells true 1) (eU (d:=0) (eg 0 R)).1
 refine jU (os:=[bF,.cells true 0 [slQ 2 2 R.length],.cells true 1 (R.map dIL)]) (ids:=[0,B,L]) (Eq.mpr (GO _ R t c) ?_)
  (by show (ap 3 bF&&(ap 3 (.cells true 0 [slQ 2 2 R.length])&&(ap 3 (.cells true 1 (R.map dIL))&&true)))=true;rw[i1];rfl) rfl rfl (fun _=>rfl) hnd ⟨h0,h1,by rw[i2];exact h2,trivial⟩ rfl rfl
 delta Ce yk0 nI ixq c0q
 have e:=hr (Int.toNat t) (by omega)
 exact ⟨⟨by omega,by omega⟩,v6 (by omega) (by omega),trivial,fun H' hn _=>AQ e.1 c e.2,rfl⟩
def i9(R:List (List Int))(l:List Leg):Bool:=l.all fun x=>bP (R.getD (Int.toNat x.arr) []) x.to
def io(p:Pl)(R:List (List Int))(t c:Int):Bool:=(!(wtB p c t (t+1)) ||bP (R.getD (Int.toNat (t+1)) []) c)&&i9 R (lgP p c t)
def jx(p:Pl)(R:List (List Int))(t k:Nat):Bool:=((R.getD t []).take k).all fun c=>io p R (t:Int) c
def lZ(p:Pl)(R:List (List Int))(t:Nat):Bool:=!bP (R.getD t []) p.to&&((t:Int) == endP p ||jx p R t (R.getD t []).length)
def im(p:Pl)(R:List (List Int))(k:Nat):Bool:=(List.range k).all fun t=>lZ p R t
def bZ(p:Pl)(R:List (List Int)):Bool:=bP (R.getD 0 []) p.frm&&im p R R.length
abbrev yl2(p:Pl)(R:List (List Int))(x3:Nat×ab (sfP p))(x5:Nat×ab (sfP p)):=bsP p ((R.getD x3.1 []).getD x5.1 0)
abbrev yl5(p:Pl)(x3:Nat×ab (sfP p)):Int:=(x3.1:Nat)
abbrev ylr(p:Pl)(R:List (List Int))(x3:Nat×ab (sfP p))(x5:Nat×ab (sfP p))(x51:Nat×ab (sfP p))(x52:Nat×ab (sfP p)):=spL p ((yl2 p R x3 x5).getD x51.1 0) (yl5 p x3) (x52.1+1)
abbrev zq(p:Pl)(R:List (List Int))(x3:Nat×ab (sfP p))(x5:Nat×ab (sfP p)):Prop:=eR (pt 19)/\eR (pt 17)/\eR (.func (.yield 20) #[] #[])/\wR (slQ 21 1 (yl2 p R x3 x5).length)/\eR (nI (((yl2 p R x3 x5).length:Nat):Int))/\True
abbrev yln:Prop:=(krq 22 (.cells true 0 [.bool false]))/\(krq 22 (.cells true 0 [nI 0]))/\True
abbrev jn(R:List (List Int)):Int:=(R.length:Nat)
abbrev yl1(p:Pl)(x5:Nat×ab (sfP p))(R:List (List Int))(x3:Nat×ab (sfP p)):Prop:=(True)/\((qu prog 18 0/\eR (nI ((x5.1:Nat):Int))/\eR (nI (jn R))/\wR (slQ 7 2 R.length)/\eR (pt 14)/\eR (pt 10)/\eR (pt 11)/\eR (pt 12)/\eR (nI (yl5 p x3))/\eR (nI (yl5 p x3))/\(.iface ((R.getD x3.1 []).length+1) (.agg ⟨((R.getD x3.1 []).flatMap aq)⟩):Value)=rn (sg 22 []) 3 (.iface ((R.getD x3.1 []).length+1) (.agg ⟨((R.getD x3.1 []).flatMap aq)⟩):Value)/\eR (nI (((R.getD x3.1 []).length:Nat):Int))/\True)/\True)
abbrev yl8(p:Pl)(x51:Nat×ab (sfP p))(R:List (List Int))(x3:Nat×ab (sfP p))(x5:Nat×ab (sfP p))(r53:ab (sfP p)):=nw (((x51.1:Nat):Int)+1) (∃bM:Nat×ab (sfP p),(bM.1<=List.length (yl2 p R x3 x5)/\i9 R (aO p ((R.getD x3.1 []).getD x5.1 0) (yl5 p x3) bM.1)=true)/\(List.length (yl2 p R x3 x5)-bM.1)<(List.length (yl2 p R x3 x5)-x51.1)/\true=true/\((nI (((x51.1:Nat):Int)+1):Value)=nI ((bM.1:Nat):Int)/\zq p R x3 x5)/\((kbq 22 (.map (knE r53.1)) (.map (knE bM.2.1)))/\yln)/\yl1 p x5 R x3)
abbrev yl3:List Value:=[nI 4000,nI 8000,nI 14000,nI 24000,nI 40000,nI 90000]
abbrev ylt:aa:=.cells false 0 yl3
abbrev yl0(p:Pl):List Value:=[nI p.w,nI p.h,slQ 1 2 p.land.length,slQ 2 2 p.cts.length,slQ 3 2 p.chan.length,nI p.shp.cls,nI p.shp.pow,nI p.shp.dra,nI p.shp.ton,slQ 4 2 p.shp.th.length,slQ 5 2 p.shp.wa.length,slQ 6 2 p.shp.ic.length,nI p.shp.slow,nI p.shp.aB,nI p.shp.rdg,nI p.shp.prs,nI p.size,nI p.frm,nI p.to,nI (endP p),.map (some 13)]
abbrev uI(p:Pl):=ac (.cells true 0 (yl0 p))
abbrev yld(p:Pl):=p.land.flatMap af
abbrev rQ(p:Pl):=ac (.cells true 1 (yld p))
abbrev ylp(p:Pl):=p.cts.flatMap chC
abbrev rR(p:Pl):=ac (.cells false 0 (ylp p))
abbrev ylf(p:Pl):=p.chan.flatMap af
abbrev rP(p:Pl):=ac (.cells true 1 (ylf p))
abbrev ylg(p:Pl):=p.shp.th.flatMap ptC
abbrev rO(p:Pl):=ac (.cells true 2 (ylg p))
abbrev ylh(p:Pl):=p.shp.wa.flatMap ptC
abbrev rN(p:Pl):=ac (.cells true 2 (ylh p))
abbrev yli(p:Pl):=p.shp.ic.flatMap ptC
abbrev rM(p:Pl):=ac (.cells true 2 (yli p))
abbrev ylx:aa:=.cells false 0 yl3
abbrev rK(p:Pl):aa:=.cells true 0 (yl0 p)
abbrev rJ(p:Pl):aa:=.cells true 1 (yld p)
abbrev rL(p:Pl):aa:=.cells false 0 (ylp p)
abbrev rI(p:Pl):aa:=.cells true 1 (ylf p)
abbrev rH(p:Pl):aa:=.cells true 2 (ylg p)
abbrev rG(p:Pl):aa:=.cells true 2 (ylh p)
abbrev rF(p:Pl):aa:=.cells true 2 (yli p)
abbrev ya(R:List (List Int)):aa:=.cells true 0 [slQ 7 2 R.length]
abbrev ylu(p:Pl)(x52:Nat×ab (sfP p)):Int:=(x52.1:Nat)
abbrev yla(p:Pl)(R:List (List Int)):=rn (sg 8 []) 3 (.tuple #[.bool (bZ p R),nI 0]:Value)
abbrev yll(p:Pl)(R:List (List Int)):Prop:=true=true/\wk (.tuple #[.bool false,nI 0]:Value) (yla p R)/\(True)
abbrev yl6(p:Pl)(x3:Nat×ab (sfP p))(x52:Nat×ab (sfP p))(R:List (List Int))(x5:Nat×ab (sfP p))(x51:Nat×ab (sfP p))(r53:ab (sfP p)):=nw (((yl5 p x3)+1+(ylu p x52))+1) (∃bj:Nat×ab (sfP p),((bj.1<=Int.toNat (endP p-(yl5 p x3))/\okL p ((yl2 p R x3 x5).getD x51.1 0) (yl5 p x3) bj.1=true)/\i9 R (aO p ((R.getD x3.1 []).getD x5.1 0) (yl5 p x3) x51.1++bz p ((yl2 p R x3 x5).getD x51.1 0) (yl5 p x3) bj.1)=true)/\(Int.toNat (endP p-(yl5 p x3))-bj.1)<(Int.toNat (endP p-(yl5 p x3))-x52.1)/\true=true/\((nI (((yl5 p x3)+1+(ylu p x52))+1):Value)=nI ((yl5 p x3)+1+((bj.1:Nat):Int))/\(nI (br p ((yl2 p R x3 x5).getD x51.1 0) (yl5 p x3) (x52.1+1)):Value)=nI (br p ((yl2 p R x3 x5).getD x51.1 0) (yl5 p x3) bj.1)/\eR (nI (((yl2 p R x3 x5).length:Nat):Int))/\wR (slQ 21 1 (yl2 p R x3 x5).length)/\eR (.func (.yield 20) #[] #[])/\eR (pt 17)/\eR (pt 19)/\eR (nI ((x51.1:Nat):Int))/\eR (nI ((yl2 p R x3 x5).getD x51.1 0))/\True)/\((kbq 22 (.map (knE r53.1)) (.map (knE bj.2.1)))/\yln)/\yl1 p x5 R x3)
def uA(p:Pl)(R:List (List Int))(x3 x5 x51 x52:Nat×ab (sfP p))(r53:ab (sfP p)):Prop :=
 (fk (decide (((ylr p R x3 x5 x51 x52):Int)<10)) (yl8 p x51 R x3 x5 r53) (((ac ylt)/\(uI p)/\(rQ p)/\(rR p)/\(rP p)/\(rO p)/\(rN p)/\(rM p)/\(ac (.map (knE r53.1)))/\True)/\(∀H':Heap,H'.length=22->(H'[0]?=some ylx/\H'[12]?=some (rK p)/\H'[1]?=some (rJ p)/\H'[2]?=some (rL p)/\H'[3]?=some (rI p)/\H'[4]?=some (rH p)/\H'[5]?=some (rG p)/\H'[6]?=some (rF p)/\H'[13]?=some (.map (knE r53.1):aa)/\True)->ae prog 86 [pt 12,nI (ylr p R x3 x5 x51 x52)] H' [] (Is (nI (tkP p (ylr p R x3 x5 x51 x52))) H'))/\(fk (((tkP p (ylr p R x3 x5 x51 x52)):Int) == (((x52.1+1):Nat):Int)) (c3q 23 0 ylt 9 (ya R) 7 (.cells true 1 (List.map dIL R)) 55 [nI ((yl5 p x3)+1+(ylu p x52)),nI ((yl2 p R x3 x5).getD x51.1 0),pt 9] (.bool (bP (R.getD ((yl5 p x3)+1+(ylu p x52)).toNat []) ((yl2 p R x3 x5).getD x51.1 0))) (fk (!(bP (R.getD ((yl5 p x3)+1+(ylu p x52)).toNat []) ((yl2 p R x3 x5).getD x51.1 0))) (yll p R) (yl6 p x3 x52 R x5 x51 r53))) (yl6 p x3 x52 R x5 x51 r53))))
abbrev ylz(p:Pl)(x51:Nat×ab (sfP p)):Nat×ab (sfP p):=(0,x51.2)
abbrev Cz(p:Pl)(x52:Nat×ab (sfP p))(x3:Nat×ab (sfP p))(R:List (List Int))(x5:Nat×ab (sfP p))(x51:Nat×ab (sfP p)):Prop:=(x52.1<=Int.toNat (endP p-(yl5 p x3))/\okL p ((yl2 p R x3 x5).getD x51.1 0) (yl5 p x3) x52.1=true)/\i9 R (aO p ((R.getD x3.1 []).getD x5.1 0) (yl5 p x3) x51.1++bz p ((yl2 p R x3 x5).getD x51.1 0) (yl5 p x3) x52.1)=true
abbrev ylv(p:Pl)(x52:Nat×ab (sfP p)):=Int.tdiv ((6*p.size)-1) ((((x52.1+1):Nat):Int)-1)
abbrev yl7(R:List (List Int))(p:Pl)(x3:Nat×ab (sfP p)):Prop:=eR (nI (jn R))/\wR (slQ 7 2 R.length)/\eR (pt 14)/\eR (pt 10)/\eR (pt 11)/\eR (pt 12)/\eR (nI (yl5 p x3))/\eR (nI (yl5 p x3))/\(.iface ((R.getD x3.1 []).length+1) (.agg ⟨((R.getD x3.1 []).flatMap aq)⟩):Value)=rn (sg 15 []) 3 (.iface ((R.getD x3.1 []).length+1) (.agg ⟨((R.getD x3.1 []).flatMap aq)⟩):Value)/\(.iface ((R.getD x3.1 []).length+1) (.agg ⟨((R.getD x3.1 []).flatMap aq)⟩):Value)=rn (sg 15 []) 3 (.iface ((R.getD x3.1 []).length+1) (.agg ⟨((R.getD x3.1 []).flatMap aq)⟩):Value)/\eR (nI (((R.getD x3.1 []).length:Nat):Int))/\True
abbrev ylw:=krq 15 (.cells true 0 [.bool false])
abbrev yg:=krq 15 (.cells true 0 [nI 0])
def xL(p:Pl)(R:List (List Int))(x3 x5:Nat×ab (sfP p))(Kx:ab (sfP p)):Prop :=
 (((ac ylt)/\(uI p)/\(rQ p)/\(rR p)/\(rP p)/\(rO p)/\(rN p)/\(rM p)/\(ac (.map (knE Kx.1)))/\True)/\(∀H':Heap,H'.length=21->(H'[0]?=some ylx/\H'[12]?=some (rK p)/\H'[1]?=some (rJ p)/\H'[2]?=some (rL p)/\H'[3]?=some (rI p)/\H'[4]?=some (rH p)/\H'[5]?=some (rG p)/\H'[6]?=some (rF p)/\H'[13]?=some (.map (knE Kx.1):aa)/\True)->ae prog 53 [pt 12,nI ((R.getD x3.1 []).getD x5.1 0)] H' [] (Is (slQ 21 1 (yl2 p R x3 x5).length) (H' ++ [(.cells true 1 ((yl2 p R x3 x5).flatMap aq):aa)])))/\(true=true/\(((0,Kx):Nat×ab (sfP p)).1<=List.length (yl2 p R x3 x5)/\i9 R (aO p ((R.getD x3.1 []).getD x5.1 0) (yl5 p x3) ((0,Kx):Nat×ab (sfP p)).1)=true)/\(true=true/\((nI 0:Value)=nI ((((0,Kx):Nat×ab (sfP p)).1:Nat):Int)/\zq p R x3 x5)/\((kbq 22 (.map (knE Kx.1)) (.map (knE ((0,Kx):Nat×ab (sfP p)).2.1)))/\yln)/\yl1 p x5 R x3)/\(∀x51:Nat×ab (sfP p),true=true)/\∀x51:Nat×ab (sfP p),(x51.1<=List.length (yl2 p R x3 x5)/\i9 R (aO p ((R.getD x3.1 []).getD x5.1 0) (yl5 p x3) x51.1)=true)->(fk (decide ((((x51.1:Nat):Int):Int)<(((yl2 p R x3 x5).length:Nat):Int))) ((ixq ((x51.1:Nat):Int) (yl2 p R x3 x5).length)/\((((yl2 p R x3 x5).flatMap aq)[(0+Int.toNat ((x51.1:Nat):Int)*1)]?=some (nI ((yl2 p R x3 x5).getD x51.1 0)))/\(nw ((yl5 p x3)+1) (true=true/\(((ylz p x51).1<=Int.toNat (endP p-(yl5 p x3))/\okL p ((yl2 p R x3 x5).getD x51.1 0) (yl5 p x3) (ylz p x51).1=true)/\i9 R (aO p ((R.getD x3.1 []).getD x5.1 0) (yl5 p x3) x51.1++bz p ((yl2 p R x3 x5).getD x51.1 0) (yl5 p x3) (ylz p x51).1)=true)/\(true=true/\((nI ((yl5 p x3)+1):Value)=nI ((yl5 p x3)+1+(((ylz p x51).1:Nat):Int))/\(nI 250:Value)=nI (br p ((yl2 p R x3 x5).getD x51.1 0) (yl5 p x3) (ylz p x51).1)/\eR (nI (((yl2 p R x3 x5).length:Nat):Int))/\wR (slQ 21 1 (yl2 p R x3 x5).length)/\eR (.func (.yield 20) #[] #[])/\eR (pt 17)/\eR (pt 19)/\eR (nI ((x51.1:Nat):Int))/\eR (nI ((yl2 p R x3 x5).getD x51.1 0))/\True)/\((kbq 22 (.map (knE x51.2.1)) (.map (knE (ylz p x51).2.1)))/\yln)/\yl1 p x5 R x3)/\(∀x52:Nat×ab (sfP p),true=true)/\∀x52:Nat×ab (sfP p),(Cz p x52 x3 R x5 x51)->(fk (decide ((((yl5 p x3)+1+(ylu p x52)):Int)<=(endP p))) (nw (((yl5 p x3)+1+(ylu p x52))-1) (((ac ylt)/\(uI p)/\(rQ p)/\(rR p)/\(rP p)/\(rO p)/\(rN p)/\(rM p)/\(ac (.map (knE x52.2.1)))/\True)/\(∀H':Heap,H'.length=22->(H'[0]?=some ylx/\H'[12]?=some (rK p)/\H'[1]?=some (rJ p)/\H'[2]?=some (rL p)/\H'[3]?=some (rI p)/\H'[4]?=some (rH p)/\H'[5]?=some (rG p)/\H'[6]?=some (rF p)/\H'[13]?=some (.map (knE x52.2.1):aa)/\True)->ae prog 85 [pt 12,nI ((yl2 p R x3 x5).getD x51.1 0),nI (((yl5 p x3)+1+(ylu p x52))-1)] H' [13] (fun y H2 => ∃z:ab (sfP p),True/\y=nI (sfP p ((yl2 p R x3 x5).getD x51.1 0) (Int.tdiv (((yl5 p x3)+1+(ylu p x52))-1) 6))/\H2=(List.set H' 13 (.map (knE z.1):aa))))/\(∀r53:ab (sfP p),True->(((nI (if ((sfP p ((yl2 p R x3 x5).getD x51.1 0) (Int.tdiv (((yl5 p x3)+1+(ylu p x52))-1) 6)):Int)<(br p ((yl2 p R x3 x5).getD x51.1 0) (yl5 p x3) x52.1) then ((sfP p ((yl2 p R x3 x5).getD x51.1 0) (Int.tdiv (((yl5 p x3)+1+(ylu p x52))-1) 6)):Int) else (br p ((yl2 p R x3 x5).getD x51.1 0) (yl5 p x3) x52.1)):Value)=nI (br p ((yl2 p R x3 x5).getD x51.1 0) (yl5 p x3) (x52.1+1)))/\(fk (decide (((br p ((yl2 p R x3 x5).getD x51.1 0) (yl5 p x3) (x52.1+1)):Int)<10)) (yl8 p x51 R x3 x5 r53) (nw (((yl5 p x3)+1+(ylu p x52))-(yl5 p x3)) (((nI (((yl5 p x3)+1+(ylu p x52))-(yl5 p x3)):Value)=nI (((x52.1+1):Nat):Int))/\(fk (decide ((1:Int)<(((x52.1+1):Nat):Int))) (nw (6*p.size) (nw ((6*p.size)-1) (nw ((((x52.1+1):Nat):Int)-1) (((((((x52.1+1):Nat):Int)-1):Int)≠0)/\(nw (ylv p x52) (((nI (if ((ylv p x52):Int)<(br p ((yl2 p R x3 x5).getD x51.1 0) (yl5 p x3) (x52.1+1)) then ((ylv p x52):Int) else (br p ((yl2 p R x3 x5).getD x51.1 0) (yl5 p x3) (x52.1+1))):Value)=nI (ylr p R x3 x5 x51 x52))/\(uA p R x3 x5 x51 x52 r53))))))) (((nI (br p ((yl2 p R x3 x5).getD x51.1 0) (yl5 p x3) (x52.1+1)):Value)=nI (ylr p R x3 x5 x51 x52))/\(uA p R x3 x5 x51 x52 r53)))))))))) (nw (((x51.1:Nat):Int)+1) (∃bM:Nat×ab (sfP p),(bM.1<=List.length (yl2 p R x3 x5)/\i9 R (aO p ((R.getD x3.1 []).getD x5.1 0) (yl5 p x3) bM.1)=true)/\(List.length (yl2 p R x3 x5)-bM.1)<(List.length (yl2 p R x3 x5)-x51.1)/\true=true/\((nI (((x51.1:Nat):Int)+1):Value)=nI ((bM.1:Nat):Int)/\zq p R x3 x5)/\((kbq 22 (.map (knE x52.2.1)) (.map (knE bM.2.1)))/\yln)/\yl1 p x5 R x3))))))) (nw (((x5.1:Nat):Int)+1) (∃x5':Nat×ab (sfP p),(x5'.1<=List.length (R.getD x3.1 [])/\jx p R x3.1 x5'.1=true)/\(List.length (R.getD x3.1 [])-x5'.1)<(List.length (R.getD x3.1 [])-x5.1)/\true=true/\((nI (((x5.1:Nat):Int)+1):Value)=nI ((x5'.1:Nat):Int)/\yl7 R p x3)/\(ylw/\yg/\(kbq 15 (.map (knE x51.2.1)) (.map (knE x5'.2.1)))/\True)/\(True)/\(True))))))
abbrev ylm(R:List (List Int)):Prop:=wR (slQ 7 2 R.length)/\eR (nI (jn R))/\True
abbrev Fk(R:List (List Int)):Prop:=eR (pt 8)/\eR (pt 9)/\eR (pt 10)/\eR (pt 11)/\eR (pt 12)/\ylm R
abbrev yl9:Prop:=((krq 14 (.cells true 0 [.bool false]))/\(krq 14 (.cells true 0 [nI 0]))/\True)/\(True)/\(True)
abbrev pZ(R:List (List Int))(x1:Nat):Value:=.agg ⟨((R.getD x1 []).flatMap aq)⟩
abbrev yl4(R:List (List Int))(x1:Nat):Prop:=eR (nI (jn R))/\wR (slQ 7 2 R.length)/\eR (pt 12)/\eR (pt 11)/\eR (pt 10)/\eR (pt 9)/\eR (pt 8)/\eR (nI (x1:Int))/\(.iface ((R.getD x1 []).length+1) (pZ R x1):Value)=rn (sg 14 []) 3 (.iface ((R.getD x1 []).length+1) (pZ R x1):Value)/\(.iface ((R.getD x1 []).length+1) (pZ R x1):Value)=rn (sg 14 []) 3 (.iface ((R.getD x1 []).length+1) (pZ R x1):Value)/\eR (nI (((R.getD x1 []).length:Nat):Int))/\True
abbrev ylk(x2:Nat)(R:List (List Int))(x1:Nat):=nw ((x2:Int)+1) (∃x2':Nat,(x2'<=List.length (R.getD x1 []))/\(List.length (R.getD x1 [])-x2')<(List.length (R.getD x1 [])-x2)/\true=true/\((nI ((x2:Int)+1):Value)=nI (x2':Int)/\yl4 R x1)/\yl9)
abbrev ylo(p:Pl):Nat×ab (sfP p):=(0,(ab.nil (sfP p)))
abbrev yls:Hint:=.go 0 (.again [])
abbrev uJ:Nat×aa:=(0,.cells false 0 yl3)
abbrev uK(p:Pl):Nat×aa:=(1,.cells true 1 (yld p))
abbrev yf(p:Pl):Nat×aa:=(2,.cells false 0 (ylp p))
abbrev ye(p:Pl):Nat×aa:=(3,.cells true 1 (ylf p))
abbrev yd(p:Pl):Nat×aa:=(4,.cells true 2 (ylg p))
abbrev yc(p:Pl):Nat×aa:=(5,.cells true 2 (ylh p))
abbrev yb(p:Pl):Nat×aa:=(6,.cells true 2 (yli p))
abbrev ylb(R:List (List Int)):List (Nat×aa):=[uJ,(9,.cells true 0 [slQ 7 2 R.length]),(7,.cells true 1 (List.map dIL R))]
abbrev ylj:Nat×Bool×aa:=(10,true,.cells true 0 [.bool false])
abbrev ylq:Nat×Bool×aa:=(11,true,.cells true 0 [nI 0])
abbrev yle(p:Pl)(x5:Nat×ab (sfP p))(R:List (List Int))(x3:Nat×ab (sfP p)):List (Nat×Value):=[(99,nI ((x5.1:Nat):Int)),(77,nI (jn R)),(76,slQ 7 2 R.length),(12,pt 14),(4,pt 10),(5,pt 11),(6,pt 12),(78,nI (yl5 p x3)),(13,nI (yl5 p x3)),(97,.iface ((R.getD x3.1 []).length+1) (.agg ⟨((R.getD x3.1 []).flatMap aq)⟩)),(98,nI (((R.getD x3.1 []).length:Nat):Int))]
def xS(p:Pl)(R:List (List Int)):Prop :=
 (((ac ylt)/\(rQ p)/\(rR p)/\(rP p)/\(rO p)/\(rN p)/\(rM p)/\True)/\(∀H':Heap,H'.length=12->(H'[0]?=some ylx/\H'[1]?=some (rJ p)/\H'[2]?=some (rL p)/\H'[3]?=some (rI p)/\H'[4]?=some (rH p)/\H'[5]?=some (rG p)/\H'[6]?=some (rF p)/\True)->ae prog 30 [.agg #[nI p.w,nI p.h,slQ 1 2 p.land.length,slQ 2 2 p.cts.length,slQ 3 2 p.chan.length,nI p.shp.cls,nI p.shp.pow,nI p.shp.dra,nI p.shp.ton,slQ 4 2 p.shp.th.length,slQ 5 2 p.shp.wa.length,slQ 6 2 p.shp.ic.length,nI p.shp.slow,nI p.shp.aB,nI p.shp.rdg,nI p.shp.prs,nI p.size,nI p.frm,nI p.to]] H' [] (Is (.tuple #[pt 12,nI 0]) (H' ++ [(rK p),(.map (knE (ab.nil (sfP p)).1):aa)])))/\(nw ((endP p)+1) (fk (((jn R):Int) != ((endP p)+1)) (true=true/\wk (.tuple #[.bool false,nI 1]:Value) (yla p R)/\(True)) (lq (0<=List.length R) (true=true/\((nI 0:Value)=nI ((0:Nat):Int)/\Fk R)/\yl9) (∀x1:Nat,(x1<=List.length R)->(fk (decide (((x1:Int):Int)<(jn R))) ((ixq (x1:Int) R.length)/\(((List.map dIL R)[(0+Int.toNat (x1:Int)*1)]?=some (.iface ((R.getD x1 []).length+1) (pZ R x1)))/\(lq (0<=List.length (R.getD x1 [])) (true=true/\((nI 0:Value)=nI ((0:Nat):Int)/\yl4 R x1)/\yl9) (∀x2:Nat,(x2<=List.length (R.getD x1 []))->(fk (decide (((x2:Int):Int)<(((R.getD x1 []).length:Nat):Int))) ((ixq (x2:Int) (R.getD x1 []).length)/\((((R.getD x1 []).flatMap aq)[(Int.toNat (x2:Int)*1)]?=some (nI ((R.getD x1 []).getD x2 0)))/\(c1q 14 1 (.cells true 1 (yld p)) 43 [.agg #[nI p.w,nI p.h,slQ 1 2 p.land.length],nI ((R.getD x1 []).getD x2 0)] (.bool (dE p.land ((R.getD x1 []).getD x2 0))) (fk (!(dE p.land ((R.getD x1 []).getD x2 0))) (true=true/\wk (.tuple #[.bool false,nI 50]:Value) (yla p R)/\(True)) (fk (decide ((0:Int)<(x2:Int))) (nw ((x2:Int)-1) ((ixq ((x2:Int)-1) (R.getD x1 []).length)/\((((R.getD x1 []).flatMap aq)[(Int.toNat ((x2:Int)-1)*1)]?=some (nI ((R.getD x1 []).getD ((x2:Int)-1).toNat 0)))/\(fk (decide ((((R.getD x1 []).getD x2 0):Int)<=((R.getD x1 []).getD ((x2:Int)-1).toNat 0))) (true=true/\wk (.tuple #[.bool false,nI 50]:Value) (yla p R)/\(True)) (ylk x2 R x1))))) (ylk x2 R x1)))))) (nw ((x1:Int)+1) (∃x1':Nat,(x1'<=List.length R)/\(List.length R-x1')<(List.length R-x1)/\true=true/\((nI ((x1:Int)+1):Value)=nI (x1':Int)/\Fk R)/\yl9))))))) (c3q 15 0 ylt 9 (ya R) 7 (.cells true 1 (List.map dIL R)) 55 [nI 0,nI p.frm,pt 9] (.bool (bP (R.getD (Int.toNat 0) []) p.frm)) (fk (!(bP (R.getD (Int.toNat 0) []) p.frm)) (yll p R) (true=true/\((ylo p).1<=List.length R/\im p R (ylo p).1=true)/\(true=true/\((nI 0:Value)=nI (((ylo p).1:Nat):Int)/\eR (pt 12)/\eR (pt 11)/\eR (pt 10)/\eR (pt 14)/\ylm R)/\(ylw/\yg/\(kbq 15 (.map (knE (ab.nil (sfP p)).1)) (.map (knE (ylo p).2.1)))/\True)/\(True)/\(True))/\(∀x3:Nat×ab (sfP p),true=true)/\∀x3:Nat×ab (sfP p),(x3.1<=List.length R/\im p R x3.1=true)->(fk (decide (((yl5 p x3):Int)<(jn R))) ((ixq (yl5 p x3) R.length)/\(((List.map dIL R)[(0+Int.toNat (yl5 p x3)*1)]?=some (.iface ((R.getD x3.1 []).length+1) (.agg ⟨((R.getD x3.1 []).flatMap aq)⟩)))/\(c3q 15 0 ylt 9 (ya R) 7 (.cells true 1 (List.map dIL R)) 55 [nI (yl5 p x3),nI p.to,pt 9] (.bool (bP (R.getD (yl5 p x3).toNat []) p.to)) (fk (bP (R.getD (yl5 p x3).toNat []) p.to) (yll p R) (fk (((yl5 p x3):Int) == (endP p)) (true=true/\wk (.tuple #[.bool true,nI 0]:Value) (yla p R)/\(True)) (true=true/\(((0,x3.2):Nat×ab (sfP p)).1<=List.length (R.getD x3.1 [])/\jx p R x3.1 ((0,x3.2):Nat×ab (sfP p)).1=true)/\(true=true/\((nI 0:Value)=nI ((((0,x3.2):Nat×ab (sfP p)).1:Nat):Int)/\yl7 R p x3)/\(ylw/\yg/\(kbq 15 (.map (knE x3.2.1)) (.map (knE ((0,x3.2):Nat×ab (sfP p)).2.1)))/\True)/\(True)/\(True))/\(∀x5:Nat×ab (sfP p),true=true)/\∀x5:Nat×ab (sfP p),(x5.1<=List.length (R.getD x3.1 [])/\jx p R x3.1 x5.1=true)->(fk (decide ((((x5.1:Nat):Int):Int)<(((R.getD x3.1 []).length:Nat):Int))) ((ixq ((x5.1:Nat):Int) (R.getD x3.1 []).length)/\((((R.getD x3.1 []).flatMap aq)[(Int.toNat ((x5.1:Nat):Int)*1)]?=some (nI ((R.getD x3.1 []).getD x5.1 0)))/\(nw ((yl5 p x3)+1) (((ac ylt)/\(uI p)/\(rQ p)/\(rR p)/\(rP p)/\(rO p)/\(rN p)/\(rM p)/\(ac (.map (knE x5.2.1)))/\True)/\(∀H':Heap,H'.length=15->(H'[0]?=some ylx/\H'[12]?=some (rK p)/\H'[1]?=some (rJ p)/\H'[2]?=some (rL p)/\H'[3]?=some (rI p)/\H'[4]?=some (rH p)/\H'[5]?=some (rG p)/\H'[6]?=some (rF p)/\H'[13]?=some (.map (knE x5.2.1):aa)/\True)->ae prog 57 [pt 12,nI ((R.getD x3.1 []).getD x5.1 0),nI (yl5 p x3),nI ((yl5 p x3)+1)] H' [13] (fun y H2 => ∃z:ab (sfP p),True/\y = .bool (wtB p ((R.getD x3.1 []).getD x5.1 0) (yl5 p x3) ((yl5 p x3)+1))/\H2=(List.set H' 13 (.map (knE z.1):aa))))/\(∀r6:ab (sfP p),True->(fk (wtB p ((R.getD x3.1 []).getD x5.1 0) (yl5 p x3) ((yl5 p x3)+1)) (nw ((yl5 p x3)+1) (c3q 15 0 ylt 9 (ya R) 7 (.cells true 1 (List.map dIL R)) 55 [nI ((yl5 p x3)+1),nI ((R.getD x3.1 []).getD x5.1 0),pt 9] (.bool (bP (R.getD ((yl5 p x3)+1).toNat []) ((R.getD x3.1 []).getD x5.1 0))) (fk (!(bP (R.getD ((yl5 p x3)+1).toNat []) ((R.getD x3.1 []).getD x5.1 0))) (yll p R) (xL p R x3 x5 r6)))) (xL p R x3 x5 r6))))))) (nw ((yl5 p x3)+1) (∃x3':Nat×ab (sfP p),(x3'.1<=List.length R/\im p R x3'.1=true)/\(List.length R-x3'.1)<(List.length R-x3.1)/\true=true/\((nI ((yl5 p x3)+1):Value)=nI ((x3'.1:Nat):Int)/\eR (pt 12)/\eR (pt 11)/\eR (pt 10)/\eR (pt 14)/\ylm R)/\(ylw/\yg/\(kbq 15 (.map (knE x5.2.1)) (.map (knE x3'.2.1)))/\True)/\(True)/\(True)))))))))) (true=true/\wk (.tuple #[.bool true,nI 0]:Value) (yla p R)/\(True))))))))))))
def Fi(p:Pl)(R:List (List Int))(x3 x5 x51 x52:Nat×ab (sfP p))(r53:ab (sfP p)):Hint :=
 .go 1 (.fork (.go 0 (.slot 73 (nI (((x51.1:Nat):Int)+1)) yls)) (.go 1 (.ans [uJ,(12,.cells true 0 (yl0 p)),(uK p),(yf p),(ye p),(yd p),(yc p),(yb p),(13,.map (knE r53.1))] (nI (tkP p (ylr p R x3 x5 x51 x52))) [] (.go 2 (.aH (.go 5 (.into (some [13,10,11,20]) (.go 6 (.ans (ylb R) (.bool (bP (R.getD ((yl5 p x3)+1+(ylu p x52)).toNat []) ((yl2 p R x3 x5).getD x51.1 0))) [] (.go 0 (.fork (.go 4 (.keep (.again []))) (.go 4 (.slot 28 (nI (((yl5 p x3)+1+(ylu p x52))+1)) yls)))))))) (.go 3 (.slot 28 (nI (((yl5 p x3)+1+(ylu p x52))+1)) yls)))))))
def Fj(p:Pl)(R:List (List Int))(x3 x5:Nat×ab (sfP p))(Kx:ab (sfP p)):Hint :=
 .go 9 (.into (some [10,11,13,15,16,17,18,19]) (.go 1 (.ans [uJ,(12,.cells true 0 (yl0 p)),(uK p),(yf p),(ye p),(yd p),(yc p),(yb p),(13,.map (knE Kx.1))] (slQ 21 1 (yl2 p R x3 x5).length) [.cells true 1 ((yl2 p R x3 x5).flatMap aq)] (.go 1 (.inv 3 (Nat×ab (sfP p)) (((0,Kx):Nat×ab (sfP p))) [] [13,10,11,20] (fun x51=>[(15,nI ((x51.1:Nat):Int)),(3,pt 19),(1,pt 17),(0,.func (.yield 20) #[] #[]),(13,slQ 21 1 (yl2 p R x3 x5).length),(14,nI (((yl2 p R x3 x5).length:Nat):Int))]) (fun x51=>[(13,true,.map (knE x51.2.1)),ylj,ylq]) (fun x51=>[]) (fun x51=>[(20,(yle p x5 R x3))]) (fun x51=>(x51.1<=List.length (yl2 p R x3 x5)/\i9 R (aO p ((R.getD x3.1 []).getD x5.1 0) (yl5 p x3) x51.1)=true)) (fun x51=>(List.length (yl2 p R x3 x5)-x51.1)) (fun x51 => .go 0 (.fork (.need (.val (nI ((yl2 p R x3 x5).getD x51.1 0)) (.go 3 (.slot 20 (nI ((yl5 p x3)+1)) (.go 0 (.inv 3 (Nat×ab (sfP p)) ((ylz p x51)) [] [13,10,11,20] (fun x52=>[(8,nI ((yl5 p x3)+1+(ylu p x52))),(7,nI (br p ((yl2 p R x3 x5).getD x51.1 0) (yl5 p x3) x52.1)),(14,nI (((yl2 p R x3 x5).length:Nat):Int)),(13,slQ 21 1 (yl2 p R x3 x5).length),(0,.func (.yield 20) #[] #[]),(1,pt 17),(3,pt 19),(15,nI ((x51.1:Nat):Int)),(6,nI ((yl2 p R x3 x5).getD x51.1 0))]) (fun x52=>[(13,true,.map (knE x52.2.1)),ylj,ylq]) (fun x52=>[]) (fun x52=>[(20,(yle p x5 R x3))]) (fun x52=>(Cz p x52 x3 R x5 x51)) (fun x52=>(Int.toNat (endP p-(yl5 p x3))-x52.1)) (fun x52 => .go 5 (.fork (.go 4 (.slot 33 (nI (((yl5 p x3)+1+(ylu p x52))-1)) (.cx [uJ,(12,.cells true 0 (yl0 p)),(uK p),(yf p),(ye p),(yd p),(yc p),(yb p),(13,.map (knE x52.2.1))] [13] (ab (sfP p)) (fun r53=>True) (fun r53=>nI (sfP p ((yl2 p R x3 x5).getD x51.1 0) (Int.tdiv (((yl5 p x3)+1+(ylu p x52))-1) 6))) (fun r53=>[(13,.map (knE r53.1))]) (fun r53=>[]) (fun r53 => .go 1 (.slot 7 (nI (br p ((yl2 p R x3 x5).getD x51.1 0) (yl5 p x3) (x52.1+1))) (.go 1 (.fork (.go 0 (.slot 73 (nI (((x51.1:Nat):Int)+1)) yls)) (.go 3 (.slot 41 (nI (((yl5 p x3)+1+(ylu p x52))-(yl5 p x3))) (.go 1 (.slot 10 (nI (((x52.1+1):Nat):Int)) (.go 1 (.fork (.go 6 (.slot 50 (nI (6*p.size)) (.go 0 (.slot 51 (nI ((6*p.size)-1)) (.go 1 (.slot 53 (nI ((((x52.1+1):Nat):Int)-1)) (.need (.slot 54 (nI (ylv p x52)) (.go 1 (.slot 9 (nI (ylr p R x3 x5 x51 x52)) ((Fi p R x3 x5 x51 x52 r53)))))))))))) (.slot 9 (nI (ylr p R x3 x5 x51 x52)) ((Fi p R x3 x5 x51 x52 r53)))))))))))))))) (.go 0 (.slot 73 (nI (((x51.1:Nat):Int)+1)) yls)))))))))) (.keep (.go 0 (.slot 129 (nI (((x5.1:Nat):Int)+1)) yls))))))))))
abbrev ylc(p:Pl)(R:List (List Int)):=aI [.cells false 0 yl3,.cells true 1 (yld p),.cells false 0 (ylp p),.cells true 1 (ylf p),.cells true 2 (ylg p),.cells true 2 (ylh p),.cells true 2 (yli p),.cells true 1 (List.map dIL R)]
abbrev yly:Hint:=.go 1 (.again [])
theorem En(p:Pl)(R:List (List Int)):vF prog msk (dm 0) 100000 true 40 true 18 [.agg #[nI p.w,nI p.h,slQ 1 2 p.land.length,slQ 2 2 p.cts.length,slQ 3 2 p.chan.length,nI p.shp.cls,nI p.shp.pow,nI p.shp.dra,nI p.shp.ton,slQ 4 2 p.shp.th.length,slQ 5 2 p.shp.wa.length,slQ 6 2 p.shp.ic.length,nI p.shp.slow,nI p.shp.aB,nI p.shp.rdg,nI p.shp.prs,nI p.size,nI p.frm,nI p.to],slQ 7 2 R.length] (ylc p R) (some [])
 (.go 4 (.ans [uJ,(uK p),(yf p),(ye p),(yd p),(yc p),(yb p)] (.tuple #[pt 12,nI 0]) [.cells true 0 (yl0 p),.map (knE (ab.nil (sfP p)).1)] (.go 14 (.slot 32 (nI ((endP p)+1)) (.go 0 (.fork yly (.go 2 (.inv 3 (Nat) (0) [] [10,11] (fun x1=>[(36,nI (x1:Int)),(2,pt 8),(3,pt 9),(4,pt 10),(5,pt 11),(6,pt 12),(34,slQ 7 2 R.length),(35,nI (jn R))]) (fun x1=>[ylj,ylq]) (fun x1=>[]) (fun x1=>[]) (fun x1=>(x1<=List.length R)) (fun x1=>(List.length R-x1)) (fun x1 => .go 0 (.fork (.need (.val (.iface ((R.getD x1 []).length+1) (pZ R x1)) (.go 3 (.inv 3 (Nat) (0) [] [10,11] (fun x2=>[(42,nI (x2:Int)),(35,nI (jn R)),(34,slQ 7 2 R.length),(6,pt 12),(5,pt 11),(4,pt 10),(3,pt 9),(2,pt 8),(36,nI (x1:Int)),(9,.iface ((R.getD x1 []).length+1) (pZ R x1)),(40,.iface ((R.getD x1 []).length+1) (pZ R x1)),(41,nI (((R.getD x1 []).length:Nat):Int))]) (fun x2=>[ylj,ylq]) (fun x2=>[]) (fun x2=>[]) (fun x2=>(x2<=List.length (R.getD x1 []))) (fun x2=>(List.length (R.getD x1 [])-x2)) (fun x2 => .go 0 (.fork (.go 0 (.need (.val (nI ((R.getD x1 []).getD x2 0)) (.go 4 (.ans [(uK p)] (.bool (dE p.land ((R.getD x1 []).getD x2 0))) [] (.go 1 (.aH (.go 3 (.again [])) (.go 2 (.aH (.go 2 (.slot 58 (nI ((x2:Int)-1)) (.need (.val (nI ((R.getD x1 []).getD ((x2:Int)-1).toNat 0)) (.go 3 (.fork yly (.go 0 (.slot 65 (nI ((x2:Int)+1)) yls)))))))) (.go 3 (.slot 65 (nI ((x2:Int)+1)) yls))))))))))) (.go 0 (.slot 66 (nI ((x1:Int)+1)) yls)))))))) (.go 8 (.ans (ylb R) (.bool (bP (R.getD (Int.toNat 0) []) p.frm)) [] (.go 0 (.fork yly (.go 2 (.inv 3 (Nat×ab (sfP p)) ((ylo p)) [] [10,11,13] (fun x3=>[(78,nI (yl5 p x3)),(6,pt 12),(5,pt 11),(4,pt 10),(12,pt 14),(76,slQ 7 2 R.length),(77,nI (jn R))]) (fun x3=>[ylj,ylq,(13,true,.map (knE x3.2.1))]) (fun x3=>[]) (fun x3=>[]) (fun x3=>(x3.1<=List.length R/\im p R x3.1=true)) (fun x3=>(List.length R-x3.1)) (fun x3 => .go 0 (.fork (.go 0 (.need (.val (.iface ((R.getD x3.1 []).length+1) (.agg ⟨((R.getD x3.1 []).flatMap aq)⟩)) (.go 8 (.ans (ylb R) (.bool (bP (R.getD (yl5 p x3).toNat []) p.to)) [] (.fork yly (.go 5 (.fork yly (.go 2 (.inv 3 (Nat×ab (sfP p)) (((0,x3.2):Nat×ab (sfP p))) [] [10,11,13] (fun x5=>[(99,nI ((x5.1:Nat):Int)),(77,nI (jn R)),(76,slQ 7 2 R.length),(12,pt 14),(4,pt 10),(5,pt 11),(6,pt 12),(78,nI (yl5 p x3)),(13,nI (yl5 p x3)),(14,.iface ((R.getD x3.1 []).length+1) (.agg ⟨((R.getD x3.1 []).flatMap aq)⟩)),(97,.iface ((R.getD x3.1 []).length+1) (.agg ⟨((R.getD x3.1 []).flatMap aq)⟩)),(98,nI (((R.getD x3.1 []).length:Nat):Int))]) (fun x5=>[ylj,ylq,(13,true,.map (knE x5.2.1))]) (fun x5=>[]) (fun x5=>[]) (fun x5=>(x5.1<=List.length (R.getD x3.1 [])/\jx p R x3.1 x5.1=true)) (fun x5=>(List.length (R.getD x3.1 [])-x5.1)) (fun x5 => .go 0 (.fork (.need (.val (nI ((R.getD x3.1 []).getD x5.1 0)) (.go 5 (.slot 107 (nI ((yl5 p x3)+1)) (.cx [uJ,(12,.cells true 0 (yl0 p)),(uK p),(yf p),(ye p),(yd p),(yc p),(yb p),(13,.map (knE x5.2.1))] [13] (ab (sfP p)) (fun r6=>True) (fun r6 => .bool (wtB p ((R.getD x3.1 []).getD x5.1 0) (yl5 p x3) ((yl5 p x3)+1))) (fun r6=>[(13,.map (knE r6.1))]) (fun r6=>[]) (fun r6 => .go 0 (.aH (.go 2 (.slot 112 (nI ((yl5 p x3)+1)) (.go 0 (.ans (ylb R) (.bool (bP (R.getD ((yl5 p x3)+1).toNat []) ((R.getD x3.1 []).getD x5.1 0))) [] (.go 1 (.fork yly (.fam [] 0 0 [1,1] [] ((Fj p R x3 x5 r6))))))))) (.go 1 (.fam [] 0 0 [1,1] [] ((Fj p R x3 x5 r6))))))))))) (.go 0 (.slot 130 (nI ((yl5 p x3)+1)) yls)))))))))))))) yly))))))))))))))))))
 (kd ((ylc p R):HT).n 3 (.tuple #[.bool (bZ p R),nI 0]) [])=xS p R:=by kernel_rfl
structure ez(p:Pl)(R:List (List Int)):Prop where
 n:R.length=NT p
 asc:∀k,k<R.length->Asc (R.getD k [])
 sea:∀k,k<R.length->∀c∈R.getD k [],dE p.land c=true
 len:∀k,k<R.length->(R.getD k []).length<=1000000
theorem yB(R:List (List Int))(l:List Leg)(x:Leg):i9 R (l ++ [x])=(i9 R l&&bP (R.getD (Int.toNat x.arr) []) x.to):=by
 unfold i9;rw[List.all_append];simp
theorem CS{p:Pl}(o:bA p){R:List (List Int)}(ok:ez p R){c:Int}(hc:0<=c/\c<(p.land.length:Int)){x3 x5 x51 x52:Nat×ab (sfP p)}{r53:ab (sfP p)}(ec:(R.getD x3.1 []).getD x5.1 0=c)(ht:(x3.1:Int)<=endP p)(h1:x51.1<(bsP p c).length)(h2:x52.1<Int.toNat (endP p-(x3.1:Int)))
  (hk:okL p ((bsP p c).getD x51.1 0) (x3.1:Int) x52.1=true) (hv:i9 R (aO p c (x3.1:Int) x51.1++bz p ((bsP p c).getD x51.1 0) (x3.1:Int) x52.1)=true) (hl:¬ br p ((bsP p c).getD x51.1 0) (x3.1:Int) (x52.1+1)<10)
  (hF:∀x∈lgP p c (x3.1:Int),bP (R.getD (Int.toNat x.arr) []) x.to=false->bZ p R=false):uA p R x3 x5 x51 x52 r53:=by
 have he:=cY o
 have hb:=eN p c
 have hN:R.length=Int.toNat (endP p+1):=ok.n
 have hs:=ki p ((bsP p c).getD x51.1 0) (x3.1:Int) (x52.1+1)
 have hp:=qf p ((bsP p c).getD x51.1 0) (x3.1:Int) (x52.1+1)
 delta uA ylr yl8 ylt uI rQ rR rP rO rN rM ylx rK rJ rL rI rH rG rF ya yl5 ylu yl2 yll yl6 yln yl1 jn yla yli ylh ylg ylf ylp yld yl0 yl3 zq nI slQ pt ac fk nw eR wR krq kbq c3q
 rw[ec]
 refine ⟨fun k=>⟨ag (by omega),(x51.1+1,r53),⟨by show x51.1+1<=_;omega,?_⟩,by show _-(x51.1+1)<_;omega,rfl,?_⟩,fun k =>?_⟩
 ·rw[show aO p c (x3.1:Int) (x51.1+1)=_ from cC h1 (Nat.le_of_lt h2) (.inr (qY (aR k)))];exact hv
 ·repeat' first|exact (dP _ _ _).symm|exact knB _ _|exact trivial|exact rfl|exact ad _|refine ⟨rfl,?_⟩|refine ⟨trivial,?_⟩|apply And.intro
 ·have hk2:okL p ((bsP p c).getD x51.1 0) (x3.1:Int) (x52.1+1)=true:=by rw[ka,hk,mf hl (aV k)];rfl
  have hsp:=aV k
  refine ⟨?_,fun H' hn h=>qP o (by omega) (rX (by decide) h),fun q =>?_,fun q =>?_⟩
  ·repeat' first|exact trivial|refine ⟨rfl,?_⟩
  ·have yes:dp p ((bsP p c).getD x51.1 0) (x3.1:Int) x52.1=[⟨(bsP p c).getD x51.1 0,(x3.1:Int),spL p ((bsP p c).getD x51.1 0) (x3.1:Int) (x52.1+1),(x3.1:Int)+1+(x52.1:Int)⟩]:=by
    unfold dp;rw[hk2,q];rfl
   have mem:(⟨(bsP p c).getD x51.1 0,(x3.1:Int),spL p ((bsP p c).getD x51.1 0) (x3.1:Int) (x52.1+1),(x3.1:Int)+1+(x52.1:Int)⟩:Leg)∈lgP p c (x3.1:Int) :=
    List.mem_flatMap.2 ⟨_,cQ h1,List.mem_flatMap.2 ⟨x52.1,List.mem_range.2 h2,by rw[yes];exact List.mem_singleton.2 rfl⟩⟩
   refine ⟨?_,fun H' hn h=>qS (by omega) (fun k hk=>⟨ok.asc k hk,ok.len k hk⟩) ⟨by omega,by omega⟩ (by decide) h.1 h.2.1 h.2.2.1,fun g =>?_,fun g =>?_⟩
   ·repeat' first|exact trivial|refine ⟨rfl,?_⟩
   ·rw[hF _ mem (by simpa using g)];exact ⟨rfl,ad _,trivial⟩
   ·refine ⟨ag (by omega),(x52.1+1,r53),⟨⟨by show x52.1+1<=_;omega,hk2⟩,?_⟩,by show _-(x52.1+1)<_;omega,rfl,?_⟩
    ·rw[de,<- List.append_assoc,yes,yB,hv]
     simpa using g
    ·repeat' first|exact (dP _ _ _).symm|exact knB _ _|exact trivial|exact rfl|exact ad _|refine ⟨rfl,?_⟩|refine ⟨trivial,?_⟩|apply And.intro
  ·refine ⟨ag (by omega),(x52.1+1,r53),⟨⟨by show x52.1+1<=_;omega,hk2⟩,?_⟩,by show _-(x52.1+1)<_;omega,rfl,?_⟩
   ·rw[de,show dp p ((bsP p c).getD x51.1 0) (x3.1:Int) x52.1=[] by unfold dp;rw[hk2,q];rfl,List.append_nil];exact hv
   ·repeat' first|exact (dP _ _ _).symm|exact knB _ _|exact trivial|exact rfl|exact ad _|refine ⟨rfl,?_⟩|refine ⟨trivial,?_⟩|apply And.intro
theorem yC{p:Pl}{R:List (List Int)}{t k:Nat}(h:k<(R.getD t []).length):jx p R t (k+1)=(jx p R t k&&io p R (t:Int) ((R.getD t []).getD k 0)):=by
 unfold jx
 rw[List.take_succ_eq_append_getElem h,List.all_append,List.getD_eq_getElem?_getD (i:=k),List.getElem?_eq_getElem h];simp
theorem wP{p:Pl}(o:bA p){R:List (List Int)}(ok:ez p R){c:Int}(hc:0<=c/\c<(p.land.length:Int)){x3 x5:Nat×ab (sfP p)}{Kx:ab (sfP p)}(ec:(R.getD x3.1 []).getD x5.1 0=c)(ht:(x3.1:Int)<endP p)(h5:x5.1<(R.getD x3.1 []).length)
  (hpre:jx p R x3.1 x5.1=true) (hw:(!(wtB p c (x3.1:Int) ((x3.1:Int)+1)) ||bP (R.getD (Int.toNat ((x3.1:Int)+1)) []) c)=true)
  (hF:∀x∈lgP p c (x3.1:Int),bP (R.getD (Int.toNat x.arr) []) x.to=false->bZ p R=false):xL p R x3 x5 Kx:=by
 have he:=cY o
 have hb:=eN p c
 have hN:R.length=Int.toNat (endP p+1):=ok.n
 have hlr:=ok.len x3.1 (by omega)
 delta xL ylt uI rQ rR rP rO rN rM ylx rK rJ rL rI rH rG rF yl2 yl5 zq yln yl1 ylz Cz ylu yl8 ylv ylr yl7 ylw yg jn yli ylh ylg ylf ylp yld yl0 yl3 nI slQ pt ac fk nw eR wR krq kbq ixq
 rw[ec]
 refine ⟨?_,fun H' hn h=>hn ▸ kq o hc (rX (by decide) h),rfl,⟨Nat.zero_le _,rfl⟩,⟨rfl,?_⟩,fun _=>rfl,fun x51 HC=>⟨fun q1 =>?_,fun q1 =>?_⟩⟩
 ·repeat' first|exact trivial|refine ⟨rfl,?_⟩
 ·repeat' first|exact (dP _ _ _).symm|exact knB _ _|exact trivial|exact rfl|exact ad _|refine ⟨rfl,?_⟩|refine ⟨trivial,?_⟩|apply And.intro
 ·have hx:=aR q1
  have hx':x51.1<(bsP p c).length:=by omega
  refine ⟨by omega,cJ hx' (by omega),ag (by omega),rfl,⟨⟨Nat.zero_le _,rfl⟩,?_⟩,⟨rfl,?_⟩,fun _=>rfl,fun x52 A8=>⟨fun q2 =>?_,fun q2 =>?_⟩⟩
  ·rw[show aO p c (x3.1:Int) x51.1++bz p ((bsP p c).getD x51.1 0) (x3.1:Int) 0=aO p c (x3.1:Int) x51.1 from List.append_nil _];exact HC.2
  ·repeat' first|exact (dP _ _ _).symm|exact knB _ _|exact trivial|exact rfl|exact ad _|refine ⟨rfl,?_⟩|refine ⟨trivial,?_⟩|apply And.intro
  ·have hq:=aR q2
   have jI:x52.1<Int.toNat (endP p-(x3.1:Int)):=by omega
   have e1:Int.tdiv ((x3.1:Int)+1+(x52.1:Int)-1) 6=Int.tdiv ((x3.1:Int)+(x52.1:Int)) 6:=by congr 1;omega
   refine ⟨ag (by omega),?_,fun H' hn h=>tj o (lT o hc hx') (by omega) (rX (by decide) h),fun r3 _=>⟨?_,fun q3 =>?_,fun q3 =>?_⟩⟩
   ·repeat' first|exact trivial|refine ⟨rfl,?_⟩
   ·rw[kh e1]
   ·refine ⟨ag (by omega),(x51.1+1,r3),⟨by show x51.1+1<=_;omega,?_⟩,by show _-(x51.1+1)<_;omega,rfl,?_⟩
    ·rw[show aO p c (x3.1:Int) (x51.1+1)=_ from cC hx' (Nat.le_of_lt jI) (.inr (mj (aR q3)))];exact A8.2
    ·repeat' first|exact (dP _ _ _).symm|exact knB _ _|exact trivial|exact rfl|exact ad _|refine ⟨rfl,?_⟩|refine ⟨trivial,?_⟩|apply And.intro
   ·have tl:uA p R x3 x5 x51 x52 r3:=CS o ok hc ec (by omega) hx' jI A8.1.2 A8.2 (aV q3) hF
    have hz:=o.size
    refine ⟨ag (by omega),iEq (by omega),fun q4 =>?_,fun q4 =>?_⟩
    ·have h4:=aR q4
     have hdiv:0<=Int.tdiv (6*p.size-1) (((x52.1+1:Nat):Int)-1)/\Int.tdiv (6*p.size-1) (((x52.1+1:Nat):Int)-1)<=3000:=by
      rw[Int.tdiv_eq_ediv_of_nonneg (by omega)]
      exact ⟨Int.ediv_nonneg (by omega) (by omega),Int.le_trans (Int.ediv_le_self _ (by omega)) (by omega)⟩
     refine ⟨ag (by omega),ag (by omega),ag (by omega),by omega,ag (by omega),?_,tl⟩
     have h5:1<x52.1+1:=by omega
     unfold spL;rw[if_pos h5]
    ·refine ⟨?_,tl⟩
     have h5:¬ 1<x52.1+1:=by have:=aV q4;omega
     unfold spL;rw[if_neg h5]
  ·have hq:=aV q2
   refine ⟨ag (by omega),(x51.1+1,x52.2),⟨by show x51.1+1<=_;omega,?_⟩,by show _-(x51.1+1)<_;omega,rfl,?_⟩
   ·rw[show aO p c (x3.1:Int) (x51.1+1)=_ from cC hx' A8.1.1 (.inl (by omega))];exact A8.2
   ·repeat' first|exact (dP _ _ _).symm|exact knB _ _|exact trivial|exact rfl|exact ad _|refine ⟨rfl,?_⟩|refine ⟨trivial,?_⟩|apply And.intro
 ·have hq:=aV q1
  have h6:=HC.2
  rw[fF (by omega)]at h6
  refine ⟨ag (by omega),(x5.1+1,x51.2),⟨by show x5.1+1<=_;omega,?_⟩,by show _-(x5.1+1)<_;omega,rfl,?_⟩
  ·show jx p R x3.1 (x5.1+1)=true
   rw[yC h5,hpre,ec]
   unfold io
   rw[hw,h6];rfl
  ·repeat' first|exact (dP _ _ _).symm|exact knB _ _|exact trivial|exact rfl|exact ad _|refine ⟨rfl,?_⟩|refine ⟨trivial,?_⟩|apply And.intro
theorem CU{p:Pl}{R:List (List Int)}{t k:Nat}(h:k<(R.getD t []).length)(hk:io p R (t:Int) ((R.getD t []).getD k 0)=false):jx p R t (R.getD t []).length=false:=by
 unfold jx
 rw[List.take_length,List.all_eq_false]
 exact ⟨_,cQ h,by rw[hk];decide⟩
theorem CT{p:Pl}{R:List (List Int)}{t:Nat}(ht:(t:Int)≠endP p)(h:jx p R t (R.getD t []).length=false):lZ p R t=false:=by
 unfold lZ;rw[h,beq_false_of_ne ht];simp
theorem sO{p:Pl}{R:List (List Int)}{t:Nat}(ht:t<R.length)(h:lZ p R t=false):bZ p R=false:=by
 unfold bZ
 rw[show im p R R.length=false from ?_,Bool.and_false]
 unfold im
 rw[List.all_eq_false]
 exact ⟨t,List.mem_range.2 ht,by rw[h];decide⟩
theorem mT(p:Pl)(R:List (List Int))(k:Nat):im p R (k+1)=(im p R k&&lZ p R k):=by
 unfold im;rw[List.range_succ,List.all_append];simp
theorem xe{p:Pl}(hp:uE p)(e0:bQ p=0){R:List (List Int)}(ok:ez p R){H:Heap}{l c n t w i L:Nat}(a:gU H p l c n t w i)(hnd:[0,l,c,n,t,w,i,L].Nodup)(h1:H[L]?=some (.cells true 1 (R.map dIL))) :
  ae prog 18 [plV p l c n t w i,slQ L 2 R.length] H [] (Is (.tuple #[.bool (bZ p R),nI 0]) H):=by
 have o:=ip e0
 have i1:ap 3 (.cells true 1 (R.map dIL))=true:=(eU (S:=fun _=>none) (d:=0) (eg 0 R)).2
 have i2:∀S,rno S 3 (.cells true 1 (R.map dIL)) = .cells true 1 (R.map dIL):=fun S=>congrArg (aa.cells true 1) (eU (d:=0) (eg 0 R)).1
 have hi:dL H (sgI [0,l,c,n,t,w,i,L]) [0,l,c,n,t,w,i,L] (pOs p ++ [.cells true 1 (R.map dIL)]):=by
  obtain ⟨_,a0,a1,a2,a3,a4,a5,a6⟩:=a
  exact ⟨a0,by rw[fp];exact a1,by rw[uk];exact a2,by rw[fp];exact a3,by rw[eD];exact a4,by rw[eD];exact a5,by rw[eD];exact a6,by rw[i2];exact h1,trivial⟩
 have key:=jV (fun _ => .tuple #[.bool (bZ p R),nI 0]) (new:=[]) (os:=pOs p ++ [.cells true 1 (R.map dIL)]) (Eq.mpr (En p R) ?_) (by rw[List.all_append,kY];show (true&&(ap 3 (.cells true 1 (R.map dIL))&&true))=true;rw[i1];rfl) rfl trivial hnd hi rfl (fun _=>rfl) (args':=[plV p l c n t w i,slQ L 2 R.length]) rfl
 ·rw[List.append_nil]at key;exact key
 have he:=cY o
 have he0:0<=endP p:=by unfold endP;have:=o.cts;omega
 have hbd:=o.bd
 have hN:R.length=Int.toNat (endP p+1):=ok.n
 have hA:∀k,k<R.length->Asc (R.getD k [])/\(R.getD k []).length<=1000000:=fun k hk=>⟨ok.asc k hk,ok.len k hk⟩
 delta xS ylt rQ rR rP rO rN rM ylx rJ rL rI rH rG rF rK jn yla Fk yl9 pZ yl4 yld ylk ya yll ylo ylm ylw yg yl5 yl7 uI yls uJ yl0 uK yf ye yd yc yb ylr ylb ylu yl2 ylj ylq yle ylz Cz ylv yli ylh ylg ylf ylp yl3 nI slQ pt ac fk nw eR wR krq kbq ixq lq c1q c3q
 refine ⟨?_,fun H' hn h=>nD hp e0 hn rfl (wT h),ag (by omega),fun q =>?_,fun q=>⟨rfl,Nat.zero_le _,⟨rfl,?_⟩,fun _=>rfl,fun x1 hx1=>cu (fun g1 =>?_) (fun g1 =>?_)⟩⟩
 ·repeat' first|exact trivial|refine ⟨rfl,?_⟩
 ·exfalso
  rw[bne_iff_ne]at q
  exact q (by omega)
 ·repeat' first|exact trivial|exact rfl|exact ad _|refine ⟨rfl,?_⟩|refine ⟨trivial,?_⟩|apply And.intro
 ·have DA:x1<R.length:=by omega
  have hl1:=ok.len x1 DA
  refine ⟨⟨by omega,by omega⟩,v6 DA (by omega),rfl,Nat.zero_le _,⟨rfl,?_⟩,fun _=>rfl,fun x2 hx2=>cu (fun g2 =>?_) (fun g2 =>?_)⟩
  ·repeat' first|exact (dP _ _ _).symm|exact trivial|exact rfl|exact ad _|refine ⟨rfl,?_⟩|refine ⟨trivial,?_⟩|apply And.intro
  ·have jI:x2<(R.getD x1 []).length:=by omega
   have se:=ok.sea x1 DA _ (cQ (d:=0) jI)
   refine ⟨⟨by omega,by omega⟩,cJ jI (by omega),⟨rfl,trivial⟩,fun H' hn h=>kIs _ _ _ _ (by omega) h.1,fun q =>?_,fun _=>⟨fun q =>?_,fun q =>?_⟩⟩
   ·rw[se]at q;cases q
   ·have hq:=aR q
    refine ⟨ag (by omega),⟨by omega,by omega⟩,cJ (by omega) (by omega),cu (fun r =>?_) (fun r =>?_)⟩
    ·exfalso
     have:=ok.asc x1 DA (Int.toNat ((x2:Int)-1)) x2 (by omega) jI
     omega
    ·refine ⟨ag (by omega),x2+1,by omega,by omega,rfl,?_⟩
     repeat' first|exact (dP _ _ _).symm|exact trivial|exact rfl|exact ad _|refine ⟨rfl,?_⟩|refine ⟨trivial,?_⟩|apply And.intro
   ·refine ⟨ag (by omega),x2+1,by omega,by omega,rfl,?_⟩
    repeat' first|exact (dP _ _ _).symm|exact trivial|exact rfl|exact ad _|refine ⟨rfl,?_⟩|refine ⟨trivial,?_⟩|apply And.intro
  ·refine ⟨ag (by omega),x1+1,by omega,by omega,rfl,?_⟩
   repeat' first|exact trivial|exact rfl|exact ad _|refine ⟨rfl,?_⟩|refine ⟨trivial,?_⟩|apply And.intro
 ·refine ⟨?_,fun H' hn h=>qS (by omega) hA ⟨by omega,by omega⟩ (by decide) h.1 h.2.1 h.2.2.1,fun q =>?_,fun q =>?_⟩
  ·repeat' first|exact trivial|refine ⟨rfl,?_⟩
  ·have e:bZ p R=false:=by unfold bZ;rw[show bP (R.getD 0 []) p.frm=false by simpa using q];rfl
   rw[e];exact ⟨rfl,ad _,trivial⟩
  ·have hfr:bP (R.getD 0 []) p.frm=true:=by simpa using q
   refine ⟨rfl,⟨Nat.zero_le _,rfl⟩,⟨rfl,?_⟩,fun _=>rfl,fun x3 hx3=>cu (fun g3 =>?_) (fun g3 =>?_)⟩
   ·repeat' first|exact knB _ _|exact trivial|exact rfl|exact ad _|refine ⟨rfl,?_⟩|refine ⟨trivial,?_⟩|apply And.intro
   ·have Ba:x3.1<R.length:=by omega
    have hl3:=ok.len x3.1 Ba
    refine ⟨⟨by omega,by omega⟩,v6 Ba (by omega),?_,fun H' hn h=>qS (by omega) hA ⟨by omega,by omega⟩ (by decide) h.1 h.2.1 h.2.2.1,fun r =>?_,fun r=>⟨fun s =>?_,fun s =>?_⟩⟩
    ·repeat' first|exact trivial|refine ⟨rfl,?_⟩
    ·have r':bP (R.getD x3.1 []) p.to=true:=r
     have e:bZ p R=false:=sO Ba (by unfold lZ;rw[r'];rfl)
     rw[e];exact ⟨rfl,ad _,trivial⟩
    ·have r':bP (R.getD x3.1 []) p.to=false:=r
     have e:bZ p R=true:=by
      unfold bZ
      rw[hfr,show R.length=x3.1+1 by have:=aR s;omega,mT,hx3.2]
      unfold lZ
      rw[r',s];rfl
     rw[e];exact ⟨rfl,ad _,trivial⟩
    ·have r':bP (R.getD x3.1 []) p.to=false:=r
     have s':(x3.1:Int)≠endP p:=fun e=>by rw[e,beq_self_eq_true]at s;cases s
     refine ⟨rfl,⟨Nat.zero_le _,rfl⟩,⟨rfl,?_⟩,fun _=>rfl,fun x5 hx5=>cu (fun g5 =>?_) (fun g5 =>?_)⟩
     ·repeat' first|exact (dP _ _ _).symm|exact knB _ _|exact trivial|exact rfl|exact ad _|refine ⟨rfl,?_⟩|refine ⟨trivial,?_⟩|apply And.intro
     ·have A9:x5.1<(R.getD x3.1 []).length:=by omega
      have se:=(cW (ok.sea x3.1 Ba _ (cQ (d:=0) A9))).1
      have no:io p R (x3.1:Int) ((R.getD x3.1 []).getD x5.1 0)=false->bZ p R=false:=fun h=>sO Ba (CT s' (CU A9 h))
      have hF:∀x∈lgP p ((R.getD x3.1 []).getD x5.1 0) (x3.1:Int),bP (R.getD (Int.toNat x.arr) []) x.to=false->bZ p R=false:=fun x hx h=>no (by
       unfold io i9
       rw[show (lgP p ((R.getD x3.1 []).getD x5.1 0) (x3.1:Int)).all (fun x=>bP (R.getD (Int.toNat x.arr) []) x.to)=false from List.all_eq_false.2 ⟨x,hx,by rw[h];decide⟩,Bool.and_false])
      refine ⟨⟨by omega,by omega⟩,cJ A9 (by omega),ag (by omega),?_,fun H' hn h=>qO o se (by omega) (by omega) (rX (by decide) h),fun r6 _=>⟨fun u=>⟨ag (by omega),?_,fun H' hn h=>qS (by omega) hA ⟨by omega,by omega⟩ (by decide) h.1 h.2.1 h.2.2.1,fun v =>?_,fun v =>?_⟩,fun u =>?_⟩⟩
      ·repeat' first|exact trivial|refine ⟨rfl,?_⟩
      ·repeat' first|exact trivial|refine ⟨rfl,?_⟩
      ·have v':bP (R.getD (Int.toNat ((x3.1:Int)+1)) []) ((R.getD x3.1 []).getD x5.1 0)=false:=by simpa using v
       rw[no (by unfold io;rw[u,v'];rfl)];exact ⟨rfl,ad _,trivial⟩
      ·have v':bP (R.getD (Int.toNat ((x3.1:Int)+1)) []) ((R.getD x3.1 []).getD x5.1 0)=true:=by simpa using v
       exact wP o ok se rfl (by omega) A9 hx5.2 (by rw[u,v'];rfl) hF
      ·exact wP o ok se rfl (by omega) A9 hx5.2 (by rw[u];rfl) hF
     ·obtain e5:x5.1=(R.getD x3.1 []).length:=by omega
      have h6:=hx5.2
      rw[e5]at h6
      refine ⟨ag (by omega),(x3.1+1,x5.2),⟨by show x3.1+1<=_;omega,?_⟩,by show _-(x3.1+1)<_;omega,rfl,?_⟩
      ·show im p R (x3.1+1)=true
       rw[mT,hx3.2]
       unfold lZ
       rw[r',h6,Bool.or_true];rfl
      ·repeat' first|exact knB _ _|exact trivial|exact rfl|exact ad _|refine ⟨rfl,?_⟩|refine ⟨trivial,?_⟩|apply And.intro
   ·have e:bZ p R=true:=by
     unfold bZ
     have h6:=hx3.2
     rw[show x3.1=R.length by omega]at h6
     rw[hfr,h6];rfl
    rw[e];exact ⟨rfl,ad _,trivial⟩
end
end Go.Proofs.YtmecpfikljhjaaaDoor
