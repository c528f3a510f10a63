/- Radio: the first of the greatest lists of sightings that agree: plain laws. No condition. -/
import Derived.Test.YtbgfjemppjhmjaaGreatGP26xW38
import Derived.Test.YtbgfjemppjhmjaaGreatGO32gxW36
open Go Go.K
set_option maxRecDepth 1000000
set_option maxHeartbeats 4000000
set_option linter.unusedVariables false
set_option linter.unusedSimpArgs false
namespace Go.Proofs.YtbgfjemppjhmjaaGreat
noncomputable section
attribute [local irreducible] vF
variable {w h:Int} {a:List Bool} {p:Int} {ss:List (Int×Int)} {o1 o2:Bool} {z1 z2:Nat} {H:Heap}
def bO(l:List Bool):Nat:=(l.filter fun b=>b).length
def frB(agr:Int->Int->Bool)(B:List Bool):Bool:=(List.range B.length).all fun j => !B.getD j false ||agr (j:Int) (B.length:Int)
def cJ(agr:Int->Int->Bool):Nat->List Bool->List Bool
 |0,B=>B
 |m+1,B=>if frB agr B=true then (if bO (cJ agr m (B ++ [true]))<bO (cJ agr m (B ++ [false])) then cJ agr m (B ++ [false]) else cJ agr m (B ++ [true])) else cJ agr m (B ++ [false])
def okR(agr:Int->Int->Bool)(B:List Bool)(v:Int):Bool:=((List.range B.length).all fun j => !B.getD j false ||agr (j:Int) v)&&(decide (B.length<=Int.toNat v) ||B.getD (Int.toNat v) false)
theorem gK{agr:Int->Int->Bool}{B:List Bool}{v:Int}:okR agr B v=true ↔ (∀j,j<B.length->B.getD j false=true->agr (j:Int) v=true)/\(Int.toNat v<B.length->B.getD (Int.toNat v) false=true):=by
 unfold okR
 rw[Bool.and_eq_true,Bool.or_eq_true,decide_eq_true_eq,List.all_eq_true]
 constructor
 ·rintro ⟨h1,h2⟩
  refine ⟨fun j hj q =>?_,fun h=>h2.resolve_left (by omega)⟩
  have:=h1 j (List.mem_range.2 hj)
  rw[q]at this;simpa using this
 ·rintro ⟨h1,h2⟩
  refine ⟨fun j hj =>?_,?_⟩
  ·cases q:B.getD j false with
   |false=>rfl
   |true=>rw[h1 j (List.mem_range.1 hj) q];rfl
  ·by_cases q:Int.toNat v<B.length
   ·exact Or.inr (h2 q)
   ·exact Or.inl (by omega)
theorem oe{agr:Int->Int->Bool}{B:List Bool}:frB agr B=true ↔ ∀j,j<B.length->B.getD j false=true->agr (j:Int) (B.length:Int)=true:=by
 unfold frB
 rw[List.all_eq_true]
 constructor
 ·intro h1 j hj q
  have:=h1 j (List.mem_range.2 hj)
  rw[q]at this;simpa using this
 ·intro h1 j hj
  cases q:B.getD j false with
  |false=>rfl
  |true=>rw[h1 j (List.mem_range.1 hj) q];rfl
theorem dh{l:List Bool}{x:Bool}{j:Nat}:(l ++ [x]).getD j false=if j=l.length then x else l.getD j false:=by
 by_cases q:j=l.length
 ·rw[if_pos q,q];exact mS
 ·rw[if_neg q]
  by_cases r:j<l.length
  ·exact kE r
  ·rw[List.getD_eq_getElem?_getD,List.getElem?_eq_none (by rw[ao,aV];omega),List.getD_eq_getElem?_getD,List.getElem?_eq_none (by omega)]
theorem Cj{agr:Int->Int->Bool}{B:List Bool}{v:Int}:okR agr (B ++ [true]) v=true ↔ okR agr B v=true/\agr (B.length:Int) v=true:=by
 rw[gK,gK,ao,aV]
 constructor
 ·rintro ⟨h1,h2⟩
  refine ⟨⟨fun j hj q=>h1 j (by omega) (by rw[dh,if_neg (by omega)];exact q),fun h =>?_⟩,h1 B.length (by omega) (by rw[dh,if_pos rfl])⟩
  have:=h2 (by omega)
  rwa [dh,if_neg (by omega)]at this
 ·rintro ⟨⟨h1,h2⟩,h3⟩
  refine ⟨fun j hj q =>?_,fun h =>?_⟩
  ·by_cases e:j=B.length
   ·rw[e];exact h3
   ·rw[dh,if_neg e]at q
    exact h1 j (by omega) q
  ·rw[dh]
   split
   ·rfl
   ·exact h2 (by omega)
theorem G8{agr:Int->Int->Bool}{B:List Bool}{v:Int}(hv:0<=v):okR agr (B ++ [false]) v=true ↔ okR agr B v=true/\v≠(B.length:Int):=by
 rw[gK,gK,ao,aV]
 constructor
 ·rintro ⟨h1,h2⟩
  refine ⟨⟨fun j hj q=>h1 j (by omega) (by rw[dh,if_neg (by omega)];exact q),fun h =>?_⟩,fun e =>?_⟩
  ·have:=h2 (by omega)
   rwa [dh,if_neg (by omega)]at this
  ·have:=h2 (by omega)
   rw[dh,if_pos (by omega)]at this
   cases this
 ·rintro ⟨⟨h1,h2⟩,h3⟩
  refine ⟨fun j hj q =>?_,fun h =>?_⟩
  ·rw[dh]at q
   split at q
   ·cases q
   ·exact h1 j (by omega) q
  ·rw[dh,if_neg (by omega)]
   exact h2 (by omega)
def ClB(agr:Int->Int->Bool)(B:List Bool):Prop:=∀i j,i<B.length->j<B.length->B.getD i false=true->B.getD j false=true->agr (i:Int) (j:Int)=true
theorem DX{agr:Int->Int->Bool}{B:List Bool}(h:ClB agr B):ClB agr (B ++ [false]):=by
 intro i j hi hj q r
 rw[ao,aV]at hi hj
 rw[dh]at q r
 split at q
 ·cases q
 ·split at r
  ·cases r
  ·exact h i j (by omega) (by omega) q r
theorem DW{agr:Int->Int->Bool}{k:Int->Int}{n:Nat}(a:fD agr k (aQ n)){B:List Bool}(h:ClB agr B)(hn:B.length<n)(f:frB agr B=true):ClB agr (B ++ [true]):=by
 have f:=oe.1 f
 intro i j hi hj q r
 rw[ao,aV]at hi hj
 rw[dh]at q r
 split at q
 ·rename_i e;subst e
  split at r
  ·rename_i e;subst e
   exact a.rfl _ (bI.2 (by omega))
  ·exact a.sym _ (bI.2 (by omega)) _ (bI.2 (by omega)) (f j (by omega) r)
 ·split at r
  ·rename_i e;subst e
   exact f i (by omega) q
  ·exact h i j (by omega) (by omega) q r
theorem ui{agr:Int->Int->Bool}{k:Int->Int}{n:Nat}(a:fD agr k (aQ n)):∀(m:Nat) (B:List Bool),B.length+m=n->ClB agr B->(cJ agr m B).length=n/\(∀j,j<B.length->(cJ agr m B).getD j false=B.getD j false)/\ClB agr (cJ agr m B)
 |0,B,hl,c=>⟨(by show B.length=n;omega),fun j _=>rfl,c⟩
 |m+1,B,hl,c=>by
  have hF:=ui a m (B ++ [false]) (by rw[ao,aV];omega) (DX c)
  have up:∀(x:Bool) (L:List Bool),(∀j,j<(B ++ [x]).length->L.getD j false=(B ++ [x]).getD j false)->∀j,j<B.length->L.getD j false=B.getD j false:=fun x L h j hj=>by
   rw[h j (by rw[ao,aV];omega),kE hj]
  show (if frB agr B=true then (if bO (cJ agr m (B ++ [true]))<bO (cJ agr m (B ++ [false])) then cJ agr m (B ++ [false]) else cJ agr m (B ++ [true])) else cJ agr m (B ++ [false])).length=n/\(∀j,j<B.length->(if frB agr B=true then (if bO (cJ agr m (B ++ [true]))<bO (cJ agr m (B ++ [false])) then cJ agr m (B ++ [false]) else cJ agr m (B ++ [true])) else cJ agr m (B ++ [false])).getD j false=B.getD j false)/\ClB agr (if frB agr B=true then (if bO (cJ agr m (B ++ [true]))<bO (cJ agr m (B ++ [false])) then cJ agr m (B ++ [false]) else cJ agr m (B ++ [true])) else cJ agr m (B ++ [false]))
  by_cases f:frB agr B=true
  ·rw[if_pos f]
   have hT:=ui a m (B ++ [true]) (by rw[ao,aV];omega) (DW a c (by omega) f)
   by_cases q:bO (cJ agr m (B ++ [true]))<bO (cJ agr m (B ++ [false]))
   ·rw[if_pos q];exact ⟨hF.1,up _ _ hF.2.1,hF.2.2⟩
   ·rw[if_neg q];exact ⟨hT.1,up _ _ hT.2.1,hT.2.2⟩
  ·rw[if_neg f];exact ⟨hF.1,up _ _ hF.2.1,hF.2.2⟩
theorem qu{n:Nat}{L:List Bool}(h:L.length=n):bO L=((aQ n).filter fun v=>L.getD (Int.toNat v) false).length:=by
 have e:L=(aQ n).map fun v=>L.getD (Int.toNat v) false:=by
  unfold aQ dE
  rw[List.map_map]
  refine List.ext_getElem (by rw[List.length_map,List.length_range,h]) fun i h1 h2 =>?_
  rw[List.getElem_map,List.getElem_range]
  show _=L.getD (Int.toNat ((i:Nat):Int)) false
  rw[show Int.toNat ((i:Nat):Int)=i by omega,List.getD_eq_getElem?_getD,List.getElem?_eq_getElem h1];rfl
 unfold bO
 conv=>lhs;rw[e]
 rw[List.filter_map,List.length_map];rfl
theorem filter_le{l:List Int}{P Q:Int->Bool}(h:∀x∈l,P x=true->Q x=true):(l.filter P).length<=(l.filter Q).length:=by
 have e:l.filter P=(l.filter Q).filter P:=by
  rw[List.filter_filter]
  refine List.filter_congr fun x hx =>?_
  cases hp:P x with
  |false=>rfl
  |true=>rw[h x hx hp];rfl
 rw[e];exact List.length_filter_le ..
theorem uj{agr:Int->Int->Bool}{k:Int->Int}{n:Nat}(a:fD agr k (aQ n)){P:Int->Bool}(hP:∀x∈aQ n,∀y∈aQ n,P x=true->P y=true->agr x y=true):∀(m:Nat) (B:List Bool),B.length+m=n->ClB agr B->(∀x∈aQ n,P x=true->okR agr B x=true)->((aQ n).filter P).length<=bO (cJ agr m B)
 |0,B,hl,c,h=>by
  show _<=bO B
  rw[qu (n:=n) (by omega)]
  refine filter_le fun x hx px =>?_
  have hx':=bI.1 hx
  exact (gK.1 (h x hx px)).2 (by omega)
 |m+1,B,hl,c,h=>by
  have hin:(B.length:Int)∈aQ n:=bI.2 (by omega)
  show _<=bO (if frB agr B=true then (if bO (cJ agr m (B ++ [true]))<bO (cJ agr m (B ++ [false])) then cJ agr m (B ++ [false]) else cJ agr m (B ++ [true])) else cJ agr m (B ++ [false]))
  by_cases p:P (B.length:Int)=true
  ·have f:frB agr B=true:=oe.2 (gK.1 (h _ hin p)).1
   have hT:=uj a hP m (B ++ [true]) (by rw[ao,aV];omega) (DW a c (by omega) f) fun x hx px=>Cj.2 ⟨h x hx px,hP _ hin _ hx p px⟩
   rw[if_pos f]
   split <;> omega
  ·have hF:=uj a hP m (B ++ [false]) (by rw[ao,aV];omega) (DX c) fun x hx px=>(G8 (bI.1 hx).1).2 ⟨h x hx px,fun e=>p (e ▸ px)⟩
   by_cases f:frB agr B=true
   ·rw[if_pos f];split <;> omega
   ·rw[if_neg f];exact hF
theorem qE{agr:Int->Int->Bool}{k:Int->Int}{n:Nat}(a:fD agr k (aQ n)){m:Nat}{B:List Bool}(hl:B.length+m=n)(c:ClB agr B):((bO (cJ agr m B):Nat):Int)=mst agr k ((aQ n).filter (okR agr B)):=by
 obtain ⟨h1,h2,h3⟩:=ui a m B hl c
 have clL:∀x∈aQ n,∀y∈aQ n,(cJ agr m B).getD (Int.toNat x) false=true->(cJ agr m B).getD (Int.toNat y) false=true->agr x y=true:=fun x hx y hy px py=>by
  have hx:=bI.1 hx
  have hy:=bI.1 hy
  have:=h3 (Int.toNat x) (Int.toNat y) (by omega) (by omega) px py
  rwa [show ((Int.toNat x:Nat):Int)=x by omega,show ((Int.toNat y:Nat):Int)=y by omega]at this
 refine Int.le_antisymm ?_ ?_
 ·have e:(aQ n).filter (fun v=>(cJ agr m B).getD (Int.toNat v) false)=((aQ n).filter (okR agr B)).filter fun v=>(cJ agr m B).getD (Int.toNat v) false:=by
   rw[List.filter_filter]
   refine List.filter_congr fun x hx =>?_
   cases hp:(cJ agr m B).getD (Int.toNat x) false with
   |false=>rfl
   |true =>
    have:okR agr B x=true:=gK.2 ⟨fun j hj q=>clL _ (bI.2 (by omega)) _ hx (by rw[show Int.toNat ((j:Nat):Int)=j by omega,h2 j hj];exact q) hp,fun h=>by rw[<- h2 _ h];exact hp⟩
    rw[this];rfl
  rw[qu h1,e]
  exact mF fun x hx y hy=>clL x (List.mem_filter.1 hx).1 y (List.mem_filter.1 hy).1
 ·obtain ⟨P,p1,p2⟩:=nX (a.sub (L:=(aQ n).filter (okR agr B)) fun x hx=>(List.mem_filter.1 hx).1)
  rw[<- p2,List.filter_filter]
  refine Int.ofNat_le.2 (uj a (fun x hx y hy px py =>?_) m B hl c fun x hx px =>?_)
  ·rw[Bool.and_eq_true]at px py
   exact p1 x (List.mem_filter.2 ⟨hx,px.2⟩) y (List.mem_filter.2 ⟨hy,py.2⟩) px.1 py.1
  ·rw[Bool.and_eq_true]at px;exact px.2
theorem uU{agr:Int->Int->Bool}{k:Int->Int}{n:Nat}(a:fD agr k (aQ n)):∀i,i<=n->(trS agr k n i).1=(aQ n).filter (okR agr (trS agr k n i).2)
 |0,_=>by
  show aQ n=_
  rw[List.filter_eq_self.2 fun x _=>gK.2 ⟨fun j hj=>absurd hj (Nat.not_lt_zero _),fun h=>absurd h (Nat.not_lt_zero _)⟩]
 |i+1,hi=>by
  have ih:=uU a i (by omega)
  have hl:=(trI a i (by omega)).len
  by_cases c:(trS agr k n i).1.any (fun v=>v == (i:Int))=true/\mst agr k ((trS agr k n i).1.filter fun v=>agr i v)=mst agr k (aQ n)
  ·have e:trS agr k n (i+1)=((trS agr k n i).1.filter (fun v=>agr i v),(trS agr k n i).2 ++ [true]):=by show (if _ then _ else _)=_;rw[if_pos c]
   rw[e]
   show (trS agr k n i).1.filter _=(aQ n).filter _
   conv=>lhs;rw[ih]
   rw[List.filter_filter]
   refine List.filter_congr fun x hx =>?_
   rw[Bool.eq_iff_iff,Cj,Bool.and_eq_true,hl]
   exact And.comm
  ·have e:trS agr k n (i+1)=((trS agr k n i).1.filter (fun v => !(v == (i:Int))),(trS agr k n i).2 ++ [false]):=by show (if _ then _ else _)=_;rw[if_neg c]
   rw[e]
   show (trS agr k n i).1.filter _=(aQ n).filter _
   conv=>lhs;rw[ih]
   rw[List.filter_filter]
   refine List.filter_congr fun x hx =>?_
   rw[Bool.eq_iff_iff,G8 (bI.1 hx).1,Bool.and_eq_true,hl,Bool.not_eq_true',beq_eq_false_iff_ne]
   exact And.comm
theorem HK{agr:Int->Int->Bool}{k:Int->Int}{n:Nat}(a:fD agr k (aQ n)){i:Nat}(hi:i<=n):ClB agr (trS agr k n i).2:=by
 have I:=trI a i hi
 intro x y hx hy px py
 rw[I.len]at hx hy
 exact I.ag x hx ((I.tru x hx).1 px) _ ((I.tru y hy).1 py)
theorem BI{agr:Int->Int->Bool}{k:Int->Int}{n:Nat}(a:fD agr k (aQ n)):gV agr k n=cJ agr n []:=by
 have key:∀m i,i+m=n->cJ agr m (trS agr k n i).2=gV agr k n:=by
  intro m
  induction m with
  |zero=>intro i hi;rw[show i=n by omega];rfl
  |succ m ih =>
   intro i hi
   have I:=trI a i (by omega)
   have ih:=ih (i+1) (by omega)
   have cl:=HK a (i:=i) (by omega)
   have hr:=uU a i (by omega)
   have hin:(i:Int)∈aQ n:=bI.2 (by omega)
   have cF:=qE a (m:=m) (B:=(trS agr k n i).2 ++ [false]) (by rw[ao,I.len,aV];omega) (DX cl)
   have cA:=qE a (m:=m+1) (B:=(trS agr k n i).2) (by rw[I.len];omega) cl
   rw[<- hr,I.mo]at cA
   have eB:cJ agr (m+1) (trS agr k n i).2=if frB agr (trS agr k n i).2=true then (if bO (cJ agr m ((trS agr k n i).2 ++ [true]))<bO (cJ agr m ((trS agr k n i).2 ++ [false])) then cJ agr m ((trS agr k n i).2 ++ [false]) else cJ agr m ((trS agr k n i).2 ++ [true])) else cJ agr m ((trS agr k n i).2 ++ [false]):=rfl
   have hfr:frB agr (trS agr k n i).2=true ↔ (i:Int)∈(trS agr k n i).1:=by
    rw[hr,List.mem_filter,gK,oe,I.len]
    exact ⟨fun h=>⟨hin,h,fun q=>by omega⟩,fun h=>h.2.1⟩
   by_cases f:frB agr (trS agr k n i).2=true
   ·have cT:=qE a (m:=m) (B:=(trS agr k n i).2 ++ [true]) (by rw[ao,I.len,aV];omega) (DW a cl (by rw[I.len];omega) f)
    have eR:(aQ n).filter (okR agr ((trS agr k n i).2 ++ [true]))=(trS agr k n i).1.filter fun v=>agr i v:=by
     rw[hr,List.filter_filter]
     refine List.filter_congr fun x hx =>?_
     rw[Bool.eq_iff_iff,Cj,Bool.and_eq_true,I.len]
     exact And.comm
    rw[eR]at cT
    rw[if_pos f]at eB
    by_cases c:(trS agr k n i).1.any (fun v=>v == (i:Int))=true/\mst agr k ((trS agr k n i).1.filter fun v=>agr i v)=mst agr k (aQ n)
    ·have e:trS agr k n (i+1)=((trS agr k n i).1.filter (fun v=>agr i v),(trS agr k n i).2 ++ [true]):=by show (if _ then _ else _)=_;rw[if_pos c]
     rw[e]at ih
     rw[c.2]at cT
     have hle:¬ bO (cJ agr m ((trS agr k n i).2 ++ [true]))<bO (cJ agr m ((trS agr k n i).2 ++ [false])):=by
      have:mst agr k ((aQ n).filter (okR agr ((trS agr k n i).2 ++ [false])))<=mst agr k (aQ n):=tu a _
      omega
     rw[eB,if_neg hle];exact ih
    ·have e:trS agr k n (i+1)=((trS agr k n i).1.filter (fun v => !(v == (i:Int))),(trS agr k n i).2 ++ [false]):=by show (if _ then _ else _)=_;rw[if_neg c]
     rw[e]at ih
     have hne:mst agr k ((trS agr k n i).1.filter fun v=>agr i v)≠mst agr k (aQ n):=fun q=>c ⟨qG.2 (hfr.1 f),q⟩
     have hle:bO (cJ agr m ((trS agr k n i).2 ++ [true]))<bO (cJ agr m ((trS agr k n i).2 ++ [false])):=by
      rw[eB]at cA
      by_cases q:bO (cJ agr m ((trS agr k n i).2 ++ [true]))<bO (cJ agr m ((trS agr k n i).2 ++ [false]))
      ·exact q
      ·rw[if_neg q]at cA
       exact absurd (cT.symm.trans cA) hne
     rw[eB,if_pos hle];exact ih
   ·have c:¬ ((trS agr k n i).1.any (fun v=>v == (i:Int))=true/\mst agr k ((trS agr k n i).1.filter fun v=>agr i v)=mst agr k (aQ n)):=fun c=>f (hfr.2 (qG.1 c.1))
    have e:trS agr k n (i+1)=((trS agr k n i).1.filter (fun v => !(v == (i:Int))),(trS agr k n i).2 ++ [false]):=by show (if _ then _ else _)=_;rw[if_neg c]
    rw[e]at ih
    rw[eB,if_neg f];exact ih
 exact (key n 0 (by omega)).symm
def fx(n x:Nat):List Int:=List.replicate x (-1)++List.replicate (n-x) 0
def mrB(w h:Int)(a:List Bool)(f:Int)(x:Nat):Bool:=decide (x=0) ||gH w h a f (x:Int) a.length
def fe(w h:Int)(a:List Bool)(f n:Int)(i y:Nat):List Int:=if i9 w h a f n i y=true then (eo w h a f n i).set i n else eo w h a f n i
def eP(w h:Int)(a:List Bool)(f:Int):List Int:=dE (fun c:Nat=>if bk w h a f c<bb then bk w h a f c else -1) a.length
def bw(w h:Int)(a:List Bool)(ss:List (Int×Int))(x:Nat):List (List Int):=dE (fun i:Nat=>eP w h a (ss.getD i ae).2) x
def jS(p s1 d m:Int):Bool:=decide (0<=d)&&decide (d*p<=mxI (m-s1) (s1-m))
theorem Bg{n x:Nat}(hx:x<n):(fx n x).set x (-1)=fx n (x+1):=by
 unfold fx
 refine List.ext_getElem (by simp;omega) fun i h1 h2 =>?_
 rw[List.getElem_set]
 by_cases e:x=i
 ·subst e
  rw[if_pos rfl,List.getElem_append_left (by rw[List.length_replicate];omega),List.getElem_replicate]
 ·rw[if_neg e]
  by_cases l:i<x
  ·rw[List.getElem_append_left (by rw[List.length_replicate];exact l),List.getElem_append_left (by rw[List.length_replicate];omega),List.getElem_replicate,List.getElem_replicate]
  ·rw[List.getElem_append_right (by rw[List.length_replicate];omega),List.getElem_append_right (by rw[List.length_replicate];omega),List.getElem_replicate,List.getElem_replicate]
theorem sC{n x:Nat}(hx:x<=n):(fx n x).length=n:=by
 unfold fx;rw[ao,List.length_replicate,List.length_replicate];omega
theorem Bh(n:Nat):fx n n=List.replicate n (-1):=by unfold fx;simp
theorem Gj(n:Nat):fx n 0=List.replicate n 0:=by unfold fx;simp
theorem BO(w h:Int)(a:List Bool)(f n:Int)(i y:Nat):(fe w h a f n i y).length=a.length:=by
 unfold fe
 split
 ·rw[List.length_set,lP]
 ·rw[lP]
theorem HQ(w h:Int)(a:List Bool)(f n:Int)(i:Nat):fe w h a f n i 0=eo w h a f n i:=rfl
theorem ET{f n:Int}{i k y:Nat}(hn:1<=n/\n<bb)(hi:i<a.length)(hk:k<a.length)(hm:¬ bk w h a f i<=n-1):(fe w h a f n i y).getD k 0=n-1 ↔ bk w h a f k=n-1:=by
 unfold fe
 split
 ·rw[DI (by rw[lP];exact hi)]
  split
  ·rename_i e;subst e;omega
  ·exact yN hn hk
 ·exact yN hn hk
theorem BP{f n:Int}{i y:Nat}(h1:rp w i y=true)(h2:bk w h a f y=n-1):i9 w h a f n i (y+1)=true/\fe w h a f n i (y+1)=(fe w h a f n i y).set i n:=by
 have e:i9 w h a f n i (y+1)=true:=by rw[BU,h1,decide_eq_true h2];simp
 refine ⟨e,?_⟩
 unfold fe
 rw[if_pos e]
 split
 ·rw[List.set_set]
 ·rfl
theorem rC{f n:Int}{i y:Nat}(hq:¬ (rp w i y=true/\bk w h a f y=n-1)):i9 w h a f n i (y+1)=i9 w h a f n i y/\fe w h a f n i (y+1)=fe w h a f n i y:=by
 have e:i9 w h a f n i (y+1)=i9 w h a f n i y:=by
  rw[BU]
  by_cases q:rp w i y=true
  ·rw[decide_eq_false fun r=>hq ⟨q,r⟩];simp
  ·rw[Bool.eq_false_iff.2 q];simp
 exact ⟨e,by unfold fe;rw[e]⟩
theorem BQ{f:Int}(b:cM w h a.length)(hf:0<=f/\f<(a.length:Int)){n:Int}(hn:1<=n/\n<bb){i:Nat}(hi:i<a.length)(hs:a.getD i false=false)(hm:¬ bk w h a f i<=n-1):fe w h a f n i a.length=eo w h a f n (i+1)/\(gH w h a f n i ||i9 w h a f n i a.length)=gH w h a f n (i+1):=by
 have e:=EW b hf hn hi hs hm
 refine ⟨?_,by rw[wS,e]⟩
 unfold fe
 rw[e]
 by_cases q:bk w h a f i=n
 ·rw[if_pos (decide_eq_true q),BR hi hn.2 q]
 ·rw[if_neg (by rw[decide_eq_false q];decide),mv q]
theorem Ct(w h:Int)(a:List Bool)(f:Int)(x:Nat):mrB w h a f (x+1)=gH w h a f ((x+1:Nat):Int) a.length:=by
 unfold mrB;rw[decide_eq_false (Nat.succ_ne_zero x),Bool.false_or]
theorem H9{f:Int}(b:cM w h a.length)(hf:0<=f/\f<(a.length:Int)){x:Nat}(hx:x<=a.length)(q:mrB w h a f x=true):x+1<=a.length:=by
 cases x with
 |zero=>omega
 |succ x =>
  rw[Ct]at q
  have:=b.n1
  have:=b.p1
  have:=EV b hf (n:=((x+1:Nat):Int)) (by unfold bb;omega) q
  omega
theorem EP{f:Int}(b:cM w h a.length)(hf:0<=f/\f<(a.length:Int)){x:Nat}(hx:x<=a.length)(q:mrB w h a f x=false):kJ w h a f (x:Int)=eP w h a f:=by
 cases x with
 |zero=>cases q
 |succ x =>
  rw[Ct]at q
  have:=b.n1
  have:=b.p1
  exact EQ b hf (by unfold bb;omega) q
theorem sqb{d:Int}(h : -64<=d/\d<=64):0<=d*d/\d*d<=4096:=by
 rcases Int.le_total 0 d with q|q
 ·exact ⟨Int.mul_nonneg q q,Int.mul_le_mul h.2 h.2 q (by omega)⟩
 ·have e:d*d=(-d)*(-d):=by rw[Int.neg_mul_neg]
  rw[e]
  exact ⟨Int.mul_nonneg (by omega) (by omega),Int.mul_le_mul (a:=-d) (b:=-d) (c:=64) (d:=64) (by omega) (by omega) (by omega) (by omega)⟩
theorem oK{i c:Nat}(hi:i<ss.length)(hc:c<a.length):((bw w h a ss ss.length).getD i []).getD c 0=if bk w h a (ss.getD i ae).2 c<bb then bk w h a (ss.getD i ae).2 c else -1:=by
 unfold bw
 rw[dD hi]
 unfold eP
 rw[dD hc]
theorem m9{i:Nat}(hi:i<ss.length):((bw w h a ss ss.length).getD i []).length=a.length:=by
 unfold bw
 rw[dD hi]
 exact dC ..
theorem yR(b:cM w h a.length){i:Nat}{c m:Int}(hi:i<ss.length)(hs:0<=(ss.getD i ae).2/\(ss.getD i ae).2<(a.length:Int))(hc:0<=c/\c<(a.length:Int)):jS p (ss.getD i ae).1 (((bw w h a ss ss.length).getD i []).getD (Int.toNat c) 0) m=fG p ss (aC w h a ss ss.length) i c m:=by
 have e:=oq (w:=w) (h:=h) (p:=p) (m:=m) hi hc
 rw[show fG p ss (aC w h a ss ss.length) i c m=fG p ss (aH w h a ss) i c m from rfl,e,oK hi (by omega),show ((Int.toNat c:Nat):Int)=c by omega]
 have bd:=iB b hs c
 unfold jS iK
 by_cases q:bk w h a (ss.getD i ae).2 c<bb
 ·rw[if_pos q,decide_eq_true q,decide_eq_true bd.1]
 ·rw[if_neg q,decide_eq_false q];rfl
def frP(B:List Bool)(p:List (Int×Int))(x:Nat):Bool:=(p.take x).all fun e => !(decide (e.2=(B.length:Int))) || !B.getD (Int.toNat e.1) false
def bB(p:List (Int×Int)):Nat->List Bool->List Bool
 |0,B=>B
 |m+1,B=>if frP B p p.length=true then (if bO (bB p m (B ++ [true]))<bO (bB p m (B ++ [false])) then bB p m (B ++ [false]) else bB p m (B ++ [true])) else bB p m (B ++ [false])
theorem DL{B:List Bool}{p:List (Int×Int)}{x:Nat}(hx:x<p.length):frP B p (x+1)=(frP B p x&&(!(decide ((p.getD x ae).2=(B.length:Int))) || !B.getD (Int.toNat (p.getD x ae).1) false)):=by
 unfold frP
 rw[List.take_succ_eq_append_getElem hx,List.all_append,List.all_cons,List.all_nil,Bool.and_true]
 rw[show p[x]=p.getD x ae from by rw[List.getD_eq_getElem?_getD,List.getElem?_eq_getElem hx];rfl]
theorem qD{p:List (Int×Int)}{m:Nat}{B:List Bool}(h:frP B p p.length=false):bB p (m+1) B=bB p m (B ++ [false]):=by
 show (if _ then _ else _)=_
 rw[if_neg (by rw[h];decide)]
theorem qC{p:List (Int×Int)}{m:Nat}{B:List Bool}(h:frP B p p.length=true)(q:bO (bB p m (B ++ [true]))<bO (bB p m (B ++ [false]))):bB p (m+1) B=bB p m (B ++ [false]):=by
 show (if _ then _ else _)=_
 rw[if_pos h,if_pos q]
theorem qB{p:List (Int×Int)}{m:Nat}{B:List Bool}(h:frP B p p.length=true)(q:¬ bO (bB p m (B ++ [true]))<bO (bB p m (B ++ [false]))):bB p (m+1) B=bB p m (B ++ [true]):=by
 show (if _ then _ else _)=_
 rw[if_pos h,if_neg q]
theorem bT(p:List (Int×Int)):∀(m:Nat) (B:List Bool),(bB p m B).length=B.length+m
 |0,B=>rfl
 |m+1,B=>by
  have h1:=bT p m (B ++ [false])
  have h2:=bT p m (B ++ [true])
  rw[ao,aV]at h1 h2
  by_cases h:frP B p p.length=true
  ·by_cases q:bO (bB p m (B ++ [true]))<bO (bB p m (B ++ [false]))
   ·rw[qC h q];omega
   ·rw[qB h q];omega
  ·rw[qD (Bool.eq_false_iff.2 h)];omega
theorem xV{B:List Bool}{x:Nat}(hx:x<B.length):bO (B.take (x+1))=bO (B.take x)+(if B.getD x false=true then 1 else 0):=by
 unfold bO
 rw[List.take_succ_eq_append_getElem hx,List.filter_append,ao]
 have e:B[x]=B.getD x false:=by rw[List.getD_eq_getElem?_getD,List.getElem?_eq_getElem hx];rfl
 rw[e]
 cases B.getD x false <;> rfl
theorem ue(B:List Bool):bO B<=B.length:=List.length_filter_le ..
def rt(n:Nat)(p:List (Int×Int)):Prop:=∀e∈p,0<=e.1/\e.1<e.2/\e.2<(n:Int)
theorem Jz{agr:Int->Int->Bool}{n:Nat}{p:List (Int×Int)}{B:List Bool}(hB:B.length<n)(hp:∀i k:Nat,i<k->k<n->(((i:Int),(k:Int))∈p ↔ agr i k=false))(ho:rt n p):frP B p p.length=frB agr B:=by
 rw[Bool.eq_iff_iff,oe]
 unfold frP
 rw[List.take_length,List.all_eq_true]
 constructor
 ·intro h j hj q
  cases e:agr (j:Int) (B.length:Int) with
  |true=>rfl
  |false =>
   have:=h _ ((hp j B.length hj hB).2 e)
   dsimp only at this
   rw[decide_eq_true rfl,Int.toNat_natCast,q]at this
   cases this
 ·intro h e he
  obtain ⟨e1,e2,e3⟩:=ho e he
  by_cases q:e.2=(B.length:Int)
  ·cases r:B.getD (Int.toNat e.1) false with
   |false=>simp
   |true =>
    have:=h (Int.toNat e.1) (by omega) r
    have h2:=(hp (Int.toNat e.1) B.length (by omega) hB).1 (by
     have:e=(((Int.toNat e.1:Nat):Int),((B.length:Nat):Int)):=by
      rw[show ((Int.toNat e.1:Nat):Int)=e.1 by omega,<- q]
     rw[<- this];exact he)
    rw[h2]at this;cases this
  ·rw[decide_eq_false q];simp
theorem uh{agr:Int->Int->Bool}{n:Nat}{p:List (Int×Int)}(hp:∀i k:Nat,i<k->k<n->(((i:Int),(k:Int))∈p ↔ agr i k=false))(ho:rt n p):∀(m:Nat) (B:List Bool),B.length+m=n->bB p m B=cJ agr m B
 |0,B,h=>rfl
 |m+1,B,h=>by
  have h1:=uh hp ho m (B ++ [false]) (by rw[ao,aV];omega)
  have h2:=uh hp ho m (B ++ [true]) (by rw[ao,aV];omega)
  show (if frP B p p.length=true then _ else _)=(if frB agr B=true then _ else _)
  rw[Jz (by omega) hp ho,h1,h2]
theorem Cn{N:List (Int×Int)}{m:Int}:kM N m=true ↔ ∃y∈N,y.1<=m/\m<=y.2:=by
 unfold kM
 rw[List.any_eq_true]
 constructor
 ·rintro ⟨y,hy,q⟩
  rw[Bool.and_eq_true,decide_eq_true_eq,decide_eq_true_eq]at q
  exact ⟨y,hy,q⟩
 ·rintro ⟨y,hy,q⟩
  exact ⟨y,hy,by rw[decide_eq_true q.1,decide_eq_true q.2];rfl⟩
theorem sY{x:Nat}{c:Int}(hx:x<ss.length)(hc:0<=c/\c<(a.length:Int)):stC (aH w h a ss) x c=bk w h a (ss.getD x ae).2 c:=by
 unfold stC
 rw[show (aH w h a ss).getD x []=cw w h a (ss.getD x ae).2 from dD hx]
 rw[show (cw w h a (ss.getD x ae).2).getD (Int.toNat c) 0=bk w h a (ss.getD x ae).2 ((Int.toNat c:Nat):Int) from dD (by omega)]
 rw[show ((Int.toNat c:Nat):Int)=c from by omega]
theorem HL{rr:List (List Int)}{c:Int}:(tmL p ss rr c).length<=Int.toNat (msT ss ss.length-lsT ss ss.length+1):=by
 unfold tmL
 split
 ·exact Nat.zero_le _
 ·exact s9 ..
def cfX(w h:Int)(a:List Bool)(p:Int)(ss:List (Int×Int)):List (Int×Int):=if aB w h a p ss=0 then a8 p ss (aC w h a ss ss.length) ss.length else []
def trX(w h:Int)(a:List Bool)(p:Int)(ss:List (Int×Int)):List Bool:=if aB w h a p ss=0 then gV (agI p ss (aC w h a ss ss.length)) (kyI ss) ss.length else []
def whE(w h:Int)(a:List Bool)(p:Int)(ss:List (Int×Int))(m:Int):Int:=if aB w h a p ss=0 then (if 0<=m/\m<=100000 then (if (a8 p ss (aC w h a ss ss.length) ss.length).length=0 then 0 else 9) else 6) else aB w h a p ss
def whX(w h:Int)(a:List Bool)(p:Int)(ss:List (Int×Int))(m:Int):List Int:=if whE w h a p ss m=0 then whL a p ss (aC w h a ss ss.length) m a.length else []
def tmE(w h:Int)(a:List Bool)(p:Int)(ss:List (Int×Int))(c:Int):Int:=if aB w h a p ss=0 then (if bJ a c=true then (if (a8 p ss (aC w h a ss ss.length) ss.length).length=0 then (if ss.length=0 then 4 else 0) else 9) else 1) else aB w h a p ss
def tmX(w h:Int)(a:List Bool)(p:Int)(ss:List (Int×Int))(c:Int):List (Int×Int):=if tmE w h a p ss c=0 then tmL p ss (aC w h a ss ss.length) c else []
def eh(w h:Int)(a:List Bool)(p:Int)(ss:List (Int×Int))(c:List Int)(k:Int):Int:=if aB w h a p ss=0 then (if c.length=ss.length/\0<=k then 0 else 1) else aB w h a p ss
def ew(w h:Int)(a:List Bool)(p:Int)(ss:List (Int×Int))(c:List Int)(k:Int):Bool:=decide (eh w h a p ss c k=0)&&fP (agI p ss (aC w h a ss ss.length)) c k c.length
def apB(p:List (Int×Int))(y x u:Nat):Bool:=(p.take u).any fun e=>decide (e.1=(y:Int))&&decide (e.2=(x:Int))
def ls0(ss:List (Int×Int))(x:Nat):Int:=(ss.take x).foldl (fun b s=>mnI b s.1) (ss.getD 0 ae).1
def ms0(ss:List (Int×Int))(x:Nat):Int:=(ss.take x).foldl (fun b s=>mxI b s.1) (ss.getD 0 ae).1
def dsE(w h:Int)(a:List Bool)(f t:Int):Int:=if cE w h a.length=0 then (if bJ a f=true/\bJ a t=true then (if bk w h a f t<bb then 0 else 4) else 1) else cE w h a.length
def dsV(w h:Int)(a:List Bool)(f t:Int):Int:=if dsE w h a f t=0 then bk w h a f t else 0
theorem Lz{p:List (Int×Int)}{y x u:Nat}(hu:u<p.length):apB p y x (u+1)=(apB p y x u ||(decide ((p.getD u ae).1=(y:Int))&&decide ((p.getD u ae).2=(x:Int)))):=by
 unfold apB
 rw[List.take_succ_eq_append_getElem hu,List.any_append,List.any_cons,List.any_nil,Bool.or_false]
 rw[show p[u]=p.getD u ae from by rw[List.getD_eq_getElem?_getD,List.getElem?_eq_getElem hu];rfl]
theorem Gz{p:List (Int×Int)}{y x:Nat}:apB p y x p.length=true ↔ ((y:Int),(x:Int))∈p:=by
 unfold apB
 rw[List.take_length,List.any_eq_true]
 constructor
 ·rintro ⟨e,he,q⟩
  rw[Bool.and_eq_true,decide_eq_true_eq,decide_eq_true_eq]at q
  have:e=((y:Int),(x:Int)):=Prod.ext q.1 q.2
  rw[<- this];exact he
 ·intro h
  exact ⟨_,h,by simp⟩
theorem DY{rr:List (List Int)}{i k:Nat}(hik:i<k)(hk:k<ss.length):((i:Int),(k:Int))∈a8 p ss rr ss.length ↔ agI p ss rr i k=false:=by
 unfold a8 bi
 rw[List.mem_flatMap]
 constructor
 ·rintro ⟨x,hx,q⟩
  obtain ⟨y,hy,e⟩:=List.mem_map.1 q
  have hy2:=(List.mem_filter.1 hy).2
  simp only[Prod.mk.injEq]at e
  have e1:x=i:=by omega
  have e2:y=k:=by omega
  subst e1;subst e2
  rw[Bool.and_eq_true,Bool.not_eq_true']at hy2
  exact hy2.2
 ·intro h
  refine ⟨i,List.mem_range.2 (by omega),List.mem_map.2 ⟨k,List.mem_filter.2 ⟨List.mem_range.2 hk,?_⟩,rfl⟩⟩
  rw[Bool.and_eq_true,Bool.not_eq_true']
  exact ⟨decide_eq_true hik,h⟩
theorem Hv{rr:List (List Int)}:rt ss.length (a8 p ss rr ss.length):=by
 intro e he
 unfold a8 bi at he
 obtain ⟨x,hx,q⟩:=List.mem_flatMap.1 he
 obtain ⟨y,hy,e⟩:=List.mem_map.1 q
 subst e
 have hy1:=List.mem_range.1 (List.mem_filter.1 hy).1
 have hy2:=(List.mem_filter.1 hy).2
 rw[Bool.and_eq_true,decide_eq_true_eq]at hy2
 have:=List.mem_range.1 hx
 exact ⟨by show (0:Int)<=(x:Int);omega,by show (x:Int)<(y:Int);omega,by show (y:Int)<(ss.length:Int);omega⟩
theorem JM(t:ej w h a p ss):bB (a8 p ss (aC w h a ss ss.length) ss.length) ss.length []=gV (agI p ss (aC w h a ss ss.length)) (kyI ss) ss.length:=by
 rw[uh (agr:=agI p ss (aC w h a ss ss.length)) (fun i k h1 h2=>DY h1 h2) Hv ss.length [] (by rw[List.length_nil];omega),BI (Br t)]
theorem ja{f g:Int->Bool}{lo:Int}:∀{n:Nat},(∀m,lo<=m->m<lo+(n:Int)->f m=g m)->runs f lo n=runs g lo n
 |0,_=>rfl
 |n+1,h=>by
  rw[dF,dF,ja (n:=n) (fun m h1 h2=>h m h1 (by omega)),h (lo+(n:Int)) (by omega) (by omega)]
theorem rI(lo:Int):∀n:Nat,runs (fun _=>false) lo n=[]
 |0=>rfl
 |n+1=>by rw[dF,if_neg (by decide),rI]
theorem KH{c:Int}(t:ej w h a p ss)(hc:0<=c/\c<(a.length:Int)):tmL p ss (aC w h a ss ss.length) c=runs (fun m=>cH p ss (aC w h a ss ss.length) c m ss.length) (lsT ss ss.length) (Int.toNat (msT ss ss.length-lsT ss ss.length+1)):=by
 have ec:∀m,cH p ss (aC w h a ss ss.length) c m ss.length=ss.all fun s=>iK w h a p s c m:=fun m=>JJ hc
 rw[ja (g:=fun m=>ss.all fun s=>iK w h a p s c m) (f:=fun m=>cH p ss (aC w h a ss ss.length) c m ss.length) fun m _ _=>ec m]
 have hd:∀x,x<ss.length->0<=bk w h a (ss.getD x ae).2 c/\(bk w h a (ss.getD x ae).2 c<1024∨bk w h a (ss.getD x ae).2 c=bb):=fun x hx=>iB t.bas (t.bd hx).2 c
 show tmL p ss (aH w h a ss) c=_
 unfold tmL
 by_cases hf:mj (aH w h a ss) c ss.length=true
 ·rw[if_pos hf]
  unfold mj at hf
  rw[List.any_eq_true]at hf
  obtain ⟨x,hx,e⟩:=hf
  have hx:=List.mem_range.1 hx
  have e:=av e
  rw[sY hx hc]at e
  have hz:∀m,(ss.all fun s=>iK w h a p s c m)=false:=fun m=>by
   rw[Bool.eq_false_iff]
   intro q
   rw[List.all_eq_true]at q
   have:=q _ (b8 (d:=ae) hx)
   unfold iK at this
   rw[e]at this
   simp at this
  rw[ja (g:=fun _=>false) fun m _ _=>hz m,rI]
 ·rw[if_neg hf]
  have hnf:∀x,x<ss.length->bk w h a (ss.getD x ae).2 c≠bb:=fun x hx e=>by
   apply hf
   unfold mj
   rw[List.any_eq_true]
   exact ⟨x,List.mem_range.2 hx,by rw[sY hx hc];exact decide_eq_true e⟩
  have hfm:∀m,(!kM (jT p ss (aH w h a ss) c ss.length) m)=ss.all fun s=>iK w h a p s c m:=fun m=>by
   have hone:∀x,x<ss.length->(iK w h a p (ss.getD x ae) c m=true ↔ ¬ ((ss.getD x ae).1-bk w h a (ss.getD x ae).2 c*p+1<=m/\m<=(ss.getD x ae).1+bk w h a (ss.getD x ae).2 c*p-1)):=fun x hx=>by
    have h1:=hd x hx
    have h2:=hnf x hx
    unfold iK
    rw[Bool.and_eq_true,decide_eq_true_eq,decide_eq_true_eq]
    have h3:bk w h a (ss.getD x ae).2 c<bb:=by
     rcases h1.2 with q|q
     ·unfold bb;omega
     ·exact absurd q h2
    generalize bk w h a (ss.getD x ae).2 c*p=e
    unfold mxI
    constructor
    ·rintro ⟨_,q⟩;split at q <;> omega
    ·intro q;refine ⟨h3,?_⟩;split <;> omega
   have hmem:∀x,x<ss.length->((ss.getD x ae).1-bk w h a (ss.getD x ae).2 c*p+1,(ss.getD x ae).1+bk w h a (ss.getD x ae).2 c*p-1)∈jT p ss (aH w h a ss) c ss.length:=fun x hx=>by
    unfold jT dE
    exact List.mem_map.2 ⟨x,List.mem_range.2 hx,by rw[sY hx hc]⟩
   rw[Bool.eq_iff_iff,List.all_eq_true]
   constructor
   ·intro q s hs
    obtain ⟨x,hx,rfl⟩:=List.mem_iff_getElem.1 hs
    have e:ss[x]=ss.getD x ae:=by rw[List.getD_eq_getElem?_getD,List.getElem?_eq_getElem hx];rfl
    rw[e]
    refine (hone x hx).2 fun r =>?_
    have:kM (jT p ss (aH w h a ss) c ss.length) m=true:=Cn.2 ⟨_,hmem x hx,r⟩
    rw[this]at q;cases q
   ·intro q
    refine yY fun y hy r =>?_
    unfold jT dE at hy
    obtain ⟨x,hx,rfl⟩:=List.mem_map.1 hy
    have hx:=List.mem_range.1 hx
    rw[sY hx hc]at r
    exact (hone x hx).1 (q _ (b8 hx)) r
  exact ja fun m _ _=>hfm m
theorem qk(l:List (Int×Int)):∀b:Int,l.foldl (fun b s=>mnI b s.1) b<=b/\(∀s∈l,l.foldl (fun b s=>mnI b s.1) b<=s.1)/\(l.foldl (fun b s=>mnI b s.1) b=b∨∃s∈l,l.foldl (fun b s=>mnI b s.1) b=s.1):=by
 induction l with
 |nil=>exact fun b=>⟨Int.le_refl b,fun s hs=>(by cases hs),.inl rfl⟩
 |cons x l ih =>
  intro b
  obtain ⟨h1,h2,h3⟩:=ih (mnI b x.1)
  have m1:mnI b x.1<=b/\mnI b x.1<=x.1/\(mnI b x.1=b∨mnI b x.1=x.1):=by unfold mnI;split <;> omega
  rw[List.foldl_cons]
  refine ⟨by omega,fun s hs =>?_,?_⟩
  ·rcases List.mem_cons.1 hs with rfl|hs
   ·omega
   ·exact h2 s hs
  ·rcases h3 with q|⟨s,hs,q⟩
   ·rcases m1.2.2 with r|r
    ·exact .inl (q.trans r)
    ·exact .inr ⟨x,List.mem_cons_self ..,q.trans r⟩
   ·exact .inr ⟨s,List.mem_cons_of_mem _ hs,q⟩
theorem qj(l:List (Int×Int)):∀b:Int,b<=l.foldl (fun b s=>mxI b s.1) b/\(∀s∈l,s.1<=l.foldl (fun b s=>mxI b s.1) b)/\(l.foldl (fun b s=>mxI b s.1) b=b∨∃s∈l,l.foldl (fun b s=>mxI b s.1) b=s.1):=by
 induction l with
 |nil=>exact fun b=>⟨Int.le_refl b,fun s hs=>(by cases hs),.inl rfl⟩
 |cons x l ih =>
  intro b
  obtain ⟨h1,h2,h3⟩:=ih (mxI b x.1)
  have m1:b<=mxI b x.1/\x.1<=mxI b x.1/\(mxI b x.1=b∨mxI b x.1=x.1):=by unfold mxI;split <;> omega
  rw[List.foldl_cons]
  refine ⟨by omega,fun s hs =>?_,?_⟩
  ·rcases List.mem_cons.1 hs with rfl|hs
   ·omega
   ·exact h2 s hs
  ·rcases h3 with q|⟨s,hs,q⟩
   ·rcases m1.2.2 with r|r
    ·exact .inl (q.trans r)
    ·exact .inr ⟨x,List.mem_cons_self ..,q.trans r⟩
   ·exact .inr ⟨s,List.mem_cons_of_mem _ hs,q⟩
theorem KS{x:Nat}(hx:x<ss.length):ls0 ss (x+1)=mnI (ls0 ss x) (ss.getD x ae).1:=by
 unfold ls0
 rw[List.take_succ_eq_append_getElem hx,List.foldl_append]
 rw[show ss[x]=ss.getD x ae from by rw[List.getD_eq_getElem?_getD,List.getElem?_eq_getElem hx];rfl]
 rfl
theorem KR{x:Nat}(hx:x<ss.length):ms0 ss (x+1)=mxI (ms0 ss x) (ss.getD x ae).1:=by
 unfold ms0
 rw[List.take_succ_eq_append_getElem hx,List.foldl_append]
 rw[show ss[x]=ss.getD x ae from by rw[List.getD_eq_getElem?_getD,List.getElem?_eq_getElem hx];rfl]
 rfl
theorem zc(hne:0<ss.length)(hb:∀s∈ss,0<=s.1/\s.1<=100000):ls0 ss ss.length=lsT ss ss.length:=by
 unfold ls0 lsT
 rw[List.take_length]
 have h0:=b8 (d:=ae) hne
 obtain ⟨a1,a2,a3⟩:=qk ss (ss.getD 0 ae).1
 obtain ⟨b1,b2,b3⟩:=qk ss 100000
 have c1:=a2 _ h0
 have c2:=b2 _ h0
 have c3:=hb _ h0
 refine Int.le_antisymm ?_ ?_
 ·rcases b3 with q|⟨s,hs,q⟩
  ·omega
  ·have:=a2 s hs;omega
 ·rcases a3 with q|⟨s,hs,q⟩
  ·omega
  ·have:=b2 s hs;omega
theorem yZ(hne:0<ss.length)(hb:∀s∈ss,0<=s.1/\s.1<=100000):ms0 ss ss.length=msT ss ss.length:=by
 unfold ms0 msT
 rw[List.take_length]
 have h0:=b8 (d:=ae) hne
 obtain ⟨a1,a2,a3⟩:=qj ss (ss.getD 0 ae).1
 obtain ⟨b1,b2,b3⟩:=qj ss 0
 have c1:=a2 _ h0
 have c2:=b2 _ h0
 have c3:=hb _ h0
 refine Int.le_antisymm ?_ ?_
 ·rcases a3 with q|⟨s,hs,q⟩
  ·omega
  ·have:=b2 s hs;omega
 ·rcases b3 with q|⟨s,hs,q⟩
  ·omega
  ·have:=a2 s hs;omega
theorem CC(hne:0<ss.length)(hb:∀s∈ss,0<=s.1/\s.1<=100000)(x:Nat):(0<=ls0 ss x/\ls0 ss x<=100000)/\(0<=ms0 ss x/\ms0 ss x<=100000)/\ls0 ss x<=ms0 ss x:=by
 have h0:=hb _ (b8 (d:=ae) hne)
 obtain ⟨a1,a2,a3⟩:=qk (ss.take x) (ss.getD 0 ae).1
 obtain ⟨b1,b2,b3⟩:=qj (ss.take x) (ss.getD 0 ae).1
 unfold ls0 ms0
 refine ⟨⟨?_,by omega⟩,⟨by omega,?_⟩,by omega⟩
 ·rcases a3 with q|⟨s,hs,q⟩
  ·omega
  ·have:=hb s (List.mem_of_mem_take hs);omega
 ·rcases b3 with q|⟨s,hs,q⟩
  ·omega
  ·have:=hb s (List.mem_of_mem_take hs);omega
def clX(w h:Int)(a:List Bool)(p:Int)(ss:List (Int×Int)):List Int:=if aB w h a p ss=0 then jq (agI p ss (aC w h a ss ss.length)) (kyI ss) ss.length ss.length else []
def clK(w h:Int)(a:List Bool)(p:Int)(ss:List (Int×Int)):Int:=if aB w h a p ss=0 then mst (agI p ss (aC w h a ss ss.length)) (kyI ss) (aQ ss.length) else 0
theorem DZ(e:aB w h a p ss=0):cfX w h a p ss=a8 p ss (aC w h a ss ss.length) ss.length:=if_pos e
theorem D0(e:aB w h a p ss≠0):cfX w h a p ss=[]:=if_neg e
theorem uT(e:aB w h a p ss=0):trX w h a p ss=gV (agI p ss (aC w h a ss ss.length)) (kyI ss) ss.length:=if_pos e
theorem yI(e:aB w h a p ss≠0):trX w h a p ss=[]:=if_neg e
theorem Al(e:aB w h a p ss=0):clX w h a p ss=jq (agI p ss (aC w h a ss ss.length)) (kyI ss) ss.length ss.length:=if_pos e
theorem Ht(e:aB w h a p ss≠0):clX w h a p ss=[]:=if_neg e
theorem DV(e:aB w h a p ss=0):clK w h a p ss=mst (agI p ss (aC w h a ss ss.length)) (kyI ss) (aQ ss.length):=if_pos e
theorem Hu(e:aB w h a p ss≠0):clK w h a p ss=0:=if_neg e
theorem yG{m:Int}(e:aB w h a p ss≠0):whE w h a p ss m=aB w h a p ss:=if_neg e
theorem ry{m:Int}(e:whE w h a p ss m≠0):whX w h a p ss m=[]:=if_neg e
theorem yJ{c:Int}(e:aB w h a p ss≠0):tmE w h a p ss c=aB w h a p ss:=if_neg e
theorem oB{c:Int}(e:tmE w h a p ss c≠0):tmX w h a p ss c=[]:=if_neg e
theorem Ky{m:Int}(e:whE w h a p ss m=0):aB w h a p ss=0/\(0<=m/\m<=100000)/\a8 p ss (aC w h a ss ss.length) ss.length=[]:=by
 unfold whE at e
 by_cases q:aB w h a p ss=0
 ·rw[if_pos q]at e
  by_cases r:0<=m/\m<=100000
  ·rw[if_pos r]at e
   by_cases z:(a8 p ss (aC w h a ss ss.length) ss.length).length=0
   ·exact ⟨q,r,List.length_eq_zero_iff.1 z⟩
   ·rw[if_neg z]at e;cases e
  ·rw[if_neg r]at e;cases e
 ·rw[if_neg q]at e;exact absurd e q
theorem yF{m:Int}(q:aB w h a p ss=0)(r:¬ (0<=m/\m<=100000)):whE w h a p ss m=6:=by unfold whE;rw[if_pos q,if_neg r]
theorem GS{m:Int}(q:aB w h a p ss=0)(r:0<=m/\m<=100000)(z:(a8 p ss (aC w h a ss ss.length) ss.length).length≠0):whE w h a p ss m=9:=by unfold whE;rw[if_pos q,if_pos r,if_neg z]
theorem sP{m:Int}(q:aB w h a p ss=0)(r:0<=m/\m<=100000)(z:(a8 p ss (aC w h a ss ss.length) ss.length).length=0):whE w h a p ss m=0:=by unfold whE;rw[if_pos q,if_pos r,if_pos z]
theorem GZ{c:Int}(e:tmE w h a p ss c=0):aB w h a p ss=0/\bJ a c=true/\a8 p ss (aC w h a ss ss.length) ss.length=[]/\0<ss.length:=by
 unfold tmE at e
 by_cases q:aB w h a p ss=0
 ·rw[if_pos q]at e
  by_cases r:bJ a c=true
  ·rw[if_pos r]at e
   by_cases z:(a8 p ss (aC w h a ss ss.length) ss.length).length=0
   ·rw[if_pos z]at e
    by_cases y:ss.length=0
    ·rw[if_pos y]at e;cases e
    ·exact ⟨q,r,List.length_eq_zero_iff.1 z,by omega⟩
   ·rw[if_neg z]at e;cases e
  ·rw[if_neg r]at e;cases e
 ·rw[if_neg q]at e;exact absurd e q
theorem GW{c:Int}(q:aB w h a p ss=0)(r:bJ a c=false):tmE w h a p ss c=1:=by unfold tmE;rw[if_pos q,if_neg (by rw[r];decide)]
theorem GY{c:Int}(q:aB w h a p ss=0)(r:bJ a c=true)(z:(a8 p ss (aC w h a ss ss.length) ss.length).length≠0):tmE w h a p ss c=9:=by unfold tmE;rw[if_pos q,if_pos r,if_neg z]
theorem GX{c:Int}(q:aB w h a p ss=0)(r:bJ a c=true)(z:(a8 p ss (aC w h a ss ss.length) ss.length).length=0)(y:ss.length=0):tmE w h a p ss c=4:=by unfold tmE;rw[if_pos q,if_pos r,if_pos z,if_pos y]
theorem sV{c:Int}(q:aB w h a p ss=0)(r:bJ a c=true)(z:(a8 p ss (aC w h a ss ss.length) ss.length).length=0)(y:ss.length≠0):tmE w h a p ss c=0:=by unfold tmE;rw[if_pos q,if_pos r,if_pos z,if_neg y]
end
end Go.Proofs.YtbgfjemppjhmjaaGreat
