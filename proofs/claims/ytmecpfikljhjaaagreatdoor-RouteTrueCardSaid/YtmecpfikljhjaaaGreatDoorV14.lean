/- Blocks that are read, as memory; ranges' records; lists in blocks. No condition. -/
import Derived.Test.YtmecpfikljhjaaaGreatDoorGV10xV13
open Go Go.K
set_option linter.unusedVariables false
set_option linter.unusedSimpArgs false
namespace Go.K
noncomputable section
variable {P:Program} {mask:Nat} {dm:Value->MS} {rounds:Nat} {mixed:Bool}
def cq(G:Nat)(css:List (List Value)):HT:=css.foldl (fun H cs=>H.push (.cells false 0 cs)) ⟨G,.leaf⟩
def sgR(G:Nat)(ids:List Nat)(i:Nat):Option Nat:=if i<G then some i else ids[i-G]?
theorem gW(G:Nat):∀(css:List (List Value)) (H:HT) (id:Nat),(css.foldl (fun H cs=>H.push (.cells false 0 cs)) H).n=H.n+css.length /\
  (css.foldl (fun H cs=>H.push (.cells false 0 cs)) H).list[id]?=if id<H.n then H.list[id]? else (css[id-H.n]?).map (fun cs=>aa.cells false 0 cs):=by
 intro css
 induction css with
 |nil =>
  intro H id
  refine ⟨rfl,?_⟩
  split
  ·rfl
  ·rw[List.getElem?_eq_none (by rw[List.foldl_nil,HT.length];omega)];simp
 |cons cs css ih =>
  intro H id
  obtain ⟨h1,h2⟩:=ih (H.push (.cells false 0 cs)) id
  have hn:(H.push (.cells false 0 cs)).n=H.n+1:=rfl
  refine ⟨by rw[List.foldl_cons,h1,hn,List.length_cons];omega,?_⟩
  rw[List.foldl_cons,h2,hn,HT.aW]
  by_cases c1:id<H.n
  ·rw[if_pos (by omega),if_pos c1,List.getElem?_append_left (by rw[HT.length];exact c1)]
  ·rw[if_neg c1]
   by_cases c2:id=H.n
   ·rw[if_pos (by omega),List.getElem?_append_right (by rw[HT.length];omega),HT.length,c2];simp
   ·rw[if_neg (by omega),show id-H.n=(id-(H.n+1))+1 by omega,List.getElem?_cons_succ]
theorem zZ(G:Nat)(css:List (List Value)):(cq G css).n=G+css.length:=(gW G css ⟨G,.leaf⟩ 0).1
theorem iF(G:Nat)(css:List (List Value))(id:Nat):(cq G css).list[id]?=if id<G then some .dead else (css[id-G]?).map (fun cs=>aa.cells false 0 cs):=by
 rw[show (cq G css).list[id]?=_ from (gW G css ⟨G,.leaf⟩ id).2]
 show (if id<G then _ else _)=_
 split
 ·rename_i h
  rw[HT.aj]
  unfold HT.get
  show cond (Nat.blt id G) _ _=_
  rw[show Nat.blt id G=true by rw[Nat.blt_eq];exact h];rfl
 ·rfl
theorem yx{d:Nat}{css:List (List Value)}{ids:List Nat}{H:Heap}(lx:∀cs∈css,cs.all (ao 0)=true)(nL:∀(k:Nat) (cs:List Value),css[k]?=some cs->∃id own z D,ids[k]?=some id/\H[id]?=some (aa.cells own z (cs++D)))(hl:ids.length=css.length) :
  Reads P (cq P.globals.size css).list H (sgR P.globals.size ids) (d+3):=by
 have hn:(cq P.globals.size css).list.length=P.globals.size+css.length:=by rw[HT.length,zZ]
 refine ⟨fun g hg=>if_pos hg,fun id id' h =>?_,by rw[hn];omega,fun id o h =>?_,fun id id' cs h1 h2 =>?_⟩
 ·rw[hn]
  unfold sgR at h
  split at h
  ·omega
  ·have:=(List.getElem?_eq_some_iff.1 h).1;omega
 ·rw[iF]at h
  split at h
  ·cases h;exact .inl rfl
  ·obtain ⟨cs,_,rfl⟩:=Option.map_eq_some_iff.1 h;exact .inr ⟨cs,rfl⟩
 ·rw[iF]at h2
  split at h2
  ·cases h2
  ·rename_i hlt
   obtain ⟨cs',a1,a2⟩:=Option.map_eq_some_iff.1 h2
   cases a2
   unfold sgR at h1
   rw[if_neg hlt]at h1
   obtain ⟨id2,own,z,D,b1,b2⟩:=nL _ _ a1
   rw[h1]at b1;cases b1
   refine ⟨own,z,D,?_⟩
   rw[b2,(ed (d:=d) (lx _ (List.mem_of_getElem? a1))).1]
theorem Jv{css:List (List Value)}{ids:List Nat}{H:Heap}(nL:∀(k:Nat) (cs:List Value),css[k]?=some cs->∃id own z,ids[k]?=some id/\H[id]?=some (aa.cells own z cs)):∀(k:Nat) (cs:List Value),css[k]?=some cs->∃id own z D,ids[k]?=some id/\H[id]?=some (aa.cells own z (cs++D)):=fun k cs h=>by
 obtain ⟨id,own,z,a,b⟩:=nL k cs h
 exact ⟨id,own,z,[],a,by rw[List.append_nil];exact b⟩
theorem zY{d:Nat}{css:List (List Value)}{ids:List Nat}{H:Heap}(lx:∀cs∈css,cs.all (ao 0)=true)(nL:∀(k:Nat) (cs:List Value),css[k]?=some cs->∃id own z,ids[k]?=some id/\H[id]?=some (aa.cells own z cs))(hl:ids.length=css.length) :
  Reads P (cq P.globals.size css).list H (sgR P.globals.size ids) (d+3):=yx lx (Jv nL) hl
theorem Jh(ew:fp P mixed mask)(fj:mixed=true->P.follows .mixedOrders=true)(n:Nat){f:FuncId}{args:List Value}{css:List (List Value)}{h:Hint}{v:Value}
  (lx:∀cs∈css,cs.all (ao 0)=true)
  (hc:vF P mask dm rounds mixed n true f args (cq P.globals.size css) (some []) h (fun v' _ _=>v'=v)) (hv:bn 0 v=true)
  {H:Heap} (ids:List Nat) (hl:ids.length=css.length) (nL:∀(k:Nat) (cs:List Value),css[k]?=some cs->∃id own z,ids[k]?=some id/\H[id]?=some (aa.cells own z cs)) :
  ad P f (args.map (rn (sgR P.globals.size ids) 5)) H [] (Is v H):=by
 have h1:ad P f args (cq P.globals.size css).list [] (Is v ((cq P.globals.size css).list ++ [])):=by
  have:=ad.clean (vc ew fj n (Q:=fun v' _=>v'=v) hc) hv
  simpa using this
 have:=ad.reads (zY (d:=2) lx nL hl) h1 (rnV (σ:=fun _=>none) (d:=0) hv).2 (rnV (d:=0) hv).1 rfl rfl
 rw[(rnV (d:=0) hv).1]at this
 simpa using this
def jC:Code->List (Array Nat×Code×Code)
 | .seq a b=>jC a++jC b
 | .cond _ a b=>jC a++jC b
 | .block _ b=>jC b
 | .loop b=>jC b
 | .scope b=>jC b
 | .rangeFunc _ ps a b=>(ps,a,b) :: (jC a++jC b)
 |_=>[]
def u6(P:Program)(f k:Nat):Prop :=
 match P.funcs[f]? with
 |some fn=>match fn.body with
  |some c=>match (jC c)[k]? with
   |some (ps,as,bd)=>fn.ntmps=fn.ntmps/\ps=ps/\as=as/\bd=bd
   |none=>False
  |none=>False
 |none=>False
section
variable {α:Type} {f:α->List Value} {n:Nat}
theorem aP(hf:∀x,(f x).length=n)(xs:List α):(xs.flatMap f).length=xs.length*n:=by
 induction xs with
 |nil=>simp
 |cons x xs ih=>rw[List.flatMap_cons,List.length_append,ih,hf,List.length_cons,Nat.succ_mul];omega
theorem xx(hf:∀x,(f x).length=n){xs:List α}{d:α}{k:Nat}(hk:k<xs.length):((xs.flatMap f).drop (k*n)).take n=f (xs.getD k d):=by
 have:=(qq (f:=f) (n:=n) (xs:=xs) hf k (xs.getD k d) (by rw[List.getD_eq_getElem?_getD,List.getElem?_eq_getElem hk];rfl)).2
 simpa using this
theorem eZ(hf:∀x,(f x).length=n){xs:List α}{d:α}{k off c:Nat}(hk:k<xs.length)(hoff:off=k*n+c){v:Value}(hv:(f (xs.getD k d))[c]?=some v):(xs.flatMap f)[off]?=some v:=by
 have hc:c<n:=by have:=(List.getElem?_eq_some_iff.1 hv).1;rw[hf]at this;exact this
 rw[<- xx hf hk,List.getElem?_take,if_pos hc,List.getElem?_drop]at hv
 rw[hoff];exact hv
theorem jc(hf:∀x,(f x).length=n){xs:List α}{d:α}{k off c m:Nat}(hk:k<xs.length)(hoff:off=k*n+c)(hm:c+m<=n):cN m (xs.flatMap f) off=some (.agg ⟨((f (xs.getD k d)).drop c).take m⟩):=by
 have hl:=aP hf xs
 have:(k+1)*n<=xs.length*n:=Nat.mul_le_mul_right n hk
 rw[Nat.add_mul,Nat.one_mul]at this
 unfold cN
 rw[if_pos (by omega),<- xx hf hk,List.drop_take,List.take_take,List.drop_drop,Nat.min_eq_left (by omega),hoff]
theorem zb(hf:∀x,(f x).length=n)(xs:List α)(x:α){k:Nat}(hk:k=xs.length):(List.take (k*n) (List.drop 0 (xs.flatMap f)))++f x=(xs ++ [x]).flatMap f:=by
 subst hk
 rw[List.drop_zero,List.take_of_length_le (by rw[aP hf];exact Nat.le_refl _),List.flatMap_append]
 simp
theorem cQ{m:Nat}(hf:∀x,(f x).all (ao m)=true)(xs:List α):(xs.flatMap f).all (ao m)=true:=by
 rw[List.all_flatMap,List.all_eq_true]
 intro r _;exact hf r
end
end
end Go.K
