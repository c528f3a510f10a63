/- Blocks that are read, as memory; ranges' records; lists in blocks. No condition. -/
import Derived.Test.YtmecpfikljhjaaaDoorGV10xV13
open Go Go.K
set_option linter.unusedVariables false
set_option linter.unusedSimpArgs false
namespace Go.K
noncomputable section
variable {P:Program} {mask:Nat} {dm:Value->MS} {rounds:Nat} {mixed:Bool}
def readsT(G:Nat)(css:List (List Value)):HT:=css.foldl (fun H cs=>H.push (.cells false 0 cs)) ⟨G,.leaf⟩
def sgR(G:Nat)(ids:List Nat)(i:Nat):Option Nat:=if i<G then some i else ids[i-G]?
theorem readsT_get(G:Nat):∀(css:List (List Value)) (H:HT) (id:Nat),(css.foldl (fun H cs=>H.push (.cells false 0 cs)) H).n=H.n+css.length /\
  (css.foldl (fun H cs=>H.push (.cells false 0 cs)) H).list[id]?=if id<H.n then H.list[id]? else (css[id-H.n]?).map (fun cs=>KObj.cells false 0 cs):=by
 intro css
 induction css with
 |nil =>
  intro H id
  refine ⟨rfl,?_⟩
  split
  ·rfl
  ·rw[List.getElem?_eq_none (by rw[List.foldl_nil,HT.length];omega)];simp
 |cons cs css ih =>
  intro H id
  obtain ⟨h1,h2⟩:=ih (H.push (.cells false 0 cs)) id
  have hn:(H.push (.cells false 0 cs)).n=H.n+1:=rfl
  refine ⟨by rw[List.foldl_cons,h1,hn,List.length_cons];omega,?_⟩
  rw[List.foldl_cons,h2,hn,HT.list_push]
  by_cases c1:id<H.n
  ·rw[if_pos (by omega),if_pos c1,List.getElem?_append_left (by rw[HT.length];exact c1)]
  ·rw[if_neg c1]
   by_cases c2:id=H.n
   ·rw[if_pos (by omega),List.getElem?_append_right (by rw[HT.length];omega),HT.length,c2];simp
   ·rw[if_neg (by omega),show id-H.n=(id-(H.n+1))+1 by omega,List.getElem?_cons_succ]
theorem readsT_n(G:Nat)(css:List (List Value)):(readsT G css).n=G+css.length:=(readsT_get G css ⟨G,.leaf⟩ 0).1
theorem readsT_list(G:Nat)(css:List (List Value))(id:Nat):(readsT G css).list[id]?=if id<G then some .dead else (css[id-G]?).map (fun cs=>KObj.cells false 0 cs):=by
 rw[show (readsT G css).list[id]?=_ from (readsT_get G css ⟨G,.leaf⟩ id).2]
 show (if id<G then _ else _)=_
 split
 ·rename_i h
  rw[HT.list_get]
  unfold HT.get
  show cond (Nat.blt id G) _ _=_
  rw[show Nat.blt id G=true by rw[Nat.blt_eq];exact h];rfl
 ·rfl
theorem reads_ofP{d:Nat}{css:List (List Value)}{ids:List Nat}{H:Heap}(hcss:∀cs∈css,cs.all (belowC 0)=true)(hids:∀(k:Nat) (cs:List Value),css[k]?=some cs->∃id own z D,ids[k]?=some id/\H[id]?=some (KObj.cells own z (cs++D)))(hl:ids.length=css.length) :
  Reads P (readsT P.globals.size css).list H (sgR P.globals.size ids) (d+3):=by
 have hn:(readsT P.globals.size css).list.length=P.globals.size+css.length:=by rw[HT.length,readsT_n]
 refine ⟨fun g hg=>if_pos hg,fun id id' h =>?_,by rw[hn];omega,fun id o h =>?_,fun id id' cs h1 h2 =>?_⟩
 ·rw[hn]
  unfold sgR at h
  split at h
  ·omega
  ·have:=(List.getElem?_eq_some_iff.1 h).1;omega
 ·rw[readsT_list]at h
  split at h
  ·cases h;exact .inl rfl
  ·obtain ⟨cs,_,rfl⟩:=Option.map_eq_some_iff.1 h;exact .inr ⟨cs,rfl⟩
 ·rw[readsT_list]at h2
  split at h2
  ·cases h2
  ·rename_i hlt
   obtain ⟨cs',a1,a2⟩:=Option.map_eq_some_iff.1 h2
   cases a2
   unfold sgR at h1
   rw[if_neg hlt]at h1
   obtain ⟨id2,own,z,D,b1,b2⟩:=hids _ _ a1
   rw[h1]at b1;cases b1
   refine ⟨own,z,D,?_⟩
   rw[b2,(rnCl (d:=d) (hcss _ (List.mem_of_getElem? a1))).1]
theorem idsP{css:List (List Value)}{ids:List Nat}{H:Heap}(hids:∀(k:Nat) (cs:List Value),css[k]?=some cs->∃id own z,ids[k]?=some id/\H[id]?=some (KObj.cells own z cs)):∀(k:Nat) (cs:List Value),css[k]?=some cs->∃id own z D,ids[k]?=some id/\H[id]?=some (KObj.cells own z (cs++D)):=fun k cs h=>by
 obtain ⟨id,own,z,a,b⟩:=hids k cs h
 exact ⟨id,own,z,[],a,by rw[List.append_nil];exact b⟩
theorem reads_of{d:Nat}{css:List (List Value)}{ids:List Nat}{H:Heap}(hcss:∀cs∈css,cs.all (belowC 0)=true)(hids:∀(k:Nat) (cs:List Value),css[k]?=some cs->∃id own z,ids[k]?=some id/\H[id]?=some (KObj.cells own z cs))(hl:ids.length=css.length) :
  Reads P (readsT P.globals.size css).list H (sgR P.globals.size ids) (d+3):=reads_ofP hcss (idsP hids) hl
theorem vcR0(hmask:MaskOk P mixed mask)(hmix:mixed=true->P.follows .mixedOrders=true)(n:Nat){f:FuncId}{args:List Value}{css:List (List Value)}{h:Hint}{v:Value}
  (hcss:∀cs∈css,cs.all (belowC 0)=true)
  (hc:vF P mask dm rounds mixed n true f args (readsT P.globals.size css) (some []) h (fun v' _ _=>v'=v)) (hv:belowV 0 v=true)
  {H:Heap} (ids:List Nat) (hl:ids.length=css.length) (hids:∀(k:Nat) (cs:List Value),css[k]?=some cs->∃id own z,ids[k]?=some id/\H[id]?=some (KObj.cells own z cs)) :
  KCall P f (args.map (rn (sgR P.globals.size ids) 5)) H [] (Is v H):=by
 have h1:KCall P f args (readsT P.globals.size css).list [] (Is v ((readsT P.globals.size css).list ++ [])):=by
  have:=KCall.clean (vc hmask hmix n (Q:=fun v' _=>v'=v) hc) hv
  simpa using this
 have:=KCall.reads (reads_of (d:=2) hcss hids hl) h1 (rnV (σ:=fun _=>none) (d:=0) hv).2 (rnV (d:=0) hv).1 rfl rfl
 rw[(rnV (d:=0) hv).1]at this
 simpa using this
def findR:Code->List (Array Nat×Code×Code)
 | .seq a b=>findR a++findR b
 | .cond _ a b=>findR a++findR b
 | .block _ b=>findR b
 | .loop b=>findR b
 | .scope b=>findR b
 | .rangeFunc _ ps a b=>(ps,a,b) :: (findR a++findR b)
 |_=>[]
def lrecOk(P:Program)(f k:Nat):Prop :=
 match P.funcs[f]? with
 |some fn=>match fn.body with
  |some c=>match (findR c)[k]? with
   |some (ps,as,bd)=>fn.ntmps=fn.ntmps/\ps=ps/\as=as/\bd=bd
   |none=>False
  |none=>False
 |none=>False
section
variable {α:Type} {f:α->List Value} {n:Nat}
theorem flat_len(hf:∀x,(f x).length=n)(xs:List α):(xs.flatMap f).length=xs.length*n:=by
 induction xs with
 |nil=>simp
 |cons x xs ih=>rw[List.flatMap_cons,List.length_append,ih,hf,List.length_cons,Nat.succ_mul];omega
theorem flat_at(hf:∀x,(f x).length=n){xs:List α}{d:α}{k:Nat}(hk:k<xs.length):((xs.flatMap f).drop (k*n)).take n=f (xs.getD k d):=by
 have:=(sees_flatMap (f:=f) (n:=n) (xs:=xs) hf k (xs.getD k d) (by rw[List.getD_eq_getElem?_getD,List.getElem?_eq_getElem hk];rfl)).2
 simpa using this
theorem cell_at(hf:∀x,(f x).length=n){xs:List α}{d:α}{k off c:Nat}(hk:k<xs.length)(hoff:off=k*n+c){v:Value}(hv:(f (xs.getD k d))[c]?=some v):(xs.flatMap f)[off]?=some v:=by
 have hc:c<n:=by have:=(List.getElem?_eq_some_iff.1 hv).1;rw[hf]at this;exact this
 rw[<- flat_at hf hk,List.getElem?_take,if_pos hc,List.getElem?_drop]at hv
 rw[hoff];exact hv
theorem part_at(hf:∀x,(f x).length=n){xs:List α}{d:α}{k off c m:Nat}(hk:k<xs.length)(hoff:off=k*n+c)(hm:c+m<=n):partA m (xs.flatMap f) off=some (.agg ⟨((f (xs.getD k d)).drop c).take m⟩):=by
 have hl:=flat_len hf xs
 have:(k+1)*n<=xs.length*n:=Nat.mul_le_mul_right n hk
 rw[Nat.add_mul,Nat.one_mul]at this
 unfold partA
 rw[if_pos (by omega),<- flat_at hf hk,List.drop_take,List.take_take,List.drop_drop,Nat.min_eq_left (by omega),hoff]
theorem flat_snoc(hf:∀x,(f x).length=n)(xs:List α)(x:α){k:Nat}(hk:k=xs.length):(List.take (k*n) (List.drop 0 (xs.flatMap f)))++f x=(xs ++ [x]).flatMap f:=by
 subst hk
 rw[List.drop_zero,List.take_of_length_le (by rw[flat_len hf];exact Nat.le_refl _),List.flatMap_append]
 simp
theorem plain_flat{m:Nat}(hf:∀x,(f x).all (belowC m)=true)(xs:List α):(xs.flatMap f).all (belowC m)=true:=by
 rw[List.all_flatMap,List.all_eq_true]
 intro r _;exact hf r
end
end
end Go.K
