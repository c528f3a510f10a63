/- Blocks that are read, as memory; ranges' records; lists in blocks. No condition. -/
import Derived.Test.YtkkgnalgmebfjaaGreatGV9xV13
open Go Go.K
set_option linter.unusedVariables false
set_option linter.unusedSimpArgs false
namespace Go.K
noncomputable section
variable {P:Program} {mask:Nat} {dm:Value->MS} {rounds:Nat} {mixed:Bool}
def ba(G:Nat)(css:List (List Value)):HT:=css.foldl (fun H cs=>H.push (.cells false 0 cs)) ⟨G,.leaf⟩
def sgR(G:Nat)(ids:List Nat)(i:Nat):Option Nat:=if i<G then some i else ids[i-G]?
theorem mc(G:Nat):∀(css:List (List Value)) (H:HT) (id:Nat),(css.foldl (fun H cs=>H.push (.cells false 0 cs)) H).n=H.n+css.length /\
  (css.foldl (fun H cs=>H.push (.cells false 0 cs)) H).list[id]?=if id<H.n then H.list[id]? else (css[id-H.n]?).map (fun cs=>aa.cells false 0 cs):=by
 intro css
 induction css with
 |nil =>
  intro H id
  refine ⟨rfl,?_⟩
  split
  ·rfl
  ·rw[List.getElem?_eq_none (by rw[List.foldl_nil,HT.length];omega)];simp
 |cons cs css ih =>
  intro H id
  obtain ⟨h1,h2⟩:=ih (H.push (.cells false 0 cs)) id
  have hn:(H.push (.cells false 0 cs)).n=H.n+1:=rfl
  refine ⟨by rw[List.foldl_cons,h1,hn,List.length_cons];omega,?_⟩
  rw[List.foldl_cons,h2,hn,HT.bW]
  by_cases c1:id<H.n
  ·rw[if_pos (by omega),if_pos c1,List.getElem?_append_left (by rw[HT.length];exact c1)]
  ·rw[if_neg c1]
   by_cases c2:id=H.n
   ·rw[if_pos (by omega),List.getElem?_append_right (by rw[HT.length];omega),HT.length,c2];simp
   ·rw[if_neg (by omega),show id-H.n=(id-(H.n+1))+1 by omega,List.getElem?_cons_succ]
theorem qk(G:Nat)(css:List (List Value)):(ba G css).n=G+css.length:=(mc G css ⟨G,.leaf⟩ 0).1
theorem kX(G:Nat)(css:List (List Value))(id:Nat):(ba G css).list[id]?=if id<G then some .dead else (css[id-G]?).map (fun cs=>aa.cells false 0 cs):=by
 rw[show (ba G css).list[id]?=_ from (mc G css ⟨G,.leaf⟩ id).2]
 show (if id<G then _ else _)=_
 split
 ·rename_i h
  rw[HT.aN]
  unfold HT.get
  show cond (Nat.blt id G) _ _=_
  rw[show Nat.blt id G=true by rw[Nat.blt_eq];exact h];rfl
 ·rfl
theorem nN{d:Nat}{css:List (List Value)}{ids:List Nat}{H:Heap}(ig:∀cs∈css,cs.all (aT 0)=true)(jn:∀(k:Nat) (cs:List Value),css[k]?=some cs->∃id own z D,ids[k]?=some id/\H[id]?=some (aa.cells own z (cs++D)))(hl:ids.length=css.length) :
  Reads P (ba P.globals.size css).list H (sgR P.globals.size ids) (d+3):=by
 have hn:(ba P.globals.size css).list.length=P.globals.size+css.length:=by rw[HT.length,qk]
 refine ⟨fun g hg=>if_pos hg,fun id id' h =>?_,by rw[hn];omega,fun id o h =>?_,fun id id' cs h1 h2 =>?_⟩
 ·rw[hn]
  unfold sgR at h
  split at h
  ·omega
  ·have:=(List.getElem?_eq_some_iff.1 h).1;omega
 ·rw[kX]at h
  split at h
  ·cases h;exact .inl rfl
  ·obtain ⟨cs,_,rfl⟩:=bv h;exact .inr ⟨cs,rfl⟩
 ·rw[kX]at h2
  split at h2
  ·cases h2
  ·rename_i hlt
   obtain ⟨cs',a1,a2⟩:=bv h2
   cases a2
   unfold sgR at h1
   rw[if_neg hlt]at h1
   obtain ⟨id2,own,z,D,b1,b2⟩:=jn _ _ a1
   rw[h1]at b1;cases b1
   refine ⟨own,z,D,?_⟩
   rw[b2,(jH (d:=d) (ig _ (List.mem_of_getElem? a1))).1]
theorem AW{css:List (List Value)}{ids:List Nat}{H:Heap}(jn:∀(k:Nat) (cs:List Value),css[k]?=some cs->∃id own z,ids[k]?=some id/\H[id]?=some (aa.cells own z cs)):∀(k:Nat) (cs:List Value),css[k]?=some cs->∃id own z D,ids[k]?=some id/\H[id]?=some (aa.cells own z (cs++D)):=fun k cs h=>by
 obtain ⟨id,own,z,a,b⟩:=jn k cs h
 exact ⟨id,own,z,[],a,by rw[List.append_nil];exact b⟩
theorem vS{d:Nat}{css:List (List Value)}{ids:List Nat}{H:Heap}(ig:∀cs∈css,cs.all (aT 0)=true)(jn:∀(k:Nat) (cs:List Value),css[k]?=some cs->∃id own z,ids[k]?=some id/\H[id]?=some (aa.cells own z cs))(hl:ids.length=css.length) :
  Reads P (ba P.globals.size css).list H (sgR P.globals.size ids) (d+3):=nN ig (AW jn) hl
theorem Bo(fy:f7 P mixed mask)(fZ:mixed=true->P.follows .mixedOrders=true)(n:Nat){f:FuncId}{args:List Value}{css:List (List Value)}{h:Hint}{v:Value}{new:List (Bool×aa)}
  (ig:∀cs∈css,cs.all (aT 0)=true)
  (hc:vF P mask dm rounds mixed n true f args (ba P.globals.size css) (some []) h (eS (ba P.globals.size css).n 3 v new))
  (hv:dr 3 v=true) (hv2:rn (da (P.globals.size+css.length)) 3 v=v) (hn:(new.map (·.2)).all (fun o=>dW 3 o&&o.owned)=true) (hn2:(new.map (·.2)).map (rno (da (P.globals.size+css.length)) 3)=new.map (·.2))
  {H:Heap} (ids:List Nat) (hl:ids.length=css.length) (jn:∀(k:Nat) (cs:List Value),css[k]?=some cs->∃id own z D,ids[k]?=some id/\H[id]?=some (aa.cells own z (cs++D))) :
  aF P f (args.map (rn (sgR P.globals.size ids) 3)) H [] (Is (rn (eF (P.globals.size+css.length) H.length) 3 v) (H++(new.map (·.2)).map (rno (eF (P.globals.size+css.length) H.length) 3))):=by
 have h1:=vcN fy fZ n hc
 have e:(ba P.globals.size css).list.length=P.globals.size+css.length:=by rw[HT.length,qk]
 have:=aF.reads (nN (d:=0) ig jn hl) h1 hv (by rw[e];exact hv2) hn (by rw[e];exact hn2)
 rw[e]at this
 exact this
theorem vcR(fy:f7 P mixed mask)(fZ:mixed=true->P.follows .mixedOrders=true)(n:Nat){f:FuncId}{args:List Value}{css:List (List Value)}{h:Hint}{v:Value}{new:List (Bool×aa)}
  (ig:∀cs∈css,cs.all (aT 0)=true)
  (hc:vF P mask dm rounds mixed n true f args (ba P.globals.size css) (some []) h (eS (ba P.globals.size css).n 3 v new))
  (hv:dr 3 v=true) (hv2:rn (da (P.globals.size+css.length)) 3 v=v) (hn:(new.map (·.2)).all (fun o=>dW 3 o&&o.owned)=true) (hn2:(new.map (·.2)).map (rno (da (P.globals.size+css.length)) 3)=new.map (·.2))
  {H:Heap} (ids:List Nat) (hl:ids.length=css.length) (jn:∀(k:Nat) (cs:List Value),css[k]?=some cs->∃id own z,ids[k]?=some id/\H[id]?=some (aa.cells own z cs)) :
  aF P f (args.map (rn (sgR P.globals.size ids) 3)) H [] (Is (rn (eF (P.globals.size+css.length) H.length) 3 v) (H++(new.map (·.2)).map (rno (eF (P.globals.size+css.length) H.length) 3))):=Bo fy fZ n ig hc hv hv2 hn hn2 ids hl (AW jn)
theorem Bp(fy:f7 P mixed mask)(fZ:mixed=true->P.follows .mixedOrders=true)(n:Nat){f:FuncId}{args:List Value}{css:List (List Value)}{h:Hint}{v:Value}
  (ig:∀cs∈css,cs.all (aT 0)=true)
  (hc:vF P mask dm rounds mixed n true f args (ba P.globals.size css) (some []) h (fun v' _ _=>v'=v)) (hv:cK 0 v=true)
  {H:Heap} (ids:List Nat) (hl:ids.length=css.length) (jn:∀(k:Nat) (cs:List Value),css[k]?=some cs->∃id own z,ids[k]?=some id/\H[id]?=some (aa.cells own z cs)) :
  aF P f (args.map (rn (sgR P.globals.size ids) 5)) H [] (Is v H):=by
 have h1:aF P f args (ba P.globals.size css).list [] (Is v ((ba P.globals.size css).list ++ [])):=by
  have:=aF.clean (vc fy fZ n (Q:=fun v' _=>v'=v) hc) hv
  simpa using this
 have:=aF.reads (vS (d:=2) ig jn hl) h1 (rnV (U:=fun _=>none) (d:=0) hv).2 (rnV (d:=0) hv).1 rfl rfl
 rw[(rnV (d:=0) hv).1]at this
 simpa using this
section
variable {Z:Type} {f:Z->List Value} {n:Nat}
theorem bg(hf:∀x,(f x).length=n)(xs:List Z):(xs.flatMap f).length=xs.length*n:=by
 induction xs with
 |nil=>simp
 |cons x xs ih=>rw[List.flatMap_cons,bH,ih,hf,List.length_cons,Nat.succ_mul];omega
theorem tZ(hf:∀x,(f x).length=n){xs:List Z}{d:Z}{k:Nat}(hk:k<xs.length):((xs.flatMap f).drop (k*n)).take n=f (xs.getD k d):=by
 have:=(oO (f:=f) (n:=n) (xs:=xs) hf k (xs.getD k d) (by rw[List.getD_eq_getElem?_getD,List.getElem?_eq_getElem hk];rfl)).2
 simpa using this
theorem eB(hf:∀x,(f x).length=n){xs:List Z}{d:Z}{k off c:Nat}(hk:k<xs.length)(hoff:off=k*n+c){v:Value}(hv:(f (xs.getD k d))[c]?=some v):(xs.flatMap f)[off]?=some v:=by
 have hc:c<n:=by have:=(List.getElem?_eq_some_iff.1 hv).1;rw[hf]at this;exact this
 rw[<- tZ hf hk,List.getElem?_take,if_pos hc,List.getElem?_drop]at hv
 rw[hoff];exact hv
theorem iu(hf:∀x,(f x).length=n){xs:List Z}{d:Z}{k off c m:Nat}(hk:k<xs.length)(hoff:off=k*n+c)(hm:c+m<=n):b6 m (xs.flatMap f) off=some (.agg ⟨((f (xs.getD k d)).drop c).take m⟩):=by
 have hl:=bg hf xs
 have:(k+1)*n<=xs.length*n:=Nat.mul_le_mul_right n hk
 rw[Nat.add_mul,Nat.one_mul]at this
 unfold b6
 rw[if_pos (by omega),<- tZ hf hk,List.drop_take,List.take_take,List.drop_drop,Nat.min_eq_left (by omega),hoff]
theorem iC(hf:∀x,(f x).length=n)(xs:List Z)(x:Z){k:Nat}(hk:k=xs.length):(List.take (k*n) (List.drop 0 (xs.flatMap f)))++f x=(xs ++ [x]).flatMap f:=by
 subst hk
 rw[List.drop_zero,List.take_of_length_le (by rw[bg hf];exact Nat.le_refl _),List.flatMap_append]
 simp
theorem dG{m:Nat}(hf:∀x,(f x).all (aT m)=true)(xs:List Z):(xs.flatMap f).all (aT m)=true:=by
 rw[List.all_flatMap,List.all_eq_true]
 intro r _;exact hf r
end
end
end Go.K
