/- Maps: what is found in canonical memory is found in real memory. No condition. -/
import Derived.Test.YtmecpfikljhjaaaDoorGK1xK7
import Derived.Deep.AppendSrc
open Go Go.K
set_option linter.unusedVariables false
set_option linter.unusedSimpArgs false
namespace Go.K
variable {P:Program} {V:Ren} {H:Heap}
theorem C7{k k':Value}(h:lf k=true)(hv:VR V k k'):k'=k:=by
 cases hv <;> first|rfl|simp[lf]at h
theorem kn{k k':Value}(h:fJ k=true)(hv:VR V k k'):k'=k:=by
 cases hv with
 | @agg cs cs' h1 h2 =>
  simp only[fJ,List.all_eq_true]at h
  congr 1
  refine Array.ext h1.symm fun i hi hi' =>?_
  exact C7 (h _ (by simp)) (h2 i _ _ (Array.getElem?_eq_getElem hi') (Array.getElem?_eq_getElem hi))
 |_=>first|rfl|simp[fJ,lf]at h
theorem pG{a b:Value}(h:qJ a b=true):a=b:=by
 unfold qJ at h
 split at h
 ·rw[eq_of_beq h]
 ·rw[Bool.and_eq_true,decide_eq_true_eq,decide_eq_true_eq]at h;rw[h.1,h.2]
 ·congr 1
  rename_i a b
  cases a with|mk a=>cases b with|mk b => 
   have:(ByteArray.mk a == ByteArray.mk b)=(a == b):=rfl
   rw[this]at h
   rw[eq_of_beq h]
 ·cases h
theorem pF:∀{l r:List Value},qI l r=true->l=r
 | [],[],_=>rfl
 |a :: l,b :: r,h=>by
  simp only[qI,Bool.and_eq_true]at h
  rw[pG h.1,pF h.2]
 | [],_ :: _,h=>by cases h
 |_ :: _,[],h=>by cases h
theorem te{a b:Value}(h:lN a b=true):a=b:=by
 unfold lN at h
 split at h
 ·rename_i xs ys
  congr 1
  exact Array.toList_inj.1 (pF h)
 ·exact pG h
theorem mI{v:Value}(h:lf v=true)(n:Nat):Instr.sameBits n v v=true:=by
 cases v <;> simp[lf]at h <;> simp[Instr.sameBits]
 rename_i s
 show (s.data == s.data)=true
 exact beq_self_eq_true _
theorem qj{v:Value}(h:fJ v=true)(n:Nat):Instr.sameBits (n+1) v v=true:=by
 cases v with
 |agg cs =>
  simp only[fJ,List.all_eq_true]at h
  simp only[Instr.sameBits,beq_self_eq_true,Bool.true_and,List.all_eq_true]
  intro p hp
  obtain ⟨i,hi⟩:=List.mem_iff_getElem?.1 hp
  rw[List.getElem?_zip_eq_some]at hi
  have:p.1=p.2:=by have:=hi.1.symm.trans hi.2;exact Option.some.inj this
  rw[<- this]
  exact mI (h _ (List.mem_of_getElem? hi.1)) n
 |_=>exact mI (by simpa[fJ] using h) _
theorem jZ{v:Value}(h:fJ v=true)(w:World):(Instr.keyThatStays v v).run P w = .ok v w:=by
 simp[Instr.keyThatStays,qj h]
theorem lL{t:TypeId}{cs:List Value}{off:Nat}{a:Value}(h:cq P t cs off=some a)(hc:∀v∈cs,lf v=true):fJ a=true:=by
 have hk:∀v,lf v=true->fJ v=true:=fun v h=>by cases v <;> simp[lf]at h <;> rfl
 unfold cq at h
 split at h
 ·split at h
  ·split at h
   ·cases h
    simp only[fJ,List.all_eq_true]
    exact fun v hv=>hc v (List.mem_of_mem_drop (List.mem_of_mem_take hv))
   ·cases h
  ·cases h
 ·exact hk a (hc a (List.mem_of_getElem? h))
 ·cases h
theorem gT(em:Bool):∀(d n:Nat) {t:TypeId} {x x':Value} {b:Bool},bR P d t x x=some b->fJ x=true->VR V x x'->d<=n->∀w:World,(Instr.checkKey em n t x').run P w = .ok () w:=by
 intro d
 induction d with
 |zero=>intro n t x x' b h;simp[bR]at h
 |succ d ih =>
  intro n t x x' b h hok hx hn w
  obtain ⟨n,rfl⟩:∃m,n=m+1:=⟨n-1,by omega⟩
  have hn:d<=n:=by omega
  unfold bR at h
  rw[Instr.checkKey]
  split at h
  ·rename_i hu _;cases hx;simp[ay hu]
  ·rename_i hu _;cases hx;simp[ay hu]
  ·rename_i hu _;cases hx;simp[ay hu]
  ·rename_i fs xs ys hu hxy
   cases hxy
   have hall:∀v∈xs.toList,lf v=true:=fun v hv=>List.all_eq_true.1 hok v hv
   split at h
   ·simp at h
   ·cases hx with
    | @agg _ xs' g1 g2 =>
     have hl:=VR.f0 (.agg g1 g2)
     simp only[Sem.run_bind,ay hu,Result.andThen_ok]
     have key:∀(fs:List Field) (b:Bool),dG P (bR P d) xs.toList xs.toList fs=some b->(forIn fs PUnit.unit (fun f r=>do
       if f.name ≠ "_" then Instr.checkKey em n f.type (<- part f.type xs' f.offset)
       pure (ForInStep.yield PUnit.unit)):Sem PUnit).run P w = .ok PUnit.unit w:=by
      intro fs
      induction fs with
      |nil=>intro b _;simp
      |cons f fs ihf =>
       intro b hb
       simp only[dG]at hb
       cases hr:dG P (bR P d) xs.toList xs.toList fs with
       |none=>simp[hr]at hb
       |some r =>
        simp only[hr]at hb
        have hrest:=ihf r hr
        simp only[List.forIn_cons,Sem.run_bind]
        split at hb
        ·rename_i hnm
         simp only[hnm,ne_eq,not_true_eq_false,if_false,Sem.run_pure,Result.andThen_ok]
         exact hrest
        ·rename_i hnm
         cases ha:cq P f.type xs.toList f.offset with
         |none=>simp[ha]at hb
         |some a =>
          simp only[ha]at hb
          obtain ⟨q,hq,rfl⟩:=aD hb
          obtain ⟨a',ha',hva⟩:=eQ (P:=P) ha hl w
          simp only[ne_eq,hnm,not_false_eq_true,if_true,Sem.run_bind,ha',Result.andThen_ok,ih n hq (lL ha hall) hva hn w,Sem.run_pure]
          exact hrest
     have:=key fs.toList _ h
     have e:=congrArg (fun r=>r.andThen fun a w'=>Result.ok () w') this
     simpa using e
  ·rename_i len e xs ys hu hxy
   cases hxy
   have hall:∀v∈xs.toList,lf v=true:=fun v hv=>List.all_eq_true.1 hok v hv
   cases hs:aT P e with
   |none=>simp[hs]at h
   |some sz =>
    simp only[hs]at h
    cases hx with
    | @agg _ xs' g1 g2 =>
     have hl:=VR.f0 (.agg g1 g2)
     simp only[Sem.run_bind,ay hu,Result.andThen_ok]
     simp only[Std.Legacy.Range.forIn_eq_forIn_range',Std.Legacy.Range.size,Nat.sub_zero,Nat.add_one_sub_one,Nat.div_one]
     have key:∀(m i:Nat) (b:Bool),ei P (bR P d) e sz xs.toList xs.toList i m=some b->(forIn (List.range' i m) PUnit.unit (fun i r=>do
       Instr.checkKey em n e (<- part e xs' (i*(<- sizeOf e)))
       pure (ForInStep.yield PUnit.unit)):Sem PUnit).run P w = .ok PUnit.unit w:=by
      intro m
      induction m with
      |zero=>intro i b _;simp
      |succ m ihm =>
       intro i b hb
       simp only[ei]at hb
       cases hr:ei P (bR P d) e sz xs.toList xs.toList (i+1) m with
       |none=>simp[hr]at hb
       |some r =>
        simp only[hr]at hb
        have hrest:=ihm (i+1) r hr
        cases ha:cq P e xs.toList (i*sz) with
        |none=>simp[ha]at hb
        |some a =>
         simp only[ha]at hb
         obtain ⟨q,hq,rfl⟩:=aD hb
         obtain ⟨a',ha',hva⟩:=eQ (P:=P) ha hl w
         simp only[List.range'_succ,List.forIn_cons,Sem.run_bind,bu hs,ha',Result.andThen_ok,ih n hq (lL ha hall) hva hn w,Sem.run_pure]
         exact hrest
     rw[key len 0 _ h];rfl
  all_goals (try (simp[fJ,lf]at hok;done))
  ·simp at h
def FR(V:Ren):Option (Nat×Value)->Option (Nat×Value)->Prop
 |none,none=>True
 |some (i,v),some (j,v')=>i=j/\VR V v v'
 |_,_=>False
def ER(V:Ren)(es:List (Value×Value))(es':List MapEntry):Prop:=es.length=es'.length/\∀(i:Nat) (k v:Value),es[i]?=some (k,v)->∃e':MapEntry,es'[i]?=some e'/\VR V k e'.key/\VR V v e'.val
theorem ER.cons{k v:Value}{es:List (Value×Value)}{es':List MapEntry}(h:ER V ((k,v) :: es) es'):∃e l,es'=e :: l/\VR V k e.key/\VR V v e.val/\ER V es l:=by
 cases es' with
 |nil=>have:=h.1;simp at this
 |cons e l =>
  obtain ⟨e',h1,h2,h3⟩:=h.2 0 k v rfl
  cases h1
  exact ⟨e,l,rfl,h2,h3,⟨by have:=h.1;simpa using this,fun i k v hi=>h.2 (i+1) k v hi⟩⟩
theorem sD{kt:TypeId}{d:TypeDesc}{x y x' y':Value}{b c:Bool}(hd:P.underlying kt=some d)(h:bR P Op.maxDepth kt x y=some b)(hx:VR V x x')(hy:VR V y y')(hs:Instr.sameNow d x' y'=some c):c=b:=by
 unfold Instr.sameNow at hs
 have hk:bR P (9999+1) kt x y=some b:=h
 unfold bR at hk
 rw[hd]at hk
 split at hs
 ·cases hx <;> cases hy <;> simp at hk
  split at hs
  ·rename_i e;subst e;simp at hk;cases hs;rw[<- hk.symm]
  ·cases hs
 ·cases hx <;> cases hy <;> simp at hk
  cases hs;rw[hk]
 ·cases hx <;> cases hy <;> simp at hk
  cases hs;rw[hk]
 ·cases hs
theorem ub{kt:TypeId}{d:TypeDesc}{x x':Value}(hd:P.underlying kt=some d)(hx:VR V x x'):∀{es:List (Value×Value)} {es':List MapEntry} (i:Nat) {r q:Option (Nat×Value)},fI P kt x es i=some r->ER V es es'->Instr.findNow d x' es' i=some q->FR V r q:=by
 intro es
 induction es with
 |nil =>
  intro es' i r q h he hq
  have:es'=[]:=List.length_eq_zero_iff.1 (by have:=he.1;simpa using this.symm)
  subst this
  cases h;cases hq;trivial
 |cons p es ih =>
  intro es' i r q h he hq
  obtain ⟨k,v⟩:=p
  obtain ⟨e,l,rfl,h1,h2,h3⟩:=he.cons
  simp only[fI]at h
  simp only[Instr.findNow]at hq
  cases hk:bR P Op.maxDepth kt x k with
  |none=>simp[hk]at h
  |some b =>
   simp only[hk]at h
   cases hs:Instr.sameNow d x' e.key with
   |none=>simp[hs]at hq
   |some c =>
    simp only[hs]at hq
    obtain rfl:=sD hd hk hx h1 hs
    cases c with
    |true=>cases h;cases hq;exact ⟨rfl,h2⟩
    |false=>exact ih (i+1) h h3 hq
theorem nS{kt:TypeId}{x x':Value}(hx:VR V x x')(w:World):∀{es:List (Value×Value)} {es':List MapEntry} (i:Nat) {r:Option (Nat×Value)},fI P kt x es i=some r->ER V es es'->∃q,(Instr.findAsking kt x' es' i).run P w = .ok q w/\FR V r q:=by
 intro es
 induction es with
 |nil =>
  intro es' i r h he
  have:es'=[]:=List.length_eq_zero_iff.1 (by have:=he.1;simpa using this.symm)
  subst this
  cases h
  exact ⟨none,rfl,trivial⟩
 |cons p es ih =>
  intro es' i r h he
  obtain ⟨k,v⟩:=p
  obtain ⟨e,l,rfl,h1,h2,h3⟩:=he.cons
  simp only[fI]at h
  cases hk:bR P Op.maxDepth kt x k with
  |none=>simp[hk]at h
  |some b =>
   simp only[hk]at h
   have he:(Op.equal kt x' e.key).run P w = .ok b w:=lh _ hk hx h1 w
   simp only[Instr.findAsking,Sem.run_bind,he,Result.andThen_ok]
   cases b with
   |true=>cases h;exact ⟨some (i,e.val),by simp,⟨rfl,h2⟩⟩
   |false=>obtain ⟨q,g1,g2⟩:=ih (i+1) h h3;exact ⟨q,by simpa using g1,g2⟩
theorem iD{kt:TypeId}{d:TypeDesc}{x x':Value}(hd:P.underlying kt=some d)(hx:VR V x x'){es:List (Value×Value)}{es':List MapEntry}{r:Option (Nat×Value)}(h:fI P kt x es 0=some r)(he:ER V es es')(w:World) :
  ∃q,(Instr.findKey kt x' es').run P w = .ok q w/\FR V r q:=by
 simp only[Instr.findKey,Sem.run_bind,ay hd,Result.andThen_ok]
 cases hq:Instr.findNow d x' es' 0 with
 |none=>obtain ⟨q,g1,g2⟩:=nS hx w 0 h he;exact ⟨q,by simpa using g1,g2⟩
 |some q=>exact ⟨q,by simp,ub hd hx 0 h he hq⟩
theorem w8{v v':Value}(ok b:Bool)(h:VR V v v'):VR V (yM ok v b) (if ok=true then .tuple #[v',.bool b] else v'):=by
 cases ok with
 |true=>exact (let q:VRl V [v,.bool b] [v',.bool b]:=VRl.cons h (VRl.cons (.bool _) (VRl.nil V)); .tuple q.1 (fun i a b x y=>q.2 i a b (by simpa using x) (by simpa using y)))
 |false=>exact h
theorem jG{kt:TypeId}{x:Value}(h:dM P kt x=true):∃d,P.underlying kt=some d:=by
 unfold dM at h
 rw[Bool.and_eq_true]at h
 cases hd:P.underlying kt with
 |some d=>exact ⟨d,rfl⟩
 |none =>
  exfalso
  obtain ⟨b,hb⟩:=Option.isSome_iff_exists.1 h.2
  have hk:bR P (9999+1) kt x x=some b:=hb
  unfold bR at hk
  simp[hd]at hk
theorem kj{t:TypeId}{z:Value}(h:dJ P t=some z):VR V z z:=by
 unfold dJ at h
 obtain ⟨v,_,h2⟩:=Option.bind_eq_some_iff.1 h
 split at h2
 ·cases h2;rename_i hc;exact fP hc
 ·cases h2
end Go.K
namespace Go.K
variable {P:Program} {w:World} {V:Ren} {H:Heap}
theorem run_places:∀(fs:List Field),fs.all (fun f=>(aT P f.type).isSome)=true->∀w:World,
  ∃ps:List (Nat×Nat),(fs.mapM (fun f=>do pure (f.offset,<- sizeOf f.type):Field->Sem (Nat×Nat))).run P w = .ok ps w/\ps.length=fs.length /\
   ∀i:Nat,ps[i]?=(fs[i]?).bind fun f=>(aT P f.type).map fun n=>(f.offset,n):=by
 intro fs
 induction fs with
 |nil=>intro _ w;exact ⟨[],rfl,rfl,fun i=>by simp⟩
 |cons f fs ih =>
  intro h w
  simp only[List.all_cons,Bool.and_eq_true]at h
  obtain ⟨n,hn⟩:=Option.isSome_iff_exists.1 h.1
  obtain ⟨ps,h1,h2,h3⟩:=ih h.2 w
  refine ⟨(f.offset,n) :: ps,?_,by simp[h2],fun i =>?_⟩
  ·rw[List.mapM_cons]
   simp only[Sem.run_bind,bu hn,Result.andThen_ok,Sem.run_pure,h1]
  ·cases i with
   |zero=>simp[hn]
   |succ i=>simpa using h3 i
theorem vp{t:TypeId}{parts parts':List (Nat×Value)}{v:Value}(h:qN P t parts=some v)(hlen:parts.length=parts'.length)
  (hp:∀(i:Nat) (x x':Nat×Value),parts[i]?=some x->parts'[i]?=some x'->x.1=x'.1/\VR V x.2 x'.2) (w:World) :
  ∃v',(Instr.build t ⟨parts'⟩).run P w = .ok v' w/\VR V v v':=by
 unfold qN at h
 split at h
 ·rename_i z fs hz hu
  split at h
  ·rename_i hall
   obtain ⟨c,hc,rfl⟩:=aD h
   obtain ⟨hzr,hzc⟩:=dd hz w
   obtain ⟨ps,hps,hpl,hpe⟩:=run_places fs.toList hall w
   have Gd:(fun i=>(ps.toArray)[i]?)=ve P fs:=by
    funext i
    simp[ve,hpe]
   obtain ⟨c',h1,h2⟩:=nT (cells':=z.cells) hc (fo hzc) hlen hp
   rw[<- Gd]at h1
   refine ⟨.agg c',?_,VRl.agg (by simpa using h2)⟩
   simp only[Instr.build,Sem.run_bind,hzr,ay hu,Result.andThen_ok]
   rw[Array.mapM_eq_mapM_toList]
   simp only[Sem.run_map,hps,Result.andThen_ok]
   simp only[h1]
   rfl
  ·simp at h
 ·rename_i z len e hz hu
  cases hn:aT P e with
  |none=>simp[hn]at h
  |some n =>
   simp only[hn]at h
   obtain ⟨c,hc,rfl⟩:=aD h
   obtain ⟨hzr,hzc⟩:=dd hz w
   obtain ⟨c',h1,h2⟩:=nT (cells':=z.cells) hc (fo hzc) hlen hp
   refine ⟨.agg c',?_,VRl.agg (by simpa using h2)⟩
   simp only[Instr.build,Sem.run_bind,hzr,ay hu,Result.andThen_ok,bu hn]
   simp only[h1]
   rfl
 ·simp at h
theorem l8{e e':Operand->Value}{l:List Operand}(h:∀x∈l,VR V (e x) (e' x)):VRl V (l.map e) (l.map e') :=
 ⟨by simp,fun i v v' a b=>by
  rw[List.getElem?_map]at a b
  obtain ⟨x,hx,rfl⟩:=aD a
  rw[hx]at b;simp at b;subst b
  exact h x (List.mem_of_getElem? hx)⟩
theorem xC{e e':Operand->Value}{l:Array Operand}(h:∀x∈l,VR V (e x) (e' x)):(l.map e).size=(l.map e').size/\∀(i:Nat) (v v':Value),(l.map e)[i]?=some v->(l.map e')[i]?=some v'->VR V v v':=by
 refine ⟨by simp,fun i v v' a b =>?_⟩
 rw[Array.getElem?_map]at a b
 obtain ⟨x,hx,rfl⟩:=aD a
 rw[hx]at b;simp at b;subst b
 exact h x (Array.mem_of_getElem? hx)
theorem ns{kt:TypeId}{d:TypeDesc}{z z' x x' v:Value}{ok:Bool}{es:List (Value×Value)}{es':List MapEntry}(hd:P.underlying kt=some d)(h:gK P kt z x ok es=some v)(hz:VR V z z')(hx:VR V x x')(he:ER V es es') :
  ∃q,(Instr.findKey kt x' es').run P w = .ok q w/\VR V v (if ok=true then .tuple #[(match q with|some (_,u)=>(u,true)|none=>(z',false)).1,.bool (match q with|some (_,u)=>(u,true)|none=>(z',false)).2] else (match q with|some (_,u)=>(u,true)|none=>(z',false)).1):=by
 unfold gK at h
 cases hf:fI P kt x es 0 with
 |none=>simp[hf]at h
 |some r =>
  obtain ⟨q,g1,g2⟩:=iD hd hx hf he w
  refine ⟨q,g1,?_⟩
  rw[hf]at h
  cases r with
  |none =>
   cases h
   cases q with
   |none=>exact w8 ok false hz
   |some _=>exact g2.elim
  |some p =>
   obtain ⟨i,u⟩:=p
   cases h
   cases q with
   |none=>exact g2.elim
   |some p'=>exact w8 ok true g2.2
theorem ta{t:TypeId}{m m' x x' v:Value}{ok:Bool}{rd:Option Nat}(h:iV P t m x ok H=some (v,rd))(hm:VR V m m')(hx:VR V x x')(ho:∀id,rd=some id->kJ V H w id) :
  ∃v',(Instr.lookup t m' x' ok).run P w = .ok v' w/\VR V v v':=by
 unfold iV at h
 split at h
 ·rename_i kt el hu
  have fit:∀{b},dM P kt x=b->b=true->(∃d,P.underlying kt=some d)/\∀em,(Instr.checkKey em 10000 kt x').run P w = .ok () w:=by
   rintro b hb rfl
   refine ⟨jG hb,fun em =>?_⟩
   unfold dM at hb
   rw[Bool.and_eq_true]at hb
   obtain ⟨c,hc⟩:=Option.isSome_iff_exists.1 hb.2
   exact gT em Op.maxDepth 10000 hc hb.1 hx (Nat.le_refl _) w
  split at h
  ·rename_i z hz hk
   cases h
   obtain ⟨⟨d,hd⟩,hck⟩:=fit hk rfl
   have hzr:=(dd hz w).1
   cases hm
   obtain ⟨q,g1,g2⟩:=ns (w:=w) (P:=P) (V:=V) (ok:=ok) (es:=[]) (es':=[]) hd rfl (kj hz) hx ⟨rfl,fun i k v h=>by simp at h⟩
   have hq:q=none:=by
    have:(Instr.findKey kt x' []).run P w = .ok none w:=by
     simp[Instr.findKey,ay hd,Instr.findNow]
    rw[this]at g1;cases g1;rfl
   subst hq
   refine ⟨_,?_,g2⟩
   simp only[Instr.lookup,Sem.run_bind,ay hu,Result.andThen_ok,Sem.run_pure,hck,g1,hzr]
  ·rename_i z id hz hk
   split at h
   ·rename_i es hid
    obtain ⟨u,hl,hh⟩:=aD h
    cases hh
    obtain ⟨⟨d,hd⟩,hck⟩:=fit hk rfl
    have hzr:=(dd hz w).1
    cases hm with
    | @map _ r hr =>
     obtain ⟨_,es',hb,⟨hlen,_⟩,hes⟩:=(ho id rfl).o _ _ hr hid
     obtain ⟨q,g1,g2⟩:=ns (w:=w) (V:=V) (es':=es'.toList) hd hl (kj hz) hx ⟨by simpa using hlen,fun i k v hi=>by simpa using hes i k v hi⟩
     have hg:(getObj r.b).run P w = .ok (.map es' es'.size) w:=by simp only[getObj,Sem.run,hb]
     refine ⟨_,?_,g2⟩
     simp only[Instr.lookup,Sem.run_bind,ay hu,Result.andThen_ok,Sem.run_pure,hck,g1,hg]
     cases q with
     |none=>simp only[Sem.run_bind,hzr,Result.andThen_ok,Sem.run_pure]
     |some p=>rfl
   ·simp at h
  ·simp at h
 ·simp at h
set_option maxHeartbeats 1000000 in
theorem pC{o:Oper}{e e':Operand->Value}{v:Value}{rd:Option Nat}(h:cT P o.op e H=some (v,rd))(he:∀x∈o.op.operands,VR V (e x) (e' x))
  (ho:∀id,rd=some id->kJ V H w id) (hm:∀b m,V.mem b=some m->∃ty fz,w.heap[b]?=some (.cells m ty fz)):∃v',(execOp e' o).run P w = .ok (.value v') w/\VR V v v':=by
 obtain ⟨dst,op,ty,pos,after,guard⟩:=o
 simp only at h he ⊢
 unfold cT at h
 split at h
 ·rename_i x;cases h;exact ⟨_,rfl,he x (by simp[Op.operands])⟩
 ·rename_i x;cases h;exact ⟨_,rfl,he x (by simp[Op.operands])⟩
 ·rename_i c a b
  have hc:=he c (by simp[Op.operands])
  split at h
  ·rename_i t ht
   rw[ht]at hc
   cases h
   generalize hq:e' c=q at hc
   cases hc
   refine ⟨if t then e' a else e' b,by simp[execOp,hq,asBool],?_⟩
   cases t
   ·exact he b (by simp[Op.operands])
   ·exact he a (by simp[Op.operands])
  ·simp at h
 ·rename_i t parts
  obtain ⟨u,hu,hh⟩:=aD h
  cases hh
  obtain ⟨v',h1,h2⟩:=vp (V:=V) (parts':=parts.toList.map fun p=>(p.1,e' p.2)) hu (by simp) (fun i x x' a b=>by
   rw[List.getElem?_map]at a b
   obtain ⟨p,hp,rfl⟩:=aD a
   rw[hp]at b;simp at b;subst b
   exact ⟨rfl,he _ (by simp only[Op.operands,List.mem_toArray,List.mem_map];exact ⟨p,List.mem_of_getElem? hp,rfl⟩)⟩) w
  refine ⟨v',?_,h2⟩
  have:parts.map (fun x=>(x.1,e' x.2))=⟨parts.toList.map fun p=>(p.1,e' p.2)⟩:=by apply Array.toList_inj.1;simp
  simp only[execOp,Sem.run_bind,this,h1,Result.andThen_ok,Sem.run_pure]
 ·rename_i t a
  split at h
  ·rename_i u hu
   cases h
   obtain ⟨v',h1,h2⟩:=vi hu (he a (by simp[Op.operands])) hm
   exact ⟨v',by simp[execOp,h1],h2⟩
  obtain ⟨u,hu,hh⟩:=aD h
  cases hh
  obtain ⟨v',h1,h2⟩:=pD hu (he a (by simp[Op.operands])) (ho _ rfl)
  exact ⟨v',by simp[execOp,h1],h2⟩
 ·rename_i x
  have hx:=he x (by simp[Op.operands])
  split at h
  ·rename_i a ha
   rw[ha]at hx
   cases h
   generalize hq:e' x=q at hx
   cases hx with
   |ptr hr=>exact ⟨_,by simp[execOp,hq],.ptr hr⟩
   |d4 hr=>exact ⟨_,by simp[execOp,hq],.d4 hr⟩
  ·rename_i o cs ha
   rw[ha]at hx
   cases h
   generalize hq:e' x=q at hx
   cases hx with|bX g1 g2 g3=>exact ⟨_,by simp[execOp,hq],.bX g1 g2 g3⟩
  ·rename_i f a b ha
   rw[ha]at hx
   cases h
   generalize hq:e' x=q at hx
   cases hx with|func h1 h2 h3 h4=>exact ⟨_,by simp[execOp,hq],.func h1 h2 h3 h4⟩
  ·rename_i f a b ha
   rw[ha]at hx
   cases h
   generalize hq:e' x=q at hx
   cases hx with|yield hr=>exact ⟨_,by simp[execOp,hq],.yield hr⟩
  ·simp at h
 ·rename_i op t x y ty2
  obtain ⟨u,hu,hh⟩:=aD h
  cases hh
  have:=AP (ox:=x) (oy:=y) hu (he x (by simp[Op.operands])) (he y (by simp[Op.operands])) w
  refine ⟨v,?_,this.2⟩
  simp only[execOp,Sem.run_bind,Sem.run_pure]
  have h1:=this.1
  rw[Sem.run_bind]at h1
  rw[h1];rfl
 ·rename_i op t x
  obtain ⟨u,hu,hh⟩:=aD h
  cases hh
  have:=C6 hu (he x (by simp[Op.operands])) w (P:=P)
  exact ⟨v,by simp[execOp,this.1],this.2⟩
 ·rename_i s d x
  obtain ⟨u,hu,hh⟩:=aD h
  cases hh
  have:=yQ hu (he x (by simp[Op.operands])) w
  exact ⟨v,by simp[execOp,this.1],this.2⟩
 ·rename_i f first cap
  cases h
  have h1:=xC (V:=V) (e:=e) (e':=e') (l:=first) (fun x hx=>he x (by simp[Op.operands,hx]))
  have h2:=xC (V:=V) (e:=e) (e':=e') (l:=cap) (fun x hx=>he x (by simp[Op.operands,hx]))
  exact ⟨_,rfl,.func h1.1 h1.2 h2.1 h2.2⟩
 ·rename_i t x lo hi
  have hlo:∀y,lo=some y->VR V (e y) (e' y):=fun y hy=>he y (by subst hy;simp[Op.operands])
  have hhi:∀y,hi=some y->VR V (e y) (e' y):=fun y hy=>he y (by subst hy;simp[Op.operands])
  obtain ⟨v',h1,h2⟩:=va (lo':=lo.map e') (hi':=hi.map e') h (he x (by simp[Op.operands]))
   (fun y hy=>by obtain ⟨z,rfl,rfl⟩:=aD hy;exact ⟨_,rfl,hlo z rfl⟩) (fun hy=>by simpa using hy)
   (fun y hy=>by obtain ⟨z,rfl,rfl⟩:=aD hy;exact ⟨_,rfl,hhi z rfl⟩) (fun hy=>by simpa using hy) ho
  exact ⟨v',by simp[execOp,h1],h2⟩
 ·rename_i s x f
  obtain ⟨u,hu,hh⟩:=aD h
  cases hh
  obtain ⟨v',h1,h2⟩:=nx hu (he x (by simp[Op.operands])) w
  exact ⟨v',by simp[execOp,h1],h2⟩
 ·rename_i s x f
  obtain ⟨u,hu,hh⟩:=aD h
  cases hh
  obtain ⟨v',h1,h2⟩:=vl hu (he x (by simp[Op.operands])) w
  exact ⟨v',by simp[execOp,h1],h2⟩
 ·rename_i t x i
  obtain ⟨u,hu,hh⟩:=aD h
  cases hh
  obtain ⟨v',h1,h2⟩:=nv hu (he x (by simp[Op.operands])) (he i (by simp[Op.operands])) w
  exact ⟨v',by simp[execOp,h1],h2⟩
 ·rename_i t x i
  obtain ⟨u,hu,hh⟩:=aD h
  cases hh
  obtain ⟨v',h1,h2⟩:=vk hu (he x (by simp[Op.operands])) (he i (by simp[Op.operands])) w
  exact ⟨v',by simp[execOp,h1],h2⟩
 ·rename_i x i
  have hx:=he x (by simp[Op.operands])
  split at h
  ·rename_i vs hv
   rw[hv]at hx
   obtain ⟨u,hu,hh⟩:=aD h
   cases hh
   generalize hq:e' x=q at hx
   cases hx with
   | @tuple _ vs' h1 h2 =>
    have hi:i<vs'.size:=h1 ▸ (Array.getElem?_eq_some_iff.1 hu).1
    exact ⟨vs'[i],by simp[execOp,hq,Instr.extract,hi],h2 i v _ hu (Array.getElem?_eq_getElem hi)⟩
  ·simp at h
 ·rename_i x t ts
  obtain ⟨v',h1,h2⟩:=AG (w:=w) h (he x (by simp[Op.operands,Call.operands])) ho ts ty
  refine ⟨v',?_,h2⟩
  simp[execOp,resolve,invoke,builtin,h1]
 ·rename_i xs ts
  obtain ⟨u,hu,hh⟩:=aD h
  cases hh
  obtain ⟨v',h1,h2⟩:=lM (P:=P) false hu (l8 (V:=V) (e':=e') (fun x hx=>he x (by simp[Op.operands,Call.operands];exact Array.mem_toList_iff.1 hx))) ts ty w
  refine ⟨v',?_,h2⟩
  have:xs.map e'=⟨xs.toList.map e'⟩:=by apply Array.toList_inj.1;simp
  simp only[Bool.false_eq_true,if_false]at h1
  simp[execOp,resolve,invoke,builtin,this,h1]
 ·rename_i xs ts
  obtain ⟨u,hu,hh⟩:=aD h
  cases hh
  obtain ⟨v',h1,h2⟩:=lM (P:=P) true hu (l8 (V:=V) (e':=e') (fun x hx=>he x (by simp[Op.operands,Call.operands];exact Array.mem_toList_iff.1 hx))) ts ty w
  refine ⟨v',?_,h2⟩
  have:xs.map e'=⟨xs.toList.map e'⟩:=by apply Array.toList_inj.1;simp
  simp only[if_true]at h1
  simp[execOp,resolve,invoke,builtin,this,h1]
 ·rename_i t x i ok
  obtain ⟨v',h1,h2⟩:=ta (w:=w) h (he x (by simp[Op.operands])) (he i (by simp[Op.operands])) ho
  exact ⟨v',by simp[execOp,h1],h2⟩
 ·simp at h
end Go.K
namespace Go.K
variable {P:Program} {w:World} {V:Ren} {H:Heap}
def Ren.set(V:Ren)(id:Nat)(r:RI):Ren:=⟨fun i=>if i=id then some r else V i,V.mem,V.g⟩
theorem Ren.ar(V:Ren)(id:Nat)(r:RI):V.set id r id=some r:=by simp[Ren.set]
theorem Ren.ao{V:Ren}{id i:Nat}{r:RI}(h:i≠id):V.set id r i=V i:=by simp[Ren.set,h]
theorem Ren.dA{V:Ren}{id:Nat}{r:RI}(h:V id=none):Ren.le V (V.set id r):=⟨fun i x hx=>by
 have:i≠id:=fun e=>by rw[e,h]at hx;cases hx
 rw[Ren.ao this];exact hx,fun _ _ h=>h,fun _ _ _ h=>h⟩
theorem dB(z:List Value):∀n,(cA z n).length=n*z.length:=by
 intro n
 induction n with
 |zero=>simp[cA]
 |succ n ih=>simp[cA,ih,Nat.add_mul,Nat.add_comm]
theorem s6(z:List Value):∀(n i:Nat),i<n*z.length->(cA z n)[i]?=z[i % z.length]? := by
 intro n
 induction n with
 |zero=>intro i h;simp at h
 |succ n ih =>
  intro i h
  simp only[cA]
  rcases Nat.lt_or_ge i z.length with hi|hi
  ·rw[List.getElem?_append_left hi,Nat.mod_eq_of_lt hi]
  ·rw[List.getElem?_append_right hi,ih _ (by rw[Nat.add_mul]at h;omega),<- Nat.mod_eq_sub_mod hi]
theorem lc(z:Array Value)(n:Nat):((Array.range (n*z.size)).map (fun i=>z[i % z.size]!)).toList=cA z.toList n:=by
  apply List.ext_getElem?
  intro i
  rcases Nat.lt_or_ge i (n*z.size) with hi|hi
  · have hz : 0 < z.size := by rcases Nat.eq_zero_or_pos z.size with h | h; · rw [h] at hi; simp at hi
                               · exact h
    have hm:i % z.size<z.size:=Nat.mod_lt _ hz
    rw[s6 _ _ _ (by simpa using hi)]
    simp[hi,hm]
  · have h1 : (cA z.toList n).length <= i := by rw [dB]; simpa using hi
    rw[List.getElem?_eq_none h1]
    simp[hi]
theorem nn{z:Value}(h:fY z=true)(n:Nat):VRl V (cA z.cells.toList n) (cA z.cells.toList n):=by
 refine ⟨rfl,fun i v v' a b =>?_⟩
 rw[a]at b;cases b
 have hi:=(List.getElem?_eq_some_iff.1 a).1
 rw[dB]at hi
 rw[s6 _ _ _ hi]at a
 exact (fo (V:=V) h).2 _ _ _ a a
theorem wrap_i64{x:Int}(h0:0<=x)(h1:x<2 ^ 63):IntKind.i64.wrap x=x:=by
 have h2:x % (2:Int) ^ 64=x:=Int.emod_eq_of_lt h0 (by omega)
 simp only[IntKind.wrap,IntKind.bits,IntKind.signed,h2]
 rw[if_neg]
 simp only[Bool.true_and,decide_eq_true_eq]
 omega
theorem Post.alloc{B base:Nat}{M:List Nat}(hr:Rel P B V H w){ob:aa}{obj:Obj}{ri:RI}(hb:ri.b=w.heap.size)(hob:base<=H.length)
  (ho:aK (V.set H.length ri) ri ob (w.alloc obj)):Post P B base M V H w (V.set H.length ri) (H ++ [ob]) (w.alloc obj):=by
 have hnone:V H.length=none:=by
  cases h:V H.length with
  |none=>rfl
  |some r=>exact absurd (hr.dom _ _ h) (Nat.lt_irrefl _)
 have hold:∀k,k<w.heap.size->(w.alloc obj).heap[k]?=w.heap[k]? := fun k hk=>RowKit.Below.heap_alloc w obj k hk
 have hget:∀id,id≠H.length->id<H.length+1->(H ++ [ob])[id]?=H[id]? := fun id h1 h2=>List.getElem?_append_left (by omega)
 have hnew:(H ++ [ob])[H.length]?=some ob:=by simp
 have hdom:∀id r,V.set H.length ri id=some r->id<H.length+1:=fun id r h=>by
  by_cases e:id=H.length
  ·omega
  ·rw[Ren.ao e]at h;have:=hr.dom _ _ h;omega
 refine ⟨⟨by simp;have:=hr.bsize;omega,fun g hg =>?_,fun id r h=>by simpa using hdom id r h,fun id r h =>?_,fun id r o h1 h2 =>?_,fun id r o h1 h2 h3 =>?_,?_,fun b m hm =>?_,?_⟩,Ren.dA hnone,fun id r h1 h2 =>?_,by simp,fun id h1 _ =>?_,by simp,fun b h1 _=>hold b h1,fun b h1 h2 =>?_,rfl,rfl,rfl,fun _ _ h => .inl h,by first|exact Nat.le_refl _|exact Nat.le_succ _,fun F k r a b=>(by rw[show (V.set H.length ri).g=V.g from rfl,b]at a;cases a)⟩
 ·obtain ⟨r,h1,h2,h3⟩:=hr.cX g hg
  exact ⟨r,Ren.dA hnone _ _ h1,h2,h3⟩
 ·by_cases e:id=H.length
  ·subst e;rw[Ren.ar]at h;cases h;rw[hb];simp
  ·rw[Ren.ao e]at h;have:=hr.lt _ _ h;simp;omega
 ·by_cases e:id=H.length
  ·subst e;rw[Ren.ar]at h1;cases h1;rw[hnew]at h2;cases h2;exact ho
  ·rw[Ren.ao e]at h1
   rw[hget id e (by have:=hr.dom _ _ h1;omega)]at h2
   exact (hr.obj id r o h1 h2).mono (Ren.dA hnone) (hold _ (hr.lt _ _ h1))
 ·by_cases e:id=H.length
  ·subst e;rw[Ren.ar]at h1;cases h1;rw[hb];exact hr.bsize
  ·rw[Ren.ao e]at h1
   rw[hget id e (by have:=hr.dom _ _ h1;omega)]at h2
   exact hr.base id r o h1 h2 h3
 ·intro id id' r r' o o' h1 h1' h2 h2' h3 h3' hne
  by_cases e:id=H.length
  ·subst e
   rw[Ren.ar]at h1;cases h1
   rw[Ren.ao (Ne.symm hne)]at h1'
   have:=hr.lt _ _ h1'
   omega
  ·rw[Ren.ao e]at h1
   by_cases e':id'=H.length
   ·subst e'
    rw[Ren.ar]at h1';cases h1'
    have:=hr.lt _ _ h1
    omega
   ·rw[Ren.ao e']at h1'
    rw[hget id e (by have:=hr.dom _ _ h1;omega)]at h2
    rw[hget id' e' (by have:=hr.dom _ _ h1';omega)]at h2'
    exact hr.sep id id' r r' o o' h1 h1' h2 h2' h3 h3' hne
 ·obtain ⟨⟨ty,fz,e⟩,k⟩:=hr.mem b m hm
  have hbl:b<w.heap.size:=(Array.getElem?_eq_some_iff.1 e).1
  refine ⟨⟨ty,fz,(hold b hbl).trans e⟩,fun id r o h1 h2 h3 =>?_⟩
  by_cases e2:id=H.length
  ·subst e2;rw[Ren.ar]at h1;cases h1;omega
  ·rw[Ren.ao e2]at h1
   rw[hget id e2 (by have:=hr.dom _ _ h1;omega)]at h2
   exact k id r o h1 h2 h3
 ·refine hr.fam.keep (Ren.dA hnone) (fun _ _ _ h=>h) (fun F z cs hF h=>by rw[List.getElem?_append_left hF]at h;exact h) (by simp) (by simp) (fun b hb =>?_) (fun id r o h1 h2 h3 =>?_) (fun b m h=>hr.fam.ew h)
  ·rcases Nat.lt_or_ge b w.heap.size with hl|hl
   ·exact hold b hl
   ·exact absurd hb (hr.fam.t7 hl)
  ·by_cases e:id=H.length
   ·subst e;rw[Ren.ar]at h1;cases h1;exact hr.fam.t7 (by omega)
   ·rw[Ren.ao e]at h1
    rw[hget id e (by have:=hr.dom _ _ h1;omega)]at h2
    exact hr.fam.free h1 h2 h3
 ·by_cases e:id=H.length
  ·omega
  ·rw[Ren.ao e,h2]at h1;cases h1
 ·exact List.getElem?_append_left (by omega)
 ·rcases h2 with ⟨id,r,o,h3,h4,h5,h6⟩|⟨F,k,r,z,cs,g,e2⟩
  ·by_cases e:id=H.length
   ·subst e;rw[Ren.ar]at h3;cases h3;omega
   ·rw[Ren.ao e]at h3
    rw[hget id e (by have:=hr.dom _ _ h3;omega)]at h4
    exact .inl ⟨id,r,o,h3,h4,h5,h6⟩
  ·have hF:=hr.fam.dom F k r g.g
   exact .inr ⟨F,k,r,z,cs,⟨g.g,by have:=g.h;rw[List.getElem?_append_left hF]at this;exact this,g.a⟩,e2⟩
theorem aK.ke{id z:Nat}{cs:List Value}{cs':Array Value}{ty:TypeId}(hn:V id=none)(h:VRl V cs cs'.toList) :
  aK (V.set id ⟨w.heap.size,0,cs'.size,z,true⟩) ⟨w.heap.size,0,cs'.size,z,true⟩ (.cells true z cs) (w.alloc (.cells cs' ty)):=by
 refine ⟨rfl,rfl,cs',ty,(0,0),World.alloc_heap_new w _,rfl,fun _=>rfl,fun i v hv =>?_⟩
 obtain ⟨v',h1,h2⟩:=h.get hv
 exact ⟨v',by simpa using h1,h2.mono (Ren.dA hn)⟩
theorem aK.yD{id z:Nat}{cs:List Value}{cs':Array Value}{ty:TypeId}(hn:V id=none)(h:∀(i:Nat) (v:Value),cs[i]?=some v->∃v':Value,cs'[i]?=some v'/\VR V v v') :
  aK (V.set id ⟨w.heap.size,0,cs'.size,z,true⟩) ⟨w.heap.size,0,cs'.size,z,true⟩ (.cells true z cs) (w.alloc (.cells cs' ty)):=by
 refine ⟨rfl,rfl,cs',ty,(0,0),World.alloc_heap_new w _,rfl,fun _=>rfl,fun i v hv =>?_⟩
 obtain ⟨v',h1,h2⟩:=h i v hv
 exact ⟨v',by simpa using h1,h2.mono (Ren.dA hn)⟩
theorem nC{o:Oper}{e e':Operand->Value}{v:Value}{id:Nat}{ob:aa}(h:gP P o.op e id=some (v,ob))(he:∀x∈o.op.operands,VR V (e x) (e' x))(hn:V id=none)(w:World) :
  ∃v' obj ri,(execOp e' o).run P w = .ok (.value v') (w.alloc obj)/\ri.b=w.heap.size/\VR (V.set id ri) v v'/\aK (V.set id ri) ri ob (w.alloc obj):=by
 obtain ⟨dst,op,ty,pos,after,guard⟩:=o
 simp only at h he ⊢
 unfold gP at h
 split at h
 ·rename_i t
  obtain ⟨z,hz,hh⟩:=aD h
  cases hh
  obtain ⟨hzr,hzc⟩:=dd hz w
  refine ⟨_,.cells z.cells t,⟨w.heap.size,0,z.cells.size,0,true⟩,?_,rfl,.ptr (Ren.ar _ _ _),aK.ke hn (fo hzc)⟩
  simp[execOp,Instr.alloc,hzr,newVar,newRow]
 ·rename_i t x
  have hnt:nt (e x)=true:=by
   cases hb:nt (e x) with
   |true=>rfl
   |false=>rw[if_neg (by rw[hb];simp)]at h;cases h
  rw[if_pos hnt]at h
  cases h
  have hx:=(he x (by simp[Op.operands])).cells hnt
  refine ⟨_,.cells (e' x).cells t,⟨w.heap.size,0,(e' x).cells.size,0,true⟩,?_,rfl,.ptr (Ren.ar _ _ _),aK.ke hn hx⟩
  simp[execOp,Instr.box,newVar,newRow]
 ·rename_i t len parts
  split at h
  ·rename_i el hu
   split at h
   ·rename_i n z hs hz
    split at h
    ·rename_i hc
     obtain ⟨c,hf,hh⟩:=aD h
     cases hh
     obtain ⟨hzr,hzc⟩:=dd hz w
     have hzs:z.cells.size=n:=by simpa using hc.1
     have Bi:((Array.range (len*n)).map (fun i=>(if len*n=0 then #[] else z.cells)[i % (if len*n=0 then (#[]:Array Value) else z.cells).size]!)).toList=cA z.cells.toList len:=by
      by_cases h0:len*n=0
      ·rw[h0];have:(cA z.cells.toList len).length=0:=by rw[dB];simp[hzs];simpa using h0
       rw[List.length_eq_zero_iff.1 this];simp
      ·rw[if_neg h0];rw[<- hzs];exact lc z.cells len
     obtain ⟨c',h1,h2⟩:=nT (V:=V) (parts':=parts.toList.map fun p=>(p.1,e' p.2)) (cells':=(Array.range (len*n)).map (fun i=>(if len*n=0 then #[] else z.cells)[i % (if len*n=0 then (#[]:Array Value) else z.cells).size]!)) hf
      (by rw[Bi];exact nn hzc len) (by simp) (fun i x x' a b=>by
       rw[List.getElem?_map]at a b
       obtain ⟨p,hp,rfl⟩:=aD a
       rw[hp]at b;simp at b;subst b
       exact ⟨rfl,he _ (by simp only[Op.operands,List.mem_toArray,List.mem_map];exact ⟨p,List.mem_of_getElem? hp,rfl⟩)⟩)
     have hcl:c'.size=len*n:=by
      have e1:=h2.1
      have e2:c.length=(cA z.cells.toList len).length:=by
       have:∀(parts:List (Nat×Value)) (cells c:List Value),ji (fun i=>some (i*n,n)) cells parts=some c->c.length=cells.length:=by
        intro parts
        induction parts with
        |nil=>intro cells c h;simp[ji]at h;subst h;rfl
        |cons p ps ih =>
         intro cells c h
         simp only[ji]at h
         split at h
         ·rw[ih _ _ h,cE]
         ·simp at h
       exact this _ _ _ hf
      rw[dB]at e2
      simp at e1 e2
      rw[hzs]at e2
      omega
     refine ⟨.slice (some ⟨w.heap.size,0,none⟩) len len,.cells c' el,⟨w.heap.size,0,c'.size,n,true⟩,?_,rfl,?_,aK.ke hn h2⟩
     ·have hp:parts.map (fun x=>(x.1,e' x.2))=⟨parts.toList.map fun p=>(p.1,e' p.2)⟩:=by apply Array.toList_inj.1;simp
      simp only[execOp,Instr.buildSlice,Sem.run_bind,ay hu,Result.andThen_ok,bu hs,hp]
      rw[Sem.run_ite,if_neg (by omega)]
      simp only[Sem.run_bind,Sem.run_pure,Result.andThen_ok]
      by_cases h0:len*n=0
      ·simp only[h0,if_true,Sem.run_pure,Result.andThen_ok]at h1 ⊢
       simp only[pure_bind,h1]
       simp[newRow]
      ·simp only[h0,if_false,Sem.run_pure,Sem.run_bind,hzr,Result.andThen_ok]at h1 ⊢
       simp only[h1]
       simp[newRow]
     ·cases len with
      |zero=>exact VR.av
      |succ len =>
       have:=VR.slice (V:=V.set id ⟨w.heap.size,0,c'.size,n,true⟩) (id:=id) (o:=0) (len:=len+1) (cap:=len+1) (cap':=len+1) (Ren.ar _ _ _) (Nat.le_refl _) (Nat.le_refl _) (fun _ _=>by simp[hcl])
       simpa using this
    ·simp at h
   ·simp at h
  ·simp at h
 ·rename_i t l c
  split at h
  ·rename_i el l' c' hu hl hc
   have hl2:=he l (by simp[Op.operands])
   have hc2:=he c (by simp[Op.operands])
   rw[hl]at hl2
   rw[hc]at hc2
   generalize hql:e' l=ql at hl2
   generalize hqc:e' c=qc at hc2
   cases hl2;cases hc2
   split at h
   ·rename_i n by_ z hs hby hz
    split at h
    ·rename_i hcond
     obtain ⟨hzl,h0,hlc,hcm,hbc⟩:=hcond
     cases h
     obtain ⟨hzr,hzc⟩:=dd hz w
     obtain ⟨i,hib,hir⟩:=yq hby w
     have hzs:z.cells.size=n:=by simpa using hzl
     have w1:IntKind.i64.wrap l'=l':=wrap_i64 h0 (by omega)
     have w2:IntKind.i64.wrap c'=c':=wrap_i64 (by omega) (by omega)
     refine ⟨.slice (some ⟨w.heap.size,0,none⟩) l'.toNat c'.toNat,.cells ((Array.range (c'.toNat*n)).map (fun i=>(if c'.toNat*n=0 then #[] else z.cells)[i % (if c'.toNat*n=0 then (#[]:Array Value) else z.cells).size]!)) el,
      ⟨w.heap.size,0,c'.toNat*n,n,true⟩,?_,rfl,?_,?_⟩
     ·simp only[execOp,hql,hqc,Instr.makeSlice,Sem.run_bind,ay hu,Result.andThen_ok,asInt,asIntOf,Sem.run_pure,hir,w1,w2]
      have ht:(decide (c'<0) ||decide ((i.bytes:Int)*c' > 2 ^ 48))=false:=by
       rw[hib];simp only[Bool.or_eq_false_iff,decide_eq_false_iff_not];omega
      have hcnd:¬ ((decide (c'<0) ||decide ((i.bytes:Int)*c' > 2 ^ 48) ||decide (l'<0) ||decide (l' > c'))=true):=by
       rw[ht];simp;omega
      rw[Sem.run_ite,if_neg hcnd]
      simp only[Sem.run_bind,run_askRoom,Result.andThen_ok,bu hs,Sem.run_pure]
      by_cases hz0:c'.toNat*n=0
      ·simp[hz0,newRow]
      ·simp only[hz0,if_false,Sem.run_bind,hzr,Result.andThen_ok,Sem.run_pure,newRow,run_newObj]
       simp
     ·have:=VR.slice (V:=V.set id ⟨w.heap.size,0,c'.toNat*n,n,true⟩) (id:=id) (o:=0) (len:=l'.toNat) (cap:=c'.toNat) (cap':=c'.toNat) (Ren.ar _ _ _) (by omega) (Nat.le_refl _) (fun _ _=>by simp)
      simpa using this
     ·have hrow:VRl V (cA z.cells.toList c'.toNat) ((Array.range (c'.toNat*n)).map (fun i=>(if c'.toNat*n=0 then #[] else z.cells)[i % (if c'.toNat*n=0 then (#[]:Array Value) else z.cells).size]!)).toList:=by
       by_cases h0':c'.toNat*n=0
       ·rw[h0'];have:(cA z.cells.toList c'.toNat).length=0:=by rw[dB];simp[hzs];simpa using h0'
        rw[List.length_eq_zero_iff.1 this];simpa using VRl.nil V
       ·rw[if_neg h0',<- hzs,lc z.cells];exact nn hzc _
      have:=aK.ke (w:=w) (z:=n) (ty:=el) hn hrow
      simpa using this
    ·simp at h
   ·simp at h
  ·simp at h
 ·rename_i t
  cases h
  refine ⟨.map (some w.heap.size),.map #[] 0,⟨w.heap.size,0,0,0,true⟩,by simp[execOp,Instr.makeMap],rfl,.map (Ren.ar _ _ _),rfl,#[],World.alloc_heap_new w _,⟨rfl,fun i e h=>by simp at h⟩,fun i k v hv=>by simp at hv⟩
 ·simp at h
end Go.K
namespace Go.K
variable {P:Program} {w:World} {V:Ren} {H:Heap}
theorem sC{b k:Nat}{cs:Array Value}{ty:TypeId}{fz:Nat×Nat}(hb:w.heap[b]?=some (.cells cs ty fz))(v:Value) :
  w.setCell ⟨b,k,none⟩ v=w.putObj b (.cells (cs.setIfInBounds k v) ty fz):=by
 have hlt:b<w.heap.size:=(Array.getElem?_eq_some_iff.1 hb).1
 have:w.heap.modify b (fun
   | .cells c elem frozen => .cells (if (none:Option Nat).isSome then c else c.setIfInBounds k v) elem frozen
   |o=>o)=w.heap.setIfInBounds b (.cells (cs.setIfInBounds k v) ty fz):=by
  apply Array.ext_getElem?
  intro i
  rw[Array.getElem?_modify]
  by_cases h:b=i
  ·subst h;rw[if_pos rfl,hb];simp[hlt]
  ·rw[if_neg h,Array.getElem?_setIfInBounds_ne h]
 simp only[World.setCell,World.putObj]
 rw[<- this]
 rfl
theorem oE(b:Nat)(o o':Obj):(w.putObj b o).putObj b o'=w.putObj b o':=by
 simp[World.putObj]
theorem eV{b:Nat}{o:Obj}(h:w.heap[b]?=some o):w.putObj b o=w:=by
 obtain ⟨hlt,he⟩:=Array.getElem?_eq_some_iff.1 h
 have:w.heap.setIfInBounds b o=w.heap:=by
  apply Array.ext_getElem?
  intro i
  by_cases hi:b=i
  ·subst hi;simp[hlt,he]
  ·rw[Array.getElem?_setIfInBounds_ne hi]
 simp only[World.putObj,this]
theorem putObj_size(b:Nat)(o:Obj):(w.putObj b o).heap.size=w.heap.size:=by simp[World.putObj]
theorem bO{b:Nat}{o o':Obj}(h:w.heap[b]?=some o):(w.putObj b o').heap[b]?=some o':=World.putObj_heap_same (Array.getElem?_eq_some_iff.1 h).1
theorem dy{b off:Nat}{ty:TypeId}:∀(vs:List Value) (i:Nat) (cs:Array Value) (w:World),w.heap[b]?=some (.cells cs ty (0,0))->vs.all (fun v=>v.oneCell')=true->off+i+vs.length<=cs.size ->
  (storeCells ⟨b,off,none⟩ vs i).run P w = .ok () (w.putObj b (.cells ⟨ba cs.toList (off+i) vs⟩ ty (0,0))):=by
 intro vs
 induction vs with
 |nil=>intro i cs w hb _ _;simp[storeCells,ba,eV hb]
 |cons v vs ih =>
  intro i cs w hb ho hle
  simp only[List.all_cons,Bool.and_eq_true]at ho
  have hi:off+i<cs.size:=by simp at hle;omega
  simp only[storeCells,Sem.run_bind,addr_add]
  have hfz:w.frozen? ⟨b,off+i,none⟩=false:=by simp[World.frozen?,hb]
  rw[run_store P w _ _ _ ho.1,cell_of hb,Array.getElem?_eq_getElem hi]
  simp only[hfz,Bool.false_eq_true,if_false,Result.andThen_ok]
  rw[sC hb]
  rw[ih (i+1) (cs.setIfInBounds (off+i) v) _ (bO hb) ho.2 (by simp at hle;simp;omega)]
  rw[oE]
  simp[ba,Nat.add_assoc]
theorem lO{n len:Nat}{x x':Value}{cs:List Value}(hq:deq x=x)(h:cP P n len x H=some cs)(hx:VR V x x')(ho:∀id,kJ V H w id) :
  ∃cs',(Builtin.firstCells n len x').run P w = .ok cs' w/\VRl V cs cs'.toList:=by
 unfold cP at h
 rw[hq]at h
 split at h
 ·split at h
  ·rename_i h0;cases h;cases hx;exact ⟨#[],rfl,.nil V⟩
  ·simp at h
 ·rename_i id off l c
  split at h
  ·rename_i own z cs0 hid
   split at h
   ·rename_i Ja
    obtain ⟨hll,hle⟩:=Ja
    cases h
    cases hx with
    | @slice _ _ r _ _ _ hr _ _ _ =>
     obtain ⟨_,_,cs',ty,fz,hb,hn,_,hcs⟩:=(ho id).o r _ hr hid
     have hv:=pf hcs hle
     rcases dF hcs hle with hsz|h0
     ·exact ⟨_,run_loadCells hb (by omega),hv⟩
     ·rw[h0]
      exact ⟨#[],by simp[Builtin.firstCells,h0,loadCells,loadCellsFrom],by simpa using VRl.nil V⟩
    | @aS _ _ r o' hr =>
     obtain rfl:len=0:=by omega
     exact ⟨#[],by simp[Builtin.firstCells,loadCells,loadCellsFrom],by simpa using VRl.nil V⟩
   ·simp at h
  ·simp at h
 ·simp at h
theorem gM{n len:Nat}{x x':Value}{cs:List Value}(h:cP P n len x H=some cs)(hx:VR V x x')(ho:∀id,kJ V H w id) :
  ∃cs',(Builtin.firstCells n len x').run P w = .ok cs' w/\VRl V cs cs'.toList:=by
 rcases zi x with hq|⟨id,off,k,l,cap,rfl⟩
 ·exact lO hq h hx ho
 ·rcases Nat.eq_zero_or_pos l with h0|h0
  ·subst h0
   unfold cP deq at h
   simp only at h
   split at h
   ·split at h
    ·rename_i hc
     obtain rfl:len=0:=by omega
     cases h
     obtain ⟨a,c,rfl⟩:∃a c,x' = .slice a 0 c:=by cases hx <;> exact ⟨_,_,rfl⟩
     exact ⟨#[],by cases a <;> simp[Builtin.firstCells,loadCells,loadCellsFrom],by simpa using VRl.nil V⟩
    ·cases h
   ·cases h
  ·exact lO (x:=.slice (some ⟨id,off,none⟩) l cap) rfl h (hx.deq h0) ho
theorem Post.drew{B base:Nat}{M:List Nat}(hr:Rel P B V H w):Post P B base M V H w V H w.drew :=
 ⟨hr.drew,Ren.le_refl _,fun id r a b=>(by rw[b]at a;cases a),Nat.le_refl _,fun _ _ _=>rfl,Nat.le_refl _,fun _ _ _=>rfl,fun _ _ h=>h,rfl,rfl,rfl,fun _ _ h => .inl h,by first|exact Nat.le_refl _|exact Nat.le_succ _,fun F k x a b=>(by first|(rw[b]at a;cases a)|(rw[show (V.set H.length r').g=V.g from rfl,b]at a;cases a))⟩
theorem aL{o:aa}(h:o.owned=true):o.alive=true:=by cases o <;> first|rfl|simp[aa.owned]at h
theorem Post.put{B base:Nat}{M:List Nat}(hr:Rel P B V H w){id:Nat}{r:RI}{ob ob':aa}{o':Obj}(hid:V id=some r)(ho:H[id]?=some ob)(hown:ob.owned=true)
  (hw:w.heap[r.b]?.isSome) (h':aK V r ob' (w.putObj r.b o')) (hM:id<base->id∈M) (hnf:∀z cs,ob' ≠ .fam z cs:=by intro _ _ h;cases h):Post P B base M V H w V (H.set id ob') (w.putObj r.b o'):=by
 have hlt:=hr.lt id r hid
 have Gf:=hr.dom id r hid
 have hoth:∀b,b≠r.b->(w.putObj r.b o').heap[b]?=w.heap[b]? := fun b hb=>World.putObj_heap_other hb
 have hown':∀o,(H.set id ob')[id]?=some o->o=ob':=fun o h=>by rw[List.getElem?_set_self Gf]at h;exact (Option.some.inj h).symm
 have hsep:∀id' r' o,id'≠id->V id'=some r'->H[id']?=some o->o.alive=true->r'.b≠r.b:=fun id' r' o hne h1 h2 h3=>(hr.sep id id' r r' ob o hid h1 ho h2 hown h3 (Ne.symm hne)).symm
 refine ⟨⟨by rw[putObj_size];exact hr.bsize,hr.cX,fun i x h=>by simpa using hr.dom i x h,fun i x h=>by rw[putObj_size];exact hr.lt i x h,fun i x o h1 h2 =>?_,fun i x o h1 h2 h3 =>?_,?_,fun b m hm =>?_,?_⟩,
  Ren.le_refl _,fun i x a b=>(by rw[b]at a;cases a),by simp,fun i h1 h2 =>?_,by rw[putObj_size];exact Nat.le_refl _,fun b h1 h2=>hoth b (fun e=>h2 (.inl ⟨id,r,ob,hid,ho,hown,e.symm⟩)),fun b h1 h2 =>?_,rfl,rfl,rfl,fun _ _ h => .inl h,by first|exact Nat.le_refl _|exact Nat.le_succ _,fun F k x a b=>(by first|(rw[b]at a;cases a)|(rw[show (V.set H.length r').g=V.g from rfl,b]at a;cases a))⟩
 ·by_cases e:i=id
  ·subst e;rw[hid]at h1;cases h1;rw[hown' _ h2];exact h'
  ·rw[List.getElem?_set_ne (Ne.symm e)]at h2
   cases ha:o.alive with
   |true=>exact (hr.obj i x o h1 h2).mono (Ren.le_refl _) (hoth _ (hsep i x o e h1 h2 ha))
   |false=>cases o <;> first|trivial|simp[aa.alive]at ha
 ·by_cases e:i=id
  ·subst e;rw[hid]at h1;cases h1;exact hr.base i r ob hid ho hown
  ·rw[List.getElem?_set_ne (Ne.symm e)]at h2;exact hr.base i x o h1 h2 h3
 ·intro i i' x x' o o2 h1 h1' h2 h2' h3 h3' hne
  by_cases e:i=id
  ·subst e
   rw[hid]at h1;cases h1
   rw[List.getElem?_set_ne hne]at h2'
   exact (hsep i' x' o2 (Ne.symm hne) h1' h2' h3').symm
  ·rw[List.getElem?_set_ne (Ne.symm e)]at h2
   by_cases e':i'=id
   ·subst e'
    rw[hid]at h1';cases h1'
    refine hsep i x o e h1 h2 ?_
    cases o <;> first|rfl|simp[aa.owned]at h3
   ·rw[List.getElem?_set_ne (Ne.symm e')]at h2'
    exact hr.sep i i' x x' o o2 h1 h1' h2 h2' h3 h3' hne
 ·obtain ⟨⟨ty,fz,e⟩,k⟩:=hr.mem b m hm
  refine ⟨⟨ty,fz,(hoth b (Ne.symm (k id r ob hid ho hown))).trans e⟩,fun i x o h1 h2 h3 =>?_⟩
  by_cases e2:i=id
  ·subst e2;rw[hid]at h1;cases h1;exact k i r ob hid ho hown
  ·rw[List.getElem?_set_ne (Ne.symm e2)]at h2;exact k i x o h1 h2 h3
 ·have hfree:=hr.fam.free hid ho (aL hown)
  refine hr.fam.keep (Ren.le_refl _) (fun _ _ _ h=>h) (fun F z cs hF h =>?_) (by simp) (by rw[putObj_size];exact Nat.le_refl _) (fun b hb=>hoth b (fun e=>hfree (e ▸ hb))) (fun i x o h1 h2 h3 =>?_) (fun b m h=>hr.fam.ew h)
  ·by_cases e:F=id
   ·subst e;exact absurd (hown' _ h).symm (hnf z cs)
   ·rw[List.getElem?_set_ne (Ne.symm e)]at h;exact h
  ·by_cases e:i=id
   ·subst e;rw[hid]at h1;cases h1;exact hfree
   ·rw[List.getElem?_set_ne (Ne.symm e)]at h2;exact hr.fam.free h1 h2 h3
 ·exact List.getElem?_set_ne (fun (e:id=i)=>h2 (by subst e;exact hM h1))
 ·rcases h2 with ⟨i,x,o,h3,h4,h5,h6⟩|⟨F,k,x,z,cs,g,e⟩
  ·by_cases e:i=id
   ·subst e;rw[hid]at h3;cases h3;exact .inl ⟨i,r,ob,hid,ho,hown,h6⟩
   ·rw[List.getElem?_set_ne (Ne.symm e)]at h4;exact .inl ⟨i,x,o,h3,h4,h5,h6⟩
  ·by_cases e2:F=id
   ·subst e2;exact absurd (hown' _ g.h).symm (hnf z cs)
   ·have:=g.h;rw[List.getElem?_set_ne (Ne.symm e2)]at this;exact .inr ⟨F,k,x,z,cs,⟨g.g,this,g.a⟩,e⟩
theorem Post.kill{B base:Nat}{M:List Nat}(hr:Rel P B V H w){id:Nat}{r:RI}{ob:aa}(hid:V id=some r)(ho:H[id]?=some ob)(hown:ob.owned=true)
  (hM:id<base->id∈M):Post P B base M V H w V (H.set id .dead) w:=by
 have hlt:=hr.lt id r hid
 have hs:w.heap[r.b]?=some w.heap[r.b]:=Array.getElem?_eq_getElem hlt
 have:=Post.put (base:=base) (M:=M) hr (ob':=.dead) (o':=w.heap[r.b]) hid ho hown (by rw[hs];rfl) trivial hM
 rwa [eV hs]at this
theorem Post.km{B base:Nat}{M:List Nat}(hr:Rel P B V H w){id:Nat}{ob:aa}(ho:H[id]?=some ob)(hown:ob.owned=true)
  (hM:id<base->id∈M):Post P B base M V H w V (H.set id .dead) w:=by
 cases hid:V id with
 |some r=>exact Post.kill hr hid ho hown hM
 |none =>
  have hget:∀i r,V i=some r->(H.set id .dead)[i]?=H[i]? := fun i r hi=>List.getElem?_set_ne (fun e=>by rw[<- e,hid]at hi;cases hi)
  have jc:∀(F z:Nat) (cs:List Value),(H.set id aa.dead)[F]?=some (aa.fam z cs)->H[F]?=some (aa.fam z cs):=fun F z cs h=>by
   by_cases e:F=id
   ·subst e
    rw[List.getElem?_set_self (List.getElem?_eq_some_iff.1 ho).1]at h;cases h
   ·rw[List.getElem?_set_ne (Ne.symm e)]at h;exact h
  refine ⟨⟨hr.bsize,hr.cX,fun i x h=>by simpa using hr.dom i x h,hr.lt,fun i x o h1 h2=>hr.obj i x o h1 (by rw[<- hget i x h1];exact h2),fun i x o h1 h2 h3=>hr.base i x o h1 (by rw[<- hget i x h1];exact h2) h3,
   fun i j x y o o' h1 h2 h3 h4=>hr.sep i j x y o o' h1 h2 (by rw[<- hget i x h1];exact h3) (by rw[<- hget j y h2];exact h4),fun b m hm=>⟨(hr.mem b m hm).1,fun i x o h1 h2 h3=>(hr.mem b m hm).2 i x o h1 (by rw[<- hget i x h1];exact h2) h3⟩,
   hr.fam.keep (Ren.le_refl _) (fun _ _ _ h=>h) (fun F z cs _ h=>jc F z cs h) (by simp) (Nat.le_refl _) (fun _ _=>rfl) (fun i x o h1 h2 h3=>hr.fam.free h1 (by rw[<- hget i x h1];exact h2) h3) (fun b m h=>hr.fam.ew h)⟩,
   Ren.le_refl _,fun i x a b=>(by rw[b]at a;cases a),by simp,fun i h1 h2 =>?_,Nat.le_refl _,fun _ _ _=>rfl,fun b h1 h2 =>?_,rfl,rfl,rfl,fun _ _ h => .inl h,by first|exact Nat.le_refl _|exact Nat.le_succ _,fun F k x a b=>(by first|(rw[b]at a;cases a)|(rw[show (V.set H.length r').g=V.g from rfl,b]at a;cases a))⟩
  ·exact List.getElem?_set_ne (fun e=>by subst e;exact h2 (hM h1))
  ·rcases h2 with ⟨i,x,o,k1,k2,k3,k4⟩|⟨F,k,x,z,cs,g,e⟩
   ·exact .inl ⟨i,x,o,k1,by rw[<- hget i x k1];exact k2,k3,k4⟩
   ·exact .inr ⟨F,k,x,z,cs,⟨g.g,jc _ _ _ g.h,g.a⟩,e⟩
theorem Post.move{B base:Nat}{M:List Nat}(hr:Rel P B V H w){id:Nat}{r r':RI}{ob ob':aa}{o':Obj}(hid:V id=some r)(ho:H[id]?=some ob)(hown:ob.owned=true)
  (hb:r'.b=r.b) (hob:base<=H.length) (h':aK (V.set H.length r') r' ob' (w.putObj r.b o')) (hM:id<base->id∈M) :
  Post P B base M V H w (V.set H.length r') (H.set id .dead ++ [ob']) (w.putObj r.b o'):=by
 have hlt:=hr.lt id r hid
 have Gf:=hr.dom id r hid
 have hnone:V H.length=none:=by
  cases h:V H.length with
  |none=>rfl
  |some r=>exact absurd (hr.dom _ _ h) (Nat.lt_irrefl _)
 have hoth:∀b,b≠r.b->(w.putObj r.b o').heap[b]?=w.heap[b]? := fun b hb=>World.putObj_heap_other hb
 have hsep:∀id' r' o,id'≠id->V id'=some r'->H[id']?=some o->o.alive=true->r'.b≠r.b:=fun id' r' o hne h1 h2 h3=>(hr.sep id id' r r' ob o hid h1 ho h2 hown h3 (Ne.symm hne)).symm
 have hnew:(H.set id aa.dead ++ [ob'])[H.length]?=some ob':=by simp
 have hget:∀i,i≠H.length->i<H.length+1->(H.set id aa.dead ++ [ob'])[i]?=(H.set id aa.dead)[i]? := fun i h1 h2=>List.getElem?_append_left (by simp;omega)
 have kx:(H.set id aa.dead)[id]?=some .dead:=List.getElem?_set_self Gf
 have hle:=Ren.dA (r:=r') hnone
 have jc:∀(F z:Nat) (cs:List Value),F<H.length->(H.set id aa.dead ++ [ob'])[F]?=some (.fam z cs)->H[F]?=some (.fam z cs):=fun F z cs hF h=>by
  rw[hget F (by omega) (by omega)]at h
  by_cases e:F=id
  ·subst e;rw[kx]at h;cases h
  ·rw[List.getElem?_set_ne (Ne.symm e)]at h;exact h
 refine ⟨⟨by rw[putObj_size];exact hr.bsize,fun g hg =>?_,fun i x h =>?_,fun i x h =>?_,fun i x o h1 h2 =>?_,fun i x o h1 h2 h3 =>?_,?_,fun b m hm =>?_,?_⟩,hle,fun i x h1 h2 =>?_,by simp,fun i h1 h2 =>?_,by rw[putObj_size];exact Nat.le_refl _,
  fun b h1 h2=>hoth b (fun e=>h2 (.inl ⟨id,r,ob,hid,ho,hown,e.symm⟩)),fun b h1 h2 =>?_,rfl,rfl,rfl,fun _ _ h => .inl h,by first|exact Nat.le_refl _|exact Nat.le_succ _,fun F k x a b=>(by first|(rw[b]at a;cases a)|(rw[show (V.set H.length r').g=V.g from rfl,b]at a;cases a))⟩
 ·obtain ⟨x,h1,h2,h3⟩:=hr.cX g hg
  exact ⟨x,hle _ _ h1,h2,h3⟩
 ·by_cases e:i=H.length
  ·subst e;simp
  ·rw[Ren.ao e]at h;have:=hr.dom _ _ h;simp;omega
 ·rw[putObj_size]
  by_cases e:i=H.length
  ·subst e;rw[Ren.ar]at h;cases h;rw[hb];exact hlt
  ·rw[Ren.ao e]at h;exact hr.lt _ _ h
 ·by_cases e:i=H.length
  ·subst e;rw[Ren.ar]at h1;cases h1;rw[hnew]at h2;cases h2;exact h'
  ·rw[Ren.ao e]at h1
   rw[hget i e (by have:=hr.dom _ _ h1;omega)]at h2
   by_cases e2:i=id
   ·subst e2;rw[kx]at h2;cases h2;trivial
   ·rw[List.getElem?_set_ne (Ne.symm e2)]at h2
    cases ha:o.alive with
    |true=>exact (hr.obj i x o h1 h2).mono hle (hoth _ (hsep i x o e2 h1 h2 ha))
    |false=>cases o <;> first|trivial|simp[aa.alive]at ha
 ·by_cases e:i=H.length
  ·subst e;rw[Ren.ar]at h1;cases h1;rw[hb];exact hr.base id r ob hid ho hown
  ·rw[Ren.ao e]at h1
   rw[hget i e (by have:=hr.dom _ _ h1;omega)]at h2
   by_cases e2:i=id
   ·subst e2;rw[kx]at h2;cases h2;simp[aa.owned]at h3
   ·rw[List.getElem?_set_ne (Ne.symm e2)]at h2;exact hr.base i x o h1 h2 h3
 ·intro i i' x x' o o2 h1 h1' h2 h2' h3 h3' hne
  have other:∀j y p,j≠H.length->V.set H.length r' j=some y->(H.set id aa.dead ++ [ob'])[j]?=some p->p.alive=true->j≠id/\V j=some y/\H[j]?=some p:=by
   intro j y p hj g1 g2 g3
   rw[Ren.ao hj]at g1
   rw[hget j hj (by have:=hr.dom _ _ g1;omega)]at g2
   by_cases e2:j=id
   ·subst e2;rw[kx]at g2;cases g2;simp[aa.alive]at g3
   ·rw[List.getElem?_set_ne (Ne.symm e2)]at g2;exact ⟨e2,g1,g2⟩
  have Bo:o.alive=true:=by cases o <;> first|rfl|simp[aa.owned]at h3
  by_cases e:i=H.length
  ·subst e
   rw[Ren.ar]at h1;cases h1
   obtain ⟨g1,g2,g3⟩:=other i' x' o2 (Ne.symm hne) h1' h2' h3'
   rw[hb]
   exact (hsep i' x' o2 g1 g2 g3 h3').symm
  ·obtain ⟨g1,g2,g3⟩:=other i x o e h1 h2 Bo
   by_cases e':i'=H.length
   ·subst e'
    rw[Ren.ar]at h1';cases h1'
    rw[hb]
    exact hsep i x o g1 g2 g3 Bo
   ·obtain ⟨g4,g5,g6⟩:=other i' x' o2 e' h1' h2' h3'
    exact hr.sep i i' x x' o o2 g2 g5 g3 g6 h3 h3' hne
 ·obtain ⟨⟨ty,fz,e⟩,k⟩:=hr.mem b m hm
  refine ⟨⟨ty,fz,(hoth b (Ne.symm (k id r ob hid ho hown))).trans e⟩,fun i x o h1 h2 h3 =>?_⟩
  have hal:o.alive=true:=by cases o <;> first|rfl|simp[aa.owned]at h3
  have other:∀j y p,j≠H.length->V.set H.length r' j=some y->(H.set id aa.dead ++ [ob'])[j]?=some p->p.alive=true->j≠id/\V j=some y/\H[j]?=some p:=by
   intro j y p hj g1 g2 g3
   rw[Ren.ao hj]at g1
   rw[hget j hj (by have:=hr.dom _ _ g1;omega)]at g2
   by_cases e2:j=id
   ·subst e2;rw[kx]at g2;cases g2;simp[aa.alive]at g3
   ·rw[List.getElem?_set_ne (Ne.symm e2)]at g2;exact ⟨e2,g1,g2⟩
  by_cases e2:i=H.length
  ·subst e2;rw[Ren.ar]at h1;cases h1;rw[hb];exact k id r ob hid ho hown
  ·obtain ⟨g1,g2,g3⟩:=other i x o e2 h1 h2 hal
   exact k i x o g2 g3 h3
 ·have hfree:=hr.fam.free hid ho (aL hown)
  refine hr.fam.keep hle (fun _ _ _ h=>h) (fun F z cs hF h=>jc F z cs hF h) (by simp) (by rw[putObj_size];exact Nat.le_refl _) (fun b hb=>hoth b (fun e=>hfree (e ▸ hb))) (fun i x o h1 h2 h3 =>?_) (fun b m h=>hr.fam.ew h)
  by_cases e:i=H.length
  ·subst e;rw[Ren.ar]at h1;cases h1;rw[hb];exact hfree
  ·rw[Ren.ao e]at h1
   rw[hget i e (by have:=hr.dom _ _ h1;omega)]at h2
   by_cases e2:i=id
   ·subst e2;rw[kx]at h2;cases h2;simp[aa.alive]at h3
   ·rw[List.getElem?_set_ne (Ne.symm e2)]at h2;exact hr.fam.free h1 h2 h3
 ·by_cases e:i=H.length
  ·omega
  ·rw[Ren.ao e,h2]at h1;cases h1
 ·rw[List.getElem?_append_left (by simp;omega)]
  exact List.getElem?_set_ne (fun (e:id=i)=>h2 (by subst e;exact hM h1))
 ·rcases h2 with ⟨i,x,o,h3,h4,h5,h6⟩|⟨F,k,x,z,cs,g,e⟩
  ·by_cases e:i=H.length
   ·subst e;rw[Ren.ar]at h3;cases h3;exact .inl ⟨id,r,ob,hid,ho,hown,by rw[<- hb];exact h6⟩
   ·rw[Ren.ao e]at h3
    rw[hget i e (by have:=hr.dom _ _ h3;omega)]at h4
    by_cases e2:i=id
    ·subst e2;rw[kx]at h4;cases h4;simp[aa.owned]at h5
    ·rw[List.getElem?_set_ne (Ne.symm e2)]at h4;exact .inl ⟨i,x,o,h3,h4,h5,h6⟩
  ·exact .inr ⟨F,k,x,z,cs,⟨g.g,jc F z cs (hr.fam.dom F k x g.g) g.h,g.a⟩,e⟩
theorem Post.IR{B base:Nat}{M:List Nat}(hr:Rel P B V H w){F k z:Nat}(hz0:0<z){r:RI}{cs cs2:List Value}{o':Obj}(hm:FM V H F k r z cs)
  (hl:cs2.length=cs.length) (hcs:∀i,(∀j,j<z->i≠k*z+j)->cs2[i]?=cs[i]?) (h':wq V r k z cs2 (w.putObj r.b o')) (hM:F<base->F∈M):Post P B base M V H w V (H.set F (.fam z cs2)) (w.putObj r.b o'):=by
 have hF:=hr.fam.dom F k r hm.g
 have hlt:=hr.fam.lt F k r hm.g
 have hoth:∀b,b≠r.b->(w.putObj r.b o').heap[b]?=w.heap[b]? := fun b hb=>World.putObj_heap_other hb
 have hsep:∀id' r' o,V id'=some r'->H[id']?=some o->o.alive=true->r'.b≠r.b:=fun id' r' o h1 h2 h3 e=>hr.fam.free h1 h2 h3 ⟨F,k,r,z,cs,hm,e.symm⟩
 have hget:∀(i:Nat) (o:aa),o.alive=true->(H.set F (.fam z cs2))[i]?=some o->H[i]?=some o:=fun i o ha h=>by
  by_cases e:i=F
  ·subst e;rw[List.getElem?_set_self hF]at h;cases h;simp[aa.alive]at ha
  ·rw[List.getElem?_set_ne (Ne.symm e)]at h;exact h
 have hfm:∀{F' k' r' z' c},FM V (H.set F (.fam z cs2)) F' k' r' z' c->∃c',FM V H F' k' r' z' c'/\((F'=F/\z'=z/\c=cs2/\c'=cs)∨(F'≠F/\c'=c)):=fun {F' k' r' z' c} m=>by
  by_cases e:F'=F
  ·subst e
   have h:=m.h
   rw[List.getElem?_set_self hF]at h;cases h
   exact ⟨cs,⟨m.g,hm.h,fun e=>by omega⟩,.inl ⟨rfl,rfl,rfl,rfl⟩⟩
  ·have h:=m.h
   rw[List.getElem?_set_ne (Ne.symm e)]at h
   exact ⟨c,⟨m.g,h,m.a⟩,.inr ⟨e,rfl⟩⟩
 refine ⟨⟨by rw[putObj_size];exact hr.bsize,hr.cX,fun i x h=>by simpa using hr.dom i x h,fun i x h=>by rw[putObj_size];exact hr.lt i x h,fun i x o h1 h2 =>?_,fun i x o h1 h2 h3=>hr.base i x o h1 (hget i o (aL h3) h2) h3,
   fun i i' x x' o o2 h1 h1' h2 h2' h3 h3' hne=>hr.sep i i' x x' o o2 h1 h1' (hget _ _ (aL h3) h2) (hget _ _ h3' h2') h3 h3' hne,fun b m hb =>?_,?_⟩,
  Ren.le_refl _,fun i x a b=>(by rw[b]at a;cases a),by simp,fun i h1 h2=>List.getElem?_set_ne (fun (e:F=i)=>h2 (by subst e;exact hM h1)),by rw[putObj_size];exact Nat.le_refl _,fun b h1 h2=>hoth b (fun e=>h2 (.inr ⟨F,k,r,z,cs,hm,e.symm⟩)),fun b h1 h2 =>?_,rfl,rfl,rfl,fun _ _ h => .inl h,Nat.le_refl _,fun F k x a b=>(by rw[b]at a;cases a)⟩
 ·cases ha:o.alive with
  |true=>exact (hr.obj i x o h1 (hget i o ha h2)).mono (Ren.le_refl _) (hoth _ (hsep i x o h1 (hget i o ha h2) ha))
  |false=>cases o <;> first|trivial|simp[aa.alive]at ha
 ·obtain ⟨⟨ty,fz,e⟩,q⟩:=hr.mem b m hb
  exact ⟨⟨ty,fz,(hoth b (fun e2=>hr.fam.mem F k r z cs b m hm hb e2.symm)).trans e⟩,fun i x o h1 h2 h3=>q i x o h1 (hget i o (aL h3) h2) h3⟩
 ·refine ⟨fun F' k' r' a=>by simpa using hr.fam.dom F' k' r' a,fun F' k' r' a=>by rw[putObj_size];exact hr.fam.lt F' k' r' a,fun F' k' r' z' c m =>?_,fun F' k' r' z' c m =>?_,fun F1 k1 r1 z1 c1 F2 k2 r2 z2 c2 m1 m2 e =>?_,fun F' k' r' z' c id r2 o m h1 h2 h3 =>?_,fun F' k' r' z' c b m2 m hb =>?_,fun F' k' r' c a h =>?_⟩
  ·obtain ⟨c',m',_⟩:=hfm m;exact hr.fam.base _ _ _ _ _ m'
  ·obtain ⟨c',m',hc⟩:=hfm m
   by_cases e:r'.b=r.b
   ·obtain ⟨rfl,rfl⟩:=hr.fam.sep _ _ _ _ _ _ _ _ _ _ m' hm e
    rcases hc with ⟨_,rfl,rfl,rfl⟩|⟨h,_⟩
    ·have e3:=m'.g.symm.trans hm.g
     cases e3
     exact h'
    ·exact absurd rfl h
   ·have ob:=(hr.fam.obj _ _ _ _ _ m').mono (Ren.le_refl _) (hoth _ e)
    rcases hc with ⟨rfl,rfl,rfl,rfl⟩|⟨_,rfl⟩
    ·obtain ⟨cs',ty,a1,a2,a3,a4,a5⟩:=ob
     refine ⟨cs',ty,a1,by rw[hl];exact a2,fun e=>by omega,a4,fun i v hi hv=>a5 i v hi ?_⟩
     rw[<- hcs (k'*z'+i) (fun j hj he =>?_)]
     ·exact hv
     ·have hk:k'≠k:=fun h=>e (by have e3:=m'.g;rw[h,hm.g]at e3;cases e3;rfl)
      rcases Nat.lt_or_ge k' k with q|q
      ·have:(k'+1)*z'<=k*z':=Nat.mul_le_mul_right _ q
       rw[Nat.add_mul]at this;omega
      ·have:(k+1)*z'<=k'*z':=Nat.mul_le_mul_right _ (by omega)
       rw[Nat.add_mul]at this;omega
    ·exact ob
  ·obtain ⟨c1',m1',_⟩:=hfm m1
   obtain ⟨c2',m2',_⟩:=hfm m2
   exact hr.fam.sep _ _ _ _ _ _ _ _ _ _ m1' m2' e
  ·obtain ⟨c',m',_⟩:=hfm m
   exact hr.fam.sep2 _ _ _ _ _ id r2 o m' h1 (hget id o h3 h2) h3
  ·obtain ⟨c',m',_⟩:=hfm m
   exact hr.fam.mem _ _ _ _ _ b m2 m' hb
  ·by_cases e:F'=F
   ·subst e;rw[List.getElem?_set_self hF]at h;cases h;omega
   ·rw[List.getElem?_set_ne (Ne.symm e)]at h;exact hr.fam.cnt F' k' r' c a h
 ·rcases h2 with ⟨i,x,o,h3,h4,h5,h6⟩|⟨F',k',x,z',c,g,e⟩
  ·exact .inl ⟨i,x,o,h3,hget i o (aL h5) h4,h5,h6⟩
  ·obtain ⟨c',m',_⟩:=hfm g
   exact .inr ⟨F',k',x,z',c',m',e⟩
theorem fB(vs:List Value):∀(l:List Value) (k i:Nat),k+vs.length<=l.length->(ba l k vs)[i]?=if k<=i/\i<k+vs.length then vs[i-k]? else l[i]? := by
 induction vs with
 |nil=>intro l k i h;simp[ba];intro h1 h2;omega
 |cons v vs ih =>
  intro l k i h
  simp only[ba]
  rw[ih _ _ _ (by simp at h ⊢;omega)]
  simp at h
  by_cases h1:i=k
  ·subst h1
   rw[if_neg (by omega),if_pos (by simp)]
   rw[List.getElem?_set_self (by omega)]
   simp
  ·rw[List.getElem?_set_ne (Ne.symm h1)]
   by_cases h2:k+1<=i/\i<k+1+vs.length
   ·rw[if_pos h2,if_pos (by simp;omega)]
    rw[show i-k=(i-(k+1))+1 by omega]
    simp
   ·rw[if_neg h2,if_neg (by simp;omega)]
theorem kR{cs vs vs':List Value}{cs':Array Value}{s off:Nat}(h:∀(i:Nat) (v:Value),cs[i]?=some v->∃v':Value,cs'[i+s]?=some v'/\VR V v v')
  (hv:VRl V vs vs') (hle:off+vs.length<=cs.length) (hle':off+s+vs'.length<=cs'.size) :
  ∀(i:Nat) (v:Value),(ba cs off vs)[i]?=some v->∃v':Value,(⟨ba cs'.toList (off+s) vs'⟩:Array Value)[i+s]?=some v'/\VR V v v':=by
 intro i v hi
 rw[fB _ _ _ _ hle]at hi
 have e:(⟨ba cs'.toList (off+s) vs'⟩:Array Value)[i+s]?=(ba cs'.toList (off+s) vs')[i+s]? := by simp
 rw[e,fB _ _ _ _ (by simpa using hle')]
 have hl:=hv.1
 split at hi
 ·rename_i hc
  rw[if_pos (by omega)]
  obtain ⟨v',h1,h2⟩:=hv.get hi
  exact ⟨v',by rw[show i+s-(off+s)=i-off by omega];exact h1,h2⟩
 ·rename_i hc
  rw[if_neg (by omega)]
  obtain ⟨v',h1,h2⟩:=h i v hi
  exact ⟨v',by simpa using h1,h2⟩
theorem u9{B base:Nat}{M:List Nat}{t:TypeId}{a a' x x':Value}{H':Heap}{wr:List Nat}(h:jD P t a x H=some (H',wr))(hr:Rel P B V H w)(ha:VR V a a')(hx:VR V x x')
    (hM:∀id∈wr,id<base->id∈M):∃w',(Instr.storeAt t a' x').run P w = .ok () w'/\Post P B base M V H w V H' w':=by
  unfold jD at h
  split at h
  · rename_i id off
    split at h
    · rename_i z cs hid
      cases hn:aT P t with
      |none=>simp[hn]at h
      | some n =>
        simp only[hn]at h
        split at h
        · rename_i hc
          obtain ⟨c1,c2,c3⟩:=hc
          cases h
          cases ha with
          | @ptr _ _ r hρ =>
            obtain ⟨e1,e2,cs',ty,fz,hb,hnz,hfz,hcs⟩:=hr.obj id r _ hρ hid
            obtain rfl:fz=(0,0):=hfz rfl
            have hxc:=hx.cells (pn c3)
            have hxl:x'.cells.toList.length=n:=by rw[<- hxc.1];exact c1
            have hle':off+r.s+n<=cs'.size∨n=0:=dF hcs c2
            rcases Nat.eq_zero_or_pos n with h0|h0
            · subst h0
              have hx0:x'.cells.toList=[]:=List.length_eq_zero_iff.1 hxl
              have hx0':x.cells.toList=[]:=List.length_eq_zero_iff.1 c1
              refine ⟨w.putObj r.b (.cells cs' ty (0,0)),?_,?_⟩
              · simp only [Instr.storeAt, Instr.sureAddr, storeVar, Sem.run_bind, Sem.run_pure, Result.andThen_ok, bu hn]
                rw[Sem.run_ite,if_neg (by simpa using hxl)]
                simp[hx0,storeCells,eV hb]
              · rw [hx0']
                refine Post.put hr hρ hid rfl (by rw[hb];rfl) ?_ (fun hlt=>hM id (by simp) hlt)
                exact ⟨e1,e2,cs',ty,(0,0),bO hb,hnz,fun _=>rfl,hcs⟩
            · have hle2 : off + r.s + n <= cs'.size := by rcases hle' with h | h; exact h; omega
              refine ⟨w.putObj r.b (.cells ⟨ba cs'.toList (off+r.s) x'.cells.toList⟩ ty (0,0)),?_,Post.put hr hρ hid rfl (by rw[hb];rfl) ?_ (fun hlt=>hM id (by simp) hlt)⟩
              · simp only [Instr.storeAt, Instr.sureAddr, storeVar, Sem.run_bind, Sem.run_pure, Result.andThen_ok, bu hn]
                rw [Sem.run_ite, if_neg (by have : x'.cells.size = n := by simpa using hxl
                                            simp[this])]
                have hrun:=dy (P:=P) (b:=r.b) (off:=off+r.s) x'.cells.toList 0 cs' w hb (VRl.oneCell hxc c3) (by rw[hxl];omega)
                simpa using hrun
              · refine ⟨e1, e2, _, ty, (0, 0), bO hb, by rw [<- hnz]; simp [cE], fun _ => rfl, ?_⟩
                exact kR hcs hxc (by omega) (by omega)
        · simp at h
    · simp at h
  · rename_i F off k
    split at h
    · rename_i z cs hid
      cases hn:aT P t with
      |none=>simp[hn]at h
      | some n =>
        simp only[hn]at h
        split at h
        · rename_i hc
          obtain ⟨c1,c2,c4,c3⟩:=hc
          cases h
          cases ha with
          | @d4 _ _ _ r hρ =>
            have hm:FM V H F k r (z+1) cs:=⟨hρ,hid,fun e=>absurd e (Nat.succ_ne_zero _)⟩
            obtain ⟨cs',ty,hb,hl,hz,hs,hcs⟩:=hr.fam.obj F k r (z+1) cs hm
            have hxc:=hx.cells (pn c3)
            have hxl:x'.cells.toList.length=n:=by rw[<- hxc.1];exact c1
            have hsl:∀i,(ba cs (k*(z+1)+off) x.cells.toList)[i]?=if k*(z+1)+off<=i/\i<k*(z+1)+off+n then x.cells.toList[i-(k*(z+1)+off)]? else cs[i]? := fun i=>by
              rw[fB _ _ _ _ (by rw[c1];omega),c1]
            have hrow:∀(i:Nat) (v:Value),i<z+1->(ba cs (k*(z+1)+off) x.cells.toList)[k*(z+1)+i]?=some v->∃v':Value,(⟨ba cs'.toList (off+r.s) x'.cells.toList⟩:Array Value)[i+r.s]?=some v'/\VR V v v':=fun i v hi hv=>by
              rw[hsl]at hv
              have e:(⟨ba cs'.toList (off+r.s) x'.cells.toList⟩:Array Value)[i+r.s]?=(ba cs'.toList (off+r.s) x'.cells.toList)[i+r.s]? := by simp
              rw[e,fB _ _ _ _ (by rw[hxl];simp only[Array.length_toList];omega),hxl]
              split at hv
              · rename_i hq
                rw[if_pos (by omega)]
                obtain ⟨v',h1,h2⟩:=hxc.get hv
                exact ⟨v',by rw[show i+r.s-(off+r.s)=k*(z+1)+i-(k*(z+1)+off) by omega];exact h1,h2⟩
              · rename_i hq
                rw[if_neg (by omega)]
                obtain ⟨v',h1,h2⟩:=hcs i v hi hv
                exact ⟨v',by simpa using h1,h2⟩
            refine ⟨w.putObj r.b (.cells ⟨ba cs'.toList (off+r.s) x'.cells.toList⟩ ty (0,0)),?_,Post.IR hr (show 0<z+1 by omega) hm (cE _ _ _) (fun i hi =>?_) ?_ (fun hlt=>hM F (by simp) hlt)⟩
            · simp only [Instr.storeAt, Instr.sureAddr, storeVar, Sem.run_bind, Sem.run_pure, Result.andThen_ok, bu hn]
              rw [Sem.run_ite, if_neg (by have : x'.cells.size = n := by simpa using hxl
                                          simp[this])]
              have hrun:=dy (P:=P) (b:=r.b) (off:=off+r.s) x'.cells.toList 0 cs' w hb (VRl.oneCell hxc c3) (by rw[hxl];omega)
              simpa using hrun
            · rw [hsl, if_neg]
              intro hq
              exact hi (i-k*(z+1)) (by omega) (by omega)
            · exact ⟨_,ty,bO hb,by rw[cE];exact hl,fun e=>absurd e (Nat.succ_ne_zero _),by simpa[cE] using hs,hrow⟩
        · simp at h
    · simp at h
  · simp at h
theorem run_append_room'(t tx ty e:TypeId)(i:TypeInfo)(ht:P.underlying t=some (.slice e))(hi:P.info? e=some i)(b off sLen sCap:Nat)(x:Value)(n:Nat)(news:List Value)(hs:Src P i.size tx x n news w)
  (hroom:sLen+n<=sCap) {cs:Array Value} {ety:TypeId} (hb:w.heap[b]?=some (.cells cs ety (0,0))) (hle:off+sLen*i.size+news.length<=cs.size) :
  (Builtin.append_ #[t,tx] ty #[.slice (some ⟨b,off,none⟩) sLen sCap,x]).run P w = .ok (.slice (some ⟨b,off,none⟩) (sLen+n) sCap) (w.putObj b (.cells ⟨ba cs.toList (off+sLen*i.size) news⟩ ety (0,0))):=by
 have hst:=dy (P:=P) (off:=off+sLen*i.size) news 0 cs w hb (by rw[List.all_eq_true];exact hs.one) (by simpa using hle)
 simp only[Nat.add_zero]at hst
 rcases hs.kind with ⟨e',hk⟩|hk <;> simp[Builtin.append_,run_underlying ht,run_underlying hk,sizeOf,typeInfo,hi,hs.len,hroom,hs.cells,addr_add,hst]
theorem kW{B:Nat}(hr:Rel P B V H w)(id:Nat):kJ V H w id:=⟨fun r o h1 h2=>hr.obj id r o h1 h2,fun k r z cs m=>hr.fam.obj id k r z cs m⟩
theorem ti{B base:Nat}{M:List Nat}{t u:TypeId}{s s' x x' v:Value}{H':Heap}{wr:List Nat}(h:gO P t s x H=some (v,H',wr))(hu:∃e,P.underlying u=some (.slice e))(hr:Rel P B V H w)
  (hs:VR V s s') (hx:VR V x x') (hM:∀id∈wr,id<base->id∈M) (hob:base<=H.length) (ty:TypeId) :
  ∃v' w' ρ',(Builtin.append_ #[t,u] ty #[s',x']).run P w = .ok v' w'/\VR ρ' v v'/\Post P B base M V H w ρ' H' w':=by
 obtain ⟨e0,hu⟩:=hu
 unfold gO at h
 split at h
 ·rename_i el sb len cap xb m xc hut
  split at h
  ·rename_i n by_ hsz hby
   have hsz':aT P el=some (n+1):=hsz
   obtain ⟨i,hi,hisz,hir⟩:=sF hsz' w
   have hib:i.bytes=by_:=by
    unfold gN at hby;rw[hi]at hby;simpa using hby
   split at h
   ·rename_i hbd
    obtain ⟨hb1,hb2,hb3⟩:=hbd
    have JA:len+m<=2 ^ 44:=Nat.le_trans (Nat.le_mul_of_pos_right _ hb2) hb1
    obtain ⟨x'l,x'c,hx'⟩:∃a c,x' = .slice a m c:=by cases hx <;> exact ⟨_,_,rfl⟩
    obtain ⟨s'l,s'c,hs',hsc⟩:∃a c,s' = .slice a len c/\cap<=c:=by
     cases hs with
     |aU=>exact ⟨_,_,rfl,Nat.le_refl _⟩
     |slice _ _ hc _=>exact ⟨_,_,rfl,hc⟩
     |aS=>exact ⟨_,_,rfl,Nat.le_refl _⟩
     |bE=>exact ⟨_,_,rfl,Nat.le_refl _⟩
     |au=>exact ⟨_,_,rfl,Nat.le_refl _⟩
     |av=>exact ⟨_,_,rfl,Nat.le_refl _⟩
     |aF _ _ _ hc _=>exact ⟨_,_,rfl,hc⟩
     |ax=>exact ⟨_,_,rfl,Nat.zero_le _⟩
     |aX _ _ _ hc _=>exact ⟨_,_,rfl,hc⟩
    split at h
    ·rename_i hm0
     subst hm0
     cases h
     have hlc:len<=s'c:=by
      cases hs with
      |aU=>omega
      |slice _ hl hc _=>cases hs';omega
      |aS=>omega
      |bE=>omega
      |au=>omega
      |av=>omega
      |aF _ _ hl hc _=>cases hs';omega
      |ax=>omega
      |aX _ _ hl hc _=>cases hs';omega
     have hx0:∀w:World,(Builtin.firstCells (n+1) 0 x').run P w = .ok #[] w:=by
      intro w;rw[hx'];cases x'l <;> simp[Builtin.firstCells,loadCells,loadCellsFrom]
     refine ⟨s',w,V,?_,hs,Post.refl hr⟩
     rw[hs',hx']
     rw[hx']at hx0
     cases s'l <;> simp[Builtin.append_,ay hut,ay hu,bu hsz',Builtin.lenOf,hlc,hx0,storeCells]
    ·rename_i hm0
     cases hold:cP P (n+1) len (.slice sb len cap) H with
     |none=>simp[hold]at h
     |some old =>
      cases hnew:cP P (n+1) m (.slice xb m xc) H with
      |none=>simp[hold,hnew]at h
      |some new =>
       cases hz:dJ P el with
       |none=>simp[hold,hnew,hz]at h
       |some z =>
        simp only[hold,hnew,hz]at h
        split at h
        ·rename_i hzl
         obtain ⟨hzl,hone⟩:=hzl
         obtain ⟨hzr,hzc⟩:=dd hz w
         have hiz:i.zero=some z:=by
          simp[zeroValue,typeInfo,hi]at hzr
          cases hq:i.zero with
          |none=>simp[hq]at hzr
          |some z'=>simp[hq]at hzr;rw[hzr]
         obtain ⟨new',hn1,hn2⟩:=gM (w:=w) hnew hx (kW hr)
         obtain ⟨new2,hn3,hn4⟩:=gM (w:=w.drew) hnew hx (kW hr.drew)
         obtain ⟨old',ho1,ho2⟩:=gM (w:=w.drew) hold hs (kW hr.drew)
         have hnl:∀{k:Nat} {y:Value} {c:List Value},cP P (n+1) k y H=some c->c.length=k*(n+1):=by
          intro k y c hc
          unfold cP at hc
          split at hc
          ·split at hc
           ·rename_i h0;cases hc;simp[h0]
           ·simp at hc
          ·split at hc
           ·split at hc
            ·rename_i hle;cases hc;simp;omega
            ·simp at hc
           ·simp at hc
          ·simp at hc
         have hsame:new2=new':=by
          have:∀(k:Nat) (y:Value) (w:World) (c:Array Value),(Builtin.firstCells (n+1) k y).run P w = .ok c w->(Builtin.firstCells (n+1) k y).run P w.drew = .ok c w.drew:=by
           intro k y w c hc
           unfold Builtin.firstCells at hc ⊢
           split at hc
           ·rename_i a _ _
            revert hc
            unfold loadCells
            have gen:∀(k i:Nat) (acc:Array Value),(loadCellsFrom a i k acc).run P w = .ok c w->(loadCellsFrom a i k acc).run P w.drew = .ok c w.drew:=by
             intro k
             induction k with
             |zero=>intro i acc hq;simp[loadCellsFrom]at hq ⊢;exact hq
             |succ k ih =>
              intro i acc hq
              simp only[loadCellsFrom,Sem.run_bind,run_load]at hq ⊢
              have hcd:w.drew.cell? (a.add i)=w.cell? (a.add i):=rfl
              rw[hcd]
              cases hce:w.cell? (a.add i) with
              |some v=>rw[hce]at hq;simp only[Result.andThen_ok]at hq ⊢;exact ih _ _ hq
              |none =>
               rw[hce]at hq
               cases hf:w.farLoad P (a.add i) (Mode.plain == Mode.atomic) with
               |error e=>simp[hf]at hq
               |ok p =>
                have hfd:w.drew.farLoad P (a.add i) (Mode.plain == Mode.atomic)=w.farLoad P (a.add i) (Mode.plain == Mode.atomic):=rfl
                rw[hfd,hf]
                rw[hf]at hq
                simp only[Result.andThen_ok]at hq ⊢;exact ih _ _ hq
            exact gen _ _ _
           ·simp at hc ⊢;exact hc
           ·simp at hc ⊢;exact hc
           ·simp at hc
          have h1:=this _ _ _ _ hn1
          rw[hn3]at h1
          simpa using h1
         subst hsame
         have tV:=hnl hnew
         have kr:=hnl hold
         have hl1:=hn2.1
         have hl2:=ho2.1
         have hsrc:Src P i.size u x' m new2.toList w:=by
          refine ⟨.inl ⟨e0,hu⟩,fun w'=>by rw[hx'];rfl,by rw[hisz];simpa using hn1,by rw[hisz];simpa using hn3,by rw[hisz];omega,?_⟩
          have:=VRl.oneCell hn2 hone
          rw[List.all_eq_true]at this
          exact this
         have grow:∀(bs:Option Addr) (c':Nat),s' = .slice bs len c'->c'<len+m->∀(H1:Heap),H1.length=H.length->Post P B base M V H w V H1 w ->
           ∃v' w' ρ',(Builtin.append_ #[t,u] ty #[s',x']).run P w = .ok v' w'/\VR ρ' (.slice (some ⟨H.length,0,none⟩) (len+m) (len+m)) v'/\Post P B base M V H w ρ' (H1 ++ [.cells true (n+1) (old++new)]) w':=by
          intro bs c' hbs hlt H1 hH1 hp
          have hnc:=nextslicecap_le (old:=c') (need:=len+m) hlt
          have hg:=run_append_grow_src w t u ty el i z hut hi hiz bs len c' old'.toList (by rw[hisz,<- hbs];simpa using ho1) x' m new2.toList hsrc hlt (by omega) (by
           rw[hib]
           have h1:Builtin.nextslicecap (len+m) c'*by_<=(2*(len+m))*by_:=Nat.mul_le_mul_right _ hnc
           rw[Nat.mul_assoc]at h1
           omega)
          have hge:=grownCap_ge w (len+m) c' el
          have hrow:VRl V (old++new) (old'.toList++new2.toList):=VRl.append ho2 hn2
          have hzs:z.cells.size=n+1:=by simpa using hzl
          have hd:=hp.trans (Post.drew (base:=base) (M:=M) hp.rel)
          have hcs:((old'.toList++new2.toList).toArray++Builtin.zeroCells z.cells (grownCap w (len+m) c' el-(len+m))).size=grownCap w (len+m) c' el*(n+1):=by
           simp only[Array.size_append,List.size_toArray,aE,size_zeroCells,hzs]
           rw[<- hl2,<- hl1,kr,tV,<- Nat.add_mul,<- Nat.add_mul]
           congr 1;omega
          refine ⟨_,_,V.set H.length ⟨w.heap.size,0,grownCap w (len+m) c' el*(n+1),n+1,true⟩,by rw[hbs];exact hg,?_,?_⟩
          ·have:=VR.slice (V:=V.set H.length ⟨w.heap.size,0,grownCap w (len+m) c' el*(n+1),n+1,true⟩) (id:=H.length) (o:=0) (len:=len+m) (cap:=len+m) (cap':=grownCap w (len+m) c' el) (Ren.ar _ _ _) (Nat.le_refl _) hge (fun _ _=>by simp)
           simpa using this
          ·refine hd.trans ?_
           have hno:V H.length=none:=by
            cases hq:V H.length with
            |none=>rfl
            |some r=>exact absurd (hr.dom _ _ hq) (Nat.lt_irrefl _)
           have hnew:=aK.yD (V:=V) (w:=w.drew) (id:=H.length) (z:=n+1) (cs:=old++new) (cs':=(old'.toList++new2.toList).toArray++Builtin.zeroCells z.cells (grownCap w (len+m) c' el-(len+m))) (ty:=el) hno (by
            intro k v hv
            obtain ⟨v',g1,g2⟩:=hrow.get hv
            refine ⟨v',?_,g2⟩
            have hk:=(List.getElem?_eq_some_iff.1 g1).1
            rw[Array.getElem?_append_left (by simpa using hk)]
            simpa using g1)
           rw[hcs]at hnew
           have:=Post.alloc (base:=base) (M:=M) hd.rel (ri:=⟨w.heap.size,0,grownCap w (len+m) c' el*(n+1),n+1,true⟩) rfl (by rw[hH1];exact hob) (by rw[hH1];exact hnew)
           rw[hH1]at this
           exact this
         have hq0:∀{id off:Nat},len=0->sb=some ⟨id,off,some 1⟩->∀(bs:Option Addr),s' = .slice bs 0 0->∃v' w' ρ',(Builtin.append_ #[t,u] ty #[s',x']).run P w = .ok v' w'/\VR ρ' v v'/\Post P B base M V H w ρ' H' w':=by
          intro id off h0 hsb bs hbs
          rw[hsb]at h
          simp only at h
          split at h
          ·rename_i zz cs hid
           split at h
           ·cases h
            exact grow bs 0 (by rw[hbs,h0]) (by omega) (H.set id .dead) (by simp) (Post.km hr hid rfl (fun hlt=>hM id (by simp) hlt))
           ·simp at h
          ·simp at h
         cases hs with
         |bE=>simp at h
         |au=>exact hq0 rfl rfl none rfl
         |av=>exact hq0 rfl rfl _ rfl
         |ax=>simp at h
         |aX=>simp at h
         |aU =>
          cases h
          exact grow none 0 rfl (by omega) H rfl (Post.refl hr)
         | @slice id off r _ _ c' hρ hl hc hroom =>
          simp only at h
          split at h
          ·rename_i zz cs hid
           split at h
           ·rename_i hzz
            subst hzz
            cases h
            have Bp:id<base->id∈M:=fun hlt=>hM id (by simp) hlt
            rcases Nat.lt_or_ge c' (len+m) with hlt|hge
            ·exact grow _ c' rfl hlt (H.set id .dead) (by simp) (Post.kill hr hρ hid rfl Bp)
            ·obtain ⟨e1,e2,cs',ety,fz,hb,hnz,hfz,hcs⟩:=hr.obj id r _ hρ hid
             obtain rfl:fz=(0,0):=hfz rfl
             have hrm:=hroom e1.symm (by rw[<- e2];omega)
             rw[<- e2]at hrm
             have hmul:(len+m)*(n+1)<=c'*(n+1):=Nat.mul_le_mul_right _ hge
             rw[Nat.add_mul]at hmul
             have Bc:new2.toList.length=m*(n+1):=by rw[<- hl1];exact tV
             have hrun:=run_append_room' (w:=w) t u ty el i hut hi r.b (off+r.s) len c' x' m new2.toList hsrc hge hb (by rw[hisz];omega)
             rw[hisz]at hrun
             refine ⟨_,_,V.set H.length ⟨r.b,off+r.s,r.n,r.z,true⟩,hrun,?_,Post.move hr hρ hid rfl rfl hob ?_ Bp⟩
             ·have:=VR.slice (V:=V.set H.length ⟨r.b,off+r.s,r.n,r.z,true⟩) (id:=H.length) (o:=0) (len:=len+m) (cap:=len+m) (cap':=c') (Ren.ar _ _ _) (Nat.le_refl _) hge (fun _ _=>by
               simp only
               rw[<- e2]
               omega)
              simpa using this
             ·have hno:V H.length=none:=by
               cases hq:V H.length with
               |none=>rfl
               |some r=>exact absurd (hr.dom _ _ hq) (Nat.lt_irrefl _)
              refine ⟨rfl,e2,_,ety,(0,0),bO hb,by simp[cE];exact hnz,fun _=>rfl,?_⟩
              intro k v hv
              have hk:=(List.getElem?_eq_some_iff.1 hv).1
              simp only[aE,kr,tV]at hk
              have e:(⟨ba cs'.toList (off+r.s+len*(n+1)) new2.toList⟩:Array Value)[k+(off+r.s)]?=(ba cs'.toList (off+r.s+len*(n+1)) new2.toList)[k+(off+r.s)]? := by simp
              rw[e,fB _ _ _ _ (by rw[Bc];simp only[Array.length_toList];omega)]
              rcases Nat.lt_or_ge k (len*(n+1)) with hk1|hk1
              ·rw[if_neg (by omega)]
               rw[List.getElem?_append_left (by rw[kr];exact hk1)]at hv
               have iy:=hold
               unfold cP at iy
               simp only[deq,hid]at iy
               split at iy
               ·cases iy
                rw[List.getElem?_take,if_pos hk1,List.getElem?_drop]at hv
                obtain ⟨v',g1,g2⟩:=hcs _ _ hv
                exact ⟨v',by rw[show k+(off+r.s)=off+k+r.s by omega];simpa using g1,g2.mono (Ren.dA hno)⟩
               ·simp at iy
              ·rw[if_pos ⟨by omega,by rw[Bc];omega⟩]
               rw[List.getElem?_append_right (by rw[kr];exact hk1),kr]at hv
               obtain ⟨v',g1,g2⟩:=hn2.get hv
               exact ⟨v',by rw[show k+(off+r.s)-(off+r.s+len*(n+1))=k-len*(n+1) by omega];exact g1,g2.mono (Ren.dA hno)⟩
           ·simp at h
          ·simp at h
         | @aF id off r _ _ c' hρ hpos hl hc hroom =>
          simp only at h
          split at h
          ·rename_i zz cs hid
           split at h
           ·rename_i hzz
            subst hzz
            cases h
            have Bp:id<base->id∈M:=fun hlt=>hM id (by simp) hlt
            rcases Nat.lt_or_ge c' (len+m) with hlt|hge
            ·exact grow _ c' rfl hlt (H.set id .dead) (by simp) (Post.kill hr hρ hid rfl Bp)
            ·obtain ⟨e1,e2,cs',ety,fz,hb,hnz,hfz,hcs⟩:=hr.obj id r _ hρ hid
             obtain rfl:fz=(0,0):=hfz rfl
             have hrm:=hroom e1.symm (by rw[<- e2];omega)
             rw[<- e2]at hrm
             have hmul:(len+m)*(n+1)<=c'*(n+1):=Nat.mul_le_mul_right _ hge
             rw[Nat.add_mul]at hmul
             have Bc:new2.toList.length=m*(n+1):=by rw[<- hl1];exact tV
             have hrun:=run_append_room' (w:=w) t u ty el i hut hi r.b (off+r.s) len c' x' m new2.toList hsrc hge hb (by rw[hisz];omega)
             rw[hisz]at hrun
             refine ⟨_,_,V.set H.length ⟨r.b,off+r.s,r.n,r.z,true⟩,hrun,?_,Post.move hr hρ hid rfl rfl hob ?_ Bp⟩
             ·have:=VR.slice (V:=V.set H.length ⟨r.b,off+r.s,r.n,r.z,true⟩) (id:=H.length) (o:=0) (len:=len+m) (cap:=len+m) (cap':=c') (Ren.ar _ _ _) (Nat.le_refl _) hge (fun _ _=>by
               simp only
               rw[<- e2]
               omega)
              simpa using this
             ·have hno:V H.length=none:=by
               cases hq:V H.length with
               |none=>rfl
               |some r=>exact absurd (hr.dom _ _ hq) (Nat.lt_irrefl _)
              refine ⟨rfl,e2,_,ety,(0,0),bO hb,by simp[cE];exact hnz,fun _=>rfl,?_⟩
              intro k v hv
              have hk:=(List.getElem?_eq_some_iff.1 hv).1
              simp only[aE,kr,tV]at hk
              have e:(⟨ba cs'.toList (off+r.s+len*(n+1)) new2.toList⟩:Array Value)[k+(off+r.s)]?=(ba cs'.toList (off+r.s+len*(n+1)) new2.toList)[k+(off+r.s)]? := by simp
              rw[e,fB _ _ _ _ (by rw[Bc];simp only[Array.length_toList];omega)]
              rcases Nat.lt_or_ge k (len*(n+1)) with hk1|hk1
              ·rw[if_neg (by omega)]
               rw[List.getElem?_append_left (by rw[kr];exact hk1)]at hv
               have iy:=hold
               unfold cP at iy
               simp only[deq,hid]at iy
               split at iy
               ·cases iy
                rw[List.getElem?_take,if_pos hk1,List.getElem?_drop]at hv
                obtain ⟨v',g1,g2⟩:=hcs _ _ hv
                exact ⟨v',by rw[show k+(off+r.s)=off+k+r.s by omega];simpa using g1,g2.mono (Ren.dA hno)⟩
               ·simp at iy
              ·rw[if_pos ⟨by omega,by rw[Bc];omega⟩]
               rw[List.getElem?_append_right (by rw[kr];exact hk1),kr]at hv
               obtain ⟨v',g1,g2⟩:=hn2.get hv
               exact ⟨v',by rw[show k+(off+r.s)-(off+r.s+len*(n+1))=k-len*(n+1) by omega];exact g1,g2.mono (Ren.dA hno)⟩
           ·simp at h
          ·simp at h
         | @aS id off r o' hρ =>
          simp only at h
          split at h
          ·rename_i zz cs hid
           split at h
           ·cases h
            exact grow _ 0 rfl (by omega) (H.set id .dead) (by simp) (Post.kill hr hρ hid rfl (fun hlt=>hM id (by simp) hlt))
           ·simp at h
          ·simp at h
        ·simp at h
   ·simp at h
  ·simp at h
 ·simp at h
end Go.K
