/- Maps: what is found in canonical memory is found in real memory. No condition. -/
import Derived.Test.YtmecpfikljhjaaaGreatDoorGK1xK7
import Derived.Deep.AppendSrc
open Go Go.K
set_option linter.unusedVariables false
set_option linter.unusedSimpArgs false
namespace Go.K
variable {P:Program} {ρ:Ren} {H:Heap}
theorem CO{k k':Value}(h:lm k=true)(hv:VR ρ k k'):k'=k:=by
 cases hv <;> first|rfl|simp[lm]at h
theorem ku{k k':Value}(h:fJ k=true)(hv:VR ρ k k'):k'=k:=by
 cases hv with
 | @agg cs cs' h1 h2 =>
  simp only[fJ,List.all_eq_true]at h
  congr 1
  refine Array.ext h1.symm fun i hi hi' =>?_
  exact CO (h _ (by simp)) (h2 i _ _ (Array.getElem?_eq_getElem hi') (Array.getElem?_eq_getElem hi))
 |_=>first|rfl|simp[fJ,lm]at h
theorem pK{a b:Value}(h:qP a b=true):a=b:=by
 unfold qP at h
 split at h
 ·rw[eq_of_beq h]
 ·rw[Bool.and_eq_true,decide_eq_true_eq,decide_eq_true_eq]at h;rw[h.1,h.2]
 ·congr 1
  rename_i a b
  cases a with|mk a=>cases b with|mk b => 
   have:(ByteArray.mk a == ByteArray.mk b)=(a == b):=rfl
   rw[this]at h
   rw[eq_of_beq h]
 ·cases h
theorem pJ:∀{l r:List Value},qO l r=true->l=r
 | [],[],_=>rfl
 |a :: l,b :: r,h=>by
  simp only[qO,Bool.and_eq_true]at h
  rw[pK h.1,pJ h.2]
 | [],_ :: _,h=>by cases h
 |_ :: _,[],h=>by cases h
theorem s9{a b:Value}(h:lS a b=true):a=b:=by
 unfold lS at h
 split at h
 ·rename_i xs ys
  congr 1
  exact Array.toList_inj.1 (pJ h)
 ·exact pK h
theorem mL{v:Value}(h:lm v=true)(n:Nat):Instr.sameBits n v v=true:=by
 cases v <;> simp[lm]at h <;> simp[Instr.sameBits]
 rename_i s
 show (s.data == s.data)=true
 exact beq_self_eq_true _
theorem qs{v:Value}(h:fJ v=true)(n:Nat):Instr.sameBits (n+1) v v=true:=by
 cases v with
 |agg cs =>
  simp only[fJ,List.all_eq_true]at h
  simp only[Instr.sameBits,beq_self_eq_true,Bool.true_and,List.all_eq_true]
  intro p hp
  obtain ⟨i,hi⟩:=List.mem_iff_getElem?.1 hp
  rw[List.getElem?_zip_eq_some]at hi
  have:p.1=p.2:=by have:=hi.1.symm.trans hi.2;exact Option.some.inj this
  rw[<- this]
  exact mL (h _ (List.mem_of_getElem? hi.1)) n
 |_=>exact mL (by simpa[fJ] using h) _
theorem kg{v:Value}(h:fJ v=true)(w:World):(Instr.keyThatStays v v).run P w = .ok v w:=by
 simp[Instr.keyThatStays,qs h]
theorem lQ{t:TypeId}{cs:List Value}{off:Nat}{a:Value}(h:cb P t cs off=some a)(hc:∀v∈cs,lm v=true):fJ a=true:=by
 have hk:∀v,lm v=true->fJ v=true:=fun v h=>by cases v <;> simp[lm]at h <;> rfl
 unfold cb at h
 split at h
 ·split at h
  ·split at h
   ·cases h
    simp only[fJ,List.all_eq_true]
    exact fun v hv=>hc v (List.mem_of_mem_drop (List.mem_of_mem_take hv))
   ·cases h
  ·cases h
 ·exact hk a (hc a (List.mem_of_getElem? h))
 ·cases h
theorem ii(em:Bool):∀(d n:Nat) {t:TypeId} {x x':Value} {b:Bool},bH P d t x x=some b->fJ x=true->VR ρ x x'->d<=n->∀w:World,(Instr.checkKey em n t x').run P w = .ok () w:=by
 intro d
 induction d with
 |zero=>intro n t x x' b h;simp[bH]at h
 |succ d ih =>
  intro n t x x' b h hok hx hn w
  obtain ⟨n,rfl⟩:∃m,n=m+1:=⟨n-1,by omega⟩
  have hn:d<=n:=by omega
  unfold bH at h
  rw[Instr.checkKey]
  split at h
  ·rename_i hu _;cases hx;simp[aA hu]
  ·rename_i hu _;cases hx;simp[aA hu]
  ·rename_i hu _;cases hx;simp[aA hu]
  ·rename_i fs xs ys hu hxy
   cases hxy
   have hall:∀v∈xs.toList,lm v=true:=fun v hv=>List.all_eq_true.1 hok v hv
   split at h
   ·simp at h
   ·cases hx with
    | @agg _ xs' g1 g2 =>
     have hl:=VR.f0 (.agg g1 g2)
     simp only[Sem.run_bind,aA hu,Result.andThen_ok]
     have key:∀(fs:List Field) (b:Bool),dA P (bH P d) xs.toList xs.toList fs=some b->(forIn fs PUnit.unit (fun f r=>do
       if f.name ≠ "_" then Instr.checkKey em n f.type (<- part f.type xs' f.offset)
       pure (ForInStep.yield PUnit.unit)):Sem PUnit).run P w = .ok PUnit.unit w:=by
      intro fs
      induction fs with
      |nil=>intro b _;simp
      |cons f fs ihf =>
       intro b hb
       simp only[dA]at hb
       cases hr:dA P (bH P d) xs.toList xs.toList fs with
       |none=>simp[hr]at hb
       |some r =>
        simp only[hr]at hb
        have hrest:=ihf r hr
        simp only[List.forIn_cons,Sem.run_bind]
        split at hb
        ·rename_i hnm
         simp only[hnm,ne_eq,not_true_eq_false,if_false,Sem.run_pure,Result.andThen_ok]
         exact hrest
        ·rename_i hnm
         cases ha:cb P f.type xs.toList f.offset with
         |none=>simp[ha]at hb
         |some a =>
          simp only[ha]at hb
          obtain ⟨q,hq,rfl⟩:=Option.map_eq_some_iff.1 hb
          obtain ⟨a',ha',hva⟩:=fa (P:=P) ha hl w
          simp only[ne_eq,hnm,not_false_eq_true,if_true,Sem.run_bind,ha',Result.andThen_ok,ih n hq (lQ ha hall) hva hn w,Sem.run_pure]
          exact hrest
     have:=key fs.toList _ h
     have e:=congrArg (fun r=>r.andThen fun a w'=>Result.ok () w') this
     simpa using e
  ·rename_i len e xs ys hu hxy
   cases hxy
   have hall:∀v∈xs.toList,lm v=true:=fun v hv=>List.all_eq_true.1 hok v hv
   cases hs:aO P e with
   |none=>simp[hs]at h
   |some sz =>
    simp only[hs]at h
    cases hx with
    | @agg _ xs' g1 g2 =>
     have hl:=VR.f0 (.agg g1 g2)
     simp only[Sem.run_bind,aA hu,Result.andThen_ok]
     simp only[Std.Legacy.Range.forIn_eq_forIn_range',Std.Legacy.Range.size,Nat.sub_zero,Nat.add_one_sub_one,Nat.div_one]
     have key:∀(m i:Nat) (b:Bool),eo P (bH P d) e sz xs.toList xs.toList i m=some b->(forIn (List.range' i m) PUnit.unit (fun i r=>do
       Instr.checkKey em n e (<- part e xs' (i*(<- sizeOf e)))
       pure (ForInStep.yield PUnit.unit)):Sem PUnit).run P w = .ok PUnit.unit w:=by
      intro m
      induction m with
      |zero=>intro i b _;simp
      |succ m ihm =>
       intro i b hb
       simp only[eo]at hb
       cases hr:eo P (bH P d) e sz xs.toList xs.toList (i+1) m with
       |none=>simp[hr]at hb
       |some r =>
        simp only[hr]at hb
        have hrest:=ihm (i+1) r hr
        cases ha:cb P e xs.toList (i*sz) with
        |none=>simp[ha]at hb
        |some a =>
         simp only[ha]at hb
         obtain ⟨q,hq,rfl⟩:=Option.map_eq_some_iff.1 hb
         obtain ⟨a',ha',hva⟩:=fa (P:=P) ha hl w
         simp only[List.range'_succ,List.forIn_cons,Sem.run_bind,bj hs,ha',Result.andThen_ok,ih n hq (lQ ha hall) hva hn w,Sem.run_pure]
         exact hrest
     rw[key len 0 _ h];rfl
  all_goals (try (simp[fJ,lm]at hok;done))
  ·simp at h
def FR(ρ:Ren):Option (Nat×Value)->Option (Nat×Value)->Prop
 |none,none=>True
 |some (i,v),some (j,v')=>i=j/\VR ρ v v'
 |_,_=>False
def ER(ρ:Ren)(es:List (Value×Value))(es':List MapEntry):Prop:=es.length=es'.length/\∀(i:Nat) (k v:Value),es[i]?=some (k,v)->∃e':MapEntry,es'[i]?=some e'/\VR ρ k e'.key/\VR ρ v e'.val
theorem ER.cons{k v:Value}{es:List (Value×Value)}{es':List MapEntry}(h:ER ρ ((k,v) :: es) es'):∃e l,es'=e :: l/\VR ρ k e.key/\VR ρ v e.val/\ER ρ es l:=by
 cases es' with
 |nil=>have:=h.1;simp at this
 |cons e l =>
  obtain ⟨e',h1,h2,h3⟩:=h.2 0 k v rfl
  cases h1
  exact ⟨e,l,rfl,h2,h3,⟨by have:=h.1;simpa using this,fun i k v hi=>h.2 (i+1) k v hi⟩⟩
theorem sw{kt:TypeId}{d:TypeDesc}{x y x' y':Value}{b c:Bool}(hd:P.underlying kt=some d)(h:bH P Op.maxDepth kt x y=some b)(hx:VR ρ x x')(hy:VR ρ y y')(hs:Instr.sameNow d x' y'=some c):c=b:=by
 unfold Instr.sameNow at hs
 have hk:bH P (9999+1) kt x y=some b:=h
 unfold bH at hk
 rw[hd]at hk
 split at hs
 ·cases hx <;> cases hy <;> simp at hk
  split at hs
  ·rename_i e;subst e;simp at hk;cases hs;rw[<- hk.symm]
  ·cases hs
 ·cases hx <;> cases hy <;> simp at hk
  cases hs;rw[hk]
 ·cases hx <;> cases hy <;> simp at hk
  cases hs;rw[hk]
 ·cases hs
theorem ub{kt:TypeId}{d:TypeDesc}{x x':Value}(hd:P.underlying kt=some d)(hx:VR ρ x x'):∀{es:List (Value×Value)} {es':List MapEntry} (i:Nat) {r q:Option (Nat×Value)},fG P kt x es i=some r->ER ρ es es'->Instr.findNow d x' es' i=some q->FR ρ r q:=by
 intro es
 induction es with
 |nil =>
  intro es' i r q h he hq
  have:es'=[]:=List.length_eq_zero_iff.1 (by have:=he.1;simpa using this.symm)
  subst this
  cases h;cases hq;trivial
 |cons p es ih =>
  intro es' i r q h he hq
  obtain ⟨k,v⟩:=p
  obtain ⟨e,l,rfl,h1,h2,h3⟩:=he.cons
  simp only[fG]at h
  simp only[Instr.findNow]at hq
  cases hk:bH P Op.maxDepth kt x k with
  |none=>simp[hk]at h
  |some b =>
   simp only[hk]at h
   cases hs:Instr.sameNow d x' e.key with
   |none=>simp[hs]at hq
   |some c =>
    simp only[hs]at hq
    obtain rfl:=sw hd hk hx h1 hs
    cases c with
    |true=>cases h;cases hq;exact ⟨rfl,h2⟩
    |false=>exact ih (i+1) h h3 hq
theorem nT{kt:TypeId}{x x':Value}(hx:VR ρ x x')(w:World):∀{es:List (Value×Value)} {es':List MapEntry} (i:Nat) {r:Option (Nat×Value)},fG P kt x es i=some r->ER ρ es es'->∃q,(Instr.findAsking kt x' es' i).run P w = .ok q w/\FR ρ r q:=by
 intro es
 induction es with
 |nil =>
  intro es' i r h he
  have:es'=[]:=List.length_eq_zero_iff.1 (by have:=he.1;simpa using this.symm)
  subst this
  cases h
  exact ⟨none,rfl,trivial⟩
 |cons p es ih =>
  intro es' i r h he
  obtain ⟨k,v⟩:=p
  obtain ⟨e,l,rfl,h1,h2,h3⟩:=he.cons
  simp only[fG]at h
  cases hk:bH P Op.maxDepth kt x k with
  |none=>simp[hk]at h
  |some b =>
   simp only[hk]at h
   have he:(Op.equal kt x' e.key).run P w = .ok b w:=lu _ hk hx h1 w
   simp only[Instr.findAsking,Sem.run_bind,he,Result.andThen_ok]
   cases b with
   |true=>cases h;exact ⟨some (i,e.val),by simp,⟨rfl,h2⟩⟩
   |false=>obtain ⟨q,g1,g2⟩:=ih (i+1) h h3;exact ⟨q,by simpa using g1,g2⟩
theorem iS{kt:TypeId}{d:TypeDesc}{x x':Value}(hd:P.underlying kt=some d)(hx:VR ρ x x'){es:List (Value×Value)}{es':List MapEntry}{r:Option (Nat×Value)}(h:fG P kt x es 0=some r)(he:ER ρ es es')(w:World) :
  ∃q,(Instr.findKey kt x' es').run P w = .ok q w/\FR ρ r q:=by
 simp only[Instr.findKey,Sem.run_bind,aA hd,Result.andThen_ok]
 cases hq:Instr.findNow d x' es' 0 with
 |none=>obtain ⟨q,g1,g2⟩:=nT hx w 0 h he;exact ⟨q,by simpa using g1,g2⟩
 |some q=>exact ⟨q,by simp,ub hd hx 0 h he hq⟩
theorem xh{v v':Value}(ok b:Bool)(h:VR ρ v v'):VR ρ (yL ok v b) (if ok=true then .tuple #[v',.bool b] else v'):=by
 cases ok with
 |true=>exact (let q:VRl ρ [v,.bool b] [v',.bool b]:=VRl.cons h (VRl.cons (.bool _) (VRl.nil ρ)); .tuple q.1 (fun i a b x y=>q.2 i a b (by simpa using x) (by simpa using y)))
 |false=>exact h
theorem jS{kt:TypeId}{x:Value}(h:dF P kt x=true):∃d,P.underlying kt=some d:=by
 unfold dF at h
 rw[Bool.and_eq_true]at h
 cases hd:P.underlying kt with
 |some d=>exact ⟨d,rfl⟩
 |none =>
  exfalso
  obtain ⟨b,hb⟩:=Option.isSome_iff_exists.1 h.2
  have hk:bH P (9999+1) kt x x=some b:=hb
  unfold bH at hk
  simp[hd]at hk
theorem kp{t:TypeId}{z:Value}(h:dD P t=some z):VR ρ z z:=by
 unfold dD at h
 obtain ⟨v,_,h2⟩:=Option.bind_eq_some_iff.1 h
 split at h2
 ·cases h2;rename_i hc;exact fQ hc
 ·cases h2
end Go.K
namespace Go.K
variable {P:Program} {w:World} {ρ:Ren} {H:Heap}
theorem run_places:∀(fs:List Field),fs.all (fun f=>(aO P f.type).isSome)=true->∀w:World,
  ∃ps:List (Nat×Nat),(fs.mapM (fun f=>do pure (f.offset,<- sizeOf f.type):Field->Sem (Nat×Nat))).run P w = .ok ps w/\ps.length=fs.length /\
   ∀i:Nat,ps[i]?=(fs[i]?).bind fun f=>(aO P f.type).map fun n=>(f.offset,n):=by
 intro fs
 induction fs with
 |nil=>intro _ w;exact ⟨[],rfl,rfl,fun i=>by simp⟩
 |cons f fs ih =>
  intro h w
  simp only[List.all_cons,Bool.and_eq_true]at h
  obtain ⟨n,hn⟩:=Option.isSome_iff_exists.1 h.1
  obtain ⟨ps,h1,h2,h3⟩:=ih h.2 w
  refine ⟨(f.offset,n) :: ps,?_,by simp[h2],fun i =>?_⟩
  ·rw[List.mapM_cons]
   simp only[Sem.run_bind,bj hn,Result.andThen_ok,Sem.run_pure,h1]
  ·cases i with
   |zero=>simp[hn]
   |succ i=>simpa using h3 i
theorem vq{t:TypeId}{parts parts':List (Nat×Value)}{v:Value}(h:qT P t parts=some v)(hlen:parts.length=parts'.length)
  (hp:∀(i:Nat) (x x':Nat×Value),parts[i]?=some x->parts'[i]?=some x'->x.1=x'.1/\VR ρ x.2 x'.2) (w:World) :
  ∃v',(Instr.build t ⟨parts'⟩).run P w = .ok v' w/\VR ρ v v':=by
 unfold qT at h
 split at h
 ·rename_i z fs hz hu
  split at h
  ·rename_i hall
   obtain ⟨c,hc,rfl⟩:=Option.map_eq_some_iff.1 h
   obtain ⟨hzr,hzc⟩:=da hz w
   obtain ⟨ps,hps,hpl,hpe⟩:=run_places fs.toList hall w
   have Gp:(fun i=>(ps.toArray)[i]?)=vf P fs:=by
    funext i
    simp[vf,hpe]
   obtain ⟨c',h1,h2⟩:=nU (cells':=z.cells) hc (fq hzc) hlen hp
   rw[<- Gp]at h1
   refine ⟨.agg c',?_,VRl.agg (by simpa using h2)⟩
   simp only[Instr.build,Sem.run_bind,hzr,aA hu,Result.andThen_ok]
   rw[Array.mapM_eq_mapM_toList]
   simp only[Sem.run_map,hps,Result.andThen_ok]
   simp only[h1]
   rfl
  ·simp at h
 ·rename_i z len e hz hu
  cases hn:aO P e with
  |none=>simp[hn]at h
  |some n =>
   simp only[hn]at h
   obtain ⟨c,hc,rfl⟩:=Option.map_eq_some_iff.1 h
   obtain ⟨hzr,hzc⟩:=da hz w
   obtain ⟨c',h1,h2⟩:=nU (cells':=z.cells) hc (fq hzc) hlen hp
   refine ⟨.agg c',?_,VRl.agg (by simpa using h2)⟩
   simp only[Instr.build,Sem.run_bind,hzr,aA hu,Result.andThen_ok,bj hn]
   simp only[h1]
   rfl
 ·simp at h
theorem mj{e e':Operand->Value}{l:List Operand}(h:∀x∈l,VR ρ (e x) (e' x)):VRl ρ (l.map e) (l.map e') :=
 ⟨by simp,fun i v v' a b=>by
  rw[List.getElem?_map]at a b
  obtain ⟨x,hx,rfl⟩:=Option.map_eq_some_iff.1 a
  rw[hx]at b;simp at b;subst b
  exact h x (List.mem_of_getElem? hx)⟩
theorem xI{e e':Operand->Value}{l:Array Operand}(h:∀x∈l,VR ρ (e x) (e' x)):(l.map e).size=(l.map e').size/\∀(i:Nat) (v v':Value),(l.map e)[i]?=some v->(l.map e')[i]?=some v'->VR ρ v v':=by
 refine ⟨by simp,fun i v v' a b =>?_⟩
 rw[Array.getElem?_map]at a b
 obtain ⟨x,hx,rfl⟩:=Option.map_eq_some_iff.1 a
 rw[hx]at b;simp at b;subst b
 exact h x (Array.mem_of_getElem? hx)
theorem nr{kt:TypeId}{d:TypeDesc}{z z' x x' v:Value}{ok:Bool}{es:List (Value×Value)}{es':List MapEntry}(hd:P.underlying kt=some d)(h:hO P kt z x ok es=some v)(hz:VR ρ z z')(hx:VR ρ x x')(he:ER ρ es es') :
  ∃q,(Instr.findKey kt x' es').run P w = .ok q w/\VR ρ v (if ok=true then .tuple #[(match q with|some (_,u)=>(u,true)|none=>(z',false)).1,.bool (match q with|some (_,u)=>(u,true)|none=>(z',false)).2] else (match q with|some (_,u)=>(u,true)|none=>(z',false)).1):=by
 unfold hO at h
 cases hf:fG P kt x es 0 with
 |none=>simp[hf]at h
 |some r =>
  obtain ⟨q,g1,g2⟩:=iS hd hx hf he w
  refine ⟨q,g1,?_⟩
  rw[hf]at h
  cases r with
  |none =>
   cases h
   cases q with
   |none=>exact xh ok false hz
   |some _=>exact g2.elim
  |some p =>
   obtain ⟨i,u⟩:=p
   cases h
   cases q with
   |none=>exact g2.elim
   |some p'=>exact xh ok true g2.2
theorem s6{t:TypeId}{m m' x x' v:Value}{ok:Bool}{rd:Option Nat}(h:jh P t m x ok H=some (v,rd))(hm:VR ρ m m')(hx:VR ρ x x')(ho:∀id,rd=some id->kP ρ H w id) :
  ∃v',(Instr.lookup t m' x' ok).run P w = .ok v' w/\VR ρ v v':=by
 unfold jh at h
 split at h
 ·rename_i kt el hu
  have fit:∀{b},dF P kt x=b->b=true->(∃d,P.underlying kt=some d)/\∀em,(Instr.checkKey em 10000 kt x').run P w = .ok () w:=by
   rintro b hb rfl
   refine ⟨jS hb,fun em =>?_⟩
   unfold dF at hb
   rw[Bool.and_eq_true]at hb
   obtain ⟨c,hc⟩:=Option.isSome_iff_exists.1 hb.2
   exact ii em Op.maxDepth 10000 hc hb.1 hx (Nat.le_refl _) w
  split at h
  ·rename_i z hz hk
   cases h
   obtain ⟨⟨d,hd⟩,hck⟩:=fit hk rfl
   have hzr:=(da hz w).1
   cases hm
   obtain ⟨q,g1,g2⟩:=nr (w:=w) (P:=P) (ρ:=ρ) (ok:=ok) (es:=[]) (es':=[]) hd rfl (kp hz) hx ⟨rfl,fun i k v h=>by simp at h⟩
   have hq:q=none:=by
    have:(Instr.findKey kt x' []).run P w = .ok none w:=by
     simp[Instr.findKey,aA hd,Instr.findNow]
    rw[this]at g1;cases g1;rfl
   subst hq
   refine ⟨_,?_,g2⟩
   simp only[Instr.lookup,Sem.run_bind,aA hu,Result.andThen_ok,Sem.run_pure,hck,g1,hzr]
  ·rename_i z id hz hk
   split at h
   ·rename_i es hid
    obtain ⟨u,hl,hh⟩:=Option.map_eq_some_iff.1 h
    cases hh
    obtain ⟨⟨d,hd⟩,hck⟩:=fit hk rfl
    have hzr:=(da hz w).1
    cases hm with
    | @map _ r hr =>
     obtain ⟨_,es',hb,⟨hlen,_⟩,hes⟩:=(ho id rfl).o _ _ hr hid
     obtain ⟨q,g1,g2⟩:=nr (w:=w) (ρ:=ρ) (es':=es'.toList) hd hl (kp hz) hx ⟨by simpa using hlen,fun i k v hi=>by simpa using hes i k v hi⟩
     have hg:(getObj r.b).run P w = .ok (.map es' es'.size) w:=by simp only[getObj,Sem.run,hb]
     refine ⟨_,?_,g2⟩
     simp only[Instr.lookup,Sem.run_bind,aA hu,Result.andThen_ok,Sem.run_pure,hck,g1,hg]
     cases q with
     |none=>simp only[Sem.run_bind,hzr,Result.andThen_ok,Sem.run_pure]
     |some p=>rfl
   ·simp at h
  ·simp at h
 ·simp at h
set_option maxHeartbeats 1000000 in
theorem pG{o:Oper}{e e':Operand->Value}{v:Value}{rd:Option Nat}(h:cO P o.op e H=some (v,rd))(he:∀x∈o.op.operands,VR ρ (e x) (e' x))
  (ho:∀id,rd=some id->kP ρ H w id) (hm:∀b m,ρ.mem b=some m->∃ty fz,w.heap[b]?=some (.cells m ty fz)):∃v',(execOp e' o).run P w = .ok (.value v') w/\VR ρ v v':=by
 obtain ⟨dst,op,ty,pos,after,guard⟩:=o
 simp only at h he ⊢
 unfold cO at h
 split at h
 ·rename_i x;cases h;exact ⟨_,rfl,he x (by simp[Op.operands])⟩
 ·rename_i x;cases h;exact ⟨_,rfl,he x (by simp[Op.operands])⟩
 ·rename_i c a b
  have hc:=he c (by simp[Op.operands])
  split at h
  ·rename_i t ht
   rw[ht]at hc
   cases h
   generalize hq:e' c=q at hc
   cases hc
   refine ⟨if t then e' a else e' b,by simp[execOp,hq,asBool],?_⟩
   cases t
   ·exact he b (by simp[Op.operands])
   ·exact he a (by simp[Op.operands])
  ·simp at h
 ·rename_i t parts
  obtain ⟨u,hu,hh⟩:=Option.map_eq_some_iff.1 h
  cases hh
  obtain ⟨v',h1,h2⟩:=vq (ρ:=ρ) (parts':=parts.toList.map fun p=>(p.1,e' p.2)) hu (by simp) (fun i x x' a b=>by
   rw[List.getElem?_map]at a b
   obtain ⟨p,hp,rfl⟩:=Option.map_eq_some_iff.1 a
   rw[hp]at b;simp at b;subst b
   exact ⟨rfl,he _ (by simp only[Op.operands,List.mem_toArray,List.mem_map];exact ⟨p,List.mem_of_getElem? hp,rfl⟩)⟩) w
  refine ⟨v',?_,h2⟩
  have:parts.map (fun x=>(x.1,e' x.2))=⟨parts.toList.map fun p=>(p.1,e' p.2)⟩:=by apply Array.toList_inj.1;simp
  simp only[execOp,Sem.run_bind,this,h1,Result.andThen_ok,Sem.run_pure]
 ·rename_i t a
  split at h
  ·rename_i u hu
   cases h
   obtain ⟨v',h1,h2⟩:=vj hu (he a (by simp[Op.operands])) hm
   exact ⟨v',by simp[execOp,h1],h2⟩
  obtain ⟨u,hu,hh⟩:=Option.map_eq_some_iff.1 h
  cases hh
  obtain ⟨v',h1,h2⟩:=pH hu (he a (by simp[Op.operands])) (ho _ rfl)
  exact ⟨v',by simp[execOp,h1],h2⟩
 ·rename_i x
  have hx:=he x (by simp[Op.operands])
  split at h
  ·rename_i a ha
   rw[ha]at hx
   cases h
   generalize hq:e' x=q at hx
   cases hx with
   |ptr hr=>exact ⟨_,by simp[execOp,hq],.ptr hr⟩
   |dS hr=>exact ⟨_,by simp[execOp,hq],.dS hr⟩
  ·rename_i o cs ha
   rw[ha]at hx
   cases h
   generalize hq:e' x=q at hx
   cases hx with|bP g1 g2 g3=>exact ⟨_,by simp[execOp,hq],.bP g1 g2 g3⟩
  ·rename_i f a b ha
   rw[ha]at hx
   cases h
   generalize hq:e' x=q at hx
   cases hx with|func h1 h2 h3 h4=>exact ⟨_,by simp[execOp,hq],.func h1 h2 h3 h4⟩
  ·rename_i f a b ha
   rw[ha]at hx
   cases h
   generalize hq:e' x=q at hx
   cases hx with|yield hr=>exact ⟨_,by simp[execOp,hq],.yield hr⟩
  ·simp at h
 ·rename_i op t x y ty2
  obtain ⟨u,hu,hh⟩:=Option.map_eq_some_iff.1 h
  cases hh
  have:=AL (ox:=x) (oy:=y) hu (he x (by simp[Op.operands])) (he y (by simp[Op.operands])) w
  refine ⟨v,?_,this.2⟩
  simp only[execOp,Sem.run_bind,Sem.run_pure]
  have h1:=this.1
  rw[Sem.run_bind]at h1
  rw[h1];rfl
 ·rename_i op t x
  obtain ⟨u,hu,hh⟩:=Option.map_eq_some_iff.1 h
  cases hh
  have:=CN hu (he x (by simp[Op.operands])) w (P:=P)
  exact ⟨v,by simp[execOp,this.1],this.2⟩
 ·rename_i s d x
  obtain ⟨u,hu,hh⟩:=Option.map_eq_some_iff.1 h
  cases hh
  have:=yP hu (he x (by simp[Op.operands])) w
  exact ⟨v,by simp[execOp,this.1],this.2⟩
 ·rename_i f first cap
  cases h
  have h1:=xI (ρ:=ρ) (e:=e) (e':=e') (l:=first) (fun x hx=>he x (by simp[Op.operands,hx]))
  have h2:=xI (ρ:=ρ) (e:=e) (e':=e') (l:=cap) (fun x hx=>he x (by simp[Op.operands,hx]))
  exact ⟨_,rfl,.func h1.1 h1.2 h2.1 h2.2⟩
 ·rename_i t x lo hi
  have hlo:∀y,lo=some y->VR ρ (e y) (e' y):=fun y hy=>he y (by subst hy;simp[Op.operands])
  have hhi:∀y,hi=some y->VR ρ (e y) (e' y):=fun y hy=>he y (by subst hy;simp[Op.operands])
  obtain ⟨v',h1,h2⟩:=vb (lo':=lo.map e') (hi':=hi.map e') h (he x (by simp[Op.operands]))
   (fun y hy=>by obtain ⟨z,rfl,rfl⟩:=Option.map_eq_some_iff.1 hy;exact ⟨_,rfl,hlo z rfl⟩) (fun hy=>by simpa using hy)
   (fun y hy=>by obtain ⟨z,rfl,rfl⟩:=Option.map_eq_some_iff.1 hy;exact ⟨_,rfl,hhi z rfl⟩) (fun hy=>by simpa using hy) ho
  exact ⟨v',by simp[execOp,h1],h2⟩
 ·rename_i s x f
  obtain ⟨u,hu,hh⟩:=Option.map_eq_some_iff.1 h
  cases hh
  obtain ⟨v',h1,h2⟩:=nv hu (he x (by simp[Op.operands])) w
  exact ⟨v',by simp[execOp,h1],h2⟩
 ·rename_i s x f
  obtain ⟨u,hu,hh⟩:=Option.map_eq_some_iff.1 h
  cases hh
  obtain ⟨v',h1,h2⟩:=vm hu (he x (by simp[Op.operands])) w
  exact ⟨v',by simp[execOp,h1],h2⟩
 ·rename_i t x i
  obtain ⟨u,hu,hh⟩:=Option.map_eq_some_iff.1 h
  cases hh
  obtain ⟨v',h1,h2⟩:=nu hu (he x (by simp[Op.operands])) (he i (by simp[Op.operands])) w
  exact ⟨v',by simp[execOp,h1],h2⟩
 ·rename_i t x i
  obtain ⟨u,hu,hh⟩:=Option.map_eq_some_iff.1 h
  cases hh
  obtain ⟨v',h1,h2⟩:=vl hu (he x (by simp[Op.operands])) (he i (by simp[Op.operands])) w
  exact ⟨v',by simp[execOp,h1],h2⟩
 ·rename_i x i
  have hx:=he x (by simp[Op.operands])
  split at h
  ·rename_i vs hv
   rw[hv]at hx
   obtain ⟨u,hu,hh⟩:=Option.map_eq_some_iff.1 h
   cases hh
   generalize hq:e' x=q at hx
   cases hx with
   | @tuple _ vs' h1 h2 =>
    have hi:i<vs'.size:=h1 ▸ (Array.getElem?_eq_some_iff.1 hu).1
    exact ⟨vs'[i],by simp[execOp,hq,Instr.extract,hi],h2 i v _ hu (Array.getElem?_eq_getElem hi)⟩
  ·simp at h
 ·rename_i x t ts
  obtain ⟨v',h1,h2⟩:=AB (w:=w) h (he x (by simp[Op.operands,Call.operands])) ho ts ty
  refine ⟨v',?_,h2⟩
  simp[execOp,resolve,invoke,builtin,h1]
 ·rename_i xs ts
  obtain ⟨u,hu,hh⟩:=Option.map_eq_some_iff.1 h
  cases hh
  obtain ⟨v',h1,h2⟩:=lR (P:=P) false hu (mj (ρ:=ρ) (e':=e') (fun x hx=>he x (by simp[Op.operands,Call.operands];exact Array.mem_toList_iff.1 hx))) ts ty w
  refine ⟨v',?_,h2⟩
  have:xs.map e'=⟨xs.toList.map e'⟩:=by apply Array.toList_inj.1;simp
  simp only[Bool.false_eq_true,if_false]at h1
  simp[execOp,resolve,invoke,builtin,this,h1]
 ·rename_i xs ts
  obtain ⟨u,hu,hh⟩:=Option.map_eq_some_iff.1 h
  cases hh
  obtain ⟨v',h1,h2⟩:=lR (P:=P) true hu (mj (ρ:=ρ) (e':=e') (fun x hx=>he x (by simp[Op.operands,Call.operands];exact Array.mem_toList_iff.1 hx))) ts ty w
  refine ⟨v',?_,h2⟩
  have:xs.map e'=⟨xs.toList.map e'⟩:=by apply Array.toList_inj.1;simp
  simp only[if_true]at h1
  simp[execOp,resolve,invoke,builtin,this,h1]
 ·rename_i t x i ok
  obtain ⟨v',h1,h2⟩:=s6 (w:=w) h (he x (by simp[Op.operands])) (he i (by simp[Op.operands])) ho
  exact ⟨v',by simp[execOp,h1],h2⟩
 ·simp at h
end Go.K
namespace Go.K
variable {P:Program} {w:World} {ρ:Ren} {H:Heap}
def Ren.set(ρ:Ren)(id:Nat)(r:RI):Ren:=⟨fun i=>if i=id then some r else ρ i,ρ.mem,ρ.g⟩
theorem Ren.av(ρ:Ren)(id:Nat)(r:RI):ρ.set id r id=some r:=by simp[Ren.set]
theorem Ren.au{ρ:Ren}{id i:Nat}{r:RI}(h:i≠id):ρ.set id r i=ρ i:=by simp[Ren.set,h]
theorem Ren.dr{ρ:Ren}{id:Nat}{r:RI}(h:ρ id=none):Ren.le ρ (ρ.set id r):=⟨fun i x hx=>by
 have:i≠id:=fun e=>by rw[e,h]at hx;cases hx
 rw[Ren.au this];exact hx,fun _ _ h=>h,fun _ _ _ h=>h⟩
theorem dW(z:List Value):∀n,(cM z n).length=n*z.length:=by
 intro n
 induction n with
 |zero=>simp[cM]
 |succ n ih=>simp[cM,ih,Nat.add_mul,Nat.add_comm]
theorem sX(z:List Value):∀(n i:Nat),i<n*z.length->(cM z n)[i]?=z[i % z.length]? := by
 intro n
 induction n with
 |zero=>intro i h;simp at h
 |succ n ih =>
  intro i h
  simp only[cM]
  rcases Nat.lt_or_ge i z.length with hi|hi
  ·rw[List.getElem?_append_left hi,Nat.mod_eq_of_lt hi]
  ·rw[List.getElem?_append_right hi,ih _ (by rw[Nat.add_mul]at h;omega),<- Nat.mod_eq_sub_mod hi]
theorem lk(z:Array Value)(n:Nat):((Array.range (n*z.size)).map (fun i=>z[i % z.size]!)).toList=cM z.toList n:=by
  apply List.ext_getElem?
  intro i
  rcases Nat.lt_or_ge i (n*z.size) with hi|hi
  · have hz : 0 < z.size := by rcases Nat.eq_zero_or_pos z.size with h | h; · rw [h] at hi; simp at hi
                               · exact h
    have hm:i % z.size<z.size:=Nat.mod_lt _ hz
    rw[sX _ _ _ (by simpa using hi)]
    simp[hi,hm]
  · have h1 : (cM z.toList n).length <= i := by rw [dW]; simpa using hi
    rw[List.getElem?_eq_none h1]
    simp[hi]
theorem nm{z:Value}(h:fZ z=true)(n:Nat):VRl ρ (cM z.cells.toList n) (cM z.cells.toList n):=by
 refine ⟨rfl,fun i v v' a b =>?_⟩
 rw[a]at b;cases b
 have hi:=(List.getElem?_eq_some_iff.1 a).1
 rw[dW]at hi
 rw[sX _ _ _ hi]at a
 exact (fq (ρ:=ρ) h).2 _ _ _ a a
theorem wrap_i64{x:Int}(h0:0<=x)(h1:x<2 ^ 63):IntKind.i64.wrap x=x:=by
 have h2:x % (2:Int) ^ 64=x:=Int.emod_eq_of_lt h0 (by omega)
 simp only[IntKind.wrap,IntKind.bits,IntKind.signed,h2]
 rw[if_neg]
 simp only[Bool.true_and,decide_eq_true_eq]
 omega
theorem Post.alloc{B base:Nat}{M:List Nat}(hr:Rel P B ρ H w){ob:aa}{obj:Obj}{ri:RI}(hb:ri.b=w.heap.size)(hob:base<=H.length)
  (ho:aI (ρ.set H.length ri) ri ob (w.alloc obj)):Post P B base M ρ H w (ρ.set H.length ri) (H ++ [ob]) (w.alloc obj):=by
 have hnone:ρ H.length=none:=by
  cases h:ρ H.length with
  |none=>rfl
  |some r=>exact absurd (hr.dom _ _ h) (Nat.lt_irrefl _)
 have hold:∀k,k<w.heap.size->(w.alloc obj).heap[k]?=w.heap[k]? := fun k hk=>RowKit.Below.heap_alloc w obj k hk
 have hget:∀id,id≠H.length->id<H.length+1->(H ++ [ob])[id]?=H[id]? := fun id h1 h2=>List.getElem?_append_left (by omega)
 have hnew:(H ++ [ob])[H.length]?=some ob:=by simp
 have hdom:∀id r,ρ.set H.length ri id=some r->id<H.length+1:=fun id r h=>by
  by_cases e:id=H.length
  ·omega
  ·rw[Ren.au e]at h;have:=hr.dom _ _ h;omega
 refine ⟨⟨by simp;have:=hr.bsize;omega,fun g hg =>?_,fun id r h=>by simpa using hdom id r h,fun id r h =>?_,fun id r o h1 h2 =>?_,fun id r o h1 h2 h3 =>?_,?_,fun b m hm =>?_,?_⟩,Ren.dr hnone,fun id r h1 h2 =>?_,by simp,fun id h1 _ =>?_,by simp,fun b h1 _=>hold b h1,fun b h1 h2 =>?_,rfl,rfl,rfl,fun _ _ h => .inl h,by first|exact Nat.le_refl _|exact Nat.le_succ _,fun F k r a b=>(by rw[show (ρ.set H.length ri).g=ρ.g from rfl,b]at a;cases a)⟩
 ·obtain ⟨r,h1,h2,h3⟩:=hr.cS g hg
  exact ⟨r,Ren.dr hnone _ _ h1,h2,h3⟩
 ·by_cases e:id=H.length
  ·subst e;rw[Ren.av]at h;cases h;rw[hb];simp
  ·rw[Ren.au e]at h;have:=hr.lt _ _ h;simp;omega
 ·by_cases e:id=H.length
  ·subst e;rw[Ren.av]at h1;cases h1;rw[hnew]at h2;cases h2;exact ho
  ·rw[Ren.au e]at h1
   rw[hget id e (by have:=hr.dom _ _ h1;omega)]at h2
   exact (hr.obj id r o h1 h2).mono (Ren.dr hnone) (hold _ (hr.lt _ _ h1))
 ·by_cases e:id=H.length
  ·subst e;rw[Ren.av]at h1;cases h1;rw[hb];exact hr.bsize
  ·rw[Ren.au e]at h1
   rw[hget id e (by have:=hr.dom _ _ h1;omega)]at h2
   exact hr.base id r o h1 h2 h3
 ·intro id id' r r' o o' h1 h1' h2 h2' h3 h3' hne
  by_cases e:id=H.length
  ·subst e
   rw[Ren.av]at h1;cases h1
   rw[Ren.au (Ne.symm hne)]at h1'
   have:=hr.lt _ _ h1'
   omega
  ·rw[Ren.au e]at h1
   by_cases e':id'=H.length
   ·subst e'
    rw[Ren.av]at h1';cases h1'
    have:=hr.lt _ _ h1
    omega
   ·rw[Ren.au e']at h1'
    rw[hget id e (by have:=hr.dom _ _ h1;omega)]at h2
    rw[hget id' e' (by have:=hr.dom _ _ h1';omega)]at h2'
    exact hr.sep id id' r r' o o' h1 h1' h2 h2' h3 h3' hne
 ·obtain ⟨⟨ty,fz,e⟩,k⟩:=hr.mem b m hm
  have hbl:b<w.heap.size:=(Array.getElem?_eq_some_iff.1 e).1
  refine ⟨⟨ty,fz,(hold b hbl).trans e⟩,fun id r o h1 h2 h3 =>?_⟩
  by_cases e2:id=H.length
  ·subst e2;rw[Ren.av]at h1;cases h1;omega
  ·rw[Ren.au e2]at h1
   rw[hget id e2 (by have:=hr.dom _ _ h1;omega)]at h2
   exact k id r o h1 h2 h3
 ·refine hr.fam.keep (Ren.dr hnone) (fun _ _ _ h=>h) (fun F z cs hF h=>by rw[List.getElem?_append_left hF]at h;exact h) (by simp) (by simp) (fun b hb =>?_) (fun id r o h1 h2 h3 =>?_) (fun b m h=>hr.fam.ez h)
  ·rcases Nat.lt_or_ge b w.heap.size with hl|hl
   ·exact hold b hl
   ·exact absurd hb (hr.fam.t8 hl)
  ·by_cases e:id=H.length
   ·subst e;rw[Ren.av]at h1;cases h1;exact hr.fam.t8 (by omega)
   ·rw[Ren.au e]at h1
    rw[hget id e (by have:=hr.dom _ _ h1;omega)]at h2
    exact hr.fam.free h1 h2 h3
 ·by_cases e:id=H.length
  ·omega
  ·rw[Ren.au e,h2]at h1;cases h1
 ·exact List.getElem?_append_left (by omega)
 ·rcases h2 with ⟨id,r,o,h3,h4,h5,h6⟩|⟨F,k,r,z,cs,g,e2⟩
  ·by_cases e:id=H.length
   ·subst e;rw[Ren.av]at h3;cases h3;omega
   ·rw[Ren.au e]at h3
    rw[hget id e (by have:=hr.dom _ _ h3;omega)]at h4
    exact .inl ⟨id,r,o,h3,h4,h5,h6⟩
  ·have hF:=hr.fam.dom F k r g.g
   exact .inr ⟨F,k,r,z,cs,⟨g.g,by have:=g.h;rw[List.getElem?_append_left hF]at this;exact this,g.a⟩,e2⟩
theorem aI.ko{id z:Nat}{cs:List Value}{cs':Array Value}{ty:TypeId}(hn:ρ id=none)(h:VRl ρ cs cs'.toList) :
  aI (ρ.set id ⟨w.heap.size,0,cs'.size,z,true⟩) ⟨w.heap.size,0,cs'.size,z,true⟩ (.cells true z cs) (w.alloc (.cells cs' ty)):=by
 refine ⟨rfl,rfl,cs',ty,(0,0),World.alloc_heap_new w _,rfl,fun _=>rfl,fun i v hv =>?_⟩
 obtain ⟨v',h1,h2⟩:=h.get hv
 exact ⟨v',by simpa using h1,h2.mono (Ren.dr hn)⟩
theorem aI.yC{id z:Nat}{cs:List Value}{cs':Array Value}{ty:TypeId}(hn:ρ id=none)(h:∀(i:Nat) (v:Value),cs[i]?=some v->∃v':Value,cs'[i]?=some v'/\VR ρ v v') :
  aI (ρ.set id ⟨w.heap.size,0,cs'.size,z,true⟩) ⟨w.heap.size,0,cs'.size,z,true⟩ (.cells true z cs) (w.alloc (.cells cs' ty)):=by
 refine ⟨rfl,rfl,cs',ty,(0,0),World.alloc_heap_new w _,rfl,fun _=>rfl,fun i v hv =>?_⟩
 obtain ⟨v',h1,h2⟩:=h i v hv
 exact ⟨v',by simpa using h1,h2.mono (Ren.dr hn)⟩
theorem nC{o:Oper}{e e':Operand->Value}{v:Value}{id:Nat}{ob:aa}(h:ia P o.op e id=some (v,ob))(he:∀x∈o.op.operands,VR ρ (e x) (e' x))(hn:ρ id=none)(w:World) :
  ∃v' obj ri,(execOp e' o).run P w = .ok (.value v') (w.alloc obj)/\ri.b=w.heap.size/\VR (ρ.set id ri) v v'/\aI (ρ.set id ri) ri ob (w.alloc obj):=by
 obtain ⟨dst,op,ty,pos,after,guard⟩:=o
 simp only at h he ⊢
 unfold ia at h
 split at h
 ·rename_i t
  obtain ⟨z,hz,hh⟩:=Option.map_eq_some_iff.1 h
  cases hh
  obtain ⟨hzr,hzc⟩:=da hz w
  refine ⟨_,.cells z.cells t,⟨w.heap.size,0,z.cells.size,0,true⟩,?_,rfl,.ptr (Ren.av _ _ _),aI.ko hn (fq hzc)⟩
  simp[execOp,Instr.alloc,hzr,newVar,newRow]
 ·rename_i t x
  have hnt:nt (e x)=true:=by
   cases hb:nt (e x) with
   |true=>rfl
   |false=>rw[if_neg (by rw[hb];simp)]at h;cases h
  rw[if_pos hnt]at h
  cases h
  have hx:=(he x (by simp[Op.operands])).cells hnt
  refine ⟨_,.cells (e' x).cells t,⟨w.heap.size,0,(e' x).cells.size,0,true⟩,?_,rfl,.ptr (Ren.av _ _ _),aI.ko hn hx⟩
  simp[execOp,Instr.box,newVar,newRow]
 ·rename_i t len parts
  split at h
  ·rename_i el hu
   split at h
   ·rename_i n z hs hz
    split at h
    ·rename_i hc
     obtain ⟨c,hf,hh⟩:=Option.map_eq_some_iff.1 h
     cases hh
     obtain ⟨hzr,hzc⟩:=da hz w
     have hzs:z.cells.size=n:=by simpa using hc.1
     have Be:((Array.range (len*n)).map (fun i=>(if len*n=0 then #[] else z.cells)[i % (if len*n=0 then (#[]:Array Value) else z.cells).size]!)).toList=cM z.cells.toList len:=by
      by_cases h0:len*n=0
      ·rw[h0];have:(cM z.cells.toList len).length=0:=by rw[dW];simp[hzs];simpa using h0
       rw[List.length_eq_zero_iff.1 this];simp
      ·rw[if_neg h0];rw[<- hzs];exact lk z.cells len
     obtain ⟨c',h1,h2⟩:=nU (ρ:=ρ) (parts':=parts.toList.map fun p=>(p.1,e' p.2)) (cells':=(Array.range (len*n)).map (fun i=>(if len*n=0 then #[] else z.cells)[i % (if len*n=0 then (#[]:Array Value) else z.cells).size]!)) hf
      (by rw[Be];exact nm hzc len) (by simp) (fun i x x' a b=>by
       rw[List.getElem?_map]at a b
       obtain ⟨p,hp,rfl⟩:=Option.map_eq_some_iff.1 a
       rw[hp]at b;simp at b;subst b
       exact ⟨rfl,he _ (by simp only[Op.operands,List.mem_toArray,List.mem_map];exact ⟨p,List.mem_of_getElem? hp,rfl⟩)⟩)
     have hcl:c'.size=len*n:=by
      have e1:=h2.1
      have e2:c.length=(cM z.cells.toList len).length:=by
       have:∀(parts:List (Nat×Value)) (cells c:List Value),jy (fun i=>some (i*n,n)) cells parts=some c->c.length=cells.length:=by
        intro parts
        induction parts with
        |nil=>intro cells c h;simp[jy]at h;subst h;rfl
        |cons p ps ih =>
         intro cells c h
         simp only[jy]at h
         split at h
         ·rw[ih _ _ h,cw]
         ·simp at h
       exact this _ _ _ hf
      rw[dW]at e2
      simp at e1 e2
      rw[hzs]at e2
      omega
     refine ⟨.slice (some ⟨w.heap.size,0,none⟩) len len,.cells c' el,⟨w.heap.size,0,c'.size,n,true⟩,?_,rfl,?_,aI.ko hn h2⟩
     ·have hp:parts.map (fun x=>(x.1,e' x.2))=⟨parts.toList.map fun p=>(p.1,e' p.2)⟩:=by apply Array.toList_inj.1;simp
      simp only[execOp,Instr.buildSlice,Sem.run_bind,aA hu,Result.andThen_ok,bj hs,hp]
      rw[Sem.run_ite,if_neg (by omega)]
      simp only[Sem.run_bind,Sem.run_pure,Result.andThen_ok]
      by_cases h0:len*n=0
      ·simp only[h0,if_true,Sem.run_pure,Result.andThen_ok]at h1 ⊢
       simp only[pure_bind,h1]
       simp[newRow]
      ·simp only[h0,if_false,Sem.run_pure,Sem.run_bind,hzr,Result.andThen_ok]at h1 ⊢
       simp only[h1]
       simp[newRow]
     ·cases len with
      |zero=>exact VR.ay
      |succ len =>
       have:=VR.slice (ρ:=ρ.set id ⟨w.heap.size,0,c'.size,n,true⟩) (id:=id) (o:=0) (len:=len+1) (cap:=len+1) (cap':=len+1) (Ren.av _ _ _) (Nat.le_refl _) (Nat.le_refl _) (fun _ _=>by simp[hcl])
       simpa using this
    ·simp at h
   ·simp at h
  ·simp at h
 ·rename_i t l c
  split at h
  ·rename_i el l' c' hu hl hc
   have hl2:=he l (by simp[Op.operands])
   have hc2:=he c (by simp[Op.operands])
   rw[hl]at hl2
   rw[hc]at hc2
   generalize hql:e' l=ql at hl2
   generalize hqc:e' c=qc at hc2
   cases hl2;cases hc2
   split at h
   ·rename_i n by_ z hs hby hz
    split at h
    ·rename_i hcond
     obtain ⟨hzl,h0,hlc,hcm,hbc⟩:=hcond
     cases h
     obtain ⟨hzr,hzc⟩:=da hz w
     obtain ⟨i,hib,hir⟩:=yq hby w
     have hzs:z.cells.size=n:=by simpa using hzl
     have w1:IntKind.i64.wrap l'=l':=wrap_i64 h0 (by omega)
     have w2:IntKind.i64.wrap c'=c':=wrap_i64 (by omega) (by omega)
     refine ⟨.slice (some ⟨w.heap.size,0,none⟩) l'.toNat c'.toNat,.cells ((Array.range (c'.toNat*n)).map (fun i=>(if c'.toNat*n=0 then #[] else z.cells)[i % (if c'.toNat*n=0 then (#[]:Array Value) else z.cells).size]!)) el,
      ⟨w.heap.size,0,c'.toNat*n,n,true⟩,?_,rfl,?_,?_⟩
     ·simp only[execOp,hql,hqc,Instr.makeSlice,Sem.run_bind,aA hu,Result.andThen_ok,asInt,asIntOf,Sem.run_pure,hir,w1,w2]
      have ht:(decide (c'<0) ||decide ((i.bytes:Int)*c' > 2 ^ 48))=false:=by
       rw[hib];simp only[Bool.or_eq_false_iff,decide_eq_false_iff_not];omega
      have hcnd:¬ ((decide (c'<0) ||decide ((i.bytes:Int)*c' > 2 ^ 48) ||decide (l'<0) ||decide (l' > c'))=true):=by
       rw[ht];simp;omega
      rw[Sem.run_ite,if_neg hcnd]
      simp only[Sem.run_bind,run_askRoom,Result.andThen_ok,bj hs,Sem.run_pure]
      by_cases hz0:c'.toNat*n=0
      ·simp[hz0,newRow]
      ·simp only[hz0,if_false,Sem.run_bind,hzr,Result.andThen_ok,Sem.run_pure,newRow,run_newObj]
       simp
     ·have:=VR.slice (ρ:=ρ.set id ⟨w.heap.size,0,c'.toNat*n,n,true⟩) (id:=id) (o:=0) (len:=l'.toNat) (cap:=c'.toNat) (cap':=c'.toNat) (Ren.av _ _ _) (by omega) (Nat.le_refl _) (fun _ _=>by simp)
      simpa using this
     ·have hrow:VRl ρ (cM z.cells.toList c'.toNat) ((Array.range (c'.toNat*n)).map (fun i=>(if c'.toNat*n=0 then #[] else z.cells)[i % (if c'.toNat*n=0 then (#[]:Array Value) else z.cells).size]!)).toList:=by
       by_cases h0':c'.toNat*n=0
       ·rw[h0'];have:(cM z.cells.toList c'.toNat).length=0:=by rw[dW];simp[hzs];simpa using h0'
        rw[List.length_eq_zero_iff.1 this];simpa using VRl.nil ρ
       ·rw[if_neg h0',<- hzs,lk z.cells];exact nm hzc _
      have:=aI.ko (w:=w) (z:=n) (ty:=el) hn hrow
      simpa using this
    ·simp at h
   ·simp at h
  ·simp at h
 ·rename_i t
  cases h
  refine ⟨.map (some w.heap.size),.map #[] 0,⟨w.heap.size,0,0,0,true⟩,by simp[execOp,Instr.makeMap],rfl,.map (Ren.av _ _ _),rfl,#[],World.alloc_heap_new w _,⟨rfl,fun i e h=>by simp at h⟩,fun i k v hv=>by simp at hv⟩
 ·simp at h
end Go.K
namespace Go.K
variable {P:Program} {w:World} {ρ:Ren} {H:Heap}
theorem sr{b k:Nat}{cs:Array Value}{ty:TypeId}{fz:Nat×Nat}(hb:w.heap[b]?=some (.cells cs ty fz))(v:Value) :
  w.setCell ⟨b,k,none⟩ v=w.putObj b (.cells (cs.setIfInBounds k v) ty fz):=by
 have hlt:b<w.heap.size:=(Array.getElem?_eq_some_iff.1 hb).1
 have:w.heap.modify b (fun
   | .cells c elem frozen => .cells (if (none:Option Nat).isSome then c else c.setIfInBounds k v) elem frozen
   |o=>o)=w.heap.setIfInBounds b (.cells (cs.setIfInBounds k v) ty fz):=by
  apply Array.ext_getElem?
  intro i
  rw[Array.getElem?_modify]
  by_cases h:b=i
  ·subst h;rw[if_pos rfl,hb];simp[hlt]
  ·rw[if_neg h,Array.getElem?_setIfInBounds_ne h]
 simp only[World.setCell,World.putObj]
 rw[<- this]
 rfl
theorem oH(b:Nat)(o o':Obj):(w.putObj b o).putObj b o'=w.putObj b o':=by
 simp[World.putObj]
theorem fb{b:Nat}{o:Obj}(h:w.heap[b]?=some o):w.putObj b o=w:=by
 obtain ⟨hlt,he⟩:=Array.getElem?_eq_some_iff.1 h
 have:w.heap.setIfInBounds b o=w.heap:=by
  apply Array.ext_getElem?
  intro i
  by_cases hi:b=i
  ·subst hi;simp[hlt,he]
  ·rw[Array.getElem?_setIfInBounds_ne hi]
 simp only[World.putObj,this]
theorem putObj_size(b:Nat)(o:Obj):(w.putObj b o).heap.size=w.heap.size:=by simp[World.putObj]
theorem bE{b:Nat}{o o':Obj}(h:w.heap[b]?=some o):(w.putObj b o').heap[b]?=some o':=World.putObj_heap_same (Array.getElem?_eq_some_iff.1 h).1
theorem dp{b off:Nat}{ty:TypeId}:∀(vs:List Value) (i:Nat) (cs:Array Value) (w:World),w.heap[b]?=some (.cells cs ty (0,0))->vs.all (fun v=>v.oneCell')=true->off+i+vs.length<=cs.size ->
  (storeCells ⟨b,off,none⟩ vs i).run P w = .ok () (w.putObj b (.cells ⟨ba cs.toList (off+i) vs⟩ ty (0,0))):=by
 intro vs
 induction vs with
 |nil=>intro i cs w hb _ _;simp[storeCells,ba,fb hb]
 |cons v vs ih =>
  intro i cs w hb ho hle
  simp only[List.all_cons,Bool.and_eq_true]at ho
  have hi:off+i<cs.size:=by simp at hle;omega
  simp only[storeCells,Sem.run_bind,addr_add]
  have hfz:w.frozen? ⟨b,off+i,none⟩=false:=by simp[World.frozen?,hb]
  rw[run_store P w _ _ _ ho.1,cell_of hb,Array.getElem?_eq_getElem hi]
  simp only[hfz,Bool.false_eq_true,if_false,Result.andThen_ok]
  rw[sr hb]
  rw[ih (i+1) (cs.setIfInBounds (off+i) v) _ (bE hb) ho.2 (by simp at hle;simp;omega)]
  rw[oH]
  simp[ba,Nat.add_assoc]
theorem lT{n len:Nat}{x x':Value}{cs:List Value}(hq:deq x=x)(h:cL P n len x H=some cs)(hx:VR ρ x x')(ho:∀id,kP ρ H w id) :
  ∃cs',(Builtin.firstCells n len x').run P w = .ok cs' w/\VRl ρ cs cs'.toList:=by
 unfold cL at h
 rw[hq]at h
 split at h
 ·split at h
  ·rename_i h0;cases h;cases hx;exact ⟨#[],rfl,.nil ρ⟩
  ·simp at h
 ·rename_i id off l c
  split at h
  ·rename_i own z cs0 hid
   split at h
   ·rename_i Jz
    obtain ⟨hll,hle⟩:=Jz
    cases h
    cases hx with
    | @slice _ _ r _ _ _ hr _ _ _ =>
     obtain ⟨_,_,cs',ty,fz,hb,hn,_,hcs⟩:=(ho id).o r _ hr hid
     have hv:=pn hcs hle
     rcases dx hcs hle with hsz|h0
     ·exact ⟨_,run_loadCells hb (by omega),hv⟩
     ·rw[h0]
      exact ⟨#[],by simp[Builtin.firstCells,h0,loadCells,loadCellsFrom],by simpa using VRl.nil ρ⟩
    | @aQ _ _ r o' hr =>
     obtain rfl:len=0:=by omega
     exact ⟨#[],by simp[Builtin.firstCells,loadCells,loadCellsFrom],by simpa using VRl.nil ρ⟩
   ·simp at h
  ·simp at h
 ·simp at h
theorem hU{n len:Nat}{x x':Value}{cs:List Value}(h:cL P n len x H=some cs)(hx:VR ρ x x')(ho:∀id,kP ρ H w id) :
  ∃cs',(Builtin.firstCells n len x').run P w = .ok cs' w/\VRl ρ cs cs'.toList:=by
 rcases zi x with hq|⟨id,off,k,l,cap,rfl⟩
 ·exact lT hq h hx ho
 ·rcases Nat.eq_zero_or_pos l with h0|h0
  ·subst h0
   unfold cL deq at h
   simp only at h
   split at h
   ·split at h
    ·rename_i hc
     obtain rfl:len=0:=by omega
     cases h
     obtain ⟨a,c,rfl⟩:∃a c,x' = .slice a 0 c:=by cases hx <;> exact ⟨_,_,rfl⟩
     exact ⟨#[],by cases a <;> simp[Builtin.firstCells,loadCells,loadCellsFrom],by simpa using VRl.nil ρ⟩
    ·cases h
   ·cases h
  ·exact lT (x:=.slice (some ⟨id,off,none⟩) l cap) rfl h (hx.deq h0) ho
theorem Post.drew{B base:Nat}{M:List Nat}(hr:Rel P B ρ H w):Post P B base M ρ H w ρ H w.drew :=
 ⟨hr.drew,Ren.le_refl _,fun id r a b=>(by rw[b]at a;cases a),Nat.le_refl _,fun _ _ _=>rfl,Nat.le_refl _,fun _ _ _=>rfl,fun _ _ h=>h,rfl,rfl,rfl,fun _ _ h => .inl h,by first|exact Nat.le_refl _|exact Nat.le_succ _,fun F k x a b=>(by first|(rw[b]at a;cases a)|(rw[show (ρ.set H.length r').g=ρ.g from rfl,b]at a;cases a))⟩
theorem aJ{o:aa}(h:o.owned=true):o.alive=true:=by cases o <;> first|rfl|simp[aa.owned]at h
theorem Post.put{B base:Nat}{M:List Nat}(hr:Rel P B ρ H w){id:Nat}{r:RI}{ob ob':aa}{o':Obj}(hid:ρ id=some r)(ho:H[id]?=some ob)(hown:ob.owned=true)
  (hw:w.heap[r.b]?.isSome) (h':aI ρ r ob' (w.putObj r.b o')) (hM:id<base->id∈M) (hnf:∀z cs,ob' ≠ .fam z cs:=by intro _ _ h;cases h):Post P B base M ρ H w ρ (H.set id ob') (w.putObj r.b o'):=by
 have hlt:=hr.lt id r hid
 have Gr:=hr.dom id r hid
 have hoth:∀b,b≠r.b->(w.putObj r.b o').heap[b]?=w.heap[b]? := fun b hb=>World.putObj_heap_other hb
 have hown':∀o,(H.set id ob')[id]?=some o->o=ob':=fun o h=>by rw[List.getElem?_set_self Gr]at h;exact (Option.some.inj h).symm
 have hsep:∀id' r' o,id'≠id->ρ id'=some r'->H[id']?=some o->o.alive=true->r'.b≠r.b:=fun id' r' o hne h1 h2 h3=>(hr.sep id id' r r' ob o hid h1 ho h2 hown h3 (Ne.symm hne)).symm
 refine ⟨⟨by rw[putObj_size];exact hr.bsize,hr.cS,fun i x h=>by simpa using hr.dom i x h,fun i x h=>by rw[putObj_size];exact hr.lt i x h,fun i x o h1 h2 =>?_,fun i x o h1 h2 h3 =>?_,?_,fun b m hm =>?_,?_⟩,
  Ren.le_refl _,fun i x a b=>(by rw[b]at a;cases a),by simp,fun i h1 h2 =>?_,by rw[putObj_size];exact Nat.le_refl _,fun b h1 h2=>hoth b (fun e=>h2 (.inl ⟨id,r,ob,hid,ho,hown,e.symm⟩)),fun b h1 h2 =>?_,rfl,rfl,rfl,fun _ _ h => .inl h,by first|exact Nat.le_refl _|exact Nat.le_succ _,fun F k x a b=>(by first|(rw[b]at a;cases a)|(rw[show (ρ.set H.length r').g=ρ.g from rfl,b]at a;cases a))⟩
 ·by_cases e:i=id
  ·subst e;rw[hid]at h1;cases h1;rw[hown' _ h2];exact h'
  ·rw[List.getElem?_set_ne (Ne.symm e)]at h2
   cases ha:o.alive with
   |true=>exact (hr.obj i x o h1 h2).mono (Ren.le_refl _) (hoth _ (hsep i x o e h1 h2 ha))
   |false=>cases o <;> first|trivial|simp[aa.alive]at ha
 ·by_cases e:i=id
  ·subst e;rw[hid]at h1;cases h1;exact hr.base i r ob hid ho hown
  ·rw[List.getElem?_set_ne (Ne.symm e)]at h2;exact hr.base i x o h1 h2 h3
 ·intro i i' x x' o o2 h1 h1' h2 h2' h3 h3' hne
  by_cases e:i=id
  ·subst e
   rw[hid]at h1;cases h1
   rw[List.getElem?_set_ne hne]at h2'
   exact (hsep i' x' o2 (Ne.symm hne) h1' h2' h3').symm
  ·rw[List.getElem?_set_ne (Ne.symm e)]at h2
   by_cases e':i'=id
   ·subst e'
    rw[hid]at h1';cases h1'
    refine hsep i x o e h1 h2 ?_
    cases o <;> first|rfl|simp[aa.owned]at h3
   ·rw[List.getElem?_set_ne (Ne.symm e')]at h2'
    exact hr.sep i i' x x' o o2 h1 h1' h2 h2' h3 h3' hne
 ·obtain ⟨⟨ty,fz,e⟩,k⟩:=hr.mem b m hm
  refine ⟨⟨ty,fz,(hoth b (Ne.symm (k id r ob hid ho hown))).trans e⟩,fun i x o h1 h2 h3 =>?_⟩
  by_cases e2:i=id
  ·subst e2;rw[hid]at h1;cases h1;exact k i r ob hid ho hown
  ·rw[List.getElem?_set_ne (Ne.symm e2)]at h2;exact k i x o h1 h2 h3
 ·have hfree:=hr.fam.free hid ho (aJ hown)
  refine hr.fam.keep (Ren.le_refl _) (fun _ _ _ h=>h) (fun F z cs hF h =>?_) (by simp) (by rw[putObj_size];exact Nat.le_refl _) (fun b hb=>hoth b (fun e=>hfree (e ▸ hb))) (fun i x o h1 h2 h3 =>?_) (fun b m h=>hr.fam.ez h)
  ·by_cases e:F=id
   ·subst e;exact absurd (hown' _ h).symm (hnf z cs)
   ·rw[List.getElem?_set_ne (Ne.symm e)]at h;exact h
  ·by_cases e:i=id
   ·subst e;rw[hid]at h1;cases h1;exact hfree
   ·rw[List.getElem?_set_ne (Ne.symm e)]at h2;exact hr.fam.free h1 h2 h3
 ·exact List.getElem?_set_ne (fun (e:id=i)=>h2 (by subst e;exact hM h1))
 ·rcases h2 with ⟨i,x,o,h3,h4,h5,h6⟩|⟨F,k,x,z,cs,g,e⟩
  ·by_cases e:i=id
   ·subst e;rw[hid]at h3;cases h3;exact .inl ⟨i,r,ob,hid,ho,hown,h6⟩
   ·rw[List.getElem?_set_ne (Ne.symm e)]at h4;exact .inl ⟨i,x,o,h3,h4,h5,h6⟩
  ·by_cases e2:F=id
   ·subst e2;exact absurd (hown' _ g.h).symm (hnf z cs)
   ·have:=g.h;rw[List.getElem?_set_ne (Ne.symm e2)]at this;exact .inr ⟨F,k,x,z,cs,⟨g.g,this,g.a⟩,e⟩
theorem Post.kill{B base:Nat}{M:List Nat}(hr:Rel P B ρ H w){id:Nat}{r:RI}{ob:aa}(hid:ρ id=some r)(ho:H[id]?=some ob)(hown:ob.owned=true)
  (hM:id<base->id∈M):Post P B base M ρ H w ρ (H.set id .dead) w:=by
 have hlt:=hr.lt id r hid
 have hs:w.heap[r.b]?=some w.heap[r.b]:=Array.getElem?_eq_getElem hlt
 have:=Post.put (base:=base) (M:=M) hr (ob':=.dead) (o':=w.heap[r.b]) hid ho hown (by rw[hs];rfl) trivial hM
 rwa [fb hs]at this
theorem Post.kr{B base:Nat}{M:List Nat}(hr:Rel P B ρ H w){id:Nat}{ob:aa}(ho:H[id]?=some ob)(hown:ob.owned=true)
  (hM:id<base->id∈M):Post P B base M ρ H w ρ (H.set id .dead) w:=by
 cases hid:ρ id with
 |some r=>exact Post.kill hr hid ho hown hM
 |none =>
  have hget:∀i r,ρ i=some r->(H.set id .dead)[i]?=H[i]? := fun i r hi=>List.getElem?_set_ne (fun e=>by rw[<- e,hid]at hi;cases hi)
  have ju:∀(F z:Nat) (cs:List Value),(H.set id aa.dead)[F]?=some (aa.fam z cs)->H[F]?=some (aa.fam z cs):=fun F z cs h=>by
   by_cases e:F=id
   ·subst e
    rw[List.getElem?_set_self (List.getElem?_eq_some_iff.1 ho).1]at h;cases h
   ·rw[List.getElem?_set_ne (Ne.symm e)]at h;exact h
  refine ⟨⟨hr.bsize,hr.cS,fun i x h=>by simpa using hr.dom i x h,hr.lt,fun i x o h1 h2=>hr.obj i x o h1 (by rw[<- hget i x h1];exact h2),fun i x o h1 h2 h3=>hr.base i x o h1 (by rw[<- hget i x h1];exact h2) h3,
   fun i j x y o o' h1 h2 h3 h4=>hr.sep i j x y o o' h1 h2 (by rw[<- hget i x h1];exact h3) (by rw[<- hget j y h2];exact h4),fun b m hm=>⟨(hr.mem b m hm).1,fun i x o h1 h2 h3=>(hr.mem b m hm).2 i x o h1 (by rw[<- hget i x h1];exact h2) h3⟩,
   hr.fam.keep (Ren.le_refl _) (fun _ _ _ h=>h) (fun F z cs _ h=>ju F z cs h) (by simp) (Nat.le_refl _) (fun _ _=>rfl) (fun i x o h1 h2 h3=>hr.fam.free h1 (by rw[<- hget i x h1];exact h2) h3) (fun b m h=>hr.fam.ez h)⟩,
   Ren.le_refl _,fun i x a b=>(by rw[b]at a;cases a),by simp,fun i h1 h2 =>?_,Nat.le_refl _,fun _ _ _=>rfl,fun b h1 h2 =>?_,rfl,rfl,rfl,fun _ _ h => .inl h,by first|exact Nat.le_refl _|exact Nat.le_succ _,fun F k x a b=>(by first|(rw[b]at a;cases a)|(rw[show (ρ.set H.length r').g=ρ.g from rfl,b]at a;cases a))⟩
  ·exact List.getElem?_set_ne (fun e=>by subst e;exact h2 (hM h1))
  ·rcases h2 with ⟨i,x,o,k1,k2,k3,k4⟩|⟨F,k,x,z,cs,g,e⟩
   ·exact .inl ⟨i,x,o,k1,by rw[<- hget i x k1];exact k2,k3,k4⟩
   ·exact .inr ⟨F,k,x,z,cs,⟨g.g,ju _ _ _ g.h,g.a⟩,e⟩
theorem Post.move{B base:Nat}{M:List Nat}(hr:Rel P B ρ H w){id:Nat}{r r':RI}{ob ob':aa}{o':Obj}(hid:ρ id=some r)(ho:H[id]?=some ob)(hown:ob.owned=true)
  (hb:r'.b=r.b) (hob:base<=H.length) (h':aI (ρ.set H.length r') r' ob' (w.putObj r.b o')) (hM:id<base->id∈M) :
  Post P B base M ρ H w (ρ.set H.length r') (H.set id .dead ++ [ob']) (w.putObj r.b o'):=by
 have hlt:=hr.lt id r hid
 have Gr:=hr.dom id r hid
 have hnone:ρ H.length=none:=by
  cases h:ρ H.length with
  |none=>rfl
  |some r=>exact absurd (hr.dom _ _ h) (Nat.lt_irrefl _)
 have hoth:∀b,b≠r.b->(w.putObj r.b o').heap[b]?=w.heap[b]? := fun b hb=>World.putObj_heap_other hb
 have hsep:∀id' r' o,id'≠id->ρ id'=some r'->H[id']?=some o->o.alive=true->r'.b≠r.b:=fun id' r' o hne h1 h2 h3=>(hr.sep id id' r r' ob o hid h1 ho h2 hown h3 (Ne.symm hne)).symm
 have hnew:(H.set id aa.dead ++ [ob'])[H.length]?=some ob':=by simp
 have hget:∀i,i≠H.length->i<H.length+1->(H.set id aa.dead ++ [ob'])[i]?=(H.set id aa.dead)[i]? := fun i h1 h2=>List.getElem?_append_left (by simp;omega)
 have kC:(H.set id aa.dead)[id]?=some .dead:=List.getElem?_set_self Gr
 have hle:=Ren.dr (r:=r') hnone
 have ju:∀(F z:Nat) (cs:List Value),F<H.length->(H.set id aa.dead ++ [ob'])[F]?=some (.fam z cs)->H[F]?=some (.fam z cs):=fun F z cs hF h=>by
  rw[hget F (by omega) (by omega)]at h
  by_cases e:F=id
  ·subst e;rw[kC]at h;cases h
  ·rw[List.getElem?_set_ne (Ne.symm e)]at h;exact h
 refine ⟨⟨by rw[putObj_size];exact hr.bsize,fun g hg =>?_,fun i x h =>?_,fun i x h =>?_,fun i x o h1 h2 =>?_,fun i x o h1 h2 h3 =>?_,?_,fun b m hm =>?_,?_⟩,hle,fun i x h1 h2 =>?_,by simp,fun i h1 h2 =>?_,by rw[putObj_size];exact Nat.le_refl _,
  fun b h1 h2=>hoth b (fun e=>h2 (.inl ⟨id,r,ob,hid,ho,hown,e.symm⟩)),fun b h1 h2 =>?_,rfl,rfl,rfl,fun _ _ h => .inl h,by first|exact Nat.le_refl _|exact Nat.le_succ _,fun F k x a b=>(by first|(rw[b]at a;cases a)|(rw[show (ρ.set H.length r').g=ρ.g from rfl,b]at a;cases a))⟩
 ·obtain ⟨x,h1,h2,h3⟩:=hr.cS g hg
  exact ⟨x,hle _ _ h1,h2,h3⟩
 ·by_cases e:i=H.length
  ·subst e;simp
  ·rw[Ren.au e]at h;have:=hr.dom _ _ h;simp;omega
 ·rw[putObj_size]
  by_cases e:i=H.length
  ·subst e;rw[Ren.av]at h;cases h;rw[hb];exact hlt
  ·rw[Ren.au e]at h;exact hr.lt _ _ h
 ·by_cases e:i=H.length
  ·subst e;rw[Ren.av]at h1;cases h1;rw[hnew]at h2;cases h2;exact h'
  ·rw[Ren.au e]at h1
   rw[hget i e (by have:=hr.dom _ _ h1;omega)]at h2
   by_cases e2:i=id
   ·subst e2;rw[kC]at h2;cases h2;trivial
   ·rw[List.getElem?_set_ne (Ne.symm e2)]at h2
    cases ha:o.alive with
    |true=>exact (hr.obj i x o h1 h2).mono hle (hoth _ (hsep i x o e2 h1 h2 ha))
    |false=>cases o <;> first|trivial|simp[aa.alive]at ha
 ·by_cases e:i=H.length
  ·subst e;rw[Ren.av]at h1;cases h1;rw[hb];exact hr.base id r ob hid ho hown
  ·rw[Ren.au e]at h1
   rw[hget i e (by have:=hr.dom _ _ h1;omega)]at h2
   by_cases e2:i=id
   ·subst e2;rw[kC]at h2;cases h2;simp[aa.owned]at h3
   ·rw[List.getElem?_set_ne (Ne.symm e2)]at h2;exact hr.base i x o h1 h2 h3
 ·intro i i' x x' o o2 h1 h1' h2 h2' h3 h3' hne
  have other:∀j y p,j≠H.length->ρ.set H.length r' j=some y->(H.set id aa.dead ++ [ob'])[j]?=some p->p.alive=true->j≠id/\ρ j=some y/\H[j]?=some p:=by
   intro j y p hj g1 g2 g3
   rw[Ren.au hj]at g1
   rw[hget j hj (by have:=hr.dom _ _ g1;omega)]at g2
   by_cases e2:j=id
   ·subst e2;rw[kC]at g2;cases g2;simp[aa.alive]at g3
   ·rw[List.getElem?_set_ne (Ne.symm e2)]at g2;exact ⟨e2,g1,g2⟩
  have Bh:o.alive=true:=by cases o <;> first|rfl|simp[aa.owned]at h3
  by_cases e:i=H.length
  ·subst e
   rw[Ren.av]at h1;cases h1
   obtain ⟨g1,g2,g3⟩:=other i' x' o2 (Ne.symm hne) h1' h2' h3'
   rw[hb]
   exact (hsep i' x' o2 g1 g2 g3 h3').symm
  ·obtain ⟨g1,g2,g3⟩:=other i x o e h1 h2 Bh
   by_cases e':i'=H.length
   ·subst e'
    rw[Ren.av]at h1';cases h1'
    rw[hb]
    exact hsep i x o g1 g2 g3 Bh
   ·obtain ⟨g4,g5,g6⟩:=other i' x' o2 e' h1' h2' h3'
    exact hr.sep i i' x x' o o2 g2 g5 g3 g6 h3 h3' hne
 ·obtain ⟨⟨ty,fz,e⟩,k⟩:=hr.mem b m hm
  refine ⟨⟨ty,fz,(hoth b (Ne.symm (k id r ob hid ho hown))).trans e⟩,fun i x o h1 h2 h3 =>?_⟩
  have hal:o.alive=true:=by cases o <;> first|rfl|simp[aa.owned]at h3
  have other:∀j y p,j≠H.length->ρ.set H.length r' j=some y->(H.set id aa.dead ++ [ob'])[j]?=some p->p.alive=true->j≠id/\ρ j=some y/\H[j]?=some p:=by
   intro j y p hj g1 g2 g3
   rw[Ren.au hj]at g1
   rw[hget j hj (by have:=hr.dom _ _ g1;omega)]at g2
   by_cases e2:j=id
   ·subst e2;rw[kC]at g2;cases g2;simp[aa.alive]at g3
   ·rw[List.getElem?_set_ne (Ne.symm e2)]at g2;exact ⟨e2,g1,g2⟩
  by_cases e2:i=H.length
  ·subst e2;rw[Ren.av]at h1;cases h1;rw[hb];exact k id r ob hid ho hown
  ·obtain ⟨g1,g2,g3⟩:=other i x o e2 h1 h2 hal
   exact k i x o g2 g3 h3
 ·have hfree:=hr.fam.free hid ho (aJ hown)
  refine hr.fam.keep hle (fun _ _ _ h=>h) (fun F z cs hF h=>ju F z cs hF h) (by simp) (by rw[putObj_size];exact Nat.le_refl _) (fun b hb=>hoth b (fun e=>hfree (e ▸ hb))) (fun i x o h1 h2 h3 =>?_) (fun b m h=>hr.fam.ez h)
  by_cases e:i=H.length
  ·subst e;rw[Ren.av]at h1;cases h1;rw[hb];exact hfree
  ·rw[Ren.au e]at h1
   rw[hget i e (by have:=hr.dom _ _ h1;omega)]at h2
   by_cases e2:i=id
   ·subst e2;rw[kC]at h2;cases h2;simp[aa.alive]at h3
   ·rw[List.getElem?_set_ne (Ne.symm e2)]at h2;exact hr.fam.free h1 h2 h3
 ·by_cases e:i=H.length
  ·omega
  ·rw[Ren.au e,h2]at h1;cases h1
 ·rw[List.getElem?_append_left (by simp;omega)]
  exact List.getElem?_set_ne (fun (e:id=i)=>h2 (by subst e;exact hM h1))
 ·rcases h2 with ⟨i,x,o,h3,h4,h5,h6⟩|⟨F,k,x,z,cs,g,e⟩
  ·by_cases e:i=H.length
   ·subst e;rw[Ren.av]at h3;cases h3;exact .inl ⟨id,r,ob,hid,ho,hown,by rw[<- hb];exact h6⟩
   ·rw[Ren.au e]at h3
    rw[hget i e (by have:=hr.dom _ _ h3;omega)]at h4
    by_cases e2:i=id
    ·subst e2;rw[kC]at h4;cases h4;simp[aa.owned]at h5
    ·rw[List.getElem?_set_ne (Ne.symm e2)]at h4;exact .inl ⟨i,x,o,h3,h4,h5,h6⟩
  ·exact .inr ⟨F,k,x,z,cs,⟨g.g,ju F z cs (hr.fam.dom F k x g.g) g.h,g.a⟩,e⟩
theorem Post.Jr{B base:Nat}{M:List Nat}(hr:Rel P B ρ H w){F k z:Nat}(hz0:0<z){r:RI}{cs cs2:List Value}{o':Obj}(hm:FM ρ H F k r z cs)
  (hl:cs2.length=cs.length) (hcs:∀i,(∀j,j<z->i≠k*z+j)->cs2[i]?=cs[i]?) (h':wx ρ r k z cs2 (w.putObj r.b o')) (hM:F<base->F∈M):Post P B base M ρ H w ρ (H.set F (.fam z cs2)) (w.putObj r.b o'):=by
 have hF:=hr.fam.dom F k r hm.g
 have hlt:=hr.fam.lt F k r hm.g
 have hoth:∀b,b≠r.b->(w.putObj r.b o').heap[b]?=w.heap[b]? := fun b hb=>World.putObj_heap_other hb
 have hsep:∀id' r' o,ρ id'=some r'->H[id']?=some o->o.alive=true->r'.b≠r.b:=fun id' r' o h1 h2 h3 e=>hr.fam.free h1 h2 h3 ⟨F,k,r,z,cs,hm,e.symm⟩
 have hget:∀(i:Nat) (o:aa),o.alive=true->(H.set F (.fam z cs2))[i]?=some o->H[i]?=some o:=fun i o ha h=>by
  by_cases e:i=F
  ·subst e;rw[List.getElem?_set_self hF]at h;cases h;simp[aa.alive]at ha
  ·rw[List.getElem?_set_ne (Ne.symm e)]at h;exact h
 have hfm:∀{F' k' r' z' c},FM ρ (H.set F (.fam z cs2)) F' k' r' z' c->∃c',FM ρ H F' k' r' z' c'/\((F'=F/\z'=z/\c=cs2/\c'=cs)∨(F'≠F/\c'=c)):=fun {F' k' r' z' c} m=>by
  by_cases e:F'=F
  ·subst e
   have h:=m.h
   rw[List.getElem?_set_self hF]at h;cases h
   exact ⟨cs,⟨m.g,hm.h,fun e=>by omega⟩,.inl ⟨rfl,rfl,rfl,rfl⟩⟩
  ·have h:=m.h
   rw[List.getElem?_set_ne (Ne.symm e)]at h
   exact ⟨c,⟨m.g,h,m.a⟩,.inr ⟨e,rfl⟩⟩
 refine ⟨⟨by rw[putObj_size];exact hr.bsize,hr.cS,fun i x h=>by simpa using hr.dom i x h,fun i x h=>by rw[putObj_size];exact hr.lt i x h,fun i x o h1 h2 =>?_,fun i x o h1 h2 h3=>hr.base i x o h1 (hget i o (aJ h3) h2) h3,
   fun i i' x x' o o2 h1 h1' h2 h2' h3 h3' hne=>hr.sep i i' x x' o o2 h1 h1' (hget _ _ (aJ h3) h2) (hget _ _ h3' h2') h3 h3' hne,fun b m hb =>?_,?_⟩,
  Ren.le_refl _,fun i x a b=>(by rw[b]at a;cases a),by simp,fun i h1 h2=>List.getElem?_set_ne (fun (e:F=i)=>h2 (by subst e;exact hM h1)),by rw[putObj_size];exact Nat.le_refl _,fun b h1 h2=>hoth b (fun e=>h2 (.inr ⟨F,k,r,z,cs,hm,e.symm⟩)),fun b h1 h2 =>?_,rfl,rfl,rfl,fun _ _ h => .inl h,Nat.le_refl _,fun F k x a b=>(by rw[b]at a;cases a)⟩
 ·cases ha:o.alive with
  |true=>exact (hr.obj i x o h1 (hget i o ha h2)).mono (Ren.le_refl _) (hoth _ (hsep i x o h1 (hget i o ha h2) ha))
  |false=>cases o <;> first|trivial|simp[aa.alive]at ha
 ·obtain ⟨⟨ty,fz,e⟩,q⟩:=hr.mem b m hb
  exact ⟨⟨ty,fz,(hoth b (fun e2=>hr.fam.mem F k r z cs b m hm hb e2.symm)).trans e⟩,fun i x o h1 h2 h3=>q i x o h1 (hget i o (aJ h3) h2) h3⟩
 ·refine ⟨fun F' k' r' a=>by simpa using hr.fam.dom F' k' r' a,fun F' k' r' a=>by rw[putObj_size];exact hr.fam.lt F' k' r' a,fun F' k' r' z' c m =>?_,fun F' k' r' z' c m =>?_,fun F1 k1 r1 z1 c1 F2 k2 r2 z2 c2 m1 m2 e =>?_,fun F' k' r' z' c id r2 o m h1 h2 h3 =>?_,fun F' k' r' z' c b m2 m hb =>?_,fun F' k' r' c a h =>?_⟩
  ·obtain ⟨c',m',_⟩:=hfm m;exact hr.fam.base _ _ _ _ _ m'
  ·obtain ⟨c',m',hc⟩:=hfm m
   by_cases e:r'.b=r.b
   ·obtain ⟨rfl,rfl⟩:=hr.fam.sep _ _ _ _ _ _ _ _ _ _ m' hm e
    rcases hc with ⟨_,rfl,rfl,rfl⟩|⟨h,_⟩
    ·have e3:=m'.g.symm.trans hm.g
     cases e3
     exact h'
    ·exact absurd rfl h
   ·have ob:=(hr.fam.obj _ _ _ _ _ m').mono (Ren.le_refl _) (hoth _ e)
    rcases hc with ⟨rfl,rfl,rfl,rfl⟩|⟨_,rfl⟩
    ·obtain ⟨cs',ty,a1,a2,a3,a4,a5⟩:=ob
     refine ⟨cs',ty,a1,by rw[hl];exact a2,fun e=>by omega,a4,fun i v hi hv=>a5 i v hi ?_⟩
     rw[<- hcs (k'*z'+i) (fun j hj he =>?_)]
     ·exact hv
     ·have hk:k'≠k:=fun h=>e (by have e3:=m'.g;rw[h,hm.g]at e3;cases e3;rfl)
      rcases Nat.lt_or_ge k' k with q|q
      ·have:(k'+1)*z'<=k*z':=Nat.mul_le_mul_right _ q
       rw[Nat.add_mul]at this;omega
      ·have:(k+1)*z'<=k'*z':=Nat.mul_le_mul_right _ (by omega)
       rw[Nat.add_mul]at this;omega
    ·exact ob
  ·obtain ⟨c1',m1',_⟩:=hfm m1
   obtain ⟨c2',m2',_⟩:=hfm m2
   exact hr.fam.sep _ _ _ _ _ _ _ _ _ _ m1' m2' e
  ·obtain ⟨c',m',_⟩:=hfm m
   exact hr.fam.sep2 _ _ _ _ _ id r2 o m' h1 (hget id o h3 h2) h3
  ·obtain ⟨c',m',_⟩:=hfm m
   exact hr.fam.mem _ _ _ _ _ b m2 m' hb
  ·by_cases e:F'=F
   ·subst e;rw[List.getElem?_set_self hF]at h;cases h;omega
   ·rw[List.getElem?_set_ne (Ne.symm e)]at h;exact hr.fam.cnt F' k' r' c a h
 ·rcases h2 with ⟨i,x,o,h3,h4,h5,h6⟩|⟨F',k',x,z',c,g,e⟩
  ·exact .inl ⟨i,x,o,h3,hget i o (aJ h5) h4,h5,h6⟩
  ·obtain ⟨c',m',_⟩:=hfm g
   exact .inr ⟨F',k',x,z',c',m',e⟩
theorem gj(vs:List Value):∀(l:List Value) (k i:Nat),k+vs.length<=l.length->(ba l k vs)[i]?=if k<=i/\i<k+vs.length then vs[i-k]? else l[i]? := by
 induction vs with
 |nil=>intro l k i h;simp[ba];intro h1 h2;omega
 |cons v vs ih =>
  intro l k i h
  simp only[ba]
  rw[ih _ _ _ (by simp at h ⊢;omega)]
  simp at h
  by_cases h1:i=k
  ·subst h1
   rw[if_neg (by omega),if_pos (by simp)]
   rw[List.getElem?_set_self (by omega)]
   simp
  ·rw[List.getElem?_set_ne (Ne.symm h1)]
   by_cases h2:k+1<=i/\i<k+1+vs.length
   ·rw[if_pos h2,if_pos (by simp;omega)]
    rw[show i-k=(i-(k+1))+1 by omega]
    simp
   ·rw[if_neg h2,if_neg (by simp;omega)]
theorem kT{cs vs vs':List Value}{cs':Array Value}{s off:Nat}(h:∀(i:Nat) (v:Value),cs[i]?=some v->∃v':Value,cs'[i+s]?=some v'/\VR ρ v v')
  (hv:VRl ρ vs vs') (hle:off+vs.length<=cs.length) (hle':off+s+vs'.length<=cs'.size) :
  ∀(i:Nat) (v:Value),(ba cs off vs)[i]?=some v->∃v':Value,(⟨ba cs'.toList (off+s) vs'⟩:Array Value)[i+s]?=some v'/\VR ρ v v':=by
 intro i v hi
 rw[gj _ _ _ _ hle]at hi
 have e:(⟨ba cs'.toList (off+s) vs'⟩:Array Value)[i+s]?=(ba cs'.toList (off+s) vs')[i+s]? := by simp
 rw[e,gj _ _ _ _ (by simpa using hle')]
 have hl:=hv.1
 split at hi
 ·rename_i hc
  rw[if_pos (by omega)]
  obtain ⟨v',h1,h2⟩:=hv.get hi
  exact ⟨v',by rw[show i+s-(off+s)=i-off by omega];exact h1,h2⟩
 ·rename_i hc
  rw[if_neg (by omega)]
  obtain ⟨v',h1,h2⟩:=h i v hi
  exact ⟨v',by simpa using h1,h2⟩
theorem va{B base:Nat}{M:List Nat}{t:TypeId}{a a' x x':Value}{H':Heap}{wr:List Nat}(h:jP P t a x H=some (H',wr))(hr:Rel P B ρ H w)(ha:VR ρ a a')(hx:VR ρ x x')
    (hM:∀id∈wr,id<base->id∈M):∃w',(Instr.storeAt t a' x').run P w = .ok () w'/\Post P B base M ρ H w ρ H' w':=by
  unfold jP at h
  split at h
  · rename_i id off
    split at h
    · rename_i z cs hid
      cases hn:aO P t with
      |none=>simp[hn]at h
      | some n =>
        simp only[hn]at h
        split at h
        · rename_i hc
          obtain ⟨c1,c2,c3⟩:=hc
          cases h
          cases ha with
          | @ptr _ _ r hρ =>
            obtain ⟨e1,e2,cs',ty,fz,hb,hnz,hfz,hcs⟩:=hr.obj id r _ hρ hid
            obtain rfl:fz=(0,0):=hfz rfl
            have hxc:=hx.cells (px c3)
            have hxl:x'.cells.toList.length=n:=by rw[<- hxc.1];exact c1
            have hle':off+r.s+n<=cs'.size∨n=0:=dx hcs c2
            rcases Nat.eq_zero_or_pos n with h0|h0
            · subst h0
              have hx0:x'.cells.toList=[]:=List.length_eq_zero_iff.1 hxl
              have hx0':x.cells.toList=[]:=List.length_eq_zero_iff.1 c1
              refine ⟨w.putObj r.b (.cells cs' ty (0,0)),?_,?_⟩
              · simp only [Instr.storeAt, Instr.sureAddr, storeVar, Sem.run_bind, Sem.run_pure, Result.andThen_ok, bj hn]
                rw[Sem.run_ite,if_neg (by simpa using hxl)]
                simp[hx0,storeCells,fb hb]
              · rw [hx0']
                refine Post.put hr hρ hid rfl (by rw[hb];rfl) ?_ (fun hlt=>hM id (by simp) hlt)
                exact ⟨e1,e2,cs',ty,(0,0),bE hb,hnz,fun _=>rfl,hcs⟩
            · have hle2 : off + r.s + n <= cs'.size := by rcases hle' with h | h; exact h; omega
              refine ⟨w.putObj r.b (.cells ⟨ba cs'.toList (off+r.s) x'.cells.toList⟩ ty (0,0)),?_,Post.put hr hρ hid rfl (by rw[hb];rfl) ?_ (fun hlt=>hM id (by simp) hlt)⟩
              · simp only [Instr.storeAt, Instr.sureAddr, storeVar, Sem.run_bind, Sem.run_pure, Result.andThen_ok, bj hn]
                rw [Sem.run_ite, if_neg (by have : x'.cells.size = n := by simpa using hxl
                                            simp[this])]
                have hrun:=dp (P:=P) (b:=r.b) (off:=off+r.s) x'.cells.toList 0 cs' w hb (VRl.oneCell hxc c3) (by rw[hxl];omega)
                simpa using hrun
              · refine ⟨e1, e2, _, ty, (0, 0), bE hb, by rw [<- hnz]; simp [cw], fun _ => rfl, ?_⟩
                exact kT hcs hxc (by omega) (by omega)
        · simp at h
    · simp at h
  · rename_i F off k
    split at h
    · rename_i z cs hid
      cases hn:aO P t with
      |none=>simp[hn]at h
      | some n =>
        simp only[hn]at h
        split at h
        · rename_i hc
          obtain ⟨c1,c2,c4,c3⟩:=hc
          cases h
          cases ha with
          | @dS _ _ _ r hρ =>
            have hm:FM ρ H F k r (z+1) cs:=⟨hρ,hid,fun e=>absurd e (Nat.succ_ne_zero _)⟩
            obtain ⟨cs',ty,hb,hl,hz,hs,hcs⟩:=hr.fam.obj F k r (z+1) cs hm
            have hxc:=hx.cells (px c3)
            have hxl:x'.cells.toList.length=n:=by rw[<- hxc.1];exact c1
            have hsl:∀i,(ba cs (k*(z+1)+off) x.cells.toList)[i]?=if k*(z+1)+off<=i/\i<k*(z+1)+off+n then x.cells.toList[i-(k*(z+1)+off)]? else cs[i]? := fun i=>by
              rw[gj _ _ _ _ (by rw[c1];omega),c1]
            have hrow:∀(i:Nat) (v:Value),i<z+1->(ba cs (k*(z+1)+off) x.cells.toList)[k*(z+1)+i]?=some v->∃v':Value,(⟨ba cs'.toList (off+r.s) x'.cells.toList⟩:Array Value)[i+r.s]?=some v'/\VR ρ v v':=fun i v hi hv=>by
              rw[hsl]at hv
              have e:(⟨ba cs'.toList (off+r.s) x'.cells.toList⟩:Array Value)[i+r.s]?=(ba cs'.toList (off+r.s) x'.cells.toList)[i+r.s]? := by simp
              rw[e,gj _ _ _ _ (by rw[hxl];simp only[Array.length_toList];omega),hxl]
              split at hv
              · rename_i hq
                rw[if_pos (by omega)]
                obtain ⟨v',h1,h2⟩:=hxc.get hv
                exact ⟨v',by rw[show i+r.s-(off+r.s)=k*(z+1)+i-(k*(z+1)+off) by omega];exact h1,h2⟩
              · rename_i hq
                rw[if_neg (by omega)]
                obtain ⟨v',h1,h2⟩:=hcs i v hi hv
                exact ⟨v',by simpa using h1,h2⟩
            refine ⟨w.putObj r.b (.cells ⟨ba cs'.toList (off+r.s) x'.cells.toList⟩ ty (0,0)),?_,Post.Jr hr (show 0<z+1 by omega) hm (cw _ _ _) (fun i hi =>?_) ?_ (fun hlt=>hM F (by simp) hlt)⟩
            · simp only [Instr.storeAt, Instr.sureAddr, storeVar, Sem.run_bind, Sem.run_pure, Result.andThen_ok, bj hn]
              rw [Sem.run_ite, if_neg (by have : x'.cells.size = n := by simpa using hxl
                                          simp[this])]
              have hrun:=dp (P:=P) (b:=r.b) (off:=off+r.s) x'.cells.toList 0 cs' w hb (VRl.oneCell hxc c3) (by rw[hxl];omega)
              simpa using hrun
            · rw [hsl, if_neg]
              intro hq
              exact hi (i-k*(z+1)) (by omega) (by omega)
            · exact ⟨_,ty,bE hb,by rw[cw];exact hl,fun e=>absurd e (Nat.succ_ne_zero _),by simpa[cw] using hs,hrow⟩
        · simp at h
    · simp at h
  · simp at h
theorem run_append_room'(t tx ty e:TypeId)(i:TypeInfo)(ht:P.underlying t=some (.slice e))(hi:P.info? e=some i)(b off sLen sCap:Nat)(x:Value)(n:Nat)(news:List Value)(hs:Src P i.size tx x n news w)
  (hroom:sLen+n<=sCap) {cs:Array Value} {ety:TypeId} (hb:w.heap[b]?=some (.cells cs ety (0,0))) (hle:off+sLen*i.size+news.length<=cs.size) :
  (Builtin.append_ #[t,tx] ty #[.slice (some ⟨b,off,none⟩) sLen sCap,x]).run P w = .ok (.slice (some ⟨b,off,none⟩) (sLen+n) sCap) (w.putObj b (.cells ⟨ba cs.toList (off+sLen*i.size) news⟩ ety (0,0))):=by
 have hst:=dp (P:=P) (off:=off+sLen*i.size) news 0 cs w hb (by rw[List.all_eq_true];exact hs.one) (by simpa using hle)
 simp only[Nat.add_zero]at hst
 rcases hs.kind with ⟨e',hk⟩|hk <;> simp[Builtin.append_,run_underlying ht,run_underlying hk,sizeOf,typeInfo,hi,hs.len,hroom,hs.cells,addr_add,hst]
theorem kW{B:Nat}(hr:Rel P B ρ H w)(id:Nat):kP ρ H w id:=⟨fun r o h1 h2=>hr.obj id r o h1 h2,fun k r z cs m=>hr.fam.obj id k r z cs m⟩
theorem tc{B base:Nat}{M:List Nat}{t u:TypeId}{s s' x x' v:Value}{H':Heap}{wr:List Nat}(h:hZ P t s x H=some (v,H',wr))(hu:∃e,P.underlying u=some (.slice e))(hr:Rel P B ρ H w)
  (hs:VR ρ s s') (hx:VR ρ x x') (hM:∀id∈wr,id<base->id∈M) (hob:base<=H.length) (ty:TypeId) :
  ∃v' w' ρ',(Builtin.append_ #[t,u] ty #[s',x']).run P w = .ok v' w'/\VR ρ' v v'/\Post P B base M ρ H w ρ' H' w':=by
 obtain ⟨e0,hu⟩:=hu
 unfold hZ at h
 split at h
 ·rename_i el sb len cap xb m xc hut
  split at h
  ·rename_i n by_ hsz hby
   have hsz':aO P el=some (n+1):=hsz
   obtain ⟨i,hi,hisz,hir⟩:=sy hsz' w
   have hib:i.bytes=by_:=by
    unfold hX at hby;rw[hi]at hby;simpa using hby
   split at h
   ·rename_i hbd
    obtain ⟨hb1,hb2,hb3⟩:=hbd
    have J5:len+m<=2 ^ 44:=Nat.le_trans (Nat.le_mul_of_pos_right _ hb2) hb1
    obtain ⟨x'l,x'c,hx'⟩:∃a c,x' = .slice a m c:=by cases hx <;> exact ⟨_,_,rfl⟩
    obtain ⟨s'l,s'c,hs',hsc⟩:∃a c,s' = .slice a len c/\cap<=c:=by
     cases hs with
     |aT=>exact ⟨_,_,rfl,Nat.le_refl _⟩
     |slice _ _ hc _=>exact ⟨_,_,rfl,hc⟩
     |aQ=>exact ⟨_,_,rfl,Nat.le_refl _⟩
     |bv=>exact ⟨_,_,rfl,Nat.le_refl _⟩
     |ax=>exact ⟨_,_,rfl,Nat.le_refl _⟩
     |ay=>exact ⟨_,_,rfl,Nat.le_refl _⟩
     |aD _ _ _ hc _=>exact ⟨_,_,rfl,hc⟩
     |aB=>exact ⟨_,_,rfl,Nat.zero_le _⟩
     |aX _ _ _ hc _=>exact ⟨_,_,rfl,hc⟩
    split at h
    ·rename_i hm0
     subst hm0
     cases h
     have hlc:len<=s'c:=by
      cases hs with
      |aT=>omega
      |slice _ hl hc _=>cases hs';omega
      |aQ=>omega
      |bv=>omega
      |ax=>omega
      |ay=>omega
      |aD _ _ hl hc _=>cases hs';omega
      |aB=>omega
      |aX _ _ hl hc _=>cases hs';omega
     have hx0:∀w:World,(Builtin.firstCells (n+1) 0 x').run P w = .ok #[] w:=by
      intro w;rw[hx'];cases x'l <;> simp[Builtin.firstCells,loadCells,loadCellsFrom]
     refine ⟨s',w,ρ,?_,hs,Post.refl hr⟩
     rw[hs',hx']
     rw[hx']at hx0
     cases s'l <;> simp[Builtin.append_,aA hut,aA hu,bj hsz',Builtin.lenOf,hlc,hx0,storeCells]
    ·rename_i hm0
     cases hold:cL P (n+1) len (.slice sb len cap) H with
     |none=>simp[hold]at h
     |some old =>
      cases hnew:cL P (n+1) m (.slice xb m xc) H with
      |none=>simp[hold,hnew]at h
      |some new =>
       cases hz:dD P el with
       |none=>simp[hold,hnew,hz]at h
       |some z =>
        simp only[hold,hnew,hz]at h
        split at h
        ·rename_i hzl
         obtain ⟨hzl,hone⟩:=hzl
         obtain ⟨hzr,hzc⟩:=da hz w
         have hiz:i.zero=some z:=by
          simp[zeroValue,typeInfo,hi]at hzr
          cases hq:i.zero with
          |none=>simp[hq]at hzr
          |some z'=>simp[hq]at hzr;rw[hzr]
         obtain ⟨new',hn1,hn2⟩:=hU (w:=w) hnew hx (kW hr)
         obtain ⟨new2,hn3,hn4⟩:=hU (w:=w.drew) hnew hx (kW hr.drew)
         obtain ⟨old',ho1,ho2⟩:=hU (w:=w.drew) hold hs (kW hr.drew)
         have hnl:∀{k:Nat} {y:Value} {c:List Value},cL P (n+1) k y H=some c->c.length=k*(n+1):=by
          intro k y c hc
          unfold cL at hc
          split at hc
          ·split at hc
           ·rename_i h0;cases hc;simp[h0]
           ·simp at hc
          ·split at hc
           ·split at hc
            ·rename_i hle;cases hc;simp;omega
            ·simp at hc
           ·simp at hc
          ·simp at hc
         have hsame:new2=new':=by
          have:∀(k:Nat) (y:Value) (w:World) (c:Array Value),(Builtin.firstCells (n+1) k y).run P w = .ok c w->(Builtin.firstCells (n+1) k y).run P w.drew = .ok c w.drew:=by
           intro k y w c hc
           unfold Builtin.firstCells at hc ⊢
           split at hc
           ·rename_i a _ _
            revert hc
            unfold loadCells
            have gen:∀(k i:Nat) (acc:Array Value),(loadCellsFrom a i k acc).run P w = .ok c w->(loadCellsFrom a i k acc).run P w.drew = .ok c w.drew:=by
             intro k
             induction k with
             |zero=>intro i acc hq;simp[loadCellsFrom]at hq ⊢;exact hq
             |succ k ih =>
              intro i acc hq
              simp only[loadCellsFrom,Sem.run_bind,run_load]at hq ⊢
              have hcd:w.drew.cell? (a.add i)=w.cell? (a.add i):=rfl
              rw[hcd]
              cases hce:w.cell? (a.add i) with
              |some v=>rw[hce]at hq;simp only[Result.andThen_ok]at hq ⊢;exact ih _ _ hq
              |none =>
               rw[hce]at hq
               cases hf:w.farLoad P (a.add i) (Mode.plain == Mode.atomic) with
               |error e=>simp[hf]at hq
               |ok p =>
                have hfd:w.drew.farLoad P (a.add i) (Mode.plain == Mode.atomic)=w.farLoad P (a.add i) (Mode.plain == Mode.atomic):=rfl
                rw[hfd,hf]
                rw[hf]at hq
                simp only[Result.andThen_ok]at hq ⊢;exact ih _ _ hq
            exact gen _ _ _
           ·simp at hc ⊢;exact hc
           ·simp at hc ⊢;exact hc
           ·simp at hc
          have h1:=this _ _ _ _ hn1
          rw[hn3]at h1
          simpa using h1
         subst hsame
         have tW:=hnl hnew
         have kz:=hnl hold
         have hl1:=hn2.1
         have hl2:=ho2.1
         have hsrc:Src P i.size u x' m new2.toList w:=by
          refine ⟨.inl ⟨e0,hu⟩,fun w'=>by rw[hx'];rfl,by rw[hisz];simpa using hn1,by rw[hisz];simpa using hn3,by rw[hisz];omega,?_⟩
          have:=VRl.oneCell hn2 hone
          rw[List.all_eq_true]at this
          exact this
         have grow:∀(bs:Option Addr) (c':Nat),s' = .slice bs len c'->c'<len+m->∀(H1:Heap),H1.length=H.length->Post P B base M ρ H w ρ H1 w ->
           ∃v' w' ρ',(Builtin.append_ #[t,u] ty #[s',x']).run P w = .ok v' w'/\VR ρ' (.slice (some ⟨H.length,0,none⟩) (len+m) (len+m)) v'/\Post P B base M ρ H w ρ' (H1 ++ [.cells true (n+1) (old++new)]) w':=by
          intro bs c' hbs hlt H1 hH1 hp
          have hnc:=nextslicecap_le (old:=c') (need:=len+m) hlt
          have hg:=run_append_grow_src w t u ty el i z hut hi hiz bs len c' old'.toList (by rw[hisz,<- hbs];simpa using ho1) x' m new2.toList hsrc hlt (by omega) (by
           rw[hib]
           have h1:Builtin.nextslicecap (len+m) c'*by_<=(2*(len+m))*by_:=Nat.mul_le_mul_right _ hnc
           rw[Nat.mul_assoc]at h1
           omega)
          have hge:=grownCap_ge w (len+m) c' el
          have hrow:VRl ρ (old++new) (old'.toList++new2.toList):=VRl.append ho2 hn2
          have hzs:z.cells.size=n+1:=by simpa using hzl
          have hd:=hp.trans (Post.drew (base:=base) (M:=M) hp.rel)
          have hcs:((old'.toList++new2.toList).toArray++Builtin.zeroCells z.cells (grownCap w (len+m) c' el-(len+m))).size=grownCap w (len+m) c' el*(n+1):=by
           simp only[Array.size_append,List.size_toArray,List.length_append,size_zeroCells,hzs]
           rw[<- hl2,<- hl1,kz,tW,<- Nat.add_mul,<- Nat.add_mul]
           congr 1;omega
          refine ⟨_,_,ρ.set H.length ⟨w.heap.size,0,grownCap w (len+m) c' el*(n+1),n+1,true⟩,by rw[hbs];exact hg,?_,?_⟩
          ·have:=VR.slice (ρ:=ρ.set H.length ⟨w.heap.size,0,grownCap w (len+m) c' el*(n+1),n+1,true⟩) (id:=H.length) (o:=0) (len:=len+m) (cap:=len+m) (cap':=grownCap w (len+m) c' el) (Ren.av _ _ _) (Nat.le_refl _) hge (fun _ _=>by simp)
           simpa using this
          ·refine hd.trans ?_
           have hno:ρ H.length=none:=by
            cases hq:ρ H.length with
            |none=>rfl
            |some r=>exact absurd (hr.dom _ _ hq) (Nat.lt_irrefl _)
           have hnew:=aI.yC (ρ:=ρ) (w:=w.drew) (id:=H.length) (z:=n+1) (cs:=old++new) (cs':=(old'.toList++new2.toList).toArray++Builtin.zeroCells z.cells (grownCap w (len+m) c' el-(len+m))) (ty:=el) hno (by
            intro k v hv
            obtain ⟨v',g1,g2⟩:=hrow.get hv
            refine ⟨v',?_,g2⟩
            have hk:=(List.getElem?_eq_some_iff.1 g1).1
            rw[Array.getElem?_append_left (by simpa using hk)]
            simpa using g1)
           rw[hcs]at hnew
           have:=Post.alloc (base:=base) (M:=M) hd.rel (ri:=⟨w.heap.size,0,grownCap w (len+m) c' el*(n+1),n+1,true⟩) rfl (by rw[hH1];exact hob) (by rw[hH1];exact hnew)
           rw[hH1]at this
           exact this
         have hq0:∀{id off:Nat},len=0->sb=some ⟨id,off,some 1⟩->∀(bs:Option Addr),s' = .slice bs 0 0->∃v' w' ρ',(Builtin.append_ #[t,u] ty #[s',x']).run P w = .ok v' w'/\VR ρ' v v'/\Post P B base M ρ H w ρ' H' w':=by
          intro id off h0 hsb bs hbs
          rw[hsb]at h
          simp only at h
          split at h
          ·rename_i zz cs hid
           split at h
           ·cases h
            exact grow bs 0 (by rw[hbs,h0]) (by omega) (H.set id .dead) (by simp) (Post.kr hr hid rfl (fun hlt=>hM id (by simp) hlt))
           ·simp at h
          ·simp at h
         cases hs with
         |bv=>simp at h
         |ax=>exact hq0 rfl rfl none rfl
         |ay=>exact hq0 rfl rfl _ rfl
         |aB=>simp at h
         |aX=>simp at h
         |aT =>
          cases h
          exact grow none 0 rfl (by omega) H rfl (Post.refl hr)
         | @slice id off r _ _ c' hρ hl hc hroom =>
          simp only at h
          split at h
          ·rename_i zz cs hid
           split at h
           ·rename_i hzz
            subst hzz
            cases h
            have Bi:id<base->id∈M:=fun hlt=>hM id (by simp) hlt
            rcases Nat.lt_or_ge c' (len+m) with hlt|hge
            ·exact grow _ c' rfl hlt (H.set id .dead) (by simp) (Post.kill hr hρ hid rfl Bi)
            ·obtain ⟨e1,e2,cs',ety,fz,hb,hnz,hfz,hcs⟩:=hr.obj id r _ hρ hid
             obtain rfl:fz=(0,0):=hfz rfl
             have hrm:=hroom e1.symm (by rw[<- e2];omega)
             rw[<- e2]at hrm
             have hmul:(len+m)*(n+1)<=c'*(n+1):=Nat.mul_le_mul_right _ hge
             rw[Nat.add_mul]at hmul
             have A8:new2.toList.length=m*(n+1):=by rw[<- hl1];exact tW
             have hrun:=run_append_room' (w:=w) t u ty el i hut hi r.b (off+r.s) len c' x' m new2.toList hsrc hge hb (by rw[hisz];omega)
             rw[hisz]at hrun
             refine ⟨_,_,ρ.set H.length ⟨r.b,off+r.s,r.n,r.z,true⟩,hrun,?_,Post.move hr hρ hid rfl rfl hob ?_ Bi⟩
             ·have:=VR.slice (ρ:=ρ.set H.length ⟨r.b,off+r.s,r.n,r.z,true⟩) (id:=H.length) (o:=0) (len:=len+m) (cap:=len+m) (cap':=c') (Ren.av _ _ _) (Nat.le_refl _) hge (fun _ _=>by
               simp only
               rw[<- e2]
               omega)
              simpa using this
             ·have hno:ρ H.length=none:=by
               cases hq:ρ H.length with
               |none=>rfl
               |some r=>exact absurd (hr.dom _ _ hq) (Nat.lt_irrefl _)
              refine ⟨rfl,e2,_,ety,(0,0),bE hb,by simp[cw];exact hnz,fun _=>rfl,?_⟩
              intro k v hv
              have hk:=(List.getElem?_eq_some_iff.1 hv).1
              simp only[List.length_append,kz,tW]at hk
              have e:(⟨ba cs'.toList (off+r.s+len*(n+1)) new2.toList⟩:Array Value)[k+(off+r.s)]?=(ba cs'.toList (off+r.s+len*(n+1)) new2.toList)[k+(off+r.s)]? := by simp
              rw[e,gj _ _ _ _ (by rw[A8];simp only[Array.length_toList];omega)]
              rcases Nat.lt_or_ge k (len*(n+1)) with hk1|hk1
              ·rw[if_neg (by omega)]
               rw[List.getElem?_append_left (by rw[kz];exact hk1)]at hv
               have iN:=hold
               unfold cL at iN
               simp only[deq,hid]at iN
               split at iN
               ·cases iN
                rw[List.getElem?_take,if_pos hk1,List.getElem?_drop]at hv
                obtain ⟨v',g1,g2⟩:=hcs _ _ hv
                exact ⟨v',by rw[show k+(off+r.s)=off+k+r.s by omega];simpa using g1,g2.mono (Ren.dr hno)⟩
               ·simp at iN
              ·rw[if_pos ⟨by omega,by rw[A8];omega⟩]
               rw[List.getElem?_append_right (by rw[kz];exact hk1),kz]at hv
               obtain ⟨v',g1,g2⟩:=hn2.get hv
               exact ⟨v',by rw[show k+(off+r.s)-(off+r.s+len*(n+1))=k-len*(n+1) by omega];exact g1,g2.mono (Ren.dr hno)⟩
           ·simp at h
          ·simp at h
         | @aD id off r _ _ c' hρ hpos hl hc hroom =>
          simp only at h
          split at h
          ·rename_i zz cs hid
           split at h
           ·rename_i hzz
            subst hzz
            cases h
            have Bi:id<base->id∈M:=fun hlt=>hM id (by simp) hlt
            rcases Nat.lt_or_ge c' (len+m) with hlt|hge
            ·exact grow _ c' rfl hlt (H.set id .dead) (by simp) (Post.kill hr hρ hid rfl Bi)
            ·obtain ⟨e1,e2,cs',ety,fz,hb,hnz,hfz,hcs⟩:=hr.obj id r _ hρ hid
             obtain rfl:fz=(0,0):=hfz rfl
             have hrm:=hroom e1.symm (by rw[<- e2];omega)
             rw[<- e2]at hrm
             have hmul:(len+m)*(n+1)<=c'*(n+1):=Nat.mul_le_mul_right _ hge
             rw[Nat.add_mul]at hmul
             have A8:new2.toList.length=m*(n+1):=by rw[<- hl1];exact tW
             have hrun:=run_append_room' (w:=w) t u ty el i hut hi r.b (off+r.s) len c' x' m new2.toList hsrc hge hb (by rw[hisz];omega)
             rw[hisz]at hrun
             refine ⟨_,_,ρ.set H.length ⟨r.b,off+r.s,r.n,r.z,true⟩,hrun,?_,Post.move hr hρ hid rfl rfl hob ?_ Bi⟩
             ·have:=VR.slice (ρ:=ρ.set H.length ⟨r.b,off+r.s,r.n,r.z,true⟩) (id:=H.length) (o:=0) (len:=len+m) (cap:=len+m) (cap':=c') (Ren.av _ _ _) (Nat.le_refl _) hge (fun _ _=>by
               simp only
               rw[<- e2]
               omega)
              simpa using this
             ·have hno:ρ H.length=none:=by
               cases hq:ρ H.length with
               |none=>rfl
               |some r=>exact absurd (hr.dom _ _ hq) (Nat.lt_irrefl _)
              refine ⟨rfl,e2,_,ety,(0,0),bE hb,by simp[cw];exact hnz,fun _=>rfl,?_⟩
              intro k v hv
              have hk:=(List.getElem?_eq_some_iff.1 hv).1
              simp only[List.length_append,kz,tW]at hk
              have e:(⟨ba cs'.toList (off+r.s+len*(n+1)) new2.toList⟩:Array Value)[k+(off+r.s)]?=(ba cs'.toList (off+r.s+len*(n+1)) new2.toList)[k+(off+r.s)]? := by simp
              rw[e,gj _ _ _ _ (by rw[A8];simp only[Array.length_toList];omega)]
              rcases Nat.lt_or_ge k (len*(n+1)) with hk1|hk1
              ·rw[if_neg (by omega)]
               rw[List.getElem?_append_left (by rw[kz];exact hk1)]at hv
               have iN:=hold
               unfold cL at iN
               simp only[deq,hid]at iN
               split at iN
               ·cases iN
                rw[List.getElem?_take,if_pos hk1,List.getElem?_drop]at hv
                obtain ⟨v',g1,g2⟩:=hcs _ _ hv
                exact ⟨v',by rw[show k+(off+r.s)=off+k+r.s by omega];simpa using g1,g2.mono (Ren.dr hno)⟩
               ·simp at iN
              ·rw[if_pos ⟨by omega,by rw[A8];omega⟩]
               rw[List.getElem?_append_right (by rw[kz];exact hk1),kz]at hv
               obtain ⟨v',g1,g2⟩:=hn2.get hv
               exact ⟨v',by rw[show k+(off+r.s)-(off+r.s+len*(n+1))=k-len*(n+1) by omega];exact g1,g2.mono (Ren.dr hno)⟩
           ·simp at h
          ·simp at h
         | @aQ id off r o' hρ =>
          simp only at h
          split at h
          ·rename_i zz cs hid
           split at h
           ·cases h
            exact grow _ 0 rfl (by omega) (H.set id .dead) (by simp) (Post.kill hr hρ hid rfl (fun hlt=>hM id (by simp) hlt))
           ·simp at h
          ·simp at h
        ·simp at h
   ·simp at h
  ·simp at h
 ·simp at h
end Go.K
