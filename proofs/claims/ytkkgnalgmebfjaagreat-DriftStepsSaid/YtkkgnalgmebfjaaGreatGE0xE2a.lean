/- Drift: helper lemmas: answers with new lists; families of closures. No condition. -/
import Derived.Test.YtkkgnalgmebfjaaGreatGS1xE1g
open Go Go.K
set_option maxRecDepth 1000000
set_option maxHeartbeats 4000000
set_option linter.unusedVariables false
set_option linter.unusedSimpArgs false
namespace Go.Proofs.YtkkgnalgmebfjaaGreat
noncomputable section
attribute [local irreducible] vF
def qO(H:Heap):List Nat->List (List Value)->Prop
 | [],[] =>True
 |id :: ids,c :: css=>(∃own z,H[id]?=some (.cells own z c))/\qO H ids css
 |_,_=>False
theorem kD{H:Heap}:∀{ids:List Nat} {css:List (List Value)},qO H ids css->ids.length=css.length
 | [],[],_=>rfl
 |_ :: ids,_ :: css,h=>by rw[List.length_cons,List.length_cons,kD h.2]
 | [],_ :: _,h=>h.elim
 |_ :: _,[],h=>h.elim
theorem jm{H:Heap}:∀{ids:List Nat} {css:List (List Value)},qO H ids css->∀(k:Nat) (c:List Value),css[k]?=some c->∃id own z,ids[k]?=some id/\H[id]?=some (aa.cells own z c)
 | [],[],_,k,c,hk=>by simp at hk
 |i :: ids,d :: css,h,0,c,hk=>by
  obtain ⟨⟨own,z,e⟩,_⟩:=h
  cases hk
  exact ⟨i,own,z,rfl,e⟩
 |i :: ids,d :: css,h,k+1,c,hk=>by
  obtain ⟨id,own,z,a,b⟩:=jm h.2 k c (by simpa using hk)
  exact ⟨id,own,z,by simpa using a,b⟩
 | [],_ :: _,h,_,_,_=>h.elim
 |_ :: _,[],h,_,_,_=>h.elim
def jP:List (List Value)->Prop
 | [] =>True
 |c :: css=>c.all (aT 0)=true/\jP css
theorem fW:∀{css:List (List Value)},jP css->∀c∈css,c.all (aT 0)=true
 | [],_,c,h=>by cases h
 |d :: css,hp,c,h=>by
  rcases List.mem_cons.1 h with rfl|h
  ·exact hp.1
  ·exact fW hp.2 c h
def r6:List aa->Prop
 | [] =>True
 |o :: os=>(∃z cs,o = .cells true z cs/\cs.all (aT 0)=true)/\r6 os
theorem fP{U:Nat->Option Nat}:∀{os:List aa},r6 os->(os.all fun o=>dW 3 o&&o.owned)=true/\os.map (rno U 3)=os
 | [],_=>⟨rfl,rfl⟩
 |o :: os,⟨⟨z,cs,e,h⟩,hs⟩=>by
  subst e
  obtain ⟨a,b⟩:=fP (U:=U) hs
  obtain ⟨c,d⟩:=jH (U:=U) (d:=0) h
  refine ⟨?_,?_⟩
  ·rw[List.all_cons,a,Bool.and_true]
   show (dW 3 (.cells true z cs)&&true)=true
   rw[Bool.and_true];exact d
  ·rw[List.map_cons,b]
   show aa.cells true z (cs.map (rn U 3)) :: os=_
   rw[c]
theorem kT{f:FuncId}{args:List Value}{css:List (List Value)}{h:Hint}(v:Nat->Value){new:List aa}
  (hc:vF prog msk (dm 0) 100000 true 40 true f args (ba 0 css) (some []) h (eS (ba 0 css).n 3 (v css.length) (new.map fun o=>(true,o))))
  (hp:jP css) (hn:r6 new) (h1:dr 3 (v css.length)=true) (h2:rn (da (0+css.length)) 3 (v css.length)=v css.length) (h3:∀j,rn (eF (0+css.length) j) 3 (v css.length)=v j)
  {H:Heap} {ids:List Nat} (hi:qO H ids css) {args':List Value} (ha:args.map (rn (sgR 0 ids) 3)=args') :
  aF prog f args' H [] (Is (v H.length) (H++new)):=by
 subst ha
 have e0:(new.map fun o=>(true,o)).map (·.2)=new:=by rw[List.map_map];exact List.map_id _
 have key:=xB (css:=css) (v:=v css.length) (new:=new.map fun o=>(true,o)) hc (fW hp) h1 h2 (by rw[e0];exact (fP (U:=fun _=>none) hn).1) (by rw[e0];exact (fP hn).2) (H:=H) ids (kD hi) (jm hi)
 rw[e0,(fP hn).2,h3]at key
 exact key
theorem qb:∀(n A B:List Value) (k:Nat),bt (A++B) (A.length+k) n=A++bt B k n
 | [],A,B,k=>rfl
 |v :: n,A,B,k=>by
  simp only[bt]
  rw[List.set_append_right _ _ (by omega),show A.length+k-A.length=k by omega,Nat.add_assoc,qb n A _ (k+1)]
theorem nJ:∀(n A B:List Value) (k:Nat),k+n.length<=A.length->bt (A++B) k n=bt A k n++B
 | [],A,B,k,_=>rfl
 |v :: n,A,B,k,h=>by
  simp only[List.length_cons]at h
  simp only[bt]
  rw[List.set_append_left _ _ (by omega),nJ n (A.set k v) B (k+1) (by rw[List.length_set];omega)]
theorem jp{Z:Type}{f:Z->List Value}{m c:Nat}{d y:Z}{vs:List Value}(hf:∀x,(f x).length=m)(xs:List Z)(k:Nat)(hk:k<xs.length)(hc:c+vs.length<=m)(hy:f y=bt (f (xs.getD k d)) c vs) :
  bt (xs.flatMap f) (k*m+c) vs=(xs.set k y).flatMap f:=by
 have e1:xs=xs.take k++xs.getD k d :: xs.drop (k+1):=by
  rw[show xs.getD k d=xs[k] from by rw[List.getD_eq_getElem?_getD,List.getElem?_eq_getElem hk];rfl,<- List.drop_eq_getElem_cons hk,List.take_append_drop]
 have e2:xs.set k y=xs.take k++y :: xs.drop (k+1):=by rw[List.set_eq_take_append_cons_drop,if_pos hk]
 have hl:((xs.take k).flatMap f).length=k*m:=by rw[bg hf,List.length_take,Nat.min_eq_left (Nat.le_of_lt hk)]
 rw[e2]
 conv=>lhs;rw[e1]
 rw[List.flatMap_append,List.flatMap_cons,List.flatMap_append,List.flatMap_cons,<- hl,qb,nJ _ _ _ _ (by rw[hf];exact hc),<- hy]
theorem eQ(p:Pl):(bn p).length=1:=rfl
theorem dh(p:Pl):(bh p).length=4:=rfl
theorem d7(n:Nat)(l:List Pl):(l.flatMap bn).all (aT n)=true:=dG (fun _=>rfl) l
theorem d6(n:Nat)(l:List Pl):(l.flatMap bh).all (aT n)=true:=dG (fun _=>rfl) l
theorem c7(n:Nat)(l:List Ice):(l.flatMap aS).all (aT n)=true:=dG (fun _=>rfl) l
theorem vZ{l:List Move}{x:Nat}(h:x<l.length):(l.flatMap moveC)[(0+Int.toNat ((x:Nat):Int)*2)+0]?=some (.int .i64 (l.getD x aM).dx)/\(l.flatMap moveC)[(0+Int.toNat ((x:Nat):Int)*2)+1]?=some (.int .i64 (l.getD x aM).dy) :=
 ⟨eB (n:=2) (c:=0) (d:=aM) dR h (by omega) rfl,eB (n:=2) (c:=1) (d:=aM) dR h (by omega) rfl⟩
theorem nP{l:List Pl}{x:Nat}(h:x<l.length):(l.flatMap bn)[x*1+0]?=some (.int .i64 (l.getD x ad).s):=eB (n:=1) (c:=0) (d:=ad) eQ h rfl rfl
theorem mf{l:List Pl}{x:Nat}(h:x<l.length):(l.flatMap bh)[x*4+1]?=some (.int .i64 (l.getD x ad).t)/\(l.flatMap bh)[x*4+2]?=some (.int .i64 (l.getD x ad).r) :=
 ⟨eB (n:=4) (c:=1) (d:=ad) dh h rfl rfl,eB (n:=4) (c:=2) (d:=ad) dh h rfl rfl⟩
theorem rX{l:List Pl}{x:Nat}(h:x<l.length)(p:Pl):bt (l.flatMap bn) (x*1+0) [.int .i64 p.s]=(l.set x p).flatMap bn :=
 jp (d:=ad) eQ l x h (Nat.le_refl _) rfl
theorem rW{l:List Pl}{x:Nat}(h:x<l.length)(p:Pl):bt (bt (l.flatMap bh) (x*4+1) [.int .i64 p.t]) (x*4+2) [.int .i64 p.r]=(l.set x p).flatMap bh:=by
 rw[jp (d:=ad) (y:=(⟨0,p.t,(l.getD x ad).r⟩:Pl)) dh l x h (show 1+1<=4 by decide) rfl]
 rw[jp (d:=ad) (y:=p) dh (l.set x _) x (by rw[List.length_set];exact h) (show 2+1<=4 by decide) ?_,List.set_set]
 rw[show (l.set x (⟨0,p.t,(l.getD x ad).r⟩:Pl)).getD x ad=⟨0,p.t,(l.getD x ad).r⟩ from by rw[List.getD_eq_getElem?_getD,List.getElem?_set_self h];rfl]
 rfl
theorem qj{Z:Type}(x:Z)(n:Nat):List.replicate (n+1) x=List.replicate n x ++ [x]:=by rw[List.replicate_succ']
theorem fg(f F1 F2 x n:Nat):(bU f F1 F2 x n).length=n:=by simp[bU]
theorem uh(f F1 F2 n:Nat):bU f F1 F2 0 n=cD [.nilFunc] n:=by
 have key:∀n,cD [Value.nilFunc] n=List.replicate n .nilFunc:=by
  intro n
  induction n with
  |zero=>rfl
  |succ n ih=>show Value.nilFunc :: cD [.nilFunc] n=_;rw[ih];rfl
 rw[key]
 refine List.ext_getElem? fun i =>?_
 unfold bU
 rw[List.getElem?_map,List.getElem?_replicate]
 by_cases h:i<n
 ·rw[List.getElem?_range h,if_pos h];rfl
 ·rw[List.getElem?_eq_none (by simp;omega),if_neg h];rfl
theorem fh{f F1 F2 x n j:Nat}(h:j<x)(hn:j<n){off:Nat}(ho:off=j):(bU f F1 F2 x n)[off]?=some (Ab f F1 F2 j):=by
 subst ho
 unfold bU
 rw[List.getElem?_map,List.getElem?_range hn]
 show some (if off<x then _ else _)=_
 rw[if_pos h]
theorem ou{f F1 F2 x n:Nat}(h:x<n){off:Nat}(ho:off=x):bt (bU f F1 F2 x n) off [Ab f F1 F2 x]=bU f F1 F2 (x+1) n:=by
 subst ho
 simp only[bt]
 refine List.ext_getElem? fun i =>?_
 unfold bU
 rw[List.getElem?_set]
 by_cases h1:off=i
 ·subst h1
  rw[if_pos rfl,if_pos (by simpa using h),List.getElem?_map,List.getElem?_range h]
  show _=some (if off<off+1 then _ else _)
  rw[if_pos (Nat.lt_succ_self _)]
 ·rw[if_neg h1,List.getElem?_map,List.getElem?_map]
  by_cases h2:i<n
  ·rw[List.getElem?_range h2]
   show some (if i<off then _ else _)=some (if i<off+1 then _ else _)
   by_cases h3:i<off
   ·rw[if_pos h3,if_pos (by omega)]
   ·rw[if_neg h3,if_neg (by omega)]
  ·rw[List.getElem?_eq_none (by simp;omega)];rfl
theorem w5{U:Nat->Option Nat}{f F1 F2 x n:Nat}(h1:U F1=some F1)(h2:U F2=some F2):(bU f F1 F2 x n).map (rn U 3)=bU f F1 F2 x n:=by
 unfold bU
 rw[List.map_map]
 refine List.map_congr_left fun j _ =>?_
 show rn U 3 (if j<x then _ else _)=if j<x then _ else _
 by_cases h:j<x
 ·rw[if_pos h]
  show Value.func (.func f) ⟨[]⟩ ⟨[rn U 2 (.pointer (some ⟨F1,0,some (j+3)⟩)),rn U 2 (.pointer (some ⟨F2,0,some (j+3)⟩))]⟩=_
  have e:∀F,U F=some F->rn U 2 (.pointer (some ⟨F,0,some (j+3)⟩)) = .pointer (some ⟨F,0,some (j+3)⟩):=fun F hF=>by
   show (match U F with|some id'=>Value.pointer (some ⟨id',0,some (j+3)⟩)|none=>bad)=_
   rw[hF]
  rw[e _ h1,e _ h2];rfl
 ·rw[if_neg h];rfl
theorem ug{V:Nat}{U:List (Nat×Nat)}{f F1 F2 x n:Nat}{cs:List Value}(h1:sg V U F1=some F1)(h2:sg V U F2=some F2)(e:cs=bU f F1 F2 x n):wkO (.cells true 1 cs) (rno (sg V U) 3 (.cells true 1 (bU f F1 F2 x n))):=by
 refine ki ?_
 show _=aa.cells true 1 ((bU f F1 F2 x n).map (rn (sg V U) 3))
 rw[w5 h1 h2,e]
theorem kE{e:Nat->Int}:∀{n:Nat},cw e n=0->∀k,k<n->e k=0
 |0,_,k,h=>by omega
 |n+1,h0,k,h=>by
  have h0:dv (cw e n) (e n)=0:=h0
  unfold dv at h0
  split at h0
  ·rename_i h1
   rcases Nat.lt_or_ge k n with h2|h2
   ·exact kE h1 k h2
   ·obtain rfl:k=n:=by omega
    exact h0
  ·rename_i h1;exact absurd h0 h1
theorem il{e:Nat->Int}{k:Nat}(h0:cw e k=0)(hk:e k≠0):∀{n:Nat},k<n->cw e n=e k
 |0,h=>by omega
 |n+1,h=>by
  show dv (cw e n) (e n)=e k
  rcases Nat.lt_or_ge k n with h2|h2
  ·rw[il h0 hk h2,dK hk]
  ·obtain rfl:k=n:=by omega
   rw[h0,cv rfl]
theorem dL{e:Nat->Int}{k:Nat}(h0:cw e k=0)(h1:e k=0):cw e (k+1)=0:=by
 show dv (cw e k) (e k)=0
 rw[h0,cv rfl,h1]
theorem kin(n lo hi:Int)(H:Heap):aF prog F.wT [.int .i64 n,.int .i64 lo,.int .i64 hi] H [] (Is (.bool (decide (lo<=n)&&decide (n<=hi))) H):=by
 refine jB 40 (fun _=>rfl) rfl (Eq.mpr (BF _ n lo hi) ?_) H
 unfold Ba
 refine aH (fun h =>?_) (fun h =>?_)
 ·rw[decide_eq_true h,Bool.true_and]
 ·rw[decide_eq_false h,Bool.false_and]
theorem gq(w h:Int)(a:List Bool)(xs:List Ice)(ms:List Move):∀k,(aR w h a xs ms k).length=a.length
 |0=>by simp[aR]
 |k+1=>by
  unfold aR
  split
  ·exact gq w h a xs ms k
  ·rw[List.length_set];exact gq w h a xs ms k
def hU(k:Nat)(p:Pl):Prop:=(0<=p.s/\p.s<=100*(k:Int))/\(0<=p.t/\p.t<=400)/\0<=p.r/\p.r<=100
theorem dg{k m:Nat}(h:k<=m){p:Pl}(hp:hU k p):hU m p:=by
 obtain ⟨⟨a,b⟩,c⟩:=hp
 exact ⟨⟨a,by omega⟩,c⟩
theorem me{k:Nat}{p:Pl}{x:Ice}(hp:hU k p)(hx:cB x):hU (k+1) (fb p x):=by
 unfold fb
 split
 ·exact dg (by omega) hp
 ·obtain ⟨⟨a,b⟩,c,d⟩:=hp
  obtain ⟨x1,x2,x3,x4⟩:=hx
  refine ⟨⟨?_,?_⟩,⟨?_,?_⟩,?_,?_⟩ <;> dsimp only <;> omega
theorem gx{Z:Type}{l:List Z}{d y:Z}{i j:Nat}(hi:i<l.length):(l.set i y).getD j d=if j=i then y else l.getD j d:=by
 rw[List.getD_eq_getElem?_getD,List.getElem?_set,List.getD_eq_getElem?_getD]
 by_cases h:i=j
 ·rw[if_pos h,if_pos (h ▸ hi),if_pos h.symm];rfl
 ·rw[if_neg h,if_neg (fun e=>h e.symm)]
theorem oW{w h:Int}{a:List Bool}{xs:List Ice}{ms:List Move}:∀{k:Nat},k<=xs.length->(∀i,i<xs.length->cB (xs.getD i aG))->∀j,hU k ((aR w h a xs ms k).getD j ad)
 |0,_,hx,j=>by
  show hU 0 ((List.replicate a.length ad).getD j ad)
  rw[List.getD_eq_getElem?_getD,List.getElem?_replicate]
  split <;> exact ⟨⟨by decide,by decide⟩,⟨by decide,by decide⟩,by decide,by decide⟩
 |k+1,hk,hx,j=>by
  have ih:=oW (w:=w) (h:=h) (a:=a) (ms:=ms) (k:=k) (by omega) hx
  unfold aR
  split
  ·exact dg (by omega) (ih j)
  ·by_cases hd:Int.toNat (bX w h a (k:Int) (ms.getD k aM))<(aR w h a xs ms k).length
   ·rw[gx hd]
    split
    ·exact me (ih _) (hx k (by omega))
    ·exact dg (by omega) (ih j)
   ·rw[List.set_eq_of_length_le (by omega)]
    exact dg (by omega) (ih j)
theorem lP{a:List Bool}{l:List Flow}{xs:List Ice}{ms:List Move}{k:Nat}(h:cW a l xs ms k=0):cB (xs.getD k aG)/\(a.getD k false=true->isZ (xs.getD k aG)=true)/\(a.getD k false=false->jl (l.getD k ac) (ms.getD k aM)=true):=by
 unfold cW dv at h
 split at h
 ·rename_i h0
  refine ⟨sJ.1 h0,fun ha =>?_,fun ha =>?_⟩
  ·rw[if_pos ha]at h
   split at h
   ·assumption
   ·omega
  ·rw[if_neg (by rw[ha];exact Bool.false_ne_true)]at h
   split at h
   ·assumption
   ·omega
 ·rename_i h0;exact absurd h h0
theorem tD{a:List Bool}{l:List Flow}{xs:List Ice}{ms:List Move}{k:Nat}(h:cI (xs.getD k aG)≠0):cW a l xs ms k=cI (xs.getD k aG):=dK h
theorem jS{a:List Bool}{l:List Flow}{xs:List Ice}{ms:List Move}{k:Nat}(h:cI (xs.getD k aG)=0)(h1:a.getD k false=true)(h2:isZ (xs.getD k aG)=false):cW a l xs ms k=30:=by
 unfold cW
 rw[cv h,if_pos h1,if_neg (by rw[h2];exact Bool.false_ne_true)]
theorem oY{a:List Bool}{l:List Flow}{xs:List Ice}{ms:List Move}{k:Nat}(h:cI (xs.getD k aG)=0)(h1:a.getD k false=false)(h2:jl (l.getD k ac) (ms.getD k aM)=false):cW a l xs ms k=30:=by
 unfold cW
 rw[cv h,if_neg (by rw[h1];exact Bool.false_ne_true),if_neg (by rw[h2];exact Bool.false_ne_true)]
theorem tC{a:List Bool}{l:List Flow}{xs:List Ice}{ms:List Move}{k:Nat}(h:cI (xs.getD k aG)=0)(h1:a.getD k false=true)(h2:isZ (xs.getD k aG)=true):cW a l xs ms k=0:=by
 unfold cW
 rw[cv h,if_pos h1,if_pos h2]
theorem tz{a:List Bool}{l:List Flow}{xs:List Ice}{ms:List Move}{k:Nat}(h:cI (xs.getD k aG)=0)(h1:a.getD k false=false)(h2:jl (l.getD k ac) (ms.getD k aM)=true):cW a l xs ms k=0:=by
 unfold cW
 rw[cv h,if_neg (by rw[h1];exact Bool.false_ne_true),if_pos h2]
abbrev drV(i:Nat)(r:List Ice×List Int×Int):Value:=.tuple #[.slice (some ⟨i,0,some 1⟩) r.1.length r.1.length,.slice (some ⟨i+1,0,some 1⟩) r.2.1.length r.2.1.length,.int .i64 r.2.2]
theorem lv{r:List Ice×List Int×Int}{e:Int}(h:r=([],[],e)):true=true/\wk (.tuple #[.slice none 0 0,.slice none 0 0,.int .i64 e]:Value) (rn (sg 4 []) 3 (drV 4 r))/\(True/\True/\True):=by
 subst h
 exact ⟨rfl,aA ⟨aL _ _ _ (.inl rfl),aL _ _ _ (.inl rfl),ag _,trivial⟩,trivial,trivial,trivial⟩
theorem ll{w h:Int}{a:List Bool}{l:List Flow}{xs:List Ice}{ms:List Move}{e:Int}(h1:m7 w h a l xs ms=e)(h2:e≠0):ae w h a l xs ms=([],[],e):=by
 subst h1
 exact if_neg h2
theorem AE{a:List Bool}{x:Nat}(h:x<a.length):lG a (x:Int) = !(a.getD x false):=by
 unfold lG
 rw[decide_eq_true (by omega),Bool.true_and,Int.toNat_natCast]
theorem aZ{Z:Type}{l:List Z}{d:Z}{i:Nat}:l.set i (l.getD i d)=l:=by
 refine List.ext_getElem? fun j =>?_
 rw[List.getElem?_set]
 by_cases h:i=j
 ·subst h
  rw[if_pos rfl,List.getD_eq_getElem?_getD]
  by_cases h2:i<l.length
  ·rw[if_pos h2,List.getElem?_eq_getElem h2];rfl
  ·rw[if_neg h2,List.getElem?_eq_none (by omega)]
 ·rw[if_neg h]
theorem tT{f:Flow}{m:Move}(hf:bY f)(h:jl f m=true):uW m:=by
 obtain ⟨⟨a1,a2,a3⟩,b1,b2,b3⟩:=hf
 unfold jl at h
 simp only[Bool.and_eq_true,decide_eq_true_eq]at h
 unfold bw cc at h
 dsimp only at h
 unfold uW
 omega
theorem zk{w h:Int}{a:List Bool}{xs:List Ice}{ms:List Move}{k:Nat}(h0:a.getD k false=true):aR w h a xs ms (k+1)=aR w h a xs ms k:=by
 show (if _ then _ else _)=_
 rw[if_pos h0]
theorem zj{w h:Int}{a:List Bool}{xs:List Ice}{ms:List Move}{k:Nat}(h0:a.getD k false=false):aR w h a xs ms (k+1) =
  (aR w h a xs ms k).set (Int.toNat (bX w h a (k:Int) (ms.getD k aM))) (fb ((aR w h a xs ms k).getD (Int.toNat (bX w h a (k:Int) (ms.getD k aM))) ad) (xs.getD k aG)):=by
 show (if _ then _ else _)=_
 rw[if_neg (by rw[h0];exact Bool.false_ne_true)]
theorem map_take{Z β:Type}{f:Z->β}{l:List Z}{d:Z}{k:Nat}(h:k<l.length):(l.map f).take (k+1)=(l.map f).take k ++ [f (l.getD k d)]:=by
 rw[List.take_add_one,List.getElem?_map,List.getElem?_eq_getElem h,List.getD_eq_getElem?_getD,List.getElem?_eq_getElem h];rfl
theorem ep{o d:Int}(h:0<=o)(hd:1<=d):0<=Int.tdiv o d/\Int.tdiv o d<=o:=by
 rw[Int.tdiv_eq_ediv_of_nonneg h]
 exact ⟨Int.ediv_nonneg h (by omega),Int.ediv_le_self d h⟩
theorem zF(w h:Int)(a:List Bool)(l:List Flow)(xs:List Ice)(ms:List Move)(hl:l.length<=4294967296)(hx:xs.length<=4294967296){H:Heap}{L:Nat}(hL:H.length=L){i0 i1 i2 i3:Nat}{o0 o1 o2 o3:Bool}{z0 z1 z2 z3:Nat}(e0:H[i0]?=some (.cells o0 z0 (a.flatMap am)))
  (e1:H[i1]?=some (.cells o1 z1 (l.flatMap aV))) (e2:H[i2]?=some (.cells o2 z2 (xs.flatMap aS))) (e3:H[i3]?=some (.cells o3 z3 (ms.flatMap moveC))) :
  aF prog F.rf [eH w h i0 a.length,.slice (some ⟨i1,0,some 2⟩) l.length l.length,.slice (some ⟨i2,0,some 2⟩) xs.length xs.length,.slice (some ⟨i3,0,some 2⟩) ms.length ms.length] H []
   (Is (drV L (ae w h a l xs ms)) (H ++ [.cells true 4 ((ae w h a l xs ms).1.flatMap aS),.cells true 1 ((ae w h a l xs ms).2.1.flatMap bj)])):=by
 subst hL
 refine kT (fun i=>drV i (ae w h a l xs ms)) (css:=[a.flatMap am,l.flatMap aV,xs.flatMap aS,ms.flatMap moveC]) (new:=[.cells true 4 ((ae w h a l xs ms).1.flatMap aS),.cells true 1 ((ae w h a l xs ms).2.1.flatMap bj)]) (Eq.mpr (At w h a l xs ms) ?_) ⟨bP 0 a,d8 0 l,c7 0 xs,cH 0 ms,trivial⟩
  ⟨⟨_,_,rfl,c7 0 _⟩,⟨_,_,rfl,cj 0 _⟩,trivial⟩ rfl rfl (fun _=>rfl) (ids:=[i0,i1,i2,i3]) ⟨⟨_,_,e0⟩,⟨_,_,e1⟩,⟨_,_,e2⟩,⟨_,_,e3⟩,trivial⟩ rfl
 unfold xt
 refine ⟨⟨rfl,rfl,trivial⟩,fun H' _ hd=>lh w h a l hl hd.1 hd.2.1,az (fun h0 =>?_) (fun h0 =>?_)⟩
 ·exact lv (ll (dK h0) h0)
 have hfl:=fF h0
 have hb:=oB hfl.1
 have hla:=hfl.2.1
 have hrf:=j7 hfl.2.2
 have hE:m7 w h a l xs ms=if xs.length=l.length/\ms.length=l.length then cw (cW a l xs ms) xs.length else 1:=cv h0
 refine az (fun h1 =>?_) (fun h1=>az (fun h2 =>?_) (fun h2 =>?_))
 ·exact lv (ll (by rw[hE,if_neg (fun q=>h1 (by rw[q.1]))]) (by decide))
 ·exact lv (ll (by rw[hE,if_neg (fun q=>h2 (by rw[q.2]))]) (by decide))
 have hxl:xs.length=l.length:=by omega
 have hml:ms.length=l.length:=by omega
 have hE:m7 w h a l xs ms=cw (cW a l xs ms) xs.length:=by rw[hE,if_pos ⟨hxl,hml⟩]
 have hn:=hb.n1
 have hp:=hb.p1
 refine ⟨rfl,⟨Nat.zero_le _,rfl⟩,?_,fun _=>rfl,?_⟩
 ·repeat' first|exact trivial|exact rfl|exact ag _|refine af ?_|refine ak ?_ ?_|exact aE|exact aL _ _ _ (.inl rfl)|(exact bf (by omega))|refine aA ?_|refine ar ?_|refine aC ?_ ?_ ?_|refine aB ?_ ?_ ?_|refine toMax ?_|refine toMin ?_|refine ⟨rfl,?_⟩|refine ⟨trivial,?_⟩|(refine aH (fun h =>?_) (fun h =>?_))|(refine az (fun h =>?_) (fun h =>?_))|(refine aI (fun h =>?_) (fun h =>?_))|refine aD ?_|(refine ⟨au (by omega),?_⟩)|(refine And.intro (by omega) ?_)|apply And.intro|(exact iEq (by omega))|(exact au (by omega))
 rintro x1 ⟨j1,j2⟩
 have err:∀{e:Int},x1<xs.length->cW a l xs ms x1=e->e≠0->true=true/\wk (.tuple #[.slice none 0 0,.slice none 0 0,.int .i64 e]:Value) (rn (sg 4 []) 3 (drV 4 (ae w h a l xs ms)))/\(True/\True/\True):=fun {e} hx1 h3 h4 =>
  lv (ll (by rw[hE,il j2 (by rw[h3];exact h4) hx1,h3]) h4)
 refine aH (fun k1 =>?_) (fun k1 =>?_)
 ·have hx1:x1<xs.length:=by omega
  have hf1:=hrf (l.getD x1 ac) (dt (by omega))
  refine ⟨by omega,gF hx1,by omega,eR (by omega),trivial,fun H' _ _=>yI _ hf1 H',trivial,fun H' _ _=>vd _ H',az (fun h3 =>?_) (fun h3=>⟨by omega,dM (by omega) (by omega),?_⟩)⟩
  ·exact err hx1 (tD h3) h3
  refine ⟨fun ha=>⟨fun q =>?_,fun q=>⟨by omega,dM (by omega) (by omega),fun q2 =>?_,fun q2 =>?_⟩⟩,fun ha=>⟨by omega,dM (by omega) (by omega),fun q2 =>?_,fun q2 =>?_⟩⟩
  ·exact err hx1 (jS h3 ha (nu q)) (by decide)
  ·rw[ha]at q2;cases q2
  ·refine ⟨au (by omega),x1+1,⟨by omega,dL j2 (tC h3 ha (kY q))⟩,by omega,rfl,?_⟩
   repeat' first|exact trivial|exact rfl|exact ag _|refine af ?_|refine ak ?_ ?_|exact aE|exact aL _ _ _ (.inl rfl)|(exact bf (by omega))|refine aA ?_|refine ar ?_|refine aC ?_ ?_ ?_|refine aB ?_ ?_ ?_|refine toMax ?_|refine toMin ?_|refine ⟨rfl,?_⟩|refine ⟨trivial,?_⟩|(refine aH (fun h =>?_) (fun h =>?_))|(refine az (fun h =>?_) (fun h =>?_))|(refine aI (fun h =>?_) (fun h =>?_))|refine aD ?_|(refine ⟨au (by omega),?_⟩)|(refine And.intro (by omega) ?_)|apply And.intro|(exact iEq (by omega))|(exact au (by omega))
  ·refine ⟨by omega,(vZ (by omega)).1,trivial,fun H' _ _=>kin _ _ _ H',fun q3 =>?_,fun q3=>⟨by omega,(vZ (by omega)).2,trivial,fun H' _ _=>kin _ _ _ H',fun q4 =>?_,fun q4 =>?_⟩⟩
   ·exact err hx1 (oY h3 ha (by unfold jl;rw[nu q3,Bool.false_and])) (by decide)
   ·exact err hx1 (oY h3 ha (by unfold jl;rw[nu q4,Bool.and_false])) (by decide)
   ·refine ⟨au (by omega),x1+1,⟨by omega,dL j2 (tz h3 ha (by unfold jl;rw[kY q3,kY q4];rfl))⟩,by omega,rfl,?_⟩
    repeat' first|exact trivial|exact rfl|exact ag _|refine af ?_|refine ak ?_ ?_|exact aE|exact aL _ _ _ (.inl rfl)|(exact bf (by omega))|refine aA ?_|refine ar ?_|refine aC ?_ ?_ ?_|refine aB ?_ ?_ ?_|refine toMax ?_|refine toMin ?_|refine ⟨rfl,?_⟩|refine ⟨trivial,?_⟩|(refine aH (fun h =>?_) (fun h =>?_))|(refine az (fun h =>?_) (fun h =>?_))|(refine aI (fun h =>?_) (fun h =>?_))|refine aD ?_|(refine ⟨au (by omega),?_⟩)|(refine And.intro (by omega) ?_)|apply And.intro|(exact iEq (by omega))|(exact au (by omega))
  ·rw[ha]at q2;cases q2
 ·obtain rfl:x1=xs.length:=by omega
  have hall:=kE j2
  have hxI:∀i,i<xs.length->cB (xs.getD i aG):=fun i hi=>(lP (hall i hi)).1
  have hFD:ae w h a l xs ms=(b7 w h a xs ms,b8 w h a xs ms,0):=by unfold ae;rw[if_pos (by rw[hE,j2])]
  refine ⟨by omega,by omega,rfl,Nat.zero_le _,?_,fun _=>rfl,?_⟩
  ·repeat' first|exact ug rfl rfl (uh _ _ _ _).symm|exact trivial|exact rfl|exact ag _|refine af ?_|refine ak ?_ ?_|exact aE|exact aL _ _ _ (.inl rfl)|(exact bf (by omega))|refine aA ?_|refine ar ?_|refine aC ?_ ?_ ?_|refine aB ?_ ?_ ?_|refine toMax ?_|refine toMin ?_|refine ⟨rfl,?_⟩|refine ⟨trivial,?_⟩|(refine aH (fun h =>?_) (fun h =>?_))|(refine az (fun h =>?_) (fun h =>?_))|(refine aI (fun h =>?_) (fun h =>?_))|refine aD ?_|(refine ⟨au (by omega),?_⟩)|(refine And.intro (by omega) ?_)|apply And.intro|(exact iEq (by omega))|(exact au (by omega))
  rintro x2 hx2
  refine aH (fun k2 =>?_) (fun k2 =>?_)
  ·refine ⟨⟨rfl,by omega,by rw[bg eQ,List.length_replicate]⟩,⟨rfl,by omega,by rw[bg dh,List.length_replicate]⟩,by omega,by rw[fg];omega,rfl,by omega,by rw[fg];omega,rfl,au (by omega),x2+1,by omega,by omega,rfl,?_⟩
   repeat' first|(exact ug rfl rfl (ou (by omega) (by omega)))|exact d7 _ _|exact d6 _ _|((rw[qj,List.flatMap_append];rfl))|exact trivial|exact rfl|exact ag _|refine af ?_|refine ak ?_ ?_|exact aE|exact aL _ _ _ (.inl rfl)|(exact bf (by omega))|refine aA ?_|refine ar ?_|refine aC ?_ ?_ ?_|refine aB ?_ ?_ ?_|refine toMax ?_|refine toMin ?_|refine ⟨rfl,?_⟩|refine ⟨trivial,?_⟩|(refine aH (fun h =>?_) (fun h =>?_))|(refine az (fun h =>?_) (fun h =>?_))|(refine aI (fun h =>?_) (fun h =>?_))|refine aD ?_|(refine ⟨au (by omega),?_⟩)|(refine And.intro (by omega) ?_)|apply And.intro|(exact iEq (by omega))|(exact au (by omega))
  ·obtain rfl:x2=l.length:=by omega
   refine ⟨rfl,Nat.zero_le _,?_,fun _=>rfl,?_⟩
   ·rw[show List.replicate l.length ad=aR w h a xs ms 0 from by rw[hla];rfl]
    repeat' first|exact d7 _ _|exact d6 _ _|exact trivial|exact rfl|exact ag _|refine af ?_|refine ak ?_ ?_|exact aE|exact aL _ _ _ (.inl rfl)|(exact bf (by omega))|refine aA ?_|refine ar ?_|refine aC ?_ ?_ ?_|refine aB ?_ ?_ ?_|refine toMax ?_|refine toMin ?_|refine ⟨rfl,?_⟩|refine ⟨trivial,?_⟩|(refine aH (fun h =>?_) (fun h =>?_))|(refine az (fun h =>?_) (fun h =>?_))|(refine aI (fun h =>?_) (fun h =>?_))|refine aD ?_|(refine ⟨au (by omega),?_⟩)|(refine And.intro (by omega) ?_)|apply And.intro|(exact iEq (by omega))|(exact au (by omega))
   rintro x3 hx3
   have hpl:=gq w h a xs ms x3
   have hpo:=oW (w:=w) (h:=h) (a:=a) (ms:=ms) hx3 hxI
   refine aH (fun k3 =>?_) (fun k3 =>?_)
   ·have lI:x3<xs.length:=by omega
    refine ⟨by omega,gF lI,⟨rfl,trivial⟩,fun H' _ hd=>kis hb hd.1,fun q =>?_,fun q =>?_⟩
    ·have hs:a.getD x3 false=false:=by rw[AE (by omega)]at q;exact nu q
     have hmv:=tT (hrf _ (dt (by omega))) ((lP (hall x3 lI)).2.2 hs)
     have hc:0<=(x3:Int)/\(x3:Int)<w*h:=by omega
     have htb:=lM (a:=a) hc (ms.getD x3 aM)
     have h2:=zj (w:=w) (h:=h) (xs:=xs) (ms:=ms) hs
     have hd:Int.toNat (bX w h a (x3:Int) (ms.getD x3 aM))<(aR w h a xs ms x3).length:=by omega
     have hP:=hpo (Int.toNat (bX w h a (x3:Int) (ms.getD x3 aM)))
     have hX:=hxI x3 lI
     generalize hP0:(aR w h a xs ms x3).getD (Int.toNat (bX w h a (x3:Int) (ms.getD x3 aM))) ad=p at *
     refine ⟨by omega,fq (by omega),⟨rfl,trivial⟩,fun H' _ hd=>tK hb hc hmv hd.1,by omega,fh (by omega) (by omega) (by omega),aI (fun q2 =>?_) (fun q2 =>?_)⟩
     ·have h3:aR w h a xs ms (x3+1)=aR w h a xs ms x3:=by
       rw[h2,<- hP0,show fb ((aR w h a xs ms x3).getD (Int.toNat (bX w h a (x3:Int) (ms.getD x3 aM))) ad) (xs.getD x3 aG)=(aR w h a xs ms x3).getD (Int.toNat (bX w h a (x3:Int) (ms.getD x3 aM))) ad from if_pos q2]
       exact aZ
      refine ⟨au (by omega),x3+1,by omega,by omega,rfl,?_⟩
      rw[h3]
      repeat' first|exact d7 _ _|exact d6 _ _|exact trivial|exact rfl|exact ag _|refine af ?_|refine ak ?_ ?_|exact aE|exact aL _ _ _ (.inl rfl)|(exact bf (by omega))|refine aA ?_|refine ar ?_|refine aC ?_ ?_ ?_|refine aB ?_ ?_ ?_|refine toMax ?_|refine toMin ?_|refine ⟨rfl,?_⟩|refine ⟨trivial,?_⟩|(refine aH (fun h =>?_) (fun h =>?_))|(refine az (fun h =>?_) (fun h =>?_))|(refine aI (fun h =>?_) (fun h =>?_))|refine aD ?_|(refine ⟨au (by omega),?_⟩)|(refine And.intro (by omega) ?_)|apply And.intro|(exact iEq (by omega))|(exact au (by omega))
     ·have hA:fb p (xs.getD x3 aG)=⟨p.s+(xs.getD x3 aG).aK,max p.t (xs.getD x3 aG).ao,max p.r (xs.getD x3 aG).ap⟩:=if_neg q2
      obtain ⟨hp1,hp2,hp3⟩:=hP
      obtain ⟨vi,vh,BG,wx⟩:=hX
      have s1:=rX hd (fb p (xs.getD x3 aG))
      have s2:=rW hd (fb p (xs.getD x3 aG))
      rw[<- h2,hA]at s1 s2
      refine ⟨by rw[<- hP0];exact nP hd,au (by omega),by rw[bg eQ];omega,rfl,by rw[<- hP0];exact (mf hd).1,toMax ⟨by rw[<- hP0];exact (mf hd).2,toMax ⟨by rw[bg dh];omega,rfl,?_,rfl,au (by omega),x3+1,by omega,by omega,rfl,?_⟩⟩⟩
      ·rw[cp,bg dh];omega
      ·rw[s1,s2]
       repeat' first|exact d7 _ _|exact d6 _ _|exact trivial|exact rfl|exact ag _|refine af ?_|refine ak ?_ ?_|exact aE|exact aL _ _ _ (.inl rfl)|(exact bf (by omega))|refine aA ?_|refine ar ?_|refine aC ?_ ?_ ?_|refine aB ?_ ?_ ?_|refine toMax ?_|refine toMin ?_|refine ⟨rfl,?_⟩|refine ⟨trivial,?_⟩|(refine aH (fun h =>?_) (fun h =>?_))|(refine az (fun h =>?_) (fun h =>?_))|(refine aI (fun h =>?_) (fun h =>?_))|refine aD ?_|(refine ⟨au (by omega),?_⟩)|(refine And.intro (by omega) ?_)|apply And.intro|(exact iEq (by omega))|(exact au (by omega))
    ·have hs:a.getD x3 false=true:=by rw[AE (by omega)]at q;exact kY q
     refine ⟨au (by omega),x3+1,by omega,by omega,rfl,?_⟩
     rw[zk hs]
     repeat' first|exact d7 _ _|exact d6 _ _|exact trivial|exact rfl|exact ag _|refine af ?_|refine ak ?_ ?_|exact aE|exact aL _ _ _ (.inl rfl)|(exact bf (by omega))|refine aA ?_|refine ar ?_|refine aC ?_ ?_ ?_|refine aB ?_ ?_ ?_|refine toMax ?_|refine toMin ?_|refine ⟨rfl,?_⟩|refine ⟨trivial,?_⟩|(refine aH (fun h =>?_) (fun h =>?_))|(refine az (fun h =>?_) (fun h =>?_))|(refine aI (fun h =>?_) (fun h =>?_))|refine aD ?_|(refine ⟨au (by omega),?_⟩)|(refine And.intro (by omega) ?_)|apply And.intro|(exact iEq (by omega))|(exact au (by omega))
   ·obtain rfl:x3=xs.length:=by omega
    refine ⟨rfl,Nat.zero_le _,?_,fun _=>rfl,?_⟩
    ·repeat' first|exact trivial|exact rfl|exact ag _|refine af ?_|refine ak ?_ ?_|exact aE|exact aL _ _ _ (.inl rfl)|(exact bf (by omega))|refine aA ?_|refine ar ?_|refine aC ?_ ?_ ?_|refine aB ?_ ?_ ?_|refine toMax ?_|refine toMin ?_|refine ⟨rfl,?_⟩|refine ⟨trivial,?_⟩|(refine aH (fun h =>?_) (fun h =>?_))|(refine az (fun h =>?_) (fun h =>?_))|(refine aI (fun h =>?_) (fun h =>?_))|refine aD ?_|(refine ⟨au (by omega),?_⟩)|(refine And.intro (by omega) ?_)|apply And.intro|(exact iEq (by omega))|(exact au (by omega))
    rintro x4 hx4
    have hIl:(b7 w h a xs ms).length=l.length:=by unfold b7;rw[List.length_map,hpl,hla]
    have hEl:(b8 w h a xs ms).length=l.length:=by unfold b8;rw[List.length_map,hpl,hla]
    refine aH (fun k4 =>?_) (fun k4 =>?_)
    ·have hd:x4<(aR w h a xs ms xs.length).length:=by omega
     have hI:(b7 w h a xs ms).take (x4+1)=(b7 w h a xs ms).take x4 ++ [bp ((aR w h a xs ms xs.length).getD x4 ad)]:=map_take hd
     have hO:(b8 w h a xs ms).take (x4+1)=(b8 w h a xs ms).take x4 ++ [cC ((aR w h a xs ms xs.length).getD x4 ad)]:=map_take hd
     have a1:=nP hd
     have a2:=mf hd
     obtain ⟨hp1,hp2,hp3⟩:=hpo x4
     generalize (aR w h a xs ms xs.length).getD x4 ad=p at *
     have hov:(if (0:Int) > p.s-100 then (0:Int) else p.s-100)=cC p:=by unfold cC;rw[py]
     have ho:0<=cC p/\cC p<=p.s:=by unfold cC;omega
     have d1:=ep (d:=10) ho.1 (by decide)
     have d2:=ep (d:=5) ho.1 (by decide)
     have d3:=ep (o:=cC p+25-1) (d:=25) (by omega) (by decide)
     have l1:((b7 w h a xs ms).take x4).length=x4:=by rw[List.length_take];omega
     have l2:((b8 w h a xs ms).take x4).length=x4:=by rw[List.length_take];omega
     have b1:=dA (own:=true) bT hI rfl
     have b2:=dA (own:=true) cT hO rfl
     rw[l1]at b1
     rw[l2]at b2
     have c1:=dd bT ((b7 w h a xs ms).take x4)
     have c2:=dd cT ((b8 w h a xs ms).take x4)
     rw[l1]at c1
     rw[l2]at c2
     rw[hov]
     refine ⟨by omega,fh (by omega) (by omega) (by omega),a1,au (by omega),a1,au (by omega),a2.1,au (by omega),au (by omega),toMin ⟨a2.2,au (by omega),au (by omega),toMin ⟨au (by omega),au (by omega),au (by omega),toMin ?_⟩⟩⟩
     repeat' first|(refine ⟨x4+1,by omega,by omega,rfl,?_⟩)|exact b1|exact b2|exact c7 _ _|exact cj _ _|exact c1|exact c2|exact Nat.le_refl _|exact trivial|exact rfl|exact ag _|refine af ?_|refine ak ?_ ?_|exact aE|exact aL _ _ _ (.inl rfl)|(exact bf (by omega))|refine aA ?_|refine ar ?_|refine aC ?_ ?_ ?_|refine aB ?_ ?_ ?_|refine toMax ?_|refine toMin ?_|refine ⟨rfl,?_⟩|refine ⟨trivial,?_⟩|(refine aH (fun h =>?_) (fun h =>?_))|(refine az (fun h =>?_) (fun h =>?_))|(refine aI (fun h =>?_) (fun h =>?_))|refine aD ?_|(refine ⟨au (by omega),?_⟩)|(refine And.intro (by omega) ?_)|apply And.intro|(exact iEq (by omega))|(exact au (by omega))
    ·obtain rfl:x4=l.length:=by omega
     rw[hFD]
     dsimp only
     rw[show (b7 w h a xs ms).take l.length=b7 w h a xs ms from List.take_of_length_le (by omega),show (b8 w h a xs ms).take l.length=b8 w h a xs ms from List.take_of_length_le (by omega),hIl,hEl]
     repeat' first|exact c7 _ _|exact cj _ _|exact trivial|exact rfl|exact ag _|refine af ?_|refine ak ?_ ?_|exact aE|exact aL _ _ _ (.inl rfl)|(exact bf (by omega))|refine aA ?_|refine ar ?_|refine aC ?_ ?_ ?_|refine aB ?_ ?_ ?_|refine toMax ?_|refine toMin ?_|refine ⟨rfl,?_⟩|refine ⟨trivial,?_⟩|(refine aH (fun h =>?_) (fun h =>?_))|(refine az (fun h =>?_) (fun h =>?_))|(refine aI (fun h =>?_) (fun h =>?_))|refine aD ?_|(refine ⟨au (by omega),?_⟩)|(refine And.intro (by omega) ?_)|apply And.intro|(exact iEq (by omega))|(exact au (by omega))
def loI(c:Cell):Ice:=⟨c.aK.lo,c.ao.lo,c.ap.lo,c.av.lo⟩
def hiI(c:Cell):Ice:=⟨c.aK.hi,c.ao.hi,c.ap.hi,c.av.hi⟩
def cellOf(a z:Ice):Cell:=⟨⟨a.aK,z.aK⟩,⟨a.ao,z.ao⟩,⟨a.ap,z.ap⟩,⟨a.av,z.av⟩⟩
def eY(ps:List Pl)(t:Int)(x:Ice):List Pl:=ps.set (Int.toNat t) (fb (ps.getD (Int.toNat t) ad) x)
def aO(ps:List Pl)(ts:List Int)(x:Ice):List Pl:=ts.foldl (fun ps t=>eY ps t x) ps
def TG(w h:Int)(a:List Bool)(l:List Flow)(k:Nat):List Int:=tgts w h a (k:Int) (l.getD k ac)
def aj(w h:Int)(a:List Bool)(l:List Flow)(cs:List Cell):Nat->List Pl
 |0=>List.replicate a.length ad
 |k+1=>if a.getD k false=true then aj w h a l cs k else aO (aj w h a l cs k) (TG w h a l k) (hiI (cs.getD k ab))
def aq(w h:Int)(a:List Bool)(l:List Flow)(cs:List Cell):Nat->List Pl
 |0=>List.replicate a.length ad
 |k+1=>if a.getD k false=true then aq w h a l cs k else if (TG w h a l k).length=1 then eY (aq w h a l cs k) ((TG w h a l k).getD 0 0) (loI (cs.getD k ab)) else aq w h a l cs k
def dz(w h:Int)(a:List Bool)(l:List Flow)(cs:List Cell)(k:Nat):Cell:=cellOf (bp ((aq w h a l cs cs.length).getD k ad)) (bp ((aj w h a l cs cs.length).getD k ad))
def bV(w h:Int)(a:List Bool)(l:List Flow)(cs:List Cell):List Cell:=cm (dz w h a l cs) a.length
def zK(c:Cell):Bool:=(c.aK.lo == 0&&(c.aK.hi == 0&&true))&&((c.ao.lo == 0&&(c.ao.hi == 0&&true))&&((c.ap.lo == 0&&(c.ap.hi == 0&&true))&&((c.av.lo == 0&&(c.av.hi == 0&&true))&&true)))
def bu(w h w' h' t:Int)(cs:List Cell):Int:=dv (cg w' h' t cs) (if w'=w/\h'=h then 0 else 1)
def ed(a:List Bool)(cs:List Cell)(k:Nat):Int:=if a.getD k false=true then (if zK (cs.getD k ab)=true then 0 else 30) else 0
def f6(a:List Bool)(cs:List Cell):Int:=cw (ed a cs) cs.length
def cn(w h:Int)(a:List Bool)(w' h' t:Int)(cs:List Cell):Int:=dv (bu w h w' h' t cs) (f6 a cs)
def aQ(w h:Int)(a:List Bool)(l:List Flow)(w' h' t:Int)(cs:List Cell):oH×Int :=
 if bI w h a.length l=0 then (if cn w h a w' h' t cs=0 then (if t=10000 then (cO,6) else (⟨w',h',t+1,bV w h a l cs⟩,0)) else (cO,cn w h a w' h' t cs)) else (cO,bI w h a.length l)
end
end Go.Proofs.YtkkgnalgmebfjaaGreat
