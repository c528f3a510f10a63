/- What is to be shown of functions. Printed by a program. No condition. -/
import Derived.Test.YthcjliffpebjaaaGreatGA4xD5g
import Derived.Test.YthcjliffpebjaaaGreatD2g
import Derived.Test.YthcjliffpebjaaaGreatGP5xK39
import Derived.Test.YthcjliffpebjaaaGreatD4g
import Derived.Test.YthcjliffpebjaaaGreatGR1xG0
open Go Go.K
set_option maxRecDepth 1000000
set_option maxHeartbeats 4000000
set_option linter.unusedVariables false
set_option linter.unusedSimpArgs false
namespace Go.Proofs.YthcjliffpebjaaaGreat
noncomputable section
attribute [local irreducible] vF
def zH(sp:Value)  : Prop :=
 (.tuple #[]:Value)=sp
theorem zP (sp : Value)  : vF prog msk (dm 0) 100000 true 40 true 128 [.slice (some ⟨0, 0, some 1⟩) 0 0] (bi 0 [[]]) (some [])
  (.auto)
  (fun v _ _ => v = sp) = zH sp  := by kernel_rfl
end
end Go.Proofs.YthcjliffpebjaaaGreat
namespace Go.Proofs.YthcjliffpebjaaaGreat
noncomputable section
attribute [local irreducible] vF
theorem wc{L:List Int}(h1:L.length<1000){H:Heap}{id:Nat}(ho:H[id]?=some (.cells true 1 (L.flatMap bf))) :
  ap prog F.fP [.slice (some ⟨id,0,some 1⟩) L.length L.length] H [id] (Is (.tuple #[]) (H.set id (.cells true 1 ((pS L).flatMap bf)))):=by
 by_cases h0:0<L.length
 ·exact zc h0 h1 ho
 ·obtain rfl:L=[]:=List.length_eq_zero_iff.1 (by omega)
  have hl:=(List.getElem?_eq_some_iff.1 ho).1
  have e:H.set id (.cells true 1 ((pS []).flatMap bf))=H:=by
   have:H[id] = .cells true 1 []:=by have:=ho;rw[List.getElem?_eq_getElem hl]at this;exact Option.some.inj this
   show H.set id (.cells true 1 ((List.mergeSort [] _).flatMap bf))=H
   rw[List.mergeSort_nil]
   show H.set id (.cells true 1 [])=H
   rw[<- this];exact List.set_getElem_self _
  rw[e]
  refine ap.mono (M:=[]) (zZ (css:=[[]]) (v:=.tuple #[]) (Eq.mpr (zP _) rfl) ⟨rfl,trivial⟩ rfl (ids:=[id]) ⟨⟨_,_,ho⟩,trivial⟩ rfl) (fun _ h=>by cases h) (fun _ _ h=>h)
theorem dT{r:oo×List Int×Int}{e:Int}(h:r=(dv,[],e)):true=true/\wk (.tuple #[.agg #[.int .i64 0,.int .i64 0,.int .i64 0,.slice none 0 0],.slice none 0 0,.int .i64 e]:Value) (rn (sg 1 []) 3 (.tuple #[chV 1 1 r.1,.slice (some ⟨2,0,some 1⟩) r.2.1.length r.2.1.length,.int .i64 r.2.2]))/\(True/\True/\True):=by
 subst h
 exact ⟨rfl,aE ⟨aD ⟨aw _,aw _,aw _,aL _ _ _ (.inl rfl),trivial⟩,aL _ _ _ (.inl rfl),aw _,trivial⟩,trivial,trivial,trivial⟩
section
variable {w h now:Int} {l:List Report} {m:aO}
theorem eD1(h0:¬ bl w h now=0):eF w h l m now=bl w h now:=if_neg h0
theorem eD2(h0:bl w h now=0)(h1:¬ bG m=0):eF w h l m now=bG m:=(if_pos h0).trans (if_neg h1)
theorem eD3(h0:bl w h now=0)(h1:bG m=0)(h2:400<l.length):eF w h l m now=2:=(if_pos h0).trans ((if_pos h1).trans (if_pos h2))
theorem eD4(h0:bl w h now=0)(h1:bG m=0)(h2:¬ 400<l.length):eF w h l m now=ce (ek w h l now) l.length:=(if_pos h0).trans ((if_pos h1).trans (if_neg h2))
theorem eE{e:Int}(h0:eF w h l m now=e)(h1:¬ e=0):ah w h l m now=(dv,[],e):=by
 subst h0;exact if_neg h1
theorem pq(h0:eF w h l m now=0):ah w h l m now=(⟨w,h,now,jP w h l m now⟩,bB l m now l.length,0):=if_pos h0
end
section
variable {w h now:Int} {l:List Report} {i:Nat}
theorem dE1(h1:¬ errReport (l.getD i ad)=0):ek w h l now i=errReport (l.getD i ad):=if_neg h1
theorem dE2(h1:errReport (l.getD i ad)=0)(h2:∃k,k<i/\(l.getD k ad).id=(l.getD i ad).id):ek w h l now i=10:=(if_pos h1).trans (if_pos h2)
theorem dE3(h1:errReport (l.getD i ad)=0)(h2:¬ ∃k,k<i/\(l.getD k ad).id=(l.getD i ad).id)(h3:(l.getD i ad).x ≥ w∨(l.getD i ad).y ≥ h):ek w h l now i=1:=(if_pos h1).trans ((if_neg h2).trans (if_pos h3))
theorem dE4(h1:errReport (l.getD i ad)=0)(h2:¬ ∃k,k<i/\(l.getD k ad).id=(l.getD i ad).id)(h3:¬ ((l.getD i ad).x ≥ w∨(l.getD i ad).y ≥ h))(h4:(l.getD i ad).at_ > now):ek w h l now i=12:=(if_pos h1).trans ((if_neg h2).trans ((if_neg h3).trans (if_pos h4)))
theorem dE5(h1:errReport (l.getD i ad)=0)(h2:¬ ∃k,k<i/\(l.getD k ad).id=(l.getD i ad).id)(h3:¬ ((l.getD i ad).x ≥ w∨(l.getD i ad).y ≥ h))(h4:¬ (l.getD i ad).at_ > now)(h5:12<=(atN l i (kxy (l.getD i ad))).length):ek w h l now i=2:=(if_pos h1).trans ((if_neg h2).trans ((if_neg h3).trans ((if_neg h4).trans (if_pos h5))))
theorem dE6(h1:errReport (l.getD i ad)=0)(h2:¬ ∃k,k<i/\(l.getD k ad).id=(l.getD i ad).id)(h3:¬ ((l.getD i ad).x ≥ w∨(l.getD i ad).y ≥ h))(h4:¬ (l.getD i ad).at_ > now)(h5:¬ 12<=(atN l i (kxy (l.getD i ad))).length):ek w h l now i=0:=(if_pos h1).trans ((if_neg h2).trans ((if_neg h3).trans ((if_neg h4).trans (if_neg h5))))
theorem dOk(h0:ek w h l now i=0):c8 (l.getD i ad)/\(l.getD i ad).x<w/\(l.getD i ad).y<h/\(l.getD i ad).at_<=now/\(atN l i (kxy (l.getD i ad))).length<12/\¬ ∃k,k<i/\(l.getD k ad).id=(l.getD i ad).id:=by
 by_cases h1:errReport (l.getD i ad)=0
 ·by_cases h2:∃k,k<i/\(l.getD k ad).id=(l.getD i ad).id
  ·rw[dE2 h1 h2]at h0;cases h0
  ·by_cases h3:(l.getD i ad).x ≥ w∨(l.getD i ad).y ≥ h
   ·rw[dE3 h1 h2 h3]at h0;cases h0
   ·by_cases h4:(l.getD i ad).at_ > now
    ·rw[dE4 h1 h2 h3 h4]at h0;cases h0
    ·by_cases h5:12<=(atN l i (kxy (l.getD i ad))).length
     ·rw[dE5 h1 h2 h3 h4 h5]at h0;cases h0
     ·exact ⟨fu.1 h1,by omega,by omega,by omega,by omega,h2⟩
 ·rw[dE1 h1]at h0;exact absurd h0 h1
end
theorem uR{f:Nat->Int}{n:Nat}(h:ce f (n+1)=0):ce f n=0:=by
 unfold ce at h
 split at h
 ·assumption
 ·rename_i a
  exact absurd h a
theorem rl{w h now:Int}{l:List Report}:∀{n:Nat},ce (ek w h l now) n=0->∀q,(atN l n q).length<=12
 |0,_,q=>Nat.zero_le _
 |n+1,h0,q=>by
  have hz:=dX h0
  have ih:=rl (n:=n) (uR h0) q
  rw[er]
  by_cases e:kxy (l.getD n ad)=q
  ·rw[if_pos e,aX]
   have:=(dOk (hz n (Nat.lt_succ_self n))).2.2.2.2.1
   rw[e]at this
   show _+1<=12
   omega
  ·rw[if_neg e];exact ih
theorem kZ:∀a b:Int×Int,cb prog Op.maxDepth 54 (kXY a) (kXY b)=some (decide (a=b)):=by
 intro a b
 have h:cb prog Op.maxDepth 54 (kXY a) (kXY b)=some ((a.1 == b.1)&&((a.2 == b.2)&&true)):=by kernel_rfl
 rw[h]
 congr 1
 obtain ⟨a1,a2⟩:=a
 obtain ⟨b1,b2⟩:=b
 simp only[Bool.and_true]
 by_cases e:(a1,a2)=(b1,b2)
 ·cases e;simp
 ·rw[decide_eq_false e]
  by_cases e1:a1=b1
  ·have e2:¬ a2=b2:=fun q=>e (by rw[e1,q])
   simp[e2]
  ·simp[e1]
theorem wT{a:List Bool}{k:Nat}(h:k<a.length){off:Nat}(ho:off=k):(a.flatMap aN)[off]?=some (.bool (a.getD k false)):=ga (n:=1) (c:=0) (fun _=>rfl) h (by omega) rfl
theorem wd{a:List Int}{k:Nat}(h:k<a.length){off:Nat}(ho:off=k):(a.flatMap bf)[off]?=some (.int .i64 (a.getD k 0)):=ga (n:=1) (c:=0) cI h (by omega) rfl
theorem tq(U:Nat->Option Nat)(x:Int):∀v∈bf x,rn U 2 v=v:=by
 intro v hv
 rw[List.mem_singleton.1 hv];rfl
theorem nw:∀(n:Nat) (s:List Nat),s.Nodup->(∀i∈s,i<n)->s.length<=n:=by
 intro n
 induction n with
 |zero=>intro s _ h;cases s with
  |nil=>exact Nat.le_refl _
  |cons a s=>exact absurd (h a (List.mem_cons_self ..)) (by omega)
 |succ n ih =>
  intro s hn hs
  by_cases hm:n∈s
  ·have h1:=ih (s.erase n) (hn.erase n) (fun i hi=>by
    have:=hs i (List.mem_of_mem_erase hi)
    have:i≠n:=fun e=>by rw[e]at hi;exact (List.Nodup.not_mem_erase hn) hi
    omega)
   rw[List.length_erase_of_mem hm]at h1
   omega
  ·exact Nat.le_succ_of_le (ih s hn (fun i hi=>by
    have:=hs i hi
    have:i≠n:=fun e=>hm (e ▸ hi)
    omega))
theorem wa(a:Int×Int):jA (kXY a) (kXY a)=true:=by simp[kXY,jA,l7,l8]
theorem lF{κ β:Type}[DecidableEq κ](k:κ)(v:β):∀F:List (κ×β),(bT k v F).length<=F.length+1
 | [] =>Nat.le_refl _
 |e :: F=>by
  show (if e.1=k then (k,v) :: F else e :: bT k v F).length<=_
  split
  ·exact Nat.le_succ _
  ·exact Nat.succ_le_succ (lF k v F)
theorem nE(l:List Report)(m:aO)(now:Int)(A:List ((Int×Int)×Value)):∀seen:List Nat,(bc l m now A seen).length<=seen.length*l.length
 | [] =>Nat.zero_le _
 |e :: s=>by
  have ih:=nE l m now A s
  unfold bc at ih ⊢
  rw[List.flatMap_cons,aX,List.length_cons,Nat.succ_mul]
  have:(b8 l m now (af A e) l.length).length<=l.length:=by
   unfold b8
   rw[List.length_map]
   refine Nat.le_trans (List.length_filter_le _ _) ?_
   rw[List.length_take]
   exact Nat.min_le_left _ _
  omega
theorem vH(l:List Report)(m:aO)(now:Int)(q:Int×Int)(y:Nat):(b8 l m now q y).length<=l.length:=by
 unfold b8
 rw[List.length_map]
 refine Nat.le_trans (List.length_filter_le _ _) ?_
 rw[List.length_take]
 exact Nat.le_trans (Nat.min_le_right _ _) (eH l q _)
theorem iS(l:List Report)(m:aO)(now:Int)(n:Nat):(bB l m now n).length<=n:=by
 unfold bB
 rw[List.length_map]
 exact Nat.le_trans (List.length_filter_le _ _) (by rw[List.length_range];exact Nat.le_refl _)
theorem kR.more{F:Nat}{l:List Report}{T:Mb (Int×Int)}{seen:List Nat}{ms:List Value}(I:MbI F 1 bf (ar l l.length) T)(S:kR l T seen ms){e:Nat}(he:e<T.A.length)(hn:e ∉ seen) :
  kR l T (seen ++ [e]) (ba (ar l l.length (af T.A e)).length (T.ks (af T.A e)) ms):=by
 refine ⟨List.nodup_append.2 ⟨S.nd,(by simp),fun a ha b hb e=>hn (by rw[List.mem_singleton.1 hb]at e;exact e ▸ ha)⟩,fun j hj =>?_,(nD _ _ _).trans S.m0,gM S.fx,fun e' he' hne =>?_⟩
 ·rcases List.mem_append.1 hj with h1|h1
  ·exact S.lt j h1
  ·rw[List.mem_singleton.1 h1];exact he
 ·have h1:e' ∉ seen:=fun q=>hne (List.mem_append_left _ q)
  have h2:e≠e':=fun q=>hne (List.mem_append_right _ (by rw[q];exact List.mem_singleton.2 rfl))
  have hd:=I.dj (af T.A e) (af T.A e') (fun q=>h2 (nM I.nd he he' q)) (ic I he).2 (ic I he').2
  rw[<- S.rw e' he' h1]
  cases hr:(ar l l.length (af T.A e)).length with
  |zero=>rfl
  |succ r=>exact List.getElem?_set_ne (by omega)
theorem bK(n:Nat)(l:List Int):(l.flatMap bf).all (aS n)=true:=by
 rw[List.all_flatMap,List.all_eq_true]
 intro r _;rfl
theorem yS(l:List Report)(i:Nat)(q:Int×Int):List.take ((ar l i q).length*1) (List.drop 0 ((ar l i q).flatMap bf))++List.take (1*1) (List.drop 0 [.int .i64 (i:Int)])=(ar l i q ++ [(i:Int)]).flatMap bf:=eL cI _ _ rfl
set_option maxHeartbeats 8000000 in
theorem Al(w h:Int)(l:List Report)(m:aO)(now:Int){H:Heap}{L:Nat}(hL:H.length=L){id0:Nat}{own:Bool}{z:Nat}(hid:H[id0]?=some (.cells own z (l.flatMap aq))) :
  ap prog F.wg [.int .i64 w,.int .i64 h,.slice (some ⟨id0,0,some 2⟩) l.length l.length,bj m,.int .i64 now] H []
   (Is (.tuple #[chV 1 L (ah w h l m now).1,.slice (some ⟨L+1,0,some 1⟩) (ah w h l m now).2.1.length (ah w h l m now).2.1.length,.int .i64 (ah w h l m now).2.2]) (H ++ [.cells true 8 ((ah w h l m now).1.cells.flatMap cellC),.cells true 1 ((ah w h l m now).2.1.flatMap bf)])):=by
 subst hL
 refine vk (fun i => .tuple #[chV 1 i (ah w h l m now).1,.slice (some ⟨i+1,0,some 1⟩) (ah w h l m now).2.1.length (ah w h l m now).2.1.length,.int .i64 (ah w h l m now).2.2]) (css:=[l.flatMap aq]) (new:=[.cells true 8 ((ah w h l m now).1.cells.flatMap cellC),.cells true 1 ((ah w h l m now).2.1.flatMap bf)]) (Eq.mpr (AS w h l m now) ?_) ⟨bX 0 l,trivial⟩ ⟨⟨_,_,rfl,bE 0 _⟩,⟨_,_,rfl,bK 0 _⟩,trivial⟩ rfl rfl (fun j=>by simp[rn,cG]) (ids:=[id0]) ⟨⟨_,_,hid⟩,trivial⟩ rfl
 unfold yG
 refine ⟨fun h0 =>?_,fun h0=>⟨trivial,fun H' hl _ =>?_,trivial,fun H' _ _=>kO m H',by rw[show (bl w h now != 0)=true from bne_iff_ne.2 h0],by rw[show (bl w h now != 0)=true from bne_iff_ne.2 h0],dT (eE (eD1 h0) h0)⟩⟩
 ·refine ⟨trivial,fun H' hl _ =>?_,trivial,fun H' _ _=>kO m H',jJ rfl (aJ (fun h1=>⟨by rw[show (bG m != 0)=true from bne_iff_ne.2 h1],dT (eE (eD2 h0 h1) h1)⟩) (fun h1=>aH (fun q=>dT (eE (eD3 h0 h1 (by omega)) (by decide))) (fun q =>?_)))⟩
  ·have:=sy w h now hl
   rw[gT h0]at this
   exact this
  have AC:l.length<=400:=by omega
  have e4:=eD4 (l:=l) h0 h1 (by omega)
  have hm:=f5.1 h1
  obtain ⟨sw,sh,swh,st⟩:=dz.1 h0
  have hb:=oM sw sh
  have I0:MbI 7 1 bf (ar l 0) (Mb.new (Int×Int) 1):=MbI.new 7 1 bf
  refine ⟨rfl,⟨Nat.zero_le _,Nat.zero_le _,rfl,I0⟩,?_,fun _=>rfl,?_⟩
  ·dsimp only
   repeat' first|exact MbI.wkM I0 rfl|(exact MbI.wkA I0 (by rfl) rfl)|exact bY _ _|exact bE _ _|exact bK _ _|exact trivial|exact rfl|exact aw _|refine av ?_|refine aA ?_ ?_|exact aG|exact aL _ _ _ (.inl rfl)|(exact bw (by omega))|refine aE ?_|refine aD ?_|refine aQ ?_ ?_ ?_|refine aP ?_ ?_ ?_|refine toMax ?_|refine toMin ?_|refine ⟨rfl,?_⟩|refine ⟨trivial,?_⟩|(refine aH (fun h =>?_) (fun h =>?_))|(refine aJ (fun h =>?_) (fun h =>?_))|(refine aI (fun h =>?_) (fun h =>?_))|refine aC ?_|(refine ⟨aB (by omega),?_⟩)|(refine And.intro (by omega) ?_)|apply And.intro|(exact iEq (by omega))|(exact aB (by omega))
  rintro ⟨i,T⟩ ⟨hi,hA,hu,I⟩
  dsimp only at hi hA hu I ⊢
  refine aH (fun k =>?_) (fun k =>?_)
  ·have hlt:i<l.length:=by omega
   have stop:∀{e:Int},ek w h l now i=e->¬ e=0->ah w h l m now=(dv,[],e):=fun {e} h1 h2=>eE (e4.trans ((mG hu (by rw[h1];exact h2) hlt).trans h1)) h2
   refine ⟨by omega,dG hlt,trivial,fun H' _ _=>zd _ H',aJ (fun g1=>dT (stop (dE1 g1) g1)) (fun g1 =>?_)⟩
   refine ⟨⟨⟨.inl rfl,by omega⟩,by omega,Nat.zero_le _⟩,rfl,rfl,⟨Nat.zero_le _,fun k hk=>absurd hk (Nat.not_lt_zero k)⟩,?_,fun _=>rfl,?_⟩
   ·repeat' first|exact trivial|exact rfl|exact aw _|refine av ?_|refine aA ?_ ?_|exact aG|exact aL _ _ _ (.inl rfl)|(exact bw (by omega))|refine aE ?_|refine aD ?_|refine aQ ?_ ?_ ?_|refine aP ?_ ?_ ?_|refine toMax ?_|refine toMin ?_|refine ⟨rfl,?_⟩|refine ⟨trivial,?_⟩|(refine aH (fun h =>?_) (fun h =>?_))|(refine aJ (fun h =>?_) (fun h =>?_))|(refine aI (fun h =>?_) (fun h =>?_))|refine aC ?_|(refine ⟨aB (by omega),?_⟩)|(refine And.intro (by omega) ?_)|apply And.intro|(exact iEq (by omega))|(exact aB (by omega))
   rintro y ⟨hy,hno⟩
   refine aH (fun k2 =>?_) (fun k2 =>?_)
   ·refine ⟨by omega,dG (by omega),aI (fun hq=>⟨by rw[decide_eq_true (by omega)],dT (stop (dE2 g1 ⟨y,by omega,hq⟩) (by decide))⟩) (fun hq =>?_)⟩
    refine ⟨aB (by omega),y+1,⟨by omega,fun k hk =>?_⟩,by omega,rfl,?_⟩
    ·rcases Nat.lt_or_ge k y with h3|h3
     ·exact hno k h3
     ·obtain rfl:k=y:=by omega
      exact hq
    ·repeat' first|exact trivial|exact rfl|exact aw _|refine av ?_|refine aA ?_ ?_|exact aG|exact aL _ _ _ (.inl rfl)|(exact bw (by omega))|refine aE ?_|refine aD ?_|refine aQ ?_ ?_ ?_|refine aP ?_ ?_ ?_|refine toMax ?_|refine toMin ?_|refine ⟨rfl,?_⟩|refine ⟨trivial,?_⟩|(refine aH (fun h =>?_) (fun h =>?_))|(refine aJ (fun h =>?_) (fun h =>?_))|(refine aI (fun h =>?_) (fun h =>?_))|refine aC ?_|(refine ⟨aB (by omega),?_⟩)|(refine And.intro (by omega) ?_)|apply And.intro|(exact iEq (by omega))|(exact aB (by omega))
   obtain rfl:y=i:=by omega
   have g2:¬ ∃k,k<y/\(l.getD k ad).id=(l.getD y ad).id:=fun ⟨k,h,e⟩=>hno k h e
   refine aH (fun g3=>dT (stop (dE3 g1 g2 (.inl g3)) (by decide))) (fun g3=>aH (fun g4=>dT (stop (dE3 g1 g2 (.inr g4)) (by decide))) (fun g4=>aH (fun g5=>dT (stop (dE4 g1 g2 (by omega) g5) (by decide))) (fun g5 =>?_)))
   have g34:¬ ((l.getD y ad).x ≥ w∨(l.getD y ad).y ≥ h):=by omega
   have hp:=I.pos
   have hal:=eH l (kxy (l.getD y ad)) y
   have hnl:=gK l y (kxy (l.getD y ad))
   have hll:=gL (ar l y (kxy (l.getD y ad))).length (T.ks (kxy (l.getD y ad))) T.ms
   generalize hK:kxy (l.getD y ad)=K at *
   have hKv:(.agg #[.int .i64 (l.getD y ad).x,.int .i64 (l.getD y ad).y]:Value)=kXY K:=by rw[<- hK];rfl
   rw[hKv]
   refine ⟨fun hin =>?_,fun hin =>?_⟩
   ·have hlen:0<(ar l y K).length:=gJ ((I.has K).symm.trans hin)
    have hset:∀v:Value,List.set (bL kXY id T.A) (ct K T.A) (kXY K,v)=bL kXY id (bT K v T.A):=fun v=>qS (key:=kXY) (val:=id) K v T.A hin
    have hget:(bL kXY id T.A)[ct K T.A]?=some (kXY K,cV (ar l y K).length 7 (T.ks K)):=by
     rw[<- I.vl K (.chan none) hlen];exact qT kXY id K (.chan none) T.A hin
    rw[hset]
    refine ⟨⟨hget,I.m0,bF cI _,fun _=>I.rw K hlen⟩,(vR kZ K _ rfl false _).trans (by rw[jH,if_pos rfl];rfl),aI (fun g6=>dT (stop (dE5 g1 g2 g34 (by omega) (by rw[hK];omega)) (by decide))) (fun g6 =>?_)⟩
    have g7:ek w h l now y=0:=dE6 g1 g2 g34 (by omega) (by
     rw[hK]
     intro g8
     have h12:=rl hu K
     omega)
    have hrow:=yS l y K
    have I2:=I.put K (ar l y K ++ [(y:Int)]) (by simp) tq hrow
    have hns:=nu l y
    rw[hK]at hns
    have hl2:(ar l y K ++ [(y:Int)]).length=(ar l y K).length+1:=by rw[aX];rfl
    rw[hns,hl2]at I2
    refine ⟨(yz kZ wa K _ rfl _).trans (by rw[jH,if_pos rfl,p5,qE];rfl),⟨by omega,by decide,⟨Nat.le_refl _,by rw[bF cI];omega⟩,⟨Nat.le_refl _,Nat.le_refl 1⟩,rfl⟩,rfl,(wF (dP kXY id K _ T.A) _).trans (congrArg some (dO kXY id K _ _ T.A)),⟨dP kXY id K _ T.A,.inr (Nat.succ_pos _),(nD _ _ _).trans I.m0,by decide,by rw[hrow,bF cI,hl2],by rw[hll];omega⟩,aB (by omega),(y+1,_),⟨by show y+1<=_;omega,Nat.le_trans (lF _ _ _) (Nat.succ_le_succ hA),fg hu g7,I2⟩,by show _-(y+1)<_;omega,rfl,?_⟩
    dsimp only
    repeat' first|exact MbI.wkM I2 rfl|(exact MbI.wkA I2 (by rfl) (by rw[hll];exact dO kXY id K _ _ T.A))|exact bY _ _|exact bE _ _|exact bK _ _|exact trivial|exact rfl|exact aw _|refine av ?_|refine aA ?_ ?_|exact aG|exact aL _ _ _ (.inl rfl)|(exact bw (by omega))|refine aE ?_|refine aD ?_|refine aQ ?_ ?_ ?_|refine aP ?_ ?_ ?_|refine toMax ?_|refine toMin ?_|refine ⟨rfl,?_⟩|refine ⟨trivial,?_⟩|(refine aH (fun h =>?_) (fun h =>?_))|(refine aJ (fun h =>?_) (fun h =>?_))|(refine aI (fun h =>?_) (fun h =>?_))|refine aC ?_|(refine ⟨aB (by omega),?_⟩)|(refine And.intro (by omega) ?_)|apply And.intro|(exact iEq (by omega))|(exact aB (by omega))
   ·have sD:cJ K T.A=false:=by cases e:cJ K T.A with
     |false=>rfl
     |true=>exact absurd e hin
    have hz0:(ar l y K).length=0:=by
     have:=vJ ((I.has K).symm.trans sD)
     omega
    have hnil:ar l y K=[]:=List.length_eq_zero_iff.1 hz0
    have g7:ek w h l now y=0:=dE6 g1 g2 g34 (by omega) (by rw[hK];omega)
    have hrow:([.int .i64 (y:Int)]:List Value)=(ar l y K ++ [(y:Int)]).flatMap bf:=by rw[hnil];rfl
    have I2:=I.put K (ar l y K ++ [(y:Int)]) (by simp) tq hrow
    have hns:=nu l y
    rw[hK]at hns
    have hl2:(ar l y K ++ [(y:Int)]).length=1:=by rw[hnil];rfl
    rw[hns,hl2,hz0]at I2
    refine ⟨(vR kZ K _ rfl false T.A).trans (by rw[jI K _ _ sD];rfl),(yz kZ wa K _ rfl T.A).trans (by rw[jI K _ _ sD];rfl),(wF (dP kXY id K _ T.A) _).trans (congrArg some (dO kXY id K _ _ T.A)),⟨dP kXY id K _ T.A,.inr Nat.one_pos,I.m0,by decide,rfl,by omega⟩,aB (by omega),(y+1,_),⟨by show y+1<=_;omega,Nat.le_trans (lF _ _ _) (Nat.succ_le_succ hA),fg hu g7,I2⟩,by show _-(y+1)<_;omega,rfl,?_⟩
    dsimp only
    repeat' first|exact MbI.wkM I2 rfl|(exact MbI.wkA I2 (by rfl) (dO kXY id K _ _ T.A))|exact bY _ _|exact bE _ _|exact bK _ _|exact trivial|exact rfl|exact aw _|refine av ?_|refine aA ?_ ?_|exact aG|exact aL _ _ _ (.inl rfl)|(exact bw (by omega))|refine aE ?_|refine aD ?_|refine aQ ?_ ?_ ?_|refine aP ?_ ?_ ?_|refine toMax ?_|refine toMin ?_|refine ⟨rfl,?_⟩|refine ⟨trivial,?_⟩|(refine aH (fun h =>?_) (fun h =>?_))|(refine aJ (fun h =>?_) (fun h =>?_))|(refine aI (fun h =>?_) (fun h =>?_))|refine aC ?_|(refine ⟨aB (by omega),?_⟩)|(refine And.intro (by omega) ?_)|apply And.intro|(exact iEq (by omega))|(exact aB (by omega))
  obtain rfl:i=l.length:=by omega
  have hr:=pq (e4.trans hu)
  have hz:=dX hu
  have h12:=rl hu
  have S0:kR l T [] T.ms:=⟨List.nodup_nil,fun e h=>(by cases h),I.m0,I.fx,fun e he _=>I.rw _ (ic I he).2⟩
  refine ⟨rfl,S0,?_,fun _=>rfl,?_⟩
  ·repeat' first|exact wC I.fx rfl|(exact congrArg (fun q=>some (ae.cells true 8 (List.flatMap cellC q))) (wP w h l m now T.A).symm)|exact bY _ _|exact bE _ _|exact bK _ _|exact trivial|exact rfl|exact aw _|refine av ?_|refine aA ?_ ?_|exact aG|exact aL _ _ _ (.inl rfl)|(exact bw (by omega))|refine aE ?_|refine aD ?_|refine aQ ?_ ?_ ?_|refine aP ?_ ?_ ?_|refine toMax ?_|refine toMin ?_|refine ⟨rfl,?_⟩|refine ⟨trivial,?_⟩|(refine aH (fun h =>?_) (fun h =>?_))|(refine aJ (fun h =>?_) (fun h =>?_))|(refine aI (fun h =>?_) (fun h =>?_))|refine aC ?_|(refine ⟨aB (by omega),?_⟩)|(refine And.intro (by omega) ?_)|apply And.intro|(exact iEq (by omega))|(exact aB (by omega))
  rintro ⟨seen,ms⟩ S
  dsimp only at S ⊢
  have hsn:=nw T.A.length seen S.nd S.lt
  have hls:=nE l m now T.A seen
  have hlb:(bc l m now T.A seen).length<=160000:=Nat.le_trans hls (Nat.mul_le_mul (show seen.length<=400 by omega) AC)
  refine ⟨rfl,fun e he hne =>?_,fun hall =>?_⟩
  ·have he:e<T.A.length:=by rw[mI]at he;exact he
   obtain ⟨c1,c2⟩:=ic I he
   have S2:=S.more I he hne
   have hq:=fun k (hk:k<(atN l l.length (af T.A e)).length)=>gb hk
   have hnl:=gK l l.length (af T.A e)
   have htl:=gy l m now (af T.A e)
   have hrw:=S.rw e he hne
   have Ap:=rU l m now T.A seen e
   have hcs:=fun hx hy=>rb (w:=w) (h:=h) (l:=l) (m:=m) (now:=now) (A:=T.A) (seen:=seen) (e:=e) hx hy
   have hal:=vI l m now (af T.A e) (y:=(ar l l.length (af T.A e)).length) (by omega)
   have A6:=fun k hk=>us (l:=l) (m:=m) (now:=now) (q:=af T.A e) (k:=k) hk
   have hol:=fun y=>vH l m now (af T.A e) y
   have Bd:=h12 (af T.A e)
   have hng:=fun k hk=>lK (l:=l) (i:=l.length) (q:=af T.A e) (k:=k) hk
   have htg:=fun k hk=>pM (l:=l) (m:=m) (now:=now) (q:=af T.A e) (k:=k) hk
   have hent:i5 (bL kXY id T.A) (seen ++ [e])=some (.tuple #[kXY (af T.A e),cV (ar l l.length (af T.A e)).length 7 (T.ks (af T.A e))]):=by
    rw[xP ((0,0),.chan none) he,List.getD_eq_getElem?_getD,c1];rfl
   refine ⟨rfl,hent,⟨rfl,S.m0,bF cI _,fun _=>hrw⟩,?_⟩
   generalize hK:af T.A e=K at *
   obtain ⟨kx,ky⟩:=K
   have hpos:0<(atN l l.length (kx,ky)).length:=by omega
   obtain ⟨j1,j2⟩:=hq 0 hpos
   obtain ⟨ok0,o1,o2,_⟩:=dOk (hz _ j1)
   have hxy:0<=kx/\kx<w/\0<=ky/\ky<h:=by
    have e1:(l.getD ((atN l l.length (kx,ky)).getD 0 0) ad).x=kx:=congrArg Prod.fst j2
    have e2:(l.getD ((atN l l.length (kx,ky)).getD 0 0) ad).y=ky:=congrArg Prod.snd j2
    obtain ⟨⟨_,_,_,b1,b2,_⟩,_⟩:=ok0
    omega
   have hpb:=lH (w:=w) (h:=h) ⟨hxy.1,hxy.2.1⟩ ⟨hxy.2.2.1,hxy.2.2.2⟩
   have hyw:0<=ky*w:=Int.mul_nonneg hxy.2.2.1 (by omega)
   have hcs:=hcs ⟨hxy.1,hxy.2.1⟩ ⟨hxy.2.2.1,hxy.2.2.2⟩
   dsimp only
   refine ⟨rfl,Nat.zero_le _,?_,fun _=>rfl,?_⟩
   ·repeat' first|exact bY _ _|exact bE _ _|exact bK _ _|exact trivial|exact rfl|exact aw _|refine av ?_|refine aA ?_ ?_|exact aG|exact aL _ _ _ (.inl rfl)|(exact bw (by omega))|refine aE ?_|refine aD ?_|refine aQ ?_ ?_ ?_|refine aP ?_ ?_ ?_|refine toMax ?_|refine toMin ?_|refine ⟨rfl,?_⟩|refine ⟨trivial,?_⟩|(refine aH (fun h =>?_) (fun h =>?_))|(refine aJ (fun h =>?_) (fun h =>?_))|(refine aI (fun h =>?_) (fun h =>?_))|refine aC ?_|(refine ⟨aB (by omega),?_⟩)|(refine And.intro (by omega) ?_)|apply And.intro|(exact iEq (by omega))|(exact aB (by omega))
   intro x hx
   refine aH (fun k3 =>?_) (fun k3 =>?_)
   ·have hlx:x<(atN l l.length (kx,ky)).length:=by omega
    obtain ⟨V,n2⟩:=hq x hlx
    obtain ⟨okx,_,_,o3,_⟩:=dOk (hz _ V)
    refine ⟨by omega,wd (by omega) (by omega),?_⟩
    have A5:=htg x hlx
    rw[hng x hlx]
    generalize (atN l l.length (kx,ky)).getD x 0=j at *
    have b1:=hP (own:=true) i7 (jY (d:=ak) (show x<(ai l m now (kx,ky)).length by omega)) (congrArg cellC A5)
    rw[List.length_take,Nat.min_eq_left (by omega)]at b1
    have c3:(List.flatMap cellC (List.take x (ai l m now (kx,ky)))).length=x*8:=by rw[bF i7,List.length_take,Nat.min_eq_left (by omega)]
    refine ⟨by omega,dG V,trivial,fun H' _ _=>yZ _ m now okx hm (by omega) H',⟨by omega,by decide,⟨Nat.le_refl _,by omega⟩,⟨Nat.le_refl _,Nat.le_refl 8⟩,rfl⟩,rfl,aB (by omega),x+1,by omega,by omega,rfl,?_⟩
    repeat' first|exact b1|exact bY _ _|exact bE _ _|exact bK _ _|exact trivial|exact rfl|exact aw _|refine av ?_|refine aA ?_ ?_|exact aG|exact aL _ _ _ (.inl rfl)|(exact bw (by omega))|refine aE ?_|refine aD ?_|refine aQ ?_ ?_ ?_|refine aP ?_ ?_ ?_|refine toMax ?_|refine toMin ?_|refine ⟨rfl,?_⟩|refine ⟨trivial,?_⟩|(refine aH (fun h =>?_) (fun h =>?_))|(refine aJ (fun h =>?_) (fun h =>?_))|(refine aI (fun h =>?_) (fun h =>?_))|refine aC ?_|(refine ⟨aB (by omega),?_⟩)|(refine And.intro (by omega) ?_)|apply And.intro|(exact iEq (by omega))|(exact aB (by omega))
   ·obtain rfl:x=(ai l m now (kx,ky)).length:=by omega
    rw[List.take_length]
    have hwl:=cO (Int.toNat (w*h))
    have hcl:=i6 w h l m now T.A seen
    refine ⟨⟨rfl,rfl,trivial⟩,fun H' hl hd=>yY m (by omega) hl hd.1 hd.2.1,aB (by omega),aB (by omega),by omega,by rw[bF cL,hcl];omega,rfl,rfl,Nat.zero_le _,?_,fun _=>rfl,?_⟩
    ·rw[show bc l m now T.A seen++b8 l m now (kx,ky) 0=bc l m now T.A seen from List.append_nil _]
     repeat' first|exact bY _ _|exact bE _ _|exact bK _ _|exact trivial|exact rfl|exact aw _|refine av ?_|refine aA ?_ ?_|exact aG|exact aL _ _ _ (.inl rfl)|(exact bw (by omega))|refine aE ?_|refine aD ?_|refine aQ ?_ ?_ ?_|refine aP ?_ ?_ ?_|refine toMax ?_|refine toMin ?_|refine ⟨rfl,?_⟩|refine ⟨trivial,?_⟩|(refine aH (fun h =>?_) (fun h =>?_))|(refine aJ (fun h =>?_) (fun h =>?_))|(refine aI (fun h =>?_) (fun h =>?_))|refine aC ?_|(refine ⟨aB (by omega),?_⟩)|(refine And.intro (by omega) ?_)|apply And.intro|(exact iEq (by omega))|(exact aB (by omega))
    intro y hy
    have hoy:=hol y
    refine aH (fun k4 =>?_) (fun k4 =>?_)
    ·have hly:y<(atN l l.length (kx,ky)).length:=by omega
     have htr:(aR (ai l m now (kx,ky)) (ai l m now (kx,ky)).length).length=(ai l m now (kx,ky)).length:=cw _ _
     have ho:=A6 y hly
     refine ⟨by omega,wd (by omega) (by omega),by omega,wT (by omega) (by omega),aC (mD (fun hb =>?_) (fun hb =>?_))⟩
     ·rw[if_neg (by rw[hb];decide)]at ho
      refine ⟨aB (by omega),y+1,by omega,by omega,rfl,?_⟩
      rw[ho]
      repeat' first|exact bY _ _|exact bE _ _|exact bK _ _|exact trivial|exact rfl|exact aw _|refine av ?_|refine aA ?_ ?_|exact aG|exact aL _ _ _ (.inl rfl)|(exact bw (by omega))|refine aE ?_|refine aD ?_|refine aQ ?_ ?_ ?_|refine aP ?_ ?_ ?_|refine toMax ?_|refine toMin ?_|refine ⟨rfl,?_⟩|refine ⟨trivial,?_⟩|(refine aH (fun h =>?_) (fun h =>?_))|(refine aJ (fun h =>?_) (fun h =>?_))|(refine aI (fun h =>?_) (fun h =>?_))|refine aC ?_|(refine ⟨aB (by omega),?_⟩)|(refine And.intro (by omega) ?_)|apply And.intro|(exact iEq (by omega))|(exact aB (by omega))
     ·rw[if_pos hb]at ho
      have e3:bc l m now T.A seen++b8 l m now (kx,ky) (y+1)=bc l m now T.A seen++b8 l m now (kx,ky) y ++ [(ar l l.length (kx,ky)).getD y 0]:=by rw[ho,List.append_assoc]
      have b1:=hP (own:=true) cI e3 rfl
      have b2:(bc l m now T.A seen++b8 l m now (kx,ky) (y+1)).length=(bc l m now T.A seen++b8 l m now (kx,ky) y).length+1:=by rw[e3,aX];rfl
      have b3:(bc l m now T.A seen++b8 l m now (kx,ky) y).length<=170000:=by rw[aX];omega
      refine ⟨⟨by omega,by decide,⟨Nat.le_refl _,by rw[bF cI];omega⟩,⟨Nat.le_refl _,Nat.le_refl 1⟩,rfl⟩,rfl,aB (by omega),y+1,by omega,by omega,rfl,?_⟩
      repeat' first|(exact sZ b2 (by omega))|exact b1|exact bY _ _|exact bE _ _|exact bK _ _|exact trivial|exact rfl|exact aw _|refine av ?_|refine aA ?_ ?_|exact aG|exact aL _ _ _ (.inl rfl)|(exact bw (by omega))|refine aE ?_|refine aD ?_|refine aQ ?_ ?_ ?_|refine aP ?_ ?_ ?_|refine toMax ?_|refine toMin ?_|refine ⟨rfl,?_⟩|refine ⟨trivial,?_⟩|(refine aH (fun h =>?_) (fun h =>?_))|(refine aJ (fun h =>?_) (fun h =>?_))|(refine aI (fun h =>?_) (fun h =>?_))|refine aC ?_|(refine ⟨aB (by omega),?_⟩)|(refine And.intro (by omega) ?_)|apply And.intro|(exact iEq (by omega))|(exact aB (by omega))
    ·obtain rfl:y=(ar l l.length (kx,ky)).length:=by omega
     have es:bN ((cellsS w h l m now T.A seen).flatMap cellC) (0+Int.toNat (ky*w+kx)*8) (cellC (cellAt l m now (kx,ky)))=(cellsS w h l m now T.A (seen ++ [e])).flatMap cellC:=by
      rw[Nat.zero_add,jK cL _ _ (by rw[hcl];omega),hcs]
     have e5:bc l m now T.A seen++b8 l m now (kx,ky) (ar l l.length (kx,ky)).length=bc l m now T.A (seen ++ [e]):=by rw[Ap,hal]
     have hse:(seen ++ [e]).length<=T.A.length:=nw T.A.length _ S2.nd S2.lt
     rw[aX]at hse
     have hse:seen.length+1<=T.A.length:=hse
     refine ⟨(seen ++ [e],_),S2,by show _-(seen ++ [e]).length<_;rw[aX];show _-(seen.length+1)<_;omega,rfl,?_⟩
     dsimp only
     rw[e5]
     repeat' first|exact wC S2.fx rfl|(exact congrArg (fun q=>some (ae.cells true 8 q)) es)|exact bY _ _|exact bE _ _|exact bK _ _|exact trivial|exact rfl|exact aw _|refine av ?_|refine aA ?_ ?_|exact aG|exact aL _ _ _ (.inl rfl)|(exact bw (by omega))|refine aE ?_|refine aD ?_|refine aQ ?_ ?_ ?_|refine aP ?_ ?_ ?_|refine toMax ?_|refine toMin ?_|refine ⟨rfl,?_⟩|refine ⟨trivial,?_⟩|(refine aH (fun h =>?_) (fun h =>?_))|(refine aJ (fun h =>?_) (fun h =>?_))|(refine aI (fun h =>?_) (fun h =>?_))|refine aC ?_|(refine ⟨aB (by omega),?_⟩)|(refine And.intro (by omega) ?_)|apply And.intro|(exact iEq (by omega))|(exact aB (by omega))
  ·have hall:∀e,e<T.A.length->e∈seen:=fun e he=>hall e (by rw[mI];exact he)
   have hla:=vS (m:=m) (now:=now) I S.nd S.lt hall
   have hca:=uW (w:=w) (h:=h) (m:=m) (now:=now) I hall
   have hle:(bc l m now T.A seen).length=(bB l m now l.length).length:=by rw[<- hla];exact (List.length_mergeSort _).symm
   have hlt:=iS l m now l.length
   refine ⟨⟨rfl,trivial⟩,fun H' _ hd=>wc (by omega) hd.1,?_⟩
   rw[hr,hla,hca,hle,cO]
   dsimp only
   rw[show (jP w h l m now).length=Int.toNat (w*h) from cw _ _]
   repeat' first|exact bY _ _|exact bE _ _|exact bK _ _|exact trivial|exact rfl|exact aw _|refine av ?_|refine aA ?_ ?_|exact aG|exact aL _ _ _ (.inl rfl)|(exact bw (by omega))|refine aE ?_|refine aD ?_|refine aQ ?_ ?_ ?_|refine aP ?_ ?_ ?_|refine toMax ?_|refine toMin ?_|refine ⟨rfl,?_⟩|refine ⟨trivial,?_⟩|(refine aH (fun h =>?_) (fun h =>?_))|(refine aJ (fun h =>?_) (fun h =>?_))|(refine aI (fun h =>?_) (fun h =>?_))|refine aC ?_|(refine ⟨aB (by omega),?_⟩)|(refine And.intro (by omega) ?_)|apply And.intro|(exact iEq (by omega))|(exact aB (by omega))
 ·have:=sy w h now hl
  rw[gU h0]at this
  exact this
end
end Go.Proofs.YthcjliffpebjaaaGreat
namespace Go.Proofs.YthcjliffpebjaaaGreat
noncomputable section
theorem rJ(l:List Report)(i:Nat)(q:Int×Int):bt l (i+1) q=if kxy (l.getD i ad)=q then bt l i q ++ [l.getD i ad] else bt l i q:=by
 unfold bt
 rw[er]
 by_cases e:kxy (l.getD i ad)=q
 ·rw[if_pos e,if_pos e,List.map_append];rfl
 ·rw[if_neg e,if_neg e]
theorem fB(l:List Report)(i:Nat)(q:Int×Int):(bt l i q).length=(atN l i q).length:=List.length_map ..
theorem dV{l:List Report}{i:Nat}{q:Int×Int}{k:Nat}(h:k<(atN l i q).length):(bt l i q).getD k ad=l.getD ((atN l i q).getD k 0) ad:=by
 unfold bt
 rw[List.getD_eq_getElem?_getD,List.getElem?_map,List.getD_eq_getElem?_getD (l:=atN l i q),List.getElem?_eq_getElem h];rfl
theorem uc(l:List Report)(m:aO)(now:Int)(q:Int×Int):told (bt l l.length q) m now=ai l m now q:=by
 refine dD (d:=ak) (by rw[gy,fB]) fun k hk =>?_
 rw[fB]at hk
 rw[pM hk,dV hk]
theorem nT{f:Nat->Int}:∀{n:Nat},(∀i,i<n->f i=0)->ce f n=0
 |0,_=>rfl
 |n+1,h=>fg (nT fun i hi=>h i (by omega)) (h n (by omega))
theorem uq{w h now:Int}{l:List Report}{m:aO}(ha:dY m now=0)(hu:ce (ek w h l now) l.length=0)(q:Int×Int):d9 (bt l l.length q) m now=0:=by
 have hz:=dX hu
 have h12:=rl hu q
 rw[nU ha (by rw[fB];omega)]
 refine nT fun i hi =>?_
 rw[fB]at hi
 obtain ⟨a1,a2⟩:=gb hi
 obtain ⟨z1,z2⟩:=gb (l:=l) (q:=q) (show 0<(atN l l.length q).length by omega)
 obtain ⟨ok,_,_,o3,_,o5⟩:=dOk (hz _ a1)
 have p1:=jT hi
 refine wG ?_ ?_ ?_ ?_
 ·rw[dV hi];exact fu.2 ok
 ·rintro ⟨k,hk,e⟩
  have hk2:k<(atN l l.length q).length:=by omega
  obtain ⟨b1,b2⟩:=gb hk2
  have p2:=jT hk2
  rw[dV hi,dV hk2]at e
  generalize (atN l l.length q).getD k 0=b at *
  generalize (atN l l.length q).getD i 0=a at *
  rcases Nat.lt_trichotomy b a with g|g|g
  ·exact o5 ⟨b,g,e⟩
  ·subst g;omega
  ·exact (dOk (hz _ b1)).2.2.2.2.2 ⟨a,g,e.symm⟩
 ·rw[dV hi,dV (by omega)]
  have e1:=congrArg Prod.fst (a2.trans z2.symm)
  have e2:=congrArg Prod.snd (a2.trans z2.symm)
  exact fun g=>g.elim (fun g=>g e1) (fun g=>g e2)
 ·rw[dV hi];omega
section
variable {w h now:Int} {l:List Report} {m:aO}
abbrev inW(w h:Int)(l:List Report):Prop:=∀j,j<l.length->(0<=(l.getD j ad).x/\(l.getD j ad).x<w)/\(0<=(l.getD j ad).y/\(l.getD j ad).y<h)
theorem zf(hu:ce (ek w h l now) l.length=0):inW w h l:=fun j hj=>by
 obtain ⟨⟨⟨_,_,_,b1,b2,_⟩,_⟩,o1,o2,_⟩:=dOk (dX hu j hj)
 omega
theorem qf(w:Int)(l:List Report)(m:aO)(now p:Int):(eD w l m now p).length=l.length:=cw _ _
theorem jr(w:Int)(l:List Report)(m:aO)(now p:Int)(q:Int×Int)(k:Nat):(ir w l m now p q k).length=l.length:=cw _ _
theorem f9(w h:Int)(l:List Report)(m:aO)(now p:Int):(cu w h l m now p).length=Int.toNat (w*h):=cw _ _
theorem yU(hi:inW w h l):eD w l m now 0=List.replicate l.length false:=by
 refine dD (d:=false) List.length_replicate fun j hj =>?_
 obtain ⟨⟨a1,a2⟩,b1,b2⟩:=hi j hj
 have:=(lH ⟨a1,a2⟩ ⟨b1,b2⟩).1
 rw[List.getD_eq_getElem?_getD,List.getElem?_replicate,if_pos hj,decide_eq_false (by unfold plR;omega)];rfl
theorem yT(p:Int)(q:Int×Int):ir w l m now p q 0=eD w l m now p:=by
 unfold ir eD
 congr 1
 funext j
 congr 1
 exact decide_eq_decide.2 ⟨fun g=>g.elim id (fun g=>by rw[List.take_zero]at g;cases g),.inl⟩
theorem vK{x y:Int}(hx:0<=x/\x<w)(hy:0<=y/\y<h)(hi:inW w h l){k:Nat}(hk:(atN l l.length (x,y)).length<=k):ir w l m now (y*w+x) (x,y) k=eD w l m now (y*w+x+1):=by
 refine dD (d:=false) (qf ..) fun j hj =>?_
 show (eC _ _).getD j false=_
 rw[di hj]
 congr 1
 rw[List.take_of_length_le hk]
 refine decide_eq_decide.2 ?_
 obtain ⟨a,b⟩:=hi j hj
 have hb:=lH hx hy
 have e1:=kV hx hy (p:=Int.toNat (y*w+x))
 have e2:=kV a b (p:=Int.toNat (y*w+x))
 rw[ld]
 unfold plR
 constructor
 ·intro g
  by_cases q:(l.getD j ad).y*w+(l.getD j ad).x<y*w+x
  ·exact .inl q
  ·exact .inr ⟨hj,(e2.2 (by omega)).symm.trans (e1.2 (by omega))⟩
 ·rintro (g|⟨_,g⟩)
  ·omega
  ·have g1:(l.getD j ad).x=x:=congrArg Prod.fst g
   have g2:(l.getD j ad).y=y:=congrArg Prod.snd g
   rw[g1,g2];omega
theorem ut{p:Int}{q:Int×Int}{k:Nat}(hk:k<(atN l l.length q).length):(ir w l m now p q k).set ((atN l l.length q).getD k 0) (gh l m now ((atN l l.length q).getD k 0))=ir w l m now p q (k+1):=by
 have ha:=(gb hk).1
 refine Eq.symm (dD (d:=false) (by rw[List.length_set,jr]) fun j hj =>?_)
 rw[mB (by rw[jr];exact ha),jY (d:=0) hk]
 by_cases e:j=(atN l l.length q).getD k 0
 ·rw[if_pos e,decide_eq_true (.inr (List.mem_append_right _ (List.mem_singleton.2 e))),e];rfl
 ·rw[if_neg e]
  show (eC _ _).getD j false=_
  rw[di hj]
  congr 1
  refine decide_eq_decide.2 ⟨fun g=>g.imp id (List.mem_append_left _),fun g=>g.imp id fun g =>?_⟩
  rcases List.mem_append.1 g with g|g
  ·exact g
  ·exact absurd (List.mem_singleton.1 g) e
theorem vL(hi:inW w h l){p:Int}(hp:w*h<=p){j:Nat}(hj:j<l.length):(eD w l m now p).getD j false=gh l m now j:=by
 obtain ⟨a,b⟩:=hi j hj
 have:=(lH a b).2
 show (eC _ _).getD j false=_
 rw[di hj,decide_eq_true (by unfold plR;omega)];rfl
theorem wQ(w h:Int)(l:List Report)(m:aO)(now:Int):cu w h l m now 0=am (Int.toNat (w*h)):=by
 refine dD (d:=ak) List.length_replicate fun k hk =>?_
 rw[if_neg (by omega),am,List.getD_eq_getElem?_getD,List.getElem?_replicate,if_pos hk];rfl
theorem rc{x y:Int}(hx:0<=x/\x<w)(hy:0<=y/\y<h):(cu w h l m now (y*w+x)).set (Int.toNat (y*w+x)) (cellAt l m now (x,y))=cu w h l m now (y*w+x+1):=by
 have hb:=lH hx hy
 refine Eq.symm (dD (d:=ak) (by rw[List.length_set,f9]) fun p hp =>?_)
 rw[mB (by rw[f9];omega)]
 have key:=kV hx hy (p:=p)
 by_cases q:p=Int.toNat (y*w+x)
 ·rw[if_pos q,if_pos (by omega),key.2 (by omega)]
 ·rw[if_neg q]
  show (eC _ _).getD p ak=_
  rw[di hp]
  by_cases q2:(p:Int)<y*w+x
  ·rw[if_pos q2,if_pos (by omega)]
  ·rw[if_neg q2,if_neg (by omega)]
theorem sL{p:Int}(hp:w*h<=p):cu w h l m now p=jP w h l m now:=by
 refine dD (d:=ak) (cw _ _) fun k hk =>?_
 show (eC _ _).getD k ak=_
 rw[di hk,if_pos (by omega)]
theorem qo(l:List Report)(m:aO)(now:Int)(n:Nat):bB l m now (n+1)=if gh l m now n=true then bB l m now n ++ [(n:Int)] else bB l m now n:=by
 unfold bB
 rw[List.range_succ,List.filter_append,List.map_append]
 by_cases e:gh l m now n=true
 ·rw[if_pos e,List.filter_cons_of_pos e];rfl
 ·rw[if_neg e,List.filter_cons_of_neg e];simp
end
end
end Go.Proofs.YthcjliffpebjaaaGreat
namespace Go.Proofs.YthcjliffpebjaaaGreat
noncomputable section
attribute [local irreducible] vF
theorem r7(n:Nat):cW [.bool false] n=(List.replicate n false).flatMap aN:=by
 induction n with
 |zero=>rfl
 |succ n ih=>rw[List.replicate_succ,List.flatMap_cons,<- ih];rfl
theorem cE(n:Nat)(l:List Bool):(l.flatMap aN).all (aS n)=true:=by
 rw[List.all_flatMap,List.all_eq_true]
 intro r _;rfl
set_option maxHeartbeats 8000000 in
theorem za(w h:Int)(l:List Report)(m:aO)(now:Int){H:Heap}{L:Nat}(hL:H.length=L){id0:Nat}{own:Bool}{z:Nat}(hid:H[id0]?=some (.cells own z (l.flatMap aq))) :
  ap prog F.jm [.int .i64 w,.int .i64 h,.slice (some ⟨id0,0,some 2⟩) l.length l.length,bj m,.int .i64 now] H []
   (Is (.tuple #[chV 1 L (ah w h l m now).1,.slice (some ⟨L+1,0,some 1⟩) (ah w h l m now).2.1.length (ah w h l m now).2.1.length,.int .i64 (ah w h l m now).2.2]) (H ++ [.cells true 8 ((ah w h l m now).1.cells.flatMap cellC),.cells true 1 ((ah w h l m now).2.1.flatMap bf)])):=by
 subst hL
 refine vk (fun i => .tuple #[chV 1 i (ah w h l m now).1,.slice (some ⟨i+1,0,some 1⟩) (ah w h l m now).2.1.length (ah w h l m now).2.1.length,.int .i64 (ah w h l m now).2.2]) (css:=[l.flatMap aq]) (new:=[.cells true 8 ((ah w h l m now).1.cells.flatMap cellC),.cells true 1 ((ah w h l m now).2.1.flatMap bf)]) (Eq.mpr (zN w h l m now) ?_) ⟨bX 0 l,trivial⟩ ⟨⟨_,_,rfl,bE 0 _⟩,⟨_,_,rfl,bK 0 _⟩,trivial⟩ rfl rfl (fun j=>by simp[rn,cG]) (ids:=[id0]) ⟨⟨_,_,hid⟩,trivial⟩ rfl
 unfold w9
 refine ⟨fun h0 =>?_,fun h0=>⟨trivial,fun H' hl _ =>?_,by rw[show (bl w h now != 0)=true from bne_iff_ne.2 h0],dT (eE (eD1 h0) h0)⟩⟩
 ·refine ⟨trivial,fun H' hl _ =>?_,jJ rfl ⟨trivial,fun H' _ _=>oS m H',aJ (fun h1=>dT (eE (eD2 h0 h1) h1)) (fun h1=>aH (fun q=>dT (eE (eD3 h0 h1 (by omega)) (by decide))) (fun q =>?_))⟩⟩
  ·have:=oT w h now hl
   rw[gT h0]at this
   exact this
  have AC:l.length<=400:=by omega
  have e4:=eD4 (l:=l) h0 h1 (by omega)
  have hm:=f5.1 h1
  obtain ⟨sw,sh,swh,st⟩:=dz.1 h0
  have hb:=oM sw sh
  have ha:dY m now=0:=(jM h1).trans (if_pos st)
  refine ⟨rfl,⟨Nat.zero_le _,rfl⟩,?_,fun _=>rfl,?_⟩
  ·repeat' first|exact bY _ _|exact bE _ _|exact bK _ _|exact cE _ _|exact bX _ _|exact trivial|exact rfl|exact aw _|refine av ?_|refine aA ?_ ?_|exact aG|exact aL _ _ _ (.inl rfl)|(exact bw (by omega))|refine aE ?_|refine aD ?_|refine aQ ?_ ?_ ?_|refine aP ?_ ?_ ?_|refine toMax ?_|refine toMin ?_|refine ⟨rfl,?_⟩|refine ⟨trivial,?_⟩|(refine aH (fun h =>?_) (fun h =>?_))|(refine aJ (fun h =>?_) (fun h =>?_))|(refine aI (fun h =>?_) (fun h =>?_))|refine aC ?_|(refine ⟨aB (by omega),?_⟩)|(refine And.intro (by omega) ?_)|apply And.intro|(exact iEq (by omega))|(exact aB (by omega))
  rintro i ⟨hi,hu⟩
  refine aH (fun k =>?_) (fun k =>?_)
  ·have hlt:i<l.length:=by omega
   have stop:∀{e:Int},ek w h l now i=e->¬ e=0->ah w h l m now=(dv,[],e):=fun {e} h1 h2=>eE (e4.trans ((mG hu (by rw[h1];exact h2) hlt).trans h1)) h2
   refine ⟨by omega,dG hlt,trivial,fun H' _ _=>m6 _ H',aJ (fun g1=>dT (stop (dE1 g1) g1)) (fun g1 =>?_)⟩
   refine ⟨rfl,⟨Nat.zero_le _,fun k hk=>absurd hk (Nat.not_lt_zero k)⟩,?_,fun _=>rfl,?_⟩
   ·repeat' first|exact trivial|exact rfl|exact aw _|refine av ?_|refine aA ?_ ?_|exact aG|exact aL _ _ _ (.inl rfl)|(exact bw (by omega))|refine aE ?_|refine aD ?_|refine aQ ?_ ?_ ?_|refine aP ?_ ?_ ?_|refine toMax ?_|refine toMin ?_|refine ⟨rfl,?_⟩|refine ⟨trivial,?_⟩|(refine aH (fun h =>?_) (fun h =>?_))|(refine aJ (fun h =>?_) (fun h =>?_))|(refine aI (fun h =>?_) (fun h =>?_))|refine aC ?_|(refine ⟨aB (by omega),?_⟩)|(refine And.intro (by omega) ?_)|apply And.intro|(exact iEq (by omega))|(exact aB (by omega))
   rintro y ⟨hy,hno⟩
   have hal:=eH l (kxy (l.getD i ad)) y
   have hsu:=er l y (kxy (l.getD i ad))
   refine aH (fun k2 =>?_) (fun k2 =>?_)
   ·refine ⟨by omega,eQ (by omega) rfl,by omega,eQ (by omega) rfl,aI (fun hq=>dT (stop (dE2 g1 ⟨y,by omega,hq⟩) (by decide))) (fun hq=>⟨by omega,eQ (by omega) rfl,by omega,eQ (by omega) rfl,?_⟩)⟩
    have sD:∀k,k<y+1->(l.getD k ad).id≠(l.getD i ad).id:=fun k hk=>by
     rcases Nat.lt_or_ge k y with h3|h3
     ·exact hno k h3
     ·obtain rfl:k=y:=by omega
      exact hq
    refine aI (fun hx=>⟨by omega,eQ (by omega) rfl,by omega,eQ (by omega) rfl,aI (fun hy2 =>?_) (fun hy2 =>?_)⟩) (fun hx =>?_)
    ·rw[if_pos (by unfold kxy;rw[hx,hy2])]at hsu
     have hsl:(atN l (y+1) (kxy (l.getD i ad))).length=(atN l y (kxy (l.getD i ad))).length+1:=by rw[hsu,aX];rfl
     refine ⟨aB (by omega),aB (by omega),y+1,⟨by omega,sD⟩,by omega,rfl,?_⟩
     rw[hsl]
     repeat' first|exact trivial|exact rfl|exact aw _|refine av ?_|refine aA ?_ ?_|exact aG|exact aL _ _ _ (.inl rfl)|(exact bw (by omega))|refine aE ?_|refine aD ?_|refine aQ ?_ ?_ ?_|refine aP ?_ ?_ ?_|refine toMax ?_|refine toMin ?_|refine ⟨rfl,?_⟩|refine ⟨trivial,?_⟩|(refine aH (fun h =>?_) (fun h =>?_))|(refine aJ (fun h =>?_) (fun h =>?_))|(refine aI (fun h =>?_) (fun h =>?_))|refine aC ?_|(refine ⟨aB (by omega),?_⟩)|(refine And.intro (by omega) ?_)|apply And.intro|(exact iEq (by omega))|(exact aB (by omega))
    ·rw[if_neg (by unfold kxy;intro e;exact hy2 (congrArg Prod.snd e))]at hsu
     refine ⟨aB (by omega),y+1,⟨by omega,sD⟩,by omega,rfl,?_⟩
     rw[hsu]
     repeat' first|exact trivial|exact rfl|exact aw _|refine av ?_|refine aA ?_ ?_|exact aG|exact aL _ _ _ (.inl rfl)|(exact bw (by omega))|refine aE ?_|refine aD ?_|refine aQ ?_ ?_ ?_|refine aP ?_ ?_ ?_|refine toMax ?_|refine toMin ?_|refine ⟨rfl,?_⟩|refine ⟨trivial,?_⟩|(refine aH (fun h =>?_) (fun h =>?_))|(refine aJ (fun h =>?_) (fun h =>?_))|(refine aI (fun h =>?_) (fun h =>?_))|refine aC ?_|(refine ⟨aB (by omega),?_⟩)|(refine And.intro (by omega) ?_)|apply And.intro|(exact iEq (by omega))|(exact aB (by omega))
    ·rw[if_neg (by unfold kxy;intro e;exact hx (congrArg Prod.fst e))]at hsu
     refine ⟨aB (by omega),y+1,⟨by omega,sD⟩,by omega,rfl,?_⟩
     rw[hsu]
     repeat' first|exact trivial|exact rfl|exact aw _|refine av ?_|refine aA ?_ ?_|exact aG|exact aL _ _ _ (.inl rfl)|(exact bw (by omega))|refine aE ?_|refine aD ?_|refine aQ ?_ ?_ ?_|refine aP ?_ ?_ ?_|refine toMax ?_|refine toMin ?_|refine ⟨rfl,?_⟩|refine ⟨trivial,?_⟩|(refine aH (fun h =>?_) (fun h =>?_))|(refine aJ (fun h =>?_) (fun h =>?_))|(refine aI (fun h =>?_) (fun h =>?_))|refine aC ?_|(refine ⟨aB (by omega),?_⟩)|(refine And.intro (by omega) ?_)|apply And.intro|(exact iEq (by omega))|(exact aB (by omega))
   obtain rfl:y=i:=by omega
   have g2:¬ ∃k,k<y/\(l.getD k ad).id=(l.getD y ad).id:=fun ⟨k,h,e⟩=>hno k h e
   refine ⟨by omega,eQ (by omega) rfl,aH (fun g3=>dT (stop (dE3 g1 g2 (.inl g3)) (by decide))) (fun g3=>⟨by omega,eQ (by omega) rfl,aH (fun g4=>dT (stop (dE3 g1 g2 (.inr g4)) (by decide))) (fun g4=>⟨by omega,eQ (by omega) rfl,aH (fun g5=>dT (stop (dE4 g1 g2 (by omega) g5) (by decide))) (fun g5=>aH (fun g6=>dT (stop (dE5 g1 g2 (by omega) (by omega) (by omega)) (by decide))) (fun g6 =>?_))⟩)⟩)⟩
   have g7:ek w h l now y=0:=dE6 g1 g2 (by omega) (by omega) (by omega)
   refine ⟨aB (by omega),y+1,⟨by omega,fg hu g7⟩,by omega,rfl,?_⟩
   repeat' first|exact bY _ _|exact bE _ _|exact bK _ _|exact cE _ _|exact bX _ _|exact trivial|exact rfl|exact aw _|refine av ?_|refine aA ?_ ?_|exact aG|exact aL _ _ _ (.inl rfl)|(exact bw (by omega))|refine aE ?_|refine aD ?_|refine aQ ?_ ?_ ?_|refine aP ?_ ?_ ?_|refine toMax ?_|refine toMin ?_|refine ⟨rfl,?_⟩|refine ⟨trivial,?_⟩|(refine aH (fun h =>?_) (fun h =>?_))|(refine aJ (fun h =>?_) (fun h =>?_))|(refine aI (fun h =>?_) (fun h =>?_))|refine aC ?_|(refine ⟨aB (by omega),?_⟩)|(refine And.intro (by omega) ?_)|apply And.intro|(exact iEq (by omega))|(exact aB (by omega))
  obtain rfl:i=l.length:=by omega
  have hr:=pq (e4.trans hu)
  have hz:=dX hu
  have h12:=rl hu
  have hin:=zf hu
  have hwl:=cO (Int.toNat (w*h))
  refine ⟨by omega,rfl,by omega,?_,fun _=>rfl,?_⟩
  ·rw[show ((0:Nat):Int)*w=0 from Int.zero_mul _,wQ,yU hin,r7]
   repeat' first|exact bY _ _|exact bE _ _|exact bK _ _|exact cE _ _|exact bX _ _|exact trivial|exact rfl|exact aw _|refine av ?_|refine aA ?_ ?_|exact aG|exact aL _ _ _ (.inl rfl)|(exact bw (by omega))|refine aE ?_|refine aD ?_|refine aQ ?_ ?_ ?_|refine aP ?_ ?_ ?_|refine toMax ?_|refine toMin ?_|refine ⟨rfl,?_⟩|refine ⟨trivial,?_⟩|(refine aH (fun h =>?_) (fun h =>?_))|(refine aJ (fun h =>?_) (fun h =>?_))|(refine aI (fun h =>?_) (fun h =>?_))|refine aC ?_|(refine ⟨aB (by omega),?_⟩)|(refine And.intro (by omega) ?_)|apply And.intro|(exact iEq (by omega))|(exact aB (by omega))
  intro y hy
  refine aH (fun k3 =>?_) (fun k3 =>?_)
  ·have hyw:0<=(y:Int)*w:=Int.mul_nonneg (by omega) (by omega)
   refine ⟨rfl,by omega,?_,fun _=>rfl,?_⟩
   ·rw[show (y:Int)*w+((0:Nat):Int)=(y:Int)*w from Int.add_zero _]
    repeat' first|exact bY _ _|exact bE _ _|exact bK _ _|exact cE _ _|exact bX _ _|exact trivial|exact rfl|exact aw _|refine av ?_|refine aA ?_ ?_|exact aG|exact aL _ _ _ (.inl rfl)|(exact bw (by omega))|refine aE ?_|refine aD ?_|refine aQ ?_ ?_ ?_|refine aP ?_ ?_ ?_|refine toMax ?_|refine toMin ?_|refine ⟨rfl,?_⟩|refine ⟨trivial,?_⟩|(refine aH (fun h =>?_) (fun h =>?_))|(refine aJ (fun h =>?_) (fun h =>?_))|(refine aI (fun h =>?_) (fun h =>?_))|refine aC ?_|(refine ⟨aB (by omega),?_⟩)|(refine And.intro (by omega) ?_)|apply And.intro|(exact iEq (by omega))|(exact aB (by omega))
   intro x hx
   refine aH (fun k4 =>?_) (fun k4 =>?_)
   ·have hX:0<=(x:Int)/\(x:Int)<w:=by omega
    have hY:0<=(y:Int)/\(y:Int)<h:=by omega
    have hpb:=lH hX hY
    have Bd:=h12 ((x:Int),(y:Int))
    have hop:=uq ha hu ((x:Int),(y:Int))
    have hto:=uc l m now ((x:Int),(y:Int))
    have htl:=gy l m now ((x:Int),(y:Int))
    have htr:(aR (ai l m now ((x:Int),(y:Int))) (ai l m now ((x:Int),(y:Int))).length).length=(ai l m now ((x:Int),(y:Int))).length:=cw _ _
    have hcs:=rc (l:=l) (m:=m) (now:=now) hX hY
    have hna:=fun k hk=>vK (l:=l) (m:=m) (now:=now) hX hY hin (k:=k) hk
    have hns:=fun k hk=>ut (w:=w) (l:=l) (m:=m) (now:=now) (p:=(y:Int)*w+x) (q:=((x:Int),(y:Int))) (k:=k) hk
    have hof:=fun k hk=>kc (l:=l) (m:=m) (now:=now) (q:=((x:Int),(y:Int))) (k:=k) hk
    have hng:=fun k hk=>lK (l:=l) (i:=l.length) (q:=((x:Int),(y:Int))) (k:=k) hk
    have hag:=fun k hk=>gb (l:=l) (i:=l.length) (q:=((x:Int),(y:Int))) (k:=k) hk
    have hsu:=fun i=>rJ l i ((x:Int),(y:Int))
    have hss:=fun i=>er l i ((x:Int),(y:Int))
    have hal:=fun i=>eH l ((x:Int),(y:Int)) i
    have hrl:=fun i=>fB l i ((x:Int),(y:Int))
    have hnl:=fun i=>gK l i ((x:Int),(y:Int))
    have hr0:bt l 0 ((x:Int),(y:Int))=[]:=rfl
    have hn0:ar l 0 ((x:Int),(y:Int))=[]:=rfl
    have hxy:∀i,(l.getD i ad).x=x->(l.getD i ad).y=y->kxy (l.getD i ad)=((x:Int),(y:Int)):=fun i a b=>by unfold kxy;rw[a,b]
    have hnx:∀i,kxy (l.getD i ad)=((x:Int),(y:Int))->(l.getD i ad).x=x/\(l.getD i ad).y=y:=fun i e=>⟨congrArg Prod.fst e,congrArg Prod.snd e⟩
    have A7:∀i,ar l (i+1) ((x:Int),(y:Int))=if kxy (l.getD i ad)=((x:Int),(y:Int)) then ar l i ((x:Int),(y:Int)) ++ [(i:Int)] else ar l i ((x:Int),(y:Int)):=fun i=>by
     unfold ar
     rw[hss]
     by_cases e:kxy (l.getD i ad)=((x:Int),(y:Int))
     ·rw[if_pos e,if_pos e,List.map_append];rfl
     ·rw[if_neg e,if_neg e]
    generalize hQ:((x:Int),(y:Int))=Q at *
    refine ⟨rfl,Nat.zero_le _,?_,fun _=>rfl,?_⟩
    ·rw[hr0,hn0]
     repeat' first|exact aL _ _ _ (.inl rfl)|exact bY _ _|exact bE _ _|exact bK _ _|exact cE _ _|exact bX _ _|exact trivial|exact rfl|exact aw _|refine av ?_|refine aA ?_ ?_|exact aG|exact aL _ _ _ (.inl rfl)|(exact bw (by omega))|refine aE ?_|refine aD ?_|refine aQ ?_ ?_ ?_|refine aP ?_ ?_ ?_|refine toMax ?_|refine toMin ?_|refine ⟨rfl,?_⟩|refine ⟨trivial,?_⟩|(refine aH (fun h =>?_) (fun h =>?_))|(refine aJ (fun h =>?_) (fun h =>?_))|(refine aI (fun h =>?_) (fun h =>?_))|refine aC ?_|(refine ⟨aB (by omega),?_⟩)|(refine And.intro (by omega) ?_)|apply And.intro|(exact iEq (by omega))|(exact aB (by omega))
    intro i hi
    have Aq:=hrl i
    have Bj:=hnl i
    have Bk:=hal i
    have sC:=hsu i
    have mu:=A7 i
    refine aH (fun k5 =>?_) (fun k5 =>?_)
    ·refine ⟨by omega,eQ (by omega) rfl,aI (fun hx2=>⟨by omega,eQ (by omega) rfl,aI (fun hy2=>⟨by omega,dG (by omega),⟨by omega,by decide,⟨Nat.le_refl _,by rw[bF dx];omega⟩,⟨Nat.le_refl _,Nat.le_refl 14⟩,rfl⟩,rfl,⟨by omega,by decide,⟨Nat.le_refl _,by rw[bF cI];omega⟩,⟨Nat.le_refl _,Nat.le_refl 1⟩,rfl⟩,rfl,aB (by omega),i+1,by omega,by omega,rfl,?_⟩) (fun hy2=>⟨aB (by omega),i+1,by omega,by omega,rfl,?_⟩)⟩) (fun hx2=>⟨aB (by omega),i+1,by omega,by omega,rfl,?_⟩)⟩
     ·rw[if_pos (hxy i hx2 hy2)]at sC mu
      have b1:=hP (own:=true) dx sC rfl
      have b2:=hP (own:=true) cI mu rfl
      have c1:(bt l (i+1) Q).length=(bt l i Q).length+1:=by rw[sC,aX];rfl
      have c2:(ar l (i+1) Q).length=(ar l i Q).length+1:=by rw[mu,aX];rfl
      repeat' first|(exact sZ c1 (by omega))|(exact sZ c2 (by omega))|exact b1|exact b2|exact bY _ _|exact bE _ _|exact bK _ _|exact cE _ _|exact bX _ _|exact trivial|exact rfl|exact aw _|refine av ?_|refine aA ?_ ?_|exact aG|exact aL _ _ _ (.inl rfl)|(exact bw (by omega))|refine aE ?_|refine aD ?_|refine aQ ?_ ?_ ?_|refine aP ?_ ?_ ?_|refine toMax ?_|refine toMin ?_|refine ⟨rfl,?_⟩|refine ⟨trivial,?_⟩|(refine aH (fun h =>?_) (fun h =>?_))|(refine aJ (fun h =>?_) (fun h =>?_))|(refine aI (fun h =>?_) (fun h =>?_))|refine aC ?_|(refine ⟨aB (by omega),?_⟩)|(refine And.intro (by omega) ?_)|apply And.intro|(exact iEq (by omega))|(exact aB (by omega))
     ·rw[if_neg (fun e=>hy2 (hnx i e).2)]at sC mu
      rw[sC,mu]
      repeat' first|exact bY _ _|exact bE _ _|exact bK _ _|exact cE _ _|exact bX _ _|exact trivial|exact rfl|exact aw _|refine av ?_|refine aA ?_ ?_|exact aG|exact aL _ _ _ (.inl rfl)|(exact bw (by omega))|refine aE ?_|refine aD ?_|refine aQ ?_ ?_ ?_|refine aP ?_ ?_ ?_|refine toMax ?_|refine toMin ?_|refine ⟨rfl,?_⟩|refine ⟨trivial,?_⟩|(refine aH (fun h =>?_) (fun h =>?_))|(refine aJ (fun h =>?_) (fun h =>?_))|(refine aI (fun h =>?_) (fun h =>?_))|refine aC ?_|(refine ⟨aB (by omega),?_⟩)|(refine And.intro (by omega) ?_)|apply And.intro|(exact iEq (by omega))|(exact aB (by omega))
     ·rw[if_neg (fun e=>hx2 (hnx i e).1)]at sC mu
      rw[sC,mu]
      repeat' first|exact bY _ _|exact bE _ _|exact bK _ _|exact cE _ _|exact bX _ _|exact trivial|exact rfl|exact aw _|refine av ?_|refine aA ?_ ?_|exact aG|exact aL _ _ _ (.inl rfl)|(exact bw (by omega))|refine aE ?_|refine aD ?_|refine aQ ?_ ?_ ?_|refine aP ?_ ?_ ?_|refine toMax ?_|refine toMin ?_|refine ⟨rfl,?_⟩|refine ⟨trivial,?_⟩|(refine aH (fun h =>?_) (fun h =>?_))|(refine aJ (fun h =>?_) (fun h =>?_))|(refine aI (fun h =>?_) (fun h =>?_))|refine aC ?_|(refine ⟨aB (by omega),?_⟩)|(refine And.intro (by omega) ?_)|apply And.intro|(exact iEq (by omega))|(exact aB (by omega))
    obtain rfl:i=l.length:=by omega
    refine ⟨⟨rfl,trivial⟩,fun H' _ hd =>?_,aB (by omega),aB (by omega),by omega,by rw[bF cL,f9];omega,rfl,rfl,Nat.zero_le _,?_,fun _=>rfl,?_⟩
    ·have:=uz (bt l l.length Q) m now hop hd.1
     rw[hto,Aq,<- htl]at this
     rw[Aq,<- htl]
     exact this.wkA ⟨lj,aw _,aw _,trivial⟩
    ·rw[yT]
     repeat' first|exact (e6 _ 1 _).symm|exact bY _ _|exact bE _ _|exact bK _ _|exact cE _ _|exact bX _ _|exact trivial|exact rfl|exact aw _|refine av ?_|refine aA ?_ ?_|exact aG|exact aL _ _ _ (.inl rfl)|(exact bw (by omega))|refine aE ?_|refine aD ?_|refine aQ ?_ ?_ ?_|refine aP ?_ ?_ ?_|refine toMax ?_|refine toMin ?_|refine ⟨rfl,?_⟩|refine ⟨trivial,?_⟩|(refine aH (fun h =>?_) (fun h =>?_))|(refine aJ (fun h =>?_) (fun h =>?_))|(refine aI (fun h =>?_) (fun h =>?_))|refine aC ?_|(refine ⟨aB (by omega),?_⟩)|(refine And.intro (by omega) ?_)|apply And.intro|(exact iEq (by omega))|(exact aB (by omega))
    intro k hk
    refine aH (fun k6 =>?_) (fun k6 =>?_)
    ·have hlk:k<(atN l l.length Q).length:=by omega
     have ho:=hof k hlk
     have hn:=hns k hlk
     obtain ⟨a1,_⟩:=hag k hlk
     have e1:(ar l l.length Q).getD k 0=(((atN l l.length Q).getD k 0:Nat):Int):=hng k hlk
     refine ⟨by omega,wd (by omega) (by omega),by omega,lc (by omega),?_⟩
     rw[e1]
     generalize (atN l l.length Q).getD k 0=a at *
     have es:bN ((ir w l m now ((y:Int)*w+x) Q k).flatMap aN) (0+Int.toNat (a:Int)*1) [.bool (!((aR (ai l m now Q) (ai l m now Q).length).getD k false))]=(ir w l m now ((y:Int)*w+x) Q (k+1)).flatMap aN:=by
      rw[Nat.zero_add,Int.toNat_natCast,<- hn,ho]
      exact jK dA _ a (by rw[jr];omega) _
     refine ⟨by omega,by rw[bF dA,jr];omega,rfl,aB (by omega),k+1,by omega,by omega,rfl,?_⟩
     repeat' first|exact (e6 _ 1 _).symm|(exact congrArg (fun q=>some (ae.cells true 1 q)) es)|exact bY _ _|exact bE _ _|exact bK _ _|exact cE _ _|exact bX _ _|exact trivial|exact rfl|exact aw _|refine av ?_|refine aA ?_ ?_|exact aG|exact aL _ _ _ (.inl rfl)|(exact bw (by omega))|refine aE ?_|refine aD ?_|refine aQ ?_ ?_ ?_|refine aP ?_ ?_ ?_|refine toMax ?_|refine toMin ?_|refine ⟨rfl,?_⟩|refine ⟨trivial,?_⟩|(refine aH (fun h =>?_) (fun h =>?_))|(refine aJ (fun h =>?_) (fun h =>?_))|(refine aI (fun h =>?_) (fun h =>?_))|refine aC ?_|(refine ⟨aB (by omega),?_⟩)|(refine And.intro (by omega) ?_)|apply And.intro|(exact iEq (by omega))|(exact aB (by omega))
    ·have es:bN ((cu w h l m now ((y:Int)*w+x)).flatMap cellC) (0+Int.toNat ((y:Int)*w+x)*8) (cellC (cellAt l m now Q))=(cu w h l m now ((y:Int)*w+x+1)).flatMap cellC:=by
      rw[Nat.zero_add,jK cL _ _ (by rw[f9];omega),hcs]
     refine ⟨aB (by omega),x+1,by omega,by omega,rfl,?_⟩
     rw[show (y:Int)*w+((x+1:Nat):Int)=(y:Int)*w+x+1 by omega,hna k (by omega)]
     repeat' first|(exact congrArg (fun q=>some (ae.cells true 8 q)) es)|exact bY _ _|exact bE _ _|exact bK _ _|exact cE _ _|exact bX _ _|exact trivial|exact rfl|exact aw _|refine av ?_|refine aA ?_ ?_|exact aG|exact aL _ _ _ (.inl rfl)|(exact bw (by omega))|refine aE ?_|refine aD ?_|refine aQ ?_ ?_ ?_|refine aP ?_ ?_ ?_|refine toMax ?_|refine toMin ?_|refine ⟨rfl,?_⟩|refine ⟨trivial,?_⟩|(refine aH (fun h =>?_) (fun h =>?_))|(refine aJ (fun h =>?_) (fun h =>?_))|(refine aI (fun h =>?_) (fun h =>?_))|refine aC ?_|(refine ⟨aB (by omega),?_⟩)|(refine And.intro (by omega) ?_)|apply And.intro|(exact iEq (by omega))|(exact aB (by omega))
   ·have ex:(x:Int)=w:=by omega
    refine ⟨aB (by omega),y+1,by omega,by omega,rfl,?_⟩
    rw[ex,show ((y+1:Nat):Int)*w=(y:Int)*w+w by rw[Int.natCast_add,Int.add_mul];show _+1*w=_;rw[Int.one_mul]]
    repeat' first|exact bY _ _|exact bE _ _|exact bK _ _|exact cE _ _|exact bX _ _|exact trivial|exact rfl|exact aw _|refine av ?_|refine aA ?_ ?_|exact aG|exact aL _ _ _ (.inl rfl)|(exact bw (by omega))|refine aE ?_|refine aD ?_|refine aQ ?_ ?_ ?_|refine aP ?_ ?_ ?_|refine toMax ?_|refine toMin ?_|refine ⟨rfl,?_⟩|refine ⟨trivial,?_⟩|(refine aH (fun h =>?_) (fun h =>?_))|(refine aJ (fun h =>?_) (fun h =>?_))|(refine aI (fun h =>?_) (fun h =>?_))|refine aC ?_|(refine ⟨aB (by omega),?_⟩)|(refine And.intro (by omega) ?_)|apply And.intro|(exact iEq (by omega))|(exact aB (by omega))
  ·have ey:(y:Int)=h:=by omega
   have hp:w*h<=(y:Int)*w:=by rw[ey,Int.mul_comm];exact Int.le_refl _
   have hend:=fun j hj=>vL (m:=m) (now:=now) hin hp (j:=j) hj
   have hsu:=qo l m now
   have hll:=iS l m now
   refine ⟨rfl,Nat.zero_le _,?_,fun _=>rfl,?_⟩
   ·repeat' first|exact aL _ _ _ (.inl rfl)|exact bY _ _|exact bE _ _|exact bK _ _|exact cE _ _|exact bX _ _|exact trivial|exact rfl|exact aw _|refine av ?_|refine aA ?_ ?_|exact aG|exact aL _ _ _ (.inl rfl)|(exact bw (by omega))|refine aE ?_|refine aD ?_|refine aQ ?_ ?_ ?_|refine aP ?_ ?_ ?_|refine toMax ?_|refine toMin ?_|refine ⟨rfl,?_⟩|refine ⟨trivial,?_⟩|(refine aH (fun h =>?_) (fun h =>?_))|(refine aJ (fun h =>?_) (fun h =>?_))|(refine aI (fun h =>?_) (fun h =>?_))|refine aC ?_|(refine ⟨aB (by omega),?_⟩)|(refine And.intro (by omega) ?_)|apply And.intro|(exact iEq (by omega))|(exact aB (by omega))
   intro j hj
   have hsj:=hsu j
   have hlj:=hll j
   refine aH (fun k7 =>?_) (fun k7 =>?_)
   ·have hjl:j<l.length:=by omega
    refine ⟨by omega,wT (by rw[qf];omega) (by omega),?_⟩
    rw[hend j hjl]
    refine mD (fun hb2 =>?_) (fun hb2 =>?_)
    ·rw[if_pos hb2]at hsj
     have b1:=hP (own:=true) cI hsj rfl
     have c1:(bB l m now (j+1)).length=(bB l m now j).length+1:=by rw[hsj,aX];rfl
     refine ⟨⟨by omega,by decide,⟨Nat.le_refl _,by rw[bF cI];omega⟩,⟨Nat.le_refl _,Nat.le_refl 1⟩,rfl⟩,rfl,aB (by omega),j+1,by omega,by omega,rfl,?_⟩
     repeat' first|(exact sZ c1 (by omega))|exact b1|exact bY _ _|exact bE _ _|exact bK _ _|exact cE _ _|exact bX _ _|exact trivial|exact rfl|exact aw _|refine av ?_|refine aA ?_ ?_|exact aG|exact aL _ _ _ (.inl rfl)|(exact bw (by omega))|refine aE ?_|refine aD ?_|refine aQ ?_ ?_ ?_|refine aP ?_ ?_ ?_|refine toMax ?_|refine toMin ?_|refine ⟨rfl,?_⟩|refine ⟨trivial,?_⟩|(refine aH (fun h =>?_) (fun h =>?_))|(refine aJ (fun h =>?_) (fun h =>?_))|(refine aI (fun h =>?_) (fun h =>?_))|refine aC ?_|(refine ⟨aB (by omega),?_⟩)|(refine And.intro (by omega) ?_)|apply And.intro|(exact iEq (by omega))|(exact aB (by omega))
    ·rw[if_neg (by rw[hb2];decide)]at hsj
     refine ⟨aB (by omega),j+1,by omega,by omega,rfl,?_⟩
     rw[hsj]
     repeat' first|exact bY _ _|exact bE _ _|exact bK _ _|exact cE _ _|exact bX _ _|exact trivial|exact rfl|exact aw _|refine av ?_|refine aA ?_ ?_|exact aG|exact aL _ _ _ (.inl rfl)|(exact bw (by omega))|refine aE ?_|refine aD ?_|refine aQ ?_ ?_ ?_|refine aP ?_ ?_ ?_|refine toMax ?_|refine toMin ?_|refine ⟨rfl,?_⟩|refine ⟨trivial,?_⟩|(refine aH (fun h =>?_) (fun h =>?_))|(refine aJ (fun h =>?_) (fun h =>?_))|(refine aI (fun h =>?_) (fun h =>?_))|refine aC ?_|(refine ⟨aB (by omega),?_⟩)|(refine And.intro (by omega) ?_)|apply And.intro|(exact iEq (by omega))|(exact aB (by omega))
   ·obtain rfl:j=l.length:=by omega
    rw[hr,sL hp,cO]
    dsimp only
    rw[show (jP w h l m now).length=Int.toNat (w*h) from cw _ _]
    repeat' first|exact bY _ _|exact bE _ _|exact bK _ _|exact cE _ _|exact bX _ _|exact trivial|exact rfl|exact aw _|refine av ?_|refine aA ?_ ?_|exact aG|exact aL _ _ _ (.inl rfl)|(exact bw (by omega))|refine aE ?_|refine aD ?_|refine aQ ?_ ?_ ?_|refine aP ?_ ?_ ?_|refine toMax ?_|refine toMin ?_|refine ⟨rfl,?_⟩|refine ⟨trivial,?_⟩|(refine aH (fun h =>?_) (fun h =>?_))|(refine aJ (fun h =>?_) (fun h =>?_))|(refine aI (fun h =>?_) (fun h =>?_))|refine aC ?_|(refine ⟨aB (by omega),?_⟩)|(refine And.intro (by omega) ?_)|apply And.intro|(exact iEq (by omega))|(exact aB (by omega))
 ·have:=oT w h now hl
  rw[gU h0]at this
  exact this
def mQ(sp:Value)(a:List Int):Prop :=
 (((((((List.length a):Nat):Int):Int) != (((List.length a):Nat):Int))=true->(.bool false:Value)=sp)/\((((((List.length a):Nat):Int):Int) != (((List.length a):Nat):Int))=false->(true=true/\(0<=List.length a)/\(true=true/\((.int .i64 0:Value) = .int .i64 ((0:Nat):Int)/\wk (.slice (some ⟨1,0,some 2⟩) (List.length a) (List.length a):Value) (.slice (some ⟨1,0,some 2⟩) (List.length a) (List.length a):Value)/\wk (.slice (some ⟨0,0,some 2⟩) (List.length a) (List.length a):Value) (.slice (some ⟨0,0,some 2⟩) (List.length a) (List.length a):Value)/\True)/\(True)/\(True)/\True)/\(∀x0:Nat,true=true)/\∀x0:Nat,(x0<=List.length a)->(((decide ((x0:Int)<(((List.length a):Nat):Int)))=true->(((0:Int)<=(x0:Int)/\(x0:Int)<(((List.length a):Nat):Int))/\((List.flatMap bf a)[(0+Int.toNat (x0:Int)*1)]?=some (.int .i64 (List.getD a x0 0)))/\((0:Int)<=(x0:Int)/\(x0:Int)<(((List.length a):Nat):Int))/\((List.flatMap bf a)[(0+Int.toNat (x0:Int)*1)]?=some (.int .i64 (List.getD a x0 0)))/\((((List.getD a x0 0):Int) != (List.getD a x0 0))=true->(.bool false:Value)=sp)/\((((List.getD a x0 0):Int) != (List.getD a x0 0))=false->((.int .i64 (IntKind.wrap .i64 ((x0:Int)+1)):Value) = .int .i64 ((x0:Int)+1)/\∃x0':Nat,(x0'<=List.length a)/\(List.length a-x0')<(List.length a-x0)/\true=true/\((.int .i64 ((x0:Int)+1):Value) = .int .i64 ((x0':Nat):Int)/\wk (.slice (some ⟨1,0,some 2⟩) (List.length a) (List.length a):Value) (.slice (some ⟨1,0,some 2⟩) (List.length a) (List.length a):Value)/\wk (.slice (some ⟨0,0,some 2⟩) (List.length a) (List.length a):Value) (.slice (some ⟨0,0,some 2⟩) (List.length a) (List.length a):Value)/\True)/\(True)/\(True)/\True))))/\((decide ((x0:Int)<(((List.length a):Nat):Int)))=false->(.bool true:Value)=sp)))))
theorem sX(sp:Value)(a:List Int):vF prog msk (dm 0) 100000 true 40 true 23 [.slice (some ⟨0,0,some 2⟩) (List.length a) (List.length a),.slice (some ⟨1,0,some 2⟩) (List.length a) (List.length a)] (bi 0 [a.flatMap bf,a.flatMap bf]) (some [])
 (.go 5 (.fork (.auto) (.go 0 (.inv 3 (Nat) (0) [] [] (fun x0=>[(5,.int .i64 (x0:Int)),(1,.slice (some ⟨1,0,some 2⟩) (List.length a) (List.length a)),(0,.slice (some ⟨0,0,some 2⟩) (List.length a) (List.length a))]) (fun x0=>[]) (fun x0=>[]) (fun x0=>[]) (fun x0=>(x0<=List.length a)) (fun x0=>(List.length a-x0)) (fun x0 => .go 3 (.fork (.go 1 (.need (.val (.int .i64 (List.getD a x0 0)) (.go 1 (.need (.val (.int .i64 (List.getD a x0 0)) (.go 0 (.fork (.auto) (.go 1 (.slot 16 (.int .i64 ((x0:Int)+1)) (.go 0 (.again [])))))))))))) (.auto)))))))
 (fun v _ _=>v=sp)=mQ sp a:=by kernel_rfl
def rx(l:List Report):Prop :=
 (true=true/\(0<=List.length l)/\(true=true/\((.int .i64 0:Value) = .int .i64 ((0:Nat):Int)/\wk (.slice none 0 0:Value) (.slice (some ⟨0,0,some 1⟩) 0 0:Value)/\wk (.slice (some ⟨0,0,some 2⟩) (List.length l) (List.length l):Value) (.slice (some ⟨0,0,some 2⟩) (List.length l) (List.length l):Value)/\(.slice none 0 0:Value) = .slice none 0 0/\True)/\(True)/\(True/\True)/\True)/\(∀x0:Nat,true=true)/\∀x0:Nat,(x0<=List.length l)->(((decide ((x0:Int)<(((List.length l):Nat):Int)))=true->(((0:Int)<=(x0:Int)/\(x0:Int)<(((List.length l):Nat):Int))/\(dl 14 (List.flatMap aq l) (0+Int.toNat (x0:Int)*14)=some ((aW (List.getD l x0 ad))))/\((x0+1)*112<=2 ^ 44/\1≠0/\(x0<=x0/\0+x0*14<=List.length (List.flatMap aq (List.take x0 l)))/\(1<=1/\0+1*14<=List.length ([.int .i64 (List.getD l x0 ad).id,.int .i64 (List.getD l x0 ad).source,.int .i64 (List.getD l x0 ad).at_,.int .i64 (List.getD l x0 ad).x,.int .i64 (List.getD l x0 ad).y,.int .i64 (List.getD l x0 ad).has,.int .i64 (List.getD l x0 ad).cell.ag.lo,.int .i64 (List.getD l x0 ad).cell.ag.hi,.int .i64 (List.getD l x0 ad).cell.ac.lo,.int .i64 (List.getD l x0 ad).cell.ac.hi,.int .i64 (List.getD l x0 ad).cell.ab.lo,.int .i64 (List.getD l x0 ad).cell.ab.hi,.int .i64 (List.getD l x0 ad).cell.aa.lo,.int .i64 (List.getD l x0 ad).cell.aa.hi]:List Value))/\((List.take (1*14) (List.drop 0 ([.int .i64 (List.getD l x0 ad).id,.int .i64 (List.getD l x0 ad).source,.int .i64 (List.getD l x0 ad).at_,.int .i64 (List.getD l x0 ad).x,.int .i64 (List.getD l x0 ad).y,.int .i64 (List.getD l x0 ad).has,.int .i64 (List.getD l x0 ad).cell.ag.lo,.int .i64 (List.getD l x0 ad).cell.ag.hi,.int .i64 (List.getD l x0 ad).cell.ac.lo,.int .i64 (List.getD l x0 ad).cell.ac.hi,.int .i64 (List.getD l x0 ad).cell.ab.lo,.int .i64 (List.getD l x0 ad).cell.ab.hi,.int .i64 (List.getD l x0 ad).cell.aa.lo,.int .i64 (List.getD l x0 ad).cell.aa.hi]:List Value))):List Value).all (fun v=>bV v)=true)/\true=true/\((.int .i64 (IntKind.wrap .i64 ((x0:Int)+1)):Value) = .int .i64 ((x0:Int)+1)/\∃x0':Nat,(x0'<=List.length l)/\(List.length l-x0')<(List.length l-x0)/\true=true/\((.int .i64 ((x0:Int)+1):Value) = .int .i64 ((x0':Nat):Int)/\wk (.slice (some ⟨4,0,none⟩) (x0+1) (x0+1):Value) (.slice (some ⟨4,0,some 1⟩) x0' x0':Value)/\wk (.slice (some ⟨0,0,some 2⟩) (List.length l) (List.length l):Value) (.slice (some ⟨0,0,some 2⟩) (List.length l) (List.length l):Value)/\(.slice none 0 0:Value) = .slice none 0 0/\True)/\(True)/\((some (.cells true 14 ((List.take (x0*14) (List.drop 0 (List.flatMap aq (List.take x0 l))))++(List.take (1*14) (List.drop 0 ([.int .i64 (List.getD l x0 ad).id,.int .i64 (List.getD l x0 ad).source,.int .i64 (List.getD l x0 ad).at_,.int .i64 (List.getD l x0 ad).x,.int .i64 (List.getD l x0 ad).y,.int .i64 (List.getD l x0 ad).has,.int .i64 (List.getD l x0 ad).cell.ag.lo,.int .i64 (List.getD l x0 ad).cell.ag.hi,.int .i64 (List.getD l x0 ad).cell.ac.lo,.int .i64 (List.getD l x0 ad).cell.ac.hi,.int .i64 (List.getD l x0 ad).cell.ab.lo,.int .i64 (List.getD l x0 ad).cell.ab.hi,.int .i64 (List.getD l x0 ad).cell.aa.lo,.int .i64 (List.getD l x0 ad).cell.aa.hi]:List Value)))):ae)=some (.cells true 14 (List.flatMap aq (List.take x0' l)):ae)/\aj 1 (.cells true 14 (List.flatMap aq (List.take x0' l)):ae)=true)/\True)/\True)))/\((decide ((x0:Int)<(((List.length l):Nat):Int)))=false->(true=true/\wk (.slice (some ⟨1,0,some 1⟩) x0 x0:Value) (rn (sg 1 [(1,1)]) 3 (.slice (some ⟨1,0,some 1⟩) (List.length l) (List.length l):Value))/\(some (.cells true 14 (List.flatMap aq (List.take x0 l)):ae)=some (.cells true 14 (List.flatMap aq l):ae)/\aj 1 (.cells true 14 (List.flatMap aq l):ae)=true)/\True))))
theorem xg(l:List Report):vF prog msk (dm 0) 100000 true 40 true 10 [.slice (some ⟨0,0,some 2⟩) (List.length l) (List.length l)] (bi 0 [l.flatMap aq]) (some [])
 (.go 2 (.inv 3 (Nat) (0) [] [] (fun x0=>[(4,.int .i64 (x0:Int)),(3,.slice (some ⟨1,0,some 1⟩) x0 x0),(0,.slice (some ⟨0,0,some 2⟩) (List.length l) (List.length l)),(2,.slice none 0 0)]) (fun x0=>[]) (fun x0=>[(true,.cells true 14 (List.flatMap aq (List.take x0 l)))]) (fun x0=>[]) (fun x0=>(x0<=List.length l)) (fun x0=>(List.length l-x0)) (fun x0 => .go 3 (.fork (.go 1 (.need (.val ((aW (List.getD l x0 ad))) (.go 18 (.need (.go 2 (.slot 11 (.int .i64 ((x0:Int)+1)) (.go 0 (.again [(1,4)]))))))))) (.go 1 (.again [(1,1)]))))))
 (fD ((bi 0 [l.flatMap aq]):HT).n 3 (.slice (some ⟨1,0,some 1⟩) (List.length l) (List.length l)) [(true,.cells true 14 (List.flatMap aq l))])=rx l:=by kernel_rfl
def yD(sp:Value)(l:List Report):Prop :=
 (((some (.cells false 0 (List.flatMap aq l):ae)=some (.cells false 0 (List.flatMap aq l):ae))/\True)/\(∀H':Heap,H'.length=2->(H'[1]?=some (.cells false 0 (List.flatMap aq l):ae)/\True)->ap prog 10 [.slice (some ⟨1,0,some 2⟩) (List.length l) (List.length l)] H' [] (Is (.slice (some ⟨2,0,some 1⟩) (List.length l) (List.length l)) (H' ++ [(.cells true 14 (List.flatMap aq l):ae)])))/\((((((List.length l):Nat):Int):Int) != (((List.length l):Nat):Int))=true->(.bool false:Value)=sp)/\((((((List.length l):Nat):Int):Int) != (((List.length l):Nat):Int))=false->(true=true/\(0<=List.length l)/\(true=true/\((.int .i64 0:Value) = .int .i64 ((0:Nat):Int)/\wk (.slice (some ⟨0,0,some 2⟩) (List.length l) (List.length l):Value) (.slice (some ⟨0,0,some 2⟩) (List.length l) (List.length l):Value)/\wk (.slice (some ⟨2,0,some 1⟩) (List.length l) (List.length l):Value) (.slice (some ⟨2,0,some 1⟩) (List.length l) (List.length l):Value)/\True)/\(True)/\(True)/\True)/\(∀x1:Nat,true=true)/\∀x1:Nat,(x1<=List.length l)->(((decide ((x1:Int)<(((List.length l):Nat):Int)))=true->(((0:Int)<=(x1:Int)/\(x1:Int)<(((List.length l):Nat):Int))/\(dl 14 (List.flatMap aq l) (0+Int.toNat (x1:Int)*14)=some ((aW (List.getD l x1 ad))))/\((0:Int)<=(x1:Int)/\(x1:Int)<(((List.length l):Nat):Int))/\(dl 14 (List.flatMap aq l) (0+Int.toNat (x1:Int)*14)=some ((aW (List.getD l x1 ad))))/\((!((((List.getD l x1 ad).id:Int) == (List.getD l x1 ad).id)&&((((List.getD l x1 ad).source:Int) == (List.getD l x1 ad).source)&&((((List.getD l x1 ad).at_:Int) == (List.getD l x1 ad).at_)&&((((List.getD l x1 ad).x:Int) == (List.getD l x1 ad).x)&&((((List.getD l x1 ad).y:Int) == (List.getD l x1 ad).y)&&((((List.getD l x1 ad).has:Int) == (List.getD l x1 ad).has)&&((((((List.getD l x1 ad).cell.ag.lo:Int) == (List.getD l x1 ad).cell.ag.lo)&&((((List.getD l x1 ad).cell.ag.hi:Int) == (List.getD l x1 ad).cell.ag.hi)&&true))&&(((((List.getD l x1 ad).cell.ac.lo:Int) == (List.getD l x1 ad).cell.ac.lo)&&((((List.getD l x1 ad).cell.ac.hi:Int) == (List.getD l x1 ad).cell.ac.hi)&&true))&&(((((List.getD l x1 ad).cell.ab.lo:Int) == (List.getD l x1 ad).cell.ab.lo)&&((((List.getD l x1 ad).cell.ab.hi:Int) == (List.getD l x1 ad).cell.ab.hi)&&true))&&(((((List.getD l x1 ad).cell.aa.lo:Int) == (List.getD l x1 ad).cell.aa.lo)&&((((List.getD l x1 ad).cell.aa.hi:Int) == (List.getD l x1 ad).cell.aa.hi)&&true))&&true))))&&true))))))))=true->(.bool false:Value)=sp)/\((!((((List.getD l x1 ad).id:Int) == (List.getD l x1 ad).id)&&((((List.getD l x1 ad).source:Int) == (List.getD l x1 ad).source)&&((((List.getD l x1 ad).at_:Int) == (List.getD l x1 ad).at_)&&((((List.getD l x1 ad).x:Int) == (List.getD l x1 ad).x)&&((((List.getD l x1 ad).y:Int) == (List.getD l x1 ad).y)&&((((List.getD l x1 ad).has:Int) == (List.getD l x1 ad).has)&&((((((List.getD l x1 ad).cell.ag.lo:Int) == (List.getD l x1 ad).cell.ag.lo)&&((((List.getD l x1 ad).cell.ag.hi:Int) == (List.getD l x1 ad).cell.ag.hi)&&true))&&(((((List.getD l x1 ad).cell.ac.lo:Int) == (List.getD l x1 ad).cell.ac.lo)&&((((List.getD l x1 ad).cell.ac.hi:Int) == (List.getD l x1 ad).cell.ac.hi)&&true))&&(((((List.getD l x1 ad).cell.ab.lo:Int) == (List.getD l x1 ad).cell.ab.lo)&&((((List.getD l x1 ad).cell.ab.hi:Int) == (List.getD l x1 ad).cell.ab.hi)&&true))&&(((((List.getD l x1 ad).cell.aa.lo:Int) == (List.getD l x1 ad).cell.aa.lo)&&((((List.getD l x1 ad).cell.aa.hi:Int) == (List.getD l x1 ad).cell.aa.hi)&&true))&&true))))&&true))))))))=false->((.int .i64 (IntKind.wrap .i64 ((x1:Int)+1)):Value) = .int .i64 ((x1:Int)+1)/\∃x1':Nat,(x1'<=List.length l)/\(List.length l-x1')<(List.length l-x1)/\true=true/\((.int .i64 ((x1:Int)+1):Value) = .int .i64 ((x1':Nat):Int)/\wk (.slice (some ⟨0,0,some 2⟩) (List.length l) (List.length l):Value) (.slice (some ⟨0,0,some 2⟩) (List.length l) (List.length l):Value)/\wk (.slice (some ⟨2,0,some 1⟩) (List.length l) (List.length l):Value) (.slice (some ⟨2,0,some 1⟩) (List.length l) (List.length l):Value)/\True)/\(True)/\(True)/\True))))/\((decide ((x1:Int)<(((List.length l):Nat):Int)))=false->(.bool true:Value)=sp)))))
theorem AP(sp:Value)(l:List Report):vF prog msk (dm 0) 100000 true 40 true 26 [.slice (some ⟨0,0,some 2⟩) (List.length l) (List.length l),.slice (some ⟨1,0,some 2⟩) (List.length l) (List.length l)] (bi 0 [l.flatMap aq,l.flatMap aq]) (some [])
 (.go 1 (.ans [(1,.cells false 0 (List.flatMap aq l))] (.slice (some ⟨2,0,some 1⟩) (List.length l) (List.length l)) [.cells true 14 (List.flatMap aq l)] (.go 5 (.fork (.auto) (.go 0 (.inv 3 (Nat) (0) [] [] (fun x1=>[(6,.int .i64 (x1:Int)),(0,.slice (some ⟨0,0,some 2⟩) (List.length l) (List.length l)),(5,.slice (some ⟨2,0,some 1⟩) (List.length l) (List.length l))]) (fun x1=>[]) (fun x1=>[]) (fun x1=>[]) (fun x1=>(x1<=List.length l)) (fun x1=>(List.length l-x1)) (fun x1 => .go 3 (.fork (.go 1 (.need (.val ((aW (List.getD l x1 ad))) (.go 1 (.need (.val ((aW (List.getD l x1 ad))) (.go 0 (.fork (.auto) (.go 1 (.slot 19 (.int .i64 ((x1:Int)+1)) (.go 0 (.again [])))))))))))) (.auto)))))))))
 (fun v _ _=>v=sp)=yD sp l:=by kernel_rfl
end
end Go.Proofs.YthcjliffpebjaaaGreat
namespace Go.Proofs.YthcjliffpebjaaaGreat
noncomputable section
attribute [local irreducible] vF eV cB
theorem ym{H:Heap}{id id2:Nat}{own e9:Bool}{z z2:Nat}{cs ds:List Value}(h1:H[id]?=some (.cells own z cs))(h2:H[id2]?=some (.cells e9 z2 ds)):∀(k:Nat) (c:List Value),[cs,ds][k]?=some c->∃id' own z,[id,id2][k]?=some id'/\H[id']?=some (ae.cells own z c):=by
 intro k c h
 match k with
 |0=>cases h;exact ⟨id,own,z,rfl,h1⟩
 |1=>cases h;exact ⟨id2,e9,z2,rfl,h2⟩
theorem yn{cs ds:List Value}(h1:cs.all (aS 0)=true)(h2:ds.all (aS 0)=true):∀c ∈ [cs,ds],c.all (aS 0)=true:=by
 intro c hc
 rcases List.mem_cons.1 hc with rfl|hc
 ·exact h1
 ·rw[List.mem_singleton.1 hc];exact h2
theorem nY{xs:List Int}{k:Nat}(h:k<xs.length):(xs.flatMap bf)[0+Int.toNat ((k:Nat):Int)*1]?=some (.int .i64 (xs.getD k 0)):=by
 have:=wR h;rw[Int.toNat_natCast];exact this
theorem sx(a:List Int)(ha:a.length<=4294967296){H:Heap}{id id2:Nat}{own e9:Bool}{z z2:Nat}(hid:H[id]?=some (.cells own z (a.flatMap bf)))(wl:H[id2]?=some (.cells e9 z2 (a.flatMap bf))) :
  ap prog F.ip [.slice (some ⟨id,0,some 2⟩) a.length a.length,.slice (some ⟨id2,0,some 2⟩) a.length a.length] H [] (Is (.bool true) H):=by
 refine ua (Eq.mpr (sX _ a) ?_) (yn (vC 0 a) (vC 0 a)) rfl [id,id2] rfl (ym hid wl)
 unfold mQ
 refine jJ (by simp only[bne_self_eq_false,beq_self_eq_true,Bool.and_self,Bool.not_true,Bool.not_false]) ⟨rfl,Nat.zero_le _,?_,fun _=>rfl,?_⟩
 ·repeat' first|exact trivial|exact rfl|exact aw _|refine av ?_|refine aA ?_ ?_|exact aG|exact aL _ _ _ (.inl rfl)|(exact bw (by omega))|refine aE ?_|refine aD ?_|refine ⟨rfl,?_⟩|refine ⟨trivial,?_⟩|(refine aH (fun h =>?_) (fun h =>?_))|(refine aJ (fun h =>?_) (fun h =>?_))|(refine aI (fun h =>?_) (fun h =>?_))|refine aC ?_|(refine ⟨aB (by omega),?_⟩)|(refine And.intro (by omega) ?_)|apply And.intro|(exact iEq (by omega))|(exact aB (by omega))
 intro x hx
 refine aH (fun h =>?_) (fun h=>rfl)
 have hlt:x<a.length:=by omega
 refine ⟨by omega,nY hlt,by omega,nY hlt,jJ (by simp only[bne_self_eq_false,beq_self_eq_true,Bool.and_self,Bool.not_true,Bool.not_false]) ⟨aB (by omega),x+1,by omega,by omega,rfl,?_⟩⟩
 repeat' first|exact trivial|exact rfl|exact aw _|refine av ?_|refine aA ?_ ?_|exact aG|exact aL _ _ _ (.inl rfl)|(exact bw (by omega))|refine aE ?_|refine aD ?_|refine ⟨rfl,?_⟩|refine ⟨trivial,?_⟩|(refine aH (fun h =>?_) (fun h =>?_))|(refine aJ (fun h =>?_) (fun h =>?_))|(refine aI (fun h =>?_) (fun h =>?_))|refine aC ?_|(refine ⟨aB (by omega),?_⟩)|(refine And.intro (by omega) ?_)|apply And.intro|(exact iEq (by omega))|(exact aB (by omega))
theorem qC(l:List Report)(hl:l.length<=4294967296){H:Heap}{L:Nat}(hL:H.length=L){id:Nat}{own:Bool}{z:Nat}(hid:H[id]?=some (.cells own z (l.flatMap aq))) :
  ap prog F.gH [.slice (some ⟨id,0,some 2⟩) l.length l.length] H [] (Is (.slice (some ⟨L,0,some 1⟩) l.length l.length) (H ++ [.cells true 14 (l.flatMap aq)])):=by
 subst hL
 refine vj (fun i => .slice (some ⟨i,0,some 1⟩) l.length l.length) (Eq.mpr (xg l) ?_) (bX 0 l) (fun n=>bX n _) rfl (by simp[rn,bQ]) (fun j=>by simp[rn,cG]) hid rfl
 unfold rx
 refine ⟨rfl,Nat.zero_le _,?_,fun _=>rfl,?_⟩
 ·repeat' first|exact trivial|exact rfl|exact aw _|refine av ?_|refine aA ?_ ?_|exact aG|exact aL _ _ _ (.inl rfl)|(exact bw (by omega))|refine aE ?_|refine aD ?_|refine ⟨rfl,?_⟩|refine ⟨trivial,?_⟩|(refine aH (fun h =>?_) (fun h =>?_))|(refine aJ (fun h =>?_) (fun h =>?_))|(refine aI (fun h =>?_) (fun h =>?_))|refine aC ?_|(refine ⟨aB (by omega),?_⟩)|(refine And.intro (by omega) ?_)|apply And.intro|(exact iEq (by omega))|(exact aB (by omega))
 intro x hx
 have htl:(List.take x l).length=x:=by rw[List.length_take];omega
 refine aH (fun h =>?_) (fun h =>?_)
 ·have hlt:x<l.length:=by omega
  have hs:List.take (x+1) l=List.take x l ++ [l.getD x ad]:=by
   rw[List.take_add_one,List.getElem?_eq_getElem hlt,eK hlt];rfl
  refine ⟨by omega,dG hlt,⟨by omega,by decide,⟨Nat.le_refl _,by rw[bF dx,htl];omega⟩,⟨by decide,Nat.le_refl _⟩,rfl⟩,rfl,aB (by omega),x+1,by omega,by omega,rfl,?_⟩
  repeat' first|exact bX _ _|(exact congrArg (fun l=>some (ae.cells true 14 l)) (by rw[hs];exact eL dx _ (l.getD x ad) htl.symm))|exact trivial|exact rfl|exact aw _|refine av ?_|refine aA ?_ ?_|exact aG|exact aL _ _ _ (.inl rfl)|(exact bw (by omega))|refine aE ?_|refine aD ?_|refine ⟨rfl,?_⟩|refine ⟨trivial,?_⟩|(refine aH (fun h =>?_) (fun h =>?_))|(refine aJ (fun h =>?_) (fun h =>?_))|(refine aI (fun h =>?_) (fun h =>?_))|refine aC ?_|(refine ⟨aB (by omega),?_⟩)|(refine And.intro (by omega) ?_)|apply And.intro|(exact iEq (by omega))|(exact aB (by omega))
 ·obtain rfl:x=l.length:=by omega
  rw[List.take_length]
  repeat' first|exact bX _ _|exact trivial|exact rfl|exact aw _|refine av ?_|refine aA ?_ ?_|exact aG|exact aL _ _ _ (.inl rfl)|(exact bw (by omega))|refine aE ?_|refine aD ?_|refine ⟨rfl,?_⟩|refine ⟨trivial,?_⟩|(refine aH (fun h =>?_) (fun h =>?_))|(refine aJ (fun h =>?_) (fun h =>?_))|(refine aI (fun h =>?_) (fun h =>?_))|refine aC ?_|(refine ⟨aB (by omega),?_⟩)|(refine And.intro (by omega) ?_)|apply And.intro|(exact iEq (by omega))|(exact aB (by omega))
theorem Ai(l:List Report)(hl:l.length<=4294967296){H:Heap}{id id2:Nat}{own e9:Bool}{z z2:Nat}(hid:H[id]?=some (.cells own z (l.flatMap aq)))(wl:H[id2]?=some (.cells e9 z2 (l.flatMap aq))) :
  ap prog F.jn [.slice (some ⟨id,0,some 2⟩) l.length l.length,.slice (some ⟨id2,0,some 2⟩) l.length l.length] H [] (Is (.bool true) H):=by
 refine ua (Eq.mpr (AP _ l) ?_) (yn (bX 0 l) (bX 0 l)) rfl [id,id2] rfl (ym hid wl)
 unfold yD
 refine ⟨⟨rfl,trivial⟩,fun H' h1 hd=>qC l hl h1 hd.1,jJ (by simp only[bne_self_eq_false,beq_self_eq_true,Bool.and_self,Bool.not_true,Bool.not_false]) ⟨rfl,Nat.zero_le _,?_,fun _=>rfl,?_⟩⟩
 ·repeat' first|exact trivial|exact rfl|exact aw _|refine av ?_|refine aA ?_ ?_|exact aG|exact aL _ _ _ (.inl rfl)|(exact bw (by omega))|refine aE ?_|refine aD ?_|refine ⟨rfl,?_⟩|refine ⟨trivial,?_⟩|(refine aH (fun h =>?_) (fun h =>?_))|(refine aJ (fun h =>?_) (fun h =>?_))|(refine aI (fun h =>?_) (fun h =>?_))|refine aC ?_|(refine ⟨aB (by omega),?_⟩)|(refine And.intro (by omega) ?_)|apply And.intro|(exact iEq (by omega))|(exact aB (by omega))
 intro x hx
 refine aH (fun h =>?_) (fun h=>rfl)
 have hlt:x<l.length:=by omega
 refine ⟨by omega,dG hlt,by omega,dG hlt,jJ (by simp only[bne_self_eq_false,beq_self_eq_true,Bool.and_self,Bool.not_true,Bool.not_false]) ⟨aB (by omega),x+1,by omega,by omega,rfl,?_⟩⟩
 repeat' first|exact trivial|exact rfl|exact aw _|refine av ?_|refine aA ?_ ?_|exact aG|exact aL _ _ _ (.inl rfl)|(exact bw (by omega))|refine aE ?_|refine aD ?_|refine ⟨rfl,?_⟩|refine ⟨trivial,?_⟩|(refine aH (fun h =>?_) (fun h =>?_))|(refine aJ (fun h =>?_) (fun h =>?_))|(refine aI (fun h =>?_) (fun h =>?_))|refine aC ?_|(refine ⟨aB (by omega),?_⟩)|(refine And.intro (by omega) ?_)|apply And.intro|(exact iEq (by omega))|(exact aB (by omega))
end
end Go.Proofs.YthcjliffpebjaaaGreat
namespace Go.Proofs.YthcjliffpebjaaaGreat
noncomputable section
attribute [local irreducible] vF
theorem uQ(w h t:Int):(ax w h t).1.cells.length<=2 ^ 30:=by
 by_cases e:bl w h t=0
 ·obtain ⟨sw,sh,swh,st⟩:=dz.1 e
  rw[gT e]
  show (am (Int.toNat (w*h))).length<=_
  rw[cO];omega
 ·rw[gU e];exact Nat.zero_le _
theorem wD(w h:Int)(l:List Report)(m:aO)(now:Int):(ah w h l m now).1.cells.length<=2 ^ 30/\(ah w h l m now).2.1.length<=l.length:=by
 by_cases e:eF w h l m now=0
 ·have hs:bl w h now=0:=by
   rcases Classical.em (bl w h now=0) with g|g
   ·exact g
   ·rw[eD1 g]at e;exact e
  obtain ⟨sw,sh,swh,st⟩:=dz.1 hs
  rw[pq e]
  refine ⟨?_,iS ..⟩
  show (jP w h l m now).length<=_
  rw[show (jP w h l m now).length=Int.toNat (w*h) from cw _ _];omega
 ·rw[eE rfl e];exact ⟨Nat.zero_le _,Nat.zero_le _⟩
set_option maxHeartbeats 8000000 in
theorem uG(w h:Int)(l:List Report)(m:aO)(now:Int){H:Heap}{id:Nat}{own:Bool}{z:Nat}(hid:H[id]?=some (.cells own z (l.flatMap aq))) :
  ap prog F.gq [.int .i64 w,.int .i64 h,.slice (some ⟨id,0,some 2⟩) l.length l.length,bj m,.int .i64 now] H [] (Is (.bool true) H):=by
 refine ua (Eq.mpr (vb _ w h l m now) ?_) (rN (bX 0 l)) rfl [id] rfl (rM hid)
 unfold om
 have hb:=uQ w h now
 obtain ⟨hd1,hd2⟩:=wD w h l m now
 refine aH (fun h9=>aH (fun h12=>⟨trivial,fun H' _ _=>mi H',rfl⟩) (fun h12=>aH (fun h30=>⟨trivial,fun H' _ _=>mi H',rfl⟩) (fun h30 =>?_))) (fun h9=>aH (fun h30=>⟨trivial,fun H' _ _=>mi H',rfl⟩) (fun h30 =>?_))
 all_goals
  have hl:l.length<=450:=by omega
  refine ⟨rfl,Nat.zero_le _,?_,fun _=>rfl,?_⟩
  ·repeat' first|exact trivial|exact rfl|exact aw _|refine av ?_|refine aA ?_ ?_|exact aG|exact aL _ _ _ (.inl rfl)|(exact bw (by omega))|refine aE ?_|refine aD ?_|refine aQ ?_ ?_ ?_|refine aP ?_ ?_ ?_|refine toMax ?_|refine toMin ?_|refine ⟨rfl,?_⟩|refine ⟨trivial,?_⟩|(refine aH (fun h =>?_) (fun h =>?_))|(refine aJ (fun h =>?_) (fun h =>?_))|(refine aI (fun h =>?_) (fun h =>?_))|refine aC ?_|(refine ⟨aB (by omega),?_⟩)|(refine And.intro (by omega) ?_)|apply And.intro|(exact iEq (by omega))|(exact aB (by omega))
  intro i hi
  refine aH (fun k1 =>?_) (fun k1 =>?_)
  ·refine ⟨rfl,Nat.zero_le _,?_,fun _=>rfl,?_⟩
   ·repeat' first|exact trivial|exact rfl|exact aw _|refine av ?_|refine aA ?_ ?_|exact aG|exact aL _ _ _ (.inl rfl)|(exact bw (by omega))|refine aE ?_|refine aD ?_|refine aQ ?_ ?_ ?_|refine aP ?_ ?_ ?_|refine toMax ?_|refine toMin ?_|refine ⟨rfl,?_⟩|refine ⟨trivial,?_⟩|(refine aH (fun h =>?_) (fun h =>?_))|(refine aJ (fun h =>?_) (fun h =>?_))|(refine aI (fun h =>?_) (fun h =>?_))|refine aC ?_|(refine ⟨aB (by omega),?_⟩)|(refine And.intro (by omega) ?_)|apply And.intro|(exact iEq (by omega))|(exact aB (by omega))
   intro y hy
   have hal:=eH l (kxy (l.getD i ad)) y
   have hsu:=er l y (kxy (l.getD i ad))
   refine aH (fun k2 =>?_) (fun k2 =>?_)
   ·refine ⟨by omega,eQ (by omega) rfl,by omega,eQ (by omega) rfl,aI (fun hx=>⟨by omega,eQ (by omega) rfl,by omega,eQ (by omega) rfl,aI (fun hy2 =>?_) (fun hy2 =>?_)⟩) (fun hx =>?_)⟩
    ·rw[if_pos (by unfold kxy;rw[hx,hy2])]at hsu
     have hsl:(atN l (y+1) (kxy (l.getD i ad))).length=(atN l y (kxy (l.getD i ad))).length+1:=by rw[hsu,aX];rfl
     refine ⟨aB (by omega),aB (by omega),y+1,by omega,by omega,rfl,?_⟩
     rw[hsl]
     repeat' first|exact trivial|exact rfl|exact aw _|refine av ?_|refine aA ?_ ?_|exact aG|exact aL _ _ _ (.inl rfl)|(exact bw (by omega))|refine aE ?_|refine aD ?_|refine aQ ?_ ?_ ?_|refine aP ?_ ?_ ?_|refine toMax ?_|refine toMin ?_|refine ⟨rfl,?_⟩|refine ⟨trivial,?_⟩|(refine aH (fun h =>?_) (fun h =>?_))|(refine aJ (fun h =>?_) (fun h =>?_))|(refine aI (fun h =>?_) (fun h =>?_))|refine aC ?_|(refine ⟨aB (by omega),?_⟩)|(refine And.intro (by omega) ?_)|apply And.intro|(exact iEq (by omega))|(exact aB (by omega))
    ·rw[if_neg (by unfold kxy;intro e;exact hy2 (congrArg Prod.snd e))]at hsu
     refine ⟨aB (by omega),y+1,by omega,by omega,rfl,?_⟩
     rw[hsu]
     repeat' first|exact trivial|exact rfl|exact aw _|refine av ?_|refine aA ?_ ?_|exact aG|exact aL _ _ _ (.inl rfl)|(exact bw (by omega))|refine aE ?_|refine aD ?_|refine aQ ?_ ?_ ?_|refine aP ?_ ?_ ?_|refine toMax ?_|refine toMin ?_|refine ⟨rfl,?_⟩|refine ⟨trivial,?_⟩|(refine aH (fun h =>?_) (fun h =>?_))|(refine aJ (fun h =>?_) (fun h =>?_))|(refine aI (fun h =>?_) (fun h =>?_))|refine aC ?_|(refine ⟨aB (by omega),?_⟩)|(refine And.intro (by omega) ?_)|apply And.intro|(exact iEq (by omega))|(exact aB (by omega))
    ·rw[if_neg (by unfold kxy;intro e;exact hx (congrArg Prod.fst e))]at hsu
     refine ⟨aB (by omega),y+1,by omega,by omega,rfl,?_⟩
     rw[hsu]
     repeat' first|exact trivial|exact rfl|exact aw _|refine av ?_|refine aA ?_ ?_|exact aG|exact aL _ _ _ (.inl rfl)|(exact bw (by omega))|refine aE ?_|refine aD ?_|refine aQ ?_ ?_ ?_|refine aP ?_ ?_ ?_|refine toMax ?_|refine toMin ?_|refine ⟨rfl,?_⟩|refine ⟨trivial,?_⟩|(refine aH (fun h =>?_) (fun h =>?_))|(refine aJ (fun h =>?_) (fun h =>?_))|(refine aI (fun h =>?_) (fun h =>?_))|refine aC ?_|(refine ⟨aB (by omega),?_⟩)|(refine And.intro (by omega) ?_)|apply And.intro|(exact iEq (by omega))|(exact aB (by omega))
   ·refine aH (fun k3=>aH (fun k4=>⟨trivial,fun H' _ _=>mi H',rfl⟩) (fun k4 =>?_)) (fun k3 =>?_)
    ·refine ⟨aB (by omega),i+1,by omega,by omega,rfl,?_⟩
     repeat' first|exact trivial|exact rfl|exact aw _|refine av ?_|refine aA ?_ ?_|exact aG|exact aL _ _ _ (.inl rfl)|(exact bw (by omega))|refine aE ?_|refine aD ?_|refine aQ ?_ ?_ ?_|refine aP ?_ ?_ ?_|refine toMax ?_|refine toMin ?_|refine ⟨rfl,?_⟩|refine ⟨trivial,?_⟩|(refine aH (fun h =>?_) (fun h =>?_))|(refine aJ (fun h =>?_) (fun h =>?_))|(refine aI (fun h =>?_) (fun h =>?_))|refine aC ?_|(refine ⟨aB (by omega),?_⟩)|(refine And.intro (by omega) ?_)|apply And.intro|(exact iEq (by omega))|(exact aB (by omega))
    ·refine ⟨aB (by omega),i+1,by omega,by omega,rfl,?_⟩
     repeat' first|exact trivial|exact rfl|exact aw _|refine av ?_|refine aA ?_ ?_|exact aG|exact aL _ _ _ (.inl rfl)|(exact bw (by omega))|refine aE ?_|refine aD ?_|refine aQ ?_ ?_ ?_|refine aP ?_ ?_ ?_|refine toMax ?_|refine toMin ?_|refine ⟨rfl,?_⟩|refine ⟨trivial,?_⟩|(refine aH (fun h =>?_) (fun h =>?_))|(refine aJ (fun h =>?_) (fun h =>?_))|(refine aI (fun h =>?_) (fun h =>?_))|refine aC ?_|(refine ⟨aB (by omega),?_⟩)|(refine And.intro (by omega) ?_)|apply And.intro|(exact iEq (by omega))|(exact aB (by omega))
  refine ⟨trivial,fun H' hl _=>sy w h now hl,trivial,fun H' hl _=>oT w h now hl,⟨rfl,rfl,trivial⟩,fun H' _ hd=>(yv _ _ _ _ hb hd.1 hd.2.1).wkA ⟨aQR,aQR,trivial⟩,jJ (by simp only[bne_self_eq_false]) ⟨⟨rfl,trivial⟩,fun H' hl hd=>qC l (by omega) hl hd.1,⟨rfl,trivial⟩,fun H' hl hd=>(Al w h l m now hl hd.1).wkA ⟨aw _,aw _,lj,aw _,aw _,trivial⟩,⟨rfl,trivial⟩,fun H' hl hd=>za w h l m now hl hd.1,⟨rfl,rfl,trivial⟩,fun H' _ hd=>(yv _ _ _ _ hd1 hd.1 hd.2.1).wkA ⟨aQR,aQR,trivial⟩,⟨rfl,rfl,trivial⟩,fun H' _ hd=>(sx _ (by omega) hd.1 hd.2.1).wkA ⟨lj,lj,trivial⟩,AF (by simp only[beq_self_eq_true]) ⟨⟨rfl,rfl,trivial⟩,fun H' _ hd=>(Ai l (by omega) hd.1 hd.2.1).wkA ⟨lj,aw _,trivial⟩,trivial,fun H' _ _=>mi H',rfl⟩⟩⟩
end
end Go.Proofs.YthcjliffpebjaaaGreat
