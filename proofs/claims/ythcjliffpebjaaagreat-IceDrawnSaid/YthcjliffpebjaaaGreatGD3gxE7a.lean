/- What is to be shown of functions. Printed by a program. No condition. -/
import Derived.Test.YthcjliffpebjaaaGreatGA4xE1a
import Derived.Test.YthcjliffpebjaaaGreatD2g
import Derived.Test.YthcjliffpebjaaaGreatGP5xT0
open Go Go.K
set_option maxRecDepth 1000000
set_option maxHeartbeats 4000000
set_option linter.unusedVariables false
set_option linter.unusedSimpArgs false
namespace Go.Proofs.YthcjliffpebjaaaGreat
noncomputable section
attribute [local irreducible] vF
def zf(sp:Value)  : Prop :=
 (.tuple #[]:Value)=sp
theorem zn (sp : Value)  : vF prog msk (dm 0) 100000 true 40 true 128 [.slice (some ⟨0, 0, some 1⟩) 0 0] (bg 0 [[]]) (some [])
  (.auto)
  (fun v _ _ => v = sp) = zf sp  := by kernel_rfl
end
end Go.Proofs.YthcjliffpebjaaaGreat
namespace Go.Proofs.YthcjliffpebjaaaGreat
noncomputable section
attribute [local irreducible] vF
theorem vO{L:List Int}(h1:L.length<1000){H:Heap}{id:Nat}(ho:H[id]?=some (.cells true 1 (L.flatMap bf))) :
  ai prog F.fM [.slice (some ⟨id,0,some 1⟩) L.length L.length] H [id] (Is (.tuple #[]) (H.set id (.cells true 1 ((pU L).flatMap bf)))):=by
 by_cases h0:0<L.length
 ·exact yy h0 h1 ho
 ·obtain rfl:L=[]:=List.length_eq_zero_iff.1 (by omega)
  have hl:=(List.getElem?_eq_some_iff.1 ho).1
  have e:H.set id (.cells true 1 ((pU []).flatMap bf))=H:=by
   have:H[id] = .cells true 1 []:=by have:=ho;rw[List.getElem?_eq_getElem hl]at this;exact Option.some.inj this
   show H.set id (.cells true 1 ((List.mergeSort [] _).flatMap bf))=H
   rw[List.mergeSort_nil]
   show H.set id (.cells true 1 [])=H
   rw[<- this];exact List.set_getElem_self _
  rw[e]
  refine ai.mono (M:=[]) (zC (css:=[[]]) (v:=.tuple #[]) (Eq.mpr (zn _) rfl) ⟨rfl,trivial⟩ rfl (ids:=[id]) ⟨⟨_,_,ho⟩,trivial⟩ rfl) (fun _ h=>by cases h) (fun _ _ h=>h)
theorem jA{r:gQ×List Int×Int}{e:Int}(h:r=(cj,[],e)):true=true/\wk (.tuple #[.agg #[.int .i64 0,.int .i64 0,.int .i64 0,.slice none 0 0],.slice none 0 0,.int .i64 e]:Value) (rn (sg 1 []) 3 (.tuple #[chV 1 1 r.1,.slice (some ⟨2,0,some 1⟩) r.2.1.length r.2.1.length,.int .i64 r.2.2]))/\(True/\True/\True):=by
 subst h
 exact ⟨rfl,aN ⟨aL ⟨ar _,ar _,ar _,ba _ _ _ (.inl rfl),trivial⟩,ba _ _ _ (.inl rfl),ar _,trivial⟩,trivial,trivial,trivial⟩
section
variable {w h now:Int} {l:List Report} {m:aR}
theorem eD1(h0:¬ bp w h now=0):eC w h l m now=bp w h now:=if_neg h0
theorem eD2(h0:bp w h now=0)(h1:¬ bA m=0):eC w h l m now=bA m:=(if_pos h0).trans (if_neg h1)
theorem eD3(h0:bp w h now=0)(h1:bA m=0)(h2:400<l.length):eC w h l m now=2:=(if_pos h0).trans ((if_pos h1).trans (if_pos h2))
theorem eD4(h0:bp w h now=0)(h1:bA m=0)(h2:¬ 400<l.length):eC w h l m now=ca (ez w h l now) l.length:=(if_pos h0).trans ((if_pos h1).trans (if_neg h2))
theorem kT{e:Int}(h0:eC w h l m now=e)(h1:¬ e=0):aA w h l m now=(cj,[],e):=by
 subst h0;exact if_neg h1
theorem tF(h0:eC w h l m now=0):aA w h l m now=(⟨w,h,now,mA w h l m now⟩,ct l m now l.length,0):=if_pos h0
end
section
variable {w h now:Int} {l:List Report} {i:Nat}
theorem dE1(h1:¬ errReport (l.getD i af)=0):ez w h l now i=errReport (l.getD i af):=if_neg h1
theorem dE2(h1:errReport (l.getD i af)=0)(h2:∃k,k<i/\(l.getD k af).id=(l.getD i af).id):ez w h l now i=10:=(if_pos h1).trans (if_pos h2)
theorem dE3(h1:errReport (l.getD i af)=0)(h2:¬ ∃k,k<i/\(l.getD k af).id=(l.getD i af).id)(h3:(l.getD i af).x ≥ w∨(l.getD i af).y ≥ h):ez w h l now i=1:=(if_pos h1).trans ((if_neg h2).trans (if_pos h3))
theorem dE4(h1:errReport (l.getD i af)=0)(h2:¬ ∃k,k<i/\(l.getD k af).id=(l.getD i af).id)(h3:¬ ((l.getD i af).x ≥ w∨(l.getD i af).y ≥ h))(h4:(l.getD i af).at_ > now):ez w h l now i=12:=(if_pos h1).trans ((if_neg h2).trans ((if_neg h3).trans (if_pos h4)))
theorem dE5(h1:errReport (l.getD i af)=0)(h2:¬ ∃k,k<i/\(l.getD k af).id=(l.getD i af).id)(h3:¬ ((l.getD i af).x ≥ w∨(l.getD i af).y ≥ h))(h4:¬ (l.getD i af).at_ > now)(h5:12<=(atN l i (kxy (l.getD i af))).length):ez w h l now i=2:=(if_pos h1).trans ((if_neg h2).trans ((if_neg h3).trans ((if_neg h4).trans (if_pos h5))))
theorem dE6(h1:errReport (l.getD i af)=0)(h2:¬ ∃k,k<i/\(l.getD k af).id=(l.getD i af).id)(h3:¬ ((l.getD i af).x ≥ w∨(l.getD i af).y ≥ h))(h4:¬ (l.getD i af).at_ > now)(h5:¬ 12<=(atN l i (kxy (l.getD i af))).length):ez w h l now i=0:=(if_pos h1).trans ((if_neg h2).trans ((if_neg h3).trans ((if_neg h4).trans (if_neg h5))))
theorem dOk(h0:ez w h l now i=0):c7 (l.getD i af)/\(l.getD i af).x<w/\(l.getD i af).y<h/\(l.getD i af).at_<=now/\(atN l i (kxy (l.getD i af))).length<12/\¬ ∃k,k<i/\(l.getD k af).id=(l.getD i af).id:=by
 by_cases h1:errReport (l.getD i af)=0
 ·by_cases h2:∃k,k<i/\(l.getD k af).id=(l.getD i af).id
  ·rw[dE2 h1 h2]at h0;cases h0
  ·by_cases h3:(l.getD i af).x ≥ w∨(l.getD i af).y ≥ h
   ·rw[dE3 h1 h2 h3]at h0;cases h0
   ·by_cases h4:(l.getD i af).at_ > now
    ·rw[dE4 h1 h2 h3 h4]at h0;cases h0
    ·by_cases h5:12<=(atN l i (kxy (l.getD i af))).length
     ·rw[dE5 h1 h2 h3 h4 h5]at h0;cases h0
     ·exact ⟨iz.1 h1,by omega,by omega,by omega,by omega,h2⟩
 ·rw[dE1 h1]at h0;exact absurd h0 h1
end
theorem uK{f:Nat->Int}{n:Nat}(h:ca f (n+1)=0):ca f n=0:=by
 unfold ca at h
 split at h
 ·assumption
 ·rename_i a
  exact absurd h a
theorem rl{w h now:Int}{l:List Report}:∀{n:Nat},ca (ez w h l now) n=0->∀q,(atN l n q).length<=12
 |0,_,q=>Nat.zero_le _
 |n+1,h0,q=>by
  have hz:=iT h0
  have ih:=rl (n:=n) (uK h0) q
  rw[jC]
  by_cases e:kxy (l.getD n af)=q
  ·rw[if_pos e,bi]
   have:=(dOk (hz n (Nat.lt_succ_self n))).2.2.2.2.1
   rw[e]at this
   show _+1<=12
   omega
  ·rw[if_neg e];exact ih
theorem kQ:∀a b:Int×Int,b5 prog Op.maxDepth 54 (kXY a) (kXY b)=some (decide (a=b)):=by
 intro a b
 have h:b5 prog Op.maxDepth 54 (kXY a) (kXY b)=some ((a.1 == b.1)&&((a.2 == b.2)&&true)):=by kernel_rfl
 rw[h]
 congr 1
 obtain ⟨a1,a2⟩:=a
 obtain ⟨b1,b2⟩:=b
 simp only[Bool.and_true]
 by_cases e:(a1,a2)=(b1,b2)
 ·cases e;simp
 ·rw[decide_eq_false e]
  by_cases e1:a1=b1
  ·have e2:¬ a2=b2:=fun q=>e (by rw[e1,q])
   simp[e2]
  ·simp[e1]
theorem wz{a:List Bool}{k:Nat}(h:k<a.length){off:Nat}(ho:off=k):(a.flatMap bO)[off]?=some (.bool (a.getD k false)):=tL (n:=1) (c:=0) (fun _=>rfl) h (by omega) rfl
theorem qE{a:List Int}{k:Nat}(h:k<a.length){off:Nat}(ho:off=k):(a.flatMap bf)[off]?=some (.int .i64 (a.getD k 0)):=tL (n:=1) (c:=0) dw h (by omega) rfl
theorem tp(U:Nat->Option Nat)(x:Int):∀v∈bf x,rn U 2 v=v:=by
 intro v hv
 rw[List.mem_singleton.1 hv];rfl
theorem nq:∀(n:Nat) (s:List Nat),s.Nodup->(∀i∈s,i<n)->s.length<=n:=by
 intro n
 induction n with
 |zero=>intro s _ h;cases s with
  |nil=>exact Nat.le_refl _
  |cons a s=>exact absurd (h a (List.mem_cons_self ..)) (by omega)
 |succ n ih =>
  intro s hn hs
  by_cases hm:n∈s
  ·have h1:=ih (s.erase n) (hn.erase n) (fun i hi=>by
    have:=hs i (List.mem_of_mem_erase hi)
    have:i≠n:=fun e=>by rw[e]at hi;exact (List.Nodup.not_mem_erase hn) hi
    omega)
   rw[List.length_erase_of_mem hm]at h1
   omega
  ·exact Nat.le_succ_of_le (ih s hn (fun i hi=>by
    have:=hs i hi
    have:i≠n:=fun e=>hm (e ▸ hi)
    omega))
theorem vM(a:Int×Int):jm (kXY a) (kXY a)=true:=by simp[kXY,jm,lQ,lR]
theorem lu{κ β:Type}[DecidableEq κ](k:κ)(v:β):∀F:List (κ×β),(bP k v F).length<=F.length+1
 | [] =>Nat.le_refl _
 |e :: F=>by
  show (if e.1=k then (k,v) :: F else e :: bP k v F).length<=_
  split
  ·exact Nat.le_succ _
  ·exact Nat.succ_le_succ (lu k v F)
theorem nz(l:List Report)(m:aR)(now:Int)(A:List ((Int×Int)×Value)):∀seen:List Nat,(aZ l m now A seen).length<=seen.length*l.length
 | [] =>Nat.zero_le _
 |e :: s=>by
  have ih:=nz l m now A s
  unfold aZ at ih ⊢
  rw[List.flatMap_cons,bi,List.length_cons,Nat.succ_mul]
  have:(bW l m now (aa A e) l.length).length<=l.length:=by
   unfold bW
   rw[List.length_map]
   refine Nat.le_trans (List.length_filter_le _ _) ?_
   rw[List.length_take]
   exact Nat.min_le_left _ _
  omega
theorem vt(l:List Report)(m:aR)(now:Int)(q:Int×Int)(y:Nat):(bW l m now q y).length<=l.length:=by
 unfold bW
 rw[List.length_map]
 refine Nat.le_trans (List.length_filter_le _ _) ?_
 rw[List.length_take]
 exact Nat.le_trans (Nat.min_le_right _ _) (hY l q _)
theorem rU(l:List Report)(m:aR)(now:Int)(n:Nat):(ct l m now n).length<=n:=by
 unfold ct
 rw[List.length_map]
 exact Nat.le_trans (List.length_filter_le _ _) (by rw[List.length_range];exact Nat.le_refl _)
theorem kB.more{F:Nat}{l:List Report}{T:Mb (Int×Int)}{seen:List Nat}{ms:List Value}(I:MbI F 1 bf (ak l l.length) T)(S:kB l T seen ms){e:Nat}(he:e<T.A.length)(hn:e ∉ seen) :
  kB l T (seen ++ [e]) (aW (ak l l.length (aa T.A e)).length (T.ks (aa T.A e)) ms):=by
 refine ⟨List.nodup_append.2 ⟨S.nd,(by simp),fun a ha b hb e=>hn (by rw[List.mem_singleton.1 hb]at e;exact e ▸ ha)⟩,fun j hj =>?_,(ny _ _ _).trans S.m0,gy S.fx,fun e' he' hne =>?_⟩
 ·rcases List.mem_append.1 hj with h1|h1
  ·exact S.lt j h1
  ·rw[List.mem_singleton.1 h1];exact he
 ·have h1:e' ∉ seen:=fun q=>hne (List.mem_append_left _ q)
  have h2:e≠e':=fun q=>hne (List.mem_append_right _ (by rw[q];exact List.mem_singleton.2 rfl))
  have hd:=I.dj (aa T.A e) (aa T.A e') (fun q=>h2 (nH I.nd he he' q)) (hO I he).2 (hO I he').2
  rw[<- S.rw e' he' h1]
  cases hr:(ak l l.length (aa T.A e)).length with
  |zero=>rfl
  |succ r=>exact List.getElem?_set_ne (by omega)
theorem bL(n:Nat)(l:List Int):(l.flatMap bf).all (aE n)=true:=by
 rw[List.all_flatMap,List.all_eq_true]
 intro r _;rfl
theorem yn(l:List Report)(i:Nat)(q:Int×Int):List.take ((ak l i q).length*1) (List.drop 0 ((ak l i q).flatMap bf))++List.take (1*1) (List.drop 0 [.int .i64 (i:Int)])=(ak l i q ++ [(i:Int)]).flatMap bf:=fD dw _ _ rfl
set_option maxHeartbeats 8000000 in
theorem zQ(w h:Int)(l:List Report)(m:aR)(now:Int){H:Heap}{L:Nat}(hL:H.length=L){id0:Nat}{own:Bool}{z:Nat}(hid:H[id0]?=some (.cells own z (l.flatMap bu))) :
  ai prog F.vR [.int .i64 w,.int .i64 h,.slice (some ⟨id0,0,some 2⟩) l.length l.length,cn m,.int .i64 now] H []
   (Is (.tuple #[chV 1 L (aA w h l m now).1,.slice (some ⟨L+1,0,some 1⟩) (aA w h l m now).2.1.length (aA w h l m now).2.1.length,.int .i64 (aA w h l m now).2.2]) (H ++ [.cells true 8 ((aA w h l m now).1.cells.flatMap cellC),.cells true 1 ((aA w h l m now).2.1.flatMap bf)])):=by
 subst hL
 refine xP (fun i => .tuple #[chV 1 i (aA w h l m now).1,.slice (some ⟨i+1,0,some 1⟩) (aA w h l m now).2.1.length (aA w h l m now).2.1.length,.int .i64 (aA w h l m now).2.2]) (css:=[l.flatMap bu]) (new:=[.cells true 8 ((aA w h l m now).1.cells.flatMap cellC),.cells true 1 ((aA w h l m now).2.1.flatMap bf)]) (Eq.mpr (Ax w h l m now) ?_) ⟨eL 0 l,trivial⟩ ⟨⟨_,_,rfl,bx 0 _⟩,⟨_,_,rfl,bL 0 _⟩,trivial⟩ rfl rfl (fun j=>by simp[rn,cY]) (ids:=[id0]) ⟨⟨_,_,hid⟩,trivial⟩ rfl
 unfold yf
 refine ⟨fun h0 =>?_,fun h0=>⟨trivial,fun H' hl _ =>?_,trivial,fun H' _ _=>gA m H',by rw[show (bp w h now != 0)=true from bne_iff_ne.2 h0],by rw[show (bp w h now != 0)=true from bne_iff_ne.2 h0],jA (kT (eD1 h0) h0)⟩⟩
 ·refine ⟨trivial,fun H' hl _ =>?_,trivial,fun H' _ _=>gA m H',Ag rfl (aM (fun h1=>⟨by rw[show (bA m != 0)=true from bne_iff_ne.2 h1],jA (kT (eD2 h0 h1) h1)⟩) (fun h1=>aO (fun q=>jA (kT (eD3 h0 h1 (by omega)) (by decide))) (fun q =>?_)))⟩
  ·have:=su w h now hl
   rw[mr h0]at this
   exact this
  have AV:l.length<=400:=by omega
  have e4:=eD4 (l:=l) h0 h1 (by omega)
  have hm:=dL.1 h1
  obtain ⟨sw,sh,swh,st⟩:=dd.1 h0
  have hb:=vw sw sh
  have I0:MbI 7 1 bf (ak l 0) (Mb.new (Int×Int) 1):=MbI.new 7 1 bf
  refine ⟨rfl,⟨Nat.zero_le _,Nat.zero_le _,rfl,I0⟩,?_,fun _=>rfl,?_⟩
  ·dsimp only
   repeat' first|exact MbI.wkM I0 rfl|(exact MbI.wkA I0 (by rfl) rfl)|exact ei _ _|exact bx _ _|exact bL _ _|exact trivial|exact rfl|exact ar _|refine ay ?_|refine aB ?_ ?_|exact aP|exact ba _ _ _ (.inl rfl)|(exact bT (by omega))|refine aN ?_|refine aL ?_|refine aK ?_ ?_ ?_|refine aJ ?_ ?_ ?_|refine toMax ?_|refine toMin ?_|refine ⟨rfl,?_⟩|refine ⟨trivial,?_⟩|(refine aO (fun h =>?_) (fun h =>?_))|(refine aM (fun h =>?_) (fun h =>?_))|(refine aU (fun h =>?_) (fun h =>?_))|refine aD ?_|(refine ⟨aG (by omega),?_⟩)|(refine And.intro (by omega) ?_)|apply And.intro|(exact iEq (by omega))|(exact aG (by omega))
  rintro ⟨i,T⟩ ⟨hi,hA,hu,I⟩
  dsimp only at hi hA hu I ⊢
  refine aO (fun k =>?_) (fun k =>?_)
  ·have hlt:i<l.length:=by omega
   have stop:∀{e:Int},ez w h l now i=e->¬ e=0->aA w h l m now=(cj,[],e):=fun {e} h1 h2=>kT (e4.trans ((sE hu (by rw[h1];exact h2) hlt).trans h1)) h2
   refine ⟨by omega,oH hlt,trivial,fun H' _ _=>yA _ H',aM (fun g1=>jA (stop (dE1 g1) g1)) (fun g1 =>?_)⟩
   refine ⟨⟨⟨.inl rfl,by omega⟩,by omega,Nat.zero_le _⟩,rfl,rfl,⟨Nat.zero_le _,fun k hk=>absurd hk (Nat.not_lt_zero k)⟩,?_,fun _=>rfl,?_⟩
   ·repeat' first|exact trivial|exact rfl|exact ar _|refine ay ?_|refine aB ?_ ?_|exact aP|exact ba _ _ _ (.inl rfl)|(exact bT (by omega))|refine aN ?_|refine aL ?_|refine aK ?_ ?_ ?_|refine aJ ?_ ?_ ?_|refine toMax ?_|refine toMin ?_|refine ⟨rfl,?_⟩|refine ⟨trivial,?_⟩|(refine aO (fun h =>?_) (fun h =>?_))|(refine aM (fun h =>?_) (fun h =>?_))|(refine aU (fun h =>?_) (fun h =>?_))|refine aD ?_|(refine ⟨aG (by omega),?_⟩)|(refine And.intro (by omega) ?_)|apply And.intro|(exact iEq (by omega))|(exact aG (by omega))
   rintro y ⟨hy,hno⟩
   refine aO (fun k2 =>?_) (fun k2 =>?_)
   ·refine ⟨by omega,oH (by omega),aU (fun hq=>⟨by rw[decide_eq_true (by omega)],jA (stop (dE2 g1 ⟨y,by omega,hq⟩) (by decide))⟩) (fun hq =>?_)⟩
    refine ⟨aG (by omega),y+1,⟨by omega,fun k hk =>?_⟩,by omega,rfl,?_⟩
    ·rcases Nat.lt_or_ge k y with h3|h3
     ·exact hno k h3
     ·obtain rfl:k=y:=by omega
      exact hq
    ·repeat' first|exact trivial|exact rfl|exact ar _|refine ay ?_|refine aB ?_ ?_|exact aP|exact ba _ _ _ (.inl rfl)|(exact bT (by omega))|refine aN ?_|refine aL ?_|refine aK ?_ ?_ ?_|refine aJ ?_ ?_ ?_|refine toMax ?_|refine toMin ?_|refine ⟨rfl,?_⟩|refine ⟨trivial,?_⟩|(refine aO (fun h =>?_) (fun h =>?_))|(refine aM (fun h =>?_) (fun h =>?_))|(refine aU (fun h =>?_) (fun h =>?_))|refine aD ?_|(refine ⟨aG (by omega),?_⟩)|(refine And.intro (by omega) ?_)|apply And.intro|(exact iEq (by omega))|(exact aG (by omega))
   obtain rfl:y=i:=by omega
   have g2:¬ ∃k,k<y/\(l.getD k af).id=(l.getD y af).id:=fun ⟨k,h,e⟩=>hno k h e
   refine aO (fun g3=>jA (stop (dE3 g1 g2 (.inl g3)) (by decide))) (fun g3=>aO (fun g4=>jA (stop (dE3 g1 g2 (.inr g4)) (by decide))) (fun g4=>aO (fun g5=>jA (stop (dE4 g1 g2 (by omega) g5) (by decide))) (fun g5 =>?_)))
   have g34:¬ ((l.getD y af).x ≥ w∨(l.getD y af).y ≥ h):=by omega
   have hp:=I.pos
   have hal:=hY l (kxy (l.getD y af)) y
   have hnl:=jg l y (kxy (l.getD y af))
   have hll:=gx (ak l y (kxy (l.getD y af))).length (T.ks (kxy (l.getD y af))) T.ms
   generalize hK:kxy (l.getD y af)=K at *
   have hKv:(.agg #[.int .i64 (l.getD y af).x,.int .i64 (l.getD y af).y]:Value)=kXY K:=by rw[<- hK];rfl
   rw[hKv]
   refine ⟨fun hin =>?_,fun hin =>?_⟩
   ·have hlen:0<(ak l y K).length:=e7 ((I.has K).symm.trans hin)
    have hset:∀v:Value,List.set (bD kXY id T.A) (cy K T.A) (kXY K,v)=bD kXY id (bP K v T.A):=fun v=>qV (key:=kXY) (val:=id) K v T.A hin
    have hget:(bD kXY id T.A)[cy K T.A]?=some (kXY K,cV (ak l y K).length 7 (T.ks K)):=by
     rw[<- I.vl K (.chan none) hlen];exact qW kXY id K (.chan none) T.A hin
    rw[hset]
    refine ⟨⟨hget,I.m0,bJ dw _,fun _=>I.rw K hlen⟩,(vA kQ K _ rfl false _).trans (by rw[jw,if_pos rfl];rfl),aU (fun g6=>jA (stop (dE5 g1 g2 g34 (by omega) (by rw[hK];omega)) (by decide))) (fun g6 =>?_)⟩
    have g7:ez w h l now y=0:=dE6 g1 g2 g34 (by omega) (by
     rw[hK]
     intro g8
     have h12:=rl hu K
     omega)
    have hrow:=yn l y K
    have I2:=I.put K (ak l y K ++ [(y:Int)]) (by simp) tp hrow
    have hns:=nn l y
    rw[hK]at hns
    have hl2:(ak l y K ++ [(y:Int)]).length=(ak l y K).length+1:=by rw[bi];rfl
    rw[hns,hl2]at I2
    refine ⟨(xZ kQ vM K _ rfl _).trans (by rw[jw,if_pos rfl,qd,qG];rfl),⟨by omega,by decide,⟨Nat.le_refl _,by rw[bJ dw];omega⟩,⟨Nat.le_refl _,Nat.le_refl 1⟩,rfl⟩,rfl,(wv (dN kXY id K _ T.A) _).trans (congrArg some (dM kXY id K _ _ T.A)),⟨dN kXY id K _ T.A,.inr (Nat.succ_pos _),(ny _ _ _).trans I.m0,by decide,by rw[hrow,bJ dw,hl2],by rw[hll];omega⟩,aG (by omega),(y+1,_),⟨by show y+1<=_;omega,Nat.le_trans (lu _ _ _) (Nat.succ_le_succ hA),gH hu g7,I2⟩,by show _-(y+1)<_;omega,rfl,?_⟩
    dsimp only
    repeat' first|exact MbI.wkM I2 rfl|(exact MbI.wkA I2 (by rfl) (by rw[hll];exact dM kXY id K _ _ T.A))|exact ei _ _|exact bx _ _|exact bL _ _|exact trivial|exact rfl|exact ar _|refine ay ?_|refine aB ?_ ?_|exact aP|exact ba _ _ _ (.inl rfl)|(exact bT (by omega))|refine aN ?_|refine aL ?_|refine aK ?_ ?_ ?_|refine aJ ?_ ?_ ?_|refine toMax ?_|refine toMin ?_|refine ⟨rfl,?_⟩|refine ⟨trivial,?_⟩|(refine aO (fun h =>?_) (fun h =>?_))|(refine aM (fun h =>?_) (fun h =>?_))|(refine aU (fun h =>?_) (fun h =>?_))|refine aD ?_|(refine ⟨aG (by omega),?_⟩)|(refine And.intro (by omega) ?_)|apply And.intro|(exact iEq (by omega))|(exact aG (by omega))
   ·have yJ:cL K T.A=false:=by cases e:cL K T.A with
     |false=>rfl
     |true=>exact absurd e hin
    have hz0:(ak l y K).length=0:=by
     have:=td ((I.has K).symm.trans yJ)
     omega
    have hnil:ak l y K=[]:=List.length_eq_zero_iff.1 hz0
    have g7:ez w h l now y=0:=dE6 g1 g2 g34 (by omega) (by rw[hK];omega)
    have hrow:([.int .i64 (y:Int)]:List Value)=(ak l y K ++ [(y:Int)]).flatMap bf:=by rw[hnil];rfl
    have I2:=I.put K (ak l y K ++ [(y:Int)]) (by simp) tp hrow
    have hns:=nn l y
    rw[hK]at hns
    have hl2:(ak l y K ++ [(y:Int)]).length=1:=by rw[hnil];rfl
    rw[hns,hl2,hz0]at I2
    refine ⟨(vA kQ K _ rfl false T.A).trans (by rw[jx K _ _ yJ];rfl),(xZ kQ vM K _ rfl T.A).trans (by rw[jx K _ _ yJ];rfl),(wv (dN kXY id K _ T.A) _).trans (congrArg some (dM kXY id K _ _ T.A)),⟨dN kXY id K _ T.A,.inr Nat.one_pos,I.m0,by decide,rfl,by omega⟩,aG (by omega),(y+1,_),⟨by show y+1<=_;omega,Nat.le_trans (lu _ _ _) (Nat.succ_le_succ hA),gH hu g7,I2⟩,by show _-(y+1)<_;omega,rfl,?_⟩
    dsimp only
    repeat' first|exact MbI.wkM I2 rfl|(exact MbI.wkA I2 (by rfl) (dM kXY id K _ _ T.A))|exact ei _ _|exact bx _ _|exact bL _ _|exact trivial|exact rfl|exact ar _|refine ay ?_|refine aB ?_ ?_|exact aP|exact ba _ _ _ (.inl rfl)|(exact bT (by omega))|refine aN ?_|refine aL ?_|refine aK ?_ ?_ ?_|refine aJ ?_ ?_ ?_|refine toMax ?_|refine toMin ?_|refine ⟨rfl,?_⟩|refine ⟨trivial,?_⟩|(refine aO (fun h =>?_) (fun h =>?_))|(refine aM (fun h =>?_) (fun h =>?_))|(refine aU (fun h =>?_) (fun h =>?_))|refine aD ?_|(refine ⟨aG (by omega),?_⟩)|(refine And.intro (by omega) ?_)|apply And.intro|(exact iEq (by omega))|(exact aG (by omega))
  obtain rfl:i=l.length:=by omega
  have hr:=tF (e4.trans hu)
  have hz:=iT hu
  have h12:=rl hu
  have S0:kB l T [] T.ms:=⟨List.nodup_nil,fun e h=>(by cases h),I.m0,I.fx,fun e he _=>I.rw _ (hO I he).2⟩
  refine ⟨rfl,S0,?_,fun _=>rfl,?_⟩
  ·repeat' first|exact wj I.fx rfl|(exact congrArg (fun q=>some (ae.cells true 8 (List.flatMap cellC q))) (wy w h l m now T.A).symm)|exact ei _ _|exact bx _ _|exact bL _ _|exact trivial|exact rfl|exact ar _|refine ay ?_|refine aB ?_ ?_|exact aP|exact ba _ _ _ (.inl rfl)|(exact bT (by omega))|refine aN ?_|refine aL ?_|refine aK ?_ ?_ ?_|refine aJ ?_ ?_ ?_|refine toMax ?_|refine toMin ?_|refine ⟨rfl,?_⟩|refine ⟨trivial,?_⟩|(refine aO (fun h =>?_) (fun h =>?_))|(refine aM (fun h =>?_) (fun h =>?_))|(refine aU (fun h =>?_) (fun h =>?_))|refine aD ?_|(refine ⟨aG (by omega),?_⟩)|(refine And.intro (by omega) ?_)|apply And.intro|(exact iEq (by omega))|(exact aG (by omega))
  rintro ⟨seen,ms⟩ S
  dsimp only at S ⊢
  have hsn:=nq T.A.length seen S.nd S.lt
  have hls:=nz l m now T.A seen
  have hlb:(aZ l m now T.A seen).length<=160000:=Nat.le_trans hls (Nat.mul_le_mul (show seen.length<=400 by omega) AV)
  refine ⟨rfl,fun e he hne =>?_,fun hall =>?_⟩
  ·have he:e<T.A.length:=by rw[mz]at he;exact he
   obtain ⟨c1,c2⟩:=hO I he
   have S2:=S.more I he hne
   have hq:=fun k (hk:k<(atN l l.length (aa T.A e)).length)=>jD hk
   have hnl:=jg l l.length (aa T.A e)
   have htl:=eH l m now (aa T.A e)
   have hrw:=S.rw e he hne
   have zT:=rV l m now T.A seen e
   have hcs:=fun hx hy=>rc (w:=w) (h:=h) (l:=l) (m:=m) (now:=now) (A:=T.A) (seen:=seen) (e:=e) hx hy
   have hal:=vu l m now (aa T.A e) (y:=(ak l l.length (aa T.A e)).length) (by omega)
   have AO:=fun k hk=>uk (l:=l) (m:=m) (now:=now) (q:=aa T.A e) (k:=k) hk
   have hol:=fun y=>vt l m now (aa T.A e) y
   have A3:=h12 (aa T.A e)
   have hng:=fun k hk=>qi (l:=l) (i:=l.length) (q:=aa T.A e) (k:=k) hk
   have htg:=fun k hk=>gk (l:=l) (m:=m) (now:=now) (q:=aa T.A e) (k:=k) hk
   have hent:iV (bD kXY id T.A) (seen ++ [e])=some (.tuple #[kXY (aa T.A e),cV (ak l l.length (aa T.A e)).length 7 (T.ks (aa T.A e))]):=by
    rw[xz ((0,0),.chan none) he,List.getD_eq_getElem?_getD,c1];rfl
   refine ⟨rfl,hent,⟨rfl,S.m0,bJ dw _,fun _=>hrw⟩,?_⟩
   generalize hK:aa T.A e=K at *
   obtain ⟨kx,ky⟩:=K
   have hpos:0<(atN l l.length (kx,ky)).length:=by omega
   obtain ⟨j1,j2⟩:=hq 0 hpos
   obtain ⟨ok0,o1,o2,_⟩:=dOk (hz _ j1)
   have hxy:0<=kx/\kx<w/\0<=ky/\ky<h:=by
    have e1:(l.getD ((atN l l.length (kx,ky)).getD 0 0) af).x=kx:=congrArg Prod.fst j2
    have e2:(l.getD ((atN l l.length (kx,ky)).getD 0 0) af).y=ky:=congrArg Prod.snd j2
    obtain ⟨⟨_,_,_,b1,b2,_⟩,_⟩:=ok0
    omega
   have hpb:=xT (w:=w) (h:=h) ⟨hxy.1,hxy.2.1⟩ ⟨hxy.2.2.1,hxy.2.2.2⟩
   have hyw:0<=ky*w:=Int.mul_nonneg hxy.2.2.1 (by omega)
   have hcs:=hcs ⟨hxy.1,hxy.2.1⟩ ⟨hxy.2.2.1,hxy.2.2.2⟩
   dsimp only
   refine ⟨rfl,Nat.zero_le _,?_,fun _=>rfl,?_⟩
   ·repeat' first|exact ei _ _|exact bx _ _|exact bL _ _|exact trivial|exact rfl|exact ar _|refine ay ?_|refine aB ?_ ?_|exact aP|exact ba _ _ _ (.inl rfl)|(exact bT (by omega))|refine aN ?_|refine aL ?_|refine aK ?_ ?_ ?_|refine aJ ?_ ?_ ?_|refine toMax ?_|refine toMin ?_|refine ⟨rfl,?_⟩|refine ⟨trivial,?_⟩|(refine aO (fun h =>?_) (fun h =>?_))|(refine aM (fun h =>?_) (fun h =>?_))|(refine aU (fun h =>?_) (fun h =>?_))|refine aD ?_|(refine ⟨aG (by omega),?_⟩)|(refine And.intro (by omega) ?_)|apply And.intro|(exact iEq (by omega))|(exact aG (by omega))
   intro x hx
   refine aO (fun k3 =>?_) (fun k3 =>?_)
   ·have hlx:x<(atN l l.length (kx,ky)).length:=by omega
    obtain ⟨V,n2⟩:=hq x hlx
    obtain ⟨okx,_,_,o3,_⟩:=dOk (hz _ V)
    refine ⟨by omega,qE (by omega) (by omega),?_⟩
    have AM:=htg x hlx
    rw[hng x hlx]
    generalize (atN l l.length (kx,ky)).getD x 0=j at *
    have b1:=jf (own:=true) iX (jI (d:=ah) (show x<(aj l m now (kx,ky)).length by omega)) (congrArg cellC AM)
    rw[List.length_take,Nat.min_eq_left (by omega)]at b1
    have c3:(List.flatMap cellC (List.take x (aj l m now (kx,ky)))).length=x*8:=by rw[bJ iX,List.length_take,Nat.min_eq_left (by omega)]
    refine ⟨by omega,oH V,trivial,fun H' _ _=>yu _ m now okx hm (by omega) H',⟨by omega,by decide,⟨Nat.le_refl _,by omega⟩,⟨Nat.le_refl _,Nat.le_refl 8⟩,rfl⟩,rfl,aG (by omega),x+1,by omega,by omega,rfl,?_⟩
    repeat' first|exact b1|exact ei _ _|exact bx _ _|exact bL _ _|exact trivial|exact rfl|exact ar _|refine ay ?_|refine aB ?_ ?_|exact aP|exact ba _ _ _ (.inl rfl)|(exact bT (by omega))|refine aN ?_|refine aL ?_|refine aK ?_ ?_ ?_|refine aJ ?_ ?_ ?_|refine toMax ?_|refine toMin ?_|refine ⟨rfl,?_⟩|refine ⟨trivial,?_⟩|(refine aO (fun h =>?_) (fun h =>?_))|(refine aM (fun h =>?_) (fun h =>?_))|(refine aU (fun h =>?_) (fun h =>?_))|refine aD ?_|(refine ⟨aG (by omega),?_⟩)|(refine And.intro (by omega) ?_)|apply And.intro|(exact iEq (by omega))|(exact aG (by omega))
   ·obtain rfl:x=(aj l m now (kx,ky)).length:=by omega
    rw[List.take_length]
    have hwl:=fK (Int.toNat (w*h))
    have hcl:=iW w h l m now T.A seen
    refine ⟨⟨rfl,rfl,trivial⟩,fun H' hl hd=>yt m (by omega) hl hd.1 hd.2.1,aG (by omega),aG (by omega),by omega,by rw[bJ dk,hcl];omega,rfl,rfl,Nat.zero_le _,?_,fun _=>rfl,?_⟩
    ·rw[show aZ l m now T.A seen++bW l m now (kx,ky) 0=aZ l m now T.A seen from List.append_nil _]
     repeat' first|exact ei _ _|exact bx _ _|exact bL _ _|exact trivial|exact rfl|exact ar _|refine ay ?_|refine aB ?_ ?_|exact aP|exact ba _ _ _ (.inl rfl)|(exact bT (by omega))|refine aN ?_|refine aL ?_|refine aK ?_ ?_ ?_|refine aJ ?_ ?_ ?_|refine toMax ?_|refine toMin ?_|refine ⟨rfl,?_⟩|refine ⟨trivial,?_⟩|(refine aO (fun h =>?_) (fun h =>?_))|(refine aM (fun h =>?_) (fun h =>?_))|(refine aU (fun h =>?_) (fun h =>?_))|refine aD ?_|(refine ⟨aG (by omega),?_⟩)|(refine And.intro (by omega) ?_)|apply And.intro|(exact iEq (by omega))|(exact aG (by omega))
    intro y hy
    have hoy:=hol y
    refine aO (fun k4 =>?_) (fun k4 =>?_)
    ·have hly:y<(atN l l.length (kx,ky)).length:=by omega
     have htr:(aX (aj l m now (kx,ky)) (aj l m now (kx,ky)).length).length=(aj l m now (kx,ky)).length:=bK _ _
     have ho:=AO y hly
     refine ⟨by omega,qE (by omega) (by omega),by omega,wz (by omega) (by omega),aD (qN (fun hb =>?_) (fun hb =>?_))⟩
     ·rw[if_neg (by rw[hb];decide)]at ho
      refine ⟨aG (by omega),y+1,by omega,by omega,rfl,?_⟩
      rw[ho]
      repeat' first|exact ei _ _|exact bx _ _|exact bL _ _|exact trivial|exact rfl|exact ar _|refine ay ?_|refine aB ?_ ?_|exact aP|exact ba _ _ _ (.inl rfl)|(exact bT (by omega))|refine aN ?_|refine aL ?_|refine aK ?_ ?_ ?_|refine aJ ?_ ?_ ?_|refine toMax ?_|refine toMin ?_|refine ⟨rfl,?_⟩|refine ⟨trivial,?_⟩|(refine aO (fun h =>?_) (fun h =>?_))|(refine aM (fun h =>?_) (fun h =>?_))|(refine aU (fun h =>?_) (fun h =>?_))|refine aD ?_|(refine ⟨aG (by omega),?_⟩)|(refine And.intro (by omega) ?_)|apply And.intro|(exact iEq (by omega))|(exact aG (by omega))
     ·rw[if_pos hb]at ho
      have e3:aZ l m now T.A seen++bW l m now (kx,ky) (y+1)=aZ l m now T.A seen++bW l m now (kx,ky) y ++ [(ak l l.length (kx,ky)).getD y 0]:=by rw[ho,List.append_assoc]
      have b1:=jf (own:=true) dw e3 rfl
      have b2:(aZ l m now T.A seen++bW l m now (kx,ky) (y+1)).length=(aZ l m now T.A seen++bW l m now (kx,ky) y).length+1:=by rw[e3,bi];rfl
      have b3:(aZ l m now T.A seen++bW l m now (kx,ky) y).length<=170000:=by rw[bi];omega
      refine ⟨⟨by omega,by decide,⟨Nat.le_refl _,by rw[bJ dw];omega⟩,⟨Nat.le_refl _,Nat.le_refl 1⟩,rfl⟩,rfl,aG (by omega),y+1,by omega,by omega,rfl,?_⟩
      repeat' first|(exact u0 b2 (by omega))|exact b1|exact ei _ _|exact bx _ _|exact bL _ _|exact trivial|exact rfl|exact ar _|refine ay ?_|refine aB ?_ ?_|exact aP|exact ba _ _ _ (.inl rfl)|(exact bT (by omega))|refine aN ?_|refine aL ?_|refine aK ?_ ?_ ?_|refine aJ ?_ ?_ ?_|refine toMax ?_|refine toMin ?_|refine ⟨rfl,?_⟩|refine ⟨trivial,?_⟩|(refine aO (fun h =>?_) (fun h =>?_))|(refine aM (fun h =>?_) (fun h =>?_))|(refine aU (fun h =>?_) (fun h =>?_))|refine aD ?_|(refine ⟨aG (by omega),?_⟩)|(refine And.intro (by omega) ?_)|apply And.intro|(exact iEq (by omega))|(exact aG (by omega))
    ·obtain rfl:y=(ak l l.length (kx,ky)).length:=by omega
     have es:bE ((cellsS w h l m now T.A seen).flatMap cellC) (0+Int.toNat (ky*w+kx)*8) (cellC (cellAt l m now (kx,ky)))=(cellsS w h l m now T.A (seen ++ [e])).flatMap cellC:=by
      rw[Nat.zero_add,jy dk _ _ (by rw[hcl];omega),hcs]
     have e5:aZ l m now T.A seen++bW l m now (kx,ky) (ak l l.length (kx,ky)).length=aZ l m now T.A (seen ++ [e]):=by rw[zT,hal]
     have hse:(seen ++ [e]).length<=T.A.length:=nq T.A.length _ S2.nd S2.lt
     rw[bi]at hse
     have hse:seen.length+1<=T.A.length:=hse
     refine ⟨(seen ++ [e],_),S2,by show _-(seen ++ [e]).length<_;rw[bi];show _-(seen.length+1)<_;omega,rfl,?_⟩
     dsimp only
     rw[e5]
     repeat' first|exact wj S2.fx rfl|(exact congrArg (fun q=>some (ae.cells true 8 q)) es)|exact ei _ _|exact bx _ _|exact bL _ _|exact trivial|exact rfl|exact ar _|refine ay ?_|refine aB ?_ ?_|exact aP|exact ba _ _ _ (.inl rfl)|(exact bT (by omega))|refine aN ?_|refine aL ?_|refine aK ?_ ?_ ?_|refine aJ ?_ ?_ ?_|refine toMax ?_|refine toMin ?_|refine ⟨rfl,?_⟩|refine ⟨trivial,?_⟩|(refine aO (fun h =>?_) (fun h =>?_))|(refine aM (fun h =>?_) (fun h =>?_))|(refine aU (fun h =>?_) (fun h =>?_))|refine aD ?_|(refine ⟨aG (by omega),?_⟩)|(refine And.intro (by omega) ?_)|apply And.intro|(exact iEq (by omega))|(exact aG (by omega))
  ·have hall:∀e,e<T.A.length->e∈seen:=fun e he=>hall e (by rw[mz];exact he)
   have hla:=vB (m:=m) (now:=now) I S.nd S.lt hall
   have hca:=uO (w:=w) (h:=h) (m:=m) (now:=now) I hall
   have hle:(aZ l m now T.A seen).length=(ct l m now l.length).length:=by rw[<- hla];exact (List.length_mergeSort _).symm
   have hlt:=rU l m now l.length
   refine ⟨⟨rfl,trivial⟩,fun H' _ hd=>vO (by omega) hd.1,?_⟩
   rw[hr,hla,hca,hle,fK]
   dsimp only
   rw[show (mA w h l m now).length=Int.toNat (w*h) from bK _ _]
   repeat' first|exact ei _ _|exact bx _ _|exact bL _ _|exact trivial|exact rfl|exact ar _|refine ay ?_|refine aB ?_ ?_|exact aP|exact ba _ _ _ (.inl rfl)|(exact bT (by omega))|refine aN ?_|refine aL ?_|refine aK ?_ ?_ ?_|refine aJ ?_ ?_ ?_|refine toMax ?_|refine toMin ?_|refine ⟨rfl,?_⟩|refine ⟨trivial,?_⟩|(refine aO (fun h =>?_) (fun h =>?_))|(refine aM (fun h =>?_) (fun h =>?_))|(refine aU (fun h =>?_) (fun h =>?_))|refine aD ?_|(refine ⟨aG (by omega),?_⟩)|(refine And.intro (by omega) ?_)|apply And.intro|(exact iEq (by omega))|(exact aG (by omega))
 ·have:=su w h now hl
  rw[qQ h0]at this
  exact this
end
end Go.Proofs.YthcjliffpebjaaaGreat
namespace Go.Proofs.YthcjliffpebjaaaGreat
noncomputable section
theorem nT{f:Nat->Int}:∀{n:Nat},(∀i,i<n->f i=0)->ca f n=0
 |0,_=>rfl
 |n+1,h=>gH (nT fun i hi=>h i (by omega)) (h n (by omega))
section
variable {w h now:Int} {l:List Report} {m:aR}
end
end
end Go.Proofs.YthcjliffpebjaaaGreat
namespace Go.Proofs.YthcjliffpebjaaaGreat
noncomputable section
attribute [local irreducible] vF
theorem fh(a b c d:Int):cm (eB a b c d):=by unfold cm eB;dsimp only;omega
theorem n1{x:Ice}{low high:Int}(h:cm x):bG (arC x low high):=by
 unfold cm at h
 unfold bG bF arC arS
 dsimp only
 omega
theorem xC{x:Ice}{low high:Int}(h:cm x):db (arC x low high) x:=by
 unfold cm at h
 unfold db io arC arS
 dsimp only
 omega
def cw:aR:=⟨⟨0,0,0,0⟩,⟨0,0,0,0⟩⟩
theorem vg{r:Report}{x:Ice}(h:db r.cell x)(hx:cm x):db (ll r) x:=by
 unfold cm at hx
 unfold db io at h ⊢
 unfold ll
 dsimp only
 refine ⟨?_,?_,?_,?_⟩
 all_goals split <;> first|omega|(dsimp only;omega)
theorem wF{c:Cell}{x:Ice}{h:Int}(hc:db c x)(hx:cm x):db (gP c cw h) x:=by
 unfold cm at hx
 unfold db io at hc ⊢
 unfold gP rx chg cw
 dsimp only
 rw[Int.zero_mul]
 omega
theorem cF(ns:List Int)(i:Nat):cm (am ns i):=fh ..
theorem wW(ns rs:List Int)(lie:Nat->Bool){j:Nat}(hj:j<=1000000):c7 (eg ns rs lie j):=by
 have hp:=fP rs j
 have hc:bG (eg ns rs lie j).cell:=by
  unfold eg
  dsimp only
  split
  ·exact n1 (fh ..)
  ·exact n1 (cF ..)
 obtain ⟨h1,h2,h3,h4⟩:=hc
 unfold c7
 refine ⟨?_,fun _=>h1,fun _=>h2,fun _=>h3,fun _=>h4⟩
 unfold eg
 dsimp only
 omega
theorem qa(ns rs:List Int)(lie:Nat->Bool){j:Nat}(h:lie j=false):db (bl (eg ns rs lie j) cw 20) (am ns (pkD rs j)):=by
 refine wF (vg ?_ (cF ..)) (cF ..)
 unfold eg
 dsimp only
 rw[h,if_neg (by decide)]
 exact xC (cF ..)
theorem zN(rs:List Int)(a:Nat):∀j,((bR rs j).filter fun k=>decide (pkD rs k=a)).length=min (kJ rs j a) 6
 |0=>rfl
 |j+1=>by
  have ih:=zN rs a j
  rw[eQ,j7]
  by_cases q:pkD rs j=a
  ·rw[if_pos q]
   by_cases e:inD rs j=true
   ·have e1:kJ rs j (pkD rs j)<6:=e7 e
    rw[q]at e1
    rw[if_pos e,List.filter_append,bi,List.filter_cons_of_pos (by simpa using q)]
    show _+1=_
    omega
   ·have e1:¬ kJ rs j (pkD rs j)<6:=fun h=>e (decide_eq_true h)
    rw[q]at e1
    rw[if_neg e];omega
  ·rw[if_neg q]
   by_cases e:inD rs j=true
   ·rw[if_pos e,List.filter_append,bi,List.filter_cons_of_neg (by simpa using q)];exact ih
   ·rw[if_neg e];exact ih
theorem dV{Y:Type}(L:List Y)(d:Y)(p:Y->Bool):∀i,i<=L.length->((List.range i).filter fun k=>p (L.getD k d)).length=((L.take i).filter p).length
 |0,_=>rfl
 |i+1,h=>by
  have ih:=dV L d p i (by omega)
  rw[List.range_succ,List.filter_append,jI (d:=d) (by omega),List.filter_append,bi,bi,ih]
  congr 1
  by_cases e:p (L.getD i d)=true
  ·rw[List.filter_cons_of_pos (l:=[]) e,List.filter_cons_of_pos (p:=fun k=>p (L.getD k d)) e];rfl
  ·rw[List.filter_cons_of_neg (l:=[]) e,List.filter_cons_of_neg (p:=fun k=>p (L.getD k d)) e];rfl
theorem hB(rs:List Int)(j:Nat):(bR rs j).length<=j:=by
 unfold bR
 refine Nat.le_trans (List.length_filter_le _ _) ?_
 rw[List.length_range];exact Nat.le_refl _
theorem qB(rs:List Int)(j:Nat):(bR rs j).Nodup:=List.Nodup.sublist List.filter_sublist List.nodup_range
theorem dg(ns rs:List Int)(lie:Nat->Bool)(j:Nat):(aC ns rs lie j).length=(bR rs j).length:=List.length_map ..
theorem gW{ns rs:List Int}{lie:Nat->Bool}{j i:Nat}(h:i<(bR rs j).length):(aC ns rs lie j).getD i af=eg ns rs lie ((bR rs j).getD i 0):=by
 unfold aC
 rw[List.getD_eq_getElem?_getD,List.getElem?_map,List.getD_eq_getElem?_getD,List.getElem?_eq_getElem h];rfl
theorem vC{ns rs:List Int}{lie:Nat->Bool}{k j:Nat}:kxy (eg ns rs lie k)=kxy (eg ns rs lie j) ↔ pkD rs k=pkD rs j:=by
 have h1:=fP rs k
 have h2:=fP rs j
 unfold kxy eg
 dsimp only
 rw[Prod.mk.injEq]
 omega
theorem An(ns rs:List Int)(lie:Nat->Bool)(n i j:Nat)(hi:i<=(bR rs n).length):(atN (aC ns rs lie n) i (kxy (eg ns rs lie j))).length=(((bR rs n).take i).filter fun k=>decide (pkD rs k=pkD rs j)).length:=by
 have h:=dV (aC ns rs lie n) af (fun r=>decide (kxy r=kxy (eg ns rs lie j))) i (by rw[dg];exact hi)
 refine h.trans ?_
 unfold aC
 rw[<- List.map_take,List.filter_map,List.length_map]
 congr 1
 refine List.filter_congr fun k _ =>?_
 exact decide_eq_decide.2 vC
theorem yZ(ns rs:List Int)(lie:Nat->Bool)(n i j:Nat)(hi:i<=(bR rs n).length):(atN (aC ns rs lie n) i (kxy (eg ns rs lie j))).length<=6:=by
 rw[An ns rs lie n i j hi]
 have h:=zN rs (pkD rs j) n
 have:=(List.Sublist.filter (fun k=>decide (pkD rs k=pkD rs j)) (List.take_sublist i (bR rs n))).length_le
 omega
theorem qR(ns rs:List Int)(lie:Nat->Bool)(hn:rs.length<=30):eC 4 3 (aC ns rs lie rs.length) cw 20=0:=by
 have hk:=hB rs rs.length
 refine (eD4 (dd.2 (by unfold fg;omega)) (dL.2 (by unfold cb ir cw;dsimp only;omega)) (by rw[dg];omega)).trans (nT fun i hi =>?_)
 rw[dg]at hi
 have hg:=gW (ns:=ns) (lie:=lie) hi
 have hm:=gF (d:=0) hi
 obtain ⟨m1,_⟩:=ux.1 hm
 have ok:=wW ns rs lie (j:=(bR rs rs.length).getD i 0) (by omega)
 have hp:=fP rs ((bR rs rs.length).getD i 0)
 refine dE6 (by rw[hg];exact iz.2 ok) ?_ ?_ ?_ ?_
 ·rintro ⟨k,hki,e⟩
  rw[hg,gW (by omega)]at e
  have e:(((bR rs rs.length).getD k 0:Nat):Int)=(((bR rs rs.length).getD i 0:Nat):Int):=e
  have e2:(bR rs rs.length).getD k 0=(bR rs rs.length).getD i 0:=by omega
  rw[List.getD_eq_getElem?_getD,List.getD_eq_getElem?_getD,List.getElem?_eq_getElem hi,List.getElem?_eq_getElem (show k<(bR rs rs.length).length by omega)]at e2
  have:=(List.getElem_inj (qB rs rs.length)).1 e2
  omega
 ·rw[hg];unfold eg;dsimp only;omega
 ·rw[hg];unfold eg;dsimp only;omega
 ·rw[hg]
  have:=yZ ns rs lie rs.length i ((bR rs rs.length).getD i 0) (by omega)
  omega
end
end Go.Proofs.YthcjliffpebjaaaGreat
namespace Go.Proofs.YthcjliffpebjaaaGreat
noncomputable section
theorem pu(p:Nat->Bool):∀n,cnt n (fun i => !p i)+cnt n p=n
 |0=>rfl
 |n+1=>by
  have ih:=pu p n
  rw[gK,gK]
  cases p n <;> simp only[Bool.not_true,Bool.not_false,Bool.toNat_true,Bool.toNat_false] <;> omega
theorem ra(L:List Nat)(p:Nat->Bool):cnt L.length (fun k=>p (L.getD k 0))=(L.filter p).length:=by
 have h:=dV L 0 p L.length (Nat.le_refl _)
 rw[List.take_length]at h
 rw[<- h]
 exact List.countP_eq_length_filter
theorem w5{a b:Cell}{x:Ice}(ha:db a x)(hb:db b x):okC (d8 a b):=by
 unfold db io at ha hb
 unfold okC d8 nv
 dsimp only
 omega
section
variable {w h now:Int} {l:List Report} {m:aR}
theorem iC(hu:ca (ez w h l now) l.length=0)(hm:cb m)(ht:now<=10000)(q:Int×Int):gU (aj l m now q):=fun i hi=>by
 rw[eH]at hi
 obtain ⟨a1,_⟩:=jD hi
 obtain ⟨ok,_,_,o3,_⟩:=dOk (iT hu _ a1)
 rw[gk hi]
 refine mH (kg ok) hm ?_
 have:=ok.1.2.2.1
 omega
theorem vr(hu:ca (ez w h l now) l.length=0)(hm:cb m)(ht:now<=10000){lie:Nat->Bool}{g:Int×Int->Ice}
  (hg:∀k,k<l.length->lie k=false->db (bl (l.getD k af) m now) (g (kxy (l.getD k af)))) (q:Int×Int) :
  ((atN l l.length q).filter (jp l m now)).length<=((atN l l.length q).filter lie).length:=by
 have h12:=rl hu q
 have htl:=eH l m now q
 have hr:=iC hu hm ht q
 have h1:=xA hr (by omega) (p:=fun i => !lie ((atN l l.length q).getD i 0)) (fun i j hi hj e1 e2=>by
  rw[htl]at hi hj
  obtain ⟨a1,a2⟩:=jD hi
  obtain ⟨b1,b2⟩:=jD hj
  rw[gk hi,gk hj]
  have g1:=hg _ a1 (by simpa using e1)
  have g2:=hg _ b1 (by simpa using e2)
  rw[a2]at g1
  rw[b2]at g2
  exact w5 g1 g2)
 have h2:=(qp hr (by omega)).2
 have h3:=pu (cx (aj l m now q).length (ao (aj l m now q))) (aj l m now q).length
 have h4:=pu (fun i=>lie ((atN l l.length q).getD i 0)) (aj l m now q).length
 rw[<- ra,<- ra,<- htl]
 have h5:cnt (aj l m now q).length (fun k=>jp l m now ((atN l l.length q).getD k 0))=cnt (aj l m now q).length (fun i => !cx (aj l m now q).length (ao (aj l m now q)) i):=j0 fun k hk=>by
  rw[jO (by omega)]
  unfold aX
  rw[ck hk]
 omega
end
theorem gJ{β:Type}[DecidableEq β](f:Nat->β)(p:Nat->Bool)(a:β)(Q:List β)(ha:a ∉ Q):∀S:List Nat,(S.filter fun k=>p k&&decide (f k∈a :: Q)).length=((S.filter fun k=>decide (f k=a)).filter p).length+(S.filter fun k=>p k&&decide (f k∈Q)).length
 | [] =>rfl
 |k :: S=>by
  have ih:=gJ f p a Q ha S
  by_cases e:f k=a
  ·have e2:f k ∉ Q:=e ▸ ha
   cases hp:p k <;> simp[List.filter_cons,e,e2,hp,ha]at ih ⊢ <;> omega
  ·cases hp:p k <;> by_cases e2:f k∈Q <;> simp[List.filter_cons,e,e2,hp]at ih ⊢ <;> omega
theorem kw{β:Type}[DecidableEq β](f:Nat->β)(p p':Nat->Bool)(S:List Nat)(h:∀a,((S.filter fun k=>decide (f k=a)).filter p).length<=((S.filter fun k=>decide (f k=a)).filter p').length):∀Q:List β,Q.Nodup->(S.filter fun k=>p k&&decide (f k∈Q)).length<=(S.filter fun k=>p' k&&decide (f k∈Q)).length
 | [],_=>by simp
 |a :: Q,hn=>by
  rw[List.nodup_cons]at hn
  rw[gJ f p a Q hn.1 S,gJ f p' a Q hn.1 S]
  have:=kw f p p' S h Q hn.2
  have:=h a
  omega
theorem dedup{β:Type}[DecidableEq β]:∀L:List β,∃Q:List β,Q.Nodup/\∀a,a∈L->a∈Q
 | [] =>⟨[],List.nodup_nil,fun _ h=>h⟩
 |b :: L=>by
  obtain ⟨Q,h1,h2⟩:=dedup L
  by_cases e:b∈Q
  ·exact ⟨Q,h1,fun a h=>(List.mem_cons.1 h).elim (fun q=>q ▸ e) (h2 a)⟩
  ·exact ⟨b :: Q,List.nodup_cons.2 ⟨e,h1⟩,fun a h=>(List.mem_cons.1 h).elim (fun q=>List.mem_cons.2 (.inl q)) (fun q=>List.mem_cons_of_mem _ (h2 a q))⟩
theorem qP{β:Type}[DecidableEq β](f:Nat->β)(Q:List β)(p:Nat->Bool)(S:List Nat)(h:∀k∈S,f k∈Q):(S.filter fun k=>p k&&decide (f k∈Q))=S.filter p :=
 List.filter_congr fun k hk=>by rw[decide_eq_true (h k hk),Bool.and_true]
section
variable {w h now:Int} {l:List Report} {m:aR}
theorem ur(hu:ca (ez w h l now) l.length=0)(hm:cb m)(ht:now<=10000){lie:Nat->Bool}{g:Int×Int->Ice}
  (hg:∀k,k<l.length->lie k=false->db (bl (l.getD k af) m now) (g (kxy (l.getD k af)))) :
  (ct l m now l.length).length<=((List.range l.length).filter lie).length:=by
 obtain ⟨Q,hn,hq⟩:=dedup ((List.range l.length).map fun k=>kxy (l.getD k af))
 have key:=kw (fun k=>kxy (l.getD k af)) (jp l m now) lie (List.range l.length) (fun a=>vr hu hm ht hg a) Q hn
 have hk:∀k∈List.range l.length,kxy (l.getD k af)∈Q:=fun k hk=>hq _ (List.mem_map.2 ⟨k,hk,rfl⟩)
 rw[qP _ Q _ _ hk,qP _ Q _ _ hk]at key
 unfold ct
 rw[List.length_map]
 exact key
theorem mE(hu:ca (ez w h l now) l.length=0)(hm:cb m)(ht:now<=10000)(q:Int×Int):wH (aj l m now q) (ao (aj l m now q)) (aj l m now q).length (cellAt l m now q):=by
 have h12:=rl hu q
 have htl:=eH l m now q
 have hr:=iC hu hm ht q
 obtain ⟨c,hc⟩:=pP hr (qp hr (by omega)).1 _ (Nat.le_refl _)
 have e:cellAt l m now q=c:=by
  unfold cellAt aT
  rw[hc];rfl
 rw[e]
 exact ov _ (Nat.le_refl _) c hc
theorem zF{c:Cell}:bG c ↔ ∀d,(sp az d).lo<=(sp c d).lo/\(sp c d).lo<=(sp c d).hi/\(sp c d).hi<=(sp az d).hi:=by
 refine ⟨fy,fun k =>?_⟩
 have k0:=k 0
 have k1:=k 1
 have k2:=k 2
 have k3:=k 3
 simp only[sp,az]at k0 k1 k2 k3
 unfold bG bF
 omega
theorem pv(hu:ca (ez w h l now) l.length=0)(hm:cb m)(ht:now<=10000)(q:Int×Int):bG (cellAt l m now q):=by
 have I:=mE hu hm ht q
 have hr:=iC hu hm ht q
 refine zF.2 fun d=>⟨?_,I.ok d,?_⟩
 ·rcases I.lo d with k|⟨i,hi,_,k⟩
  ·omega
  ·have:=fy (hr i hi) d;omega
 ·rcases I.hi d with k|⟨i,hi,_,k⟩
  ·omega
  ·have:=fy (hr i hi) d;omega
def icN(x:Ice):Nat->Int
 |0=>x.ag
 |1=>x.ad
 |2=>x.ac
 |_=>x.ab
theorem kR{c:Cell}{x:Ice}:db c x ↔ ∀d,(sp c d).lo<=icN x d/\icN x d<=(sp c d).hi:=by
 constructor
 ·intro k d
  unfold db io at k
  match d with
  |0=>exact k.1
  |1=>exact k.2.1
  |2=>exact k.2.2.1
  |d+3=>exact k.2.2.2
 ·intro k
  exact ⟨k 0,k 1,k 2,k 3⟩
theorem tZ{x:Ice}(hx:cm x):db az x:=by
 unfold cm at hx
 unfold db io az
 dsimp only
 omega
theorem sK(hu:ca (ez w h l now) l.length=0)(hm:cb m)(ht:now<=10000){q:Int×Int}{x:Ice}(hx:cm x)
  (hg:∀k,k∈atN l l.length q->db (bl (l.getD k af) m now) x):db (cellAt l m now q) x:=by
 have I:=mE hu hm ht q
 have hw:=kR.1 (tZ hx)
 have hts:∀i,i<(aj l m now q).length->db ((aj l m now q).getD i ah) x:=fun i hi=>by
  rw[eH]at hi
  rw[gk hi]
  exact hg _ (gF hi)
 refine kR.2 fun d=>⟨?_,?_⟩
 ·rcases I.lo d with k|⟨i,hi,_,k⟩
  ·have:=hw d;omega
  ·have:=kR.1 (hts i hi) d;omega
 ·rcases I.hi d with k|⟨i,hi,_,k⟩
  ·have:=hw d;omega
  ·have:=kR.1 (hts i hi) d;omega
end
end
end Go.Proofs.YthcjliffpebjaaaGreat
namespace Go.Proofs.YthcjliffpebjaaaGreat
noncomputable section
section
variable {ns rs:List Int} {lie:Nat->Bool}
theorem huD(hn:rs.length<=30):ca (ez 4 3 (aC ns rs lie rs.length) 20) (aC ns rs lie rs.length).length=0:=by
 have h:=qR ns rs lie hn
 have hk:=hB rs rs.length
 rw[eD4 (dd.2 (by unfold fg;omega)) (dL.2 (by unfold cb ir cw;dsimp only;omega)) (by rw[dg];omega)]at h
 exact h
theorem gi:cb cw:=by unfold cb ir cw;dsimp only;omega
theorem yT(hn:rs.length<=30):aA 4 3 (aC ns rs lie rs.length) cw 20=(⟨4,3,20,mA 4 3 (aC ns rs lie rs.length) cw 20⟩,ct (aC ns rs lie rs.length) cw 20 (aC ns rs lie rs.length).length,0):=tF (qR ns rs lie hn)
theorem leftD(hn:rs.length<=30):(ct (aC ns rs lie rs.length) cw 20 (aC ns rs lie rs.length).length).length<=cr rs lie rs.length:=by
 have h:=ur (huD hn) gi (by omega) (l:=aC ns rs lie rs.length) (lie:=fun k=>lie ((bR rs rs.length).getD k 0)) (g:=fun q=>am ns (Int.toNat (q.2*4+q.1))) (fun k hk hl=>by
  rw[dg]at hk
  rw[gW hk]
  have:=qa ns rs lie hl
  have hp:=fP rs ((bR rs rs.length).getD k 0)
  have e:Int.toNat ((kxy (eg ns rs lie ((bR rs rs.length).getD k 0))).2*4+(kxy (eg ns rs lie ((bR rs rs.length).getD k 0))).1)=pkD rs ((bR rs rs.length).getD k 0):=by
   unfold kxy eg
   dsimp only
   omega
  rw[e]
  exact this)
 have h2:=dV (bR rs rs.length) 0 lie _ (Nat.le_refl _)
 rw[List.take_length]at h2
 rw[dg,h2,<- dg ns rs lie]at h
 exact h
theorem kz(hn:rs.length<=30)(p:Nat):bG (cellAt (aC ns rs lie rs.length) cw 20 (plQ 4 p)):=pv (huD hn) gi (by omega) _
theorem nY(hn:rs.length<=30){p:Nat}(hp:p<12)(hl:(cd rs lie rs.length).getD p false=false):db (cellAt (aC ns rs lie rs.length) cw 20 (plQ 4 p)) (am ns p):=by
 refine sK (huD hn) gi (by omega) (cF ..) fun k hk =>?_
 obtain ⟨k1,k2⟩:=kV.1 hk
 rw[dg]at k1
 rw[gW k1]at k2 ⊢
 have hm:(bR rs rs.length).getD k 0∈bR rs rs.length:=gF k1
 generalize (bR rs rs.length).getD k 0=j at *
 have hp2:=fP rs j
 have e:pkD rs j=p:=by
  have e1:=congrArg Prod.fst k2
  have e2:=congrArg Prod.snd k2
  unfold kxy eg plQ at e1 e2
  dsimp only at e1 e2
  omega
 rw[cd,ck hp]at hl
 have hl2:lie j=false:=by
  cases hj:lie j with
  |false=>rfl
  |true =>
   have:=List.any_eq_false.1 hl j hm
   simp[hj,e]at this
 have:=qa ns rs lie hl2
 rw[e]at this
 exact this
theorem Ah(hn:rs.length<=30)(p:Nat)(i:Nat):mq (cellAt (aC ns rs lie rs.length) cw 20 (plQ 4 p)) (am ns i)=(decide (db (cellAt (aC ns rs lie rs.length) cw 20 (plQ 4 p)) (am ns i)),0):=by
 have h1:cc (cellAt (aC ns rs lie rs.length) cw 20 (plQ 4 p))=0:=gI.2 (kz hn p)
 have h2:cu (am ns i)=0:=mu.2 (cF ..)
 unfold mq
 rw[if_pos ((cE h1).trans h2)]
end
end
end Go.Proofs.YthcjliffpebjaaaGreat
namespace Go.Proofs.YthcjliffpebjaaaGreat
noncomputable section
theorem mt{Y:Type}{e:Y->Int}:∀{xs:List Y},(∀x∈xs,e x=0)->errs e xs=0
 | [],_=>rfl
 |x :: r,h=>by
  show (if e x=0 then errs e r else e x)=0
  rw[if_pos (h x (List.mem_cons_self ..))]
  exact mt fun y hy=>h y (List.mem_cons_of_mem _ hy)
def upM:aR:=⟨⟨0,9,0,0⟩,⟨0,0,0,0⟩⟩
theorem m8:cb upM:=by unfold cb ir upM;dsimp only;omega
theorem uC{c:Cell}(h:bG c):mZ c az:=by
 unfold bG bF at h
 unfold mZ mY az
 dsimp only
 omega
theorem yC{c:Cell}(h:bG c):mZ c (gP c upM 5):=by
 unfold bG bF at h
 unfold mZ mY gP rx chg upM
 dsimp only
 omega
section
variable {ns rs:List Int} {lie:Nat->Bool}
def bz(ns rs:List Int)(lie:Nat->Bool):List Cell:=mA 4 3 (aC ns rs lie rs.length) cw 20
theorem eU(ns rs:List Int)(lie:Nat->Bool):(bz ns rs lie).length=12:=bK _ _
theorem mB{k:Nat}(h:k<12):(bz ns rs lie).getD k ah=cellAt (aC ns rs lie rs.length) cw 20 (plQ 4 k):=ck h
theorem f3(hn:rs.length<=30){k:Nat}(h:k<12):bG ((bz ns rs lie).getD k ah):=by
 rw[mB h];exact kz hn k
theorem iU{cs:List Cell}(hl:cs.length=12)(h:∀k,k<12->bG (cs.getD k ah)){t:Int}(ht:0<=t/\t<=10000):a6 4 3 t cs=0:=by
 unfold a6
 rw[cE (dd.2 (by unfold fg;omega)),if_pos (by rw[hl];rfl)]
 refine mt fun x hx=>gI.2 ?_
 obtain ⟨i,hi,rfl⟩:=List.mem_iff_getElem.1 hx
 have:=h i (by omega)
 rw[List.getD_eq_getElem?_getD,List.getElem?_eq_getElem hi]at this
 exact this
theorem hJ(hn:rs.length<=30):a6 4 3 20 (bz ns rs lie)=0:=iU (eU ..) (fun k hk=>f3 hn hk) (by omega)
theorem tE{cs ds:List Cell}(h1:a6 4 3 20 cs=0)(h2:a6 4 3 20 ds=0)(h:kr cs ds cs.length):f9 4 3 20 cs 4 3 20 ds=(true,0):=by
 have e:cv 4 3 20 cs 4 3 20 ds=0:=by
  unfold cv
  rw[if_pos ((cE h1).trans h2),if_pos ⟨rfl,rfl,rfl⟩]
 unfold f9
 rw[if_pos e]
 simp[h]
theorem uD(hn:rs.length<=30):f9 4 3 20 (bz ns rs lie) 4 3 20 (aw 12)=(true,0):=by
 have hw:∀k,k<12->(aw 12).getD k ah=az:=fun k hk=>by
  rw[aw,List.getD_eq_getElem?_getD,List.getElem?_replicate,if_pos hk];rfl
 refine tE (hJ hn) (iU (fK 12) (fun k hk=>by rw[hw k hk];unfold bG bF az;dsimp only;omega) (by omega)) fun k hk =>?_
 rw[eU]at hk
 rw[hw k hk]
 exact uC (f3 hn hk)
def eE(ns rs:List Int)(lie:Nat->Bool):List Cell:=tab (fun k=>gP ((bz ns rs lie).getD k ah) upM 5) 12
theorem Ak(hn:rs.length<=30):bv 4 3 20 (bz ns rs lie) upM 5=(⟨4,3,25,eE ns rs lie⟩,0):=by
 unfold bv
 rw[if_pos ((cE (hJ hn)).trans (dL.2 m8)),if_pos (by omega),eU]
 rfl
theorem nO(hn:rs.length<=30):f9 4 3 20 (bz ns rs lie) 4 3 20 (eE ns rs lie)=(true,0):=by
 have ha:∀k,k<12->(eE ns rs lie).getD k ah=gP ((bz ns rs lie).getD k ah) upM 5:=fun k hk=>wV hk
 refine tE (hJ hn) (iU (cs:=eE ns rs lie) (kK _ _) (fun k hk=>by rw[ha k hk];exact mH (f3 hn hk) m8 (by omega)) (by omega)) fun k hk =>?_
 rw[eU]at hk
 rw[ha k hk]
 exact yC (f3 hn hk)
def iS(ns:List Int):List Ice:=aQ (am ns) 12
theorem sD{ns:List Int}{k:Nat}(h:k<12):(iS ns).getD k bq=am ns k:=ck h
theorem xt(hn:rs.length<=30):∃b,dK 4 3 20 (bz ns rs lie) (iS ns)=(b,0)/\(cr rs lie rs.length=0->b=true):=by
 have e:errs cu (iS ns)=0:=mt fun x hx=>by
  obtain ⟨i,_,rfl⟩:=List.mem_map.1 hx
  exact mu.2 (cF ..)
 have hl:(iS ns).length=(bz ns rs lie).length:=by rw[eU];exact bK _ _
 unfold dK
 rw[if_pos (hJ hn),if_pos hl,if_pos e]
 refine ⟨_,rfl,fun h0 =>?_⟩
 have key:ku (bz ns rs lie) (iS ns) (iS ns).length:=fun k hk=>by
  have hk:k<12:=by rw[hl,eU]at hk;exact hk
  rw[mB hk,sD hk]
  refine nY hn hk ?_
  have hz:(bR rs rs.length).filter lie=[]:=List.length_eq_zero_iff.1 h0
  rw[cd,ck hk]
  refine List.any_eq_false.2 fun j hj =>?_
  have:=List.filter_eq_nil_iff.1 hz j hj
  simp at this
  simp[this]
 simp[key]
end
end
end Go.Proofs.YthcjliffpebjaaaGreat
namespace Go.Proofs.YthcjliffpebjaaaGreat
noncomputable section
attribute [local irreducible] vF
def tS(sp:Value)(a b c d:Int):Prop :=
 (∃r0:Int,((True)/\(∀H':Heap,H'.length=1->(True)->ai prog 67 [.int .i64 a,.int .i64 101] H' [] (Is (.int .i64 r0) H'))/\(∃r1:Int,((True)/\(∀H':Heap,H'.length=1->(True)->ai prog 67 [.int .i64 b,.int .i64 401] H' [] (Is (.int .i64 r1) H'))/\(∃r2:Int,((True)/\(∀H':Heap,H'.length=1->(True)->ai prog 67 [.int .i64 c,.int .i64 101] H' [] (Is (.int .i64 r2) H'))/\(∃r3:Int,((True)/\(∀H':Heap,H'.length=1->(True)->ai prog 67 [.int .i64 d,.int .i64 4] H' [] (Is (.int .i64 r3) H'))/\(.agg #[.int .i64 r0,.int .i64 r1,.int .i64 r2,.int .i64 r3]:Value)=sp))))))))
theorem xK(sp:Value)(a b c d:Int):vF prog msk (dm 0) 100000 true 40 true 66 [.int .i64 a,.int .i64 b,.int .i64 c,.int .i64 d] ⟨0,.leaf⟩ (some [])
 (.go 1 (.bind (Int) (fun r0 => .ans [] (.int .i64 r0) [] (.go 0 (.bind (Int) (fun r1 => .ans [] (.int .i64 r1) [] (.go 0 (.bind (Int) (fun r2 => .ans [] (.int .i64 r2) [] (.go 0 (.bind (Int) (fun r3 => .ans [] (.int .i64 r3) [] (.auto)))))))))))))
 (fun v _ _=>v=sp)=tS sp a b c d:=by kernel_rfl
def tU(sp:Value)(x:Ice)(low high:Int):Prop :=
 (∃r0:Int,((True)/\(∀H':Heap,H'.length=5->(True)->ai prog 67 [.int .i64 low,.int .i64 30] H' [] (Is (.int .i64 r0) H'))/\((.int .i64 (IntKind.wrap .i64 (x.ag-r0)):Value) = .int .i64 (x.ag-r0)/\(∃y1:Int,(.int .i64 (if (0:Int) > (x.ag-r0) then (0:Int) else (x.ag-r0)):Value) = .int .i64 y1/\(∃r2:Int,((True)/\(∀H':Heap,H'.length=5->(True)->ai prog 67 [.int .i64 high,.int .i64 30] H' [] (Is (.int .i64 r2) H'))/\((.int .i64 (IntKind.wrap .i64 (x.ag+r2)):Value) = .int .i64 (x.ag+r2)/\(∃y3:Int,(.int .i64 (if (100:Int)<(x.ag+r2) then (100:Int) else (x.ag+r2)):Value) = .int .i64 y3/\(∃r4:Int,((True)/\(∀H':Heap,H'.length=5->(True)->ai prog 67 [.int .i64 low,.int .i64 30] H' [] (Is (.int .i64 r4) H'))/\((.int .i64 (IntKind.wrap .i64 (x.ad-r4)):Value) = .int .i64 (x.ad-r4)/\(∃y5:Int,(.int .i64 (if (0:Int) > (x.ad-r4) then (0:Int) else (x.ad-r4)):Value) = .int .i64 y5/\(∃r6:Int,((True)/\(∀H':Heap,H'.length=5->(True)->ai prog 67 [.int .i64 high,.int .i64 30] H' [] (Is (.int .i64 r6) H'))/\((.int .i64 (IntKind.wrap .i64 (x.ad+r6)):Value) = .int .i64 (x.ad+r6)/\(∃y7:Int,(.int .i64 (if (400:Int)<(x.ad+r6) then (400:Int) else (x.ad+r6)):Value) = .int .i64 y7/\(∃r8:Int,((True)/\(∀H':Heap,H'.length=5->(True)->ai prog 67 [.int .i64 low,.int .i64 30] H' [] (Is (.int .i64 r8) H'))/\((.int .i64 (IntKind.wrap .i64 (x.ac-r8)):Value) = .int .i64 (x.ac-r8)/\(∃y9:Int,(.int .i64 (if (0:Int) > (x.ac-r8) then (0:Int) else (x.ac-r8)):Value) = .int .i64 y9/\(∃r10:Int,((True)/\(∀H':Heap,H'.length=5->(True)->ai prog 67 [.int .i64 high,.int .i64 30] H' [] (Is (.int .i64 r10) H'))/\((.int .i64 (IntKind.wrap .i64 (x.ac+r10)):Value) = .int .i64 (x.ac+r10)/\(∃y11:Int,(.int .i64 (if (100:Int)<(x.ac+r10) then (100:Int) else (x.ac+r10)):Value) = .int .i64 y11/\(∃r12:Int,((True)/\(∀H':Heap,H'.length=5->(True)->ai prog 67 [.int .i64 low,.int .i64 30] H' [] (Is (.int .i64 r12) H'))/\((.int .i64 (IntKind.wrap .i64 (x.ab-r12)):Value) = .int .i64 (x.ab-r12)/\(∃y13:Int,(.int .i64 (if (0:Int) > (x.ab-r12) then (0:Int) else (x.ab-r12)):Value) = .int .i64 y13/\(∃r14:Int,((True)/\(∀H':Heap,H'.length=5->(True)->ai prog 67 [.int .i64 high,.int .i64 30] H' [] (Is (.int .i64 r14) H'))/\((.int .i64 (IntKind.wrap .i64 (x.ab+r14)):Value) = .int .i64 (x.ab+r14)/\(∃y15:Int,(.int .i64 (if (3:Int)<(x.ab+r14) then (3:Int) else (x.ab+r14)):Value) = .int .i64 y15/\(.agg #[.int .i64 y1,.int .i64 y3,.int .i64 y5,.int .i64 y7,.int .i64 y9,.int .i64 y11,.int .i64 y13,.int .i64 y15]:Value)=sp))))))))))))))))))))))))))))))))
theorem xM(sp:Value)(x:Ice)(low high:Int):vF prog msk (dm 0) 100000 true 40 true 68 [.agg #[.int .i64 x.ag,.int .i64 x.ad,.int .i64 x.ac,.int .i64 x.ab],.int .i64 low,.int .i64 high] ⟨0,.leaf⟩ (some [])
 (.go 24 (.bind (Int) (fun r0 => .ans [] (.int .i64 r0) [] (.go 0 (.slot 10 (.int .i64 (x.ag-r0)) (.go 0 (.bind Int (fun y1 => .slot 11 (.int .i64 y1) (.bind (Int) (fun r2 => .ans [] (.int .i64 r2) [] (.go 0 (.slot 15 (.int .i64 (x.ag+r2)) (.go 0 (.bind Int (fun y3 => .slot 17 (.int .i64 y3) (.go 8 (.bind (Int) (fun r4 => .ans [] (.int .i64 r4) [] (.go 0 (.slot 10 (.int .i64 (x.ad-r4)) (.go 0 (.bind Int (fun y5 => .slot 11 (.int .i64 y5) (.bind (Int) (fun r6 => .ans [] (.int .i64 r6) [] (.go 0 (.slot 15 (.int .i64 (x.ad+r6)) (.go 0 (.bind Int (fun y7 => .slot 17 (.int .i64 y7) (.go 8 (.bind (Int) (fun r8 => .ans [] (.int .i64 r8) [] (.go 0 (.slot 10 (.int .i64 (x.ac-r8)) (.go 0 (.bind Int (fun y9 => .slot 11 (.int .i64 y9) (.bind (Int) (fun r10 => .ans [] (.int .i64 r10) [] (.go 0 (.slot 15 (.int .i64 (x.ac+r10)) (.go 0 (.bind Int (fun y11 => .slot 17 (.int .i64 y11) (.go 8 (.bind (Int) (fun r12 => .ans [] (.int .i64 r12) [] (.go 0 (.slot 10 (.int .i64 (x.ab-r12)) (.go 0 (.bind Int (fun y13 => .slot 11 (.int .i64 y13) (.bind (Int) (fun r14 => .ans [] (.int .i64 r14) [] (.go 0 (.slot 15 (.int .i64 (x.ab+r14)) (.go 0 (.bind Int (fun y15 => .slot 17 (.int .i64 y15) (.auto)))))))))))))))))))))))))))))))))))))))))))))))))))))))))))))
 (fun v _ _=>v=sp)=tU sp x low high:=by kernel_rfl
theorem oQ(a b c d:Int)(H:Heap):ai prog F.ic [.int .i64 a,.int .i64 b,.int .i64 c,.int .i64 d] H [] (Is (vS (eB a b c d)) H):=by
 refine fL 40 (fun _=>rfl) rfl (Eq.mpr (xK _ a b c d) ?_) H
 unfold tS
 repeat' first|(refine ⟨_,trivial,fun H' _ _=>lY _ _ (by omega) (by omega) H',?_⟩)|exact trivial|exact rfl|exact ar _|refine ay ?_|refine aB ?_ ?_|exact aP|exact ba _ _ _ (.inl rfl)|(exact bT (by omega))|refine aN ?_|refine aL ?_|refine aK ?_ ?_ ?_|refine aJ ?_ ?_ ?_|refine toMax ?_|refine toMin ?_|refine ⟨rfl,?_⟩|refine ⟨trivial,?_⟩|(refine aO (fun h =>?_) (fun h =>?_))|(refine aM (fun h =>?_) (fun h =>?_))|(refine aU (fun h =>?_) (fun h =>?_))|refine aD ?_|(refine ⟨aG (by omega),?_⟩)|(refine And.intro (by omega) ?_)|apply And.intro|(exact iEq (by omega))|(exact aG (by omega))
theorem tn(x:Ice)(low high:Int)(hx:cm x)(H:Heap):ai prog F.ie [vS x,.int .i64 low,.int .i64 high] H [] (Is (cellV (arC x low high)) H):=by
 refine fL 40 (fun _=>rfl) rfl (Eq.mpr (xM _ x low high) ?_) H
 unfold tU
 obtain ⟨h1,h2,h3,h4⟩:=hx
 have g1:=Int.emod_nonneg low (show (30:Int)≠0 by decide)
 have g2:=Int.emod_lt_of_pos low (show (0:Int)<30 by decide)
 have g3:=Int.emod_nonneg high (show (30:Int)≠0 by decide)
 have g4:=Int.emod_lt_of_pos high (show (0:Int)<30 by decide)
 repeat' first|(refine ⟨_,trivial,fun H' _ _=>lY _ _ (by omega) (by omega) H',?_⟩)|exact trivial|exact rfl|exact ar _|refine ay ?_|refine aB ?_ ?_|exact aP|exact ba _ _ _ (.inl rfl)|(exact bT (by omega))|refine aN ?_|refine aL ?_|refine aK ?_ ?_ ?_|refine aJ ?_ ?_ ?_|refine toMax ?_|refine toMin ?_|refine ⟨rfl,?_⟩|refine ⟨trivial,?_⟩|(refine aO (fun h =>?_) (fun h =>?_))|(refine aM (fun h =>?_) (fun h =>?_))|(refine aU (fun h =>?_) (fun h =>?_))|refine aD ?_|(refine ⟨aG (by omega),?_⟩)|(refine And.intro (by omega) ?_)|apply And.intro|(exact iEq (by omega))|(exact aG (by omega))
def aq(li:Int)(k:Nat):Bool:=IntKind.wrap .i64 ((BitVec.ofInt 64 (li.fdiv (2 ^ min k 64)) &&& BitVec.ofInt 64 1).toNat:Nat) == 1
end
end Go.Proofs.YthcjliffpebjaaaGreat
