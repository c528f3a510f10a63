/- Drift: the examples of the chapter (awake), as a contract. No condition. -/
import Derived.Test.YtkkgnalgmebfjaaGreatA4a
import Derived.Test.YtkkgnalgmebfjaaGreatX3g
import Derived.Test.YtkkgnalgmebfjaaGreatGX2gxX2
import Derived.Test.YtkkgnalgmebfjaaGreatGK27xD3g
import Derived.Test.YtkkgnalgmebfjaaGreatGQ4xT2
open Go Go.K
set_option maxRecDepth 1000000
set_option maxHeartbeats 4000000
set_option linter.unusedVariables false
set_option linter.unusedSimpArgs false
namespace Go.Proofs.YtkkgnalgmebfjaaGreat
noncomputable section
attribute [local irreducible] vF
theorem eh(H:Heap):am prog F.cr [] H [] (Is (.bool true) H):=by
 have hv:vF prog msk (dm Bn) 100000 true 40 true F.cr [] ⟨0,.leaf⟩ none .auto (fun v _ _=>qn v):=of_eq_true yB
 have h0:=vc (P:=prog) (mask:=msk) (dm:=dm Bn) (rounds:=100000) (mixed:=true) uv mixed 40 (f:=F.cr) (args:=[]) (H:=⟨0,.leaf⟩) (M:=none) (h:=.auto) (Q:=fun v _=>qn v) hv
 have h1:am prog F.cr [] [] [] (fun v _=>v = .bool true):=h0.post (fun v H' h=>by
   cases v <;> first|exact h.elim|(rename_i b;cases b <;> first|rfl|exact h.elim))
 have h2:am prog F.cr [] [] [] (Is (.bool true) []):=am.clean h1 rfl
 have h3:=am.frame (H:=H) (new:=[]) (d:=3) (V:=fun _=>none) ⟨fun g hg=>absurd hg (by rw[jz];exact Nat.not_lt_zero _),fun _ _ h=>(by cases h),fun id h=>absurd h (Nat.not_lt_zero _),fun _ _ _ h=>(by cases h),fun _ _ _ h=>(by cases h)⟩ h2 rfl rfl
 simpa[rn] using h3
theorem zM{w h t:Int}{F:Nat}{rows:Nat->List Cell}{ks:Nat->Nat}{n k:Nat}(h1:(rows 0).length=n)(h2:ks 0=k):[.int .i64 w,.int .i64 h,.int .i64 t,dp n F k]=hdR w h t F rows ks 0:=by
 subst h1 h2
 show _=[hdV w h t F rows ks (4*0),hdV w h t F rows ks (4*0+1),hdV w h t F rows ks (4*0+2),hdV w h t F rows ks (4*0+3)]
 rw[xU,xT,xS,xR,show t+((0:Nat):Int)=t by omega]
theorem zk{cs:List Value}{o:Nat}{a b c d:Value}(g0:cs[o]?=some a)(g1:cs[o+1]?=some b)(g2:cs[o+2]?=some c)(g3:cs[o+3]?=some d):cj 4 cs o=some (.agg #[a,b,c,d]):=by
 obtain ⟨l0,rfl⟩:=List.getElem?_eq_some_iff.1 g0
 obtain ⟨l1,rfl⟩:=List.getElem?_eq_some_iff.1 g1
 obtain ⟨l2,rfl⟩:=List.getElem?_eq_some_iff.1 g2
 obtain ⟨l3,rfl⟩:=List.getElem?_eq_some_iff.1 g3
 unfold cj
 rw[if_pos (by omega),List.drop_eq_getElem_cons l0,List.drop_eq_getElem_cons l1,List.drop_eq_getElem_cons l2,List.drop_eq_getElem_cons l3];rfl
theorem rX{w h t:Int}{F:Nat}{rows:Nat->List Cell}{ks:Nat->Nat}{x i off:Nat}(hi:i<=x)(v:Value)(ho:off=4*i):cj 4 (List.set (hdR w h t F rows ks x) (4*i+3) v) off=some (.agg #[.int .i64 w,.int .i64 h,.int .i64 (t+(i:Int)),v]):=by
 subst ho
 have hl:=de w h t F rows ks x
 have g0:(List.set (hdR w h t F rows ks x) (4*i+3) v)[4*i]?=some (.int .i64 w):=by rw[List.getElem?_set_ne (by omega),ia (by omega),xU]
 have g1:(List.set (hdR w h t F rows ks x) (4*i+3) v)[4*i+1]?=some (.int .i64 h):=by rw[List.getElem?_set_ne (by omega),ia (by omega),xT]
 have g2:(List.set (hdR w h t F rows ks x) (4*i+3) v)[4*i+2]?=some (.int .i64 (t+(i:Int))):=by rw[List.getElem?_set_ne (by omega),ia (by omega),xS]
 have g3:(List.set (hdR w h t F rows ks x) (4*i+3) v)[4*i+3]?=some v:=List.getElem?_set_self (by omega)
 exact zk g0 g1 g2 g3
theorem xV{w h t T:Int}{F:Nat}{rows rows':Nat->List Cell}{ks ks':Nat->Nat}{x q k:Nat}{v:Value}(h1:∀j,j<=x->(rows' j).length=(rows j).length/\ks' j=ks j)(h2:(rows' (x+1)).length=q)(h3:ks' (x+1)=k)(hT:T=t+((x+1:Nat):Int)) :
  List.set (List.take ((x+1)*4) (List.drop 0 (hdR w h t F rows ks x)) ++ [.int .i64 w,.int .i64 h,.int .i64 T,v]) (4*x+7) (dp q F k)=hdR w h t F rows' ks' (x+1):=by
 have hl:=de w h t F rows ks x
 rw[List.drop_zero,List.take_of_length_le (by omega),List.set_append_right _ _ (by omega),show 4*x+7-(hdR w h t F rows ks x).length=3 by omega]
 exact zN h1 h2 h3 hT
theorem xW{w h t:Int}{F:Nat}{rows:Nat->List Cell}{ks:Nat->Nat}{x:Nat}{a b c v:Value}:(List.take ((x+1)*4) (List.drop 0 (hdR w h t F rows ks x)) ++ [a,b,c,v])[4*x+7]?=some v:=by
 have hl:=de w h t F rows ks x
 rw[List.drop_zero,List.take_of_length_le (by omega),List.getElem?_append_right (by omega),show 4*x+7-(hdR w h t F rows ks x).length=3 by omega];rfl
theorem kF(V:Nat->Option Nat)(x:Cell):∀v∈cellC x,rn V 2 v=v:=by
 intro v hv
 simp only[cellC,List.mem_cons,List.not_mem_nil,or_false,List.mem_append]at hv
 rcases hv with h|h|h|h|h|h|h|h <;> (subst h;rfl)
theorem dM{w h:Int}{a:List Bool}{ll:List (List Flow)}{cs:List Cell}{m:bu}{x j:Nat}(hj:j<=x):bW w h a ll cs m x j=ao w h a ll cs m j:=if_pos hj
theorem qX{w h:Int}{a:List Bool}{ll:List (List Flow)}{cs:List Cell}{m:bu}{x j:Nat}(hj:¬ j<=x):bW w h a ll cs m x j=[]:=if_neg hj
theorem vI(w h:Int)(a:List Bool)(ll:List (List Flow))(cs:List Cell)(m:bu):(fun j=>if j=0 then cs else [])=bW w h a ll cs m 0:=funext fun j=>by
 by_cases e:j=0
 ·subst e;exact (if_pos rfl).trans (if_pos (Nat.le_refl 0)).symm
 ·exact (if_neg e).trans (if_neg (by omega)).symm
theorem pL(w h:Int)(a:List Bool)(ll:List (List Flow))(cs:List Cell)(m:bu){x:Nat}:(fun j=>if j=x then ao w h a ll cs m x else bW w h a ll cs m x j)=bW w h a ll cs m x:=funext fun j=>by
 by_cases e:j=x
 ·subst e;exact (if_pos rfl).trans (if_pos (Nat.le_refl _)).symm
 ·exact if_neg e
theorem pM(w h:Int)(a:List Bool)(ll:List (List Flow))(cs:List Cell)(m:bu){x:Nat}:(fun j=>if j=x+1 then ao w h a ll cs m (x+1) else bW w h a ll cs m x j)=bW w h a ll cs m (x+1):=funext fun j=>by
 by_cases e:j=x+1
 ·subst e;exact (if_pos rfl).trans (if_pos (Nat.le_refl _)).symm
 ·refine (if_neg e).trans ?_
  unfold bW
  by_cases q:j<=x
  ·rw[if_pos q,if_pos (by omega)]
  ·rw[if_neg q,if_neg (by omega)]
theorem oW(w h:Int)(a:List Bool)(ll:List (List Flow))(cs:List Cell)(m:bu){x:Nat}:cA w h a ll cs m x 0=bW w h a ll cs m x:=funext fun j=>if_neg (Nat.not_lt_zero _)
theorem jL{w h:Int}{a:List Bool}{ll:List (List Flow)}{cs:List Cell}{m:bu}{x i j:Nat}(h1:¬ j<i)(h2:j<=x):cA w h a ll cs m x i j=ao w h a ll cs m j:=(if_neg h1).trans (if_pos h2)
theorem iF{w h:Int}{a:List Bool}{ll:List (List Flow)}{cs:List Cell}{m:bu}{x i j:Nat}(h2:j<=x):(cA w h a ll cs m x i j).length=(ao w h a ll cs m j).length:=by
 unfold cA
 split
 ·rw[dJ]
 ·rw[dM h2]
theorem pT(w h:Int)(a:List Bool)(ll:List (List Flow))(cs:List Cell)(m:bu){x i:Nat}:(fun j=>if j=i then cE (ao w h a ll cs m i) (ao w h a ll cs m i).length else cA w h a ll cs m x i j)=cA w h a ll cs m x (i+1):=funext fun j=>by
 by_cases e:j=i
 ·subst e;exact (if_pos rfl).trans (if_pos (Nat.lt_succ_self _)).symm
 ·refine (if_neg e).trans ?_
  unfold cA
  by_cases q:j<i
  ·rw[if_pos q,if_pos (by omega)]
  ·rw[if_neg q,if_neg (by omega)]
theorem xA(w h:Int)(a:List Bool)(l:List Flow)(hl:l.length<=4294967296)(w' h' t:Int)(cs:List Cell){H:Heap}{L:Nat}(hL:H.length=L){i0 i2:Nat}{o0 o2:Bool}{z0 z2:Nat}(e0:H[i0]?=some (.cells o0 z0 (a.flatMap ak)))(e2:H[i2]?=some (.cells o2 z2 (cs.flatMap cellC))) :
  am prog F.nS [fg w h i0 a.length,flV l,.agg #[.int .i64 w',.int .i64 h',.int .i64 t,.slice (some ⟨i2,0,some 2⟩) cs.length cs.length]] H []
   (Is (.tuple #[chV 1 L (b8 w h a l w' h' t cs).1,.int .i64 (b8 w h a l w' h' t cs).2]) (H ++ [.cells true 8 ((b8 w h a l w' h' t cs).1.cells.flatMap cellC)])):=by
 subst hL
 exact qO (fun i => .tuple #[chV 1 i (b8 w h a l w' h' t cs).1,.int .i64 (b8 w h a l w' h' t cs).2]) (cz.keep (cz.deep (cz.keep cz.nil))) (Cp w h a l hl w' h' t cs rfl (lv e0) il (lv e2)) ⟨⟨_,_,rfl,bn 0 _⟩,trivial⟩ (by simp[rn,dh])
theorem BD{w h:Int}{a:List Bool}{ll:List (List Flow)}{t:Int}{cs:List Cell}{x:Nat}(e2:bl w h a w h (t+(x:Int)) cs=0)(ht:t+(x:Int)<=10000) :
  b8 w h a (ll.getD x []) w h (t+(x:Int)) cs=if eZ w h a ll t x=0 then (⟨w,h,t+(x:Int)+1,au w h a (ll.getD x []) cs⟩,0) else (dB,eZ w h a ll t x):=by
 unfold b8
 by_cases h1:bk w h a.length (ll.getD x [])=0
 ·rw[if_pos h1,if_pos e2]
  by_cases h2:10000<=t+(x:Int)
  ·rw[wS h1 h2,if_pos (by omega),if_neg (by decide)]
  ·rw[wR h1 h2,if_neg (by omega),if_pos rfl]
 ·rw[if_neg h1,wT h1,if_neg h1]
theorem mM{V:Nat->Option Nat}{d:Nat}{l:List Value}(h:∀v∈l,rn V d v=v):l.map (rn V d)=l:=by
 rw[List.map_congr_left h,List.map_id']
theorem zQ(V:Nat->Option Nat)(ll:List (List Flow))(n:Nat):rn V 5 (.iface n (.agg ⟨flL ll⟩)) = .iface n (.agg ⟨flL ll⟩):=by
 show Value.iface n (.agg ⟨(flL ll).map (rn V 4)⟩)=_
 rw[mM fun v hv =>?_]
 obtain ⟨l,_,rfl⟩:=List.mem_map.1 hv
 exact eS V 1 l
theorem BL(V:Nat->Option Nat)(a:List Bool)(n:Nat):rn V 4 (.iface n (.agg ⟨a.flatMap ak⟩)) = .iface n (.agg ⟨a.flatMap ak⟩):=by
 show Value.iface n (.agg ⟨(a.flatMap ak).map (rn V 3)⟩)=_
 rw[mM fun v hv =>?_]
 obtain ⟨b,_,h⟩:=List.mem_flatMap.1 hv
 simp only[ak,List.mem_cons,List.not_mem_nil,or_false]at h
 subst h;rfl
set_option maxHeartbeats 8000000 in
theorem xC(w h:Int)(a:List Bool)(ll:List (List Flow))(w' h' t:Int)(cs:List Cell)(m:bu)(H:Heap) :
  am prog F.gV [.agg #[.int .i64 w,.int .i64 h,.iface (a.length+1) (.agg ⟨a.flatMap ak⟩)],.iface (ll.length+1) (.agg ⟨flL ll⟩),.agg #[.int .i64 w',.int .i64 h',.int .i64 t,ceV cs],gj m] H [] (Is (.bool true) H):=by
 refine iu 40 (fun V =>?_) rfl (Eq.mpr (t7 (.bool true) w h a ll w' h' t cs m) ?_) H
 ·show [Value.agg ⟨[.int .i64 w,.int .i64 h,rn V 4 (.iface (a.length+1) (.agg ⟨a.flatMap ak⟩))]⟩,rn V 5 (.iface (ll.length+1) (.agg ⟨flL ll⟩)),.agg ⟨[.int .i64 w',.int .i64 h',.int .i64 t,rn V (1+3) (ceV cs)]⟩,gj m]=_
  rw[BL,zQ,BK];rfl
 unfold nY
 refine aG (fun q=>⟨trivial,fun H' _ _=>eh H',rfl⟩) (fun q0 =>?_)
 refine aG (fun q1=>aG (fun q=>⟨trivial,fun H' _ _=>eh H',rfl⟩) (fun q2=>aG (fun q=>⟨trivial,fun H' _ _=>eh H',rfl⟩) (fun q3=>aG (fun q=>⟨trivial,fun H' _ _=>eh H',rfl⟩) (fun q4=>⟨rfl,⟨Nat.zero_le _,fun k hk=>absurd hk (Nat.not_lt_zero _)⟩,?_,fun _=>rfl,?_⟩)))) (fun q1=>aG (fun q=>⟨trivial,fun H' _ _=>eh H',rfl⟩) (fun q3=>aG (fun q=>⟨trivial,fun H' _ _=>eh H',rfl⟩) (fun q4=>⟨rfl,⟨Nat.zero_le _,fun k hk=>absurd hk (Nat.not_lt_zero _)⟩,?_,fun _=>rfl,?_⟩)))
 ·repeat' first|exact bc _ _|exact ey _ _|exact bn _ _|exact eJ _ _ _ _ _|exact trivial|exact rfl|exact ah _|refine aq ?_|refine aw ?_ ?_|exact aF|exact aJ _ _ _ (.inl rfl)|(exact bi (by omega))|refine aD ?_|refine av ?_|refine aC ?_ ?_ ?_|refine aB ?_ ?_ ?_|refine toMax ?_|refine toMin ?_|refine ⟨rfl,?_⟩|refine ⟨trivial,?_⟩|(refine aG (fun h =>?_) (fun h =>?_))|(refine aE (fun h =>?_) (fun h =>?_))|(refine aI (fun h =>?_) (fun h =>?_))|refine aA ?_|(refine ⟨az (by omega),?_⟩)|(refine And.intro (by omega) ?_)|apply And.intro|(exact iEq (by omega))|(exact az (by omega))
 ·rintro z ⟨hz,hzs⟩
  refine aG (fun k =>?_) (fun k =>?_)
  ·have hlt:z<ll.length:=by omega
   refine ⟨by omega,fP hlt (by omega),aG (fun q=>⟨trivial,fun H' _ _=>eh H',rfl⟩) (fun q=>⟨az (by omega),z+1,⟨by omega,fun k hk =>?_⟩,by omega,rfl,?_⟩)⟩
   ·rcases Nat.lt_succ_iff_lt_or_eq.1 hk with hk|rfl
    ·exact hzs k hk
    ·omega
   ·repeat' first|exact bc _ _|exact ey _ _|exact bn _ _|exact eJ _ _ _ _ _|exact trivial|exact rfl|exact ah _|refine aq ?_|refine aw ?_ ?_|exact aF|exact aJ _ _ _ (.inl rfl)|(exact bi (by omega))|refine aD ?_|refine av ?_|refine aC ?_ ?_ ?_|refine aB ?_ ?_ ?_|refine toMax ?_|refine toMin ?_|refine ⟨rfl,?_⟩|refine ⟨trivial,?_⟩|(refine aG (fun h =>?_) (fun h =>?_))|(refine aE (fun h =>?_) (fun h =>?_))|(refine aI (fun h =>?_) (fun h =>?_))|refine aA ?_|(refine ⟨az (by omega),?_⟩)|(refine And.intro (by omega) ?_)|apply And.intro|(exact iEq (by omega))|(exact az (by omega))
  have hs:mG ll:=fun k hk=>by have:=hzs k (by omega);omega
  refine ⟨⟨rfl,trivial⟩,fun H' hl hd=>xD w h a (by omega) hl hd.1,⟨rfl,trivial⟩,fun H' hl hd=>xi ll (by omega) hs hl hd.1,trivial,fun H' hl _=>uH w' h' t cs (by omega) hl,⟨rfl,trivial⟩,fun H' _ hd=>(iI w h a hd.1).wkA ⟨av ⟨ah _,ah _,ct,trivial⟩,trivial⟩,aE (fun h0=>⟨⟨rfl,rfl,trivial⟩,fun H' hl hd=>nd w h a ll w' h' t cs m (by omega) hs hl hd.1 hd.2.1,dG (by rw[dS (eR1 h0) h0];exact bne_self_eq_false _) (dG (by rw[dS (eR1 h0) h0];rfl) ⟨⟨rfl,trivial⟩,fun H' _ hd=>(iH w' h' t cs (by omega) hd.1).wkA ⟨av ⟨ah _,ah _,ah _,ct,trivial⟩,ah _,trivial⟩,⟨rfl,rfl,rfl,rfl,trivial⟩,fun H' _ hd=>(nl w h a (by omega) ll (by omega) hs hd.1 hd.2.1 hd.2.2.1 hd.2.2.2.1).wkA ⟨av ⟨ah _,ah _,ct,trivial⟩,ah _,ct,ah _,trivial⟩,trivial,fun H' _ _=>eh H',rfl⟩)⟩) (fun h0=>⟨by rw[decide_eq_true (by omega)],⟨rfl,rfl,trivial⟩,fun H' hl hd=>nd w h a ll w' h' t cs m (by omega) hs hl hd.1 hd.2.1,dG (by rw[dS (eR2 h0 (by omega)) (by decide)];exact bne_self_eq_false _) (dG (by rw[dS (eR2 h0 (by omega)) (by decide)];rfl) ⟨⟨rfl,trivial⟩,fun H' _ hd=>(iH w' h' t cs (by omega) hd.1).wkA ⟨av ⟨ah _,ah _,ah _,ct,trivial⟩,ah _,trivial⟩,⟨rfl,rfl,rfl,rfl,trivial⟩,fun H' _ hd=>(nl w h a (by omega) ll (by omega) hs hd.1 hd.2.1 hd.2.2.1 hd.2.2.2.1).wkA ⟨av ⟨ah _,ah _,ct,trivial⟩,ah _,ct,ah _,trivial⟩,trivial,fun H' _ _=>eh H',rfl⟩)⟩)⟩
 ·repeat' first|exact bc _ _|exact ey _ _|exact bn _ _|exact eJ _ _ _ _ _|exact trivial|exact rfl|exact ah _|refine aq ?_|refine aw ?_ ?_|exact aF|exact aJ _ _ _ (.inl rfl)|(exact bi (by omega))|refine aD ?_|refine av ?_|refine aC ?_ ?_ ?_|refine aB ?_ ?_ ?_|refine toMax ?_|refine toMin ?_|refine ⟨rfl,?_⟩|refine ⟨trivial,?_⟩|(refine aG (fun h =>?_) (fun h =>?_))|(refine aE (fun h =>?_) (fun h =>?_))|(refine aI (fun h =>?_) (fun h =>?_))|refine aA ?_|(refine ⟨az (by omega),?_⟩)|(refine And.intro (by omega) ?_)|apply And.intro|(exact iEq (by omega))|(exact az (by omega))
 rintro z ⟨hz,hzs⟩
 refine aG (fun k =>?_) (fun k =>?_)
 ·have hlt:z<ll.length:=by omega
  refine ⟨by omega,fP hlt (by omega),aG (fun q=>⟨trivial,fun H' _ _=>eh H',rfl⟩) (fun q=>⟨az (by omega),z+1,⟨by omega,fun k hk =>?_⟩,by omega,rfl,?_⟩)⟩
  ·rcases Nat.lt_succ_iff_lt_or_eq.1 hk with hk|rfl
   ·exact hzs k hk
   ·omega
  ·repeat' first|exact bc _ _|exact ey _ _|exact bn _ _|exact eJ _ _ _ _ _|exact trivial|exact rfl|exact ah _|refine aq ?_|refine aw ?_ ?_|exact aF|exact aJ _ _ _ (.inl rfl)|(exact bi (by omega))|refine aD ?_|refine av ?_|refine aC ?_ ?_ ?_|refine aB ?_ ?_ ?_|refine toMax ?_|refine toMin ?_|refine ⟨rfl,?_⟩|refine ⟨trivial,?_⟩|(refine aG (fun h =>?_) (fun h =>?_))|(refine aE (fun h =>?_) (fun h =>?_))|(refine aI (fun h =>?_) (fun h =>?_))|refine aA ?_|(refine ⟨az (by omega),?_⟩)|(refine And.intro (by omega) ?_)|apply And.intro|(exact iEq (by omega))|(exact az (by omega))
 have hs:mG ll:=fun k hk=>by have:=hzs k (by omega);omega
 refine ⟨⟨rfl,trivial⟩,fun H' hl hd=>xD w h a (by omega) hl hd.1,⟨rfl,trivial⟩,fun H' hl hd=>xi ll (by omega) hs hl hd.1,trivial,fun H' hl _=>uH w' h' t cs (by omega) hl,⟨rfl,trivial⟩,fun H' _ hd=>(iI w h a hd.1).wkA ⟨av ⟨ah _,ah _,ct,trivial⟩,trivial⟩,aE (fun h0=>⟨⟨rfl,rfl,trivial⟩,fun H' hl hd=>nd w h a ll w' h' t cs m (by omega) hs hl hd.1 hd.2.1,dG (by rw[dS (eR1 h0) h0];exact bne_self_eq_false _) (dG (by rw[dS (eR1 h0) h0];rfl) ⟨⟨rfl,trivial⟩,fun H' _ hd=>(iH w' h' t cs (by omega) hd.1).wkA ⟨av ⟨ah _,ah _,ah _,ct,trivial⟩,ah _,trivial⟩,⟨rfl,rfl,rfl,rfl,trivial⟩,fun H' _ hd=>(nl w h a (by omega) ll (by omega) hs hd.1 hd.2.1 hd.2.2.1 hd.2.2.2.1).wkA ⟨av ⟨ah _,ah _,ct,trivial⟩,ah _,ct,ah _,trivial⟩,trivial,fun H' _ _=>eh H',rfl⟩)⟩) (fun h0 =>?_)⟩
 have hb:=sE h0
 have h48:ll.length<=48:=by omega
 refine ⟨by rw[decide_eq_false (by omega)],⟨rfl,rfl,trivial⟩,fun H' _ hd=>(lM hb w' h' t cs hd.1 hd.2.1).wkA ⟨av ⟨ah _,ah _,ct,trivial⟩,av ⟨ah _,ah _,ah _,ct,trivial⟩,trivial⟩,trivial,fun H' _ _=>lO m H',aE (fun h2=>⟨by rw[show (bl w h a w' h' t cs != 0)=true from bne_iff_ne.2 h2],⟨rfl,rfl,trivial⟩,fun H' hl hd=>nd w h a ll w' h' t cs m (by omega) hs hl hd.1 hd.2.1,dG (by rw[dS (eR3 h0 h48 h2) h2];exact bne_self_eq_false _) (dG (by rw[dS (eR3 h0 h48 h2) h2];rfl) ⟨⟨rfl,trivial⟩,fun H' _ hd=>(iH w' h' t cs (by omega) hd.1).wkA ⟨av ⟨ah _,ah _,ah _,ct,trivial⟩,ah _,trivial⟩,⟨rfl,rfl,rfl,rfl,trivial⟩,fun H' _ hd=>(nl w h a (by omega) ll (by omega) hs hd.1 hd.2.1 hd.2.2.1 hd.2.2.2.1).wkA ⟨av ⟨ah _,ah _,ct,trivial⟩,ah _,ct,ah _,trivial⟩,trivial,fun H' _ _=>eh H',rfl⟩)⟩) (fun h2=>aE (fun h3=>⟨by rw[show (bD m != 0)=true from bne_iff_ne.2 h3],⟨rfl,rfl,trivial⟩,fun H' hl hd=>nd w h a ll w' h' t cs m (by omega) hs hl hd.1 hd.2.1,dG (by rw[dS (eR4 h0 h48 h2 h3) h3];exact bne_self_eq_false _) (dG (by rw[dS (eR4 h0 h48 h2 h3) h3];rfl) ⟨⟨rfl,trivial⟩,fun H' _ hd=>(iH w' h' t cs (by omega) hd.1).wkA ⟨av ⟨ah _,ah _,ah _,ct,trivial⟩,ah _,trivial⟩,⟨rfl,rfl,rfl,rfl,trivial⟩,fun H' _ hd=>(nl w h a (by omega) ll (by omega) hs hd.1 hd.2.1 hd.2.2.1 hd.2.2.2.1).wkA ⟨av ⟨ah _,ah _,ct,trivial⟩,ah _,ct,ah _,trivial⟩,trivial,fun H' _ _=>eh H',rfl⟩)⟩) (fun h3 =>?_))⟩
 have e5:=eR5 (ll:=ll) (t:=t) h0 h48 h2 h3
 obtain ⟨hwa,hwb⟩:=(iY (jc h2).1).2
 obtain ⟨rfl,rfl⟩:w=w'/\h=h':=⟨hwa.symm,hwb.symm⟩
 have rt0:=wM h0 h48 h2 h3 (Nat.zero_le _) rfl
 have hcl:=rt0.cl
 have hn:=hb.n1
 have hp1:=hb.p1
 have hwh:=pQ hb.w1 hb.h1
 have I0:=(cv.new 16 8 (ll.length+1) cellC).put (t:=0) (by omega) cs kF rfl
 rw[vI w h a ll cs m]at I0
 refine ⟨⟨rfl,trivial⟩,fun H' hl hd=>(Bj cs (by omega) (by omega) hl hd.1).wkA ⟨ct,trivial⟩,⟨rfl,.inl rfl,rfl,by decide,aU bJ _,rfl⟩,rfl,⟨Nat.zero_le _,rfl,I0⟩,?_,fun _=>rfl,?_⟩
 ·dsimp only
  repeat' first|exact I0.wkM rfl|(exact qq (F:=16) (by rfl) (zM rfl rfl))|exact (eS _ 0 _).symm|exact bc _ _|exact ey _ _|exact bn _ _|exact eJ _ _ _ _ _|exact trivial|exact rfl|exact ah _|refine aq ?_|refine aw ?_ ?_|exact aF|exact aJ _ _ _ (.inl rfl)|(exact bi (by omega))|refine aD ?_|refine av ?_|refine aC ?_ ?_ ?_|refine aB ?_ ?_ ?_|refine toMax ?_|refine toMin ?_|refine ⟨rfl,?_⟩|refine ⟨trivial,?_⟩|(refine aG (fun h =>?_) (fun h =>?_))|(refine aE (fun h =>?_) (fun h =>?_))|(refine aI (fun h =>?_) (fun h =>?_))|refine aA ?_|(refine ⟨az (by omega),?_⟩)|(refine And.intro (by omega) ?_)|apply And.intro|(exact iEq (by omega))|(exact az (by omega))
 rintro ⟨x,T⟩ ⟨hx,hu,I⟩
 dsimp only at hx hu I ⊢
 have rt:=wM h0 h48 h2 h3 hx hu
 have ht:=rt.t0
 have hrc:=iE w h a ll m hcl x
 refine aG (fun k =>?_) (fun k =>?_)
 ·have hlt:x<ll.length:=by omega
  have hix:Int.toNat (((x+1:Nat):Int)-1)=x:=by omega
  have hrw:=I.rw x (by omega)
  rw[dM (Nat.le_refl _)]at hrw
  have hfx:=BD (ll:=ll) (rt.ok x (Nat.le_refl _)) ht.2
  have hp:=I.pos
  have hll:=dN (ao w h a ll cs m x).length (T.ks x) T.ms
  rw[hix]
  refine ⟨⟨by rw[qr (Nat.le_refl _),dM (Nat.le_refl _)],I.m0,aU bJ _,hrw⟩,by omega,fP hlt (by omega),az (by omega),by omega,rX (Nat.le_refl _) _ (by omega),fun he =>?_,fun he =>?_⟩
  ·rw[if_pos he]at hfx
   obtain ⟨T1,hT1⟩:∃T1,T1=Tb.put 16 x (ao w h a ll cs m x).length ((ao w h a ll cs m x).flatMap cellC) (ao w h a ll cs m x).length T:=⟨_,rfl⟩
   have I1:=I.put (t:=x) (by omega) (ao w h a ll cs m x) kF rfl
   rw[pL,dM (Nat.le_refl _),<- hT1]at I1
   have Dc:cd (ao w h a ll cs m x).length (aT (ao w h a ll cs m x).length (T.ks x) T.ms) ((ao w h a ll cs m x).flatMap cellC)=T1.ms:=by rw[hT1];rfl
   have hs1:∀v,List.set (List.set (hdR w h t 16 (bW w h a ll cs m x) T.ks x) (4*x+3) v) (4*x+3) (dp (ao w h a ll cs m x).length 16 ((aT (ao w h a ll cs m x).length (T.ks x) T.ms).length-1))=hdR w h t 16 (bW w h a ll cs m x) T1.ks x:=fun v=>by
    refine uN (Nat.le_refl _) v (fun j _ hj=>⟨rfl,?_⟩) (by rw[dM (Nat.le_refl _)]) ?_
    ·rw[hT1];exact if_neg hj
    ·rw[hT1,hll];exact if_pos rfl
   rw[Dc,hs1]
   have hp1':=I1.pos
   have hsl:=iX w h a (ll.getD x []) (ao w h a ll cs m x)
   refine ⟨⟨rfl,rfl,trivial⟩,fun H' hl hd =>?_,⟨fA (by rw[de];omega) rfl,.inl rfl,(eQ _ _ _).trans I.m0,by decide,aU bJ _,by rw[hll];omega⟩,dG rfl ⟨rfl,Nat.zero_le _,?_,fun _=>rfl,?_⟩⟩
   ·have:=xA w h a (ll.getD x []) (hs x hlt) w h (t+(x:Int)) (ao w h a ll cs m x) hl hd.1 hd.2.1
    rw[hfx]at this
    exact this.wkA ⟨av ⟨ah _,ah _,ct,trivial⟩,ah _,av ⟨ah _,ah _,ah _,ct,trivial⟩,trivial⟩
   ·rw[AE]
    repeat' first|exact (eS _ 0 _).symm|exact bc _ _|exact ey _ _|exact bn _ _|exact eJ _ _ _ _ _|exact trivial|exact rfl|exact ah _|refine aq ?_|refine aw ?_ ?_|exact aF|exact aJ _ _ _ (.inl rfl)|(exact bi (by omega))|refine aD ?_|refine av ?_|refine aC ?_ ?_ ?_|refine aB ?_ ?_ ?_|refine toMax ?_|refine toMin ?_|refine ⟨rfl,?_⟩|refine ⟨trivial,?_⟩|(refine aG (fun h =>?_) (fun h =>?_))|(refine aE (fun h =>?_) (fun h =>?_))|(refine aI (fun h =>?_) (fun h =>?_))|refine aA ?_|(refine ⟨az (by omega),?_⟩)|(refine And.intro (by omega) ?_)|apply And.intro|(exact iEq (by omega))|(exact az (by omega))
   intro y hy
   have hal:=eK a m (au w h a (ll.getD x []) (ao w h a ll cs m x)) y
   have hrun:ao w h a ll cs m (x+1)=agL a m (au w h a (ll.getD x []) (ao w h a ll cs m x)) a.length:=rfl
   refine aG (fun k2 =>?_) (fun k2 =>?_)
   ·have hly:y<a.length:=by omega
    have hg:(agL a m (au w h a (ll.getD x []) (ao w h a ll cs m x)) y).getD y aa=(au w h a (ll.getD x []) (ao w h a ll cs m x)).getD y aa:=by rw[im (by omega),if_neg (fun q=>by omega)]
    refine ⟨by omega,eU (n:=8) (d:=aa) (c:=0) bJ (by omega) (by omega) (by omega),by omega,fT hly (by omega),?_⟩
    rw[hg]
    refine aA (AA (fun ha =>?_) (fun ha =>?_))
    ·refine ⟨az (by omega),y+1,by omega,by omega,rfl,?_⟩
     rw[<- sH ha]
     repeat' first|exact (eS _ 0 _).symm|exact bc _ _|exact ey _ _|exact bn _ _|exact eJ _ _ _ _ _|exact trivial|exact rfl|exact ah _|refine aq ?_|refine aw ?_ ?_|exact aF|exact aJ _ _ _ (.inl rfl)|(exact bi (by omega))|refine aD ?_|refine av ?_|refine aC ?_ ?_ ?_|refine aB ?_ ?_ ?_|refine toMax ?_|refine toMin ?_|refine ⟨rfl,?_⟩|refine ⟨trivial,?_⟩|(refine aG (fun h =>?_) (fun h =>?_))|(refine aE (fun h =>?_) (fun h =>?_))|(refine aI (fun h =>?_) (fun h =>?_))|refine aA ?_|(refine ⟨az (by omega),?_⟩)|(refine And.intro (by omega) ?_)|apply And.intro|(exact iEq (by omega))|(exact az (by omega))
    ·have hb1:bp ((agL a m (au w h a (ll.getD x []) (ao w h a ll cs m x)) y).flatMap cellC) (0+Int.toNat ((y:Nat):Int)*8) (cellC (bV ((au w h a (ll.getD x []) (ao w h a ll cs m x)).getD y aa) m 1).1)=(agL a m (au w h a (ll.getD x []) (ao w h a ll cs m x)) (y+1)).flatMap cellC:=by
      rw[show 0+Int.toNat ((y:Nat):Int)*8=y*8 by omega,iN bJ _ _ (by omega) _,u5 (by omega) ha]
     refine ⟨trivial,fun H' _ _=>C8 _ m 1 H',by omega,by rw[aU bJ];omega,rfl,az (by omega),y+1,by omega,by omega,rfl,?_⟩
     repeat' first|(exact congrArg (fun q=>some (ab.cells true 8 q)) hb1)|exact (eS _ 0 _).symm|exact bc _ _|exact ey _ _|exact bn _ _|exact eJ _ _ _ _ _|exact trivial|exact rfl|exact ah _|refine aq ?_|refine aw ?_ ?_|exact aF|exact aJ _ _ _ (.inl rfl)|(exact bi (by omega))|refine aD ?_|refine av ?_|refine aC ?_ ?_ ?_|refine aB ?_ ?_ ?_|refine toMax ?_|refine toMin ?_|refine ⟨rfl,?_⟩|refine ⟨trivial,?_⟩|(refine aG (fun h =>?_) (fun h =>?_))|(refine aE (fun h =>?_) (fun h =>?_))|(refine aI (fun h =>?_) (fun h =>?_))|refine aA ?_|(refine ⟨az (by omega),?_⟩)|(refine And.intro (by omega) ?_)|apply And.intro|(exact iEq (by omega))|(exact az (by omega))
   ·obtain rfl:y=a.length:=by omega
    have I2:=I1.put (t:=x+1) (by omega) (ao w h a ll cs m (x+1)) kF rfl
    rw[pM,qX (by omega)]at I2
    have hl2:(ao w h a ll cs m (x+1)).length=(au w h a (ll.getD x []) (ao w h a ll cs m x)).length:=by rw[hrun,eK]
    rw[hl2,hrun]at I2
    refine ⟨⟨by omega,by decide,⟨Nat.le_refl _,by rw[de];omega⟩,⟨Nat.le_refl _,Nat.le_refl _⟩,rfl⟩,rfl,⟨xW,.inl rfl,I1.m0,by decide,by rw[aU bJ,eK],by omega⟩,az (by omega),(x+1,_),⟨by show x+1<=_;omega,ek hu he,I2⟩,by show _-(x+1)<_;omega,rfl,?_⟩
    dsimp only
    repeat' first|exact I2.wkM rfl|(exact qq (F:=16) (by rfl) (xV (fun j hj=>⟨by rw[dM hj,dM (by omega)],if_neg (by omega)⟩) (by rw[dM (Nat.le_refl _)];exact hl2) (if_pos rfl) (by omega)))|exact (eS _ 0 _).symm|exact bc _ _|exact ey _ _|exact bn _ _|exact eJ _ _ _ _ _|exact trivial|exact rfl|exact ah _|refine aq ?_|refine aw ?_ ?_|exact aF|exact aJ _ _ _ (.inl rfl)|(exact bi (by omega))|refine aD ?_|refine av ?_|refine aC ?_ ?_ ?_|refine aB ?_ ?_ ?_|refine toMax ?_|refine toMin ?_|refine ⟨rfl,?_⟩|refine ⟨trivial,?_⟩|(refine aG (fun h =>?_) (fun h =>?_))|(refine aE (fun h =>?_) (fun h =>?_))|(refine aI (fun h =>?_) (fun h =>?_))|refine aA ?_|(refine ⟨az (by omega),?_⟩)|(refine And.intro (by omega) ?_)|apply And.intro|(exact iEq (by omega))|(exact az (by omega))
  ·rw[if_neg he]at hfx
   have hr:=dS (w':=w) (h':=h) (m:=m) (e5.trans (gO hu he hlt)) he
   refine ⟨⟨rfl,rfl,trivial⟩,fun H' hl hd =>?_,⟨fA (by rw[de];omega) rfl,.inl rfl,(eQ _ _ _).trans I.m0,by decide,aU bJ _,by rw[hll];omega⟩,by rw[show (eZ w h a ll t x != 0)=true from bne_iff_ne.2 he],⟨rfl,rfl,trivial⟩,fun H' hl hd=>nd w h a ll w h t cs m (by omega) hs hl hd.1 hd.2.1,dG (by rw[hr];exact bne_self_eq_false _) (dG (by rw[hr];rfl) ⟨⟨rfl,trivial⟩,fun H' _ hd=>(iH w h t cs (by omega) hd.1).wkA ⟨av ⟨ah _,ah _,ah _,ct,trivial⟩,ah _,trivial⟩,⟨rfl,rfl,rfl,rfl,trivial⟩,fun H' _ hd=>(nl w h a (by omega) ll (by omega) hs hd.1 hd.2.1 hd.2.2.1 hd.2.2.2.1).wkA ⟨av ⟨ah _,ah _,ct,trivial⟩,ah _,ct,ah _,trivial⟩,trivial,fun H' _ _=>eh H',rfl⟩)⟩
   have:=xA w h a (ll.getD x []) (hs x hlt) w h (t+(x:Int)) (ao w h a ll cs m x) hl hd.1 hd.2.1
   rw[hfx]at this
   exact this.wkA ⟨av ⟨ah _,ah _,ct,trivial⟩,ah _,av ⟨ah _,ah _,ah _,ct,trivial⟩,trivial⟩
 ·obtain rfl:x=ll.length:=by omega
  have hr:=yl (w':=w) (h':=h) (m:=m) (e5.trans hu)
  have hrl:=mL w h a ll t cs m ll.length
  refine ⟨⟨rfl,rfl,trivial⟩,fun H' hl hd=>nd w h a ll w h t cs m (by omega) hs hl hd.1 hd.2.1,?_⟩
  rw[hr]
  dsimp only
  refine dG rfl (dG (by rw[hrl];exact bne_self_eq_false _) ⟨rfl,⟨Nat.zero_le _,by rw[oW];exact I⟩,?_,fun _=>rfl,?_⟩)
  ·repeat' first|exact I.wkM rfl|(exact qq (F:=16) (by rfl) (by rw[oW]))|exact (eS _ 0 _).symm|exact bc _ _|exact ey _ _|exact bn _ _|exact eJ _ _ _ _ _|exact trivial|exact rfl|exact ah _|refine aq ?_|refine aw ?_ ?_|exact aF|exact aJ _ _ _ (.inl rfl)|(exact bi (by omega))|refine aD ?_|refine av ?_|refine aC ?_ ?_ ?_|refine aB ?_ ?_ ?_|refine toMax ?_|refine toMin ?_|refine ⟨rfl,?_⟩|refine ⟨trivial,?_⟩|(refine aG (fun h =>?_) (fun h =>?_))|(refine aE (fun h =>?_) (fun h =>?_))|(refine aI (fun h =>?_) (fun h =>?_))|refine aA ?_|(refine ⟨az (by omega),?_⟩)|(refine And.intro (by omega) ?_)|apply And.intro|(exact iEq (by omega))|(exact az (by omega))
  rintro ⟨i,U⟩ ⟨hi,J⟩
  dsimp only at hi J ⊢
  have Dm:=iE w h a ll m hcl i
  refine aG (fun k3 =>?_) (fun k3 =>?_)
  ·have hil:i<=ll.length:=by omega
   have hrw:=J.rw i (by omega)
   rw[jL (Nat.lt_irrefl _) hil]at hrw
   have hp:=J.pos
   have hll:=dN (ao w h a ll cs m i).length (U.ks i) U.ms
   refine ⟨⟨by rw[qr hil,jL (Nat.lt_irrefl _) hil],J.m0,aU bJ _,hrw⟩,by omega,rX hil _ (by omega),by omega,?_,⟨rfl,trivial⟩,fun H' _ hd=>(iH w h (t+(i:Int)) _ (by omega) hd.1).wkA ⟨av ⟨ah _,ah _,ah _,ct,trivial⟩,ah _,trivial⟩,rfl,Nat.zero_le _,?_,fun _=>rfl,?_⟩
   ·have:=eU (n:=4) (f:=chD) (d:=dB) (xs:=cF w h a ll t cs m ll.length) (k:=i) (c:=0) (m:=4) (off:=0+Int.toNat ((i:Nat):Int)*4) mo (by omega) (by omega) (by omega)
    rw[qY hil]at this
    exact this
   ·rw[vp]
    repeat' first|exact (eS _ 0 _).symm|exact bc _ _|exact ey _ _|exact bn _ _|exact eJ _ _ _ _ _|exact trivial|exact rfl|exact ah _|refine aq ?_|refine aw ?_ ?_|exact aF|exact aJ _ _ _ (.inl rfl)|(exact bi (by omega))|refine aD ?_|refine av ?_|refine aC ?_ ?_ ?_|refine aB ?_ ?_ ?_|refine toMax ?_|refine toMin ?_|refine ⟨rfl,?_⟩|refine ⟨trivial,?_⟩|(refine aG (fun h =>?_) (fun h =>?_))|(refine aE (fun h =>?_) (fun h =>?_))|(refine aI (fun h =>?_) (fun h =>?_))|refine aA ?_|(refine ⟨az (by omega),?_⟩)|(refine And.intro (by omega) ?_)|apply And.intro|(exact iEq (by omega))|(exact az (by omega))
   intro y hy
   refine ⟨by omega,fA (by rw[de];omega) (by omega),aG (fun k4 =>?_) (fun k4 =>?_)⟩
   ·have hly:y<(ao w h a ll cs m i).length:=by omega
    have es:bp ((cE (ao w h a ll cs m i) y).flatMap cellC) (0+Int.toNat ((y:Nat):Int)*8) (cellC cn)=(cE (ao w h a ll cs m i) (y+1)).flatMap cellC:=by
     rw[<- vo hly,<- iN bJ _ y (by rw[dJ];exact hly),show 0+Int.toNat ((y:Nat):Int)*8=y*8 by omega]
    refine ⟨by omega,fA (by rw[de];omega) (by omega),trivial,fun H' _ _=>zF H',by omega,by rw[aU bJ,dJ];omega,rfl,az (by omega),y+1,by omega,by omega,rfl,?_⟩
    repeat' first|(exact congrArg (fun q=>some (ab.cells true 8 q)) es)|exact (eS _ 0 _).symm|exact bc _ _|exact ey _ _|exact bn _ _|exact eJ _ _ _ _ _|exact trivial|exact rfl|exact ah _|refine aq ?_|refine aw ?_ ?_|exact aF|exact aJ _ _ _ (.inl rfl)|(exact bi (by omega))|refine aD ?_|refine av ?_|refine aC ?_ ?_ ?_|refine aB ?_ ?_ ?_|refine toMax ?_|refine toMin ?_|refine ⟨rfl,?_⟩|refine ⟨trivial,?_⟩|(refine aG (fun h =>?_) (fun h =>?_))|(refine aE (fun h =>?_) (fun h =>?_))|(refine aI (fun h =>?_) (fun h =>?_))|refine aA ?_|(refine ⟨az (by omega),?_⟩)|(refine And.intro (by omega) ?_)|apply And.intro|(exact iEq (by omega))|(exact az (by omega))
   ·obtain rfl:y=(ao w h a ll cs m i).length:=by omega
    have J2:=J.put (t:=i) (by omega) (cE (ao w h a ll cs m i) (ao w h a ll cs m i).length) kF rfl
    rw[pT,jL (Nat.lt_irrefl _) hil,dJ]at J2
    refine ⟨⟨fA (by rw[de];omega) rfl,.inl rfl,(eQ _ _ _).trans J.m0,by decide,by rw[aU bJ,dJ],by rw[hll];omega⟩,az (by omega),(i+1,_),⟨by show i+1<=_;omega,J2⟩,by show _-(i+1)<_;omega,rfl,?_⟩
    dsimp only
    repeat' first|exact J2.wkM rfl|(exact qq (F:=16) (by rfl) (uN hil _ (fun j hj hne=>⟨by rw[iF hj,iF hj],if_neg hne⟩) (iF hil) ((if_pos rfl).trans (by rw[hll]))))|exact (eS _ 0 _).symm|exact bc _ _|exact ey _ _|exact bn _ _|exact eJ _ _ _ _ _|exact trivial|exact rfl|exact ah _|refine aq ?_|refine aw ?_ ?_|exact aF|exact aJ _ _ _ (.inl rfl)|(exact bi (by omega))|refine aD ?_|refine av ?_|refine aC ?_ ?_ ?_|refine aB ?_ ?_ ?_|refine toMax ?_|refine toMin ?_|refine ⟨rfl,?_⟩|refine ⟨trivial,?_⟩|(refine aG (fun h =>?_) (fun h =>?_))|(refine aE (fun h =>?_) (fun h =>?_))|(refine aI (fun h =>?_) (fun h =>?_))|refine aA ?_|(refine ⟨az (by omega),?_⟩)|(refine And.intro (by omega) ?_)|apply And.intro|(exact iEq (by omega))|(exact az (by omega))
  ·exact ⟨⟨rfl,trivial⟩,fun H' _ hd=>(iH w h t cs (by omega) hd.1).wkA ⟨av ⟨ah _,ah _,ah _,ct,trivial⟩,ah _,trivial⟩,⟨rfl,rfl,rfl,rfl,trivial⟩,fun H' _ hd=>(nl w h a (by omega) ll (by omega) hs hd.1 hd.2.1 hd.2.2.1 hd.2.2.2.1).wkA ⟨av ⟨ah _,ah _,ct,trivial⟩,ah _,ct,ah _,trivial⟩,trivial,fun H' _ _=>eh H',rfl⟩
end
end Go.Proofs.YtkkgnalgmebfjaaGreat
namespace Go.K
open Go Go.RowKit Go.ChangeAt Go.WideShapes
variable {P:Program} {HH:Type} {enc:TypeId×Value->HH}
def cT(P:Program):Nat->TypeId->List Value->Prop
 |0,_,_=>False
 |n+1,t,cs=>match P.underlying t with
  |some .bool => ∃b,cs=[.bool b]
  |some (.int k) => ∃x,cs=[.int k x]/\k.min<=x/\x<=k.max
  |some .string => ∃s,cs=[.string s]
  |some (.struct fs)=>dA (cT P n) (fs.toList.map (·.type)) cs
  |some (.slice e) => ∃len ds,cs=[.iface (len+1) (.agg ⟨ds⟩)]/\ds.length=len*P.cellsOf e/\len<=maxLen/\dA (cT P n) (List.replicate len e) ds
  |some (.array k e)=>dA (cT P n) (List.replicate k e) cs
  |_=>False
def l5(P:Program)(H:Heap):Nat->TypeId->List Value->Prop
 |0,_,_=>False
 |n+1,t,cs=>match P.underlying t with
  |some .bool => ∃b,cs=[.bool b]
  |some (.int k) => ∃x,cs=[.int k x]/\k.min<=x/\x<=k.max
  |some .string => ∃s,cs=[.string s]
  |some (.struct fs)=>dA (l5 P H n) (fs.toList.map (·.type)) cs
  |some (.slice e)=>cs=[.slice none 0 0]∨cs=[.slice (some ⟨0,0,some 0⟩) 0 0] ∨
    ∃id len ds,cs=[.slice (some ⟨id,0,none⟩) len len]/\H[id]?=some (.cells false 0 ds)/\ds.length=len*P.cellsOf e/\len<=maxLen/\dA (cT P n) (List.replicate len e) ds
  |some (.array k e)=>dA (l5 P H n) (List.replicate k e) cs
  |_=>False
theorem l5.mono{H K:Heap}:∀{n:Nat} {t:TypeId} {cs:List Value},l5 P H n t cs->l5 P (H++K) n t cs:=by
 intro n
 induction n with
 |zero=>intro t cs h;exact h
 |succ n ih =>
  intro t cs h
  unfold l5 at h ⊢
  split at h
  ·exact h
  ·exact h
  ·exact h
  ·exact dA.mono (fun _ _=>ih) h
  ·rcases h with h|h|⟨id,len,cs',h1,h2,h3,h4,h5⟩
   ·exact .inl h
   ·exact .inr (.inl h)
   ·exact .inr (.inr ⟨id,len,cs',h1,by rw[List.getElem?_append_left (List.getElem?_eq_some_iff.1 h2).1];exact h2,h3,h4,h5⟩)
  ·exact dA.mono (fun _ _=>ih) h
  ·exact h
def Low(B:Nat)(Z:Ren)(W:World):Prop:=(∀b m ty fz,b<B->W.heap[b]?=some (.cells m ty fz)->Z.mem b=some m)/\∀id r,Z id=some r->r.b<B
theorem qt{B:Nat}{Z:Ren}{H:Heap}{W:World}{n:Nat}(IH:∀(t:TypeId) (cs cs':List Value),Good P H n t cs->VRl Z cs cs'->∃ds,VRl Z ds cs'/\cT P n t ds) :
  ∀(ts:List TypeId) (cs cs':List Value),dA (Good P H n) ts cs->VRl Z cs cs'->∃ds,VRl Z ds cs'/\dA (cT P n) ts ds:=by
 intro ts
 induction ts with
 |nil=>intro cs cs' h hv;rw[show cs=[] from h]at hv;exact ⟨[],hv,rfl⟩
 |cons t ts ih =>
  rintro cs cs' ⟨c,rest,rfl,h1,h2⟩ hv
  have hl:(c++rest).length=cs'.length:=hv.1
  rw[br]at hl
  have v1:VRl Z c (cs'.take c.length):=⟨by rw[List.length_take];omega,fun i v v' a b=>by
   have hi:=(List.getElem?_eq_some_iff.1 a).1
   rw[List.getElem?_take,if_pos hi]at b
   exact hv.2 i v v' (by rw[List.getElem?_append_left hi];exact a) b⟩
  have v2:VRl Z rest (cs'.drop c.length):=⟨by rw[List.length_drop];omega,fun i v v' a b=>by
   rw[List.getElem?_drop]at b
   exact hv.2 (c.length+i) v v' (by rw[List.getElem?_append_right (by omega),Nat.add_sub_cancel_left];exact a) b⟩
  obtain ⟨d1,w1,g1⟩:=IH t c _ h1 v1
  obtain ⟨d2,w2,g2⟩:=ih rest _ h2 v2
  refine ⟨d1++d2,?_,d1,d2,rfl,g1,g2⟩
  have:=VRl.append w1 w2
  rw[List.take_append_drop]at this
  exact this
theorem vK{Z:Ren}{r:RI}{cs:List Value}{W:World}(h:bt Z r (.cells false 0 cs) W):∃m ty fz,W.heap[r.b]?=some (.cells m ty fz)/\(cs.length=0∨cs.length+r.s<=m.size)/\VRl Z cs ((m.toList.drop r.s).take cs.length)/\m.size=r.n:=by
 obtain ⟨_,_,m,ty,fz,hb,hsz,_,hcs⟩:=h
 have hle:cs.length=0∨cs.length+r.s<=m.size:=by
  rcases Nat.eq_zero_or_pos cs.length with h0|h0
  ·exact .inl h0
  ·right
   obtain ⟨v',g1,_⟩:=hcs (cs.length-1) _ (List.getElem?_eq_getElem (by omega))
   have:=(Array.getElem?_eq_some_iff.1 g1).1
   omega
 refine ⟨m,ty,fz,hb,hle,⟨?_,fun i v v' a b =>?_⟩,hsz⟩
 ·have e:m.toList.length=m.size:=Array.length_toList
  rw[List.length_take,List.length_drop,e]
  rcases hle with h|h <;> omega
 ·obtain ⟨v2,g1,g2⟩:=hcs i v a
  have hi:=(List.getElem?_eq_some_iff.1 a).1
  rw[List.getElem?_take,if_pos hi,List.getElem?_drop,Array.getElem?_toList,Nat.add_comm,g1]at b
  cases b;exact g2
theorem yv{B:Nat}{Z:Ren}{H:Heap}{W:World}(hr:Rel P B Z H W)(hlow:Low B Z W):∀(n:Nat) (t:TypeId) (cs cs':List Value),Good P H n t cs->VRl Z cs cs'->∃ds,VRl Z ds cs'/\cT P n t ds:=by
 intro n
 induction n with
 |zero=>intro t cs cs' h;exact h.elim
 |succ n ih =>
  intro t cs cs' h hv
  have single:∀v,cs=[v]->∃x,cs'=[x]/\VR Z v x:=by
   rintro v rfl
   have hl:cs'.length=1:=hv.1.symm
   obtain ⟨x,rfl⟩:=List.length_eq_one_iff.1 hl
   exact ⟨x,rfl,hv.2 0 v x rfl rfl⟩
  unfold Good at h
  split at h
  ·rename_i hu;exact ⟨cs,hv,by unfold cT;rw[hu];exact h⟩
  ·rename_i k hu;exact ⟨cs,hv,by unfold cT;rw[hu];exact h⟩
  ·rename_i hu;exact ⟨cs,hv,by unfold cT;rw[hu];exact h⟩
  ·rename_i fs hu
   obtain ⟨ds,w,g⟩:=qt (B:=B) (W:=W) ih _ cs cs' h hv
   exact ⟨ds,w,by unfold cT;rw[hu];exact g⟩
  ·rename_i e hu
   have A3:∀x,(∃a c,x = .slice a 0 c)->∃ds,VRl Z ds [x]/\cT P (n+1) t ds:=by
    rintro x ⟨a,c,rfl⟩
    refine ⟨[.iface 1 (.agg ⟨[]⟩)],.cons .cu (.nil Z),?_⟩
    unfold cT
    rw[hu]
    exact ⟨0,[],rfl,by simp,by simp[maxLen],rfl⟩
   rcases h with h|h|⟨id,len,csi,h1,h2,h3,h4,h5⟩
   ·obtain ⟨x,rfl,hx⟩:=single _ h
    cases hx;exact A3 _ ⟨_,_,rfl⟩
   ·obtain ⟨x,rfl,hx⟩:=single _ h
    refine A3 _ ?_
    generalize hz:(Value.slice (some ⟨0,0,some 0⟩) 0 0)=z at hx
    cases hx <;> cases hz
    exact ⟨_,_,rfl⟩
   ·obtain ⟨x,rfl,hx⟩:=single _ h1
    rcases Nat.eq_zero_or_pos len with h0|h0
    ·subst h0
     refine A3 _ ?_
     cases hx with
     |slice h hl hc _=>exact ⟨_,_,rfl⟩
     |bK h=>exact ⟨_,_,rfl⟩
    ·obtain ⟨r,cap',hid,hc,rfl⟩:∃r cap',Z id=some r/\len<=cap'/\x = .slice (some ⟨r.b,0+r.s,none⟩) len cap':=by
      generalize hz:(Value.slice (some ⟨id,0,none⟩) len len)=z at hx
      cases hx <;> cases hz
      ·exact ⟨_,_,‹_›,by omega,rfl⟩
      ·exact absurd h0 (Nat.lt_irrefl 0)
     obtain ⟨m,ty,fz,hb,hle,hvr,_⟩:=vK (hr.obj id r _ hid h2)
     have hm:=hlow.1 r.b m ty fz (hlow.2 id r hid) hb
     obtain ⟨ds,w,g⟩:=qt (B:=B) (W:=W) ih _ csi _ h5 hvr
     have hdl:ds.length=csi.length:=by
      have e1:=w.1
      have e2:=hvr.1
      omega
     refine ⟨[.iface (len+1) (.agg ⟨ds⟩)],.cons ?_ (.nil Z),?_⟩
     ·rw[Nat.zero_add]
      refine .deep hm h0 hc (by show ds.length=0∨ds.length+r.s<=m.size;rw[hdl];exact hle) (fun i v v' a b =>?_)
      have hi:i<ds.length:=by have:=(Array.getElem?_eq_some_iff.1 a).1;simpa using this
      refine w.2 i v v' (by simpa using a) ?_
      rw[List.getElem?_take,if_pos (by omega),List.getElem?_drop,Array.getElem?_toList,Nat.add_comm];exact b
     ·unfold cT
      rw[hu]
      exact ⟨len,ds,rfl,by rw[hdl];exact h3,h4,g⟩
  ·rename_i k e hu
   obtain ⟨ds,w,g⟩:=qt (B:=B) (W:=W) ih _ cs cs' h hv
   exact ⟨ds,w,by unfold cT;rw[hu];exact g⟩
  ·exact h.elim
theorem Low.set{B:Nat}{Z:Ren}{W:World}(h:Low B Z W){id:Nat}{ri:RI}(hb:ri.b<B):Low B (Z.set id ri) W:=by
 refine ⟨h.1,fun i r hi =>?_⟩
 by_cases e:i=id
 ·subst e;rw[Ren.aQ]at hi;cases hi;exact hb
 ·rw[Ren.aP e]at hi;exact h.2 i r hi
def qy(P:Program)(H:Heap)(n:Nat)(t:TypeId)(v:Value):Prop :=
 match P.underlying t with
 |some (.struct _) => ∃cs:List Value,v = .agg ⟨cs⟩/\l5 P H n t cs
 |_=>l5 P H n t [v]
theorem qy.mono{H K:Heap}{n:Nat}{t:TypeId}{v:Value}(h:qy P H n t v):qy P (H++K) n t v:=by
 unfold qy at h ⊢
 split at h
 ·obtain ⟨cs,h1,h2⟩:=h;exact ⟨cs,h1,h2.mono⟩
 ·exact h.mono
end Go.K
namespace Go.K
open Go Go.ChangeShapes Go.WideShapes Go.ChangeAt Go.RowKit
variable {P:Program} {HH:Type} {enc:TypeId×Value->HH}
def eT(P:Program)(n:Nat)(t:TypeId)(v:Value):Prop :=
 match P.underlying t with
 |some (.struct _) => ∃cs:List Value,v = .agg ⟨cs⟩/\cT P n t cs
 |_=>cT P n t [v]
def jX(P:Program)(n:Nat):List TypeId->List Value->Prop
 | [],[] =>True
 |t :: ts,v :: vs=>eT P n t v/\jX P n ts vs
 |_,_=>False
theorem zX{B:Nat}{W:World}{n:Nat}{t:TypeId}{v v':Value}{Z:Ren}{H:Heap}(h:iS P H n t v)(hv:VR Z v v')(hr:Rel P B Z H W)(hlow:Low B Z W):∃v2,VR Z v2 v'/\eT P n t v2:=by
 unfold iS at h
 split at h
 ·rename_i fs hu
  obtain ⟨cs,rfl,h⟩:=h
  cases hv with
  | @agg _ cs' h1 h2 =>
   obtain ⟨ds,w,g⟩:=yv hr hlow n t cs cs'.toList h ⟨by simpa using h1,fun i a b c d=>h2 i a b (by simpa using c) (by simpa using d)⟩
   refine ⟨.agg ⟨ds⟩,.agg (by have:=w.1;simpa using this) (fun i a b c d=>w.2 i a b (by simpa using c) (by simpa using d)),?_⟩
   unfold eT;rw[hu];exact ⟨ds,rfl,g⟩
 ·rename_i hns
  obtain ⟨ds,w,g⟩:=yv hr hlow n t [v] [v'] h (.cons hv (.nil Z))
  have hl:ds.length=1:=w.1
  obtain ⟨v2,rfl⟩:=List.length_eq_one_iff.1 hl
  refine ⟨v2,w.2 0 v2 v' rfl rfl,?_⟩
  unfold eT
  split
  ·rename_i fs hu;exact absurd hu (hns fs)
  ·exact g
theorem zY{B:Nat}{W:World}{n:Nat}{Z:Ren}{H:Heap}(hr:Rel P B Z H W)(hlow:Low B Z W):∀(ts:List TypeId) (vs vs':List Value),yT P H n ts vs->VRl Z vs vs'->∃ws,VRl Z ws vs'/\jX P n ts ws:=by
 intro ts
 induction ts with
 |nil =>
  intro vs vs' h hv
  match vs,h with
  | [],_=>exact ⟨[],hv,trivial⟩
 |cons t ts ih =>
  intro vs vs' h hv
  match vs,h with
  |v :: vs,⟨h1,h2⟩ =>
   match vs',hv with
   | [],hv=>exact absurd hv.1 (by simp)
   |v' :: vs',hv =>
    obtain ⟨w1,r1,g1⟩:=zX h1 (hv.2 0 v v' rfl rfl) hr hlow
    obtain ⟨ws,r2,g2⟩:=ih vs vs' h2 (show VRl Z vs vs' from ⟨by have:=hv.1;simpa using this,fun i a b c d=>hv.2 (i+1) a b (by simpa using c) (by simpa using d)⟩)
    exact ⟨w1 :: ws,.cons r1 r2,g1,g2⟩
theorem te{N n b0:Nat}{ts:List TypeId}{args:Array Value}{W:World}{ds:List (DataW HH)}{ps:List MemPlace}{held:Bool}(hG:P.globals.size<=W.heap.size)(hplain:ts.all (zb P n)=true)
  (hok:∀(j:Nat) (t:TypeId) (v:Value),ts[j]?=some t->args.toList[j]?=some v->Value.okWide P W .any b0 t v) (h:DataW.TrodAll enc P W 0 (fun _=>true) held ts args.toList ds ps)
  (De:∀(H:Heap) (vs:List Value),jX P n ts vs->am P N vs H [] (fun v _=>v = .bool true)) :
  Calls P N args W fun e W'=>e = .returned (.bool true)/\RowKit.Below W.heap.size W W':=by
 have hr:Rel P W.heap.size ⟨fun g=>if g<P.globals.size then some ⟨g,0,0,0,false⟩ else none,fun b=>match W.heap[b]? with|some (.cells m _ _)=>some m|_=>none,fun _ _=>none⟩ (List.replicate P.globals.size .dead) W:=by
  have fM:∀(id:Nat) (o:ab),(List.replicate P.globals.size ab.dead)[id]?=some o->o = .dead:=fun id o ho=>by
   rw[List.getElem?_replicate]at ho
   split at ho
   ·cases ho;rfl
   ·cases ho
  refine ⟨Nat.le_refl _,fun g hg=>⟨_,if_pos hg,rfl,rfl⟩,fun id r h1 =>?_,fun id r h1 =>?_,fun id r o h1 h2 =>?_,fun id r o h1 h2 h3 =>?_,fun id id' r r' o o' h1 h1' h2 h2' h3 _ _ =>?_,fun b m hm=>⟨?_,fun id r o h1 h2 h3 =>?_⟩,iy.rp (fun _ _ _ h=>by cases h) (fun _ _ _ h=>by cases h) (fun F z cs h=>by have:=fM F _ h;cases this)⟩
  ·dsimp only at h1
   split at h1
   ·simpa using ‹id<_›
   ·cases h1
  ·dsimp only at h1
   split at h1
   ·cases h1;exact Nat.lt_of_lt_of_le ‹id<_› hG
   ·cases h1
  ·rw[fM id o h2];trivial
  ·rw[fM id o h2]at h3;cases h3
  ·rw[fM id o h2]at h3;cases h3
  ·dsimp only at hm
   split at hm
   ·rename_i m' ty fz e;cases hm;exact ⟨ty,fz,e⟩
   ·cases hm
  ·rw[fM id o h2]at h3;cases h3
 have Cz:Low W.heap.size ⟨fun g=>if g<P.globals.size then some ⟨g,0,0,0,false⟩ else none,fun b=>match W.heap[b]? with|some (.cells m _ _)=>some m|_=>none,fun _ _=>none⟩ W:=by
  refine ⟨fun b m ty fz _ hb=>by show (match W.heap[b]? with|some (.cells m _ _)=>some m|_=>none)=_;rw[hb],fun id r h1 =>?_⟩
  dsimp only at h1
  split at h1
  ·cases h1;exact Nat.lt_of_lt_of_le ‹id<_› hG
  ·cases h1
 obtain ⟨ρ',H',vs',e,hv,g⟩:=tQ rfl ts args.toList ds ps _ _ hplain hok h hr
 have Cy:Low W.heap.size ρ' W:=⟨fun b m ty fz h1 h2=>e.le.mem b m (Cz.1 b m ty fz h1 h2),fun id r h1=>e.rel.lt id r h1⟩
 obtain ⟨ws,hv2,g2⟩:=zY e.rel Cy ts vs' args.toList g hv
 refine callsIn_wide.1 (((De H' ws g2).2 _ ρ' W args e.rel hv2).mono ?_)
 rintro en w' ⟨v,v',ρ3,H3,rfl,h1,h2,rfl⟩
 cases h1
 exact ⟨rfl,h2.below e.rel⟩
end Go.K
namespace Go.K
open Go Go.ChangeShapes Go.WideShapes Go.ChangeAt Go.RowKit
variable {P:Program}
theorem f7:∀(n:Nat) (t:TypeId) (k:Nat) (cs:List Value),nL P n t=some k->cT P n t cs->∃ns:List Int,cs=ns.map (.int .i64)/\ns.length=k/\∀x∈ns,inI x:=by
 intro n
 induction n with
 |zero=>intro t k cs h;cases h
 |succ n ih =>
  intro t k cs h g
  unfold nL at h
  unfold cT at g
  cases hu:P.underlying t with
  |none=>rw[hu]at h;cases h
  |some d =>
   rw[hu]at h g
   cases d <;> try (cases h;done)
   ·rename_i ik
    cases ik <;> try (cases h;done)
    cases h
    obtain ⟨x,rfl,h1,h2⟩:=g
    refine ⟨[x],rfl,rfl,fun y hy =>?_⟩
    rw[List.mem_singleton]at hy;subst hy
    simp only[IntKind.min,IntKind.max,IntKind.signed,IntKind.bits]at h1 h2
    unfold inI
    simp at h1 h2
    omega
   ·rename_i fs
    simp only at h g
    have key:∀(fs:List Field) (k:Nat) (cs:List Value),fs.foldr (fun f r=>match nL P n f.type,r with|some a,some b=>some (a+b)|_,_=>none) (some 0)=some k ->
      dA (cT P n) (fs.map (·.type)) cs->∃ns:List Int,cs=ns.map (.int .i64)/\ns.length=k/\∀x∈ns,inI x:=by
     intro fs
     induction fs with
     |nil=>intro k cs h g;cases h;exact ⟨[],g,rfl,fun _ h=>by cases h⟩
     |cons f fs ihf =>
      intro k cs h g
      rw[List.foldr_cons]at h
      obtain ⟨c,rest,rfl,g1,g2⟩:=g
      cases ha:nL P n f.type with
      |none=>rw[ha]at h;cases h
      |some a =>
       cases hb:fs.foldr (fun f r=>match nL P n f.type,r with|some a,some b=>some (a+b)|_,_=>none) (some 0) with
       |none=>rw[ha,hb]at h;cases h
       |some b =>
        rw[ha,hb]at h
        cases h
        obtain ⟨n1,rfl,l1,m1⟩:=ih _ _ _ ha g1
        obtain ⟨n2,rfl,l2,m2⟩:=ihf _ _ hb g2
        exact ⟨n1++n2,by simp,by simp[l1,l2],fun x hx=>by rcases List.mem_append.1 hx with h|h;exact m1 x h;exact m2 x h⟩
    exact key _ _ _ h g
end Go.K
namespace Go.Proofs.YtkkgnalgmebfjaaGreat
open Go Go.K Go.ChangeShapes Go.WideShapes Go.ChangeAt Go.RowKit
noncomputable section
theorem f5{n:Nat}{t:TypeId}{ts:List TypeId}{vs:List Value}(h:jX Tryz.prog n (t :: ts) vs):∃v vs',vs=v :: vs'/\eT Tryz.prog n t v/\jX Tryz.prog n ts vs':=by
 cases vs with
 |nil=>exact h.elim
 |cons v vs=>exact ⟨v,vs,rfl,h.1,h.2⟩
theorem tI{n:Nat}{vs:List Value}(h:jX Tryz.prog n [] vs):vs=[]:=by
 cases vs with
 |nil=>rfl
 |cons v vs=>exact h.elim
theorem ib{α:Type}{f:α->List Value}{n t e:Nat}{cs:List Value}(hu:Tryz.prog.underlying t=some (.slice e))(hg:∀c,cT Tryz.prog n e c->∃x:α,c=f x/\True)(h:cT Tryz.prog (n+1) t cs) :
  ∃xs:List α,cs=[.iface (xs.length+1) (.agg ⟨xs.flatMap f⟩)]:=by
 unfold cT at h
 rw[hu]at h
 obtain ⟨len,ds,h1,h2,h3,h4⟩:=h
 obtain ⟨xs,rfl,rfl,_⟩:=nF (f:=f) (q:=fun _=>True) hg len ds h4
 exact ⟨xs,h1⟩
theorem gN{n:Nat}{c:List Value}(h:cT Tryz.prog (n+1) 3 c):∃x:Int,c=[.int .i64 x]:=by
 obtain ⟨ns,rfl,h2,_⟩:=f7 (n+1) 3 1 c (by unfold nL;rw[show Tryz.prog.underlying 3=some (.int .i64) by kernel_rfl]) h
 match ns,h2 with
 | [x],_=>exact ⟨x,rfl⟩
theorem r7{n:Nat}{cs:List Value}(h:cT Tryz.prog (n+1+1) 22 cs):∃a:List Bool,cs=[.iface (a.length+1) (.agg ⟨a.flatMap ak⟩)] :=
 ib (e:=4) (by kernel_rfl) (fun c hc=>by
  unfold cT at hc
  rw[show Tryz.prog.underlying 4=some .bool by kernel_rfl]at hc
  obtain ⟨b,rfl⟩:=hc
  exact ⟨b,rfl,trivial⟩) h
theorem rZ{cs:List Value}(h:cT Tryz.prog 5 28 cs):∃l:List Cell,cs=[ceV l] :=
 ib (e:=90) (by kernel_rfl) (fun c hc=>by
  obtain ⟨ns,rfl,h2,_⟩:=f7 4 90 8 c (by kernel_rfl) hc
  match ns,h2 with
  | [a1,a2,a3,a4,a5,a6,a7,a8],_=>exact ⟨⟨⟨a1,a2⟩,⟨a3,a4⟩,⟨a5,a6⟩,⟨a7,a8⟩⟩,rfl,trivial⟩) h
theorem rY{cs:List Value}(h:cT Tryz.prog 5 25 cs):∃l:List Flow,cs=[flV l]/\True:=by
 obtain ⟨l,e⟩:=ib (e:=87) (f:=aS) (n:=4) (by kernel_rfl) (fun c hc=>by
  obtain ⟨ns,rfl,h2,_⟩:=f7 4 87 4 c (by kernel_rfl) hc
  match ns,h2 with
  | [a1,a2,a3,a4],_=>exact ⟨⟨⟨a1,a2⟩,⟨a3,a4⟩⟩,rfl,trivial⟩) h
 exact ⟨l,e,trivial⟩
theorem yi(ll:List (List Flow)):ll.flatMap (fun l=>[flV l])=flL ll:=by
 induction ll with
 |nil=>rfl
 |cons l ll ih=>rw[List.flatMap_cons,ih];rfl
theorem qs{v:Value}(h:eT Tryz.prog 6 69 v):∃ll:List (List Flow),v = .iface (ll.length+1) (.agg ⟨flL ll⟩):=by
 unfold eT at h
 rw[show Tryz.prog.underlying 69=some (.slice 25) by kernel_rfl]at h
 obtain ⟨ll,e⟩:=ib (e:=25) (f:=fun l=>[flV l]) (n:=5) (by kernel_rfl) (fun c hc=>rY hc) h
 rw[yi]at e
 exact ⟨ll,by simpa using e⟩
theorem ka{t:TypeId}{l:List TypeId}(h:(match Tryz.prog.underlying t with|some (.struct fs)=>decide (fs.toList.map (·.type)=l)|_=>false)=true):∃fs,Tryz.prog.underlying t=some (.struct fs)/\fs.toList.map (·.type)=l:=by
 split at h
 ·rename_i fs e;exact ⟨fs,e,ip h⟩
 ·cases h
theorem sD{v:Value}(h:eT Tryz.prog 6 24 v):∃(w hh:Int) (a:List Bool),v = .agg #[.int .i64 w,.int .i64 hh,.iface (a.length+1) (.agg ⟨a.flatMap ak⟩)]:=by
 obtain ⟨fs,hu,ht⟩:=ka (t:=24) (l:=[3,3,22]) (by kernel_rfl)
 unfold eT at h
 rw[hu]at h
 obtain ⟨cs,rfl,h⟩:=h
 unfold cT at h
 rw[hu]at h
 simp only[ht]at h
 obtain ⟨c1,r1,rfl,h1,c2,r2,rfl,h2,c3,r3,rfl,h3,h4⟩:=h
 obtain rfl:r3=[]:=h4
 obtain ⟨w,rfl⟩:=gN h1
 obtain ⟨hh,rfl⟩:=gN h2
 obtain ⟨a,rfl⟩:=r7 h3
 exact ⟨w,hh,a,rfl⟩
theorem sx{v:Value}(h:eT Tryz.prog 6 30 v):∃(w hh t:Int) (cs:List Cell),v = .agg #[.int .i64 w,.int .i64 hh,.int .i64 t,ceV cs]:=by
 obtain ⟨fs,hu,ht⟩:=ka (t:=30) (l:=[3,3,3,28]) (by kernel_rfl)
 unfold eT at h
 rw[hu]at h
 obtain ⟨cs,rfl,h⟩:=h
 unfold cT at h
 rw[hu]at h
 simp only[ht]at h
 obtain ⟨c1,r1,rfl,h1,c2,r2,rfl,h2,c3,r3,rfl,h3,c4,r4,rfl,h4,h5⟩:=h
 obtain rfl:r4=[]:=h5
 obtain ⟨w,rfl⟩:=gN h1
 obtain ⟨hh,rfl⟩:=gN h2
 obtain ⟨t,rfl⟩:=gN h3
 obtain ⟨l,rfl⟩:=rZ h4
 exact ⟨w,hh,t,l,rfl⟩
theorem rb{v:Value}(h:eT Tryz.prog 6 72 v):∃m:bu,v=gj m:=by
 have hs:∃fs,Tryz.prog.underlying 72=some (.struct fs):=by
  have:(match Tryz.prog.underlying 72 with|some (.struct _)=>true|_=>false)=true:=by kernel_rfl
  split at this
  ·rename_i fs e;exact ⟨fs,e⟩
  ·cases this
 obtain ⟨fs,hu⟩:=hs
 unfold eT at h
 rw[hu]at h
 obtain ⟨cs,rfl,h⟩:=h
 obtain ⟨ns,rfl,h2,_⟩:=f7 6 72 8 cs (by kernel_rfl) h
 match ns,h2 with
 | [a1,a2,a3,a4,a5,a6,a7,a8],_=>exact ⟨⟨⟨a1,a2,a3,a4⟩,⟨a5,a6,a7,a8⟩⟩,rfl⟩
end
end Go.Proofs.YtkkgnalgmebfjaaGreat
