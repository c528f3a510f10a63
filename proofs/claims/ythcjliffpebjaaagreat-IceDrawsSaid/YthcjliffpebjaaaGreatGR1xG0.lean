/- Ice: the reference's reports: right ones, what they tell, lists of them. No condition. -/
import Derived.Test.YthcjliffpebjaaaGreatR1g
import Derived.Test.YthcjliffpebjaaaGreatGP5xK39
import Derived.Test.YthcjliffpebjaaaGreatGS0xP1a
open Go Go.K
set_option maxRecDepth 1000000
set_option maxHeartbeats 4000000
set_option linter.unusedVariables false
set_option linter.unusedSimpArgs false
namespace Go.Proofs.YthcjliffpebjaaaGreat
noncomputable section
attribute [local irreducible] vF eV cB
theorem tC{h:Int}(k:1<=h):Int.tmod h 2=h % 2/\Int.tdiv h 2=h / 2/\Int.tmod (h / 2) 2=h / 2 % 2/\Int.tdiv (h / 2) 2=h / 4/\Int.tmod (h / 4) 2=h / 4 % 2/\Int.tdiv (h / 4) 2=h / 8/\Int.tmod (h / 8) 2=h / 8 % 2/\Int.tdiv (h / 8) 2=h / 16:=by
 refine ⟨Int.tmod_eq_emod_of_nonneg (by omega),Int.tdiv_eq_ediv_of_nonneg (by omega),Int.tmod_eq_emod_of_nonneg (by omega),?_,Int.tmod_eq_emod_of_nonneg (by omega),?_,Int.tmod_eq_emod_of_nonneg (by omega),?_⟩
 ·rw[Int.tdiv_eq_ediv_of_nonneg (by omega)];omega
 ·rw[Int.tdiv_eq_ediv_of_nonneg (by omega)];omega
 ·rw[Int.tdiv_eq_ediv_of_nonneg (by omega)];omega
set_option maxHeartbeats 4000000 in
theorem m6(r:Report)(H:Heap):ap prog F.fl [aW r] H [] (Is (.int .i64 (errReport r)) H):=by
 refine fk 40 (fun _=>rfl) rfl (Eq.mpr (nb _ r) ?_) H
 unfold iD
 have bad:∀(h:¬ c8 r),(Value.int .i64 20) = .int .i64 (errReport r):=fun h=>iEq (if_neg h).symm
 iterate 12 refine aH (fun h=>bad (fun o=>by have o:=o.1;omega)) (fun _ =>?_)
 obtain ⟨m0,t0,m1,t1,m2,t2,m3,t3⟩:=tC (h:=r.has) (by omega)
 simp only[m0,t0,m1,t1,m2,t2,m3,t3]
 repeat' first|refine ⟨_,rfl,?_⟩|exact trivial|exact rfl|exact aw _|refine av ?_|refine aA ?_ ?_|exact aG|exact aL _ _ _ (.inl rfl)|(exact bw (by omega))|refine aE ?_|refine aD ?_|refine ⟨rfl,?_⟩|refine ⟨trivial,?_⟩|(refine aH (fun h =>?_) (fun h =>?_))|(refine aJ (fun h =>?_) (fun h =>?_))|(refine aI (fun h =>?_) (fun h =>?_))|refine aC ?_|(refine ⟨aB (by omega),?_⟩)|(refine And.intro (by omega) ?_)|apply And.intro|(exact iEq (by omega))|(exact aB (by omega))
 all_goals first
  |exact bad (fun o=>by have o:=o.2.1 ‹_›;unfold bJ at o;omega)
  |exact bad (fun o=>by have o:=o.2.2.1 ‹_›;unfold bJ at o;omega)
  |exact bad (fun o=>by have o:=o.2.2.2.1 ‹_›;unfold bJ at o;omega)
  |exact bad (fun o=>by have o:=o.2.2.2.2 ‹_›;unfold bJ at o;omega)
  |exact iEq (if_pos ⟨by omega,fun q=>by unfold bJ;omega,fun q=>by unfold bJ;omega,fun q=>by unfold bJ;omega,fun q=>by unfold bJ;omega⟩).symm
set_option maxHeartbeats 4000000 in
theorem rY(r:Report)(m:aO)(now:Int)(hr:c8 r)(hm:c7 m)(hh:r.at_<=now/\now<=10000)(H:Heap):ap prog F.jl [aW r,bj m,.int .i64 now] H [] (Is (cellV (br r m now)) H):=by
 refine fk 40 (fun _=>rfl) rfl (Eq.mpr (zM _ r m now) ?_) H
 have hs:=gF hr
 obtain ⟨⟨_,_,ha,_,_,hq⟩,_⟩:=hr
 unfold w8
 obtain ⟨m0,t0,m1,t1,m2,t2,m3,t3⟩:=tC (h:=r.has) (by omega)
 simp only[m0,t0,m1,t1,m2,t2,m3,t3]
 repeat' first|(refine aI (fun h =>?_) (fun h =>?_))|(refine ⟨aB (by omega),?_⟩)|refine ⟨_,rfl,?_⟩
 all_goals
  refine ⟨br r m now,trivial,fun H' _ _ =>?_,rfl⟩
  have k:=xB (lB r) m (now-r.at_) hs hm (by omega) H'
  refine (congrArg (fun a=>ap prog F.eR [a,bj m,.int .i64 (now-r.at_)] H' [] (Is (cellV (br r m now)) H')) ?_).mp k
  simp only[*,lB,if_true,if_false]
theorem eQ{l:List Report}{x c:Nat}(h:x<l.length){v:Value}(hv:(aq (l.getD x ad))[c]?=some v):(l.flatMap aq)[0+Int.toNat ((x:Nat):Int)*14+c]?=some v :=
 ga (n:=14) (f:=aq) (d:=ad) dx h (by rw[Int.toNat_natCast];omega) hv
structure zI(l:List Report)(m:aO)(now:Int):Prop where
 rates:c7 m
 hour:0<=now/\now<=10000
 len:l.length<=12
 each:∀i,i<l.length->c8 (l.getD i ad)/\(l.getD i ad).at_<=now
theorem opened{l:List Report}{m:aO}{now:Int}(h:d9 l m now=0):zI l m now:=by
 have h0:dY m now=0:=by
  rcases Classical.em (dY m now=0) with k|k
  ·exact k
  ·rw[nV k]at h;exact absurd h k
 obtain ⟨hm,hn⟩:=uT h0
 have hl:=qQ h
 refine ⟨hm,hn,hl,fun i hi =>?_⟩
 have e:=dX ((nU h0 (l:=l) (by omega)).symm.trans h) i hi
 have h2:errReport (l.getD i ad)=0:=by
  rcases Classical.em (errReport (l.getD i ad)=0) with k|k
  ·exact k
  ·rw[wK k]at e;exact absurd e k
 refine ⟨fu.1 h2,?_⟩
 rcases Classical.em (∃k,k<i/\(l.getD k ad).id=(l.getD i ad).id) with h3|h3
 ·rw[wJ h2 h3]at e;cases e
 rcases Classical.em ((l.getD i ad).x≠(l.getD 0 ad).x∨(l.getD i ad).y≠(l.getD 0 ad).y) with h6|h6
 ·rw[wI h2 h3 h6]at e;cases e
 rcases Classical.em ((l.getD i ad).at_ > now) with h7|h7
 ·rw[wH h2 h3 h6 h7]at e;cases e
 ·omega
theorem gI{l:List Report}{m:aO}{now:Int}(h:d9 l m now=0):dq (told l m now):=by
 have o:=opened h
 intro i hi
 rw[gz]at hi
 rw[jd hi]
 obtain ⟨h1,h2⟩:=o.each i hi
 have:=h1.1.2.2.1
 have:=o.hour
 exact sQ (gF h1) o.rates (show 0<=now-(l.getD i ad).at_/\now-(l.getD i ad).at_<=10000 by omega)
theorem vj{f:FuncId}{args:List Value}{c:List Value}{h:Hint}(v:Nat->Value){z:Nat}{cs:List Value}
    (hc:vF prog msk (dm 0) 100000 true 40 true f args (bi 0 [c]) (some []) h (fD (bi 0 [c]).n 3 (v 1) [(true,.cells true z cs)]))
    (hp0:c.all (aS 0)=true) (hp:∀n,cs.all (aS n)=true) (h1:cC 3 (v 1)=true) (h2:rn (bQ (0+1)) 3 (v 1)=v 1) (h3:∀j,rn (cG (0+1) j) 3 (v 1)=v j)
    {H:Heap} {id:Nat} {own:Bool} {z2:Nat} (hid:H[id]?=some (.cells own z2 c)) {args':List Value} (ha:args.map (rn (sgR 0 [id]) 3)=args') :
    ap prog f args' H [] (Is (v H.length) (H ++ [.cells true z cs])):=by
  subst ha
  have key:=yJ (css:=[c]) (v:=v 1) (new:=[(true,.cells true z cs)]) hc (rN hp0) h1 h2
    (by show ((cT 3 (.cells true z cs) && true) && true) = true
        rw[Bool.and_true,Bool.and_true];exact (gk (U:=fun _=>none) (d:=0) (hp 0)).2)
    (congrArg (fun q=>[ae.cells true z q]) (gk (d:=0) (hp 0)).1) (H:=H) [id] rfl (rM hid)
  have e2:(List.map (fun x:Bool×ae=>x.2) [(true,ae.cells true z cs)]).map (rno (cG (0 + [c].length) H.length) 3)=[.cells true z cs] :=
    congrArg (fun q=>[ae.cells true z q]) (gk (d:=0) (hp 0)).1
  rw[e2,show rn (cG (0 + [c].length) H.length) 3 (v 1)=v H.length from h3 _]at key
  exact key
theorem xy(l:List Report)(m:aO)(now:Int)(he:d9 l m now=0){H:Heap}{L:Nat}(hL:H.length=L){id:Nat}{own:Bool}{z:Nat}(hid:H[id]?=some (.cells own z (l.flatMap aq))) :
  ap prog F.iK [.slice (some ⟨id,0,some 2⟩) l.length l.length,bj m,.int .i64 now] H []
   (Is (.slice (some ⟨L,0,some 1⟩) (conf (told l m now) l.length).length (conf (told l m now) l.length).length) (H ++ [.cells true 2 ((conf (told l m now) l.length).flatMap bq)])):=by
 subst hL
 refine vj (fun i => .slice (some ⟨i,0,some 1⟩) (conf (told l m now) l.length).length (conf (told l m now) l.length).length) (Eq.mpr (ya l m now) ?_) (bX 0 l) (fun n=>fR n _) rfl (by simp[rn,bQ]) (fun j=>by simp[rn,cG]) hid rfl
 unfold tR
 have o:=opened he
 have hn:=o.len
 have hn2:=gz l m now
 have hr:=gI he
 refine ⟨rfl,Nat.zero_le _,?_,fun _=>rfl,?_⟩
 ·repeat' first|exact fR _ _|exact trivial|exact rfl|exact aw _|refine av ?_|refine aA ?_ ?_|exact aG|exact aL _ _ _ (.inl rfl)|(exact bw (by omega))|refine aE ?_|refine aD ?_|refine ⟨rfl,?_⟩|refine ⟨trivial,?_⟩|(refine aH (fun h =>?_) (fun h =>?_))|(refine aJ (fun h =>?_) (fun h =>?_))|(refine aI (fun h =>?_) (fun h =>?_))|refine aC ?_|(refine ⟨aB (by omega),?_⟩)|(refine And.intro (by omega) ?_)|apply And.intro|(exact iEq (by omega))|(exact aB (by omega))
 intro x hx
 have hcx:(conf (told l m now) x).length<=12*12:=Nat.le_trans (qY (told l m now) x) (Nat.mul_le_mul (by omega) (by omega))
 refine aH (fun h =>?_) (fun h =>?_)
 ·have hlt:x<l.length:=by omega
  refine ⟨aB (by omega),rfl,by omega,?_,fun _=>rfl,?_⟩
  ·have ea:conf (told l m now) x++bg (told l m now) x 0=conf (told l m now) x:=List.append_nil _
   rw[ea]
   repeat' first|exact fR _ _|exact trivial|exact rfl|exact aw _|refine av ?_|refine aA ?_ ?_|exact aG|exact aL _ _ _ (.inl rfl)|(exact bw (by omega))|refine aE ?_|refine aD ?_|refine ⟨rfl,?_⟩|refine ⟨trivial,?_⟩|(refine aH (fun h =>?_) (fun h =>?_))|(refine aJ (fun h =>?_) (fun h =>?_))|(refine aI (fun h =>?_) (fun h =>?_))|refine aC ?_|(refine ⟨aB (by omega),?_⟩)|(refine And.intro (by omega) ?_)|apply And.intro|(exact iEq (by omega))|(exact aB (by omega))
  intro k hk
  have hcr:=kP (told l m now) x k
  have hap:(conf (told l m now) x++bg (told l m now) x k).length=(conf (told l m now) x).length+(bg (told l m now) x k).length:=aX
  refine aH (fun h2 =>?_) (fun h2 =>?_)
  ·have hlt2:x+1+k<l.length:=by omega
   have g1:=jd (m:=m) (now:=now) hlt
   have g2:=jd (m:=m) (now:=now) hlt2
   have r1:=hr x (by omega)
   have r2:=hr (x+1+k) (by omega)
   rw[g1]at r1
   rw[g2]at r2
   refine ⟨by omega,dG hlt,by omega,dG hlt2,_,trivial,fun H' _ _=>rY _ m now (o.each x hlt).1 o.rates ⟨(o.each x hlt).2,o.hour.2⟩ H',_,trivial,fun H' _ _=>rY _ m now (o.each _ hlt2).1 o.rates ⟨(o.each _ hlt2).2,o.hour.2⟩ H',_,trivial,fun H' _ _=>xC _ _ r1 r2 H',aC (aH (fun ok =>?_) (fun ok =>?_))⟩
   ·rw[<- g1,<- g2]at ok
    refine ⟨aB (by omega),k+1,by omega,by omega,?_⟩
    rw[kq ok]
    repeat' first|exact fR _ _|exact trivial|exact rfl|exact aw _|refine av ?_|refine aA ?_ ?_|exact aG|exact aL _ _ _ (.inl rfl)|(exact bw (by omega))|refine aE ?_|refine aD ?_|refine ⟨rfl,?_⟩|refine ⟨trivial,?_⟩|(refine aH (fun h =>?_) (fun h =>?_))|(refine aJ (fun h =>?_) (fun h =>?_))|(refine aI (fun h =>?_) (fun h =>?_))|refine aC ?_|(refine ⟨aB (by omega),?_⟩)|(refine And.intro (by omega) ?_)|apply And.intro|(exact iEq (by omega))|(exact aB (by omega))
   ·rw[<- g1,<- g2]at ok
    refine ⟨⟨by omega,by decide,⟨Nat.le_refl _,by rw[bF hO];omega⟩,⟨by decide,Nat.le_refl _⟩,rfl⟩,rfl,aB (by omega),k+1,by omega,by omega,?_⟩
    rw[ie ok,<- List.append_assoc]
    have hl1:(conf (told l m now) x++bg (told l m now) x k ++ [(x,x+1+k)]).length=(conf (told l m now) x++bg (told l m now) x k).length+1:=aX
    repeat' first|exact fR _ _|(exact (by rw[hl1];exact bw (by omega)))|(exact congrArg (fun l=>some (ae.cells true 2 l)) (eL hO _ (x,x+1+k) rfl))|exact trivial|exact rfl|exact aw _|refine av ?_|refine aA ?_ ?_|exact aG|exact aL _ _ _ (.inl rfl)|(exact bw (by omega))|refine aE ?_|refine aD ?_|refine ⟨rfl,?_⟩|refine ⟨trivial,?_⟩|(refine aH (fun h =>?_) (fun h =>?_))|(refine aJ (fun h =>?_) (fun h =>?_))|(refine aI (fun h =>?_) (fun h =>?_))|refine aC ?_|(refine ⟨aB (by omega),?_⟩)|(refine And.intro (by omega) ?_)|apply And.intro|(exact iEq (by omega))|(exact aB (by omega))
  ·have e:conf (told l m now) (x+1)=conf (told l m now) x++bg (told l m now) x k:=by
    show _++bg _ _ _=_
    rw[show (told l m now).length-(x+1)=k by omega]
   refine ⟨aB (by omega),x+1,by omega,by omega,?_⟩
   rw[e]
   repeat' first|exact fR _ _|exact trivial|exact rfl|exact aw _|refine av ?_|refine aA ?_ ?_|exact aG|exact aL _ _ _ (.inl rfl)|(exact bw (by omega))|refine aE ?_|refine aD ?_|refine ⟨rfl,?_⟩|refine ⟨trivial,?_⟩|(refine aH (fun h =>?_) (fun h =>?_))|(refine aJ (fun h =>?_) (fun h =>?_))|(refine aI (fun h =>?_) (fun h =>?_))|refine aC ?_|(refine ⟨aB (by omega),?_⟩)|(refine And.intro (by omega) ?_)|apply And.intro|(exact iEq (by omega))|(exact aB (by omega))
 ·obtain rfl:x=l.length:=by omega
  repeat' first|exact fR _ _|exact trivial|exact rfl|exact aw _|refine av ?_|refine aA ?_ ?_|exact aG|exact aL _ _ _ (.inl rfl)|(exact bw (by omega))|refine aE ?_|refine aD ?_|refine ⟨rfl,?_⟩|refine ⟨trivial,?_⟩|(refine aH (fun h =>?_) (fun h =>?_))|(refine aJ (fun h =>?_) (fun h =>?_))|(refine aI (fun h =>?_) (fun h =>?_))|refine aC ?_|(refine ⟨aB (by omega),?_⟩)|(refine And.intro (by omega) ?_)|apply And.intro|(exact iEq (by omega))|(exact aB (by omega))
theorem uY{g:Value->Value}(hg:∀b,g (.bool b) = .bool b)(l:List Bool):(l.flatMap aN).map g=l.flatMap aN:=by
 induction l with
 |nil=>rfl
 |cons b l ih=>rw[List.flatMap_cons,List.map_append,ih];show [g (.bool b)]++_=_;rw[hg]
theorem uZ{g:Value->Bool}(hg:∀b,g (.bool b)=true)(l:List Bool):(l.flatMap aN).all g=true:=by
 induction l with
 |nil=>rfl
 |cons b l ih=>rw[List.flatMap_cons,List.all_append,ih];show (g (.bool b)&&true)&&true=true;rw[hg];rfl
theorem e6(U:Nat->Option Nat)(d:Nat)(l:List Bool):rn U (d+2) (dB l)=dB l:=by
 show Value.iface _ (.agg ⟨(l.flatMap aN).map (rn U (d+1))⟩)=_
 rw[uY (fun b=>rfl)]
theorem qX(n:Nat)(l:List Bool):aS n (dB l)=true:=uZ (fun b=>rfl) l
theorem dF(n:Nat)(L:List (List Bool)):(dBL L).all (aS n)=true:=by
 unfold dBL
 rw[List.all_map,List.all_eq_true]
 intro l _
 exact qX n l
theorem jR(L:List (List Bool)):(dBL L).length=L.length:=List.length_map ..
theorem wN(L:List (List Bool))(l:List Bool):dBL (L ++ [l])=dBL L ++ [dB l]:=List.map_append ..
theorem pu{L:List (List Bool)}{y:Nat}(hy:y<L.length):(dBL L)[0+Int.toNat ((y:Nat):Int)*1]?=some (dB (L.getD y [])):=by
 unfold dBL
 rw[Int.toNat_natCast,show 0+y*1=y by omega,List.getElem?_map,List.getElem?_eq_getElem hy,List.getD_eq_getElem?_getD,List.getElem?_eq_getElem hy];rfl
theorem Ag(n:Nat)(L:List (List Bool)):((List.take n (List.drop 0 (dBL L))).all fun v=>bV v)=true:=by
 rw[List.all_eq_true]
 intro v hv
 have h:=List.mem_of_mem_take hv
 rw[List.drop_zero]at h
 obtain ⟨l,_,rfl⟩:=List.mem_map.1 h
 rfl
theorem A0(n:Nat)(b:List Bool):((List.take n (List.drop 0 (b.flatMap aN))).all fun v=>bV v)=true:=by
 rw[List.all_eq_true]
 intro v hv
 have h:=List.mem_of_mem_take hv
 rw[List.drop_zero]at h
 obtain ⟨l,_,h⟩:=List.mem_flatMap.1 h
 rw[List.mem_singleton.1 h]
 rfl
theorem xh{cs:Array Value}:wk (.slice none 0 0) (.iface 1 (.agg cs)):=by
 intro J x h
 cases h
 exact .b7
theorem lc{xs:List Bool}{k:Nat}(h:k<xs.length):(xs.flatMap aN)[Int.toNat ((k:Nat):Int)*1]?=some (.bool (xs.getD k false)) :=
 ga (n:=1) (f:=aN) (d:=false) (c:=0) dA h (by rw[Int.toNat_natCast];omega) rfl
theorem ub(b:List Bool)(x:Nat):bP b x<=x:=Nat.le_trans List.countP_le_length (by rw[List.length_take];omega)
theorem kD{b:List Bool}{x:Nat}(hx:x<b.length):bP b (x+1)=bP b x+(b.getD x false).toNat:=by
 unfold bP
 rw[List.take_add_one,List.getElem?_eq_getElem hx,List.countP_append,List.getD_eq_getElem?_getD,List.getElem?_eq_getElem hx]
 cases h:b[x] <;> simp[h]
theorem tn(b:List Bool)(hb:b.length<=4294967296)(H:Heap):ap prog F.iL [dB b] H [] (Is (.int .i64 ((bP b b.length:Nat):Int)) H):=by
 refine fk 40 (fun U=>by rw[List.map_cons,List.map_nil,e6 U 3]) rfl (Eq.mpr (yb _ b) ?_) H
 unfold tS
 repeat' first|(refine ⟨rfl,Nat.zero_le _,?_,fun _=>rfl,?_⟩)|exact (e6 _ 1 _).symm|exact trivial|exact rfl|exact aw _|refine av ?_|refine aA ?_ ?_|exact aG|exact aL _ _ _ (.inl rfl)|(exact bw (by omega))|refine aE ?_|refine aD ?_|refine ⟨rfl,?_⟩|refine ⟨trivial,?_⟩|(refine aH (fun h =>?_) (fun h =>?_))|(refine aJ (fun h =>?_) (fun h =>?_))|(refine aI (fun h =>?_) (fun h =>?_))|refine aC ?_|(refine ⟨aB (by omega),?_⟩)|(refine And.intro (by omega) ?_)|apply And.intro|(exact iEq (by omega))|(exact aB (by omega))
 intro x hx
 have ht:=ub b x
 refine aH (fun h =>?_) (fun h =>?_)
 ·have hlt:x<b.length:=by omega
  have hs:=kD hlt
  refine ⟨by omega,lc hlt,mD (fun k =>?_) (fun k =>?_)⟩
  ·rw[k]at hs
   replace hs:bP b (x+1)=bP b x+1:=hs
   refine ⟨aB (by omega),aB (by omega),x+1,by omega,by omega,rfl,?_⟩
   repeat' first|exact (e6 _ 1 _).symm|exact trivial|exact rfl|exact aw _|refine av ?_|refine aA ?_ ?_|exact aG|exact aL _ _ _ (.inl rfl)|(exact bw (by omega))|refine aE ?_|refine aD ?_|refine ⟨rfl,?_⟩|refine ⟨trivial,?_⟩|(refine aH (fun h =>?_) (fun h =>?_))|(refine aJ (fun h =>?_) (fun h =>?_))|(refine aI (fun h =>?_) (fun h =>?_))|refine aC ?_|(refine ⟨aB (by omega),?_⟩)|(refine And.intro (by omega) ?_)|apply And.intro|(exact iEq (by omega))|(exact aB (by omega))
  ·rw[k]at hs
   replace hs:bP b (x+1)=bP b x:=hs
   refine ⟨aB (by omega),x+1,by omega,by omega,rfl,?_⟩
   repeat' first|exact (e6 _ 1 _).symm|exact trivial|exact rfl|exact aw _|refine av ?_|refine aA ?_ ?_|exact aG|exact aL _ _ _ (.inl rfl)|(exact bw (by omega))|refine aE ?_|refine aD ?_|refine ⟨rfl,?_⟩|refine ⟨trivial,?_⟩|(refine aH (fun h =>?_) (fun h =>?_))|(refine aJ (fun h =>?_) (fun h =>?_))|(refine aI (fun h =>?_) (fun h =>?_))|refine aC ?_|(refine ⟨aB (by omega),?_⟩)|(refine And.intro (by omega) ?_)|apply And.intro|(exact iEq (by omega))|(exact aB (by omega))
 ·obtain rfl:x=b.length:=by omega
  rfl
theorem jw(p:List (Nat×Nat)):∀d b,0<(lst p d b).length/\(lst p d b).length<=2 ^ d
 |0,b=>⟨Nat.one_pos,Nat.le_refl _⟩
 |d+1,b=>by
  have h1:=jw p d (b ++ [true])
  have h2:=jw p d (b ++ [false])
  unfold lst
  rw[Nat.pow_succ]
  split
  ·rw[aX];omega
  ·rw[List.nil_append];omega
theorem qN{p:List (Nat×Nat)}{b:List Bool}{x:Nat}(h:x<p.length):cK p b (x+1)=(cK p b x&&((p.getD x (0,0)).2 != b.length || !b.getD (p.getD x (0,0)).1 false)):=by
 unfold cK
 rw[List.take_add_one,List.getElem?_eq_getElem h,List.all_append,List.getD_eq_getElem?_getD,List.getElem?_eq_getElem h]
 simp
theorem xn{p:List (Nat×Nat)}{x:Nat}(h:x<p.length):(p.flatMap bq)[0+Int.toNat ((x:Nat):Int)*2+1*1]?=some (.int .i64 (((p.getD x (0,0)).2:Nat):Int)) :=
 ga (n:=2) (f:=bq) (d:=(0,0)) (c:=1) hO h (by rw[Int.toNat_natCast];omega) rfl
theorem xo{p:List (Nat×Nat)}{x:Nat}(h:x<p.length):(p.flatMap bq)[0+Int.toNat ((x:Nat):Int)*2+0*1]?=some (.int .i64 (((p.getD x (0,0)).1:Nat):Int)) :=
 ga (n:=2) (f:=bq) (d:=(0,0)) (c:=0) hO h (by rw[Int.toNat_natCast];omega) rfl
theorem takeB(b:List Bool):List.take (b.length*1) (List.drop 0 (b.flatMap aN))=b.flatMap aN:=by
 rw[List.drop_zero,List.take_of_length_le (by rw[bF dA];omega)]
theorem pt(b:List Bool)(v:Bool):(Value.iface ((0+b.length)+1+1) (.agg ⟨List.take ((0+b.length)*1) (List.drop 0 (List.take (0*1) (List.drop 0 ([]:List Value))++List.take (b.length*1) (List.drop 0 (b.flatMap aN))))++List.take (1*1) (List.drop 0 ([.bool v]:List Value))⟩))=dB (b ++ [v]):=by
 have hl:(0+b.length)+1+1=(b ++ [v]).length+1:=by rw[aX];simp
 have hc:List.take ((0+b.length)*1) (List.drop 0 (List.take (0*1) (List.drop 0 ([]:List Value))++List.take (b.length*1) (List.drop 0 (b.flatMap aN))))++List.take (1*1) (List.drop 0 ([.bool v]:List Value))=(b ++ [v]).flatMap aN:=by
  rw[takeB,show List.take (0*1) (List.drop 0 ([]:List Value))++b.flatMap aN=b.flatMap aN from rfl,Nat.zero_add,takeB,List.flatMap_append];rfl
 rw[hl,hc]
theorem zB{b:List Bool}(h:b.length<=12)(h0:¬ b.length=0):(0+b.length)*1<=2 ^ 44/\b.length≠0/\(0<=0/\0+0*1<=List.length ([]:List Value))/\(b.length<=b.length/\0+b.length*1<=List.length (b.flatMap aN))/\((List.take (b.length*1) (List.drop 0 (b.flatMap aN))).all fun v=>bV v)=true :=
 ⟨by omega,h0,⟨Nat.le_refl _,Nat.le_refl _⟩,⟨Nat.le_refl _,by rw[bF dA];omega⟩,A0 _ _⟩
theorem zy{b:List Bool}(v:Bool)(h:b.length<=12):((0+b.length)+1)*1<=2 ^ 44/\1≠0/\((0+b.length)<=(0+b.length)/\0+(0+b.length)*1<=List.length (List.take (0*1) (List.drop 0 ([]:List Value))++List.take (b.length*1) (List.drop 0 (b.flatMap aN))))/\(1<=1/\0+1*1<=List.length ([.bool v]:List Value))/\((List.take (1*1) (List.drop 0 ([.bool v]:List Value))).all fun v=>bV v)=true :=
 ⟨by omega,by decide,⟨Nat.le_refl _,by rw[takeB];show _<=List.length (b.flatMap aN);rw[bF dA];omega⟩,⟨Nat.le_refl _,Nat.le_refl _⟩,rfl⟩
theorem takeD(L:List (List Bool)):List.take (L.length*1) (List.drop 0 (dBL L))=dBL L:=by
 rw[List.drop_zero,List.take_of_length_le (by rw[jR];omega)]
theorem xz(p:List (Nat×Nat))(hp:∀q∈p,q.1<q.2)(hpl:p.length<=4294967296):∀(d:Nat) (b:List Bool),b.length+d<=12->∀{H:Heap} {L:Nat} (hL:H.length=L) {id:Nat} {own:Bool} {z:Nat} (hid:H[id]?=some (.cells own z (p.flatMap bq))),
  ap prog F.cP [dB b,.int .i64 (((b.length+d:Nat)):Int),.slice (some ⟨id,0,some 2⟩) p.length p.length] H [] (Is (.slice (some ⟨L,0,some 1⟩) (lst p d b).length (lst p d b).length) (H ++ [.cells true 1 (dBL (lst p d b))])):=by
 intro d
 induction d with
 |zero =>
  intro b hb H L hL id own z hid
  subst hL
  refine vj (fun i => .slice (some ⟨i,0,some 1⟩) (lst p 0 b).length (lst p 0 b).length) (Eq.mpr (tZ b 0 p) ?_) (fR 0 p) (fun n=>dF n _) rfl (by simp[rn,bQ]) (fun j=>by simp[rn,cG]) hid (by rw[List.map_cons,e6 _ 1];rfl)
  unfold px
  have hl:(lst p 0 b).length=1:=rfl
  refine aI (fun _=>⟨rfl,?_,⟨rfl,dF _ _⟩,trivial⟩) (fun h=>absurd rfl h)
  rw[hl]
  exact bw (by omega)
 |succ d ih =>
  intro b hb H L hL id own z hid
  subst hL
  refine vj (fun i => .slice (some ⟨i,0,some 1⟩) (lst p (d+1) b).length (lst p (d+1) b).length) (Eq.mpr (tZ b (d+1) p) ?_) (fR 0 p) (fun n=>dF n _) rfl (by simp[rn,bQ]) (fun j=>by simp[rn,cG]) hid (by rw[List.map_cons,e6 _ 1];rfl)
  unfold px
  refine aI (fun h=>absurd h (by omega)) (fun _ =>?_)
  refine ⟨rfl,Nat.zero_le _,?_,fun _=>rfl,?_⟩
  ·repeat' first|exact (e6 _ 1 _).symm|exact trivial|exact rfl|exact aw _|refine av ?_|refine aA ?_ ?_|exact aG|exact aL _ _ _ (.inl rfl)|(exact bw (by omega))|refine aE ?_|refine aD ?_|refine ⟨rfl,?_⟩|refine ⟨trivial,?_⟩|(refine aH (fun h =>?_) (fun h =>?_))|(refine aJ (fun h =>?_) (fun h =>?_))|(refine aI (fun h =>?_) (fun h =>?_))|refine aC ?_|(refine ⟨aB (by omega),?_⟩)|(refine And.intro (by omega) ?_)|apply And.intro|(exact iEq (by omega))|(exact aB (by omega))
  intro x hx
  refine aH (fun h =>?_) (fun h =>?_)
  ·have hlt:x<p.length:=by omega
   have hq:=hp (p.getD x (0,0)) (ko hlt)
   have hs:=qN (b:=b) hlt
   refine mD (fun hf =>?_) (fun hf =>?_)
   ·rw[hf,Bool.true_and]at hs
    refine ⟨by omega,xn hlt,aJ (fun h2 =>?_) (fun h2 =>?_)⟩
    ·have h3:cK p b (x+1)=true:=by rw[hs,bne_iff_ne.2 (fun e=>h2 (by rw[e]))];rfl
     refine ⟨aB (by omega),x+1,by omega,by omega,rfl,?_⟩
     repeat' first|exact (e6 _ 1 _).symm|exact bEq h3.symm|exact trivial|exact rfl|exact aw _|refine av ?_|refine aA ?_ ?_|exact aG|exact aL _ _ _ (.inl rfl)|(exact bw (by omega))|refine aE ?_|refine aD ?_|refine ⟨rfl,?_⟩|refine ⟨trivial,?_⟩|(refine aH (fun h =>?_) (fun h =>?_))|(refine aJ (fun h =>?_) (fun h =>?_))|(refine aI (fun h =>?_) (fun h =>?_))|refine aC ?_|(refine ⟨aB (by omega),?_⟩)|(refine And.intro (by omega) ?_)|apply And.intro|(exact iEq (by omega))|(exact aB (by omega))
    ·have h4:(p.getD x (0,0)).2=b.length:=by omega
     have h3:cK p b (x+1) = !b.getD (p.getD x (0,0)).1 false:=by rw[hs,h4,bne_self_eq_false,Bool.false_or]
     refine ⟨by omega,xo hlt,by omega,lc (by omega),aB (by omega),x+1,by omega,by omega,rfl,?_⟩
     repeat' first|exact (e6 _ 1 _).symm|exact bEq h3.symm|exact trivial|exact rfl|exact aw _|refine av ?_|refine aA ?_ ?_|exact aG|exact aL _ _ _ (.inl rfl)|(exact bw (by omega))|refine aE ?_|refine aD ?_|refine ⟨rfl,?_⟩|refine ⟨trivial,?_⟩|(refine aH (fun h =>?_) (fun h =>?_))|(refine aJ (fun h =>?_) (fun h =>?_))|(refine aI (fun h =>?_) (fun h =>?_))|refine aC ?_|(refine ⟨aB (by omega),?_⟩)|(refine And.intro (by omega) ?_)|apply And.intro|(exact iEq (by omega))|(exact aB (by omega))
   ·rw[hf,Bool.false_and]at hs
    refine ⟨aB (by omega),x+1,by omega,by omega,rfl,?_⟩
    repeat' first|exact (e6 _ 1 _).symm|exact bEq hs.symm|exact trivial|exact rfl|exact aw _|refine av ?_|refine aA ?_ ?_|exact aG|exact aL _ _ _ (.inl rfl)|(exact bw (by omega))|refine aE ?_|refine aD ?_|refine ⟨rfl,?_⟩|refine ⟨trivial,?_⟩|(refine aH (fun h =>?_) (fun h =>?_))|(refine aJ (fun h =>?_) (fun h =>?_))|(refine aI (fun h =>?_) (fun h =>?_))|refine aC ?_|(refine ⟨aB (by omega),?_⟩)|(refine And.intro (by omega) ?_)|apply And.intro|(exact iEq (by omega))|(exact aB (by omega))
  ·obtain rfl:x=p.length:=by omega
   have hd:=Nat.pow_le_pow_right (show 0<2 by decide) (show d<=12 by omega)
   have t1:=jw p d (b ++ [true])
   have t2:=jw p d (b ++ [false])
   have call:∀(v:Bool) {H':Heap} {L:Nat},H'.length=L->H'[0]?=some (.cells false 0 (p.flatMap bq))->ap prog F.cP [dB (b ++ [v]),.int .i64 (((b.length+(d+1):Nat)):Int),.slice (some ⟨0,0,some 2⟩) p.length p.length] H' [] (Is (.slice (some ⟨L,0,some 1⟩) (lst p d (b ++ [v])).length (lst p d (b ++ [v])).length) (H' ++ [.cells true 1 (dBL (lst p d (b ++ [v])))])):=by
    intro v H' L h1 h2
    have e:(b ++ [v]).length+d=b.length+(d+1):=by rw[aX];simp;omega
    have:=ih (b ++ [v]) (by omega) h1 h2
    rwa [e]at this
   have wS:b.length=0->∀(v:Bool) {H':Heap} {L:Nat},H'.length=L->H'[0]?=some (.cells false 0 (p.flatMap bq))->ap prog F.cP [.iface (1+1) (.agg ⟨[.bool v]⟩),.int .i64 (((b.length+(d+1):Nat)):Int),.slice (some ⟨0,0,some 2⟩) p.length p.length] H' [] (Is (.slice (some ⟨L,0,some 1⟩) (lst p d (b ++ [v])).length (lst p d (b ++ [v])).length) (H' ++ [.cells true 1 (dBL (lst p d (b ++ [v])))])):=by
    intro h0 v H' L h1 h2
    obtain rfl:=List.length_eq_zero_iff.1 h0
    exact call v h1 h2
   have uL:b.length<=12:=by omega
   have n2:¬ (lst p (d+1-1) (b ++ [false])).length=0:=by rw[Nat.add_sub_cancel];omega
   refine mD (fun hf =>?_) (fun hf =>?_)
   ·have el:lst p (d+1) b=lst p (d+1-1) (b ++ [true])++lst p (d+1-1) (b ++ [false]):=by
     show (if _ then _ else _)++_=_
     rw[if_pos hf];rfl
    have hlen:(lst p (d+1) b).length=(lst p (d+1-1) (b ++ [true])).length+(lst p (d+1-1) (b ++ [false])).length:=by rw[el,aX]
    have hcell:List.take ((lst p (d+1-1) (b ++ [true])).length*1) (List.drop 0 (dBL (lst p (d+1-1) (b ++ [true]))))++List.take ((lst p (d+1-1) (b ++ [false])).length*1) (List.drop 0 (dBL (lst p (d+1-1) (b ++ [false]))))=dBL (lst p (d+1) b):=by
     rw[takeD,takeD,el];exact List.map_append.symm
    have big:((lst p (d+1-1) (b ++ [true])).length+(lst p (d+1-1) (b ++ [false])).length)*24<=2 ^ 44:=by rw[Nat.add_sub_cancel];omega
    refine ⟨fun hb0=>⟨⟨by omega,hb0⟩,⟨rfl,trivial⟩,fun H' hl hd=>wS hb0 true hl hd.1,⟨fun _=>⟨⟨by omega,hb0⟩,⟨rfl,trivial⟩,fun H' hl hd=>wS hb0 false hl hd.1,?_⟩,fun h=>absurd hb0 h⟩⟩,fun hb0=>⟨zB uL hb0,rfl,zy _ uL,rfl,⟨rfl,trivial⟩,fun H' hl hd=>by rw[pt];exact call true hl hd.1,⟨fun h=>absurd h hb0,fun _=>⟨zB uL hb0,rfl,zy _ uL,rfl,⟨rfl,trivial⟩,fun H' hl hd=>by rw[pt];exact call false hl hd.1,?_⟩⟩⟩⟩
    all_goals
     refine ⟨fun h=>absurd h n2,fun _=>⟨⟨big,n2,⟨Nat.le_refl _,by rw[jR];omega⟩,⟨Nat.le_refl _,by rw[jR];omega⟩,Ag _ _⟩,rfl,rfl,?_,⟨?_,dF _ _⟩,trivial⟩⟩
     ·rw[hlen];exact bw (by omega)
     ·rw[hcell]
   ·have el:lst p (d+1) b=lst p (d+1-1) (b ++ [false]):=by
     show (if _ then _ else _)++_=_
     rw[if_neg (by rw[hf];decide)];rfl
    have hcell:[]++List.take ((lst p (d+1-1) (b ++ [false])).length*1) (List.drop 0 (dBL (lst p (d+1-1) (b ++ [false]))))=dBL (lst p (d+1) b):=by
     rw[takeD,el];rfl
    have big:(0+(lst p (d+1-1) (b ++ [false])).length)*24<=2 ^ 44:=by rw[Nat.add_sub_cancel];omega
    refine ⟨fun hb0=>⟨⟨by omega,hb0⟩,⟨rfl,trivial⟩,fun H' hl hd=>wS hb0 false hl hd.1,?_⟩,fun hb0=>⟨zB uL hb0,rfl,zy _ uL,rfl,⟨rfl,trivial⟩,fun H' hl hd=>by rw[pt];exact call false hl hd.1,?_⟩⟩
    all_goals
     refine ⟨fun h=>absurd h n2,fun _=>⟨⟨big,n2,rfl,⟨Nat.le_refl _,by rw[jR];omega⟩,Ag _ _⟩,rfl,rfl,?_,⟨?_,dF _ _⟩,trivial⟩⟩
     ·rw[el,Nat.zero_add];exact bw (by omega)
     ·rw[hcell]
end
end Go.Proofs.YthcjliffpebjaaaGreat
namespace Go.Proofs.YthcjliffpebjaaaGreat
open Go Go.K Go.Sort
noncomputable section
attribute [local irreducible] vF cB
abbrev tru(l:List Bool)(i:Nat):Bool:=l.getD i false
def dZ(l:List Bool):Nat:=iw (tru l) l.length
def gi(n s:Nat):List Bool:=eC (bW n s) n
theorem d7(n s:Nat):(gi n s).length=n:=cw ..
theorem eM{n s i:Nat}(h:i<n):tru (gi n s) i=bW n s i:=di h
theorem mH{p q:Nat->Bool}:∀{n:Nat},(∀i,i<n->p i=q i)->iw p n=iw q n
 |0,_=>rfl
 |n+1,h=>by
  show 2*iw p n+(p n).toNat=2*iw q n+(q n).toNat
  rw[mH (fun i hi=>h i (by omega)),h n (by omega)]
theorem vo{a b:List Bool}{i:Nat}(h:i<a.length):tru (a++b) i=tru a i:=by
 unfold tru;rw[List.getD_eq_getElem?_getD,List.getElem?_append_left h,List.getD_eq_getElem?_getD]
theorem vn(b:List Bool)(v:Bool):tru (b ++ [v]) b.length=v:=by
 unfold tru;rw[List.getD_eq_getElem?_getD,List.getElem?_append_right (Nat.le_refl _),Nat.sub_self];rfl
theorem nW(b:List Bool)(v:Bool):dZ (b ++ [v])=2*dZ b+v.toNat:=by
 unfold dZ
 rw[aX]
 show 2*iw (tru (b ++ [v])) b.length+(tru (b ++ [v]) b.length).toNat=_
 rw[vn,mH (fun i hi=>vo hi)]
theorem tH(l:List Bool):dZ l<2 ^ l.length:=pr ..
theorem wU(l:List Bool):gi l.length (dZ l)=l:=by
 refine List.ext_getElem (d7 ..) fun i h1 h2 =>?_
 have:=eM (s:=dZ l) h2
 rw[show bW l.length (dZ l) i=tru l i from fG _ _ _ h2]at this
 unfold tru at this
 rwa [eK h1,eK h2]at this
theorem wL{n s:Nat}(h:s<2 ^ n):dZ (gi n s)=s:=by
 have h1:=tH (gi n s)
 rw[d7]at h1
 refine Nat.eq_of_testBit_eq fun i =>?_
 rcases Nat.lt_or_ge i n with hi|hi
 ·have e1:bW n (dZ (gi n s)) (n-1-i)=bW n s (n-1-i):=by
   have:=fG (tru (gi n s)) (gi n s).length (n-1-i) (by rw[d7];omega)
   rw[eM (by omega)]at this
   rw[<- this];unfold dZ;rw[d7]
  unfold bW at e1
  rwa [show n-1-(n-1-i)=i by omega]at e1
 ·have h2:2 ^ n<=2 ^ i:=Nat.pow_le_pow_right (by decide) hi
  rw[Nat.testBit_lt_two_pow (by omega),Nat.testBit_lt_two_pow (by omega)]
theorem yy:∀{l1 l2:List Nat},l1.Pairwise (· > ·)->l2.Pairwise (· > ·)->(∀x,x∈l1 ↔ x∈l2)->l1=l2
 | [],[],_,_,_=>rfl
 | [],b :: l,_,_,h=>absurd ((h b).2 (by simp)) (by simp)
 |a :: l,[],_,_,h=>absurd ((h a).1 (by simp)) (by simp)
 |a :: l,b :: m,h1,h2,h=>by
  have p1:=List.pairwise_cons.1 h1
  have p2:=List.pairwise_cons.1 h2
  obtain rfl:a=b:=by
   have ha:=(h a).1 (by simp)
   have hb:=(h b).2 (by simp)
   rcases List.mem_cons.1 ha with e|e
   ·exact e
   ·rcases List.mem_cons.1 hb with e'|e'
    ·exact e'.symm
    ·have:=p2.1 a e;have:=p1.1 b e';omega
  rw[yy p1.2 p2.2 fun x =>?_]
  constructor
  ·intro hx
   rcases List.mem_cons.1 ((h x).1 (by simp[hx])) with e|e
   ·subst e;have:=p1.1 x hx;omega
   ·exact e
  ·intro hx
   rcases List.mem_cons.1 ((h x).2 (by simp[hx])) with e|e
   ·subst e;have:=p2.1 x hx;omega
   ·exact e
theorem lP(p:List (Nat×Nat)):∀d b,∀t∈lst p d b,t.length=b.length+d/\dZ b*2 ^ d<=dZ t/\dZ t<(dZ b+1)*2 ^ d
 |0,b,t,h=>by
  rw[List.mem_singleton.1 h]
  exact ⟨rfl,by simp,by simp⟩
 |d+1,b,t,h=>by
  have key:∀v,t∈lst p d (b ++ [v])->t.length=b.length+(d+1)/\(2*dZ b+v.toNat)*2 ^ d<=dZ t/\dZ t<(2*dZ b+v.toNat+1)*2 ^ d:=by
   intro v hv
   have:=lP p d (b ++ [v]) t hv
   rw[nW,aX]at this
   exact ⟨by have:=this.1;simp at this;omega,this.2⟩
  have e:2 ^ (d+1)=2*2 ^ d:=by rw[Nat.pow_succ];omega
  have m1:dZ b*2 ^ (d+1)=(2*dZ b)*2 ^ d:=by rw[e];rw[<- Nat.mul_assoc,Nat.mul_comm (dZ b) 2]
  have m2:(dZ b+1)*2 ^ (d+1)=(2*dZ b+2)*2 ^ d:=by rw[e,<- Nat.mul_assoc];congr 1;omega
  rw[m1,m2]
  have mono:∀{a c:Nat},a<=c->a*2 ^ d<=c*2 ^ d:=fun h=>Nat.mul_le_mul_right _ h
  unfold lst at h
  rcases List.mem_append.1 h with h|h
  ·split at h
   ·obtain ⟨a1,a2,a3⟩:=key true h
    exact ⟨a1,Nat.le_trans (mono (by omega)) a2,Nat.lt_of_lt_of_le a3 (mono (by simp))⟩
   ·cases h
  ·obtain ⟨a1,a2,a3⟩:=key false h
   exact ⟨a1,Nat.le_trans (mono (by omega)) a2,Nat.lt_of_lt_of_le a3 (mono (by simp))⟩
theorem rS(p:List (Nat×Nat)):∀d b,((lst p d b).map dZ).Pairwise (· > ·)
 |0,b=>List.pairwise_singleton ..
 |d+1,b=>by
  unfold lst
  rw[List.map_append,List.pairwise_append]
  refine ⟨?_,rS p d _,?_⟩
  ·split
   ·exact rS p d _
   ·exact .nil
  ·intro x hx y hy
   obtain ⟨t,ht,rfl⟩:=List.mem_map.1 hx
   obtain ⟨u,hu,rfl⟩:=List.mem_map.1 hy
   split at ht
   ·have a:=(lP p d _ t ht).2.1
    have c:=(lP p d _ u hu).2.2
    rw[nW]at a c
    exact Nat.lt_of_lt_of_le c a
   ·cases ht
theorem tg(p:List (Nat×Nat)):∀d b t,t∈lst p d b ↔ t.length=b.length+d/\t.take b.length=b/\∀k,b.length<=k->k<t.length->tru t k=true->cK p (t.take k) p.length=true
 |0,b,t=>by
  constructor
  ·intro h
   rw[List.mem_singleton.1 h]
   exact ⟨rfl,List.take_length,fun k h1 h2=>by omega⟩
  ·rintro ⟨h1,h2,_⟩
   rw[List.take_of_length_le (by omega)]at h2
   exact List.mem_singleton.2 h2
 |d+1,b,t=>by
  have yQ:=fun v=>tg p d (b ++ [v]) t
  have rF:t.length=b.length+(d+1)->∀v,t.take (b.length+1)=b ++ [v] ↔ t.take b.length=b/\tru t b.length=v:=by
   intro hl v
   rw[List.take_add_one,List.getElem?_eq_getElem (by omega)]
   unfold tru
   rw[eK (by omega)]
   constructor
   ·intro h
    have:=List.append_inj h (by rw[List.length_take];omega)
    exact ⟨this.1,by have:=this.2;simpa using this⟩
   ·rintro ⟨h1,h2⟩;rw[h1,h2];rfl
  unfold lst
  rw[List.mem_append]
  constructor
  ·intro h
   have key:∀v,t∈lst p d (b ++ [v])->(v=true->cK p b p.length=true)->t.length=b.length+(d+1)/\t.take b.length=b/\∀k,b.length<=k->k<t.length->tru t k=true->cK p (t.take k) p.length=true:=by
    intro v hv hf
    obtain ⟨a1,a2,a3⟩:=(yQ v).1 hv
    rw[aX]at a1 a2 a3
    replace a1:t.length=b.length+(d+1):=by simp at a1;omega
    obtain ⟨c1,c2⟩:=(rF a1 v).1 a2
    refine ⟨a1,c1,fun k k1 k2 k3 =>?_⟩
    rcases Nat.lt_or_ge b.length k with g|g
    ·exact a3 k g k2 k3
    ·obtain rfl:k=b.length:=by omega
     rw[c1];exact hf (c2.symm.trans k3)
   rcases h with h|h
   ·split at h
    ·rename_i hf;exact key true h (fun _=>hf)
    ·cases h
   ·exact key false h (fun h=>by cases h)
  ·rintro ⟨h1,h2,h3⟩
   cases hv:tru t b.length with
   |true =>
    left
    have hf:=h3 b.length (Nat.le_refl _) (by omega) hv
    rw[h2]at hf
    rw[if_pos hf]
    refine (yQ true).2 ⟨by rw[aX];simp;omega,?_,fun k k1 k2 k3=>h3 k (by rw[aX]at k1;omega) k2 k3⟩
    rw[aX];exact (rF h1 true).2 ⟨h2,hv⟩
   |false =>
    right
    refine (yQ false).2 ⟨by rw[aX];simp;omega,?_,fun k k1 k2 k3=>h3 k (by rw[aX]at k1;omega) k2 k3⟩
    rw[aX];exact (rF h1 false).2 ⟨h2,hv⟩
theorem qM{p:List (Nat×Nat)}{b:List Bool}:cK p b p.length=true ↔ ∀q∈p,q.2=b.length->tru b q.1=false:=by
 unfold cK
 rw[List.take_length,List.all_eq_true]
 constructor
 ·intro h q hq e
  have:=h q hq
  rw[e,bne_self_eq_false,Bool.false_or]at this
  simpa using this
 ·intro h q hq
  by_cases e:q.2=b.length
  ·have:=h q hq e
   unfold tru at this
   rw[this];simp
  ·rw[bne_iff_ne.2 e];rfl
theorem pO{t:List Bool}{i k:Nat}(h:i<k):tru (t.take k) i=tru t i:=by
 unfold tru
 rw[List.getD_eq_getElem?_getD,List.getElem?_take,if_pos h,List.getD_eq_getElem?_getD]
theorem jv{ts:List Cell}(hr:dq ts){t:List Bool}:t∈aM ts ↔ t.length=ts.length/\okA ts (tru t):=by
 unfold aM
 rw[tg]
 constructor
 ·rintro ⟨h1,_,h3⟩
  have hl:t.length=ts.length:=by simpa using h1
  refine ⟨hl,fun i j hi hj a b =>?_⟩
  have bad:∀i j,i<j->j<ts.length->tru t i=true->tru t j=true->okC (cj (ts.getD i ak) (ts.getD j ak)):=by
   intro i j hij hj a b
   refine Classical.byContradiction fun hc =>?_
   have hm:=(lO (Nat.le_refl _) (q:=(i,j))).2 ⟨by omega,hij,hj,hc⟩
   have:=qM.1 (h3 j (Nat.zero_le _) (by omega) b) (i,j) hm (by rw[List.length_take];show j=_;omega)
   rw[pO hij]at this
   rw[this]at a;cases a
  rcases Nat.lt_trichotomy i j with h|h|h
  ·exact bad i j h hj a b
  ·subst h;exact meet_self (hr i hi)
  ·exact (meet_comm _ _).1 (bad j i h hi b a)
 ·rintro ⟨hl,h⟩
  refine ⟨by simpa using hl,rfl,fun k _ hk ht=>qM.2 fun q hq e =>?_⟩
  rw[List.length_take]at e
  obtain ⟨q1,q2,q3,q4⟩:=(lO (Nat.le_refl _)).1 hq
  rw[pO (by omega)]
  cases hc:tru t q.1 with
  |false=>rfl
  |true=>exact absurd (h q.1 q.2 (by omega) (by omega) hc (by rw[show q.2=k by omega];exact ht)) q4
theorem eN(l:List Bool):∀x,x<=l.length->bP l x=cnt x (tru l)
 |0,_=>rfl
 |x+1,h=>by rw[kD (by omega),jS,eN l x (by omega)]
theorem nz(L:List (List Bool)):∀x,∀i,i<x->bP (L.getD i []) (L.getD i []).length<=bn L x
 |0,i,h=>by omega
 |x+1,i,h=>by
  show _<=max _ _
  rcases Nat.lt_or_ge i x with g|g
  ·have:=nz L x i g;omega
  ·obtain rfl:i=x:=by omega
   omega
theorem nA(L:List (List Bool)){n:Nat}:∀x,(∀i,i<x->bP (L.getD i []) (L.getD i []).length<=n)->bn L x<=n
 |0,_=>Nat.zero_le _
 |x+1,h=>by
  show max _ _<=n
  have:=nA L x (fun i hi=>h i (by omega))
  have:=h x (by omega)
  omega
theorem f4(L:List (List Bool))(k:Nat):∀x,x<=L.length->bM L k x=(L.take x).filter fun l=>decide (bP l l.length=k)
 |0,_=>rfl
 |x+1,h=>by
  rw[List.take_add_one,List.getElem?_eq_getElem (by omega),List.filter_append,<- f4 L k x (by omega)]
  have e:L.getD x []=L[x]:=eK (by omega)
  show (if _ then _ else _)=_
  rw[e]
  by_cases c:bP L[x] L[x].length=k
  ·rw[if_pos c];simp[c]
  ·rw[if_neg c];simp[c]
theorem vO{ts:List Cell}(hr:dq ts)(hn:ts.length<=12):bn (aM ts) (aM ts).length=qn ts:=by
 refine Nat.le_antisymm (nA _ _ fun i hi =>?_) ?_
 ·have hm:(aM ts).getD i []∈aM ts:=ko hi
  obtain ⟨h1,h2⟩:=(jv hr).1 hm
  rw[eN _ _ (Nat.le_refl _),h1]
  exact xQ hr hn h2
 ·obtain ⟨h1,h2⟩:=vP hr hn
  have hm:gi ts.length (ao ts)∈aM ts:=(jv hr).2 ⟨d7 ..,(kb fun i hi=>eM hi).2 h1⟩
  obtain ⟨i,hi,e⟩:=ww (d:=[]) hm
  have:=nz (aM ts) _ i hi
  rw[e,eN _ _ (Nat.le_refl _),d7,fJ (fun i hi=>eM hi),h2]at this
  exact this
theorem lN{ts:List Cell}(hr:dq ts)(hn:ts.length<=12){t:List Bool}:t∈bZ ts ↔ t.length=ts.length/\okA ts (tru t)/\cnt ts.length (tru t)=qn ts:=by
 unfold bZ
 rw[f4 _ _ _ (Nat.le_refl _),List.take_length,List.mem_filter,jv hr,vO hr hn,decide_eq_true_iff]
 constructor
 ·rintro ⟨⟨h1,h2⟩,h3⟩
  rw[eN _ _ (Nat.le_refl _),h1]at h3
  exact ⟨h1,h2,h3⟩
 ·rintro ⟨h1,h2,h3⟩
  exact ⟨⟨h1,h2⟩,by rw[eN _ _ (Nat.le_refl _),h1];exact h3⟩
theorem wY(ts:List Cell):∀j,j<=2 ^ ts.length->(agr ts j).2.Pairwise (· > ·)/\∀s∈(agr ts j).2,2 ^ ts.length-j<=s
 |0,_=>⟨.nil,fun s h=>by cases h⟩
 |j+1,hj=>by
  obtain ⟨i1,i2⟩:=wY ts j (by omega)
  have i3:∀s∈(agr ts j).2,2 ^ ts.length-(j+1)<=s:=fun s h=>by have:=i2 s h;omega
  rcases Classical.em ((cB (2 ^ ts.length-1-j):Int)<(agr ts j).1) with h1|h1
  ·rw[od rfl h1];exact ⟨i1,i3⟩
  ·cases h2:(aK ts (2 ^ ts.length-1-j)).isSome with
   |false=>rw[tN rfl h1 h2];exact ⟨i1,i3⟩
   |true =>
    rcases Classical.em ((agr ts j).1<cB (2 ^ ts.length-1-j)) with h3|h3
    ·rw[oc rfl h1 h2 h3]
     exact ⟨List.pairwise_singleton ..,fun s h=>by rw[List.mem_singleton.1 h];omega⟩
    ·rw[oa rfl h1 h2 h3]
     refine ⟨List.pairwise_append.2 ⟨i1,List.pairwise_singleton ..,fun a ha b hb =>?_⟩,fun s h =>?_⟩
     ·rw[List.mem_singleton.1 hb];have:=i2 a ha;show a > _;omega
     ·rcases List.mem_append.1 h with h|h
      ·exact i3 s h
      ·rw[List.mem_singleton.1 h];omega
theorem xK{ts:List Cell}(hr:dq ts)(hn:ts.length<=12):(bZ ts).map dZ=cp ts:=by
 refine yy ?_ (wY ts _ (Nat.le_refl _)).1 fun s =>?_
 ·unfold bZ
  rw[f4 _ _ _ (Nat.le_refl _),List.take_length]
  exact (rS _ _ _).sublist ((List.filter_sublist ..).map _)
 ·show _ ↔ s∈cp ts
  rw[qm hr hn,List.mem_map]
  constructor
  ·rintro ⟨t,ht,rfl⟩
   obtain ⟨h1,h2,h3⟩:=(lN hr hn).1 ht
   have e:∀i,i<ts.length->bW ts.length (dZ t) i=tru t i:=fun i hi=>by
    rw[<- h1]at hi ⊢;exact fG _ _ _ hi
   have:=tH t
   rw[h1]at this
   exact ⟨this,(kb e).2 h2,(fJ e).trans h3⟩
  ·rintro ⟨h1,h2,h3⟩
   exact ⟨gi ts.length s,(lN hr hn).2 ⟨d7 ..,(kb fun i hi=>eM hi).2 h2,(fJ fun i hi=>eM hi).trans h3⟩,wL h1⟩
theorem xN{ts:List Cell}(hr:dq ts)(hn:ts.length<=12):bZ ts=(cp ts).map (gi ts.length):=by
 rw[<- xK hr hn,List.map_map]
 refine (List.map_id (bZ ts)).symm.trans (List.map_congr_left fun t ht =>?_)
 obtain ⟨h1,_,_⟩:=(lN hr hn).1 ht
 show t=gi ts.length (dZ t)
 rw[<- h1,wU]
theorem sG{ts:List Cell}(hr:dq ts)(hn:ts.length<=12):0<(bZ ts).length/\(bZ ts).getD 0 []=aR ts ts.length:=by
 have h0:0<(cp ts).length:=List.length_pos_iff.2 (li ts)
 rw[xN hr hn]
 refine ⟨by rw[List.length_map];exact h0,?_⟩
 rw[List.getD_eq_getElem?_getD,List.getElem?_map]
 unfold aR ao
 rw[List.getD_eq_getElem?_getD,List.getElem?_eq_getElem h0];rfl
end
end Go.Proofs.YthcjliffpebjaaaGreat
namespace Go.Proofs.YthcjliffpebjaaaGreat
noncomputable section
attribute [local irreducible] vF eV cB
theorem uN(L:List (List Bool))(k x:Nat):(bM L k x).length<=x:=by
 induction x with
 |zero=>exact Nat.le_refl _
 |succ x ih =>
  unfold bM
  split
  ·rw[aX];simp;omega
  ·omega
theorem xM{L:List (List Bool)}{k x:Nat}(h:bP (L.getD x []) (L.getD x []).length=k):bM L k (x+1)=bM L k x ++ [L.getD x []]:=if_pos h
theorem xL{L:List (List Bool)}{k x:Nat}(h:¬ bP (L.getD x []) (L.getD x []).length=k):bM L k (x+1)=bM L k x:=if_neg h
theorem rZ(l:List Report)(m:aO)(now:Int)(he:d9 l m now=0){H:Heap}{L:Nat}(hL:H.length=L){id:Nat}{own:Bool}{z:Nat}(hid:H[id]?=some (.cells own z (l.flatMap aq))) :
  ap prog F.gn [.slice (some ⟨id,0,some 2⟩) l.length l.length,bj m,.int .i64 now] H []
   (Is (.slice (some ⟨L,0,some 1⟩) (bZ (told l m now)).length (bZ (told l m now)).length) (H ++ [.cells true 1 (dBL (bZ (told l m now)))])):=by
 subst hL
 refine vj (fun i => .slice (some ⟨i,0,some 1⟩) (bZ (told l m now)).length (bZ (told l m now)).length) (Eq.mpr (sW l m now) ?_) (bX 0 l) (fun n=>dF n _) rfl (by simp[rn,bQ]) (fun j=>by simp[rn,cG]) hid rfl
 unfold mP
 have hn:=(opened he).len
 have hn2:=gz l m now
 have hcl:(conf (told l m now) l.length).length<=12*12:=Nat.le_trans (qY (told l m now) l.length) (Nat.mul_le_mul (by omega) (by omega))
 have call:∀{H':Heap} {L:Nat},H'.length=L->H'[2]?=some (.cells true 2 ((conf (told l m now) l.length).flatMap bq))->ap prog F.cP [.slice none 0 0,.int .i64 ((l.length:Nat):Int),.slice (some ⟨2,0,some 1⟩) (conf (told l m now) l.length).length (conf (told l m now) l.length).length] H' [] (Is (.slice (some ⟨L,0,some 1⟩) (aM (told l m now)).length (aM (told l m now)).length) (H' ++ [.cells true 1 (dBL (aM (told l m now)))])):=by
  intro H' L h1 h2
  have:=xz (conf (told l m now) l.length) (fun q hq=>((lO (by omega)).1 hq).2.1) (by omega) l.length [] (by show 0+_<=12;omega) h1 h2
  rw[show ([]:List Bool).length+l.length=l.length from Nat.zero_add _,show lst (conf (told l m now) l.length) l.length []=aM (told l m now) from by unfold aM;rw[gz]]at this
  exact this.wkA ⟨xh,aw _,lj,trivial⟩
 have hAl:(aM (told l m now)).length<=4096:=by
  have h1:=(jw (conf (told l m now) (told l m now).length) (told l m now).length []).2
  have h2:=Nat.pow_le_pow_right (show 0<2 by decide) (show (told l m now).length<=12 by omega)
  unfold aM;omega
 have hAe:∀x,((aM (told l m now)).getD x []).length<=4294967296:=by
  intro x
  rcases Nat.lt_or_ge x (aM (told l m now)).length with h|h
  ·have:=((jv (gI he)).1 (ko (d:=[]) h)).1;omega
  ·rw[List.getD_eq_getElem?_getD,List.getElem?_eq_none h];exact Nat.zero_le _
 have hG:bZ (told l m now)=bM (aM (told l m now)) (bn (aM (told l m now)) (aM (told l m now)).length) (aM (told l m now)).length:=rfl
 obtain ⟨A,hA⟩:∃A,aM (told l m now)=A:=⟨_,rfl⟩
 rw[hA]at call hAl hAe hG ⊢
 refine ⟨⟨rfl,trivial⟩,fun H' hl hd=>xy l m now he hl hd.1,⟨rfl,trivial⟩,fun H' hl hd=>call hl hd.1,rfl,Nat.zero_le _,?_,fun _=>rfl,?_⟩
 ·repeat' first|exact trivial|exact rfl|exact aw _|refine av ?_|refine aA ?_ ?_|exact aG|exact aL _ _ _ (.inl rfl)|(exact bw (by omega))|refine aE ?_|refine aD ?_|refine ⟨rfl,?_⟩|refine ⟨trivial,?_⟩|(refine aH (fun h =>?_) (fun h =>?_))|(refine aJ (fun h =>?_) (fun h =>?_))|(refine aI (fun h =>?_) (fun h =>?_))|refine aC ?_|(refine ⟨aB (by omega),?_⟩)|(refine And.intro (by omega) ?_)|apply And.intro|(exact iEq (by omega))|(exact aB (by omega))
 intro x hx
 refine ⟨_,rfl,aH (fun h =>?_) (fun h =>?_)⟩
 ·have hlt:x<A.length:=by omega
  have e:bn A (x+1)=max (bn A x) (bP (A.getD x []) (A.getD x []).length):=rfl
  refine ⟨_,rfl,by omega,pu hlt,_,trivial,fun H' _ _=>tn _ (hAe x) H',aB (by omega),x+1,by omega,by omega,rfl,?_⟩
  repeat' first|(exact iEq (by rw[e];split <;> omega))|exact trivial|exact rfl|exact aw _|refine av ?_|refine aA ?_ ?_|exact aG|exact aL _ _ _ (.inl rfl)|(exact bw (by omega))|refine aE ?_|refine aD ?_|refine ⟨rfl,?_⟩|refine ⟨trivial,?_⟩|(refine aH (fun h =>?_) (fun h =>?_))|(refine aJ (fun h =>?_) (fun h =>?_))|(refine aI (fun h =>?_) (fun h =>?_))|refine aC ?_|(refine ⟨aB (by omega),?_⟩)|(refine And.intro (by omega) ?_)|apply And.intro|(exact iEq (by omega))|(exact aB (by omega))
 ·obtain rfl:x=A.length:=by omega
  refine ⟨rfl,Nat.zero_le _,?_,fun _=>rfl,?_⟩
  ·repeat' first|exact trivial|exact rfl|exact aw _|refine av ?_|refine aA ?_ ?_|exact aG|exact aL _ _ _ (.inl rfl)|(exact bw (by omega))|refine aE ?_|refine aD ?_|refine ⟨rfl,?_⟩|refine ⟨trivial,?_⟩|(refine aH (fun h =>?_) (fun h =>?_))|(refine aJ (fun h =>?_) (fun h =>?_))|(refine aI (fun h =>?_) (fun h =>?_))|refine aC ?_|(refine ⟨aB (by omega),?_⟩)|(refine And.intro (by omega) ?_)|apply And.intro|(exact iEq (by omega))|(exact aB (by omega))
  intro y hy
  have hgl:=uN A (bn A A.length) y
  refine ⟨_,rfl,aH (fun h2 =>?_) (fun h2 =>?_)⟩
  ·have hlt:y<A.length:=by omega
   refine ⟨by omega,pu hlt,_,trivial,fun H' _ _=>tn _ (hAe y) H',_,rfl,aI (fun h3 =>?_) (fun h3 =>?_)⟩
   ·have hs:=xM (show bP (A.getD y []) (A.getD y []).length=bn A A.length by omega)
    refine ⟨by omega,pu hlt,⟨by omega,by decide,⟨Nat.le_refl _,by rw[jR];omega⟩,⟨Nat.le_refl _,Nat.le_refl _⟩,rfl⟩,rfl,aB (by omega),y+1,by omega,by omega,rfl,?_⟩
    have hl1:(bM A (bn A A.length) (y+1)).length=(bM A (bn A A.length) y).length+1:=by rw[hs];exact aX
    have hc:List.take ((bM A (bn A A.length) y).length*1) (List.drop 0 (dBL (bM A (bn A A.length) y)))++List.take (1*1) (List.drop 0 [dB (A.getD y [])])=dBL (bM A (bn A A.length) (y+1)):=by rw[hs,wN,takeD];rfl
    repeat' first|exact dF _ _|(exact (by rw[hl1];exact bw (by omega)))|(exact congrArg (fun l=>some (ae.cells true 1 l)) hc)|exact trivial|exact rfl|exact aw _|refine av ?_|refine aA ?_ ?_|exact aG|exact aL _ _ _ (.inl rfl)|(exact bw (by omega))|refine aE ?_|refine aD ?_|refine ⟨rfl,?_⟩|refine ⟨trivial,?_⟩|(refine aH (fun h =>?_) (fun h =>?_))|(refine aJ (fun h =>?_) (fun h =>?_))|(refine aI (fun h =>?_) (fun h =>?_))|refine aC ?_|(refine ⟨aB (by omega),?_⟩)|(refine And.intro (by omega) ?_)|apply And.intro|(exact iEq (by omega))|(exact aB (by omega))
   ·have hs:=xL (show ¬ bP (A.getD y []) (A.getD y []).length=bn A A.length by omega)
    refine ⟨aB (by omega),y+1,by omega,by omega,rfl,?_⟩
    rw[hs]
    repeat' first|exact dF _ _|exact trivial|exact rfl|exact aw _|refine av ?_|refine aA ?_ ?_|exact aG|exact aL _ _ _ (.inl rfl)|(exact bw (by omega))|refine aE ?_|refine aD ?_|refine ⟨rfl,?_⟩|refine ⟨trivial,?_⟩|(refine aH (fun h =>?_) (fun h =>?_))|(refine aJ (fun h =>?_) (fun h =>?_))|(refine aI (fun h =>?_) (fun h =>?_))|refine aC ?_|(refine ⟨aB (by omega),?_⟩)|(refine And.intro (by omega) ?_)|apply And.intro|(exact iEq (by omega))|(exact aB (by omega))
  ·obtain rfl:y=A.length:=by omega
   rw[hG]
   repeat' first|exact dF _ _|exact trivial|exact rfl|exact aw _|refine av ?_|refine aA ?_ ?_|exact aG|exact aL _ _ _ (.inl rfl)|(exact bw (by omega))|refine aE ?_|refine aD ?_|refine ⟨rfl,?_⟩|refine ⟨trivial,?_⟩|(refine aH (fun h =>?_) (fun h =>?_))|(refine aJ (fun h =>?_) (fun h =>?_))|(refine aI (fun h =>?_) (fun h =>?_))|refine aC ?_|(refine ⟨aB (by omega),?_⟩)|(refine And.intro (by omega) ?_)|apply And.intro|(exact iEq (by omega))|(exact aB (by omega))
theorem uz(l:List Report)(m:aO)(now:Int)(h0:d9 l m now=0){H:Heap}{id:Nat}{own:Bool}{z:Nat}(hid:H[id]?=some (.cells own z (l.flatMap aq))) :
  ap prog F.gG [.slice (some ⟨id,0,some 2⟩) l.length l.length,bj m,.int .i64 now] H [] (Is (.tuple #[dB (aR (told l m now) l.length),cellV ((aK (told l m now) (ao (told l m now))).getD ak)]) H):=by
 refine ua (Eq.mpr (u9 _ l m now) ?_) (rN (bX 0 l)) (by show (aS 0 (dB _)&&(true&&true))=true;rw[qX];rfl) [id] rfl (rM hid)
 unfold oh
 have o:=opened h0
 have hn:=o.len
 have hn2:=gz l m now
 have hsome:=(nf (told l m now)).2
 obtain ⟨hg1,hg2⟩:=sG (gI h0) (by omega)
 rw[hn2]at hg2
 rw[hg2]
 have htl:=fO (told l m now) l.length
 have at0:(dBL (bZ (told l m now)))[0]?=some (dB (aR (told l m now) l.length)):=by
  have:=pu (y:=0) hg1
  rw[hg2]at this
  exact this
 refine ⟨⟨rfl,trivial⟩,fun H' hl hd=>rZ l m now h0 hl hd.1,by omega,at0,rfl,⟨Nat.zero_le _,rfl⟩,?_,fun _=>rfl,?_⟩
 ·repeat' first|exact (e6 _ 1 _).symm|exact trivial|exact rfl|exact aw _|refine av ?_|refine aA ?_ ?_|exact aG|exact aL _ _ _ (.inl rfl)|(exact bw (by omega))|refine aE ?_|refine aD ?_|refine ⟨rfl,?_⟩|refine ⟨trivial,?_⟩|(refine aH (fun h =>?_) (fun h =>?_))|(refine aJ (fun h =>?_) (fun h =>?_))|(refine aI (fun h =>?_) (fun h =>?_))|refine aC ?_|(refine ⟨aB (by omega),?_⟩)|(refine And.intro (by omega) ?_)|apply And.intro|(exact iEq (by omega))|(exact aB (by omega))
 rintro ⟨x,c⟩ ⟨hx,hc⟩
 dsimp only at hx hc ⊢
 refine aH (fun h =>?_) (fun h =>?_)
 ·have hlt:x<l.length:=by omega
  have g1:=jd (m:=m) (now:=now) hlt
  have ht:=gA hc
  have hq:(aR (told l m now) l.length).getD x false=bW (told l m now).length (ao (told l m now)) x:=di hlt
  refine ⟨by omega,lc (by omega),mD (fun k =>?_) (fun k =>?_)⟩
  ·rw[show bW (told l m now).length (ao (told l m now)) x=true from hq.symm.trans k,if_pos rfl,g1]at ht
   have hok:okC (cj c (br (l.getD x ad) m now)):=by
    refine Classical.byContradiction fun hk =>?_
    rw[if_neg hk]at ht
    have:=lw ht (n:=(told l m now).length) (by omega)
    unfold aK at hsome
    rw[this]at hsome;cases hsome
   rw[if_pos hok]at ht
   refine ⟨by omega,dG hlt,_,trivial,fun H' _ _=>rY _ m now (o.each x hlt).1 o.rates ⟨(o.each x hlt).2,o.hour.2⟩ H',_,trivial,fun H' _ _=>vV _ _ H',aB (by omega),(x+1,cj c (br (l.getD x ad) m now)),⟨hlt,ht⟩,(show l.length-(x+1)<l.length-x by omega),?_⟩
   repeat' first|exact (e6 _ 1 _).symm|exact trivial|exact rfl|exact aw _|refine av ?_|refine aA ?_ ?_|exact aG|exact aL _ _ _ (.inl rfl)|(exact bw (by omega))|refine aE ?_|refine aD ?_|refine ⟨rfl,?_⟩|refine ⟨trivial,?_⟩|(refine aH (fun h =>?_) (fun h =>?_))|(refine aJ (fun h =>?_) (fun h =>?_))|(refine aI (fun h =>?_) (fun h =>?_))|refine aC ?_|(refine ⟨aB (by omega),?_⟩)|(refine And.intro (by omega) ?_)|apply And.intro|(exact iEq (by omega))|(exact aB (by omega))
  ·rw[show bW (told l m now).length (ao (told l m now)) x=false from hq.symm.trans k,if_neg (by decide)]at ht
   refine ⟨aB (by omega),(x+1,c),⟨hlt,ht⟩,(show l.length-(x+1)<l.length-x by omega),?_⟩
   repeat' first|exact (e6 _ 1 _).symm|exact trivial|exact rfl|exact aw _|refine av ?_|refine aA ?_ ?_|exact aG|exact aL _ _ _ (.inl rfl)|(exact bw (by omega))|refine aE ?_|refine aD ?_|refine ⟨rfl,?_⟩|refine ⟨trivial,?_⟩|(refine aH (fun h =>?_) (fun h =>?_))|(refine aJ (fun h =>?_) (fun h =>?_))|(refine aI (fun h =>?_) (fun h =>?_))|refine aC ?_|(refine ⟨aB (by omega),?_⟩)|(refine And.intro (by omega) ?_)|apply And.intro|(exact iEq (by omega))|(exact aB (by omega))
 ·obtain rfl:x=l.length:=by omega
  have:(aK (told l m now) (ao (told l m now))).getD ak=c:=by
   unfold aK
   rw[hn2,hc];rfl
  rw[this]
end
end Go.Proofs.YthcjliffpebjaaaGreat
namespace Go.Proofs.YthcjliffpebjaaaGreat
noncomputable section
attribute [local irreducible] vF
theorem oM{w h:Int}(a:1<=w/\w<=64)(b:1<=h/\h<=64):1<=w*h/\w*h<=4096:=by
 have h1:1*1<=w*h:=Int.mul_le_mul a.1 b.1 (by omega) (by omega)
 have h2:w*h<=64*64:=Int.mul_le_mul a.2 b.2 (by omega) (by omega)
 omega
theorem hP{Y:Type}{f:Y->List Value}{n:Nat}(hf:∀x,(f x).length=n){L M:List Y}{x:Y}{c:List Value}{own:Bool}(hM:M=L ++ [x])(hc:f x=c) :
  (some (ae.cells own n (List.take (L.length*n) (List.drop 0 (L.flatMap f))++List.take (1*n) (List.drop 0 c))):Option ae)=some (.cells own n (M.flatMap f)):=by
 subst hc
 rw[hM,<- eL hf L x rfl,List.drop_zero,List.drop_zero,List.take_of_length_le (l:=f x) (by rw[hf];omega),List.take_of_length_le (by rw[bF hf];omega)]
theorem yk{f:FuncId}{args:List Value}{h:Hint}(v:Nat->Value){z:Nat}{cs:List Value}
    (hc:vF prog msk (dm 0) 100000 true 40 true f args ⟨0,.leaf⟩ (some []) h (fD 0 3 (v 0) [(true,.cells true z cs)]))
    (hp:∀n,cs.all (aS n)=true) (h1:cC 3 (v 0)=true) (h2:rn (bQ 0) 3 (v 0)=v 0) (h3:∀j,rn (cG 0 j) 3 (v 0)=v j) (ha:∀U,args.map (rn U 3)=args) (H:Heap) :
    ap prog f args H [] (Is (v H.length) (H ++ [.cells true z cs])):=by
  have key:=yJ (css:=[]) (v:=v 0) (new:=[(true,.cells true z cs)]) hc (fun c hc=>by cases hc) h1 h2
    (by show ((cT 3 (.cells true z cs) && true) && true) = true
        rw[Bool.and_true,Bool.and_true];exact (gk (U:=fun _=>none) (d:=0) (hp 0)).2)
    (congrArg (fun q=>[ae.cells true z q]) (gk (d:=0) (hp 0)).1) (H:=H) [] rfl (fun k c hk=>by cases hk)
  have e2:(List.map (fun x:Bool×ae=>x.2) [(true,ae.cells true z cs)]).map (rno (cG (0+([]:List (List Value)).length) H.length) 3)=[.cells true z cs] :=
    congrArg (fun q=>[ae.cells true z q]) (gk (d:=0) (hp 0)).1
  rw[e2,show rn (cG (0+([]:List (List Value)).length) H.length) 3 (v 0)=v H.length from h3 _,ha]at key
  exact key
def qF(H:Heap):List Nat->List (List Value)->Prop
 | [],[] =>True
 |id :: ids,c :: css=>(∃own z,H[id]?=some (.cells own z c))/\qF H ids css
 |_,_=>False
theorem kj{H:Heap}:∀{ids:List Nat} {css:List (List Value)},qF H ids css->ids.length=css.length
 | [],[],_=>rfl
 |_ :: ids,_ :: css,h=>by rw[List.length_cons,List.length_cons,kj h.2]
 | [],_ :: _,h=>h.elim
 |_ :: _,[],h=>h.elim
theorem iX{H:Heap}:∀{ids:List Nat} {css:List (List Value)},qF H ids css->∀(k:Nat) (c:List Value),css[k]?=some c->∃id own z,ids[k]?=some id/\H[id]?=some (ae.cells own z c)
 | [],[],_,k,c,hk=>by simp at hk
 |i :: ids,d :: css,h,0,c,hk=>by
  obtain ⟨⟨own,z,e⟩,_⟩:=h
  cases hk
  exact ⟨i,own,z,rfl,e⟩
 |i :: ids,d :: css,h,k+1,c,hk=>by
  obtain ⟨id,own,z,a,b⟩:=iX h.2 k c (by simpa using hk)
  exact ⟨id,own,z,by simpa using a,b⟩
 | [],_ :: _,h,_,_,_=>h.elim
 |_ :: _,[],h,_,_,_=>h.elim
def jp:List (List Value)->Prop
 | [] =>True
 |c :: css=>c.all (aS 0)=true/\jp css
theorem fo:∀{css:List (List Value)},jp css->∀c∈css,c.all (aS 0)=true
 | [],_,c,h=>by cases h
 |d :: css,hp,c,h=>by
  rcases List.mem_cons.1 h with rfl|h
  ·exact hp.1
  ·exact fo hp.2 c h
def rP:List ae->Prop
 | [] =>True
 |o :: os=>(∃z cs,o = .cells true z cs/\cs.all (aS 0)=true)/\rP os
theorem fe{U:Nat->Option Nat}:∀{os:List ae},rP os->(os.all fun o=>cT 3 o&&o.owned)=true/\os.map (rno U 3)=os
 | [],_=>⟨rfl,rfl⟩
 |o :: os,⟨⟨z,cs,e,h⟩,hs⟩=>by
  subst e
  obtain ⟨a,b⟩:=fe (U:=U) hs
  obtain ⟨c,d⟩:=gk (U:=U) (d:=0) h
  refine ⟨?_,?_⟩
  ·rw[List.all_cons,a,Bool.and_true]
   show (cT 3 (.cells true z cs)&&true)=true
   rw[Bool.and_true];exact d
  ·rw[List.map_cons,b]
   show ae.cells true z (cs.map (rn U 3)) :: os=_
   rw[c]
theorem vk{f:FuncId}{args:List Value}{css:List (List Value)}{h:Hint}(v:Nat->Value){new:List ae}
  (hc:vF prog msk (dm 0) 100000 true 40 true f args (bi 0 css) (some []) h (fD (bi 0 css).n 3 (v css.length) (new.map fun o=>(true,o))))
  (hp:jp css) (hn:rP new) (h1:cC 3 (v css.length)=true) (h2:rn (bQ (0+css.length)) 3 (v css.length)=v css.length) (h3:∀j,rn (cG (0+css.length) j) 3 (v css.length)=v j)
  {H:Heap} {ids:List Nat} (hi:qF H ids css) {args':List Value} (ha:args.map (rn (sgR 0 ids) 3)=args') :
  ap prog f args' H [] (Is (v H.length) (H++new)):=by
 subst ha
 have e0:(new.map fun o=>(true,o)).map (·.2)=new:=by rw[List.map_map];exact List.map_id _
 have key:=yJ (css:=css) (v:=v css.length) (new:=new.map fun o=>(true,o)) hc (fo hp) h1 h2 (by rw[e0];exact (fe (U:=fun _=>none) hn).1) (by rw[e0];exact (fe hn).2) (H:=H) ids (kj hi) (iX hi)
 rw[e0,(fe hn).2,h3]at key
 exact key
theorem mB{Y:Type}{l:List Y}{d y:Y}{i j:Nat}(hi:i<l.length):(l.set i y).getD j d=if j=i then y else l.getD j d:=by
 rw[List.getD_eq_getElem?_getD,List.getElem?_set,List.getD_eq_getElem?_getD]
 by_cases h:i=j
 ·rw[if_pos h,if_pos (h ▸ hi),if_pos h.symm];rfl
 ·rw[if_neg h,if_neg (fun e=>h e.symm)]
theorem jY{Y:Type}{l:List Y}{d:Y}{k:Nat}(h:k<l.length):l.take (k+1)=l.take k ++ [l.getD k d]:=by
 rw[List.take_add_one,List.getElem?_eq_getElem h,List.getD_eq_getElem?_getD,List.getElem?_eq_getElem h];rfl
abbrev chV(k i:Nat)(c:oo):Value:=.agg #[.int .i64 c.w,.int .i64 c.h,.int .i64 c.hour,.slice (some ⟨i,0,some k⟩) c.cells.length c.cells.length]
theorem dD{Y:Type}{d:Y}{f:Nat->Y}{n:Nat}{l:List Y}(hl:l.length=n)(h:∀k,k<n->l.getD k d=f k):eC f n=l:=by
 refine List.ext_getElem (by rw[cw,hl]) fun k h1 h2 =>?_
 have:=h k (by omega)
 rw[List.getD_eq_getElem?_getD,List.getElem?_eq_getElem h2]at this
 simp only[eC,List.getElem_map,List.getElem_range]
 exact this.symm
theorem nD(r k:Nat)(ms:List Value):(ba r k ms)[0]?=ms[0]? := by
 cases r with
 |zero=>rfl
 |succ r=>exact List.getElem?_set_ne (by omega)
theorem zZ{f:FuncId}{args:List Value}{css:List (List Value)}{h:Hint}{v:Value}(hc:vF prog msk (dm 0) 100000 true 40 true f args (bi 0 css) (some []) h (fun v' _ _=>v'=v))(hp:jp css)(hv:cc 0 v=true)
  {H:Heap} {ids:List Nat} (hi:qF H ids css) {args':List Value} (ha:args.map (rn (sgR 0 ids) 5)=args'):ap prog f args' H [] (Is v H):=by
 subst ha
 exact ua hc (fo hp) hv ids (kj hi) (iX hi)
theorem sZ{id n m:Nat}(h:m=n)(h0:0<n):wk (.slice (some ⟨id,0,none⟩) n n) (.slice (some ⟨id,0,some 1⟩) m m):=by subst h;exact bw h0
end
end Go.Proofs.YthcjliffpebjaaaGreat
