/- Ice: the examples of the chapter (awake), as a contract. No condition. -/
import Derived.Test.YthcjliffpebjaaaGreatA4a
import Derived.Test.YthcjliffpebjaaaGreatGP5xK39
import Derived.Test.YthcjliffpebjaaaGreatGR1xG0
import Derived.Shelf.Sort.Plain
import Derived.Ground.Names2Prog
import Derived.Test.YthcjliffpebjaaaGreatChecked
open Go Go.K
set_option maxRecDepth 1000000
set_option maxHeartbeats 4000000
set_option linter.unusedVariables false
set_option linter.unusedSimpArgs false
namespace Go.Proofs.YthcjliffpebjaaaGreat
noncomputable section
attribute [local irreducible] vF
theorem mi(H:Heap):ap prog F.b6 [] H [] (Is (.bool true) H):=by
 have hv:vF prog msk (dm zg) 100000 true 40 true F.b6 [] ⟨0,.leaf⟩ none .auto (fun v _ _=>ph v):=of_eq_true wW
 have h0:=vc (P:=prog) (mask:=msk) (dm:=dm zg) (rounds:=100000) (mixed:=true) ny mixed 40 (f:=F.b6) (args:=[]) (H:=⟨0,.leaf⟩) (M:=none) (h:=.auto) (Q:=fun v _=>ph v) hv
 have h1:ap prog F.b6 [] [] [] (fun v _=>v = .bool true):=h0.post (fun v H' h=>by
   cases v <;> first|exact h.elim|(rename_i b;cases b <;> first|rfl|exact h.elim))
 have h2:ap prog F.b6 [] [] [] (Is (.bool true) []):=ap.clean h1 rfl
 have h3:=ap.frame (H:=H) (new:=[]) (d:=3) (U:=fun _=>none) ⟨fun g hg=>absurd hg (by rw[dS];exact Nat.not_lt_zero _),fun _ _ h=>(by cases h),fun id h=>absurd h (Nat.not_lt_zero _),fun _ _ _ h=>(by cases h),fun _ _ _ h=>(by cases h)⟩ h2 rfl rfl
 simpa[rn] using h3
theorem pU:∀(n o A B:List Value),o.length=n.length->bN (A++(o++B)) A.length n=A++(n++B)
 | [],[],A,B,_=>rfl
 |v :: n,w :: o,A,B,h=>by
  have e:(A++(w :: o++B)).set A.length v=(A ++ [v])++(o++B):=by simp
  have:=pU n o (A ++ [v]) B (by simpa using h)
  simp only[bN]
  rw[e]
  simpa using this
theorem jK{Y:Type}{f:Y->List Value}{m:Nat}(hf:∀x,(f x).length=m)(xs:List Y)(k:Nat)(hk:k<xs.length)(y:Y):bN (xs.flatMap f) (k*m) (f y)=(xs.set k y).flatMap f:=by
 have e1:xs=xs.take k++xs[k] :: xs.drop (k+1):=by rw[<- List.drop_eq_getElem_cons hk,List.take_append_drop]
 have e2:xs.set k y=xs.take k++y :: xs.drop (k+1):=by rw[List.set_eq_take_append_cons_drop,if_pos hk]
 have hl:((xs.take k).flatMap f).length=k*m:=by rw[bF hf,List.length_take,Nat.min_eq_left (Nat.le_of_lt hk)]
 rw[e2]
 conv=>lhs;rw[e1]
 rw[List.flatMap_append,List.flatMap_cons,List.flatMap_append,List.flatMap_cons,<- hl]
 exact pU _ _ _ _ (by rw[hf,hf])
theorem aQR{a b c:Int}{id n:Nat}:wk (.agg #[.int .i64 a,.int .i64 b,.int .i64 c,.slice (some ⟨id,0,some 1⟩) n n]) (.agg #[.int .i64 a,.int .i64 b,.int .i64 c,.slice (some ⟨id,0,some 2⟩) n n]) :=
 aD ⟨aw _,aw _,aw _,lj,trivial⟩
theorem vf{n:Nat}(h:n<18446744073709551616):IntKind.wrap .u64 (n:Int)=n:=by
 unfold IntKind.wrap
 simp[IntKind.signed,IntKind.bits]
 omega
theorem yB{n:Nat}(h:n<4294967296):(BitVec.ofInt (IntKind.bits .u64) (n:Int) &&& BitVec.ofInt (IntKind.bits .u64) 4294967295).toNat=n:=by
 show (BitVec.ofInt 64 (n:Int) &&& BitVec.ofInt 64 4294967295).toNat=n
 rw[BitVec.toNat_and,BitVec.toNat_ofInt,BitVec.toNat_ofInt]
 have e1:((n:Int) % (2 ^ 64:Nat)).toNat=n:=by omega
 have e2:((4294967295:Int) % (2 ^ 64:Nat)).toNat=2 ^ 32-1:=by decide
 rw[e1,e2,Nat.and_two_pow_sub_one_eq_mod]
 exact Nat.mod_eq_of_lt h
theorem A3(n:Nat)(hn:n<4294967296)(H:Heap):ap prog F.mY [.int .u64 1,.int .u64 (n:Int)] H [] (Is (.tuple #[.int .u64 0,.int .u64 (n:Int)]) H):=by
 refine fk 40 (fun _=>rfl) rfl (Eq.mpr (Bf _ n) ?_) H
 unfold AM
 have f0:Int.fdiv (n:Int) (2 ^ 32)=0:=by rw[Int.fdiv_eq_ediv_of_nonneg _ (by decide)];omega
 have a0:(BitVec.ofInt (IntKind.bits .u64) (0:Int) &&& BitVec.ofInt (IntKind.bits .u64) 4294967295).toNat=0:=yB (n:=0) (by decide)
 have w0:IntKind.wrap .u64 ((0:Nat):Int)=0:=vf (by decide)
 refine ⟨n,by rw[yB hn,vf (by omega)],?_⟩
 simp only[Int.one_mul,Int.zero_mul,Int.zero_add,f0,a0]
 refine ⟨by rw[vf (by omega)],by first|rfl|exact congrArg _ w0,by first|rfl|exact congrArg _ w0,0,by first|rfl|exact congrArg _ w0,?_⟩
 simp only[Int.zero_add,Int.add_zero]
 exact ⟨congrArg _ w0,congrArg _ w0,congrArg _ w0,congrArg _ w0,0,rfl,congrArg _ w0,by rw[vf (by omega)],rfl⟩
theorem fK(n:Nat)(c:Cell):((List.replicate n c).flatMap cellC).length=n*8:=by rw[bF cL,List.length_replicate]
theorem oJ(a b:Nat)(c:Cell):(List.replicate (a+b) c).flatMap cellC=(List.replicate a c).flatMap cellC++(List.replicate b c).flatMap cellC:=by
 rw[<- List.replicate_append_replicate,List.flatMap_append]
theorem ni:∀(N B A C:List Value),N.length=B.length->bN (A++(B++C)) A.length N=A++(N++C)
 | [],B,A,C,h=>by
  cases B with
  |nil=>rfl
  |cons b B=>cases h
 |v :: N,B,A,C,h=>by
  cases B with
  |nil=>cases h
  |cons b B =>
   show bN ((A++(b :: B++C)).set A.length v) (A.length+1) N=_
   have e:(A++(b :: B++C)).set A.length v=(A ++ [v])++(B++C):=by
    rw[List.set_append_right _ _ (Nat.le_refl _),Nat.sub_self];simp
   have e2:A.length+1=(A ++ [v]).length:=by simp
   rw[e,e2,ni N B (A ++ [v]) C (Nat.succ.inj h)]
   simp
theorem uA(n:Nat):cW [.int .i64 0,.int .i64 0,.int .i64 0,.int .i64 0,.int .i64 0,.int .i64 0,.int .i64 0,.int .i64 0] n=(List.replicate n ak).flatMap cellC:=by
 induction n with
 |zero=>rfl
 |succ n ih=>show _++cW _ n=_;rw[ih,List.replicate_succ,List.flatMap_cons];rfl
theorem um{c:Cell}{n x:Nat}(h:x<=n):(cf c n x).length=n:=by unfold cf;rw[aX,List.length_replicate,List.length_replicate];omega
theorem vy{c:Cell}{n x q:Nat}(h1:q<=x)(h2:x+q<=n):bN ((cf c n x).flatMap cellC) (x*8) (List.take (q*8) (List.drop 0 ((cf c n x).flatMap cellC)))=(cf c n (x+q)).flatMap cellC:=by
 have e1:(cf c n x).flatMap cellC=(List.replicate x c).flatMap cellC++((List.replicate q ak).flatMap cellC++(List.replicate (n-(x+q)) ak).flatMap cellC):=by
  unfold cf
  rw[List.flatMap_append,<- oJ,show n-x=q+(n-(x+q)) by omega]
 have e2:List.take (q*8) (List.drop 0 ((cf c n x).flatMap cellC))=(List.replicate q c).flatMap cellC:=by
  have e3:(cf c n x).flatMap cellC=(List.replicate q c).flatMap cellC++((List.replicate (x-q) c).flatMap cellC++(List.replicate (n-x) ak).flatMap cellC):=by
   unfold cf
   rw[List.flatMap_append,<- List.append_assoc,<- oJ,show q+(x-q)=x by omega]
  rw[e3,List.drop_zero,List.take_append_of_le_length (by rw[fK];exact Nat.le_refl _),List.take_of_length_le (by rw[fK];exact Nat.le_refl _)]
 rw[e2,e1,<- fK x c,ni _ _ _ _ (by rw[fK,fK])]
 unfold cf
 rw[List.flatMap_append,oJ,List.append_assoc]
theorem ur(l:List Cell)(n:Nat):((List.take n (List.drop 0 (l.flatMap cellC))).all fun v=>bV v)=true:=by
 rw[List.all_eq_true]
 intro v hv
 have h:=List.mem_of_mem_take hv
 rw[List.drop_zero]at h
 obtain ⟨c,_,h⟩:=List.mem_flatMap.1 h
 simp only[cellC,List.mem_cons,List.not_mem_nil,or_false,List.mem_append]at h
 rcases h with h|h|h|h|h|h|h|h <;> (subst h;rfl)
theorem xF(c:Cell)(n:Nat)(h1:1<=n)(hn:n<=100000){H:Heap}{L:Nat}(hL:H.length=L){id:Nat}{own:Bool}{z:Nat}(hid:H[id]?=some (.cells own z (cellC c))) :
  ap prog F.dr [.slice (some ⟨id,0,some 2⟩) 1 1,.int .i64 (n:Int)] H [] (Is (.slice (some ⟨L,0,some 1⟩) n n) (H ++ [.cells true 8 ((List.replicate n c).flatMap cellC)])):=by
 subst hL
 have hnn:cf c n n=List.replicate n c:=by unfold cf;rw[Nat.sub_self];simp
 rw[<- hnn]
 refine vk (fun i => .slice (some ⟨i,0,some 1⟩) n n) (css:=[cellC c]) (new:=[.cells true 8 ((cf c n n).flatMap cellC)]) (Eq.mpr (yh c n) ?_) ⟨rfl,trivial⟩ ⟨⟨_,_,rfl,bE 0 _⟩,trivial⟩ rfl rfl (fun _=>rfl) (ids:=[id]) ⟨⟨_,_,hid⟩,trivial⟩ rfl
 unfold tX
 rw[yH (n:=(n:Int)) (by omega),vf (by omega),show Int.toNat (n:Int)=n from Int.toNat_natCast n,Nat.min_eq_left h1,uA]
 refine aH (fun q=>absurd q (by omega)) (fun _=>⟨trivial,fun H' _ _=>A3 n (by omega) H',aH (fun q=>absurd q (by omega)) (fun _=>⟨⟨by omega,by omega,by omega,by omega⟩,⟨⟨Nat.le_refl _,Nat.le_refl 8⟩,by rw[fK];omega,rfl⟩,rfl,rfl,h1,?_,fun _=>rfl,?_⟩)⟩)
 ·have e:bN ((List.replicate n ak).flatMap cellC) 0 (List.take (1*8) (List.drop 0 (cellC c)))=(cf c n (0+1)).flatMap cellC:=by
   have:=jK (f:=cellC) cL (List.replicate n ak) 0 (by rw[List.length_replicate];omega) c
   rw[Nat.zero_mul]at this
   refine Eq.trans this (congrArg _ ?_)
   unfold cf
   obtain ⟨k,rfl⟩:∃k,n=k+1:=⟨n-1,by omega⟩
   rw[List.replicate_succ];rfl
  repeat' first|(exact congrArg (fun q=>some (ae.cells true 8 q)) e)|exact bE _ _|exact trivial|exact rfl|exact aw _|refine av ?_|refine aA ?_ ?_|exact aG|exact aL _ _ _ (.inl rfl)|(exact bw (by omega))|refine aE ?_|refine aD ?_|refine aQ ?_ ?_ ?_|refine aP ?_ ?_ ?_|refine toMax ?_|refine toMin ?_|refine ⟨rfl,?_⟩|refine ⟨trivial,?_⟩|(refine aH (fun h =>?_) (fun h =>?_))|(refine aJ (fun h =>?_) (fun h =>?_))|(refine aI (fun h =>?_) (fun h =>?_))|refine aC ?_|(refine ⟨aB (by omega),?_⟩)|(refine And.intro (by omega) ?_)|apply And.intro|(exact iEq (by omega))|(exact aB (by omega))
 intro x hx
 have hl:=um (c:=c) hx
 refine aH (fun k =>?_) (fun k =>?_)
 ·have hq1:min (x+1) (n-(x+1))<=x+1:=Nat.min_le_left _ _
  have hq2:min (x+1) (n-(x+1))<=n-(x+1):=Nat.min_le_right _ _
  have hq3:1<=min (x+1) (n-(x+1)):=Nat.le_min.2 ⟨by omega,by omega⟩
  have es:=vy (c:=c) hq1 (show (x+1)+min (x+1) (n-(x+1))<=n by omega)
  generalize min (x+1) (n-(x+1))=q at *
  have hxi:Int.toNat ((x+1:Nat):Int)=x+1:=Int.toNat_natCast _
  rw[hxi]
  refine ⟨⟨.inr (.inr rfl),Nat.le_refl _,by omega,by omega⟩,rfl,⟨.inr (.inr rfl),⟨by omega,by omega⟩,Nat.zero_le _⟩,rfl,⟨⟨hq1,by rw[bF cL,hl];omega⟩,by rw[bF cL,hl];omega,ur _ _⟩,rfl,aB (by omega),_,rfl,x+q,by omega,by omega,rfl,?_⟩
  have es2:bN ((cf c n (x+1)).flatMap cellC) (0+(x+1)*8) (List.take (q*8) (List.drop 0 ((cf c n (x+1)).flatMap cellC)))=(cf c n (x+q+1)).flatMap cellC:=by
   rw[Nat.zero_add,es,show x+1+q=x+q+1 by omega]
  repeat' first|(exact congrArg (fun q=>some (ae.cells true 8 q)) es2)|exact bE _ _|exact trivial|exact rfl|exact aw _|refine av ?_|refine aA ?_ ?_|exact aG|exact aL _ _ _ (.inl rfl)|(exact bw (by omega))|refine aE ?_|refine aD ?_|refine aQ ?_ ?_ ?_|refine aP ?_ ?_ ?_|refine toMax ?_|refine toMin ?_|refine ⟨rfl,?_⟩|refine ⟨trivial,?_⟩|(refine aH (fun h =>?_) (fun h =>?_))|(refine aJ (fun h =>?_) (fun h =>?_))|(refine aI (fun h =>?_) (fun h =>?_))|refine aC ?_|(refine ⟨aB (by omega),?_⟩)|(refine And.intro (by omega) ?_)|apply And.intro|(exact iEq (by omega))|(exact aB (by omega))
 ·obtain rfl:n=x+1:=by omega
  repeat' first|exact bE _ _|exact trivial|exact rfl|exact aw _|refine av ?_|refine aA ?_ ?_|exact aG|exact aL _ _ _ (.inl rfl)|(exact bw (by omega))|refine aE ?_|refine aD ?_|refine aQ ?_ ?_ ?_|refine aP ?_ ?_ ?_|refine toMax ?_|refine toMin ?_|refine ⟨rfl,?_⟩|refine ⟨trivial,?_⟩|(refine aH (fun h =>?_) (fun h =>?_))|(refine aJ (fun h =>?_) (fun h =>?_))|(refine aI (fun h =>?_) (fun h =>?_))|refine aC ?_|(refine ⟨aB (by omega),?_⟩)|(refine And.intro (by omega) ?_)|apply And.intro|(exact iEq (by omega))|(exact aB (by omega))
theorem yA{r:oo×Int}{e:Int}(h:r=(dv,e)):true=true/\wk (.tuple #[.agg #[.int .i64 0,.int .i64 0,.int .i64 0,.slice none 0 0],.int .i64 e]:Value) (rn (sg 0 []) 3 (.tuple #[chV 1 0 r.1,.int .i64 r.2]))/\(True/\True):=by
 subst h
 exact ⟨rfl,aE ⟨aD ⟨aw _,aw _,aw _,aL _ _ _ (.inl rfl),trivial⟩,aw _,trivial⟩,trivial,trivial⟩
theorem gU{w h t:Int}(e:¬ bl w h t=0):ax w h t=(dv,bl w h t):=if_neg e
theorem gT{w h t:Int}(e:bl w h t=0):ax w h t=(⟨w,h,t,am (Int.toNat (w*h))⟩,0):=if_pos e
theorem pC(x:Nat):am (x+1)=am x ++ [ay]:=by
 unfold am;rw[<- List.replicate_append_replicate];rfl
theorem cO(n:Nat):(am n).length=n:=List.length_replicate
theorem sy(w h t:Int){H:Heap}{L:Nat}(hL:H.length=L) :
  ap prog F.uJ [.int .i64 w,.int .i64 h,.int .i64 t] H [] (Is (.tuple #[chV 1 L (ax w h t).1,.int .i64 (ax w h t).2]) (H ++ [.cells true 8 ((ax w h t).1.cells.flatMap cellC)])):=by
 subst hL
 refine yk (fun i => .tuple #[chV 1 i (ax w h t).1,.int .i64 (ax w h t).2]) (Eq.mpr (zR w h t) ?_) (fun n=>bE n _) rfl rfl (fun _=>rfl) (fun _=>rfl) H
 unfold xd
 refine ⟨trivial,fun H' _ _=>bu w h t H',aJ (fun h0=>yA (gU h0)) (fun h0 =>?_)⟩
 obtain ⟨h1,h2,h3,h4⟩:=dz.1 h0
 have hb:=oM h1 h2
 refine ⟨trivial,fun H' _ _=>zb H',aB (by omega),⟨rfl,trivial⟩,fun H' hl hd =>?_,?_⟩
 ·have hw:(((Int.toNat (w*h):Nat):Nat):Int)=w*h:=Int.toNat_of_nonneg (by omega)
  have:=xF ay (Int.toNat (w*h)) (by omega) (by omega) hl hd.1
  rw[hw]at this
  exact this.wkA ⟨zW,aw _,trivial⟩
 ·rw[gT h0]
  dsimp only
  rw[cO]
  repeat' first|exact bE _ _|exact trivial|exact rfl|exact aw _|refine av ?_|refine aA ?_ ?_|exact aG|exact aL _ _ _ (.inl rfl)|(exact bw (by omega))|refine aE ?_|refine aD ?_|refine aQ ?_ ?_ ?_|refine aP ?_ ?_ ?_|refine toMax ?_|refine toMin ?_|refine ⟨rfl,?_⟩|refine ⟨trivial,?_⟩|(refine aH (fun h =>?_) (fun h =>?_))|(refine aJ (fun h =>?_) (fun h =>?_))|(refine aI (fun h =>?_) (fun h =>?_))|refine aC ?_|(refine ⟨aB (by omega),?_⟩)|(refine And.intro (by omega) ?_)|apply And.intro|(exact iEq (by omega))|(exact aB (by omega))
theorem oT(w h t:Int){H:Heap}{L:Nat}(hL:H.length=L) :
  ap prog F.iN [.int .i64 w,.int .i64 h,.int .i64 t] H [] (Is (.tuple #[chV 1 L (ax w h t).1,.int .i64 (ax w h t).2]) (H ++ [.cells true 8 ((ax w h t).1.cells.flatMap cellC)])):=by
 subst hL
 refine yk (fun i => .tuple #[chV 1 i (ax w h t).1,.int .i64 (ax w h t).2]) (Eq.mpr (ye w h t) ?_) (fun n=>bE n _) rfl rfl (fun _=>rfl) (fun _=>rfl) H
 unfold tU
 refine ⟨trivial,fun H' _ _=>xx w h t H',aJ (fun h0=>yA (gU h0)) (fun h0 =>?_)⟩
 obtain ⟨h1,h2,h3,h4⟩:=dz.1 h0
 have hb:=oM h1 h2
 refine ⟨rfl,Nat.zero_le _,?_,fun _=>rfl,?_⟩
 ·repeat' first|exact bE _ _|exact trivial|exact rfl|exact aw _|refine av ?_|refine aA ?_ ?_|exact aG|exact aL _ _ _ (.inl rfl)|(exact bw (by omega))|refine aE ?_|refine aD ?_|refine aQ ?_ ?_ ?_|refine aP ?_ ?_ ?_|refine toMax ?_|refine toMin ?_|refine ⟨rfl,?_⟩|refine ⟨trivial,?_⟩|(refine aH (fun h =>?_) (fun h =>?_))|(refine aJ (fun h =>?_) (fun h =>?_))|(refine aI (fun h =>?_) (fun h =>?_))|refine aC ?_|(refine ⟨aB (by omega),?_⟩)|(refine And.intro (by omega) ?_)|apply And.intro|(exact iEq (by omega))|(exact aB (by omega))
 intro x hx
 have c1:((am x).flatMap cellC).length=x*8:=by rw[bF cL,cO]
 refine ⟨aB (by omega),aH (fun k =>?_) (fun k =>?_)⟩
 ·have b1:=hP (own:=true) cL (pC x) (show cellC ay=cellC ay from rfl)
  rw[cO]at b1
  refine ⟨trivial,fun H' _ _=>xA H',⟨by omega,by decide,⟨Nat.le_refl _,by omega⟩,⟨Nat.le_refl _,Nat.le_refl 8⟩,rfl⟩,rfl,aB (by omega),x+1,by omega,by omega,rfl,?_⟩
  repeat' first|exact b1|exact bE _ _|exact trivial|exact rfl|exact aw _|refine av ?_|refine aA ?_ ?_|exact aG|exact aL _ _ _ (.inl rfl)|(exact bw (by omega))|refine aE ?_|refine aD ?_|refine aQ ?_ ?_ ?_|refine aP ?_ ?_ ?_|refine toMax ?_|refine toMin ?_|refine ⟨rfl,?_⟩|refine ⟨trivial,?_⟩|(refine aH (fun h =>?_) (fun h =>?_))|(refine aJ (fun h =>?_) (fun h =>?_))|(refine aI (fun h =>?_) (fun h =>?_))|refine aC ?_|(refine ⟨aB (by omega),?_⟩)|(refine And.intro (by omega) ?_)|apply And.intro|(exact iEq (by omega))|(exact aB (by omega))
 ·obtain rfl:x=Int.toNat (w*h):=by omega
  rw[gT h0]
  dsimp only
  rw[cO]
  repeat' first|exact bE _ _|exact trivial|exact rfl|exact aw _|refine av ?_|refine aA ?_ ?_|exact aG|exact aL _ _ _ (.inl rfl)|(exact bw (by omega))|refine aE ?_|refine aD ?_|refine aQ ?_ ?_ ?_|refine aP ?_ ?_ ?_|refine toMax ?_|refine toMin ?_|refine ⟨rfl,?_⟩|refine ⟨trivial,?_⟩|(refine aH (fun h =>?_) (fun h =>?_))|(refine aJ (fun h =>?_) (fun h =>?_))|(refine aI (fun h =>?_) (fun h =>?_))|refine aC ?_|(refine ⟨aB (by omega),?_⟩)|(refine And.intro (by omega) ?_)|apply And.intro|(exact iEq (by omega))|(exact aB (by omega))
end
end Go.Proofs.YthcjliffpebjaaaGreat
namespace Go.Proofs.YthcjliffpebjaaaGreat
open Go Go.Shelf
def ug:Go.Shelf.Ren:=⟨fun|189=>128|125=>153|257=>152|128=>171|129=>172|294=>162|295=>163|296=>164|297=>165|298=>166|299=>167|216=>168|300=>169|301=>170|328=>185|329=>186|330=>187|331=>188|332=>189|215=>184|343=>193|n=>n,fun|28=>66|3=>3|46=>201|0=>0|51=>213|53=>216|4=>4|183=>221|182=>220|131=>226|5=>5|9=>9|218=>235|222=>127|228=>242|229=>243|n=>n,fun|n=>n⟩
theorem Ab:Go.Proofs.Lays.n189 Tryz.prog ug:={
 mixed:=by kernel_rfl
 f125:=Tryz.func153.trans (congrArg some (by kernel_rfl))
 f128:=Tryz.func171.trans (congrArg some (by kernel_rfl))
 f129:=Tryz.func172.trans (congrArg some (by kernel_rfl))
 f189:=Tryz.func128.trans (congrArg some (by kernel_rfl))
 f215:=Tryz.func184.trans (congrArg some (by kernel_rfl))
 f216:=Tryz.func168.trans (congrArg some (by kernel_rfl))
 f257:=Tryz.func152.trans (congrArg some (by kernel_rfl))
 f294:=Tryz.func162.trans (congrArg some (by kernel_rfl))
 f295:=Tryz.func163.trans (congrArg some (by kernel_rfl))
 f296:=Tryz.func164.trans (congrArg some (by kernel_rfl))
 f297:=Tryz.func165.trans (congrArg some (by kernel_rfl))
 f298:=Tryz.func166.trans (congrArg some (by kernel_rfl))
 f299:=Tryz.func167.trans (congrArg some (by kernel_rfl))
 f300:=Tryz.func169.trans (congrArg some (by kernel_rfl))
 f301:=Tryz.func170.trans (congrArg some (by kernel_rfl))
 f328:=Tryz.func185.trans (congrArg some (by kernel_rfl))
 f329:=Tryz.func186.trans (congrArg some (by kernel_rfl))
 f330:=Tryz.func187.trans (congrArg some (by kernel_rfl))
 f331:=Tryz.func188.trans (congrArg some (by kernel_rfl))
 f332:=Tryz.func189.trans (congrArg some (by kernel_rfl))
 f343:=Tryz.func193.trans (congrArg some (by kernel_rfl))
 t0:=Tryz.underlying0
 a0:=Tryz.isAgg0
 z0:=Tryz.sizeOf0
 v0:=Tryz.zeroValue0
 t3:=Tryz.underlying3
 a3:=Tryz.isAgg3
 z3:=Tryz.sizeOf3
 v3:=Tryz.zeroValue3
 t4:=Tryz.underlying4
 a4:=Tryz.isAgg4
 z4:=Tryz.sizeOf4
 v4:=Tryz.zeroValue4
 t5:=Tryz.underlying5
 a5:=Tryz.isAgg5
 z5:=Tryz.sizeOf5
 v5:=Tryz.zeroValue5
 t9:=Tryz.underlying9
 a9:=Tryz.isAgg9
 z9:=Tryz.sizeOf9
 v9:=Tryz.zeroValue9
 t28:=Tryz.underlying66
 a28:=Tryz.isAgg66
 z28:=Tryz.sizeOf66
 v28:=Tryz.zeroValue66
 t46:=Tryz.underlying201
 a46:=Tryz.isAgg201
 z46:=Tryz.sizeOf201
 v46:=Tryz.zeroValue201
 t51:=Tryz.underlying213
 a51:=Tryz.isAgg213
 z51:=Tryz.sizeOf213
 v51:=Tryz.zeroValue213
 t53:=Tryz.underlying216
 a53:=Tryz.isAgg216
 z53:=Tryz.sizeOf216
 v53:=Tryz.zeroValue216
 t131:=Tryz.underlying226
 a131:=Tryz.isAgg226
 z131:=Tryz.sizeOf226
 v131:=Tryz.zeroValue226
 t182:=Tryz.underlying220
 a182:=Tryz.isAgg220
 z182:=Tryz.sizeOf220
 v182:=Tryz.zeroValue220
 t183:=Tryz.underlying221
 a183:=Tryz.isAgg221
 z183:=Tryz.sizeOf221
 v183:=Tryz.zeroValue221
 t218:=Tryz.underlying235
 a218:=Tryz.isAgg235
 z218:=Tryz.sizeOf235
 v218:=Tryz.zeroValue235
 t222:=Tryz.underlying127
 a222:=Tryz.isAgg127
 z222:=Tryz.sizeOf127
 v222:=Tryz.zeroValue127
 t228:=Tryz.underlying242
 a228:=Tryz.isAgg242
 z228:=Tryz.sizeOf242
 v228:=Tryz.zeroValue242
 t229:=Tryz.underlying243
 a229:=Tryz.isAgg243
 z229:=Tryz.sizeOf243
 v229:=Tryz.zeroValue243 }
end Go.Proofs.YthcjliffpebjaaaGreat
namespace Go.K
open Go Go.Proofs Go.RowKit Go.Lib Go.Sort Go.Shelf
variable {P:Program}
theorem wb{R:Go.Shelf.Ren}(L:Lays.n189 P R)(ef:Enters P (R.f 189))
  {H:Heap} {id:Nat} {tag:Option Nat} (htag:tag=none∨tag=some 1) {L0:List Int} (h0:0<L0.length) (hlen:L0.length<4611686018427387904) (ho:H[id]?=some (.cells true 1 (L0.map (Value.int .i64)))) :
  ap P (R.f 189) [.slice (some ⟨id,0,tag⟩) L0.length L0.length] H [id] (Is (.tuple #[]) (H.set id (.cells true 1 ((L0.mergeSort fun x y=>decide (x<=y)).map (Value.int .i64))))):=by
 refine ⟨ef,fun B J w args' hr ha =>?_⟩
 obtain ⟨x',rfl⟩:∃x',args' = #[x']:=by
  have hl:=ha.1
  obtain ⟨l⟩:=args'
  match l,hl with
  | [a],_=>exact ⟨a,rfl⟩
 have hx:=ha.2 0 _ _ rfl rfl
 obtain ⟨r,cap',hid,hcap,rfl⟩:∃r cap',J id=some r/\L0.length<=cap'/\x' = .slice (some ⟨r.b,0+r.s,none⟩) L0.length cap':=by
  generalize L0.length=n at hx h0
  rcases htag with rfl|rfl
  ·cases hx with
   |slice h hl hc _=>exact ⟨_,_,h,Nat.le_trans hl hc,rfl⟩
   |bD h=>exact absurd h0 (Nat.lt_irrefl 0)
  ·cases hx with
   |aZ=>exact absurd h0 (Nat.lt_irrefl 0)
   |aY=>exact absurd h0 (Nat.lt_irrefl 0)
   |bz h hp hl hc _=>exact ⟨_,_,h,Nat.le_trans hl hc,rfl⟩
 rw[Nat.zero_add]
 have zm:=hr.obj id r _ hid ho
 obtain ⟨ow,zz,cs',ty,fz,hb,hsz,hfz,hcs⟩:=zm
 obtain rfl:=hfz rfl
 have hel:∀i (hi:i<L0.length),cs'[i+r.s]?=some (Value.int .i64 L0[i]):=fun i hi=>by
  obtain ⟨v',e1,e2⟩:=hcs i (Value.int .i64 L0[i]) (by rw[List.getElem?_map,List.getElem?_eq_getElem hi];rfl)
  cases e2;exact e1
 have hgd:∀(M:List Int) j (hj:j<M.length),M.toArray[j]! = M[j]:=fun M j hj=>getElem!_pos M.toArray j hj
 have hH:Holds (Value.int .i64) w r.b r.s L0.toArray:=fun j hj=>by
  have hj':j<L0.length:=by simpa using hj
  have e:=hel j hj'
  refine ⟨?_,?_⟩
  ·rw[hgd L0 j hj']
   simp only[World.cell?,hb,Option.isSome_none,Bool.false_eq_true,if_false]
   rw[Nat.add_comm];exact e
  ·simp[World.frozen?,hb]
 have hblk:=hr.lt id r hid
 have hcon:=Any.slices_Sort_int L r.b r.s cap' L0 w hH hblk hlen
 refine callsIn_wide.2 (hcon.mono ?_)
 rintro e w' ⟨rfl,V,os,rfl⟩
 have hml:(L0.mergeSort fun x y=>decide (x<=y)).length=L0.length:=List.length_mergeSort _
 generalize (L0.mergeSort fun x y=>decide (x<=y))=M at hml ⊢
 have hput:bv J r (.cells true 1 (M.map (Value.int .i64))) (w.putObj r.b (.cells (putCells (Value.int .i64) r.s M.toArray cs') ty (0,0))):=by
  refine ⟨ow,zz,putCells (Value.int .i64) r.s M.toArray cs',ty,(0,0),World.putObj_heap_same hblk,by simp[putCells,hml]at hsz ⊢;omega,fun _=>rfl,fun i v hv =>?_⟩
  rw[List.getElem?_map]at hv
  obtain ⟨a,ha1,rfl⟩:=bk hv
  obtain ⟨hi,ha2⟩:=List.getElem?_eq_some_iff.1 ha1
  refine ⟨.int .i64 a,?_,.int _ _⟩
  simp only[putCells,Array.getElem?_mapIdx,hel i (by omega),Option.map_some]
  rw[if_pos ⟨by omega,by simp;omega⟩,show i+r.s-r.s=i by omega,hgd M i hi,ha2]
 have p1:=Post.put (base:=H.length) (M:=[id]) hr hid ho rfl (by rw[hb];rfl) hput (fun _=>List.mem_singleton.2 rfl)
 have hheap:∀b,b<w.heap.size->(grow (putRow (Value.int .i64) (Sort.ahead w V) r.b r.s M.toArray) os).heap[b]?=(w.putObj r.b (.cells (putCells (Value.int .i64) r.s M.toArray cs') ty (0,0))).heap[b]? := by
  intro b hb1
  simp only[grow,putRow,mapBlock,Sort.ahead]
  rw[Array.getElem?_append_left (by simpa using hb1),Array.getElem?_modify]
  by_cases e:r.b=b
  ·subst e
   rw[if_pos rfl,World.putObj_heap_same hblk]
   show Option.map (onCells _) w.heap[r.b]?=_
   rw[hb];rfl
  ·rw[if_neg e,World.putObj_heap_other (Ne.symm e)]
 have p2:=p1.grown (w2:=grow (putRow (Value.int .i64) (Sort.ahead w V) r.b r.s M.toArray) os) (by simp[grow,putRow,mapBlock,Sort.ahead,World.putObj]) (fun b hb1=>hheap b (by simpa[World.putObj] using hb1)) rfl rfl rfl (by simp[grow,putRow,mapBlock,Sort.ahead,World.putObj])
 exact ⟨.tuple #[],.tuple #[],J,_,rfl,.tuple rfl (fun i a b h=>by simp at h),p2,rfl,rfl⟩
end Go.K
namespace Go.Proofs.YthcjliffpebjaaaGreat
noncomputable section
attribute [local irreducible] vF
theorem ze(l:List Int):l.flatMap bf=l.map (Value.int .i64):=by
 induction l with
 |nil=>rfl
 |cons x l ih=>rw[List.flatMap_cons,ih];rfl
theorem uU:Enters prog 128:=qR Tryz.func128 (by kernel_rfl) (by kernel_rfl)
def pS(L:List Int):List Int:=L.mergeSort fun x y=>decide (x<=y)
theorem zc{L0:List Int}(h0:0<L0.length)(h1:L0.length<1000){H:Heap}{id:Nat}(ho:H[id]?=some (.cells true 1 (L0.flatMap bf))) :
  ap prog 128 [.slice (some ⟨id,0,some 1⟩) L0.length L0.length] H [id] (Is (.tuple #[]) (H.set id (.cells true 1 ((pS L0).flatMap bf)))):=by
 rw[ze]at ho ⊢
 exact wb Ab uU (.inr rfl) h0 (by omega) ho
end
end Go.Proofs.YthcjliffpebjaaaGreat
namespace Go.Proofs.YthcjliffpebjaaaGreat
noncomputable section
def kXY(q:Int×Int):Value:=.agg #[.int .i64 q.1,.int .i64 q.2]
def af(A:List ((Int×Int)×Value))(e:Nat):Int×Int:=(A.getD e ((0,0),.chan none)).1
def b8(l:List Report)(m:aO)(now:Int)(q:Int×Int)(y:Nat):List Int:=(((atN l l.length q).take y).filter (gh l m now)).map fun k:Nat=>(k:Int)
def bc(l:List Report)(m:aO)(now:Int)(A:List ((Int×Int)×Value))(seen:List Nat):List Int:=seen.flatMap fun e=>b8 l m now (af A e) l.length
open Classical in
def cellsS(w h:Int)(l:List Report)(m:aO)(now:Int)(A:List ((Int×Int)×Value))(seen:List Nat):List Cell :=
 eC (fun p=>if plQ w p∈seen.map (af A) then cellAt l m now (plQ w p) else ay) (Int.toNat (w*h))
structure kR(l:List Report)(T:Mb (Int×Int))(seen:List Nat)(ms:List Value):Prop where
 nd:seen.Nodup
 lt:∀e∈seen,e<T.A.length
 m0:ms[0]?=some (.int .i64 ((1:Nat):Int))
 fx:∀v∈ms,kF v
 rw:∀e,e<T.A.length->e ∉ seen->ms[T.ks (af T.A e)+1]?=some (.agg ⟨(ar l l.length (af T.A e)).flatMap bf⟩)
end
end Go.Proofs.YthcjliffpebjaaaGreat
namespace Go.Proofs.YthcjliffpebjaaaGreat
noncomputable section
attribute [local irreducible] vF
theorem er(l:List Report)(i:Nat)(q:Int×Int):atN l (i+1) q=if kxy (l.getD i ad)=q then atN l i q ++ [i] else atN l i q:=by
 unfold atN
 rw[List.range_succ,List.filter_append]
 by_cases h:kxy (l.getD i ad)=q
 ·rw[if_pos h,List.filter_cons_of_pos (by simpa using h)];rfl
 ·rw[if_neg h,List.filter_cons_of_neg (by simpa using h)];simp
theorem ld{l:List Report}{i:Nat}{q:Int×Int}{k:Nat}:k∈atN l i q ↔ k<i/\kxy (l.getD k ad)=q:=by
 unfold atN;rw[List.mem_filter,List.mem_range];simp
theorem eH(l:List Report)(q:Int×Int):∀i,(atN l i q).length<=i
 |0=>Nat.le_refl _
 |i+1=>by
  rw[er]
  have:=eH l q i
  split
  ·rw[aX];show _+1<=_;omega
  ·omega
theorem jT{l:List Report}{q:Int×Int}:∀{i k:Nat},k<(atN l i q).length->(atN l ((atN l i q).getD k 0) q).length=k
 |0,k,h=>by exact absurd h (Nat.not_lt_zero _)
 |i+1,k,h=>by
  rw[er]at h ⊢
  by_cases e:kxy (l.getD i ad)=q
  ·rw[if_pos e]at h ⊢
   rw[aX]at h
   by_cases e2:k<(atN l i q).length
   ·rw[List.getD_eq_getElem?_getD,List.getElem?_append_left e2,<- List.getD_eq_getElem?_getD]
    exact jT e2
   ·have h1:([i]:List Nat).length=1:=rfl
    obtain rfl:k=(atN l i q).length:=by omega
    rw[List.getD_eq_getElem?_getD,List.getElem?_append_right (Nat.le_refl _),Nat.sub_self];rfl
  ·rw[if_neg e]at h ⊢
   exact jT h
theorem nu(l:List Report)(i:Nat):(fun q=>if q=kxy (l.getD i ad) then ar l i (kxy (l.getD i ad)) ++ [(i:Int)] else ar l i q)=ar l (i+1):=funext fun q=>by
 unfold ar
 rw[er]
 by_cases e:q=kxy (l.getD i ad)
 ·subst e;rw[if_pos rfl,if_pos rfl,List.map_append];rfl
 ·rw[if_neg e,if_neg (fun h=>e h.symm)]
theorem gK(l:List Report)(i:Nat)(q:Int×Int):(ar l i q).length=(atN l i q).length:=List.length_map ..
theorem lK{l:List Report}{i:Nat}{q:Int×Int}{k:Nat}(h:k<(atN l i q).length):(ar l i q).getD k 0=(((atN l i q).getD k 0:Nat):Int):=by
 unfold ar
 rw[List.getD_eq_getElem?_getD,List.getElem?_map,List.getD_eq_getElem?_getD,List.getElem?_eq_getElem h];rfl
theorem gy(l:List Report)(m:aO)(now:Int)(q:Int×Int):(ai l m now q).length=(atN l l.length q).length:=List.length_map ..
theorem pM{l:List Report}{m:aO}{now:Int}{q:Int×Int}{k:Nat}(h:k<(atN l l.length q).length):(ai l m now q).getD k ak=br (l.getD ((atN l l.length q).getD k 0) ad) m now:=by
 unfold ai
 rw[List.getD_eq_getElem?_getD,List.getElem?_map,List.getD_eq_getElem?_getD (l:=atN l l.length q),List.getElem?_eq_getElem h];rfl
theorem gb{l:List Report}{i:Nat}{q:Int×Int}{k:Nat}(h:k<(atN l i q).length):(atN l i q).getD k 0<i/\kxy (l.getD ((atN l i q).getD k 0) ad)=q:=ld.1 (wx h)
theorem kc{l:List Report}{m:aO}{now:Int}{q:Int×Int}{k:Nat}(h:k<(atN l l.length q).length):gh l m now ((atN l l.length q).getD k 0) = !((aR (ai l m now q) (ai l m now q).length).getD k false):=by
 obtain ⟨_,h2⟩:=gb h
 unfold gh
 rw[h2,jT h]
 unfold aR
 rw[di (by rw[gy];exact h)]
theorem us{l:List Report}{m:aO}{now:Int}{q:Int×Int}{k:Nat}(h:k<(atN l l.length q).length):b8 l m now q (k+1)=if (aR (ai l m now q) (ai l m now q).length).getD k false=false then b8 l m now q k ++ [(ar l l.length q).getD k 0] else b8 l m now q k:=by
 unfold b8
 rw[jY (d:=0) h,List.filter_append,List.map_append,lK h]
 cases e:(aR (ai l m now q) (ai l m now q).length).getD k false with
 |false=>rw[if_pos rfl,List.filter_cons_of_pos (by rw[kc h,e];rfl)];rfl
 |true=>rw[if_neg (by decide),List.filter_cons_of_neg (by rw[kc h,e];decide)];simp
theorem vI(l:List Report)(m:aO)(now:Int)(q:Int×Int){y:Nat}(h:(atN l l.length q).length<=y):b8 l m now q y=b8 l m now q l.length:=by
 unfold b8
 rw[List.take_of_length_le h,List.take_of_length_le (eH l q _)]
theorem rU(l:List Report)(m:aO)(now:Int)(A:List ((Int×Int)×Value))(seen:List Nat)(e:Nat):bc l m now A (seen ++ [e])=bc l m now A seen++b8 l m now (af A e) l.length:=by
 unfold bc;rw[List.flatMap_append];simp
theorem wP(w h:Int)(l:List Report)(m:aO)(now:Int)(A:List ((Int×Int)×Value)):cellsS w h l m now A []=am (Int.toNat (w*h)):=by
 unfold cellsS am
 refine dD (d:=ak) List.length_replicate fun k hk =>?_
 rw[if_neg (by simp),List.getD_eq_getElem?_getD,List.getElem?_replicate,if_pos hk];rfl
theorem i6(w h:Int)(l:List Report)(m:aO)(now:Int)(A:List ((Int×Int)×Value))(seen:List Nat):(cellsS w h l m now A seen).length=Int.toNat (w*h):=cw _ _
theorem kV{w h x y:Int}(hx:0<=x/\x<w)(hy:0<=y/\y<h){p:Nat}:plQ w p=(x,y) ↔ (p:Int)=y*w+x:=by
 unfold plQ
 have hw:0<w:=by omega
 constructor
 ·intro e
  injection e with e1 e2
  have:=Int.mul_ediv_add_emod (p:Int) w
  rw[e1,e2,Int.mul_comm w y]at this
  exact this.symm
 ·intro e
  rw[e]
  have e1:(y*w+x) % w=x:=by
   rw[Int.add_comm,Int.add_mul_emod_self_right];exact Int.emod_eq_of_lt hx.1 hx.2
  have e2:(y*w+x) / w=y:=by
   rw[Int.add_comm,Int.add_mul_ediv_right _ _ (by omega),Int.ediv_eq_zero_of_lt hx.1 hx.2,Int.zero_add]
  rw[e1,e2]
theorem lH{w h x y:Int}(hx:0<=x/\x<w)(hy:0<=y/\y<h):0<=y*w+x/\y*w+x<w*h:=by
 have h1:0<=y*w:=Int.mul_nonneg hy.1 (by omega)
 have h2:(y+1)*w<=h*w:=Int.mul_le_mul_of_nonneg_right (by omega) (by omega)
 rw[Int.add_mul,Int.one_mul,Int.mul_comm h w]at h2
 omega
theorem rb{w h:Int}{l:List Report}{m:aO}{now:Int}{A:List ((Int×Int)×Value)}{seen:List Nat}{e:Nat}(hx:0<=(af A e).1/\(af A e).1<w)(hy:0<=(af A e).2/\(af A e).2<h) :
  (cellsS w h l m now A seen).set (Int.toNat ((af A e).2*w+(af A e).1)) (cellAt l m now (af A e))=cellsS w h l m now A (seen ++ [e]):=by
 have hb:=lH hx hy
 refine Eq.symm (dD (d:=ak) (by rw[List.length_set,i6]) fun p hp =>?_)
 rw[mB (by rw[i6];omega)]
 have key:=kV hx hy (p:=p)
 by_cases q:p=Int.toNat ((af A e).2*w+(af A e).1)
 ·have:plQ w p=af A e:=key.2 (by omega)
  rw[if_pos q,this,if_pos (by simp)]
 ·have hne:¬ plQ w p=af A e:=fun e2=>q (by have:=key.1 e2;omega)
  rw[if_neg q]
  show (eC _ _).getD p ak=_
  rw[di hp]
  by_cases q2:plQ w p∈seen.map (af A)
  ·rw[if_pos q2,if_pos (by rw[List.map_append];exact List.mem_append_left _ q2)]
  ·rw[if_neg q2,if_neg (by
    rw[List.map_append]
    intro h
    rcases List.mem_append.1 h with h|h
    ·exact q2 h
    ·exact hne (List.mem_singleton.1 h))]
theorem lM{Y β:Type}{f:Y->List β}:∀{s:List Y},s.Nodup->(∀e∈s,(f e).Nodup)->(∀e∈s,∀e'∈s,e≠e'->∀x∈f e,∀y∈f e',x≠y)->(s.flatMap f).Nodup
 | [],_,_,_=>List.nodup_nil
 |e :: s,h1,h2,h3=>by
  rw[List.nodup_cons]at h1
  rw[List.flatMap_cons,List.nodup_append]
  refine ⟨h2 e (List.mem_cons_self ..),lM h1.2 (fun a ha=>h2 a (List.mem_cons_of_mem _ ha)) (fun a ha b hb=>h3 a (List.mem_cons_of_mem _ ha) b (List.mem_cons_of_mem _ hb)),fun x hx y hy =>?_⟩
  obtain ⟨b,hb,hy⟩:=List.mem_flatMap.1 hy
  exact h3 e (List.mem_cons_self ..) b (List.mem_cons_of_mem _ hb) (fun q=>h1.1 (q ▸ hb)) x hx y hy
theorem nB{Y β:Type}{f:Y->β}(hf:∀a b,f a=f b->a=b){l:List Y}(h:l.Nodup):(l.map f).Nodup:=by
 unfold List.Nodup at *
 rw[List.pairwise_map]
 exact h.imp fun h e=>h (hf _ _ e)
theorem u0(l:List Report)(i:Nat)(q:Int×Int):(atN l i q).Nodup:=List.Nodup.sublist List.filter_sublist List.nodup_range
theorem jq{l:List Report}{m:aO}{now:Int}{q:Int×Int}{x:Int}:x∈b8 l m now q l.length ↔ ∃k:Nat,(k<l.length/\kxy (l.getD k ad)=q)/\gh l m now k=true/\(k:Int)=x:=by
 unfold b8
 rw[List.take_of_length_le (eH l q _)]
 simp only[List.mem_map,List.mem_filter,ld]
 exact ⟨fun ⟨k,⟨a,b⟩,c⟩=>⟨k,a,b,c⟩,fun ⟨k,a,b,c⟩=>⟨k,⟨a,b⟩,c⟩⟩
theorem rO(l:List Report)(m:aO)(now:Int)(q:Int×Int):(b8 l m now q l.length).Nodup:=by
 unfold b8
 rw[List.take_of_length_le (eH l q _)]
 exact nB (fun a b e=>by omega) (List.Nodup.sublist List.filter_sublist (u0 l _ q))
theorem nO{A:List ((Int×Int)×Value)}{e:Nat}(h:e<A.length):∃v,A[e]?=some (af A e,v):=by
 unfold af
 rw[List.getD_eq_getElem?_getD,List.getElem?_eq_getElem h]
 exact ⟨A[e].2,rfl⟩
theorem nN{A:List ((Int×Int)×Value)}{q:Int×Int}(h:cJ q A=true):∃e,e<A.length/\af A e=q:=by
 obtain ⟨e,he,hq⟩:=List.mem_map.1 ((qK q A).1 h)
 obtain ⟨i,hi,rfl⟩:=List.mem_iff_getElem.1 he
 refine ⟨i,hi,?_⟩
 unfold af
 rw[List.getD_eq_getElem?_getD,List.getElem?_eq_getElem hi];exact hq
theorem nM{A:List ((Int×Int)×Value)}(hn:(A.map (·.1)).Nodup){e e':Nat}(h:e<A.length)(h':e'<A.length)(q:af A e=af A e'):e=e':=by
 have g:∀{i},i<A.length->(A.map (·.1))[i]?=some (af A i):=fun {i} hi=>by
  obtain ⟨v,hv⟩:=nO hi
  rw[List.getElem?_map,hv];rfl
 exact (List.getElem?_inj (by rw[List.length_map];exact h) hn).1 ((g h).trans ((congrArg some q).trans (g h').symm))
theorem rT{l:List Report}{m:aO}{now:Int}{n:Nat}{x:Int}:x∈bB l m now n ↔ ∃k:Nat,k<n/\gh l m now k=true/\(k:Int)=x:=by
 unfold bB
 simp only[List.mem_map,List.mem_filter,List.mem_range,and_assoc]
theorem vS{F:Nat}{l:List Report}{m:aO}{now:Int}{T:Mb (Int×Int)}(I:MbI F 1 bf (ar l l.length) T){seen:List Nat}(h1:seen.Nodup)(h2:∀e∈seen,e<T.A.length)(h3:∀e,e<T.A.length->e∈seen):pS (bc l m now T.A seen)=bB l m now l.length:=by
 have hs:=List.pairwise_mergeSort (le:=fun x y:Int=>decide (x<=y)) (fun a b c h1 h2=>by simp at *;omega) (fun a b=>by simp;omega) (bc l m now T.A seen)
 have hs:(pS (bc l m now T.A seen)).Pairwise (· <= ·):=hs.imp fun h=>by simpa using h
 have ht:(bB l m now l.length).Pairwise (· <= ·):=by
  unfold bB
  rw[List.pairwise_map]
  exact (List.Pairwise.sublist List.filter_sublist List.pairwise_lt_range).imp fun h=>by omega
 refine List.Perm.eq_of_pairwise (fun a b _ _ h3 h4=>Int.le_antisymm h3 h4) hs ht ((List.mergeSort_perm _ _).trans ?_)
 refine (List.perm_ext_iff_of_nodup ?_ ?_).2 fun x =>?_
 ·refine lM h1 (fun e _=>rO l m now _) (fun e he e' he' hne x hx y hy hxy =>?_)
  obtain ⟨k,⟨_,a⟩,_,b⟩:=jq.1 hx
  obtain ⟨k',⟨_,a'⟩,_,b'⟩:=jq.1 hy
  obtain rfl:k=k':=by omega
  exact hne (nM I.nd (h2 e he) (h2 e' he') (a.symm.trans a'))
 ·unfold bB
  exact nB (fun a b e=>by omega) (List.Nodup.sublist List.filter_sublist List.nodup_range)
 ·unfold bc
  rw[List.mem_flatMap,rT]
  constructor
  ·rintro ⟨e,_,hx⟩
   obtain ⟨k,⟨a,_⟩,b,c⟩:=jq.1 hx
   exact ⟨k,a,b,c⟩
  ·rintro ⟨k,a,b,c⟩
   have hm:k∈atN l l.length (kxy (l.getD k ad)):=ld.2 ⟨a,rfl⟩
   have hh:cJ (kxy (l.getD k ad)) T.A=true:=by
    rw[I.has,decide_eq_true]
    rw[gK];exact List.length_pos_of_mem hm
   obtain ⟨e,he,hq⟩:=nN hh
   exact ⟨e,h3 e he,jq.2 ⟨k,⟨a,hq.symm⟩,b,c⟩⟩
theorem re{l:List Report}{m:aO}{now:Int}{q:Int×Int}(h:(atN l l.length q).length=0):cellAt l m now q=ay:=by
 have:ai l m now q=[]:=List.length_eq_zero_iff.1 (by rw[gy];exact h)
 unfold cellAt
 rw[this];rfl
theorem uW{F:Nat}{w h:Int}{l:List Report}{m:aO}{now:Int}{T:Mb (Int×Int)}(I:MbI F 1 bf (ar l l.length) T){seen:List Nat}(h3:∀e,e<T.A.length->e∈seen):cellsS w h l m now T.A seen=jP w h l m now:=by
 unfold cellsS jP eC
 refine List.map_congr_left fun p _ =>?_
 by_cases q:plQ w p∈seen.map (af T.A)
 ·rw[if_pos q]
 ·rw[if_neg q]
  refine (re ?_).symm
  cases e:(atN l l.length (plQ w p)).length with
  |zero=>rfl
  |succ n =>
   have hh:cJ (plQ w p) T.A=true:=by rw[I.has,gK,e];rfl
   obtain ⟨e,he,hq⟩:=nN hh
   exact absurd (List.mem_map.2 ⟨e,h3 e he,hq⟩) q
theorem ic{F:Nat}{l:List Report}{T:Mb (Int×Int)}(I:MbI F 1 bf (ar l l.length) T){e:Nat}(he:e<T.A.length):T.A[e]?=some (af T.A e,cV (ar l l.length (af T.A e)).length F (T.ks (af T.A e)))/\0<(ar l l.length (af T.A e)).length:=by
 obtain ⟨v,hv⟩:=nO he
 obtain ⟨g1,g2⟩:=po (.chan none) I.nd hv
 rw[I.has]at g1
 have g1:=gJ g1
 rw[I.vl _ _ g1]at g2
 rw[<- g2]at hv
 exact ⟨hv,g1⟩
theorem MbI.wkM{F:Nat}{Y:Type}{enc:Y->List Value}{rows:Int×Int->List Y}{T:Mb (Int×Int)}(I:MbI F 1 enc rows T){U:Nat->Option Nat}{ms:List Value}(e:ms=T.ms):wkO (.fam 0 ms) (rno U 3 (.fam 0 T.ms)):=by
 refine gZ ?_
 subst e
 show _=ae.fam 0 (T.ms.map (rn U 3))
 rw[List.map_congr_left fun v hv=>I.fx v hv U,List.map_id']
theorem wC{U:Nat->Option Nat}{ms ms':List Value}(h:∀v∈ms',kF v)(e:ms=ms'):wkO (.fam 0 ms) (rno U 3 (.fam 0 ms')):=by
 refine gZ ?_
 subst e
 show _=ae.fam 0 (ms.map (rn U 3))
 rw[List.map_congr_left fun v hv=>h v hv U,List.map_id']
theorem MbI.wkA{F:Nat}{Y:Type}{enc:Y->List Value}{rows:Int×Int->List Y}{T:Mb (Int×Int)}(I:MbI F 1 enc rows T){U:Nat->Option Nat}(hF:U F=some F){es:List (Value×Value)}(e:es=bL kXY id T.A):wkO (.map es) (rno U 3 (.map (bL kXY id T.A))):=by
 refine gZ ?_
 subst e
 show _=ae.map ((bL kXY id T.A).map fun e=>(rn U 3 e.1,rn U 3 e.2))
 congr 1
 unfold bL
 rw[List.map_map]
 refine List.map_congr_left fun p hp =>?_
 obtain ⟨i,hi,rfl⟩:=List.mem_iff_getElem.1 hp
 obtain ⟨g1,g2⟩:=po (k:=T.A[i].1) (v:=T.A[i].2) (.chan none) I.nd (List.getElem?_eq_getElem hi)
 rw[I.has]at g1
 rw[I.vl _ _ (gJ g1)]at g2
 show (kXY T.A[i].1,T.A[i].2)=(rn U 3 (kXY T.A[i].1),rn U 3 T.A[i].2)
 rw[<- g2,yO hF];rfl
end
end Go.Proofs.YthcjliffpebjaaaGreat
namespace Go.Proofs.YthcjliffpebjaaaGreat
noncomputable section
def bt(l:List Report)(i:Nat)(q:Int×Int):List Report:=(atN l i q).map fun k=>l.getD k ad
def plR(w:Int)(l:List Report)(j:Nat):Int:=(l.getD j ad).y*w+(l.getD j ad).x
def eD(w:Int)(l:List Report)(m:aO)(now:Int)(p:Int):List Bool:=eC (fun j=>decide (plR w l j<p)&&gh l m now j) l.length
open Classical in
def ir(w:Int)(l:List Report)(m:aO)(now:Int)(p:Int)(q:Int×Int)(k:Nat):List Bool:=eC (fun j=>decide (plR w l j<p∨j∈(atN l l.length q).take k)&&gh l m now j) l.length
def cu(w h:Int)(l:List Report)(m:aO)(now:Int)(p:Int):List Cell:=eC (fun k=>if (k:Int)<p then cellAt l m now (plQ w k) else ay) (Int.toNat (w*h))
end
end Go.Proofs.YthcjliffpebjaaaGreat
namespace Go.Proofs.YthcjliffpebjaaaGreat
noncomputable section
attribute [local irreducible] vF
def om(sp:Value)(w h:Int)(l:List Report)(m:aO)(now:Int):Prop :=
 (((decide ((60:Int)<(((List.length l):Nat):Int)))=true->(((decide (((((List.length l):Nat):Int):Int)<=400))=true->((True)/\(∀H':Heap,H'.length=2->(True)->ap prog 9 [] H' [] (Is (.bool true) H'))/\(.bool true:Value)=sp))/\((decide (((((List.length l):Nat):Int):Int)<=400))=false->(((decide ((450:Int)<(((List.length l):Nat):Int)))=true->((True)/\(∀H':Heap,H'.length=2->(True)->ap prog 9 [] H' [] (Is (.bool true) H'))/\(.bool true:Value)=sp))/\((decide ((450:Int)<(((List.length l):Nat):Int)))=false->(true=true/\(0<=(List.length l))/\(true=true/\((.int .i64 0:Value) = .int .i64 ((0:Nat):Int)/\(.int .i64 now:Value) = .int .i64 now/\wk (.slice (some ⟨0,0,some 2⟩) (List.length l) (List.length l):Value) (.slice (some ⟨0,0,some 2⟩) (List.length l) (List.length l):Value)/\(.int .i64 h:Value) = .int .i64 h/\(.int .i64 w:Value) = .int .i64 w/\(.pointer (some ⟨1,0,none⟩):Value) = .pointer (some ⟨1,0,none⟩)/\True)/\((some (.cells true 0 [.int .i64 m.up.ag,.int .i64 m.up.ac,.int .i64 m.up.ab,.int .i64 m.up.aa,.int .i64 m.down.ag,.int .i64 m.down.ac,.int .i64 m.down.ab,.int .i64 m.down.aa]:ae)=some (.cells true 0 [.int .i64 m.up.ag,.int .i64 m.up.ac,.int .i64 m.up.ab,.int .i64 m.up.aa,.int .i64 m.down.ag,.int .i64 m.down.ac,.int .i64 m.down.ab,.int .i64 m.down.aa]:ae)/\aj 2 (.cells true 0 [.int .i64 m.up.ag,.int .i64 m.up.ac,.int .i64 m.up.ab,.int .i64 m.up.aa,.int .i64 m.down.ag,.int .i64 m.down.ac,.int .i64 m.down.ab,.int .i64 m.down.aa]:ae)=true)/\True)/\(True)/\(True))/\(∀x0:Nat,true=true)/\∀x0:Nat,(x0<=(List.length l))->(((decide ((((x0:Nat):Int):Int)<(((List.length l):Nat):Int)))=true->(true=true/\(0<=(List.length l))/\(true=true/\((.int .i64 0:Value) = .int .i64 ((0:Nat):Int)/\(.int .i64 0:Value) = .int .i64 (((List.length (atN l 0 (kxy (List.getD l x0 ad)))):Nat):Int)/\(.pointer (some ⟨1,0,none⟩):Value) = .pointer (some ⟨1,0,none⟩)/\(.int .i64 w:Value) = .int .i64 w/\(.int .i64 h:Value) = .int .i64 h/\wk (.slice (some ⟨0,0,some 2⟩) (List.length l) (List.length l):Value) (.slice (some ⟨0,0,some 2⟩) (List.length l) (List.length l):Value)/\(.int .i64 now:Value) = .int .i64 now/\(.int .i64 ((x0:Nat):Int):Value) = .int .i64 ((x0:Nat):Int)/\True)/\((some (.cells true 0 [.int .i64 m.up.ag,.int .i64 m.up.ac,.int .i64 m.up.ab,.int .i64 m.up.aa,.int .i64 m.down.ag,.int .i64 m.down.ac,.int .i64 m.down.ab,.int .i64 m.down.aa]:ae)=some (.cells true 0 [.int .i64 m.up.ag,.int .i64 m.up.ac,.int .i64 m.up.ab,.int .i64 m.up.aa,.int .i64 m.down.ag,.int .i64 m.down.ac,.int .i64 m.down.ab,.int .i64 m.down.aa]:ae)/\aj 2 (.cells true 0 [.int .i64 m.up.ag,.int .i64 m.up.ac,.int .i64 m.up.ab,.int .i64 m.up.aa,.int .i64 m.down.ag,.int .i64 m.down.ac,.int .i64 m.down.ab,.int .i64 m.down.aa]:ae)=true)/\True)/\(True)/\(True))/\(∀x1:Nat,true=true)/\∀x1:Nat,(x1<=(List.length l))->(((decide ((((x1:Nat):Int):Int)<(((List.length l):Nat):Int)))=true->(((0:Int)<=((x1:Nat):Int)/\(((x1:Nat):Int):Int)<(((List.length l):Nat):Int))/\(((List.flatMap aq l)[((0+Int.toNat ((x1:Nat):Int)*14)+3)]?=some (.int .i64 (List.getD l x1 ad).x))/\(((0:Int)<=((x0:Nat):Int)/\(((x0:Nat):Int):Int)<(((List.length l):Nat):Int))/\(((List.flatMap aq l)[((0+Int.toNat ((x0:Nat):Int)*14)+3)]?=some (.int .i64 (List.getD l x0 ad).x))/\(((((List.getD l x1 ad).x:Int) == (List.getD l x0 ad).x)=true->(((0:Int)<=((x1:Nat):Int)/\(((x1:Nat):Int):Int)<(((List.length l):Nat):Int))/\(((List.flatMap aq l)[((0+Int.toNat ((x1:Nat):Int)*14)+4)]?=some (.int .i64 (List.getD l x1 ad).y))/\(((0:Int)<=((x0:Nat):Int)/\(((x0:Nat):Int):Int)<(((List.length l):Nat):Int))/\(((List.flatMap aq l)[((0+Int.toNat ((x0:Nat):Int)*14)+4)]?=some (.int .i64 (List.getD l x0 ad).y))/\(((((List.getD l x1 ad).y:Int) == (List.getD l x0 ad).y)=true->((.int .i64 (IntKind.wrap .i64 ((((List.length (atN l x1 (kxy (List.getD l x0 ad)))):Nat):Int)+1)):Value) = .int .i64 ((((List.length (atN l x1 (kxy (List.getD l x0 ad)))):Nat):Int)+1)/\((.int .i64 (IntKind.wrap .i64 (((x1:Nat):Int)+1)):Value) = .int .i64 (((x1:Nat):Int)+1)/\(∃x1':Nat,(x1'<=(List.length l))/\((List.length l)-x1')<((List.length l)-x1)/\true=true/\((.int .i64 (((x1:Nat):Int)+1):Value) = .int .i64 ((x1':Nat):Int)/\(.int .i64 ((((List.length (atN l x1 (kxy (List.getD l x0 ad)))):Nat):Int)+1):Value) = .int .i64 (((List.length (atN l x1' (kxy (List.getD l x0 ad)))):Nat):Int)/\(.pointer (some ⟨1,0,none⟩):Value) = .pointer (some ⟨1,0,none⟩)/\(.int .i64 w:Value) = .int .i64 w/\(.int .i64 h:Value) = .int .i64 h/\wk (.slice (some ⟨0,0,some 2⟩) (List.length l) (List.length l):Value) (.slice (some ⟨0,0,some 2⟩) (List.length l) (List.length l):Value)/\(.int .i64 now:Value) = .int .i64 now/\(.int .i64 ((x0:Nat):Int):Value) = .int .i64 ((x0:Nat):Int)/\True)/\((some (.cells true 0 [.int .i64 m.up.ag,.int .i64 m.up.ac,.int .i64 m.up.ab,.int .i64 m.up.aa,.int .i64 m.down.ag,.int .i64 m.down.ac,.int .i64 m.down.ab,.int .i64 m.down.aa]:ae)=some (.cells true 0 [.int .i64 m.up.ag,.int .i64 m.up.ac,.int .i64 m.up.ab,.int .i64 m.up.aa,.int .i64 m.down.ag,.int .i64 m.down.ac,.int .i64 m.down.ab,.int .i64 m.down.aa]:ae)/\aj 2 (.cells true 0 [.int .i64 m.up.ag,.int .i64 m.up.ac,.int .i64 m.up.ab,.int .i64 m.up.aa,.int .i64 m.down.ag,.int .i64 m.down.ac,.int .i64 m.down.ab,.int .i64 m.down.aa]:ae)=true)/\True)/\(True)/\(True)))))/\((((List.getD l x1 ad).y:Int) == (List.getD l x0 ad).y)=false->((.int .i64 (IntKind.wrap .i64 (((x1:Nat):Int)+1)):Value) = .int .i64 (((x1:Nat):Int)+1)/\(∃x1':Nat,(x1'<=(List.length l))/\((List.length l)-x1')<((List.length l)-x1)/\true=true/\((.int .i64 (((x1:Nat):Int)+1):Value) = .int .i64 ((x1':Nat):Int)/\(.int .i64 (((List.length (atN l x1 (kxy (List.getD l x0 ad)))):Nat):Int):Value) = .int .i64 (((List.length (atN l x1' (kxy (List.getD l x0 ad)))):Nat):Int)/\(.pointer (some ⟨1,0,none⟩):Value) = .pointer (some ⟨1,0,none⟩)/\(.int .i64 w:Value) = .int .i64 w/\(.int .i64 h:Value) = .int .i64 h/\wk (.slice (some ⟨0,0,some 2⟩) (List.length l) (List.length l):Value) (.slice (some ⟨0,0,some 2⟩) (List.length l) (List.length l):Value)/\(.int .i64 now:Value) = .int .i64 now/\(.int .i64 ((x0:Nat):Int):Value) = .int .i64 ((x0:Nat):Int)/\True)/\((some (.cells true 0 [.int .i64 m.up.ag,.int .i64 m.up.ac,.int .i64 m.up.ab,.int .i64 m.up.aa,.int .i64 m.down.ag,.int .i64 m.down.ac,.int .i64 m.down.ab,.int .i64 m.down.aa]:ae)=some (.cells true 0 [.int .i64 m.up.ag,.int .i64 m.up.ac,.int .i64 m.up.ab,.int .i64 m.up.aa,.int .i64 m.down.ag,.int .i64 m.down.ac,.int .i64 m.down.ab,.int .i64 m.down.aa]:ae)/\aj 2 (.cells true 0 [.int .i64 m.up.ag,.int .i64 m.up.ac,.int .i64 m.up.ab,.int .i64 m.up.aa,.int .i64 m.down.ag,.int .i64 m.down.ac,.int .i64 m.down.ab,.int .i64 m.down.aa]:ae)=true)/\True)/\(True)/\(True))))))))))/\((((List.getD l x1 ad).x:Int) == (List.getD l x0 ad).x)=false->((.int .i64 (IntKind.wrap .i64 (((x1:Nat):Int)+1)):Value) = .int .i64 (((x1:Nat):Int)+1)/\(∃x1':Nat,(x1'<=(List.length l))/\((List.length l)-x1')<((List.length l)-x1)/\true=true/\((.int .i64 (((x1:Nat):Int)+1):Value) = .int .i64 ((x1':Nat):Int)/\(.int .i64 (((List.length (atN l x1 (kxy (List.getD l x0 ad)))):Nat):Int):Value) = .int .i64 (((List.length (atN l x1' (kxy (List.getD l x0 ad)))):Nat):Int)/\(.pointer (some ⟨1,0,none⟩):Value) = .pointer (some ⟨1,0,none⟩)/\(.int .i64 w:Value) = .int .i64 w/\(.int .i64 h:Value) = .int .i64 h/\wk (.slice (some ⟨0,0,some 2⟩) (List.length l) (List.length l):Value) (.slice (some ⟨0,0,some 2⟩) (List.length l) (List.length l):Value)/\(.int .i64 now:Value) = .int .i64 now/\(.int .i64 ((x0:Nat):Int):Value) = .int .i64 ((x0:Nat):Int)/\True)/\((some (.cells true 0 [.int .i64 m.up.ag,.int .i64 m.up.ac,.int .i64 m.up.ab,.int .i64 m.up.aa,.int .i64 m.down.ag,.int .i64 m.down.ac,.int .i64 m.down.ab,.int .i64 m.down.aa]:ae)=some (.cells true 0 [.int .i64 m.up.ag,.int .i64 m.up.ac,.int .i64 m.up.ab,.int .i64 m.up.aa,.int .i64 m.down.ag,.int .i64 m.down.ac,.int .i64 m.down.ab,.int .i64 m.down.aa]:ae)/\aj 2 (.cells true 0 [.int .i64 m.up.ag,.int .i64 m.up.ac,.int .i64 m.up.ab,.int .i64 m.up.aa,.int .i64 m.down.ag,.int .i64 m.down.ac,.int .i64 m.down.ab,.int .i64 m.down.aa]:ae)=true)/\True)/\(True)/\(True))))))))))/\((decide ((((x1:Nat):Int):Int)<(((List.length l):Nat):Int)))=false->(((decide ((9:Int)<(((List.length (atN l x1 (kxy (List.getD l x0 ad)))):Nat):Int)))=true->(((decide (((((List.length (atN l x1 (kxy (List.getD l x0 ad)))):Nat):Int):Int)<=12))=true->((True)/\(∀H':Heap,H'.length=2->(True)->ap prog 9 [] H' [] (Is (.bool true) H'))/\(.bool true:Value)=sp))/\((decide (((((List.length (atN l x1 (kxy (List.getD l x0 ad)))):Nat):Int):Int)<=12))=false->((.int .i64 (IntKind.wrap .i64 (((x0:Nat):Int)+1)):Value) = .int .i64 (((x0:Nat):Int)+1)/\(∃x0':Nat,(x0'<=(List.length l))/\((List.length l)-x0')<((List.length l)-x0)/\true=true/\((.int .i64 (((x0:Nat):Int)+1):Value) = .int .i64 ((x0':Nat):Int)/\(.int .i64 now:Value) = .int .i64 now/\wk (.slice (some ⟨0,0,some 2⟩) (List.length l) (List.length l):Value) (.slice (some ⟨0,0,some 2⟩) (List.length l) (List.length l):Value)/\(.int .i64 h:Value) = .int .i64 h/\(.int .i64 w:Value) = .int .i64 w/\(.pointer (some ⟨1,0,none⟩):Value) = .pointer (some ⟨1,0,none⟩)/\True)/\((some (.cells true 0 [.int .i64 m.up.ag,.int .i64 m.up.ac,.int .i64 m.up.ab,.int .i64 m.up.aa,.int .i64 m.down.ag,.int .i64 m.down.ac,.int .i64 m.down.ab,.int .i64 m.down.aa]:ae)=some (.cells true 0 [.int .i64 m.up.ag,.int .i64 m.up.ac,.int .i64 m.up.ab,.int .i64 m.up.aa,.int .i64 m.down.ag,.int .i64 m.down.ac,.int .i64 m.down.ab,.int .i64 m.down.aa]:ae)/\aj 2 (.cells true 0 [.int .i64 m.up.ag,.int .i64 m.up.ac,.int .i64 m.up.ab,.int .i64 m.up.aa,.int .i64 m.down.ag,.int .i64 m.down.ac,.int .i64 m.down.ab,.int .i64 m.down.aa]:ae)=true)/\True)/\(True)/\(True))))))/\((decide ((9:Int)<(((List.length (atN l x1 (kxy (List.getD l x0 ad)))):Nat):Int)))=false->((.int .i64 (IntKind.wrap .i64 (((x0:Nat):Int)+1)):Value) = .int .i64 (((x0:Nat):Int)+1)/\(∃x0':Nat,(x0'<=(List.length l))/\((List.length l)-x0')<((List.length l)-x0)/\true=true/\((.int .i64 (((x0:Nat):Int)+1):Value) = .int .i64 ((x0':Nat):Int)/\(.int .i64 now:Value) = .int .i64 now/\wk (.slice (some ⟨0,0,some 2⟩) (List.length l) (List.length l):Value) (.slice (some ⟨0,0,some 2⟩) (List.length l) (List.length l):Value)/\(.int .i64 h:Value) = .int .i64 h/\(.int .i64 w:Value) = .int .i64 w/\(.pointer (some ⟨1,0,none⟩):Value) = .pointer (some ⟨1,0,none⟩)/\True)/\((some (.cells true 0 [.int .i64 m.up.ag,.int .i64 m.up.ac,.int .i64 m.up.ab,.int .i64 m.up.aa,.int .i64 m.down.ag,.int .i64 m.down.ac,.int .i64 m.down.ab,.int .i64 m.down.aa]:ae)=some (.cells true 0 [.int .i64 m.up.ag,.int .i64 m.up.ac,.int .i64 m.up.ab,.int .i64 m.up.aa,.int .i64 m.down.ag,.int .i64 m.down.ac,.int .i64 m.down.ab,.int .i64 m.down.aa]:ae)/\aj 2 (.cells true 0 [.int .i64 m.up.ag,.int .i64 m.up.ac,.int .i64 m.up.ab,.int .i64 m.up.aa,.int .i64 m.down.ag,.int .i64 m.down.ac,.int .i64 m.down.ab,.int .i64 m.down.aa]:ae)=true)/\True)/\(True)/\(True)))))))))/\((decide ((((x0:Nat):Int):Int)<(((List.length l):Nat):Int)))=false->((True)/\(∀H':Heap,H'.length=2->(True)->ap prog 62 [.int .i64 w,.int .i64 h,.int .i64 now] H' [] (Is (.tuple #[.agg #[.int .i64 (ax w h now).1.w,.int .i64 (ax w h now).1.h,.int .i64 (ax w h now).1.hour,.slice (some ⟨2,0,some 1⟩) (List.length (ax w h now).1.cells) (List.length (ax w h now).1.cells)],.int .i64 (ax w h now).2]) (H' ++ [(.cells true 8 (List.flatMap cellC (ax w h now).1.cells):ae)])))/\((True)/\(∀H':Heap,H'.length=4->(True)->ap prog 63 [.int .i64 w,.int .i64 h,.int .i64 now] H' [] (Is (.tuple #[.agg #[.int .i64 (ax w h now).1.w,.int .i64 (ax w h now).1.h,.int .i64 (ax w h now).1.hour,.slice (some ⟨4,0,some 1⟩) (List.length (ax w h now).1.cells) (List.length (ax w h now).1.cells)],.int .i64 (ax w h now).2]) (H' ++ [(.cells true 8 (List.flatMap cellC (ax w h now).1.cells):ae)])))/\(((some (.cells true 8 (List.flatMap cellC (ax w h now).1.cells):ae)=some (.cells true 8 (List.flatMap cellC (ax w h now).1.cells):ae))/\(some (.cells true 8 (List.flatMap cellC (ax w h now).1.cells):ae)=some (.cells true 8 (List.flatMap cellC (ax w h now).1.cells):ae))/\True)/\(∀H':Heap,H'.length=6->(H'[2]?=some (.cells true 8 (List.flatMap cellC (ax w h now).1.cells):ae)/\H'[4]?=some (.cells true 8 (List.flatMap cellC (ax w h now).1.cells):ae)/\True)->ap prog 53 [.agg #[.int .i64 (ax w h now).1.w,.int .i64 (ax w h now).1.h,.int .i64 (ax w h now).1.hour,.slice (some ⟨2,0,some 1⟩) (List.length (ax w h now).1.cells) (List.length (ax w h now).1.cells)],.agg #[.int .i64 (ax w h now).1.w,.int .i64 (ax w h now).1.h,.int .i64 (ax w h now).1.hour,.slice (some ⟨4,0,some 1⟩) (List.length (ax w h now).1.cells) (List.length (ax w h now).1.cells)]] H' [] (Is (.bool true) H'))/\(((((ax w h now).2:Int) != (ax w h now).2)=true->(.bool false:Value)=sp)/\((((ax w h now).2:Int) != (ax w h now).2)=false->(((some (.cells false 0 (List.flatMap aq l):ae)=some (.cells false 0 (List.flatMap aq l):ae))/\True)/\(∀H':Heap,H'.length=6->(H'[0]?=some (.cells false 0 (List.flatMap aq l):ae)/\True)->ap prog 10 [.slice (some ⟨0,0,some 2⟩) (List.length l) (List.length l)] H' [] (Is (.slice (some ⟨6,0,some 1⟩) (List.length l) (List.length l)) (H' ++ [(.cells true 14 (List.flatMap aq l):ae)])))/\(((some (.cells true 14 (List.flatMap aq l):ae)=some (.cells true 14 (List.flatMap aq l):ae))/\True)/\(∀H':Heap,H'.length=7->(H'[6]?=some (.cells true 14 (List.flatMap aq l):ae)/\True)->ap prog 64 [.int .i64 w,.int .i64 h,.slice (some ⟨6,0,some 1⟩) (List.length l) (List.length l),.agg #[.int .i64 m.up.ag,.int .i64 m.up.ac,.int .i64 m.up.ab,.int .i64 m.up.aa,.int .i64 m.down.ag,.int .i64 m.down.ac,.int .i64 m.down.ab,.int .i64 m.down.aa],.int .i64 now] H' [] (Is (.tuple #[.agg #[.int .i64 (ah w h l m now).1.w,.int .i64 (ah w h l m now).1.h,.int .i64 (ah w h l m now).1.hour,.slice (some ⟨7,0,some 1⟩) (List.length (ah w h l m now).1.cells) (List.length (ah w h l m now).1.cells)],.slice (some ⟨8,0,some 1⟩) (List.length (ah w h l m now).2.1) (List.length (ah w h l m now).2.1),.int .i64 (ah w h l m now).2.2]) (H' ++ [(.cells true 8 (List.flatMap cellC (ah w h l m now).1.cells):ae),(.cells true 1 (List.flatMap bf (ah w h l m now).2.1):ae)])))/\(((some (.cells false 0 (List.flatMap aq l):ae)=some (.cells false 0 (List.flatMap aq l):ae))/\True)/\(∀H':Heap,H'.length=9->(H'[0]?=some (.cells false 0 (List.flatMap aq l):ae)/\True)->ap prog 65 [.int .i64 w,.int .i64 h,.slice (some ⟨0,0,some 2⟩) (List.length l) (List.length l),.agg #[.int .i64 m.up.ag,.int .i64 m.up.ac,.int .i64 m.up.ab,.int .i64 m.up.aa,.int .i64 m.down.ag,.int .i64 m.down.ac,.int .i64 m.down.ab,.int .i64 m.down.aa],.int .i64 now] H' [] (Is (.tuple #[.agg #[.int .i64 (ah w h l m now).1.w,.int .i64 (ah w h l m now).1.h,.int .i64 (ah w h l m now).1.hour,.slice (some ⟨9,0,some 1⟩) (List.length (ah w h l m now).1.cells) (List.length (ah w h l m now).1.cells)],.slice (some ⟨10,0,some 1⟩) (List.length (ah w h l m now).2.1) (List.length (ah w h l m now).2.1),.int .i64 (ah w h l m now).2.2]) (H' ++ [(.cells true 8 (List.flatMap cellC (ah w h l m now).1.cells):ae),(.cells true 1 (List.flatMap bf (ah w h l m now).2.1):ae)])))/\(((some (.cells true 8 (List.flatMap cellC (ah w h l m now).1.cells):ae)=some (.cells true 8 (List.flatMap cellC (ah w h l m now).1.cells):ae))/\(some (.cells true 8 (List.flatMap cellC (ah w h l m now).1.cells):ae)=some (.cells true 8 (List.flatMap cellC (ah w h l m now).1.cells):ae))/\True)/\(∀H':Heap,H'.length=11->(H'[7]?=some (.cells true 8 (List.flatMap cellC (ah w h l m now).1.cells):ae)/\H'[9]?=some (.cells true 8 (List.flatMap cellC (ah w h l m now).1.cells):ae)/\True)->ap prog 53 [.agg #[.int .i64 (ah w h l m now).1.w,.int .i64 (ah w h l m now).1.h,.int .i64 (ah w h l m now).1.hour,.slice (some ⟨7,0,some 1⟩) (List.length (ah w h l m now).1.cells) (List.length (ah w h l m now).1.cells)],.agg #[.int .i64 (ah w h l m now).1.w,.int .i64 (ah w h l m now).1.h,.int .i64 (ah w h l m now).1.hour,.slice (some ⟨9,0,some 1⟩) (List.length (ah w h l m now).1.cells) (List.length (ah w h l m now).1.cells)]] H' [] (Is (.bool true) H'))/\(((some (.cells true 1 (List.flatMap bf (ah w h l m now).2.1):ae)=some (.cells true 1 (List.flatMap bf (ah w h l m now).2.1):ae))/\(some (.cells true 1 (List.flatMap bf (ah w h l m now).2.1):ae)=some (.cells true 1 (List.flatMap bf (ah w h l m now).2.1):ae))/\True)/\(∀H':Heap,H'.length=11->(H'[8]?=some (.cells true 1 (List.flatMap bf (ah w h l m now).2.1):ae)/\H'[10]?=some (.cells true 1 (List.flatMap bf (ah w h l m now).2.1):ae)/\True)->ap prog 23 [.slice (some ⟨8,0,some 1⟩) (List.length (ah w h l m now).2.1) (List.length (ah w h l m now).2.1),.slice (some ⟨10,0,some 1⟩) (List.length (ah w h l m now).2.1) (List.length (ah w h l m now).2.1)] H' [] (Is (.bool true) H'))/\(((((ah w h l m now).2.2:Int) == (ah w h l m now).2.2)=true->(((some (.cells true 14 (List.flatMap aq l):ae)=some (.cells true 14 (List.flatMap aq l):ae))/\(some (.cells false 0 (List.flatMap aq l):ae)=some (.cells false 0 (List.flatMap aq l):ae))/\True)/\(∀H':Heap,H'.length=11->(H'[6]?=some (.cells true 14 (List.flatMap aq l):ae)/\H'[0]?=some (.cells false 0 (List.flatMap aq l):ae)/\True)->ap prog 26 [.slice (some ⟨6,0,some 1⟩) (List.length l) (List.length l),.slice (some ⟨0,0,some 2⟩) (List.length l) (List.length l)] H' [] (Is (.bool true) H'))/\((True)/\(∀H':Heap,H'.length=11->(True)->ap prog 9 [] H' [] (Is (.bool true) H'))/\(.bool true:Value)=sp)))/\((((ah w h l m now).2.2:Int) == (ah w h l m now).2.2)=false->(.bool false:Value)=sp))))))))))))))))))))/\((decide ((60:Int)<(((List.length l):Nat):Int)))=false->(((decide ((450:Int)<(((List.length l):Nat):Int)))=true->((True)/\(∀H':Heap,H'.length=2->(True)->ap prog 9 [] H' [] (Is (.bool true) H'))/\(.bool true:Value)=sp))/\((decide ((450:Int)<(((List.length l):Nat):Int)))=false->(true=true/\(0<=(List.length l))/\(true=true/\((.int .i64 0:Value) = .int .i64 ((0:Nat):Int)/\(.int .i64 now:Value) = .int .i64 now/\wk (.slice (some ⟨0,0,some 2⟩) (List.length l) (List.length l):Value) (.slice (some ⟨0,0,some 2⟩) (List.length l) (List.length l):Value)/\(.int .i64 h:Value) = .int .i64 h/\(.int .i64 w:Value) = .int .i64 w/\(.pointer (some ⟨1,0,none⟩):Value) = .pointer (some ⟨1,0,none⟩)/\True)/\((some (.cells true 0 [.int .i64 m.up.ag,.int .i64 m.up.ac,.int .i64 m.up.ab,.int .i64 m.up.aa,.int .i64 m.down.ag,.int .i64 m.down.ac,.int .i64 m.down.ab,.int .i64 m.down.aa]:ae)=some (.cells true 0 [.int .i64 m.up.ag,.int .i64 m.up.ac,.int .i64 m.up.ab,.int .i64 m.up.aa,.int .i64 m.down.ag,.int .i64 m.down.ac,.int .i64 m.down.ab,.int .i64 m.down.aa]:ae)/\aj 2 (.cells true 0 [.int .i64 m.up.ag,.int .i64 m.up.ac,.int .i64 m.up.ab,.int .i64 m.up.aa,.int .i64 m.down.ag,.int .i64 m.down.ac,.int .i64 m.down.ab,.int .i64 m.down.aa]:ae)=true)/\True)/\(True)/\(True))/\(∀x0:Nat,true=true)/\∀x0:Nat,(x0<=(List.length l))->(((decide ((((x0:Nat):Int):Int)<(((List.length l):Nat):Int)))=true->(true=true/\(0<=(List.length l))/\(true=true/\((.int .i64 0:Value) = .int .i64 ((0:Nat):Int)/\(.int .i64 0:Value) = .int .i64 (((List.length (atN l 0 (kxy (List.getD l x0 ad)))):Nat):Int)/\(.pointer (some ⟨1,0,none⟩):Value) = .pointer (some ⟨1,0,none⟩)/\(.int .i64 w:Value) = .int .i64 w/\(.int .i64 h:Value) = .int .i64 h/\wk (.slice (some ⟨0,0,some 2⟩) (List.length l) (List.length l):Value) (.slice (some ⟨0,0,some 2⟩) (List.length l) (List.length l):Value)/\(.int .i64 now:Value) = .int .i64 now/\(.int .i64 ((x0:Nat):Int):Value) = .int .i64 ((x0:Nat):Int)/\True)/\((some (.cells true 0 [.int .i64 m.up.ag,.int .i64 m.up.ac,.int .i64 m.up.ab,.int .i64 m.up.aa,.int .i64 m.down.ag,.int .i64 m.down.ac,.int .i64 m.down.ab,.int .i64 m.down.aa]:ae)=some (.cells true 0 [.int .i64 m.up.ag,.int .i64 m.up.ac,.int .i64 m.up.ab,.int .i64 m.up.aa,.int .i64 m.down.ag,.int .i64 m.down.ac,.int .i64 m.down.ab,.int .i64 m.down.aa]:ae)/\aj 2 (.cells true 0 [.int .i64 m.up.ag,.int .i64 m.up.ac,.int .i64 m.up.ab,.int .i64 m.up.aa,.int .i64 m.down.ag,.int .i64 m.down.ac,.int .i64 m.down.ab,.int .i64 m.down.aa]:ae)=true)/\True)/\(True)/\(True))/\(∀x1:Nat,true=true)/\∀x1:Nat,(x1<=(List.length l))->(((decide ((((x1:Nat):Int):Int)<(((List.length l):Nat):Int)))=true->(((0:Int)<=((x1:Nat):Int)/\(((x1:Nat):Int):Int)<(((List.length l):Nat):Int))/\(((List.flatMap aq l)[((0+Int.toNat ((x1:Nat):Int)*14)+3)]?=some (.int .i64 (List.getD l x1 ad).x))/\(((0:Int)<=((x0:Nat):Int)/\(((x0:Nat):Int):Int)<(((List.length l):Nat):Int))/\(((List.flatMap aq l)[((0+Int.toNat ((x0:Nat):Int)*14)+3)]?=some (.int .i64 (List.getD l x0 ad).x))/\(((((List.getD l x1 ad).x:Int) == (List.getD l x0 ad).x)=true->(((0:Int)<=((x1:Nat):Int)/\(((x1:Nat):Int):Int)<(((List.length l):Nat):Int))/\(((List.flatMap aq l)[((0+Int.toNat ((x1:Nat):Int)*14)+4)]?=some (.int .i64 (List.getD l x1 ad).y))/\(((0:Int)<=((x0:Nat):Int)/\(((x0:Nat):Int):Int)<(((List.length l):Nat):Int))/\(((List.flatMap aq l)[((0+Int.toNat ((x0:Nat):Int)*14)+4)]?=some (.int .i64 (List.getD l x0 ad).y))/\(((((List.getD l x1 ad).y:Int) == (List.getD l x0 ad).y)=true->((.int .i64 (IntKind.wrap .i64 ((((List.length (atN l x1 (kxy (List.getD l x0 ad)))):Nat):Int)+1)):Value) = .int .i64 ((((List.length (atN l x1 (kxy (List.getD l x0 ad)))):Nat):Int)+1)/\((.int .i64 (IntKind.wrap .i64 (((x1:Nat):Int)+1)):Value) = .int .i64 (((x1:Nat):Int)+1)/\(∃x1':Nat,(x1'<=(List.length l))/\((List.length l)-x1')<((List.length l)-x1)/\true=true/\((.int .i64 (((x1:Nat):Int)+1):Value) = .int .i64 ((x1':Nat):Int)/\(.int .i64 ((((List.length (atN l x1 (kxy (List.getD l x0 ad)))):Nat):Int)+1):Value) = .int .i64 (((List.length (atN l x1' (kxy (List.getD l x0 ad)))):Nat):Int)/\(.pointer (some ⟨1,0,none⟩):Value) = .pointer (some ⟨1,0,none⟩)/\(.int .i64 w:Value) = .int .i64 w/\(.int .i64 h:Value) = .int .i64 h/\wk (.slice (some ⟨0,0,some 2⟩) (List.length l) (List.length l):Value) (.slice (some ⟨0,0,some 2⟩) (List.length l) (List.length l):Value)/\(.int .i64 now:Value) = .int .i64 now/\(.int .i64 ((x0:Nat):Int):Value) = .int .i64 ((x0:Nat):Int)/\True)/\((some (.cells true 0 [.int .i64 m.up.ag,.int .i64 m.up.ac,.int .i64 m.up.ab,.int .i64 m.up.aa,.int .i64 m.down.ag,.int .i64 m.down.ac,.int .i64 m.down.ab,.int .i64 m.down.aa]:ae)=some (.cells true 0 [.int .i64 m.up.ag,.int .i64 m.up.ac,.int .i64 m.up.ab,.int .i64 m.up.aa,.int .i64 m.down.ag,.int .i64 m.down.ac,.int .i64 m.down.ab,.int .i64 m.down.aa]:ae)/\aj 2 (.cells true 0 [.int .i64 m.up.ag,.int .i64 m.up.ac,.int .i64 m.up.ab,.int .i64 m.up.aa,.int .i64 m.down.ag,.int .i64 m.down.ac,.int .i64 m.down.ab,.int .i64 m.down.aa]:ae)=true)/\True)/\(True)/\(True)))))/\((((List.getD l x1 ad).y:Int) == (List.getD l x0 ad).y)=false->((.int .i64 (IntKind.wrap .i64 (((x1:Nat):Int)+1)):Value) = .int .i64 (((x1:Nat):Int)+1)/\(∃x1':Nat,(x1'<=(List.length l))/\((List.length l)-x1')<((List.length l)-x1)/\true=true/\((.int .i64 (((x1:Nat):Int)+1):Value) = .int .i64 ((x1':Nat):Int)/\(.int .i64 (((List.length (atN l x1 (kxy (List.getD l x0 ad)))):Nat):Int):Value) = .int .i64 (((List.length (atN l x1' (kxy (List.getD l x0 ad)))):Nat):Int)/\(.pointer (some ⟨1,0,none⟩):Value) = .pointer (some ⟨1,0,none⟩)/\(.int .i64 w:Value) = .int .i64 w/\(.int .i64 h:Value) = .int .i64 h/\wk (.slice (some ⟨0,0,some 2⟩) (List.length l) (List.length l):Value) (.slice (some ⟨0,0,some 2⟩) (List.length l) (List.length l):Value)/\(.int .i64 now:Value) = .int .i64 now/\(.int .i64 ((x0:Nat):Int):Value) = .int .i64 ((x0:Nat):Int)/\True)/\((some (.cells true 0 [.int .i64 m.up.ag,.int .i64 m.up.ac,.int .i64 m.up.ab,.int .i64 m.up.aa,.int .i64 m.down.ag,.int .i64 m.down.ac,.int .i64 m.down.ab,.int .i64 m.down.aa]:ae)=some (.cells true 0 [.int .i64 m.up.ag,.int .i64 m.up.ac,.int .i64 m.up.ab,.int .i64 m.up.aa,.int .i64 m.down.ag,.int .i64 m.down.ac,.int .i64 m.down.ab,.int .i64 m.down.aa]:ae)/\aj 2 (.cells true 0 [.int .i64 m.up.ag,.int .i64 m.up.ac,.int .i64 m.up.ab,.int .i64 m.up.aa,.int .i64 m.down.ag,.int .i64 m.down.ac,.int .i64 m.down.ab,.int .i64 m.down.aa]:ae)=true)/\True)/\(True)/\(True))))))))))/\((((List.getD l x1 ad).x:Int) == (List.getD l x0 ad).x)=false->((.int .i64 (IntKind.wrap .i64 (((x1:Nat):Int)+1)):Value) = .int .i64 (((x1:Nat):Int)+1)/\(∃x1':Nat,(x1'<=(List.length l))/\((List.length l)-x1')<((List.length l)-x1)/\true=true/\((.int .i64 (((x1:Nat):Int)+1):Value) = .int .i64 ((x1':Nat):Int)/\(.int .i64 (((List.length (atN l x1 (kxy (List.getD l x0 ad)))):Nat):Int):Value) = .int .i64 (((List.length (atN l x1' (kxy (List.getD l x0 ad)))):Nat):Int)/\(.pointer (some ⟨1,0,none⟩):Value) = .pointer (some ⟨1,0,none⟩)/\(.int .i64 w:Value) = .int .i64 w/\(.int .i64 h:Value) = .int .i64 h/\wk (.slice (some ⟨0,0,some 2⟩) (List.length l) (List.length l):Value) (.slice (some ⟨0,0,some 2⟩) (List.length l) (List.length l):Value)/\(.int .i64 now:Value) = .int .i64 now/\(.int .i64 ((x0:Nat):Int):Value) = .int .i64 ((x0:Nat):Int)/\True)/\((some (.cells true 0 [.int .i64 m.up.ag,.int .i64 m.up.ac,.int .i64 m.up.ab,.int .i64 m.up.aa,.int .i64 m.down.ag,.int .i64 m.down.ac,.int .i64 m.down.ab,.int .i64 m.down.aa]:ae)=some (.cells true 0 [.int .i64 m.up.ag,.int .i64 m.up.ac,.int .i64 m.up.ab,.int .i64 m.up.aa,.int .i64 m.down.ag,.int .i64 m.down.ac,.int .i64 m.down.ab,.int .i64 m.down.aa]:ae)/\aj 2 (.cells true 0 [.int .i64 m.up.ag,.int .i64 m.up.ac,.int .i64 m.up.ab,.int .i64 m.up.aa,.int .i64 m.down.ag,.int .i64 m.down.ac,.int .i64 m.down.ab,.int .i64 m.down.aa]:ae)=true)/\True)/\(True)/\(True))))))))))/\((decide ((((x1:Nat):Int):Int)<(((List.length l):Nat):Int)))=false->(((decide ((9:Int)<(((List.length (atN l x1 (kxy (List.getD l x0 ad)))):Nat):Int)))=true->(((decide (((((List.length (atN l x1 (kxy (List.getD l x0 ad)))):Nat):Int):Int)<=12))=true->((True)/\(∀H':Heap,H'.length=2->(True)->ap prog 9 [] H' [] (Is (.bool true) H'))/\(.bool true:Value)=sp))/\((decide (((((List.length (atN l x1 (kxy (List.getD l x0 ad)))):Nat):Int):Int)<=12))=false->((.int .i64 (IntKind.wrap .i64 (((x0:Nat):Int)+1)):Value) = .int .i64 (((x0:Nat):Int)+1)/\(∃x0':Nat,(x0'<=(List.length l))/\((List.length l)-x0')<((List.length l)-x0)/\true=true/\((.int .i64 (((x0:Nat):Int)+1):Value) = .int .i64 ((x0':Nat):Int)/\(.int .i64 now:Value) = .int .i64 now/\wk (.slice (some ⟨0,0,some 2⟩) (List.length l) (List.length l):Value) (.slice (some ⟨0,0,some 2⟩) (List.length l) (List.length l):Value)/\(.int .i64 h:Value) = .int .i64 h/\(.int .i64 w:Value) = .int .i64 w/\(.pointer (some ⟨1,0,none⟩):Value) = .pointer (some ⟨1,0,none⟩)/\True)/\((some (.cells true 0 [.int .i64 m.up.ag,.int .i64 m.up.ac,.int .i64 m.up.ab,.int .i64 m.up.aa,.int .i64 m.down.ag,.int .i64 m.down.ac,.int .i64 m.down.ab,.int .i64 m.down.aa]:ae)=some (.cells true 0 [.int .i64 m.up.ag,.int .i64 m.up.ac,.int .i64 m.up.ab,.int .i64 m.up.aa,.int .i64 m.down.ag,.int .i64 m.down.ac,.int .i64 m.down.ab,.int .i64 m.down.aa]:ae)/\aj 2 (.cells true 0 [.int .i64 m.up.ag,.int .i64 m.up.ac,.int .i64 m.up.ab,.int .i64 m.up.aa,.int .i64 m.down.ag,.int .i64 m.down.ac,.int .i64 m.down.ab,.int .i64 m.down.aa]:ae)=true)/\True)/\(True)/\(True))))))/\((decide ((9:Int)<(((List.length (atN l x1 (kxy (List.getD l x0 ad)))):Nat):Int)))=false->((.int .i64 (IntKind.wrap .i64 (((x0:Nat):Int)+1)):Value) = .int .i64 (((x0:Nat):Int)+1)/\(∃x0':Nat,(x0'<=(List.length l))/\((List.length l)-x0')<((List.length l)-x0)/\true=true/\((.int .i64 (((x0:Nat):Int)+1):Value) = .int .i64 ((x0':Nat):Int)/\(.int .i64 now:Value) = .int .i64 now/\wk (.slice (some ⟨0,0,some 2⟩) (List.length l) (List.length l):Value) (.slice (some ⟨0,0,some 2⟩) (List.length l) (List.length l):Value)/\(.int .i64 h:Value) = .int .i64 h/\(.int .i64 w:Value) = .int .i64 w/\(.pointer (some ⟨1,0,none⟩):Value) = .pointer (some ⟨1,0,none⟩)/\True)/\((some (.cells true 0 [.int .i64 m.up.ag,.int .i64 m.up.ac,.int .i64 m.up.ab,.int .i64 m.up.aa,.int .i64 m.down.ag,.int .i64 m.down.ac,.int .i64 m.down.ab,.int .i64 m.down.aa]:ae)=some (.cells true 0 [.int .i64 m.up.ag,.int .i64 m.up.ac,.int .i64 m.up.ab,.int .i64 m.up.aa,.int .i64 m.down.ag,.int .i64 m.down.ac,.int .i64 m.down.ab,.int .i64 m.down.aa]:ae)/\aj 2 (.cells true 0 [.int .i64 m.up.ag,.int .i64 m.up.ac,.int .i64 m.up.ab,.int .i64 m.up.aa,.int .i64 m.down.ag,.int .i64 m.down.ac,.int .i64 m.down.ab,.int .i64 m.down.aa]:ae)=true)/\True)/\(True)/\(True)))))))))/\((decide ((((x0:Nat):Int):Int)<(((List.length l):Nat):Int)))=false->((True)/\(∀H':Heap,H'.length=2->(True)->ap prog 62 [.int .i64 w,.int .i64 h,.int .i64 now] H' [] (Is (.tuple #[.agg #[.int .i64 (ax w h now).1.w,.int .i64 (ax w h now).1.h,.int .i64 (ax w h now).1.hour,.slice (some ⟨2,0,some 1⟩) (List.length (ax w h now).1.cells) (List.length (ax w h now).1.cells)],.int .i64 (ax w h now).2]) (H' ++ [(.cells true 8 (List.flatMap cellC (ax w h now).1.cells):ae)])))/\((True)/\(∀H':Heap,H'.length=4->(True)->ap prog 63 [.int .i64 w,.int .i64 h,.int .i64 now] H' [] (Is (.tuple #[.agg #[.int .i64 (ax w h now).1.w,.int .i64 (ax w h now).1.h,.int .i64 (ax w h now).1.hour,.slice (some ⟨4,0,some 1⟩) (List.length (ax w h now).1.cells) (List.length (ax w h now).1.cells)],.int .i64 (ax w h now).2]) (H' ++ [(.cells true 8 (List.flatMap cellC (ax w h now).1.cells):ae)])))/\(((some (.cells true 8 (List.flatMap cellC (ax w h now).1.cells):ae)=some (.cells true 8 (List.flatMap cellC (ax w h now).1.cells):ae))/\(some (.cells true 8 (List.flatMap cellC (ax w h now).1.cells):ae)=some (.cells true 8 (List.flatMap cellC (ax w h now).1.cells):ae))/\True)/\(∀H':Heap,H'.length=6->(H'[2]?=some (.cells true 8 (List.flatMap cellC (ax w h now).1.cells):ae)/\H'[4]?=some (.cells true 8 (List.flatMap cellC (ax w h now).1.cells):ae)/\True)->ap prog 53 [.agg #[.int .i64 (ax w h now).1.w,.int .i64 (ax w h now).1.h,.int .i64 (ax w h now).1.hour,.slice (some ⟨2,0,some 1⟩) (List.length (ax w h now).1.cells) (List.length (ax w h now).1.cells)],.agg #[.int .i64 (ax w h now).1.w,.int .i64 (ax w h now).1.h,.int .i64 (ax w h now).1.hour,.slice (some ⟨4,0,some 1⟩) (List.length (ax w h now).1.cells) (List.length (ax w h now).1.cells)]] H' [] (Is (.bool true) H'))/\(((((ax w h now).2:Int) != (ax w h now).2)=true->(.bool false:Value)=sp)/\((((ax w h now).2:Int) != (ax w h now).2)=false->(((some (.cells false 0 (List.flatMap aq l):ae)=some (.cells false 0 (List.flatMap aq l):ae))/\True)/\(∀H':Heap,H'.length=6->(H'[0]?=some (.cells false 0 (List.flatMap aq l):ae)/\True)->ap prog 10 [.slice (some ⟨0,0,some 2⟩) (List.length l) (List.length l)] H' [] (Is (.slice (some ⟨6,0,some 1⟩) (List.length l) (List.length l)) (H' ++ [(.cells true 14 (List.flatMap aq l):ae)])))/\(((some (.cells true 14 (List.flatMap aq l):ae)=some (.cells true 14 (List.flatMap aq l):ae))/\True)/\(∀H':Heap,H'.length=7->(H'[6]?=some (.cells true 14 (List.flatMap aq l):ae)/\True)->ap prog 64 [.int .i64 w,.int .i64 h,.slice (some ⟨6,0,some 1⟩) (List.length l) (List.length l),.agg #[.int .i64 m.up.ag,.int .i64 m.up.ac,.int .i64 m.up.ab,.int .i64 m.up.aa,.int .i64 m.down.ag,.int .i64 m.down.ac,.int .i64 m.down.ab,.int .i64 m.down.aa],.int .i64 now] H' [] (Is (.tuple #[.agg #[.int .i64 (ah w h l m now).1.w,.int .i64 (ah w h l m now).1.h,.int .i64 (ah w h l m now).1.hour,.slice (some ⟨7,0,some 1⟩) (List.length (ah w h l m now).1.cells) (List.length (ah w h l m now).1.cells)],.slice (some ⟨8,0,some 1⟩) (List.length (ah w h l m now).2.1) (List.length (ah w h l m now).2.1),.int .i64 (ah w h l m now).2.2]) (H' ++ [(.cells true 8 (List.flatMap cellC (ah w h l m now).1.cells):ae),(.cells true 1 (List.flatMap bf (ah w h l m now).2.1):ae)])))/\(((some (.cells false 0 (List.flatMap aq l):ae)=some (.cells false 0 (List.flatMap aq l):ae))/\True)/\(∀H':Heap,H'.length=9->(H'[0]?=some (.cells false 0 (List.flatMap aq l):ae)/\True)->ap prog 65 [.int .i64 w,.int .i64 h,.slice (some ⟨0,0,some 2⟩) (List.length l) (List.length l),.agg #[.int .i64 m.up.ag,.int .i64 m.up.ac,.int .i64 m.up.ab,.int .i64 m.up.aa,.int .i64 m.down.ag,.int .i64 m.down.ac,.int .i64 m.down.ab,.int .i64 m.down.aa],.int .i64 now] H' [] (Is (.tuple #[.agg #[.int .i64 (ah w h l m now).1.w,.int .i64 (ah w h l m now).1.h,.int .i64 (ah w h l m now).1.hour,.slice (some ⟨9,0,some 1⟩) (List.length (ah w h l m now).1.cells) (List.length (ah w h l m now).1.cells)],.slice (some ⟨10,0,some 1⟩) (List.length (ah w h l m now).2.1) (List.length (ah w h l m now).2.1),.int .i64 (ah w h l m now).2.2]) (H' ++ [(.cells true 8 (List.flatMap cellC (ah w h l m now).1.cells):ae),(.cells true 1 (List.flatMap bf (ah w h l m now).2.1):ae)])))/\(((some (.cells true 8 (List.flatMap cellC (ah w h l m now).1.cells):ae)=some (.cells true 8 (List.flatMap cellC (ah w h l m now).1.cells):ae))/\(some (.cells true 8 (List.flatMap cellC (ah w h l m now).1.cells):ae)=some (.cells true 8 (List.flatMap cellC (ah w h l m now).1.cells):ae))/\True)/\(∀H':Heap,H'.length=11->(H'[7]?=some (.cells true 8 (List.flatMap cellC (ah w h l m now).1.cells):ae)/\H'[9]?=some (.cells true 8 (List.flatMap cellC (ah w h l m now).1.cells):ae)/\True)->ap prog 53 [.agg #[.int .i64 (ah w h l m now).1.w,.int .i64 (ah w h l m now).1.h,.int .i64 (ah w h l m now).1.hour,.slice (some ⟨7,0,some 1⟩) (List.length (ah w h l m now).1.cells) (List.length (ah w h l m now).1.cells)],.agg #[.int .i64 (ah w h l m now).1.w,.int .i64 (ah w h l m now).1.h,.int .i64 (ah w h l m now).1.hour,.slice (some ⟨9,0,some 1⟩) (List.length (ah w h l m now).1.cells) (List.length (ah w h l m now).1.cells)]] H' [] (Is (.bool true) H'))/\(((some (.cells true 1 (List.flatMap bf (ah w h l m now).2.1):ae)=some (.cells true 1 (List.flatMap bf (ah w h l m now).2.1):ae))/\(some (.cells true 1 (List.flatMap bf (ah w h l m now).2.1):ae)=some (.cells true 1 (List.flatMap bf (ah w h l m now).2.1):ae))/\True)/\(∀H':Heap,H'.length=11->(H'[8]?=some (.cells true 1 (List.flatMap bf (ah w h l m now).2.1):ae)/\H'[10]?=some (.cells true 1 (List.flatMap bf (ah w h l m now).2.1):ae)/\True)->ap prog 23 [.slice (some ⟨8,0,some 1⟩) (List.length (ah w h l m now).2.1) (List.length (ah w h l m now).2.1),.slice (some ⟨10,0,some 1⟩) (List.length (ah w h l m now).2.1) (List.length (ah w h l m now).2.1)] H' [] (Is (.bool true) H'))/\(((((ah w h l m now).2.2:Int) == (ah w h l m now).2.2)=true->(((some (.cells true 14 (List.flatMap aq l):ae)=some (.cells true 14 (List.flatMap aq l):ae))/\(some (.cells false 0 (List.flatMap aq l):ae)=some (.cells false 0 (List.flatMap aq l):ae))/\True)/\(∀H':Heap,H'.length=11->(H'[6]?=some (.cells true 14 (List.flatMap aq l):ae)/\H'[0]?=some (.cells false 0 (List.flatMap aq l):ae)/\True)->ap prog 26 [.slice (some ⟨6,0,some 1⟩) (List.length l) (List.length l),.slice (some ⟨0,0,some 2⟩) (List.length l) (List.length l)] H' [] (Is (.bool true) H'))/\((True)/\(∀H':Heap,H'.length=11->(True)->ap prog 9 [] H' [] (Is (.bool true) H'))/\(.bool true:Value)=sp)))/\((((ah w h l m now).2.2:Int) == (ah w h l m now).2.2)=false->(.bool false:Value)=sp)))))))))))))))))))
theorem vb(sp:Value)(w h:Int)(l:List Report)(m:aO)(now:Int):vF prog msk (dm 0) 100000 true 40 true 6 [.int .i64 w,.int .i64 h,.slice (some ⟨0,0,some 2⟩) (List.length l) (List.length l),.agg #[.int .i64 m.up.ag,.int .i64 m.up.ac,.int .i64 m.up.ab,.int .i64 m.up.aa,.int .i64 m.down.ag,.int .i64 m.down.ac,.int .i64 m.down.ab,.int .i64 m.down.aa],.int .i64 now] (bi 0 [l.flatMap aq]) (some [])
 (.go 5 (.az (.go 4 (.az (.go 1 (.ans [] (.bool true) [] (.auto))) (.go 3 (.fork (.ans [] (.bool true) [] (.auto)) (.go 0 (.inv 3 (Nat) (0) [] [1] (fun x0=>[(11,.int .i64 ((x0:Nat):Int)),(4,.int .i64 now),(2,.slice (some ⟨0,0,some 2⟩) (List.length l) (List.length l)),(1,.int .i64 h),(0,.int .i64 w),(8,.pointer (some ⟨1,0,none⟩))]) (fun x0=>[(1,true,.cells true 0 [.int .i64 m.up.ag,.int .i64 m.up.ac,.int .i64 m.up.ab,.int .i64 m.up.aa,.int .i64 m.down.ag,.int .i64 m.down.ac,.int .i64 m.down.ab,.int .i64 m.down.aa])]) (fun x0=>[]) (fun x0=>[]) (fun x0=>(x0<=(List.length l))) (fun x0=>((List.length l)-x0)) (fun x0 => .go 3 (.fork (.go 1 (.inv 3 (Nat) (0) [] [1] (fun x1=>[(13,.int .i64 ((x1:Nat):Int)),(12,.int .i64 (((List.length (atN l x1 (kxy (List.getD l x0 ad)))):Nat):Int)),(8,.pointer (some ⟨1,0,none⟩)),(0,.int .i64 w),(1,.int .i64 h),(2,.slice (some ⟨0,0,some 2⟩) (List.length l) (List.length l)),(4,.int .i64 now),(11,.int .i64 ((x0:Nat):Int))]) (fun x1=>[(1,true,.cells true 0 [.int .i64 m.up.ag,.int .i64 m.up.ac,.int .i64 m.up.ab,.int .i64 m.up.aa,.int .i64 m.down.ag,.int .i64 m.down.ac,.int .i64 m.down.ab,.int .i64 m.down.aa])]) (fun x1=>[]) (fun x1=>[]) (fun x1=>(x1<=(List.length l))) (fun x1=>((List.length l)-x1)) (fun x1 => .go 3 (.fork (.go 1 (.need (.go 0 (.val (.int .i64 (List.getD l x1 ad).x) (.go 1 (.need (.go 0 (.val (.int .i64 (List.getD l x0 ad).x) (.go 1 (.az (.go 1 (.need (.go 0 (.val (.int .i64 (List.getD l x1 ad).y) (.go 1 (.need (.go 0 (.val (.int .i64 (List.getD l x0 ad).y) (.go 1 (.fork (.go 1 (.slot 72 (.int .i64 ((((List.length (atN l x1 (kxy (List.getD l x0 ad)))):Nat):Int)+1)) (.go 2 (.slot 46 (.int .i64 (((x1:Nat):Int)+1)) (.go 0 (.again [])))))) (.go 1 (.slot 46 (.int .i64 (((x1:Nat):Int)+1)) (.go 0 (.again [])))))))))))))) (.go 3 (.slot 46 (.int .i64 (((x1:Nat):Int)+1)) (.go 0 (.again [])))))))))))))) (.go 2 (.az (.go 2 (.fork (.ans [] (.bool true) [] (.auto)) (.go 1 (.slot 40 (.int .i64 (((x0:Nat):Int)+1)) (.go 0 (.again [])))))) (.go 3 (.slot 40 (.int .i64 (((x0:Nat):Int)+1)) (.go 0 (.again [])))))))))) (.go 2 (.ans [] (.tuple #[.agg #[.int .i64 (ax w h now).1.w,.int .i64 (ax w h now).1.h,.int .i64 (ax w h now).1.hour,.slice (some ⟨2,0,some 1⟩) (List.length (ax w h now).1.cells) (List.length (ax w h now).1.cells)],.int .i64 (ax w h now).2]) [.cells true 8 (List.flatMap cellC (ax w h now).1.cells)] (.go 8 (.ans [] (.tuple #[.agg #[.int .i64 (ax w h now).1.w,.int .i64 (ax w h now).1.h,.int .i64 (ax w h now).1.hour,.slice (some ⟨4,0,some 1⟩) (List.length (ax w h now).1.cells) (List.length (ax w h now).1.cells)],.int .i64 (ax w h now).2]) [.cells true 8 (List.flatMap cellC (ax w h now).1.cells)] (.go 7 (.ans [(2,.cells true 8 (List.flatMap cellC (ax w h now).1.cells)),(4,.cells true 8 (List.flatMap cellC (ax w h now).1.cells))] (.bool true) [] (.go 5 (.fork (.auto) (.go 0 (.ans [(0,.cells false 0 (List.flatMap aq l))] (.slice (some ⟨6,0,some 1⟩) (List.length l) (List.length l)) [.cells true 14 (List.flatMap aq l)] (.go 14 (.ans [(6,.cells true 14 (List.flatMap aq l))] (.tuple #[.agg #[.int .i64 (ah w h l m now).1.w,.int .i64 (ah w h l m now).1.h,.int .i64 (ah w h l m now).1.hour,.slice (some ⟨7,0,some 1⟩) (List.length (ah w h l m now).1.cells) (List.length (ah w h l m now).1.cells)],.slice (some ⟨8,0,some 1⟩) (List.length (ah w h l m now).2.1) (List.length (ah w h l m now).2.1),.int .i64 (ah w h l m now).2.2]) [.cells true 8 (List.flatMap cellC (ah w h l m now).1.cells),.cells true 1 (List.flatMap bf (ah w h l m now).2.1)] (.go 11 (.ans [(0,.cells false 0 (List.flatMap aq l))] (.tuple #[.agg #[.int .i64 (ah w h l m now).1.w,.int .i64 (ah w h l m now).1.h,.int .i64 (ah w h l m now).1.hour,.slice (some ⟨9,0,some 1⟩) (List.length (ah w h l m now).1.cells) (List.length (ah w h l m now).1.cells)],.slice (some ⟨10,0,some 1⟩) (List.length (ah w h l m now).2.1) (List.length (ah w h l m now).2.1),.int .i64 (ah w h l m now).2.2]) [.cells true 8 (List.flatMap cellC (ah w h l m now).1.cells),.cells true 1 (List.flatMap bf (ah w h l m now).2.1)] (.go 8 (.ans [(7,.cells true 8 (List.flatMap cellC (ah w h l m now).1.cells)),(9,.cells true 8 (List.flatMap cellC (ah w h l m now).1.cells))] (.bool true) [] (.go 2 (.ans [(8,.cells true 1 (List.flatMap bf (ah w h l m now).2.1)),(10,.cells true 1 (List.flatMap bf (ah w h l m now).2.1))] (.bool true) [] (.go 6 (.az (.go 1 (.ans [(6,.cells true 14 (List.flatMap aq l)),(0,.cells false 0 (List.flatMap aq l))] (.bool true) [] (.go 1 (.ans [] (.bool true) [] (.auto))))) (.auto))))))))))))))))))))))))))))) (.go 5 (.fork (.ans [] (.bool true) [] (.auto)) (.go 0 (.inv 3 (Nat) (0) [] [1] (fun x0=>[(11,.int .i64 ((x0:Nat):Int)),(4,.int .i64 now),(2,.slice (some ⟨0,0,some 2⟩) (List.length l) (List.length l)),(1,.int .i64 h),(0,.int .i64 w),(8,.pointer (some ⟨1,0,none⟩))]) (fun x0=>[(1,true,.cells true 0 [.int .i64 m.up.ag,.int .i64 m.up.ac,.int .i64 m.up.ab,.int .i64 m.up.aa,.int .i64 m.down.ag,.int .i64 m.down.ac,.int .i64 m.down.ab,.int .i64 m.down.aa])]) (fun x0=>[]) (fun x0=>[]) (fun x0=>(x0<=(List.length l))) (fun x0=>((List.length l)-x0)) (fun x0 => .go 3 (.fork (.go 1 (.inv 3 (Nat) (0) [] [1] (fun x1=>[(13,.int .i64 ((x1:Nat):Int)),(12,.int .i64 (((List.length (atN l x1 (kxy (List.getD l x0 ad)))):Nat):Int)),(8,.pointer (some ⟨1,0,none⟩)),(0,.int .i64 w),(1,.int .i64 h),(2,.slice (some ⟨0,0,some 2⟩) (List.length l) (List.length l)),(4,.int .i64 now),(11,.int .i64 ((x0:Nat):Int))]) (fun x1=>[(1,true,.cells true 0 [.int .i64 m.up.ag,.int .i64 m.up.ac,.int .i64 m.up.ab,.int .i64 m.up.aa,.int .i64 m.down.ag,.int .i64 m.down.ac,.int .i64 m.down.ab,.int .i64 m.down.aa])]) (fun x1=>[]) (fun x1=>[]) (fun x1=>(x1<=(List.length l))) (fun x1=>((List.length l)-x1)) (fun x1 => .go 3 (.fork (.go 1 (.need (.go 0 (.val (.int .i64 (List.getD l x1 ad).x) (.go 1 (.need (.go 0 (.val (.int .i64 (List.getD l x0 ad).x) (.go 1 (.az (.go 1 (.need (.go 0 (.val (.int .i64 (List.getD l x1 ad).y) (.go 1 (.need (.go 0 (.val (.int .i64 (List.getD l x0 ad).y) (.go 1 (.fork (.go 1 (.slot 72 (.int .i64 ((((List.length (atN l x1 (kxy (List.getD l x0 ad)))):Nat):Int)+1)) (.go 2 (.slot 46 (.int .i64 (((x1:Nat):Int)+1)) (.go 0 (.again [])))))) (.go 1 (.slot 46 (.int .i64 (((x1:Nat):Int)+1)) (.go 0 (.again [])))))))))))))) (.go 3 (.slot 46 (.int .i64 (((x1:Nat):Int)+1)) (.go 0 (.again [])))))))))))))) (.go 2 (.az (.go 2 (.fork (.ans [] (.bool true) [] (.auto)) (.go 1 (.slot 40 (.int .i64 (((x0:Nat):Int)+1)) (.go 0 (.again [])))))) (.go 3 (.slot 40 (.int .i64 (((x0:Nat):Int)+1)) (.go 0 (.again [])))))))))) (.go 2 (.ans [] (.tuple #[.agg #[.int .i64 (ax w h now).1.w,.int .i64 (ax w h now).1.h,.int .i64 (ax w h now).1.hour,.slice (some ⟨2,0,some 1⟩) (List.length (ax w h now).1.cells) (List.length (ax w h now).1.cells)],.int .i64 (ax w h now).2]) [.cells true 8 (List.flatMap cellC (ax w h now).1.cells)] (.go 8 (.ans [] (.tuple #[.agg #[.int .i64 (ax w h now).1.w,.int .i64 (ax w h now).1.h,.int .i64 (ax w h now).1.hour,.slice (some ⟨4,0,some 1⟩) (List.length (ax w h now).1.cells) (List.length (ax w h now).1.cells)],.int .i64 (ax w h now).2]) [.cells true 8 (List.flatMap cellC (ax w h now).1.cells)] (.go 7 (.ans [(2,.cells true 8 (List.flatMap cellC (ax w h now).1.cells)),(4,.cells true 8 (List.flatMap cellC (ax w h now).1.cells))] (.bool true) [] (.go 5 (.fork (.auto) (.go 0 (.ans [(0,.cells false 0 (List.flatMap aq l))] (.slice (some ⟨6,0,some 1⟩) (List.length l) (List.length l)) [.cells true 14 (List.flatMap aq l)] (.go 14 (.ans [(6,.cells true 14 (List.flatMap aq l))] (.tuple #[.agg #[.int .i64 (ah w h l m now).1.w,.int .i64 (ah w h l m now).1.h,.int .i64 (ah w h l m now).1.hour,.slice (some ⟨7,0,some 1⟩) (List.length (ah w h l m now).1.cells) (List.length (ah w h l m now).1.cells)],.slice (some ⟨8,0,some 1⟩) (List.length (ah w h l m now).2.1) (List.length (ah w h l m now).2.1),.int .i64 (ah w h l m now).2.2]) [.cells true 8 (List.flatMap cellC (ah w h l m now).1.cells),.cells true 1 (List.flatMap bf (ah w h l m now).2.1)] (.go 11 (.ans [(0,.cells false 0 (List.flatMap aq l))] (.tuple #[.agg #[.int .i64 (ah w h l m now).1.w,.int .i64 (ah w h l m now).1.h,.int .i64 (ah w h l m now).1.hour,.slice (some ⟨9,0,some 1⟩) (List.length (ah w h l m now).1.cells) (List.length (ah w h l m now).1.cells)],.slice (some ⟨10,0,some 1⟩) (List.length (ah w h l m now).2.1) (List.length (ah w h l m now).2.1),.int .i64 (ah w h l m now).2.2]) [.cells true 8 (List.flatMap cellC (ah w h l m now).1.cells),.cells true 1 (List.flatMap bf (ah w h l m now).2.1)] (.go 8 (.ans [(7,.cells true 8 (List.flatMap cellC (ah w h l m now).1.cells)),(9,.cells true 8 (List.flatMap cellC (ah w h l m now).1.cells))] (.bool true) [] (.go 2 (.ans [(8,.cells true 1 (List.flatMap bf (ah w h l m now).2.1)),(10,.cells true 1 (List.flatMap bf (ah w h l m now).2.1))] (.bool true) [] (.go 6 (.az (.go 1 (.ans [(6,.cells true 14 (List.flatMap aq l)),(0,.cells false 0 (List.flatMap aq l))] (.bool true) [] (.go 1 (.ans [] (.bool true) [] (.auto))))) (.auto)))))))))))))))))))))))))))))
 (fun v _ _=>v=sp)=om sp w h l m now:=by kernel_rfl
end
end Go.Proofs.YthcjliffpebjaaaGreat
