/- Ice: the examples of the chapter (awake), as a contract. No condition. -/
import Derived.Test.YthcjliffpebjaaaGreatA4a
import Derived.Test.YthcjliffpebjaaaGreatGP5xT0
import Derived.Test.YthcjliffpebjaaaGreatGM4xG0
import Derived.Shelf.Sort.Plain
import Derived.Ground.Names2Prog
import Derived.Test.YthcjliffpebjaaaGreatChecked
open Go Go.K
set_option maxRecDepth 1000000
set_option maxHeartbeats 4000000
set_option linter.unusedVariables false
set_option linter.unusedSimpArgs false
namespace Go.Proofs.YthcjliffpebjaaaGreat
noncomputable section
attribute [local irreducible] vF
theorem sv(H:Heap):ai prog F.bV [] H [] (Is (.bool true) H):=by
 have hv:vF prog msk (dm yD) 100000 true 40 true F.bV [] ⟨0,.leaf⟩ none .auto (fun v _ _=>pf v):=of_eq_true wB
 have h0:=vc (P:=prog) (mask:=msk) (dm:=dm yD) (rounds:=100000) (mixed:=true) nu mixed 40 (f:=F.bV) (args:=[]) (H:=⟨0,.leaf⟩) (M:=none) (h:=.auto) (Q:=fun v _=>pf v) hv
 have h1:ai prog F.bV [] [] [] (fun v _=>v = .bool true):=h0.post (fun v H' h=>by
   cases v <;> first|exact h.elim|(rename_i b;cases b <;> first|rfl|exact h.elim))
 have h2:ai prog F.bV [] [] [] (Is (.bool true) []):=ai.clean h1 rfl
 have h3:=ai.frame (H:=H) (new:=[]) (d:=3) (U:=fun _=>none) ⟨fun g hg=>absurd hg (by rw[dQ];exact Nat.not_lt_zero _),fun _ _ h=>(by cases h),fun id h=>absurd h (Nat.not_lt_zero _),fun _ _ _ h=>(by cases h),fun _ _ _ h=>(by cases h)⟩ h2 rfl rfl
 simpa[rn] using h3
theorem pX:∀(n o A B:List Value),o.length=n.length->bE (A++(o++B)) A.length n=A++(n++B)
 | [],[],A,B,_=>rfl
 |v :: n,w :: o,A,B,h=>by
  have e:(A++(w :: o++B)).set A.length v=(A ++ [v])++(o++B):=by simp
  have:=pX n o (A ++ [v]) B (by simpa using h)
  simp only[bE]
  rw[e]
  simpa using this
theorem jy{Y:Type}{f:Y->List Value}{m:Nat}(hf:∀x,(f x).length=m)(xs:List Y)(k:Nat)(hk:k<xs.length)(y:Y):bE (xs.flatMap f) (k*m) (f y)=(xs.set k y).flatMap f:=by
 have e1:xs=xs.take k++xs[k] :: xs.drop (k+1):=by rw[<- List.drop_eq_getElem_cons hk,List.take_append_drop]
 have e2:xs.set k y=xs.take k++y :: xs.drop (k+1):=by rw[List.set_eq_take_append_cons_drop,if_pos hk]
 have hl:((xs.take k).flatMap f).length=k*m:=by rw[bJ hf,List.length_take,Nat.min_eq_left (Nat.le_of_lt hk)]
 rw[e2]
 conv=>lhs;rw[e1]
 rw[List.flatMap_append,List.flatMap_cons,List.flatMap_append,List.flatMap_cons,<- hl]
 exact pX _ _ _ _ (by rw[hf,hf])
theorem aQR{a b c:Int}{id n:Nat}:wk (.agg #[.int .i64 a,.int .i64 b,.int .i64 c,.slice (some ⟨id,0,some 1⟩) n n]) (.agg #[.int .i64 a,.int .i64 b,.int .i64 c,.slice (some ⟨id,0,some 2⟩) n n]) :=
 aL ⟨ar _,ar _,ar _,uZ,trivial⟩
theorem u6{n:Nat}(h:n<18446744073709551616):IntKind.wrap .u64 (n:Int)=n:=by
 unfold IntKind.wrap
 simp[IntKind.signed,IntKind.bits]
 omega
theorem ya{n:Nat}(h:n<4294967296):(BitVec.ofInt (IntKind.bits .u64) (n:Int) &&& BitVec.ofInt (IntKind.bits .u64) 4294967295).toNat=n:=by
 show (BitVec.ofInt 64 (n:Int) &&& BitVec.ofInt 64 4294967295).toNat=n
 rw[BitVec.toNat_and,BitVec.toNat_ofInt,BitVec.toNat_ofInt]
 have e1:((n:Int) % (2 ^ 64:Nat)).toNat=n:=by omega
 have e2:((4294967295:Int) % (2 ^ 64:Nat)).toNat=2 ^ 32-1:=by decide
 rw[e1,e2,Nat.and_two_pow_sub_one_eq_mod]
 exact Nat.mod_eq_of_lt h
theorem AJ(n:Nat)(hn:n<4294967296)(H:Heap):ai prog F.mS [.int .u64 1,.int .u64 (n:Int)] H [] (Is (.tuple #[.int .u64 0,.int .u64 (n:Int)]) H):=by
 refine fL 40 (fun _=>rfl) rfl (Eq.mpr (AZ _ n) ?_) H
 unfold Ar
 have f0:Int.fdiv (n:Int) (2 ^ 32)=0:=by rw[Int.fdiv_eq_ediv_of_nonneg _ (by decide)];omega
 have a0:(BitVec.ofInt (IntKind.bits .u64) (0:Int) &&& BitVec.ofInt (IntKind.bits .u64) 4294967295).toNat=0:=ya (n:=0) (by decide)
 have w0:IntKind.wrap .u64 ((0:Nat):Int)=0:=u6 (by decide)
 refine ⟨n,by rw[ya hn,u6 (by omega)],?_⟩
 simp only[Int.one_mul,Int.zero_mul,Int.zero_add,f0,a0]
 refine ⟨by rw[u6 (by omega)],by first|rfl|exact congrArg _ w0,by first|rfl|exact congrArg _ w0,0,by first|rfl|exact congrArg _ w0,?_⟩
 simp only[Int.zero_add,Int.add_zero]
 exact ⟨congrArg _ w0,congrArg _ w0,congrArg _ w0,congrArg _ w0,0,rfl,congrArg _ w0,by rw[u6 (by omega)],rfl⟩
theorem fF(n:Nat)(c:Cell):((List.replicate n c).flatMap cellC).length=n*8:=by rw[bJ dk,List.length_replicate]
theorem oF(a b:Nat)(c:Cell):(List.replicate (a+b) c).flatMap cellC=(List.replicate a c).flatMap cellC++(List.replicate b c).flatMap cellC:=by
 rw[<- List.replicate_append_replicate,List.flatMap_append]
theorem nc:∀(N B A C:List Value),N.length=B.length->bE (A++(B++C)) A.length N=A++(N++C)
 | [],B,A,C,h=>by
  cases B with
  |nil=>rfl
  |cons b B=>cases h
 |v :: N,B,A,C,h=>by
  cases B with
  |nil=>cases h
  |cons b B =>
   show bE ((A++(b :: B++C)).set A.length v) (A.length+1) N=_
   have e:(A++(b :: B++C)).set A.length v=(A ++ [v])++(B++C):=by
    rw[List.set_append_right _ _ (Nat.le_refl _),Nat.sub_self];simp
   have e2:A.length+1=(A ++ [v]).length:=by simp
   rw[e,e2,nc N B (A ++ [v]) C (Nat.succ.inj h)]
   simp
theorem uu(n:Nat):dh [.int .i64 0,.int .i64 0,.int .i64 0,.int .i64 0,.int .i64 0,.int .i64 0,.int .i64 0,.int .i64 0] n=(List.replicate n ah).flatMap cellC:=by
 induction n with
 |zero=>rfl
 |succ n ih=>show _++dh _ n=_;rw[ih,List.replicate_succ,List.flatMap_cons];rfl
theorem uh{c:Cell}{n x:Nat}(h:x<=n):(b9 c n x).length=n:=by unfold b9;rw[bi,List.length_replicate,List.length_replicate];omega
theorem vk{c:Cell}{n x q:Nat}(h1:q<=x)(h2:x+q<=n):bE ((b9 c n x).flatMap cellC) (x*8) (List.take (q*8) (List.drop 0 ((b9 c n x).flatMap cellC)))=(b9 c n (x+q)).flatMap cellC:=by
 have e1:(b9 c n x).flatMap cellC=(List.replicate x c).flatMap cellC++((List.replicate q ah).flatMap cellC++(List.replicate (n-(x+q)) ah).flatMap cellC):=by
  unfold b9
  rw[List.flatMap_append,<- oF,show n-x=q+(n-(x+q)) by omega]
 have e2:List.take (q*8) (List.drop 0 ((b9 c n x).flatMap cellC))=(List.replicate q c).flatMap cellC:=by
  have e3:(b9 c n x).flatMap cellC=(List.replicate q c).flatMap cellC++((List.replicate (x-q) c).flatMap cellC++(List.replicate (n-x) ah).flatMap cellC):=by
   unfold b9
   rw[List.flatMap_append,<- List.append_assoc,<- oF,show q+(x-q)=x by omega]
  rw[e3,List.drop_zero,List.take_append_of_le_length (by rw[fF];exact Nat.le_refl _),List.take_of_length_le (by rw[fF];exact Nat.le_refl _)]
 rw[e2,e1,<- fF x c,nc _ _ _ _ (by rw[fF,fF])]
 unfold b9
 rw[List.flatMap_append,oF,List.append_assoc]
theorem uj(l:List Cell)(n:Nat):((List.take n (List.drop 0 (l.flatMap cellC))).all fun v=>cO v)=true:=by
 rw[List.all_eq_true]
 intro v hv
 have h:=List.mem_of_mem_take hv
 rw[List.drop_zero]at h
 obtain ⟨c,_,h⟩:=List.mem_flatMap.1 h
 simp only[cellC,List.mem_cons,List.not_mem_nil,or_false,List.mem_append]at h
 rcases h with h|h|h|h|h|h|h|h <;> (subst h;rfl)
theorem xi(c:Cell)(n:Nat)(h1:1<=n)(hn:n<=100000){H:Heap}{L:Nat}(hL:H.length=L){id:Nat}{own:Bool}{z:Nat}(hid:H[id]?=some (.cells own z (cellC c))) :
  ai prog F.dx [.slice (some ⟨id,0,some 2⟩) 1 1,.int .i64 (n:Int)] H [] (Is (.slice (some ⟨L,0,some 1⟩) n n) (H ++ [.cells true 8 ((List.replicate n c).flatMap cellC)])):=by
 subst hL
 have hnn:b9 c n n=List.replicate n c:=by unfold b9;rw[Nat.sub_self];simp
 rw[<- hnn]
 refine xP (fun i => .slice (some ⟨i,0,some 1⟩) n n) (css:=[cellC c]) (new:=[.cells true 8 ((b9 c n n).flatMap cellC)]) (Eq.mpr (xN c n) ?_) ⟨rfl,trivial⟩ ⟨⟨_,_,rfl,bx 0 _⟩,trivial⟩ rfl rfl (fun _=>rfl) (ids:=[id]) ⟨⟨_,_,hid⟩,trivial⟩ rfl
 unfold tV
 rw[wQ (n:=(n:Int)) (by omega),u6 (by omega),show Int.toNat (n:Int)=n from Int.toNat_natCast n,Nat.min_eq_left h1,uu]
 refine aO (fun q=>absurd q (by omega)) (fun _=>⟨trivial,fun H' _ _=>AJ n (by omega) H',aO (fun q=>absurd q (by omega)) (fun _=>⟨⟨by omega,by omega,by omega,by omega⟩,⟨⟨Nat.le_refl _,Nat.le_refl 8⟩,by rw[fF];omega,rfl⟩,rfl,rfl,h1,?_,fun _=>rfl,?_⟩)⟩)
 ·have e:bE ((List.replicate n ah).flatMap cellC) 0 (List.take (1*8) (List.drop 0 (cellC c)))=(b9 c n (0+1)).flatMap cellC:=by
   have:=jy (f:=cellC) dk (List.replicate n ah) 0 (by rw[List.length_replicate];omega) c
   rw[Nat.zero_mul]at this
   refine Eq.trans this (congrArg _ ?_)
   unfold b9
   obtain ⟨k,rfl⟩:∃k,n=k+1:=⟨n-1,by omega⟩
   rw[List.replicate_succ];rfl
  repeat' first|(exact congrArg (fun q=>some (ae.cells true 8 q)) e)|exact bx _ _|exact trivial|exact rfl|exact ar _|refine ay ?_|refine aB ?_ ?_|exact aP|exact ba _ _ _ (.inl rfl)|(exact bT (by omega))|refine aN ?_|refine aL ?_|refine aK ?_ ?_ ?_|refine aJ ?_ ?_ ?_|refine toMax ?_|refine toMin ?_|refine ⟨rfl,?_⟩|refine ⟨trivial,?_⟩|(refine aO (fun h =>?_) (fun h =>?_))|(refine aM (fun h =>?_) (fun h =>?_))|(refine aU (fun h =>?_) (fun h =>?_))|refine aD ?_|(refine ⟨aG (by omega),?_⟩)|(refine And.intro (by omega) ?_)|apply And.intro|(exact iEq (by omega))|(exact aG (by omega))
 intro x hx
 have hl:=uh (c:=c) hx
 refine aO (fun k =>?_) (fun k =>?_)
 ·have hq1:min (x+1) (n-(x+1))<=x+1:=Nat.min_le_left _ _
  have hq2:min (x+1) (n-(x+1))<=n-(x+1):=Nat.min_le_right _ _
  have hq3:1<=min (x+1) (n-(x+1)):=Nat.le_min.2 ⟨by omega,by omega⟩
  have es:=vk (c:=c) hq1 (show (x+1)+min (x+1) (n-(x+1))<=n by omega)
  generalize min (x+1) (n-(x+1))=q at *
  have hxi:Int.toNat ((x+1:Nat):Int)=x+1:=Int.toNat_natCast _
  rw[hxi]
  refine ⟨⟨.inr (.inr rfl),Nat.le_refl _,by omega,by omega⟩,rfl,⟨.inr (.inr rfl),⟨by omega,by omega⟩,Nat.zero_le _⟩,rfl,⟨⟨hq1,by rw[bJ dk,hl];omega⟩,by rw[bJ dk,hl];omega,uj _ _⟩,rfl,aG (by omega),_,rfl,x+q,by omega,by omega,rfl,?_⟩
  have es2:bE ((b9 c n (x+1)).flatMap cellC) (0+(x+1)*8) (List.take (q*8) (List.drop 0 ((b9 c n (x+1)).flatMap cellC)))=(b9 c n (x+q+1)).flatMap cellC:=by
   rw[Nat.zero_add,es,show x+1+q=x+q+1 by omega]
  repeat' first|(exact congrArg (fun q=>some (ae.cells true 8 q)) es2)|exact bx _ _|exact trivial|exact rfl|exact ar _|refine ay ?_|refine aB ?_ ?_|exact aP|exact ba _ _ _ (.inl rfl)|(exact bT (by omega))|refine aN ?_|refine aL ?_|refine aK ?_ ?_ ?_|refine aJ ?_ ?_ ?_|refine toMax ?_|refine toMin ?_|refine ⟨rfl,?_⟩|refine ⟨trivial,?_⟩|(refine aO (fun h =>?_) (fun h =>?_))|(refine aM (fun h =>?_) (fun h =>?_))|(refine aU (fun h =>?_) (fun h =>?_))|refine aD ?_|(refine ⟨aG (by omega),?_⟩)|(refine And.intro (by omega) ?_)|apply And.intro|(exact iEq (by omega))|(exact aG (by omega))
 ·obtain rfl:n=x+1:=by omega
  repeat' first|exact bx _ _|exact trivial|exact rfl|exact ar _|refine ay ?_|refine aB ?_ ?_|exact aP|exact ba _ _ _ (.inl rfl)|(exact bT (by omega))|refine aN ?_|refine aL ?_|refine aK ?_ ?_ ?_|refine aJ ?_ ?_ ?_|refine toMax ?_|refine toMin ?_|refine ⟨rfl,?_⟩|refine ⟨trivial,?_⟩|(refine aO (fun h =>?_) (fun h =>?_))|(refine aM (fun h =>?_) (fun h =>?_))|(refine aU (fun h =>?_) (fun h =>?_))|refine aD ?_|(refine ⟨aG (by omega),?_⟩)|(refine And.intro (by omega) ?_)|apply And.intro|(exact iEq (by omega))|(exact aG (by omega))
theorem Am{r:gQ×Int}{e:Int}(h:r=(cj,e)):true=true/\wk (.tuple #[.agg #[.int .i64 0,.int .i64 0,.int .i64 0,.slice none 0 0],.int .i64 e]:Value) (rn (sg 0 []) 3 (.tuple #[chV 1 0 r.1,.int .i64 r.2]))/\(True/\True):=by
 subst h
 exact ⟨rfl,aN ⟨aL ⟨ar _,ar _,ar _,ba _ _ _ (.inl rfl),trivial⟩,ar _,trivial⟩,trivial,trivial⟩
theorem qQ{w h t:Int}(e:¬ bp w h t=0):bS w h t=(cj,bp w h t):=if_neg e
theorem mr{w h t:Int}(e:bp w h t=0):bS w h t=(⟨w,h,t,aw (Int.toNat (w*h))⟩,0):=if_pos e
theorem fK(n:Nat):(aw n).length=n:=List.length_replicate
theorem su(w h t:Int){H:Heap}{L:Nat}(hL:H.length=L) :
  ai prog F.uG [.int .i64 w,.int .i64 h,.int .i64 t] H [] (Is (.tuple #[chV 1 L (bS w h t).1,.int .i64 (bS w h t).2]) (H ++ [.cells true 8 ((bS w h t).1.cells.flatMap cellC)])):=by
 subst hL
 refine zD (fun i => .tuple #[chV 1 i (bS w h t).1,.int .i64 (bS w h t).2]) (Eq.mpr (zq w h t) ?_) (fun n=>bx n _) rfl rfl (fun _=>rfl) (fun _=>rfl) H
 unfold wP
 refine ⟨trivial,fun H' _ _=>bh w h t H',aM (fun h0=>Am (qQ h0)) (fun h0 =>?_)⟩
 obtain ⟨h1,h2,h3,h4⟩:=dd.1 h0
 have hb:=vw h1 h2
 refine ⟨trivial,fun H' _ _=>yx H',aG (by omega),⟨rfl,trivial⟩,fun H' hl hd =>?_,?_⟩
 ·have hw:(((Int.toNat (w*h):Nat):Nat):Int)=w*h:=Int.toNat_of_nonneg (by omega)
  have:=xi az (Int.toNat (w*h)) (by omega) (by omega) hl hd.1
  rw[hw]at this
  exact this.wkA ⟨zw,ar _,trivial⟩
 ·rw[mr h0]
  dsimp only
  rw[fK]
  repeat' first|exact bx _ _|exact trivial|exact rfl|exact ar _|refine ay ?_|refine aB ?_ ?_|exact aP|exact ba _ _ _ (.inl rfl)|(exact bT (by omega))|refine aN ?_|refine aL ?_|refine aK ?_ ?_ ?_|refine aJ ?_ ?_ ?_|refine toMax ?_|refine toMin ?_|refine ⟨rfl,?_⟩|refine ⟨trivial,?_⟩|(refine aO (fun h =>?_) (fun h =>?_))|(refine aM (fun h =>?_) (fun h =>?_))|(refine aU (fun h =>?_) (fun h =>?_))|refine aD ?_|(refine ⟨aG (by omega),?_⟩)|(refine And.intro (by omega) ?_)|apply And.intro|(exact iEq (by omega))|(exact aG (by omega))
end
end Go.Proofs.YthcjliffpebjaaaGreat
namespace Go.Proofs.YthcjliffpebjaaaGreat
open Go Go.Shelf
def ub:Go.Shelf.Ren:=⟨fun|189=>128|125=>153|257=>152|128=>171|129=>172|294=>162|295=>163|296=>164|297=>165|298=>166|299=>167|216=>168|300=>169|301=>170|328=>185|329=>186|330=>187|331=>188|332=>189|215=>184|343=>193|n=>n,fun|28=>66|3=>3|46=>201|0=>0|51=>213|53=>216|4=>4|183=>221|182=>220|131=>226|5=>5|9=>9|218=>235|222=>127|228=>242|229=>243|n=>n,fun|n=>n⟩
theorem zG:Go.Proofs.Lays.n189 Tryz.prog ub:={
 mixed:=by kernel_rfl
 f125:=Tryz.func153.trans (congrArg some (by kernel_rfl))
 f128:=Tryz.func171.trans (congrArg some (by kernel_rfl))
 f129:=Tryz.func172.trans (congrArg some (by kernel_rfl))
 f189:=Tryz.func128.trans (congrArg some (by kernel_rfl))
 f215:=Tryz.func184.trans (congrArg some (by kernel_rfl))
 f216:=Tryz.func168.trans (congrArg some (by kernel_rfl))
 f257:=Tryz.func152.trans (congrArg some (by kernel_rfl))
 f294:=Tryz.func162.trans (congrArg some (by kernel_rfl))
 f295:=Tryz.func163.trans (congrArg some (by kernel_rfl))
 f296:=Tryz.func164.trans (congrArg some (by kernel_rfl))
 f297:=Tryz.func165.trans (congrArg some (by kernel_rfl))
 f298:=Tryz.func166.trans (congrArg some (by kernel_rfl))
 f299:=Tryz.func167.trans (congrArg some (by kernel_rfl))
 f300:=Tryz.func169.trans (congrArg some (by kernel_rfl))
 f301:=Tryz.func170.trans (congrArg some (by kernel_rfl))
 f328:=Tryz.func185.trans (congrArg some (by kernel_rfl))
 f329:=Tryz.func186.trans (congrArg some (by kernel_rfl))
 f330:=Tryz.func187.trans (congrArg some (by kernel_rfl))
 f331:=Tryz.func188.trans (congrArg some (by kernel_rfl))
 f332:=Tryz.func189.trans (congrArg some (by kernel_rfl))
 f343:=Tryz.func193.trans (congrArg some (by kernel_rfl))
 t0:=Tryz.underlying0
 a0:=Tryz.isAgg0
 z0:=Tryz.sizeOf0
 v0:=Tryz.zeroValue0
 t3:=Tryz.underlying3
 a3:=Tryz.isAgg3
 z3:=Tryz.sizeOf3
 v3:=Tryz.zeroValue3
 t4:=Tryz.underlying4
 a4:=Tryz.isAgg4
 z4:=Tryz.sizeOf4
 v4:=Tryz.zeroValue4
 t5:=Tryz.underlying5
 a5:=Tryz.isAgg5
 z5:=Tryz.sizeOf5
 v5:=Tryz.zeroValue5
 t9:=Tryz.underlying9
 a9:=Tryz.isAgg9
 z9:=Tryz.sizeOf9
 v9:=Tryz.zeroValue9
 t28:=Tryz.underlying66
 a28:=Tryz.isAgg66
 z28:=Tryz.sizeOf66
 v28:=Tryz.zeroValue66
 t46:=Tryz.underlying201
 a46:=Tryz.isAgg201
 z46:=Tryz.sizeOf201
 v46:=Tryz.zeroValue201
 t51:=Tryz.underlying213
 a51:=Tryz.isAgg213
 z51:=Tryz.sizeOf213
 v51:=Tryz.zeroValue213
 t53:=Tryz.underlying216
 a53:=Tryz.isAgg216
 z53:=Tryz.sizeOf216
 v53:=Tryz.zeroValue216
 t131:=Tryz.underlying226
 a131:=Tryz.isAgg226
 z131:=Tryz.sizeOf226
 v131:=Tryz.zeroValue226
 t182:=Tryz.underlying220
 a182:=Tryz.isAgg220
 z182:=Tryz.sizeOf220
 v182:=Tryz.zeroValue220
 t183:=Tryz.underlying221
 a183:=Tryz.isAgg221
 z183:=Tryz.sizeOf221
 v183:=Tryz.zeroValue221
 t218:=Tryz.underlying235
 a218:=Tryz.isAgg235
 z218:=Tryz.sizeOf235
 v218:=Tryz.zeroValue235
 t222:=Tryz.underlying127
 a222:=Tryz.isAgg127
 z222:=Tryz.sizeOf127
 v222:=Tryz.zeroValue127
 t228:=Tryz.underlying242
 a228:=Tryz.isAgg242
 z228:=Tryz.sizeOf242
 v228:=Tryz.zeroValue242
 t229:=Tryz.underlying243
 a229:=Tryz.isAgg243
 z229:=Tryz.sizeOf243
 v229:=Tryz.zeroValue243 }
end Go.Proofs.YthcjliffpebjaaaGreat
namespace Go.K
open Go Go.Proofs Go.RowKit Go.Lib Go.Sort Go.Shelf
variable {P:Program}
theorem vN{R:Go.Shelf.Ren}(L:Lays.n189 P R)(ef:Enters P (R.f 189))
  {H:Heap} {id:Nat} {tag:Option Nat} (htag:tag=none∨tag=some 1) {L0:List Int} (h0:0<L0.length) (hlen:L0.length<4611686018427387904) (ho:H[id]?=some (.cells true 1 (L0.map (Value.int .i64)))) :
  ai P (R.f 189) [.slice (some ⟨id,0,tag⟩) L0.length L0.length] H [id] (Is (.tuple #[]) (H.set id (.cells true 1 ((L0.mergeSort fun x y=>decide (x<=y)).map (Value.int .i64))))):=by
 refine ⟨ef,fun B J w args' hr ha =>?_⟩
 obtain ⟨x',rfl⟩:∃x',args' = #[x']:=by
  have hl:=ha.1
  obtain ⟨l⟩:=args'
  match l,hl with
  | [a],_=>exact ⟨a,rfl⟩
 have hx:=ha.2 0 _ _ rfl rfl
 obtain ⟨r,cap',hid,hcap,rfl⟩:∃r cap',J id=some r/\L0.length<=cap'/\x' = .slice (some ⟨r.b,0+r.s,none⟩) L0.length cap':=by
  generalize L0.length=n at hx h0
  rcases htag with rfl|rfl
  ·cases hx with
   |slice h hl hc _=>exact ⟨_,_,h,Nat.le_trans hl hc,rfl⟩
   |bw h=>exact absurd h0 (Nat.lt_irrefl 0)
  ·cases hx with
   |aV=>exact absurd h0 (Nat.lt_irrefl 0)
   |aS=>exact absurd h0 (Nat.lt_irrefl 0)
   |bn h hp hl hc _=>exact ⟨_,_,h,Nat.le_trans hl hc,rfl⟩
 rw[Nat.zero_add]
 have yI:=hr.obj id r _ hid ho
 obtain ⟨ow,zz,cs',ty,fz,hb,hsz,hfz,hcs⟩:=yI
 obtain rfl:=hfz rfl
 have hel:∀i (hi:i<L0.length),cs'[i+r.s]?=some (Value.int .i64 L0[i]):=fun i hi=>by
  obtain ⟨v',e1,e2⟩:=hcs i (Value.int .i64 L0[i]) (by rw[List.getElem?_map,List.getElem?_eq_getElem hi];rfl)
  cases e2;exact e1
 have hgd:∀(M:List Int) j (hj:j<M.length),M.toArray[j]! = M[j]:=fun M j hj=>getElem!_pos M.toArray j hj
 have hH:Holds (Value.int .i64) w r.b r.s L0.toArray:=fun j hj=>by
  have hj':j<L0.length:=by simpa using hj
  have e:=hel j hj'
  refine ⟨?_,?_⟩
  ·rw[hgd L0 j hj']
   simp only[World.cell?,hb,Option.isSome_none,Bool.false_eq_true,if_false]
   rw[Nat.add_comm];exact e
  ·simp[World.frozen?,hb]
 have hblk:=hr.lt id r hid
 have hcon:=Any.slices_Sort_int L r.b r.s cap' L0 w hH hblk hlen
 refine callsIn_wide.2 (hcon.mono ?_)
 rintro e w' ⟨rfl,V,os,rfl⟩
 have hml:(L0.mergeSort fun x y=>decide (x<=y)).length=L0.length:=List.length_mergeSort _
 generalize (L0.mergeSort fun x y=>decide (x<=y))=M at hml ⊢
 have hput:bj J r (.cells true 1 (M.map (Value.int .i64))) (w.putObj r.b (.cells (putCells (Value.int .i64) r.s M.toArray cs') ty (0,0))):=by
  refine ⟨ow,zz,putCells (Value.int .i64) r.s M.toArray cs',ty,(0,0),World.putObj_heap_same hblk,by simp[putCells,hml]at hsz ⊢;omega,fun _=>rfl,fun i v hv =>?_⟩
  rw[List.getElem?_map]at hv
  obtain ⟨a,ha1,rfl⟩:=a8 hv
  obtain ⟨hi,ha2⟩:=List.getElem?_eq_some_iff.1 ha1
  refine ⟨.int .i64 a,?_,.int _ _⟩
  simp only[putCells,Array.getElem?_mapIdx,hel i (by omega),Option.map_some]
  rw[if_pos ⟨by omega,by simp;omega⟩,show i+r.s-r.s=i by omega,hgd M i hi,ha2]
 have p1:=Post.put (base:=H.length) (M:=[id]) hr hid ho rfl (by rw[hb];rfl) hput (fun _=>List.mem_singleton.2 rfl)
 have hheap:∀b,b<w.heap.size->(grow (putRow (Value.int .i64) (Sort.ahead w V) r.b r.s M.toArray) os).heap[b]?=(w.putObj r.b (.cells (putCells (Value.int .i64) r.s M.toArray cs') ty (0,0))).heap[b]? := by
  intro b hb1
  simp only[grow,putRow,mapBlock,Sort.ahead]
  rw[Array.getElem?_append_left (by simpa using hb1),Array.getElem?_modify]
  by_cases e:r.b=b
  ·subst e
   rw[if_pos rfl,World.putObj_heap_same hblk]
   show Option.map (onCells _) w.heap[r.b]?=_
   rw[hb];rfl
  ·rw[if_neg e,World.putObj_heap_other (Ne.symm e)]
 have p2:=p1.grown (w2:=grow (putRow (Value.int .i64) (Sort.ahead w V) r.b r.s M.toArray) os) (by simp[grow,putRow,mapBlock,Sort.ahead,World.putObj]) (fun b hb1=>hheap b (by simpa[World.putObj] using hb1)) rfl rfl rfl (by simp[grow,putRow,mapBlock,Sort.ahead,World.putObj])
 exact ⟨.tuple #[],.tuple #[],J,_,rfl,.tuple rfl (fun i a b h=>by simp at h),p2,rfl,rfl⟩
end Go.K
namespace Go.Proofs.YthcjliffpebjaaaGreat
noncomputable section
attribute [local irreducible] vF
theorem yB(l:List Int):l.flatMap bf=l.map (Value.int .i64):=by
 induction l with
 |nil=>rfl
 |cons x l ih=>rw[List.flatMap_cons,ih];rfl
theorem uM:Enters prog 128:=qU Tryz.func128 (by kernel_rfl) (by kernel_rfl)
def pU(L:List Int):List Int:=L.mergeSort fun x y=>decide (x<=y)
theorem yy{L0:List Int}(h0:0<L0.length)(h1:L0.length<1000){H:Heap}{id:Nat}(ho:H[id]?=some (.cells true 1 (L0.flatMap bf))) :
  ai prog 128 [.slice (some ⟨id,0,some 1⟩) L0.length L0.length] H [id] (Is (.tuple #[]) (H.set id (.cells true 1 ((pU L0).flatMap bf)))):=by
 rw[yB]at ho ⊢
 exact vN zG uM (.inr rfl) h0 (by omega) ho
end
end Go.Proofs.YthcjliffpebjaaaGreat
namespace Go.Proofs.YthcjliffpebjaaaGreat
noncomputable section
def kXY(q:Int×Int):Value:=.agg #[.int .i64 q.1,.int .i64 q.2]
def aa(A:List ((Int×Int)×Value))(e:Nat):Int×Int:=(A.getD e ((0,0),.chan none)).1
def bW(l:List Report)(m:aR)(now:Int)(q:Int×Int)(y:Nat):List Int:=(((atN l l.length q).take y).filter (jp l m now)).map fun k:Nat=>(k:Int)
def aZ(l:List Report)(m:aR)(now:Int)(A:List ((Int×Int)×Value))(seen:List Nat):List Int:=seen.flatMap fun e=>bW l m now (aa A e) l.length
open Classical in
def cellsS(w h:Int)(l:List Report)(m:aR)(now:Int)(A:List ((Int×Int)×Value))(seen:List Nat):List Cell :=
 aQ (fun p=>if plQ w p∈seen.map (aa A) then cellAt l m now (plQ w p) else az) (Int.toNat (w*h))
structure kB(l:List Report)(T:Mb (Int×Int))(seen:List Nat)(ms:List Value):Prop where
 nd:seen.Nodup
 lt:∀e∈seen,e<T.A.length
 m0:ms[0]?=some (.int .i64 ((1:Nat):Int))
 fx:∀v∈ms,ki v
 rw:∀e,e<T.A.length->e ∉ seen->ms[T.ks (aa T.A e)+1]?=some (.agg ⟨(ak l l.length (aa T.A e)).flatMap bf⟩)
end
end Go.Proofs.YthcjliffpebjaaaGreat
namespace Go.Proofs.YthcjliffpebjaaaGreat
noncomputable section
attribute [local irreducible] vF
theorem jC(l:List Report)(i:Nat)(q:Int×Int):atN l (i+1) q=if kxy (l.getD i af)=q then atN l i q ++ [i] else atN l i q:=by
 unfold atN
 rw[List.range_succ,List.filter_append]
 by_cases h:kxy (l.getD i af)=q
 ·rw[if_pos h,List.filter_cons_of_pos (by simpa using h)];rfl
 ·rw[if_neg h,List.filter_cons_of_neg (by simpa using h)];simp
theorem kV{l:List Report}{i:Nat}{q:Int×Int}{k:Nat}:k∈atN l i q ↔ k<i/\kxy (l.getD k af)=q:=by
 unfold atN;rw[List.mem_filter,List.mem_range];simp
theorem hY(l:List Report)(q:Int×Int):∀i,(atN l i q).length<=i
 |0=>Nat.le_refl _
 |i+1=>by
  rw[jC]
  have:=hY l q i
  split
  ·rw[bi];show _+1<=_;omega
  ·omega
theorem px{l:List Report}{q:Int×Int}:∀{i k:Nat},k<(atN l i q).length->(atN l ((atN l i q).getD k 0) q).length=k
 |0,k,h=>by exact absurd h (Nat.not_lt_zero _)
 |i+1,k,h=>by
  rw[jC]at h ⊢
  by_cases e:kxy (l.getD i af)=q
  ·rw[if_pos e]at h ⊢
   rw[bi]at h
   by_cases e2:k<(atN l i q).length
   ·rw[List.getD_eq_getElem?_getD,List.getElem?_append_left e2,<- List.getD_eq_getElem?_getD]
    exact px e2
   ·have h1:([i]:List Nat).length=1:=rfl
    obtain rfl:k=(atN l i q).length:=by omega
    rw[List.getD_eq_getElem?_getD,List.getElem?_append_right (Nat.le_refl _),Nat.sub_self];rfl
  ·rw[if_neg e]at h ⊢
   exact px h
theorem nn(l:List Report)(i:Nat):(fun q=>if q=kxy (l.getD i af) then ak l i (kxy (l.getD i af)) ++ [(i:Int)] else ak l i q)=ak l (i+1):=funext fun q=>by
 unfold ak
 rw[jC]
 by_cases e:q=kxy (l.getD i af)
 ·subst e;rw[if_pos rfl,if_pos rfl,List.map_append];rfl
 ·rw[if_neg e,if_neg (fun h=>e h.symm)]
theorem jg(l:List Report)(i:Nat)(q:Int×Int):(ak l i q).length=(atN l i q).length:=List.length_map ..
theorem qi{l:List Report}{i:Nat}{q:Int×Int}{k:Nat}(h:k<(atN l i q).length):(ak l i q).getD k 0=(((atN l i q).getD k 0:Nat):Int):=by
 unfold ak
 rw[List.getD_eq_getElem?_getD,List.getElem?_map,List.getD_eq_getElem?_getD,List.getElem?_eq_getElem h];rfl
theorem eH(l:List Report)(m:aR)(now:Int)(q:Int×Int):(aj l m now q).length=(atN l l.length q).length:=List.length_map ..
theorem gk{l:List Report}{m:aR}{now:Int}{q:Int×Int}{k:Nat}(h:k<(atN l l.length q).length):(aj l m now q).getD k ah=bl (l.getD ((atN l l.length q).getD k 0) af) m now:=by
 unfold aj
 rw[List.getD_eq_getElem?_getD,List.getElem?_map,List.getD_eq_getElem?_getD (l:=atN l l.length q),List.getElem?_eq_getElem h];rfl
theorem jD{l:List Report}{i:Nat}{q:Int×Int}{k:Nat}(h:k<(atN l i q).length):(atN l i q).getD k 0<i/\kxy (l.getD ((atN l i q).getD k 0) af)=q:=kV.1 (gF h)
theorem jO{l:List Report}{m:aR}{now:Int}{q:Int×Int}{k:Nat}(h:k<(atN l l.length q).length):jp l m now ((atN l l.length q).getD k 0) = !((aX (aj l m now q) (aj l m now q).length).getD k false):=by
 obtain ⟨_,h2⟩:=jD h
 unfold jp
 rw[h2,px h]
 unfold aX
 rw[ck (by rw[eH];exact h)]
theorem uk{l:List Report}{m:aR}{now:Int}{q:Int×Int}{k:Nat}(h:k<(atN l l.length q).length):bW l m now q (k+1)=if (aX (aj l m now q) (aj l m now q).length).getD k false=false then bW l m now q k ++ [(ak l l.length q).getD k 0] else bW l m now q k:=by
 unfold bW
 rw[jI (d:=0) h,List.filter_append,List.map_append,qi h]
 cases e:(aX (aj l m now q) (aj l m now q).length).getD k false with
 |false=>rw[if_pos rfl,List.filter_cons_of_pos (by rw[jO h,e];rfl)];rfl
 |true=>rw[if_neg (by decide),List.filter_cons_of_neg (by rw[jO h,e];decide)];simp
theorem vu(l:List Report)(m:aR)(now:Int)(q:Int×Int){y:Nat}(h:(atN l l.length q).length<=y):bW l m now q y=bW l m now q l.length:=by
 unfold bW
 rw[List.take_of_length_le h,List.take_of_length_le (hY l q _)]
theorem rV(l:List Report)(m:aR)(now:Int)(A:List ((Int×Int)×Value))(seen:List Nat)(e:Nat):aZ l m now A (seen ++ [e])=aZ l m now A seen++bW l m now (aa A e) l.length:=by
 unfold aZ;rw[List.flatMap_append];simp
theorem wy(w h:Int)(l:List Report)(m:aR)(now:Int)(A:List ((Int×Int)×Value)):cellsS w h l m now A []=aw (Int.toNat (w*h)):=by
 unfold cellsS aw
 refine ft (d:=ah) List.length_replicate fun k hk =>?_
 rw[if_neg (by simp),List.getD_eq_getElem?_getD,List.getElem?_replicate,if_pos hk];rfl
theorem iW(w h:Int)(l:List Report)(m:aR)(now:Int)(A:List ((Int×Int)×Value))(seen:List Nat):(cellsS w h l m now A seen).length=Int.toNat (w*h):=bK _ _
theorem wX{w h x y:Int}(hx:0<=x/\x<w)(hy:0<=y/\y<h){p:Nat}:plQ w p=(x,y) ↔ (p:Int)=y*w+x:=by
 unfold plQ
 have hw:0<w:=by omega
 constructor
 ·intro e
  injection e with e1 e2
  have:=Int.mul_ediv_add_emod (p:Int) w
  rw[e1,e2,Int.mul_comm w y]at this
  exact this.symm
 ·intro e
  rw[e]
  have e1:(y*w+x) % w=x:=by
   rw[Int.add_comm,Int.add_mul_emod_self_right];exact Int.emod_eq_of_lt hx.1 hx.2
  have e2:(y*w+x) / w=y:=by
   rw[Int.add_comm,Int.add_mul_ediv_right _ _ (by omega),Int.ediv_eq_zero_of_lt hx.1 hx.2,Int.zero_add]
  rw[e1,e2]
theorem xT{w h x y:Int}(hx:0<=x/\x<w)(hy:0<=y/\y<h):0<=y*w+x/\y*w+x<w*h:=by
 have h1:0<=y*w:=Int.mul_nonneg hy.1 (by omega)
 have h2:(y+1)*w<=h*w:=Int.mul_le_mul_of_nonneg_right (by omega) (by omega)
 rw[Int.add_mul,Int.one_mul,Int.mul_comm h w]at h2
 omega
theorem rc{w h:Int}{l:List Report}{m:aR}{now:Int}{A:List ((Int×Int)×Value)}{seen:List Nat}{e:Nat}(hx:0<=(aa A e).1/\(aa A e).1<w)(hy:0<=(aa A e).2/\(aa A e).2<h) :
  (cellsS w h l m now A seen).set (Int.toNat ((aa A e).2*w+(aa A e).1)) (cellAt l m now (aa A e))=cellsS w h l m now A (seen ++ [e]):=by
 have hb:=xT hx hy
 refine Eq.symm (ft (d:=ah) (by rw[List.length_set,iW]) fun p hp =>?_)
 rw[mf (by rw[iW];omega)]
 have key:=wX hx hy (p:=p)
 by_cases q:p=Int.toNat ((aa A e).2*w+(aa A e).1)
 ·have:plQ w p=aa A e:=key.2 (by omega)
  rw[if_pos q,this,if_pos (by simp)]
 ·have hne:¬ plQ w p=aa A e:=fun e2=>q (by have:=key.1 e2;omega)
  rw[if_neg q]
  show (aQ _ _).getD p ah=_
  rw[ck hp]
  by_cases q2:plQ w p∈seen.map (aa A)
  ·rw[if_pos q2,if_pos (by rw[List.map_append];exact List.mem_append_left _ q2)]
  ·rw[if_neg q2,if_neg (by
    rw[List.map_append]
    intro h
    rcases List.mem_append.1 h with h|h
    ·exact q2 h
    ·exact hne (List.mem_singleton.1 h))]
theorem lA{Y β:Type}{f:Y->List β}:∀{s:List Y},s.Nodup->(∀e∈s,(f e).Nodup)->(∀e∈s,∀e'∈s,e≠e'->∀x∈f e,∀y∈f e',x≠y)->(s.flatMap f).Nodup
 | [],_,_,_=>List.nodup_nil
 |e :: s,h1,h2,h3=>by
  rw[List.nodup_cons]at h1
  rw[List.flatMap_cons,List.nodup_append]
  refine ⟨h2 e (List.mem_cons_self ..),lA h1.2 (fun a ha=>h2 a (List.mem_cons_of_mem _ ha)) (fun a ha b hb=>h3 a (List.mem_cons_of_mem _ ha) b (List.mem_cons_of_mem _ hb)),fun x hx y hy =>?_⟩
  obtain ⟨b,hb,hy⟩:=List.mem_flatMap.1 hy
  exact h3 e (List.mem_cons_self ..) b (List.mem_cons_of_mem _ hb) (fun q=>h1.1 (q ▸ hb)) x hx y hy
theorem nw{Y β:Type}{f:Y->β}(hf:∀a b,f a=f b->a=b){l:List Y}(h:l.Nodup):(l.map f).Nodup:=by
 unfold List.Nodup at *
 rw[List.pairwise_map]
 exact h.imp fun h e=>h (hf _ _ e)
theorem uQ(l:List Report)(i:Nat)(q:Int×Int):(atN l i q).Nodup:=List.Nodup.sublist List.filter_sublist List.nodup_range
theorem je{l:List Report}{m:aR}{now:Int}{q:Int×Int}{x:Int}:x∈bW l m now q l.length ↔ ∃k:Nat,(k<l.length/\kxy (l.getD k af)=q)/\jp l m now k=true/\(k:Int)=x:=by
 unfold bW
 rw[List.take_of_length_le (hY l q _)]
 simp only[List.mem_map,List.mem_filter,kV]
 exact ⟨fun ⟨k,⟨a,b⟩,c⟩=>⟨k,a,b,c⟩,fun ⟨k,a,b,c⟩=>⟨k,⟨a,b⟩,c⟩⟩
theorem rM(l:List Report)(m:aR)(now:Int)(q:Int×Int):(bW l m now q l.length).Nodup:=by
 unfold bW
 rw[List.take_of_length_le (hY l q _)]
 exact nw (fun a b e=>by omega) (List.Nodup.sublist List.filter_sublist (uQ l _ q))
theorem nJ{A:List ((Int×Int)×Value)}{e:Nat}(h:e<A.length):∃v,A[e]?=some (aa A e,v):=by
 unfold aa
 rw[List.getD_eq_getElem?_getD,List.getElem?_eq_getElem h]
 exact ⟨A[e].2,rfl⟩
theorem nI{A:List ((Int×Int)×Value)}{q:Int×Int}(h:cL q A=true):∃e,e<A.length/\aa A e=q:=by
 obtain ⟨e,he,hq⟩:=List.mem_map.1 ((qM q A).1 h)
 obtain ⟨i,hi,rfl⟩:=List.mem_iff_getElem.1 he
 refine ⟨i,hi,?_⟩
 unfold aa
 rw[List.getD_eq_getElem?_getD,List.getElem?_eq_getElem hi];exact hq
theorem nH{A:List ((Int×Int)×Value)}(hn:(A.map (·.1)).Nodup){e e':Nat}(h:e<A.length)(h':e'<A.length)(q:aa A e=aa A e'):e=e':=by
 have g:∀{i},i<A.length->(A.map (·.1))[i]?=some (aa A i):=fun {i} hi=>by
  obtain ⟨v,hv⟩:=nJ hi
  rw[List.getElem?_map,hv];rfl
 exact (List.getElem?_inj (by rw[List.length_map];exact h) hn).1 ((g h).trans ((congrArg some q).trans (g h').symm))
theorem rT{l:List Report}{m:aR}{now:Int}{n:Nat}{x:Int}:x∈ct l m now n ↔ ∃k:Nat,k<n/\jp l m now k=true/\(k:Int)=x:=by
 unfold ct
 simp only[List.mem_map,List.mem_filter,List.mem_range,and_assoc]
theorem vB{F:Nat}{l:List Report}{m:aR}{now:Int}{T:Mb (Int×Int)}(I:MbI F 1 bf (ak l l.length) T){seen:List Nat}(h1:seen.Nodup)(h2:∀e∈seen,e<T.A.length)(h3:∀e,e<T.A.length->e∈seen):pU (aZ l m now T.A seen)=ct l m now l.length:=by
 have hs:=List.pairwise_mergeSort (le:=fun x y:Int=>decide (x<=y)) (fun a b c h1 h2=>by simp at *;omega) (fun a b=>by simp;omega) (aZ l m now T.A seen)
 have hs:(pU (aZ l m now T.A seen)).Pairwise (· <= ·):=hs.imp fun h=>by simpa using h
 have ht:(ct l m now l.length).Pairwise (· <= ·):=by
  unfold ct
  rw[List.pairwise_map]
  exact (List.Pairwise.sublist List.filter_sublist List.pairwise_lt_range).imp fun h=>by omega
 refine List.Perm.eq_of_pairwise (fun a b _ _ h3 h4=>Int.le_antisymm h3 h4) hs ht ((List.mergeSort_perm _ _).trans ?_)
 refine (List.perm_ext_iff_of_nodup ?_ ?_).2 fun x =>?_
 ·refine lA h1 (fun e _=>rM l m now _) (fun e he e' he' hne x hx y hy hxy =>?_)
  obtain ⟨k,⟨_,a⟩,_,b⟩:=je.1 hx
  obtain ⟨k',⟨_,a'⟩,_,b'⟩:=je.1 hy
  obtain rfl:k=k':=by omega
  exact hne (nH I.nd (h2 e he) (h2 e' he') (a.symm.trans a'))
 ·unfold ct
  exact nw (fun a b e=>by omega) (List.Nodup.sublist List.filter_sublist List.nodup_range)
 ·unfold aZ
  rw[List.mem_flatMap,rT]
  constructor
  ·rintro ⟨e,_,hx⟩
   obtain ⟨k,⟨a,_⟩,b,c⟩:=je.1 hx
   exact ⟨k,a,b,c⟩
  ·rintro ⟨k,a,b,c⟩
   have hm:k∈atN l l.length (kxy (l.getD k af)):=kV.2 ⟨a,rfl⟩
   have hh:cL (kxy (l.getD k af)) T.A=true:=by
    rw[I.has,decide_eq_true]
    rw[jg];exact List.length_pos_of_mem hm
   obtain ⟨e,he,hq⟩:=nI hh
   exact ⟨e,h3 e he,je.2 ⟨k,⟨a,hq.symm⟩,b,c⟩⟩
theorem re{l:List Report}{m:aR}{now:Int}{q:Int×Int}(h:(atN l l.length q).length=0):cellAt l m now q=az:=by
 have:aj l m now q=[]:=List.length_eq_zero_iff.1 (by rw[eH];exact h)
 unfold cellAt
 rw[this];rfl
theorem uO{F:Nat}{w h:Int}{l:List Report}{m:aR}{now:Int}{T:Mb (Int×Int)}(I:MbI F 1 bf (ak l l.length) T){seen:List Nat}(h3:∀e,e<T.A.length->e∈seen):cellsS w h l m now T.A seen=mA w h l m now:=by
 unfold cellsS mA aQ
 refine List.map_congr_left fun p _ =>?_
 by_cases q:plQ w p∈seen.map (aa T.A)
 ·rw[if_pos q]
 ·rw[if_neg q]
  refine (re ?_).symm
  cases e:(atN l l.length (plQ w p)).length with
  |zero=>rfl
  |succ n =>
   have hh:cL (plQ w p) T.A=true:=by rw[I.has,jg,e];rfl
   obtain ⟨e,he,hq⟩:=nI hh
   exact absurd (List.mem_map.2 ⟨e,h3 e he,hq⟩) q
theorem hO{F:Nat}{l:List Report}{T:Mb (Int×Int)}(I:MbI F 1 bf (ak l l.length) T){e:Nat}(he:e<T.A.length):T.A[e]?=some (aa T.A e,cV (ak l l.length (aa T.A e)).length F (T.ks (aa T.A e)))/\0<(ak l l.length (aa T.A e)).length:=by
 obtain ⟨v,hv⟩:=nJ he
 obtain ⟨g1,g2⟩:=po (.chan none) I.nd hv
 rw[I.has]at g1
 have g1:=e7 g1
 rw[I.vl _ _ g1]at g2
 rw[<- g2]at hv
 exact ⟨hv,g1⟩
theorem MbI.wkM{F:Nat}{Y:Type}{enc:Y->List Value}{rows:Int×Int->List Y}{T:Mb (Int×Int)}(I:MbI F 1 enc rows T){U:Nat->Option Nat}{ms:List Value}(e:ms=T.ms):wkO (.fam 0 ms) (rno U 3 (.fam 0 T.ms)):=by
 refine gR ?_
 subst e
 show _=ae.fam 0 (T.ms.map (rn U 3))
 rw[List.map_congr_left fun v hv=>I.fx v hv U,List.map_id']
theorem wj{U:Nat->Option Nat}{ms ms':List Value}(h:∀v∈ms',ki v)(e:ms=ms'):wkO (.fam 0 ms) (rno U 3 (.fam 0 ms')):=by
 refine gR ?_
 subst e
 show _=ae.fam 0 (ms.map (rn U 3))
 rw[List.map_congr_left fun v hv=>h v hv U,List.map_id']
theorem MbI.wkA{F:Nat}{Y:Type}{enc:Y->List Value}{rows:Int×Int->List Y}{T:Mb (Int×Int)}(I:MbI F 1 enc rows T){U:Nat->Option Nat}(hF:U F=some F){es:List (Value×Value)}(e:es=bD kXY id T.A):wkO (.map es) (rno U 3 (.map (bD kXY id T.A))):=by
 refine gR ?_
 subst e
 show _=ae.map ((bD kXY id T.A).map fun e=>(rn U 3 e.1,rn U 3 e.2))
 congr 1
 unfold bD
 rw[List.map_map]
 refine List.map_congr_left fun p hp =>?_
 obtain ⟨i,hi,rfl⟩:=List.mem_iff_getElem.1 hp
 obtain ⟨g1,g2⟩:=po (k:=T.A[i].1) (v:=T.A[i].2) (.chan none) I.nd (List.getElem?_eq_getElem hi)
 rw[I.has]at g1
 rw[I.vl _ _ (e7 g1)]at g2
 show (kXY T.A[i].1,T.A[i].2)=(rn U 3 (kXY T.A[i].1),rn U 3 T.A[i].2)
 rw[<- g2,yk hF];rfl
def eB(a b c d:Int):Ice:=⟨a % 101,b % 401,c % 101,d % 4⟩
def arS(n low high most:Int):Span:=⟨max (n-low % 30) 0,min (n+high % 30) most⟩
def arC(x:Ice)(low high:Int):Cell:=⟨arS x.ag low high 100,arS x.ad low high 400,arS x.ac low high 100,arS x.ab low high 3⟩
def nmD(ns:List Int)(i:Nat):Int:=if 0<ns.length then IntKind.wrap .i64 (ns.getD (i % ns.length) 0+IntKind.wrap .i64 ((i:Int)*i)) else 0
def am(ns:List Int)(i:Nat):Ice:=eB (nmD ns i) ((nmD ns i).tdiv 3) ((nmD ns i).tdiv 5) ((nmD ns i).tdiv 7)
def pkD(rs:List Int)(j:Nat):Nat:=Int.toNat (rs.getD j 0 % 12)
def kJ(rs:List Int)(j a:Nat):Nat:=((List.range j).filter fun k=>decide (pkD rs k=a)).length
def inD(rs:List Int)(j:Nat):Bool:=decide (kJ rs j (pkD rs j)<6)
def bR(rs:List Int)(j:Nat):List Nat:=(List.range j).filter (inD rs)
def eg(ns rs:List Int)(lie:Nat->Bool)(j:Nat):Report :=
 ⟨j,1+(j:Int) % 3,(rs.getD j 0).tdiv 12 % 20,(pkD rs j:Int) % 4,(pkD rs j:Int) / 4,1+(rs.getD j 0).tdiv 3 % 15,
  if lie j=true then arC (eB (rs.getD j 0) ((rs.getD j 0).tdiv 7) ((rs.getD j 0).tdiv 9) ((rs.getD j 0).tdiv 4)) 3 5 else arC (am ns (pkD rs j)) ((rs.getD j 0).tdiv 5) ((rs.getD j 0).tdiv 13)⟩
def aC(ns rs:List Int)(lie:Nat->Bool)(j:Nat):List Report:=(bR rs j).map (eg ns rs lie)
def bI(rs:List Int)(j:Nat):List Int:=aQ (fun a=>((min (kJ rs j a) 6:Nat):Int)) 12
def cd(rs:List Int)(lie:Nat->Bool)(j:Nat):List Bool:=aQ (fun a=>(bR rs j).any fun k=>lie k&&decide (pkD rs k=a)) 12
def cr(rs:List Int)(lie:Nat->Bool)(j:Nat):Nat:=((bR rs j).filter lie).length
theorem eQ(rs:List Int)(j:Nat):bR rs (j+1)=if inD rs j=true then bR rs j ++ [j] else bR rs j:=by
 unfold bR
 rw[List.range_succ,List.filter_append]
 by_cases e:inD rs j=true
 ·rw[if_pos e,List.filter_cons_of_pos e];rfl
 ·rw[if_neg e,List.filter_cons_of_neg e];simp
theorem ux{rs:List Int}{j k:Nat}:k∈bR rs j ↔ k<j/\inD rs k=true:=by
 unfold bR;rw[List.mem_filter,List.mem_range]
theorem j7(rs:List Int)(j a:Nat):kJ rs (j+1) a=if pkD rs j=a then kJ rs j a+1 else kJ rs j a:=by
 unfold kJ
 rw[List.range_succ,List.filter_append,bi]
 by_cases e:pkD rs j=a
 ·rw[if_pos e,List.filter_cons_of_pos (by simpa using e)];rfl
 ·rw[if_neg e,List.filter_cons_of_neg (by simpa using e)];rfl
theorem rJ(ns rs:List Int)(lie:Nat->Bool)(j:Nat):aC ns rs lie (j+1)=if inD rs j=true then aC ns rs lie j ++ [eg ns rs lie j] else aC ns rs lie j:=by
 unfold aC
 rw[eQ]
 by_cases e:inD rs j=true
 ·rw[if_pos e,if_pos e,List.map_append];rfl
 ·rw[if_neg e,if_neg e]
theorem rR(rs:List Int)(lie:Nat->Bool)(j:Nat):cr rs lie (j+1)=if inD rs j=true/\lie j=true then cr rs lie j+1 else cr rs lie j:=by
 unfold cr
 rw[eQ]
 by_cases e:inD rs j=true
 ·rw[if_pos e,List.filter_append,bi]
  by_cases e2:lie j=true
  ·rw[if_pos ⟨e,e2⟩,List.filter_cons_of_pos e2];rfl
  ·rw[if_neg (fun h=>e2 h.2),List.filter_cons_of_neg e2];rfl
 ·rw[if_neg e,if_neg (fun h=>e h.1)]
theorem fP(rs:List Int)(j:Nat):pkD rs j<12:=by unfold pkD;omega
theorem rQ(rs:List Int)(j:Nat):bI rs (j+1)=if inD rs j=true then (bI rs j).set (pkD rs j) ((bI rs j).getD (pkD rs j) 0+1) else bI rs j:=by
 have hp:=fP rs j
 by_cases e:inD rs j=true
 ·have e1:kJ rs j (pkD rs j)<6:=e7 e
  rw[if_pos e]
  refine ft (d:=0) (by rw[List.length_set];exact bK _ _) fun a ha =>?_
  rw[mf (by show _<(aQ _ _).length;rw[bK];exact hp),j7]
  by_cases q:a=pkD rs j
  ·subst q
   rw[if_pos rfl,if_pos rfl,bI,ck hp];omega
  ·rw[if_neg q,if_neg (fun h=>q h.symm)]
   exact ck ha
 ·have e1:¬ kJ rs j (pkD rs j)<6:=fun h=>e (decide_eq_true h)
  rw[if_neg e]
  refine ft (d:=0) (bK _ _) fun a ha =>?_
  rw[bI,ck ha,j7]
  by_cases q:pkD rs j=a
  ·subst q;rw[if_pos rfl];omega
  ·rw[if_neg q]
theorem rS(rs:List Int)(lie:Nat->Bool)(j:Nat):cd rs lie (j+1)=if inD rs j=true/\lie j=true then (cd rs lie j).set (pkD rs j) true else cd rs lie j:=by
 have hp:=fP rs j
 by_cases e:inD rs j=true/\lie j=true
 ·rw[if_pos e]
  refine ft (d:=false) (by rw[List.length_set];exact bK _ _) fun a ha =>?_
  rw[mf (by show _<(aQ _ _).length;rw[bK];exact hp),eQ,if_pos e.1,List.any_append]
  by_cases q:a=pkD rs j
  ·subst q;simp[e.2]
  ·have q2:¬ pkD rs j=a:=fun h=>q h.symm
   rw[if_neg q,cd,ck ha];simp[q2]
 ·rw[if_neg e]
  refine ft (d:=false) (bK _ _) fun a ha =>?_
  rw[cd,ck ha,eQ]
  by_cases e1:inD rs j=true
  ·have e2:lie j=false:=by cases h:lie j with
    |false=>rfl
    |true=>exact absurd ⟨e1,h⟩ e
   rw[if_pos e1,List.any_append];simp[e2]
  ·rw[if_neg e1]
end
end Go.Proofs.YthcjliffpebjaaaGreat
