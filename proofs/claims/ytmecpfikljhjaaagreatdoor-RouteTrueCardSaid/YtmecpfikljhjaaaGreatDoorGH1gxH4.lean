/- What is to be shown of functions. Printed by a program. No condition. -/
import Derived.Test.YtmecpfikljhjaaaGreatDoorGK27xA0
open Go Go.K
set_option maxRecDepth 1000000
set_option maxHeartbeats 4000000
set_option linter.unusedVariables false
set_option linter.unusedSimpArgs false
namespace Go.Proofs.YtmecpfikljhjaaaGreatDoor
noncomputable section
attribute [local irreducible] vF
abbrev ja5:Value:=.bool false
abbrev ja3(a n b:Int)(sp:Value):=fk (decide ((a:Int)<=n)) ((.bool (decide ((n:Int)<=b)):Value)=sp) (ja5=sp)
def xN(sp:Value)(n a b:Int):Prop :=
 (ja3 a n b sp)
abbrev ja8:Hint:=.go 4 (.aM (.auto) (.auto))
theorem Eb(sp:Value)(n a b:Int):vF prog msk (dm 0) 100000 true 40 true 170 [nI n,nI a,nI b] ⟨1,.leaf⟩ (some [])
 ja8
 (fun v _ _=>v=sp)=xN sp n a b:=by kernel_rfl
def IQ(sp:Value)(n a b:Int):Prop :=
 (ja3 a n b sp)
theorem JZ(sp:Value)(n a b:Int):vF prog msk (dm 0) 100000 true 40 true 77 [nI n,nI a,nI b] ⟨1,.leaf⟩ (some [])
 ja8
 (fun v _ _=>v=sp)=IQ sp n a b:=by kernel_rfl
def IV(sp:Value)(n a b:Int):Prop :=
 (ja3 a n b sp)
theorem J4(sp:Value)(n a b:Int):vF prog msk (dm 0) 100000 true 40 true 152 [nI n,nI a,nI b] ⟨1,.leaf⟩ (some [])
 ja8
 (fun v _ _=>v=sp)=IV sp n a b:=by kernel_rfl
abbrev ja1(l:List Pt):Int:=(l.length:Nat)
abbrev jab(l:List Pt):=l.flatMap ptC
abbrev ja6(l:List Pt):=l.getD ((ja1 l)-1).toNat zP
def Fc(sp:Value)(l:List Pt):Prop :=
 (nw ((ja1 l)-1) ((ixq ((ja1 l)-1) l.length)/\(((jab l)[((0+Int.toNat ((ja1 l)-1)*2)+0)]?=some (nI (ja6 l).1))/\(nI (ja6 l).1:Value)=sp)))
theorem I6(sp:Value)(l:List Pt):vF prog msk (dm 0) 100000 true 40 true 175 [slQ 1 2 l.length] (cq 1 [l.flatMap ptC]) (some [])
 (.go 4 (.slot 6 (nI ((ja1 l)-1)) (.need (.go 0 (.val (nI (ja6 l).1) (.auto))))))
 (fun v _ _=>v=sp)=Fc sp l:=by kernel_rfl
abbrev ja7:Prop:=(True)/\(True)/\(True)
abbrev ja4(l:List Pt)(x1:Nat):=l.getD ((x1:Int)-1).toNat zP
abbrev ja2(x1:Nat)(l:List Pt):=nw ((x1:Int)+1) (∃x1':Nat,(x1'<=List.length l/\(List.range x1').all (gZ l)=true)/\(List.length l-x1')<(List.length l-x1)/\true=true/\((nI ((x1:Int)+1):Value)=nI (x1':Int)/\wR (slQ 1 2 l.length)/\wR (slQ 1 2 l.length)/\eR (nI (ja1 l))/\True)/\ja7)
def Ca(sp:Value)(l:List Pt):Prop :=
 (c0q 2 170 [nI (ja1 l),nI 2,nI 8] (.bool (inB (ja1 l) 2 8)) (fk (!(inB (ja1 l) 2 8)) (ja5=sp) ((ixq 0 l.length)/\(((jab l)[0]?=some (nI (l.getD 0 zP).1))/\(fk (((l.getD 0 zP).1:Int) != 0) (ja5=sp) (lq (0<=List.length l/\(List.range 0).all (gZ l)=true) (true=true/\((nI 0:Value)=nI ((0:Nat):Int)/\wR (slQ 1 2 l.length)/\wR (slQ 1 2 l.length)/\eR (nI (ja1 l))/\True)/\ja7) (∀x1:Nat,(x1<=List.length l/\(List.range x1).all (gZ l)=true)->(fk (decide (((x1:Int):Int)<(ja1 l))) ((ixq (x1:Int) l.length)/\((cN 2 (jab l) (0+Int.toNat (x1:Int)*2)=some (.agg #[nI (l.getD x1 zP).1,nI (l.getD x1 zP).2]))/\(c0q 3 170 [nI (l.getD x1 zP).1,nI 0,nI 400] (.bool (inB (l.getD x1 zP).1 0 400)) (fk (!(inB (l.getD x1 zP).1 0 400)) (ja5=sp) (c0q 3 170 [nI (l.getD x1 zP).2,nI 0,nI 20000] (.bool (inB (l.getD x1 zP).2 0 20000)) (fk (!(inB (l.getD x1 zP).2 0 20000)) (ja5=sp) (fk (decide ((0:Int)<(x1:Int))) (nw ((x1:Int)-1) ((ixq ((x1:Int)-1) l.length)/\(((jab l)[((0+Int.toNat ((x1:Int)-1)*2)+0)]?=some (nI (ja4 l x1).1))/\(fk (decide (((l.getD x1 zP).1:Int)<=(ja4 l x1).1)) (ja5=sp) (ja2 x1 l))))) (ja2 x1 l)))))))) ((.bool true:Value)=sp)))))))))
theorem Ha(sp:Value)(l:List Pt):vF prog msk (dm 0) 100000 true 40 true 202 [slQ 1 2 l.length] (cq 1 [l.flatMap ptC]) (some [])
 (.go 2 (.ans [] (.bool (inB (ja1 l) 2 8)) [] (.go 1 (.aM (.auto) (.go 0 (.need (.go 0 (.val (nI (l.getD 0 zP).1) (.go 1 (.fork (.auto) (.go 2 (.inv 3 (Nat) (0) [] [] (fun x1=>[(18,nI (x1:Int)),(0,slQ 1 2 l.length),(16,slQ 1 2 l.length),(17,nI (ja1 l))]) (fun x1=>[]) (fun x1=>[]) (fun x1=>[]) (fun x1=>(x1<=List.length l/\(List.range x1).all (gZ l)=true)) (fun x1=>(List.length l-x1)) (fun x1 => .go 0 (.fork (.go 0 (.need (.val (.agg #[nI (l.getD x1 zP).1,nI (l.getD x1 zP).2]) (.go 4 (.ans [] (.bool (inB (l.getD x1 zP).1 0 400)) [] (.go 1 (.aM (.auto) (.go 1 (.ans [] (.bool (inB (l.getD x1 zP).2 0 20000)) [] (.go 2 (.aM (.auto) (.go 2 (.aM (.go 4 (.slot 41 (nI ((x1:Int)-1)) (.need (.go 0 (.val (nI (ja4 l x1).1) (.go 2 (.fork (.auto) (.go 0 (.slot 48 (nI ((x1:Int)+1)) (.go 0 (.again []))))))))))) (.go 3 (.slot 48 (nI ((x1:Int)+1)) (.go 0 (.again []))))))))))))))))) (.auto)))))))))))))))
 (fun v _ _=>v=sp)=Ca sp l:=by kernel_rfl
abbrev ja9(l:List Pt):Prop:=wR (slQ 1 2 l.length)/\True
def xR(sp:Value)(l:List Pt)(w:Int):Prop :=
 (c1q 2 1 (.cells false 0 (jab l)) 202 [slQ 1 2 l.length] (.bool (lA l)) (fk (!(lA l)) (ja5=sp) (lq ((1<=1/\1<=List.length l)/\(List.range 1).all (kf l w)=true) (true=true/\((nI 1:Value)=nI ((1:Nat):Int)/\eR (nI w)/\ja9 l)/\ja7) (∀x1:Nat,((1<=x1/\x1<=List.length l)/\(List.range x1).all (kf l w)=true)->(fk (decide (((x1:Int):Int)<(ja1 l))) ((ixq (x1:Int) l.length)/\(((jab l)[((0+Int.toNat (x1:Int)*2)+1)]?=some (nI (l.getD x1 zP).2))/\(nw ((x1:Int)-1) ((ixq ((x1:Int)-1) l.length)/\(((jab l)[((0+Int.toNat ((x1:Int)-1)*2)+1)]?=some (nI (ja4 l x1).2))/\(nw ((l.getD x1 zP).2-(ja4 l x1).2) (nw (((l.getD x1 zP).2-(ja4 l x1).2)*w) (fk (decide (((((l.getD x1 zP).2-(ja4 l x1).2)*w):Int)<0)) (ja5=sp) (nw ((x1:Int)+1) (∃x1':Nat,((1<=x1'/\x1'<=List.length l)/\(List.range x1').all (kf l w)=true)/\(List.length l-x1')<(List.length l-x1)/\true=true/\((nI ((x1:Int)+1):Value)=nI (x1':Int)/\eR (nI w)/\ja9 l)/\ja7)))))))))) ((.bool true:Value)=sp))))))
theorem Ee(sp:Value)(l:List Pt)(w:Int):vF prog msk (dm 0) 100000 true 40 true 174 [slQ 1 2 l.length,nI w] (cq 1 [l.flatMap ptC]) (some [])
 (.go 1 (.ans [(1,.cells false 0 (jab l))] (.bool (lA l)) [] (.go 0 (.fork (.auto) (.go 0 (.inv 3 (Nat) (1) [] [] (fun x1=>[(5,nI (x1:Int)),(1,nI w),(0,slQ 1 2 l.length)]) (fun x1=>[]) (fun x1=>[]) (fun x1=>[]) (fun x1=>((1<=x1/\x1<=List.length l)/\(List.range x1).all (kf l w)=true)) (fun x1=>(List.length l-x1)) (fun x1 => .go 3 (.fork (.go 1 (.need (.go 0 (.val (nI (l.getD x1 zP).2) (.go 2 (.slot 22 (nI ((x1:Int)-1)) (.need (.go 0 (.val (nI (ja4 l x1).2) (.go 0 (.slot 26 (nI ((l.getD x1 zP).2-(ja4 l x1).2)) (.go 1 (.slot 28 (nI (((l.getD x1 zP).2-(ja4 l x1).2)*w)) (.go 0 (.fork (.auto) (.go 1 (.slot 14 (nI ((x1:Int)+1)) (.go 0 (.again []))))))))))))))))))) (.auto)))))))))
 (fun v _ _=>v=sp)=xR sp l w:=by kernel_rfl
abbrev jaa(x0:Nat)(l:List Pt)(x:Int):Prop:=((1<=x0/\x0<=List.length l)/\(l.getD (x0-1) zP).1<=x)/\ar l x=ar (l.drop (x0-1)) x
abbrev ja0(l:List Pt)(x0:Nat):=l.getD ((x0:Int)-1).toNat zP
def Rvalue(sp:Value)(l:List Pt)(x:Int):Prop :=
 (lq (((1<=1/\1<=List.length l)/\(l.getD (1-1) zP).1<=x)/\ar l x=ar (l.drop (1-1)) x) (true=true/\((nI 1:Value)=nI ((1:Nat):Int)/\eR (nI x)/\ja9 l)/\ja7) (∀x0:Nat,(jaa x0 l x)->(fk (decide (((x0:Int):Int)<(ja1 l))) (nw ((x0:Int)-1) ((ixq ((x0:Int)-1) l.length)/\((cN 2 (jab l) (0+Int.toNat ((x0:Int)-1)*2)=some (.agg #[nI (ja0 l x0).1,nI (ja0 l x0).2]))/\((ixq (x0:Int) l.length)/\((cN 2 (jab l) (0+Int.toNat (x0:Int)*2)=some (.agg #[nI (l.getD x0 zP).1,nI (l.getD x0 zP).2]))/\(fk (decide ((x:Int)<=(l.getD x0 zP).1)) (nw ((l.getD x0 zP).1-(ja0 l x0).1) (nw ((ja0 l x0).2*((l.getD x0 zP).1-(ja0 l x0).1)) (nw ((l.getD x0 zP).2-(ja0 l x0).2) (nw (x-(ja0 l x0).1) (nw (((l.getD x0 zP).2-(ja0 l x0).2)*(x-(ja0 l x0).1)) (nw (((ja0 l x0).2*((l.getD x0 zP).1-(ja0 l x0).1))+(((l.getD x0 zP).2-(ja0 l x0).2)*(x-(ja0 l x0).1))) (nw ((l.getD x0 zP).1-(ja0 l x0).1) ((.tuple #[nI (((ja0 l x0).2*((l.getD x0 zP).1-(ja0 l x0).1))+(((l.getD x0 zP).2-(ja0 l x0).2)*(x-(ja0 l x0).1))),nI ((l.getD x0 zP).1-(ja0 l x0).1)]:Value)=sp)))))))) (nw ((x0:Int)+1) (∃x0':Nat,(((1<=x0'/\x0'<=List.length l)/\(l.getD (x0'-1) zP).1<=x)/\ar l x=ar (l.drop (x0'-1)) x)/\(List.length l-x0')<(List.length l-x0)/\true=true/\((nI ((x0:Int)+1):Value)=nI (x0':Int)/\eR (nI x)/\ja9 l)/\ja7)))))))) (nw ((ja1 l)-1) ((ixq ((ja1 l)-1) l.length)/\(((jab l)[((0+Int.toNat ((ja1 l)-1)*2)+1)]?=some (nI (ja6 l).2))/\(.tuple #[nI (ja6 l).2,nI 1]:Value)=sp))))))
theorem GW(sp:Value)(l:List Pt)(x:Int):vF prog msk (dm 0) 100000 true 40 true 219 [slQ 1 2 l.length,nI x] (cq 1 [l.flatMap ptC]) (some [])
 (.go 2 (.inv 3 (Nat) (1) [] [] (fun x0=>[(6,nI (x0:Int)),(1,nI x),(0,slQ 1 2 l.length)]) (fun x0=>[]) (fun x0=>[]) (fun x0=>[]) (fun x0=>(jaa x0 l x)) (fun x0=>(List.length l-x0)) (fun x0 => .go 3 (.fork (.go 2 (.slot 17 (nI ((x0:Int)-1)) (.need (.val (.agg #[nI (ja0 l x0).1,nI (ja0 l x0).2]) (.go 1 (.need (.val (.agg #[nI (l.getD x0 zP).1,nI (l.getD x0 zP).2]) (.go 7 (.fork (.go 6 (.slot 34 (nI ((l.getD x0 zP).1-(ja0 l x0).1)) (.go 0 (.slot 35 (nI ((ja0 l x0).2*((l.getD x0 zP).1-(ja0 l x0).1))) (.go 4 (.slot 40 (nI ((l.getD x0 zP).2-(ja0 l x0).2)) (.go 3 (.slot 44 (nI (x-(ja0 l x0).1)) (.go 0 (.slot 45 (nI (((l.getD x0 zP).2-(ja0 l x0).2)*(x-(ja0 l x0).1))) (.go 0 (.slot 46 (nI (((ja0 l x0).2*((l.getD x0 zP).1-(ja0 l x0).1))+(((l.getD x0 zP).2-(ja0 l x0).2)*(x-(ja0 l x0).1)))) (.go 4 (.slot 51 (nI ((l.getD x0 zP).1-(ja0 l x0).1)) (.auto))))))))))))))) (.go 1 (.slot 14 (nI ((x0:Int)+1)) (.go 0 (.again []))))))))))))) (.go 3 (.slot 55 (nI ((ja1 l)-1)) (.need (.go 0 (.val (nI (ja6 l).2) (.auto))))))))))
 (fun v _ _=>v=sp)=Rvalue sp l x:=by kernel_rfl
theorem neB{x:Int}(h:(x != 0)=true):¬ x=0:=by simpa using h
theorem rk{x:Int}(h:(x != 0)=false):x=0:=by simpa using h
theorem u4{x y:Int}(h:(x != y)=true):x≠y:=by simpa using h
theorem zg{x y:Int}(h:(x != y)=false):x=y:=by simpa using h
theorem eh(p:Pt):(ptC p).length=2:=rfl
theorem dR(n:Nat)(l:List Pt):(l.flatMap ptC).all (ao n)=true:=cQ (fun _=>rfl) l
theorem Ad{l:List Pt}{k off:Nat}(h:k<l.length)(ho:off=k*2):(l.flatMap ptC)[off]?=some (nI (l.getD k zP).1):=eZ (c:=0) (d:=zP) eh h (by omega) rfl
theorem wT{l:List Pt}{k off:Nat}(h:k<l.length)(ho:off=k*2+1):(l.flatMap ptC)[off]?=some (nI (l.getD k zP).2):=eZ (c:=1) (d:=zP) eh h (by omega) rfl
theorem uW{l:List Pt}{k off:Nat}(h:k<l.length)(ho:off=k*2):cN 2 (l.flatMap ptC) off=some (.agg ⟨ptC (l.getD k zP)⟩):=jc (n:=2) (d:=zP) (c:=0) (m:=2) eh h (by omega) (by omega)
theorem jj(n a b:Int){H:Heap}(hH:1<=H.length):ad prog 170 [nI n,nI a,nI b] H [] (Is (.bool (inB n a b)) H):=by
 refine l9 40 (fun _=>rfl) rfl (Eq.mpr (Eb _ n a b) ?_) hH
 delta xN ja3 ja5 fk;unfold inB
 refine ⟨fun h =>?_,fun h =>?_⟩ <;> rw[h] <;> simp
theorem yQ(n a b:Int){H:Heap}(hH:1<=H.length):ad prog 77 [nI n,nI a,nI b] H [] (Is (.bool (inB n a b)) H):=by
 refine l9 40 (fun _=>rfl) rfl (Eq.mpr (JZ _ n a b) ?_) hH
 delta IQ ja3 ja5 fk;unfold inB
 refine ⟨fun h =>?_,fun h =>?_⟩ <;> rw[h] <;> simp
theorem CW(n a b:Int){H:Heap}(hH:1<=H.length):ad prog 152 [nI n,nI a,nI b] H [] (Is (.bool (inB n a b)) H):=by
 refine l9 40 (fun _=>rfl) rfl (Eq.mpr (J4 _ n a b) ?_) hH
 delta IV ja3 ja5 fk;unfold inB
 refine ⟨fun h =>?_,fun h =>?_⟩ <;> rw[h] <;> simp
theorem CZ(l:List Pt)(h1:1<=l.length)(h2:l.length<=1000000){H:Heap}{id:Nat}{own:Bool}{z:Nat}(hid:H[id]?=some (.cells own z (l.flatMap ptC))):ad prog 175 [slR id l.length] H [] (Is (nI (c8 l)) H):=by
 refine iy (css:=[l.flatMap ptC]) (v:=nI (c8 l)) (ids:=[id]) (Eq.mpr (I6 _ l) ?_) ⟨dR _ _,trivial⟩ rfl ⟨⟨_,_,hid⟩,trivial⟩ rfl
 delta Fc ja1 jab ja6 nI nw ixq;unfold c8
 have e:Int.toNat ((l.length:Int)-1)=l.length-1:=by omega
 rw[e]
 exact ⟨ak (by omega),⟨by omega,by omega⟩,Ad (by omega) (by omega),rfl⟩
structure uJ(l:List Pt):Prop where
 len:2<=l.length/\l.length<=8
 x0:(l.getD 0 zP).1=0
 pt:∀i,i<l.length->(0<=(l.getD i zP).1/\(l.getD i zP).1<=400)/\0<=(l.getD i zP).2/\(l.getD i zP).2<=20000
 up:∀i,0<i->i<l.length->(l.getD (i-1) zP).1<(l.getD i zP).1
theorem mO{l:List Pt}{i:Nat}:gZ l i=true ↔ ((0<=(l.getD i zP).1/\(l.getD i zP).1<=400)/\0<=(l.getD i zP).2/\(l.getD i zP).2<=20000)/\(0<i->(l.getD (i-1) zP).1<(l.getD i zP).1):=by
 unfold gZ
 rw[Bool.and_eq_true,Bool.and_eq_true,aR,aR,Bool.not_eq_true',Bool.and_eq_false_iff,decide_eq_false_iff_not,decide_eq_false_iff_not]
 refine ⟨fun h=>⟨h.1,fun q=>by rcases h.2 with h|h <;> omega⟩,fun h=>⟨h.1,?_⟩⟩
 by_cases q:0<i
 ·exact .inr (by have:=h.2 q;omega)
 ·exact .inl q
theorem uk{l:List Pt}:lA l=true ↔ uJ l:=by
 unfold lA
 rw[Bool.and_eq_true,Bool.and_eq_true,aR,beq_iff_eq,List.all_eq_true]
 refine ⟨fun h=>⟨by omega,h.1.2,fun i hi=>(mO.1 (h.2 i (List.mem_range.2 hi))).1,fun i h0 hi=>(mO.1 (h.2 i (List.mem_range.2 hi))).2 h0⟩,fun h=>⟨⟨by have:=h.len;omega,h.x0⟩,fun i hi=>mO.2 ⟨h.pt i (List.mem_range.1 hi),fun h0=>h.up i h0 (List.mem_range.1 hi)⟩⟩⟩
theorem iG{p:Nat->Bool}{n i:Nat}(h:i<n)(hp:p i=false):(List.range n).all p=false:=by
 rw[Bool.eq_false_iff]
 intro q
 rw[List.all_eq_true]at q
 rw[q i (List.mem_range.2 h)]at hp;cases hp
theorem range_succ{p:Nat->Bool}{n:Nat}(h:(List.range n).all p=true)(hp:p n=true):(List.range (n+1)).all p=true:=by
 rw[List.range_succ,List.all_append,h,List.all_cons,hp];rfl
theorem F8(l:List Pt)(hl:l.length<=1000000){H:Heap}{id:Nat}{own:Bool}{z:Nat}(hid:H[id]?=some (.cells own z (l.flatMap ptC))):ad prog 202 [slR id l.length] H [] (Is (.bool (lA l)) H):=by
 refine iy (css:=[l.flatMap ptC]) (v:=.bool (lA l)) (ids:=[id]) (Eq.mpr (Ha _ l) ?_) ⟨dR _ _,trivial⟩ rfl ⟨⟨_,_,hid⟩,trivial⟩ rfl
 delta Ca ja1 ja5 jab ja7 ja4 ja2 nI slQ fk nw eR wR ixq lq c0q
 refine ⟨trivial,fun H' hl _=>jj _ _ _ (by omega),fun h =>?_,fun h =>?_⟩
 ·unfold lA;rw[kl h];rfl
 have hb:=aR.1 (dL h)
 have e0:lA l=(((l.getD 0 zP).1 == 0)&&(List.range l.length).all (gZ l)):=by unfold lA;rw[dL h,Bool.true_and]
 refine ⟨⟨by omega,by omega⟩,Ad (by omega) (by omega),fun h1 =>?_,fun h1 =>?_⟩
 ·rw[e0,show ((l.getD 0 zP).1 == 0)=false by rw[beq_eq_false_iff_ne];exact neB h1];rfl
 have e1:lA l=(List.range l.length).all (gZ l):=by rw[e0,rk h1];rfl
 rw[e1]
 refine ⟨rfl,⟨Nat.zero_le _,rfl⟩,?_,fun _=>rfl,fun x hx=>⟨fun k =>?_,fun k =>?_⟩⟩
 ·repeat' first|exact trivial|exact ae _|refine ⟨rfl,?_⟩|refine ⟨trivial,?_⟩|apply And.intro
 ·have hx1:x<l.length:=by have:=of_decide_eq_true k;omega
  have bad:gZ l x=false->(Value.bool false) = .bool ((List.range l.length).all (gZ l)):=fun q=>by rw[iG hx1 q]
  refine ⟨⟨by omega,by omega⟩,uW hx1 (by omega),trivial,fun H' hl _=>jj _ _ _ (by omega),fun a=>bad ?_,fun a=>⟨trivial,fun H' hl _=>jj _ _ _ (by omega),fun b=>bad ?_,fun b =>?_⟩⟩
  ·unfold gZ;rw[kl a];rfl
  ·unfold gZ;rw[kl b,dL a];rfl
  ·have e2:gZ l x = !(decide (0<x)&&decide ((l.getD x zP).1<=(l.getD (x-1) zP).1)):=by unfold gZ;rw[dL a,dL b];rfl
   refine ⟨fun c =>?_,fun c =>?_⟩
   ·have hc:0<x:=by have:=of_decide_eq_true c;omega
    have e3:Int.toNat ((x:Int)-1)=x-1:=by omega
    rw[e3]
    refine ⟨ak (by omega),⟨by omega,by omega⟩,Ad (by omega) (by omega),fun d=>bad ?_,fun d =>?_⟩
    ·rw[e2,d,decide_eq_true hc];rfl
    ·refine ⟨ak (by omega),x+1,⟨by omega,range_succ hx.2 (by rw[e2,d,Bool.and_false];rfl)⟩,by omega,rfl,?_⟩
     repeat' first|exact trivial|exact ae _|refine ⟨rfl,?_⟩|refine ⟨trivial,?_⟩|apply And.intro
   ·have hc:¬ 0<x:=by have:=of_decide_eq_false c;omega
    refine ⟨ak (by omega),x+1,⟨by omega,range_succ hx.2 (by rw[e2,decide_eq_false hc];rfl)⟩,by omega,rfl,?_⟩
    repeat' first|exact trivial|exact ae _|refine ⟨rfl,?_⟩|refine ⟨trivial,?_⟩|apply And.intro
 ·have h1:x=l.length:=by have:=of_decide_eq_false k;omega
  rw[<- h1,hx.2]
theorem qW(l:List Pt)(w:Int)(hw:w=1∨w = -1)(hl:l.length<=1000000){H:Heap}{id:Nat}{own:Bool}{z:Nat}(hid:H[id]?=some (.cells own z (l.flatMap ptC))):ad prog 174 [slR id l.length,nI w] H [] (Is (.bool (cF l w)) H):=by
 refine iy (css:=[l.flatMap ptC]) (v:=.bool (cF l w)) (ids:=[id]) (Eq.mpr (Ee _ l w) ?_) ⟨dR _ _,trivial⟩ rfl ⟨⟨_,_,hid⟩,trivial⟩ rfl
 delta xR jab ja5 ja9 ja7 ja1 ja4 nI slQ fk nw eR wR ixq lq c1q
 refine ⟨⟨rfl,trivial⟩,fun H' _ h=>F8 _ hl h.1,fun h =>?_,fun h =>?_⟩
 ·unfold cF;rw[kl h];rfl
 have c:=uk.1 (dL h)
 have hn:=c.len
 have e0:cF l w=(List.range l.length).all (kf l w):=by unfold cF;rw[dL h,Bool.true_and]
 rw[e0]
 refine ⟨rfl,⟨⟨by omega,by omega⟩,by rfl⟩,?_,fun _=>rfl,fun x hx=>⟨fun k =>?_,fun k =>?_⟩⟩
 ·repeat' first|exact trivial|exact ae _|refine ⟨rfl,?_⟩|refine ⟨trivial,?_⟩|apply And.intro
 ·have hx1:x<l.length:=by have:=of_decide_eq_true k;omega
  have p1:=(c.pt x hx1).2
  have p2:=(c.pt (x-1) (by omega)).2
  have e3:Int.toNat ((x:Int)-1)=x-1:=by omega
  rw[e3]
  obtain ⟨q,hq⟩:∃q,(l.getD x zP).2-(l.getD (x-1) zP).2=q:=⟨_,rfl⟩
  rw[hq]
  have hqw:(q*w=q∨q*w = -q):=by rcases hw with rfl|rfl <;> omega
  have e2:kf l w x = !decide (q*w<0):=by unfold kf;rw[decide_eq_false (by omega),Bool.false_or,hq]
  refine ⟨⟨by omega,by omega⟩,wT hx1 (by omega),ak (by omega),⟨by omega,by omega⟩,wT (by omega) (by omega),ak (by omega),ak (by omega),fun b =>?_,fun b =>?_⟩
  ·rw[iG hx1 (by rw[e2,b];rfl)]
  ·refine ⟨ak (by omega),x+1,⟨by omega,range_succ hx.2 (by rw[e2,b];rfl)⟩,by omega,rfl,?_⟩
   repeat' first|exact trivial|exact ae _|refine ⟨rfl,?_⟩|refine ⟨trivial,?_⟩|apply And.intro
 ·have h1:x=l.length:=by have:=of_decide_eq_false k;omega
  rw[<- h1,hx.2]
theorem pf{l:List Pt}{i:Nat}(h0:0<i)(hi:i<l.length)(x:Int):ar (l.drop (i-1)) x=if x<=(l.getD i zP).1 then ((l.getD (i-1) zP).2*((l.getD i zP).1-(l.getD (i-1) zP).1)+((l.getD i zP).2-(l.getD (i-1) zP).2)*(x-(l.getD (i-1) zP).1),(l.getD i zP).1-(l.getD (i-1) zP).1) else ar (l.drop i) x:=by
 have e1:l.drop (i-1)=l.getD (i-1) zP :: l.getD i zP :: l.drop (i+1):=by
  rw[List.drop_eq_getElem_cons (by omega:i-1<l.length),show i-1+1=i by omega,List.drop_eq_getElem_cons hi]
  simp[List.getD_eq_getElem?_getD,hi,(by omega:i-1<l.length)]
 have e2:l.drop i=l.getD i zP :: l.drop (i+1):=by
  rw[List.drop_eq_getElem_cons hi]
  simp[List.getD_eq_getElem?_getD,hi]
 rw[e1,e2];rfl
theorem rZ{l:List Pt}(h:0<l.length)(x:Int):ar (l.drop (l.length-1)) x=((l.getD (l.length-1) zP).2,1):=by
 rw[List.drop_eq_getElem_cons (by omega:l.length-1<l.length),show l.length-1+1=l.length by omega,List.drop_length]
 show (_,_)=_
 simp[List.getD_eq_getElem?_getD,(by omega:l.length-1<l.length)]
theorem zQ{a b x c d:Int}(hx:a<=x/\x<=b)(hc:0<=c/\c<=20000)(hd:0<=d/\d<=20000)(hab:a<b)(h4:b-a<=400):(0<=c*(b-a)/\c*(b-a)<=8000000)/\(-8000000<=(d-c)*(x-a)/\(d-c)*(x-a)<=8000000)/\0<=c*(b-a)+(d-c)*(x-a)/\c*(b-a)+(d-c)*(x-a)<=20000*(b-a):=by
 have e:c*(b-a)+(d-c)*(x-a)=c*(b-x)+d*(x-a):=by
  rw[Int.sub_mul,show c*(b-a)=c*(b-x)+c*(x-a) by rw[<- Int.mul_add];congr 1;omega];omega
 have m1:0<=c*(b-a):=Int.mul_nonneg hc.1 (by omega)
 have m2:c*(b-a)<=20000*400:=Int.mul_le_mul hc.2 h4 (by omega) (by omega)
 have m3:0<=c*(b-x):=Int.mul_nonneg hc.1 (by omega)
 have m4:0<=d*(x-a):=Int.mul_nonneg hd.1 (by omega)
 have m5:c*(b-x)<=20000*(b-x):=Int.mul_le_mul_of_nonneg_right hc.2 (by omega)
 have m6:d*(x-a)<=20000*(x-a):=Int.mul_le_mul_of_nonneg_right hd.2 (by omega)
 have m7:20000*(b-x)+20000*(x-a)=20000*(b-a):=by omega
 have m8:20000*(b-a)<=8000000:=by omega
 rw[e]
 have e2:(d-c)*(x-a)=d*(x-a)-c*(x-a):=Int.sub_mul ..
 have m9:0<=c*(x-a):=Int.mul_nonneg hc.1 (by omega)
 have m10:c*(x-a)<=20000*(x-a):=Int.mul_le_mul_of_nonneg_right hc.2 (by omega)
 refine ⟨⟨m1,by omega⟩,⟨by omega,by omega⟩,by omega,by omega⟩
theorem cP{l:List Pt}(c:uJ l){x:Int}(hx:0<=x):(1<=(ar l x).2/\(ar l x).2<=400)/\0<=(ar l x).1/\(ar l x).1<=20000*(ar l x).2:=by
 have key:∀n i,i+n=l.length->0<i->(l.getD (i-1) zP).1<=x->(1<=(ar (l.drop (i-1)) x).2/\(ar (l.drop (i-1)) x).2<=400)/\0<=(ar (l.drop (i-1)) x).1/\(ar (l.drop (i-1)) x).1<=20000*(ar (l.drop (i-1)) x).2:=by
  intro n
  induction n with
  |zero =>
   intro i e h0 _
   obtain rfl:i=l.length:=by omega
   rw[rZ h0]
   have:=(c.pt (l.length-1) (by omega)).2
   dsimp only;omega
  |succ n ih =>
   intro i e h0 hlo
   have hi:i<l.length:=by omega
   rw[pf h0 hi]
   have p1:=c.pt i hi
   have p2:=c.pt (i-1) (by omega)
   have p3:=c.up i h0 hi
   split
   ·rename_i h
    have:=zQ (a:=(l.getD (i-1) zP).1) (b:=(l.getD i zP).1) (x:=x) ⟨hlo,h⟩ p2.2 p1.2 p3 (by omega)
    dsimp only;omega
   ·rename_i h
    exact ih (i+1) (by omega) (by omega) (by show (l.getD i zP).1<=x;omega)
 have:=key (l.length-1) 1 (by have:=c.len;omega) (by omega) (by rw[show 1-1=0 from rfl,c.x0];exact hx)
 rwa [show l.drop (1-1)=l from rfl]at this
theorem vt{l:List Pt}(c:uJ l){x:Int}(hx:0<=x/\x<=1000000){H:Heap}{id:Nat}{own:Bool}{z:Nat}(hid:H[id]?=some (.cells own z (l.flatMap ptC))):ad prog 219 [slR id l.length,nI x] H [] (Is (.tuple #[nI (ar l x).1,nI (ar l x).2]) H):=by
 refine iy (css:=[l.flatMap ptC]) (v:=.tuple #[nI (ar l x).1,nI (ar l x).2]) (ids:=[id]) (Eq.mpr (GW _ l x) ?_) ⟨dR _ _,trivial⟩ rfl ⟨⟨_,_,hid⟩,trivial⟩ rfl
 have hn:=c.len
 delta Rvalue ja9 ja7 jaa ja1 jab ja0 ja6 nI slQ fk nw eR wR ixq lq
 refine ⟨rfl,⟨⟨⟨by omega,by omega⟩,by rw[show 1-1=0 from rfl,c.x0];exact hx.1⟩,rfl⟩,?_,fun _=>rfl,fun i hi=>⟨fun k =>?_,fun k =>?_⟩⟩
 ·repeat' first|exact trivial|exact ae _|refine ⟨rfl,?_⟩|refine ⟨trivial,?_⟩|apply And.intro
 ·have hx1:i<l.length:=by have:=of_decide_eq_true k;omega
  have p1:=c.pt i hx1
  have p2:=c.pt (i-1) (by omega)
  have p3:=c.up i (by omega) hx1
  have e3:Int.toNat ((i:Int)-1)=i-1:=by omega
  rw[e3]
  have hv:=hi.2
  rw[pf (by omega) hx1]at hv
  refine ⟨ak (by omega),⟨by omega,by omega⟩,uW (by omega) (by omega),⟨by omega,by omega⟩,uW hx1 (by omega),fun b =>?_,fun b =>?_⟩
  ·have hb:=of_decide_eq_true b
   rw[if_pos hb]at hv
   have hlo:(l.getD (i-1) zP).1<=x:=hi.1.2
   have sg:=zQ (a:=(l.getD (i-1) zP).1) (b:=(l.getD i zP).1) (x:=x) ⟨hlo,hb⟩ p2.2 p1.2 p3 (by omega)
   exact ⟨ak (by omega),ak (by omega),ak (by omega),ak (by omega),ak (by omega),ak (by omega),ak (by omega),by rw[hv]⟩
  ·have hb:=of_decide_eq_false b
   rw[if_neg hb]at hv
   refine ⟨ak (by omega),i+1,⟨⟨⟨by omega,by omega⟩,by show (l.getD i zP).1<=x;omega⟩,hv⟩,by omega,rfl,?_⟩
   repeat' first|exact trivial|exact ae _|refine ⟨rfl,?_⟩|refine ⟨trivial,?_⟩|apply And.intro
 ·have h1:i=l.length:=by have:=of_decide_eq_false k;omega
  have e3:Int.toNat ((l.length:Int)-1)=l.length-1:=by omega
  rw[e3]
  have hv:=hi.2
  rw[h1,rZ (by omega)]at hv
  exact ⟨ak (by omega),⟨by omega,by omega⟩,wT (by omega) (by omega),by rw[hv]⟩
abbrev jb0(sp:Value):Prop:=(nI 40:Value)=sp
def xX(sp:Value)(s:Shp):Prop :=
 (c0q 8 170 [nI s.cls,nI 1,nI 6] (.bool (inB s.cls 1 6)) (fk (!(inB s.cls 1 6)) ((nI 41:Value)=sp) (c0q 9 170 [nI s.pow,nI 100,nI 100000] (.bool (inB s.pow 100 100000)) (fk (inB s.pow 100 100000) (c0q 9 170 [nI s.dra,nI 10,nI 2000] (.bool (inB s.dra 10 2000)) (fk (inB s.dra 10 2000) (c0q 9 170 [nI s.ton,nI 10,nI 500000] (.bool (inB s.ton 10 500000)) (fk (!(inB s.ton 10 500000)) (jb0 sp) (c0q 10 170 [nI s.slow,nI 0,nI 20] (.bool (inB s.slow 0 20)) (fk (inB s.slow 0 20) (c0q 10 170 [nI s.aw,nI 0,nI 100] (.bool (inB s.aw 0 100)) (fk (inB s.aw 0 100) (c0q 10 170 [nI s.rdg,nI 0,nI 500] (.bool (inB s.rdg 0 500)) (fk (inB s.rdg 0 500) (c0q 10 170 [nI s.prs,nI 0,nI 5000] (.bool (inB s.prs 0 5000)) (fk (!(inB s.prs 0 5000)) (jb0 sp) (c1q 11 1 (.cells false 0 (s.th.flatMap ptC)) 174 [slQ 1 2 s.th.length,nI (-1)] (.bool (cF s.th (-1))) (fk (cF s.th (-1)) (c1q 11 1 (.cells false 0 (s.th.flatMap ptC)) 175 [slQ 1 2 s.th.length] (nI (c8 s.th)) (c0q 11 170 [nI (c8 s.th),nI 10,nI 250] (.bool (inB (c8 s.th) 10 250)) (fk (!(inB (c8 s.th) 10 250)) (jb0 sp) (c1q 12 2 (.cells false 0 (s.wa.flatMap ptC)) 174 [slQ 2 2 s.wa.length,nI 1] (.bool (cF s.wa 1)) (fk (cF s.wa 1) (c1q 12 2 (.cells false 0 (s.wa.flatMap ptC)) 175 [slQ 2 2 s.wa.length] (nI (c8 s.wa)) (fk (!(decide (((c8 s.wa):Int)<=250))) (jb0 sp) (c1q 13 3 (.cells false 0 (s.ic.flatMap ptC)) 174 [slQ 3 2 s.ic.length,nI 1] (.bool (cF s.ic 1)) (fk (cF s.ic 1) ((ixq 0 s.ic.length)/\(((s.ic.flatMap ptC)[1]?=some (nI (s.ic.getD 0 zP).2))/\(fk (((s.ic.getD 0 zP).2:Int) == 0) (c1q 13 3 (.cells false 0 (s.ic.flatMap ptC)) 175 [slQ 3 2 s.ic.length] (nI (c8 s.ic)) (fk (!(((c8 s.ic):Int) == 400)) (jb0 sp) ((nI 0:Value)=sp))) (jb0 sp)))) (jb0 sp))))) (jb0 sp)))))) (jb0 sp))))) (jb0 sp))) (jb0 sp))) (jb0 sp))))) (jb0 sp))) (jb0 sp)))))
theorem Em(sp:Value)(s:Shp):vF prog msk (dm 0) 100000 true 40 true 79 [.agg #[nI s.cls,nI s.pow,nI s.dra,nI s.ton,slQ 1 2 s.th.length,slQ 2 2 s.wa.length,slQ 3 2 s.ic.length,nI s.slow,nI s.aw,nI s.rdg,nI s.prs]] (cq 1 [s.th.flatMap ptC,s.wa.flatMap ptC,s.ic.flatMap ptC]) (some [])
 (.go 27 (.ans [] (.bool (inB s.cls 1 6)) [] (.go 1 (.fork (.auto) (.go 15 (.ans [] (.bool (inB s.pow 100 100000)) [] (.go 0 (.aM (.go 1 (.ans [] (.bool (inB s.dra 10 2000)) [] (.go 1 (.aM (.go 1 (.ans [] (.bool (inB s.ton 10 500000)) [] (.go 2 (.fork (.auto) (.go 15 (.ans [] (.bool (inB s.slow 0 20)) [] (.go 0 (.aM (.go 1 (.ans [] (.bool (inB s.aw 0 100)) [] (.go 1 (.aM (.go 1 (.ans [] (.bool (inB s.rdg 0 500)) [] (.go 1 (.aM (.go 1 (.ans [] (.bool (inB s.prs 0 5000)) [] (.go 2 (.fork (.auto) (.go 15 (.ans [(1,.cells false 0 (s.th.flatMap ptC))] (.bool (cF s.th (-1))) [] (.go 0 (.aM (.go 1 (.ans [(1,.cells false 0 (s.th.flatMap ptC))] (nI (c8 s.th)) [] (.ans [] (.bool (inB (c8 s.th) 10 250)) [] (.go 2 (.fork (.auto) (.go 15 (.ans [(2,.cells false 0 (s.wa.flatMap ptC))] (.bool (cF s.wa 1)) [] (.go 0 (.aM (.go 1 (.ans [(2,.cells false 0 (s.wa.flatMap ptC))] (nI (c8 s.wa)) [] (.go 3 (.fork (.auto) (.go 15 (.ans [(3,.cells false 0 (s.ic.flatMap ptC))] (.bool (cF s.ic 1)) [] (.go 0 (.aM (.go 1 (.need (.go 0 (.val (nI (s.ic.getD 0 zP).2) (.go 2 (.aM (.go 1 (.ans [(3,.cells false 0 (s.ic.flatMap ptC))] (nI (c8 s.ic)) [] (.go 3 (.fork (.auto) (.auto))))) (.auto))))))) (.auto))))))))) (.auto)))))))))) (.auto))))))))) (.auto))))) (.auto))))) (.auto))))))))) (.auto))))) (.auto)))))))))
 (fun v _ _=>v=sp)=xX sp s:=by kernel_rfl
theorem a9{l:List Pt}{w:Int}(h:cF l w=true):uJ l:=by
 unfold cF at h
 rw[Bool.and_eq_true]at h
 exact uk.1 h.1
structure uG(s:Shp):Prop where
 th:s.th.length<=1000000
 wa:s.wa.length<=1000000
 ic:s.ic.length<=1000000
theorem qX(s:Shp)(hs:uG s){H:Heap}{i j k:Nat}{o1 o2 o3:Bool}{z1 z2 z3:Nat}(h1:H[i]?=some (.cells o1 z1 (s.th.flatMap ptC)))(h2:H[j]?=some (.cells o2 z2 (s.wa.flatMap ptC)))(h3:H[k]?=some (.cells o3 z3 (s.ic.flatMap ptC))) :
  ad prog 79 [sj s i j k] H [] (Is (nI (aU s)) H):=by
 refine iy (css:=[s.th.flatMap ptC,s.wa.flatMap ptC,s.ic.flatMap ptC]) (v:=nI (aU s)) (ids:=[i,j,k]) (Eq.mpr (Em _ s) ?_) ⟨dR _ _,dR _ _,dR _ _,trivial⟩ rfl ⟨⟨_,_,h1⟩,⟨_,_,h2⟩,⟨_,_,h3⟩,trivial⟩ rfl
 delta xX jb0 nI slQ fk ixq c0q c1q
 repeat' first|exact trivial|exact ⟨rfl,trivial⟩|(exact fun H' hl _=>jj _ _ _ (by omega))|(exact fun H' _ h=>qW _ _ (.inr rfl) hs.th h.1)|(exact fun H' _ h=>qW _ _ (.inl rfl) hs.wa h.1)|(exact fun H' _ h=>qW _ _ (.inl rfl) hs.ic h.1)|(exact fun H' _ h=>CZ s.th (by have:=(a9 ‹cF s.th (-1)=true›).len;omega) hs.th h.1)|(exact fun H' _ h=>CZ s.wa (by have:=(a9 ‹cF s.wa 1=true›).len;omega) hs.wa h.1)|(exact fun H' _ h=>CZ s.ic (by have:=(a9 ‹cF s.ic 1=true›).len;omega) hs.ic h.1)|(exact ⟨by omega,by have:=(a9 ‹cF s.ic 1=true›).len;omega⟩)|(exact wT (by have:=(a9 ‹cF s.ic 1=true›).len;omega) (by omega))|(exact iEq (by unfold aU;simp_all))|intro _|apply And.intro
def xP(sp:Value)(s:Shp)(v:Int):Prop :=
 (c1q 5 2 (.cells true 2 (s.th.flatMap ptC)) 219 [slQ 2 2 s.th.length,nI v] (.tuple #[nI (ar s.th v).1,nI (ar s.th v).2]) ((((ar s.th v).2:Int)≠0)/\(nw (Int.tdiv (ar s.th v).1 (ar s.th v).2) ((nI (Int.tdiv (ar s.th v).1 (ar s.th v).2):Value)=sp))))
abbrev jc0(s:Shp):List Value:=[nI s.cls,nI s.pow,nI s.dra,nI s.ton,slQ 2 2 s.th.length,slQ 3 2 s.wa.length,slQ 4 2 s.ic.length,nI s.slow,nI s.aw,nI s.rdg,nI s.prs]
abbrev jc4(s:Shp):=aG [.cells false 0 [nI 4000,nI 8000,nI 14000,nI 24000,nI 40000,nI 90000],.cells true 0 (jc0 s),.cells true 2 (s.th.flatMap ptC),.cells true 2 (s.wa.flatMap ptC),.cells true 2 (s.ic.flatMap ptC)]
theorem Ed(sp:Value)(s:Shp)(v:Int):vF prog msk (dm 0) 100000 true 40 true 211 [pt 1,nI v] (jc4 s) (some [])
 (.go 5 (.ans [(2,.cells true 2 (s.th.flatMap ptC))] (.tuple #[nI (ar s.th v).1,nI (ar s.th v).2]) [] (.go 6 (.need (.slot 18 (nI (Int.tdiv (ar s.th v).1 (ar s.th v).2)) (.auto))))))
 (fun v _ _=>v=sp)=xP sp s v:=by kernel_rfl
abbrev jcb(s:Shp)(x:Ice):=ar s.ic x.ag
def l4(sp:Value)(s:Shp)(x:Ice)(ch:Bool)(v:Int):Prop :=
 (c1q 6 3 (.cells true 2 (s.wa.flatMap ptC)) 219 [slQ 3 2 s.wa.length,nI v] (.tuple #[nI (ar s.wa v).1,nI (ar s.wa v).2]) (c1q 6 4 (.cells true 2 (s.ic.flatMap ptC)) 219 [slQ 4 2 s.ic.length,nI x.ag] (.tuple #[nI (jcb s x).1,nI (jcb s x).2]) (fk ch (nw (s.slow*v) (nw (1000+(s.slow*v)) (nw ((jcb s x).1*(1000+(s.slow*v))) (∃y2:Int,bw ((jcb s x).1*(1000+(s.slow*v))) y2/\(nw (y2*s.aw) (nw (s.rdg*0) (nw ((s.rdg*0)*(jcb s x).2) (∃y3:Int,bw ((s.rdg*0)*(jcb s x).2) y3/\(nw (y3*100000) (nw ((y2*s.aw)+(y3*100000)) (∃y4:Int,bw ((y2*s.aw)+(y3*100000)) y4/\(nw (x.ap*y4) (nw ((jcb s x).2*10000000) (∃y5:Int,bw ((jcb s x).2*10000000) y5/\(nw ((ar s.wa v).1*y5) (nw ((x.ap*y4)*(ar s.wa v).2) (∃y6:Int,bw ((x.ap*y4)*(ar s.wa v).2) y6/\(nw (((ar s.wa v).1*y5)+y6) (∃y7:Int,bw (((ar s.wa v).1*y5)+y6) y7/\(nw (s.prs*x.ah) (nw ((s.prs*x.ah)*(ar s.wa v).2) (∃y8:Int,bw ((s.prs*x.ah)*(ar s.wa v).2) y8/\(nw (y8*y5) (nw (y7+(y8*y5)) (nw ((ar s.wa v).2*y5) (nw ((y7+(y8*y5))+((ar s.wa v).2*y5)) (∃y9:Int,bw ((y7+(y8*y5))+((ar s.wa v).2*y5)) y9/\(nw (y9-1) (nw ((ar s.wa v).2*y5) (((((ar s.wa v).2*y5):Int)≠0)/\(nw (Int.tdiv (y9-1) ((ar s.wa v).2*y5)) (∃y10:Int,bw (Int.tdiv (y9-1) ((ar s.wa v).2*y5)) y10/\(nI y10:Value)=sp)))))))))))))))))))))))))))))))) (nw (s.slow*v) (nw (1000+(s.slow*v)) (nw ((jcb s x).1*(1000+(s.slow*v))) (∃y2:Int,bw ((jcb s x).1*(1000+(s.slow*v))) y2/\(nw (y2*100) (nw (s.rdg*x.ai) (nw ((s.rdg*x.ai)*(jcb s x).2) (∃y3:Int,bw ((s.rdg*x.ai)*(jcb s x).2) y3/\(nw (y3*100000) (nw ((y2*100)+(y3*100000)) (nw (x.ap*((y2*100)+(y3*100000))) (∃y4:Int,bw (x.ap*((y2*100)+(y3*100000))) y4/\(nw ((jcb s x).2*10000000) (∃y5:Int,bw ((jcb s x).2*10000000) y5/\(nw ((ar s.wa v).1*y5) (nw (y4*(ar s.wa v).2) (nw (((ar s.wa v).1*y5)+(y4*(ar s.wa v).2)) (∃y6:Int,bw (((ar s.wa v).1*y5)+(y4*(ar s.wa v).2)) y6/\(nw (s.prs*x.ah) (nw ((s.prs*x.ah)*(ar s.wa v).2) (∃y7:Int,bw ((s.prs*x.ah)*(ar s.wa v).2) y7/\(nw (y7*y5) (nw (y6+(y7*y5)) (nw ((ar s.wa v).2*y5) (nw ((y6+(y7*y5))+((ar s.wa v).2*y5)) (∃y8:Int,bw ((y6+(y7*y5))+((ar s.wa v).2*y5)) y8/\(nw (y8-1) (nw ((ar s.wa v).2*y5) (((((ar s.wa v).2*y5):Int)≠0)/\(nw (Int.tdiv (y8-1) ((ar s.wa v).2*y5)) (∃y9:Int,bw (Int.tdiv (y8-1) ((ar s.wa v).2*y5)) y9/\(nI y9:Value)=sp))))))))))))))))))))))))))))))))))
abbrev jcd(x:Ice)(ch:Bool)(v:Int):List Value:=[.agg #[pt 1,nI x.ap,nI x.ag,nI x.ai,nI x.ah,.bool ch],nI v]
theorem uI(sp:Value)(s:Shp)(x:Ice)(ch:Bool)(v:Int):vF prog msk (dm 0) 100000 true 40 true 212 (jcd x ch v) (jc4 s) (some [])
 (.go 7 (.ans [(3,.cells true 2 (s.wa.flatMap ptC))] (.tuple #[nI (ar s.wa v).1,nI (ar s.wa v).2]) [] (.go 12 (.ans [(4,.cells true 2 (s.ic.flatMap ptC))] (.tuple #[nI (jcb s x).1,nI (jcb s x).2]) [] (.go 11 (.fork (.go 17 (.slot 54 (nI (s.slow*v)) (.go 0 (.slot 55 (nI (1000+(s.slow*v))) (.go 0 (.slot 56 (nI ((jcb s x).1*(1000+(s.slow*v)))) (.bind Int (fun y2 => .slot 56 (nI y2) (.go 1 (.slot 58 (nI (y2*s.aw)) (.go 6 (.slot 65 (nI (s.rdg*0)) (.go 1 (.slot 67 (nI ((s.rdg*0)*(jcb s x).2)) (.bind Int (fun y3 => .slot 67 (nI y3) (.go 0 (.slot 68 (nI (y3*100000)) (.go 0 (.slot 69 (nI ((y2*s.aw)+(y3*100000))) (.bind Int (fun y4 => .slot 69 (nI y4) (.go 0 (.slot 70 (nI (x.ap*y4)) (.go 2 (.slot 72 (nI ((jcb s x).2*10000000)) (.bind Int (fun y5 => .slot 72 (nI y5) (.go 3 (.slot 75 (nI ((ar s.wa v).1*y5)) (.go 2 (.slot 78 (nI ((x.ap*y4)*(ar s.wa v).2)) (.bind Int (fun y6 => .slot 78 (nI y6) (.go 0 (.slot 79 (nI (((ar s.wa v).1*y5)+y6)) (.bind Int (fun y7 => .slot 79 (nI y7) (.go 8 (.slot 88 (nI (s.prs*x.ah)) (.go 1 (.slot 90 (nI ((s.prs*x.ah)*(ar s.wa v).2)) (.bind Int (fun y8 => .slot 90 (nI y8) (.go 1 (.slot 92 (nI (y8*y5)) (.go 0 (.slot 93 (nI (y7+(y8*y5))) (.go 4 (.slot 97 (nI ((ar s.wa v).2*y5)) (.go 0 (.slot 98 (nI ((y7+(y8*y5))+((ar s.wa v).2*y5))) (.bind Int (fun y9 => .slot 98 (nI y9) (.go 0 (.slot 99 (nI (y9-1)) (.go 2 (.slot 102 (nI ((ar s.wa v).2*y5)) (.need (.slot 103 (nI (Int.tdiv (y9-1) ((ar s.wa v).2*y5))) (.bind Int (fun y10 => .slot 103 (nI y10) (.auto))))))))))))))))))))))))))))))))))))))))))))))))))))))))))))))) (.go 10 (.slot 54 (nI (s.slow*v)) (.go 0 (.slot 55 (nI (1000+(s.slow*v))) (.go 0 (.slot 56 (nI ((jcb s x).1*(1000+(s.slow*v)))) (.bind Int (fun y2 => .slot 56 (nI y2) (.go 1 (.slot 58 (nI (y2*100)) (.go 6 (.slot 65 (nI (s.rdg*x.ai)) (.go 1 (.slot 67 (nI ((s.rdg*x.ai)*(jcb s x).2)) (.bind Int (fun y3 => .slot 67 (nI y3) (.go 0 (.slot 68 (nI (y3*100000)) (.go 0 (.slot 69 (nI ((y2*100)+(y3*100000))) (.go 0 (.slot 70 (nI (x.ap*((y2*100)+(y3*100000)))) (.bind Int (fun y4 => .slot 70 (nI y4) (.go 2 (.slot 72 (nI ((jcb s x).2*10000000)) (.bind Int (fun y5 => .slot 72 (nI y5) (.go 3 (.slot 75 (nI ((ar s.wa v).1*y5)) (.go 2 (.slot 78 (nI (y4*(ar s.wa v).2)) (.go 0 (.slot 79 (nI (((ar s.wa v).1*y5)+(y4*(ar s.wa v).2))) (.bind Int (fun y6 => .slot 79 (nI y6) (.go 8 (.slot 88 (nI (s.prs*x.ah)) (.go 1 (.slot 90 (nI ((s.prs*x.ah)*(ar s.wa v).2)) (.bind Int (fun y7 => .slot 90 (nI y7) (.go 1 (.slot 92 (nI (y7*y5)) (.go 0 (.slot 93 (nI (y6+(y7*y5))) (.go 4 (.slot 97 (nI ((ar s.wa v).2*y5)) (.go 0 (.slot 98 (nI ((y6+(y7*y5))+((ar s.wa v).2*y5))) (.bind Int (fun y8 => .slot 98 (nI y8) (.go 0 (.slot 99 (nI (y8-1)) (.go 2 (.slot 102 (nI ((ar s.wa v).2*y5)) (.need (.slot 103 (nI (Int.tdiv (y8-1) ((ar s.wa v).2*y5))) (.bind Int (fun y9 => .slot 103 (nI y9) (.auto)))))))))))))))))))))))))))))))))))))))))))))))))))))))))))))))))))
 (fun v _ _=>v=sp)=l4 sp s x ch v:=by kernel_rfl
abbrev jcc(x:Ice)(v:Int):=Int.tdiv ((x.ag*(100+v))+1) 2
def E9(sp:Value)(x:Ice)(v:Int)(ch:Bool):Prop :=
 (nw (100+v) (nw (x.ag*(100+v)) (fk ch (nw ((x.ag*(100+v))+1) (nw (jcc x v) (fk ((x.ap:Int) == 0) ((nI 0:Value)=sp) (nw ((jcc x v)+0) (nw (2000*x.ah) (nw (((jcc x v)+0)+(2000*x.ah)) ((nI (((jcc x v)+0)+(2000*x.ah)):Value)=sp))))))) (fk ((x.ap:Int) == 0) ((nI 0:Value)=sp) (nw (300*x.ai) (nw ((x.ag*(100+v))+(300*x.ai)) (nw (2000*x.ah) (nw (((x.ag*(100+v))+(300*x.ai))+(2000*x.ah)) ((nI (((x.ag*(100+v))+(300*x.ai))+(2000*x.ah)):Value)=sp)))))))))
theorem I2(sp:Value)(x:Ice)(v:Int)(ch:Bool):vF prog msk (dm 0) 100000 true 40 true 215 [.agg #[nI x.ap,nI x.ag,nI x.ai,nI x.ah],nI v,.bool ch] ⟨1,.leaf⟩ (some [])
 (.go 5 (.slot 12 (nI (100+v)) (.go 0 (.slot 13 (nI (x.ag*(100+v))) (.go 4 (.fork (.go 1 (.slot 18 (nI ((x.ag*(100+v))+1)) (.go 0 (.slot 19 (nI (jcc x v)) (.go 4 (.fork (.auto) (.go 3 (.slot 26 (nI ((jcc x v)+0)) (.go 2 (.slot 29 (nI (2000*x.ah)) (.go 0 (.slot 30 (nI (((jcc x v)+0)+(2000*x.ah))) (.auto))))))))))))) (.go 2 (.fork (.auto) (.go 2 (.slot 25 (nI (300*x.ai)) (.go 0 (.slot 26 (nI ((x.ag*(100+v))+(300*x.ai))) (.go 2 (.slot 29 (nI (2000*x.ah)) (.go 0 (.slot 30 (nI (((x.ag*(100+v))+(300*x.ai))+(2000*x.ah))) (.auto)))))))))))))))))
 (fun v _ _=>v=sp)=E9 sp x v ch:=by kernel_rfl
abbrev jc2(s:Shp):Prop:=(ac (.cells false 0 [nI 4000,nI 8000,nI 14000,nI 24000,nI 40000,nI 90000]))/\(ac (.cells true 0 (jc0 s)))/\(ac (.cells true 2 (s.th.flatMap ptC)))/\(ac (.cells true 2 (s.wa.flatMap ptC)))/\(ac (.cells true 2 (s.ic.flatMap ptC)))/\True
abbrev jc1(H':Heap)(s:Shp):Prop:=H'[0]?=some (.cells false 0 [nI 4000,nI 8000,nI 14000,nI 24000,nI 40000,nI 90000]:aa)/\H'[1]?=some (.cells true 0 (jc0 s):aa)/\H'[2]?=some (.cells true 2 (s.th.flatMap ptC):aa)/\H'[3]?=some (.cells true 2 (s.wa.flatMap ptC):aa)/\H'[4]?=some (.cells true 2 (s.ic.flatMap ptC):aa)/\True
def B1(sp:Value)(s:Shp)(x:Ice)(ch:Bool)(v:Int):Prop :=
 (c1q 6 2 (.cells true 2 (s.th.flatMap ptC)) 175 [slQ 2 2 s.th.length] (nI (c8 s.th)) (fk (decide ((v:Int)<=(c8 s.th))) ((jc2 s)/\(∀H':Heap,H'.length=6->(jc1 H' s)->ad prog 211 [pt 1,nI v] H' [] (Is (nI (mH s v)) H'))/\((jc2 s)/\(∀H':Heap,H'.length=6->(jc1 H' s)->ad prog 212 (jcd x ch v) H' [] (Is (nI (md s x ch v)) H'))/\(.bool (decide (((md s x ch v):Int)<=(mH s v))):Value)=sp)) ((.bool false:Value)=sp)))
abbrev jc3(s:Shp):List (Nat×aa):=[(0,.cells false 0 [nI 4000,nI 8000,nI 14000,nI 24000,nI 40000,nI 90000]),(1,.cells true 0 (jc0 s)),(2,.cells true 2 (s.th.flatMap ptC)),(3,.cells true 2 (s.wa.flatMap ptC)),(4,.cells true 2 (s.ic.flatMap ptC))]
theorem G5(sp:Value)(s:Shp)(x:Ice)(ch:Bool)(v:Int):vF prog msk (dm 0) 100000 true 40 true 191 (jcd x ch v) (jc4 s) (some [])
 (.go 7 (.ans [(2,.cells true 2 (s.th.flatMap ptC))] (nI (c8 s.th)) [] (.go 1 (.aM (.go 4 (.ans (jc3 s) (nI (mH s v)) [] (.ans (jc3 s) (nI (md s x ch v)) [] (.auto)))) (.auto)))))
 (fun v _ _=>v=sp)=B1 sp s x ch v:=by kernel_rfl
abbrev jce:List Int:=[4000,8000,14000,24000,40000,90000]
def Cd(sp:Value)(s:Shp)(x:Ice)(ch:Bool)(v:Int):Prop :=
 (nw (s.cls-1) ((ixq (s.cls-1) 6)/\((([nI 4000,nI 8000,nI 14000,nI 24000,nI 40000,nI 90000]:List Value)[(0+Int.toNat (s.cls-1)*1)]?=some (nI (jce.getD (s.cls-1).toNat 0)))/\(c0q 6 215 [.agg #[nI x.ap,nI x.ag,nI x.ai,nI x.ah],nI v,.bool ch] (nI (gA x v ch)) ((.bool (decide (((gA x v ch):Int)<=(jce.getD (s.cls-1).toNat 0))):Value)=sp)))))
theorem He(sp:Value)(s:Shp)(x:Ice)(ch:Bool)(v:Int):vF prog msk (dm 0) 100000 true 40 true 193 (jcd x ch v) (jc4 s) (some [])
 (.go 12 (.slot 16 (nI (s.cls-1)) (.need (.val (nI (jce.getD (s.cls-1).toNat 0)) (.ans [] (nI (gA x v ch)) [] (.auto))))))
 (fun v _ _=>v=sp)=Cd sp s x ch v:=by kernel_rfl
abbrev jc8:Nat×Int×Int:=(250,0,250)
abbrev jca(x:Ice)(ch:Bool):Prop:=eR (.func (.func 191) #[.agg #[pt 1,nI x.ap,nI x.ag,nI x.ai,nI x.ah,.bool ch]] #[])/\eR (nI 0)/\eR (.bool false)/\True
abbrev jcf:Prop:=(True)/\(True)/\(True)
abbrev jcj(x1:Nat×Int×Int)(s:Shp)(x:Ice)(ch:Bool):Prop:=(x1.2.1<=x1.2.2/\x1.2.2-x1.2.1<=x1.1/\0<=x1.2.1/\x1.2.2<=250)/\bsG (mkB s x ch) x1.1 x1.2.1 x1.2.2=bsG (mkB s x ch) 250 0 250
abbrev jc9(x1:Nat×Int×Int):=Int.tdiv ((x1.2.2-x1.2.1)+1) 2
abbrev jcg(x1':Nat×Int×Int)(s:Shp)(x:Ice)(ch:Bool):Prop:=(x1'.2.1<=x1'.2.2/\x1'.2.2-x1'.2.1<=x1'.1/\0<=x1'.2.1/\x1'.2.2<=250)/\bsG (mkB s x ch) x1'.1 x1'.2.1 x1'.2.2=bsG (mkB s x ch) 250 0 250
def BZ(sp:Value)(s:Shp)(x:Ice)(ch:Bool):Prop :=
 ((jc2 s)/\(∀H':Heap,H'.length=6->(jc1 H' s)->ad prog 191 [.agg #[pt 1,nI x.ap,nI x.ag,nI x.ai,nI x.ah,.bool ch],nI 0] H' [] (Is (.bool (mkB s x ch 0)) H'))/\(fk (!(mkB s x ch 0)) ((nI 0:Value)=sp) (true=true/\((jc8.2.1<=jc8.2.2/\jc8.2.2-jc8.2.1<=jc8.1/\0<=jc8.2.1/\jc8.2.2<=250)/\bsG (mkB s x ch) jc8.1 jc8.2.1 jc8.2.2=bsG (mkB s x ch) 250 0 250)/\(true=true/\((nI 0:Value)=nI jc8.2.1/\(nI 250:Value)=nI jc8.2.2/\jca x ch)/\jcf)/\(∀x1:Nat×Int×Int,true=true)/\∀x1:Nat×Int×Int,(jcj x1 s x ch)->(fk (decide ((x1.2.1:Int)<x1.2.2)) (nw (x1.2.2-x1.2.1) (nw ((x1.2.2-x1.2.1)+1) (nw (jc9 x1) (nw (x1.2.1+(jc9 x1)) ((jc2 s)/\(∀H':Heap,H'.length=6->(jc1 H' s)->ad prog 191 [.agg #[pt 1,nI x.ap,nI x.ag,nI x.ai,nI x.ah,.bool ch],nI (x1.2.1+(jc9 x1))] H' [] (Is (.bool (mkB s x ch (x1.2.1+(jc9 x1)))) H'))/\(fk (mkB s x ch (x1.2.1+(jc9 x1))) (∃x1':Nat×Int×Int,(jcg x1' s x ch)/\x1'.1<x1.1/\true=true/\((nI (x1.2.1+(jc9 x1)):Value)=nI x1'.2.1/\(nI x1.2.2:Value)=nI x1'.2.2/\jca x ch)/\jcf) (nw ((x1.2.1+(jc9 x1))-1) (∃x1':Nat×Int×Int,(jcg x1' s x ch)/\x1'.1<x1.1/\true=true/\((nI x1.2.1:Value)=nI x1'.2.1/\(nI ((x1.2.1+(jc9 x1))-1):Value)=nI x1'.2.2/\jca x ch)/\jcf)))))))) ((nI x1.2.1:Value)=sp)))))
theorem G2(sp:Value)(s:Shp)(x:Ice)(ch:Bool):vF prog msk (dm 0) 100000 true 40 true 181 [.agg #[pt 1,nI x.ap,nI x.ag,nI x.ai,nI x.ah,.bool ch]] (jc4 s) (some [])
 (.go 8 (.ans (jc3 s) (.bool (mkB s x ch 0)) [] (.go 0 (.fork (.auto) (.inv 3 (Nat×Int×Int) (jc8) [] [] (fun x1=>[(0,nI x1.2.1),(1,nI x1.2.2),(2,.func (.func 191) #[.agg #[pt 1,nI x.ap,nI x.ag,nI x.ai,nI x.ah,.bool ch]] #[]),(6,nI 0),(7,.bool false)]) (fun x1=>[]) (fun x1=>[]) (fun x1=>[]) (fun x1=>(jcj x1 s x ch)) (fun x1=>x1.1) (fun x1 => .go 2 (.fork (.go 3 (.slot 19 (nI (x1.2.2-x1.2.1)) (.go 0 (.slot 20 (nI ((x1.2.2-x1.2.1)+1)) (.go 0 (.slot 21 (nI (jc9 x1)) (.go 0 (.slot 22 (nI (x1.2.1+(jc9 x1))) (.go 2 (.ans (jc3 s) (.bool (mkB s x ch (x1.2.1+(jc9 x1)))) [] (.fork (.go 1 (.again [])) (.go 1 (.slot 28 (nI ((x1.2.1+(jc9 x1))-1)) (.go 0 (.again []))))))))))))))) (.auto))))))))
 (fun v _ _=>v=sp)=BZ sp s x ch:=by kernel_rfl
abbrev jc7:Nat×Int×Int:=(240,10,250)
abbrev jch:Prop:=eR (.func (.func 205) #[] #[pt 5])/\eR (nI 0)/\eR (.bool false)/\True
abbrev jci(x2:Nat×Int×Int)(s:Shp)(x:Ice)(ch:Bool):Prop:=(x2.2.1<=x2.2.2/\x2.2.2-x2.2.1<=x2.1/\10<=x2.2.1/\x2.2.2<=250)/\bsG (mbB s x ch) x2.1 x2.2.1 x2.2.2=bsG (mbB s x ch) 240 10 250
abbrev jc5(x2:Nat×Int×Int):=Int.tdiv ((x2.2.2-x2.2.1)+1) 2
abbrev jc6(x2:Nat×Int×Int)(s:Shp)(x:Ice)(ch:Bool):=nw ((x2.2.1+(jc5 x2))-1) (∃x2':Nat×Int×Int,((x2'.2.1<=x2'.2.2/\x2'.2.2-x2'.2.1<=x2'.1/\10<=x2'.2.1/\x2'.2.2<=250)/\bsG (mbB s x ch) x2'.1 x2'.2.1 x2'.2.2=bsG (mbB s x ch) 240 10 250)/\x2'.1<x2.1/\true=true/\((nI x2.2.1:Value)=nI x2'.2.1/\(nI ((x2.2.1+(jc5 x2))-1):Value)=nI x2'.2.2/\jch)/\jcf)
def Fb(sp:Value)(s:Shp)(x:Ice)(ch:Bool):Prop :=
 ((jc2 s)/\(∀H':Heap,H'.length=6->(jc1 H' s)->ad prog 191 [.agg #[pt 1,nI x.ap,nI x.ag,nI x.ai,nI x.ah,.bool ch],nI 10] H' [] (Is (.bool (mkB s x ch 10)) H'))/\(fk (mkB s x ch 10) ((jc2 s)/\(∀H':Heap,H'.length=6->(jc1 H' s)->ad prog 193 [.agg #[pt 1,nI x.ap,nI x.ag,nI x.ai,nI x.ah,.bool ch],nI 10] H' [] (Is (.bool (brB s x ch 10)) H'))/\(fk (!(brB s x ch 10)) ((.tuple #[nI 0,.bool false]:Value)=sp) (true=true/\((jc7.2.1<=jc7.2.2/\jc7.2.2-jc7.2.1<=jc7.1/\10<=jc7.2.1/\jc7.2.2<=250)/\bsG (mbB s x ch) jc7.1 jc7.2.1 jc7.2.2=bsG (mbB s x ch) 240 10 250)/\(true=true/\((nI 10:Value)=nI jc7.2.1/\(nI 250:Value)=nI jc7.2.2/\jch)/\jcf)/\(∀x2:Nat×Int×Int,true=true)/\∀x2:Nat×Int×Int,(jci x2 s x ch)->(fk (decide ((x2.2.1:Int)<x2.2.2)) (nw (x2.2.2-x2.2.1) (nw ((x2.2.2-x2.2.1)+1) (nw (jc5 x2) (nw (x2.2.1+(jc5 x2)) ((jc2 s)/\(∀H':Heap,H'.length=6->(jc1 H' s)->ad prog 191 [.agg #[pt 1,nI x.ap,nI x.ag,nI x.ai,nI x.ah,.bool ch],nI (x2.2.1+(jc5 x2))] H' [] (Is (.bool (mkB s x ch (x2.2.1+(jc5 x2)))) H'))/\(fk (mkB s x ch (x2.2.1+(jc5 x2))) ((jc2 s)/\(∀H':Heap,H'.length=6->(jc1 H' s)->ad prog 193 [.agg #[pt 1,nI x.ap,nI x.ag,nI x.ai,nI x.ah,.bool ch],nI (x2.2.1+(jc5 x2))] H' [] (Is (.bool (brB s x ch (x2.2.1+(jc5 x2)))) H'))/\(fk (brB s x ch (x2.2.1+(jc5 x2))) (∃x2':Nat×Int×Int,((x2'.2.1<=x2'.2.2/\x2'.2.2-x2'.2.1<=x2'.1/\10<=x2'.2.1/\x2'.2.2<=250)/\bsG (mbB s x ch) x2'.1 x2'.2.1 x2'.2.2=bsG (mbB s x ch) 240 10 250)/\x2'.1<x2.1/\true=true/\((nI (x2.2.1+(jc5 x2)):Value)=nI x2'.2.1/\(nI x2.2.2:Value)=nI x2'.2.2/\jch)/\jcf) (jc6 x2 s x ch))) (jc6 x2 s x ch))))))) ((.tuple #[nI x2.2.1,.bool true]:Value)=sp))))) ((.tuple #[nI 0,.bool false]:Value)=sp)))
theorem I5(sp:Value)(s:Shp)(x:Ice)(ch:Bool):vF prog msk (dm 0) 100000 true 40 true 182 [.agg #[pt 1,nI x.ap,nI x.ag,nI x.ai,nI x.ah,.bool ch]] (jc4 s) (some [])
 (.go 12 (.ans (jc3 s) (.bool (mkB s x ch 10)) [] (.go 0 (.aM (.go 1 (.ans (jc3 s) (.bool (brB s x ch 10)) [] (.go 2 (.fork (.auto) (.inv 3 (Nat×Int×Int) (jc7) [] [] (fun x2=>[(0,nI x2.2.1),(1,nI x2.2.2),(2,.func (.func 205) #[] #[pt 5]),(6,nI 0),(7,.bool false)]) (fun x2=>[]) (fun x2=>[]) (fun x2=>[]) (fun x2=>(jci x2 s x ch)) (fun x2=>x2.1) (fun x2 => .go 2 (.fork (.go 3 (.slot 19 (nI (x2.2.2-x2.2.1)) (.go 0 (.slot 20 (nI ((x2.2.2-x2.2.1)+1)) (.go 0 (.slot 21 (nI (jc5 x2)) (.go 0 (.slot 22 (nI (x2.2.1+(jc5 x2))) (.go 6 (.ans (jc3 s) (.bool (mkB s x ch (x2.2.1+(jc5 x2)))) [] (.go 0 (.aM (.go 1 (.ans (jc3 s) (.bool (brB s x ch (x2.2.1+(jc5 x2)))) [] (.go 1 (.fork (.go 1 (.again [])) (.go 1 (.slot 28 (nI ((x2.2.1+(jc5 x2))-1)) (.go 0 (.again [])))))))) (.go 4 (.slot 28 (nI ((x2.2.1+(jc5 x2))-1)) (.go 0 (.again [])))))))))))))))) (.auto)))))))) (.auto)))))
 (fun v _ _=>v=sp)=Fb sp s x ch:=by kernel_rfl
theorem iI{a b A B:Int}(h1:0<=a)(h2:a<=A)(h3:0<=b)(h4:b<=B):0<=a*b/\a*b<=A*B :=
 ⟨Int.mul_nonneg h1 h3,Int.mul_le_mul h2 h4 h3 (Int.le_trans h1 h2)⟩
structure kO(s:Shp):Prop where
 cls:1<=s.cls/\s.cls<=6
 slow:0<=s.slow/\s.slow<=20
 aw:0<=s.aw/\s.aw<=100
 rdg:0<=s.rdg/\s.rdg<=500
 prs:0<=s.prs/\s.prs<=5000
 th:cF s.th (-1)=true
 the:10<=c8 s.th/\c8 s.th<=250
 wa:cF s.wa 1=true
 wae:c8 s.wa<=250
 ic:cF s.ic 1=true
 ic0:(s.ic.getD 0 zP).2=0
 ice:c8 s.ic=400
theorem sk{s:Shp}(e:aU s=0):kO s:=by
 unfold aU at e
 split at e
 ·cases e
 rename_i h1
 split at e
 ·cases e
 split at e
 ·cases e
 rename_i h3
 split at e
 ·cases e
 rename_i h4
 split at e
 ·cases e
 rename_i h5
 split at e
 ·cases e
 rename_i h6
 simp only[Bool.not_eq_false,Bool.and_eq_true,aR,decide_eq_true_eq,beq_iff_eq]at h1 h3 h4 h5 h6
 exact ⟨h1,h3.1.1.1,h3.1.1.2,h3.1.2,h3.2,h4.1,h4.2,h5.1,h5.2,h6.1.1,h6.1.2,h6.2⟩
def f4(x:Ice):Prop:=(0<=x.ap/\x.ap<=100)/\(0<=x.ag/\x.ag<=400)/\(0<=x.ai/\x.ai<=100)/\0<=x.ah/\x.ah<=3
def ShAt(H:Heap)(s:Shp)(b i j k:Nat):Prop :=
 [0,b,i,j,k].Nodup/\H[0]?=some bC/\H[b]?=some (.cells true 0 (uT s i j k))/\H[i]?=some (.cells true 2 (s.th.flatMap ptC))/\H[j]?=some (.cells true 2 (s.wa.flatMap ptC))/\H[k]?=some (.cells true 2 (s.ic.flatMap ptC))
theorem cJ(o:Bool)(z:Nat)(l:List Pt)(σ:Nat->Option Nat):rno σ 3 (.cells o z (l.flatMap ptC)) = .cells o z (l.flatMap ptC):=congrArg (aa.cells o z) (ed (d:=0) (dR 0 l)).1
theorem fD(o:Bool)(z:Nat)(l:List Pt):am 3 (.cells o z (l.flatMap ptC))=true:=(ed (σ:=fun _=>none) (d:=0) (dR 0 l)).2
abbrev HC(s:Shp):List aa:=[bC,.cells true 0 (uT s 2 3 4),.cells true 2 (s.th.flatMap ptC),.cells true 2 (s.wa.flatMap ptC),.cells true 2 (s.ic.flatMap ptC)]
theorem gU(s:Shp):(HC s).all (am 3)=true:=by
 show (am 3 bC&&(am 3 (.cells true 0 (uT s 2 3 4))&&(am 3 (.cells true 2 (s.th.flatMap ptC))&&(am 3 (.cells true 2 (s.wa.flatMap ptC))&&(am 3 (.cells true 2 (s.ic.flatMap ptC))&&true)))))=true
 rw[fD,fD,fD];rfl
theorem ShAt.objs{H:Heap}{s:Shp}{b i j k:Nat}(a:ShAt H s b i j k):cR H (sgI [0,b,i,j,k]) [0,b,i,j,k] (HC s) :=
 ⟨a.2.1,a.2.2.1,by rw[cJ];exact a.2.2.2.1,by rw[cJ];exact a.2.2.2.2.1,by rw[cJ];exact a.2.2.2.2.2,trivial⟩
theorem wK{a b n:Int}(h0:0<=a)(hb:1<=b)(h:a<=n*b):0<=Int.tdiv a b/\Int.tdiv a b<=n:=by
 rw[Int.tdiv_eq_ediv_of_nonneg h0]
 exact ⟨Int.ediv_nonneg h0 (by omega),Int.ediv_le_of_le_mul (by omega) h⟩
theorem Fy{s:Shp}(o:kO s){v:Int}(hv:0<=v):0<=mH s v/\mH s v<=20000:=by
 have:=cP (a9 o.th) hv
 exact wK this.2.1 this.1.1 this.2.2
theorem CS{s:Shp}(o:kO s){v:Int}(hv:0<=v/\v<=1000){H:Heap}{b i j k:Nat}(a:ShAt H s b i j k):ad prog 211 [pt b,nI v] H [] (Is (nI (mH s v)) H):=by
 have hb:=cP (a9 o.th) hv.1
 have ht:=Fy o hv.1
 refine gi (Eq.mpr (Ed _ s v) ?_) (gU s) rfl rfl (fun _=>rfl) a.1 a.objs rfl rfl
 delta xP nI slQ nw c1q
 exact ⟨⟨rfl,trivial⟩,fun H' _ h=>vt (a9 o.th) (by omega) h.1,by omega,ak (by unfold mH at ht;omega),rfl⟩
theorem Ju{s:Shp}(o:kO s){x:Ice}(hx:f4 x){ch:Bool}{v:Int}(hv:0<=v/\v<=250){H:Heap}{b i j k:Nat}(a:ShAt H s b i j k) :
  ad prog 212 [.agg #[pt b,nI x.ap,nI x.ag,nI x.ai,nI x.ah,.bool ch],nI v] H [] (Is (nI (md s x ch v)) H):=by
 have hA:=cP (a9 o.ic) hx.2.1.1
 have hW:=cP (a9 o.wa) hv.1
 refine gi (Eq.mpr (uI _ s x ch v) ?_) (gU s) rfl rfl (fun _=>rfl) a.1 a.objs rfl rfl
 delta l4 jcb nI slQ fk nw bw c1q
 refine ⟨⟨rfl,trivial⟩,fun H' _ h=>vt (a9 o.wa) (by omega) h.1,⟨rfl,trivial⟩,fun H' _ h=>vt (a9 o.ic) (by have:=hx.2.1;omega) h.1,?_⟩
 simp only[md,jJ]
 generalize (ar s.ic x.ag).1=A at hA ⊢
 generalize (ar s.ic x.ag).2=B at hA ⊢
 generalize (ar s.wa v).1=W at hW ⊢
 generalize (ar s.wa v).2=D at hW ⊢
 have m1:=iI o.slow.1 o.slow.2 hv.1 hv.2
 have m2:=iI (a:=A) (b:=1000+s.slow*v) (A:=8000000) (B:=6000) hA.2.1 (by omega) (by omega) (by omega)
 have m3:=iI (a:=W) (b:=B*10000000) (A:=8000000) (B:=4000000000) hW.2.1 (by omega) (by omega) (by omega)
 have m4:=iI (a:=D) (b:=B*10000000) (A:=400) (B:=4000000000) (by omega) (by omega) (by omega) (by omega)
 have m5:=iI o.prs.1 o.prs.2 hx.2.2.2.1 hx.2.2.2.2
 have m6:=iI (a:=s.prs*x.ah) (b:=D) (A:=15000) (B:=400) m5.1 (by omega) (by omega) (by omega)
 have m7:=iI (a:=s.prs*x.ah*D) (b:=B*10000000) (A:=6000000) (B:=4000000000) m6.1 (by omega) (by omega) (by omega)
 have m8:1<=D*(B*10000000):=by
  have:1*1<=D*(B*10000000):=Int.mul_le_mul (by omega) (by omega) (by omega) (by omega)
  omega
 have fin:∀N:Int,0<=N->N<=680000000000000->(0<=N*D/\N*D<=680000000000000*400)/\0<=Int.tdiv (W*(B*10000000)+N*D+s.prs*x.ah*D*(B*10000000)+D*(B*10000000)-1) (D*(B*10000000))/\Int.tdiv (W*(B*10000000)+N*D+s.prs*x.ah*D*(B*10000000)+D*(B*10000000)-1) (D*(B*10000000))<=1000000000000000000:=fun N h0 h1=>by
  have q:=iI (a:=N) (b:=D) (A:=680000000000000) (B:=400) h0 h1 (by omega) (by omega)
  refine ⟨q,?_⟩
  rw[Int.tdiv_eq_ediv_of_nonneg (by omega)]
  refine ⟨Int.ediv_nonneg (by omega) (by omega),Int.le_trans (Int.ediv_le_self _ (by omega)) (by omega)⟩
 refine ⟨fun hc =>?_,fun hc =>?_⟩
 ·subst hc
  have n1:=iI (a:=A*(1000+s.slow*v)) (b:=s.aw) (A:=48000000000) (B:=100) m2.1 (by omega) o.aw.1 o.aw.2
  have n2:=iI (a:=x.ap) (b:=A*(1000+s.slow*v)*s.aw+s.rdg*0*B*100000) (A:=100) (B:=6800000000000) hx.1.1 hx.1.2 (by rw[Int.mul_zero,Int.zero_mul,Int.zero_mul];omega) (by rw[Int.mul_zero,Int.zero_mul,Int.zero_mul];omega)
  have e0:s.rdg*0=0:=Int.mul_zero _
  have e1:s.rdg*0*B=0:=by rw[e0,Int.zero_mul]
  obtain ⟨f1,f2⟩:=fin _ n2.1 (by omega)
  refine ⟨ak (by omega),ak (by omega),ak (by omega),⟨_,rfl,ak (by omega),ak (by omega),ak (by omega),⟨_,rfl,ak (by omega),ak (by omega),⟨_,rfl,ak (by omega),ak (by omega),⟨_,rfl,ak (by omega),ak (by omega),⟨_,rfl,ak (by omega),⟨_,rfl,ak (by omega),ak (by omega),⟨_,rfl,ak (by omega),ak (by omega),ak (by omega),ak (by omega),⟨_,rfl,ak (by omega),ak (by omega),by omega,ak (by omega),⟨_,rfl,rfl⟩⟩⟩⟩⟩⟩⟩⟩⟩⟩
 ·subst hc
  have r1:=iI o.rdg.1 o.rdg.2 hx.2.2.1.1 hx.2.2.1.2
  have r2:=iI (a:=s.rdg*x.ai) (b:=B) (A:=50000) (B:=400) r1.1 (by omega) (by omega) (by omega)
  have n2:=iI (a:=x.ap) (b:=A*(1000+s.slow*v)*100+s.rdg*x.ai*B*100000) (A:=100) (B:=6800000000000) hx.1.1 hx.1.2 (by omega) (by omega)
  obtain ⟨f1,f2⟩:=fin _ n2.1 (by omega)
  refine ⟨ak (by omega),ak (by omega),ak (by omega),⟨_,rfl,ak (by omega),ak (by omega),ak (by omega),⟨_,rfl,ak (by omega),ak (by omega),ak (by omega),⟨_,rfl,ak (by omega),⟨_,rfl,ak (by omega),ak (by omega),ak (by omega),⟨_,rfl,ak (by omega),ak (by omega),⟨_,rfl,ak (by omega),ak (by omega),ak (by omega),ak (by omega),⟨_,rfl,ak (by omega),ak (by omega),by omega,ak (by omega),⟨_,rfl,rfl⟩⟩⟩⟩⟩⟩⟩⟩⟩
theorem H5{x:Ice}(hx:f4 x){v:Int}(hv:0<=v/\v<=250){ch:Bool}{H:Heap}(hH:1<=H.length):ad prog 215 [oR x,nI v,.bool ch] H [] (Is (nI (gA x v ch)) H):=by
 refine l9 40 (fun _=>rfl) rfl (Eq.mpr (I2 _ x v ch) ?_) hH
 delta E9 jcc nI fk nw
 have m:=iI (a:=x.ag) (b:=100+v) (A:=400) (B:=350) hx.2.1.1 hx.2.1.2 (by omega) (by omega)
 have t:0<=Int.tdiv (x.ag*(100+v)+1) 2/\Int.tdiv (x.ag*(100+v)+1) 2<=140001:=wK (by omega) (by omega) (by omega)
 obtain ⟨h1,h2,h3,h4⟩:=hx
 refine ⟨ak (by omega),ak (by omega),fun hc =>?_,fun hc =>?_⟩ <;> subst hc
 ·refine ⟨ak (by omega),ak (by omega),fun e =>?_,fun e =>?_⟩
  ·have e:=of_decide_eq_true e;unfold gA;rw[if_pos (by simpa using e)]
  ·refine ⟨ak (by omega),ak (by omega),ak (by omega),iEq ?_⟩
   unfold gA
   rw[if_neg (by simpa using e),if_pos rfl,if_pos rfl];omega
 ·refine ⟨fun e =>?_,fun e =>?_⟩
  ·unfold gA;rw[if_pos (by simpa using e)]
  ·refine ⟨ak (by omega),ak (by omega),ak (by omega),ak (by omega),iEq ?_⟩
   unfold gA
   rw[if_neg (by simpa using e),if_neg (by simp),if_neg (by simp)]
theorem nE{s:Shp}(o:kO s){x:Ice}(hx:f4 x){ch:Bool}{v:Int}(hv:0<=v/\v<=250){H:Heap}{b i j k:Nat}(a:ShAt H s b i j k) :
  ad prog 191 [.agg #[pt b,nI x.ap,nI x.ag,nI x.ai,nI x.ah,.bool ch],nI v] H [] (Is (.bool (mkB s x ch v)) H):=by
 have hn:=(a9 o.th).len
 refine gi (Eq.mpr (G5 _ s x ch v) ?_) (gU s) rfl rfl (fun _=>rfl) a.1 a.objs rfl rfl
 delta B1 jc2 jc1 jcd jc0 nI slQ pt ac fk c1q
 refine ⟨⟨rfl,trivial⟩,fun H' _ h=>CZ _ (by omega) (by omega) h.1,fun e=>⟨⟨rfl,rfl,rfl,rfl,rfl,trivial⟩,fun H' _ h=>CS o (by omega) ⟨by decide,h.1,h.2.1,h.2.2.1,h.2.2.2.1,h.2.2.2.2.1⟩,⟨rfl,rfl,rfl,rfl,rfl,trivial⟩,fun H' _ h=>Ju o hx hv ⟨by decide,h.1,h.2.1,h.2.2.1,h.2.2.2.1,h.2.2.2.2.1⟩,?_⟩,fun e =>?_⟩
 ·unfold mkB;rw[e,Bool.true_and]
 ·unfold mkB;rw[e];rfl
theorem vu{s:Shp}(o:kO s){x:Ice}(hx:f4 x){ch:Bool}{v:Int}(hv:0<=v/\v<=250){H:Heap}{b i j k:Nat}(a:ShAt H s b i j k) :
  ad prog 193 [.agg #[pt b,nI x.ap,nI x.ag,nI x.ai,nI x.ah,.bool ch],nI v] H [] (Is (.bool (brB s x ch v)) H):=by
 have hc:=o.cls
 refine gi (Eq.mpr (He _ s x ch v) ?_) (gU s) rfl rfl (fun _=>rfl) a.1 a.objs rfl rfl
 delta Cd jce nI nw ixq c0q
 refine ⟨ak (by omega),⟨by omega,by omega⟩,?_,trivial,fun H' hl _=>H5 hx hv (by omega),rfl⟩
 have:Int.toNat (s.cls-1)<6:=by omega
 generalize Int.toNat (s.cls-1)=q at this ⊢
 match q,this with
 |0,_=>rfl
 |1,_=>rfl
 |2,_=>rfl
 |3,_=>rfl
 |4,_=>rfl
 |5,_=>rfl
theorem uo{f:Int->Bool}{n:Nat}{lo hi:Int}(h:¬ lo<hi):bsG f n lo hi=lo:=by
 cases n with
 |zero=>rfl
 |succ n=>show (if lo<hi then _ else _)=_;rw[if_neg h]
theorem BH{f:Int->Bool}{n:Nat}{lo hi:Int}(h:lo<hi)(hn:0<n):bsG f n lo hi=if f (lo+Int.tdiv (hi-lo+1) 2)=true then bsG f (n-1) (lo+Int.tdiv (hi-lo+1) 2) hi else bsG f (n-1) lo (lo+Int.tdiv (hi-lo+1) 2-1):=by
 cases n with
 |zero=>omega
 |succ n=>show (if lo<hi then _ else _)=_;rw[if_pos h];rfl
theorem AO{s:Shp}(o:kO s){x:Ice}(hx:f4 x){ch:Bool}{H:Heap}{b i j k:Nat}(a:ShAt H s b i j k) :
  ad prog 181 [.agg #[pt b,nI x.ap,nI x.ag,nI x.ai,nI x.ah,.bool ch]] H [] (Is (nI (e9 s x ch)) H):=by
 refine gi (Eq.mpr (G2 _ s x ch) ?_) (gU s) rfl rfl (fun _=>rfl) a.1 a.objs rfl rfl
 delta BZ jc2 jc1 jc8 jca jcf jcj jc9 jcg jc0 nI slQ pt ac fk nw eR
 refine ⟨⟨rfl,rfl,rfl,rfl,rfl,trivial⟩,fun H' _ h=>nE o hx (by omega) ⟨by decide,h.1,h.2.1,h.2.2.1,h.2.2.2.1,h.2.2.2.2.1⟩,fun e =>?_,fun e =>?_⟩
 ·unfold e9 grG;rw[kl e];rfl
 ·have es:e9 s x ch=bsG (mkB s x ch) 250 0 250:=by unfold e9 grG;rw[dL e];rfl
  refine ⟨rfl,⟨⟨by decide,by decide,by decide,by decide⟩,rfl⟩,?_,fun _=>rfl,fun q ⟨⟨q1,q2,q3,q4⟩,q5⟩=>⟨fun c =>?_,fun c =>?_⟩⟩
  ·repeat' first|exact trivial|refine ⟨rfl,?_⟩|refine ⟨trivial,?_⟩|apply And.intro
  ·have hc:=of_decide_eq_true c
   have t:Int.tdiv (q.2.2-q.2.1+1) 2=(q.2.2-q.2.1+1) / 2:=Int.tdiv_eq_ediv_of_nonneg (by omega)
   have hg:=BH (f:=mkB s x ch) (n:=q.1) hc (by omega)
   rw[q5]at hg
   generalize Int.tdiv (q.2.2-q.2.1+1) 2=m at t hg ⊢
   refine ⟨ak (by omega),ak (by omega),ak (by omega),ak (by omega),⟨rfl,rfl,rfl,rfl,rfl,trivial⟩,fun H' _ h=>nE o hx (by omega) ⟨by decide,h.1,h.2.1,h.2.2.1,h.2.2.2.1,h.2.2.2.2.1⟩,fun d =>?_,fun d =>?_⟩
   ·rw[if_pos d]at hg
    refine ⟨(q.1-1,q.2.1+m,q.2.2),⟨⟨by show q.2.1+m<=q.2.2;omega,by show q.2.2-(q.2.1+m)<=((q.1-1:Nat):Int);omega,by show 0<=q.2.1+m;omega,q4⟩,hg.symm⟩,by show q.1-1<q.1;omega,?_⟩
    repeat' first|exact trivial|refine ⟨rfl,?_⟩|refine ⟨trivial,?_⟩|apply And.intro
   ·rw[if_neg (by rw[d];simp)]at hg
    refine ⟨ak (by omega),(q.1-1,q.2.1,q.2.1+m-1),⟨⟨by show q.2.1<=q.2.1+m-1;omega,by show q.2.1+m-1-q.2.1<=((q.1-1:Nat):Int);omega,q3,by show q.2.1+m-1<=250;omega⟩,hg.symm⟩,by show q.1-1<q.1;omega,?_⟩
    repeat' first|exact trivial|refine ⟨rfl,?_⟩|refine ⟨trivial,?_⟩|apply And.intro
  ·have hc:=of_decide_eq_false c
   rw[es,<- q5,uo hc]
theorem H9{s:Shp}(o:kO s){x:Ice}(hx:f4 x){ch:Bool}{H:Heap}{b i j k:Nat}(a:ShAt H s b i j k) :
  ad prog 182 [.agg #[pt b,nI x.ap,nI x.ag,nI x.ai,nI x.ah,.bool ch]] H [] (Is (.tuple #[nI (goS s x ch).1,.bool (goS s x ch).2]) H):=by
 refine gi (Eq.mpr (I5 _ s x ch) ?_) (gU s) rfl rfl (fun _=>rfl) a.1 a.objs rfl rfl
 delta Fb jc2 jc1 jc7 jch jcf jci jc5 jc6 jc0 nI slQ pt ac fk nw eR
 have hat:∀{H':Heap} {Q:Prop},(H'[0]?=some bC/\H'[1]?=some (.cells true 0 (uT s 2 3 4))/\H'[2]?=some (.cells true 2 (s.th.flatMap ptC))/\H'[3]?=some (.cells true 2 (s.wa.flatMap ptC))/\H'[4]?=some (.cells true 2 (s.ic.flatMap ptC))/\Q)->ShAt H' s 1 2 3 4:=fun h=>⟨by decide,h.1,h.2.1,h.2.2.1,h.2.2.2.1,h.2.2.2.2.1⟩
 refine ⟨⟨rfl,rfl,rfl,rfl,rfl,trivial⟩,fun H' _ h=>nE o hx (by omega) (hat h),fun e=>⟨⟨rfl,rfl,rfl,rfl,rfl,trivial⟩,fun H' _ h=>vu o hx (by omega) (hat h),fun e2 =>?_,fun e2 =>?_⟩,fun e =>?_⟩
 ·unfold goS grG mbB;rw[kl e2,Bool.and_false];rfl
 ·have es:goS s x ch=(bsG (mbB s x ch) 240 10 250,true):=by
   unfold goS grG
   rw[if_pos (by unfold mbB;rw[e,dL e2];rfl)];rfl
  refine ⟨rfl,⟨⟨by decide,by decide,by decide,by decide⟩,rfl⟩,?_,fun _=>rfl,fun q ⟨⟨q1,q2,q3,q4⟩,q5⟩=>⟨fun c =>?_,fun c =>?_⟩⟩
  ·repeat' first|exact trivial|refine ⟨rfl,?_⟩|refine ⟨trivial,?_⟩|apply And.intro
  ·have hc:=of_decide_eq_true c
   have t:Int.tdiv (q.2.2-q.2.1+1) 2=(q.2.2-q.2.1+1) / 2:=Int.tdiv_eq_ediv_of_nonneg (by omega)
   have hg:=BH (f:=mbB s x ch) (n:=q.1) hc (by omega)
   rw[q5]at hg
   generalize Int.tdiv (q.2.2-q.2.1+1) 2=m at t hg ⊢
   have no:mbB s x ch (q.2.1+m)=false->(q.2.1<=q.2.1+m-1/\q.2.1+m-1-q.2.1<=((q.1-1:Nat):Int)/\10<=q.2.1/\q.2.1+m-1<=250)/\bsG (mbB s x ch) (q.1-1) q.2.1 (q.2.1+m-1)=bsG (mbB s x ch) 240 10 250:=fun d=>by
    rw[if_neg (by rw[d];simp)]at hg
    exact ⟨⟨by omega,by omega,q3,by omega⟩,hg.symm⟩
   refine ⟨ak (by omega),ak (by omega),ak (by omega),ak (by omega),⟨rfl,rfl,rfl,rfl,rfl,trivial⟩,fun H' _ h=>nE o hx (by omega) (hat h),fun d=>⟨⟨rfl,rfl,rfl,rfl,rfl,trivial⟩,fun H' _ h=>vu o hx (by omega) (hat h),fun d2 =>?_,fun d2 =>?_⟩,fun d =>?_⟩
   ·rw[if_pos (by unfold mbB;rw[d,d2];rfl)]at hg
    refine ⟨(q.1-1,q.2.1+m,q.2.2),⟨⟨by show q.2.1+m<=q.2.2;omega,by show q.2.2-(q.2.1+m)<=((q.1-1:Nat):Int);omega,by show 10<=q.2.1+m;omega,q4⟩,hg.symm⟩,by show q.1-1<q.1;omega,?_⟩
    repeat' first|exact trivial|refine ⟨rfl,?_⟩|refine ⟨trivial,?_⟩|apply And.intro
   ·refine ⟨ak (by omega),(q.1-1,q.2.1,q.2.1+m-1),no (by unfold mbB;rw[d,d2];rfl),by show q.1-1<q.1;omega,?_⟩
    repeat' first|exact trivial|refine ⟨rfl,?_⟩|refine ⟨trivial,?_⟩|apply And.intro
   ·refine ⟨ak (by omega),(q.1-1,q.2.1,q.2.1+m-1),no (by unfold mbB;rw[d];rfl),by show q.1-1<q.1;omega,?_⟩
    repeat' first|exact trivial|refine ⟨rfl,?_⟩|refine ⟨trivial,?_⟩|apply And.intro
  ·have hc:=of_decide_eq_false c
   rw[es,<- q5,uo hc]
 ·unfold goS grG mbB;rw[e,Bool.false_and];rfl
def fN(w h:Int)(n:Nat):Int:=if (1<=w/\w<=64)/\(1<=h/\h<=64)/\w*h<=1024 then (if (n:Int)=w*h then 0 else 1) else 6
structure yg(w h:Int)(n:Nat):Prop where
 w1:1<=w/\w<=64
 h1:1<=h/\h<=64
 p1:w*h<=1024
 n1:(n:Int)=w*h
theorem EZ{w h:Int}{n:Nat}(e:fN w h n=0):yg w h n:=by
 unfold fN at e
 split at e
 ·rename_i q
  split at e
  ·rename_i q2;exact ⟨q.1,q.2.1,q.2.2,q2⟩
  ·cases e
 ·cases e
def fh(a:List Bool)(c:Int):Bool:=inB c 0 (((a.length:Nat):Int)-1) && !a.getD (Int.toNat c) false
def kS(w h t:Int):Prop:=(1<=w/\w<=64)/\(1<=h/\h<=64)/\w*h<=1024/\0<=t/\t<=10000
instance (w h t:Int):Decidable (kS w h t):=by unfold kS;infer_instance
def eX(w h t:Int):Int:=if kS w h t then 0 else 6
theorem iT{w h t:Int}:eX w h t=0 ↔ kS w h t:=by unfold eX;split <;> simp_all
def errs{α:Type}(e:α->Int):List α->Int
 | [] =>0
 |x :: xs=>if e x=0 then errs e xs else e x
theorem DG{α:Type}{e:α->Int}{xs:List α}{d:α}{k:Nat}(hk:k<xs.length):errs e (xs.drop k)=if e (xs.getD k d)=0 then errs e (xs.drop (k+1)) else e (xs.getD k d):=by
 rw[List.drop_eq_getElem_cons hk]
 simp only[errs,List.getD_eq_getElem?_getD,List.getElem?_eq_getElem hk,Option.getD_some]
def cD(w h t:Int)(cs:List Cell):Int:=bM (eX w h t) (if (cs.length:Int)=w*h then errs aK cs else 1)
structure Cht where
 w:Int
 h:Int
 hr:Int
 cells:List Cell
def zCh:Cht:=⟨0,0,0,[]⟩
abbrev chC(c:Cht):List Value:=[nI c.w,nI c.h,nI c.hr,.iface (c.cells.length+1) (.agg ⟨c.cells.flatMap cellC⟩)]
structure Pl where
 w:Int
 h:Int
 land:List Bool
 cts:List Cht
 chan:List Bool
 shp:Shp
 size:Int
 frm:Int
 to:Int
abbrev plC(p:Pl)(l c n t w i:Nat):List Value:=[nI p.w,nI p.h,slR l p.land.length,slR c p.cts.length,slR n p.chan.length]++uT p.shp t w i ++ [nI p.size,nI p.frm,nI p.to]
abbrev plV(p:Pl)(l c n t w i:Nat):Value:=.agg ⟨plC p l c n t w i⟩
def ct(p:Pl)(i:Nat):Int :=
 let c:=p.cts.getD i zCh
 bM (cD c.w c.h c.hr c.cells) (if c.w=p.w/\c.h=p.h then (if c.hr=(p.cts.getD 0 zCh).hr+(i:Int) then 0 else 11) else 1)
def bO(p:Pl):Int :=
 bM (fN p.w p.h p.land.length) (if inB ((p.cts.length:Nat):Int) 1 48=false then 2 else
  bM (cd (ct p) p.cts.length) (if p.chan.length≠p.land.length then 1 else bM (aU p.shp) (if inB p.size 1 500=false then 6 else if (fh p.land p.frm&&fh p.land p.to)=false then 1 else 0)))
def endP(p:Pl):Int:=6*((p.cts.length:Nat):Int)
def sfP(p:Pl)(c t:Int):Int:=(sfX p.shp ((p.cts.getD (Int.toNat t) zCh).cells.getD (Int.toNat c) az) (p.chan.getD (Int.toNat c) false)).1
def sfE(p:Pl)(c t:Int):Int:=(sfX p.shp ((p.cts.getD (Int.toNat t) zCh).cells.getD (Int.toNat c) az) (p.chan.getD (Int.toNat c) false)).2
abbrev ug(L:List Int)(n:Int):List Value:=[.iface (L.length+1) (.agg ⟨L.flatMap bc⟩),nI n]
def Gz(L:List Int)(n:Int):Int:=if 0<L.length then IntKind.wrap .i64 (L.getD (Int.toNat (Int.tmod n ((L.length:Nat):Int))) 0+IntKind.wrap .i64 (Int.tdiv n ((L.length:Nat):Int))) else 0
def dN(L:List Int)(n m:Int):Int:=Gz L n % m
theorem eK(L:List Int)(n:Int){m:Int}(hm:1<=m):0<=dN L n m/\dN L n m<m:=by
 unfold dN
 exact ⟨Int.emod_nonneg _ (by omega),Int.emod_lt_of_pos _ (by omega)⟩
abbrev jd1:List Value:=[nI 4000,nI 8000,nI 14000,nI 24000,nI 40000,nI 90000]
abbrev jd0(s:Shp):List Value:=[nI s.cls,nI s.pow,nI s.dra,nI s.ton,slQ 2 2 s.th.length,slQ 3 2 s.wa.length,slQ 4 2 s.ic.length,nI s.slow,nI s.aw,nI s.rdg,nI s.prs]
abbrev jdh(s:Shp):=s.th.flatMap ptC
abbrev jdi(s:Shp):=s.wa.flatMap ptC
abbrev jdj(s:Shp):=s.ic.flatMap ptC
abbrev jd3(s:Shp):Prop:=(ac (.cells true 2 (jdh s)))/\(ac (.cells true 2 (jdi s)))/\(ac (.cells true 2 (jdj s)))/\True
abbrev jdk(s:Shp):Prop:=(ac (.cells false 0 jd1))/\(ac (.cells true 0 (jd0 s)))/\jd3 s
abbrev jd6(H':Heap)(s:Shp):Prop:=H'[0]?=some (.cells false 0 jd1:aa)/\H'[1]?=some (.cells true 0 (jd0 s):aa)/\H'[2]?=some (.cells true 2 (jdh s):aa)/\H'[3]?=some (.cells true 2 (jdi s):aa)/\H'[4]?=some (.cells true 2 (jdj s):aa)/\True
def BX(sp:Value)(s:Shp)(c:Cell)(ch:Bool):Prop :=
 ((jdk s)/\(∀H':Heap,H'.length=7->(jd6 H' s)->ad prog 181 [.agg #[pt 1,nI c.ap.hi,nI c.ag.hi,nI c.ai.hi,nI c.ah.hi,.bool ch]] H' [] (Is (nI (e9 s (bX c) ch)) H'))/\(fk (decide (((e9 s (bX c) ch):Int)<10)) ((.tuple #[nI 0,nI 4]:Value)=sp) ((jdk s)/\(∀H':Heap,H'.length=7->(jd6 H' s)->ad prog 182 [.agg #[pt 1,nI c.ap.hi,nI c.ag.hi,nI c.ai.hi,nI c.ah.hi,.bool ch]] H' [] (Is (.tuple #[nI (goS s (bX c) ch).1,.bool (goS s (bX c) ch).2]) H'))/\(fk (!(goS s (bX c) ch).2) ((.tuple #[nI 0,nI 41]:Value)=sp) ((.tuple #[nI (goS s (bX c) ch).1,nI 0]:Value)=sp)))))
abbrev jd9(s:Shp):List (Nat×aa):=[(0,.cells false 0 jd1),(1,.cells true 0 (jd0 s)),(2,.cells true 2 (jdh s)),(3,.cells true 2 (jdi s)),(4,.cells true 2 (jdj s))]
abbrev jdg:Hint:=.fork (.auto) (.auto)
theorem G1(sp:Value)(s:Shp)(c:Cell)(ch:Bool):vF prog msk (dm 0) 100000 true 40 true 135 [pt 1,.agg #[nI c.ap.lo,nI c.ap.hi,nI c.ag.lo,nI c.ag.hi,nI c.ai.lo,nI c.ai.hi,nI c.ah.lo,nI c.ah.hi],.bool ch] (aG [.cells false 0 jd1,.cells true 0 (jd0 s),.cells true 2 (jdh s),.cells true 2 (jdi s),.cells true 2 (jdj s)]) (some [])
 (.go 26 (.ans (jd9 s) (nI (e9 s (bX c) ch)) [] (.go 0 (.fork (.auto) (.go 0 (.ans (jd9 s) (.tuple #[nI (goS s (bX c) ch).1,.bool (goS s (bX c) ch).2]) [] (.go 6 jdg)))))))
 (fun v _ _=>v=sp)=BX sp s c ch:=by kernel_rfl
abbrev jdc(c:Cell):List Value:=[.agg #[nI c.ap.lo,nI c.ap.hi,nI c.ag.lo,nI c.ag.hi,nI c.ai.lo,nI c.ai.hi,nI c.ah.lo,nI c.ah.hi]]
def IR(sp:Value)(s:Shp)(c:Cell):Prop :=
 (c3q 6 1 (.cells false 0 (jdh s)) 2 (.cells false 0 (jdi s)) 3 (.cells false 0 (jdj s)) 79 [.agg #[nI s.cls,nI s.pow,nI s.dra,nI s.ton,slQ 1 2 s.th.length,slQ 2 2 s.wa.length,slQ 3 2 s.ic.length,nI s.slow,nI s.aw,nI s.rdg,nI s.prs]] (nI (aU s)) (fk (((aU s):Int) != 0) ((nI (aU s):Value)=sp) (c0q 6 128 (jdc c) (nI (aK c)) ((nI (aK c):Value)=sp))))
abbrev jd5(s:Shp)(c:Cell):List Value:=[.agg #[nI s.cls,nI s.pow,nI s.dra,nI s.ton,slQ 1 2 s.th.length,slQ 2 2 s.wa.length,slQ 3 2 s.ic.length,nI s.slow,nI s.aw,nI s.rdg,nI s.prs],.agg #[nI c.ap.lo,nI c.ap.hi,nI c.ag.lo,nI c.ag.hi,nI c.ai.lo,nI c.ai.hi,nI c.ah.lo,nI c.ah.hi]]
theorem J1(sp:Value)(s:Shp)(c:Cell):vF prog msk (dm 0) 100000 true 40 true 134 (jd5 s c) (cq 1 [s.th.flatMap ptC,s.wa.flatMap ptC,s.ic.flatMap ptC]) (some [])
 (.go 3 (.ans [(1,.cells false 0 (jdh s)),(2,.cells false 0 (jdi s)),(3,.cells false 0 (jdj s))] (nI (aU s)) [] (.go 2 (.fork (.auto) (.go 0 (.ans [] (nI (aK c)) [] (.auto)))))))
 (fun v _ _=>v=sp)=IR sp s c:=by kernel_rfl
abbrev jd4(s:Shp):List Value:=[nI s.cls,nI s.pow,nI s.dra,nI s.ton,slQ 1 2 s.th.length,slQ 2 2 s.wa.length,slQ 3 2 s.ic.length,nI s.slow,nI s.aw,nI s.rdg,nI s.prs]
def B6(sp:Value)(s:Shp)(c:Cell)(ch:Bool):Prop :=
 (c3q 6 1 (.cells true 2 (jdh s)) 2 (.cells true 2 (jdi s)) 3 (.cells true 2 (jdj s)) 134 (jd5 s c) (nI (bM (aU s) (aK c))) (fk (((bM (aU s) (aK c)):Int) != 0) ((.tuple #[nI 0,nI (bM (aU s) (aK c))]:Value)=sp) (((ac (.cells false 0 jd1))/\(ac (.cells true 0 (jd4 s)))/\jd3 s)/\(∀H':Heap,H'.length=6->(H'[0]?=some (.cells false 0 jd1:aa)/\H'[4]?=some (.cells true 0 (jd4 s):aa)/\H'[1]?=some (.cells true 2 (jdh s):aa)/\H'[2]?=some (.cells true 2 (jdi s):aa)/\H'[3]?=some (.cells true 2 (jdj s):aa)/\True)->ad prog 135 [pt 4,.agg #[nI c.ap.lo,nI c.ap.hi,nI c.ag.lo,nI c.ag.hi,nI c.ai.lo,nI c.ai.hi,nI c.ah.lo,nI c.ah.hi],.bool ch] H' [] (Is (.tuple #[nI (sfS s c ch).1,nI (sfS s c ch).2]) H'))/\(.tuple #[nI (sfS s c ch).1,nI (sfS s c ch).2]:Value)=sp)))
theorem G8(sp:Value)(s:Shp)(c:Cell)(ch:Bool):vF prog msk (dm 0) 100000 true 40 true 83 [.agg #[nI s.cls,nI s.pow,nI s.dra,nI s.ton,slQ 1 2 s.th.length,slQ 2 2 s.wa.length,slQ 3 2 s.ic.length,nI s.slow,nI s.aw,nI s.rdg,nI s.prs],.agg #[nI c.ap.lo,nI c.ap.hi,nI c.ag.lo,nI c.ag.hi,nI c.ai.lo,nI c.ai.hi,nI c.ah.lo,nI c.ah.hi],.bool ch] (aG [.cells false 0 jd1,.cells true 2 (jdh s),.cells true 2 (jdi s),.cells true 2 (jdj s)]) (some [])
 (.go 5 (.ans [(1,.cells true 2 (jdh s)),(2,.cells true 2 (jdi s)),(3,.cells true 2 (jdj s))] (nI (bM (aU s) (aK c))) [] (.go 2 (.fork (.auto) (.go 1 (.ans [(0,.cells false 0 jd1),(4,.cells true 0 (jd4 s)),(1,.cells true 2 (jdh s)),(2,.cells true 2 (jdi s)),(3,.cells true 2 (jdj s))] (.tuple #[nI (sfS s c ch).1,nI (sfS s c ch).2]) [] (.auto)))))))
 (fun v _ _=>v=sp)=B6 sp s c ch:=by kernel_rfl
abbrev jd8(sp:Value):Prop:=(nI 20:Value)=sp
abbrev jdl:Value:=nI 0
def Cc(sp:Value)(c:Cell):Prop :=
 (fk (decide ((0:Int)<=c.ap.lo)) (fk (decide ((c.ap.lo:Int)<=100)) (fk (decide ((c.ap.lo:Int)<=c.ap.hi)) (fk (!(decide ((c.ap.hi:Int)<=100))) (jd8 sp) (fk (decide ((0:Int)<=c.ag.lo)) (fk (decide ((c.ag.lo:Int)<=400)) (fk (decide ((c.ag.lo:Int)<=c.ag.hi)) (fk (!(decide ((c.ag.hi:Int)<=400))) (jd8 sp) (fk (decide ((0:Int)<=c.ai.lo)) (fk (decide ((c.ai.lo:Int)<=100)) (fk (decide ((c.ai.lo:Int)<=c.ai.hi)) (fk (!(decide ((c.ai.hi:Int)<=100))) (jd8 sp) (fk (decide ((0:Int)<=c.ah.lo)) (fk (decide ((c.ah.lo:Int)<=3)) (fk (decide ((c.ah.lo:Int)<=c.ah.hi)) (fk (!(decide ((c.ah.hi:Int)<=3))) (jd8 sp) (jdl=sp)) (jd8 sp)) (jd8 sp)) (jd8 sp))) (jd8 sp)) (jd8 sp)) (jd8 sp))) (jd8 sp)) (jd8 sp)) (jd8 sp))) (jd8 sp)) (jd8 sp)) (jd8 sp))
theorem Hd(sp:Value)(c:Cell):vF prog msk (dm 0) 100000 true 40 true 128 (jdc c) ⟨1,.leaf⟩ (some [])
 (.go 54 (.aM (.go 5 (.aM (.go 15 (.aM (.go 8 (.fork (.auto) (.go 30 (.aM (.go 5 (.aM (.go 15 (.aM (.go 8 (.fork (.auto) (.go 30 (.aM (.go 5 (.aM (.go 15 (.aM (.go 8 (.fork (.auto) (.go 30 (.aM (.go 5 (.aM (.go 15 (.aM (.go 8 jdg) (.auto))) (.auto))) (.auto))))) (.auto))) (.auto))) (.auto))))) (.auto))) (.auto))) (.auto))))) (.auto))) (.auto))) (.auto)))
 (fun v _ _=>v=sp)=Cc sp c:=by kernel_rfl
abbrev jda(sp:Value):Prop:=(nI 6:Value)=sp
def B5(sp:Value)(w h t:Int):Prop :=
 (fk (decide ((1:Int)<=w)) (fk (!(decide ((w:Int)<=64))) (jda sp) (fk (decide ((1:Int)<=h)) (fk (!(decide ((h:Int)<=64))) (jda sp) (nw (w*h) (fk (decide ((1024:Int)<(w*h))) (jda sp) (fk (decide ((0:Int)<=t)) (fk (!(decide ((t:Int)<=10000))) (jda sp) (jdl=sp)) (jda sp))))) (jda sp))) (jda sp))
theorem G7(sp:Value)(w h t:Int):vF prog msk (dm 0) 100000 true 40 true 126 [nI w,nI h,nI t] ⟨1,.leaf⟩ (some [])
 (.go 7 (.aM (.go 6 (.aM (.auto) (.go 6 (.aM (.go 7 (.aM (.auto) (.go 2 (.slot 18 (nI (w*h)) (.go 2 (.aM (.auto) (.go 6 (.aM (.go 6 jdg) (.auto))))))))) (.auto))))) (.auto)))
 (fun v _ _=>v=sp)=B5 sp w h t:=by kernel_rfl
abbrev jdd(cs:List Cell):Prop:=eR (.func (.func 128) #[] #[])/\wR (slQ 1 2 cs.length)/\eR (nI ((cs.length:Nat):Int))/\True
abbrev jd7(cs:List Cell)(x0:Nat):Value:=.agg #[nI (cs.getD x0 az).ap.lo,nI (cs.getD x0 az).ap.hi,nI (cs.getD x0 az).ag.lo,nI (cs.getD x0 az).ag.hi,nI (cs.getD x0 az).ai.lo,nI (cs.getD x0 az).ai.hi,nI (cs.getD x0 az).ah.lo,nI (cs.getD x0 az).ah.hi]
def xW(sp:Value)(cs:List Cell):Prop :=
 (lq (0<=List.length cs/\sp=nI (errs aK (cs.drop 0))) (true=true/\(jdl=nI ((0:Nat):Int)/\jdd cs)/\(True)/\(True)/\(True)) (∀x0:Nat,(x0<=List.length cs/\sp=nI (errs aK (cs.drop x0)))->(fk (decide (((x0:Int):Int)<((cs.length:Nat):Int))) ((ixq (x0:Int) cs.length)/\((cN 8 (cs.flatMap cellC) (0+Int.toNat (x0:Int)*8)=some (jd7 cs x0))/\(c0q 3 128 [.agg #[nI (cs.getD x0 az).ap.lo,nI (cs.getD x0 az).ap.hi,nI (cs.getD x0 az).ag.lo,nI (cs.getD x0 az).ag.hi,nI (cs.getD x0 az).ai.lo,nI (cs.getD x0 az).ai.hi,nI (cs.getD x0 az).ah.lo,nI (cs.getD x0 az).ah.hi]] (nI (aK (cs.getD x0 az))) (fk (((aK (cs.getD x0 az)):Int) != 0) ((nI (aK (cs.getD x0 az)):Value)=sp) (nw ((x0:Int)+1) (∃x0':Nat,(x0'<=List.length cs/\sp=nI (errs aK (cs.drop x0')))/\(List.length cs-x0')<(List.length cs-x0)/\true=true/\((nI ((x0:Int)+1):Value)=nI (x0':Int)/\jdd cs)/\(True)/\(True)/\(True))))))) (jdl=sp))))
theorem Ej(sp:Value)(cs:List Cell):vF prog msk (dm 0) 100000 true 40 true 127 [slQ 1 2 cs.length,.func (.func 128) #[] #[]] (cq 1 [cs.flatMap cellC]) (some [])
 (.go 3 (.inv 3 (Nat) (0) [] [] (fun x0=>[(10,nI (x0:Int)),(1,.func (.func 128) #[] #[]),(8,slQ 1 2 cs.length),(9,nI ((cs.length:Nat):Int))]) (fun x0=>[]) (fun x0=>[]) (fun x0=>[]) (fun x0=>(x0<=List.length cs/\sp=nI (errs aK (cs.drop x0)))) (fun x0=>(List.length cs-x0)) (fun x0 => .go 0 (.fork (.need (.val (jd7 cs x0) (.go 3 (.ans [] (nI (aK (cs.getD x0 az))) [] (.go 2 (.fork (.auto) (.go 0 (.slot 20 (nI ((x0:Int)+1)) (.go 0 (.again [])))))))))) (.auto)))))
 (fun v _ _=>v=sp)=xW sp cs:=by kernel_rfl
def xY(sp:Value)(w h t:Int)(cs:List Cell):Prop :=
 (c0q 3 126 [nI w,nI h,nI t] (nI (eX w h t)) (fk (((eX w h t):Int) != 0) ((nI (eX w h t):Value)=sp) (nw (w*h) (fk ((((cs.length:Nat):Int):Int) != (w*h)) ((nI 1:Value)=sp) (c1q 3 1 (.cells false 0 (cs.flatMap cellC)) 127 [slQ 1 2 cs.length,.func (.func 128) #[] #[]] (nI (errs aK cs)) ((nI (errs aK cs):Value)=sp))))))
theorem En(sp:Value)(w h t:Int)(cs:List Cell):vF prog msk (dm 0) 100000 true 40 true 78 [.agg #[nI w,nI h,nI t,slQ 1 2 cs.length]] (cq 1 [cs.flatMap cellC]) (some [])
 (.go 7 (.ans [] (nI (eX w h t)) [] (.go 2 (.fork (.auto) (.go 7 (.slot 21 (nI (w*h)) (.go 0 (.fork (.auto) (.go 1 (.ans [(1,.cells false 0 (cs.flatMap cellC))] (nI (errs aK cs)) [] (.auto)))))))))))
 (fun v _ _=>v=sp)=xY sp w h t cs:=by kernel_rfl
abbrev jdf(a:List Bool):Int:=(a.length:Nat)
def xZ(sp:Value)(w h:Int)(a:List Bool):Prop :=
 (fk (decide ((1:Int)<=w)) (fk (!(decide ((w:Int)<=64))) (jda sp) (fk (decide ((1:Int)<=h)) (fk (!(decide ((h:Int)<=64))) (jda sp) (nw (w*h) (fk (decide ((1024:Int)<(w*h))) (jda sp) (nw (w*h) (fk (((jdf a):Int) != (w*h)) ((nI 1:Value)=sp) (jdl=sp)))))) (jda sp))) (jda sp))
theorem Eo(sp:Value)(w h:Int)(a:List Bool):vF prog msk (dm 0) 100000 true 40 true 76 [.agg #[nI w,nI h,slQ 1 2 a.length]] (cq 1 [a.flatMap af]) (some [])
 (.go 9 (.aM (.go 6 (.aM (.auto) (.go 7 (.aM (.go 7 (.aM (.auto) (.go 4 (.slot 19 (nI (w*h)) (.go 2 (.fork (.auto) (.go 7 (.slot 30 (nI (w*h)) (.go 1 jdg))))))))) (.auto))))) (.auto)))
 (fun v _ _=>v=sp)=xZ sp w h a:=by kernel_rfl
def IP(sp:Value)(w h:Int)(a:List Bool)(c1_:Int):Prop :=
 (nw ((jdf a)-1) (c0q 3 77 [nI c1_,nI 0,nI ((jdf a)-1)] (.bool (inB c1_ 0 ((jdf a)-1))) (fk (inB c1_ 0 ((jdf a)-1)) ((ixq c1_ a.length)/\(((a.flatMap af)[(0+Int.toNat c1_*1)]?=some (.bool (a.getD c1_.toNat false)))/\(.bool (!(a.getD c1_.toNat false)):Value)=sp)) ((.bool false:Value)=sp))))
theorem JY(sp:Value)(w h:Int)(a:List Bool)(c1_:Int):vF prog msk (dm 0) 100000 true 40 true 60 [.agg #[nI w,nI h,slQ 1 2 a.length],nI c1_] (cq 1 [a.flatMap af]) (some [])
 (.go 6 (.slot 9 (nI ((jdf a)-1)) (.ans [] (.bool (inB c1_ 0 ((jdf a)-1))) [] (.go 0 (.aM (.go 2 (.need (.val (.bool (a.getD c1_.toNat false)) (.auto)))) (.auto))))))
 (fun v _ _=>v=sp)=IP sp w h a c1_:=by kernel_rfl
def E6(sp:Value)(x n:Int):Prop :=
 (fk (decide ((n:Int)<1)) (jdl=sp) (((n:Int)≠0)/\(fk (decide (((Int.tmod x n):Int)<0)) (nw ((Int.tmod x n)+n) ((nI ((Int.tmod x n)+n):Value)=sp)) ((nI (Int.tmod x n):Value)=sp))))
theorem IY(sp:Value)(x n:Int):vF prog msk (dm 0) 100000 true 40 true 26 [nI x,nI n] ⟨1,.leaf⟩ (some [])
 (.go 2 (.fork (.auto) (.go 1 (.need (.go 2 (.fork (.go 2 (.slot 15 (nI ((Int.tmod x n)+n)) (.auto))) (.auto)))))))
 (fun v _ _=>v=sp)=E6 sp x n:=by kernel_rfl
abbrev jde(L:List Int):Int:=(L.length:Nat)
abbrev jd2(L:List Int)(n:Int):=IntKind.wrap .i64 ((L.getD (Int.tmod n (jde L)).toNat 0)+(IntKind.wrap .i64 (Int.tdiv n (jde L))))
abbrev jdb(L:List Int)(n:Int):aa:=.cells true 0 [.iface (L.length+1) (.agg ⟨(L.flatMap bc)⟩),nI (n+1)]
def E7(L:List Int)(n m:Int):Prop :=
 (fk (decide ((0:Int)<(jde L))) ((((jde L):Int)≠0)/\((ixq (Int.tmod n (jde L)) L.length)/\(((L.flatMap bc)[(Int.toNat (Int.tmod n (jde L))*1)]?=some (nI (L.getD (Int.tmod n (jde L)).toNat 0)))/\((((jde L):Int)≠0)/\(nw (n+1) (c0q 2 26 [nI (jd2 L n),nI m] (nI ((jd2 L n) % m)) (true=true/\wk (nI ((jd2 L n) % m):Value) (rn (sg 2 []) 3 (nI (dN L n m):Value))/\((krq 2 (jdb L n))/\True)/\(True)))))))) (nw (n+1) (c0q 2 26 [nI 0,nI m] (nI (0 % m)) (true=true/\wk (nI (0 % m):Value) (rn (sg 2 []) 3 (nI (dN L n m):Value))/\((krq 2 (jdb L n))/\True)/\(True)))))
theorem IZ(L:List Int)(n m:Int):vF prog msk (dm 0) 100000 true 40 true 89 [pt 1,nI m] (eN 1 0 (ug L n) []) (some [1])
 (.go 7 (.fork (.go 12 (.need (.need (.val (nI (L.getD (Int.tmod n (jde L)).toNat 0)) (.go 8 (.need (.go 6 (.slot 43 (nI (n+1)) (.go 4 (.ans [] (nI ((jd2 L n) % m)) [] (.go 0 (.keep (.again []))))))))))))) (.go 4 (.slot 43 (nI (n+1)) (.go 4 (.ans [] (nI (0 % m)) [] (.go 0 (.keep (.again [])))))))))
 (Ak ((eN 1 0 (ug L n) []):HT).n 3 1 (jdb L n) (nI (dN L n m)) [])=E7 L n m:=by kernel_rfl
theorem dY{c:Cell}:aK c=0 ↔ bk c:=by unfold aK;split <;> simp_all
theorem Ay{c:Cell}(h:bk c):f4 (bX c):=by
 obtain ⟨h1,h2,h3,h4⟩:=h
 unfold cH at h1 h2 h3 h4
 unfold f4 bX
 dsimp only;omega
theorem F3{s:Shp}(o:kO s){c:Cell}(hc:bk c){ch:Bool}{H:Heap}{b i j k:Nat}(a:ShAt H s b i j k) :
  ad prog 135 [pt b,cellV c,.bool ch] H [] (Is (.tuple #[nI (sfS s c ch).1,nI (sfS s c ch).2]) H):=by
 refine gi (Eq.mpr (G1 _ s c ch) ?_) (gU s) rfl rfl (fun _=>rfl) a.1 a.objs rfl rfl
 delta BX jdk jd6 jd1 jd0 jdh jdi jdj jd3 nI slQ pt ac fk
 have hat:∀{H':Heap} {Q:Prop},(H'[0]?=some bC/\H'[1]?=some (.cells true 0 (uT s 2 3 4))/\H'[2]?=some (.cells true 2 (s.th.flatMap ptC))/\H'[3]?=some (.cells true 2 (s.wa.flatMap ptC))/\H'[4]?=some (.cells true 2 (s.ic.flatMap ptC))/\Q)->ShAt H' s 1 2 3 4:=fun h=>⟨by decide,h.1,h.2.1,h.2.2.1,h.2.2.2.1,h.2.2.2.2.1⟩
 refine ⟨⟨rfl,rfl,rfl,rfl,rfl,trivial⟩,fun H' _ h=>AO o (Ay hc) (hat h),fun e =>?_,fun e=>⟨⟨rfl,rfl,rfl,rfl,rfl,trivial⟩,fun H' _ h=>H9 o (Ay hc) (hat h),fun e2 =>?_,fun e2 =>?_⟩⟩
 ·unfold sfS;rw[if_pos (of_decide_eq_true e)]
 ·unfold sfS;rw[if_neg (of_decide_eq_false e),if_pos (kl e2)]
 ·unfold sfS;rw[if_neg (of_decide_eq_false e),if_neg (by rw[dL e2];simp)]
theorem AW(c:Cell){H:Heap}(hH:1<=H.length):ad prog 128 [cellV c] H [] (Is (nI (aK c)) H):=by
 refine l9 40 (fun _=>rfl) rfl (Eq.mpr (Hd _ c) ?_) hH
 delta Cc jd8 jdl nI fk
 simp only[decide_eq_true_eq,decide_eq_false_iff_not,Bool.not_eq_true',Bool.not_eq_false']
 repeat' (first|apply And.intro|intro _)
 all_goals first
  |exact iEq (if_neg (by unfold bk cH;omega)).symm
  |exact iEq (if_pos (by unfold bk cH;omega)).symm
theorem HY(s:Shp)(hs:uG s)(c:Cell){H:Heap}{i j k:Nat}{o1 o2 o3:Bool}{z1 z2 z3:Nat}(h1:H[i]?=some (.cells o1 z1 (s.th.flatMap ptC)))(h2:H[j]?=some (.cells o2 z2 (s.wa.flatMap ptC)))(h3:H[k]?=some (.cells o3 z3 (s.ic.flatMap ptC))) :
  ad prog 134 [sj s i j k,cellV c] H [] (Is (nI (bM (aU s) (aK c))) H):=by
 refine iy (css:=[s.th.flatMap ptC,s.wa.flatMap ptC,s.ic.flatMap ptC]) (v:=nI (bM (aU s) (aK c))) (ids:=[i,j,k]) (Eq.mpr (J1 _ s c) ?_) ⟨dR _ _,dR _ _,dR _ _,trivial⟩ rfl ⟨⟨_,_,h1⟩,⟨_,_,h2⟩,⟨_,_,h3⟩,trivial⟩ rfl
 delta IR jdh jdi jdj jdc nI slQ fk c0q c3q
 refine ⟨⟨rfl,rfl,rfl,trivial⟩,fun H' _ h=>qX s hs h.1 h.2.1 h.2.2.1,fun e =>?_,fun e=>⟨trivial,fun H' hl _=>AW c (by omega),?_⟩⟩
 ·rw[eA (neB e)]
 ·rw[bI (rk e)]
def Eu(H:Heap)(s:Shp)(i j k:Nat):Prop :=
 [0,i,j,k].Nodup/\H[0]?=some bC/\H[i]?=some (.cells true 2 (s.th.flatMap ptC))/\H[j]?=some (.cells true 2 (s.wa.flatMap ptC))/\H[k]?=some (.cells true 2 (s.ic.flatMap ptC))
theorem F6(s:Shp)(hs:uG s)(c:Cell)(ch:Bool){H:Heap}{i j k:Nat}(a:Eu H s i j k) :
  ad prog 83 [sj s i j k,cellV c,.bool ch] H [] (Is (.tuple #[nI (sfX s c ch).1,nI (sfX s c ch).2]) H):=by
 have ok:[bC,.cells true 2 (s.th.flatMap ptC),.cells true 2 (s.wa.flatMap ptC),.cells true 2 (s.ic.flatMap ptC)].all (am 3)=true:=by
  show (am 3 bC&&(am 3 (.cells true 2 (s.th.flatMap ptC))&&(am 3 (.cells true 2 (s.wa.flatMap ptC))&&(am 3 (.cells true 2 (s.ic.flatMap ptC))&&true))))=true
  rw[fD,fD,fD];rfl
 have ob:cR H (sgI [0,i,j,k]) [0,i,j,k] [bC,.cells true 2 (s.th.flatMap ptC),.cells true 2 (s.wa.flatMap ptC),.cells true 2 (s.ic.flatMap ptC)] :=
  ⟨a.2.1,by rw[cJ];exact a.2.2.1,by rw[cJ];exact a.2.2.2.1,by rw[cJ];exact a.2.2.2.2,trivial⟩
 refine gi (Eq.mpr (G8 _ s c ch) ?_) ok rfl rfl (fun _=>rfl) a.1 ob rfl rfl
 delta B6 jdh jdi jdj jd5 jd1 jd4 jd3 nI slQ pt ac fk c3q
 refine ⟨⟨rfl,rfl,rfl,trivial⟩,fun H' _ h=>HY s hs c h.1 h.2.1 h.2.2.1,fun e =>?_,fun e =>?_⟩
 ·have e:=neB e
  unfold bM at e ⊢
  unfold sfX
  by_cases h:aU s=0
  ·rw[if_pos h]at e ⊢;rw[if_pos h,if_neg e]
  ·rw[if_neg h,if_neg h]
 ·have e:=rk e
  unfold bM at e
  by_cases h:aU s=0
  ·rw[if_pos h]at e
   refine ⟨⟨rfl,rfl,rfl,rfl,rfl,trivial⟩,fun H' _ h'=>F3 (sk h) (dY.1 e) ⟨by decide,h'.1,h'.2.1,h'.2.2.1,h'.2.2.2.1,h'.2.2.2.2.1⟩,?_⟩
   unfold sfX;rw[if_pos h,if_pos e]
  ·rw[if_neg h]at e;exact absurd e h
theorem HU(w h t:Int){H:Heap}(hH:1<=H.length):ad prog 126 [nI w,nI h,nI t] H [] (Is (nI (eX w h t)) H):=by
 refine l9 40 (fun _=>rfl) rfl (Eq.mpr (G7 _ w h t) ?_) hH
 delta B5 jda jdl nI fk nw
 have mb:(1<=w/\w<=64)->(1<=h/\h<=64)->0<=w*h/\w*h<=64*64:=fun h1 h2=>iI (by omega) h1.2 (by omega) h2.2
 repeat' first|(refine ⟨ak (by have:=mb ⟨‹_›,‹_›⟩ ⟨‹_›,‹_›⟩;omega),?_⟩)|(exact iEq (if_pos (by unfold kS;omega)).symm)|(exact iEq (if_neg (by unfold kS;omega)).symm)|(refine eJ (fun h =>?_) (fun h =>?_))|refine eW ?_
theorem db(c:Cell):(cellC c).length=8:=rfl
theorem mQ{xs:List Cell}{x off:Nat}(h:x<xs.length)(ho:off=x*8):cN 8 (List.flatMap cellC xs) off=some (.agg ⟨cellC (List.getD xs x az)⟩) :=
 jc (f:=cellC) (d:=az) (c:=0) (m:=8) db h (by omega) (by decide)
theorem kX(n:Nat)(l:List Cell):(l.flatMap cellC).all (ao n)=true:=cQ (fun _=>rfl) l
theorem FZ(xs:List Cell)(hn:xs.length<=2 ^ 30){H:Heap}{id:Nat}{own:Bool}{z:Nat}(hid:H[id]?=some (.cells own z (xs.flatMap cellC))) :
  ad prog 127 [slR id xs.length,.func (.func 128) #[] #[]] H [] (Is (nI (errs aK xs)) H):=by
 refine iy (css:=[xs.flatMap cellC]) (v:=nI (errs aK xs)) (ids:=[id]) (Eq.mpr (Ej _ xs) ?_) ⟨kX _ _,trivial⟩ rfl ⟨⟨_,_,hid⟩,trivial⟩ rfl
 delta xW jdl jdd jd7 nI slQ fk nw eR wR ixq lq c0q
 refine ⟨rfl,⟨Nat.zero_le _,rfl⟩,?_,fun _=>rfl,?_⟩
 ·repeat' first|exact trivial|exact ae _|refine ⟨rfl,?_⟩|refine ⟨trivial,?_⟩|apply And.intro
 rintro x ⟨hx,hsp⟩
 refine eJ (fun h =>?_) (fun h =>?_)
 ·have hlt:x<xs.length:=by omega
  rw[DG (d:=az) hlt]at hsp
  refine ⟨⟨by omega,by omega⟩,mQ hlt (by omega),trivial,fun H' hl _=>AW _ (by omega),?_⟩
  refine nQ (fun h1 =>?_) (fun h1 =>?_)
  ·rw[hsp,if_neg h1]
  ·refine ⟨ak (by omega),x+1,⟨by omega,by rw[hsp,if_pos h1]⟩,by omega,?_⟩
   repeat' first|exact trivial|exact ae _|refine ⟨rfl,?_⟩|refine ⟨trivial,?_⟩|apply And.intro
 ·rw[hsp,show x=xs.length by omega,List.drop_length];rfl
theorem zM{w h t:Int}(h0:eX w h t=0):1<=w*h/\w*h<=1024:=by
 obtain ⟨h1,h2,h3,_⟩:=iT.1 h0
 refine ⟨?_,h3⟩
 have:1*1<=w*h:=Int.mul_le_mul h1.1 h2.1 (by omega) (by omega)
 omega
theorem Ga(w h t:Int)(cs:List Cell){H:Heap}{id:Nat}{own:Bool}{z:Nat}(hid:H[id]?=some (.cells own z (cs.flatMap cellC))) :
  ad prog 78 [.agg #[nI w,nI h,nI t,slR id cs.length]] H [] (Is (nI (cD w h t cs)) H):=by
 refine iy (css:=[cs.flatMap cellC]) (v:=nI (cD w h t cs)) (ids:=[id]) (Eq.mpr (En _ w h t cs) ?_) ⟨kX _ _,trivial⟩ rfl ⟨⟨_,_,hid⟩,trivial⟩ rfl
 delta xY nI slQ fk nw c0q c1q;unfold cD
 refine ⟨trivial,fun H' hl _=>HU _ _ _ (by omega),fun e =>?_,fun e =>?_⟩
 ·rw[eA (neB e)]
 ·rw[bI (rk e)]
  have hm:=zM (rk e)
  refine ⟨ak (by omega),fun q =>?_,fun q=>⟨⟨rfl,trivial⟩,fun H' _ h=>FZ _ (by have:=zg q;omega) h.1,?_⟩⟩
  ·rw[if_neg (u4 q)]
  ·rw[if_pos (zg q)]
theorem Am{w h:Int}(a:1<=w/\w<=64)(b:1<=h/\h<=64):1<=w*h/\w*h<=4096:=by
 have h1:1*1<=w*h:=Int.mul_le_mul a.1 b.1 (by omega) (by omega)
 have h2:w*h<=64*64:=Int.mul_le_mul a.2 b.2 (by omega) (by omega)
 omega
abbrev IK(w h:Int)(i n:Nat):Value:=.agg #[nI w,nI h,slR i n]
theorem Gd(w h:Int)(a:List Bool){H:Heap}{id:Nat}{own:Bool}{z:Nat}(hid:H[id]?=some (.cells own z (a.flatMap af))) :
  ad prog 76 [IK w h id a.length] H [] (Is (nI (fN w h a.length)) H):=by
 refine iy (css:=[a.flatMap af]) (v:=nI (fN w h a.length)) (ids:=[id]) (Eq.mpr (Eo _ w h a) ?_) ⟨bW _ _,trivial⟩ rfl ⟨⟨_,_,hid⟩,trivial⟩ rfl
 delta xZ jda jdf jdl nI fk nw;unfold fN
 obtain ⟨p,hp⟩:∃p,w*h=p:=⟨_,rfl⟩
 have hb:=fun a b=>hp ▸ Am (w:=w) (h:=h) a b
 simp only[hp]
 repeat' first|(exact iEq (by split <;> (try split) <;> omega))|(refine eJ (fun h =>?_) (fun h =>?_))|(refine nQ (fun h =>?_) (fun h =>?_))|refine eW ?_|(refine ⟨ak (by omega),?_⟩)
theorem kIs(w h:Int)(a:List Bool)(c:Int)(hl:a.length<=1000000){H:Heap}{id:Nat}{own:Bool}{z:Nat}(hid:H[id]?=some (.cells own z (a.flatMap af))) :
  ad prog 60 [IK w h id a.length,nI c] H [] (Is (.bool (fh a c)) H):=by
 refine iy (css:=[a.flatMap af]) (v:=.bool (fh a c)) (ids:=[id]) (Eq.mpr (JY _ w h a c) ?_) ⟨bW _ _,trivial⟩ rfl ⟨⟨_,_,hid⟩,trivial⟩ rfl
 delta IP jdf nI fk nw ixq c0q;unfold fh
 refine ⟨ak (by omega),trivial,fun H' hl _=>yQ _ _ _ (by omega),fun e =>?_,fun e =>?_⟩
 ·have hb:=aR.1 e
  refine ⟨⟨hb.1,by omega⟩,eQ (by omega) (by omega),?_⟩
  rw[e,Bool.true_and]
 ·rw[e];rfl
theorem yk{x n:Int}(hn:1<=n):(Int.tmod x n<0->Int.tmod x n+n=x % n)/\(¬ Int.tmod x n<0->Int.tmod x n=x % n) /\ -n<Int.tmod x n/\Int.tmod x n<n:=by
 have h1:=Int.mul_tdiv_add_tmod x n
 have h2:=Int.lt_tmod_of_pos x (by omega:0<n)
 have h3:=Int.tmod_lt_of_pos x (by omega:0<n)
 refine ⟨fun h =>?_,fun h =>?_,h2,h3⟩
 ·have:x=(Int.tmod x n+n)+n*(x.tdiv n-1):=by rw[Int.mul_sub];omega
  rw[this,Int.add_mul_emod_self_left,<- this]
  exact (Int.emod_eq_of_lt (by omega) (by omega)).symm
 ·have:x=Int.tmod x n+n*x.tdiv n:=by omega
  conv=>rhs;rw[this,Int.add_mul_emod_self_left]
  exact (Int.emod_eq_of_lt (by omega) (by omega)).symm
theorem AP(x n:Int)(h1:1<=n)(h2:n<=9223372036854775807){H:Heap}(hH:1<=H.length):ad prog 26 [nI x,nI n] H [] (Is (nI (x % n)) H):=by
 refine l9 40 (fun _=>rfl) rfl (Eq.mpr (IY _ x n) ?_) hH
 obtain ⟨t1,t2,t3,t4⟩:=yk (x:=x) h1
 delta E6 jdl nI fk nw
 exact eJ (fun h=>by omega) (fun _=>⟨by omega,eJ (fun h=>⟨ak (by omega),iEq (t1 h)⟩) (fun h=>iEq (t2 h))⟩)
theorem aZ(m:Nat)(L:List Int)(n:Int):(ug L n).all (ao m)=true:=by
 show ((L.flatMap bc).all (b7 m)&&(true&&true))=true
 rw[wl];rfl
theorem Iz(m:Nat)(L:List Int)(n:Int):cu m (.cells true 0 (ug L n))=true:=aZ m L n
theorem zF{L:List Int}{n:Int}(hn:0<=n)(hL:0<L.length):0<=Int.tmod n ((L.length:Nat):Int)/\Int.tmod n ((L.length:Nat):Int)<((L.length:Nat):Int):=by
 rw[Int.tmod_eq_emod_of_nonneg hn]
 exact ⟨Int.emod_nonneg _ (by omega),Int.emod_lt_of_pos _ (by omega)⟩
theorem HW(L:List Int)(n m:Int)(hn:0<=n/\n<=1000000000)(hm:1<=m/\m<=1000000000){H:Heap}(hH:1<=H.length){D:Nat}(hD:H[D]?=some (.cells true 0 (ug L n))) :
  ad prog 89 [pt D,nI m] H [D] (Is (nI (dN L n m)) (H.set D (.cells true 0 (ug L (n+1))))):=by
 have key:ad prog 89 [pt D,nI m] H [D] (Is (nI (dN L n m)) (H.set D (.cells true 0 (ug L (n+1))) ++ [])):=by
  refine Jj (fun _=>nI (dN L n m)) (css:=[]) (new:=[]) (Eq.mpr (IZ L n m) ?_) (aZ 0 L n) (aZ 0 L (n+1)) trivial trivial rfl rfl (fun _=>rfl) hD (ids:=[]) trivial (by simp) rfl
  delta E7 jde jd2 jdb nI fk nw krq ixq c0q
  refine eJ (fun k =>?_) (fun k =>?_)
  ·have hL:0<L.length:=by omega
   have hd:Gz L n=IntKind.wrap .i64 (L.getD (Int.toNat (Int.tmod n ((L.length:Nat):Int))) 0+IntKind.wrap .i64 (Int.tdiv n ((L.length:Nat):Int))):=if_pos hL
   have hb:=zF hn.1 hL
   refine ⟨by omega,hb,pM (by omega) (by omega),by omega,ak (by omega),trivial,fun H' hl _=>AP _ _ (by omega) (by omega) (by omega),rfl,?_,⟨⟨rfl,Iz _ _ _⟩,trivial⟩,trivial⟩
   unfold dN
   rw[hd];exact ae _
  ·have hd:Gz L n=0:=if_neg (by omega)
   refine ⟨ak (by omega),trivial,fun H' hl _=>AP _ _ (by omega) (by omega) (by omega),rfl,?_,⟨⟨rfl,Iz _ _ _⟩,trivial⟩,trivial⟩
   unfold dN
   rw[hd];exact ae _
 rw[List.append_nil]at key
 exact key
end
end Go.Proofs.YtmecpfikljhjaaaGreatDoor
