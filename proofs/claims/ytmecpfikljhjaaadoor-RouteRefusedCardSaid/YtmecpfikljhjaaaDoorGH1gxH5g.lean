/- What is to be shown of functions. Printed by a program. No condition. -/
import Derived.Test.YtmecpfikljhjaaaDoorGK27xA0
open Go Go.K
set_option maxRecDepth 1000000
set_option maxHeartbeats 4000000
set_option linter.unusedVariables false
set_option linter.unusedSimpArgs false
namespace Go.Proofs.YtmecpfikljhjaaaDoor
noncomputable section
attribute [local irreducible] vF
abbrev ja5:Value:=.bool false
abbrev ja3(a n b:Int)(sp:Value):=fk (decide ((a:Int)<=n)) ((.bool (decide ((n:Int)<=b)):Value)=sp) (ja5=sp)
def xF(sp:Value)(n a b:Int):Prop :=
 (ja3 a n b sp)
abbrev ja8:Hint:=.go 4 (.aH (.auto) (.auto))
theorem Ec(sp:Value)(n a b:Int):vF prog msk (dm 0) 100000 true 40 true 37 [nI n,nI a,nI b] ⟨1,.leaf⟩ (some [])
 ja8
 (fun v _ _=>v=sp)=xF sp n a b:=by kernel_rfl
def Ii(sp:Value)(n a b:Int):Prop :=
 (ja3 a n b sp)
theorem Jx(sp:Value)(n a b:Int):vF prog msk (dm 0) 100000 true 40 true 44 [nI n,nI a,nI b] ⟨1,.leaf⟩ (some [])
 ja8
 (fun v _ _=>v=sp)=Ii sp n a b:=by kernel_rfl
abbrev ja1(l:List Pt):Int:=(l.length:Nat)
abbrev jab(l:List Pt):=l.flatMap ptC
abbrev ja6(l:List Pt):=l.getD ((ja1 l)-1).toNat zP
def E9(sp:Value)(l:List Pt):Prop :=
 (nw ((ja1 l)-1) ((ixq ((ja1 l)-1) l.length)/\(((jab l)[((0+Int.toNat ((ja1 l)-1)*2)+0)]?=some (nI (ja6 l).1))/\(nI (ja6 l).1:Value)=sp)))
theorem Iv(sp:Value)(l:List Pt):vF prog msk (dm 0) 100000 true 40 true 105 [slQ 1 2 l.length] (ce 1 [l.flatMap ptC]) (some [])
 (.go 4 (.slot 6 (nI ((ja1 l)-1)) (.need (.go 0 (.val (nI (ja6 l).1) (.auto))))))
 (fun v _ _=>v=sp)=E9 sp l:=by kernel_rfl
abbrev ja7:Prop:=(True)/\(True)/\(True)
abbrev ja4(l:List Pt)(x1:Nat):=l.getD ((x1:Int)-1).toNat zP
abbrev ja2(x1:Nat)(l:List Pt):=nw ((x1:Int)+1) (∃x1':Nat,(x1'<=List.length l/\(List.range x1').all (gI l)=true)/\(List.length l-x1')<(List.length l-x1)/\true=true/\((nI ((x1:Int)+1):Value)=nI (x1':Int)/\wR (slQ 1 2 l.length)/\wR (slQ 1 2 l.length)/\eR (nI (ja1 l))/\True)/\ja7)
def Ch(sp:Value)(l:List Pt):Prop :=
 (c0q 2 37 [nI (ja1 l),nI 2,nI 8] (.bool (inB (ja1 l) 2 8)) (fk (!(inB (ja1 l) 2 8)) (ja5=sp) ((ixq 0 l.length)/\(((jab l)[0]?=some (nI (l.getD 0 zP).1))/\(fk (((l.getD 0 zP).1:Int) != 0) (ja5=sp) (lq (0<=List.length l/\(List.range 0).all (gI l)=true) (true=true/\((nI 0:Value)=nI ((0:Nat):Int)/\wR (slQ 1 2 l.length)/\wR (slQ 1 2 l.length)/\eR (nI (ja1 l))/\True)/\ja7) (∀x1:Nat,(x1<=List.length l/\(List.range x1).all (gI l)=true)->(fk (decide (((x1:Int):Int)<(ja1 l))) ((ixq (x1:Int) l.length)/\((d6 2 (jab l) (0+Int.toNat (x1:Int)*2)=some (.agg #[nI (l.getD x1 zP).1,nI (l.getD x1 zP).2]))/\(c0q 3 37 [nI (l.getD x1 zP).1,nI 0,nI 400] (.bool (inB (l.getD x1 zP).1 0 400)) (fk (!(inB (l.getD x1 zP).1 0 400)) (ja5=sp) (c0q 3 37 [nI (l.getD x1 zP).2,nI 0,nI 20000] (.bool (inB (l.getD x1 zP).2 0 20000)) (fk (!(inB (l.getD x1 zP).2 0 20000)) (ja5=sp) (fk (decide ((0:Int)<(x1:Int))) (nw ((x1:Int)-1) ((ixq ((x1:Int)-1) l.length)/\(((jab l)[((0+Int.toNat ((x1:Int)-1)*2)+0)]?=some (nI (ja4 l x1).1))/\(fk (decide (((l.getD x1 zP).1:Int)<=(ja4 l x1).1)) (ja5=sp) (ja2 x1 l))))) (ja2 x1 l)))))))) ((.bool true:Value)=sp)))))))))
theorem GQ(sp:Value)(l:List Pt):vF prog msk (dm 0) 100000 true 40 true 119 [slQ 1 2 l.length] (ce 1 [l.flatMap ptC]) (some [])
 (.go 2 (.ans [] (.bool (inB (ja1 l) 2 8)) [] (.go 1 (.aH (.auto) (.go 0 (.need (.go 0 (.val (nI (l.getD 0 zP).1) (.go 1 (.fork (.auto) (.go 2 (.inv 3 (Nat) (0) [] [] (fun x1=>[(18,nI (x1:Int)),(0,slQ 1 2 l.length),(16,slQ 1 2 l.length),(17,nI (ja1 l))]) (fun x1=>[]) (fun x1=>[]) (fun x1=>[]) (fun x1=>(x1<=List.length l/\(List.range x1).all (gI l)=true)) (fun x1=>(List.length l-x1)) (fun x1 => .go 0 (.fork (.go 0 (.need (.val (.agg #[nI (l.getD x1 zP).1,nI (l.getD x1 zP).2]) (.go 4 (.ans [] (.bool (inB (l.getD x1 zP).1 0 400)) [] (.go 1 (.aH (.auto) (.go 1 (.ans [] (.bool (inB (l.getD x1 zP).2 0 20000)) [] (.go 2 (.aH (.auto) (.go 2 (.aH (.go 4 (.slot 41 (nI ((x1:Int)-1)) (.need (.go 0 (.val (nI (ja4 l x1).1) (.go 2 (.fork (.auto) (.go 0 (.slot 48 (nI ((x1:Int)+1)) (.go 0 (.again []))))))))))) (.go 3 (.slot 48 (nI ((x1:Int)+1)) (.go 0 (.again []))))))))))))))))) (.auto)))))))))))))))
 (fun v _ _=>v=sp)=Ch sp l:=by kernel_rfl
abbrev ja9(l:List Pt):Prop:=wR (slQ 1 2 l.length)/\True
def xJ(sp:Value)(l:List Pt)(w:Int):Prop :=
 (c1q 2 1 (.cells false 0 (jab l)) 119 [slQ 1 2 l.length] (.bool (lu l)) (fk (!(lu l)) (ja5=sp) (lq ((1<=1/\1<=List.length l)/\(List.range 1).all (kN l w)=true) (true=true/\((nI 1:Value)=nI ((1:Nat):Int)/\eR (nI w)/\ja9 l)/\ja7) (∀x1:Nat,((1<=x1/\x1<=List.length l)/\(List.range x1).all (kN l w)=true)->(fk (decide (((x1:Int):Int)<(ja1 l))) ((ixq (x1:Int) l.length)/\(((jab l)[((0+Int.toNat (x1:Int)*2)+1)]?=some (nI (l.getD x1 zP).2))/\(nw ((x1:Int)-1) ((ixq ((x1:Int)-1) l.length)/\(((jab l)[((0+Int.toNat ((x1:Int)-1)*2)+1)]?=some (nI (ja4 l x1).2))/\(nw ((l.getD x1 zP).2-(ja4 l x1).2) (nw (((l.getD x1 zP).2-(ja4 l x1).2)*w) (fk (decide (((((l.getD x1 zP).2-(ja4 l x1).2)*w):Int)<0)) (ja5=sp) (nw ((x1:Int)+1) (∃x1':Nat,((1<=x1'/\x1'<=List.length l)/\(List.range x1').all (kN l w)=true)/\(List.length l-x1')<(List.length l-x1)/\true=true/\((nI ((x1:Int)+1):Value)=nI (x1':Int)/\eR (nI w)/\ja9 l)/\ja7)))))))))) ((.bool true:Value)=sp))))))
theorem Ef(sp:Value)(l:List Pt)(w:Int):vF prog msk (dm 0) 100000 true 40 true 104 [slQ 1 2 l.length,nI w] (ce 1 [l.flatMap ptC]) (some [])
 (.go 1 (.ans [(1,.cells false 0 (jab l))] (.bool (lu l)) [] (.go 0 (.fork (.auto) (.go 0 (.inv 3 (Nat) (1) [] [] (fun x1=>[(5,nI (x1:Int)),(1,nI w),(0,slQ 1 2 l.length)]) (fun x1=>[]) (fun x1=>[]) (fun x1=>[]) (fun x1=>((1<=x1/\x1<=List.length l)/\(List.range x1).all (kN l w)=true)) (fun x1=>(List.length l-x1)) (fun x1 => .go 3 (.fork (.go 1 (.need (.go 0 (.val (nI (l.getD x1 zP).2) (.go 2 (.slot 22 (nI ((x1:Int)-1)) (.need (.go 0 (.val (nI (ja4 l x1).2) (.go 0 (.slot 26 (nI ((l.getD x1 zP).2-(ja4 l x1).2)) (.go 1 (.slot 28 (nI (((l.getD x1 zP).2-(ja4 l x1).2)*w)) (.go 0 (.fork (.auto) (.go 1 (.slot 14 (nI ((x1:Int)+1)) (.go 0 (.again []))))))))))))))))))) (.auto)))))))))
 (fun v _ _=>v=sp)=xJ sp l w:=by kernel_rfl
abbrev jaa(x0:Nat)(l:List Pt)(x:Int):Prop:=((1<=x0/\x0<=List.length l)/\(l.getD (x0-1) zP).1<=x)/\aA l x=aA (l.drop (x0-1)) x
abbrev ja0(l:List Pt)(x0:Nat):=l.getD ((x0:Int)-1).toNat zP
def Rvalue(sp:Value)(l:List Pt)(x:Int):Prop :=
 (lq (((1<=1/\1<=List.length l)/\(l.getD (1-1) zP).1<=x)/\aA l x=aA (l.drop (1-1)) x) (true=true/\((nI 1:Value)=nI ((1:Nat):Int)/\eR (nI x)/\ja9 l)/\ja7) (∀x0:Nat,(jaa x0 l x)->(fk (decide (((x0:Int):Int)<(ja1 l))) (nw ((x0:Int)-1) ((ixq ((x0:Int)-1) l.length)/\((d6 2 (jab l) (0+Int.toNat ((x0:Int)-1)*2)=some (.agg #[nI (ja0 l x0).1,nI (ja0 l x0).2]))/\((ixq (x0:Int) l.length)/\((d6 2 (jab l) (0+Int.toNat (x0:Int)*2)=some (.agg #[nI (l.getD x0 zP).1,nI (l.getD x0 zP).2]))/\(fk (decide ((x:Int)<=(l.getD x0 zP).1)) (nw ((l.getD x0 zP).1-(ja0 l x0).1) (nw ((ja0 l x0).2*((l.getD x0 zP).1-(ja0 l x0).1)) (nw ((l.getD x0 zP).2-(ja0 l x0).2) (nw (x-(ja0 l x0).1) (nw (((l.getD x0 zP).2-(ja0 l x0).2)*(x-(ja0 l x0).1)) (nw (((ja0 l x0).2*((l.getD x0 zP).1-(ja0 l x0).1))+(((l.getD x0 zP).2-(ja0 l x0).2)*(x-(ja0 l x0).1))) (nw ((l.getD x0 zP).1-(ja0 l x0).1) ((.tuple #[nI (((ja0 l x0).2*((l.getD x0 zP).1-(ja0 l x0).1))+(((l.getD x0 zP).2-(ja0 l x0).2)*(x-(ja0 l x0).1))),nI ((l.getD x0 zP).1-(ja0 l x0).1)]:Value)=sp)))))))) (nw ((x0:Int)+1) (∃x0':Nat,(((1<=x0'/\x0'<=List.length l)/\(l.getD (x0'-1) zP).1<=x)/\aA l x=aA (l.drop (x0'-1)) x)/\(List.length l-x0')<(List.length l-x0)/\true=true/\((nI ((x0:Int)+1):Value)=nI (x0':Int)/\eR (nI x)/\ja9 l)/\ja7)))))))) (nw ((ja1 l)-1) ((ixq ((ja1 l)-1) l.length)/\(((jab l)[((0+Int.toNat ((ja1 l)-1)*2)+1)]?=some (nI (ja6 l).2))/\(.tuple #[nI (ja6 l).2,nI 1]:Value)=sp))))))
theorem GD(sp:Value)(l:List Pt)(x:Int):vF prog msk (dm 0) 100000 true 40 true 120 [slQ 1 2 l.length,nI x] (ce 1 [l.flatMap ptC]) (some [])
 (.go 2 (.inv 3 (Nat) (1) [] [] (fun x0=>[(6,nI (x0:Int)),(1,nI x),(0,slQ 1 2 l.length)]) (fun x0=>[]) (fun x0=>[]) (fun x0=>[]) (fun x0=>(jaa x0 l x)) (fun x0=>(List.length l-x0)) (fun x0 => .go 3 (.fork (.go 2 (.slot 17 (nI ((x0:Int)-1)) (.need (.val (.agg #[nI (ja0 l x0).1,nI (ja0 l x0).2]) (.go 1 (.need (.val (.agg #[nI (l.getD x0 zP).1,nI (l.getD x0 zP).2]) (.go 7 (.fork (.go 6 (.slot 34 (nI ((l.getD x0 zP).1-(ja0 l x0).1)) (.go 0 (.slot 35 (nI ((ja0 l x0).2*((l.getD x0 zP).1-(ja0 l x0).1))) (.go 4 (.slot 40 (nI ((l.getD x0 zP).2-(ja0 l x0).2)) (.go 3 (.slot 44 (nI (x-(ja0 l x0).1)) (.go 0 (.slot 45 (nI (((l.getD x0 zP).2-(ja0 l x0).2)*(x-(ja0 l x0).1))) (.go 0 (.slot 46 (nI (((ja0 l x0).2*((l.getD x0 zP).1-(ja0 l x0).1))+(((l.getD x0 zP).2-(ja0 l x0).2)*(x-(ja0 l x0).1)))) (.go 4 (.slot 51 (nI ((l.getD x0 zP).1-(ja0 l x0).1)) (.auto))))))))))))))) (.go 1 (.slot 14 (nI ((x0:Int)+1)) (.go 0 (.again []))))))))))))) (.go 3 (.slot 55 (nI ((ja1 l)-1)) (.need (.go 0 (.val (nI (ja6 l).2) (.auto))))))))))
 (fun v _ _=>v=sp)=Rvalue sp l x:=by kernel_rfl
theorem neB{x:Int}(h:(x != 0)=true):¬ x=0:=by simpa using h
theorem rb{x:Int}(h:(x != 0)=false):x=0:=by simpa using h
theorem Al{x y:Int}(h:(x != y)=true):x≠y:=by simpa using h
theorem zg{x y:Int}(h:(x != y)=false):x=y:=by simpa using h
theorem ef(p:Pt):(ptC p).length=2:=rfl
theorem dZ(n:Nat)(l:List Pt):(l.flatMap ptC).all (aj n)=true:=dz (fun _=>rfl) l
theorem Ac{l:List Pt}{k off:Nat}(h:k<l.length)(ho:off=k*2):(l.flatMap ptC)[off]?=some (nI (l.getD k zP).1):=fZ (c:=0) (d:=zP) ef h (by omega) rfl
theorem wO{l:List Pt}{k off:Nat}(h:k<l.length)(ho:off=k*2+1):(l.flatMap ptC)[off]?=some (nI (l.getD k zP).2):=fZ (c:=1) (d:=zP) ef h (by omega) rfl
theorem uW{l:List Pt}{k off:Nat}(h:k<l.length)(ho:off=k*2):d6 2 (l.flatMap ptC) off=some (.agg ⟨ptC (l.getD k zP)⟩):=j8 (n:=2) (d:=zP) (c:=0) (m:=2) ef h (by omega) (by omega)
theorem mc(n a b:Int){H:Heap}(hH:1<=H.length):ae prog 37 [nI n,nI a,nI b] H [] (Is (.bool (inB n a b)) H):=by
 refine sn 40 (fun _=>rfl) rfl (Eq.mpr (Ec _ n a b) ?_) hH
 delta xF ja3 ja5 fk;unfold inB
 refine ⟨fun h =>?_,fun h =>?_⟩ <;> rw[h] <;> simp
theorem AR(n a b:Int){H:Heap}(hH:1<=H.length):ae prog 44 [nI n,nI a,nI b] H [] (Is (.bool (inB n a b)) H):=by
 refine sn 40 (fun _=>rfl) rfl (Eq.mpr (Jx _ n a b) ?_) hH
 delta Ii ja3 ja5 fk;unfold inB
 refine ⟨fun h =>?_,fun h =>?_⟩ <;> rw[h] <;> simp
theorem Db(l:List Pt)(h1:1<=l.length)(h2:l.length<=1000000){H:Heap}{id:Nat}{own:Bool}{z:Nat}(hid:H[id]?=some (.cells own z (l.flatMap ptC))):ae prog 105 [slR id l.length] H [] (Is (nI (dc l)) H):=by
 refine fT (css:=[l.flatMap ptC]) (v:=nI (dc l)) (ids:=[id]) (Eq.mpr (Iv _ l) ?_) ⟨dZ _ _,trivial⟩ rfl ⟨⟨_,_,hid⟩,trivial⟩ rfl
 delta E9 ja1 jab ja6 nI nw ixq;unfold dc
 have e:Int.toNat ((l.length:Int)-1)=l.length-1:=by omega
 rw[e]
 exact ⟨ag (by omega),⟨by omega,by omega⟩,Ac (by omega) (by omega),rfl⟩
structure xX(l:List Pt):Prop where
 len:2<=l.length/\l.length<=8
 x0:(l.getD 0 zP).1=0
 pt:∀i,i<l.length->(0<=(l.getD i zP).1/\(l.getD i zP).1<=400)/\0<=(l.getD i zP).2/\(l.getD i zP).2<=20000
 up:∀i,0<i->i<l.length->(l.getD (i-1) zP).1<(l.getD i zP).1
theorem mS{l:List Pt}{i:Nat}:gI l i=true ↔ ((0<=(l.getD i zP).1/\(l.getD i zP).1<=400)/\0<=(l.getD i zP).2/\(l.getD i zP).2<=20000)/\(0<i->(l.getD (i-1) zP).1<(l.getD i zP).1):=by
 unfold gI
 rw[Bool.and_eq_true,Bool.and_eq_true,bc,bc,Bool.not_eq_true',Bool.and_eq_false_iff,decide_eq_false_iff_not,decide_eq_false_iff_not]
 refine ⟨fun h=>⟨h.1,fun q=>by rcases h.2 with h|h <;> omega⟩,fun h=>⟨h.1,?_⟩⟩
 by_cases q:0<i
 ·exact .inr (by have:=h.2 q;omega)
 ·exact .inl q
theorem uj{l:List Pt}:lu l=true ↔ xX l:=by
 unfold lu
 rw[Bool.and_eq_true,Bool.and_eq_true,bc,beq_iff_eq,List.all_eq_true]
 refine ⟨fun h=>⟨by omega,h.1.2,fun i hi=>(mS.1 (h.2 i (List.mem_range.2 hi))).1,fun i h0 hi=>(mS.1 (h.2 i (List.mem_range.2 hi))).2 h0⟩,fun h=>⟨⟨by have:=h.len;omega,h.x0⟩,fun i hi=>mS.2 ⟨h.pt i (List.mem_range.1 hi),fun h0=>h.up i h0 (List.mem_range.1 hi)⟩⟩⟩
theorem j0{p:Nat->Bool}{n i:Nat}(h:i<n)(hp:p i=false):(List.range n).all p=false:=by
 rw[Bool.eq_false_iff]
 intro q
 rw[List.all_eq_true]at q
 rw[q i (List.mem_range.2 h)]at hp;cases hp
theorem range_succ{p:Nat->Bool}{n:Nat}(h:(List.range n).all p=true)(hp:p n=true):(List.range (n+1)).all p=true:=by
 rw[List.range_succ,List.all_append,h,List.all_cons,hp];rfl
theorem FV(l:List Pt)(hl:l.length<=1000000){H:Heap}{id:Nat}{own:Bool}{z:Nat}(hid:H[id]?=some (.cells own z (l.flatMap ptC))):ae prog 119 [slR id l.length] H [] (Is (.bool (lu l)) H):=by
 refine fT (css:=[l.flatMap ptC]) (v:=.bool (lu l)) (ids:=[id]) (Eq.mpr (GQ _ l) ?_) ⟨dZ _ _,trivial⟩ rfl ⟨⟨_,_,hid⟩,trivial⟩ rfl
 delta Ch ja1 ja5 jab ja7 ja4 ja2 nI slQ fk nw eR wR ixq lq c0q
 refine ⟨trivial,fun H' hl _=>mc _ _ _ (by omega),fun h =>?_,fun h =>?_⟩
 ·unfold lu;rw[mZ h];rfl
 have hb:=bc.1 (fg h)
 have e0:lu l=(((l.getD 0 zP).1 == 0)&&(List.range l.length).all (gI l)):=by unfold lu;rw[fg h,Bool.true_and]
 refine ⟨⟨by omega,by omega⟩,Ac (by omega) (by omega),fun h1 =>?_,fun h1 =>?_⟩
 ·rw[e0,show ((l.getD 0 zP).1 == 0)=false by rw[beq_eq_false_iff_ne];exact neB h1];rfl
 have e1:lu l=(List.range l.length).all (gI l):=by rw[e0,rb h1];rfl
 rw[e1]
 refine ⟨rfl,⟨Nat.zero_le _,rfl⟩,?_,fun _=>rfl,fun x hx=>⟨fun k =>?_,fun k =>?_⟩⟩
 ·repeat' first|exact trivial|exact ad _|refine ⟨rfl,?_⟩|refine ⟨trivial,?_⟩|apply And.intro
 ·have hx1:x<l.length:=by have:=aR k;omega
  have bad:gI l x=false->(Value.bool false) = .bool ((List.range l.length).all (gI l)):=fun q=>by rw[j0 hx1 q]
  refine ⟨⟨by omega,by omega⟩,uW hx1 (by omega),trivial,fun H' hl _=>mc _ _ _ (by omega),fun a=>bad ?_,fun a=>⟨trivial,fun H' hl _=>mc _ _ _ (by omega),fun b=>bad ?_,fun b =>?_⟩⟩
  ·unfold gI;rw[mZ a];rfl
  ·unfold gI;rw[mZ b,fg a];rfl
  ·have e2:gI l x = !(decide (0<x)&&decide ((l.getD x zP).1<=(l.getD (x-1) zP).1)):=by unfold gI;rw[fg a,fg b];rfl
   refine ⟨fun c =>?_,fun c =>?_⟩
   ·have hc:0<x:=by have:=aR c;omega
    have e3:Int.toNat ((x:Int)-1)=x-1:=by omega
    rw[e3]
    refine ⟨ag (by omega),⟨by omega,by omega⟩,Ac (by omega) (by omega),fun d=>bad ?_,fun d =>?_⟩
    ·rw[e2,d,decide_eq_true hc];rfl
    ·refine ⟨ag (by omega),x+1,⟨by omega,range_succ hx.2 (by rw[e2,d,Bool.and_false];rfl)⟩,by omega,rfl,?_⟩
     repeat' first|exact trivial|exact ad _|refine ⟨rfl,?_⟩|refine ⟨trivial,?_⟩|apply And.intro
   ·have hc:¬ 0<x:=by have:=aV c;omega
    refine ⟨ag (by omega),x+1,⟨by omega,range_succ hx.2 (by rw[e2,decide_eq_false hc];rfl)⟩,by omega,rfl,?_⟩
    repeat' first|exact trivial|exact ad _|refine ⟨rfl,?_⟩|refine ⟨trivial,?_⟩|apply And.intro
 ·have h1:x=l.length:=by have:=aV k;omega
  rw[<- h1,hx.2]
theorem qQ(l:List Pt)(w:Int)(hw:w=1∨w = -1)(hl:l.length<=1000000){H:Heap}{id:Nat}{own:Bool}{z:Nat}(hid:H[id]?=some (.cells own z (l.flatMap ptC))):ae prog 104 [slR id l.length,nI w] H [] (Is (.bool (cR l w)) H):=by
 refine fT (css:=[l.flatMap ptC]) (v:=.bool (cR l w)) (ids:=[id]) (Eq.mpr (Ef _ l w) ?_) ⟨dZ _ _,trivial⟩ rfl ⟨⟨_,_,hid⟩,trivial⟩ rfl
 delta xJ jab ja5 ja9 ja7 ja1 ja4 nI slQ fk nw eR wR ixq lq c1q
 refine ⟨⟨rfl,trivial⟩,fun H' _ h=>FV _ hl h.1,fun h =>?_,fun h =>?_⟩
 ·unfold cR;rw[mZ h];rfl
 have c:=uj.1 (fg h)
 have hn:=c.len
 have e0:cR l w=(List.range l.length).all (kN l w):=by unfold cR;rw[fg h,Bool.true_and]
 rw[e0]
 refine ⟨rfl,⟨⟨by omega,by omega⟩,by rfl⟩,?_,fun _=>rfl,fun x hx=>⟨fun k =>?_,fun k =>?_⟩⟩
 ·repeat' first|exact trivial|exact ad _|refine ⟨rfl,?_⟩|refine ⟨trivial,?_⟩|apply And.intro
 ·have hx1:x<l.length:=by have:=aR k;omega
  have p1:=(c.pt x hx1).2
  have p2:=(c.pt (x-1) (by omega)).2
  have e3:Int.toNat ((x:Int)-1)=x-1:=by omega
  rw[e3]
  obtain ⟨q,hq⟩:∃q,(l.getD x zP).2-(l.getD (x-1) zP).2=q:=⟨_,rfl⟩
  rw[hq]
  have hqw:(q*w=q∨q*w = -q):=by rcases hw with rfl|rfl <;> omega
  have e2:kN l w x = !decide (q*w<0):=by unfold kN;rw[decide_eq_false (by omega),Bool.false_or,hq]
  refine ⟨⟨by omega,by omega⟩,wO hx1 (by omega),ag (by omega),⟨by omega,by omega⟩,wO (by omega) (by omega),ag (by omega),ag (by omega),fun b =>?_,fun b =>?_⟩
  ·rw[j0 hx1 (by rw[e2,b];rfl)]
  ·refine ⟨ag (by omega),x+1,⟨by omega,range_succ hx.2 (by rw[e2,b];rfl)⟩,by omega,rfl,?_⟩
   repeat' first|exact trivial|exact ad _|refine ⟨rfl,?_⟩|refine ⟨trivial,?_⟩|apply And.intro
 ·have h1:x=l.length:=by have:=aV k;omega
  rw[<- h1,hx.2]
theorem oX{l:List Pt}{i:Nat}(h0:0<i)(hi:i<l.length)(x:Int):aA (l.drop (i-1)) x=if x<=(l.getD i zP).1 then ((l.getD (i-1) zP).2*((l.getD i zP).1-(l.getD (i-1) zP).1)+((l.getD i zP).2-(l.getD (i-1) zP).2)*(x-(l.getD (i-1) zP).1),(l.getD i zP).1-(l.getD (i-1) zP).1) else aA (l.drop i) x:=by
 have e1:l.drop (i-1)=l.getD (i-1) zP :: l.getD i zP :: l.drop (i+1):=by
  rw[List.drop_eq_getElem_cons (by omega:i-1<l.length),show i-1+1=i by omega,List.drop_eq_getElem_cons hi]
  simp[List.getD_eq_getElem?_getD,hi,(by omega:i-1<l.length)]
 have e2:l.drop i=l.getD i zP :: l.drop (i+1):=by
  rw[List.drop_eq_getElem_cons hi]
  simp[List.getD_eq_getElem?_getD,hi]
 rw[e1,e2];rfl
theorem sk{l:List Pt}(h:0<l.length)(x:Int):aA (l.drop (l.length-1)) x=((l.getD (l.length-1) zP).2,1):=by
 rw[List.drop_eq_getElem_cons (by omega:l.length-1<l.length),show l.length-1+1=l.length by omega,List.drop_length]
 show (_,_)=_
 simp[List.getD_eq_getElem?_getD,(by omega:l.length-1<l.length)]
theorem zQ{a b x c d:Int}(hx:a<=x/\x<=b)(hc:0<=c/\c<=20000)(hd:0<=d/\d<=20000)(hab:a<b)(h4:b-a<=400):(0<=c*(b-a)/\c*(b-a)<=8000000)/\(-8000000<=(d-c)*(x-a)/\(d-c)*(x-a)<=8000000)/\0<=c*(b-a)+(d-c)*(x-a)/\c*(b-a)+(d-c)*(x-a)<=20000*(b-a):=by
 have e:c*(b-a)+(d-c)*(x-a)=c*(b-x)+d*(x-a):=by
  rw[Int.sub_mul,show c*(b-a)=c*(b-x)+c*(x-a) by rw[<- Int.mul_add];congr 1;omega];omega
 have m1:0<=c*(b-a):=Int.mul_nonneg hc.1 (by omega)
 have m2:c*(b-a)<=20000*400:=Int.mul_le_mul hc.2 h4 (by omega) (by omega)
 have m3:0<=c*(b-x):=Int.mul_nonneg hc.1 (by omega)
 have m4:0<=d*(x-a):=Int.mul_nonneg hd.1 (by omega)
 have m5:c*(b-x)<=20000*(b-x):=Int.mul_le_mul_of_nonneg_right hc.2 (by omega)
 have m6:d*(x-a)<=20000*(x-a):=Int.mul_le_mul_of_nonneg_right hd.2 (by omega)
 have m7:20000*(b-x)+20000*(x-a)=20000*(b-a):=by omega
 have m8:20000*(b-a)<=8000000:=by omega
 rw[e]
 have e2:(d-c)*(x-a)=d*(x-a)-c*(x-a):=Int.sub_mul ..
 have m9:0<=c*(x-a):=Int.mul_nonneg hc.1 (by omega)
 have m10:c*(x-a)<=20000*(x-a):=Int.mul_le_mul_of_nonneg_right hc.2 (by omega)
 refine ⟨⟨m1,by omega⟩,⟨by omega,by omega⟩,by omega,by omega⟩
theorem fi{l:List Pt}(c:xX l){x:Int}(hx:0<=x):(1<=(aA l x).2/\(aA l x).2<=400)/\0<=(aA l x).1/\(aA l x).1<=20000*(aA l x).2:=by
 have key:∀n i,i+n=l.length->0<i->(l.getD (i-1) zP).1<=x->(1<=(aA (l.drop (i-1)) x).2/\(aA (l.drop (i-1)) x).2<=400)/\0<=(aA (l.drop (i-1)) x).1/\(aA (l.drop (i-1)) x).1<=20000*(aA (l.drop (i-1)) x).2:=by
  intro n
  induction n with
  |zero =>
   intro i e h0 _
   obtain rfl:i=l.length:=by omega
   rw[sk h0]
   have:=(c.pt (l.length-1) (by omega)).2
   dsimp only;omega
  |succ n ih =>
   intro i e h0 hlo
   have hi:i<l.length:=by omega
   rw[oX h0 hi]
   have p1:=c.pt i hi
   have p2:=c.pt (i-1) (by omega)
   have p3:=c.up i h0 hi
   split
   ·rename_i h
    have:=zQ (a:=(l.getD (i-1) zP).1) (b:=(l.getD i zP).1) (x:=x) ⟨hlo,h⟩ p2.2 p1.2 p3 (by omega)
    dsimp only;omega
   ·rename_i h
    exact ih (i+1) (by omega) (by omega) (by show (l.getD i zP).1<=x;omega)
 have:=key (l.length-1) 1 (by have:=c.len;omega) (by omega) (by rw[show 1-1=0 from rfl,c.x0];exact hx)
 rwa [show l.drop (1-1)=l from rfl]at this
theorem vr{l:List Pt}(c:xX l){x:Int}(hx:0<=x/\x<=1000000){H:Heap}{id:Nat}{own:Bool}{z:Nat}(hid:H[id]?=some (.cells own z (l.flatMap ptC))):ae prog 120 [slR id l.length,nI x] H [] (Is (.tuple #[nI (aA l x).1,nI (aA l x).2]) H):=by
 refine fT (css:=[l.flatMap ptC]) (v:=.tuple #[nI (aA l x).1,nI (aA l x).2]) (ids:=[id]) (Eq.mpr (GD _ l x) ?_) ⟨dZ _ _,trivial⟩ rfl ⟨⟨_,_,hid⟩,trivial⟩ rfl
 have hn:=c.len
 delta Rvalue ja9 ja7 jaa ja1 jab ja0 ja6 nI slQ fk nw eR wR ixq lq
 refine ⟨rfl,⟨⟨⟨by omega,by omega⟩,by rw[show 1-1=0 from rfl,c.x0];exact hx.1⟩,rfl⟩,?_,fun _=>rfl,fun i hi=>⟨fun k =>?_,fun k =>?_⟩⟩
 ·repeat' first|exact trivial|exact ad _|refine ⟨rfl,?_⟩|refine ⟨trivial,?_⟩|apply And.intro
 ·have hx1:i<l.length:=by have:=aR k;omega
  have p1:=c.pt i hx1
  have p2:=c.pt (i-1) (by omega)
  have p3:=c.up i (by omega) hx1
  have e3:Int.toNat ((i:Int)-1)=i-1:=by omega
  rw[e3]
  have hv:=hi.2
  rw[oX (by omega) hx1]at hv
  refine ⟨ag (by omega),⟨by omega,by omega⟩,uW (by omega) (by omega),⟨by omega,by omega⟩,uW hx1 (by omega),fun b =>?_,fun b =>?_⟩
  ·have hb:=aR b
   rw[if_pos hb]at hv
   have hlo:(l.getD (i-1) zP).1<=x:=hi.1.2
   have sg:=zQ (a:=(l.getD (i-1) zP).1) (b:=(l.getD i zP).1) (x:=x) ⟨hlo,hb⟩ p2.2 p1.2 p3 (by omega)
   exact ⟨ag (by omega),ag (by omega),ag (by omega),ag (by omega),ag (by omega),ag (by omega),ag (by omega),by rw[hv]⟩
  ·have hb:=aV b
   rw[if_neg hb]at hv
   refine ⟨ag (by omega),i+1,⟨⟨⟨by omega,by omega⟩,by show (l.getD i zP).1<=x;omega⟩,hv⟩,by omega,rfl,?_⟩
   repeat' first|exact trivial|exact ad _|refine ⟨rfl,?_⟩|refine ⟨trivial,?_⟩|apply And.intro
 ·have h1:i=l.length:=by have:=aV k;omega
  have e3:Int.toNat ((l.length:Int)-1)=l.length-1:=by omega
  rw[e3]
  have hv:=hi.2
  rw[h1,sk (by omega)]at hv
  exact ⟨ag (by omega),⟨by omega,by omega⟩,wO (by omega) (by omega),by rw[hv]⟩
abbrev jb0(sp:Value):Prop:=(nI 40:Value)=sp
def xN(sp:Value)(s:Shp):Prop :=
 (c0q 8 37 [nI s.cls,nI 1,nI 6] (.bool (inB s.cls 1 6)) (fk (!(inB s.cls 1 6)) ((nI 41:Value)=sp) (c0q 9 37 [nI s.pow,nI 100,nI 100000] (.bool (inB s.pow 100 100000)) (fk (inB s.pow 100 100000) (c0q 9 37 [nI s.dra,nI 10,nI 2000] (.bool (inB s.dra 10 2000)) (fk (inB s.dra 10 2000) (c0q 9 37 [nI s.ton,nI 10,nI 500000] (.bool (inB s.ton 10 500000)) (fk (!(inB s.ton 10 500000)) (jb0 sp) (c0q 10 37 [nI s.slow,nI 0,nI 20] (.bool (inB s.slow 0 20)) (fk (inB s.slow 0 20) (c0q 10 37 [nI s.aB,nI 0,nI 100] (.bool (inB s.aB 0 100)) (fk (inB s.aB 0 100) (c0q 10 37 [nI s.rdg,nI 0,nI 500] (.bool (inB s.rdg 0 500)) (fk (inB s.rdg 0 500) (c0q 10 37 [nI s.prs,nI 0,nI 5000] (.bool (inB s.prs 0 5000)) (fk (!(inB s.prs 0 5000)) (jb0 sp) (c1q 11 1 (.cells false 0 (s.th.flatMap ptC)) 104 [slQ 1 2 s.th.length,nI (-1)] (.bool (cR s.th (-1))) (fk (cR s.th (-1)) (c1q 11 1 (.cells false 0 (s.th.flatMap ptC)) 105 [slQ 1 2 s.th.length] (nI (dc s.th)) (c0q 11 37 [nI (dc s.th),nI 10,nI 250] (.bool (inB (dc s.th) 10 250)) (fk (!(inB (dc s.th) 10 250)) (jb0 sp) (c1q 12 2 (.cells false 0 (s.wa.flatMap ptC)) 104 [slQ 2 2 s.wa.length,nI 1] (.bool (cR s.wa 1)) (fk (cR s.wa 1) (c1q 12 2 (.cells false 0 (s.wa.flatMap ptC)) 105 [slQ 2 2 s.wa.length] (nI (dc s.wa)) (fk (!(decide (((dc s.wa):Int)<=250))) (jb0 sp) (c1q 13 3 (.cells false 0 (s.ic.flatMap ptC)) 104 [slQ 3 2 s.ic.length,nI 1] (.bool (cR s.ic 1)) (fk (cR s.ic 1) ((ixq 0 s.ic.length)/\(((s.ic.flatMap ptC)[1]?=some (nI (s.ic.getD 0 zP).2))/\(fk (((s.ic.getD 0 zP).2:Int) == 0) (c1q 13 3 (.cells false 0 (s.ic.flatMap ptC)) 105 [slQ 3 2 s.ic.length] (nI (dc s.ic)) (fk (!(((dc s.ic):Int) == 400)) (jb0 sp) ((nI 0:Value)=sp))) (jb0 sp)))) (jb0 sp))))) (jb0 sp)))))) (jb0 sp))))) (jb0 sp))) (jb0 sp))) (jb0 sp))))) (jb0 sp))) (jb0 sp)))))
theorem Ei(sp:Value)(s:Shp):vF prog msk (dm 0) 100000 true 40 true 36 [.agg #[nI s.cls,nI s.pow,nI s.dra,nI s.ton,slQ 1 2 s.th.length,slQ 2 2 s.wa.length,slQ 3 2 s.ic.length,nI s.slow,nI s.aB,nI s.rdg,nI s.prs]] (ce 1 [s.th.flatMap ptC,s.wa.flatMap ptC,s.ic.flatMap ptC]) (some [])
 (.go 27 (.ans [] (.bool (inB s.cls 1 6)) [] (.go 1 (.fork (.auto) (.go 15 (.ans [] (.bool (inB s.pow 100 100000)) [] (.go 0 (.aH (.go 1 (.ans [] (.bool (inB s.dra 10 2000)) [] (.go 1 (.aH (.go 1 (.ans [] (.bool (inB s.ton 10 500000)) [] (.go 2 (.fork (.auto) (.go 15 (.ans [] (.bool (inB s.slow 0 20)) [] (.go 0 (.aH (.go 1 (.ans [] (.bool (inB s.aB 0 100)) [] (.go 1 (.aH (.go 1 (.ans [] (.bool (inB s.rdg 0 500)) [] (.go 1 (.aH (.go 1 (.ans [] (.bool (inB s.prs 0 5000)) [] (.go 2 (.fork (.auto) (.go 15 (.ans [(1,.cells false 0 (s.th.flatMap ptC))] (.bool (cR s.th (-1))) [] (.go 0 (.aH (.go 1 (.ans [(1,.cells false 0 (s.th.flatMap ptC))] (nI (dc s.th)) [] (.ans [] (.bool (inB (dc s.th) 10 250)) [] (.go 2 (.fork (.auto) (.go 15 (.ans [(2,.cells false 0 (s.wa.flatMap ptC))] (.bool (cR s.wa 1)) [] (.go 0 (.aH (.go 1 (.ans [(2,.cells false 0 (s.wa.flatMap ptC))] (nI (dc s.wa)) [] (.go 3 (.fork (.auto) (.go 15 (.ans [(3,.cells false 0 (s.ic.flatMap ptC))] (.bool (cR s.ic 1)) [] (.go 0 (.aH (.go 1 (.need (.go 0 (.val (nI (s.ic.getD 0 zP).2) (.go 2 (.aH (.go 1 (.ans [(3,.cells false 0 (s.ic.flatMap ptC))] (nI (dc s.ic)) [] (.go 3 (.fork (.auto) (.auto))))) (.auto))))))) (.auto))))))))) (.auto)))))))))) (.auto))))))))) (.auto))))) (.auto))))) (.auto))))))))) (.auto))))) (.auto)))))))))
 (fun v _ _=>v=sp)=xN sp s:=by kernel_rfl
theorem bG{l:List Pt}{w:Int}(h:cR l w=true):xX l:=by
 unfold cR at h
 rw[Bool.and_eq_true]at h
 exact uj.1 h.1
structure xT(s:Shp):Prop where
 th:s.th.length<=1000000
 wa:s.wa.length<=1000000
 ic:s.ic.length<=1000000
theorem xf(s:Shp)(hs:xT s){H:Heap}{i j k:Nat}{o1 o2 o3:Bool}{z1 z2 z3:Nat}(h1:H[i]?=some (.cells o1 z1 (s.th.flatMap ptC)))(h2:H[j]?=some (.cells o2 z2 (s.wa.flatMap ptC)))(h3:H[k]?=some (.cells o3 z3 (s.ic.flatMap ptC))) :
  ae prog 36 [Fr s i j k] H [] (Is (nI (aZ s)) H):=by
 refine fT (css:=[s.th.flatMap ptC,s.wa.flatMap ptC,s.ic.flatMap ptC]) (v:=nI (aZ s)) (ids:=[i,j,k]) (Eq.mpr (Ei _ s) ?_) ⟨dZ _ _,dZ _ _,dZ _ _,trivial⟩ rfl ⟨⟨_,_,h1⟩,⟨_,_,h2⟩,⟨_,_,h3⟩,trivial⟩ rfl
 delta xN jb0 nI slQ fk ixq c0q c1q
 repeat' first|exact trivial|exact ⟨rfl,trivial⟩|(exact fun H' hl _=>mc _ _ _ (by omega))|(exact fun H' _ h=>qQ _ _ (.inr rfl) hs.th h.1)|(exact fun H' _ h=>qQ _ _ (.inl rfl) hs.wa h.1)|(exact fun H' _ h=>qQ _ _ (.inl rfl) hs.ic h.1)|(exact fun H' _ h=>Db s.th (by have:=(bG ‹cR s.th (-1)=true›).len;omega) hs.th h.1)|(exact fun H' _ h=>Db s.wa (by have:=(bG ‹cR s.wa 1=true›).len;omega) hs.wa h.1)|(exact fun H' _ h=>Db s.ic (by have:=(bG ‹cR s.ic 1=true›).len;omega) hs.ic h.1)|(exact ⟨by omega,by have:=(bG ‹cR s.ic 1=true›).len;omega⟩)|(exact wO (by have:=(bG ‹cR s.ic 1=true›).len;omega) (by omega))|(exact iEq (by unfold aZ;simp_all))|intro _|apply And.intro
def xH(sp:Value)(s:Shp)(v:Int):Prop :=
 (c1q 5 2 (.cells true 2 (s.th.flatMap ptC)) 120 [slQ 2 2 s.th.length,nI v] (.tuple #[nI (aA s.th v).1,nI (aA s.th v).2]) ((((aA s.th v).2:Int)≠0)/\(nw (Int.tdiv (aA s.th v).1 (aA s.th v).2) ((nI (Int.tdiv (aA s.th v).1 (aA s.th v).2):Value)=sp))))
abbrev jc0(s:Shp):List Value:=[nI s.cls,nI s.pow,nI s.dra,nI s.ton,slQ 2 2 s.th.length,slQ 3 2 s.wa.length,slQ 4 2 s.ic.length,nI s.slow,nI s.aB,nI s.rdg,nI s.prs]
abbrev jc4(s:Shp):=aI [.cells false 0 [nI 4000,nI 8000,nI 14000,nI 24000,nI 40000,nI 90000],.cells true 0 (jc0 s),.cells true 2 (s.th.flatMap ptC),.cells true 2 (s.wa.flatMap ptC),.cells true 2 (s.ic.flatMap ptC)]
theorem Ee(sp:Value)(s:Shp)(v:Int):vF prog msk (dm 0) 100000 true 40 true 110 [pt 1,nI v] (jc4 s) (some [])
 (.go 5 (.ans [(2,.cells true 2 (s.th.flatMap ptC))] (.tuple #[nI (aA s.th v).1,nI (aA s.th v).2]) [] (.go 6 (.need (.slot 18 (nI (Int.tdiv (aA s.th v).1 (aA s.th v).2)) (.auto))))))
 (fun v _ _=>v=sp)=xH sp s v:=by kernel_rfl
abbrev jcb(s:Shp)(x:Ice):=aA s.ic x.ai
def lV(sp:Value)(s:Shp)(x:Ice)(ch:Bool)(v:Int):Prop :=
 (c1q 6 3 (.cells true 2 (s.wa.flatMap ptC)) 120 [slQ 3 2 s.wa.length,nI v] (.tuple #[nI (aA s.wa v).1,nI (aA s.wa v).2]) (c1q 6 4 (.cells true 2 (s.ic.flatMap ptC)) 120 [slQ 4 2 s.ic.length,nI x.ai] (.tuple #[nI (jcb s x).1,nI (jcb s x).2]) (fk ch (nw (s.slow*v) (nw (1000+(s.slow*v)) (nw ((jcb s x).1*(1000+(s.slow*v))) (∃y2:Int,bw ((jcb s x).1*(1000+(s.slow*v))) y2/\(nw (y2*s.aB) (nw (s.rdg*0) (nw ((s.rdg*0)*(jcb s x).2) (∃y3:Int,bw ((s.rdg*0)*(jcb s x).2) y3/\(nw (y3*100000) (nw ((y2*s.aB)+(y3*100000)) (∃y4:Int,bw ((y2*s.aB)+(y3*100000)) y4/\(nw (x.aW*y4) (nw ((jcb s x).2*10000000) (∃y5:Int,bw ((jcb s x).2*10000000) y5/\(nw ((aA s.wa v).1*y5) (nw ((x.aW*y4)*(aA s.wa v).2) (∃y6:Int,bw ((x.aW*y4)*(aA s.wa v).2) y6/\(nw (((aA s.wa v).1*y5)+y6) (∃y7:Int,bw (((aA s.wa v).1*y5)+y6) y7/\(nw (s.prs*x.am) (nw ((s.prs*x.am)*(aA s.wa v).2) (∃y8:Int,bw ((s.prs*x.am)*(aA s.wa v).2) y8/\(nw (y8*y5) (nw (y7+(y8*y5)) (nw ((aA s.wa v).2*y5) (nw ((y7+(y8*y5))+((aA s.wa v).2*y5)) (∃y9:Int,bw ((y7+(y8*y5))+((aA s.wa v).2*y5)) y9/\(nw (y9-1) (nw ((aA s.wa v).2*y5) (((((aA s.wa v).2*y5):Int)≠0)/\(nw (Int.tdiv (y9-1) ((aA s.wa v).2*y5)) (∃y10:Int,bw (Int.tdiv (y9-1) ((aA s.wa v).2*y5)) y10/\(nI y10:Value)=sp)))))))))))))))))))))))))))))))) (nw (s.slow*v) (nw (1000+(s.slow*v)) (nw ((jcb s x).1*(1000+(s.slow*v))) (∃y2:Int,bw ((jcb s x).1*(1000+(s.slow*v))) y2/\(nw (y2*100) (nw (s.rdg*x.aw) (nw ((s.rdg*x.aw)*(jcb s x).2) (∃y3:Int,bw ((s.rdg*x.aw)*(jcb s x).2) y3/\(nw (y3*100000) (nw ((y2*100)+(y3*100000)) (nw (x.aW*((y2*100)+(y3*100000))) (∃y4:Int,bw (x.aW*((y2*100)+(y3*100000))) y4/\(nw ((jcb s x).2*10000000) (∃y5:Int,bw ((jcb s x).2*10000000) y5/\(nw ((aA s.wa v).1*y5) (nw (y4*(aA s.wa v).2) (nw (((aA s.wa v).1*y5)+(y4*(aA s.wa v).2)) (∃y6:Int,bw (((aA s.wa v).1*y5)+(y4*(aA s.wa v).2)) y6/\(nw (s.prs*x.am) (nw ((s.prs*x.am)*(aA s.wa v).2) (∃y7:Int,bw ((s.prs*x.am)*(aA s.wa v).2) y7/\(nw (y7*y5) (nw (y6+(y7*y5)) (nw ((aA s.wa v).2*y5) (nw ((y6+(y7*y5))+((aA s.wa v).2*y5)) (∃y8:Int,bw ((y6+(y7*y5))+((aA s.wa v).2*y5)) y8/\(nw (y8-1) (nw ((aA s.wa v).2*y5) (((((aA s.wa v).2*y5):Int)≠0)/\(nw (Int.tdiv (y8-1) ((aA s.wa v).2*y5)) (∃y9:Int,bw (Int.tdiv (y8-1) ((aA s.wa v).2*y5)) y9/\(nI y9:Value)=sp))))))))))))))))))))))))))))))))))
abbrev jcd(x:Ice)(ch:Bool)(v:Int):List Value:=[.agg #[pt 1,nI x.aW,nI x.ai,nI x.aw,nI x.am,.bool ch],nI v]
theorem uG(sp:Value)(s:Shp)(x:Ice)(ch:Bool)(v:Int):vF prog msk (dm 0) 100000 true 40 true 111 (jcd x ch v) (jc4 s) (some [])
 (.go 7 (.ans [(3,.cells true 2 (s.wa.flatMap ptC))] (.tuple #[nI (aA s.wa v).1,nI (aA s.wa v).2]) [] (.go 12 (.ans [(4,.cells true 2 (s.ic.flatMap ptC))] (.tuple #[nI (jcb s x).1,nI (jcb s x).2]) [] (.go 11 (.fork (.go 17 (.slot 54 (nI (s.slow*v)) (.go 0 (.slot 55 (nI (1000+(s.slow*v))) (.go 0 (.slot 56 (nI ((jcb s x).1*(1000+(s.slow*v)))) (.bind Int (fun y2 => .slot 56 (nI y2) (.go 1 (.slot 58 (nI (y2*s.aB)) (.go 6 (.slot 65 (nI (s.rdg*0)) (.go 1 (.slot 67 (nI ((s.rdg*0)*(jcb s x).2)) (.bind Int (fun y3 => .slot 67 (nI y3) (.go 0 (.slot 68 (nI (y3*100000)) (.go 0 (.slot 69 (nI ((y2*s.aB)+(y3*100000))) (.bind Int (fun y4 => .slot 69 (nI y4) (.go 0 (.slot 70 (nI (x.aW*y4)) (.go 2 (.slot 72 (nI ((jcb s x).2*10000000)) (.bind Int (fun y5 => .slot 72 (nI y5) (.go 3 (.slot 75 (nI ((aA s.wa v).1*y5)) (.go 2 (.slot 78 (nI ((x.aW*y4)*(aA s.wa v).2)) (.bind Int (fun y6 => .slot 78 (nI y6) (.go 0 (.slot 79 (nI (((aA s.wa v).1*y5)+y6)) (.bind Int (fun y7 => .slot 79 (nI y7) (.go 8 (.slot 88 (nI (s.prs*x.am)) (.go 1 (.slot 90 (nI ((s.prs*x.am)*(aA s.wa v).2)) (.bind Int (fun y8 => .slot 90 (nI y8) (.go 1 (.slot 92 (nI (y8*y5)) (.go 0 (.slot 93 (nI (y7+(y8*y5))) (.go 4 (.slot 97 (nI ((aA s.wa v).2*y5)) (.go 0 (.slot 98 (nI ((y7+(y8*y5))+((aA s.wa v).2*y5))) (.bind Int (fun y9 => .slot 98 (nI y9) (.go 0 (.slot 99 (nI (y9-1)) (.go 2 (.slot 102 (nI ((aA s.wa v).2*y5)) (.need (.slot 103 (nI (Int.tdiv (y9-1) ((aA s.wa v).2*y5))) (.bind Int (fun y10 => .slot 103 (nI y10) (.auto))))))))))))))))))))))))))))))))))))))))))))))))))))))))))))))) (.go 10 (.slot 54 (nI (s.slow*v)) (.go 0 (.slot 55 (nI (1000+(s.slow*v))) (.go 0 (.slot 56 (nI ((jcb s x).1*(1000+(s.slow*v)))) (.bind Int (fun y2 => .slot 56 (nI y2) (.go 1 (.slot 58 (nI (y2*100)) (.go 6 (.slot 65 (nI (s.rdg*x.aw)) (.go 1 (.slot 67 (nI ((s.rdg*x.aw)*(jcb s x).2)) (.bind Int (fun y3 => .slot 67 (nI y3) (.go 0 (.slot 68 (nI (y3*100000)) (.go 0 (.slot 69 (nI ((y2*100)+(y3*100000))) (.go 0 (.slot 70 (nI (x.aW*((y2*100)+(y3*100000)))) (.bind Int (fun y4 => .slot 70 (nI y4) (.go 2 (.slot 72 (nI ((jcb s x).2*10000000)) (.bind Int (fun y5 => .slot 72 (nI y5) (.go 3 (.slot 75 (nI ((aA s.wa v).1*y5)) (.go 2 (.slot 78 (nI (y4*(aA s.wa v).2)) (.go 0 (.slot 79 (nI (((aA s.wa v).1*y5)+(y4*(aA s.wa v).2))) (.bind Int (fun y6 => .slot 79 (nI y6) (.go 8 (.slot 88 (nI (s.prs*x.am)) (.go 1 (.slot 90 (nI ((s.prs*x.am)*(aA s.wa v).2)) (.bind Int (fun y7 => .slot 90 (nI y7) (.go 1 (.slot 92 (nI (y7*y5)) (.go 0 (.slot 93 (nI (y6+(y7*y5))) (.go 4 (.slot 97 (nI ((aA s.wa v).2*y5)) (.go 0 (.slot 98 (nI ((y6+(y7*y5))+((aA s.wa v).2*y5))) (.bind Int (fun y8 => .slot 98 (nI y8) (.go 0 (.slot 99 (nI (y8-1)) (.go 2 (.slot 102 (nI ((aA s.wa v).2*y5)) (.need (.slot 103 (nI (Int.tdiv (y8-1) ((aA s.wa v).2*y5))) (.bind Int (fun y9 => .slot 103 (nI y9) (.auto)))))))))))))))))))))))))))))))))))))))))))))))))))))))))))))))))))
 (fun v _ _=>v=sp)=lV sp s x ch v:=by kernel_rfl
abbrev jcc(x:Ice)(v:Int):=Int.tdiv ((x.ai*(100+v))+1) 2
def E5(sp:Value)(x:Ice)(v:Int)(ch:Bool):Prop :=
 (nw (100+v) (nw (x.ai*(100+v)) (fk ch (nw ((x.ai*(100+v))+1) (nw (jcc x v) (fk ((x.aW:Int) == 0) ((nI 0:Value)=sp) (nw ((jcc x v)+0) (nw (2000*x.am) (nw (((jcc x v)+0)+(2000*x.am)) ((nI (((jcc x v)+0)+(2000*x.am)):Value)=sp))))))) (fk ((x.aW:Int) == 0) ((nI 0:Value)=sp) (nw (300*x.aw) (nw ((x.ai*(100+v))+(300*x.aw)) (nw (2000*x.am) (nw (((x.ai*(100+v))+(300*x.aw))+(2000*x.am)) ((nI (((x.ai*(100+v))+(300*x.aw))+(2000*x.am)):Value)=sp)))))))))
theorem Iq(sp:Value)(x:Ice)(v:Int)(ch:Bool):vF prog msk (dm 0) 100000 true 40 true 112 [.agg #[nI x.aW,nI x.ai,nI x.aw,nI x.am],nI v,.bool ch] ⟨1,.leaf⟩ (some [])
 (.go 5 (.slot 12 (nI (100+v)) (.go 0 (.slot 13 (nI (x.ai*(100+v))) (.go 4 (.fork (.go 1 (.slot 18 (nI ((x.ai*(100+v))+1)) (.go 0 (.slot 19 (nI (jcc x v)) (.go 4 (.fork (.auto) (.go 3 (.slot 26 (nI ((jcc x v)+0)) (.go 2 (.slot 29 (nI (2000*x.am)) (.go 0 (.slot 30 (nI (((jcc x v)+0)+(2000*x.am))) (.auto))))))))))))) (.go 2 (.fork (.auto) (.go 2 (.slot 25 (nI (300*x.aw)) (.go 0 (.slot 26 (nI ((x.ai*(100+v))+(300*x.aw))) (.go 2 (.slot 29 (nI (2000*x.am)) (.go 0 (.slot 30 (nI (((x.ai*(100+v))+(300*x.aw))+(2000*x.am))) (.auto)))))))))))))))))
 (fun v _ _=>v=sp)=E5 sp x v ch:=by kernel_rfl
abbrev jc2(s:Shp):Prop:=(ac (.cells false 0 [nI 4000,nI 8000,nI 14000,nI 24000,nI 40000,nI 90000]))/\(ac (.cells true 0 (jc0 s)))/\(ac (.cells true 2 (s.th.flatMap ptC)))/\(ac (.cells true 2 (s.wa.flatMap ptC)))/\(ac (.cells true 2 (s.ic.flatMap ptC)))/\True
abbrev jc1(H':Heap)(s:Shp):Prop:=H'[0]?=some (.cells false 0 [nI 4000,nI 8000,nI 14000,nI 24000,nI 40000,nI 90000]:aa)/\H'[1]?=some (.cells true 0 (jc0 s):aa)/\H'[2]?=some (.cells true 2 (s.th.flatMap ptC):aa)/\H'[3]?=some (.cells true 2 (s.wa.flatMap ptC):aa)/\H'[4]?=some (.cells true 2 (s.ic.flatMap ptC):aa)/\True
def B9(sp:Value)(s:Shp)(x:Ice)(ch:Bool)(v:Int):Prop :=
 (c1q 6 2 (.cells true 2 (s.th.flatMap ptC)) 105 [slQ 2 2 s.th.length] (nI (dc s.th)) (fk (decide ((v:Int)<=(dc s.th))) ((jc2 s)/\(∀H':Heap,H'.length=6->(jc1 H' s)->ae prog 110 [pt 1,nI v] H' [] (Is (nI (sw s v)) H'))/\((jc2 s)/\(∀H':Heap,H'.length=6->(jc1 H' s)->ae prog 111 (jcd x ch v) H' [] (Is (nI (qo s x ch v)) H'))/\(.bool (decide (((qo s x ch v):Int)<=(sw s v))):Value)=sp)) ((.bool false:Value)=sp)))
abbrev jc3(s:Shp):List (Nat×aa):=[(0,.cells false 0 [nI 4000,nI 8000,nI 14000,nI 24000,nI 40000,nI 90000]),(1,.cells true 0 (jc0 s)),(2,.cells true 2 (s.th.flatMap ptC)),(3,.cells true 2 (s.wa.flatMap ptC)),(4,.cells true 2 (s.ic.flatMap ptC))]
theorem GJ(sp:Value)(s:Shp)(x:Ice)(ch:Bool)(v:Int):vF prog msk (dm 0) 100000 true 40 true 81 (jcd x ch v) (jc4 s) (some [])
 (.go 7 (.ans [(2,.cells true 2 (s.th.flatMap ptC))] (nI (dc s.th)) [] (.go 1 (.aH (.go 4 (.ans (jc3 s) (nI (sw s v)) [] (.ans (jc3 s) (nI (qo s x ch v)) [] (.auto)))) (.auto)))))
 (fun v _ _=>v=sp)=B9 sp s x ch v:=by kernel_rfl
abbrev jce:List Int:=[4000,8000,14000,24000,40000,90000]
def Cl(sp:Value)(s:Shp)(x:Ice)(ch:Bool)(v:Int):Prop :=
 (nw (s.cls-1) ((ixq (s.cls-1) 6)/\((([nI 4000,nI 8000,nI 14000,nI 24000,nI 40000,nI 90000]:List Value)[(0+Int.toNat (s.cls-1)*1)]?=some (nI (jce.getD (s.cls-1).toNat 0)))/\(c0q 6 112 [.agg #[nI x.aW,nI x.ai,nI x.aw,nI x.am],nI v,.bool ch] (nI (gY x v ch)) ((.bool (decide (((gY x v ch):Int)<=(jce.getD (s.cls-1).toNat 0))):Value)=sp)))))
theorem GV(sp:Value)(s:Shp)(x:Ice)(ch:Bool)(v:Int):vF prog msk (dm 0) 100000 true 40 true 82 (jcd x ch v) (jc4 s) (some [])
 (.go 12 (.slot 16 (nI (s.cls-1)) (.need (.val (nI (jce.getD (s.cls-1).toNat 0)) (.ans [] (nI (gY x v ch)) [] (.auto))))))
 (fun v _ _=>v=sp)=Cl sp s x ch v:=by kernel_rfl
abbrev jc8:Nat×Int×Int:=(250,0,250)
abbrev jca(x:Ice)(ch:Bool):Prop:=eR (.func (.func 81) #[.agg #[pt 1,nI x.aW,nI x.ai,nI x.aw,nI x.am,.bool ch]] #[])/\eR (nI 0)/\eR (.bool false)/\True
abbrev jcf:Prop:=(True)/\(True)/\(True)
abbrev jcj(x1:Nat×Int×Int)(s:Shp)(x:Ice)(ch:Bool):Prop:=(x1.2.1<=x1.2.2/\x1.2.2-x1.2.1<=x1.1/\0<=x1.2.1/\x1.2.2<=250)/\bsG (mkB s x ch) x1.1 x1.2.1 x1.2.2=bsG (mkB s x ch) 250 0 250
abbrev jc9(x1:Nat×Int×Int):=Int.tdiv ((x1.2.2-x1.2.1)+1) 2
abbrev jcg(x1':Nat×Int×Int)(s:Shp)(x:Ice)(ch:Bool):Prop:=(x1'.2.1<=x1'.2.2/\x1'.2.2-x1'.2.1<=x1'.1/\0<=x1'.2.1/\x1'.2.2<=250)/\bsG (mkB s x ch) x1'.1 x1'.2.1 x1'.2.2=bsG (mkB s x ch) 250 0 250
def B8(sp:Value)(s:Shp)(x:Ice)(ch:Bool):Prop :=
 ((jc2 s)/\(∀H':Heap,H'.length=6->(jc1 H' s)->ae prog 81 [.agg #[pt 1,nI x.aW,nI x.ai,nI x.aw,nI x.am,.bool ch],nI 0] H' [] (Is (.bool (mkB s x ch 0)) H'))/\(fk (!(mkB s x ch 0)) ((nI 0:Value)=sp) (true=true/\((jc8.2.1<=jc8.2.2/\jc8.2.2-jc8.2.1<=jc8.1/\0<=jc8.2.1/\jc8.2.2<=250)/\bsG (mkB s x ch) jc8.1 jc8.2.1 jc8.2.2=bsG (mkB s x ch) 250 0 250)/\(true=true/\((nI 0:Value)=nI jc8.2.1/\(nI 250:Value)=nI jc8.2.2/\jca x ch)/\jcf)/\(∀x1:Nat×Int×Int,true=true)/\∀x1:Nat×Int×Int,(jcj x1 s x ch)->(fk (decide ((x1.2.1:Int)<x1.2.2)) (nw (x1.2.2-x1.2.1) (nw ((x1.2.2-x1.2.1)+1) (nw (jc9 x1) (nw (x1.2.1+(jc9 x1)) ((jc2 s)/\(∀H':Heap,H'.length=6->(jc1 H' s)->ae prog 81 [.agg #[pt 1,nI x.aW,nI x.ai,nI x.aw,nI x.am,.bool ch],nI (x1.2.1+(jc9 x1))] H' [] (Is (.bool (mkB s x ch (x1.2.1+(jc9 x1)))) H'))/\(fk (mkB s x ch (x1.2.1+(jc9 x1))) (∃x1':Nat×Int×Int,(jcg x1' s x ch)/\x1'.1<x1.1/\true=true/\((nI (x1.2.1+(jc9 x1)):Value)=nI x1'.2.1/\(nI x1.2.2:Value)=nI x1'.2.2/\jca x ch)/\jcf) (nw ((x1.2.1+(jc9 x1))-1) (∃x1':Nat×Int×Int,(jcg x1' s x ch)/\x1'.1<x1.1/\true=true/\((nI x1.2.1:Value)=nI x1'.2.1/\(nI ((x1.2.1+(jc9 x1))-1):Value)=nI x1'.2.2/\jca x ch)/\jcf)))))))) ((nI x1.2.1:Value)=sp)))))
theorem GH(sp:Value)(s:Shp)(x:Ice)(ch:Bool):vF prog msk (dm 0) 100000 true 40 true 78 [.agg #[pt 1,nI x.aW,nI x.ai,nI x.aw,nI x.am,.bool ch]] (jc4 s) (some [])
 (.go 8 (.ans (jc3 s) (.bool (mkB s x ch 0)) [] (.go 0 (.fork (.auto) (.inv 3 (Nat×Int×Int) (jc8) [] [] (fun x1=>[(0,nI x1.2.1),(1,nI x1.2.2),(2,.func (.func 81) #[.agg #[pt 1,nI x.aW,nI x.ai,nI x.aw,nI x.am,.bool ch]] #[]),(6,nI 0),(7,.bool false)]) (fun x1=>[]) (fun x1=>[]) (fun x1=>[]) (fun x1=>(jcj x1 s x ch)) (fun x1=>x1.1) (fun x1 => .go 2 (.fork (.go 3 (.slot 19 (nI (x1.2.2-x1.2.1)) (.go 0 (.slot 20 (nI ((x1.2.2-x1.2.1)+1)) (.go 0 (.slot 21 (nI (jc9 x1)) (.go 0 (.slot 22 (nI (x1.2.1+(jc9 x1))) (.go 2 (.ans (jc3 s) (.bool (mkB s x ch (x1.2.1+(jc9 x1)))) [] (.fork (.go 1 (.again [])) (.go 1 (.slot 28 (nI ((x1.2.1+(jc9 x1))-1)) (.go 0 (.again []))))))))))))))) (.auto))))))))
 (fun v _ _=>v=sp)=B8 sp s x ch:=by kernel_rfl
abbrev jc7:Nat×Int×Int:=(240,10,250)
abbrev jch:Prop:=eR (.func (.func 80) #[] #[pt 5])/\eR (nI 0)/\eR (.bool false)/\True
abbrev jci(x2:Nat×Int×Int)(s:Shp)(x:Ice)(ch:Bool):Prop:=(x2.2.1<=x2.2.2/\x2.2.2-x2.2.1<=x2.1/\10<=x2.2.1/\x2.2.2<=250)/\bsG (mbB s x ch) x2.1 x2.2.1 x2.2.2=bsG (mbB s x ch) 240 10 250
abbrev jc5(x2:Nat×Int×Int):=Int.tdiv ((x2.2.2-x2.2.1)+1) 2
abbrev jc6(x2:Nat×Int×Int)(s:Shp)(x:Ice)(ch:Bool):=nw ((x2.2.1+(jc5 x2))-1) (∃x2':Nat×Int×Int,((x2'.2.1<=x2'.2.2/\x2'.2.2-x2'.2.1<=x2'.1/\10<=x2'.2.1/\x2'.2.2<=250)/\bsG (mbB s x ch) x2'.1 x2'.2.1 x2'.2.2=bsG (mbB s x ch) 240 10 250)/\x2'.1<x2.1/\true=true/\((nI x2.2.1:Value)=nI x2'.2.1/\(nI ((x2.2.1+(jc5 x2))-1):Value)=nI x2'.2.2/\jch)/\jcf)
def E8(sp:Value)(s:Shp)(x:Ice)(ch:Bool):Prop :=
 ((jc2 s)/\(∀H':Heap,H'.length=6->(jc1 H' s)->ae prog 81 [.agg #[pt 1,nI x.aW,nI x.ai,nI x.aw,nI x.am,.bool ch],nI 10] H' [] (Is (.bool (mkB s x ch 10)) H'))/\(fk (mkB s x ch 10) ((jc2 s)/\(∀H':Heap,H'.length=6->(jc1 H' s)->ae prog 82 [.agg #[pt 1,nI x.aW,nI x.ai,nI x.aw,nI x.am,.bool ch],nI 10] H' [] (Is (.bool (brB s x ch 10)) H'))/\(fk (!(brB s x ch 10)) ((.tuple #[nI 0,.bool false]:Value)=sp) (true=true/\((jc7.2.1<=jc7.2.2/\jc7.2.2-jc7.2.1<=jc7.1/\10<=jc7.2.1/\jc7.2.2<=250)/\bsG (mbB s x ch) jc7.1 jc7.2.1 jc7.2.2=bsG (mbB s x ch) 240 10 250)/\(true=true/\((nI 10:Value)=nI jc7.2.1/\(nI 250:Value)=nI jc7.2.2/\jch)/\jcf)/\(∀x2:Nat×Int×Int,true=true)/\∀x2:Nat×Int×Int,(jci x2 s x ch)->(fk (decide ((x2.2.1:Int)<x2.2.2)) (nw (x2.2.2-x2.2.1) (nw ((x2.2.2-x2.2.1)+1) (nw (jc5 x2) (nw (x2.2.1+(jc5 x2)) ((jc2 s)/\(∀H':Heap,H'.length=6->(jc1 H' s)->ae prog 81 [.agg #[pt 1,nI x.aW,nI x.ai,nI x.aw,nI x.am,.bool ch],nI (x2.2.1+(jc5 x2))] H' [] (Is (.bool (mkB s x ch (x2.2.1+(jc5 x2)))) H'))/\(fk (mkB s x ch (x2.2.1+(jc5 x2))) ((jc2 s)/\(∀H':Heap,H'.length=6->(jc1 H' s)->ae prog 82 [.agg #[pt 1,nI x.aW,nI x.ai,nI x.aw,nI x.am,.bool ch],nI (x2.2.1+(jc5 x2))] H' [] (Is (.bool (brB s x ch (x2.2.1+(jc5 x2)))) H'))/\(fk (brB s x ch (x2.2.1+(jc5 x2))) (∃x2':Nat×Int×Int,((x2'.2.1<=x2'.2.2/\x2'.2.2-x2'.2.1<=x2'.1/\10<=x2'.2.1/\x2'.2.2<=250)/\bsG (mbB s x ch) x2'.1 x2'.2.1 x2'.2.2=bsG (mbB s x ch) 240 10 250)/\x2'.1<x2.1/\true=true/\((nI (x2.2.1+(jc5 x2)):Value)=nI x2'.2.1/\(nI x2.2.2:Value)=nI x2'.2.2/\jch)/\jcf) (jc6 x2 s x ch))) (jc6 x2 s x ch))))))) ((.tuple #[nI x2.2.1,.bool true]:Value)=sp))))) ((.tuple #[nI 0,.bool false]:Value)=sp)))
theorem Iu(sp:Value)(s:Shp)(x:Ice)(ch:Bool):vF prog msk (dm 0) 100000 true 40 true 42 [.agg #[pt 1,nI x.aW,nI x.ai,nI x.aw,nI x.am,.bool ch]] (jc4 s) (some [])
 (.go 12 (.ans (jc3 s) (.bool (mkB s x ch 10)) [] (.go 0 (.aH (.go 1 (.ans (jc3 s) (.bool (brB s x ch 10)) [] (.go 2 (.fork (.auto) (.inv 3 (Nat×Int×Int) (jc7) [] [] (fun x2=>[(0,nI x2.2.1),(1,nI x2.2.2),(2,.func (.func 80) #[] #[pt 5]),(6,nI 0),(7,.bool false)]) (fun x2=>[]) (fun x2=>[]) (fun x2=>[]) (fun x2=>(jci x2 s x ch)) (fun x2=>x2.1) (fun x2 => .go 2 (.fork (.go 3 (.slot 19 (nI (x2.2.2-x2.2.1)) (.go 0 (.slot 20 (nI ((x2.2.2-x2.2.1)+1)) (.go 0 (.slot 21 (nI (jc5 x2)) (.go 0 (.slot 22 (nI (x2.2.1+(jc5 x2))) (.go 6 (.ans (jc3 s) (.bool (mkB s x ch (x2.2.1+(jc5 x2)))) [] (.go 0 (.aH (.go 1 (.ans (jc3 s) (.bool (brB s x ch (x2.2.1+(jc5 x2)))) [] (.go 1 (.fork (.go 1 (.again [])) (.go 1 (.slot 28 (nI ((x2.2.1+(jc5 x2))-1)) (.go 0 (.again [])))))))) (.go 4 (.slot 28 (nI ((x2.2.1+(jc5 x2))-1)) (.go 0 (.again [])))))))))))))))) (.auto)))))))) (.auto)))))
 (fun v _ _=>v=sp)=E8 sp s x ch:=by kernel_rfl
theorem iq{a b A B:Int}(h1:0<=a)(h2:a<=A)(h3:0<=b)(h4:b<=B):0<=a*b/\a*b<=A*B :=
 ⟨Int.mul_nonneg h1 h3,Int.mul_le_mul h2 h4 h3 (Int.le_trans h1 h2)⟩
structure kI(s:Shp):Prop where
 cls:1<=s.cls/\s.cls<=6
 slow:0<=s.slow/\s.slow<=20
 aB:0<=s.aB/\s.aB<=100
 rdg:0<=s.rdg/\s.rdg<=500
 prs:0<=s.prs/\s.prs<=5000
 th:cR s.th (-1)=true
 the:10<=dc s.th/\dc s.th<=250
 wa:cR s.wa 1=true
 wae:dc s.wa<=250
 ic:cR s.ic 1=true
 ic0:(s.ic.getD 0 zP).2=0
 ice:dc s.ic=400
theorem Ex{s:Shp}(e:aZ s=0):kI s:=by
 unfold aZ at e
 split at e
 ·cases e
 rename_i h1
 split at e
 ·cases e
 split at e
 ·cases e
 rename_i h3
 split at e
 ·cases e
 rename_i h4
 split at e
 ·cases e
 rename_i h5
 split at e
 ·cases e
 rename_i h6
 simp only[Bool.not_eq_false,Bool.and_eq_true,bc,decide_eq_true_eq,beq_iff_eq]at h1 h3 h4 h5 h6
 exact ⟨h1,h3.1.1.1,h3.1.1.2,h3.1.2,h3.2,h4.1,h4.2,h5.1,h5.2,h6.1.1,h6.1.2,h6.2⟩
def lW(x:Ice):Prop:=(0<=x.aW/\x.aW<=100)/\(0<=x.ai/\x.ai<=400)/\(0<=x.aw/\x.aw<=100)/\0<=x.am/\x.am<=3
def ShAt(H:Heap)(s:Shp)(b i j k:Nat):Prop :=
 [0,b,i,j,k].Nodup/\H[0]?=some bF/\H[b]?=some (.cells true 0 (uS s i j k))/\H[i]?=some (.cells true 2 (s.th.flatMap ptC))/\H[j]?=some (.cells true 2 (s.wa.flatMap ptC))/\H[k]?=some (.cells true 2 (s.ic.flatMap ptC))
theorem eD(o:Bool)(z:Nat)(l:List Pt)(S:Nat->Option Nat):rno S 3 (.cells o z (l.flatMap ptC)) = .cells o z (l.flatMap ptC):=congrArg (aa.cells o z) (eU (d:=0) (dZ 0 l)).1
theorem gX(o:Bool)(z:Nat)(l:List Pt):ap 3 (.cells o z (l.flatMap ptC))=true:=(eU (S:=fun _=>none) (d:=0) (dZ 0 l)).2
abbrev Hh(s:Shp):List aa:=[bF,.cells true 0 (uS s 2 3 4),.cells true 2 (s.th.flatMap ptC),.cells true 2 (s.wa.flatMap ptC),.cells true 2 (s.ic.flatMap ptC)]
theorem gE(s:Shp):(Hh s).all (ap 3)=true:=by
 show (ap 3 bF&&(ap 3 (.cells true 0 (uS s 2 3 4))&&(ap 3 (.cells true 2 (s.th.flatMap ptC))&&(ap 3 (.cells true 2 (s.wa.flatMap ptC))&&(ap 3 (.cells true 2 (s.ic.flatMap ptC))&&true)))))=true
 rw[gX,gX,gX];rfl
theorem ShAt.objs{H:Heap}{s:Shp}{b i j k:Nat}(a:ShAt H s b i j k):dL H (sgI [0,b,i,j,k]) [0,b,i,j,k] (Hh s) :=
 ⟨a.2.1,a.2.2.1,by rw[eD];exact a.2.2.2.1,by rw[eD];exact a.2.2.2.2.1,by rw[eD];exact a.2.2.2.2.2,trivial⟩
theorem wG{a b n:Int}(h0:0<=a)(hb:1<=b)(h:a<=n*b):0<=Int.tdiv a b/\Int.tdiv a b<=n:=by
 rw[Int.tdiv_eq_ediv_of_nonneg h0]
 exact ⟨Int.ediv_nonneg h0 (by omega),Int.ediv_le_of_le_mul (by omega) h⟩
theorem Fp{s:Shp}(o:kI s){v:Int}(hv:0<=v):0<=sw s v/\sw s v<=20000:=by
 have:=fi (bG o.th) hv
 exact wG this.2.1 this.1.1 this.2.2
theorem C9{s:Shp}(o:kI s){v:Int}(hv:0<=v/\v<=1000){H:Heap}{b i j k:Nat}(a:ShAt H s b i j k):ae prog 110 [pt b,nI v] H [] (Is (nI (sw s v)) H):=by
 have hb:=fi (bG o.th) hv.1
 have ht:=Fp o hv.1
 refine jU (Eq.mpr (Ee _ s v) ?_) (gE s) rfl rfl (fun _=>rfl) a.1 a.objs rfl rfl
 delta xH nI slQ nw c1q
 exact ⟨⟨rfl,trivial⟩,fun H' _ h=>vr (bG o.th) (by omega) h.1,by omega,ag (by unfold sw at ht;omega),rfl⟩
theorem IX{s:Shp}(o:kI s){x:Ice}(hx:lW x){ch:Bool}{v:Int}(hv:0<=v/\v<=250){H:Heap}{b i j k:Nat}(a:ShAt H s b i j k) :
  ae prog 111 [.agg #[pt b,nI x.aW,nI x.ai,nI x.aw,nI x.am,.bool ch],nI v] H [] (Is (nI (qo s x ch v)) H):=by
 have hA:=fi (bG o.ic) hx.2.1.1
 have hW:=fi (bG o.wa) hv.1
 refine jU (Eq.mpr (uG _ s x ch v) ?_) (gE s) rfl rfl (fun _=>rfl) a.1 a.objs rfl rfl
 delta lV jcb nI slQ fk nw bw c1q
 refine ⟨⟨rfl,trivial⟩,fun H' _ h=>vr (bG o.wa) (by omega) h.1,⟨rfl,trivial⟩,fun H' _ h=>vr (bG o.ic) (by have:=hx.2.1;omega) h.1,?_⟩
 simp only[qo,qn]
 generalize (aA s.ic x.ai).1=A at hA ⊢
 generalize (aA s.ic x.ai).2=B at hA ⊢
 generalize (aA s.wa v).1=W at hW ⊢
 generalize (aA s.wa v).2=D at hW ⊢
 have m1:=iq o.slow.1 o.slow.2 hv.1 hv.2
 have m2:=iq (a:=A) (b:=1000+s.slow*v) (A:=8000000) (B:=6000) hA.2.1 (by omega) (by omega) (by omega)
 have m3:=iq (a:=W) (b:=B*10000000) (A:=8000000) (B:=4000000000) hW.2.1 (by omega) (by omega) (by omega)
 have m4:=iq (a:=D) (b:=B*10000000) (A:=400) (B:=4000000000) (by omega) (by omega) (by omega) (by omega)
 have m5:=iq o.prs.1 o.prs.2 hx.2.2.2.1 hx.2.2.2.2
 have m6:=iq (a:=s.prs*x.am) (b:=D) (A:=15000) (B:=400) m5.1 (by omega) (by omega) (by omega)
 have m7:=iq (a:=s.prs*x.am*D) (b:=B*10000000) (A:=6000000) (B:=4000000000) m6.1 (by omega) (by omega) (by omega)
 have m8:1<=D*(B*10000000):=by
  have:1*1<=D*(B*10000000):=Int.mul_le_mul (by omega) (by omega) (by omega) (by omega)
  omega
 have fin:∀N:Int,0<=N->N<=680000000000000->(0<=N*D/\N*D<=680000000000000*400)/\0<=Int.tdiv (W*(B*10000000)+N*D+s.prs*x.am*D*(B*10000000)+D*(B*10000000)-1) (D*(B*10000000))/\Int.tdiv (W*(B*10000000)+N*D+s.prs*x.am*D*(B*10000000)+D*(B*10000000)-1) (D*(B*10000000))<=1000000000000000000:=fun N h0 h1=>by
  have q:=iq (a:=N) (b:=D) (A:=680000000000000) (B:=400) h0 h1 (by omega) (by omega)
  refine ⟨q,?_⟩
  rw[Int.tdiv_eq_ediv_of_nonneg (by omega)]
  refine ⟨Int.ediv_nonneg (by omega) (by omega),Int.le_trans (Int.ediv_le_self _ (by omega)) (by omega)⟩
 refine ⟨fun hc =>?_,fun hc =>?_⟩
 ·subst hc
  have n1:=iq (a:=A*(1000+s.slow*v)) (b:=s.aB) (A:=48000000000) (B:=100) m2.1 (by omega) o.aB.1 o.aB.2
  have n2:=iq (a:=x.aW) (b:=A*(1000+s.slow*v)*s.aB+s.rdg*0*B*100000) (A:=100) (B:=6800000000000) hx.1.1 hx.1.2 (by rw[Int.mul_zero,Int.zero_mul,Int.zero_mul];omega) (by rw[Int.mul_zero,Int.zero_mul,Int.zero_mul];omega)
  have e0:s.rdg*0=0:=Int.mul_zero _
  have e1:s.rdg*0*B=0:=by rw[e0,Int.zero_mul]
  obtain ⟨f1,f2⟩:=fin _ n2.1 (by omega)
  refine ⟨ag (by omega),ag (by omega),ag (by omega),⟨_,rfl,ag (by omega),ag (by omega),ag (by omega),⟨_,rfl,ag (by omega),ag (by omega),⟨_,rfl,ag (by omega),ag (by omega),⟨_,rfl,ag (by omega),ag (by omega),⟨_,rfl,ag (by omega),⟨_,rfl,ag (by omega),ag (by omega),⟨_,rfl,ag (by omega),ag (by omega),ag (by omega),ag (by omega),⟨_,rfl,ag (by omega),ag (by omega),by omega,ag (by omega),⟨_,rfl,rfl⟩⟩⟩⟩⟩⟩⟩⟩⟩⟩
 ·subst hc
  have r1:=iq o.rdg.1 o.rdg.2 hx.2.2.1.1 hx.2.2.1.2
  have r2:=iq (a:=s.rdg*x.aw) (b:=B) (A:=50000) (B:=400) r1.1 (by omega) (by omega) (by omega)
  have n2:=iq (a:=x.aW) (b:=A*(1000+s.slow*v)*100+s.rdg*x.aw*B*100000) (A:=100) (B:=6800000000000) hx.1.1 hx.1.2 (by omega) (by omega)
  obtain ⟨f1,f2⟩:=fin _ n2.1 (by omega)
  refine ⟨ag (by omega),ag (by omega),ag (by omega),⟨_,rfl,ag (by omega),ag (by omega),ag (by omega),⟨_,rfl,ag (by omega),ag (by omega),ag (by omega),⟨_,rfl,ag (by omega),⟨_,rfl,ag (by omega),ag (by omega),ag (by omega),⟨_,rfl,ag (by omega),ag (by omega),⟨_,rfl,ag (by omega),ag (by omega),ag (by omega),ag (by omega),⟨_,rfl,ag (by omega),ag (by omega),by omega,ag (by omega),⟨_,rfl,rfl⟩⟩⟩⟩⟩⟩⟩⟩⟩
theorem Hx{x:Ice}(hx:lW x){v:Int}(hv:0<=v/\v<=250){ch:Bool}{H:Heap}(hH:1<=H.length):ae prog 112 [I4 x,nI v,.bool ch] H [] (Is (nI (gY x v ch)) H):=by
 refine sn 40 (fun _=>rfl) rfl (Eq.mpr (Iq _ x v ch) ?_) hH
 delta E5 jcc nI fk nw
 have m:=iq (a:=x.ai) (b:=100+v) (A:=400) (B:=350) hx.2.1.1 hx.2.1.2 (by omega) (by omega)
 have t:0<=Int.tdiv (x.ai*(100+v)+1) 2/\Int.tdiv (x.ai*(100+v)+1) 2<=140001:=wG (by omega) (by omega) (by omega)
 obtain ⟨h1,h2,h3,h4⟩:=hx
 refine ⟨ag (by omega),ag (by omega),fun hc =>?_,fun hc =>?_⟩ <;> subst hc
 ·refine ⟨ag (by omega),ag (by omega),fun e =>?_,fun e =>?_⟩
  ·have e:=aR e;unfold gY;rw[if_pos (by simpa using e)]
  ·refine ⟨ag (by omega),ag (by omega),ag (by omega),iEq ?_⟩
   unfold gY
   rw[if_neg (by simpa using e),if_pos rfl,if_pos rfl];omega
 ·refine ⟨fun e =>?_,fun e =>?_⟩
  ·unfold gY;rw[if_pos (by simpa using e)]
  ·refine ⟨ag (by omega),ag (by omega),ag (by omega),ag (by omega),iEq ?_⟩
   unfold gY
   rw[if_neg (by simpa using e),if_neg (by simp),if_neg (by simp)]
theorem qR{s:Shp}(o:kI s){x:Ice}(hx:lW x){ch:Bool}{v:Int}(hv:0<=v/\v<=250){H:Heap}{b i j k:Nat}(a:ShAt H s b i j k) :
  ae prog 81 [.agg #[pt b,nI x.aW,nI x.ai,nI x.aw,nI x.am,.bool ch],nI v] H [] (Is (.bool (mkB s x ch v)) H):=by
 have hn:=(bG o.th).len
 refine jU (Eq.mpr (GJ _ s x ch v) ?_) (gE s) rfl rfl (fun _=>rfl) a.1 a.objs rfl rfl
 delta B9 jc2 jc1 jcd jc0 nI slQ pt ac fk c1q
 refine ⟨⟨rfl,trivial⟩,fun H' _ h=>Db _ (by omega) (by omega) h.1,fun e=>⟨⟨rfl,rfl,rfl,rfl,rfl,trivial⟩,fun H' _ h=>C9 o (by omega) ⟨by decide,h.1,h.2.1,h.2.2.1,h.2.2.2.1,h.2.2.2.2.1⟩,⟨rfl,rfl,rfl,rfl,rfl,trivial⟩,fun H' _ h=>IX o hx hv ⟨by decide,h.1,h.2.1,h.2.2.1,h.2.2.2.1,h.2.2.2.2.1⟩,?_⟩,fun e =>?_⟩
 ·unfold mkB;rw[e,Bool.true_and]
 ·unfold mkB;rw[e];rfl
theorem AZ{s:Shp}(o:kI s){x:Ice}(hx:lW x){ch:Bool}{v:Int}(hv:0<=v/\v<=250){H:Heap}{b i j k:Nat}(a:ShAt H s b i j k) :
  ae prog 82 [.agg #[pt b,nI x.aW,nI x.ai,nI x.aw,nI x.am,.bool ch],nI v] H [] (Is (.bool (brB s x ch v)) H):=by
 have hc:=o.cls
 refine jU (Eq.mpr (GV _ s x ch v) ?_) (gE s) rfl rfl (fun _=>rfl) a.1 a.objs rfl rfl
 delta Cl jce nI nw ixq c0q
 refine ⟨ag (by omega),⟨by omega,by omega⟩,?_,trivial,fun H' hl _=>Hx hx hv (by omega),rfl⟩
 have:Int.toNat (s.cls-1)<6:=by omega
 generalize Int.toNat (s.cls-1)=q at this ⊢
 match q,this with
 |0,_=>rfl
 |1,_=>rfl
 |2,_=>rfl
 |3,_=>rfl
 |4,_=>rfl
 |5,_=>rfl
theorem uo{f:Int->Bool}{n:Nat}{lo hi:Int}(h:¬ lo<hi):bsG f n lo hi=lo:=by
 cases n with
 |zero=>rfl
 |succ n=>show (if lo<hi then _ else _)=_;rw[if_neg h]
theorem BP{f:Int->Bool}{n:Nat}{lo hi:Int}(h:lo<hi)(hn:0<n):bsG f n lo hi=if f (lo+Int.tdiv (hi-lo+1) 2)=true then bsG f (n-1) (lo+Int.tdiv (hi-lo+1) 2) hi else bsG f (n-1) lo (lo+Int.tdiv (hi-lo+1) 2-1):=by
 cases n with
 |zero=>omega
 |succ n=>show (if lo<hi then _ else _)=_;rw[if_pos h];rfl
theorem FN{s:Shp}(o:kI s){x:Ice}(hx:lW x){ch:Bool}{H:Heap}{b i j k:Nat}(a:ShAt H s b i j k) :
  ae prog 78 [.agg #[pt b,nI x.aW,nI x.ai,nI x.aw,nI x.am,.bool ch]] H [] (Is (nI (kO s x ch)) H):=by
 refine jU (Eq.mpr (GH _ s x ch) ?_) (gE s) rfl rfl (fun _=>rfl) a.1 a.objs rfl rfl
 delta B8 jc2 jc1 jc8 jca jcf jcj jc9 jcg jc0 nI slQ pt ac fk nw eR
 refine ⟨⟨rfl,rfl,rfl,rfl,rfl,trivial⟩,fun H' _ h=>qR o hx (by omega) ⟨by decide,h.1,h.2.1,h.2.2.1,h.2.2.2.1,h.2.2.2.2.1⟩,fun e =>?_,fun e =>?_⟩
 ·unfold kO grG;rw[mZ e];rfl
 ·have es:kO s x ch=bsG (mkB s x ch) 250 0 250:=by unfold kO grG;rw[fg e];rfl
  refine ⟨rfl,⟨⟨by decide,by decide,by decide,by decide⟩,rfl⟩,?_,fun _=>rfl,fun q ⟨⟨q1,q2,q3,q4⟩,q5⟩=>⟨fun c =>?_,fun c =>?_⟩⟩
  ·repeat' first|exact trivial|refine ⟨rfl,?_⟩|refine ⟨trivial,?_⟩|apply And.intro
  ·have hc:=aR c
   have t:Int.tdiv (q.2.2-q.2.1+1) 2=(q.2.2-q.2.1+1) / 2:=Int.tdiv_eq_ediv_of_nonneg (by omega)
   have hg:=BP (f:=mkB s x ch) (n:=q.1) hc (by omega)
   rw[q5]at hg
   generalize Int.tdiv (q.2.2-q.2.1+1) 2=m at t hg ⊢
   refine ⟨ag (by omega),ag (by omega),ag (by omega),ag (by omega),⟨rfl,rfl,rfl,rfl,rfl,trivial⟩,fun H' _ h=>qR o hx (by omega) ⟨by decide,h.1,h.2.1,h.2.2.1,h.2.2.2.1,h.2.2.2.2.1⟩,fun d =>?_,fun d =>?_⟩
   ·rw[if_pos d]at hg
    refine ⟨(q.1-1,q.2.1+m,q.2.2),⟨⟨by show q.2.1+m<=q.2.2;omega,by show q.2.2-(q.2.1+m)<=((q.1-1:Nat):Int);omega,by show 0<=q.2.1+m;omega,q4⟩,hg.symm⟩,by show q.1-1<q.1;omega,?_⟩
    repeat' first|exact trivial|refine ⟨rfl,?_⟩|refine ⟨trivial,?_⟩|apply And.intro
   ·rw[if_neg (by rw[d];simp)]at hg
    refine ⟨ag (by omega),(q.1-1,q.2.1,q.2.1+m-1),⟨⟨by show q.2.1<=q.2.1+m-1;omega,by show q.2.1+m-1-q.2.1<=((q.1-1:Nat):Int);omega,q3,by show q.2.1+m-1<=250;omega⟩,hg.symm⟩,by show q.1-1<q.1;omega,?_⟩
    repeat' first|exact trivial|refine ⟨rfl,?_⟩|refine ⟨trivial,?_⟩|apply And.intro
  ·have hc:=aV c
   rw[es,<- q5,uo hc]
theorem HA{s:Shp}(o:kI s){x:Ice}(hx:lW x){ch:Bool}{H:Heap}{b i j k:Nat}(a:ShAt H s b i j k) :
  ae prog 42 [.agg #[pt b,nI x.aW,nI x.ai,nI x.aw,nI x.am,.bool ch]] H [] (Is (.tuple #[nI (goS s x ch).1,.bool (goS s x ch).2]) H):=by
 refine jU (Eq.mpr (Iu _ s x ch) ?_) (gE s) rfl rfl (fun _=>rfl) a.1 a.objs rfl rfl
 delta E8 jc2 jc1 jc7 jch jcf jci jc5 jc6 jc0 nI slQ pt ac fk nw eR
 have hat:∀{H':Heap} {Q:Prop},(H'[0]?=some bF/\H'[1]?=some (.cells true 0 (uS s 2 3 4))/\H'[2]?=some (.cells true 2 (s.th.flatMap ptC))/\H'[3]?=some (.cells true 2 (s.wa.flatMap ptC))/\H'[4]?=some (.cells true 2 (s.ic.flatMap ptC))/\Q)->ShAt H' s 1 2 3 4:=fun h=>⟨by decide,h.1,h.2.1,h.2.2.1,h.2.2.2.1,h.2.2.2.2.1⟩
 refine ⟨⟨rfl,rfl,rfl,rfl,rfl,trivial⟩,fun H' _ h=>qR o hx (by omega) (hat h),fun e=>⟨⟨rfl,rfl,rfl,rfl,rfl,trivial⟩,fun H' _ h=>AZ o hx (by omega) (hat h),fun e2 =>?_,fun e2 =>?_⟩,fun e =>?_⟩
 ·unfold goS grG mbB;rw[mZ e2,Bool.and_false];rfl
 ·have es:goS s x ch=(bsG (mbB s x ch) 240 10 250,true):=by
   unfold goS grG
   rw[if_pos (by unfold mbB;rw[e,fg e2];rfl)];rfl
  refine ⟨rfl,⟨⟨by decide,by decide,by decide,by decide⟩,rfl⟩,?_,fun _=>rfl,fun q ⟨⟨q1,q2,q3,q4⟩,q5⟩=>⟨fun c =>?_,fun c =>?_⟩⟩
  ·repeat' first|exact trivial|refine ⟨rfl,?_⟩|refine ⟨trivial,?_⟩|apply And.intro
  ·have hc:=aR c
   have t:Int.tdiv (q.2.2-q.2.1+1) 2=(q.2.2-q.2.1+1) / 2:=Int.tdiv_eq_ediv_of_nonneg (by omega)
   have hg:=BP (f:=mbB s x ch) (n:=q.1) hc (by omega)
   rw[q5]at hg
   generalize Int.tdiv (q.2.2-q.2.1+1) 2=m at t hg ⊢
   have no:mbB s x ch (q.2.1+m)=false->(q.2.1<=q.2.1+m-1/\q.2.1+m-1-q.2.1<=((q.1-1:Nat):Int)/\10<=q.2.1/\q.2.1+m-1<=250)/\bsG (mbB s x ch) (q.1-1) q.2.1 (q.2.1+m-1)=bsG (mbB s x ch) 240 10 250:=fun d=>by
    rw[if_neg (by rw[d];simp)]at hg
    exact ⟨⟨by omega,by omega,q3,by omega⟩,hg.symm⟩
   refine ⟨ag (by omega),ag (by omega),ag (by omega),ag (by omega),⟨rfl,rfl,rfl,rfl,rfl,trivial⟩,fun H' _ h=>qR o hx (by omega) (hat h),fun d=>⟨⟨rfl,rfl,rfl,rfl,rfl,trivial⟩,fun H' _ h=>AZ o hx (by omega) (hat h),fun d2 =>?_,fun d2 =>?_⟩,fun d =>?_⟩
   ·rw[if_pos (by unfold mbB;rw[d,d2];rfl)]at hg
    refine ⟨(q.1-1,q.2.1+m,q.2.2),⟨⟨by show q.2.1+m<=q.2.2;omega,by show q.2.2-(q.2.1+m)<=((q.1-1:Nat):Int);omega,by show 10<=q.2.1+m;omega,q4⟩,hg.symm⟩,by show q.1-1<q.1;omega,?_⟩
    repeat' first|exact trivial|refine ⟨rfl,?_⟩|refine ⟨trivial,?_⟩|apply And.intro
   ·refine ⟨ag (by omega),(q.1-1,q.2.1,q.2.1+m-1),no (by unfold mbB;rw[d,d2];rfl),by show q.1-1<q.1;omega,?_⟩
    repeat' first|exact trivial|refine ⟨rfl,?_⟩|refine ⟨trivial,?_⟩|apply And.intro
   ·refine ⟨ag (by omega),(q.1-1,q.2.1,q.2.1+m-1),no (by unfold mbB;rw[d];rfl),by show q.1-1<q.1;omega,?_⟩
    repeat' first|exact trivial|refine ⟨rfl,?_⟩|refine ⟨trivial,?_⟩|apply And.intro
  ·have hc:=aV c
   rw[es,<- q5,uo hc]
 ·unfold goS grG mbB;rw[e,Bool.false_and];rfl
def fM(w h:Int)(n:Nat):Int:=if (1<=w/\w<=64)/\(1<=h/\h<=64)/\w*h<=1024 then (if (n:Int)=w*h then 0 else 1) else 6
structure xY(w h:Int)(n:Nat):Prop where
 w1:1<=w/\w<=64
 h1:1<=h/\h<=64
 p1:w*h<=1024
 n1:(n:Int)=w*h
theorem EU{w h:Int}{n:Nat}(e:fM w h n=0):xY w h n:=by
 unfold fM at e
 split at e
 ·rename_i q
  split at e
  ·rename_i q2;exact ⟨q.1,q.2.1,q.2.2,q2⟩
  ·cases e
 ·cases e
def dE(a:List Bool)(c:Int):Bool:=inB c 0 (((a.length:Nat):Int)-1) && !a.getD (Int.toNat c) false
def kQ(w h t:Int):Prop:=(1<=w/\w<=64)/\(1<=h/\h<=64)/\w*h<=1024/\0<=t/\t<=10000
instance (w h t:Int):Decidable (kQ w h t):=by unfold kQ;infer_instance
def eL(w h t:Int):Int:=if kQ w h t then 0 else 6
theorem iE{w h t:Int}:eL w h t=0 ↔ kQ w h t:=by unfold eL;split <;> simp_all
def errs{α:Type}(e:α->Int):List α->Int
 | [] =>0
 |x :: xs=>if e x=0 then errs e xs else e x
theorem DR{α:Type}{e:α->Int}{xs:List α}{d:α}{k:Nat}(hk:k<xs.length):errs e (xs.drop k)=if e (xs.getD k d)=0 then errs e (xs.drop (k+1)) else e (xs.getD k d):=by
 rw[List.drop_eq_getElem_cons hk]
 simp only[errs,List.getD_eq_getElem?_getD,List.getElem?_eq_getElem hk,Option.getD_some]
def cL(w h t:Int)(cs:List Cell):Int:=bV (eL w h t) (if (cs.length:Int)=w*h then errs aP cs else 1)
structure Cht where
 w:Int
 h:Int
 hr:Int
 cells:List Cell
def zCh:Cht:=⟨0,0,0,[]⟩
abbrev chC(c:Cht):List Value:=[nI c.w,nI c.h,nI c.hr,.iface (c.cells.length+1) (.agg ⟨c.cells.flatMap cellC⟩)]
structure Pl where
 w:Int
 h:Int
 land:List Bool
 cts:List Cht
 chan:List Bool
 shp:Shp
 size:Int
 frm:Int
 to:Int
abbrev plC(p:Pl)(l c n t w i:Nat):List Value:=[nI p.w,nI p.h,slR l p.land.length,slR c p.cts.length,slR n p.chan.length]++uS p.shp t w i ++ [nI p.size,nI p.frm,nI p.to]
abbrev plV(p:Pl)(l c n t w i:Nat):Value:=.agg ⟨plC p l c n t w i⟩
def cB(p:Pl)(i:Nat):Int :=
 let c:=p.cts.getD i zCh
 bV (cL c.w c.h c.hr c.cells) (if c.w=p.w/\c.h=p.h then (if c.hr=(p.cts.getD 0 zCh).hr+(i:Int) then 0 else 11) else 1)
def bQ(p:Pl):Int :=
 bV (fM p.w p.h p.land.length) (if inB ((p.cts.length:Nat):Int) 1 48=false then 2 else
  bV (cU (cB p) p.cts.length) (if p.chan.length≠p.land.length then 1 else bV (aZ p.shp) (if inB p.size 1 500=false then 6 else if (dE p.land p.frm&&dE p.land p.to)=false then 1 else 0)))
def endP(p:Pl):Int:=6*((p.cts.length:Nat):Int)
def sfP(p:Pl)(c t:Int):Int:=(sfX p.shp ((p.cts.getD (Int.toNat t) zCh).cells.getD (Int.toNat c) ak) (p.chan.getD (Int.toNat c) false)).1
def sfE(p:Pl)(c t:Int):Int:=(sfX p.shp ((p.cts.getD (Int.toNat t) zCh).cells.getD (Int.toNat c) ak) (p.chan.getD (Int.toNat c) false)).2
abbrev uf(L:List Int)(n:Int):List Value:=[.iface (L.length+1) (.agg ⟨L.flatMap aq⟩),nI n]
def Gn(L:List Int)(n:Int):Int:=if 0<L.length then IntKind.wrap .i64 (L.getD (Int.toNat (Int.tmod n ((L.length:Nat):Int))) 0+IntKind.wrap .i64 (Int.tdiv n ((L.length:Nat):Int))) else 0
def dN(L:List Int)(n m:Int):Int:=Gn L n % m
theorem fh(L:List Int)(n:Int){m:Int}(hm:1<=m):0<=dN L n m/\dN L n m<m:=by
 unfold dN
 exact ⟨Int.emod_nonneg _ (by omega),Int.emod_lt_of_pos _ (by omega)⟩
abbrev jd1:List Value:=[nI 4000,nI 8000,nI 14000,nI 24000,nI 40000,nI 90000]
abbrev jd0(s:Shp):List Value:=[nI s.cls,nI s.pow,nI s.dra,nI s.ton,slQ 2 2 s.th.length,slQ 3 2 s.wa.length,slQ 4 2 s.ic.length,nI s.slow,nI s.aB,nI s.rdg,nI s.prs]
abbrev jdh(s:Shp):=s.th.flatMap ptC
abbrev jdi(s:Shp):=s.wa.flatMap ptC
abbrev jdj(s:Shp):=s.ic.flatMap ptC
abbrev jd3(s:Shp):Prop:=(ac (.cells true 2 (jdh s)))/\(ac (.cells true 2 (jdi s)))/\(ac (.cells true 2 (jdj s)))/\True
abbrev jdk(s:Shp):Prop:=(ac (.cells false 0 jd1))/\(ac (.cells true 0 (jd0 s)))/\jd3 s
abbrev jd6(H':Heap)(s:Shp):Prop:=H'[0]?=some (.cells false 0 jd1:aa)/\H'[1]?=some (.cells true 0 (jd0 s):aa)/\H'[2]?=some (.cells true 2 (jdh s):aa)/\H'[3]?=some (.cells true 2 (jdi s):aa)/\H'[4]?=some (.cells true 2 (jdj s):aa)/\True
def B7(sp:Value)(s:Shp)(c:Cell)(ch:Bool):Prop :=
 ((jdk s)/\(∀H':Heap,H'.length=7->(jd6 H' s)->ae prog 78 [.agg #[pt 1,nI c.aW.hi,nI c.ai.hi,nI c.aw.hi,nI c.am.hi,.bool ch]] H' [] (Is (nI (kO s (da c) ch)) H'))/\(fk (decide (((kO s (da c) ch):Int)<10)) ((.tuple #[nI 0,nI 4]:Value)=sp) ((jdk s)/\(∀H':Heap,H'.length=7->(jd6 H' s)->ae prog 42 [.agg #[pt 1,nI c.aW.hi,nI c.ai.hi,nI c.aw.hi,nI c.am.hi,.bool ch]] H' [] (Is (.tuple #[nI (goS s (da c) ch).1,.bool (goS s (da c) ch).2]) H'))/\(fk (!(goS s (da c) ch).2) ((.tuple #[nI 0,nI 41]:Value)=sp) ((.tuple #[nI (goS s (da c) ch).1,nI 0]:Value)=sp)))))
abbrev jd9(s:Shp):List (Nat×aa):=[(0,.cells false 0 jd1),(1,.cells true 0 (jd0 s)),(2,.cells true 2 (jdh s)),(3,.cells true 2 (jdi s)),(4,.cells true 2 (jdj s))]
abbrev jdg:Hint:=.fork (.auto) (.auto)
theorem GG(sp:Value)(s:Shp)(c:Cell)(ch:Bool):vF prog msk (dm 0) 100000 true 40 true 40 [pt 1,.agg #[nI c.aW.lo,nI c.aW.hi,nI c.ai.lo,nI c.ai.hi,nI c.aw.lo,nI c.aw.hi,nI c.am.lo,nI c.am.hi],.bool ch] (aI [.cells false 0 jd1,.cells true 0 (jd0 s),.cells true 2 (jdh s),.cells true 2 (jdi s),.cells true 2 (jdj s)]) (some [])
 (.go 26 (.ans (jd9 s) (nI (kO s (da c) ch)) [] (.go 0 (.fork (.auto) (.go 0 (.ans (jd9 s) (.tuple #[nI (goS s (da c) ch).1,.bool (goS s (da c) ch).2]) [] (.go 6 jdg)))))))
 (fun v _ _=>v=sp)=B7 sp s c ch:=by kernel_rfl
abbrev jdc(c:Cell):List Value:=[.agg #[nI c.aW.lo,nI c.aW.hi,nI c.ai.lo,nI c.ai.hi,nI c.aw.lo,nI c.aw.hi,nI c.am.lo,nI c.am.hi]]
def Ij(sp:Value)(s:Shp)(c:Cell):Prop :=
 (c3q 6 1 (.cells false 0 (jdh s)) 2 (.cells false 0 (jdi s)) 3 (.cells false 0 (jdj s)) 36 [.agg #[nI s.cls,nI s.pow,nI s.dra,nI s.ton,slQ 1 2 s.th.length,slQ 2 2 s.wa.length,slQ 3 2 s.ic.length,nI s.slow,nI s.aB,nI s.rdg,nI s.prs]] (nI (aZ s)) (fk (((aZ s):Int) != 0) ((nI (aZ s):Value)=sp) (c0q 6 38 (jdc c) (nI (aP c)) ((nI (aP c):Value)=sp))))
abbrev jd5(s:Shp)(c:Cell):List Value:=[.agg #[nI s.cls,nI s.pow,nI s.dra,nI s.ton,slQ 1 2 s.th.length,slQ 2 2 s.wa.length,slQ 3 2 s.ic.length,nI s.slow,nI s.aB,nI s.rdg,nI s.prs],.agg #[nI c.aW.lo,nI c.aW.hi,nI c.ai.lo,nI c.ai.hi,nI c.aw.lo,nI c.aw.hi,nI c.am.lo,nI c.am.hi]]
theorem Jy(sp:Value)(s:Shp)(c:Cell):vF prog msk (dm 0) 100000 true 40 true 89 (jd5 s c) (ce 1 [s.th.flatMap ptC,s.wa.flatMap ptC,s.ic.flatMap ptC]) (some [])
 (.go 3 (.ans [(1,.cells false 0 (jdh s)),(2,.cells false 0 (jdi s)),(3,.cells false 0 (jdj s))] (nI (aZ s)) [] (.go 2 (.fork (.auto) (.go 0 (.ans [] (nI (aP c)) [] (.auto)))))))
 (fun v _ _=>v=sp)=Ij sp s c:=by kernel_rfl
abbrev jd4(s:Shp):List Value:=[nI s.cls,nI s.pow,nI s.dra,nI s.ton,slQ 1 2 s.th.length,slQ 2 2 s.wa.length,slQ 3 2 s.ic.length,nI s.slow,nI s.aB,nI s.rdg,nI s.prs]
def Cd(sp:Value)(s:Shp)(c:Cell)(ch:Bool):Prop :=
 (c3q 6 1 (.cells true 2 (jdh s)) 2 (.cells true 2 (jdi s)) 3 (.cells true 2 (jdj s)) 89 (jd5 s c) (nI (bV (aZ s) (aP c))) (fk (((bV (aZ s) (aP c)):Int) != 0) ((.tuple #[nI 0,nI (bV (aZ s) (aP c))]:Value)=sp) (((ac (.cells false 0 jd1))/\(ac (.cells true 0 (jd4 s)))/\jd3 s)/\(∀H':Heap,H'.length=6->(H'[0]?=some (.cells false 0 jd1:aa)/\H'[4]?=some (.cells true 0 (jd4 s):aa)/\H'[1]?=some (.cells true 2 (jdh s):aa)/\H'[2]?=some (.cells true 2 (jdi s):aa)/\H'[3]?=some (.cells true 2 (jdj s):aa)/\True)->ae prog 40 [pt 4,.agg #[nI c.aW.lo,nI c.aW.hi,nI c.ai.lo,nI c.ai.hi,nI c.aw.lo,nI c.aw.hi,nI c.am.lo,nI c.am.hi],.bool ch] H' [] (Is (.tuple #[nI (sfS s c ch).1,nI (sfS s c ch).2]) H'))/\(.tuple #[nI (sfS s c ch).1,nI (sfS s c ch).2]:Value)=sp)))
theorem GN(sp:Value)(s:Shp)(c:Cell)(ch:Bool):vF prog msk (dm 0) 100000 true 40 true 48 [.agg #[nI s.cls,nI s.pow,nI s.dra,nI s.ton,slQ 1 2 s.th.length,slQ 2 2 s.wa.length,slQ 3 2 s.ic.length,nI s.slow,nI s.aB,nI s.rdg,nI s.prs],.agg #[nI c.aW.lo,nI c.aW.hi,nI c.ai.lo,nI c.ai.hi,nI c.aw.lo,nI c.aw.hi,nI c.am.lo,nI c.am.hi],.bool ch] (aI [.cells false 0 jd1,.cells true 2 (jdh s),.cells true 2 (jdi s),.cells true 2 (jdj s)]) (some [])
 (.go 5 (.ans [(1,.cells true 2 (jdh s)),(2,.cells true 2 (jdi s)),(3,.cells true 2 (jdj s))] (nI (bV (aZ s) (aP c))) [] (.go 2 (.fork (.auto) (.go 1 (.ans [(0,.cells false 0 jd1),(4,.cells true 0 (jd4 s)),(1,.cells true 2 (jdh s)),(2,.cells true 2 (jdi s)),(3,.cells true 2 (jdj s))] (.tuple #[nI (sfS s c ch).1,nI (sfS s c ch).2]) [] (.auto)))))))
 (fun v _ _=>v=sp)=Cd sp s c ch:=by kernel_rfl
abbrev jd8(sp:Value):Prop:=(nI 20:Value)=sp
abbrev jdl:Value:=nI 0
def Cj(sp:Value)(c:Cell):Prop :=
 (fk (decide ((0:Int)<=c.aW.lo)) (fk (decide ((c.aW.lo:Int)<=100)) (fk (decide ((c.aW.lo:Int)<=c.aW.hi)) (fk (!(decide ((c.aW.hi:Int)<=100))) (jd8 sp) (fk (decide ((0:Int)<=c.ai.lo)) (fk (decide ((c.ai.lo:Int)<=400)) (fk (decide ((c.ai.lo:Int)<=c.ai.hi)) (fk (!(decide ((c.ai.hi:Int)<=400))) (jd8 sp) (fk (decide ((0:Int)<=c.aw.lo)) (fk (decide ((c.aw.lo:Int)<=100)) (fk (decide ((c.aw.lo:Int)<=c.aw.hi)) (fk (!(decide ((c.aw.hi:Int)<=100))) (jd8 sp) (fk (decide ((0:Int)<=c.am.lo)) (fk (decide ((c.am.lo:Int)<=3)) (fk (decide ((c.am.lo:Int)<=c.am.hi)) (fk (!(decide ((c.am.hi:Int)<=3))) (jd8 sp) (jdl=sp)) (jd8 sp)) (jd8 sp)) (jd8 sp))) (jd8 sp)) (jd8 sp)) (jd8 sp))) (jd8 sp)) (jd8 sp)) (jd8 sp))) (jd8 sp)) (jd8 sp)) (jd8 sp))
theorem GT(sp:Value)(c:Cell):vF prog msk (dm 0) 100000 true 40 true 38 (jdc c) ⟨1,.leaf⟩ (some [])
 (.go 54 (.aH (.go 5 (.aH (.go 15 (.aH (.go 8 (.fork (.auto) (.go 30 (.aH (.go 5 (.aH (.go 15 (.aH (.go 8 (.fork (.auto) (.go 30 (.aH (.go 5 (.aH (.go 15 (.aH (.go 8 (.fork (.auto) (.go 30 (.aH (.go 5 (.aH (.go 15 (.aH (.go 8 jdg) (.auto))) (.auto))) (.auto))))) (.auto))) (.auto))) (.auto))))) (.auto))) (.auto))) (.auto))))) (.auto))) (.auto))) (.auto)))
 (fun v _ _=>v=sp)=Cj sp c:=by kernel_rfl
abbrev jda(sp:Value):Prop:=(nI 6:Value)=sp
def Cc(sp:Value)(w h t:Int):Prop :=
 (fk (decide ((1:Int)<=w)) (fk (!(decide ((w:Int)<=64))) (jda sp) (fk (decide ((1:Int)<=h)) (fk (!(decide ((h:Int)<=64))) (jda sp) (nw (w*h) (fk (decide ((1024:Int)<(w*h))) (jda sp) (fk (decide ((0:Int)<=t)) (fk (!(decide ((t:Int)<=10000))) (jda sp) (jdl=sp)) (jda sp))))) (jda sp))) (jda sp))
theorem GM(sp:Value)(w h t:Int):vF prog msk (dm 0) 100000 true 40 true 114 [nI w,nI h,nI t] ⟨1,.leaf⟩ (some [])
 (.go 7 (.aH (.go 6 (.aH (.auto) (.go 6 (.aH (.go 7 (.aH (.auto) (.go 2 (.slot 18 (nI (w*h)) (.go 2 (.aH (.auto) (.go 6 (.aH (.go 6 jdg) (.auto))))))))) (.auto))))) (.auto)))
 (fun v _ _=>v=sp)=Cc sp w h t:=by kernel_rfl
abbrev jde(cs:List Cell):Prop:=eR (.func (.func 38) #[] #[])/\wR (slQ 1 2 cs.length)/\eR (nI ((cs.length:Nat):Int))/\True
abbrev jd7(cs:List Cell)(x0:Nat):Value:=.agg #[nI (cs.getD x0 ak).aW.lo,nI (cs.getD x0 ak).aW.hi,nI (cs.getD x0 ak).ai.lo,nI (cs.getD x0 ak).ai.hi,nI (cs.getD x0 ak).aw.lo,nI (cs.getD x0 ak).aw.hi,nI (cs.getD x0 ak).am.lo,nI (cs.getD x0 ak).am.hi]
def xM(sp:Value)(cs:List Cell):Prop :=
 (lq (0<=List.length cs/\sp=nI (errs aP (cs.drop 0))) (true=true/\(jdl=nI ((0:Nat):Int)/\jde cs)/\(True)/\(True)/\(True)) (∀x0:Nat,(x0<=List.length cs/\sp=nI (errs aP (cs.drop x0)))->(fk (decide (((x0:Int):Int)<((cs.length:Nat):Int))) ((ixq (x0:Int) cs.length)/\((d6 8 (cs.flatMap cellC) (0+Int.toNat (x0:Int)*8)=some (jd7 cs x0))/\(c0q 3 38 [.agg #[nI (cs.getD x0 ak).aW.lo,nI (cs.getD x0 ak).aW.hi,nI (cs.getD x0 ak).ai.lo,nI (cs.getD x0 ak).ai.hi,nI (cs.getD x0 ak).aw.lo,nI (cs.getD x0 ak).aw.hi,nI (cs.getD x0 ak).am.lo,nI (cs.getD x0 ak).am.hi]] (nI (aP (cs.getD x0 ak))) (fk (((aP (cs.getD x0 ak)):Int) != 0) ((nI (aP (cs.getD x0 ak)):Value)=sp) (nw ((x0:Int)+1) (∃x0':Nat,(x0'<=List.length cs/\sp=nI (errs aP (cs.drop x0')))/\(List.length cs-x0')<(List.length cs-x0)/\true=true/\((nI ((x0:Int)+1):Value)=nI (x0':Int)/\jde cs)/\(True)/\(True)/\(True))))))) (jdl=sp))))
theorem Eh(sp:Value)(cs:List Cell):vF prog msk (dm 0) 100000 true 40 true 115 [slQ 1 2 cs.length,.func (.func 38) #[] #[]] (ce 1 [cs.flatMap cellC]) (some [])
 (.go 3 (.inv 3 (Nat) (0) [] [] (fun x0=>[(10,nI (x0:Int)),(1,.func (.func 38) #[] #[]),(8,slQ 1 2 cs.length),(9,nI ((cs.length:Nat):Int))]) (fun x0=>[]) (fun x0=>[]) (fun x0=>[]) (fun x0=>(x0<=List.length cs/\sp=nI (errs aP (cs.drop x0)))) (fun x0=>(List.length cs-x0)) (fun x0 => .go 0 (.fork (.need (.val (jd7 cs x0) (.go 3 (.ans [] (nI (aP (cs.getD x0 ak))) [] (.go 2 (.fork (.auto) (.go 0 (.slot 20 (nI ((x0:Int)+1)) (.go 0 (.again [])))))))))) (.auto)))))
 (fun v _ _=>v=sp)=xM sp cs:=by kernel_rfl
def xO(sp:Value)(w h t:Int)(cs:List Cell):Prop :=
 (c0q 3 114 [nI w,nI h,nI t] (nI (eL w h t)) (fk (((eL w h t):Int) != 0) ((nI (eL w h t):Value)=sp) (nw (w*h) (fk ((((cs.length:Nat):Int):Int) != (w*h)) ((nI 1:Value)=sp) (c1q 3 1 (.cells false 0 (cs.flatMap cellC)) 115 [slQ 1 2 cs.length,.func (.func 38) #[] #[]] (nI (errs aP cs)) ((nI (errs aP cs):Value)=sp))))))
theorem Ej(sp:Value)(w h t:Int)(cs:List Cell):vF prog msk (dm 0) 100000 true 40 true 88 [.agg #[nI w,nI h,nI t,slQ 1 2 cs.length]] (ce 1 [cs.flatMap cellC]) (some [])
 (.go 7 (.ans [] (nI (eL w h t)) [] (.go 2 (.fork (.auto) (.go 7 (.slot 21 (nI (w*h)) (.go 0 (.fork (.auto) (.go 1 (.ans [(1,.cells false 0 (cs.flatMap cellC))] (nI (errs aP cs)) [] (.auto)))))))))))
 (fun v _ _=>v=sp)=xO sp w h t cs:=by kernel_rfl
abbrev jdf(a:List Bool):Int:=(a.length:Nat)
def xP(sp:Value)(w h:Int)(a:List Bool):Prop :=
 (fk (decide ((1:Int)<=w)) (fk (!(decide ((w:Int)<=64))) (jda sp) (fk (decide ((1:Int)<=h)) (fk (!(decide ((h:Int)<=64))) (jda sp) (nw (w*h) (fk (decide ((1024:Int)<(w*h))) (jda sp) (nw (w*h) (fk (((jdf a):Int) != (w*h)) ((nI 1:Value)=sp) (jdl=sp)))))) (jda sp))) (jda sp))
theorem Ek(sp:Value)(w h:Int)(a:List Bool):vF prog msk (dm 0) 100000 true 40 true 87 [.agg #[nI w,nI h,slQ 1 2 a.length]] (ce 1 [a.flatMap af]) (some [])
 (.go 9 (.aH (.go 6 (.aH (.auto) (.go 7 (.aH (.go 7 (.aH (.auto) (.go 4 (.slot 19 (nI (w*h)) (.go 2 (.fork (.auto) (.go 7 (.slot 30 (nI (w*h)) (.go 1 jdg))))))))) (.auto))))) (.auto)))
 (fun v _ _=>v=sp)=xP sp w h a:=by kernel_rfl
def Ih(sp:Value)(w h:Int)(a:List Bool)(c1_:Int):Prop :=
 (nw ((jdf a)-1) (c0q 3 44 [nI c1_,nI 0,nI ((jdf a)-1)] (.bool (inB c1_ 0 ((jdf a)-1))) (fk (inB c1_ 0 ((jdf a)-1)) ((ixq c1_ a.length)/\(((a.flatMap af)[(0+Int.toNat c1_*1)]?=some (.bool (a.getD c1_.toNat false)))/\(.bool (!(a.getD c1_.toNat false)):Value)=sp)) ((.bool false:Value)=sp))))
theorem Jw(sp:Value)(w h:Int)(a:List Bool)(c1_:Int):vF prog msk (dm 0) 100000 true 40 true 43 [.agg #[nI w,nI h,slQ 1 2 a.length],nI c1_] (ce 1 [a.flatMap af]) (some [])
 (.go 6 (.slot 9 (nI ((jdf a)-1)) (.ans [] (.bool (inB c1_ 0 ((jdf a)-1))) [] (.go 0 (.aH (.go 2 (.need (.val (.bool (a.getD c1_.toNat false)) (.auto)))) (.auto))))))
 (fun v _ _=>v=sp)=Ih sp w h a c1_:=by kernel_rfl
def EW(sp:Value)(x n:Int):Prop :=
 (fk (decide ((n:Int)<1)) (jdl=sp) (((n:Int)≠0)/\(fk (decide (((Int.tmod x n):Int)<0)) (nw ((Int.tmod x n)+n) ((nI ((Int.tmod x n)+n):Value)=sp)) ((nI (Int.tmod x n):Value)=sp))))
theorem Il(sp:Value)(x n:Int):vF prog msk (dm 0) 100000 true 40 true 11 [nI x,nI n] ⟨1,.leaf⟩ (some [])
 (.go 2 (.fork (.auto) (.go 1 (.need (.go 2 (.fork (.go 2 (.slot 15 (nI ((Int.tmod x n)+n)) (.auto))) (.auto)))))))
 (fun v _ _=>v=sp)=EW sp x n:=by kernel_rfl
abbrev jdd(L:List Int):Int:=(L.length:Nat)
abbrev jd2(L:List Int)(n:Int):=IntKind.wrap .i64 ((L.getD (Int.tmod n (jdd L)).toNat 0)+(IntKind.wrap .i64 (Int.tdiv n (jdd L))))
abbrev jdb(L:List Int)(n:Int):aa:=.cells true 0 [.iface (L.length+1) (.agg ⟨(L.flatMap aq)⟩),nI (n+1)]
def EX(L:List Int)(n m:Int):Prop :=
 (fk (decide ((0:Int)<(jdd L))) ((((jdd L):Int)≠0)/\((ixq (Int.tmod n (jdd L)) L.length)/\(((L.flatMap aq)[(Int.toNat (Int.tmod n (jdd L))*1)]?=some (nI (L.getD (Int.tmod n (jdd L)).toNat 0)))/\((((jdd L):Int)≠0)/\(nw (n+1) (c0q 2 11 [nI (jd2 L n),nI m] (nI ((jd2 L n) % m)) (true=true/\wk (nI ((jd2 L n) % m):Value) (rn (sg 2 []) 3 (nI (dN L n m):Value))/\((krq 2 (jdb L n))/\True)/\(True)))))))) (nw (n+1) (c0q 2 11 [nI 0,nI m] (nI (0 % m)) (true=true/\wk (nI (0 % m):Value) (rn (sg 2 []) 3 (nI (dN L n m):Value))/\((krq 2 (jdb L n))/\True)/\(True)))))
theorem Im(L:List Int)(n m:Int):vF prog msk (dm 0) 100000 true 40 true 13 [pt 1,nI m] (eF 1 0 (uf L n) []) (some [1])
 (.go 7 (.fork (.go 12 (.need (.need (.val (nI (L.getD (Int.tmod n (jdd L)).toNat 0)) (.go 8 (.need (.go 6 (.slot 43 (nI (n+1)) (.go 4 (.ans [] (nI ((jd2 L n) % m)) [] (.go 0 (.keep (.again []))))))))))))) (.go 4 (.slot 43 (nI (n+1)) (.go 4 (.ans [] (nI (0 % m)) [] (.go 0 (.keep (.again [])))))))))
 (Ak ((eF 1 0 (uf L n) []):HT).n 3 1 (jdb L n) (nI (dN L n m)) [])=EX L n m:=by kernel_rfl
theorem e8{c:Cell}:aP c=0 ↔ bv c:=by unfold aP;split <;> simp_all
theorem AD{c:Cell}(h:bv c):lW (da c):=by
 obtain ⟨h1,h2,h3,h4⟩:=h
 unfold cG at h1 h2 h3 h4
 unfold lW da
 dsimp only;omega
theorem FO{s:Shp}(o:kI s){c:Cell}(hc:bv c){ch:Bool}{H:Heap}{b i j k:Nat}(a:ShAt H s b i j k) :
  ae prog 40 [pt b,cellV c,.bool ch] H [] (Is (.tuple #[nI (sfS s c ch).1,nI (sfS s c ch).2]) H):=by
 refine jU (Eq.mpr (GG _ s c ch) ?_) (gE s) rfl rfl (fun _=>rfl) a.1 a.objs rfl rfl
 delta B7 jdk jd6 jd1 jd0 jdh jdi jdj jd3 nI slQ pt ac fk
 have hat:∀{H':Heap} {Q:Prop},(H'[0]?=some bF/\H'[1]?=some (.cells true 0 (uS s 2 3 4))/\H'[2]?=some (.cells true 2 (s.th.flatMap ptC))/\H'[3]?=some (.cells true 2 (s.wa.flatMap ptC))/\H'[4]?=some (.cells true 2 (s.ic.flatMap ptC))/\Q)->ShAt H' s 1 2 3 4:=fun h=>⟨by decide,h.1,h.2.1,h.2.2.1,h.2.2.2.1,h.2.2.2.2.1⟩
 refine ⟨⟨rfl,rfl,rfl,rfl,rfl,trivial⟩,fun H' _ h=>FN o (AD hc) (hat h),fun e =>?_,fun e=>⟨⟨rfl,rfl,rfl,rfl,rfl,trivial⟩,fun H' _ h=>HA o (AD hc) (hat h),fun e2 =>?_,fun e2 =>?_⟩⟩
 ·unfold sfS;rw[if_pos (aR e)]
 ·unfold sfS;rw[if_neg (aV e),if_pos (mZ e2)]
 ·unfold sfS;rw[if_neg (aV e),if_neg (by rw[fg e2];simp)]
theorem AY(c:Cell){H:Heap}(hH:1<=H.length):ae prog 38 [cellV c] H [] (Is (nI (aP c)) H):=by
 refine sn 40 (fun _=>rfl) rfl (Eq.mpr (GT _ c) ?_) hH
 delta Cj jd8 jdl nI fk
 simp only[decide_eq_true_eq,decide_eq_false_iff_not,Bool.not_eq_true',Bool.not_eq_false']
 repeat' (first|apply And.intro|intro _)
 all_goals first
  |exact iEq (if_neg (by unfold bv cG;omega)).symm
  |exact iEq (if_pos (by unfold bv cG;omega)).symm
theorem IZ(s:Shp)(hs:xT s)(c:Cell){H:Heap}{i j k:Nat}{o1 o2 o3:Bool}{z1 z2 z3:Nat}(h1:H[i]?=some (.cells o1 z1 (s.th.flatMap ptC)))(h2:H[j]?=some (.cells o2 z2 (s.wa.flatMap ptC)))(h3:H[k]?=some (.cells o3 z3 (s.ic.flatMap ptC))) :
  ae prog 89 [Fr s i j k,cellV c] H [] (Is (nI (bV (aZ s) (aP c))) H):=by
 refine fT (css:=[s.th.flatMap ptC,s.wa.flatMap ptC,s.ic.flatMap ptC]) (v:=nI (bV (aZ s) (aP c))) (ids:=[i,j,k]) (Eq.mpr (Jy _ s c) ?_) ⟨dZ _ _,dZ _ _,dZ _ _,trivial⟩ rfl ⟨⟨_,_,h1⟩,⟨_,_,h2⟩,⟨_,_,h3⟩,trivial⟩ rfl
 delta Ij jdh jdi jdj jdc nI slQ fk c0q c3q
 refine ⟨⟨rfl,rfl,rfl,trivial⟩,fun H' _ h=>xf s hs h.1 h.2.1 h.2.2.1,fun e =>?_,fun e=>⟨trivial,fun H' hl _=>AY c (by omega),?_⟩⟩
 ·rw[eZ (neB e)]
 ·rw[cj (rb e)]
def Jz(H:Heap)(s:Shp)(i j k:Nat):Prop :=
 [0,i,j,k].Nodup/\H[0]?=some bF/\H[i]?=some (.cells true 2 (s.th.flatMap ptC))/\H[j]?=some (.cells true 2 (s.wa.flatMap ptC))/\H[k]?=some (.cells true 2 (s.ic.flatMap ptC))
theorem FT(s:Shp)(hs:xT s)(c:Cell)(ch:Bool){H:Heap}{i j k:Nat}(a:Jz H s i j k) :
  ae prog 48 [Fr s i j k,cellV c,.bool ch] H [] (Is (.tuple #[nI (sfX s c ch).1,nI (sfX s c ch).2]) H):=by
 have ok:[bF,.cells true 2 (s.th.flatMap ptC),.cells true 2 (s.wa.flatMap ptC),.cells true 2 (s.ic.flatMap ptC)].all (ap 3)=true:=by
  show (ap 3 bF&&(ap 3 (.cells true 2 (s.th.flatMap ptC))&&(ap 3 (.cells true 2 (s.wa.flatMap ptC))&&(ap 3 (.cells true 2 (s.ic.flatMap ptC))&&true))))=true
  rw[gX,gX,gX];rfl
 have ob:dL H (sgI [0,i,j,k]) [0,i,j,k] [bF,.cells true 2 (s.th.flatMap ptC),.cells true 2 (s.wa.flatMap ptC),.cells true 2 (s.ic.flatMap ptC)] :=
  ⟨a.2.1,by rw[eD];exact a.2.2.1,by rw[eD];exact a.2.2.2.1,by rw[eD];exact a.2.2.2.2,trivial⟩
 refine jU (Eq.mpr (GN _ s c ch) ?_) ok rfl rfl (fun _=>rfl) a.1 ob rfl rfl
 delta Cd jdh jdi jdj jd5 jd1 jd4 jd3 nI slQ pt ac fk c3q
 refine ⟨⟨rfl,rfl,rfl,trivial⟩,fun H' _ h=>IZ s hs c h.1 h.2.1 h.2.2.1,fun e =>?_,fun e =>?_⟩
 ·have e:=neB e
  unfold bV at e ⊢
  unfold sfX
  by_cases h:aZ s=0
  ·rw[if_pos h]at e ⊢;rw[if_pos h,if_neg e]
  ·rw[if_neg h,if_neg h]
 ·have e:=rb e
  unfold bV at e
  by_cases h:aZ s=0
  ·rw[if_pos h]at e
   refine ⟨⟨rfl,rfl,rfl,rfl,rfl,trivial⟩,fun H' _ h'=>FO (Ex h) (e8.1 e) ⟨by decide,h'.1,h'.2.1,h'.2.2.1,h'.2.2.2.1,h'.2.2.2.2.1⟩,?_⟩
   unfold sfX;rw[if_pos h,if_pos e]
  ·rw[if_neg h]at e;exact absurd e h
theorem Ht(w h t:Int){H:Heap}(hH:1<=H.length):ae prog 114 [nI w,nI h,nI t] H [] (Is (nI (eL w h t)) H):=by
 refine sn 40 (fun _=>rfl) rfl (Eq.mpr (GM _ w h t) ?_) hH
 delta Cc jda jdl nI fk nw
 have mb:(1<=w/\w<=64)->(1<=h/\h<=64)->0<=w*h/\w*h<=64*64:=fun h1 h2=>iq (by omega) h1.2 (by omega) h2.2
 repeat' first|(refine ⟨ag (by have:=mb ⟨‹_›,‹_›⟩ ⟨‹_›,‹_›⟩;omega),?_⟩)|(exact iEq (if_pos (by unfold kQ;omega)).symm)|(exact iEq (if_neg (by unfold kQ;omega)).symm)|(refine cu (fun h =>?_) (fun h =>?_))|refine iY ?_
theorem df(c:Cell):(cellC c).length=8:=rfl
theorem sR{xs:List Cell}{x off:Nat}(h:x<xs.length)(ho:off=x*8):d6 8 (List.flatMap cellC xs) off=some (.agg ⟨cellC (List.getD xs x ak)⟩) :=
 j8 (f:=cellC) (d:=ak) (c:=0) (m:=8) df h (by omega) (by decide)
theorem kX(n:Nat)(l:List Cell):(l.flatMap cellC).all (aj n)=true:=dz (fun _=>rfl) l
theorem FL(xs:List Cell)(hn:xs.length<=2 ^ 30){H:Heap}{id:Nat}{own:Bool}{z:Nat}(hid:H[id]?=some (.cells own z (xs.flatMap cellC))) :
  ae prog 115 [slR id xs.length,.func (.func 38) #[] #[]] H [] (Is (nI (errs aP xs)) H):=by
 refine fT (css:=[xs.flatMap cellC]) (v:=nI (errs aP xs)) (ids:=[id]) (Eq.mpr (Eh _ xs) ?_) ⟨kX _ _,trivial⟩ rfl ⟨⟨_,_,hid⟩,trivial⟩ rfl
 delta xM jdl jde jd7 nI slQ fk nw eR wR ixq lq c0q
 refine ⟨rfl,⟨Nat.zero_le _,rfl⟩,?_,fun _=>rfl,?_⟩
 ·repeat' first|exact trivial|exact ad _|refine ⟨rfl,?_⟩|refine ⟨trivial,?_⟩|apply And.intro
 rintro x ⟨hx,hsp⟩
 refine cu (fun h =>?_) (fun h =>?_)
 ·have hlt:x<xs.length:=by omega
  rw[DR (d:=ak) hlt]at hsp
  refine ⟨⟨by omega,by omega⟩,sR hlt (by omega),trivial,fun H' hl _=>AY _ (by omega),?_⟩
  refine nP (fun h1 =>?_) (fun h1 =>?_)
  ·rw[hsp,if_neg h1]
  ·refine ⟨ag (by omega),x+1,⟨by omega,by rw[hsp,if_pos h1]⟩,by omega,?_⟩
   repeat' first|exact trivial|exact ad _|refine ⟨rfl,?_⟩|refine ⟨trivial,?_⟩|apply And.intro
 ·rw[hsp,show x=xs.length by omega,List.drop_length];rfl
theorem zM{w h t:Int}(h0:eL w h t=0):1<=w*h/\w*h<=1024:=by
 obtain ⟨h1,h2,h3,_⟩:=iE.1 h0
 refine ⟨?_,h3⟩
 have:1*1<=w*h:=Int.mul_le_mul h1.1 h2.1 (by omega) (by omega)
 omega
theorem FX(w h t:Int)(cs:List Cell){H:Heap}{id:Nat}{own:Bool}{z:Nat}(hid:H[id]?=some (.cells own z (cs.flatMap cellC))) :
  ae prog 88 [.agg #[nI w,nI h,nI t,slR id cs.length]] H [] (Is (nI (cL w h t cs)) H):=by
 refine fT (css:=[cs.flatMap cellC]) (v:=nI (cL w h t cs)) (ids:=[id]) (Eq.mpr (Ej _ w h t cs) ?_) ⟨kX _ _,trivial⟩ rfl ⟨⟨_,_,hid⟩,trivial⟩ rfl
 delta xO nI slQ fk nw c0q c1q;unfold cL
 refine ⟨trivial,fun H' hl _=>Ht _ _ _ (by omega),fun e =>?_,fun e =>?_⟩
 ·rw[eZ (neB e)]
 ·rw[cj (rb e)]
  have hm:=zM (rb e)
  refine ⟨ag (by omega),fun q =>?_,fun q=>⟨⟨rfl,trivial⟩,fun H' _ h=>FL _ (by have:=zg q;omega) h.1,?_⟩⟩
  ·rw[if_neg (Al q)]
  ·rw[if_pos (zg q)]
theorem An{w h:Int}(a:1<=w/\w<=64)(b:1<=h/\h<=64):1<=w*h/\w*h<=4096:=by
 have h1:1*1<=w*h:=Int.mul_le_mul a.1 b.1 (by omega) (by omega)
 have h2:w*h<=64*64:=Int.mul_le_mul a.2 b.2 (by omega) (by omega)
 omega
abbrev Ie(w h:Int)(i n:Nat):Value:=.agg #[nI w,nI h,slR i n]
theorem F0(w h:Int)(a:List Bool){H:Heap}{id:Nat}{own:Bool}{z:Nat}(hid:H[id]?=some (.cells own z (a.flatMap af))) :
  ae prog 87 [Ie w h id a.length] H [] (Is (nI (fM w h a.length)) H):=by
 refine fT (css:=[a.flatMap af]) (v:=nI (fM w h a.length)) (ids:=[id]) (Eq.mpr (Ek _ w h a) ?_) ⟨bh _ _,trivial⟩ rfl ⟨⟨_,_,hid⟩,trivial⟩ rfl
 delta xP jda jdf jdl nI fk nw;unfold fM
 obtain ⟨p,hp⟩:∃p,w*h=p:=⟨_,rfl⟩
 have hb:=fun a b=>hp ▸ An (w:=w) (h:=h) a b
 simp only[hp]
 repeat' first|(exact iEq (by split <;> (try split) <;> omega))|(refine cu (fun h =>?_) (fun h =>?_))|(refine nP (fun h =>?_) (fun h =>?_))|refine iY ?_|(refine ⟨ag (by omega),?_⟩)
theorem kIs(w h:Int)(a:List Bool)(c:Int)(hl:a.length<=1000000){H:Heap}{id:Nat}{own:Bool}{z:Nat}(hid:H[id]?=some (.cells own z (a.flatMap af))) :
  ae prog 43 [Ie w h id a.length,nI c] H [] (Is (.bool (dE a c)) H):=by
 refine fT (css:=[a.flatMap af]) (v:=.bool (dE a c)) (ids:=[id]) (Eq.mpr (Jw _ w h a c) ?_) ⟨bh _ _,trivial⟩ rfl ⟨⟨_,_,hid⟩,trivial⟩ rfl
 delta Ih jdf nI fk nw ixq c0q;unfold dE
 refine ⟨ag (by omega),trivial,fun H' hl _=>AR _ _ _ (by omega),fun e =>?_,fun e =>?_⟩
 ·have hb:=bc.1 e
  refine ⟨⟨hb.1,by omega⟩,dl (by omega) (by omega),?_⟩
  rw[e,Bool.true_and]
 ·rw[e];rfl
theorem yk{x n:Int}(hn:1<=n):(Int.tmod x n<0->Int.tmod x n+n=x % n)/\(¬ Int.tmod x n<0->Int.tmod x n=x % n) /\ -n<Int.tmod x n/\Int.tmod x n<n:=by
 have h1:=Int.mul_tdiv_add_tmod x n
 have h2:=Int.lt_tmod_of_pos x (by omega:0<n)
 have h3:=Int.tmod_lt_of_pos x (by omega:0<n)
 refine ⟨fun h =>?_,fun h =>?_,h2,h3⟩
 ·have:x=(Int.tmod x n+n)+n*(x.tdiv n-1):=by rw[Int.mul_sub];omega
  rw[this,Int.add_mul_emod_self_left,<- this]
  exact (Int.emod_eq_of_lt (by omega) (by omega)).symm
 ·have:x=Int.tmod x n+n*x.tdiv n:=by omega
  conv=>rhs;rw[this,Int.add_mul_emod_self_left]
  exact (Int.emod_eq_of_lt (by omega) (by omega)).symm
theorem AV(x n:Int)(h1:1<=n)(h2:n<=9223372036854775807){H:Heap}(hH:1<=H.length):ae prog 11 [nI x,nI n] H [] (Is (nI (x % n)) H):=by
 refine sn 40 (fun _=>rfl) rfl (Eq.mpr (Il _ x n) ?_) hH
 obtain ⟨t1,t2,t3,t4⟩:=yk (x:=x) h1
 delta EW jdl nI fk nw
 exact cu (fun h=>by omega) (fun _=>⟨by omega,cu (fun h=>⟨ag (by omega),iEq (t1 h)⟩) (fun h=>iEq (t2 h))⟩)
theorem bg(m:Nat)(L:List Int)(n:Int):(uf L n).all (aj m)=true:=by
 show ((L.flatMap aq).all (cg m)&&(true&&true))=true
 rw[wi];rfl
theorem HY(m:Nat)(L:List Int)(n:Int):cM m (.cells true 0 (uf L n))=true:=bg m L n
theorem zG{L:List Int}{n:Int}(hn:0<=n)(hL:0<L.length):0<=Int.tmod n ((L.length:Nat):Int)/\Int.tmod n ((L.length:Nat):Int)<((L.length:Nat):Int):=by
 rw[Int.tmod_eq_emod_of_nonneg hn]
 exact ⟨Int.emod_nonneg _ (by omega),Int.emod_lt_of_pos _ (by omega)⟩
theorem Hv(L:List Int)(n m:Int)(hn:0<=n/\n<=1000000000)(hm:1<=m/\m<=1000000000){H:Heap}(hH:1<=H.length){D:Nat}(hD:H[D]?=some (.cells true 0 (uf L n))) :
  ae prog 13 [pt D,nI m] H [D] (Is (nI (dN L n m)) (H.set D (.cells true 0 (uf L (n+1))))):=by
 have key:ae prog 13 [pt D,nI m] H [D] (Is (nI (dN L n m)) (H.set D (.cells true 0 (uf L (n+1))) ++ [])):=by
  refine IG (fun _=>nI (dN L n m)) (css:=[]) (new:=[]) (Eq.mpr (Im L n m) ?_) (bg 0 L n) (bg 0 L (n+1)) trivial trivial rfl rfl (fun _=>rfl) hD (ids:=[]) trivial (by simp) rfl
  delta EX jdd jd2 jdb nI fk nw krq ixq c0q
  refine cu (fun k =>?_) (fun k =>?_)
  ·have hL:0<L.length:=by omega
   have hd:Gn L n=IntKind.wrap .i64 (L.getD (Int.toNat (Int.tmod n ((L.length:Nat):Int))) 0+IntKind.wrap .i64 (Int.tdiv n ((L.length:Nat):Int))):=if_pos hL
   have hb:=zG hn.1 hL
   refine ⟨by omega,hb,cJ (by omega) (by omega),by omega,ag (by omega),trivial,fun H' hl _=>AV _ _ (by omega) (by omega) (by omega),rfl,?_,⟨⟨rfl,HY _ _ _⟩,trivial⟩,trivial⟩
   unfold dN
   rw[hd];exact ad _
  ·have hd:Gn L n=0:=if_neg (by omega)
   refine ⟨ag (by omega),trivial,fun H' hl _=>AV _ _ (by omega) (by omega) (by omega),rfl,?_,⟨⟨rfl,HY _ _ _⟩,trivial⟩,trivial⟩
   unfold dN
   rw[hd];exact ad _
 rw[List.append_nil]at key
 exact key
abbrev je6(p:Pl):aa:=.cells false 0 (p.land.flatMap af)
abbrev je4(p:Pl):=fM p.w p.h p.land.length
abbrev je2(p:Pl):Int:=(p.cts.length:Nat)
abbrev je5(p:Pl):Prop:=eR (pt 7)/\wR (slQ 2 2 p.cts.length)/\eR (nI (je2 p))/\True
abbrev je1(p:Pl)(x2:Nat):Value:=.agg #[nI (p.cts.getD x2 zCh).w,nI (p.cts.getD x2 zCh).h,nI (p.cts.getD x2 zCh).hr,.iface ((List.length (p.cts.getD x2 zCh).cells)+1) (.agg ⟨(List.flatMap cellC (p.cts.getD x2 zCh).cells)⟩)]
abbrev je0(p:Pl)(x2:Nat):=cL (p.cts.getD x2 zCh).w (p.cts.getD x2 zCh).h (p.cts.getD x2 zCh).hr (p.cts.getD x2 zCh).cells
def xK(sp:Value)(p:Pl):Prop :=
 (c1q 8 1 (je6 p) 87 [.agg #[nI p.w,nI p.h,slQ 1 2 p.land.length]] (nI (je4 p)) (fk (((je4 p):Int) != 0) ((nI (je4 p):Value)=sp) (c0q 8 44 [nI (je2 p),nI 1,nI 48] (.bool (inB (je2 p) 1 48)) (fk (!(inB (je2 p) 1 48)) ((nI 2:Value)=sp) (lq (0<=List.length p.cts/\cU (cB p) 0=0) (true=true/\((nI 0:Value)=nI ((0:Nat):Int)/\je5 p)/\(True)/\(True)/\(True)) (∀x2:Nat,(x2<=List.length p.cts/\cU (cB p) x2=0)->(fk (decide (((x2:Int):Int)<(je2 p))) ((ixq (x2:Int) p.cts.length)/\((d6 4 (p.cts.flatMap chC) (0+Int.toNat (x2:Int)*4)=some (je1 p x2))/\(c1q 10 9 (.cells false 0 (List.flatMap cellC (p.cts.getD x2 zCh).cells)) 88 [.agg #[nI (p.cts.getD x2 zCh).w,nI (p.cts.getD x2 zCh).h,nI (p.cts.getD x2 zCh).hr,slQ 9 2 (List.length (p.cts.getD x2 zCh).cells)]] (nI (je0 p x2)) (fk (((je0 p x2):Int) != 0) ((nI (je0 p x2):Value)=sp) (fk (((p.cts.getD x2 zCh).w:Int) != p.w) ((nI 1:Value)=sp) (fk (((p.cts.getD x2 zCh).h:Int) != p.h) ((nI 1:Value)=sp) ((ixq 0 p.cts.length)/\(((p.cts.flatMap chC)[2]?=some (nI (p.cts.getD 0 zCh).hr))/\(nw ((p.cts.getD 0 zCh).hr+(x2:Int)) (fk (((p.cts.getD x2 zCh).hr:Int) != ((p.cts.getD 0 zCh).hr+(x2:Int))) ((nI 11:Value)=sp) (nw ((x2:Int)+1) (∃x2':Nat,(x2'<=List.length p.cts/\cU (cB p) x2'=0)/\(List.length p.cts-x2')<(List.length p.cts-x2)/\true=true/\((nI ((x2:Int)+1):Value)=nI (x2':Int)/\je5 p)/\(True)/\(True)/\(True))))))))))))) (fk ((((p.chan.length:Nat):Int):Int) != ((p.land.length:Nat):Int)) ((nI 1:Value)=sp) (c3q 8 4 (.cells false 0 (p.shp.th.flatMap ptC)) 5 (.cells false 0 (p.shp.wa.flatMap ptC)) 6 (.cells false 0 (p.shp.ic.flatMap ptC)) 36 [.agg #[nI p.shp.cls,nI p.shp.pow,nI p.shp.dra,nI p.shp.ton,slQ 4 2 p.shp.th.length,slQ 5 2 p.shp.wa.length,slQ 6 2 p.shp.ic.length,nI p.shp.slow,nI p.shp.aB,nI p.shp.rdg,nI p.shp.prs]] (nI (aZ p.shp)) (fk (((aZ p.shp):Int) != 0) ((nI (aZ p.shp):Value)=sp) (c0q 8 44 [nI p.size,nI 1,nI 500] (.bool (inB p.size 1 500)) (fk (!(inB p.size 1 500)) ((nI 6:Value)=sp) (c1q 8 1 (je6 p) 43 [.agg #[nI p.w,nI p.h,slQ 1 2 p.land.length],nI p.frm] (.bool (dE p.land p.frm)) (fk (!(dE p.land p.frm)) ((nI 1:Value)=sp) (c1q 8 1 (je6 p) 43 [.agg #[nI p.w,nI p.h,slQ 1 2 p.land.length],nI p.to] (.bool (dE p.land p.to)) (fk (!(dE p.land p.to)) ((nI 1:Value)=sp) ((nI 0:Value)=sp)))))))))))))))))
abbrev je3(p:Pl):List (Nat×aa):=[(1,.cells false 0 (p.land.flatMap af))]
theorem Eg(sp:Value)(p:Pl):vF prog msk (dm 0) 100000 true 40 true 47 [.agg #[nI p.w,nI p.h,slQ 1 2 p.land.length,slQ 2 2 p.cts.length,slQ 3 2 p.chan.length,nI p.shp.cls,nI p.shp.pow,nI p.shp.dra,nI p.shp.ton,slQ 4 2 p.shp.th.length,slQ 5 2 p.shp.wa.length,slQ 6 2 p.shp.ic.length,nI p.shp.slow,nI p.shp.aB,nI p.shp.rdg,nI p.shp.prs,nI p.size,nI p.frm,nI p.to]] (ce 1 [p.land.flatMap af,p.cts.flatMap chC,p.chan.flatMap af,p.shp.th.flatMap ptC,p.shp.wa.flatMap ptC,p.shp.ic.flatMap ptC]) (some [])
 (.go 3 (.ans (je3 p) (nI (je4 p)) [] (.go 2 (.fork (.auto) (.go 2 (.ans [] (.bool (inB (je2 p) 1 48)) [] (.go 0 (.fork (.auto) (.go 3 (.inv 3 (Nat) (0) [] [] (fun x2=>[(22,nI (x2:Int)),(1,pt 7),(20,slQ 2 2 p.cts.length),(21,nI (je2 p))]) (fun x2=>[]) (fun x2=>[]) (fun x2=>[]) (fun x2=>(x2<=List.length p.cts/\cU (cB p) x2=0)) (fun x2=>(List.length p.cts-x2)) (fun x2 => .go 0 (.fork (.go 0 (.need (.val (je1 p x2) (.go 3 (.frz [27] (.ans [(9,.cells false 0 (List.flatMap cellC (p.cts.getD x2 zCh).cells))] (nI (je0 p x2)) [] (.go 3 (.fork (.auto) (.go 6 (.aH (.auto) (.go 7 (.fork (.auto) (.go 3 (.need (.go 0 (.val (nI (p.cts.getD 0 zCh).hr) (.go 1 (.slot 57 (nI ((p.cts.getD 0 zCh).hr+(x2:Int))) (.go 1 (.fork (.auto) (.go 0 (.slot 59 (nI ((x2:Int)+1)) (.go 0 (.again [])))))))))))))))))))))))) (.go 7 (.fork (.auto) (.go 1 (.ans [(4,.cells false 0 (p.shp.th.flatMap ptC)),(5,.cells false 0 (p.shp.wa.flatMap ptC)),(6,.cells false 0 (p.shp.ic.flatMap ptC))] (nI (aZ p.shp)) [] (.go 3 (.fork (.auto) (.go 1 (.ans [] (.bool (inB p.size 1 500)) [] (.go 1 (.fork (.auto) (.go 3 (.ans (je3 p) (.bool (dE p.land p.frm)) [] (.go 1 (.aH (.auto) (.go 3 (.ans (je3 p) (.bool (dE p.land p.to)) [] (.go 2 (.fork (.auto) (.auto)))))))))))))))))))))))))))))))
 (fun v _ _=>v=sp)=xK sp p:=by kernel_rfl
end
end Go.Proofs.YtmecpfikljhjaaaDoor
