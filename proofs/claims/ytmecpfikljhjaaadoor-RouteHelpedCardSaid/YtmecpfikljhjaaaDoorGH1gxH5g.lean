/- What is to be shown of functions. Printed by a program. No condition. -/
import Derived.Test.YtmecpfikljhjaaaDoorGK27xA0
open Go Go.K
set_option maxRecDepth 1000000
set_option maxHeartbeats 4000000
set_option linter.unusedVariables false
set_option linter.unusedSimpArgs false
namespace Go.Proofs.YtmecpfikljhjaaaDoor
noncomputable section
attribute [local irreducible] vF
abbrev ja5:Value:=.bool false
abbrev ja3(a n b:Int)(sp:Value):=fk (decide ((a:Int)<=n)) ((.bool (decide ((n:Int)<=b)):Value)=sp) (ja5=sp)
def Rwithin(sp:Value)(n a b:Int):Prop :=
 (ja3 a n b sp)
abbrev ja8:Hint:=.go 4 (.gfork (.auto) (.auto))
theorem Ewithin(sp:Value)(n a b:Int):vF prog msk (dm 0) 100000 true 40 true 37 [nI n,nI a,nI b] ⟨1,.leaf⟩ (some [])
 ja8
 (fun v _ _=>v=sp)=Rwithin sp n a b:=by kernel_rfl
def Rrin(sp:Value)(n a b:Int):Prop :=
 (ja3 a n b sp)
theorem Erin(sp:Value)(n a b:Int):vF prog msk (dm 0) 100000 true 40 true 44 [nI n,nI a,nI b] ⟨1,.leaf⟩ (some [])
 ja8
 (fun v _ _=>v=sp)=Rrin sp n a b:=by kernel_rfl
abbrev ja1(l:List Pt):Int:=(l.length:Nat)
abbrev jab(l:List Pt):=l.flatMap ptC
abbrev ja6(l:List Pt):=l.getD ((ja1 l)-1).toNat zP
def Rendx(sp:Value)(l:List Pt):Prop :=
 (nw ((ja1 l)-1) ((ixq ((ja1 l)-1) l.length)/\(((jab l)[((0+Int.toNat ((ja1 l)-1)*2)+0)]?=some (nI (ja6 l).1))/\(nI (ja6 l).1:Value)=sp)))
theorem Eendx(sp:Value)(l:List Pt):vF prog msk (dm 0) 100000 true 40 true 105 [slQ 1 2 l.length] (readsT 1 [l.flatMap ptC]) (some [])
 (.go 4 (.slot 6 (nI ((ja1 l)-1)) (.need (.go 0 (.val (nI (ja6 l).1) (.auto))))))
 (fun v _ _=>v=sp)=Rendx sp l:=by kernel_rfl
abbrev ja7:Prop:=(True)/\(True)/\(True)
abbrev ja4(l:List Pt)(x1:Nat):=l.getD ((x1:Int)-1).toNat zP
abbrev ja2(x1:Nat)(l:List Pt):=nw ((x1:Int)+1) (∃x1':Nat,(x1'<=List.length l/\(List.range x1').all (ptOk l)=true)/\(List.length l-x1')<(List.length l-x1)/\true=true/\((nI ((x1:Int)+1):Value)=nI (x1':Int)/\wR (slQ 1 2 l.length)/\wR (slQ 1 2 l.length)/\eR (nI (ja1 l))/\True)/\ja7)
def Rcurve(sp:Value)(l:List Pt):Prop :=
 (c0q 2 37 [nI (ja1 l),nI 2,nI 8] (.bool (inB (ja1 l) 2 8)) (fk (!(inB (ja1 l) 2 8)) (ja5=sp) ((ixq 0 l.length)/\(((jab l)[0]?=some (nI (l.getD 0 zP).1))/\(fk (((l.getD 0 zP).1:Int) != 0) (ja5=sp) (lq (0<=List.length l/\(List.range 0).all (ptOk l)=true) (true=true/\((nI 0:Value)=nI ((0:Nat):Int)/\wR (slQ 1 2 l.length)/\wR (slQ 1 2 l.length)/\eR (nI (ja1 l))/\True)/\ja7) (∀x1:Nat,(x1<=List.length l/\(List.range x1).all (ptOk l)=true)->(fk (decide (((x1:Int):Int)<(ja1 l))) ((ixq (x1:Int) l.length)/\((partA 2 (jab l) (0+Int.toNat (x1:Int)*2)=some (.agg #[nI (l.getD x1 zP).1,nI (l.getD x1 zP).2]))/\(c0q 3 37 [nI (l.getD x1 zP).1,nI 0,nI 400] (.bool (inB (l.getD x1 zP).1 0 400)) (fk (!(inB (l.getD x1 zP).1 0 400)) (ja5=sp) (c0q 3 37 [nI (l.getD x1 zP).2,nI 0,nI 20000] (.bool (inB (l.getD x1 zP).2 0 20000)) (fk (!(inB (l.getD x1 zP).2 0 20000)) (ja5=sp) (fk (decide ((0:Int)<(x1:Int))) (nw ((x1:Int)-1) ((ixq ((x1:Int)-1) l.length)/\(((jab l)[((0+Int.toNat ((x1:Int)-1)*2)+0)]?=some (nI (ja4 l x1).1))/\(fk (decide (((l.getD x1 zP).1:Int)<=(ja4 l x1).1)) (ja5=sp) (ja2 x1 l))))) (ja2 x1 l)))))))) ((.bool true:Value)=sp)))))))))
theorem Ecurve(sp:Value)(l:List Pt):vF prog msk (dm 0) 100000 true 40 true 119 [slQ 1 2 l.length] (readsT 1 [l.flatMap ptC]) (some [])
 (.go 2 (.ans [] (.bool (inB (ja1 l) 2 8)) [] (.go 1 (.gfork (.auto) (.go 0 (.need (.go 0 (.val (nI (l.getD 0 zP).1) (.go 1 (.fork (.auto) (.go 2 (.inv 3 (Nat) (0) [] [] (fun x1=>[(18,nI (x1:Int)),(0,slQ 1 2 l.length),(16,slQ 1 2 l.length),(17,nI (ja1 l))]) (fun x1=>[]) (fun x1=>[]) (fun x1=>[]) (fun x1=>(x1<=List.length l/\(List.range x1).all (ptOk l)=true)) (fun x1=>(List.length l-x1)) (fun x1 => .go 0 (.fork (.go 0 (.need (.val (.agg #[nI (l.getD x1 zP).1,nI (l.getD x1 zP).2]) (.go 4 (.ans [] (.bool (inB (l.getD x1 zP).1 0 400)) [] (.go 1 (.gfork (.auto) (.go 1 (.ans [] (.bool (inB (l.getD x1 zP).2 0 20000)) [] (.go 2 (.gfork (.auto) (.go 2 (.gfork (.go 4 (.slot 41 (nI ((x1:Int)-1)) (.need (.go 0 (.val (nI (ja4 l x1).1) (.go 2 (.fork (.auto) (.go 0 (.slot 48 (nI ((x1:Int)+1)) (.go 0 (.again []))))))))))) (.go 3 (.slot 48 (nI ((x1:Int)+1)) (.go 0 (.again []))))))))))))))))) (.auto)))))))))))))))
 (fun v _ _=>v=sp)=Rcurve sp l:=by kernel_rfl
abbrev ja9(l:List Pt):Prop:=wR (slQ 1 2 l.length)/\True
def Rsteady(sp:Value)(l:List Pt)(w:Int):Prop :=
 (c1q 2 1 (.cells false 0 (jab l)) 119 [slQ 1 2 l.length] (.bool (curB l)) (fk (!(curB l)) (ja5=sp) (lq ((1<=1/\1<=List.length l)/\(List.range 1).all (stOk l w)=true) (true=true/\((nI 1:Value)=nI ((1:Nat):Int)/\eR (nI w)/\ja9 l)/\ja7) (∀x1:Nat,((1<=x1/\x1<=List.length l)/\(List.range x1).all (stOk l w)=true)->(fk (decide (((x1:Int):Int)<(ja1 l))) ((ixq (x1:Int) l.length)/\(((jab l)[((0+Int.toNat (x1:Int)*2)+1)]?=some (nI (l.getD x1 zP).2))/\(nw ((x1:Int)-1) ((ixq ((x1:Int)-1) l.length)/\(((jab l)[((0+Int.toNat ((x1:Int)-1)*2)+1)]?=some (nI (ja4 l x1).2))/\(nw ((l.getD x1 zP).2-(ja4 l x1).2) (nw (((l.getD x1 zP).2-(ja4 l x1).2)*w) (fk (decide (((((l.getD x1 zP).2-(ja4 l x1).2)*w):Int)<0)) (ja5=sp) (nw ((x1:Int)+1) (∃x1':Nat,((1<=x1'/\x1'<=List.length l)/\(List.range x1').all (stOk l w)=true)/\(List.length l-x1')<(List.length l-x1)/\true=true/\((nI ((x1:Int)+1):Value)=nI (x1':Int)/\eR (nI w)/\ja9 l)/\ja7)))))))))) ((.bool true:Value)=sp))))))
theorem Esteady(sp:Value)(l:List Pt)(w:Int):vF prog msk (dm 0) 100000 true 40 true 104 [slQ 1 2 l.length,nI w] (readsT 1 [l.flatMap ptC]) (some [])
 (.go 1 (.ans [(1,.cells false 0 (jab l))] (.bool (curB l)) [] (.go 0 (.fork (.auto) (.go 0 (.inv 3 (Nat) (1) [] [] (fun x1=>[(5,nI (x1:Int)),(1,nI w),(0,slQ 1 2 l.length)]) (fun x1=>[]) (fun x1=>[]) (fun x1=>[]) (fun x1=>((1<=x1/\x1<=List.length l)/\(List.range x1).all (stOk l w)=true)) (fun x1=>(List.length l-x1)) (fun x1 => .go 3 (.fork (.go 1 (.need (.go 0 (.val (nI (l.getD x1 zP).2) (.go 2 (.slot 22 (nI ((x1:Int)-1)) (.need (.go 0 (.val (nI (ja4 l x1).2) (.go 0 (.slot 26 (nI ((l.getD x1 zP).2-(ja4 l x1).2)) (.go 1 (.slot 28 (nI (((l.getD x1 zP).2-(ja4 l x1).2)*w)) (.go 0 (.fork (.auto) (.go 1 (.slot 14 (nI ((x1:Int)+1)) (.go 0 (.again []))))))))))))))))))) (.auto)))))))))
 (fun v _ _=>v=sp)=Rsteady sp l w:=by kernel_rfl
abbrev jaa(x0:Nat)(l:List Pt)(x:Int):Prop:=((1<=x0/\x0<=List.length l)/\(l.getD (x0-1) zP).1<=x)/\valL l x=valL (l.drop (x0-1)) x
abbrev ja0(l:List Pt)(x0:Nat):=l.getD ((x0:Int)-1).toNat zP
def Rvalue(sp:Value)(l:List Pt)(x:Int):Prop :=
 (lq (((1<=1/\1<=List.length l)/\(l.getD (1-1) zP).1<=x)/\valL l x=valL (l.drop (1-1)) x) (true=true/\((nI 1:Value)=nI ((1:Nat):Int)/\eR (nI x)/\ja9 l)/\ja7) (∀x0:Nat,(jaa x0 l x)->(fk (decide (((x0:Int):Int)<(ja1 l))) (nw ((x0:Int)-1) ((ixq ((x0:Int)-1) l.length)/\((partA 2 (jab l) (0+Int.toNat ((x0:Int)-1)*2)=some (.agg #[nI (ja0 l x0).1,nI (ja0 l x0).2]))/\((ixq (x0:Int) l.length)/\((partA 2 (jab l) (0+Int.toNat (x0:Int)*2)=some (.agg #[nI (l.getD x0 zP).1,nI (l.getD x0 zP).2]))/\(fk (decide ((x:Int)<=(l.getD x0 zP).1)) (nw ((l.getD x0 zP).1-(ja0 l x0).1) (nw ((ja0 l x0).2*((l.getD x0 zP).1-(ja0 l x0).1)) (nw ((l.getD x0 zP).2-(ja0 l x0).2) (nw (x-(ja0 l x0).1) (nw (((l.getD x0 zP).2-(ja0 l x0).2)*(x-(ja0 l x0).1)) (nw (((ja0 l x0).2*((l.getD x0 zP).1-(ja0 l x0).1))+(((l.getD x0 zP).2-(ja0 l x0).2)*(x-(ja0 l x0).1))) (nw ((l.getD x0 zP).1-(ja0 l x0).1) ((.tuple #[nI (((ja0 l x0).2*((l.getD x0 zP).1-(ja0 l x0).1))+(((l.getD x0 zP).2-(ja0 l x0).2)*(x-(ja0 l x0).1))),nI ((l.getD x0 zP).1-(ja0 l x0).1)]:Value)=sp)))))))) (nw ((x0:Int)+1) (∃x0':Nat,(((1<=x0'/\x0'<=List.length l)/\(l.getD (x0'-1) zP).1<=x)/\valL l x=valL (l.drop (x0'-1)) x)/\(List.length l-x0')<(List.length l-x0)/\true=true/\((nI ((x0:Int)+1):Value)=nI (x0':Int)/\eR (nI x)/\ja9 l)/\ja7)))))))) (nw ((ja1 l)-1) ((ixq ((ja1 l)-1) l.length)/\(((jab l)[((0+Int.toNat ((ja1 l)-1)*2)+1)]?=some (nI (ja6 l).2))/\(.tuple #[nI (ja6 l).2,nI 1]:Value)=sp))))))
theorem Evalue(sp:Value)(l:List Pt)(x:Int):vF prog msk (dm 0) 100000 true 40 true 120 [slQ 1 2 l.length,nI x] (readsT 1 [l.flatMap ptC]) (some [])
 (.go 2 (.inv 3 (Nat) (1) [] [] (fun x0=>[(6,nI (x0:Int)),(1,nI x),(0,slQ 1 2 l.length)]) (fun x0=>[]) (fun x0=>[]) (fun x0=>[]) (fun x0=>(jaa x0 l x)) (fun x0=>(List.length l-x0)) (fun x0 => .go 3 (.fork (.go 2 (.slot 17 (nI ((x0:Int)-1)) (.need (.val (.agg #[nI (ja0 l x0).1,nI (ja0 l x0).2]) (.go 1 (.need (.val (.agg #[nI (l.getD x0 zP).1,nI (l.getD x0 zP).2]) (.go 7 (.fork (.go 6 (.slot 34 (nI ((l.getD x0 zP).1-(ja0 l x0).1)) (.go 0 (.slot 35 (nI ((ja0 l x0).2*((l.getD x0 zP).1-(ja0 l x0).1))) (.go 4 (.slot 40 (nI ((l.getD x0 zP).2-(ja0 l x0).2)) (.go 3 (.slot 44 (nI (x-(ja0 l x0).1)) (.go 0 (.slot 45 (nI (((l.getD x0 zP).2-(ja0 l x0).2)*(x-(ja0 l x0).1))) (.go 0 (.slot 46 (nI (((ja0 l x0).2*((l.getD x0 zP).1-(ja0 l x0).1))+(((l.getD x0 zP).2-(ja0 l x0).2)*(x-(ja0 l x0).1)))) (.go 4 (.slot 51 (nI ((l.getD x0 zP).1-(ja0 l x0).1)) (.auto))))))))))))))) (.go 1 (.slot 14 (nI ((x0:Int)+1)) (.go 0 (.again []))))))))))))) (.go 3 (.slot 55 (nI ((ja1 l)-1)) (.need (.go 0 (.val (nI (ja6 l).2) (.auto))))))))))
 (fun v _ _=>v=sp)=Rvalue sp l x:=by kernel_rfl
theorem neB{x:Int}(h:(x != 0)=true):¬ x=0:=by simpa using h
theorem eqB0{x:Int}(h:(x != 0)=false):x=0:=by simpa using h
theorem neB2{x y:Int}(h:(x != y)=true):x≠y:=by simpa using h
theorem eqB2{x y:Int}(h:(x != y)=false):x=y:=by simpa using h
theorem ptC_len(p:Pt):(ptC p).length=2:=rfl
theorem plainP(n:Nat)(l:List Pt):(l.flatMap ptC).all (belowC n)=true:=plain_flat (fun _=>rfl) l
theorem ptAt0{l:List Pt}{k off:Nat}(h:k<l.length)(ho:off=k*2):(l.flatMap ptC)[off]?=some (nI (l.getD k zP).1):=cell_at (c:=0) (d:=zP) ptC_len h (by omega) rfl
theorem ptAt1{l:List Pt}{k off:Nat}(h:k<l.length)(ho:off=k*2+1):(l.flatMap ptC)[off]?=some (nI (l.getD k zP).2):=cell_at (c:=1) (d:=zP) ptC_len h (by omega) rfl
theorem ptPart{l:List Pt}{k off:Nat}(h:k<l.length)(ho:off=k*2):partA 2 (l.flatMap ptC) off=some (.agg ⟨ptC (l.getD k zP)⟩):=part_at (n:=2) (d:=zP) (c:=0) (m:=2) ptC_len h (by omega) (by omega)
theorem kWithin(n a b:Int){H:Heap}(hH:1<=H.length):KCall prog 37 [nI n,nI a,nI b] H [] (Is (.bool (inB n a b)) H):=by
 refine valK 40 (fun _=>rfl) rfl (Eq.mpr (Ewithin _ n a b) ?_) hH
 delta Rwithin ja3 ja5 fk;unfold inB
 refine ⟨fun h =>?_,fun h =>?_⟩ <;> rw[h] <;> simp
theorem kRin(n a b:Int){H:Heap}(hH:1<=H.length):KCall prog 44 [nI n,nI a,nI b] H [] (Is (.bool (inB n a b)) H):=by
 refine valK 40 (fun _=>rfl) rfl (Eq.mpr (Erin _ n a b) ?_) hH
 delta Rrin ja3 ja5 fk;unfold inB
 refine ⟨fun h =>?_,fun h =>?_⟩ <;> rw[h] <;> simp
theorem kEnd(l:List Pt)(h1:1<=l.length)(h2:l.length<=1000000){H:Heap}{id:Nat}{own:Bool}{z:Nat}(hid:H[id]?=some (.cells own z (l.flatMap ptC))):KCall prog 105 [slR id l.length] H [] (Is (nI (endX l)) H):=by
 refine valRx (css:=[l.flatMap ptC]) (v:=nI (endX l)) (ids:=[id]) (Eq.mpr (Eendx _ l) ?_) ⟨plainP _ _,trivial⟩ rfl ⟨⟨_,_,hid⟩,trivial⟩ rfl
 delta Rendx ja1 jab ja6 nI nw ixq;unfold endX
 have e:Int.toNat ((l.length:Int)-1)=l.length-1:=by omega
 rw[e]
 exact ⟨vI64 (by omega),⟨by omega,by omega⟩,ptAt0 (by omega) (by omega),rfl⟩
structure CurOk(l:List Pt):Prop where
 len:2<=l.length/\l.length<=8
 x0:(l.getD 0 zP).1=0
 pt:∀i,i<l.length->(0<=(l.getD i zP).1/\(l.getD i zP).1<=400)/\0<=(l.getD i zP).2/\(l.getD i zP).2<=20000
 up:∀i,0<i->i<l.length->(l.getD (i-1) zP).1<(l.getD i zP).1
theorem ptOk_iff{l:List Pt}{i:Nat}:ptOk l i=true ↔ ((0<=(l.getD i zP).1/\(l.getD i zP).1<=400)/\0<=(l.getD i zP).2/\(l.getD i zP).2<=20000)/\(0<i->(l.getD (i-1) zP).1<(l.getD i zP).1):=by
 unfold ptOk
 rw[Bool.and_eq_true,Bool.and_eq_true,inB_iff,inB_iff,Bool.not_eq_true',Bool.and_eq_false_iff,decide_eq_false_iff_not,decide_eq_false_iff_not]
 refine ⟨fun h=>⟨h.1,fun q=>by rcases h.2 with h|h <;> omega⟩,fun h=>⟨h.1,?_⟩⟩
 by_cases q:0<i
 ·exact .inr (by have:=h.2 q;omega)
 ·exact .inl q
theorem curB_iff{l:List Pt}:curB l=true ↔ CurOk l:=by
 unfold curB
 rw[Bool.and_eq_true,Bool.and_eq_true,inB_iff,beq_iff_eq,List.all_eq_true]
 refine ⟨fun h=>⟨by omega,h.1.2,fun i hi=>(ptOk_iff.1 (h.2 i (List.mem_range.2 hi))).1,fun i h0 hi=>(ptOk_iff.1 (h.2 i (List.mem_range.2 hi))).2 h0⟩,fun h=>⟨⟨by have:=h.len;omega,h.x0⟩,fun i hi=>ptOk_iff.2 ⟨h.pt i (List.mem_range.1 hi),fun h0=>h.up i h0 (List.mem_range.1 hi)⟩⟩⟩
theorem range_no{p:Nat->Bool}{n i:Nat}(h:i<n)(hp:p i=false):(List.range n).all p=false:=by
 rw[Bool.eq_false_iff]
 intro q
 rw[List.all_eq_true]at q
 rw[q i (List.mem_range.2 h)]at hp;cases hp
theorem range_succ{p:Nat->Bool}{n:Nat}(h:(List.range n).all p=true)(hp:p n=true):(List.range (n+1)).all p=true:=by
 rw[List.range_succ,List.all_append,h,List.all_cons,hp];rfl
theorem kCurve(l:List Pt)(hl:l.length<=1000000){H:Heap}{id:Nat}{own:Bool}{z:Nat}(hid:H[id]?=some (.cells own z (l.flatMap ptC))):KCall prog 119 [slR id l.length] H [] (Is (.bool (curB l)) H):=by
 refine valRx (css:=[l.flatMap ptC]) (v:=.bool (curB l)) (ids:=[id]) (Eq.mpr (Ecurve _ l) ?_) ⟨plainP _ _,trivial⟩ rfl ⟨⟨_,_,hid⟩,trivial⟩ rfl
 delta Rcurve ja1 ja5 jab ja7 ja4 ja2 nI slQ fk nw eR wR ixq lq c0q
 refine ⟨trivial,fun H' hl _=>kWithin _ _ _ (by omega),fun h =>?_,fun h =>?_⟩
 ·unfold curB;rw[notB h];rfl
 have hb:=inB_iff.1 (notB2 h)
 have e0:curB l=(((l.getD 0 zP).1 == 0)&&(List.range l.length).all (ptOk l)):=by unfold curB;rw[notB2 h,Bool.true_and]
 refine ⟨⟨by omega,by omega⟩,ptAt0 (by omega) (by omega),fun h1 =>?_,fun h1 =>?_⟩
 ·rw[e0,show ((l.getD 0 zP).1 == 0)=false by rw[beq_eq_false_iff_ne];exact neB h1];rfl
 have e1:curB l=(List.range l.length).all (ptOk l):=by rw[e0,eqB0 h1];rfl
 rw[e1]
 refine ⟨rfl,⟨Nat.zero_le _,rfl⟩,?_,fun _=>rfl,fun x hx=>⟨fun k =>?_,fun k =>?_⟩⟩
 ·repeat' first|exact trivial|exact wk_refl _|refine ⟨rfl,?_⟩|refine ⟨trivial,?_⟩|apply And.intro
 ·have hx1:x<l.length:=by have:=of_decide_eq_true k;omega
  have bad:ptOk l x=false->(Value.bool false) = .bool ((List.range l.length).all (ptOk l)):=fun q=>by rw[range_no hx1 q]
  refine ⟨⟨by omega,by omega⟩,ptPart hx1 (by omega),trivial,fun H' hl _=>kWithin _ _ _ (by omega),fun a=>bad ?_,fun a=>⟨trivial,fun H' hl _=>kWithin _ _ _ (by omega),fun b=>bad ?_,fun b =>?_⟩⟩
  ·unfold ptOk;rw[notB a];rfl
  ·unfold ptOk;rw[notB b,notB2 a];rfl
  ·have e2:ptOk l x = !(decide (0<x)&&decide ((l.getD x zP).1<=(l.getD (x-1) zP).1)):=by unfold ptOk;rw[notB2 a,notB2 b];rfl
   refine ⟨fun c =>?_,fun c =>?_⟩
   ·have hc:0<x:=by have:=of_decide_eq_true c;omega
    have e3:Int.toNat ((x:Int)-1)=x-1:=by omega
    rw[e3]
    refine ⟨vI64 (by omega),⟨by omega,by omega⟩,ptAt0 (by omega) (by omega),fun d=>bad ?_,fun d =>?_⟩
    ·rw[e2,d,decide_eq_true hc];rfl
    ·refine ⟨vI64 (by omega),x+1,⟨by omega,range_succ hx.2 (by rw[e2,d,Bool.and_false];rfl)⟩,by omega,rfl,?_⟩
     repeat' first|exact trivial|exact wk_refl _|refine ⟨rfl,?_⟩|refine ⟨trivial,?_⟩|apply And.intro
   ·have hc:¬ 0<x:=by have:=of_decide_eq_false c;omega
    refine ⟨vI64 (by omega),x+1,⟨by omega,range_succ hx.2 (by rw[e2,decide_eq_false hc];rfl)⟩,by omega,rfl,?_⟩
    repeat' first|exact trivial|exact wk_refl _|refine ⟨rfl,?_⟩|refine ⟨trivial,?_⟩|apply And.intro
 ·have h1:x=l.length:=by have:=of_decide_eq_false k;omega
  rw[<- h1,hx.2]
theorem kSteady(l:List Pt)(w:Int)(hw:w=1∨w = -1)(hl:l.length<=1000000){H:Heap}{id:Nat}{own:Bool}{z:Nat}(hid:H[id]?=some (.cells own z (l.flatMap ptC))):KCall prog 104 [slR id l.length,nI w] H [] (Is (.bool (steB l w)) H):=by
 refine valRx (css:=[l.flatMap ptC]) (v:=.bool (steB l w)) (ids:=[id]) (Eq.mpr (Esteady _ l w) ?_) ⟨plainP _ _,trivial⟩ rfl ⟨⟨_,_,hid⟩,trivial⟩ rfl
 delta Rsteady jab ja5 ja9 ja7 ja1 ja4 nI slQ fk nw eR wR ixq lq c1q
 refine ⟨⟨rfl,trivial⟩,fun H' _ h=>kCurve _ hl h.1,fun h =>?_,fun h =>?_⟩
 ·unfold steB;rw[notB h];rfl
 have c:=curB_iff.1 (notB2 h)
 have hn:=c.len
 have e0:steB l w=(List.range l.length).all (stOk l w):=by unfold steB;rw[notB2 h,Bool.true_and]
 rw[e0]
 refine ⟨rfl,⟨⟨by omega,by omega⟩,by rfl⟩,?_,fun _=>rfl,fun x hx=>⟨fun k =>?_,fun k =>?_⟩⟩
 ·repeat' first|exact trivial|exact wk_refl _|refine ⟨rfl,?_⟩|refine ⟨trivial,?_⟩|apply And.intro
 ·have hx1:x<l.length:=by have:=of_decide_eq_true k;omega
  have p1:=(c.pt x hx1).2
  have p2:=(c.pt (x-1) (by omega)).2
  have e3:Int.toNat ((x:Int)-1)=x-1:=by omega
  rw[e3]
  obtain ⟨q,hq⟩:∃q,(l.getD x zP).2-(l.getD (x-1) zP).2=q:=⟨_,rfl⟩
  rw[hq]
  have hqw:(q*w=q∨q*w = -q):=by rcases hw with rfl|rfl <;> omega
  have e2:stOk l w x = !decide (q*w<0):=by unfold stOk;rw[decide_eq_false (by omega),Bool.false_or,hq]
  refine ⟨⟨by omega,by omega⟩,ptAt1 hx1 (by omega),vI64 (by omega),⟨by omega,by omega⟩,ptAt1 (by omega) (by omega),vI64 (by omega),vI64 (by omega),fun b =>?_,fun b =>?_⟩
  ·rw[range_no hx1 (by rw[e2,b];rfl)]
  ·refine ⟨vI64 (by omega),x+1,⟨by omega,range_succ hx.2 (by rw[e2,b];rfl)⟩,by omega,rfl,?_⟩
   repeat' first|exact trivial|exact wk_refl _|refine ⟨rfl,?_⟩|refine ⟨trivial,?_⟩|apply And.intro
 ·have h1:x=l.length:=by have:=of_decide_eq_false k;omega
  rw[<- h1,hx.2]
theorem valL_step{l:List Pt}{i:Nat}(h0:0<i)(hi:i<l.length)(x:Int):valL (l.drop (i-1)) x=if x<=(l.getD i zP).1 then ((l.getD (i-1) zP).2*((l.getD i zP).1-(l.getD (i-1) zP).1)+((l.getD i zP).2-(l.getD (i-1) zP).2)*(x-(l.getD (i-1) zP).1),(l.getD i zP).1-(l.getD (i-1) zP).1) else valL (l.drop i) x:=by
 have e1:l.drop (i-1)=l.getD (i-1) zP :: l.getD i zP :: l.drop (i+1):=by
  rw[List.drop_eq_getElem_cons (by omega:i-1<l.length),show i-1+1=i by omega,List.drop_eq_getElem_cons hi]
  simp[List.getD_eq_getElem?_getD,hi,(by omega:i-1<l.length)]
 have e2:l.drop i=l.getD i zP :: l.drop (i+1):=by
  rw[List.drop_eq_getElem_cons hi]
  simp[List.getD_eq_getElem?_getD,hi]
 rw[e1,e2];rfl
theorem valL_end{l:List Pt}(h:0<l.length)(x:Int):valL (l.drop (l.length-1)) x=((l.getD (l.length-1) zP).2,1):=by
 rw[List.drop_eq_getElem_cons (by omega:l.length-1<l.length),show l.length-1+1=l.length by omega,List.drop_length]
 show (_,_)=_
 simp[List.getD_eq_getElem?_getD,(by omega:l.length-1<l.length)]
theorem seg_bd{a b x c d:Int}(hx:a<=x/\x<=b)(hc:0<=c/\c<=20000)(hd:0<=d/\d<=20000)(hab:a<b)(h4:b-a<=400):(0<=c*(b-a)/\c*(b-a)<=8000000)/\(-8000000<=(d-c)*(x-a)/\(d-c)*(x-a)<=8000000)/\0<=c*(b-a)+(d-c)*(x-a)/\c*(b-a)+(d-c)*(x-a)<=20000*(b-a):=by
 have e:c*(b-a)+(d-c)*(x-a)=c*(b-x)+d*(x-a):=by
  rw[Int.sub_mul,show c*(b-a)=c*(b-x)+c*(x-a) by rw[<- Int.mul_add];congr 1;omega];omega
 have m1:0<=c*(b-a):=Int.mul_nonneg hc.1 (by omega)
 have m2:c*(b-a)<=20000*400:=Int.mul_le_mul hc.2 h4 (by omega) (by omega)
 have m3:0<=c*(b-x):=Int.mul_nonneg hc.1 (by omega)
 have m4:0<=d*(x-a):=Int.mul_nonneg hd.1 (by omega)
 have m5:c*(b-x)<=20000*(b-x):=Int.mul_le_mul_of_nonneg_right hc.2 (by omega)
 have m6:d*(x-a)<=20000*(x-a):=Int.mul_le_mul_of_nonneg_right hd.2 (by omega)
 have m7:20000*(b-x)+20000*(x-a)=20000*(b-a):=by omega
 have m8:20000*(b-a)<=8000000:=by omega
 rw[e]
 have e2:(d-c)*(x-a)=d*(x-a)-c*(x-a):=Int.sub_mul ..
 have m9:0<=c*(x-a):=Int.mul_nonneg hc.1 (by omega)
 have m10:c*(x-a)<=20000*(x-a):=Int.mul_le_mul_of_nonneg_right hc.2 (by omega)
 refine ⟨⟨m1,by omega⟩,⟨by omega,by omega⟩,by omega,by omega⟩
theorem valL_bd{l:List Pt}(c:CurOk l){x:Int}(hx:0<=x):(1<=(valL l x).2/\(valL l x).2<=400)/\0<=(valL l x).1/\(valL l x).1<=20000*(valL l x).2:=by
 have key:∀n i,i+n=l.length->0<i->(l.getD (i-1) zP).1<=x->(1<=(valL (l.drop (i-1)) x).2/\(valL (l.drop (i-1)) x).2<=400)/\0<=(valL (l.drop (i-1)) x).1/\(valL (l.drop (i-1)) x).1<=20000*(valL (l.drop (i-1)) x).2:=by
  intro n
  induction n with
  |zero =>
   intro i e h0 _
   obtain rfl:i=l.length:=by omega
   rw[valL_end h0]
   have:=(c.pt (l.length-1) (by omega)).2
   dsimp only;omega
  |succ n ih =>
   intro i e h0 hlo
   have hi:i<l.length:=by omega
   rw[valL_step h0 hi]
   have p1:=c.pt i hi
   have p2:=c.pt (i-1) (by omega)
   have p3:=c.up i h0 hi
   split
   ·rename_i h
    have:=seg_bd (a:=(l.getD (i-1) zP).1) (b:=(l.getD i zP).1) (x:=x) ⟨hlo,h⟩ p2.2 p1.2 p3 (by omega)
    dsimp only;omega
   ·rename_i h
    exact ih (i+1) (by omega) (by omega) (by show (l.getD i zP).1<=x;omega)
 have:=key (l.length-1) 1 (by have:=c.len;omega) (by omega) (by rw[show 1-1=0 from rfl,c.x0];exact hx)
 rwa [show l.drop (1-1)=l from rfl]at this
theorem kValue{l:List Pt}(c:CurOk l){x:Int}(hx:0<=x/\x<=1000000){H:Heap}{id:Nat}{own:Bool}{z:Nat}(hid:H[id]?=some (.cells own z (l.flatMap ptC))):KCall prog 120 [slR id l.length,nI x] H [] (Is (.tuple #[nI (valL l x).1,nI (valL l x).2]) H):=by
 refine valRx (css:=[l.flatMap ptC]) (v:=.tuple #[nI (valL l x).1,nI (valL l x).2]) (ids:=[id]) (Eq.mpr (Evalue _ l x) ?_) ⟨plainP _ _,trivial⟩ rfl ⟨⟨_,_,hid⟩,trivial⟩ rfl
 have hn:=c.len
 delta Rvalue ja9 ja7 jaa ja1 jab ja0 ja6 nI slQ fk nw eR wR ixq lq
 refine ⟨rfl,⟨⟨⟨by omega,by omega⟩,by rw[show 1-1=0 from rfl,c.x0];exact hx.1⟩,rfl⟩,?_,fun _=>rfl,fun i hi=>⟨fun k =>?_,fun k =>?_⟩⟩
 ·repeat' first|exact trivial|exact wk_refl _|refine ⟨rfl,?_⟩|refine ⟨trivial,?_⟩|apply And.intro
 ·have hx1:i<l.length:=by have:=of_decide_eq_true k;omega
  have p1:=c.pt i hx1
  have p2:=c.pt (i-1) (by omega)
  have p3:=c.up i (by omega) hx1
  have e3:Int.toNat ((i:Int)-1)=i-1:=by omega
  rw[e3]
  have hv:=hi.2
  rw[valL_step (by omega) hx1]at hv
  refine ⟨vI64 (by omega),⟨by omega,by omega⟩,ptPart (by omega) (by omega),⟨by omega,by omega⟩,ptPart hx1 (by omega),fun b =>?_,fun b =>?_⟩
  ·have hb:=of_decide_eq_true b
   rw[if_pos hb]at hv
   have hlo:(l.getD (i-1) zP).1<=x:=hi.1.2
   have sg:=seg_bd (a:=(l.getD (i-1) zP).1) (b:=(l.getD i zP).1) (x:=x) ⟨hlo,hb⟩ p2.2 p1.2 p3 (by omega)
   exact ⟨vI64 (by omega),vI64 (by omega),vI64 (by omega),vI64 (by omega),vI64 (by omega),vI64 (by omega),vI64 (by omega),by rw[hv]⟩
  ·have hb:=of_decide_eq_false b
   rw[if_neg hb]at hv
   refine ⟨vI64 (by omega),i+1,⟨⟨⟨by omega,by omega⟩,by show (l.getD i zP).1<=x;omega⟩,hv⟩,by omega,rfl,?_⟩
   repeat' first|exact trivial|exact wk_refl _|refine ⟨rfl,?_⟩|refine ⟨trivial,?_⟩|apply And.intro
 ·have h1:i=l.length:=by have:=of_decide_eq_false k;omega
  have e3:Int.toNat ((l.length:Int)-1)=l.length-1:=by omega
  rw[e3]
  have hv:=hi.2
  rw[h1,valL_end (by omega)]at hv
  exact ⟨vI64 (by omega),⟨by omega,by omega⟩,ptAt1 (by omega) (by omega),by rw[hv]⟩
abbrev jb0(sp:Value):Prop:=(nI 40:Value)=sp
def Rhcheck(sp:Value)(s:Shp):Prop :=
 (c0q 8 37 [nI s.cls,nI 1,nI 6] (.bool (inB s.cls 1 6)) (fk (!(inB s.cls 1 6)) ((nI 41:Value)=sp) (c0q 9 37 [nI s.pow,nI 100,nI 100000] (.bool (inB s.pow 100 100000)) (fk (inB s.pow 100 100000) (c0q 9 37 [nI s.dra,nI 10,nI 2000] (.bool (inB s.dra 10 2000)) (fk (inB s.dra 10 2000) (c0q 9 37 [nI s.ton,nI 10,nI 500000] (.bool (inB s.ton 10 500000)) (fk (!(inB s.ton 10 500000)) (jb0 sp) (c0q 10 37 [nI s.slow,nI 0,nI 20] (.bool (inB s.slow 0 20)) (fk (inB s.slow 0 20) (c0q 10 37 [nI s.brash,nI 0,nI 100] (.bool (inB s.brash 0 100)) (fk (inB s.brash 0 100) (c0q 10 37 [nI s.rdg,nI 0,nI 500] (.bool (inB s.rdg 0 500)) (fk (inB s.rdg 0 500) (c0q 10 37 [nI s.prs,nI 0,nI 5000] (.bool (inB s.prs 0 5000)) (fk (!(inB s.prs 0 5000)) (jb0 sp) (c1q 11 1 (.cells false 0 (s.th.flatMap ptC)) 104 [slQ 1 2 s.th.length,nI (-1)] (.bool (steB s.th (-1))) (fk (steB s.th (-1)) (c1q 11 1 (.cells false 0 (s.th.flatMap ptC)) 105 [slQ 1 2 s.th.length] (nI (endX s.th)) (c0q 11 37 [nI (endX s.th),nI 10,nI 250] (.bool (inB (endX s.th) 10 250)) (fk (!(inB (endX s.th) 10 250)) (jb0 sp) (c1q 12 2 (.cells false 0 (s.wa.flatMap ptC)) 104 [slQ 2 2 s.wa.length,nI 1] (.bool (steB s.wa 1)) (fk (steB s.wa 1) (c1q 12 2 (.cells false 0 (s.wa.flatMap ptC)) 105 [slQ 2 2 s.wa.length] (nI (endX s.wa)) (fk (!(decide (((endX s.wa):Int)<=250))) (jb0 sp) (c1q 13 3 (.cells false 0 (s.ic.flatMap ptC)) 104 [slQ 3 2 s.ic.length,nI 1] (.bool (steB s.ic 1)) (fk (steB s.ic 1) ((ixq 0 s.ic.length)/\(((s.ic.flatMap ptC)[1]?=some (nI (s.ic.getD 0 zP).2))/\(fk (((s.ic.getD 0 zP).2:Int) == 0) (c1q 13 3 (.cells false 0 (s.ic.flatMap ptC)) 105 [slQ 3 2 s.ic.length] (nI (endX s.ic)) (fk (!(((endX s.ic):Int) == 400)) (jb0 sp) ((nI 0:Value)=sp))) (jb0 sp)))) (jb0 sp))))) (jb0 sp)))))) (jb0 sp))))) (jb0 sp))) (jb0 sp))) (jb0 sp))))) (jb0 sp))) (jb0 sp)))))
theorem Ehcheck(sp:Value)(s:Shp):vF prog msk (dm 0) 100000 true 40 true 36 [.agg #[nI s.cls,nI s.pow,nI s.dra,nI s.ton,slQ 1 2 s.th.length,slQ 2 2 s.wa.length,slQ 3 2 s.ic.length,nI s.slow,nI s.brash,nI s.rdg,nI s.prs]] (readsT 1 [s.th.flatMap ptC,s.wa.flatMap ptC,s.ic.flatMap ptC]) (some [])
 (.go 27 (.ans [] (.bool (inB s.cls 1 6)) [] (.go 1 (.fork (.auto) (.go 15 (.ans [] (.bool (inB s.pow 100 100000)) [] (.go 0 (.gfork (.go 1 (.ans [] (.bool (inB s.dra 10 2000)) [] (.go 1 (.gfork (.go 1 (.ans [] (.bool (inB s.ton 10 500000)) [] (.go 2 (.fork (.auto) (.go 15 (.ans [] (.bool (inB s.slow 0 20)) [] (.go 0 (.gfork (.go 1 (.ans [] (.bool (inB s.brash 0 100)) [] (.go 1 (.gfork (.go 1 (.ans [] (.bool (inB s.rdg 0 500)) [] (.go 1 (.gfork (.go 1 (.ans [] (.bool (inB s.prs 0 5000)) [] (.go 2 (.fork (.auto) (.go 15 (.ans [(1,.cells false 0 (s.th.flatMap ptC))] (.bool (steB s.th (-1))) [] (.go 0 (.gfork (.go 1 (.ans [(1,.cells false 0 (s.th.flatMap ptC))] (nI (endX s.th)) [] (.ans [] (.bool (inB (endX s.th) 10 250)) [] (.go 2 (.fork (.auto) (.go 15 (.ans [(2,.cells false 0 (s.wa.flatMap ptC))] (.bool (steB s.wa 1)) [] (.go 0 (.gfork (.go 1 (.ans [(2,.cells false 0 (s.wa.flatMap ptC))] (nI (endX s.wa)) [] (.go 3 (.fork (.auto) (.go 15 (.ans [(3,.cells false 0 (s.ic.flatMap ptC))] (.bool (steB s.ic 1)) [] (.go 0 (.gfork (.go 1 (.need (.go 0 (.val (nI (s.ic.getD 0 zP).2) (.go 2 (.gfork (.go 1 (.ans [(3,.cells false 0 (s.ic.flatMap ptC))] (nI (endX s.ic)) [] (.go 3 (.fork (.auto) (.auto))))) (.auto))))))) (.auto))))))))) (.auto)))))))))) (.auto))))))))) (.auto))))) (.auto))))) (.auto))))))))) (.auto))))) (.auto)))))))))
 (fun v _ _=>v=sp)=Rhcheck sp s:=by kernel_rfl
theorem steB_cur{l:List Pt}{w:Int}(h:steB l w=true):CurOk l:=by
 unfold steB at h
 rw[Bool.and_eq_true]at h
 exact curB_iff.1 h.1
structure LstOk(s:Shp):Prop where
 th:s.th.length<=1000000
 wa:s.wa.length<=1000000
 ic:s.ic.length<=1000000
theorem kHCheck(s:Shp)(hs:LstOk s){H:Heap}{i j k:Nat}{o1 o2 o3:Bool}{z1 z2 z3:Nat}(h1:H[i]?=some (.cells o1 z1 (s.th.flatMap ptC)))(h2:H[j]?=some (.cells o2 z2 (s.wa.flatMap ptC)))(h3:H[k]?=some (.cells o3 z3 (s.ic.flatMap ptC))) :
  KCall prog 36 [shpV s i j k] H [] (Is (nI (errShp s)) H):=by
 refine valRx (css:=[s.th.flatMap ptC,s.wa.flatMap ptC,s.ic.flatMap ptC]) (v:=nI (errShp s)) (ids:=[i,j,k]) (Eq.mpr (Ehcheck _ s) ?_) ⟨plainP _ _,plainP _ _,plainP _ _,trivial⟩ rfl ⟨⟨_,_,h1⟩,⟨_,_,h2⟩,⟨_,_,h3⟩,trivial⟩ rfl
 delta Rhcheck jb0 nI slQ fk ixq c0q c1q
 repeat' first|exact trivial|exact ⟨rfl,trivial⟩|(exact fun H' hl _=>kWithin _ _ _ (by omega))|(exact fun H' _ h=>kSteady _ _ (.inr rfl) hs.th h.1)|(exact fun H' _ h=>kSteady _ _ (.inl rfl) hs.wa h.1)|(exact fun H' _ h=>kSteady _ _ (.inl rfl) hs.ic h.1)|(exact fun H' _ h=>kEnd s.th (by have:=(steB_cur ‹steB s.th (-1)=true›).len;omega) hs.th h.1)|(exact fun H' _ h=>kEnd s.wa (by have:=(steB_cur ‹steB s.wa 1=true›).len;omega) hs.wa h.1)|(exact fun H' _ h=>kEnd s.ic (by have:=(steB_cur ‹steB s.ic 1=true›).len;omega) hs.ic h.1)|(exact ⟨by omega,by have:=(steB_cur ‹steB s.ic 1=true›).len;omega⟩)|(exact ptAt1 (by have:=(steB_cur ‹steB s.ic 1=true›).len;omega) (by omega))|(exact iEq (by unfold errShp;simp_all))|intro _|apply And.intro
def Rthrust(sp:Value)(s:Shp)(v:Int):Prop :=
 (c1q 5 2 (.cells true 2 (s.th.flatMap ptC)) 120 [slQ 2 2 s.th.length,nI v] (.tuple #[nI (valL s.th v).1,nI (valL s.th v).2]) ((((valL s.th v).2:Int)≠0)/\(nw (Int.tdiv (valL s.th v).1 (valL s.th v).2) ((nI (Int.tdiv (valL s.th v).1 (valL s.th v).2):Value)=sp))))
abbrev jc0(s:Shp):List Value:=[nI s.cls,nI s.pow,nI s.dra,nI s.ton,slQ 2 2 s.th.length,slQ 3 2 s.wa.length,slQ 4 2 s.ic.length,nI s.slow,nI s.brash,nI s.rdg,nI s.prs]
abbrev jc4(s:Shp):=readsK [.cells false 0 [nI 4000,nI 8000,nI 14000,nI 24000,nI 40000,nI 90000],.cells true 0 (jc0 s),.cells true 2 (s.th.flatMap ptC),.cells true 2 (s.wa.flatMap ptC),.cells true 2 (s.ic.flatMap ptC)]
theorem Ethrust(sp:Value)(s:Shp)(v:Int):vF prog msk (dm 0) 100000 true 40 true 110 [pt 1,nI v] (jc4 s) (some [])
 (.go 5 (.ans [(2,.cells true 2 (s.th.flatMap ptC))] (.tuple #[nI (valL s.th v).1,nI (valL s.th v).2]) [] (.go 6 (.need (.slot 18 (nI (Int.tdiv (valL s.th v).1 (valL s.th v).2)) (.auto))))))
 (fun v _ _=>v=sp)=Rthrust sp s v:=by kernel_rfl
abbrev jcb(s:Shp)(x:Ice):=valL s.ic x.thick
def Rresistance(sp:Value)(s:Shp)(x:Ice)(ch:Bool)(v:Int):Prop :=
 (c1q 6 3 (.cells true 2 (s.wa.flatMap ptC)) 120 [slQ 3 2 s.wa.length,nI v] (.tuple #[nI (valL s.wa v).1,nI (valL s.wa v).2]) (c1q 6 4 (.cells true 2 (s.ic.flatMap ptC)) 120 [slQ 4 2 s.ic.length,nI x.thick] (.tuple #[nI (jcb s x).1,nI (jcb s x).2]) (fk ch (nw (s.slow*v) (nw (1000+(s.slow*v)) (nw ((jcb s x).1*(1000+(s.slow*v))) (∃y2:Int,bw ((jcb s x).1*(1000+(s.slow*v))) y2/\(nw (y2*s.brash) (nw (s.rdg*0) (nw ((s.rdg*0)*(jcb s x).2) (∃y3:Int,bw ((s.rdg*0)*(jcb s x).2) y3/\(nw (y3*100000) (nw ((y2*s.brash)+(y3*100000)) (∃y4:Int,bw ((y2*s.brash)+(y3*100000)) y4/\(nw (x.conc*y4) (nw ((jcb s x).2*10000000) (∃y5:Int,bw ((jcb s x).2*10000000) y5/\(nw ((valL s.wa v).1*y5) (nw ((x.conc*y4)*(valL s.wa v).2) (∃y6:Int,bw ((x.conc*y4)*(valL s.wa v).2) y6/\(nw (((valL s.wa v).1*y5)+y6) (∃y7:Int,bw (((valL s.wa v).1*y5)+y6) y7/\(nw (s.prs*x.press) (nw ((s.prs*x.press)*(valL s.wa v).2) (∃y8:Int,bw ((s.prs*x.press)*(valL s.wa v).2) y8/\(nw (y8*y5) (nw (y7+(y8*y5)) (nw ((valL s.wa v).2*y5) (nw ((y7+(y8*y5))+((valL s.wa v).2*y5)) (∃y9:Int,bw ((y7+(y8*y5))+((valL s.wa v).2*y5)) y9/\(nw (y9-1) (nw ((valL s.wa v).2*y5) (((((valL s.wa v).2*y5):Int)≠0)/\(nw (Int.tdiv (y9-1) ((valL s.wa v).2*y5)) (∃y10:Int,bw (Int.tdiv (y9-1) ((valL s.wa v).2*y5)) y10/\(nI y10:Value)=sp)))))))))))))))))))))))))))))))) (nw (s.slow*v) (nw (1000+(s.slow*v)) (nw ((jcb s x).1*(1000+(s.slow*v))) (∃y2:Int,bw ((jcb s x).1*(1000+(s.slow*v))) y2/\(nw (y2*100) (nw (s.rdg*x.ridge) (nw ((s.rdg*x.ridge)*(jcb s x).2) (∃y3:Int,bw ((s.rdg*x.ridge)*(jcb s x).2) y3/\(nw (y3*100000) (nw ((y2*100)+(y3*100000)) (nw (x.conc*((y2*100)+(y3*100000))) (∃y4:Int,bw (x.conc*((y2*100)+(y3*100000))) y4/\(nw ((jcb s x).2*10000000) (∃y5:Int,bw ((jcb s x).2*10000000) y5/\(nw ((valL s.wa v).1*y5) (nw (y4*(valL s.wa v).2) (nw (((valL s.wa v).1*y5)+(y4*(valL s.wa v).2)) (∃y6:Int,bw (((valL s.wa v).1*y5)+(y4*(valL s.wa v).2)) y6/\(nw (s.prs*x.press) (nw ((s.prs*x.press)*(valL s.wa v).2) (∃y7:Int,bw ((s.prs*x.press)*(valL s.wa v).2) y7/\(nw (y7*y5) (nw (y6+(y7*y5)) (nw ((valL s.wa v).2*y5) (nw ((y6+(y7*y5))+((valL s.wa v).2*y5)) (∃y8:Int,bw ((y6+(y7*y5))+((valL s.wa v).2*y5)) y8/\(nw (y8-1) (nw ((valL s.wa v).2*y5) (((((valL s.wa v).2*y5):Int)≠0)/\(nw (Int.tdiv (y8-1) ((valL s.wa v).2*y5)) (∃y9:Int,bw (Int.tdiv (y8-1) ((valL s.wa v).2*y5)) y9/\(nI y9:Value)=sp))))))))))))))))))))))))))))))))))
abbrev jcd(x:Ice)(ch:Bool)(v:Int):List Value:=[.agg #[pt 1,nI x.conc,nI x.thick,nI x.ridge,nI x.press,.bool ch],nI v]
theorem Eresistance(sp:Value)(s:Shp)(x:Ice)(ch:Bool)(v:Int):vF prog msk (dm 0) 100000 true 40 true 111 (jcd x ch v) (jc4 s) (some [])
 (.go 7 (.ans [(3,.cells true 2 (s.wa.flatMap ptC))] (.tuple #[nI (valL s.wa v).1,nI (valL s.wa v).2]) [] (.go 12 (.ans [(4,.cells true 2 (s.ic.flatMap ptC))] (.tuple #[nI (jcb s x).1,nI (jcb s x).2]) [] (.go 11 (.fork (.go 17 (.slot 54 (nI (s.slow*v)) (.go 0 (.slot 55 (nI (1000+(s.slow*v))) (.go 0 (.slot 56 (nI ((jcb s x).1*(1000+(s.slow*v)))) (.bind Int (fun y2 => .slot 56 (nI y2) (.go 1 (.slot 58 (nI (y2*s.brash)) (.go 6 (.slot 65 (nI (s.rdg*0)) (.go 1 (.slot 67 (nI ((s.rdg*0)*(jcb s x).2)) (.bind Int (fun y3 => .slot 67 (nI y3) (.go 0 (.slot 68 (nI (y3*100000)) (.go 0 (.slot 69 (nI ((y2*s.brash)+(y3*100000))) (.bind Int (fun y4 => .slot 69 (nI y4) (.go 0 (.slot 70 (nI (x.conc*y4)) (.go 2 (.slot 72 (nI ((jcb s x).2*10000000)) (.bind Int (fun y5 => .slot 72 (nI y5) (.go 3 (.slot 75 (nI ((valL s.wa v).1*y5)) (.go 2 (.slot 78 (nI ((x.conc*y4)*(valL s.wa v).2)) (.bind Int (fun y6 => .slot 78 (nI y6) (.go 0 (.slot 79 (nI (((valL s.wa v).1*y5)+y6)) (.bind Int (fun y7 => .slot 79 (nI y7) (.go 8 (.slot 88 (nI (s.prs*x.press)) (.go 1 (.slot 90 (nI ((s.prs*x.press)*(valL s.wa v).2)) (.bind Int (fun y8 => .slot 90 (nI y8) (.go 1 (.slot 92 (nI (y8*y5)) (.go 0 (.slot 93 (nI (y7+(y8*y5))) (.go 4 (.slot 97 (nI ((valL s.wa v).2*y5)) (.go 0 (.slot 98 (nI ((y7+(y8*y5))+((valL s.wa v).2*y5))) (.bind Int (fun y9 => .slot 98 (nI y9) (.go 0 (.slot 99 (nI (y9-1)) (.go 2 (.slot 102 (nI ((valL s.wa v).2*y5)) (.need (.slot 103 (nI (Int.tdiv (y9-1) ((valL s.wa v).2*y5))) (.bind Int (fun y10 => .slot 103 (nI y10) (.auto))))))))))))))))))))))))))))))))))))))))))))))))))))))))))))))) (.go 10 (.slot 54 (nI (s.slow*v)) (.go 0 (.slot 55 (nI (1000+(s.slow*v))) (.go 0 (.slot 56 (nI ((jcb s x).1*(1000+(s.slow*v)))) (.bind Int (fun y2 => .slot 56 (nI y2) (.go 1 (.slot 58 (nI (y2*100)) (.go 6 (.slot 65 (nI (s.rdg*x.ridge)) (.go 1 (.slot 67 (nI ((s.rdg*x.ridge)*(jcb s x).2)) (.bind Int (fun y3 => .slot 67 (nI y3) (.go 0 (.slot 68 (nI (y3*100000)) (.go 0 (.slot 69 (nI ((y2*100)+(y3*100000))) (.go 0 (.slot 70 (nI (x.conc*((y2*100)+(y3*100000)))) (.bind Int (fun y4 => .slot 70 (nI y4) (.go 2 (.slot 72 (nI ((jcb s x).2*10000000)) (.bind Int (fun y5 => .slot 72 (nI y5) (.go 3 (.slot 75 (nI ((valL s.wa v).1*y5)) (.go 2 (.slot 78 (nI (y4*(valL s.wa v).2)) (.go 0 (.slot 79 (nI (((valL s.wa v).1*y5)+(y4*(valL s.wa v).2))) (.bind Int (fun y6 => .slot 79 (nI y6) (.go 8 (.slot 88 (nI (s.prs*x.press)) (.go 1 (.slot 90 (nI ((s.prs*x.press)*(valL s.wa v).2)) (.bind Int (fun y7 => .slot 90 (nI y7) (.go 1 (.slot 92 (nI (y7*y5)) (.go 0 (.slot 93 (nI (y6+(y7*y5))) (.go 4 (.slot 97 (nI ((valL s.wa v).2*y5)) (.go 0 (.slot 98 (nI ((y6+(y7*y5))+((valL s.wa v).2*y5))) (.bind Int (fun y8 => .slot 98 (nI y8) (.go 0 (.slot 99 (nI (y8-1)) (.go 2 (.slot 102 (nI ((valL s.wa v).2*y5)) (.need (.slot 103 (nI (Int.tdiv (y8-1) ((valL s.wa v).2*y5))) (.bind Int (fun y9 => .slot 103 (nI y9) (.auto)))))))))))))))))))))))))))))))))))))))))))))))))))))))))))))))))))
 (fun v _ _=>v=sp)=Rresistance sp s x ch v:=by kernel_rfl
abbrev jcc(x:Ice)(v:Int):=Int.tdiv ((x.thick*(100+v))+1) 2
def Rload(sp:Value)(x:Ice)(v:Int)(ch:Bool):Prop :=
 (nw (100+v) (nw (x.thick*(100+v)) (fk ch (nw ((x.thick*(100+v))+1) (nw (jcc x v) (fk ((x.conc:Int) == 0) ((nI 0:Value)=sp) (nw ((jcc x v)+0) (nw (2000*x.press) (nw (((jcc x v)+0)+(2000*x.press)) ((nI (((jcc x v)+0)+(2000*x.press)):Value)=sp))))))) (fk ((x.conc:Int) == 0) ((nI 0:Value)=sp) (nw (300*x.ridge) (nw ((x.thick*(100+v))+(300*x.ridge)) (nw (2000*x.press) (nw (((x.thick*(100+v))+(300*x.ridge))+(2000*x.press)) ((nI (((x.thick*(100+v))+(300*x.ridge))+(2000*x.press)):Value)=sp)))))))))
theorem Eload(sp:Value)(x:Ice)(v:Int)(ch:Bool):vF prog msk (dm 0) 100000 true 40 true 112 [.agg #[nI x.conc,nI x.thick,nI x.ridge,nI x.press],nI v,.bool ch] ⟨1,.leaf⟩ (some [])
 (.go 5 (.slot 12 (nI (100+v)) (.go 0 (.slot 13 (nI (x.thick*(100+v))) (.go 4 (.fork (.go 1 (.slot 18 (nI ((x.thick*(100+v))+1)) (.go 0 (.slot 19 (nI (jcc x v)) (.go 4 (.fork (.auto) (.go 3 (.slot 26 (nI ((jcc x v)+0)) (.go 2 (.slot 29 (nI (2000*x.press)) (.go 0 (.slot 30 (nI (((jcc x v)+0)+(2000*x.press))) (.auto))))))))))))) (.go 2 (.fork (.auto) (.go 2 (.slot 25 (nI (300*x.ridge)) (.go 0 (.slot 26 (nI ((x.thick*(100+v))+(300*x.ridge))) (.go 2 (.slot 29 (nI (2000*x.press)) (.go 0 (.slot 30 (nI (((x.thick*(100+v))+(300*x.ridge))+(2000*x.press))) (.auto)))))))))))))))))
 (fun v _ _=>v=sp)=Rload sp x v ch:=by kernel_rfl
abbrev jc2(s:Shp):Prop:=(someR (.cells false 0 [nI 4000,nI 8000,nI 14000,nI 24000,nI 40000,nI 90000]))/\(someR (.cells true 0 (jc0 s)))/\(someR (.cells true 2 (s.th.flatMap ptC)))/\(someR (.cells true 2 (s.wa.flatMap ptC)))/\(someR (.cells true 2 (s.ic.flatMap ptC)))/\True
abbrev jc1(H':Heap)(s:Shp):Prop:=H'[0]?=some (.cells false 0 [nI 4000,nI 8000,nI 14000,nI 24000,nI 40000,nI 90000]:KObj)/\H'[1]?=some (.cells true 0 (jc0 s):KObj)/\H'[2]?=some (.cells true 2 (s.th.flatMap ptC):KObj)/\H'[3]?=some (.cells true 2 (s.wa.flatMap ptC):KObj)/\H'[4]?=some (.cells true 2 (s.ic.flatMap ptC):KObj)/\True
def Rmakes(sp:Value)(s:Shp)(x:Ice)(ch:Bool)(v:Int):Prop :=
 (c1q 6 2 (.cells true 2 (s.th.flatMap ptC)) 105 [slQ 2 2 s.th.length] (nI (endX s.th)) (fk (decide ((v:Int)<=(endX s.th))) ((jc2 s)/\(∀H':Heap,H'.length=6->(jc1 H' s)->KCall prog 110 [pt 1,nI v] H' [] (Is (nI (thrS s v)) H'))/\((jc2 s)/\(∀H':Heap,H'.length=6->(jc1 H' s)->KCall prog 111 (jcd x ch v) H' [] (Is (nI (resS s x ch v)) H'))/\(.bool (decide (((resS s x ch v):Int)<=(thrS s v))):Value)=sp)) ((.bool false:Value)=sp)))
abbrev jc3(s:Shp):List (Nat×KObj):=[(0,.cells false 0 [nI 4000,nI 8000,nI 14000,nI 24000,nI 40000,nI 90000]),(1,.cells true 0 (jc0 s)),(2,.cells true 2 (s.th.flatMap ptC)),(3,.cells true 2 (s.wa.flatMap ptC)),(4,.cells true 2 (s.ic.flatMap ptC))]
theorem Emakes(sp:Value)(s:Shp)(x:Ice)(ch:Bool)(v:Int):vF prog msk (dm 0) 100000 true 40 true 81 (jcd x ch v) (jc4 s) (some [])
 (.go 7 (.ans [(2,.cells true 2 (s.th.flatMap ptC))] (nI (endX s.th)) [] (.go 1 (.gfork (.go 4 (.ans (jc3 s) (nI (thrS s v)) [] (.ans (jc3 s) (nI (resS s x ch v)) [] (.auto)))) (.auto)))))
 (fun v _ _=>v=sp)=Rmakes sp s x ch v:=by kernel_rfl
abbrev jce:List Int:=[4000,8000,14000,24000,40000,90000]
def Rbears(sp:Value)(s:Shp)(x:Ice)(ch:Bool)(v:Int):Prop :=
 (nw (s.cls-1) ((ixq (s.cls-1) 6)/\((([nI 4000,nI 8000,nI 14000,nI 24000,nI 40000,nI 90000]:List Value)[(0+Int.toNat (s.cls-1)*1)]?=some (nI (jce.getD (s.cls-1).toNat 0)))/\(c0q 6 112 [.agg #[nI x.conc,nI x.thick,nI x.ridge,nI x.press],nI v,.bool ch] (nI (loadS x v ch)) ((.bool (decide (((loadS x v ch):Int)<=(jce.getD (s.cls-1).toNat 0))):Value)=sp)))))
theorem Ebears(sp:Value)(s:Shp)(x:Ice)(ch:Bool)(v:Int):vF prog msk (dm 0) 100000 true 40 true 82 (jcd x ch v) (jc4 s) (some [])
 (.go 12 (.slot 16 (nI (s.cls-1)) (.need (.val (nI (jce.getD (s.cls-1).toNat 0)) (.ans [] (nI (loadS x v ch)) [] (.auto))))))
 (fun v _ _=>v=sp)=Rbears sp s x ch v:=by kernel_rfl
abbrev jc8:Nat×Int×Int:=(250,0,250)
abbrev jca(x:Ice)(ch:Bool):Prop:=eR (.func (.func 81) #[.agg #[pt 1,nI x.conc,nI x.thick,nI x.ridge,nI x.press,.bool ch]] #[])/\eR (nI 0)/\eR (.bool false)/\True
abbrev jcf:Prop:=(True)/\(True)/\(True)
abbrev jcj(x1:Nat×Int×Int)(s:Shp)(x:Ice)(ch:Bool):Prop:=(x1.2.1<=x1.2.2/\x1.2.2-x1.2.1<=x1.1/\0<=x1.2.1/\x1.2.2<=250)/\bsG (mkB s x ch) x1.1 x1.2.1 x1.2.2=bsG (mkB s x ch) 250 0 250
abbrev jc9(x1:Nat×Int×Int):=Int.tdiv ((x1.2.2-x1.2.1)+1) 2
abbrev jcg(x1':Nat×Int×Int)(s:Shp)(x:Ice)(ch:Bool):Prop:=(x1'.2.1<=x1'.2.2/\x1'.2.2-x1'.2.1<=x1'.1/\0<=x1'.2.1/\x1'.2.2<=250)/\bsG (mkB s x ch) x1'.1 x1'.2.1 x1'.2.2=bsG (mkB s x ch) 250 0 250
def Rspeed(sp:Value)(s:Shp)(x:Ice)(ch:Bool):Prop :=
 ((jc2 s)/\(∀H':Heap,H'.length=6->(jc1 H' s)->KCall prog 81 [.agg #[pt 1,nI x.conc,nI x.thick,nI x.ridge,nI x.press,.bool ch],nI 0] H' [] (Is (.bool (mkB s x ch 0)) H'))/\(fk (!(mkB s x ch 0)) ((nI 0:Value)=sp) (true=true/\((jc8.2.1<=jc8.2.2/\jc8.2.2-jc8.2.1<=jc8.1/\0<=jc8.2.1/\jc8.2.2<=250)/\bsG (mkB s x ch) jc8.1 jc8.2.1 jc8.2.2=bsG (mkB s x ch) 250 0 250)/\(true=true/\((nI 0:Value)=nI jc8.2.1/\(nI 250:Value)=nI jc8.2.2/\jca x ch)/\jcf)/\(∀x1:Nat×Int×Int,true=true)/\∀x1:Nat×Int×Int,(jcj x1 s x ch)->(fk (decide ((x1.2.1:Int)<x1.2.2)) (nw (x1.2.2-x1.2.1) (nw ((x1.2.2-x1.2.1)+1) (nw (jc9 x1) (nw (x1.2.1+(jc9 x1)) ((jc2 s)/\(∀H':Heap,H'.length=6->(jc1 H' s)->KCall prog 81 [.agg #[pt 1,nI x.conc,nI x.thick,nI x.ridge,nI x.press,.bool ch],nI (x1.2.1+(jc9 x1))] H' [] (Is (.bool (mkB s x ch (x1.2.1+(jc9 x1)))) H'))/\(fk (mkB s x ch (x1.2.1+(jc9 x1))) (∃x1':Nat×Int×Int,(jcg x1' s x ch)/\x1'.1<x1.1/\true=true/\((nI (x1.2.1+(jc9 x1)):Value)=nI x1'.2.1/\(nI x1.2.2:Value)=nI x1'.2.2/\jca x ch)/\jcf) (nw ((x1.2.1+(jc9 x1))-1) (∃x1':Nat×Int×Int,(jcg x1' s x ch)/\x1'.1<x1.1/\true=true/\((nI x1.2.1:Value)=nI x1'.2.1/\(nI ((x1.2.1+(jc9 x1))-1):Value)=nI x1'.2.2/\jca x ch)/\jcf)))))))) ((nI x1.2.1:Value)=sp)))))
theorem Espeed(sp:Value)(s:Shp)(x:Ice)(ch:Bool):vF prog msk (dm 0) 100000 true 40 true 78 [.agg #[pt 1,nI x.conc,nI x.thick,nI x.ridge,nI x.press,.bool ch]] (jc4 s) (some [])
 (.go 8 (.ans (jc3 s) (.bool (mkB s x ch 0)) [] (.go 0 (.fork (.auto) (.inv 3 (Nat×Int×Int) (jc8) [] [] (fun x1=>[(0,nI x1.2.1),(1,nI x1.2.2),(2,.func (.func 81) #[.agg #[pt 1,nI x.conc,nI x.thick,nI x.ridge,nI x.press,.bool ch]] #[]),(6,nI 0),(7,.bool false)]) (fun x1=>[]) (fun x1=>[]) (fun x1=>[]) (fun x1=>(jcj x1 s x ch)) (fun x1=>x1.1) (fun x1 => .go 2 (.fork (.go 3 (.slot 19 (nI (x1.2.2-x1.2.1)) (.go 0 (.slot 20 (nI ((x1.2.2-x1.2.1)+1)) (.go 0 (.slot 21 (nI (jc9 x1)) (.go 0 (.slot 22 (nI (x1.2.1+(jc9 x1))) (.go 2 (.ans (jc3 s) (.bool (mkB s x ch (x1.2.1+(jc9 x1)))) [] (.fork (.go 1 (.again [])) (.go 1 (.slot 28 (nI ((x1.2.1+(jc9 x1))-1)) (.go 0 (.again []))))))))))))))) (.auto))))))))
 (fun v _ _=>v=sp)=Rspeed sp s x ch:=by kernel_rfl
abbrev jc7:Nat×Int×Int:=(240,10,250)
abbrev jch:Prop:=eR (.func (.func 80) #[] #[pt 5])/\eR (nI 0)/\eR (.bool false)/\True
abbrev jci(x2:Nat×Int×Int)(s:Shp)(x:Ice)(ch:Bool):Prop:=(x2.2.1<=x2.2.2/\x2.2.2-x2.2.1<=x2.1/\10<=x2.2.1/\x2.2.2<=250)/\bsG (mbB s x ch) x2.1 x2.2.1 x2.2.2=bsG (mbB s x ch) 240 10 250
abbrev jc5(x2:Nat×Int×Int):=Int.tdiv ((x2.2.2-x2.2.1)+1) 2
abbrev jc6(x2:Nat×Int×Int)(s:Shp)(x:Ice)(ch:Bool):=nw ((x2.2.1+(jc5 x2))-1) (∃x2':Nat×Int×Int,((x2'.2.1<=x2'.2.2/\x2'.2.2-x2'.2.1<=x2'.1/\10<=x2'.2.1/\x2'.2.2<=250)/\bsG (mbB s x ch) x2'.1 x2'.2.1 x2'.2.2=bsG (mbB s x ch) 240 10 250)/\x2'.1<x2.1/\true=true/\((nI x2.2.1:Value)=nI x2'.2.1/\(nI ((x2.2.1+(jc5 x2))-1):Value)=nI x2'.2.2/\jch)/\jcf)
def Rgoes(sp:Value)(s:Shp)(x:Ice)(ch:Bool):Prop :=
 ((jc2 s)/\(∀H':Heap,H'.length=6->(jc1 H' s)->KCall prog 81 [.agg #[pt 1,nI x.conc,nI x.thick,nI x.ridge,nI x.press,.bool ch],nI 10] H' [] (Is (.bool (mkB s x ch 10)) H'))/\(fk (mkB s x ch 10) ((jc2 s)/\(∀H':Heap,H'.length=6->(jc1 H' s)->KCall prog 82 [.agg #[pt 1,nI x.conc,nI x.thick,nI x.ridge,nI x.press,.bool ch],nI 10] H' [] (Is (.bool (brB s x ch 10)) H'))/\(fk (!(brB s x ch 10)) ((.tuple #[nI 0,.bool false]:Value)=sp) (true=true/\((jc7.2.1<=jc7.2.2/\jc7.2.2-jc7.2.1<=jc7.1/\10<=jc7.2.1/\jc7.2.2<=250)/\bsG (mbB s x ch) jc7.1 jc7.2.1 jc7.2.2=bsG (mbB s x ch) 240 10 250)/\(true=true/\((nI 10:Value)=nI jc7.2.1/\(nI 250:Value)=nI jc7.2.2/\jch)/\jcf)/\(∀x2:Nat×Int×Int,true=true)/\∀x2:Nat×Int×Int,(jci x2 s x ch)->(fk (decide ((x2.2.1:Int)<x2.2.2)) (nw (x2.2.2-x2.2.1) (nw ((x2.2.2-x2.2.1)+1) (nw (jc5 x2) (nw (x2.2.1+(jc5 x2)) ((jc2 s)/\(∀H':Heap,H'.length=6->(jc1 H' s)->KCall prog 81 [.agg #[pt 1,nI x.conc,nI x.thick,nI x.ridge,nI x.press,.bool ch],nI (x2.2.1+(jc5 x2))] H' [] (Is (.bool (mkB s x ch (x2.2.1+(jc5 x2)))) H'))/\(fk (mkB s x ch (x2.2.1+(jc5 x2))) ((jc2 s)/\(∀H':Heap,H'.length=6->(jc1 H' s)->KCall prog 82 [.agg #[pt 1,nI x.conc,nI x.thick,nI x.ridge,nI x.press,.bool ch],nI (x2.2.1+(jc5 x2))] H' [] (Is (.bool (brB s x ch (x2.2.1+(jc5 x2)))) H'))/\(fk (brB s x ch (x2.2.1+(jc5 x2))) (∃x2':Nat×Int×Int,((x2'.2.1<=x2'.2.2/\x2'.2.2-x2'.2.1<=x2'.1/\10<=x2'.2.1/\x2'.2.2<=250)/\bsG (mbB s x ch) x2'.1 x2'.2.1 x2'.2.2=bsG (mbB s x ch) 240 10 250)/\x2'.1<x2.1/\true=true/\((nI (x2.2.1+(jc5 x2)):Value)=nI x2'.2.1/\(nI x2.2.2:Value)=nI x2'.2.2/\jch)/\jcf) (jc6 x2 s x ch))) (jc6 x2 s x ch))))))) ((.tuple #[nI x2.2.1,.bool true]:Value)=sp))))) ((.tuple #[nI 0,.bool false]:Value)=sp)))
theorem Egoes(sp:Value)(s:Shp)(x:Ice)(ch:Bool):vF prog msk (dm 0) 100000 true 40 true 42 [.agg #[pt 1,nI x.conc,nI x.thick,nI x.ridge,nI x.press,.bool ch]] (jc4 s) (some [])
 (.go 12 (.ans (jc3 s) (.bool (mkB s x ch 10)) [] (.go 0 (.gfork (.go 1 (.ans (jc3 s) (.bool (brB s x ch 10)) [] (.go 2 (.fork (.auto) (.inv 3 (Nat×Int×Int) (jc7) [] [] (fun x2=>[(0,nI x2.2.1),(1,nI x2.2.2),(2,.func (.func 80) #[] #[pt 5]),(6,nI 0),(7,.bool false)]) (fun x2=>[]) (fun x2=>[]) (fun x2=>[]) (fun x2=>(jci x2 s x ch)) (fun x2=>x2.1) (fun x2 => .go 2 (.fork (.go 3 (.slot 19 (nI (x2.2.2-x2.2.1)) (.go 0 (.slot 20 (nI ((x2.2.2-x2.2.1)+1)) (.go 0 (.slot 21 (nI (jc5 x2)) (.go 0 (.slot 22 (nI (x2.2.1+(jc5 x2))) (.go 6 (.ans (jc3 s) (.bool (mkB s x ch (x2.2.1+(jc5 x2)))) [] (.go 0 (.gfork (.go 1 (.ans (jc3 s) (.bool (brB s x ch (x2.2.1+(jc5 x2)))) [] (.go 1 (.fork (.go 1 (.again [])) (.go 1 (.slot 28 (nI ((x2.2.1+(jc5 x2))-1)) (.go 0 (.again [])))))))) (.go 4 (.slot 28 (nI ((x2.2.1+(jc5 x2))-1)) (.go 0 (.again [])))))))))))))))) (.auto)))))))) (.auto)))))
 (fun v _ _=>v=sp)=Rgoes sp s x ch:=by kernel_rfl
theorem mulb{a b A B:Int}(h1:0<=a)(h2:a<=A)(h3:0<=b)(h4:b<=B):0<=a*b/\a*b<=A*B :=
 ⟨Int.mul_nonneg h1 h3,Int.mul_le_mul h2 h4 h3 (Int.le_trans h1 h2)⟩
structure ShpOk(s:Shp):Prop where
 cls:1<=s.cls/\s.cls<=6
 slow:0<=s.slow/\s.slow<=20
 brash:0<=s.brash/\s.brash<=100
 rdg:0<=s.rdg/\s.rdg<=500
 prs:0<=s.prs/\s.prs<=5000
 th:steB s.th (-1)=true
 the:10<=endX s.th/\endX s.th<=250
 wa:steB s.wa 1=true
 wae:endX s.wa<=250
 ic:steB s.ic 1=true
 ic0:(s.ic.getD 0 zP).2=0
 ice:endX s.ic=400
theorem shpOk{s:Shp}(e:errShp s=0):ShpOk s:=by
 unfold errShp at e
 split at e
 ·cases e
 rename_i h1
 split at e
 ·cases e
 split at e
 ·cases e
 rename_i h3
 split at e
 ·cases e
 rename_i h4
 split at e
 ·cases e
 rename_i h5
 split at e
 ·cases e
 rename_i h6
 simp only[Bool.not_eq_false,Bool.and_eq_true,inB_iff,decide_eq_true_eq,beq_iff_eq]at h1 h3 h4 h5 h6
 exact ⟨h1,h3.1.1.1,h3.1.1.2,h3.1.2,h3.2,h4.1,h4.2,h5.1,h5.2,h6.1.1,h6.1.2,h6.2⟩
def IceOk(x:Ice):Prop:=(0<=x.conc/\x.conc<=100)/\(0<=x.thick/\x.thick<=400)/\(0<=x.ridge/\x.ridge<=100)/\0<=x.press/\x.press<=3
def ShAt(H:Heap)(s:Shp)(b i j k:Nat):Prop :=
 [0,b,i,j,k].Nodup/\H[0]?=some strO/\H[b]?=some (.cells true 0 (shpC s i j k))/\H[i]?=some (.cells true 2 (s.th.flatMap ptC))/\H[j]?=some (.cells true 2 (s.wa.flatMap ptC))/\H[k]?=some (.cells true 2 (s.ic.flatMap ptC))
theorem ptRno(o:Bool)(z:Nat)(l:List Pt)(σ:Nat->Option Nat):rno σ 3 (.cells o z (l.flatMap ptC)) = .cells o z (l.flatMap ptC):=congrArg (KObj.cells o z) (rnCl (d:=0) (plainP 0 l)).1
theorem ptRok(o:Bool)(z:Nat)(l:List Pt):rnoOk 3 (.cells o z (l.flatMap ptC))=true:=(rnCl (σ:=fun _=>none) (d:=0) (plainP 0 l)).2
abbrev shOs(s:Shp):List KObj:=[strO,.cells true 0 (shpC s 2 3 4),.cells true 2 (s.th.flatMap ptC),.cells true 2 (s.wa.flatMap ptC),.cells true 2 (s.ic.flatMap ptC)]
theorem shOs_ok(s:Shp):(shOs s).all (rnoOk 3)=true:=by
 show (rnoOk 3 strO&&(rnoOk 3 (.cells true 0 (shpC s 2 3 4))&&(rnoOk 3 (.cells true 2 (s.th.flatMap ptC))&&(rnoOk 3 (.cells true 2 (s.wa.flatMap ptC))&&(rnoOk 3 (.cells true 2 (s.ic.flatMap ptC))&&true)))))=true
 rw[ptRok,ptRok,ptRok];rfl
theorem ShAt.objs{H:Heap}{s:Shp}{b i j k:Nat}(a:ShAt H s b i j k):objsAt H (sgI [0,b,i,j,k]) [0,b,i,j,k] (shOs s) :=
 ⟨a.2.1,a.2.2.1,by rw[ptRno];exact a.2.2.2.1,by rw[ptRno];exact a.2.2.2.2.1,by rw[ptRno];exact a.2.2.2.2.2,trivial⟩
theorem tdiv_bd{a b n:Int}(h0:0<=a)(hb:1<=b)(h:a<=n*b):0<=Int.tdiv a b/\Int.tdiv a b<=n:=by
 rw[Int.tdiv_eq_ediv_of_nonneg h0]
 exact ⟨Int.ediv_nonneg h0 (by omega),Int.ediv_le_of_le_mul (by omega) h⟩
theorem thr_bd{s:Shp}(o:ShpOk s){v:Int}(hv:0<=v):0<=thrS s v/\thrS s v<=20000:=by
 have:=valL_bd (steB_cur o.th) hv
 exact tdiv_bd this.2.1 this.1.1 this.2.2
theorem kThrust{s:Shp}(o:ShpOk s){v:Int}(hv:0<=v/\v<=1000){H:Heap}{b i j k:Nat}(a:ShAt H s b i j k):KCall prog 110 [pt b,nI v] H [] (Is (nI (thrS s v)) H):=by
 have hb:=valL_bd (steB_cur o.th) hv.1
 have ht:=thr_bd o hv.1
 refine valV (Eq.mpr (Ethrust _ s v) ?_) (shOs_ok s) rfl rfl (fun _=>rfl) a.1 a.objs rfl rfl
 delta Rthrust nI slQ nw c1q
 exact ⟨⟨rfl,trivial⟩,fun H' _ h=>kValue (steB_cur o.th) (by omega) h.1,by omega,vI64 (by unfold thrS at ht;omega),rfl⟩
theorem kRes{s:Shp}(o:ShpOk s){x:Ice}(hx:IceOk x){ch:Bool}{v:Int}(hv:0<=v/\v<=250){H:Heap}{b i j k:Nat}(a:ShAt H s b i j k) :
  KCall prog 111 [.agg #[pt b,nI x.conc,nI x.thick,nI x.ridge,nI x.press,.bool ch],nI v] H [] (Is (nI (resS s x ch v)) H):=by
 have hA:=valL_bd (steB_cur o.ic) hx.2.1.1
 have hW:=valL_bd (steB_cur o.wa) hv.1
 refine valV (Eq.mpr (Eresistance _ s x ch v) ?_) (shOs_ok s) rfl rfl (fun _=>rfl) a.1 a.objs rfl rfl
 delta Rresistance jcb nI slQ fk nw bw c1q
 refine ⟨⟨rfl,trivial⟩,fun H' _ h=>kValue (steB_cur o.wa) (by omega) h.1,⟨rfl,trivial⟩,fun H' _ h=>kValue (steB_cur o.ic) (by have:=hx.2.1;omega) h.1,?_⟩
 simp only[resS,resW]
 generalize (valL s.ic x.thick).1=A at hA ⊢
 generalize (valL s.ic x.thick).2=B at hA ⊢
 generalize (valL s.wa v).1=W at hW ⊢
 generalize (valL s.wa v).2=D at hW ⊢
 have m1:=mulb o.slow.1 o.slow.2 hv.1 hv.2
 have m2:=mulb (a:=A) (b:=1000+s.slow*v) (A:=8000000) (B:=6000) hA.2.1 (by omega) (by omega) (by omega)
 have m3:=mulb (a:=W) (b:=B*10000000) (A:=8000000) (B:=4000000000) hW.2.1 (by omega) (by omega) (by omega)
 have m4:=mulb (a:=D) (b:=B*10000000) (A:=400) (B:=4000000000) (by omega) (by omega) (by omega) (by omega)
 have m5:=mulb o.prs.1 o.prs.2 hx.2.2.2.1 hx.2.2.2.2
 have m6:=mulb (a:=s.prs*x.press) (b:=D) (A:=15000) (B:=400) m5.1 (by omega) (by omega) (by omega)
 have m7:=mulb (a:=s.prs*x.press*D) (b:=B*10000000) (A:=6000000) (B:=4000000000) m6.1 (by omega) (by omega) (by omega)
 have m8:1<=D*(B*10000000):=by
  have:1*1<=D*(B*10000000):=Int.mul_le_mul (by omega) (by omega) (by omega) (by omega)
  omega
 have fin:∀N:Int,0<=N->N<=680000000000000->(0<=N*D/\N*D<=680000000000000*400)/\0<=Int.tdiv (W*(B*10000000)+N*D+s.prs*x.press*D*(B*10000000)+D*(B*10000000)-1) (D*(B*10000000))/\Int.tdiv (W*(B*10000000)+N*D+s.prs*x.press*D*(B*10000000)+D*(B*10000000)-1) (D*(B*10000000))<=1000000000000000000:=fun N h0 h1=>by
  have q:=mulb (a:=N) (b:=D) (A:=680000000000000) (B:=400) h0 h1 (by omega) (by omega)
  refine ⟨q,?_⟩
  rw[Int.tdiv_eq_ediv_of_nonneg (by omega)]
  refine ⟨Int.ediv_nonneg (by omega) (by omega),Int.le_trans (Int.ediv_le_self _ (by omega)) (by omega)⟩
 refine ⟨fun hc =>?_,fun hc =>?_⟩
 ·subst hc
  have n1:=mulb (a:=A*(1000+s.slow*v)) (b:=s.brash) (A:=48000000000) (B:=100) m2.1 (by omega) o.brash.1 o.brash.2
  have n2:=mulb (a:=x.conc) (b:=A*(1000+s.slow*v)*s.brash+s.rdg*0*B*100000) (A:=100) (B:=6800000000000) hx.1.1 hx.1.2 (by rw[Int.mul_zero,Int.zero_mul,Int.zero_mul];omega) (by rw[Int.mul_zero,Int.zero_mul,Int.zero_mul];omega)
  have e0:s.rdg*0=0:=Int.mul_zero _
  have e1:s.rdg*0*B=0:=by rw[e0,Int.zero_mul]
  obtain ⟨f1,f2⟩:=fin _ n2.1 (by omega)
  refine ⟨vI64 (by omega),vI64 (by omega),vI64 (by omega),⟨_,rfl,vI64 (by omega),vI64 (by omega),vI64 (by omega),⟨_,rfl,vI64 (by omega),vI64 (by omega),⟨_,rfl,vI64 (by omega),vI64 (by omega),⟨_,rfl,vI64 (by omega),vI64 (by omega),⟨_,rfl,vI64 (by omega),⟨_,rfl,vI64 (by omega),vI64 (by omega),⟨_,rfl,vI64 (by omega),vI64 (by omega),vI64 (by omega),vI64 (by omega),⟨_,rfl,vI64 (by omega),vI64 (by omega),by omega,vI64 (by omega),⟨_,rfl,rfl⟩⟩⟩⟩⟩⟩⟩⟩⟩⟩
 ·subst hc
  have r1:=mulb o.rdg.1 o.rdg.2 hx.2.2.1.1 hx.2.2.1.2
  have r2:=mulb (a:=s.rdg*x.ridge) (b:=B) (A:=50000) (B:=400) r1.1 (by omega) (by omega) (by omega)
  have n2:=mulb (a:=x.conc) (b:=A*(1000+s.slow*v)*100+s.rdg*x.ridge*B*100000) (A:=100) (B:=6800000000000) hx.1.1 hx.1.2 (by omega) (by omega)
  obtain ⟨f1,f2⟩:=fin _ n2.1 (by omega)
  refine ⟨vI64 (by omega),vI64 (by omega),vI64 (by omega),⟨_,rfl,vI64 (by omega),vI64 (by omega),vI64 (by omega),⟨_,rfl,vI64 (by omega),vI64 (by omega),vI64 (by omega),⟨_,rfl,vI64 (by omega),⟨_,rfl,vI64 (by omega),vI64 (by omega),vI64 (by omega),⟨_,rfl,vI64 (by omega),vI64 (by omega),⟨_,rfl,vI64 (by omega),vI64 (by omega),vI64 (by omega),vI64 (by omega),⟨_,rfl,vI64 (by omega),vI64 (by omega),by omega,vI64 (by omega),⟨_,rfl,rfl⟩⟩⟩⟩⟩⟩⟩⟩⟩
theorem kLoad{x:Ice}(hx:IceOk x){v:Int}(hv:0<=v/\v<=250){ch:Bool}{H:Heap}(hH:1<=H.length):KCall prog 112 [iceV x,nI v,.bool ch] H [] (Is (nI (loadS x v ch)) H):=by
 refine valK 40 (fun _=>rfl) rfl (Eq.mpr (Eload _ x v ch) ?_) hH
 delta Rload jcc nI fk nw
 have m:=mulb (a:=x.thick) (b:=100+v) (A:=400) (B:=350) hx.2.1.1 hx.2.1.2 (by omega) (by omega)
 have t:0<=Int.tdiv (x.thick*(100+v)+1) 2/\Int.tdiv (x.thick*(100+v)+1) 2<=140001:=tdiv_bd (by omega) (by omega) (by omega)
 obtain ⟨h1,h2,h3,h4⟩:=hx
 refine ⟨vI64 (by omega),vI64 (by omega),fun hc =>?_,fun hc =>?_⟩ <;> subst hc
 ·refine ⟨vI64 (by omega),vI64 (by omega),fun e =>?_,fun e =>?_⟩
  ·have e:=of_decide_eq_true e;unfold loadS;rw[if_pos (by simpa using e)]
  ·refine ⟨vI64 (by omega),vI64 (by omega),vI64 (by omega),iEq ?_⟩
   unfold loadS
   rw[if_neg (by simpa using e),if_pos rfl,if_pos rfl];omega
 ·refine ⟨fun e =>?_,fun e =>?_⟩
  ·unfold loadS;rw[if_pos (by simpa using e)]
  ·refine ⟨vI64 (by omega),vI64 (by omega),vI64 (by omega),vI64 (by omega),iEq ?_⟩
   unfold loadS
   rw[if_neg (by simpa using e),if_neg (by simp),if_neg (by simp)]
theorem kMakes{s:Shp}(o:ShpOk s){x:Ice}(hx:IceOk x){ch:Bool}{v:Int}(hv:0<=v/\v<=250){H:Heap}{b i j k:Nat}(a:ShAt H s b i j k) :
  KCall prog 81 [.agg #[pt b,nI x.conc,nI x.thick,nI x.ridge,nI x.press,.bool ch],nI v] H [] (Is (.bool (mkB s x ch v)) H):=by
 have hn:=(steB_cur o.th).len
 refine valV (Eq.mpr (Emakes _ s x ch v) ?_) (shOs_ok s) rfl rfl (fun _=>rfl) a.1 a.objs rfl rfl
 delta Rmakes jc2 jc1 jcd jc0 nI slQ pt someR fk c1q
 refine ⟨⟨rfl,trivial⟩,fun H' _ h=>kEnd _ (by omega) (by omega) h.1,fun e=>⟨⟨rfl,rfl,rfl,rfl,rfl,trivial⟩,fun H' _ h=>kThrust o (by omega) ⟨by decide,h.1,h.2.1,h.2.2.1,h.2.2.2.1,h.2.2.2.2.1⟩,⟨rfl,rfl,rfl,rfl,rfl,trivial⟩,fun H' _ h=>kRes o hx hv ⟨by decide,h.1,h.2.1,h.2.2.1,h.2.2.2.1,h.2.2.2.2.1⟩,?_⟩,fun e =>?_⟩
 ·unfold mkB;rw[e,Bool.true_and]
 ·unfold mkB;rw[e];rfl
theorem kBears{s:Shp}(o:ShpOk s){x:Ice}(hx:IceOk x){ch:Bool}{v:Int}(hv:0<=v/\v<=250){H:Heap}{b i j k:Nat}(a:ShAt H s b i j k) :
  KCall prog 82 [.agg #[pt b,nI x.conc,nI x.thick,nI x.ridge,nI x.press,.bool ch],nI v] H [] (Is (.bool (brB s x ch v)) H):=by
 have hc:=o.cls
 refine valV (Eq.mpr (Ebears _ s x ch v) ?_) (shOs_ok s) rfl rfl (fun _=>rfl) a.1 a.objs rfl rfl
 delta Rbears jce nI nw ixq c0q
 refine ⟨vI64 (by omega),⟨by omega,by omega⟩,?_,trivial,fun H' hl _=>kLoad hx hv (by omega),rfl⟩
 have:Int.toNat (s.cls-1)<6:=by omega
 generalize Int.toNat (s.cls-1)=q at this ⊢
 match q,this with
 |0,_=>rfl
 |1,_=>rfl
 |2,_=>rfl
 |3,_=>rfl
 |4,_=>rfl
 |5,_=>rfl
theorem bsG_stop{f:Int->Bool}{n:Nat}{lo hi:Int}(h:¬ lo<hi):bsG f n lo hi=lo:=by
 cases n with
 |zero=>rfl
 |succ n=>show (if lo<hi then _ else _)=_;rw[if_neg h]
theorem bsG_go{f:Int->Bool}{n:Nat}{lo hi:Int}(h:lo<hi)(hn:0<n):bsG f n lo hi=if f (lo+Int.tdiv (hi-lo+1) 2)=true then bsG f (n-1) (lo+Int.tdiv (hi-lo+1) 2) hi else bsG f (n-1) lo (lo+Int.tdiv (hi-lo+1) 2-1):=by
 cases n with
 |zero=>omega
 |succ n=>show (if lo<hi then _ else _)=_;rw[if_pos h];rfl
theorem kSpeed{s:Shp}(o:ShpOk s){x:Ice}(hx:IceOk x){ch:Bool}{H:Heap}{b i j k:Nat}(a:ShAt H s b i j k) :
  KCall prog 78 [.agg #[pt b,nI x.conc,nI x.thick,nI x.ridge,nI x.press,.bool ch]] H [] (Is (nI (spdS s x ch)) H):=by
 refine valV (Eq.mpr (Espeed _ s x ch) ?_) (shOs_ok s) rfl rfl (fun _=>rfl) a.1 a.objs rfl rfl
 delta Rspeed jc2 jc1 jc8 jca jcf jcj jc9 jcg jc0 nI slQ pt someR fk nw eR
 refine ⟨⟨rfl,rfl,rfl,rfl,rfl,trivial⟩,fun H' _ h=>kMakes o hx (by omega) ⟨by decide,h.1,h.2.1,h.2.2.1,h.2.2.2.1,h.2.2.2.2.1⟩,fun e =>?_,fun e =>?_⟩
 ·unfold spdS grG;rw[notB e];rfl
 ·have es:spdS s x ch=bsG (mkB s x ch) 250 0 250:=by unfold spdS grG;rw[notB2 e];rfl
  refine ⟨rfl,⟨⟨by decide,by decide,by decide,by decide⟩,rfl⟩,?_,fun _=>rfl,fun q ⟨⟨q1,q2,q3,q4⟩,q5⟩=>⟨fun c =>?_,fun c =>?_⟩⟩
  ·repeat' first|exact trivial|refine ⟨rfl,?_⟩|refine ⟨trivial,?_⟩|apply And.intro
  ·have hc:=of_decide_eq_true c
   have t:Int.tdiv (q.2.2-q.2.1+1) 2=(q.2.2-q.2.1+1) / 2:=Int.tdiv_eq_ediv_of_nonneg (by omega)
   have hg:=bsG_go (f:=mkB s x ch) (n:=q.1) hc (by omega)
   rw[q5]at hg
   generalize Int.tdiv (q.2.2-q.2.1+1) 2=m at t hg ⊢
   refine ⟨vI64 (by omega),vI64 (by omega),vI64 (by omega),vI64 (by omega),⟨rfl,rfl,rfl,rfl,rfl,trivial⟩,fun H' _ h=>kMakes o hx (by omega) ⟨by decide,h.1,h.2.1,h.2.2.1,h.2.2.2.1,h.2.2.2.2.1⟩,fun d =>?_,fun d =>?_⟩
   ·rw[if_pos d]at hg
    refine ⟨(q.1-1,q.2.1+m,q.2.2),⟨⟨by show q.2.1+m<=q.2.2;omega,by show q.2.2-(q.2.1+m)<=((q.1-1:Nat):Int);omega,by show 0<=q.2.1+m;omega,q4⟩,hg.symm⟩,by show q.1-1<q.1;omega,?_⟩
    repeat' first|exact trivial|refine ⟨rfl,?_⟩|refine ⟨trivial,?_⟩|apply And.intro
   ·rw[if_neg (by rw[d];simp)]at hg
    refine ⟨vI64 (by omega),(q.1-1,q.2.1,q.2.1+m-1),⟨⟨by show q.2.1<=q.2.1+m-1;omega,by show q.2.1+m-1-q.2.1<=((q.1-1:Nat):Int);omega,q3,by show q.2.1+m-1<=250;omega⟩,hg.symm⟩,by show q.1-1<q.1;omega,?_⟩
    repeat' first|exact trivial|refine ⟨rfl,?_⟩|refine ⟨trivial,?_⟩|apply And.intro
  ·have hc:=of_decide_eq_false c
   rw[es,<- q5,bsG_stop hc]
theorem kGoes{s:Shp}(o:ShpOk s){x:Ice}(hx:IceOk x){ch:Bool}{H:Heap}{b i j k:Nat}(a:ShAt H s b i j k) :
  KCall prog 42 [.agg #[pt b,nI x.conc,nI x.thick,nI x.ridge,nI x.press,.bool ch]] H [] (Is (.tuple #[nI (goS s x ch).1,.bool (goS s x ch).2]) H):=by
 refine valV (Eq.mpr (Egoes _ s x ch) ?_) (shOs_ok s) rfl rfl (fun _=>rfl) a.1 a.objs rfl rfl
 delta Rgoes jc2 jc1 jc7 jch jcf jci jc5 jc6 jc0 nI slQ pt someR fk nw eR
 have hat:∀{H':Heap} {Q:Prop},(H'[0]?=some strO/\H'[1]?=some (.cells true 0 (shpC s 2 3 4))/\H'[2]?=some (.cells true 2 (s.th.flatMap ptC))/\H'[3]?=some (.cells true 2 (s.wa.flatMap ptC))/\H'[4]?=some (.cells true 2 (s.ic.flatMap ptC))/\Q)->ShAt H' s 1 2 3 4:=fun h=>⟨by decide,h.1,h.2.1,h.2.2.1,h.2.2.2.1,h.2.2.2.2.1⟩
 refine ⟨⟨rfl,rfl,rfl,rfl,rfl,trivial⟩,fun H' _ h=>kMakes o hx (by omega) (hat h),fun e=>⟨⟨rfl,rfl,rfl,rfl,rfl,trivial⟩,fun H' _ h=>kBears o hx (by omega) (hat h),fun e2 =>?_,fun e2 =>?_⟩,fun e =>?_⟩
 ·unfold goS grG mbB;rw[notB e2,Bool.and_false];rfl
 ·have es:goS s x ch=(bsG (mbB s x ch) 240 10 250,true):=by
   unfold goS grG
   rw[if_pos (by unfold mbB;rw[e,notB2 e2];rfl)];rfl
  refine ⟨rfl,⟨⟨by decide,by decide,by decide,by decide⟩,rfl⟩,?_,fun _=>rfl,fun q ⟨⟨q1,q2,q3,q4⟩,q5⟩=>⟨fun c =>?_,fun c =>?_⟩⟩
  ·repeat' first|exact trivial|refine ⟨rfl,?_⟩|refine ⟨trivial,?_⟩|apply And.intro
  ·have hc:=of_decide_eq_true c
   have t:Int.tdiv (q.2.2-q.2.1+1) 2=(q.2.2-q.2.1+1) / 2:=Int.tdiv_eq_ediv_of_nonneg (by omega)
   have hg:=bsG_go (f:=mbB s x ch) (n:=q.1) hc (by omega)
   rw[q5]at hg
   generalize Int.tdiv (q.2.2-q.2.1+1) 2=m at t hg ⊢
   have no:mbB s x ch (q.2.1+m)=false->(q.2.1<=q.2.1+m-1/\q.2.1+m-1-q.2.1<=((q.1-1:Nat):Int)/\10<=q.2.1/\q.2.1+m-1<=250)/\bsG (mbB s x ch) (q.1-1) q.2.1 (q.2.1+m-1)=bsG (mbB s x ch) 240 10 250:=fun d=>by
    rw[if_neg (by rw[d];simp)]at hg
    exact ⟨⟨by omega,by omega,q3,by omega⟩,hg.symm⟩
   refine ⟨vI64 (by omega),vI64 (by omega),vI64 (by omega),vI64 (by omega),⟨rfl,rfl,rfl,rfl,rfl,trivial⟩,fun H' _ h=>kMakes o hx (by omega) (hat h),fun d=>⟨⟨rfl,rfl,rfl,rfl,rfl,trivial⟩,fun H' _ h=>kBears o hx (by omega) (hat h),fun d2 =>?_,fun d2 =>?_⟩,fun d =>?_⟩
   ·rw[if_pos (by unfold mbB;rw[d,d2];rfl)]at hg
    refine ⟨(q.1-1,q.2.1+m,q.2.2),⟨⟨by show q.2.1+m<=q.2.2;omega,by show q.2.2-(q.2.1+m)<=((q.1-1:Nat):Int);omega,by show 10<=q.2.1+m;omega,q4⟩,hg.symm⟩,by show q.1-1<q.1;omega,?_⟩
    repeat' first|exact trivial|refine ⟨rfl,?_⟩|refine ⟨trivial,?_⟩|apply And.intro
   ·refine ⟨vI64 (by omega),(q.1-1,q.2.1,q.2.1+m-1),no (by unfold mbB;rw[d,d2];rfl),by show q.1-1<q.1;omega,?_⟩
    repeat' first|exact trivial|refine ⟨rfl,?_⟩|refine ⟨trivial,?_⟩|apply And.intro
   ·refine ⟨vI64 (by omega),(q.1-1,q.2.1,q.2.1+m-1),no (by unfold mbB;rw[d];rfl),by show q.1-1<q.1;omega,?_⟩
    repeat' first|exact trivial|refine ⟨rfl,?_⟩|refine ⟨trivial,?_⟩|apply And.intro
  ·have hc:=of_decide_eq_false c
   rw[es,<- q5,bsG_stop hc]
 ·unfold goS grG mbB;rw[e,Bool.false_and];rfl
def errBas(w h:Int)(n:Nat):Int:=if (1<=w/\w<=64)/\(1<=h/\h<=64)/\w*h<=1024 then (if (n:Int)=w*h then 0 else 1) else 6
structure BasOk(w h:Int)(n:Nat):Prop where
 w1:1<=w/\w<=64
 h1:1<=h/\h<=64
 p1:w*h<=1024
 n1:(n:Int)=w*h
theorem basOk{w h:Int}{n:Nat}(e:errBas w h n=0):BasOk w h n:=by
 unfold errBas at e
 split at e
 ·rename_i q
  split at e
  ·rename_i q2;exact ⟨q.1,q.2.1,q.2.2,q2⟩
  ·cases e
 ·cases e
def seaB(a:List Bool)(c:Int):Bool:=inB c 0 (((a.length:Nat):Int)-1) && !a.getD (Int.toNat c) false
def sizeOk(w h t:Int):Prop:=(1<=w/\w<=64)/\(1<=h/\h<=64)/\w*h<=1024/\0<=t/\t<=10000
instance (w h t:Int):Decidable (sizeOk w h t):=by unfold sizeOk;infer_instance
def errSize(w h t:Int):Int:=if sizeOk w h t then 0 else 6
theorem errSize_iff{w h t:Int}:errSize w h t=0 ↔ sizeOk w h t:=by unfold errSize;split <;> simp_all
def errs{α:Type}(e:α->Int):List α->Int
 | [] =>0
 |x :: xs=>if e x=0 then errs e xs else e x
theorem errs_at{α:Type}{e:α->Int}{xs:List α}{d:α}{k:Nat}(hk:k<xs.length):errs e (xs.drop k)=if e (xs.getD k d)=0 then errs e (xs.drop (k+1)) else e (xs.getD k d):=by
 rw[List.drop_eq_getElem_cons hk]
 simp only[errs,List.getD_eq_getElem?_getD,List.getElem?_eq_getElem hk,Option.getD_some]
def errChart(w h t:Int)(cs:List Cell):Int:=first2 (errSize w h t) (if (cs.length:Int)=w*h then errs errCell cs else 1)
structure Cht where
 w:Int
 h:Int
 hr:Int
 cells:List Cell
def zCh:Cht:=⟨0,0,0,[]⟩
abbrev chC(c:Cht):List Value:=[nI c.w,nI c.h,nI c.hr,.iface (c.cells.length+1) (.agg ⟨c.cells.flatMap cellC⟩)]
structure Pl where
 w:Int
 h:Int
 land:List Bool
 cts:List Cht
 chan:List Bool
 shp:Shp
 size:Int
 frm:Int
 to:Int
abbrev plC(p:Pl)(l c n t w i:Nat):List Value:=[nI p.w,nI p.h,slR l p.land.length,slR c p.cts.length,slR n p.chan.length]++shpC p.shp t w i ++ [nI p.size,nI p.frm,nI p.to]
abbrev plV(p:Pl)(l c n t w i:Nat):Value:=.agg ⟨plC p l c n t w i⟩
def errCht(p:Pl)(i:Nat):Int :=
 let c:=p.cts.getD i zCh
 first2 (errChart c.w c.h c.hr c.cells) (if c.w=p.w/\c.h=p.h then (if c.hr=(p.cts.getD 0 zCh).hr+(i:Int) then 0 else 11) else 1)
def errPl(p:Pl):Int :=
 first2 (errBas p.w p.h p.land.length) (if inB ((p.cts.length:Nat):Int) 1 48=false then 2 else
  first2 (errUp (errCht p) p.cts.length) (if p.chan.length≠p.land.length then 1 else first2 (errShp p.shp) (if inB p.size 1 500=false then 6 else if (seaB p.land p.frm&&seaB p.land p.to)=false then 1 else 0)))
def endP(p:Pl):Int:=6*((p.cts.length:Nat):Int)
def sfP(p:Pl)(c t:Int):Int:=(sfX p.shp ((p.cts.getD (Int.toNat t) zCh).cells.getD (Int.toNat c) zeroC) (p.chan.getD (Int.toNat c) false)).1
def sfE(p:Pl)(c t:Int):Int:=(sfX p.shp ((p.cts.getD (Int.toNat t) zCh).cells.getD (Int.toNat c) zeroC) (p.chan.getD (Int.toNat c) false)).2
abbrev digC(L:List Int)(n:Int):List Value:=[.iface (L.length+1) (.agg ⟨L.flatMap intC⟩),nI n]
def dVal(L:List Int)(n:Int):Int:=if 0<L.length then IntKind.wrap .i64 (L.getD (Int.toNat (Int.tmod n ((L.length:Nat):Int))) 0+IntKind.wrap .i64 (Int.tdiv n ((L.length:Nat):Int))) else 0
def dN(L:List Int)(n m:Int):Int:=dVal L n % m
theorem dN_bd(L:List Int)(n:Int){m:Int}(hm:1<=m):0<=dN L n m/\dN L n m<m:=by
 unfold dN
 exact ⟨Int.emod_nonneg _ (by omega),Int.emod_lt_of_pos _ (by omega)⟩
abbrev jd1:List Value:=[nI 4000,nI 8000,nI 14000,nI 24000,nI 40000,nI 90000]
abbrev jd0(s:Shp):List Value:=[nI s.cls,nI s.pow,nI s.dra,nI s.ton,slQ 2 2 s.th.length,slQ 3 2 s.wa.length,slQ 4 2 s.ic.length,nI s.slow,nI s.brash,nI s.rdg,nI s.prs]
abbrev jdh(s:Shp):=s.th.flatMap ptC
abbrev jdi(s:Shp):=s.wa.flatMap ptC
abbrev jdj(s:Shp):=s.ic.flatMap ptC
abbrev jd3(s:Shp):Prop:=(someR (.cells true 2 (jdh s)))/\(someR (.cells true 2 (jdi s)))/\(someR (.cells true 2 (jdj s)))/\True
abbrev jdk(s:Shp):Prop:=(someR (.cells false 0 jd1))/\(someR (.cells true 0 (jd0 s)))/\jd3 s
abbrev jd6(H':Heap)(s:Shp):Prop:=H'[0]?=some (.cells false 0 jd1:KObj)/\H'[1]?=some (.cells true 0 (jd0 s):KObj)/\H'[2]?=some (.cells true 2 (jdh s):KObj)/\H'[3]?=some (.cells true 2 (jdi s):KObj)/\H'[4]?=some (.cells true 2 (jdj s):KObj)/\True
def Rssafe(sp:Value)(s:Shp)(c:Cell)(ch:Bool):Prop :=
 ((jdk s)/\(∀H':Heap,H'.length=7->(jd6 H' s)->KCall prog 78 [.agg #[pt 1,nI c.conc.hi,nI c.thick.hi,nI c.ridge.hi,nI c.press.hi,.bool ch]] H' [] (Is (nI (spdS s (lastI c) ch)) H'))/\(fk (decide (((spdS s (lastI c) ch):Int)<10)) ((.tuple #[nI 0,nI 4]:Value)=sp) ((jdk s)/\(∀H':Heap,H'.length=7->(jd6 H' s)->KCall prog 42 [.agg #[pt 1,nI c.conc.hi,nI c.thick.hi,nI c.ridge.hi,nI c.press.hi,.bool ch]] H' [] (Is (.tuple #[nI (goS s (lastI c) ch).1,.bool (goS s (lastI c) ch).2]) H'))/\(fk (!(goS s (lastI c) ch).2) ((.tuple #[nI 0,nI 41]:Value)=sp) ((.tuple #[nI (goS s (lastI c) ch).1,nI 0]:Value)=sp)))))
abbrev jd9(s:Shp):List (Nat×KObj):=[(0,.cells false 0 jd1),(1,.cells true 0 (jd0 s)),(2,.cells true 2 (jdh s)),(3,.cells true 2 (jdi s)),(4,.cells true 2 (jdj s))]
abbrev jdg:Hint:=.fork (.auto) (.auto)
theorem Essafe(sp:Value)(s:Shp)(c:Cell)(ch:Bool):vF prog msk (dm 0) 100000 true 40 true 40 [pt 1,.agg #[nI c.conc.lo,nI c.conc.hi,nI c.thick.lo,nI c.thick.hi,nI c.ridge.lo,nI c.ridge.hi,nI c.press.lo,nI c.press.hi],.bool ch] (readsK [.cells false 0 jd1,.cells true 0 (jd0 s),.cells true 2 (jdh s),.cells true 2 (jdi s),.cells true 2 (jdj s)]) (some [])
 (.go 26 (.ans (jd9 s) (nI (spdS s (lastI c) ch)) [] (.go 0 (.fork (.auto) (.go 0 (.ans (jd9 s) (.tuple #[nI (goS s (lastI c) ch).1,.bool (goS s (lastI c) ch).2]) [] (.go 6 jdg)))))))
 (fun v _ _=>v=sp)=Rssafe sp s c ch:=by kernel_rfl
abbrev jdc(c:Cell):List Value:=[.agg #[nI c.conc.lo,nI c.conc.hi,nI c.thick.lo,nI c.thick.hi,nI c.ridge.lo,nI c.ridge.hi,nI c.press.lo,nI c.press.hi]]
def Rmet(sp:Value)(s:Shp)(c:Cell):Prop :=
 (c3q 6 1 (.cells false 0 (jdh s)) 2 (.cells false 0 (jdi s)) 3 (.cells false 0 (jdj s)) 36 [.agg #[nI s.cls,nI s.pow,nI s.dra,nI s.ton,slQ 1 2 s.th.length,slQ 2 2 s.wa.length,slQ 3 2 s.ic.length,nI s.slow,nI s.brash,nI s.rdg,nI s.prs]] (nI (errShp s)) (fk (((errShp s):Int) != 0) ((nI (errShp s):Value)=sp) (c0q 6 38 (jdc c) (nI (errCell c)) ((nI (errCell c):Value)=sp))))
abbrev jd5(s:Shp)(c:Cell):List Value:=[.agg #[nI s.cls,nI s.pow,nI s.dra,nI s.ton,slQ 1 2 s.th.length,slQ 2 2 s.wa.length,slQ 3 2 s.ic.length,nI s.slow,nI s.brash,nI s.rdg,nI s.prs],.agg #[nI c.conc.lo,nI c.conc.hi,nI c.thick.lo,nI c.thick.hi,nI c.ridge.lo,nI c.ridge.hi,nI c.press.lo,nI c.press.hi]]
theorem Emet(sp:Value)(s:Shp)(c:Cell):vF prog msk (dm 0) 100000 true 40 true 89 (jd5 s c) (readsT 1 [s.th.flatMap ptC,s.wa.flatMap ptC,s.ic.flatMap ptC]) (some [])
 (.go 3 (.ans [(1,.cells false 0 (jdh s)),(2,.cells false 0 (jdi s)),(3,.cells false 0 (jdj s))] (nI (errShp s)) [] (.go 2 (.fork (.auto) (.go 0 (.ans [] (nI (errCell c)) [] (.auto)))))))
 (fun v _ _=>v=sp)=Rmet sp s c:=by kernel_rfl
abbrev jd4(s:Shp):List Value:=[nI s.cls,nI s.pow,nI s.dra,nI s.ton,slQ 1 2 s.th.length,slQ 2 2 s.wa.length,slQ 3 2 s.ic.length,nI s.slow,nI s.brash,nI s.rdg,nI s.prs]
def Rhsafe(sp:Value)(s:Shp)(c:Cell)(ch:Bool):Prop :=
 (c3q 6 1 (.cells true 2 (jdh s)) 2 (.cells true 2 (jdi s)) 3 (.cells true 2 (jdj s)) 89 (jd5 s c) (nI (first2 (errShp s) (errCell c))) (fk (((first2 (errShp s) (errCell c)):Int) != 0) ((.tuple #[nI 0,nI (first2 (errShp s) (errCell c))]:Value)=sp) (((someR (.cells false 0 jd1))/\(someR (.cells true 0 (jd4 s)))/\jd3 s)/\(∀H':Heap,H'.length=6->(H'[0]?=some (.cells false 0 jd1:KObj)/\H'[4]?=some (.cells true 0 (jd4 s):KObj)/\H'[1]?=some (.cells true 2 (jdh s):KObj)/\H'[2]?=some (.cells true 2 (jdi s):KObj)/\H'[3]?=some (.cells true 2 (jdj s):KObj)/\True)->KCall prog 40 [pt 4,.agg #[nI c.conc.lo,nI c.conc.hi,nI c.thick.lo,nI c.thick.hi,nI c.ridge.lo,nI c.ridge.hi,nI c.press.lo,nI c.press.hi],.bool ch] H' [] (Is (.tuple #[nI (sfS s c ch).1,nI (sfS s c ch).2]) H'))/\(.tuple #[nI (sfS s c ch).1,nI (sfS s c ch).2]:Value)=sp)))
theorem Ehsafe(sp:Value)(s:Shp)(c:Cell)(ch:Bool):vF prog msk (dm 0) 100000 true 40 true 48 [.agg #[nI s.cls,nI s.pow,nI s.dra,nI s.ton,slQ 1 2 s.th.length,slQ 2 2 s.wa.length,slQ 3 2 s.ic.length,nI s.slow,nI s.brash,nI s.rdg,nI s.prs],.agg #[nI c.conc.lo,nI c.conc.hi,nI c.thick.lo,nI c.thick.hi,nI c.ridge.lo,nI c.ridge.hi,nI c.press.lo,nI c.press.hi],.bool ch] (readsK [.cells false 0 jd1,.cells true 2 (jdh s),.cells true 2 (jdi s),.cells true 2 (jdj s)]) (some [])
 (.go 5 (.ans [(1,.cells true 2 (jdh s)),(2,.cells true 2 (jdi s)),(3,.cells true 2 (jdj s))] (nI (first2 (errShp s) (errCell c))) [] (.go 2 (.fork (.auto) (.go 1 (.ans [(0,.cells false 0 jd1),(4,.cells true 0 (jd4 s)),(1,.cells true 2 (jdh s)),(2,.cells true 2 (jdi s)),(3,.cells true 2 (jdj s))] (.tuple #[nI (sfS s c ch).1,nI (sfS s c ch).2]) [] (.auto)))))))
 (fun v _ _=>v=sp)=Rhsafe sp s c ch:=by kernel_rfl
abbrev jd8(sp:Value):Prop:=(nI 20:Value)=sp
abbrev jdl:Value:=nI 0
def Rccell(sp:Value)(c:Cell):Prop :=
 (fk (decide ((0:Int)<=c.conc.lo)) (fk (decide ((c.conc.lo:Int)<=100)) (fk (decide ((c.conc.lo:Int)<=c.conc.hi)) (fk (!(decide ((c.conc.hi:Int)<=100))) (jd8 sp) (fk (decide ((0:Int)<=c.thick.lo)) (fk (decide ((c.thick.lo:Int)<=400)) (fk (decide ((c.thick.lo:Int)<=c.thick.hi)) (fk (!(decide ((c.thick.hi:Int)<=400))) (jd8 sp) (fk (decide ((0:Int)<=c.ridge.lo)) (fk (decide ((c.ridge.lo:Int)<=100)) (fk (decide ((c.ridge.lo:Int)<=c.ridge.hi)) (fk (!(decide ((c.ridge.hi:Int)<=100))) (jd8 sp) (fk (decide ((0:Int)<=c.press.lo)) (fk (decide ((c.press.lo:Int)<=3)) (fk (decide ((c.press.lo:Int)<=c.press.hi)) (fk (!(decide ((c.press.hi:Int)<=3))) (jd8 sp) (jdl=sp)) (jd8 sp)) (jd8 sp)) (jd8 sp))) (jd8 sp)) (jd8 sp)) (jd8 sp))) (jd8 sp)) (jd8 sp)) (jd8 sp))) (jd8 sp)) (jd8 sp)) (jd8 sp))
theorem Eccell(sp:Value)(c:Cell):vF prog msk (dm 0) 100000 true 40 true 38 (jdc c) ⟨1,.leaf⟩ (some [])
 (.go 54 (.gfork (.go 5 (.gfork (.go 15 (.gfork (.go 8 (.fork (.auto) (.go 30 (.gfork (.go 5 (.gfork (.go 15 (.gfork (.go 8 (.fork (.auto) (.go 30 (.gfork (.go 5 (.gfork (.go 15 (.gfork (.go 8 (.fork (.auto) (.go 30 (.gfork (.go 5 (.gfork (.go 15 (.gfork (.go 8 jdg) (.auto))) (.auto))) (.auto))))) (.auto))) (.auto))) (.auto))))) (.auto))) (.auto))) (.auto))))) (.auto))) (.auto))) (.auto)))
 (fun v _ _=>v=sp)=Rccell sp c:=by kernel_rfl
abbrev jda(sp:Value):Prop:=(nI 6:Value)=sp
def Risize(sp:Value)(w h t:Int):Prop :=
 (fk (decide ((1:Int)<=w)) (fk (!(decide ((w:Int)<=64))) (jda sp) (fk (decide ((1:Int)<=h)) (fk (!(decide ((h:Int)<=64))) (jda sp) (nw (w*h) (fk (decide ((1024:Int)<(w*h))) (jda sp) (fk (decide ((0:Int)<=t)) (fk (!(decide ((t:Int)<=10000))) (jda sp) (jdl=sp)) (jda sp))))) (jda sp))) (jda sp))
theorem Eisize(sp:Value)(w h t:Int):vF prog msk (dm 0) 100000 true 40 true 114 [nI w,nI h,nI t] ⟨1,.leaf⟩ (some [])
 (.go 7 (.gfork (.go 6 (.gfork (.auto) (.go 6 (.gfork (.go 7 (.gfork (.auto) (.go 2 (.slot 18 (nI (w*h)) (.go 2 (.gfork (.auto) (.go 6 (.gfork (.go 6 jdg) (.auto))))))))) (.auto))))) (.auto)))
 (fun v _ _=>v=sp)=Risize sp w h t:=by kernel_rfl
abbrev jde(cs:List Cell):Prop:=eR (.func (.func 38) #[] #[])/\wR (slQ 1 2 cs.length)/\eR (nI ((cs.length:Nat):Int))/\True
abbrev jd7(cs:List Cell)(x0:Nat):Value:=.agg #[nI (cs.getD x0 zeroC).conc.lo,nI (cs.getD x0 zeroC).conc.hi,nI (cs.getD x0 zeroC).thick.lo,nI (cs.getD x0 zeroC).thick.hi,nI (cs.getD x0 zeroC).ridge.lo,nI (cs.getD x0 zeroC).ridge.hi,nI (cs.getD x0 zeroC).press.lo,nI (cs.getD x0 zeroC).press.hi]
def Riwrong(sp:Value)(cs:List Cell):Prop :=
 (lq (0<=List.length cs/\sp=nI (errs errCell (cs.drop 0))) (true=true/\(jdl=nI ((0:Nat):Int)/\jde cs)/\(True)/\(True)/\(True)) (∀x0:Nat,(x0<=List.length cs/\sp=nI (errs errCell (cs.drop x0)))->(fk (decide (((x0:Int):Int)<((cs.length:Nat):Int))) ((ixq (x0:Int) cs.length)/\((partA 8 (cs.flatMap cellC) (0+Int.toNat (x0:Int)*8)=some (jd7 cs x0))/\(c0q 3 38 [.agg #[nI (cs.getD x0 zeroC).conc.lo,nI (cs.getD x0 zeroC).conc.hi,nI (cs.getD x0 zeroC).thick.lo,nI (cs.getD x0 zeroC).thick.hi,nI (cs.getD x0 zeroC).ridge.lo,nI (cs.getD x0 zeroC).ridge.hi,nI (cs.getD x0 zeroC).press.lo,nI (cs.getD x0 zeroC).press.hi]] (nI (errCell (cs.getD x0 zeroC))) (fk (((errCell (cs.getD x0 zeroC)):Int) != 0) ((nI (errCell (cs.getD x0 zeroC)):Value)=sp) (nw ((x0:Int)+1) (∃x0':Nat,(x0'<=List.length cs/\sp=nI (errs errCell (cs.drop x0')))/\(List.length cs-x0')<(List.length cs-x0)/\true=true/\((nI ((x0:Int)+1):Value)=nI (x0':Int)/\jde cs)/\(True)/\(True)/\(True))))))) (jdl=sp))))
theorem Eiwrong(sp:Value)(cs:List Cell):vF prog msk (dm 0) 100000 true 40 true 115 [slQ 1 2 cs.length,.func (.func 38) #[] #[]] (readsT 1 [cs.flatMap cellC]) (some [])
 (.go 3 (.inv 3 (Nat) (0) [] [] (fun x0=>[(10,nI (x0:Int)),(1,.func (.func 38) #[] #[]),(8,slQ 1 2 cs.length),(9,nI ((cs.length:Nat):Int))]) (fun x0=>[]) (fun x0=>[]) (fun x0=>[]) (fun x0=>(x0<=List.length cs/\sp=nI (errs errCell (cs.drop x0)))) (fun x0=>(List.length cs-x0)) (fun x0 => .go 0 (.fork (.need (.val (jd7 cs x0) (.go 3 (.ans [] (nI (errCell (cs.getD x0 zeroC))) [] (.go 2 (.fork (.auto) (.go 0 (.slot 20 (nI ((x0:Int)+1)) (.go 0 (.again [])))))))))) (.auto)))))
 (fun v _ _=>v=sp)=Riwrong sp cs:=by kernel_rfl
def Rcchart(sp:Value)(w h t:Int)(cs:List Cell):Prop :=
 (c0q 3 114 [nI w,nI h,nI t] (nI (errSize w h t)) (fk (((errSize w h t):Int) != 0) ((nI (errSize w h t):Value)=sp) (nw (w*h) (fk ((((cs.length:Nat):Int):Int) != (w*h)) ((nI 1:Value)=sp) (c1q 3 1 (.cells false 0 (cs.flatMap cellC)) 115 [slQ 1 2 cs.length,.func (.func 38) #[] #[]] (nI (errs errCell cs)) ((nI (errs errCell cs):Value)=sp))))))
theorem Ecchart(sp:Value)(w h t:Int)(cs:List Cell):vF prog msk (dm 0) 100000 true 40 true 88 [.agg #[nI w,nI h,nI t,slQ 1 2 cs.length]] (readsT 1 [cs.flatMap cellC]) (some [])
 (.go 7 (.ans [] (nI (errSize w h t)) [] (.go 2 (.fork (.auto) (.go 7 (.slot 21 (nI (w*h)) (.go 0 (.fork (.auto) (.go 1 (.ans [(1,.cells false 0 (cs.flatMap cellC))] (nI (errs errCell cs)) [] (.auto)))))))))))
 (fun v _ _=>v=sp)=Rcchart sp w h t cs:=by kernel_rfl
abbrev jdf(a:List Bool):Int:=(a.length:Nat)
def Rcbasin(sp:Value)(w h:Int)(a:List Bool):Prop :=
 (fk (decide ((1:Int)<=w)) (fk (!(decide ((w:Int)<=64))) (jda sp) (fk (decide ((1:Int)<=h)) (fk (!(decide ((h:Int)<=64))) (jda sp) (nw (w*h) (fk (decide ((1024:Int)<(w*h))) (jda sp) (nw (w*h) (fk (((jdf a):Int) != (w*h)) ((nI 1:Value)=sp) (jdl=sp)))))) (jda sp))) (jda sp))
theorem Ecbasin(sp:Value)(w h:Int)(a:List Bool):vF prog msk (dm 0) 100000 true 40 true 87 [.agg #[nI w,nI h,slQ 1 2 a.length]] (readsT 1 [a.flatMap boolC]) (some [])
 (.go 9 (.gfork (.go 6 (.gfork (.auto) (.go 7 (.gfork (.go 7 (.gfork (.auto) (.go 4 (.slot 19 (nI (w*h)) (.go 2 (.fork (.auto) (.go 7 (.slot 30 (nI (w*h)) (.go 1 jdg))))))))) (.auto))))) (.auto)))
 (fun v _ _=>v=sp)=Rcbasin sp w h a:=by kernel_rfl
def Rris(sp:Value)(w h:Int)(a:List Bool)(c1_:Int):Prop :=
 (nw ((jdf a)-1) (c0q 3 44 [nI c1_,nI 0,nI ((jdf a)-1)] (.bool (inB c1_ 0 ((jdf a)-1))) (fk (inB c1_ 0 ((jdf a)-1)) ((ixq c1_ a.length)/\(((a.flatMap boolC)[(0+Int.toNat c1_*1)]?=some (.bool (a.getD c1_.toNat false)))/\(.bool (!(a.getD c1_.toNat false)):Value)=sp)) ((.bool false:Value)=sp))))
theorem Eris(sp:Value)(w h:Int)(a:List Bool)(c1_:Int):vF prog msk (dm 0) 100000 true 40 true 43 [.agg #[nI w,nI h,slQ 1 2 a.length],nI c1_] (readsT 1 [a.flatMap boolC]) (some [])
 (.go 6 (.slot 9 (nI ((jdf a)-1)) (.ans [] (.bool (inB c1_ 0 ((jdf a)-1))) [] (.go 0 (.gfork (.go 2 (.need (.val (.bool (a.getD c1_.toNat false)) (.auto)))) (.auto))))))
 (fun v _ _=>v=sp)=Rris sp w h a c1_:=by kernel_rfl
def Rpick(sp:Value)(x n:Int):Prop :=
 (fk (decide ((n:Int)<1)) (jdl=sp) (((n:Int)≠0)/\(fk (decide (((Int.tmod x n):Int)<0)) (nw ((Int.tmod x n)+n) ((nI ((Int.tmod x n)+n):Value)=sp)) ((nI (Int.tmod x n):Value)=sp))))
theorem Epick(sp:Value)(x n:Int):vF prog msk (dm 0) 100000 true 40 true 11 [nI x,nI n] ⟨1,.leaf⟩ (some [])
 (.go 2 (.fork (.auto) (.go 1 (.need (.go 2 (.fork (.go 2 (.slot 15 (nI ((Int.tmod x n)+n)) (.auto))) (.auto)))))))
 (fun v _ _=>v=sp)=Rpick sp x n:=by kernel_rfl
abbrev jdd(L:List Int):Int:=(L.length:Nat)
abbrev jd2(L:List Int)(n:Int):=IntKind.wrap .i64 ((L.getD (Int.tmod n (jdd L)).toNat 0)+(IntKind.wrap .i64 (Int.tdiv n (jdd L))))
abbrev jdb(L:List Int)(n:Int):KObj:=.cells true 0 [.iface (L.length+1) (.agg ⟨(L.flatMap intC)⟩),nI (n+1)]
def Rnext(L:List Int)(n m:Int):Prop :=
 (fk (decide ((0:Int)<(jdd L))) ((((jdd L):Int)≠0)/\((ixq (Int.tmod n (jdd L)) L.length)/\(((L.flatMap intC)[(Int.toNat (Int.tmod n (jdd L))*1)]?=some (nI (L.getD (Int.tmod n (jdd L)).toNat 0)))/\((((jdd L):Int)≠0)/\(nw (n+1) (c0q 2 11 [nI (jd2 L n),nI m] (nI ((jd2 L n) % m)) (true=true/\wk (nI ((jd2 L n) % m):Value) (rn (sg 2 []) 3 (nI (dN L n m):Value))/\((krq 2 (jdb L n))/\True)/\(True)))))))) (nw (n+1) (c0q 2 11 [nI 0,nI m] (nI (0 % m)) (true=true/\wk (nI (0 % m):Value) (rn (sg 2 []) 3 (nI (dN L n m):Value))/\((krq 2 (jdb L n))/\True)/\(True)))))
theorem Enext(L:List Int)(n m:Int):vF prog msk (dm 0) 100000 true 40 true 13 [pt 1,nI m] (readsW 1 0 (digC L n) []) (some [1])
 (.go 7 (.fork (.go 12 (.need (.need (.val (nI (L.getD (Int.tmod n (jdd L)).toNat 0)) (.go 8 (.need (.go 6 (.slot 43 (nI (n+1)) (.go 4 (.ans [] (nI ((jd2 L n) % m)) [] (.go 0 (.keep (.again []))))))))))))) (.go 4 (.slot 43 (nI (n+1)) (.go 4 (.ans [] (nI (0 % m)) [] (.go 0 (.keep (.again [])))))))))
 (newKW ((readsW 1 0 (digC L n) []):HT).n 3 1 (jdb L n) (nI (dN L n m)) [])=Rnext L n m:=by kernel_rfl
theorem errCell_iff{c:Cell}:errCell c=0 ↔ rightC c:=by unfold errCell;split <;> simp_all
theorem lastOk{c:Cell}(h:rightC c):IceOk (lastI c):=by
 obtain ⟨h1,h2,h3,h4⟩:=h
 unfold rightSp at h1 h2 h3 h4
 unfold IceOk lastI
 dsimp only;omega
theorem kSSafe{s:Shp}(o:ShpOk s){c:Cell}(hc:rightC c){ch:Bool}{H:Heap}{b i j k:Nat}(a:ShAt H s b i j k) :
  KCall prog 40 [pt b,cellV c,.bool ch] H [] (Is (.tuple #[nI (sfS s c ch).1,nI (sfS s c ch).2]) H):=by
 refine valV (Eq.mpr (Essafe _ s c ch) ?_) (shOs_ok s) rfl rfl (fun _=>rfl) a.1 a.objs rfl rfl
 delta Rssafe jdk jd6 jd1 jd0 jdh jdi jdj jd3 nI slQ pt someR fk
 have hat:∀{H':Heap} {Q:Prop},(H'[0]?=some strO/\H'[1]?=some (.cells true 0 (shpC s 2 3 4))/\H'[2]?=some (.cells true 2 (s.th.flatMap ptC))/\H'[3]?=some (.cells true 2 (s.wa.flatMap ptC))/\H'[4]?=some (.cells true 2 (s.ic.flatMap ptC))/\Q)->ShAt H' s 1 2 3 4:=fun h=>⟨by decide,h.1,h.2.1,h.2.2.1,h.2.2.2.1,h.2.2.2.2.1⟩
 refine ⟨⟨rfl,rfl,rfl,rfl,rfl,trivial⟩,fun H' _ h=>kSpeed o (lastOk hc) (hat h),fun e =>?_,fun e=>⟨⟨rfl,rfl,rfl,rfl,rfl,trivial⟩,fun H' _ h=>kGoes o (lastOk hc) (hat h),fun e2 =>?_,fun e2 =>?_⟩⟩
 ·unfold sfS;rw[if_pos (of_decide_eq_true e)]
 ·unfold sfS;rw[if_neg (of_decide_eq_false e),if_pos (notB e2)]
 ·unfold sfS;rw[if_neg (of_decide_eq_false e),if_neg (by rw[notB2 e2];simp)]
theorem kCCell(c:Cell){H:Heap}(hH:1<=H.length):KCall prog 38 [cellV c] H [] (Is (nI (errCell c)) H):=by
 refine valK 40 (fun _=>rfl) rfl (Eq.mpr (Eccell _ c) ?_) hH
 delta Rccell jd8 jdl nI fk
 simp only[decide_eq_true_eq,decide_eq_false_iff_not,Bool.not_eq_true',Bool.not_eq_false']
 repeat' (first|apply And.intro|intro _)
 all_goals first
  |exact iEq (if_neg (by unfold rightC rightSp;omega)).symm
  |exact iEq (if_pos (by unfold rightC rightSp;omega)).symm
theorem kMet(s:Shp)(hs:LstOk s)(c:Cell){H:Heap}{i j k:Nat}{o1 o2 o3:Bool}{z1 z2 z3:Nat}(h1:H[i]?=some (.cells o1 z1 (s.th.flatMap ptC)))(h2:H[j]?=some (.cells o2 z2 (s.wa.flatMap ptC)))(h3:H[k]?=some (.cells o3 z3 (s.ic.flatMap ptC))) :
  KCall prog 89 [shpV s i j k,cellV c] H [] (Is (nI (first2 (errShp s) (errCell c))) H):=by
 refine valRx (css:=[s.th.flatMap ptC,s.wa.flatMap ptC,s.ic.flatMap ptC]) (v:=nI (first2 (errShp s) (errCell c))) (ids:=[i,j,k]) (Eq.mpr (Emet _ s c) ?_) ⟨plainP _ _,plainP _ _,plainP _ _,trivial⟩ rfl ⟨⟨_,_,h1⟩,⟨_,_,h2⟩,⟨_,_,h3⟩,trivial⟩ rfl
 delta Rmet jdh jdi jdj jdc nI slQ fk c0q c3q
 refine ⟨⟨rfl,rfl,rfl,trivial⟩,fun H' _ h=>kHCheck s hs h.1 h.2.1 h.2.2.1,fun e =>?_,fun e=>⟨trivial,fun H' hl _=>kCCell c (by omega),?_⟩⟩
 ·rw[first2_1 (neB e)]
 ·rw[first2_2 (eqB0 e)]
def CvAt(H:Heap)(s:Shp)(i j k:Nat):Prop :=
 [0,i,j,k].Nodup/\H[0]?=some strO/\H[i]?=some (.cells true 2 (s.th.flatMap ptC))/\H[j]?=some (.cells true 2 (s.wa.flatMap ptC))/\H[k]?=some (.cells true 2 (s.ic.flatMap ptC))
theorem kHSafe(s:Shp)(hs:LstOk s)(c:Cell)(ch:Bool){H:Heap}{i j k:Nat}(a:CvAt H s i j k) :
  KCall prog 48 [shpV s i j k,cellV c,.bool ch] H [] (Is (.tuple #[nI (sfX s c ch).1,nI (sfX s c ch).2]) H):=by
 have ok:[strO,.cells true 2 (s.th.flatMap ptC),.cells true 2 (s.wa.flatMap ptC),.cells true 2 (s.ic.flatMap ptC)].all (rnoOk 3)=true:=by
  show (rnoOk 3 strO&&(rnoOk 3 (.cells true 2 (s.th.flatMap ptC))&&(rnoOk 3 (.cells true 2 (s.wa.flatMap ptC))&&(rnoOk 3 (.cells true 2 (s.ic.flatMap ptC))&&true))))=true
  rw[ptRok,ptRok,ptRok];rfl
 have ob:objsAt H (sgI [0,i,j,k]) [0,i,j,k] [strO,.cells true 2 (s.th.flatMap ptC),.cells true 2 (s.wa.flatMap ptC),.cells true 2 (s.ic.flatMap ptC)] :=
  ⟨a.2.1,by rw[ptRno];exact a.2.2.1,by rw[ptRno];exact a.2.2.2.1,by rw[ptRno];exact a.2.2.2.2,trivial⟩
 refine valV (Eq.mpr (Ehsafe _ s c ch) ?_) ok rfl rfl (fun _=>rfl) a.1 ob rfl rfl
 delta Rhsafe jdh jdi jdj jd5 jd1 jd4 jd3 nI slQ pt someR fk c3q
 refine ⟨⟨rfl,rfl,rfl,trivial⟩,fun H' _ h=>kMet s hs c h.1 h.2.1 h.2.2.1,fun e =>?_,fun e =>?_⟩
 ·have e:=neB e
  unfold first2 at e ⊢
  unfold sfX
  by_cases h:errShp s=0
  ·rw[if_pos h]at e ⊢;rw[if_pos h,if_neg e]
  ·rw[if_neg h,if_neg h]
 ·have e:=eqB0 e
  unfold first2 at e
  by_cases h:errShp s=0
  ·rw[if_pos h]at e
   refine ⟨⟨rfl,rfl,rfl,rfl,rfl,trivial⟩,fun H' _ h'=>kSSafe (shpOk h) (errCell_iff.1 e) ⟨by decide,h'.1,h'.2.1,h'.2.2.1,h'.2.2.2.1,h'.2.2.2.2.1⟩,?_⟩
   unfold sfX;rw[if_pos h,if_pos e]
  ·rw[if_neg h]at e;exact absurd e h
theorem kSize(w h t:Int){H:Heap}(hH:1<=H.length):KCall prog 114 [nI w,nI h,nI t] H [] (Is (nI (errSize w h t)) H):=by
 refine valK 40 (fun _=>rfl) rfl (Eq.mpr (Eisize _ w h t) ?_) hH
 delta Risize jda jdl nI fk nw
 have mb:(1<=w/\w<=64)->(1<=h/\h<=64)->0<=w*h/\w*h<=64*64:=fun h1 h2=>mulb (by omega) h1.2 (by omega) h2.2
 repeat' first|(refine ⟨vI64 (by have:=mb ⟨‹_›,‹_›⟩ ⟨‹_›,‹_›⟩;omega),?_⟩)|(exact iEq (if_pos (by unfold sizeOk;omega)).symm)|(exact iEq (if_neg (by unfold sizeOk;omega)).symm)|(refine forkD (fun h =>?_) (fun h =>?_))|refine forkNot ?_
theorem cellC_len(c:Cell):(cellC c).length=8:=rfl
theorem partCell{xs:List Cell}{x off:Nat}(h:x<xs.length)(ho:off=x*8):partA 8 (List.flatMap cellC xs) off=some (.agg ⟨cellC (List.getD xs x zeroC)⟩) :=
 part_at (f:=cellC) (d:=zeroC) (c:=0) (m:=8) cellC_len h (by omega) (by decide)
theorem plainC(n:Nat)(l:List Cell):(l.flatMap cellC).all (belowC n)=true:=plain_flat (fun _=>rfl) l
theorem kWrong(xs:List Cell)(hn:xs.length<=2 ^ 30){H:Heap}{id:Nat}{own:Bool}{z:Nat}(hid:H[id]?=some (.cells own z (xs.flatMap cellC))) :
  KCall prog 115 [slR id xs.length,.func (.func 38) #[] #[]] H [] (Is (nI (errs errCell xs)) H):=by
 refine valRx (css:=[xs.flatMap cellC]) (v:=nI (errs errCell xs)) (ids:=[id]) (Eq.mpr (Eiwrong _ xs) ?_) ⟨plainC _ _,trivial⟩ rfl ⟨⟨_,_,hid⟩,trivial⟩ rfl
 delta Riwrong jdl jde jd7 nI slQ fk nw eR wR ixq lq c0q
 refine ⟨rfl,⟨Nat.zero_le _,rfl⟩,?_,fun _=>rfl,?_⟩
 ·repeat' first|exact trivial|exact wk_refl _|refine ⟨rfl,?_⟩|refine ⟨trivial,?_⟩|apply And.intro
 rintro x ⟨hx,hsp⟩
 refine forkD (fun h =>?_) (fun h =>?_)
 ·have hlt:x<xs.length:=by omega
  rw[errs_at (d:=zeroC) hlt]at hsp
  refine ⟨⟨by omega,by omega⟩,partCell hlt (by omega),trivial,fun H' hl _=>kCCell _ (by omega),?_⟩
  refine forkNe (fun h1 =>?_) (fun h1 =>?_)
  ·rw[hsp,if_neg h1]
  ·refine ⟨vI64 (by omega),x+1,⟨by omega,by rw[hsp,if_pos h1]⟩,by omega,?_⟩
   repeat' first|exact trivial|exact wk_refl _|refine ⟨rfl,?_⟩|refine ⟨trivial,?_⟩|apply And.intro
 ·rw[hsp,show x=xs.length by omega,List.drop_length];rfl
theorem size_mul{w h t:Int}(h0:errSize w h t=0):1<=w*h/\w*h<=1024:=by
 obtain ⟨h1,h2,h3,_⟩:=errSize_iff.1 h0
 refine ⟨?_,h3⟩
 have:1*1<=w*h:=Int.mul_le_mul h1.1 h2.1 (by omega) (by omega)
 omega
theorem kChart(w h t:Int)(cs:List Cell){H:Heap}{id:Nat}{own:Bool}{z:Nat}(hid:H[id]?=some (.cells own z (cs.flatMap cellC))) :
  KCall prog 88 [.agg #[nI w,nI h,nI t,slR id cs.length]] H [] (Is (nI (errChart w h t cs)) H):=by
 refine valRx (css:=[cs.flatMap cellC]) (v:=nI (errChart w h t cs)) (ids:=[id]) (Eq.mpr (Ecchart _ w h t cs) ?_) ⟨plainC _ _,trivial⟩ rfl ⟨⟨_,_,hid⟩,trivial⟩ rfl
 delta Rcchart nI slQ fk nw c0q c1q;unfold errChart
 refine ⟨trivial,fun H' hl _=>kSize _ _ _ (by omega),fun e =>?_,fun e =>?_⟩
 ·rw[first2_1 (neB e)]
 ·rw[first2_2 (eqB0 e)]
  have hm:=size_mul (eqB0 e)
  refine ⟨vI64 (by omega),fun q =>?_,fun q=>⟨⟨rfl,trivial⟩,fun H' _ h=>kWrong _ (by have:=eqB2 q;omega) h.1,?_⟩⟩
  ·rw[if_neg (neB2 q)]
  ·rw[if_pos (eqB2 q)]
theorem mul_bd{w h:Int}(a:1<=w/\w<=64)(b:1<=h/\h<=64):1<=w*h/\w*h<=4096:=by
 have h1:1*1<=w*h:=Int.mul_le_mul a.1 b.1 (by omega) (by omega)
 have h2:w*h<=64*64:=Int.mul_le_mul a.2 b.2 (by omega) (by omega)
 omega
abbrev basV(w h:Int)(i n:Nat):Value:=.agg #[nI w,nI h,slR i n]
theorem kBasin(w h:Int)(a:List Bool){H:Heap}{id:Nat}{own:Bool}{z:Nat}(hid:H[id]?=some (.cells own z (a.flatMap boolC))) :
  KCall prog 87 [basV w h id a.length] H [] (Is (nI (errBas w h a.length)) H):=by
 refine valRx (css:=[a.flatMap boolC]) (v:=nI (errBas w h a.length)) (ids:=[id]) (Eq.mpr (Ecbasin _ w h a) ?_) ⟨plainBL _ _,trivial⟩ rfl ⟨⟨_,_,hid⟩,trivial⟩ rfl
 delta Rcbasin jda jdf jdl nI fk nw;unfold errBas
 obtain ⟨p,hp⟩:∃p,w*h=p:=⟨_,rfl⟩
 have hb:=fun a b=>hp ▸ mul_bd (w:=w) (h:=h) a b
 simp only[hp]
 repeat' first|(exact iEq (by split <;> (try split) <;> omega))|(refine forkD (fun h =>?_) (fun h =>?_))|(refine forkNe (fun h =>?_) (fun h =>?_))|refine forkNot ?_|(refine ⟨vI64 (by omega),?_⟩)
theorem kIs(w h:Int)(a:List Bool)(c:Int)(hl:a.length<=1000000){H:Heap}{id:Nat}{own:Bool}{z:Nat}(hid:H[id]?=some (.cells own z (a.flatMap boolC))) :
  KCall prog 43 [basV w h id a.length,nI c] H [] (Is (.bool (seaB a c)) H):=by
 refine valRx (css:=[a.flatMap boolC]) (v:=.bool (seaB a c)) (ids:=[id]) (Eq.mpr (Eris _ w h a c) ?_) ⟨plainBL _ _,trivial⟩ rfl ⟨⟨_,_,hid⟩,trivial⟩ rfl
 delta Rris jdf nI fk nw ixq c0q;unfold seaB
 refine ⟨vI64 (by omega),trivial,fun H' hl _=>kRin _ _ _ (by omega),fun e =>?_,fun e =>?_⟩
 ·have hb:=inB_iff.1 e
  refine ⟨⟨hb.1,by omega⟩,boolAt (by omega) (by omega),?_⟩
  rw[e,Bool.true_and]
 ·rw[e];rfl
theorem tmod_emod{x n:Int}(hn:1<=n):(Int.tmod x n<0->Int.tmod x n+n=x % n)/\(¬ Int.tmod x n<0->Int.tmod x n=x % n) /\ -n<Int.tmod x n/\Int.tmod x n<n:=by
 have h1:=Int.mul_tdiv_add_tmod x n
 have h2:=Int.lt_tmod_of_pos x (by omega:0<n)
 have h3:=Int.tmod_lt_of_pos x (by omega:0<n)
 refine ⟨fun h =>?_,fun h =>?_,h2,h3⟩
 ·have:x=(Int.tmod x n+n)+n*(x.tdiv n-1):=by rw[Int.mul_sub];omega
  rw[this,Int.add_mul_emod_self_left,<- this]
  exact (Int.emod_eq_of_lt (by omega) (by omega)).symm
 ·have:x=Int.tmod x n+n*x.tdiv n:=by omega
  conv=>rhs;rw[this,Int.add_mul_emod_self_left]
  exact (Int.emod_eq_of_lt (by omega) (by omega)).symm
theorem kPick(x n:Int)(h1:1<=n)(h2:n<=9223372036854775807){H:Heap}(hH:1<=H.length):KCall prog 11 [nI x,nI n] H [] (Is (nI (x % n)) H):=by
 refine valK 40 (fun _=>rfl) rfl (Eq.mpr (Epick _ x n) ?_) hH
 obtain ⟨t1,t2,t3,t4⟩:=tmod_emod (x:=x) h1
 delta Rpick jdl nI fk nw
 exact forkD (fun h=>by omega) (fun _=>⟨by omega,forkD (fun h=>⟨vI64 (by omega),iEq (t1 h)⟩) (fun h=>iEq (t2 h))⟩)
theorem plainDig(m:Nat)(L:List Int)(n:Int):(digC L n).all (belowC m)=true:=by
 show ((L.flatMap intC).all (belowD m)&&(true&&true))=true
 rw[all_belowD];rfl
theorem digO(m:Nat)(L:List Int)(n:Int):belowO m (.cells true 0 (digC L n))=true:=plainDig m L n
theorem tmod_len{L:List Int}{n:Int}(hn:0<=n)(hL:0<L.length):0<=Int.tmod n ((L.length:Nat):Int)/\Int.tmod n ((L.length:Nat):Int)<((L.length:Nat):Int):=by
 rw[Int.tmod_eq_emod_of_nonneg hn]
 exact ⟨Int.emod_nonneg _ (by omega),Int.emod_lt_of_pos _ (by omega)⟩
theorem kNext(L:List Int)(n m:Int)(hn:0<=n/\n<=1000000000)(hm:1<=m/\m<=1000000000){H:Heap}(hH:1<=H.length){D:Nat}(hD:H[D]?=some (.cells true 0 (digC L n))) :
  KCall prog 13 [pt D,nI m] H [D] (Is (nI (dN L n m)) (H.set D (.cells true 0 (digC L (n+1))))):=by
 have key:KCall prog 13 [pt D,nI m] H [D] (Is (nI (dN L n m)) (H.set D (.cells true 0 (digC L (n+1))) ++ [])):=by
  refine valW (fun _=>nI (dN L n m)) (css:=[]) (new:=[]) (Eq.mpr (Enext L n m) ?_) (plainDig 0 L n) (plainDig 0 L (n+1)) trivial trivial rfl rfl (fun _=>rfl) hD (ids:=[]) trivial (by simp) rfl
  delta Rnext jdd jd2 jdb nI fk nw krq ixq c0q
  refine forkD (fun k =>?_) (fun k =>?_)
  ·have hL:0<L.length:=by omega
   have hd:dVal L n=IntKind.wrap .i64 (L.getD (Int.toNat (Int.tmod n ((L.length:Nat):Int))) 0+IntKind.wrap .i64 (Int.tdiv n ((L.length:Nat):Int))):=if_pos hL
   have hb:=tmod_len hn.1 hL
   refine ⟨by omega,hb,intAt (by omega) (by omega),by omega,vI64 (by omega),trivial,fun H' hl _=>kPick _ _ (by omega) (by omega) (by omega),rfl,?_,⟨⟨rfl,digO _ _ _⟩,trivial⟩,trivial⟩
   unfold dN
   rw[hd];exact wk_refl _
  ·have hd:dVal L n=0:=if_neg (by omega)
   refine ⟨vI64 (by omega),trivial,fun H' hl _=>kPick _ _ (by omega) (by omega) (by omega),rfl,?_,⟨⟨rfl,digO _ _ _⟩,trivial⟩,trivial⟩
   unfold dN
   rw[hd];exact wk_refl _
 rw[List.append_nil]at key
 exact key
abbrev je6(p:Pl):KObj:=.cells false 0 (p.land.flatMap boolC)
abbrev je4(p:Pl):=errBas p.w p.h p.land.length
abbrev je2(p:Pl):Int:=(p.cts.length:Nat)
abbrev je5(p:Pl):Prop:=eR (pt 7)/\wR (slQ 2 2 p.cts.length)/\eR (nI (je2 p))/\True
abbrev je1(p:Pl)(x2:Nat):Value:=.agg #[nI (p.cts.getD x2 zCh).w,nI (p.cts.getD x2 zCh).h,nI (p.cts.getD x2 zCh).hr,.iface ((List.length (p.cts.getD x2 zCh).cells)+1) (.agg ⟨(List.flatMap cellC (p.cts.getD x2 zCh).cells)⟩)]
abbrev je0(p:Pl)(x2:Nat):=errChart (p.cts.getD x2 zCh).w (p.cts.getD x2 zCh).h (p.cts.getD x2 zCh).hr (p.cts.getD x2 zCh).cells
def Rrcheck(sp:Value)(p:Pl):Prop :=
 (c1q 8 1 (je6 p) 87 [.agg #[nI p.w,nI p.h,slQ 1 2 p.land.length]] (nI (je4 p)) (fk (((je4 p):Int) != 0) ((nI (je4 p):Value)=sp) (c0q 8 44 [nI (je2 p),nI 1,nI 48] (.bool (inB (je2 p) 1 48)) (fk (!(inB (je2 p) 1 48)) ((nI 2:Value)=sp) (lq (0<=List.length p.cts/\errUp (errCht p) 0=0) (true=true/\((nI 0:Value)=nI ((0:Nat):Int)/\je5 p)/\(True)/\(True)/\(True)) (∀x2:Nat,(x2<=List.length p.cts/\errUp (errCht p) x2=0)->(fk (decide (((x2:Int):Int)<(je2 p))) ((ixq (x2:Int) p.cts.length)/\((partA 4 (p.cts.flatMap chC) (0+Int.toNat (x2:Int)*4)=some (je1 p x2))/\(c1q 10 9 (.cells false 0 (List.flatMap cellC (p.cts.getD x2 zCh).cells)) 88 [.agg #[nI (p.cts.getD x2 zCh).w,nI (p.cts.getD x2 zCh).h,nI (p.cts.getD x2 zCh).hr,slQ 9 2 (List.length (p.cts.getD x2 zCh).cells)]] (nI (je0 p x2)) (fk (((je0 p x2):Int) != 0) ((nI (je0 p x2):Value)=sp) (fk (((p.cts.getD x2 zCh).w:Int) != p.w) ((nI 1:Value)=sp) (fk (((p.cts.getD x2 zCh).h:Int) != p.h) ((nI 1:Value)=sp) ((ixq 0 p.cts.length)/\(((p.cts.flatMap chC)[2]?=some (nI (p.cts.getD 0 zCh).hr))/\(nw ((p.cts.getD 0 zCh).hr+(x2:Int)) (fk (((p.cts.getD x2 zCh).hr:Int) != ((p.cts.getD 0 zCh).hr+(x2:Int))) ((nI 11:Value)=sp) (nw ((x2:Int)+1) (∃x2':Nat,(x2'<=List.length p.cts/\errUp (errCht p) x2'=0)/\(List.length p.cts-x2')<(List.length p.cts-x2)/\true=true/\((nI ((x2:Int)+1):Value)=nI (x2':Int)/\je5 p)/\(True)/\(True)/\(True))))))))))))) (fk ((((p.chan.length:Nat):Int):Int) != ((p.land.length:Nat):Int)) ((nI 1:Value)=sp) (c3q 8 4 (.cells false 0 (p.shp.th.flatMap ptC)) 5 (.cells false 0 (p.shp.wa.flatMap ptC)) 6 (.cells false 0 (p.shp.ic.flatMap ptC)) 36 [.agg #[nI p.shp.cls,nI p.shp.pow,nI p.shp.dra,nI p.shp.ton,slQ 4 2 p.shp.th.length,slQ 5 2 p.shp.wa.length,slQ 6 2 p.shp.ic.length,nI p.shp.slow,nI p.shp.brash,nI p.shp.rdg,nI p.shp.prs]] (nI (errShp p.shp)) (fk (((errShp p.shp):Int) != 0) ((nI (errShp p.shp):Value)=sp) (c0q 8 44 [nI p.size,nI 1,nI 500] (.bool (inB p.size 1 500)) (fk (!(inB p.size 1 500)) ((nI 6:Value)=sp) (c1q 8 1 (je6 p) 43 [.agg #[nI p.w,nI p.h,slQ 1 2 p.land.length],nI p.frm] (.bool (seaB p.land p.frm)) (fk (!(seaB p.land p.frm)) ((nI 1:Value)=sp) (c1q 8 1 (je6 p) 43 [.agg #[nI p.w,nI p.h,slQ 1 2 p.land.length],nI p.to] (.bool (seaB p.land p.to)) (fk (!(seaB p.land p.to)) ((nI 1:Value)=sp) ((nI 0:Value)=sp)))))))))))))))))
abbrev je3(p:Pl):List (Nat×KObj):=[(1,.cells false 0 (p.land.flatMap boolC))]
theorem Ercheck(sp:Value)(p:Pl):vF prog msk (dm 0) 100000 true 40 true 47 [.agg #[nI p.w,nI p.h,slQ 1 2 p.land.length,slQ 2 2 p.cts.length,slQ 3 2 p.chan.length,nI p.shp.cls,nI p.shp.pow,nI p.shp.dra,nI p.shp.ton,slQ 4 2 p.shp.th.length,slQ 5 2 p.shp.wa.length,slQ 6 2 p.shp.ic.length,nI p.shp.slow,nI p.shp.brash,nI p.shp.rdg,nI p.shp.prs,nI p.size,nI p.frm,nI p.to]] (readsT 1 [p.land.flatMap boolC,p.cts.flatMap chC,p.chan.flatMap boolC,p.shp.th.flatMap ptC,p.shp.wa.flatMap ptC,p.shp.ic.flatMap ptC]) (some [])
 (.go 3 (.ans (je3 p) (nI (je4 p)) [] (.go 2 (.fork (.auto) (.go 2 (.ans [] (.bool (inB (je2 p) 1 48)) [] (.go 0 (.fork (.auto) (.go 3 (.inv 3 (Nat) (0) [] [] (fun x2=>[(22,nI (x2:Int)),(1,pt 7),(20,slQ 2 2 p.cts.length),(21,nI (je2 p))]) (fun x2=>[]) (fun x2=>[]) (fun x2=>[]) (fun x2=>(x2<=List.length p.cts/\errUp (errCht p) x2=0)) (fun x2=>(List.length p.cts-x2)) (fun x2 => .go 0 (.fork (.go 0 (.need (.val (je1 p x2) (.go 3 (.frz [27] (.ans [(9,.cells false 0 (List.flatMap cellC (p.cts.getD x2 zCh).cells))] (nI (je0 p x2)) [] (.go 3 (.fork (.auto) (.go 6 (.gfork (.auto) (.go 7 (.fork (.auto) (.go 3 (.need (.go 0 (.val (nI (p.cts.getD 0 zCh).hr) (.go 1 (.slot 57 (nI ((p.cts.getD 0 zCh).hr+(x2:Int))) (.go 1 (.fork (.auto) (.go 0 (.slot 59 (nI ((x2:Int)+1)) (.go 0 (.again [])))))))))))))))))))))))) (.go 7 (.fork (.auto) (.go 1 (.ans [(4,.cells false 0 (p.shp.th.flatMap ptC)),(5,.cells false 0 (p.shp.wa.flatMap ptC)),(6,.cells false 0 (p.shp.ic.flatMap ptC))] (nI (errShp p.shp)) [] (.go 3 (.fork (.auto) (.go 1 (.ans [] (.bool (inB p.size 1 500)) [] (.go 1 (.fork (.auto) (.go 3 (.ans (je3 p) (.bool (seaB p.land p.frm)) [] (.go 1 (.gfork (.auto) (.go 3 (.ans (je3 p) (.bool (seaB p.land p.to)) [] (.go 2 (.fork (.auto) (.auto)))))))))))))))))))))))))))))))
 (fun v _ _=>v=sp)=Rrcheck sp p:=by kernel_rfl
end
end Go.Proofs.YtmecpfikljhjaaaDoor
