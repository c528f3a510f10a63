/- What is to be shown of functions. Printed by a program. No condition. -/
import Derived.Test.YthcjliffpebjaaaGreatGX0xS4a
import Derived.Test.YthcjliffpebjaaaGreatGV11xV14
open Go Go.K
set_option maxRecDepth 1000000
set_option maxHeartbeats 4000000
set_option linter.unusedVariables false
set_option linter.unusedSimpArgs false
namespace Go.Proofs.YthcjliffpebjaaaGreat
noncomputable section
attribute [local irreducible] vF
abbrev jr4(xs:List Ice):Prop:=wR (slQ 0 2 xs.length)/\eR (pt 1)/\wR (slQ 0 2 xs.length)/\eR (nI ((xs.length:Nat):Int))/\True
abbrev jr5:Prop:=(True)/\(True)/\(True)
abbrev jr0(qN0:List Ice)(qn0:Nat):Value:=.agg #[nI (qN0.getD qn0 ar).ae,nI (qN0.getD qn0 ar).ab,nI (qN0.getD qn0 ar).aa,nI (qN0.getD qn0 ar).ac]
abbrev jr2(xs:List Ice)(Z:Nat):Prop:=eR (nI ((xs.length:Nat):Int))/\wR (slQ 0 2 xs.length)/\eR (pt 1)/\wR (slQ 0 2 xs.length)/\eR (nI (Z:Int))/\eR (pt 3)/\eR (nI (Z:Int))/\wR (slQ 0 2 Z)/\eR (nI (Z:Int))/\True
abbrev jr3(xs:List Ice)(n_3:Nat):=xs.getD n_3 ar
abbrev jr1:Value:=.tuple #[.bool false,nI 0]
def Be(sp:Value)(xs:List Ice)(m:af):Prop :=
 (fk (decide ((400:Int)<((xs.length:Nat):Int))) ((.tuple #[.bool false,nI 2]:Value)=sp) (∃i_0:Int,(c1q 2 0 (.cells false 0 (xs.flatMap bB)) 114 [slQ 0 2 xs.length,.func (.func 29) #[] #[]] (nI i_0) (∃i_1:Int,(c0q 2 31 [.agg #[nI m.up.ae,nI m.up.ab,nI m.up.aa,nI m.up.ac,nI m.down.ae,nI m.down.ab,nI m.down.aa,nI m.down.ac]] (nI i_1) (fk ((i_0:Int) != 0) ((.bool ((i_0:Int) != 0):Value) = .bool true/\(.tuple #[.bool false,nI i_0]:Value)=sp) (fk ((i_1:Int) != 0) ((.bool ((i_1:Int) != 0):Value) = .bool true/\(.tuple #[.bool false,nI i_1]:Value)=sp) (lq (0<=List.length xs/\upto xs m 0) (true=true/\((nI 0:Value)=nI ((0:Nat):Int)/\jr4 xs)/\jr5) (∀Z:Nat,(Z<=List.length xs/\upto xs m Z)->(fk (decide (((Z:Int):Int)<((xs.length:Nat):Int))) ((ixq (Z:Int) xs.length)/\((cu 4 (xs.flatMap bB) (0+Int.toNat (Z:Int)*4)=some (jr0 xs Z))/\((((false=false∨0=0∨0=4)/\(Z:Int).toNat<=xs.length)/\((0:Int)<=(Z:Int)/\((Z:Int):Int)<=((xs.length:Nat):Int))/\(0<=(Z:Int).toNat))/\((slQ 0 2 ((Z:Int).toNat-0):Value)=slQ 0 2 Z/\(lq (0<=Z/\row xs m Z 0) (true=true/\((nI 0:Value)=nI ((0:Nat):Int)/\jr2 xs Z)/\jr5) (∀n_3:Nat,(n_3<=Z/\row xs m Z n_3)->(fk (decide (((n_3:Int):Int)<(Z:Int))) ((ixq (n_3:Int) Z)/\((cu 4 (xs.flatMap bB) (0+Int.toNat (n_3:Int)*4)=some (jr0 xs n_3))/\(nw ((Z:Int)-(n_3:Int)) (∃i_4:Int,(c0q 15 149 [nI m.down.ae,nI ((Z:Int)-(n_3:Int))] (nI i_4) (nw ((jr3 xs n_3).ae-i_4) (∃i_5:Int,bw (if (0:Int) > ((jr3 xs n_3).ae-i_4) then (0:Int) else ((jr3 xs n_3).ae-i_4)) i_5/\(∃i_6:Int,(c0q 15 149 [nI m.up.ae,nI ((Z:Int)-(n_3:Int))] (nI i_6) (nw ((jr3 xs n_3).ae+i_6) (∃i_7:Int,bw (if (100:Int)<((jr3 xs n_3).ae+i_6) then (100:Int) else ((jr3 xs n_3).ae+i_6)) i_7/\(∃i_8:Int,(c0q 15 149 [nI m.down.ab,nI ((Z:Int)-(n_3:Int))] (nI i_8) (nw ((jr3 xs n_3).ab-i_8) (∃i_9:Int,bw (if (0:Int) > ((jr3 xs n_3).ab-i_8) then (0:Int) else ((jr3 xs n_3).ab-i_8)) i_9/\(∃fj:Int,(c0q 15 149 [nI m.up.ab,nI ((Z:Int)-(n_3:Int))] (nI fj) (nw ((jr3 xs n_3).ab+fj) (∃gn:Int,bw (if (400:Int)<((jr3 xs n_3).ab+fj) then (400:Int) else ((jr3 xs n_3).ab+fj)) gn/\(∃eZ:Int,(c0q 15 149 [nI m.down.aa,nI ((Z:Int)-(n_3:Int))] (nI eZ) (nw ((jr3 xs n_3).aa-eZ) (∃gk:Int,bw (if (0:Int) > ((jr3 xs n_3).aa-eZ) then (0:Int) else ((jr3 xs n_3).aa-eZ)) gk/\(∃eL:Int,(c0q 15 149 [nI m.up.aa,nI ((Z:Int)-(n_3:Int))] (nI eL) (nw ((jr3 xs n_3).aa+eL) (∃gW:Int,bw (if (100:Int)<((jr3 xs n_3).aa+eL) then (100:Int) else ((jr3 xs n_3).aa+eL)) gW/\(∃lJ:Int,(c0q 15 149 [nI m.down.ac,nI ((Z:Int)-(n_3:Int))] (nI lJ) (nw ((jr3 xs n_3).ac-lJ) (∃uj:Int,bw (if (0:Int) > ((jr3 xs n_3).ac-lJ) then (0:Int) else ((jr3 xs n_3).ac-lJ)) uj/\(∃Cj:Int,(c0q 15 149 [nI m.up.ac,nI ((Z:Int)-(n_3:Int))] (nI Cj) (nw ((jr3 xs n_3).ac+Cj) (∃Ci:Int,bw (if (3:Int)<((jr3 xs n_3).ac+Cj) then (3:Int) else ((jr3 xs n_3).ac+Cj)) Ci/\(fk (decide ((i_5:Int)<=(xs.getD Z ar).ae)) (fk (!(decide (((xs.getD Z ar).ae:Int)<=i_7))) (jr1=sp) (fk (decide ((i_9:Int)<=(xs.getD Z ar).ab)) (fk (!(decide (((xs.getD Z ar).ab:Int)<=gn))) (jr1=sp) (fk (decide ((gk:Int)<=(xs.getD Z ar).aa)) (fk (!(decide (((xs.getD Z ar).aa:Int)<=gW))) (jr1=sp) (fk (decide ((uj:Int)<=(xs.getD Z ar).ac)) (fk (!(decide (((xs.getD Z ar).ac:Int)<=Ci))) (jr1=sp) (nw ((n_3:Int)+1) (∃C8:Nat,(C8<=Z/\row xs m Z C8)/\(Z-C8)<(Z-n_3)/\true=true/\((nI ((n_3:Int)+1):Value)=nI (C8:Int)/\jr2 xs Z)/\jr5))) (jr1=sp))) (jr1=sp))) (jr1=sp))) (jr1=sp))))))))))))))))))))))))))))))))))))) (nw ((Z:Int)+1) (∃aQ:Nat,(aQ<=List.length xs/\upto xs m aQ)/\(List.length xs-aQ)<(List.length xs-Z)/\true=true/\((nI ((Z:Int)+1):Value)=nI (aQ:Int)/\jr4 xs)/\jr5))))))))) ((.tuple #[.bool true,nI 0]:Value)=sp)))))))))))
theorem I7(sp:Value)(xs:List Ice)(m:af):vE 46 [slQ 0 2 xs.length,.agg #[nI m.up.ae,nI m.up.ab,nI m.up.aa,nI m.up.ac,nI m.down.ae,nI m.down.ab,nI m.down.aa,nI m.down.ac]] (aH 0 [xs.flatMap bB]) (some [])
 (.go 5 (.fork (.auto) (.go 1 (.bind (Int) (fun r0 => .ans [(0,.cells false 0 (xs.flatMap bB))] (nI r0) [] (.bind (Int) (fun r1 => .ans [] (nI r1) [] (.go 12 (.fork (.go 4 (.slot 22 (.bool true) (.auto))) (.go 8 (.fork (.go 4 (.slot 22 (.bool true) (.auto))) (.go 11 (.inv 3 (Nat) (0) [] [] (fun J=>[(26,nI (J:Int)),(0,slQ 0 2 xs.length),(3,pt 1),(24,slQ 0 2 xs.length),(25,nI ((xs.length:Nat):Int))]) (fun J=>[]) (fun J=>[]) (fun J=>[]) (fun J=>(J<=List.length xs/\upto xs m J)) (fun J=>(List.length xs-J)) (fun J => .go 0 (.fork (.go 0 (.need (.val (jr0 xs J) (.go 4 (.need (.slot 33 (slQ 0 2 J) (.go 1 (.inv 3 (Nat) (0) [] [] (fun U=>[(35,nI (U:Int)),(25,nI ((xs.length:Nat):Int)),(24,slQ 0 2 xs.length),(3,pt 1),(0,slQ 0 2 xs.length),(26,nI (J:Int)),(8,pt 3),(7,nI (J:Int)),(33,slQ 0 2 J),(34,nI (J:Int))]) (fun U=>[]) (fun U=>[]) (fun U=>[]) (fun U=>(U<=J/\row xs m J U)) (fun U=>(J-U)) (fun U => .go 0 (.fork (.go 0 (.need (.val (jr0 xs U) (.go 23 (.slot 47 (nI ((J:Int)-(U:Int))) (.go 162 (.bind (Int) (fun r4 => .ans [] (nI r4) [] (.go 0 (.slot 16 (nI ((xs.getD U ar).ae-r4)) (.go 0 (.bind Int (fun i_2 => .slot 17 (nI i_2) (.bind (Int) (fun r6 => .ans [] (nI r6) [] (.go 0 (.slot 27 (nI ((xs.getD U ar).ae+r6)) (.go 5 (.bind Int (fun i_3 => .slot 31 (nI i_3) (.go 31 (.bind (Int) (fun r8 => .ans [] (nI r8) [] (.go 0 (.slot 16 (nI ((xs.getD U ar).ab-r8)) (.go 0 (.bind Int (fun i_4 => .slot 17 (nI i_4) (.bind (Int) (fun r10 => .ans [] (nI r10) [] (.go 0 (.slot 27 (nI ((xs.getD U ar).ab+r10)) (.go 5 (.bind Int (fun i_5 => .slot 31 (nI i_5) (.go 31 (.bind (Int) (fun r12 => .ans [] (nI r12) [] (.go 0 (.slot 16 (nI ((xs.getD U ar).aa-r12)) (.go 0 (.bind Int (fun i_6 => .slot 17 (nI i_6) (.bind (Int) (fun r14 => .ans [] (nI r14) [] (.go 0 (.slot 27 (nI ((xs.getD U ar).aa+r14)) (.go 5 (.bind Int (fun i_7 => .slot 31 (nI i_7) (.go 31 (.bind (Int) (fun r16 => .ans [] (nI r16) [] (.go 0 (.slot 16 (nI ((xs.getD U ar).ac-r16)) (.go 0 (.bind Int (fun i_8 => .slot 17 (nI i_8) (.bind (Int) (fun r18 => .ans [] (nI r18) [] (.go 0 (.slot 27 (nI ((xs.getD U ar).ac+r18)) (.go 5 (.bind Int (fun i_9 => .slot 31 (nI i_9) (.go 63 (.am (.go 6 (.fork (.auto) (.go 26 (.am (.go 6 (.fork (.auto) (.go 26 (.am (.go 6 (.fork (.auto) (.go 26 (.am (.go 6 (.fork (.auto) (.go 8 (.slot 52 (nI ((U:Int)+1)) (.go 0 (.again [])))))) (.auto))))) (.auto))))) (.auto))))) (.auto)))))))))))))))))))))))))))))))))))))))))))))))))))))))))))))))))))) (.go 0 (.slot 53 (nI ((J:Int)+1)) (.go 0 (.again [])))))))))))))) (.auto))))))))))))))))
 (fun v _ _=>v=sp)=Be sp xs m:=by kernel_rfl
theorem ru{t:Int}{Q:Int->Prop}(h:∀y,y=t->Q y):∃y:Int,(nI t)=nI y/\Q y:=⟨t,rfl,h t rfl⟩
theorem nd1{p:Prop}[Decidable p](h:(!decide p)=true):¬ p:=by simpa using h
theorem nd2{p:Prop}[Decidable p](h:(!decide p)=false):p:=by simpa using h
theorem iY{α:Type}{e:α->Int}:∀{xs:List α},errs e xs=0->∀x∈xs,e x=0
 | [],_,x,h=>by cases h
 |y :: r,he,x,h=>by
  unfold errs at he
  split at he
  ·rename_i h0
   rcases List.mem_cons.1 h with rfl|h
   ·exact h0
   ·exact iY he x h
  ·rename_i h0;exact absurd he h0
theorem ki{α:Type}{xs:List α}{d:α}{k:Nat}(h:k<xs.length):xs.getD k d∈xs:=by
 rw[List.getD_eq_getElem?_getD,List.getElem?_eq_getElem h];exact List.getElem_mem h
theorem Ez{xs:List Ice}{m:af}{n:Nat}(h:upto xs m n)(hr:row xs m n n):upto xs m (n+1):=by
 intro t ht
 rcases Nat.lt_or_ge t n with h1|h1
 ·exact h t h1
 ·obtain rfl:t=n:=Om
  exact hr
theorem Gw{xs:List Ice}{m:af}{t n:Nat}(h:row xs m t n)(hp:zd m (xs.getD n ar) (xs.getD t ar) ((t:Int)-(n:Int))):row xs m t (n+1):=by
 intro s hs
 rcases Nat.lt_or_ge s n with h1|h1
 ·exact h s h1
 ·obtain rfl:s=n:=Om
  exact hp
theorem uD{xs:List Ice}{m:af}(h:400<xs.length):cA xs m=(false,2):=by unfold cA;rw[if_pos h]
theorem uC{xs:List Ice}{m:af}(h:¬ 400<xs.length)(h1:¬ errs bF xs=0):cA xs m=(false,errs bF xs):=by unfold cA;rw[if_neg h,dL h1,if_neg h1]
theorem uB{xs:List Ice}{m:af}(h:¬ 400<xs.length)(h1:errs bF xs=0)(h2:¬ aM m=0):cA xs m=(false,aM m):=by unfold cA;rw[if_neg h,bi h1,if_neg h2]
theorem uA{xs:List Ice}{m:af}(h:¬ 400<xs.length)(h1:errs bF xs=0)(h2:aM m=0)(h3:¬ upto xs m xs.length):cA xs m=(false,0):=by
 unfold cA;rw[if_neg h,bi h1,if_pos h2];simp[h3]
theorem uz{xs:List Ice}{m:af}(h:¬ 400<xs.length)(h1:errs bF xs=0)(h2:aM m=0)(h3:upto xs m xs.length):cA xs m=(true,0):=by
 unfold cA;rw[if_neg h,bi h1,if_pos h2];simp[h3]
theorem Hi(xs:List Ice)(m:af)(hn:xs.length<=2 ^ 30){H:Heap}{id:Nat}{own:Bool}{z:Nat}(hid:H[id]?=some (.cells own z (xs.flatMap bB))) :
  ak prog F.zZ [slQ id 2 xs.length,ao m] H [] (Is (.tuple #[.bool (cA xs m).1,nI (cA xs m).2]) H):=by
 refine ix (Eq.mpr (I7 _ xs m) ?_) (cU (cD (fun _=>rfl) xs)) rfl [id] rfl (cT hid)
 delta Be jr4 jr5 jr0 jr2 jr3 jr1 nI slQ pt fk nw bw eR wR ixq lq c0q c1q
 refine ⟨fun h=>dR (uD (by have:=cc h;omega)),fun h =>?_⟩
 have h0:¬ 400<xs.length:=by have:=dG h;omega
 refine ⟨_,⟨rfl,trivial⟩,fun H' _ hd=>Dd xs hn hd.1,_,trivial,fun H' _ _=>eW m H',fun g=>⟨vC g,dR (uC h0 (by simpa using g))⟩,fun g=>⟨fun g2=>⟨vC g2,dR (uB h0 (by simpa using g) (by simpa using g2))⟩,fun g2 =>?_⟩⟩
 have k0:errs bF xs=0:=by simpa using g
 have k1:aM m=0:=by simpa using g2
 obtain ⟨⟨u1,u2,u3,u4⟩,d1,d2,d3,d4⟩:=dc.1 k1
 refine ⟨rfl,⟨Nat.zero_le _,fun t ht=>absurd ht (Nat.not_lt_zero _)⟩,⟨rfl,⟨rfl,ad _,rfl,ad _,rfl,trivial⟩,trivial,trivial,trivial⟩,fun _=>rfl,?_⟩
 rintro t ⟨ht,hu⟩
 refine ⟨fun h =>?_,fun h =>?_⟩
 ·have hlt:t<xs.length:=by have:=cc h;omega
  refine ⟨⟨Om,Om⟩,dF hlt,⟨⟨.inl rfl,by rw[Int.toNat_natCast];omega⟩,⟨Om,Om⟩,Nat.zero_le _⟩,by simp,rfl,⟨Nat.zero_le _,fun s hs=>absurd hs (Nat.not_lt_zero _)⟩,⟨rfl,⟨rfl,rfl,ad _,rfl,ad _,rfl,rfl,rfl,ad _,rfl,trivial⟩,trivial,trivial,trivial⟩,fun _=>rfl,?_⟩
  rintro s ⟨hs,hr⟩
  refine ⟨fun h =>?_,fun h =>?_⟩
  ·have hst:s<t:=by have:=cc h;omega
   have hh:(0:Int)<=(t:Int)-(s:Int)/\(t:Int)-(s:Int)<=10000:=Om
   refine ⟨⟨Om,Om⟩,dF Om,v64 Om,?_⟩
   obtain ⟨i1,i2,i3,i4⟩:=lc.1 (iY k0 _ (ki (d:=ar) (show s<xs.length by omega)))
   obtain ⟨j1,j2,j3,j4⟩:=lc.1 (iY k0 _ (ki (d:=ar) hlt))
   have bd:=fun (r:Int) (hr:0<=r/\r<=1000)=>cx hr hh
   have b1:=bd _ d1
   have b2:=bd _ u1
   refine ⟨_,trivial,fun H' _ _=>dJ _ _ d1 hh H',v64 Om,ru fun y1 f1=>⟨_,trivial,fun H' _ _=>dJ _ _ u1 hh H',v64 Om,ru fun y2 f2 =>?_⟩⟩
   have b3:=bd _ d2
   have b4:=bd _ u2
   refine ⟨_,trivial,fun H' _ _=>dJ _ _ d2 hh H',v64 Om,ru fun y3 f3=>⟨_,trivial,fun H' _ _=>dJ _ _ u2 hh H',v64 Om,ru fun y4 f4 =>?_⟩⟩
   have b5:=bd _ d3
   have b6:=bd _ u3
   refine ⟨_,trivial,fun H' _ _=>dJ _ _ d3 hh H',v64 Om,ru fun y5 f5=>⟨_,trivial,fun H' _ _=>dJ _ _ u3 hh H',v64 Om,ru fun y6 f6 =>?_⟩⟩
   have b7:=bd _ d4
   have b8:=bd _ u4
   refine ⟨_,trivial,fun H' _ _=>dJ _ _ d4 hh H',v64 Om,ru fun y7 f7=>⟨_,trivial,fun H' _ _=>dJ _ _ u4 hh H',v64 Om,ru fun y8 f8 =>?_⟩⟩
   have bad:¬ zd m (xs.getD s ar) (xs.getD t ar) ((t:Int)-(s:Int))->(Value.tuple #[.bool false,nI 0]) = .tuple #[.bool (cA xs m).1,nI (cA xs m).2]:=fun hb=>dR (uA h0 k0 k1 (fun hu'=>hb (hu' t hlt s hst)))
   refine ⟨fun c1=>⟨fun c2=>bad (fun q=>by have q:=q.1;replace c2:=nd1 c2;split at f2 <;> omega),fun c2 =>?_⟩,fun c1=>bad (fun q=>by have q:=q.1;have:=dG c1;split at f1 <;> omega)⟩
   replace c1:=cc c1
   replace c2:(xs.getD t ar).ae<=y2:=nd2 c2
   have p1:(xs.getD s ar).ae-chg m.down.ae ((t:Int)-(s:Int))<=(xs.getD t ar).ae/\(xs.getD t ar).ae<=(xs.getD s ar).ae+chg m.up.ae ((t:Int)-(s:Int)):=by
    split at f1 <;> split at f2 <;> omega
   refine ⟨fun c3=>⟨fun c4=>bad (fun q=>by have q:=q.2.1;replace c4:=nd1 c4;split at f4 <;> omega),fun c4 =>?_⟩,fun c3=>bad (fun q=>by have q:=q.2.1;have:=dG c3;split at f3 <;> omega)⟩
   replace c3:=cc c3
   replace c4:(xs.getD t ar).ab<=y4:=nd2 c4
   have p2:(xs.getD s ar).ab-chg m.down.ab ((t:Int)-(s:Int))<=(xs.getD t ar).ab/\(xs.getD t ar).ab<=(xs.getD s ar).ab+chg m.up.ab ((t:Int)-(s:Int)):=by
    split at f3 <;> split at f4 <;> omega
   refine ⟨fun c5=>⟨fun c6=>bad (fun q=>by have q:=q.2.2.1;replace c6:=nd1 c6;split at f6 <;> omega),fun c6 =>?_⟩,fun c5=>bad (fun q=>by have q:=q.2.2.1;have:=dG c5;split at f5 <;> omega)⟩
   replace c5:=cc c5
   replace c6:(xs.getD t ar).aa<=y6:=nd2 c6
   have p3:(xs.getD s ar).aa-chg m.down.aa ((t:Int)-(s:Int))<=(xs.getD t ar).aa/\(xs.getD t ar).aa<=(xs.getD s ar).aa+chg m.up.aa ((t:Int)-(s:Int)):=by
    split at f5 <;> split at f6 <;> omega
   refine ⟨fun c7=>⟨fun c8=>bad (fun q=>by have q:=q.2.2.2;replace c8:=nd1 c8;split at f8 <;> omega),fun c8 =>?_⟩,fun c7=>bad (fun q=>by have q:=q.2.2.2;have:=dG c7;split at f7 <;> omega)⟩
   replace c7:=cc c7
   replace c8:(xs.getD t ar).ac<=y8:=nd2 c8
   have p4:(xs.getD s ar).ac-chg m.down.ac ((t:Int)-(s:Int))<=(xs.getD t ar).ac/\(xs.getD t ar).ac<=(xs.getD s ar).ac+chg m.up.ac ((t:Int)-(s:Int)):=by
    split at f7 <;> split at f8 <;> omega
   exact ⟨v64 Om,s+1,⟨hst,Gw hr ⟨p1,p2,p3,p4⟩⟩,Om,rfl,⟨bu Om,rfl,ad _,rfl,ad _,rfl,rfl,rfl,ad _,rfl,trivial⟩,trivial,trivial,trivial⟩
  ·obtain rfl:s=t:=by have:=dG h;omega
   exact ⟨v64 Om,s+1,⟨hlt,Ez hu hr⟩,Om,rfl,⟨bu Om,ad _,rfl,ad _,rfl,trivial⟩,trivial,trivial,trivial⟩
 ·obtain rfl:t=xs.length:=by have:=dG h;omega
  exact dR (uz h0 k0 k1 hu)
def Gx(xs:List Ice)(m:af)(s n:Nat):Prop:=∀t,s<t->t<n->zd m (xs.getD s ar) (xs.getD t ar) ((t:Int)-(s:Int))
def yJ(xs:List Ice)(m:af)(n:Nat):Prop:=∀s,s<n->Gx xs m s xs.length
theorem EA{xs:List Ice}{m:af}:yJ xs m xs.length ↔ upto xs m xs.length:=by
 constructor
 ·intro h t ht s hs;exact h s Om t hs ht
 ·intro h s _ t h1 h2;exact h t h2 s h1
abbrev js8:Prop:=(True)/\(True)/\(True)
abbrev js4(qn0:Nat)(qN0:List Ice):Prop:=qn0<=List.length qN0/\errs bF qN0=errs bF (qN0.drop qn0)
abbrev js1(qN0:List Ice)(qn0:Nat):Value:=.agg #[nI (qN0.getD qn0 ar).ae,nI (qN0.getD qn0 ar).ab,nI (qN0.getD qn0 ar).aa,nI (qN0.getD qn0 ar).ac]
abbrev js2(qN0:List Ice)(qn0:Nat):Prop:=cu 4 (qN0.flatMap bB) (0+Int.toNat (qn0:Int)*4)=some (js1 qN0 qn0)
abbrev js5(Z n_3:Nat):Int:=((Z+1+n_3):Nat)
abbrev js0(qN0:List Ice)(qn0 qn1:Nat):Value:=.agg #[nI (qN0.getD (qn0+1+qn1) ar).ae,nI (qN0.getD (qn0+1+qn1) ar).ab,nI (qN0.getD (qn0+1+qn1) ar).aa,nI (qN0.getD (qn0+1+qn1) ar).ac]
abbrev js3(qN0:List Ice)(qn0 qn1:Nat):Prop:=cu 4 (qN0.flatMap bB) (0+Int.toNat (((qn0+1+qn1):Nat):Int)*4)=some (js0 qN0 qn0 qn1)
abbrev js7:Value:=.tuple #[.bool false,nI 0]
def wV(sp:Value)(xs:List Ice)(m:af):Prop :=
 (fk (decide ((400:Int)<((xs.length:Nat):Int))) ((.tuple #[.bool false,nI 2]:Value)=sp) (lq (0<=List.length xs/\errs bF xs=errs bF (xs.drop 0)) (true=true/\((nI 0:Value)=nI ((0:Nat):Int)/\wR (slQ 0 2 xs.length)/\eR (pt 1)/\True)/\js8) (∀J:Nat,(js4 J xs)->(fk (decide (((J:Int):Int)<((xs.length:Nat):Int))) ((ixq (J:Int) xs.length)/\((js2 xs J)/\(∃i_1:Int,(c0q 2 30 [.agg #[nI (xs.getD J ar).ae,nI (xs.getD J ar).ab,nI (xs.getD J ar).aa,nI (xs.getD J ar).ac]] (nI i_1) (fk ((i_1:Int) != 0) ((.tuple #[.bool false,nI i_1]:Value)=sp) (nw ((J:Int)+1) (∃bH:Nat,(js4 bH xs)/\(List.length xs-bH)<(List.length xs-J)/\true=true/\((nI ((J:Int)+1):Value)=nI (bH:Int)/\wR (slQ 0 2 xs.length)/\eR (pt 1)/\True)/\js8))))))) (∃i_1:Int,(c0q 2 32 [.agg #[nI m.up.ae,nI m.up.ab,nI m.up.aa,nI m.up.ac,nI m.down.ae,nI m.down.ab,nI m.down.aa,nI m.down.ac]] (nI i_1) (fk ((i_1:Int) != 0) ((.tuple #[.bool false,nI i_1]:Value)=sp) (lq (0<=List.length xs/\yJ xs m 0) (true=true/\((nI 0:Value)=nI ((0:Nat):Int)/\eR (pt 1)/\wR (slQ 0 2 xs.length)/\True)/\js8) (∀Z:Nat,(Z<=List.length xs/\yJ xs m Z)->(fk (decide (((Z:Int):Int)<((xs.length:Nat):Int))) (nw ((Z:Int)+1) (lq (Z+1+0<=List.length xs/\Gx xs m Z (Z+1+0)) (true=true/\((nI ((Z:Int)+1):Value)=nI (((Z+1+0):Nat):Int)/\wR (slQ 0 2 xs.length)/\eR (pt 1)/\eR (nI (Z:Int))/\True)/\js8) (∀n_3:Nat,(Z+1+n_3<=List.length xs/\Gx xs m Z (Z+1+n_3))->(fk (decide (((js5 Z n_3):Int)<((xs.length:Nat):Int))) ((ixq (js5 Z n_3) xs.length)/\((js3 xs Z n_3)/\((ixq (Z:Int) xs.length)/\((js2 xs Z)/\(nw ((xs.getD (Z+1+n_3) ar).ae-(xs.getD Z ar).ae) (∃i_4:Int,bw ((xs.getD (Z+1+n_3) ar).ae-(xs.getD Z ar).ae) i_4/\(nw ((js5 Z n_3)-(Z:Int)) (∃i_5:Int,bw ((js5 Z n_3)-(Z:Int)) i_5/\(∃i_6:Int,(c0q 2 117 [nI m.up.ae,nI i_5] (nI i_6) (fk (decide ((i_6:Int)<i_4)) (js7=sp) (nw (0-i_4) (nw ((js5 Z n_3)-(Z:Int)) (∃i_7:Int,bw ((js5 Z n_3)-(Z:Int)) i_7/\(∃i_8:Int,(c0q 2 117 [nI m.down.ae,nI i_7] (nI i_8) (fk (decide ((i_8:Int)<(0-i_4))) (js7=sp) ((ixq (js5 Z n_3) xs.length)/\((js3 xs Z n_3)/\((ixq (Z:Int) xs.length)/\((js2 xs Z)/\(nw ((xs.getD (Z+1+n_3) ar).ab-(xs.getD Z ar).ab) (∃i_9:Int,bw ((xs.getD (Z+1+n_3) ar).ab-(xs.getD Z ar).ab) i_9/\(nw ((js5 Z n_3)-(Z:Int)) (∃fj:Int,bw ((js5 Z n_3)-(Z:Int)) fj/\(∃gn:Int,(c0q 2 117 [nI m.up.ab,nI fj] (nI gn) (fk (decide ((gn:Int)<i_9)) (js7=sp) (nw (0-i_9) (nw ((js5 Z n_3)-(Z:Int)) (∃eZ:Int,bw ((js5 Z n_3)-(Z:Int)) eZ/\(∃gk:Int,(c0q 2 117 [nI m.down.ab,nI eZ] (nI gk) (fk (decide ((gk:Int)<(0-i_9))) (js7=sp) ((ixq (js5 Z n_3) xs.length)/\((js3 xs Z n_3)/\((ixq (Z:Int) xs.length)/\((js2 xs Z)/\(nw ((xs.getD (Z+1+n_3) ar).aa-(xs.getD Z ar).aa) (∃eL:Int,bw ((xs.getD (Z+1+n_3) ar).aa-(xs.getD Z ar).aa) eL/\(nw ((js5 Z n_3)-(Z:Int)) (∃gW:Int,bw ((js5 Z n_3)-(Z:Int)) gW/\(∃lJ:Int,(c0q 2 117 [nI m.up.aa,nI gW] (nI lJ) (fk (decide ((lJ:Int)<eL)) (js7=sp) (nw (0-eL) (nw ((js5 Z n_3)-(Z:Int)) (∃uj:Int,bw ((js5 Z n_3)-(Z:Int)) uj/\(∃Cj:Int,(c0q 2 117 [nI m.down.aa,nI uj] (nI Cj) (fk (decide ((Cj:Int)<(0-eL))) (js7=sp) ((ixq (js5 Z n_3) xs.length)/\((js3 xs Z n_3)/\((ixq (Z:Int) xs.length)/\((js2 xs Z)/\(nw ((xs.getD (Z+1+n_3) ar).ac-(xs.getD Z ar).ac) (∃Ci:Int,bw ((xs.getD (Z+1+n_3) ar).ac-(xs.getD Z ar).ac) Ci/\(nw ((js5 Z n_3)-(Z:Int)) (∃Ol:Int,bw ((js5 Z n_3)-(Z:Int)) Ol/\(∃Ok:Int,(c0q 2 117 [nI m.up.ac,nI Ol] (nI Ok) (fk (decide ((Ok:Int)<Ci)) (js7=sp) (nw (0-Ci) (nw ((js5 Z n_3)-(Z:Int)) (∃Oj:Int,bw ((js5 Z n_3)-(Z:Int)) Oj/\(∃Oi:Int,(c0q 2 117 [nI m.down.ac,nI Oj] (nI Oi) (fk (decide ((Oi:Int)<(0-Ci))) (js7=sp) (nw ((js5 Z n_3)+1) (∃C7:Nat,(Z+1+C7<=List.length xs/\Gx xs m Z (Z+1+C7))/\(List.length xs-C7)<(List.length xs-n_3)/\true=true/\((nI ((js5 Z n_3)+1):Value)=nI (((Z+1+C7):Nat):Int)/\wR (slQ 0 2 xs.length)/\eR (pt 1)/\eR (nI (Z:Int))/\True)/\js8)))))))))))))))))))))))))))))))))))))))))))))))))))))))))))))))))))))) (nw ((Z:Int)+1) (∃aQ:Nat,(aQ<=List.length xs/\yJ xs m aQ)/\(List.length xs-aQ)<(List.length xs-Z)/\true=true/\((nI ((Z:Int)+1):Value)=nI (aQ:Int)/\eR (pt 1)/\wR (slQ 0 2 xs.length)/\True)/\js8)))))) ((.tuple #[.bool true,nI 0]:Value)=sp)))))))))))
abbrev js6(U Z:Nat):=nI ((((U+1+Z):Nat):Int)-(U:Int))
theorem F7(sp:Value)(xs:List Ice)(m:af):vE 47 [slQ 0 2 xs.length,.agg #[nI m.up.ae,nI m.up.ab,nI m.up.aa,nI m.up.ac,nI m.down.ae,nI m.down.ab,nI m.down.aa,nI m.down.ac]] (aH 0 [xs.flatMap bB]) (some [])
 (.go 5 (.fork (.auto) (.go 0 (.inv 3 (Nat) (0) [] [] (fun J=>[(6,nI (J:Int)),(0,slQ 0 2 xs.length),(3,pt 1)]) (fun J=>[]) (fun J=>[]) (fun J=>[]) (fun J=>(js4 J xs)) (fun J=>(List.length xs-J)) (fun J => .go 3 (.fork (.go 1 (.need (.val (js1 xs J) (.bind (Int) (fun r1 => .ans [] (nI r1) [] (.go 2 (.fork (.auto) (.go 1 (.slot 21 (nI ((J:Int)+1)) (.go 0 (.again []))))))))))) (.go 0 (.bind (Int) (fun r1 => .ans [] (nI r1) [] (.go 2 (.fork (.auto) (.go 0 (.inv 3 (Nat) (0) [] [] (fun U=>[(9,nI (U:Int)),(3,pt 1),(0,slQ 0 2 xs.length)]) (fun U=>[]) (fun U=>[]) (fun U=>[]) (fun U=>(U<=List.length xs/\yJ xs m U)) (fun U=>(List.length xs-U)) (fun U => .go 3 (.fork (.go 1 (.slot 42 (nI ((U:Int)+1)) (.go 0 (.inv 3 (Nat) (0) [] [] (fun Z=>[(10,nI (((U+1+Z):Nat):Int)),(0,slQ 0 2 xs.length),(3,pt 1),(9,nI (U:Int))]) (fun Z=>[]) (fun Z=>[]) (fun Z=>[]) (fun Z=>(U+1+Z<=List.length xs/\Gx xs m U (U+1+Z))) (fun Z=>(List.length xs-Z)) (fun Z => .go 3 (.fork (.go 5 (.need (.val (js0 xs U Z) (.go 2 (.need (.val (js1 xs U) (.go 21 (.slot 65 (nI ((xs.getD (U+1+Z) ar).ae-(xs.getD U ar).ae)) (.bind Int (fun i_3 => .slot 65 (nI i_3) (.go 17 (.slot 73 (js6 U Z) (.bind Int (fun i_4 => .slot 73 (nI i_4) (.bind (Int) (fun r6 => .ans [] (nI r6) [] (.go 1 (.am (.auto) (.go 1 (.slot 78 (nI (0-i_3)) (.go 15 (.slot 85 (js6 U Z) (.bind Int (fun i_5 => .slot 85 (nI i_5) (.bind (Int) (fun r8 => .ans [] (nI r8) [] (.go 1 (.fork (.auto) (.go 7 (.need (.val (js0 xs U Z) (.go 2 (.need (.val (js1 xs U) (.go 27 (.slot 65 (nI ((xs.getD (U+1+Z) ar).ab-(xs.getD U ar).ab)) (.bind Int (fun i_6 => .slot 65 (nI i_6) (.go 20 (.slot 73 (js6 U Z) (.bind Int (fun i_7 => .slot 73 (nI i_7) (.bind (Int) (fun r11 => .ans [] (nI r11) [] (.go 1 (.am (.auto) (.go 1 (.slot 78 (nI (0-i_6)) (.go 18 (.slot 85 (js6 U Z) (.bind Int (fun i_8 => .slot 85 (nI i_8) (.bind (Int) (fun r13 => .ans [] (nI r13) [] (.go 1 (.fork (.auto) (.go 7 (.need (.val (js0 xs U Z) (.go 2 (.need (.val (js1 xs U) (.go 33 (.slot 65 (nI ((xs.getD (U+1+Z) ar).aa-(xs.getD U ar).aa)) (.bind Int (fun i_9 => .slot 65 (nI i_9) (.go 23 (.slot 73 (js6 U Z) (.bind Int (fun fj => .slot 73 (nI fj) (.bind (Int) (fun r16 => .ans [] (nI r16) [] (.go 1 (.am (.auto) (.go 1 (.slot 78 (nI (0-i_9)) (.go 21 (.slot 85 (js6 U Z) (.bind Int (fun gn => .slot 85 (nI gn) (.bind (Int) (fun r18 => .ans [] (nI r18) [] (.go 1 (.fork (.auto) (.go 7 (.need (.val (js0 xs U Z) (.go 2 (.need (.val (js1 xs U) (.go 33 (.slot 65 (nI ((xs.getD (U+1+Z) ar).ac-(xs.getD U ar).ac)) (.bind Int (fun eZ => .slot 65 (nI eZ) (.go 23 (.slot 73 (js6 U Z) (.bind Int (fun gk => .slot 73 (nI gk) (.bind (Int) (fun r21 => .ans [] (nI r21) [] (.go 1 (.am (.auto) (.go 1 (.slot 78 (nI (0-eZ)) (.go 21 (.slot 85 (js6 U Z) (.bind Int (fun eL => .slot 85 (nI eL) (.bind (Int) (fun r23 => .ans [] (nI r23) [] (.go 1 (.fork (.auto) (.go 7 (.slot 48 (nI ((((U+1+Z):Nat):Int)+1)) (.go 0 (.again [])))))))))))))))))))))))))))))))))))))))))))))))))))))))))))))))))))))))))))))))))))))))))))))))))))))))))))))))))))) (.go 1 (.slot 40 (nI ((U:Int)+1)) (.go 0 (.again [])))))))))) (.auto))))))))))))))))
 (fun v _ _=>v=sp)=wV sp xs m:=by kernel_rfl
theorem Fa(xs:List Ice)(m:af)(hn:xs.length<=2 ^ 30){H:Heap}{id:Nat}{own:Bool}{z:Nat}(hid:H[id]?=some (.cells own z (xs.flatMap bB))) :
  ak prog F.lU [slQ id 2 xs.length,ao m] H [] (Is (.tuple #[.bool (cA xs m).1,nI (cA xs m).2]) H):=by
 refine ix (Eq.mpr (F7 _ xs m) ?_) (cU (cD (fun _=>rfl) xs)) rfl [id] rfl (cT hid)
 delta wV js8 js4 js2 js5 js3 js7 js0 js1 nI slQ pt fk nw bw eR wR ixq lq c0q
 refine ⟨fun h=>dR (uD (by have:=cc h;omega)),fun h =>?_⟩
 have h0:¬ 400<xs.length:=by have:=dG h;omega
 refine ⟨rfl,⟨Nat.zero_le _,rfl⟩,⟨rfl,⟨rfl,ad _,rfl,trivial⟩,trivial,trivial,trivial⟩,fun _=>rfl,?_⟩
 rintro x ⟨hx,he⟩
 refine ⟨fun h =>?_,fun h =>?_⟩
 ·have hlt:x<xs.length:=by have:=cc h;omega
  rw[mP (d:=ar) hlt]at he
  refine ⟨⟨Om,Om⟩,dF hlt,_,trivial,fun H' _ _=>kO _ H',fun h1 =>?_,fun h1 =>?_⟩
  ·have g:¬ bF (xs.getD x ar)=0:=by simpa using h1
   rw[if_neg g]at he
   exact dR ((uC h0 (by rw[he];exact g)).trans (by rw[he]))
  ·have g:bF (xs.getD x ar)=0:=by simpa using h1
   rw[if_pos g]at he
   exact ⟨v64 Om,x+1,⟨hlt,he⟩,Om,rfl,⟨bu Om,ad _,rfl,trivial⟩,trivial,trivial,trivial⟩
 have hge:x=xs.length:=by have:=dG h;omega
 subst hge
 rw[List.drop_length]at he
 have k0:errs bF xs=0:=he
 refine ⟨_,trivial,fun H' _ _=>fh m H',fun g=>dR (uB h0 k0 (by simpa using g)),fun g =>?_⟩
 have k1:aM m=0:=by simpa using g
 obtain ⟨⟨u1,u2,u3,u4⟩,d1,d2,d3,d4⟩:=dc.1 k1
 refine ⟨rfl,⟨Nat.zero_le _,fun s hs=>absurd hs (Nat.not_lt_zero _)⟩,⟨rfl,⟨rfl,rfl,ad _,trivial⟩,trivial,trivial,trivial⟩,fun _=>rfl,?_⟩
 rintro s ⟨hs0,hu⟩
 refine ⟨fun h =>?_,fun h =>?_⟩
 ·have hs:s<xs.length:=by have:=cc h;omega
  refine ⟨v64 Om,rfl,⟨Om,fun t h1 h2=>Om⟩,⟨rfl,⟨bu Om,ad _,rfl,rfl,trivial⟩,trivial,trivial,trivial⟩,fun _=>rfl,?_⟩
  rintro j ⟨hj,hr⟩
  refine ⟨fun h =>?_,fun h =>?_⟩
  ·have hjt:s+1+j<xs.length:=by have:=cc h;omega
   have hh:(0:Int)<=((s+1+j:Nat):Int)-(s:Int)/\((s+1+j:Nat):Int)-(s:Int)<=10000:=Om
   obtain ⟨i1,i2,i3,i4⟩:=lc.1 (iY k0 _ (ki (d:=ar) hs))
   obtain ⟨j1,j2,j3,j4⟩:=lc.1 (iY k0 _ (ki (d:=ar) hjt))
   have bd:=fun (r:Int) (hr:0<=r/\r<=1000)=>cx hr hh
   have bad:¬ zd m (xs.getD s ar) (xs.getD (s+1+j) ar) (((s+1+j:Nat):Int)-(s:Int))->(Value.tuple #[.bool false,nI 0]) = .tuple #[.bool (cA xs m).1,nI (cA xs m).2]:=fun hb=>dR (uA h0 k0 k1 (fun hu'=>hb (hu' (s+1+j) hjt s Om)))
   have b1:=bd _ d1
   have b2:=bd _ u1
   refine ⟨⟨Om,Om⟩,dF hjt,⟨Om,Om⟩,dF hs,v64 Om,_,rfl,v64 Om,_,rfl,_,trivial,fun H' _ _=>cM _ _ u1 hh H',fun c=>bad (fun q=>by have q:=q.1;have:=cc c;omega),fun c1=>⟨v64 Om,v64 Om,_,rfl,_,trivial,fun H' _ _=>cM _ _ d1 hh H',fun c=>bad (fun q=>by have q:=q.1;have:=cc c;omega),fun c2 =>?_⟩⟩
   replace c1:=dG c1
   replace c2:=dG c2
   have b3:=bd _ d2
   have b4:=bd _ u2
   refine ⟨⟨Om,Om⟩,dF hjt,⟨Om,Om⟩,dF hs,v64 Om,_,rfl,v64 Om,_,rfl,_,trivial,fun H' _ _=>cM _ _ u2 hh H',fun c=>bad (fun q=>by have q:=q.2.1;have:=cc c;omega),fun c3=>⟨v64 Om,v64 Om,_,rfl,_,trivial,fun H' _ _=>cM _ _ d2 hh H',fun c=>bad (fun q=>by have q:=q.2.1;have:=cc c;omega),fun c4 =>?_⟩⟩
   replace c3:=dG c3
   replace c4:=dG c4
   have b5:=bd _ d3
   have b6:=bd _ u3
   refine ⟨⟨Om,Om⟩,dF hjt,⟨Om,Om⟩,dF hs,v64 Om,_,rfl,v64 Om,_,rfl,_,trivial,fun H' _ _=>cM _ _ u3 hh H',fun c=>bad (fun q=>by have q:=q.2.2.1;have:=cc c;omega),fun c5=>⟨v64 Om,v64 Om,_,rfl,_,trivial,fun H' _ _=>cM _ _ d3 hh H',fun c=>bad (fun q=>by have q:=q.2.2.1;have:=cc c;omega),fun c6 =>?_⟩⟩
   replace c5:=dG c5
   replace c6:=dG c6
   have b7:=bd _ d4
   have b8:=bd _ u4
   refine ⟨⟨Om,Om⟩,dF hjt,⟨Om,Om⟩,dF hs,v64 Om,_,rfl,v64 Om,_,rfl,_,trivial,fun H' _ _=>cM _ _ u4 hh H',fun c=>bad (fun q=>by have q:=q.2.2.2;have:=cc c;omega),fun c7=>⟨v64 Om,v64 Om,_,rfl,_,trivial,fun H' _ _=>cM _ _ d4 hh H',fun c=>bad (fun q=>by have q:=q.2.2.2;have:=cc c;omega),fun c8 =>?_⟩⟩
   replace c7:=dG c7
   replace c8:=dG c8
   refine ⟨v64 Om,j+1,⟨Om,fun t h1 h2 =>?_⟩,Om,rfl,⟨bu Om,ad _,rfl,rfl,trivial⟩,trivial,trivial,trivial⟩
   rcases Nat.lt_or_ge t (s+1+j) with h3|h3
   ·exact hr t h1 h3
   ·obtain rfl:t=s+1+j:=Om
    exact ⟨Om,Om,Om,Om⟩
  ·have hje:s+1+j=xs.length:=by have:=dG h;omega
   refine ⟨v64 Om,s+1,⟨hs,fun s' hs' =>?_⟩,Om,rfl,⟨bu Om,rfl,ad _,trivial⟩,trivial,trivial,trivial⟩
   rcases Nat.lt_or_ge s' s with h3|h3
   ·exact hu s' h3
   ·obtain rfl:s'=s:=Om
    rw[<- hje];exact hr
 ·obtain rfl:s=xs.length:=by have:=dG h;omega
  exact dR (uz h0 k0 k1 (EA.1 hu))
abbrev jue(qi0 qi1 qi2 qi3 qi4 qi5 qi6 qi7:Int):Value:=.tuple #[.agg #[nI qi0,nI qi1,nI qi2,nI qi3,nI qi4,nI qi5,nI qi6,nI qi7],.bool false]
def D7(sp:Value)(a b:Cell):Prop :=
 (∃i_0:Int,bw (if (b.ae.lo:Int) > a.ae.lo then (b.ae.lo:Int) else a.ae.lo) i_0/\(∃i_1:Int,bw (if (b.ae.hi:Int)<a.ae.hi then (b.ae.hi:Int) else a.ae.hi) i_1/\(∃i_2:Int,bw (if (b.ab.lo:Int) > a.ab.lo then (b.ab.lo:Int) else a.ab.lo) i_2/\(∃i_3:Int,bw (if (b.ab.hi:Int)<a.ab.hi then (b.ab.hi:Int) else a.ab.hi) i_3/\(∃i_4:Int,bw (if (b.aa.lo:Int) > a.aa.lo then (b.aa.lo:Int) else a.aa.lo) i_4/\(∃i_5:Int,bw (if (b.aa.hi:Int)<a.aa.hi then (b.aa.hi:Int) else a.aa.hi) i_5/\(∃i_6:Int,bw (if (b.ac.lo:Int) > a.ac.lo then (b.ac.lo:Int) else a.ac.lo) i_6/\(∃i_7:Int,bw (if (b.ac.hi:Int)<a.ac.hi then (b.ac.hi:Int) else a.ac.hi) i_7/\(fk (!(decide ((i_0:Int)<=i_1))) ((jue i_0 i_1 i_2 i_3 i_4 i_5 i_6 i_7)=sp) (fk (!(decide ((i_2:Int)<=i_3))) ((jue i_0 i_1 i_2 i_3 i_4 i_5 i_6 i_7)=sp) (fk (!(decide ((i_4:Int)<=i_5))) ((jue i_0 i_1 i_2 i_3 i_4 i_5 i_6 i_7)=sp) (fk (!(decide ((i_6:Int)<=i_7))) ((jue i_0 i_1 i_2 i_3 i_4 i_5 i_6 i_7)=sp) ((.tuple #[.agg #[nI i_0,nI i_1,nI i_2,nI i_3,nI i_4,nI i_5,nI i_6,nI i_7],.bool true]:Value)=sp)))))))))))))
abbrev juf(a b:Cell):List Value:=[.agg #[nI a.ae.lo,nI a.ae.hi,nI a.ab.lo,nI a.ab.hi,nI a.aa.lo,nI a.aa.hi,nI a.ac.lo,nI a.ac.hi],.agg #[nI b.ae.lo,nI b.ae.hi,nI b.ab.lo,nI b.ab.hi,nI b.aa.lo,nI b.aa.hi,nI b.ac.lo,nI b.ac.hi]]
abbrev juz:Hint:=.fork (.auto) (.auto)
theorem Kw(sp:Value)(a b:Cell):vE 84 (juf a b) ⟨0,.leaf⟩ (some [])
 (.go 26 (.bind Int (fun i_0 => .slot 13 (nI i_0) (.go 8 (.bind Int (fun i_1 => .slot 22 (nI i_1) (.go 23 (.bind Int (fun i_2 => .slot 13 (nI i_2) (.go 8 (.bind Int (fun i_3 => .slot 22 (nI i_3) (.go 23 (.bind Int (fun i_4 => .slot 13 (nI i_4) (.go 8 (.bind Int (fun i_5 => .slot 22 (nI i_5) (.go 23 (.bind Int (fun i_6 => .slot 13 (nI i_6) (.go 8 (.bind Int (fun i_7 => .slot 22 (nI i_7) (.go 39 (.fork (.auto) (.go 20 (.fork (.auto) (.go 20 (.fork (.auto) (.go 20 juz)))))))))))))))))))))))))))))))
 (fun v _ _=>v=sp)=D7 sp a b:=by kernel_rfl
def D8(sp:Value)(a b:Cell):Prop :=
 (∃i_0:Int,bw (if (b.ae.lo:Int)<a.ae.lo then (b.ae.lo:Int) else a.ae.lo) i_0/\(∃i_1:Int,bw (if (b.ae.hi:Int) > a.ae.hi then (b.ae.hi:Int) else a.ae.hi) i_1/\(∃i_2:Int,bw (if (b.ab.lo:Int)<a.ab.lo then (b.ab.lo:Int) else a.ab.lo) i_2/\(∃i_3:Int,bw (if (b.ab.hi:Int) > a.ab.hi then (b.ab.hi:Int) else a.ab.hi) i_3/\(∃i_4:Int,bw (if (b.aa.lo:Int)<a.aa.lo then (b.aa.lo:Int) else a.aa.lo) i_4/\(∃i_5:Int,bw (if (b.aa.hi:Int) > a.aa.hi then (b.aa.hi:Int) else a.aa.hi) i_5/\(∃i_6:Int,bw (if (b.ac.lo:Int)<a.ac.lo then (b.ac.lo:Int) else a.ac.lo) i_6/\(∃i_7:Int,bw (if (b.ac.hi:Int) > a.ac.hi then (b.ac.hi:Int) else a.ac.hi) i_7/\(.agg #[nI i_0,nI i_1,nI i_2,nI i_3,nI i_4,nI i_5,nI i_6,nI i_7]:Value)=sp))))))))
theorem Kx(sp:Value)(a b:Cell):vE 110 (juf a b) ⟨0,.leaf⟩ (some [])
 (.go 25 (.bind Int (fun i_0 => .slot 13 (nI i_0) (.go 8 (.bind Int (fun i_1 => .slot 22 (nI i_1) (.go 23 (.bind Int (fun i_2 => .slot 13 (nI i_2) (.go 8 (.bind Int (fun i_3 => .slot 22 (nI i_3) (.go 23 (.bind Int (fun i_4 => .slot 13 (nI i_4) (.go 8 (.bind Int (fun i_5 => .slot 22 (nI i_5) (.go 23 (.bind Int (fun i_6 => .slot 13 (nI i_6) (.go 8 (.bind Int (fun i_7 => .slot 22 (nI i_7) (.auto)))))))))))))))))))))))))
 (fun v _ _=>v=sp)=D8 sp a b:=by kernel_rfl
def D9(sp:Value)(c:Cell)(m:af)(h:Int):Prop :=
 (∃i_0:Int,(c0q 9 149 [nI m.down.ae,nI h] (nI i_0) (nw (c.ae.lo-i_0) (∃i_1:Int,bw (if (0:Int) > (c.ae.lo-i_0) then (0:Int) else (c.ae.lo-i_0)) i_1/\(∃i_2:Int,(c0q 9 149 [nI m.up.ae,nI h] (nI i_2) (nw (c.ae.hi+i_2) (∃i_3:Int,bw (if (100:Int)<(c.ae.hi+i_2) then (100:Int) else (c.ae.hi+i_2)) i_3/\(∃i_4:Int,(c0q 9 149 [nI m.down.ab,nI h] (nI i_4) (nw (c.ab.lo-i_4) (∃i_5:Int,bw (if (0:Int) > (c.ab.lo-i_4) then (0:Int) else (c.ab.lo-i_4)) i_5/\(∃i_6:Int,(c0q 9 149 [nI m.up.ab,nI h] (nI i_6) (nw (c.ab.hi+i_6) (∃i_7:Int,bw (if (400:Int)<(c.ab.hi+i_6) then (400:Int) else (c.ab.hi+i_6)) i_7/\(∃i_8:Int,(c0q 9 149 [nI m.down.aa,nI h] (nI i_8) (nw (c.aa.lo-i_8) (∃i_9:Int,bw (if (0:Int) > (c.aa.lo-i_8) then (0:Int) else (c.aa.lo-i_8)) i_9/\(∃fj:Int,(c0q 9 149 [nI m.up.aa,nI h] (nI fj) (nw (c.aa.hi+fj) (∃gn:Int,bw (if (100:Int)<(c.aa.hi+fj) then (100:Int) else (c.aa.hi+fj)) gn/\(∃eZ:Int,(c0q 9 149 [nI m.down.ac,nI h] (nI eZ) (nw (c.ac.lo-eZ) (∃gk:Int,bw (if (0:Int) > (c.ac.lo-eZ) then (0:Int) else (c.ac.lo-eZ)) gk/\(∃eL:Int,(c0q 9 149 [nI m.up.ac,nI h] (nI eL) (nw (c.ac.hi+eL) (∃gW:Int,bw (if (3:Int)<(c.ac.hi+eL) then (3:Int) else (c.ac.hi+eL)) gW/\(.agg #[nI i_1,nI i_3,nI i_5,nI i_7,nI i_9,nI gn,nI gk,nI gW]:Value)=sp))))))))))))))))))))))))))))))))
abbrev juj(c:Cell)(m:af)(h:Int):List Value:=[.agg #[nI c.ae.lo,nI c.ae.hi,nI c.ab.lo,nI c.ab.hi,nI c.aa.lo,nI c.aa.hi,nI c.ac.lo,nI c.ac.hi],.agg #[nI m.up.ae,nI m.up.ab,nI m.up.aa,nI m.up.ac,nI m.down.ae,nI m.down.ab,nI m.down.aa,nI m.down.ac],nI h]
theorem Ky(sp:Value)(c:Cell)(m:af)(h:Int):vE 112 (juj c m h) ⟨0,.leaf⟩ (some [])
 (.go 68 (.bind (Int) (fun r0 => .ans [] (nI r0) [] (.go 0 (.slot 16 (nI (c.ae.lo-r0)) (.go 0 (.bind Int (fun i_0 => .slot 17 (nI i_0) (.bind (Int) (fun r2 => .ans [] (nI r2) [] (.go 0 (.slot 27 (nI (c.ae.hi+r2)) (.go 5 (.bind Int (fun i_1 => .slot 31 (nI i_1) (.go 31 (.bind (Int) (fun r4 => .ans [] (nI r4) [] (.go 0 (.slot 16 (nI (c.ab.lo-r4)) (.go 0 (.bind Int (fun i_2 => .slot 17 (nI i_2) (.bind (Int) (fun r6 => .ans [] (nI r6) [] (.go 0 (.slot 27 (nI (c.ab.hi+r6)) (.go 5 (.bind Int (fun i_3 => .slot 31 (nI i_3) (.go 31 (.bind (Int) (fun r8 => .ans [] (nI r8) [] (.go 0 (.slot 16 (nI (c.aa.lo-r8)) (.go 0 (.bind Int (fun i_4 => .slot 17 (nI i_4) (.bind (Int) (fun r10 => .ans [] (nI r10) [] (.go 0 (.slot 27 (nI (c.aa.hi+r10)) (.go 5 (.bind Int (fun i_5 => .slot 31 (nI i_5) (.go 31 (.bind (Int) (fun r12 => .ans [] (nI r12) [] (.go 0 (.slot 16 (nI (c.ac.lo-r12)) (.go 0 (.bind Int (fun i_6 => .slot 17 (nI i_6) (.bind (Int) (fun r14 => .ans [] (nI r14) [] (.go 0 (.slot 27 (nI (c.ac.hi+r14)) (.go 5 (.bind Int (fun i_7 => .slot 31 (nI i_7) (.auto)))))))))))))))))))))))))))))))))))))))))))))))))))))))))))))
 (fun v _ _=>v=sp)=D9 sp c m h:=by kernel_rfl
abbrev jug(sp:Value):Prop:=(.bool false:Value)=sp
abbrev juq(sp:Value):Prop:=(.bool true:Value)=sp
def Iy(sp:Value)(a b:Cell):Prop :=
 (fk (decide ((b.ae.lo:Int)<=a.ae.lo)) (fk (!(decide ((a.ae.hi:Int)<=b.ae.hi))) (jug sp) (fk (decide ((b.ab.lo:Int)<=a.ab.lo)) (fk (!(decide ((a.ab.hi:Int)<=b.ab.hi))) (jug sp) (fk (decide ((b.aa.lo:Int)<=a.aa.lo)) (fk (!(decide ((a.aa.hi:Int)<=b.aa.hi))) (jug sp) (fk (decide ((b.ac.lo:Int)<=a.ac.lo)) (fk (!(decide ((a.ac.hi:Int)<=b.ac.hi))) (jug sp) (juq sp)) (jug sp))) (jug sp))) (jug sp))) (jug sp))
abbrev juc(qn0 qn1:Nat):Hint:=.am (.go qn0 (.fork (.auto) (.go qn1 (.am (.go qn0 (.fork (.auto) (.go qn1 (.am (.go qn0 (.fork (.auto) (.go qn1 (.am (.go qn0 juz) (.auto))))) (.auto))))) (.auto))))) (.auto)
theorem Nf(sp:Value)(a b:Cell):vE 106 (juf a b) ⟨0,.leaf⟩ (some [])
 (.go 28 (juc 11 19))
 (fun v _ _=>v=sp)=Iy sp a b:=by kernel_rfl
def Iz(sp:Value)(c:Cell)(x:Ice):Prop :=
 (fk (decide ((c.ae.lo:Int)<=x.ae)) (fk (!(decide ((x.ae:Int)<=c.ae.hi))) (jug sp) (fk (decide ((c.ab.lo:Int)<=x.ab)) (fk (!(decide ((x.ab:Int)<=c.ab.hi))) (jug sp) (fk (decide ((c.aa.lo:Int)<=x.aa)) (fk (!(decide ((x.aa:Int)<=c.aa.hi))) (jug sp) (fk (decide ((c.ac.lo:Int)<=x.ac)) (fk (!(decide ((x.ac:Int)<=c.ac.hi))) (jug sp) (juq sp)) (jug sp))) (jug sp))) (jug sp))) (jug sp))
abbrev jut(c:Cell)(x:Ice):List Value:=[.agg #[nI c.ae.lo,nI c.ae.hi,nI c.ab.lo,nI c.ab.hi,nI c.aa.lo,nI c.aa.hi,nI c.ac.lo,nI c.ac.hi],.agg #[nI x.ae,nI x.ab,nI x.aa,nI x.ac]]
theorem Ng(sp:Value)(c:Cell)(x:Ice):vE 104 (jut c x) ⟨0,.leaf⟩ (some [])
 (.go 51 (juc 6 26))
 (fun v _ _=>v=sp)=Iz sp c x:=by kernel_rfl
def Em(sp:Value)(a b:Cell):Prop :=
 (fk (decide ((a.ae.hi:Int)<b.ae.lo)) (juq sp) (fk (decide ((b.ae.hi:Int)<a.ae.lo)) (juq sp) (fk (decide ((a.ab.hi:Int)<b.ab.lo)) (juq sp) (fk (decide ((b.ab.hi:Int)<a.ab.lo)) (juq sp) (fk (decide ((a.aa.hi:Int)<b.aa.lo)) (juq sp) (fk (decide ((b.aa.hi:Int)<a.aa.lo)) (juq sp) (fk (decide ((a.ac.hi:Int)<b.ac.lo)) (juq sp) (fk (decide ((b.ac.hi:Int)<a.ac.lo)) (juq sp) (jug sp)))))))))
abbrev jub(qn0 qn1 qn2 qn3:Nat):Hint:=.am (.auto) (.go qn0 (.fork (.auto) (.go qn1 (.am (.auto) (.go qn2 (.fork (.auto) (.go qn3 (.am (.auto) (.go qn1 (.fork (.auto) (.go qn3 (.am (.auto) (.go qn1 juz)))))))))))))
theorem KM(sp:Value)(a b:Cell):vE 109 (juf a b) ⟨0,.leaf⟩ (some [])
 (.go 34 (jub 27 39 33 45))
 (fun v _ _=>v=sp)=Em sp a b:=by kernel_rfl
abbrev jur(qD0 qD1:Cell):=decide ((qD0.ae.lo:Int)<qD1.ae.lo)
abbrev juh:Prop:=eR (pt 2)/\eR (pt 1)/\eR (pt 0)/\True
abbrev juv:Prop:=eR (pt 3)/\eR (nI 0)/\juh
abbrev jui:Prop:=(True)/\(True)
abbrev jus(qD1 qD0:Cell):=decide ((qD1.ae.hi:Int)<qD0.ae.hi)
abbrev juk(qD0 qD1:Cell):=decide ((qD0.ab.lo:Int)<qD1.ab.lo)
abbrev juw:Prop:=eR (pt 4)/\eR (nI 1)/\juh
abbrev jul(qD1 qD0:Cell):=decide ((qD1.ab.hi:Int)<qD0.ab.hi)
abbrev jum(qD0 qD1:Cell):=decide ((qD0.aa.lo:Int)<qD1.aa.lo)
abbrev jux:Prop:=eR (pt 5)/\eR (nI 2)/\juh
abbrev jun(qD1 qD0:Cell):=decide ((qD1.aa.hi:Int)<qD0.aa.hi)
abbrev juo(qD0 qD1:Cell):=decide ((qD0.ac.lo:Int)<qD1.ac.lo)
abbrev juy:Prop:=eR (pt 6)/\eR (nI 3)/\juh
abbrev jup(qD1 qD0:Cell):=decide ((qD1.ac.hi:Int)<qD0.ac.hi)
abbrev ju0(qD0 qD1 qD2 qD3:Cell)(qv0:Value):Prop:=true=true/\((jur qD0 qD1)=true->(∃Cl:Int,(((jur qD0 qD1)=true/\(Cl:Int)=qD2.ae.lo/\True)∨((jur qD0 qD1)=false/\(Cl:Int)=qD3.ae.lo/\True))/\true=true/\juv/\((kbq 4 (.cells true 0 [nI qD2.ae.lo,nI qD3.ae.hi]) (.cells true 0 [nI Cl,nI qD3.ae.hi]))/\True)/\jui))/\((jur qD0 qD1)=false->(∃Cl:Int,(((jur qD0 qD1)=true/\(Cl:Int)=qD2.ae.lo/\True)∨((jur qD0 qD1)=false/\(Cl:Int)=qD3.ae.lo/\True))/\true=true/\juv/\((kbq 4 (.cells true 0 [nI qD3.ae.lo,nI qD3.ae.hi]) (.cells true 0 [nI Cl,nI qD3.ae.hi]))/\True)/\jui))/\∀i_0:Int,(((jur qD0 qD1)=true/\(i_0:Int)=qD2.ae.lo/\True)∨((jur qD0 qD1)=false/\(i_0:Int)=qD3.ae.lo/\True))->(true=true/\((jus qD1 qD0)=true->(∃Ck:Int,(((jus qD1 qD0)=true/\(Ck:Int)=qD2.ae.hi/\True)∨((jus qD1 qD0)=false/\(Ck:Int)=qD3.ae.hi/\True))/\true=true/\juv/\((kbq 4 (.cells true 0 [nI i_0,nI qD2.ae.hi]) (.cells true 0 [nI i_0,nI Ck]))/\True)/\jui))/\((jus qD1 qD0)=false->(∃Ck:Int,(((jus qD1 qD0)=true/\(Ck:Int)=qD2.ae.hi/\True)∨((jus qD1 qD0)=false/\(Ck:Int)=qD3.ae.hi/\True))/\true=true/\juv/\((kbq 4 (.cells true 0 [nI i_0,nI qD3.ae.hi]) (.cells true 0 [nI i_0,nI Ck]))/\True)/\jui))/\∀i_1:Int,(((jus qD1 qD0)=true/\(i_1:Int)=qD2.ae.hi/\True)∨((jus qD1 qD0)=false/\(i_1:Int)=qD3.ae.hi/\True))->(true=true/\((juk qD0 qD1)=true->(∃jS:Int,(((juk qD0 qD1)=true/\(jS:Int)=qD2.ab.lo/\True)∨((juk qD0 qD1)=false/\(jS:Int)=qD3.ab.lo/\True))/\true=true/\juw/\((kbq 5 (.cells true 0 [nI qD2.ab.lo,nI qD3.ab.hi]) (.cells true 0 [nI jS,nI qD3.ab.hi]))/\True)/\jui))/\((juk qD0 qD1)=false->(∃jS:Int,(((juk qD0 qD1)=true/\(jS:Int)=qD2.ab.lo/\True)∨((juk qD0 qD1)=false/\(jS:Int)=qD3.ab.lo/\True))/\true=true/\juw/\((kbq 5 (.cells true 0 [nI qD3.ab.lo,nI qD3.ab.hi]) (.cells true 0 [nI jS,nI qD3.ab.hi]))/\True)/\jui))/\∀i_2:Int,(((juk qD0 qD1)=true/\(i_2:Int)=qD2.ab.lo/\True)∨((juk qD0 qD1)=false/\(i_2:Int)=qD3.ab.lo/\True))->(true=true/\((jul qD1 qD0)=true->(∃jR:Int,(((jul qD1 qD0)=true/\(jR:Int)=qD2.ab.hi/\True)∨((jul qD1 qD0)=false/\(jR:Int)=qD3.ab.hi/\True))/\true=true/\juw/\((kbq 5 (.cells true 0 [nI i_2,nI qD2.ab.hi]) (.cells true 0 [nI i_2,nI jR]))/\True)/\jui))/\((jul qD1 qD0)=false->(∃jR:Int,(((jul qD1 qD0)=true/\(jR:Int)=qD2.ab.hi/\True)∨((jul qD1 qD0)=false/\(jR:Int)=qD3.ab.hi/\True))/\true=true/\juw/\((kbq 5 (.cells true 0 [nI i_2,nI qD3.ab.hi]) (.cells true 0 [nI i_2,nI jR]))/\True)/\jui))/\∀i_3:Int,(((jul qD1 qD0)=true/\(i_3:Int)=qD2.ab.hi/\True)∨((jul qD1 qD0)=false/\(i_3:Int)=qD3.ab.hi/\True))->(true=true/\((jum qD0 qD1)=true->(∃jQ:Int,(((jum qD0 qD1)=true/\(jQ:Int)=qD2.aa.lo/\True)∨((jum qD0 qD1)=false/\(jQ:Int)=qD3.aa.lo/\True))/\true=true/\jux/\((kbq 6 (.cells true 0 [nI qD2.aa.lo,nI qD3.aa.hi]) (.cells true 0 [nI jQ,nI qD3.aa.hi]))/\True)/\jui))/\((jum qD0 qD1)=false->(∃jQ:Int,(((jum qD0 qD1)=true/\(jQ:Int)=qD2.aa.lo/\True)∨((jum qD0 qD1)=false/\(jQ:Int)=qD3.aa.lo/\True))/\true=true/\jux/\((kbq 6 (.cells true 0 [nI qD3.aa.lo,nI qD3.aa.hi]) (.cells true 0 [nI jQ,nI qD3.aa.hi]))/\True)/\jui))/\∀i_4:Int,(((jum qD0 qD1)=true/\(i_4:Int)=qD2.aa.lo/\True)∨((jum qD0 qD1)=false/\(i_4:Int)=qD3.aa.lo/\True))->(true=true/\((jun qD1 qD0)=true->(∃jP:Int,(((jun qD1 qD0)=true/\(jP:Int)=qD2.aa.hi/\True)∨((jun qD1 qD0)=false/\(jP:Int)=qD3.aa.hi/\True))/\true=true/\jux/\((kbq 6 (.cells true 0 [nI i_4,nI qD2.aa.hi]) (.cells true 0 [nI i_4,nI jP]))/\True)/\jui))/\((jun qD1 qD0)=false->(∃jP:Int,(((jun qD1 qD0)=true/\(jP:Int)=qD2.aa.hi/\True)∨((jun qD1 qD0)=false/\(jP:Int)=qD3.aa.hi/\True))/\true=true/\jux/\((kbq 6 (.cells true 0 [nI i_4,nI qD3.aa.hi]) (.cells true 0 [nI i_4,nI jP]))/\True)/\jui))/\∀i_5:Int,(((jun qD1 qD0)=true/\(i_5:Int)=qD2.aa.hi/\True)∨((jun qD1 qD0)=false/\(i_5:Int)=qD3.aa.hi/\True))->(true=true/\((juo qD0 qD1)=true->(∃jO:Int,(((juo qD0 qD1)=true/\(jO:Int)=qD2.ac.lo/\True)∨((juo qD0 qD1)=false/\(jO:Int)=qD3.ac.lo/\True))/\true=true/\juy/\((kbq 7 (.cells true 0 [nI qD2.ac.lo,nI qD3.ac.hi]) (.cells true 0 [nI jO,nI qD3.ac.hi]))/\True)/\jui))/\((juo qD0 qD1)=false->(∃jO:Int,(((juo qD0 qD1)=true/\(jO:Int)=qD2.ac.lo/\True)∨((juo qD0 qD1)=false/\(jO:Int)=qD3.ac.lo/\True))/\true=true/\juy/\((kbq 7 (.cells true 0 [nI qD3.ac.lo,nI qD3.ac.hi]) (.cells true 0 [nI jO,nI qD3.ac.hi]))/\True)/\jui))/\∀i_6:Int,(((juo qD0 qD1)=true/\(i_6:Int)=qD2.ac.lo/\True)∨((juo qD0 qD1)=false/\(i_6:Int)=qD3.ac.lo/\True))->(true=true/\((jup qD1 qD0)=true->(∃jN:Int,(((jup qD1 qD0)=true/\(jN:Int)=qD2.ac.hi/\True)∨((jup qD1 qD0)=false/\(jN:Int)=qD3.ac.hi/\True))/\true=true/\juy/\((kbq 7 (.cells true 0 [nI i_6,nI qD2.ac.hi]) (.cells true 0 [nI i_6,nI jN]))/\True)/\jui))/\((jup qD1 qD0)=false->(∃jN:Int,(((jup qD1 qD0)=true/\(jN:Int)=qD2.ac.hi/\True)∨((jup qD1 qD0)=false/\(jN:Int)=qD3.ac.hi/\True))/\true=true/\juy/\((kbq 7 (.cells true 0 [nI i_6,nI qD3.ac.hi]) (.cells true 0 [nI i_6,nI jN]))/\True)/\jui))/\∀i_7:Int,(((jup qD1 qD0)=true/\(i_7:Int)=qD2.ac.hi/\True)∨((jup qD1 qD0)=false/\(i_7:Int)=qD3.ac.hi/\True))->(.agg #[nI i_0,nI i_1,nI i_2,nI i_3,nI i_4,nI i_5,nI i_6,nI i_7]:Value)=qv0)))))))
def Bb(sp:Value)(a b:Cell):Prop :=
 (ju0 a b b a sp)
abbrev JC:Hint:=.go 20 (.again [])
abbrev ju1(qD0 qD1 qD2 qD3:Cell):Hint:=.go 36 (.join 3 (Int) [3] (fun i_0=>[(6,pt 3),(5,nI 0),(4,pt 2),(3,pt 1),(2,pt 0)]) (fun i_0=>[(3,true,.cells true 0 [nI i_0,nI qD0.ae.hi])]) (fun i_0=>[]) (fun i_0=>[]) (fun i_0=>(((decide ((qD1.ae.lo:Int)<qD2.ae.lo))=true/\(i_0:Int)=qD3.ae.lo/\True)∨((decide ((qD1.ae.lo:Int)<qD2.ae.lo))=false/\(i_0:Int)=qD0.ae.lo/\True))) (.go 14 (.again [])) (.again []) (fun i_0 => .go 15 (.join 3 (Int) [3] (fun i_1=>[(6,pt 3),(5,nI 0),(4,pt 2),(3,pt 1),(2,pt 0)]) (fun i_1=>[(3,true,.cells true 0 [nI i_0,nI i_1])]) (fun i_1=>[]) (fun i_1=>[]) (fun i_1=>(((decide ((qD2.ae.hi:Int)<qD1.ae.hi))=true/\(i_1:Int)=qD3.ae.hi/\True)∨((decide ((qD2.ae.hi:Int)<qD1.ae.hi))=false/\(i_1:Int)=qD0.ae.hi/\True))) (.go 14 (.again [])) (.again []) (fun i_1 => .go 58 (.join 3 (Int) [4] (fun i_2=>[(6,pt 4),(5,nI 1),(4,pt 2),(3,pt 1),(2,pt 0)]) (fun i_2=>[(4,true,.cells true 0 [nI i_2,nI qD0.ab.hi])]) (fun i_2=>[]) (fun i_2=>[]) (fun i_2=>(((decide ((qD1.ab.lo:Int)<qD2.ab.lo))=true/\(i_2:Int)=qD3.ab.lo/\True)∨((decide ((qD1.ab.lo:Int)<qD2.ab.lo))=false/\(i_2:Int)=qD0.ab.lo/\True))) (.go 17 (.again [])) (.again []) (fun i_2 => .go 18 (.join 3 (Int) [4] (fun i_3=>[(6,pt 4),(5,nI 1),(4,pt 2),(3,pt 1),(2,pt 0)]) (fun i_3=>[(4,true,.cells true 0 [nI i_2,nI i_3])]) (fun i_3=>[]) (fun i_3=>[]) (fun i_3=>(((decide ((qD2.ab.hi:Int)<qD1.ab.hi))=true/\(i_3:Int)=qD3.ab.hi/\True)∨((decide ((qD2.ab.hi:Int)<qD1.ab.hi))=false/\(i_3:Int)=qD0.ab.hi/\True))) (.go 17 (.again [])) (.again []) (fun i_3 => .go 67 (.join 3 (Int) [5] (fun i_4=>[(6,pt 5),(5,nI 2),(4,pt 2),(3,pt 1),(2,pt 0)]) (fun i_4=>[(5,true,.cells true 0 [nI i_4,nI qD0.aa.hi])]) (fun i_4=>[]) (fun i_4=>[]) (fun i_4=>(((decide ((qD1.aa.lo:Int)<qD2.aa.lo))=true/\(i_4:Int)=qD3.aa.lo/\True)∨((decide ((qD1.aa.lo:Int)<qD2.aa.lo))=false/\(i_4:Int)=qD0.aa.lo/\True))) JC (.again []) (fun i_4 => .go 21 (.join 3 (Int) [5] (fun i_5=>[(6,pt 5),(5,nI 2),(4,pt 2),(3,pt 1),(2,pt 0)]) (fun i_5=>[(5,true,.cells true 0 [nI i_4,nI i_5])]) (fun i_5=>[]) (fun i_5=>[]) (fun i_5=>(((decide ((qD2.aa.hi:Int)<qD1.aa.hi))=true/\(i_5:Int)=qD3.aa.hi/\True)∨((decide ((qD2.aa.hi:Int)<qD1.aa.hi))=false/\(i_5:Int)=qD0.aa.hi/\True))) JC (.again []) (fun i_5 => .go 70 (.join 3 (Int) [6] (fun i_6=>[(6,pt 6),(5,nI 3),(4,pt 2),(3,pt 1),(2,pt 0)]) (fun i_6=>[(6,true,.cells true 0 [nI i_6,nI qD0.ac.hi])]) (fun i_6=>[]) (fun i_6=>[]) (fun i_6=>(((decide ((qD1.ac.lo:Int)<qD2.ac.lo))=true/\(i_6:Int)=qD3.ac.lo/\True)∨((decide ((qD1.ac.lo:Int)<qD2.ac.lo))=false/\(i_6:Int)=qD0.ac.lo/\True))) JC (.again []) (fun i_6 => .go 21 (.join 3 (Int) [6] (fun i_7=>[(6,pt 6),(5,nI 3),(4,pt 2),(3,pt 1),(2,pt 0)]) (fun i_7=>[(6,true,.cells true 0 [nI i_6,nI i_7])]) (fun i_7=>[]) (fun i_7=>[]) (fun i_7=>(((decide ((qD2.ac.hi:Int)<qD1.ac.hi))=true/\(i_7:Int)=qD3.ac.hi/\True)∨((decide ((qD2.ac.hi:Int)<qD1.ac.hi))=false/\(i_7:Int)=qD0.ac.hi/\True))) JC (.again []) (fun i_7 => .auto))))))))))))))))
theorem I4(sp:Value)(a b:Cell):vE 83 (juf a b) ⟨0,.leaf⟩ (some [])
 (ju1 a a b b)
 (fun v _ _=>v=sp)=Bb sp a b:=by kernel_rfl
def Ej(sp:Value)(a b:Cell):Prop :=
 (ju0 b a b a sp)
theorem KJ(sp:Value)(a b:Cell):vE 111 (juf a b) ⟨0,.leaf⟩ (some [])
 (ju1 a b a b)
 (fun v _ _=>v=sp)=Ej sp a b:=by kernel_rfl
abbrev jua(qD0:Cell)(qi0 qi1:Int):Prop:=((decide (((qD0.ae.lo-qi0):Int)<0))=true/\(qi1:Int)=0/\True)∨((decide (((qD0.ae.lo-qi0):Int)<0))=false/\(qi1:Int)=(qD0.ae.lo-qi0)/\True)
abbrev ju2(qn0:Nat)(qi0 qi1:Int):Prop:=eR (pt qn0)/\eR (nI qi0)/\eR (pt 2)/\eR (pt 1)/\eR (pt 0)/\eR (nI qi1)/\True
abbrev ju5(qD0:Cell)(qi0 qi1:Int):Prop:=((decide ((100:Int)<(qD0.ae.hi+qi0)))=true/\(qi1:Int)=100/\True)∨((decide ((100:Int)<(qD0.ae.hi+qi0)))=false/\(qi1:Int)=(qD0.ae.hi+qi0)/\True)
abbrev jud(qn0:Nat)(qi0 qi1 qi2:Int):Prop:=(kbq qn0 (.cells true 0 [nI qi0,nI qi1]) (.cells true 0 [nI qi0,nI qi2]))/\True
abbrev ju9(qD0:Cell)(qi0 qi1:Int):Prop:=((decide (((qD0.ab.lo-qi0):Int)<0))=true/\(qi1:Int)=0/\True)∨((decide (((qD0.ab.lo-qi0):Int)<0))=false/\(qi1:Int)=(qD0.ab.lo-qi0)/\True)
abbrev ju4(qD0:Cell)(qi0 qi1:Int):Prop:=((decide ((400:Int)<(qD0.ab.hi+qi0)))=true/\(qi1:Int)=400/\True)∨((decide ((400:Int)<(qD0.ab.hi+qi0)))=false/\(qi1:Int)=(qD0.ab.hi+qi0)/\True)
abbrev ju8(qD0:Cell)(qi0 qi1:Int):Prop:=((decide (((qD0.aa.lo-qi0):Int)<0))=true/\(qi1:Int)=0/\True)∨((decide (((qD0.aa.lo-qi0):Int)<0))=false/\(qi1:Int)=(qD0.aa.lo-qi0)/\True)
abbrev ju3(qD0:Cell)(qi0 qi1:Int):Prop:=((decide ((100:Int)<(qD0.aa.hi+qi0)))=true/\(qi1:Int)=100/\True)∨((decide ((100:Int)<(qD0.aa.hi+qi0)))=false/\(qi1:Int)=(qD0.aa.hi+qi0)/\True)
abbrev ju6(qD0:Cell)(qi0 qi1:Int):Prop:=((decide (((qD0.ac.lo-qi0):Int)<0))=true/\(qi1:Int)=0/\True)∨((decide (((qD0.ac.lo-qi0):Int)<0))=false/\(qi1:Int)=(qD0.ac.lo-qi0)/\True)
abbrev ju7(qD0:Cell)(qi0 qi1:Int):Prop:=((decide ((3:Int)<(qD0.ac.hi+qi0)))=true/\(qi1:Int)=3/\True)∨((decide ((3:Int)<(qD0.ac.hi+qi0)))=false/\(qi1:Int)=(qD0.ac.hi+qi0)/\True)
def Eg(sp:Value)(c:Cell)(m:af)(h:Int):Prop :=
 (∃i_0:Int,(c0q 4 117 [nI m.down.ae,nI h] (nI i_0) (nw (c.ae.lo-i_0) (∃i_1:Int,(c0q 4 117 [nI m.up.ae,nI h] (nI i_1) (nw (c.ae.hi+i_1) (true=true/\((decide (((c.ae.lo-i_0):Int)<0))=true->(∃jS:Int,(jua c i_0 jS)/\true=true/\(ju2 3 0 h)/\((kbq 4 (.cells true 0 [nI 0,nI (c.ae.hi+i_1)]) (.cells true 0 [nI jS,nI (c.ae.hi+i_1)]))/\True)/\jui))/\((decide (((c.ae.lo-i_0):Int)<0))=false->(∃jS:Int,(jua c i_0 jS)/\true=true/\(ju2 3 0 h)/\((kbq 4 (.cells true 0 [nI (c.ae.lo-i_0),nI (c.ae.hi+i_1)]) (.cells true 0 [nI jS,nI (c.ae.hi+i_1)]))/\True)/\jui))/\∀i_2:Int,(jua c i_0 i_2)->(true=true/\((decide ((100:Int)<(c.ae.hi+i_1)))=true->(∃jR:Int,(ju5 c i_1 jR)/\true=true/\(ju2 3 0 h)/\(jud 4 i_2 100 jR)/\jui))/\((decide ((100:Int)<(c.ae.hi+i_1)))=false->(∃jR:Int,(ju5 c i_1 jR)/\true=true/\(ju2 3 0 h)/\((kbq 4 (.cells true 0 [nI i_2,nI (c.ae.hi+i_1)]) (.cells true 0 [nI i_2,nI jR]))/\True)/\jui))/\∀i_3:Int,(ju5 c i_1 i_3)->(∃i_4:Int,(c0q 5 117 [nI m.down.ab,nI h] (nI i_4) (nw (c.ab.lo-i_4) (∃i_5:Int,(c0q 5 117 [nI m.up.ab,nI h] (nI i_5) (nw (c.ab.hi+i_5) (true=true/\((decide (((c.ab.lo-i_4):Int)<0))=true->(∃jO:Int,(ju9 c i_4 jO)/\true=true/\(ju2 4 1 h)/\((kbq 5 (.cells true 0 [nI 0,nI (c.ab.hi+i_5)]) (.cells true 0 [nI jO,nI (c.ab.hi+i_5)]))/\True)/\jui))/\((decide (((c.ab.lo-i_4):Int)<0))=false->(∃jO:Int,(ju9 c i_4 jO)/\true=true/\(ju2 4 1 h)/\((kbq 5 (.cells true 0 [nI (c.ab.lo-i_4),nI (c.ab.hi+i_5)]) (.cells true 0 [nI jO,nI (c.ab.hi+i_5)]))/\True)/\jui))/\∀i_6:Int,(ju9 c i_4 i_6)->(true=true/\((decide ((400:Int)<(c.ab.hi+i_5)))=true->(∃jN:Int,(ju4 c i_5 jN)/\true=true/\(ju2 4 1 h)/\(jud 5 i_6 400 jN)/\jui))/\((decide ((400:Int)<(c.ab.hi+i_5)))=false->(∃jN:Int,(ju4 c i_5 jN)/\true=true/\(ju2 4 1 h)/\((kbq 5 (.cells true 0 [nI i_6,nI (c.ab.hi+i_5)]) (.cells true 0 [nI i_6,nI jN]))/\True)/\jui))/\∀i_7:Int,(ju4 c i_5 i_7)->(∃i_8:Int,(c0q 6 117 [nI m.down.aa,nI h] (nI i_8) (nw (c.aa.lo-i_8) (∃i_9:Int,(c0q 6 117 [nI m.up.aa,nI h] (nI i_9) (nw (c.aa.hi+i_9) (true=true/\((decide (((c.aa.lo-i_8):Int)<0))=true->(∃Ai:Int,(ju8 c i_8 Ai)/\true=true/\(ju2 5 2 h)/\((kbq 6 (.cells true 0 [nI 0,nI (c.aa.hi+i_9)]) (.cells true 0 [nI Ai,nI (c.aa.hi+i_9)]))/\True)/\jui))/\((decide (((c.aa.lo-i_8):Int)<0))=false->(∃Ai:Int,(ju8 c i_8 Ai)/\true=true/\(ju2 5 2 h)/\((kbq 6 (.cells true 0 [nI (c.aa.lo-i_8),nI (c.aa.hi+i_9)]) (.cells true 0 [nI Ai,nI (c.aa.hi+i_9)]))/\True)/\jui))/\∀fj:Int,(ju8 c i_8 fj)->(true=true/\((decide ((100:Int)<(c.aa.hi+i_9)))=true->(∃Ah:Int,(ju3 c i_9 Ah)/\true=true/\(ju2 5 2 h)/\(jud 6 fj 100 Ah)/\jui))/\((decide ((100:Int)<(c.aa.hi+i_9)))=false->(∃Ah:Int,(ju3 c i_9 Ah)/\true=true/\(ju2 5 2 h)/\((kbq 6 (.cells true 0 [nI fj,nI (c.aa.hi+i_9)]) (.cells true 0 [nI fj,nI Ah]))/\True)/\jui))/\∀gn:Int,(ju3 c i_9 gn)->(∃eZ:Int,(c0q 7 117 [nI m.down.ac,nI h] (nI eZ) (nw (c.ac.lo-eZ) (∃gk:Int,(c0q 7 117 [nI m.up.ac,nI h] (nI gk) (nw (c.ac.hi+gk) (true=true/\((decide (((c.ac.lo-eZ):Int)<0))=true->(∃Ae:Int,(ju6 c eZ Ae)/\true=true/\(ju2 6 3 h)/\((kbq 7 (.cells true 0 [nI 0,nI (c.ac.hi+gk)]) (.cells true 0 [nI Ae,nI (c.ac.hi+gk)]))/\True)/\jui))/\((decide (((c.ac.lo-eZ):Int)<0))=false->(∃Ae:Int,(ju6 c eZ Ae)/\true=true/\(ju2 6 3 h)/\((kbq 7 (.cells true 0 [nI (c.ac.lo-eZ),nI (c.ac.hi+gk)]) (.cells true 0 [nI Ae,nI (c.ac.hi+gk)]))/\True)/\jui))/\∀eL:Int,(ju6 c eZ eL)->(true=true/\((decide ((3:Int)<(c.ac.hi+gk)))=true->(∃Ad:Int,(ju7 c gk Ad)/\true=true/\(ju2 6 3 h)/\(jud 7 eL 3 Ad)/\jui))/\((decide ((3:Int)<(c.ac.hi+gk)))=false->(∃Ad:Int,(ju7 c gk Ad)/\true=true/\(ju2 6 3 h)/\((kbq 7 (.cells true 0 [nI eL,nI (c.ac.hi+gk)]) (.cells true 0 [nI eL,nI Ad]))/\True)/\jui))/\∀gW:Int,(ju7 c gk gW)->(.agg #[nI i_2,nI i_3,nI i_6,nI i_7,nI fj,nI gn,nI eL,nI gW]:Value)=sp))))))))))))))))))))))))))))))))
theorem KG(sp:Value)(c:Cell)(m:af)(h:Int):vE 113 (juj c m h) ⟨0,.leaf⟩ (some [])
 (.go 36 (.bind (Int) (fun r0 => .ans [] (nI r0) [] (.go 0 (.slot 24 (nI (c.ae.lo-r0)) (.go 17 (.bind (Int) (fun r1 => .ans [] (nI r1) [] (.go 0 (.slot 34 (nI (c.ae.hi+r1)) (.go 4 (.join 3 (Int) [3] (fun i_0=>[(8,pt 3),(7,nI 0),(6,pt 2),(4,pt 1),(3,pt 0),(2,nI h)]) (fun i_0=>[(3,true,.cells true 0 [nI i_0,nI (c.ae.hi+r1)])]) (fun i_0=>[]) (fun i_0=>[]) (fun i_0=>(jua c r0 i_0)) (.go 1 (.again [])) (.again []) (fun i_0 => .go 11 (.join 3 (Int) [3] (fun i_1=>[(8,pt 3),(7,nI 0),(6,pt 2),(4,pt 1),(3,pt 0),(2,nI h)]) (fun i_1=>[(3,true,.cells true 0 [nI i_0,nI i_1])]) (fun i_1=>[]) (fun i_1=>[]) (fun i_1=>(ju5 c r1 i_1)) (.go 10 (.again [])) (.again []) (fun i_1 => .go 58 (.bind (Int) (fun r4 => .ans [] (nI r4) [] (.go 0 (.slot 24 (nI (c.ab.lo-r4)) (.go 20 (.bind (Int) (fun r5 => .ans [] (nI r5) [] (.go 0 (.slot 34 (nI (c.ab.hi+r5)) (.go 4 (.join 3 (Int) [4] (fun i_2=>[(8,pt 4),(7,nI 1),(6,pt 2),(4,pt 1),(3,pt 0),(2,nI h)]) (fun i_2=>[(4,true,.cells true 0 [nI i_2,nI (c.ab.hi+r5)])]) (fun i_2=>[]) (fun i_2=>[]) (fun i_2=>(ju9 c r4 i_2)) (.go 1 (.again [])) (.again []) (fun i_2 => .go 16 (.join 3 (Int) [4] (fun i_3=>[(8,pt 4),(7,nI 1),(6,pt 2),(4,pt 1),(3,pt 0),(2,nI h)]) (fun i_3=>[(4,true,.cells true 0 [nI i_2,nI i_3])]) (fun i_3=>[]) (fun i_3=>[]) (fun i_3=>(ju4 c r5 i_3)) (.go 15 (.again [])) (.again []) (fun i_3 => .go 67 (.bind (Int) (fun r8 => .ans [] (nI r8) [] (.go 0 (.slot 24 (nI (c.aa.lo-r8)) (.go 23 (.bind (Int) (fun r9 => .ans [] (nI r9) [] (.go 0 (.slot 34 (nI (c.aa.hi+r9)) (.go 4 (.join 3 (Int) [5] (fun i_4=>[(8,pt 5),(7,nI 2),(6,pt 2),(4,pt 1),(3,pt 0),(2,nI h)]) (fun i_4=>[(5,true,.cells true 0 [nI i_4,nI (c.aa.hi+r9)])]) (fun i_4=>[]) (fun i_4=>[]) (fun i_4=>(ju8 c r8 i_4)) (.go 1 (.again [])) (.again []) (fun i_4 => .go 13 (.join 3 (Int) [5] (fun i_5=>[(8,pt 5),(7,nI 2),(6,pt 2),(4,pt 1),(3,pt 0),(2,nI h)]) (fun i_5=>[(5,true,.cells true 0 [nI i_4,nI i_5])]) (fun i_5=>[]) (fun i_5=>[]) (fun i_5=>(ju3 c r9 i_5)) (.go 12 (.again [])) (.again []) (fun i_5 => .go 70 (.bind (Int) (fun r12 => .ans [] (nI r12) [] (.go 0 (.slot 24 (nI (c.ac.lo-r12)) (.go 23 (.bind (Int) (fun r13 => .ans [] (nI r13) [] (.go 0 (.slot 34 (nI (c.ac.hi+r13)) (.go 4 (.join 3 (Int) [6] (fun i_6=>[(8,pt 6),(7,nI 3),(6,pt 2),(4,pt 1),(3,pt 0),(2,nI h)]) (fun i_6=>[(6,true,.cells true 0 [nI i_6,nI (c.ac.hi+r13)])]) (fun i_6=>[]) (fun i_6=>[]) (fun i_6=>(ju6 c r12 i_6)) (.go 1 (.again [])) (.again []) (fun i_6 => .go 16 (.join 3 (Int) [6] (fun i_7=>[(8,pt 6),(7,nI 3),(6,pt 2),(4,pt 1),(3,pt 0),(2,nI h)]) (fun i_7=>[(6,true,.cells true 0 [nI i_6,nI i_7])]) (fun i_7=>[]) (fun i_7=>[]) (fun i_7=>(ju7 c r13 i_7)) (.go 15 (.again [])) (.again []) (fun i_7 => .auto)))))))))))))))))))))))))))))))))))))))))))))))))))))))))
 (fun v _ _=>v=sp)=Eg sp c m h:=by kernel_rfl
def A5(sp:Value)(a b:Cell):Prop :=
 (fk (decide ((a.ae.lo:Int)<b.ae.lo)) (jug sp) (fk (decide ((b.ae.hi:Int)<a.ae.lo)) (jug sp) (fk (decide ((a.ab.lo:Int)<b.ab.lo)) (jug sp) (fk (decide ((b.ab.hi:Int)<a.ab.lo)) (jug sp) (fk (decide ((a.aa.lo:Int)<b.aa.lo)) (jug sp) (fk (decide ((b.aa.hi:Int)<a.aa.lo)) (jug sp) (fk (decide ((a.ac.lo:Int)<b.ac.lo)) (jug sp) (fk (decide ((b.ac.hi:Int)<a.ac.lo)) (jug sp) (fk (decide ((a.ae.hi:Int)<b.ae.lo)) (jug sp) (fk (decide ((b.ae.hi:Int)<a.ae.hi)) (jug sp) (fk (decide ((a.ab.hi:Int)<b.ab.lo)) (jug sp) (fk (decide ((b.ab.hi:Int)<a.ab.hi)) (jug sp) (fk (decide ((a.aa.hi:Int)<b.aa.lo)) (jug sp) (fk (decide ((b.aa.hi:Int)<a.aa.hi)) (jug sp) (fk (decide ((a.ac.hi:Int)<b.ac.lo)) (jug sp) (fk (decide ((b.ac.hi:Int)<a.ac.hi)) (jug sp) (juq sp)))))))))))))))))
theorem IW(sp:Value)(a b:Cell):vE 108 (juf a b) ⟨0,.leaf⟩ (some [])
 (.go 69 (.am (.auto) (.go 26 (.fork (.auto) (.go 38 (.am (.auto) (.go 32 (.fork (.auto) (.go 44 (.am (.auto) (.go 38 (.fork (.auto) (.go 44 (.am (.auto) (.go 38 (.fork (.auto) (.go 44 (jub 26 38 32 44))))))))))))))))))
 (fun v _ _=>v=sp)=A5 sp a b:=by kernel_rfl
def uQ(sp:Value)(c:Cell)(x:Ice):Prop :=
 (fk (decide ((x.ae:Int)<c.ae.lo)) (jug sp) (fk (decide ((c.ae.hi:Int)<x.ae)) (jug sp) (fk (decide ((x.ab:Int)<c.ab.lo)) (jug sp) (fk (decide ((c.ab.hi:Int)<x.ab)) (jug sp) (fk (decide ((x.aa:Int)<c.aa.lo)) (jug sp) (fk (decide ((c.aa.hi:Int)<x.aa)) (jug sp) (fk (decide ((x.ac:Int)<c.ac.lo)) (jug sp) (fk (decide ((c.ac.hi:Int)<x.ac)) (jug sp) (juq sp)))))))))
theorem CJ(sp:Value)(c:Cell)(x:Ice):vE 105 (jut c x) ⟨0,.leaf⟩ (some [])
 (.go 33 (jub 26 38 32 44))
 (fun v _ _=>v=sp)=uQ sp c x:=by kernel_rfl
abbrev juu(sp:Value):Prop:=(nI 6:Value)=sp
def Lf(sp:Value)(w h t:Int):Prop :=
 (fk (decide ((1:Int)<=w)) (fk (!(decide ((w:Int)<=64))) (juu sp) (fk (decide ((1:Int)<=h)) (fk (!(decide ((h:Int)<=64))) (juu sp) (nw (w*h) (fk (decide ((1024:Int)<(w*h))) (juu sp) (fk (decide ((0:Int)<=t)) (fk (!(decide ((t:Int)<=10000))) (juu sp) ((nI 0:Value)=sp)) (juu sp))))) (juu sp))) (juu sp))
theorem OW(sp:Value)(w h t:Int):vE 118 [nI w,nI h,nI t] ⟨0,.leaf⟩ (some [])
 (.go 7 (.am (.go 6 (.am (.auto) (.go 6 (.am (.go 7 (.am (.auto) (.go 2 (.slot 18 (nI (w*h)) (.go 2 (.am (.auto) (.go 6 (.am (.go 6 juz) (.auto))))))))) (.auto))))) (.auto)))
 (fun v _ _=>v=sp)=Lf sp w h t:=by kernel_rfl
def Ea(sp:Value)(w h t:Int):Prop :=
 (fk (decide ((w:Int)<1)) (juu sp) (fk (decide ((64:Int)<w)) (juu sp) (fk (decide ((h:Int)<1)) (juu sp) (fk (decide ((64:Int)<h)) (juu sp) (nw (w*h) (fk (decide ((1024:Int)<(w*h))) (juu sp) (fk (decide ((t:Int)<0)) (juu sp) (fk (decide ((10000:Int)<t)) (juu sp) ((nI 0:Value)=sp)))))))))
theorem Kz(sp:Value)(w h t:Int):vE 120 [nI w,nI h,nI t] ⟨0,.leaf⟩ (some [])
 (.go 3 (.am (.auto) (.go 3 (.am (.auto) (.go 3 (.am (.auto) (.go 3 (.am (.auto) (.go 2 (.slot 24 (nI (w*h)) (.go 2 (.am (.auto) (.go 3 (.am (.auto) (.go 2 juz)))))))))))))))
 (fun v _ _=>v=sp)=Ea sp w h t:=by kernel_rfl
end
end Go.Proofs.YthcjliffpebjaaaGreat
namespace Go.K
noncomputable section
theorem aq{p A B:Prop}[Decidable p](h1:p->A)(h2:¬ p->B):(decide p=true->A)/\(decide p=false->B) :=
 ⟨fun h=>h1 (cc h),fun h=>h2 (dG h)⟩
theorem aZ{a b:Int}{A B:Prop}(h1:a≠b->A)(h2:a=b->B):((a != b)=true->A)/\((a != b)=false->B) :=
 ⟨fun h=>h1 (by simpa using h),fun h=>h2 (by simpa using h)⟩
theorem cO{a b:Int}{A B:Prop}(h1:a=b->A)(h2:a≠b->B):((a == b)=true->A)/\((a == b)=false->B) :=
 ⟨fun h=>h1 (by simpa using h),fun h=>h2 (by simpa using h)⟩
theorem cy{b:Bool}{A B:Prop}(h:(b=true->B)/\(b=false->A)):((!b)=true->A)/\((!b)=false->B):=by
 cases b
 ·exact ⟨fun _=>h.2 rfl,fun h=>by cases h⟩
 ·exact ⟨fun h=>(by cases h),fun _=>h.1 rfl⟩
theorem pZ{b:Bool}{A B:Prop}(h1:b=true->A)(h2:b=false->B):(b=true->A)/\(b=false->B):=⟨h1,h2⟩
theorem kj{b:Bool}{A B:Prop}(hb:b=true)(h1:A):(b=true->A)/\(b=false->B):=⟨fun _=>h1,fun h=>by rw[hb]at h;cases h⟩
theorem cG{b:Bool}{A B:Prop}(hb:b=false)(h1:B):(b=true->A)/\(b=false->B):=⟨fun h=>(by rw[hb]at h;cases h),fun _=>h1⟩
theorem nbq(b:Bool):(!(b == b))=false:=by cases b <;> rfl
theorem bq(b:Bool):(b == b)=true:=by cases b <;> rfl
theorem iq(n:Int):(n == n)=true:=by simp
theorem niq(n:Int):(n != n)=false:=by simp
theorem vbT{b:Bool}(h:b=true):(Value.bool b) = .bool true:=by rw[h]
theorem vbF{b:Bool}(h:b=false):(Value.bool b) = .bool false:=by rw[h]
theorem iEq{k:IntKind}{a b:Int}(h:a=b):(Value.int k a) = .int k b:=by rw[h]
theorem bEq{a b:Bool}(h:a=b):(Value.bool a) = .bool b:=by rw[h]
theorem Lr{n:Int}(h : -9223372036854775808<=n/\n<=9223372036854775807):IntKind.wrap .i64 n=n:=IntWalk.i64_in n h
theorem ay{n:Int}(h : -9223372036854775808<=n/\n<=9223372036854775807):(Value.int .i64 (IntKind.wrap .i64 n)) = .int .i64 n:=by rw[Lr h]
theorem J5(a b:Int):(if b > a then b else a)=max a b:=by split <;> omega
theorem J4(a b:Int):(if b<a then b else a)=min a b:=by split <;> omega
theorem toMax{k:IntKind}{a b:Int}{Q:Int->Prop}(h:Q (max a b)):∃y:Int,(Value.int k (if b > a then b else a)) = .int k y/\Q y:=⟨max a b,by rw[J5],h⟩
theorem toMin{k:IntKind}{a b:Int}{Q:Int->Prop}(h:Q (min a b)):∃y:Int,(Value.int k (if b<a then b else a)) = .int k y/\Q y:=⟨min a b,by rw[J4],h⟩
theorem K6{c:Bool}{v1 v2:Int}{S1 S2 R:Int->Prop}(h1:c=true->S1 v1)(h2:c=false->S2 v2)(hr:∀x,x=(if c=true then v1 else v2)->R x) :
  (true=true/\(c=true->∃x':Int,((c=true/\x'=v1/\True)∨(c=false/\x'=v2/\True))/\S1 x')/\(c=false->∃x':Int,((c=true/\x'=v1/\True)∨(c=false/\x'=v2/\True))/\S2 x') /\
   ∀x:Int,((c=true/\x=v1/\True)∨(c=false/\x=v2/\True))->R x):=by
 refine ⟨rfl,fun h=>⟨v1,.inl ⟨h,rfl,trivial⟩,h1 h⟩,fun h=>⟨v2,.inr ⟨h,rfl,trivial⟩,h2 h⟩,fun x hx=>hr x ?_⟩
 rcases hx with ⟨h,rfl,_⟩|⟨h,rfl,_⟩
 ·rw[if_pos h]
 ·rw[if_neg (by rw[h];decide)]
theorem pM{a b:Int}{S1 S2 R:Int->Prop}(h1:S1 b)(h2:S2 a)(hr:R (max a b)) :
  (true=true/\(decide (a<b)=true->∃x':Int,((decide (a<b)=true/\x'=b/\True)∨(decide (a<b)=false/\x'=a/\True))/\S1 x')/\(decide (a<b)=false->∃x':Int,((decide (a<b)=true/\x'=b/\True)∨(decide (a<b)=false/\x'=a/\True))/\S2 x') /\
   ∀x:Int,((decide (a<b)=true/\x=b/\True)∨(decide (a<b)=false/\x=a/\True))->R x) :=
 K6 (fun _=>h1) (fun _=>h2) fun x hx=>by
  have:x=max a b:=by rw[hx];simp only[decide_eq_true_eq];split <;> omega
  rw[this];exact hr
theorem pL{a b:Int}{S1 S2 R:Int->Prop}(h1:S1 b)(h2:S2 a)(hr:R (min a b)) :
  (true=true/\(decide (b<a)=true->∃x':Int,((decide (b<a)=true/\x'=b/\True)∨(decide (b<a)=false/\x'=a/\True))/\S1 x')/\(decide (b<a)=false->∃x':Int,((decide (b<a)=true/\x'=b/\True)∨(decide (b<a)=false/\x'=a/\True))/\S2 x') /\
   ∀x:Int,((decide (b<a)=true/\x=b/\True)∨(decide (b<a)=false/\x=a/\True))->R x) :=
 K6 (fun _=>h1) (fun _=>h2) fun x hx=>by
  have:x=min a b:=by rw[hx];simp only[decide_eq_true_eq];split <;> omega
  rw[this];exact hr
theorem aD{a b:Value}{r s:List Value}(h:wk a b)(hr:wks r s):wks (a :: r) (b :: s):=⟨h,hr⟩
theorem kF:wks [] []:=trivial
theorem ak.wkA{P:Program}{f:FuncId}{args args2:List Value}{H:Heap}{M:List Nat}{Q:Value->Heap->Prop}(h:ak P f args2 H M Q)(ha:wks args args2):ak P f args H M Q :=
 ak.Gg [] (by rw[List.append_nil];exact h) (iZ ha).1 (iZ ha).2
theorem vN{P:Program}{css:List (List Value)}{ids:List Nat}{H:Heap}(gv:∀(k:Nat) (cs:List Value),css[k]?=some cs->∃id own z,ids[k]?=some id/\H[id]?=some (ah.cells own z (cs.map (rn (sgR P.globals.size ids) 3))))(hl:ids.length=css.length) :
  Reads P (aH P.globals.size css).list H (sgR P.globals.size ids) 3:=by
 have hn:(aH P.globals.size css).list.length=P.globals.size+css.length:=by rw[HT.length,pb]
 refine ⟨fun g hg=>if_pos hg,fun id id' h =>?_,by rw[hn];omega,fun id o h =>?_,fun id id' cs h1 h2 =>?_⟩
 ·rw[hn]
  unfold sgR at h
  split at h
  ·omega
  ·have:=(List.getElem?_eq_some_iff.1 h).1;omega
 ·rw[jv]at h
  split at h
  ·cases h;exact .inl rfl
  ·obtain ⟨cs,_,rfl⟩:=aX h;exact .inr ⟨cs,rfl⟩
 ·rw[jv]at h2
  split at h2
  ·cases h2
  ·rename_i hlt
   obtain ⟨cs',a1,a2⟩:=aX h2
   cases a2
   unfold sgR at h1
   rw[if_neg hlt]at h1
   obtain ⟨id2,own,z,b1,b2⟩:=gv _ _ a1
   rw[h1]at b1;cases b1
   exact ⟨own,z,[],by rw[List.append_nil];exact b2⟩
theorem Pa{P:Program}{mixed:Bool}{mask:Nat}{dm:Value->MS}{rounds:Nat}(gu:iH P mixed mask)(iE:mixed=true->P.follows .mixedOrders=true)(n:Nat){f:FuncId}{args:List Value}{css:List (List Value)}{h:Hint}{v:Value}{new:List (Bool×ah)}
  (hc:vF P mask dm rounds mixed n true f args (aH P.globals.size css) (some []) h (er (aH P.globals.size css).n 3 v new))
  (hv:dD 3 v=true) (hv2:rn (bD (P.globals.size+css.length)) 3 v=v) (hn:(new.map (·.2)).all (fun o=>cY 3 o&&o.owned)=true) (hn2:(new.map (·.2)).map (rno (bD (P.globals.size+css.length)) 3)=new.map (·.2))
  {H:Heap} (ids:List Nat) (hl:ids.length=css.length) (gv:∀(k:Nat) (cs:List Value),css[k]?=some cs->∃id own z,ids[k]?=some id/\H[id]?=some (ah.cells own z (cs.map (rn (sgR P.globals.size ids) 3)))) :
  ak P f (args.map (rn (sgR P.globals.size ids) 3)) H [] (Is (rn (bT (P.globals.size+css.length) H.length) 3 v) (H++(new.map (·.2)).map (rno (bT (P.globals.size+css.length) H.length) 3))):=by
 have h1:=vcN gu iE n hc
 have e:(aH P.globals.size css).list.length=P.globals.size+css.length:=by rw[HT.length,pb]
 have:=ak.reads (vN gv hl) h1 hv (by rw[e];exact hv2) hn (by rw[e];exact hn2)
 rw[e]at this
 exact this
theorem NG{P:Program}{mixed:Bool}{mask:Nat}{dm:Value->MS}{rounds:Nat}(gu:iH P mixed mask)(iE:mixed=true->P.follows .mixedOrders=true)(n:Nat){f:FuncId}{args:List Value}{css:List (List Value)}{h:Hint}{v:Value}
  (hc:vF P mask dm rounds mixed n true f args (aH P.globals.size css) (some []) h (fun v' _ _=>v'=v)) (hv:cP 0 v=true)
  {H:Heap} (ids:List Nat) (hl:ids.length=css.length) (gv:∀(k:Nat) (cs:List Value),css[k]?=some cs->∃id own z,ids[k]?=some id/\H[id]?=some (ah.cells own z (cs.map (rn (sgR P.globals.size ids) 3)))) (h3:dD 3 v=true:=by rfl) (h4:∀σ,rn σ 3 v=v:=by intro σ;rfl) :
  ak P f (args.map (rn (sgR P.globals.size ids) 3)) H [] (Is v H):=by
 have h1:ak P f args (aH P.globals.size css).list [] (Is v ((aH P.globals.size css).list ++ [])):=by
  have:=ak.clean (vc gu iE n (Q:=fun v' _=>v'=v) hc) hv
  simpa using this
 have:=ak.reads (vN gv hl) h1 h3 (h4 _) rfl rfl
 rw[h4]at this
 simpa using this
end
end Go.K
namespace Go.Proofs.YthcjliffpebjaaaGreat
noncomputable section
attribute [local irreducible] vF
theorem xx(a b:Cell)(H:Heap):ak prog F.ua [cellV a,cellV b] H [] (Is (.tuple #[cellV (bK a b),.bool (decide (okC (bK a b)))]) H):=by
 refine cQ 40 (fun _=>rfl) rfl (Eq.mpr (Kw _ a b) ?_) H
 delta D7 jue nI fk bw
 repeat' first|refine toMax ?_|refine toMin ?_|(refine aq (fun h =>?_) (fun h =>?_))|refine cy ?_
 ·exact congrArg (fun q=>Value.tuple #[cellV (bK a b),Value.bool q]) (decide_eq_true (p:=okC (bK a b)) ⟨‹_›,‹_›,‹_›,‹_›⟩).symm
 all_goals exact congrArg (fun q=>Value.tuple #[cellV (bK a b),Value.bool q]) (decide_eq_false (p:=okC (bK a b)) (fun o=>by first|exact h o.1|exact h o.2.1|exact h o.2.2.1|exact h o.2.2.2)).symm
theorem Jo(a b:Cell)(H:Heap):ak prog F.ub [cellV a,cellV b] H [] (Is (cellV (wx a b)) H):=by
 refine cQ 40 (fun _=>rfl) rfl (Eq.mpr (Kx _ a b) ?_) H
 delta D8 nI bw
 repeat' first|exact rfl|refine toMax ?_|refine toMin ?_
theorem Df(c:Cell)(m:af)(h:Int)(hc:cw c)(hm:eS m)(hh:0<=h/\h<=10000)(H:Heap):ak prog F.mf [cellV c,ao m,nI h] H [] (Is (cellV (nu c m h)) H):=by
 refine cQ 40 (fun _=>rfl) rfl (Eq.mpr (Ky _ c m h) ?_) H
 delta D9 nI nw bw c0q
 obtain ⟨⟨u1,u2,u3,u4⟩,d1,d2,d3,d4⟩:=hm
 obtain ⟨c1,c2,c3,c4⟩:=hc
 unfold bz at c1 c2 c3 c4
 have b1:=cx u1 hh;have b2:=cx u2 hh;have b3:=cx u3 hh;have b4:=cx u4 hh
 have e1:=cx d1 hh;have e2:=cx d2 hh;have e3:=cx d3 hh;have e4:=cx d4 hh
 repeat' first|(refine ⟨_,trivial,fun H' _ _=>dJ _ _ (by first|exact u1|exact u2|exact u3|exact u4|exact d1|exact d2|exact d3|exact d4) hh H',?_⟩)|exact rfl|refine toMax ?_|refine toMin ?_|refine ⟨ay Om,?_⟩
theorem LK(a b:Cell)(H:Heap):ak prog F.qT [cellV a,cellV b] H [] (Is (.bool (decide (oD a b))) H):=by
 refine cQ 40 (fun _=>rfl) rfl (Eq.mpr (Nf _ a b) ?_) H
 delta Iy jug juq fk
 repeat' first|(refine aq (fun h =>?_) (fun h =>?_))|refine cy ?_
 all_goals first|exact bEq (decide_eq_true (by unfold oD pO;omega)).symm|exact bEq (decide_eq_false (by unfold oD pO;omega)).symm
theorem LL(c:Cell)(x:Ice)(H:Heap):ak prog F.vt [cellV c,Aa x] H [] (Is (.bool (decide (oG c x))) H):=by
 refine cQ 40 (fun _=>rfl) rfl (Eq.mpr (Ng _ c x) ?_) H
 delta Iz jug juq fk
 repeat' first|(refine aq (fun h =>?_) (fun h =>?_))|refine cy ?_
 all_goals first|exact bEq (decide_eq_true (by unfold oG pU;omega)).symm|exact bEq (decide_eq_false (by unfold oG pU;omega)).symm
theorem BN(c:Cell)(x:Ice)(H:Heap):ak prog F.lB [cellV c,Aa x] H [] (Is (.bool (decide (oG c x))) H):=by
 refine cQ 40 (fun _=>rfl) rfl (Eq.mpr (CJ _ c x) ?_) H
 delta uQ jug juq fk
 repeat' first|(refine aq (fun h =>?_) (fun h =>?_))
 all_goals first|exact bEq (decide_eq_true (by unfold oG pU;omega)).symm|exact bEq (decide_eq_false (by unfold oG pU;omega)).symm
theorem ze{a b:Cell}(ha:cw a)(hb:cw b):okC (bK a b) ↔ (b.ae.lo<=a.ae.hi/\a.ae.lo<=b.ae.hi)/\(b.ab.lo<=a.ab.hi/\a.ab.lo<=b.ab.hi)/\(b.aa.lo<=a.aa.hi/\a.aa.lo<=b.aa.hi)/\(b.ac.lo<=a.ac.hi/\a.ac.lo<=b.ac.hi):=by
 obtain ⟨a1,a2,a3,a4⟩:=ha
 obtain ⟨b1,b2,b3,b4⟩:=hb
 have key:∀{s t:Span} {m:Int},bz s m->bz t m->((fS s t).lo<=(fS s t).hi ↔ t.lo<=s.hi/\s.lo<=t.hi):=by
  intro s t m h1 h2;unfold bz at h1 h2;simp only[fS];omega
 exact and_congr (key a1 b1) (and_congr (key a2 b2) (and_congr (key a3 b3) (key a4 b4)))
theorem Dn(a b:Cell)(ha:cw a)(hb:cw b)(H:Heap):ak prog F.oc [cellV a,cellV b] H [] (Is (.bool (!decide (okC (bK a b)))) H):=by
 refine cQ 40 (fun _=>rfl) rfl (Eq.mpr (KM _ a b) ?_) H
 delta Em juq jug fk
 repeat' first|(refine aq (fun h =>?_) (fun h =>?_))
 all_goals first|exact bEq (by rw[decide_eq_false (fun o=>by have:=(ze ha hb).1 o;omega)];rfl)|exact bEq (by rw[decide_eq_true ((ze ha hb).2 Om)];rfl)
theorem tt(a b:Cell)(H:Heap):ak prog F.nf [cellV a,cellV b] H [] (Is (cellV (bK a b)) H):=by
 refine cQ 40 (fun _=>rfl) rfl (Eq.mpr (I4 _ a b) ?_) H
 delta Bb ju0 jur juv jui jus juk juw jul jum jux jun juo juy jup juh nI pt eR kbq
 repeat' first|exact trivial|exact rfl|refine pM ?_ ?_ ?_|refine pL ?_ ?_ ?_|refine ⟨rfl,?_⟩|refine ⟨trivial,?_⟩|apply And.intro
theorem Jt(a b:Cell)(H:Heap):ak prog F.nY [cellV a,cellV b] H [] (Is (cellV (wx a b)) H):=by
 refine cQ 40 (fun _=>rfl) rfl (Eq.mpr (KJ _ a b) ?_) H
 delta Ej ju0 jur juv jui jus juk juw jul jum jux jun juo juy jup juh nI pt eR kbq
 repeat' first|exact trivial|exact rfl|refine pM ?_ ?_ ?_|refine pL ?_ ?_ ?_|refine ⟨rfl,?_⟩|refine ⟨trivial,?_⟩|apply And.intro
theorem Dm(c:Cell)(m:af)(h:Int)(hc:cw c)(hm:eS m)(hh:0<=h/\h<=10000)(H:Heap):ak prog F.i9 [cellV c,ao m,nI h] H [] (Is (cellV (nu c m h)) H):=by
 refine cQ 40 (fun _=>rfl) rfl (Eq.mpr (KG _ c m h) ?_) H
 delta Eg jua ju2 jui ju5 jud ju9 ju4 ju8 ju3 ju6 ju7 nI pt nw eR kbq c0q
 obtain ⟨⟨u1,u2,u3,u4⟩,d1,d2,d3,d4⟩:=hm
 obtain ⟨c1,c2,c3,c4⟩:=hc
 unfold bz at c1 c2 c3 c4
 have b1:=cx u1 hh;have b2:=cx u2 hh;have b3:=cx u3 hh;have b4:=cx u4 hh
 have e1:=cx d1 hh;have e2:=cx d2 hh;have e3:=cx d3 hh;have e4:=cx d4 hh
 repeat' first|(refine ⟨_,trivial,fun H' _ _=>cM _ _ (by first|exact u1|exact u2|exact u3|exact u4|exact d1|exact d2|exact d3|exact d4) hh H',?_⟩)|exact trivial|exact rfl|refine pM ?_ ?_ ?_|refine pL ?_ ?_ ?_|refine ⟨rfl,?_⟩|refine ⟨trivial,?_⟩|refine ⟨ay Om,?_⟩|apply And.intro
theorem GZ(a b:Cell)(ha:cw a)(H:Heap):ak prog F.mY [cellV a,cellV b] H [] (Is (.bool (decide (oD a b))) H):=by
 refine cQ 40 (fun _=>rfl) rfl (Eq.mpr (IW _ a b) ?_) H
 delta A5 jug juq fk
 obtain ⟨a1,a2,a3,a4⟩:=ha
 unfold bz at a1 a2 a3 a4
 repeat' first|(refine aq (fun h =>?_) (fun h =>?_))
 all_goals first|exact bEq (decide_eq_true (by unfold oD pO;omega)).symm|exact bEq (decide_eq_false (by unfold oD pO;omega)).symm
def kH(w h t:Int):Prop:=(1<=w/\w<=64)/\(1<=h/\h<=64)/\w*h<=1024/\(0<=t/\t<=10000)
instance (w h t:Int):Decidable (kH w h t):=by unfold kH;infer_instance
def aW(w h t:Int):Int:=if kH w h t then 0 else 6
theorem d7{w h t:Int}:aW w h t=0 ↔ kH w h t:=by unfold aW;split <;> simp_all
theorem bj(w h t:Int)(H:Heap):ak prog F.Hv [nI w,nI h,nI t] H [] (Is (nI (aW w h t)) H):=by
 refine cQ 40 (fun _=>rfl) rfl (Eq.mpr (OW _ w h t) ?_) H
 delta Lf juu nI fk nw
 have mb:(1<=w/\w<=64)->(1<=h/\h<=64)->0<=w*h/\w*h<=64*64:=fun h1 h2=>GR Om h1.2 Om h2.2
 repeat' first|(refine ⟨ay (by have:=mb ⟨‹_›,‹_›⟩ ⟨‹_›,‹_›⟩;omega),?_⟩)|(exact iEq (if_pos (by unfold kH;omega)).symm)|(exact iEq (if_neg (by unfold kH;omega)).symm)|(refine aq (fun h =>?_) (fun h =>?_))|refine cy ?_
theorem Dh(w h t:Int)(H:Heap):ak prog F.nP [nI w,nI h,nI t] H [] (Is (nI (aW w h t)) H):=by
 refine cQ 40 (fun _=>rfl) rfl (Eq.mpr (Kz _ w h t) ?_) H
 delta Ea juu nI fk nw
 have mb:(1<=w/\w<=64)->(1<=h/\h<=64)->0<=w*h/\w*h<=64*64:=fun h1 h2=>GR Om h1.2 Om h2.2
 repeat' first|(refine ⟨ay (by have:=mb ⟨Om,Om⟩ ⟨Om,Om⟩;omega),?_⟩)|(exact iEq (if_pos (by unfold kH;omega)).symm)|(exact iEq (if_neg (by unfold kH;omega)).symm)|(refine aq (fun h =>?_) (fun h =>?_))
end
end Go.Proofs.YthcjliffpebjaaaGreat
namespace Go.Proofs.YthcjliffpebjaaaGreat
noncomputable section
def aE{α:Type}(f:Nat->α)(n:Nat):List α:=(List.range n).map f
theorem bY{α:Type}(f:Nat->α)(n:Nat):(aE f n).length=n:=by simp[aE]
theorem ew{α:Type}(f:Nat->α)(n:Nat):aE f (n+1)=aE f n ++ [f n]:=by simp[aE,List.range_succ]
theorem eP{α:Type}{f:Nat->α}{n k:Nat}{d:α}(h:k<n):(aE f n).getD k d=f k:=by simp[aE,List.getD_eq_getElem?_getD,List.getElem?_range h]
abbrev az(r:Report):Value:=.agg ⟨ai r⟩
def eT(r:Report):Prop:=((0<=r.id/\r.id<=1000000)/\(1<=r.source/\r.source<=3)/\(0<=r.at_/\r.at_<=10000)/\(0<=r.x/\r.x<=63)/\(0<=r.y/\r.y<=63)/\(1<=r.has/\r.has<=15)) /\
 (r.has % 2=1->bz r.cell.ae 100)/\(r.has / 2 % 2=1->bz r.cell.ab 400)/\(r.has / 4 % 2=1->bz r.cell.aa 100)/\(r.has / 8 % 2=1->bz r.cell.ac 3)
instance (r:Report):Decidable (eT r):=by unfold eT;infer_instance
def errReport(r:Report):Int:=if eT r then 0 else 20
theorem dO{r:Report}:errReport r=0 ↔ eT r:=by unfold errReport;split <;> simp_all
def sU(r:Report):Cell:=⟨if r.has % 2=1 then r.cell.ae else ⟨0,100⟩,if r.has / 2 % 2=1 then r.cell.ab else ⟨0,400⟩,if r.has / 4 % 2=1 then r.cell.aa else ⟨0,100⟩,if r.has / 8 % 2=1 then r.cell.ac else ⟨0,3⟩⟩
theorem lS{r:Report}(h:eT r):cw (sU r):=by
 obtain ⟨_,h1,h2,h3,h4⟩:=h
 unfold sU
 refine ⟨?_,?_,?_,?_⟩
 ·show bz (if _ then _ else _) 100
  split
  ·exact h1 ‹_›
  ·unfold bz;decide
 ·show bz (if _ then _ else _) 400
  split
  ·exact h2 ‹_›
  ·unfold bz;decide
 ·show bz (if _ then _ else _) 100
  split
  ·exact h3 ‹_›
  ·unfold bz;decide
 ·show bz (if _ then _ else _) 3
  split
  ·exact h4 ‹_›
  ·unfold bz;decide
def bW(r:Report)(m:af)(now:Int):Cell:=nu (sU r) m (now-r.at_)
def DX(now:Int):Int:=if 0<=now/\now<=10000 then 0 else 6
def dx(m:af)(now:Int):Int:=cX (aM m) (DX now)
def gA(r:Report)(m:af)(now:Int):Cell×Int :=
 if cX (dx m now) (errReport r)=0 then (if r.at_ > now then (aj,12) else (bW r m now,0)) else (aj,cX (dx m now) (errReport r))
def cj(f:Nat->Int):Nat->Int
 |0=>0
 |n+1=>if cj f n=0 then f n else cj f n
theorem fa{f:Nat->Int}{n:Nat}(h:cj f n=0)(k:f n=0):cj f (n+1)=0:=by unfold cj;rw[if_pos h,k]
theorem jl{f:Nat->Int}{i n:Nat}(h:cj f i=0)(k:¬ f i=0)(hn:i<n):cj f n=f i:=by
 have key:∀d,cj f (i+1+d)=f i:=by
  intro d
  induction d with
  |zero=>show (if cj f i=0 then f i else cj f i)=f i;rw[if_pos h]
  |succ d ih=>show (if cj f (i+1+d)=0 then f (i+1+d) else cj f (i+1+d))=f i;rw[ih,if_neg k]
 have:=key (n-(i+1))
 rwa [show i+1+(n-(i+1))=n by omega]at this
theorem hC{f:Nat->Int}{n:Nat}(h:cj f n=0):∀i,i<n->f i=0:=by
 induction n with
 |zero=>intro i hi;omega
 |succ n ih =>
  unfold cj at h
  split at h
  ·intro i hi
   rcases Nat.lt_or_ge i n with h1|h1
   ·exact ih (by assumption) i h1
   ·obtain rfl:i=n:=Om
    exact h
  ·rename_i h1;exact absurd h h1
open Classical in
def dr(l:List Report)(now:Int)(i:Nat):Int :=
 if errReport (l.getD i ag)=0 then (if ∃k,k<i/\(l.getD k ag).id=(l.getD i ag).id then 10 else
  if (l.getD i ag).x≠(l.getD 0 ag).x∨(l.getD i ag).y≠(l.getD 0 ag).y then 1 else if (l.getD i ag).at_ > now then 12 else 0) else errReport (l.getD i ag)
def av(l:List Report)(m:af)(now:Int):Int:=cX (dx m now) (if 12<l.length then 2 else cj (dr l now) l.length)
def nx(l:List Report)(m:af)(now:Int)(n:Nat):List Cell:=aE (fun i=>bW (l.getD i ag) m now) n
abbrev told(l:List Report)(m:af)(now:Int):List Cell:=nx l m now l.length
def bM(n s i:Nat):Bool:=s.testBit (n-1-i)
def tog(ts:List Cell)(s:Nat):Nat->Option Cell
 |0=>some aO
 |j+1=>match tog ts s j with
  |none=>none
  |some c=>if bM ts.length s j then (if okC (bK c (ts.getD j aj)) then some (bK c (ts.getD j aj)) else none) else some c
def di(ts:List Cell)(s:Nat):Option Cell:=tog ts s ts.length
def dt(s:Nat):Nat:=((List.range 12).filter fun i=>s.testBit i).length
def agr(ts:List Cell):Nat->Int×List Nat
 |0=>(-1,[])
 |j+1 =>
  let s:=2 ^ ts.length-1-j
  if (dt s:Int)<(agr ts j).1 then agr ts j else if (di ts s).isSome then (if (agr ts j).1<dt s then (dt s,[s]) else ((agr ts j).1,(agr ts j).2 ++ [s])) else agr ts j
def bt(ts:List Cell):List Nat:=(agr ts (2 ^ ts.length)).2
def jb(s:Nat):List Value:=[nI ((s:Nat):Int)]
abbrev aC(b:Bool):List Value:=[.bool b]
def bo(p:Nat×Nat):List Value:=[nI ((p.1:Nat):Int),nI ((p.2:Nat):Int)]
def lw(l:List Report)(m:af)(now:Int):Cell×Int :=
 if av l m now=0 then (match di (told l m now) (2 ^ l.length-1) with|some c=>(c,0)|none=>(aj,21)) else (aj,av l m now)
def aU(ts:List Cell)(i:Nat):Nat->List (Nat×Nat)
 |0=>[]
 |k+1=>if okC (bK (ts.getD i aj) (ts.getD (i+1+k) aj)) then aU ts i k else aU ts i k ++ [(i,i+1+k)]
def conf(ts:List Cell):Nat->List (Nat×Nat)
 |0=>[]
 |i+1=>conf ts i++aU ts i (ts.length-(i+1))
def a7(l:List Report)(m:af)(now:Int):List (Nat×Nat)×Int :=
 if av l m now=0 then (conf (told l m now) l.length,0) else ([],av l m now)
def bI(ts:List Cell):Nat:=(bt ts).getD 0 0
def bh(ts:List Cell)(n:Nat):List Bool:=aE (fun i=>bM ts.length (bI ts) i) n
def aB(l:List Report)(m:af)(now:Int):List Bool×Cell×Int :=
 if av l m now=0 then (bh (told l m now) l.length,(di (told l m now) (bI (told l m now))).getD aj,0) else ([],aj,av l m now)
end
end Go.Proofs.YthcjliffpebjaaaGreat
