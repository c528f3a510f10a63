/- Ice: the examples of the chapter (awake), as a contract. No condition. -/
import Derived.Test.YthcjliffpebjaaaGreatA4a
import Derived.Test.YthcjliffpebjaaaGreatGB4xS6g
import Derived.Test.YthcjliffpebjaaaGreatGS4gxP1a
import Derived.Test.YthcjliffpebjaaaGreatGX0xS4a
open Go Go.K
set_option maxRecDepth 1000000
set_option maxHeartbeats 4000000
set_option linter.unusedVariables false
set_option linter.unusedSimpArgs false
namespace Go.Proofs.YthcjliffpebjaaaGreat
noncomputable section
attribute [local irreducible] vF
theorem fN(H:Heap):ak prog F.cC [] H [] (Is (.bool true) H):=by
 have hv:vF prog msk (dm MF) 100000 true 40 true F.cC [] ⟨0,.leaf⟩ none .auto (fun v _ _=>xW v):=of_eq_true Ip
 have h0:=vc (P:=prog) (mask:=msk) (dm:=dm MF) (rounds:=100000) (mixed:=true) vX mixed 40 (f:=F.cC) (args:=[]) (H:=⟨0,.leaf⟩) (M:=none) (h:=.auto) (Q:=fun v _=>xW v) hv
 have h1:ak prog F.cC [] [] [] (fun v _=>v = .bool true):=h0.post (fun v H' h=>by
   cases v <;> first|exact h.elim|(rename_i b;cases b <;> first|rfl|exact h.elim))
 have h2:ak prog F.cC [] [] [] (Is (.bool true) []):=ak.clean h1 rfl
 have h3:=ak.frame (H:=H) (new:=[]) (d:=3) (σ:=fun _=>none) ⟨fun g hg=>absurd hg (by rw[gO];exact Nat.not_lt_zero _),fun _ _ h=>(by cases h),fun id h=>absurd h (Nat.not_lt_zero _),fun _ _ _ h=>(by cases h),fun _ _ _ h=>(by cases h)⟩ h2 rfl rfl
 simpa[rn] using h3
theorem tU(a b:Cell)(x:Ice)(m:af)(hours:Int)(xs:List Ice){H:Heap}{id:Nat}{own:Bool}{z:Nat}(hid:H[id]?=some (.cells own z (xs.flatMap bB))) :
  ak prog F.lG [cellV a,cellV b,Aa x,ao m,nI hours,slQ id 2 xs.length] H [] (Is (.bool true) H):=by
 refine ix (Eq.mpr (Ny _ a b x m hours xs) ?_) (cU (cD (fun _=>rfl) xs)) rfl [id] rfl (cT hid)
 delta IR jt0 jt8 jt3 jt7 jt5 jt2 jt4 jtb jt6 nI slQ fk nw eR wR ixq lq c0q c1q n1q
 repeat' first|(refine ⟨trivial,fun H' _ _=>fN H',?_⟩)|(refine ⟨_,trivial,fun H' _ _=>dM _ H',?_⟩)|(refine ⟨_,trivial,fun H' _ _=>dd _ H',?_⟩)|(refine ⟨_,trivial,fun H' _ _=>qL _ H',?_⟩)|(refine ⟨_,trivial,fun H' _ _=>kO _ H',?_⟩)|(refine ⟨_,trivial,fun H' _ _=>eW _ H',?_⟩)|(refine ⟨_,trivial,fun H' _ _=>fh _ H',?_⟩)|(refine ⟨aO,trivial,fun H' _ _=>Hd H',?_⟩)|(refine ⟨aO,trivial,fun H' _ _=>Dl H',?_⟩)|(refine ⟨_,trivial,fun H' _ _=>Pn _ _ H',?_⟩)|(refine ⟨_,trivial,fun H' _ _=>NV _ _ H',?_⟩)|(refine ⟨_,trivial,fun H' _ _=>Jx _ _ H',?_⟩)|(refine ⟨_,trivial,fun H' _ _=>G2 _ _ H',?_⟩)|(refine ⟨_,trivial,fun H' _ _=>NZ _ _ H',?_⟩)|(refine ⟨_,trivial,fun H' _ _=>LM _ _ H',?_⟩)|(refine ⟨_,trivial,fun H' _ _=>N0 _ _ H',?_⟩)|(refine ⟨_,trivial,fun H' _ _=>LN _ _ H',?_⟩)|(refine ⟨_,trivial,fun H' _ _=>Po _ _ _ H',?_⟩)|(refine ⟨_,trivial,fun H' _ _=>NW _ _ _ H',?_⟩)|(refine ⟨_,⟨rfl,trivial⟩,fun H' _ hd=>(Hi _ _ Om hd.1).wkA ⟨dZ,ad _,trivial⟩,?_⟩)|(refine ⟨_,⟨rfl,trivial⟩,fun H' _ hd=>Fa _ _ Om hd.1,?_⟩)|(refine ⟨⟨rfl,trivial⟩,fun H' hl hd=>hl ▸ xN xs Om hd.1,?_⟩)|(refine cG (by simp only[bne_self_eq_false,BEq.rfl,Bool.and_self,Bool.not_true]) ?_)|exact rfl|(refine aq (fun h =>?_) (fun h =>?_))
 all_goals
  refine ⟨rfl,Nat.zero_le _,?_,fun _=>rfl,?_⟩
  ·repeat' first|exact trivial|refine ⟨rfl,?_⟩|refine ⟨trivial,?_⟩|apply And.intro|exact ad _
  ·intro k hk
   have e:∀j,j<xs.length->cu 4 (List.flatMap bB xs) (0+Int.toNat ((j:Nat):Int)*4)=some (.agg #[nI (List.getD xs j ar).ae,nI (List.getD xs j ar).ab,nI (List.getD xs j ar).aa,nI (List.getD xs j ar).ac]):=fun j hj=>dF hj
   refine aq (fun h =>?_) (fun h =>?_)
   ·repeat' first|refine ⟨e _ Om,?_⟩|(refine cG (by simp only[bne_self_eq_false,BEq.rfl,Bool.and_self,Bool.not_true]) ?_)|refine ⟨k+1,Om,Om,?_⟩|exact trivial|refine ⟨rfl,?_⟩|refine ⟨trivial,?_⟩|refine ⟨ay Om,?_⟩|refine And.intro Om ?_|apply And.intro|exact ad _
   ·repeat' first|(refine ⟨trivial,fun H' _ _=>fN H',?_⟩)|(refine kj (by simp only[BEq.rfl]) ?_)|exact rfl
end
end Go.Proofs.YthcjliffpebjaaaGreat
namespace Go.Proofs.YthcjliffpebjaaaGreat
noncomputable section
structure dQ where
 w:Int
 h:Int
 hour:Int
 cells:List Cell
def bR:dQ:=⟨0,0,0,[]⟩
def tab{α:Type}(f:Nat->α)(n:Nat):List α:=(List.range n).map f
theorem f9{α:Type}(f:Nat->α)(n:Nat):(tab f n).length=n:=by simp[tab]
theorem Gu{α:Type}(f:Nat->α)(n:Nat):tab f (n+1)=tab f n ++ [f n]:=by simp[tab,List.range_succ]
def bf(w h t:Int)(cs:List Cell):Int:=cX (aW w h t) (if (cs.length:Int)=w*h then errs ax cs else 1)
def cv(w h t:Int)(cs:List Cell)(m:af)(n:Int):dQ×Int :=
 if cX (bf w h t cs) (aM m)=0 then (if 0<=n/\n<=10000-t then (⟨w,h,t+n,tab (fun k=>nu (cs.getD k aj) m n) cs.length⟩,0) else (bR,6)) else (bR,cX (bf w h t cs) (aM m))
def bV(w h t:Int)(cs:List Cell)(w' h' t':Int)(ds:List Cell):Int :=
 if cX (bf w h t cs) (bf w' h' t' ds)=0 then (if w=w'/\h=h'/\t=t' then 0 else 1) else cX (bf w h t cs) (bf w' h' t' ds)
def iz(cs ds:List Cell)(k:Nat):Cell:=bK (cs.getD k aj) (ds.getD k aj)
def kX(cs ds:List Cell)(k:Nat):Cell:=wx (cs.getD k aj) (ds.getD k aj)
def s6(cs ds:List Cell)(n:Nat):Prop:=∀k,k<n->okC (iz cs ds k)
def me(cs ds:List Cell)(n:Nat):Prop:=∀k,k<n->oD (cs.getD k aj) (ds.getD k aj)
def ml(cs:List Cell)(xs:List Ice)(n:Nat):Prop:=∀k,k<n->oG (cs.getD k aj) (xs.getD k ar)
open Classical in
def bG(w h t:Int)(cs:List Cell)(w' h' t':Int)(ds:List Cell):dQ×Int :=
 if bV w h t cs w' h' t' ds=0 then (if s6 cs ds cs.length then (⟨w,h,t,tab (iz cs ds) cs.length⟩,0) else (bR,21)) else (bR,bV w h t cs w' h' t' ds)
def bL(w h t:Int)(cs:List Cell)(w' h' t':Int)(ds:List Cell):dQ×Int :=
 if bV w h t cs w' h' t' ds=0 then (⟨w,h,t,tab (kX cs ds) cs.length⟩,0) else (bR,bV w h t cs w' h' t' ds)
open Classical in
def nF(w h t:Int)(cs:List Cell)(w' h' t':Int)(ds:List Cell):Bool×Int :=
 if bV w h t cs w' h' t' ds=0 then (decide (me cs ds cs.length),0) else (false,bV w h t cs w' h' t' ds)
open Classical in
def gB(w h t:Int)(cs:List Cell)(xs:List Ice):Bool×Int :=
 if bf w h t cs=0 then (if xs.length=cs.length then (if errs bF xs=0 then (decide (ml cs xs xs.length),0) else (false,errs bF xs)) else (false,1)) else (false,bf w h t cs)
end
end Go.Proofs.YthcjliffpebjaaaGreat
namespace Go.Proofs.YthcjliffpebjaaaGreat
noncomputable section
attribute [local irreducible] vF
abbrev fC:Value:=nI 0
abbrev gU:Int:=(0:Nat)
abbrev fD(cs:List Cell):Int:=(cs.length:Nat)
abbrev xP(cs:List Cell):Prop:=wR (slQ 0 2 cs.length)/\eR (nI (fD cs))/\True
abbrev jL:Prop:=(True)/\(True)/\(True)
abbrev jv0(qC0:List Cell)(qn0:Nat):Value:=.agg #[nI (qC0.getD qn0 aj).ae.lo,nI (qC0.getD qn0 aj).ae.hi,nI (qC0.getD qn0 aj).ab.lo,nI (qC0.getD qn0 aj).ab.hi,nI (qC0.getD qn0 aj).aa.lo,nI (qC0.getD qn0 aj).aa.hi,nI (qC0.getD qn0 aj).ac.lo,nI (qC0.getD qn0 aj).ac.hi]
abbrev jv2(qC0:List Cell)(qn0:Nat):Prop:=cu 8 (qC0.flatMap cellC) (0+Int.toNat (qn0:Int)*8)=some (jv0 qC0 qn0)
abbrev eX(cs:List Cell)(J:Nat):=cs.getD J aj
def D6(sp:Value)(cs:List Cell):Prop :=
 (lq (0<=List.length cs/\sp=nI (errs ax (cs.drop 0))) (true=true/\(fC=nI gU/\eR (.func (.func 27) #[] #[])/\xP cs)/\jL) (∀J:Nat,(J<=List.length cs/\sp=nI (errs ax (cs.drop J)))->(fk (decide (((J:Int):Int)<(fD cs))) ((ixq (J:Int) cs.length)/\((jv2 cs J)/\(∃i_1:Int,(c0q 2 27 [.agg #[nI (eX cs J).ae.lo,nI (eX cs J).ae.hi,nI (eX cs J).ab.lo,nI (eX cs J).ab.hi,nI (eX cs J).aa.lo,nI (eX cs J).aa.hi,nI (eX cs J).ac.lo,nI (eX cs J).ac.hi]] (nI i_1) (fk ((i_1:Int) != 0) ((nI i_1:Value)=sp) (nw ((J:Int)+1) (∃bH:Nat,(bH<=List.length cs/\sp=nI (errs ax (cs.drop bH)))/\(List.length cs-bH)<(List.length cs-J)/\true=true/\((nI ((J:Int)+1):Value)=nI (bH:Int)/\eR (.func (.func 27) #[] #[])/\xP cs)/\jL))))))) (fC=sp))))
abbrev B7(cs:List Cell):=aH 0 [cs.flatMap cellC]
abbrev jv8(qn0 qn1 qn2 qn3:Nat):Hint:=.go qn0 (.fork (.auto) (.go qn1 (.slot qn2 (nI ((qn3:Int)+1)) (.go 0 (.again [])))))
theorem Kv(sp:Value)(cs:List Cell):vE 119 [slQ 0 2 cs.length,.func (.func 27) #[] #[]] (B7 cs) (some [])
 (.go 3 (.inv 3 (Nat) (0) [] [] (fun J=>[(10,nI (J:Int)),(1,.func (.func 27) #[] #[]),(8,slQ 0 2 cs.length),(9,nI (fD cs))]) (fun J=>[]) (fun J=>[]) (fun J=>[]) (fun J=>(J<=List.length cs/\sp=nI (errs ax (cs.drop J)))) (fun J=>(List.length cs-J)) (fun J => .go 0 (.fork (.need (.val (jv0 cs J) (.go 3 (.bind (Int) (fun r1 => .ans [] (nI r1) [] (jv8 2 0 20 J)))))) (.auto)))))
 (fun v _ _=>v=sp)=D6 sp cs:=by kernel_rfl
abbrev rW:Value:=nI 1
abbrev il(cs:List Cell):ah:=.cells false 0 (cs.flatMap cellC)
def rS(sp:Value)(w h t:Int)(cs:List Cell):Prop :=
 (∃i_0:Int,(c0q 2 118 [nI w,nI h,nI t] (nI i_0) (fk ((i_0:Int) != 0) ((nI i_0:Value)=sp) (nw (w*h) (fk (((fD cs):Int) != (w*h)) (rW=sp) (∃i_1:Int,(c1q 2 0 (il cs) 119 [slQ 0 2 cs.length,.func (.func 27) #[] #[]] (nI i_1) ((nI i_1:Value)=sp))))))))
abbrev oA(w h t:Int)(cs:List Cell):List Value:=[.agg #[nI w,nI h,nI t,slQ 0 2 cs.length]]
abbrev qM(cs:List Cell):Nat×ah:=(0,.cells false 0 (cs.flatMap cellC))
theorem Bn(sp:Value)(w h t:Int)(cs:List Cell):vE 49 (oA w h t cs) (B7 cs) (some [])
 (.go 7 (.bind (Int) (fun r0 => .ans [] (nI r0) [] (.go 2 (.fork (.auto) (.go 7 (.slot 21 (nI (w*h)) (.go 0 (.fork (.auto) (.go 1 (.bind (Int) (fun r1 => .ans [(qM cs)] (nI r1) [] (.auto)))))))))))))
 (fun v _ _=>v=sp)=rS sp w h t cs:=by kernel_rfl
abbrev jvt(qn0:Nat)(qC0:List Cell):Prop:=qn0<=List.length qC0/\errs ax qC0=errs ax (qC0.drop qn0)
abbrev pK(U:Nat)(cs:List Cell):=decide (((U:Int):Int)<(fD cs))
abbrev oz(U:Nat)(cs:List Cell):=ixq (U:Int) cs.length
abbrev rX(U:Nat):Value:=nI ((U:Int)+1)
def qq(sp:Value)(w h t:Int)(cs:List Cell):Prop :=
 (∃i_0:Int,(c0q 2 120 [nI w,nI h,nI t] (nI i_0) (fk ((i_0:Int) != 0) ((nI i_0:Value)=sp) (nw (w*h) (fk (((fD cs):Int) != (w*h)) (rW=sp) (lq (0<=List.length cs/\errs ax cs=errs ax (cs.drop 0)) (true=true/\(fC=nI gU/\eR (pt 1)/\True)/\jL) (∀U:Nat,(jvt U cs)->(fk (pK U cs) ((oz U cs)/\((jv2 cs U)/\(∃i_2:Int,(c0q 2 28 [.agg #[nI (cs.getD U aj).ae.lo,nI (cs.getD U aj).ae.hi,nI (cs.getD U aj).ab.lo,nI (cs.getD U aj).ab.hi,nI (cs.getD U aj).aa.lo,nI (cs.getD U aj).aa.hi,nI (cs.getD U aj).ac.lo,nI (cs.getD U aj).ac.hi]] (nI i_2) (fk ((i_2:Int) != 0) ((nI i_2:Value)=sp) (nw ((U:Int)+1) (∃bg:Nat,(jvt bg cs)/\(List.length cs-bg)<(List.length cs-U)/\true=true/\((rX U)=nI (bg:Int)/\eR (pt 1)/\True)/\jL))))))) (fC=sp)))))))))
theorem yx(sp:Value)(w h t:Int)(cs:List Cell):vE 50 (oA w h t cs) (B7 cs) (some [])
 (.go 7 (.bind (Int) (fun r0 => .ans [] (nI r0) [] (.go 2 (.fork (.auto) (.go 7 (.slot 23 (nI (w*h)) (.go 0 (.fork (.auto) (.go 0 (.inv 3 (Nat) (0) [] [] (fun J=>[(4,nI (J:Int)),(1,pt 1)]) (fun J=>[]) (fun J=>[]) (fun J=>[]) (fun J=>(jvt J cs)) (fun J=>(List.length cs-J)) (fun J => .go 4 (.fork (.go 2 (.need (.val (jv0 cs J) (.bind (Int) (fun r2 => .ans [] (nI r2) [] (jv8 2 1 31 J)))))) (.auto))))))))))))))
 (fun v _ _=>v=sp)=qq sp w h t cs:=by kernel_rfl
abbrev Jz(m:af):List Value:=[.agg #[nI m.up.ae,nI m.up.ab,nI m.up.aa,nI m.up.ac,nI m.down.ae,nI m.down.ab,nI m.down.aa,nI m.down.ac]]
abbrev jv9(qi0:Int):Value:=.tuple #[.agg #[nI 0,nI 0,nI 0,.slice none 0 0],nI qi0]
abbrev jv1(qi0 qi1 qi2:Int)(qC0:List Cell)(qB0:af)(qi3:Int):Value:=.tuple #[.agg #[nI (cv qi0 qi1 qi2 qC0 qB0 qi3).1.w,nI (cv qi0 qi1 qi2 qC0 qB0 qi3).1.h,nI (cv qi0 qi1 qi2 qC0 qB0 qi3).1.hour,slQ 1 1 (List.length (cv qi0 qi1 qi2 qC0 qB0 qi3).1.cells)],nI (cv qi0 qi1 qi2 qC0 qB0 qi3).2]
abbrev ni:Prop:=True/\True
abbrev jvs(qi0 qi1 qi2 qi3:Int)(qC0:List Cell)(qB0:af)(qi4:Int):Prop:=true=true/\wk (jv9 qi0) (rn (sg 1 []) 3 (jv1 qi1 qi2 qi3 qC0 qB0 qi4))/\ni
abbrev jva(qi0 qi1 qi2:Int)(qC0:List Cell)(qB0:af)(qi3:Int):Prop:=true=true/\wk (.tuple #[.agg #[nI 0,nI 0,nI 0,.slice none 0 0],nI 6]:Value) (rn (sg 1 []) 3 (jv1 qi0 qi1 qi2 qC0 qB0 qi3))/\ni
abbrev jvv(qi0 qi1 qi2 qi3:Int)(qn0:Nat):Prop:=wkO (.cells true 0 [nI qi0,nI qi1,nI (qi2+qi3),.slice none 0 0]:ah) (rno (sg qn0 []) 3 (.cells true 0 [nI qi0,nI qi1,nI (qi2+qi3),slQ qn0 1 0]:ah))/\True
abbrev pJ:Prop:=ni/\(True)
abbrev JB(cs:List Cell)(Z:Nat)(m:af)(n:Int):List Value:=[.agg #[nI (cs.getD Z aj).ae.lo,nI (cs.getD Z aj).ae.hi,nI (cs.getD Z aj).ab.lo,nI (cs.getD Z aj).ab.hi,nI (cs.getD Z aj).aa.lo,nI (cs.getD Z aj).aa.hi,nI (cs.getD Z aj).ac.lo,nI (cs.getD Z aj).ac.hi],.agg #[nI m.up.ae,nI m.up.ab,nI m.up.aa,nI m.up.ac,nI m.down.ae,nI m.down.ab,nI m.down.aa,nI m.down.ac],nI n]
abbrev jv3(qD0:Cell):Value:=.agg #[nI qD0.ae.lo,nI qD0.ae.hi,nI qD0.ab.lo,nI qD0.ab.hi,nI qD0.aa.lo,nI qD0.aa.hi,nI qD0.ac.lo,nI qD0.ac.hi]
abbrev Fk(ir:Cell):List Value:=[nI ir.ae.lo,nI ir.ae.hi,nI ir.ab.lo,nI ir.ab.hi,nI ir.aa.lo,nI ir.aa.hi,nI ir.ac.lo,nI ir.ac.hi]
abbrev jv5(qD0:Cell):List Value:=[nI qD0.ae.lo,nI qD0.ae.hi,nI qD0.ab.lo,nI qD0.ab.hi,nI qD0.aa.lo,nI qD0.aa.hi,nI qD0.ac.lo,nI qD0.ac.hi]
abbrev jvp(qn0:Nat)(qC0:List Cell)(qB0:af)(qi0:Int)(qn1:Nat)(qD0:Cell)(qn2:Nat):Prop:=(kbq qn0 (.cells true 8 (((((tab (fun k=>nu (qC0.getD k aj) qB0 qi0) qn1).flatMap cellC).drop 0).take (qn1*8))++(((jv5 qD0).drop 0).take (1*8)))) (.cells true 8 ((tab (fun k=>nu (qC0.getD k aj) qB0 qi0) qn2).flatMap cellC)))/\True
abbrev jvg(qi0 qi1 qi2 qi3:Int)(qn0 qn1:Nat)(qC0:List Cell)(qB0:af):Prop:=true=true/\wk (.tuple #[.agg #[nI qi0,nI qi1,nI (qi2+qi3),slQ qn0 1 qn1],nI 0]:Value) (rn (sg 1 [(1,qn0)]) 3 (jv1 qi0 qi1 qi2 qC0 qB0 qi3))/\((kbq 1 (.cells true 8 ((tab (fun k=>nu (qC0.getD k aj) qB0 qi3) qn1).flatMap cellC)) (.cells true 8 (List.flatMap cellC (cv qi0 qi1 qi2 qC0 qB0 qi3).1.cells)))/\True)
def w6(w h t:Int)(cs:List Cell)(m:af)(n:Int):Prop :=
 (∃i_0:Int,(c1q 4 0 (il cs) 49 (oA w h t cs) (nI i_0) (∃i_1:Int,(c0q 4 31 (Jz m) (nI i_1) (fk ((i_0:Int) != 0) ((.bool ((i_0:Int) != 0):Value) = .bool true/\(jvs i_0 w h t cs m n)) (fk ((i_1:Int) != 0) ((.bool ((i_1:Int) != 0):Value) = .bool true/\(jvs i_1 w h t cs m n)) (nw (10000-t) (fk (decide ((0:Int)<=n)) (fk (!(decide ((n:Int)<=(10000-t)))) (jva w h t cs m n) (nw (t+n) (lq (0<=List.length cs) (true=true/\(fC=nI gU/\eR (nI n)/\eR (pt 2)/\eR (pt 3)/\eR (nI 0)/\eR (pt 5)/\xP cs)/\(jvv w h t n 6)/\pJ) (∀Z:Nat,(Z<=List.length cs)->(fk (decide (((Z:Int):Int)<(fD cs))) ((ixq (Z:Int) cs.length)/\((jv2 cs Z)/\(∃ir:Cell,(c0q 8 112 (JB cs Z m n) (jv3 ir) (apq Z 64 8 ((tab (fun k=>nu (cs.getD k aj) m n) Z).flatMap cellC) (Fk ir) (nw ((Z:Int)+1) (∃aQ:Nat,(aQ<=List.length cs)/\(List.length cs-aQ)<(List.length cs-Z)/\true=true/\((nI ((Z:Int)+1):Value)=nI (aQ:Int)/\eR (nI n)/\eR (pt 2)/\eR (pt 3)/\eR (nI 0)/\eR (pt 5)/\xP cs)/\(wkO (.cells true 0 [nI w,nI h,nI (t+n),slN 9 (Z+1)]:ah) (rno (sg 6 [(6,9)]) 3 (.cells true 0 [nI w,nI h,nI (t+n),slQ 6 1 aQ]:ah))/\True)/\(jvp 6 cs m n Z ir aQ)/\(True)))))))) (jvg w h t n 6 Z cs m)))))) (jva w h t cs m n)))))))))
abbrev N7(w h t:Int)(cs:List Cell)(m:af)(n:Int):List Value:=[.agg #[nI w,nI h,nI t,slQ 0 2 cs.length],.agg #[nI m.up.ae,nI m.up.ab,nI m.up.aa,nI m.up.ac,nI m.down.ae,nI m.down.ab,nI m.down.aa,nI m.down.ac],nI n]
abbrev N6:Hint:=.go 4 (.slot 19 (.bool true) (.go 4 (.again [])))
abbrev jvb(qn0 qn1 qn2 qn3 qn4 qn5:Nat):Hint:=.go qn0 (.need (.go qn1 (.slot qn2 (nI ((qn3:Int)+1)) (.go 0 (.again [(qn4,qn5)])))))
abbrev jvf(qC0:List Cell)(qi0 qi1 qi2:Int)(qB0:af)(qi3:Int):=er ((aH 0 [qC0.flatMap cellC]):HT).n 3 (.tuple #[.agg #[nI (cv qi0 qi1 qi2 qC0 qB0 qi3).1.w,nI (cv qi0 qi1 qi2 qC0 qB0 qi3).1.h,nI (cv qi0 qi1 qi2 qC0 qB0 qi3).1.hour,slQ 1 1 (List.length (cv qi0 qi1 qi2 qC0 qB0 qi3).1.cells)],nI (cv qi0 qi1 qi2 qC0 qB0 qi3).2]) [(true,.cells true 8 (List.flatMap cellC (cv qi0 qi1 qi2 qC0 qB0 qi3).1.cells))]
theorem Gd(w h t:Int)(cs:List Cell)(m:af)(n:Int):vE 51 (N7 w h t cs m n) (B7 cs) (some [])
 (.go 5 (.bind (Int) (fun r0 => .ans [(qM cs)] (nI r0) [] (.bind (Int) (fun r1 => .ans [] (nI r1) [] (.go 12 (.fork N6 (.go 8 (.fork N6 (.go 12 (.slot 25 (nI (10000-t)) (.go 5 (.am (.go 5 (.fork (.go 2 (.again [])) (.go 7 (.slot 36 (nI (t+n)) (.go 6 (.inv 3 (Nat) (0) [] [5] (fun J=>[(41,nI (J:Int)),(2,nI n),(4,pt 2),(6,pt 3),(7,nI 0),(9,pt 5),(39,slQ 0 2 cs.length),(40,nI (fD cs))]) (fun J=>[(5,false,.cells true 0 [nI w,nI h,nI (t+n),slQ 6 1 J])]) (fun J=>[(true,.cells true 8 ((tab (fun k=>nu (cs.getD k aj) m n) J).flatMap cellC))]) (fun J=>[]) (fun J=>(J<=List.length cs)) (fun J=>(List.length cs-J)) (fun J => .go 0 (.fork (.need (.val (jv0 cs J) (.go 19 (.bind (Cell) (fun r3 => .ans [] (jv3 r3) [] (jvb 13 2 56 J 6 9)))))) (.go 2 (.again [(1,6)])))))))))) (.go 6 (.again [])))))))))))))))
 (jvf cs w h t m n)=w6 w h t cs m n:=by kernel_rfl
abbrev LZ(n:Int):Prop:=eR (nI n)/\eR (pt 1)/\eR (pt 2)/\eR (pt 3)/\eR (nI 0)/\eR (pt 4)/\True
def uS(w h t:Int)(cs:List Cell)(m:af)(n:Int):Prop :=
 (∃i_0:Int,(c1q 4 0 (il cs) 50 (oA w h t cs) (nI i_0) (fk ((i_0:Int) != 0) (jvs i_0 w h t cs m n) (∃i_1:Int,(c0q 4 32 (Jz m) (nI i_1) (fk ((i_1:Int) != 0) (jvs i_1 w h t cs m n) (fk (decide ((n:Int)<0)) (jva w h t cs m n) (nw (10000-t) (fk (decide (((10000-t):Int)<n)) (jva w h t cs m n) (nw (t+n) (lq (0<=List.length cs) (true=true/\(fC=nI gU/\LZ n)/\(jvv w h t n 5)/\pJ) (∀Z:Nat,(Z<=List.length cs)->(fk (decide (((Z:Int):Int)<(fD cs))) ((ixq (Z:Int) cs.length)/\((jv2 cs Z)/\(∃ir:Cell,(c0q 6 113 (JB cs Z m n) (jv3 ir) (apq Z 64 8 ((tab (fun k=>nu (cs.getD k aj) m n) Z).flatMap cellC) (Fk ir) (nw ((Z:Int)+1) (∃aQ:Nat,(aQ<=List.length cs)/\(List.length cs-aQ)<(List.length cs-Z)/\true=true/\((nI ((Z:Int)+1):Value)=nI (aQ:Int)/\LZ n)/\(wkO (.cells true 0 [nI w,nI h,nI (t+n),slN 7 (Z+1)]:ah) (rno (sg 5 [(5,7)]) 3 (.cells true 0 [nI w,nI h,nI (t+n),slQ 5 1 aQ]:ah))/\True)/\(jvp 5 cs m n Z ir aQ)/\(True)))))))) (jvg w h t n 5 Z cs m))))))))))))))
theorem CL(w h t:Int)(cs:List Cell)(m:af)(n:Int):vE 52 (N7 w h t cs m n) (B7 cs) (some [])
 (.go 4 (.bind (Int) (fun r0 => .ans [(qM cs)] (nI r0) [] (.go 2 (.fork (.go 3 (.again [])) (.go 0 (.bind (Int) (fun r1 => .ans [] (nI r1) [] (.go 2 (.fork (.go 3 (.again [])) (.go 2 (.am (.go 4 (.again [])) (.go 3 (.slot 30 (nI (10000-t)) (.go 1 (.fork (.go 2 (.again [])) (.go 7 (.slot 41 (nI (t+n)) (.go 3 (.inv 3 (Nat) (0) [] [4] (fun J=>[(11,nI (J:Int)),(2,nI n),(3,pt 1),(4,pt 2),(6,pt 3),(7,nI 0),(10,pt 4)]) (fun J=>[(4,false,.cells true 0 [nI w,nI h,nI (t+n),slQ 5 1 J])]) (fun J=>[(true,.cells true 8 ((tab (fun k=>nu (cs.getD k aj) m n) J).flatMap cellC))]) (fun J=>[]) (fun J=>(J<=List.length cs)) (fun J=>(List.length cs-J)) (fun J => .go 4 (.fork (.go 4 (.need (.val (jv0 cs J) (.go 1 (.bind (Cell) (fun r3 => .ans [] (jv3 r3) [] (jvb 0 3 49 J 5 7))))))) (.go 2 (.again [(1,5)]))))))))))))))))))))))))
 (jvf cs w h t m n)=uS w h t cs m n:=by kernel_rfl
abbrev nj(ds:List Cell):ah:=.cells false 0 (ds.flatMap cellC)
def Li(sp:Value)(w h t:Int)(cs:List Cell)(w' h' t':Int)(ds:List Cell):Prop :=
 (∃i_0:Int,(c1q 4 0 (il cs) 49 (oA w h t cs) (nI i_0) (∃i_1:Int,(c1q 4 1 (nj ds) 49 [.agg #[nI w',nI h',nI t',slQ 1 2 ds.length]] (nI i_1) (fk ((i_0:Int) != 0) ((.bool ((i_0:Int) != 0):Value) = .bool true/\(nI i_0:Value)=sp) (fk ((i_1:Int) != 0) ((.bool ((i_1:Int) != 0):Value) = .bool true/\(nI i_1:Value)=sp) (fk ((w:Int) != w') (rW=sp) (fk ((h:Int) != h') (rW=sp) (fk ((t:Int) != t') (rW=sp) (fC=sp))))))))))
abbrev ke(w h t:Int)(cs:List Cell)(w' h' t':Int)(ds:List Cell):List Value:=[.agg #[nI w,nI h,nI t,slQ 0 2 cs.length],.agg #[nI w',nI h',nI t',slQ 1 2 ds.length]]
abbrev zN(cs ds:List Cell):=aH 0 [cs.flatMap cellC,ds.flatMap cellC]
abbrev zM(ds:List Cell):Nat×ah:=(1,.cells false 0 (ds.flatMap cellC))
abbrev jvx:Hint:=.am (.auto) (.go 6 (.am (.auto) (.go 5 (.fork (.auto) (.auto)))))
theorem OZ(sp:Value)(w h t:Int)(cs:List Cell)(w' h' t':Int)(ds:List Cell):vE 124 (ke w h t cs w' h' t' ds) (zN cs ds) (some [])
 (.go 4 (.bind (Int) (fun r0 => .ans [(qM cs)] (nI r0) [] (.bind (Int) (fun r1 => .ans [(zM ds)] (nI r1) [] (.go 12 (.fork (.go 4 (.slot 13 (.bool true) (.auto))) (.go 8 (.fork (.go 4 (.slot 13 (.bool true) (.auto))) (.go 14 jvx))))))))))
 (fun v _ _=>v=sp)=Li sp w h t cs w' h' t' ds:=by kernel_rfl
def Lk(sp:Value)(w h t:Int)(cs:List Cell)(w' h' t':Int)(ds:List Cell):Prop :=
 (∃i_0:Int,(c1q 4 0 (il cs) 50 (oA w h t cs) (nI i_0) (fk ((i_0:Int) != 0) ((nI i_0:Value)=sp) (∃i_1:Int,(c1q 4 1 (nj ds) 50 [.agg #[nI w',nI h',nI t',slQ 1 2 ds.length]] (nI i_1) (fk ((i_1:Int) != 0) ((nI i_1:Value)=sp) (fk ((w:Int) != w') (rW=sp) (fk ((h:Int) != h') (rW=sp) (fk ((t:Int) != t') (rW=sp) (fC=sp))))))))))
theorem O1(sp:Value)(w h t:Int)(cs:List Cell)(w' h' t':Int)(ds:List Cell):vE 122 (ke w h t cs w' h' t' ds) (zN cs ds) (some [])
 (.go 3 (.bind (Int) (fun r0 => .ans [(qM cs)] (nI r0) [] (.go 2 (.fork (.auto) (.go 0 (.bind (Int) (fun r1 => .ans [(zM ds)] (nI r1) [] (.go 2 (.fork (.auto) (.go 5 jvx)))))))))))
 (fun v _ _=>v=sp)=Lk sp w h t cs w' h' t' ds:=by kernel_rfl
abbrev jv4(qi0 qi1 qi2:Int)(qC0:List Cell)(qi3 qi4 qi5:Int)(qC1:List Cell):Value:=.tuple #[.agg #[nI (bG qi0 qi1 qi2 qC0 qi3 qi4 qi5 qC1).1.w,nI (bG qi0 qi1 qi2 qC0 qi3 qi4 qi5 qC1).1.h,nI (bG qi0 qi1 qi2 qC0 qi3 qi4 qi5 qC1).1.hour,slQ 2 1 (List.length (bG qi0 qi1 qi2 qC0 qi3 qi4 qi5 qC1).1.cells)],nI (bG qi0 qi1 qi2 qC0 qi3 qi4 qi5 qC1).2]
abbrev jvk(qn0:Nat)(qC0:List Cell):Prop:=fC=nI gU/\eR (.func (.func qn0) #[] #[])/\eR (pt 6)/\eR (pt 7)/\eR (pt 8)/\wR (slQ 0 2 qC0.length)/\eR (nI ((qC0.length:Nat):Int))/\True
abbrev Fj:List Value:=[nI 0,nI 0,nI 0,.slice none 0 0]
abbrev jvj(qi0 qi1 qi2:Int)(qn0:Nat):Prop:=wkO (.cells true 0 [nI qi0,nI qi1,nI qi2,.slice none 0 0]:ah) (rno (sg qn0 []) 3 (.cells true 0 [nI qi0,nI qi1,nI qi2,slQ qn0 1 0]:ah))/\(krq qn0 (.cells true 0 Fj))/\True
abbrev jvz(cs:List Cell)(U:Nat)(ds:List Cell):List Value:=[.agg #[nI (cs.getD U aj).ae.lo,nI (cs.getD U aj).ae.hi,nI (cs.getD U aj).ab.lo,nI (cs.getD U aj).ab.hi,nI (cs.getD U aj).aa.lo,nI (cs.getD U aj).aa.hi,nI (cs.getD U aj).ac.lo,nI (cs.getD U aj).ac.hi],.agg #[nI (ds.getD U aj).ae.lo,nI (ds.getD U aj).ae.hi,nI (ds.getD U aj).ab.lo,nI (ds.getD U aj).ab.hi,nI (ds.getD U aj).aa.lo,nI (ds.getD U aj).aa.hi,nI (ds.getD U aj).ac.lo,nI (ds.getD U aj).ac.hi]]
abbrev jvi(qO0:Cell×Bool):Value:=.tuple #[.agg #[nI qO0.1.ae.lo,nI qO0.1.ae.hi,nI qO0.1.ab.lo,nI qO0.1.ab.hi,nI qO0.1.aa.lo,nI qO0.1.aa.hi,nI qO0.1.ac.lo,nI qO0.1.ac.hi],.bool qO0.2]
abbrev jvy:Value:=.tuple #[.agg #[nI 0,nI 0,nI 0,.slice none 0 0],nI 21]
abbrev L1(iD:Cell×Bool):List Value:=[nI iD.1.ae.lo,nI iD.1.ae.hi,nI iD.1.ab.lo,nI iD.1.ab.hi,nI iD.1.aa.lo,nI iD.1.aa.hi,nI iD.1.ac.lo,nI iD.1.ac.hi]
abbrev jvo(qn0 qn1 qn2:Nat)(qC0:List Cell):Prop:=(nI ((qn0:Int)+1):Value)=nI (qn1:Int)/\eR (.func (.func qn2) #[] #[])/\eR (pt 6)/\eR (pt 7)/\eR (pt 8)/\wR (slQ 0 2 qC0.length)/\eR (nI ((qC0.length:Nat):Int))/\True
abbrev jvq(qi0 qi1 qi2:Int)(qn0 qn1 qn2 qn3:Nat):Prop:=wkO (.cells true 0 [nI qi0,nI qi1,nI qi2,slN qn0 (qn1+1)]:ah) (rno (sg qn2 [(qn2,qn0)]) 3 (.cells true 0 [nI qi0,nI qi1,nI qi2,slQ qn2 1 qn3]:ah))/\(krq qn2 (.cells true 0 Fj))/\True
abbrev jvm(qi0 qi1 qi2:Int)(qn0 qn1:Nat)(qC0:List Cell)(qi3 qi4 qi5:Int)(qC1:List Cell):Prop:=true=true/\wk (.tuple #[.agg #[nI qi0,nI qi1,nI qi2,slQ qn0 1 qn1],nI 0]:Value) (rn (sg 2 [(2,qn0)]) 3 (jv4 qi0 qi1 qi2 qC0 qi3 qi4 qi5 qC1))/\((kbq 2 (.cells true 8 ((tab (iz qC0 qC1) qn1).flatMap cellC)) (.cells true 8 (List.flatMap cellC (bG qi0 qi1 qi2 qC0 qi3 qi4 qi5 qC1).1.cells)))/\True)
def rO(w h t:Int)(cs:List Cell)(w' h' t':Int)(ds:List Cell):Prop :=
 (∃i_0:Int,(c2q 8 0 (il cs) 1 (nj ds) 124 (ke w h t cs w' h' t' ds) (nI i_0) (fk ((i_0:Int) != 0) (true=true/\wk (jv9 i_0) (rn (sg 2 []) 3 (jv4 w h t cs w' h' t' ds))/\ni) (lq (0<=List.length cs/\s6 cs ds 0) (true=true/\(jvk 84 cs)/\(jvj w h t 9)/\pJ) (∀U:Nat,(U<=List.length cs/\s6 cs ds U)->(fk (pK U cs) ((oz U cs)/\((jv2 cs U)/\((ixq (U:Int) ds.length)/\((jv2 ds U)/\(∃iD:Cell×Bool,(c0q 12 84 (jvz cs U ds) (jvi iD) (fk (!iD.2) (true=true/\wk jvy (rn (sg 2 []) 3 (jv4 w h t cs w' h' t' ds))/\ni) (apq U 64 8 ((tab (iz cs ds) U).flatMap cellC) (L1 iD) (nw ((U:Int)+1) (∃bg:Nat,(bg<=List.length cs/\s6 cs ds bg)/\(List.length cs-bg)<(List.length cs-U)/\true=true/\(jvo U bg 84 cs)/\(jvq w h t 13 U 9 bg)/\((kbq 9 (.cells true 8 (((((tab (iz cs ds) U).flatMap cellC).drop 0).take (U*8))++((((L1 iD):List Value).drop 0).take (1*8)))) (.cells true 8 ((tab (iz cs ds) bg).flatMap cellC)))/\True)/\(True))))))))))) (jvm w h t 9 U cs w' h' t' ds)))))))
abbrev jvc(qC0 qC1:List Cell)(qi0 qi1 qi2 qi3 qi4 qi5:Int):=er ((aH 0 [qC0.flatMap cellC,qC1.flatMap cellC]):HT).n 3 (.tuple #[.agg #[nI (bG qi0 qi1 qi2 qC0 qi3 qi4 qi5 qC1).1.w,nI (bG qi0 qi1 qi2 qC0 qi3 qi4 qi5 qC1).1.h,nI (bG qi0 qi1 qi2 qC0 qi3 qi4 qi5 qC1).1.hour,slQ 2 1 (List.length (bG qi0 qi1 qi2 qC0 qi3 qi4 qi5 qC1).1.cells)],nI (bG qi0 qi1 qi2 qC0 qi3 qi4 qi5 qC1).2]) [(true,.cells true 8 (List.flatMap cellC (bG qi0 qi1 qi2 qC0 qi3 qi4 qi5 qC1).1.cells))]
theorem Bj(w h t:Int)(cs:List Cell)(w' h' t':Int)(ds:List Cell):vE 54 (ke w h t cs w' h' t' ds) (zN cs ds) (some [])
 (.go 12 (.bind (Int) (fun r0 => .ans [(qM cs),(zM ds)] (nI r0) [] (.go 2 (.fork (.go 7 (.again [])) (.go 12 (.inv 3 (Nat) (0) [] [8,7] (fun J=>[(31,nI (J:Int)),(2,.func (.func 84) #[] #[]),(4,pt 6),(6,pt 7),(9,pt 8),(29,slQ 0 2 cs.length),(30,nI (fD cs))]) (fun J=>[(8,false,.cells true 0 [nI w,nI h,nI t,slQ 9 1 J]),(7,true,.cells true 0 Fj)]) (fun J=>[(true,.cells true 8 ((tab (iz cs ds) J).flatMap cellC))]) (fun J=>[]) (fun J=>(J<=List.length cs/\s6 cs ds J)) (fun J=>(List.length cs-J)) (fun J => .go 0 (.fork (.go 0 (.need (.val (jv0 cs J) (.go 7 (.need (.val (jv0 ds J) (.go 26 (.bind (Cell×Bool) (fun EQ => .ans [] (jvi EQ) [] (.go 6 (.fork (.go 6 (.again [])) (jvb 16 2 59 J 9 13)))))))))))) (.go 6 (.again [(2,9)])))))))))))
 (jvc cs ds w h t w' h' t')=rO w h t cs w' h' t' ds:=by kernel_rfl
abbrev LX:Prop:=eR (pt 2)/\eR (pt 3)/\eR (pt 4)/\eR (pt 5)/\True
def qn(w h t:Int)(cs:List Cell)(w' h' t':Int)(ds:List Cell):Prop :=
 (∃i_0:Int,(c2q 5 0 (il cs) 1 (nj ds) 122 (ke w h t cs w' h' t' ds) (nI i_0) (fk ((i_0:Int) != 0) (true=true/\wk (jv9 i_0) (rn (sg 2 []) 3 (jv4 w h t cs w' h' t' ds))/\ni) (lq (0<=List.length cs/\s6 cs ds 0) (true=true/\(fC=nI gU/\LX)/\(jvj w h t 6)/\pJ) (∀U:Nat,(U<=List.length cs/\s6 cs ds U)->(fk (pK U cs) ((oz U cs)/\((jv2 cs U)/\((ixq (U:Int) ds.length)/\((jv2 ds U)/\(∃c_2:Bool,(c0q 7 109 (jvz cs U ds) (.bool c_2) (fk c_2 (true=true/\wk jvy (rn (sg 2 []) 3 (jv4 w h t cs w' h' t' ds))/\ni) ((oz U cs)/\((jv2 cs U)/\((ixq (U:Int) ds.length)/\((jv2 ds U)/\(∃ir:Cell,(c0q 7 83 (jvz cs U ds) (jv3 ir) (apq U 64 8 ((tab (iz cs ds) U).flatMap cellC) (Fk ir) (nw ((U:Int)+1) (∃aQ:Nat,(aQ<=List.length cs/\s6 cs ds aQ)/\(List.length cs-aQ)<(List.length cs-U)/\true=true/\((rX U)=nI (aQ:Int)/\LX)/\(jvq w h t 8 U 6 aQ)/\((kbq 6 (.cells true 8 (((((tab (iz cs ds) U).flatMap cellC).drop 0).take (U*8))++(((jv5 ir).drop 0).take (1*8)))) (.cells true 8 ((tab (iz cs ds) aQ).flatMap cellC)))/\True)/\(True))))))))))))))))) (jvm w h t 6 U cs w' h' t' ds)))))))
theorem yu(w h t:Int)(cs:List Cell)(w' h' t':Int)(ds:List Cell):vE 55 (ke w h t cs w' h' t' ds) (zN cs ds) (some [])
 (.go 5 (.bind (Int) (fun r0 => .ans [(qM cs),(zM ds)] (nI r0) [] (.go 2 (.fork (.go 3 (.again [])) (.go 9 (.inv 3 (Nat) (0) [] [5,4] (fun J=>[(8,nI (J:Int)),(2,pt 2),(3,pt 3),(4,pt 4),(7,pt 5)]) (fun J=>[(5,false,.cells true 0 [nI w,nI h,nI t,slQ 6 1 J]),(4,true,.cells true 0 Fj)]) (fun J=>[(true,.cells true 8 ((tab (iz cs ds) J).flatMap cellC))]) (fun J=>[]) (fun J=>(J<=List.length cs/\s6 cs ds J)) (fun J=>(List.length cs-J)) (fun J => .go 4 (.fork (.go 2 (.need (.val (jv0 cs J) (.go 2 (.need (.val (jv0 ds J) (.bind (Bool) (fun xl => .ans [] (.bool xl) [] (.fork (.go 2 (.again [])) (.go 4 (.need (.val (jv0 cs J) (.go 2 (.need (.val (jv0 ds J) (.bind (Cell) (fun r3 => .ans [] (jv3 r3) [] (jvb 0 3 29 J 6 8)))))))))))))))))) (.go 2 (.again [(2,6)])))))))))))
 (jvc cs ds w h t w' h' t')=qn w h t cs w' h' t' ds:=by kernel_rfl
abbrev jv7(qi0 qi1 qi2:Int)(qC0:List Cell)(qi3 qi4 qi5:Int)(qC1:List Cell):Value:=.tuple #[.agg #[nI (bL qi0 qi1 qi2 qC0 qi3 qi4 qi5 qC1).1.w,nI (bL qi0 qi1 qi2 qC0 qi3 qi4 qi5 qC1).1.h,nI (bL qi0 qi1 qi2 qC0 qi3 qi4 qi5 qC1).1.hour,slQ 2 1 (List.length (bL qi0 qi1 qi2 qC0 qi3 qi4 qi5 qC1).1.cells)],nI (bL qi0 qi1 qi2 qC0 qi3 qi4 qi5 qC1).2]
abbrev jve(qi0 qi1 qi2:Int)(qn0:Nat):Prop:=wkO (.cells true 0 [nI qi0,nI qi1,nI qi2,.slice none 0 0]:ah) (rno (sg qn0 []) 3 (.cells true 0 [nI qi0,nI qi1,nI qi2,slQ qn0 1 0]:ah))/\True
abbrev Jy(bP:Cell):List Value:=[nI bP.ae.lo,nI bP.ae.hi,nI bP.ab.lo,nI bP.ab.hi,nI bP.aa.lo,nI bP.aa.hi,nI bP.ac.lo,nI bP.ac.hi]
abbrev jvh(qi0 qi1 qi2:Int)(qn0 qn1 qn2 qn3:Nat):Prop:=wkO (.cells true 0 [nI qi0,nI qi1,nI qi2,slN qn0 (qn1+1)]:ah) (rno (sg qn2 [(qn2,qn0)]) 3 (.cells true 0 [nI qi0,nI qi1,nI qi2,slQ qn2 1 qn3]:ah))/\True
abbrev jvw(qn0:Nat)(qC0 qC1:List Cell)(qn1:Nat)(qD0:Cell)(qn2:Nat):Prop:=(kbq qn0 (.cells true 8 (((((tab (kX qC0 qC1) qn1).flatMap cellC).drop 0).take (qn1*8))++(((jv5 qD0).drop 0).take (1*8)))) (.cells true 8 ((tab (kX qC0 qC1) qn2).flatMap cellC)))/\True
abbrev jvn(qi0 qi1 qi2:Int)(qn0 qn1:Nat)(qC0:List Cell)(qi3 qi4 qi5:Int)(qC1:List Cell):Prop:=true=true/\wk (.tuple #[.agg #[nI qi0,nI qi1,nI qi2,slQ qn0 1 qn1],nI 0]:Value) (rn (sg 2 [(2,qn0)]) 3 (jv7 qi0 qi1 qi2 qC0 qi3 qi4 qi5 qC1))/\((kbq 2 (.cells true 8 ((tab (kX qC0 qC1) qn1).flatMap cellC)) (.cells true 8 (List.flatMap cellC (bL qi0 qi1 qi2 qC0 qi3 qi4 qi5 qC1).1.cells)))/\True)
def rQ(w h t:Int)(cs:List Cell)(w' h' t':Int)(ds:List Cell):Prop :=
 (∃i_0:Int,(c2q 8 0 (il cs) 1 (nj ds) 124 (ke w h t cs w' h' t' ds) (nI i_0) (fk ((i_0:Int) != 0) (true=true/\wk (jv9 i_0) (rn (sg 2 []) 3 (jv7 w h t cs w' h' t' ds))/\ni) (lq (0<=List.length cs) (true=true/\(jvk 123 cs)/\(jve w h t 9)/\pJ) (∀U:Nat,(U<=List.length cs)->(fk (pK U cs) ((oz U cs)/\((jv2 cs U)/\((ixq (U:Int) ds.length)/\((jv2 ds U)/\(∃bP:Cell,(c0q 15 110 (jvz cs U ds) (jv3 bP) (apq U 64 8 ((tab (kX cs ds) U).flatMap cellC) (Jy bP) (nw ((U:Int)+1) (∃bg:Nat,(bg<=List.length cs)/\(List.length cs-bg)<(List.length cs-U)/\true=true/\(jvo U bg 123 cs)/\(jvh w h t 13 U 9 bg)/\(jvw 9 cs ds U bP bg)/\(True)))))))))) (jvn w h t 9 U cs w' h' t' ds)))))))
abbrev jvd(qC0 qC1:List Cell)(qi0 qi1 qi2 qi3 qi4 qi5:Int):=er ((aH 0 [qC0.flatMap cellC,qC1.flatMap cellC]):HT).n 3 (.tuple #[.agg #[nI (bL qi0 qi1 qi2 qC0 qi3 qi4 qi5 qC1).1.w,nI (bL qi0 qi1 qi2 qC0 qi3 qi4 qi5 qC1).1.h,nI (bL qi0 qi1 qi2 qC0 qi3 qi4 qi5 qC1).1.hour,slQ 2 1 (List.length (bL qi0 qi1 qi2 qC0 qi3 qi4 qi5 qC1).1.cells)],nI (bL qi0 qi1 qi2 qC0 qi3 qi4 qi5 qC1).2]) [(true,.cells true 8 (List.flatMap cellC (bL qi0 qi1 qi2 qC0 qi3 qi4 qi5 qC1).1.cells))]
theorem Bl(w h t:Int)(cs:List Cell)(w' h' t':Int)(ds:List Cell):vE 56 (ke w h t cs w' h' t' ds) (zN cs ds) (some [])
 (.go 12 (.bind (Int) (fun r0 => .ans [(qM cs),(zM ds)] (nI r0) [] (.go 2 (.fork (.go 7 (.again [])) (.go 12 (.inv 3 (Nat) (0) [] [8] (fun J=>[(31,nI (J:Int)),(2,.func (.func 123) #[] #[]),(4,pt 6),(6,pt 7),(9,pt 8),(29,slQ 0 2 cs.length),(30,nI (fD cs))]) (fun J=>[(8,false,.cells true 0 [nI w,nI h,nI t,slQ 9 1 J])]) (fun J=>[(true,.cells true 8 ((tab (kX cs ds) J).flatMap cellC))]) (fun J=>[]) (fun J=>(J<=List.length cs)) (fun J=>(List.length cs-J)) (fun J => .go 0 (.fork (.go 0 (.need (.val (jv0 cs J) (.go 7 (.need (.val (jv0 ds J) (.go 33 (.bind (Cell) (fun EP => .ans [] (jv3 EP) [] (jvb 26 2 59 J 9 13)))))))))) (.go 6 (.again [(2,9)])))))))))))
 (jvd cs ds w h t w' h' t')=rQ w h t cs w' h' t' ds:=by kernel_rfl
abbrev LY:Prop:=eR (pt 2)/\eR (pt 3)/\eR (pt 4)/\eR (nI 0)/\eR (pt 5)/\True
def qo(w h t:Int)(cs:List Cell)(w' h' t':Int)(ds:List Cell):Prop :=
 (∃i_0:Int,(c2q 5 0 (il cs) 1 (nj ds) 122 (ke w h t cs w' h' t' ds) (nI i_0) (fk ((i_0:Int) != 0) (true=true/\wk (jv9 i_0) (rn (sg 2 []) 3 (jv7 w h t cs w' h' t' ds))/\ni) (lq (0<=List.length cs) (true=true/\(fC=nI gU/\LY)/\(jve w h t 6)/\pJ) (∀U:Nat,(U<=List.length cs)->(fk (pK U cs) ((oz U cs)/\((jv2 cs U)/\((ixq (U:Int) ds.length)/\((jv2 ds U)/\(∃bP:Cell,(c0q 7 111 (jvz cs U ds) (jv3 bP) (apq U 64 8 ((tab (kX cs ds) U).flatMap cellC) (Jy bP) (nw ((U:Int)+1) (∃bg:Nat,(bg<=List.length cs)/\(List.length cs-bg)<(List.length cs-U)/\true=true/\((rX U)=nI (bg:Int)/\LY)/\(jvh w h t 8 U 6 bg)/\(jvw 6 cs ds U bP bg)/\(True)))))))))) (jvn w h t 6 U cs w' h' t' ds)))))))
theorem yv(w h t:Int)(cs:List Cell)(w' h' t':Int)(ds:List Cell):vE 57 (ke w h t cs w' h' t' ds) (zN cs ds) (some [])
 (.go 5 (.bind (Int) (fun r0 => .ans [(qM cs),(zM ds)] (nI r0) [] (.go 2 (.fork (.go 3 (.again [])) (.go 9 (.inv 3 (Nat) (0) [] [5] (fun J=>[(8,nI (J:Int)),(2,pt 2),(3,pt 3),(4,pt 4),(5,nI 0),(7,pt 5)]) (fun J=>[(5,false,.cells true 0 [nI w,nI h,nI t,slQ 6 1 J])]) (fun J=>[(true,.cells true 8 ((tab (kX cs ds) J).flatMap cellC))]) (fun J=>[]) (fun J=>(J<=List.length cs)) (fun J=>(List.length cs-J)) (fun J => .go 4 (.fork (.go 4 (.need (.val (jv0 cs J) (.go 2 (.need (.val (jv0 ds J) (.bind (Cell) (fun EP => .ans [] (jv3 EP) [] (jvb 0 3 29 J 6 8))))))))) (.go 2 (.again [(2,6)])))))))))))
 (jvd cs ds w h t w' h' t')=qo w h t cs w' h' t' ds:=by kernel_rfl
abbrev zI(i_0:Int):Value:=.tuple #[.bool false,nI i_0]
abbrev zK:Value:=.tuple #[.bool false,nI 0]
abbrev zJ:Value:=.tuple #[.bool true,nI 0]
def qr(sp:Value)(w h t:Int)(cs:List Cell)(w' h' t':Int)(ds:List Cell):Prop :=
 (∃i_0:Int,(c2q 4 0 (il cs) 1 (nj ds) 124 (ke w h t cs w' h' t' ds) (nI i_0) (fk ((i_0:Int) != 0) ((zI i_0)=sp) (lq (0<=List.length cs/\me cs ds 0) (true=true/\(fC=nI gU/\eR (pt 3)/\xP cs)/\jL) (∀U:Nat,(U<=List.length cs/\me cs ds U)->(fk (pK U cs) ((oz U cs)/\((jv2 cs U)/\((ixq (U:Int) ds.length)/\((jv2 ds U)/\(∃c_2:Bool,(c0q 5 106 (jvz cs U ds) (.bool c_2) (fk (!c_2) (zK=sp) (nw ((U:Int)+1) (∃bg:Nat,(bg<=List.length cs/\me cs ds bg)/\(List.length cs-bg)<(List.length cs-U)/\true=true/\((rX U)=nI (bg:Int)/\eR (pt 3)/\xP cs)/\jL))))))))) (zJ=sp)))))))
theorem yy(sp:Value)(w h t:Int)(cs:List Cell)(w' h' t':Int)(ds:List Cell):vE 58 (ke w h t cs w' h' t' ds) (zN cs ds) (some [])
 (.go 5 (.bind (Int) (fun r0 => .ans [(qM cs),(zM ds)] (nI r0) [] (.go 2 (.fork (.auto) (.go 3 (.inv 3 (Nat) (0) [] [] (fun J=>[(18,nI (J:Int)),(3,pt 3),(16,slQ 0 2 cs.length),(17,nI (fD cs))]) (fun J=>[]) (fun J=>[]) (fun J=>[]) (fun J=>(J<=List.length cs/\me cs ds J)) (fun J=>(List.length cs-J)) (fun J => .go 0 (.fork (.go 0 (.need (.val (jv0 cs J) (.go 6 (.need (.val (jv0 ds J) (.go 25 (.bind (Bool) (fun xl => .ans [] (.bool xl) [] (jv8 0 0 33 J)))))))))) (.auto))))))))))
 (fun v _ _=>v=sp)=qr sp w h t cs w' h' t' ds:=by kernel_rfl
abbrev zL:Prop:=eR (pt 2)/\eR (pt 3)/\True
abbrev jvl:Prop:=true=true/\(fC=nI gU/\zL)/\(True)/\(True)/\(True)
def nH(sp:Value)(w h t:Int)(cs:List Cell)(w' h' t':Int)(ds:List Cell):Prop :=
 (∃i_0:Int,(c2q 4 0 (il cs) 1 (nj ds) 122 (ke w h t cs w' h' t' ds) (nI i_0) (fk ((i_0:Int) != 0) ((zI i_0)=sp) (lq (0<=List.length cs/\me cs ds 0) jvl (∀U:Nat,(U<=List.length cs/\me cs ds U)->(fk (pK U cs) ((oz U cs)/\((jv2 cs U)/\((ixq (U:Int) ds.length)/\((jv2 ds U)/\(∃c_2:Bool,(c0q 4 108 (jvz cs U ds) (.bool c_2) (fk (!c_2) (zK=sp) (nw ((U:Int)+1) (∃bg:Nat,(bg<=List.length cs/\me cs ds bg)/\(List.length cs-bg)<(List.length cs-U)/\true=true/\((rX U)=nI (bg:Int)/\zL)/\jL))))))))) (zJ=sp)))))))
theorem vz(sp:Value)(w h t:Int)(cs:List Cell)(w' h' t':Int)(ds:List Cell):vE 59 (ke w h t cs w' h' t' ds) (zN cs ds) (some [])
 (.go 5 (.bind (Int) (fun r0 => .ans [(qM cs),(zM ds)] (nI r0) [] (.go 2 (.fork (.auto) (.go 0 (.inv 3 (Nat) (0) [] [] (fun J=>[(7,nI (J:Int)),(2,pt 2),(3,pt 3)]) (fun J=>[]) (fun J=>[]) (fun J=>[]) (fun J=>(J<=List.length cs/\me cs ds J)) (fun J=>(List.length cs-J)) (fun J => .go 4 (.fork (.go 2 (.need (.val (jv0 cs J) (.go 2 (.need (.val (jv0 ds J) (.bind (Bool) (fun xl => .ans [] (.bool xl) [] (jv8 0 1 20 J))))))))) (.auto))))))))))
 (fun v _ _=>v=sp)=nH sp w h t cs w' h' t' ds:=by kernel_rfl
abbrev vi(xs:List Ice):Int:=(xs.length:Nat)
abbrev jv6(qN0:List Ice)(qn0:Nat):Value:=.agg #[nI (qN0.getD qn0 ar).ae,nI (qN0.getD qn0 ar).ab,nI (qN0.getD qn0 ar).aa,nI (qN0.getD qn0 ar).ac]
abbrev jvr(qN0:List Ice)(qn0:Nat):Prop:=cu 4 (qN0.flatMap bB) (0+Int.toNat (qn0:Int)*4)=some (jv6 qN0 qn0)
abbrev JA(cs:List Cell)(Z:Nat)(xs:List Ice):List Value:=[.agg #[nI (cs.getD Z aj).ae.lo,nI (cs.getD Z aj).ae.hi,nI (cs.getD Z aj).ab.lo,nI (cs.getD Z aj).ab.hi,nI (cs.getD Z aj).aa.lo,nI (cs.getD Z aj).aa.hi,nI (cs.getD Z aj).ac.lo,nI (cs.getD Z aj).ac.hi],.agg #[nI (xs.getD Z ar).ae,nI (xs.getD Z ar).ab,nI (xs.getD Z ar).aa,nI (xs.getD Z ar).ac]]
def IK(sp:Value)(w h t:Int)(cs:List Cell)(xs:List Ice):Prop :=
 (∃i_0:Int,(c1q 3 0 (il cs) 49 (oA w h t cs) (nI i_0) (fk ((i_0:Int) != 0) ((zI i_0)=sp) (fk (((vi xs):Int) != (fD cs)) ((.tuple #[.bool false,nI 1]:Value)=sp) (∃i_1:Int,(c1q 3 1 (.cells false 0 (xs.flatMap bB)) 114 [slQ 1 2 xs.length,.func (.func 29) #[] #[]] (nI i_1) (fk ((i_1:Int) != 0) ((.tuple #[.bool false,nI i_1]:Value)=sp) (lq (0<=List.length xs/\ml cs xs 0) (true=true/\(fC=nI gU/\eR (pt 2)/\wR (slQ 1 2 xs.length)/\eR (nI (vi xs))/\True)/\jL) (∀Z:Nat,(Z<=List.length xs/\ml cs xs Z)->(fk (decide (((Z:Int):Int)<(vi xs))) ((ixq (Z:Int) xs.length)/\((jvr xs Z)/\((ixq (Z:Int) cs.length)/\((jv2 cs Z)/\(∃c_3:Bool,(c0q 4 104 (JA cs Z xs) (.bool c_3) (fk (!c_3) (zK=sp) (nw ((Z:Int)+1) (∃aQ:Nat,(aQ<=List.length xs/\ml cs xs aQ)/\(List.length xs-aQ)<(List.length xs-Z)/\true=true/\((nI ((Z:Int)+1):Value)=nI (aQ:Int)/\eR (pt 2)/\wR (slQ 1 2 xs.length)/\eR (nI (vi xs))/\True)/\jL))))))))) (zJ=sp)))))))))))
theorem Nt(sp:Value)(w h t:Int)(cs:List Cell)(xs:List Ice):vE 60 [.agg #[nI w,nI h,nI t,slQ 0 2 cs.length],slQ 1 2 xs.length] (aH 0 [cs.flatMap cellC,xs.flatMap bB]) (some [])
 (.go 3 (.bind (Int) (fun r0 => .ans [(qM cs)] (nI r0) [] (.go 2 (.fork (.auto) (.go 5 (.fork (.auto) (.go 0 (.bind (Int) (fun r1 => .ans [(1,.cells false 0 (xs.flatMap bB))] (nI r1) [] (.go 2 (.fork (.auto) (.go 2 (.inv 3 (Nat) (0) [] [] (fun J=>[(28,nI (J:Int)),(2,pt 2),(26,slQ 1 2 xs.length),(27,nI (vi xs))]) (fun J=>[]) (fun J=>[]) (fun J=>[]) (fun J=>(J<=List.length xs/\ml cs xs J)) (fun J=>(List.length xs-J)) (fun J => .go 0 (.fork (.go 0 (.need (.val (jv6 xs J) (.go 5 (.need (.val (jv0 cs J) (.go 13 (.bind (Bool) (fun EO => .ans [] (.bool EO) [] (jv8 0 0 42 J)))))))))) (.auto)))))))))))))))))
 (fun v _ _=>v=sp)=IK sp w h t cs xs:=by kernel_rfl
abbrev jvu(qn0:Nat)(qN0:List Ice):Prop:=qn0<=List.length qN0/\errs bF qN0=errs bF (qN0.drop qn0)
def Eh(sp:Value)(w h t:Int)(cs:List Cell)(xs:List Ice):Prop :=
 (∃i_0:Int,(c1q 3 0 (il cs) 50 (oA w h t cs) (nI i_0) (fk ((i_0:Int) != 0) ((zI i_0)=sp) (fk (((vi xs):Int) != (fD cs)) ((.tuple #[.bool false,nI 1]:Value)=sp) (lq (0<=List.length xs/\errs bF xs=errs bF (xs.drop 0)) (true=true/\(fC=nI gU/\wR (slQ 1 2 xs.length)/\eR (pt 2)/\True)/\jL) (∀U:Nat,(jvu U xs)->(fk (decide (((U:Int):Int)<(vi xs))) ((ixq (U:Int) xs.length)/\((jvr xs U)/\(∃i_2:Int,(c0q 3 30 [.agg #[nI (xs.getD U ar).ae,nI (xs.getD U ar).ab,nI (xs.getD U ar).aa,nI (xs.getD U ar).ac]] (nI i_2) (fk ((i_2:Int) != 0) ((.tuple #[.bool false,nI i_2]:Value)=sp) (nw ((U:Int)+1) (∃bg:Nat,(jvu bg xs)/\(List.length xs-bg)<(List.length xs-U)/\true=true/\((rX U)=nI (bg:Int)/\wR (slQ 1 2 xs.length)/\eR (pt 2)/\True)/\jL))))))) (lq (0<=List.length xs/\ml cs xs 0) (true=true/\(fC=nI gU/\eR (pt 2)/\wR (slQ 1 2 xs.length)/\True)/\jL) (∀Z:Nat,(Z<=List.length xs/\ml cs xs Z)->(fk (decide (((Z:Int):Int)<(vi xs))) ((ixq (Z:Int) cs.length)/\((jv2 cs Z)/\((ixq (Z:Int) xs.length)/\((jvr xs Z)/\(∃c_3:Bool,(c0q 3 105 (JA cs Z xs) (.bool c_3) (fk (!c_3) (zK=sp) (nw ((Z:Int)+1) (∃aQ:Nat,(aQ<=List.length xs/\ml cs xs aQ)/\(List.length xs-aQ)<(List.length xs-Z)/\true=true/\((nI ((Z:Int)+1):Value)=nI (aQ:Int)/\eR (pt 2)/\wR (slQ 1 2 xs.length)/\True)/\jL))))))))) (zJ=sp)))))))))))
theorem KH(sp:Value)(w h t:Int)(cs:List Cell)(xs:List Ice):vE 61 [.agg #[nI w,nI h,nI t,slQ 0 2 cs.length],slQ 1 2 xs.length] (aH 0 [cs.flatMap cellC,xs.flatMap bB]) (some [])
 (.go 3 (.bind (Int) (fun r0 => .ans [(qM cs)] (nI r0) [] (.go 2 (.fork (.auto) (.go 5 (.fork (.auto) (.go 0 (.inv 3 (Nat) (0) [] [] (fun J=>[(7,nI (J:Int)),(1,slQ 1 2 xs.length),(2,pt 2)]) (fun J=>[]) (fun J=>[]) (fun J=>[]) (fun J=>(jvu J xs)) (fun J=>(List.length xs-J)) (fun J => .go 3 (.fork (.go 1 (.need (.val (jv6 xs J) (.bind (Int) (fun r2 => .ans [] (nI r2) [] (jv8 2 1 26 J)))))) (.go 0 (.inv 3 (Nat) (0) [] [] (fun U=>[(9,nI (U:Int)),(2,pt 2),(1,slQ 1 2 xs.length)]) (fun U=>[]) (fun U=>[]) (fun U=>[]) (fun U=>(U<=List.length xs/\ml cs xs U)) (fun U=>(List.length xs-U)) (fun U => .go 3 (.fork (.go 2 (.need (.val (jv0 cs U) (.go 1 (.need (.val (jv6 xs U) (.bind (Bool) (fun EO => .ans [] (.bool EO) [] (jv8 0 1 40 U))))))))) (.auto))))))))))))))))
 (fun v _ _=>v=sp)=Eh sp w h t cs xs:=by kernel_rfl
abbrev L2(cs:List Cell)(J:Nat):List Value:=[nI (eX cs J).ae.lo,nI (eX cs J).ae.hi,nI (eX cs J).ab.lo,nI (eX cs J).ab.hi,nI (eX cs J).aa.lo,nI (eX cs J).aa.hi,nI (eX cs J).ac.lo,nI (eX cs J).ac.hi]
def IQ(w h t:Int)(cs:List Cell):Prop :=
 (lq (0<=List.length cs) (true=true/\(fC=nI gU/\eR (pt 1)/\zL)/\(jve w h t 4)/\pJ) (∀J:Nat,(J<=List.length cs)->(fk (decide (((J:Int):Int)<(fD cs))) ((ixq (J:Int) cs.length)/\((jv2 cs J)/\(apq J 64 8 ((cs.take J).flatMap cellC) (L2 cs J) (nw ((J:Int)+1) (∃bJ:Nat,(bJ<=List.length cs)/\(List.length cs-bJ)<(List.length cs-J)/\true=true/\((nI ((J:Int)+1):Value)=nI (bJ:Int)/\eR (pt 1)/\zL)/\(jvh w h t 6 J 4 bJ)/\((kbq 4 (.cells true 8 (((((cs.take J).flatMap cellC).drop 0).take (J*8))++((((L2 cs J):List Value).drop 0).take (1*8)))) (.cells true 8 ((cs.take bJ).flatMap cellC)))/\True)/\(True)))))) (true=true/\wk (.agg #[nI w,nI h,nI t,slQ 4 1 J]:Value) (rn (sg 1 [(1,4)]) 3 (.agg #[nI w,nI h,nI t,slQ 1 1 cs.length]:Value))/\((kbq 1 (.cells true 8 ((cs.take J).flatMap cellC)) (.cells true 8 (cs.flatMap cellC)))/\True)))))
theorem Nx(w h t:Int)(cs:List Cell):vE 48 (oA w h t cs) (B7 cs) (some [])
 (.go 11 (.inv 3 (Nat) (0) [] [3] (fun J=>[(4,nI (J:Int)),(1,pt 1),(2,pt 2),(3,pt 3)]) (fun J=>[(3,false,.cells true 0 [nI w,nI h,nI t,slQ 4 1 J])]) (fun J=>[(true,.cells true 8 ((cs.take J).flatMap cellC))]) (fun J=>[]) (fun J=>(J<=List.length cs)) (fun J=>(List.length cs-J)) (fun J => .go 4 (.fork (.go 4 (.need (.val (jv0 cs J) (jvb 0 3 18 J 4 6)))) (.go 1 (.again [(1,4)]))))))
 (er ((B7 cs):HT).n 3 (.agg #[nI w,nI h,nI t,slQ 1 1 cs.length]) [(true,.cells true 8 (cs.flatMap cellC))])=IQ w h t cs:=by kernel_rfl
abbrev Fi:Value:=.bool false
def Ll(sp:Value)(w h t:Int)(cs:List Cell):Prop :=
 (fk ((w:Int) != w) (Fi=sp) (fk ((h:Int) != h) (Fi=sp) (fk ((t:Int) != t) (Fi=sp) (fk (((fD cs):Int) != (fD cs)) (Fi=sp) (lq (0<=List.length cs) jvl (∀J:Nat,(J<=List.length cs)->(fk (decide (((J:Int):Int)<(fD cs))) ((ixq (J:Int) cs.length)/\((jv2 cs J)/\((ixq (J:Int) cs.length)/\((jv2 cs J)/\(fk (!(((((eX cs J).ae.lo:Int) == (eX cs J).ae.lo)&&((((eX cs J).ae.hi:Int) == (eX cs J).ae.hi)&&true))&&(((((eX cs J).ab.lo:Int) == (eX cs J).ab.lo)&&((((eX cs J).ab.hi:Int) == (eX cs J).ab.hi)&&true))&&(((((eX cs J).aa.lo:Int) == (eX cs J).aa.lo)&&((((eX cs J).aa.hi:Int) == (eX cs J).aa.hi)&&true))&&(((((eX cs J).ac.lo:Int) == (eX cs J).ac.lo)&&((((eX cs J).ac.hi:Int) == (eX cs J).ac.hi)&&true))&&true))))) (Fi=sp) (nw ((J:Int)+1) (∃bJ:Nat,(bJ<=List.length cs)/\(List.length cs-bJ)<(List.length cs-J)/\true=true/\((nI ((J:Int)+1):Value)=nI (bJ:Int)/\zL)/\jL))))))) ((.bool true:Value)=sp))))))))
theorem O2(sp:Value)(w h t:Int)(cs:List Cell):vE 53 [.agg #[nI w,nI h,nI t,slQ 0 2 cs.length],.agg #[nI w,nI h,nI t,slQ 1 2 cs.length]] (aH 0 [cs.flatMap cellC,cs.flatMap cellC]) (some [])
 (.go 8 (.am (.auto) (.go 6 (.am (.auto) (.go 6 (.am (.auto) (.go 7 (.fork (.auto) (.go 0 (.inv 3 (Nat) (0) [] [] (fun J=>[(5,nI (J:Int)),(2,pt 2),(3,pt 3)]) (fun J=>[]) (fun J=>[]) (fun J=>[]) (fun J=>(J<=List.length cs)) (fun J=>(List.length cs-J)) (fun J => .go 4 (.fork (.go 2 (.need (.val (jv0 cs J) (.go 2 (.need (.val (jv0 cs J) (jv8 0 1 40 J))))))) (.auto)))))))))))))
 (fun v _ _=>v=sp)=Ll sp w h t cs:=by kernel_rfl
theorem bX(c:Cell):(cellC c).length=8:=rfl
theorem cm{xs:List Cell}{x:Nat}(h:x<xs.length):cu 8 (List.flatMap cellC xs) (0+Int.toNat ((x:Nat):Int)*8)=some (.agg ⟨cellC (List.getD xs x aj)⟩) :=
 mH (f:=cellC) (d:=aj) (c:=0) (m:=8) bX h (by rw[Int.toNat_natCast];omega) (by decide)
theorem aT(n:Nat)(l:List Cell):(l.flatMap cellC).all (aw n)=true:=cD (fun _=>rfl) l
theorem xm(n:Nat)(l:List Ice):(l.flatMap bB).all (aw n)=true:=cD (fun _=>rfl) l
theorem i0{H:Heap}{id id2:Nat}{own dp:Bool}{z z2:Nat}{cs ds:List Value}(h1:H[id]?=some (.cells own z cs))(h2:H[id2]?=some (.cells dp z2 ds)):∀(k:Nat) (c:List Value),[cs,ds][k]?=some c->∃id' own z,[id,id2][k]?=some id'/\H[id']?=some (ah.cells own z c):=by
 intro k c h
 match k with
 |0=>cases h;exact ⟨id,own,z,rfl,h1⟩
 |1=>cases h;exact ⟨id2,dp,z2,rfl,h2⟩
theorem iy{cs ds:List Value}(h1:cs.all (aw 0)=true)(h2:ds.all (aw 0)=true):∀c ∈ [cs,ds],c.all (aw 0)=true:=by
 intro c hc
 rcases List.mem_cons.1 hc with rfl|hc
 ·exact h1
 ·rw[List.mem_singleton.1 hc];exact h2
theorem Jm(xs:List Cell)(hn:xs.length<=2 ^ 30){H:Heap}{id:Nat}{own:Bool}{z:Nat}(hid:H[id]?=some (.cells own z (xs.flatMap cellC))) :
  ak prog F.nn [slQ id 2 xs.length,.func (.func F.nD) #[] #[]] H [] (Is (nI (errs ax xs)) H):=by
 refine ix (Eq.mpr (Kv _ xs) ?_) (cU (aT 0 xs)) rfl [id] rfl (cT hid)
 delta D6 fC gU xP jL fD jv2 eX jv0 nI slQ fk nw eR wR ixq lq c0q
 refine ⟨rfl,⟨Nat.zero_le _,rfl⟩,?_,fun _=>rfl,?_⟩
 ·repeat' first|exact trivial|exact ad _|refine ⟨rfl,?_⟩|refine ⟨trivial,?_⟩|apply And.intro
 rintro x ⟨hx,hsp⟩
 refine aq (fun h =>?_) (fun h =>?_)
 ·have hlt:x<xs.length:=Om
  rw[mP (d:=aj) hlt]at hsp
  refine ⟨Om,cm hlt,_,trivial,fun H' _ _=>dM _ H',?_⟩
  refine aZ (fun h1 =>?_) (fun h1 =>?_)
  ·rw[hsp,if_neg h1]
  ·repeat' first|(refine ⟨x+1,⟨Om,by rw[hsp,if_pos h1]⟩,Om,?_⟩)|exact trivial|exact ad _|refine ⟨rfl,?_⟩|refine ⟨trivial,?_⟩|refine ⟨ay Om,?_⟩|apply And.intro
 ·rw[hsp,show x=xs.length by omega,List.drop_length];rfl
theorem oI{w h t:Int}{cs:List Cell}(h0:¬ aW w h t=0):bf w h t cs=aW w h t:=dL h0
theorem oH{w h t:Int}{cs:List Cell}(h0:aW w h t=0)(h1:(cs.length:Int)≠w*h):bf w h t cs=1:=(bi h0).trans (if_neg h1)
theorem ld{w h t:Int}{cs:List Cell}(h0:aW w h t=0)(h1:(cs.length:Int)=w*h):bf w h t cs=errs ax cs:=(bi h0).trans (if_pos h1)
theorem sQ{w h t:Int}(h0:aW w h t=0):1<=w*h/\w*h<=1024:=by
 obtain ⟨h1,h2,h3,_⟩:=d7.1 h0
 refine ⟨?_,h3⟩
 have:1*1<=w*h:=Int.mul_le_mul h1.1 h2.1 Om Om
 omega
theorem ik(w h t:Int)(cs:List Cell){H:Heap}{id:Nat}{own:Bool}{z:Nat}(hid:H[id]?=some (.cells own z (cs.flatMap cellC))) :
  ak prog F.ug [.agg #[nI w,nI h,nI t,slQ id 2 cs.length]] H [] (Is (nI (bf w h t cs)) H):=by
 refine ix (Eq.mpr (Bn _ w h t cs) ?_) (cU (aT 0 cs)) rfl [id] rfl (cT hid)
 delta rS fD rW il nI slQ fk nw c0q c1q
 refine ⟨_,trivial,fun H' _ _=>bj _ _ _ H',?_⟩
 refine aZ (fun h0=>iEq (oI h0).symm) (fun h0 =>?_)
 have hm:=sQ h0
 repeat' first|(refine ⟨_,⟨rfl,trivial⟩,fun H' _ hd=>Jm _ Om hd.1,?_⟩)|exact iEq (oH h0 h).symm|exact iEq (ld h0 h).symm|(refine aZ (fun h =>?_) (fun h =>?_))|refine ⟨ay Om,?_⟩
theorem gg(w h t:Int)(cs:List Cell){H:Heap}{id:Nat}{own:Bool}{z:Nat}(hid:H[id]?=some (.cells own z (cs.flatMap cellC))) :
  ak prog F.ka [.agg #[nI w,nI h,nI t,slQ id 2 cs.length]] H [] (Is (nI (bf w h t cs)) H):=by
 refine ix (Eq.mpr (yx _ w h t cs) ?_) (cU (aT 0 cs)) rfl [id] rfl (cT hid)
 delta qq fD rW fC gU jL jvt pK oz jv2 rX jv0 nI pt fk nw eR ixq lq c0q
 refine ⟨_,trivial,fun H' _ _=>Dh _ _ _ H',?_⟩
 refine aZ (fun h0=>iEq (oI h0).symm) (fun h0 =>?_)
 have hm:=sQ h0
 repeat' first|(refine ⟨rfl,⟨Nat.zero_le _,rfl⟩,?_,fun _=>rfl,?_⟩)|exact iEq (oH h0 h).symm|exact trivial|refine ⟨rfl,?_⟩|refine ⟨trivial,?_⟩|(refine aZ (fun h =>?_) (fun h =>?_))|refine ⟨ay Om,?_⟩|apply And.intro
 rintro x ⟨hx,he⟩
 refine aq (fun hl =>?_) (fun hl =>?_)
 ·have hlt:x<cs.length:=Om
  rw[mP (d:=aj) hlt]at he
  refine ⟨Om,cm hlt,_,trivial,fun H' _ _=>dd _ H',?_⟩
  refine aZ (fun h1 =>?_) (fun h1 =>?_)
  ·exact iEq ((ld h0 h).trans (by rw[he,if_neg h1])).symm
  ·repeat' first|(refine ⟨x+1,⟨Om,by rw[he,if_pos h1]⟩,Om,?_⟩)|exact trivial|refine ⟨rfl,?_⟩|refine ⟨trivial,?_⟩|refine ⟨ay Om,?_⟩|apply And.intro
 ·exact iEq ((ld h0 h).trans (by rw[he,show x=cs.length by omega,List.drop_length];rfl)).symm
theorem fV{w h t:Int}{cs:List Cell}(h0:bf w h t cs=0):kH w h t/\(cs.length:Int)=w*h/\cs.length<=1024/\∀c∈cs,cw c:=by
 have h1:aW w h t=0:=by
  rcases Classical.em (aW w h t=0) with h1|h1
  ·exact h1
  ·rw[oI h1]at h0;exact h0
 have h2:(cs.length:Int)=w*h:=by
  rcases Classical.em ((cs.length:Int)=w*h) with h2|h2
  ·exact h2
  ·rw[oH h1 h2]at h0;cases h0
 rw[ld h1 h2]at h0
 have hm:=sQ h1
 exact ⟨d7.1 h1,h2,Om,fun c hc=>fW.1 (iY h0 c hc)⟩
theorem ek{cs:List Cell}(h:∀c∈cs,cw c){k:Nat}(hk:k<cs.length):cw (cs.getD k aj):=h _ (ki hk)
theorem wO{f:dQ×Int}{e:Int}(hf:f=(bR,e)):wk (.tuple #[.agg #[nI 0,nI 0,nI 0,.slice none 0 0],nI e])
  (rn (sg 1 []) 3 (.tuple #[.agg #[nI f.1.w,nI f.1.h,nI f.1.hour,slQ 1 1 f.1.cells.length],nI f.2])):=by
 subst hf
 exact dz (aD (iL (aD (ad _) (aD (ad _) (aD (ad _) (aD (bx _ _ _ (.inl rfl)) kF))))) (aD (ad _) kF))
theorem Ir{f:dQ×Int}{a b c e:Int}{l:List Cell}{x K:Nat}(hf:f=(⟨a,b,c,l⟩,e))(hx:l.length=x):wk (.tuple #[.agg #[nI a,nI b,nI c,slQ K 1 x],nI e])
  (rn (sg 1 [(1,K)]) 3 (.tuple #[.agg #[nI f.1.w,nI f.1.h,nI f.1.hour,slQ 1 1 f.1.cells.length],nI f.2])):=by
 subst hf;subst hx;exact ad _
theorem wN{f:dQ×Int}{e:Int}(hf:f=(bR,e)):wk (.tuple #[.agg #[nI 0,nI 0,nI 0,.slice none 0 0],nI e])
  (rn (sg 2 []) 3 (.tuple #[.agg #[nI f.1.w,nI f.1.h,nI f.1.hour,slQ 2 1 f.1.cells.length],nI f.2])):=by
 subst hf
 exact dz (aD (iL (aD (ad _) (aD (ad _) (aD (ad _) (aD (bx _ _ _ (.inl rfl)) kF))))) (aD (ad _) kF))
theorem yp{f:dQ×Int}{a b c e:Int}{l:List Cell}{x K:Nat}(hf:f=(⟨a,b,c,l⟩,e))(hx:l.length=x):wk (.tuple #[.agg #[nI a,nI b,nI c,slQ K 1 x],nI e])
  (rn (sg 2 [(2,K)]) 3 (.tuple #[.agg #[nI f.1.w,nI f.1.h,nI f.1.hour,slQ 2 1 f.1.cells.length],nI f.2])):=by
 subst hf;subst hx;exact ad _
theorem rb{f:dQ×Int}{a b c e:Int}{l:List Cell}(hf:f=(⟨a,b,c,l⟩,e)):some (ah.cells true 8 (l.flatMap cellC))=some (ah.cells true 8 (f.1.cells.flatMap cellC)):=by subst hf;rfl
theorem wF{g:Nat->Cell}{x:Nat}:some (ah.cells true 8 (List.take (x*8) (List.drop 0 (List.flatMap cellC (tab g x)))++List.take (1*8) (List.drop 0 (cellC (g x)))))=some (ah.cells true 8 (List.flatMap cellC (tab g (x+1)))):=by
 rw[Gu];exact congrArg (fun l=>some (ah.cells true 8 l)) (cF bX (tab g x) (g x) (f9 _ _).symm)
theorem F3{g:Nat->Cell}{x:Nat}:x<=x/\0+x*8<=List.length (List.flatMap cellC (tab g x)):=⟨Nat.le_refl _,by rw[aK bX,f9];omega⟩
theorem DV{w v t n:Int}{cs:List Cell}{m:af}(h:¬ bf w v t cs=0):cv w v t cs m n=(bR,bf w v t cs):=by unfold cv;rw[dL h,if_neg h]
theorem DU{w v t n:Int}{cs:List Cell}{m:af}(h:bf w v t cs=0)(k:¬ aM m=0):cv w v t cs m n=(bR,aM m):=by unfold cv;rw[bi h,if_neg k]
theorem DT{w v t n:Int}{cs:List Cell}{m:af}(h:bf w v t cs=0)(k:aM m=0)(q:¬ (0<=n/\n<=10000-t)):cv w v t cs m n=(bR,6):=by unfold cv;rw[bi h,if_pos k,if_neg q]
theorem DS{w v t n:Int}{cs:List Cell}{m:af}(h:bf w v t cs=0)(k:aM m=0)(q:0<=n/\n<=10000-t):cv w v t cs m n=(⟨w,v,t+n,tab (fun k=>nu (cs.getD k aj) m n) cs.length⟩,0):=by unfold cv;rw[bi h,if_pos k,if_pos q]
theorem Ey{f:FuncId}{args:List Value}{css:List (List Value)}{h:Hint}{g:dQ×Int}{k:Nat}(hk:css.length=k)(hc:vE f args (aH 0 css) (some []) h (er (aH 0 css).n 3 (.tuple #[.agg #[nI g.1.w,nI g.1.h,nI g.1.hour,slQ k 1 g.1.cells.length],nI g.2]) [(true,.cells true 8 (g.1.cells.flatMap cellC))]))
  (jT:∀cs∈css,cs.all (aw 0)=true)
  {H:Heap} (ids:List Nat) (hl:ids.length=css.length) (gv:∀(k:Nat) (cs:List Value),css[k]?=some cs->∃id own z,ids[k]?=some id/\H[id]?=some (ah.cells own z cs)) :
  ak prog f (args.map (rn (sgR 0 ids) 3)) H [] (Is (.tuple #[.agg #[nI g.1.w,nI g.1.h,nI g.1.hour,slQ H.length 1 g.1.cells.length],nI g.2]) (H ++ [.cells true 8 (g.1.cells.flatMap cellC)])):=by
 subst hk
 have:=rU hc jT rfl (by simp[rn,bD]) (by
  show ((cY 3 (.cells true 8 (g.1.cells.flatMap cellC))&&true)&&true)=true
  rw[Bool.and_true,Bool.and_true];exact (dw (σ:=fun _=>none) (d:=0) (aT 0 g.1.cells)).2) (congrArg (fun l=>[ah.cells true 8 l]) (dw (d:=0) (aT 0 g.1.cells)).1) ids hl gv
 have e1:∀x:Value,rn (bT (0+css.length) H.length) 3 (.tuple #[.agg #[nI g.1.w,nI g.1.h,nI g.1.hour,slQ css.length 1 g.1.cells.length],nI g.2]) = .tuple #[.agg #[nI g.1.w,nI g.1.h,nI g.1.hour,slQ H.length 1 g.1.cells.length],nI g.2]:=by intro x;simp[rn,bT]
 have e2:(List.map (fun x:Bool×ah=>x.2) [(true,ah.cells true 8 (g.1.cells.flatMap cellC))]).map (rno (bT (0+css.length) H.length) 3)=[.cells true 8 (g.1.cells.flatMap cellC)]:=congrArg (fun l=>[ah.cells true 8 l]) (dw (d:=0) (aT 0 g.1.cells)).1
 rw[e1 undef,e2]at this
 exact this
theorem ws(w v t:Int)(cs:List Cell)(m:af)(n:Int){H:Heap}{id:Nat}{own:Bool}{z:Nat}{L:Nat}(hL:H.length=L)(hid:H[id]?=some (.cells own z (cs.flatMap cellC))) :
  ak prog F.xY [.agg #[nI w,nI v,nI t,slQ id 2 cs.length],ao m,nI n] H []
   (Is (.tuple #[.agg #[nI (cv w v t cs m n).1.w,nI (cv w v t cs m n).1.h,nI (cv w v t cs m n).1.hour,.slice (some ⟨L,0,some 1⟩) (cv w v t cs m n).1.cells.length (cv w v t cs m n).1.cells.length],nI (cv w v t cs m n).2]) (H ++ [.cells true 8 ((cv w v t cs m n).1.cells.flatMap cellC)])):=by
 subst hL
 refine Ey (css:=[cs.flatMap cellC]) (g:=cv w v t cs m n) rfl (Eq.mpr (Gd w v t cs m n) ?_) (cU (aT 0 cs)) [id] rfl (cT hid)
 delta w6 il oA Jz jvs jva fC gU xP jvv pJ fD jv2 JB jv3 Fk jvp jvg jv1 jv5 jv0 ni jv9 nI slQ pt slN fk nw eR wR kbq ixq lq apq c0q c1q
 refine ⟨_,⟨rfl,trivial⟩,fun H' _ hd=>ik _ _ _ _ hd.1,_,trivial,fun H' _ _=>eW _ H',?_⟩
 refine aZ (fun h0=>⟨vbT (bne_iff_ne.2 h0),rfl,wO (DV h0),trivial,trivial⟩) (fun h0 =>?_)
 refine aZ (fun h1=>⟨vbT (bne_iff_ne.2 h1),rfl,wO (DU h0 h1),trivial,trivial⟩) (fun h1 =>?_)
 obtain ⟨hs,hl,hb,hr⟩:=fV h0
 have hm:=dc.1 h1
 have hs3:=hs.2.2.2
 repeat' first|exact wO (DT h0 h1 Om)|(refine ⟨rfl,Nat.zero_le _,?_,fun _=>rfl,?_⟩)|exact trivial|exact ad _|refine bb ?_|refine aD ?_ ?_|exact bx _ _ _ (.inl rfl)|refine ⟨rfl,?_⟩|refine ⟨trivial,?_⟩|(refine aq (fun h =>?_) (fun h =>?_))|refine cy ?_|refine ⟨ay Om,?_⟩|apply And.intro
 intro x hx
 refine aq (fun hl =>?_) (fun hl =>?_)
 ·have hlt:x<cs.length:=Om
  have hc:=ek hr hlt
  repeat' first|refine ⟨cm hlt,?_⟩|(refine ⟨_,trivial,fun H' _ _=>Df _ _ _ hc hm Om H',?_⟩)|(refine ⟨⟨Om,by decide,F3,⟨by decide,Nat.le_refl _⟩,rfl⟩,rfl,?_⟩)|refine ⟨x+1,Om,Om,?_⟩|exact wF|exact aT _ _|exact trivial|exact ad _|refine bb ?_|refine aD ?_ ?_|exact eJ Om|refine ⟨rfl,?_⟩|refine ⟨ay Om,?_⟩|refine And.intro Om ?_|apply And.intro
 ·obtain rfl:x=cs.length:=Om
  have hf:=DS (n:=n) h0 h1 Om
  exact ⟨rfl,Ir hf (f9 _ _),⟨rb hf,aT _ _⟩,trivial⟩
theorem tu(w v t:Int)(cs:List Cell)(m:af)(n:Int){H:Heap}{id:Nat}{own:Bool}{z:Nat}{L:Nat}(hL:H.length=L)(hid:H[id]?=some (.cells own z (cs.flatMap cellC))) :
  ak prog F.lD [.agg #[nI w,nI v,nI t,slQ id 2 cs.length],ao m,nI n] H []
   (Is (.tuple #[.agg #[nI (cv w v t cs m n).1.w,nI (cv w v t cs m n).1.h,nI (cv w v t cs m n).1.hour,.slice (some ⟨L,0,some 1⟩) (cv w v t cs m n).1.cells.length (cv w v t cs m n).1.cells.length],nI (cv w v t cs m n).2]) (H ++ [.cells true 8 ((cv w v t cs m n).1.cells.flatMap cellC)])):=by
 subst hL
 refine Ey (css:=[cs.flatMap cellC]) (g:=cv w v t cs m n) rfl (Eq.mpr (CL w v t cs m n) ?_) (cU (aT 0 cs)) [id] rfl (cT hid)
 delta uS il oA jvs Jz jva fC gU LZ jvv pJ fD jv2 JB jv3 Fk jvp jvg jv1 jv5 jv0 ni jv9 nI slQ pt slN fk nw eR kbq ixq lq apq c0q c1q
 refine ⟨_,⟨rfl,trivial⟩,fun H' _ hd=>gg _ _ _ _ hd.1,?_⟩
 refine aZ (fun h0=>⟨rfl,wO (DV h0),trivial,trivial⟩) (fun h0 =>?_)
 refine ⟨_,trivial,fun H' _ _=>fh _ H',?_⟩
 refine aZ (fun h1=>⟨rfl,wO (DU h0 h1),trivial,trivial⟩) (fun h1 =>?_)
 obtain ⟨hs,hl,hb,hr⟩:=fV h0
 have hm:=dc.1 h1
 have hs3:=hs.2.2.2
 repeat' first|exact wO (DT h0 h1 Om)|(refine ⟨rfl,Nat.zero_le _,?_,fun _=>rfl,?_⟩)|exact trivial|exact ad _|refine bb ?_|refine aD ?_ ?_|exact bx _ _ _ (.inl rfl)|refine ⟨rfl,?_⟩|refine ⟨trivial,?_⟩|(refine aq (fun h =>?_) (fun h =>?_))|refine ⟨ay Om,?_⟩|apply And.intro
 intro x hx
 refine aq (fun hl =>?_) (fun hl =>?_)
 ·have hlt:x<cs.length:=Om
  have hc:=ek hr hlt
  repeat' first|refine ⟨cm hlt,?_⟩|(refine ⟨_,trivial,fun H' _ _=>Dm _ _ _ hc hm Om H',?_⟩)|(refine ⟨⟨Om,by decide,F3,⟨by decide,Nat.le_refl _⟩,rfl⟩,rfl,?_⟩)|refine ⟨x+1,Om,Om,?_⟩|exact wF|exact aT _ _|exact trivial|exact ad _|refine bb ?_|refine aD ?_ ?_|exact eJ Om|refine ⟨rfl,?_⟩|refine ⟨ay Om,?_⟩|refine And.intro Om ?_|apply And.intro
 ·obtain rfl:x=cs.length:=Om
  have hf:=DS (n:=n) h0 h1 Om
  exact ⟨rfl,Ir hf (f9 _ _),⟨rb hf,aT _ _⟩,trivial⟩
end
end Go.Proofs.YthcjliffpebjaaaGreat
namespace Go.Proofs.YthcjliffpebjaaaGreat
noncomputable section
attribute [local irreducible] vF
section
variable {w v t w' v' t':Int} {cs ds:List Cell}
theorem ra(h:¬ bf w v t cs=0):bV w v t cs w' v' t' ds=bf w v t cs:=by unfold bV;rw[dL h,if_neg h]
theorem q0(h:bf w v t cs=0)(k:¬ bf w' v' t' ds=0):bV w v t cs w' v' t' ds=bf w' v' t' ds:=by unfold bV;rw[bi h,if_neg k]
theorem qZ(h:bf w v t cs=0)(k:bf w' v' t' ds=0)(q:¬ (w=w'/\v=v'/\t=t')):bV w v t cs w' v' t' ds=1:=by unfold bV;rw[bi h,if_pos k,if_neg q]
theorem wD(h:bf w v t cs=0)(k:bf w' v' t' ds=0)(q:w=w'/\v=v'/\t=t'):bV w v t cs w' v' t' ds=0:=by unfold bV;rw[bi h,if_pos k,if_pos q]
theorem hJ(h:bV w v t cs w' v' t' ds=0):cs.length=ds.length/\cs.length<=1024/\(∀c∈cs,cw c)/\∀c∈ds,cw c:=by
 rcases Classical.em (bf w v t cs=0) with h1|h1
 ·rcases Classical.em (bf w' v' t' ds=0) with h2|h2
  ·rcases Classical.em (w=w'/\v=v'/\t=t') with h3|h3
   ·obtain ⟨a1,a2,a3,a4⟩:=fV h1
    obtain ⟨b1,b2,b3,b4⟩:=fV h2
    obtain ⟨rfl,rfl,rfl⟩:=h3
    exact ⟨Om,a3,a4,b4⟩
   ·rw[qZ h1 h2 h3]at h;cases h
  ·rw[q0 h1 h2]at h;exact absurd h h2
 ·rw[ra h1]at h;exact absurd h h1
theorem Ay(h:¬ bV w v t cs w' v' t' ds=0):bG w v t cs w' v' t' ds=(bR,bV w v t cs w' v' t' ds):=by unfold bG;rw[if_neg h]
theorem Ax(h:bV w v t cs w' v' t' ds=0)(k:¬ s6 cs ds cs.length):bG w v t cs w' v' t' ds=(bR,21):=by unfold bG;rw[if_pos h,if_neg k]
theorem Aw(h:bV w v t cs w' v' t' ds=0)(k:s6 cs ds cs.length):bG w v t cs w' v' t' ds=(⟨w,v,t,tab (iz cs ds) cs.length⟩,0):=by unfold bG;rw[if_pos h,if_pos k]
theorem AA(h:¬ bV w v t cs w' v' t' ds=0):bL w v t cs w' v' t' ds=(bR,bV w v t cs w' v' t' ds):=by unfold bL;rw[if_neg h]
theorem Az(h:bV w v t cs w' v' t' ds=0):bL w v t cs w' v' t' ds=(⟨w,v,t,tab (kX cs ds) cs.length⟩,0):=by unfold bL;rw[if_pos h]
theorem DL(h:¬ bV w v t cs w' v' t' ds=0):nF w v t cs w' v' t' ds=(false,bV w v t cs w' v' t' ds):=by unfold nF;rw[if_neg h]
theorem DK(h:bV w v t cs w' v' t' ds=0)(k:¬ me cs ds cs.length):nF w v t cs w' v' t' ds=(false,0):=by unfold nF;rw[if_pos h];simp[k]
theorem DJ(h:bV w v t cs w' v' t' ds=0)(k:me cs ds cs.length):nF w v t cs w' v' t' ds=(true,0):=by unfold nF;rw[if_pos h];simp[k]
theorem AF{xs:List Ice}(h:¬ bf w v t cs=0):gB w v t cs xs=(false,bf w v t cs):=by unfold gB;rw[if_neg h]
theorem AE{xs:List Ice}(h:bf w v t cs=0)(k:¬ xs.length=cs.length):gB w v t cs xs=(false,1):=by unfold gB;rw[if_pos h,if_neg k]
theorem AD{xs:List Ice}(h:bf w v t cs=0)(k:xs.length=cs.length)(q:¬ errs bF xs=0):gB w v t cs xs=(false,errs bF xs):=by unfold gB;rw[if_pos h,if_pos k,if_neg q]
theorem AC{xs:List Ice}(h:bf w v t cs=0)(k:xs.length=cs.length)(q:errs bF xs=0)(r:¬ ml cs xs xs.length):gB w v t cs xs=(false,0):=by unfold gB;rw[if_pos h,if_pos k,if_pos q];simp[r]
theorem AB{xs:List Ice}(h:bf w v t cs=0)(k:xs.length=cs.length)(q:errs bF xs=0)(r:ml cs xs xs.length):gB w v t cs xs=(true,0):=by unfold gB;rw[if_pos h,if_pos k,if_pos q];simp[r]
theorem mB{p:Nat->Prop}:∀k,k<0->p k:=fun k h=>absurd h (Nat.not_lt_zero k)
theorem mC{p:Nat->Prop}{n:Nat}(h:∀k,k<n->p k)(hn:p n):∀k,k<n+1->p k:=by
 intro k hk
 rcases Nat.lt_or_ge k n with h1|h1
 ·exact h k h1
 ·obtain rfl:k=n:=Om
  exact hn
end
theorem G3(w v t:Int)(cs:List Cell)(w' v' t':Int)(ds:List Cell){H:Heap}{id id2:Nat}{own dp:Bool}{z z2:Nat}(hid:H[id]?=some (.cells own z (cs.flatMap cellC)))(gX:H[id2]?=some (.cells dp z2 (ds.flatMap cellC))) :
  ak prog F.Hw [.agg #[nI w,nI v,nI t,slQ id 2 cs.length],.agg #[nI w',nI v',nI t',slQ id2 2 ds.length]] H [] (Is (nI (bV w v t cs w' v' t' ds)) H):=by
 refine ix (Eq.mpr (OZ _ w v t cs w' v' t' ds) ?_) (iy (aT 0 cs) (aT 0 ds)) rfl [id,id2] rfl (i0 hid gX)
 delta Li il oA nj rW fC nI slQ fk c1q
 repeat' first|(refine ⟨_,⟨rfl,trivial⟩,fun H' _ hd=>ik _ _ _ _ hd.1,?_⟩)|(refine aZ (fun h =>?_) (fun h =>?_))|refine ⟨vbT (bne_iff_ne.2 h),?_⟩|exact iEq (ra h).symm|exact iEq (q0 ‹_› h).symm|(exact iEq (qZ ‹_› ‹_› (fun q=>Om)).symm)|exact iEq (wD ‹_› ‹_› ⟨‹_›,‹_›,‹_›⟩).symm
theorem BM(w v t:Int)(cs:List Cell)(w' v' t':Int)(ds:List Cell){H:Heap}{id id2:Nat}{own dp:Bool}{z z2:Nat}(hid:H[id]?=some (.cells own z (cs.flatMap cellC)))(gX:H[id2]?=some (.cells dp z2 (ds.flatMap cellC))) :
  ak prog F.ph [.agg #[nI w,nI v,nI t,slQ id 2 cs.length],.agg #[nI w',nI v',nI t',slQ id2 2 ds.length]] H [] (Is (nI (bV w v t cs w' v' t' ds)) H):=by
 refine ix (Eq.mpr (O1 _ w v t cs w' v' t' ds) ?_) (iy (aT 0 cs) (aT 0 ds)) rfl [id,id2] rfl (i0 hid gX)
 delta Lk il oA nj rW fC nI slQ fk c1q
 repeat' first|(refine ⟨_,⟨rfl,trivial⟩,fun H' _ hd=>gg _ _ _ _ hd.1,?_⟩)|(refine aZ (fun h =>?_) (fun h =>?_))|exact iEq (ra h).symm|exact iEq (q0 ‹_› h).symm|(exact iEq (qZ ‹_› ‹_› (fun q=>Om)).symm)|exact iEq (wD ‹_› ‹_› ⟨‹_›,‹_›,‹_›⟩).symm
theorem rD(w v t:Int)(cs:List Cell)(w' v' t':Int)(ds:List Cell){H:Heap}{id id2:Nat}{own dp:Bool}{z z2:Nat}{L:Nat}(hL:H.length=L)(hid:H[id]?=some (.cells own z (cs.flatMap cellC)))(gX:H[id2]?=some (.cells dp z2 (ds.flatMap cellC))) :
  ak prog F.ud [.agg #[nI w,nI v,nI t,slQ id 2 cs.length],.agg #[nI w',nI v',nI t',slQ id2 2 ds.length]] H [] (Is (.tuple #[.agg #[nI (bG w v t cs w' v' t' ds).1.w,nI (bG w v t cs w' v' t' ds).1.h,nI (bG w v t cs w' v' t' ds).1.hour,.slice (some ⟨L,0,some 1⟩) (bG w v t cs w' v' t' ds).1.cells.length (bG w v t cs w' v' t' ds).1.cells.length],nI (bG w v t cs w' v' t' ds).2]) (H ++ [.cells true 8 ((bG w v t cs w' v' t' ds).1.cells.flatMap cellC)])):=by
 subst hL
 refine Ey (css:=[cs.flatMap cellC,ds.flatMap cellC]) (g:=bG w v t cs w' v' t' ds) rfl (Eq.mpr (Bj w v t cs w' v' t' ds) ?_) (iy (aT 0 cs) (aT 0 ds)) [id,id2] rfl (i0 hid gX)
 delta rO il nj ke jv9 jv4 ni jvk jvj pJ pK oz jv2 jvz jvi jvy L1 jvo jvq jvm Fj jv0 fD fC gU nI slQ pt slN fk nw eR wR krq kbq ixq lq apq c0q c2q
 refine ⟨_,⟨rfl,rfl,trivial⟩,fun H' _ hd=>G3 _ _ _ _ _ _ _ _ hd.1 hd.2.1,?_⟩
 refine aZ (fun h0=>⟨rfl,wN (Ay h0),trivial,trivial⟩) (fun h0 =>?_)
 obtain ⟨hle,hb,hr,hr2⟩:=hJ h0
 repeat' first|(refine ⟨rfl,⟨Nat.zero_le _,mB⟩,?_,fun _=>rfl,?_⟩)|exact trivial|exact rfl|exact ad _|refine bb ?_|refine aD ?_ ?_|exact bx _ _ _ (.inl rfl)|refine ⟨rfl,?_⟩|refine ⟨trivial,?_⟩|apply And.intro
 rintro x ⟨hx,ho⟩
 refine aq (fun hl =>?_) (fun hl =>?_)
 ·have hlt:x<cs.length:=Om
  have hlt2:x<ds.length:=Om
  have hc:=ek hr hlt
  have hc2:=ek hr2 hlt2
  repeat' first|(refine ⟨(_,_),trivial,fun H' _ _=>xx _ _ H',?_⟩)|(refine cy (aq (fun hk =>?_) (fun hk =>?_)))|(exact wN (Ax h0 (fun q=>hk (q _ hlt))))|refine ⟨x+1,⟨Om,mC ho hk⟩,Om,?_⟩|refine ⟨cm hlt,?_⟩|refine ⟨cm hlt2,?_⟩|(refine ⟨⟨Om,by decide,F3,⟨by decide,Nat.le_refl _⟩,rfl⟩,rfl,?_⟩)|exact wF|exact aT _ _|exact trivial|exact rfl|exact ad _|refine bb ?_|refine aD ?_ ?_|exact eJ Om|refine ⟨rfl,?_⟩|refine ⟨trivial,?_⟩|refine ⟨ay Om,?_⟩|refine And.intro Om ?_|apply And.intro
 ·obtain rfl:x=cs.length:=Om
  have hf:=Aw h0 ho
  exact ⟨rfl,yp hf (f9 _ _),⟨rb hf,aT _ _⟩,trivial⟩
theorem pD(w v t:Int)(cs:List Cell)(w' v' t':Int)(ds:List Cell){H:Heap}{id id2:Nat}{own dp:Bool}{z z2:Nat}{L:Nat}(hL:H.length=L)(hid:H[id]?=some (.cells own z (cs.flatMap cellC)))(gX:H[id2]?=some (.cells dp z2 (ds.flatMap cellC))) :
  ak prog F.j0 [.agg #[nI w,nI v,nI t,slQ id 2 cs.length],.agg #[nI w',nI v',nI t',slQ id2 2 ds.length]] H [] (Is (.tuple #[.agg #[nI (bG w v t cs w' v' t' ds).1.w,nI (bG w v t cs w' v' t' ds).1.h,nI (bG w v t cs w' v' t' ds).1.hour,.slice (some ⟨L,0,some 1⟩) (bG w v t cs w' v' t' ds).1.cells.length (bG w v t cs w' v' t' ds).1.cells.length],nI (bG w v t cs w' v' t' ds).2]) (H ++ [.cells true 8 ((bG w v t cs w' v' t' ds).1.cells.flatMap cellC)])):=by
 subst hL
 refine Ey (css:=[cs.flatMap cellC,ds.flatMap cellC]) (g:=bG w v t cs w' v' t' ds) rfl (Eq.mpr (yu w v t cs w' v' t' ds) ?_) (iy (aT 0 cs) (aT 0 ds)) [id,id2] rfl (i0 hid gX)
 delta qn il nj ke jv9 jv4 ni fC gU LX jvj pJ pK oz jv2 jvz jvy jv3 Fk rX jvq jv5 jvm Fj jv0 fD nI slQ pt slN fk nw eR krq kbq ixq lq apq c0q c2q
 refine ⟨_,⟨rfl,rfl,trivial⟩,fun H' _ hd=>BM _ _ _ _ _ _ _ _ hd.1 hd.2.1,?_⟩
 refine aZ (fun h0=>⟨rfl,wN (Ay h0),trivial,trivial⟩) (fun h0 =>?_)
 obtain ⟨hle,hb,hr,hr2⟩:=hJ h0
 repeat' first|(refine ⟨rfl,⟨Nat.zero_le _,mB⟩,?_,fun _=>rfl,?_⟩)|exact trivial|exact rfl|exact ad _|refine bb ?_|refine aD ?_ ?_|exact bx _ _ _ (.inl rfl)|refine ⟨rfl,?_⟩|refine ⟨trivial,?_⟩|apply And.intro
 rintro x ⟨hx,ho⟩
 refine aq (fun hl =>?_) (fun hl =>?_)
 ·have hlt:x<cs.length:=Om
  have hlt2:x<ds.length:=Om
  have hc:=ek hr hlt
  have hc2:=ek hr2 hlt2
  repeat' first|(refine ⟨_,trivial,fun H' _ _=>Dn _ _ hc hc2 H',?_⟩)|(refine ⟨_,trivial,fun H' _ _=>tt _ _ H',?_⟩)|(refine cy (aq (fun hk =>?_) (fun hk =>?_)))|(exact wN (Ax h0 (fun q=>hk (q _ hlt))))|refine ⟨x+1,⟨Om,mC ho hk⟩,Om,?_⟩|refine ⟨cm hlt,?_⟩|refine ⟨cm hlt2,?_⟩|(refine ⟨⟨Om,by decide,F3,⟨by decide,Nat.le_refl _⟩,rfl⟩,rfl,?_⟩)|exact wF|exact aT _ _|exact trivial|exact rfl|exact ad _|refine bb ?_|refine aD ?_ ?_|exact eJ Om|refine ⟨rfl,?_⟩|refine ⟨trivial,?_⟩|refine ⟨ay Om,?_⟩|refine And.intro Om ?_|apply And.intro
 ·obtain rfl:x=cs.length:=Om
  have hf:=Aw h0 ho
  exact ⟨rfl,yp hf (f9 _ _),⟨rb hf,aT _ _⟩,trivial⟩
theorem rE(w v t:Int)(cs:List Cell)(w' v' t':Int)(ds:List Cell){H:Heap}{id id2:Nat}{own dp:Bool}{z z2:Nat}{L:Nat}(hL:H.length=L)(hid:H[id]?=some (.cells own z (cs.flatMap cellC)))(gX:H[id2]?=some (.cells dp z2 (ds.flatMap cellC))) :
  ak prog F.ue [.agg #[nI w,nI v,nI t,slQ id 2 cs.length],.agg #[nI w',nI v',nI t',slQ id2 2 ds.length]] H [] (Is (.tuple #[.agg #[nI (bL w v t cs w' v' t' ds).1.w,nI (bL w v t cs w' v' t' ds).1.h,nI (bL w v t cs w' v' t' ds).1.hour,.slice (some ⟨L,0,some 1⟩) (bL w v t cs w' v' t' ds).1.cells.length (bL w v t cs w' v' t' ds).1.cells.length],nI (bL w v t cs w' v' t' ds).2]) (H ++ [.cells true 8 ((bL w v t cs w' v' t' ds).1.cells.flatMap cellC)])):=by
 subst hL
 refine Ey (css:=[cs.flatMap cellC,ds.flatMap cellC]) (g:=bL w v t cs w' v' t' ds) rfl (Eq.mpr (Bl w v t cs w' v' t' ds) ?_) (iy (aT 0 cs) (aT 0 ds)) [id,id2] rfl (i0 hid gX)
 delta rQ il nj ke jv9 jv7 ni jvk jve pJ pK oz jv2 jvz jv3 Jy jvo jvh jvw jvn jv5 jv0 fD fC gU nI slQ pt slN fk nw eR wR kbq ixq lq apq c0q c2q
 refine ⟨_,⟨rfl,rfl,trivial⟩,fun H' _ hd=>G3 _ _ _ _ _ _ _ _ hd.1 hd.2.1,?_⟩
 refine aZ (fun h0=>⟨rfl,wN (AA h0),trivial,trivial⟩) (fun h0 =>?_)
 obtain ⟨hle,hb,hr,hr2⟩:=hJ h0
 repeat' first|(refine ⟨rfl,Nat.zero_le _,?_,fun _=>rfl,?_⟩)|exact trivial|exact ad _|refine bb ?_|refine aD ?_ ?_|exact bx _ _ _ (.inl rfl)|refine ⟨rfl,?_⟩|refine ⟨trivial,?_⟩|apply And.intro
 intro x hx
 refine aq (fun hl =>?_) (fun hl =>?_)
 ·have hlt:x<cs.length:=Om
  have hlt2:x<ds.length:=Om
  have hc:=ek hr hlt
  have hc2:=ek hr2 hlt2
  repeat' first|(refine ⟨_,trivial,fun H' _ _=>Jo _ _ H',?_⟩)|refine ⟨x+1,Om,Om,?_⟩|refine ⟨cm hlt,?_⟩|refine ⟨cm hlt2,?_⟩|(refine ⟨⟨Om,by decide,F3,⟨by decide,Nat.le_refl _⟩,rfl⟩,rfl,?_⟩)|exact wF|exact aT _ _|exact trivial|exact ad _|refine bb ?_|refine aD ?_ ?_|exact eJ Om|refine ⟨rfl,?_⟩|refine ⟨ay Om,?_⟩|refine And.intro Om ?_|apply And.intro
 ·obtain rfl:x=cs.length:=Om
  have hf:=Az h0
  exact ⟨rfl,yp hf (f9 _ _),⟨rb hf,aT _ _⟩,trivial⟩
theorem pE(w v t:Int)(cs:List Cell)(w' v' t':Int)(ds:List Cell){H:Heap}{id id2:Nat}{own dp:Bool}{z z2:Nat}{L:Nat}(hL:H.length=L)(hid:H[id]?=some (.cells own z (cs.flatMap cellC)))(gX:H[id2]?=some (.cells dp z2 (ds.flatMap cellC))) :
  ak prog F.j7 [.agg #[nI w,nI v,nI t,slQ id 2 cs.length],.agg #[nI w',nI v',nI t',slQ id2 2 ds.length]] H [] (Is (.tuple #[.agg #[nI (bL w v t cs w' v' t' ds).1.w,nI (bL w v t cs w' v' t' ds).1.h,nI (bL w v t cs w' v' t' ds).1.hour,.slice (some ⟨L,0,some 1⟩) (bL w v t cs w' v' t' ds).1.cells.length (bL w v t cs w' v' t' ds).1.cells.length],nI (bL w v t cs w' v' t' ds).2]) (H ++ [.cells true 8 ((bL w v t cs w' v' t' ds).1.cells.flatMap cellC)])):=by
 subst hL
 refine Ey (css:=[cs.flatMap cellC,ds.flatMap cellC]) (g:=bL w v t cs w' v' t' ds) rfl (Eq.mpr (yv w v t cs w' v' t' ds) ?_) (iy (aT 0 cs) (aT 0 ds)) [id,id2] rfl (i0 hid gX)
 delta qo il nj ke jv9 jv7 ni fC gU LY jve pJ pK oz jv2 jvz jv3 Jy rX jvh jvw jvn jv5 jv0 fD nI slQ pt slN fk nw eR kbq ixq lq apq c0q c2q
 refine ⟨_,⟨rfl,rfl,trivial⟩,fun H' _ hd=>BM _ _ _ _ _ _ _ _ hd.1 hd.2.1,?_⟩
 refine aZ (fun h0=>⟨rfl,wN (AA h0),trivial,trivial⟩) (fun h0 =>?_)
 obtain ⟨hle,hb,hr,hr2⟩:=hJ h0
 repeat' first|(refine ⟨rfl,Nat.zero_le _,?_,fun _=>rfl,?_⟩)|exact trivial|exact ad _|refine bb ?_|refine aD ?_ ?_|exact bx _ _ _ (.inl rfl)|refine ⟨rfl,?_⟩|refine ⟨trivial,?_⟩|apply And.intro
 intro x hx
 refine aq (fun hl =>?_) (fun hl =>?_)
 ·have hlt:x<cs.length:=Om
  have hlt2:x<ds.length:=Om
  have hc:=ek hr hlt
  have hc2:=ek hr2 hlt2
  repeat' first|(refine ⟨_,trivial,fun H' _ _=>Jt _ _ H',?_⟩)|refine ⟨x+1,Om,Om,?_⟩|refine ⟨cm hlt,?_⟩|refine ⟨cm hlt2,?_⟩|(refine ⟨⟨Om,by decide,F3,⟨by decide,Nat.le_refl _⟩,rfl⟩,rfl,?_⟩)|exact wF|exact aT _ _|exact trivial|exact ad _|refine bb ?_|refine aD ?_ ?_|exact eJ Om|refine ⟨rfl,?_⟩|refine ⟨ay Om,?_⟩|refine And.intro Om ?_|apply And.intro
 ·obtain rfl:x=cs.length:=Om
  have hf:=Az h0
  exact ⟨rfl,yp hf (f9 _ _),⟨rb hf,aT _ _⟩,trivial⟩
theorem kW(w v t:Int)(cs:List Cell)(w' v' t':Int)(ds:List Cell){H:Heap}{id id2:Nat}{own dp:Bool}{z z2:Nat}(hid:H[id]?=some (.cells own z (cs.flatMap cellC)))(gX:H[id2]?=some (.cells dp z2 (ds.flatMap cellC))) :
  ak prog F.si [.agg #[nI w,nI v,nI t,slQ id 2 cs.length],.agg #[nI w',nI v',nI t',slQ id2 2 ds.length]] H [] (Is (.tuple #[.bool (nF w v t cs w' v' t' ds).1,nI (nF w v t cs w' v' t' ds).2]) H):=by
 refine ix (Eq.mpr (yy _ w v t cs w' v' t' ds) ?_) (iy (aT 0 cs) (aT 0 ds)) rfl [id,id2] rfl (i0 hid gX)
 delta qr il nj ke zI fC gU xP jL pK oz jv2 jvz zK rX zJ jv0 fD nI slQ pt fk nw eR wR ixq lq c0q c2q
 refine ⟨_,⟨rfl,rfl,trivial⟩,fun H' _ hd=>G3 _ _ _ _ _ _ _ _ hd.1 hd.2.1,?_⟩
 refine aZ (fun h0=>dR (DL h0)) (fun h0 =>?_)
 obtain ⟨hle,hb,hr,hr2⟩:=hJ h0
 repeat' first|(refine ⟨rfl,⟨Nat.zero_le _,mB⟩,?_,fun _=>rfl,?_⟩)|exact trivial|exact ad _|refine ⟨rfl,?_⟩|refine ⟨trivial,?_⟩|apply And.intro
 rintro x ⟨hx,ho⟩
 refine aq (fun hl =>?_) (fun hl =>?_)
 ·have hlt:x<cs.length:=Om
  have hlt2:x<ds.length:=Om
  have hc:=ek hr hlt
  repeat' first|refine ⟨cm hlt,?_⟩|refine ⟨cm hlt2,?_⟩|(refine ⟨_,trivial,fun H' _ _=>LK _ _ H',?_⟩)|(refine cy (aq (fun hk =>?_) (fun hk =>?_)))|(exact dR (DK h0 (fun q=>hk (q _ hlt))))|refine ⟨x+1,⟨Om,mC ho hk⟩,Om,?_⟩|exact trivial|exact ad _|refine ⟨rfl,?_⟩|refine ⟨trivial,?_⟩|refine ⟨ay Om,?_⟩|refine And.intro Om ?_|apply And.intro
 ·obtain rfl:x=cs.length:=Om
  exact dR (DJ h0 ho)
theorem jH(w v t:Int)(cs:List Cell)(w' v' t':Int)(ds:List Cell){H:Heap}{id id2:Nat}{own dp:Bool}{z z2:Nat}(hid:H[id]?=some (.cells own z (cs.flatMap cellC)))(gX:H[id2]?=some (.cells dp z2 (ds.flatMap cellC))) :
  ak prog F.jE [.agg #[nI w,nI v,nI t,slQ id 2 cs.length],.agg #[nI w',nI v',nI t',slQ id2 2 ds.length]] H [] (Is (.tuple #[.bool (nF w v t cs w' v' t' ds).1,nI (nF w v t cs w' v' t' ds).2]) H):=by
 refine ix (Eq.mpr (vz _ w v t cs w' v' t' ds) ?_) (iy (aT 0 cs) (aT 0 ds)) rfl [id,id2] rfl (i0 hid gX)
 delta nH il nj ke zI jvl pK oz jv2 jvz zK rX zL jL zJ jv0 fD fC gU nI slQ pt fk nw eR ixq lq c0q c2q
 refine ⟨_,⟨rfl,rfl,trivial⟩,fun H' _ hd=>BM _ _ _ _ _ _ _ _ hd.1 hd.2.1,?_⟩
 refine aZ (fun h0=>dR (DL h0)) (fun h0 =>?_)
 obtain ⟨hle,hb,hr,hr2⟩:=hJ h0
 repeat' first|(refine ⟨rfl,⟨Nat.zero_le _,mB⟩,?_,fun _=>rfl,?_⟩)|exact trivial|refine ⟨rfl,?_⟩|refine ⟨trivial,?_⟩|apply And.intro
 rintro x ⟨hx,ho⟩
 refine aq (fun hl =>?_) (fun hl =>?_)
 ·have hlt:x<cs.length:=Om
  have hlt2:x<ds.length:=Om
  have hc:=ek hr hlt
  repeat' first|refine ⟨cm hlt,?_⟩|refine ⟨cm hlt2,?_⟩|(refine ⟨_,trivial,fun H' _ _=>GZ _ _ hc H',?_⟩)|(refine cy (aq (fun hk =>?_) (fun hk =>?_)))|(exact dR (DK h0 (fun q=>hk (q _ hlt))))|refine ⟨x+1,⟨Om,mC ho hk⟩,Om,?_⟩|exact trivial|refine ⟨rfl,?_⟩|refine ⟨trivial,?_⟩|refine ⟨ay Om,?_⟩|refine And.intro Om ?_|apply And.intro
 ·obtain rfl:x=cs.length:=Om
  exact dR (DJ h0 ho)
theorem B4(w v t:Int)(cs:List Cell)(xs:List Ice){H:Heap}{id id2:Nat}{own dp:Bool}{z z2:Nat}(hid:H[id]?=some (.cells own z (cs.flatMap cellC)))(gX:H[id2]?=some (.cells dp z2 (xs.flatMap bB))) :
  ak prog F.FE [.agg #[nI w,nI v,nI t,slQ id 2 cs.length],slQ id2 2 xs.length] H [] (Is (.tuple #[.bool (gB w v t cs xs).1,nI (gB w v t cs xs).2]) H):=by
 refine ix (Eq.mpr (Nt _ w v t cs xs) ?_) (iy (aT 0 cs) (xm 0 xs)) rfl [id,id2] rfl (i0 hid gX)
 delta IK il oA zI vi fD fC gU jL jvr jv2 JA zK zJ jv0 jv6 nI slQ pt fk nw eR wR ixq lq c0q c1q
 refine ⟨_,⟨rfl,trivial⟩,fun H' _ hd=>ik _ _ _ _ hd.1,?_⟩
 refine aZ (fun h0=>dR (AF h0)) (fun h0 =>?_)
 refine aZ (fun h1=>dR (AE h0 Om)) (fun h1 =>?_)
 replace h1:xs.length=cs.length:=Om
 obtain ⟨hs,hle,hb,hr⟩:=fV h0
 refine ⟨_,⟨rfl,trivial⟩,fun H' _ hd=>Dd _ Om hd.1,?_⟩
 refine aZ (fun h2=>dR (AD h0 h1 h2)) (fun h2 =>?_)
 repeat' first|(refine ⟨rfl,⟨Nat.zero_le _,mB⟩,?_,fun _=>rfl,?_⟩)|exact trivial|exact ad _|refine ⟨rfl,?_⟩|refine ⟨trivial,?_⟩|apply And.intro
 rintro x ⟨hx,ho⟩
 refine aq (fun hl =>?_) (fun hl =>?_)
 ·have hlt:x<xs.length:=Om
  have hlt2:x<cs.length:=Om
  repeat' first|refine ⟨dF hlt,?_⟩|refine ⟨cm hlt2,?_⟩|(refine ⟨_,trivial,fun H' _ _=>LL _ _ H',?_⟩)|(refine cy (aq (fun hk =>?_) (fun hk =>?_)))|(exact dR (AC h0 h1 h2 (fun q=>hk (q _ hlt))))|refine ⟨x+1,⟨Om,mC ho hk⟩,Om,?_⟩|exact trivial|exact ad _|refine ⟨rfl,?_⟩|refine ⟨trivial,?_⟩|refine ⟨ay Om,?_⟩|refine And.intro Om ?_|apply And.intro
 ·obtain rfl:x=xs.length:=Om
  exact dR (AB h0 h1 h2 ho)
theorem xA(w v t:Int)(cs:List Cell)(xs:List Ice){H:Heap}{id id2:Nat}{own dp:Bool}{z z2:Nat}(hid:H[id]?=some (.cells own z (cs.flatMap cellC)))(gX:H[id2]?=some (.cells dp z2 (xs.flatMap bB))) :
  ak prog F.nW [.agg #[nI w,nI v,nI t,slQ id 2 cs.length],slQ id2 2 xs.length] H [] (Is (.tuple #[.bool (gB w v t cs xs).1,nI (gB w v t cs xs).2]) H):=by
 refine ix (Eq.mpr (KH _ w v t cs xs) ?_) (iy (aT 0 cs) (xm 0 xs)) rfl [id,id2] rfl (i0 hid gX)
 delta Eh il oA zI vi fD fC gU jL jvu jvr rX jv2 JA zK zJ jv0 jv6 nI slQ pt fk nw eR wR ixq lq c0q c1q
 refine ⟨_,⟨rfl,trivial⟩,fun H' _ hd=>gg _ _ _ _ hd.1,?_⟩
 refine aZ (fun h0=>dR (AF h0)) (fun h0 =>?_)
 refine aZ (fun h1=>dR (AE h0 Om)) (fun h1 =>?_)
 replace h1:xs.length=cs.length:=Om
 obtain ⟨hs,hle,hb,hr⟩:=fV h0
 repeat' first|(refine ⟨rfl,⟨Nat.zero_le _,rfl⟩,?_,fun _=>rfl,?_⟩)|exact trivial|exact ad _|refine ⟨rfl,?_⟩|refine ⟨trivial,?_⟩|apply And.intro
 rintro y ⟨hy,he⟩
 refine aq (fun hl =>?_) (fun hl =>?_)
 ·have hlt:y<xs.length:=Om
  rw[mP (d:=ar) hlt]at he
  refine ⟨Om,dF hlt,_,trivial,fun H' _ _=>kO _ H',?_⟩
  refine aZ (fun g =>?_) (fun g =>?_)
  ·rw[if_neg g]at he
   exact dR ((AD h0 h1 (by rw[he];exact g)).trans (by rw[he]))
  ·repeat' first|(refine ⟨y+1,⟨Om,by rw[he,if_pos g]⟩,Om,?_⟩)|exact trivial|exact ad _|refine ⟨rfl,?_⟩|refine ⟨trivial,?_⟩|refine ⟨ay Om,?_⟩|apply And.intro
 obtain rfl:y=xs.length:=Om
 rw[List.drop_length]at he
 have h2:errs bF xs=0:=he
 repeat' first|(refine ⟨rfl,⟨Nat.zero_le _,mB⟩,?_,fun _=>rfl,?_⟩)|exact trivial|exact ad _|refine ⟨rfl,?_⟩|refine ⟨trivial,?_⟩|apply And.intro
 rintro x ⟨hx,ho⟩
 refine aq (fun hl =>?_) (fun hl =>?_)
 ·have hlt:x<xs.length:=Om
  have hlt2:x<cs.length:=Om
  repeat' first|refine ⟨dF hlt,?_⟩|refine ⟨cm hlt2,?_⟩|(refine ⟨_,trivial,fun H' _ _=>BN _ _ H',?_⟩)|(refine cy (aq (fun hk =>?_) (fun hk =>?_)))|(exact dR (AC h0 h1 h2 (fun q=>hk (q _ hlt))))|refine ⟨x+1,⟨Om,mC ho hk⟩,Om,?_⟩|exact trivial|exact ad _|refine ⟨rfl,?_⟩|refine ⟨trivial,?_⟩|refine ⟨ay Om,?_⟩|refine And.intro Om ?_|apply And.intro
 ·obtain rfl:x=xs.length:=Om
  exact dR (AB h0 h1 h2 ho)
end
end Go.Proofs.YthcjliffpebjaaaGreat
namespace Go.Proofs.YthcjliffpebjaaaGreat
noncomputable section
attribute [local irreducible] vF
theorem Hh(w v t:Int)(cs:List Cell)(hn:cs.length<=2 ^ 30){H:Heap}{id:Nat}{own:Bool}{z:Nat}{L:Nat}(hL:H.length=L)(hid:H[id]?=some (.cells own z (cs.flatMap cellC))) :
  ak prog F.oe [.agg #[nI w,nI v,nI t,slQ id 2 cs.length]] H []
   (Is (.agg #[nI w,nI v,nI t,slQ L 1 cs.length]) (H ++ [.cells true 8 (cs.flatMap cellC)])):=by
 subst hL
 have key:=fun hc=>rU (css:=[cs.flatMap cellC]) (new:=[(true,.cells true 8 (cs.flatMap cellC))]) (v:=.agg #[nI w,nI v,nI t,slQ 1 1 cs.length]) (Eq.mpr (Nx w v t cs) hc) (cU (aT 0 cs)) rfl (by simp[rn,bD]) (by
  show ((cY 3 (.cells true 8 (cs.flatMap cellC))&&true)&&true)=true
  rw[Bool.and_true,Bool.and_true];exact (dw (σ:=fun _=>none) (d:=0) (aT 0 cs)).2) (congrArg (fun l=>[ah.cells true 8 l]) (dw (d:=0) (aT 0 cs)).1) (H:=H) [id] rfl (cT hid)
 have e1:rn (bT (0 + [cs.flatMap cellC].length) H.length) 3 (.agg #[nI w,nI v,nI t,slQ 1 1 cs.length]) = .agg #[nI w,nI v,nI t,slQ H.length 1 cs.length]:=by simp[rn,bT]
 have e2:(List.map (fun x:Bool×ah=>x.2) [(true,ah.cells true 8 (cs.flatMap cellC))]).map (rno (bT (0 + [cs.flatMap cellC].length) H.length) 3)=[.cells true 8 (cs.flatMap cellC)]:=congrArg (fun l=>[ah.cells true 8 l]) (dw (d:=0) (aT 0 cs)).1
 rw[e1,e2]at key
 refine key ?_
 delta IQ fC gU zL jve pJ fD jv2 L2 jvh eX jv0 ni nI slQ pt slN fk nw eR kbq ixq lq apq
 repeat' first|(refine ⟨rfl,Nat.zero_le _,?_,fun _=>rfl,?_⟩)|exact trivial|exact ad _|refine bb ?_|refine aD ?_ ?_|exact bx _ _ _ (.inl rfl)|refine ⟨rfl,?_⟩|refine ⟨trivial,?_⟩|apply And.intro
 intro x hx
 refine aq (fun hl =>?_) (fun hl =>?_)
 ·have hlt:x<cs.length:=Om
  have htl:(cs.take x).length=x:=by rw[List.length_take];omega
  repeat' first|refine ⟨cm hlt,?_⟩|(refine ⟨⟨Om,by decide,⟨Nat.le_refl _,by rw[aK bX,htl];omega⟩,⟨by decide,Nat.le_refl _⟩,rfl⟩,rfl,?_⟩)|refine ⟨x+1,Om,Om,?_⟩|(exact (by rw[take_at (d:=aj) hlt];exact congrArg (fun l=>some (ah.cells true 8 l)) (cF bX (cs.take x) (cs.getD x aj) htl.symm)))|exact aT _ _|exact trivial|exact ad _|refine bb ?_|refine aD ?_ ?_|exact eJ Om|refine ⟨rfl,?_⟩|refine ⟨ay Om,?_⟩|refine And.intro Om ?_|apply And.intro
 ·obtain rfl:x=cs.length:=Om
  exact ⟨rfl,ad _,⟨by rw[List.take_length],aT _ _⟩,trivial⟩
theorem zH(w v t:Int)(cs:List Cell)(hn:cs.length<=2 ^ 30){H:Heap}{id id2:Nat}{own dp:Bool}{z z2:Nat}(hid:H[id]?=some (.cells own z (cs.flatMap cellC)))(gX:H[id2]?=some (.cells dp z2 (cs.flatMap cellC))) :
  ak prog F.pq [.agg #[nI w,nI v,nI t,slQ id 2 cs.length],.agg #[nI w,nI v,nI t,slQ id2 2 cs.length]] H [] (Is (.bool true) H):=by
 refine ix (Eq.mpr (O2 _ w v t cs) ?_) (iy (aT 0 cs) (aT 0 cs)) rfl [id,id2] rfl (i0 hid gX)
 delta Ll Fi fD jvl jv2 eX zL jL jv0 fC gU nI pt fk nw eR ixq lq
 repeat' first|(refine cG (by simp only[bne_self_eq_false,BEq.rfl,Bool.and_self,Bool.not_true]) ?_)|(refine ⟨rfl,Nat.zero_le _,?_,fun _=>rfl,?_⟩)|exact trivial|refine ⟨rfl,?_⟩|refine ⟨trivial,?_⟩|apply And.intro
 intro x hx
 refine aq (fun hl =>?_) (fun hl =>?_)
 ·have hlt:x<cs.length:=Om
  repeat' first|refine ⟨cm hlt,?_⟩|(refine cG (by simp only[bne_self_eq_false,BEq.rfl,Bool.and_self,Bool.not_true]) ?_)|refine ⟨x+1,Om,Om,?_⟩|exact trivial|refine ⟨rfl,?_⟩|refine ⟨trivial,?_⟩|refine ⟨ay Om,?_⟩|refine And.intro Om ?_|apply And.intro
 ·rfl
end
end Go.Proofs.YthcjliffpebjaaaGreat
