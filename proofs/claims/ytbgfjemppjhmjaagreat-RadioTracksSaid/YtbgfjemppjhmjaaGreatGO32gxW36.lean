/- What is to be shown of functions. Printed by a program. No condition. -/
import Derived.Test.YtbgfjemppjhmjaaGreatGP26xW38
import Derived.Test.YtbgfjemppjhmjaaGreatGK27xR0b
import Derived.Test.YtbgfjemppjhmjaaGreatGO24gxO27g
open Go Go.K
set_option maxRecDepth 1000000
set_option maxHeartbeats 4000000
set_option linter.unusedVariables false
set_option linter.unusedSimpArgs false
namespace Go.Proofs.YtbgfjemppjhmjaaGreat
noncomputable section
attribute [local irreducible] vF
variable {w h:Int} {a:List Bool} {p:Int} {ss:List (Int×Int)} {o1 o2:Bool} {z1 z2:Nat} {H:Heap}
abbrev kk0:Value:=.func (.func 166) #[] #[.pointer (some ⟨1,0,none⟩)]
abbrev kk7(M:List Int):Int:=(M.length:Nat)
abbrev kkt:Prop:=(True)/\(True)
abbrev kkh(M:List Int)(J:Nat):Prop:=wkR (slQ 0 2 M.length)/\(nI 0:Value)=nI 0/\(nI (kk7 M):Value)=nI (kk7 M)/\kk0 = .func (.func 166) #[] #[.pointer (some ⟨1,0,none⟩)]/\(nI (J:Int):Value)=nI (J:Int)/\True
abbrev kks(qd0:List Int):Int:=(qd0.length:Nat)
abbrev kk5(qn0:Nat)(qd0:List Int):Prop:=(0:Int)<=(qn0:Int)/\((qn0:Int):Int)<(kks qd0)
abbrev kkq(ss:List (Int×Int))(M:List Int)(J U:Nat):=cg (kyI ss) M J U
abbrev kko(U:Nat):Value:=nI (IntKind.wrap .i64 ((U:Int)-1))
abbrev kk4(qn0:Nat)(qd0:List Int):Prop:=(0:Int)<=((qn0:Int)-1)/\(((qn0:Int)-1):Int)<(kks qd0)
abbrev kkf(ss:List (Int×Int))(M:List Int)(J U:Nat):=ss.getD ((kkq ss M J U).getD U 0).toNat ae
abbrev kkb(ss:List (Int×Int))(M:List Int)(J U:Nat):=ss.getD ((kkq ss M J U).getD ((U:Int)-1).toNat 0).toNat ae
abbrev kk2(qn0 qn1:Nat)(qd0:List Int):Prop:=(nI ((qn0:Int)+1):Value)=nI (qn1:Int)/\kk0 = .func (.func 166) #[] #[.pointer (some ⟨1,0,none⟩)]/\(nI (kks qd0):Value)=nI (kks qd0)/\(nI 0:Value)=nI 0/\wkR (slQ 0 2 qd0.length)/\True
abbrev kk8(J:Nat)(M:List Int)(ss:List (Int×Int))(U:Nat):Prop:=(nI (IntKind.wrap .i64 ((J:Int)+1)):Value)=nI ((J:Int)+1)/\(∃ax:Nat,(1<=ax/\(ax<=List.length M∨ax=1))/\(List.length M-ax)<(List.length M-J)/\true=true/\(kk2 J ax M)/\((some (.cells true 1 ((kkq ss M J U).flatMap ai):ab)=some (.cells true 1 ((gX (kyI ss) M ax).flatMap ai):ab)/\aj 6 (.cells true 1 ((gX (kyI ss) M ax).flatMap ai):ab)=true)/\True)/\kkt)
abbrev kku:Value:=.tuple #[]
abbrev kk9(ss:List (Int×Int))(M:List Int):ab:=.cells true 1 ((isr (kyI ss) M M.length).flatMap ai)
def Er(M:List Int)(w h:Int)(a:List Bool)(p:Int)(ss:List (Int×Int))(rr:List (List Int)):Prop :=
 ((nI (IntKind.wrap .i64 (0+1)):Value)=nI (0+1)/\(true=true/\(1<=1/\(1<=List.length M∨1=1))/\(true=true/\((nI (0+1):Value)=nI ((1:Nat):Int)/\kk0 = .func (.func 166) #[] #[.pointer (some ⟨1,0,none⟩)]/\(nI (kk7 M):Value)=nI (kk7 M)/\(nI 0:Value)=nI 0/\wkR (slQ 0 2 M.length)/\True)/\((some (.cells true 1 (M.flatMap ai):ab)=some (.cells true 1 ((gX (kyI ss) M 1).flatMap ai):ab)/\aj 6 (.cells true 1 ((gX (kyI ss) M 1).flatMap ai):ab)=true)/\True)/\kkt)/\(∀J:Nat,true=true)/\∀J:Nat,(1<=J/\(J<=List.length M∨J=1))->(((decide (((J:Int):Int)<(kk7 M)))=true->(true=true/\(J<=J/\gn (kyI ss) (isr (kyI ss) M J) (M.getD J 0) J=gn (kyI ss) (isr (kyI ss) M J) (M.getD J 0) J)/\(true=true/\((nI (J:Int):Value)=nI (J:Int)/\kkh M J)/\((some (.cells true 1 ((gX (kyI ss) M J).flatMap ai):ab)=some (.cells true 1 ((cg (kyI ss) M J J).flatMap ai):ab)/\aj 6 (.cells true 1 ((cg (kyI ss) M J J).flatMap ai):ab)=true)/\True)/\kkt)/\(∀U:Nat,true=true)/\∀U:Nat,(U<=J/\gn (kyI ss) (isr (kyI ss) M J) (M.getD J 0) J=gn (kyI ss) (isr (kyI ss) M J) (M.getD J 0) U)->(((decide ((0:Int)<(U:Int)))=true->((kk5 U M)/\(((kkq ss M J U).flatMap ai)[(0+Int.toNat (U:Int)*1)]?=some (nI ((kkq ss M J U).getD U 0)))/\(kko U)=nI ((U:Int)-1)/\(kk4 U M)/\(((kkq ss M J U).flatMap ai)[(0+Int.toNat ((U:Int)-1)*1)]?=some (nI ((kkq ss M J U).getD ((U:Int)-1).toNat 0)))/\((0:Int)<=((kkq ss M J U).getD U 0)/\(((kkq ss M J U).getD U 0):Int)<((ss.length:Nat):Int))/\((ss.flatMap spC)[((0+Int.toNat ((kkq ss M J U).getD U 0)*2)+0)]?=some (nI (kkf ss M J U).1))/\((0:Int)<=((kkq ss M J U).getD ((U:Int)-1).toNat 0)/\(((kkq ss M J U).getD ((U:Int)-1).toNat 0):Int)<((ss.length:Nat):Int))/\((ss.flatMap spC)[((0+Int.toNat ((kkq ss M J U).getD ((U:Int)-1).toNat 0)*2)+0)]?=some (nI (kkb ss M J U).1))/\(nI (IntKind.wrap .i64 ((kkf ss M J U).1-(kkb ss M J U).1)):Value)=nI ((kkf ss M J U).1-(kkb ss M J U).1)/\((decide ((((kkf ss M J U).1-(kkb ss M J U).1):Int)<0))=true->((kko U)=nI ((U:Int)-1)/\(kko U)=nI ((U:Int)-1)/\(kk4 U M)/\(((kkq ss M J U).flatMap ai)[(0+Int.toNat ((U:Int)-1)*1)]?=some (nI ((kkq ss M J U).getD ((U:Int)-1).toNat 0)))/\(kk5 U M)/\(((kkq ss M J U).flatMap ai)[(0+Int.toNat (U:Int)*1)]?=some (nI ((kkq ss M J U).getD U 0)))/\(kk5 U M)/\((0+Int.toNat (U:Int)*1)+1<=List.length ((kkq ss M J U).flatMap ai))/\true=true/\(kk4 U M)/\((0+Int.toNat ((U:Int)-1)*1)+1<=List.length (bE ((kkq ss M J U).flatMap ai) (0+Int.toNat (U:Int)*1) [nI ((kkq ss M J U).getD ((U:Int)-1).toNat 0)]))/\true=true/\((kko U)=nI ((U:Int)-1)/\∃ax:Nat,(ax<=J/\gn (kyI ss) (isr (kyI ss) M J) (M.getD J 0) J=gn (kyI ss) (isr (kyI ss) M J) (M.getD J 0) ax)/\ax<U/\true=true/\((nI ((U:Int)-1):Value)=nI (ax:Int)/\kkh M J)/\((some (.cells true 1 (bE (bE ((kkq ss M J U).flatMap ai) (0+Int.toNat (U:Int)*1) [nI ((kkq ss M J U).getD ((U:Int)-1).toNat 0)]) (0+Int.toNat ((U:Int)-1)*1) [nI ((kkq ss M J U).getD U 0)]):ab)=some (.cells true 1 ((cg (kyI ss) M J ax).flatMap ai):ab)/\aj 6 (.cells true 1 ((cg (kyI ss) M J ax).flatMap ai):ab)=true)/\True)/\kkt)))/\((decide ((((kkf ss M J U).1-(kkb ss M J U).1):Int)<0))=false->(kk8 J M ss U))))/\((decide ((0:Int)<(U:Int)))=false->(kk8 J M ss U)))))/\((decide (((J:Int):Int)<(kk7 M)))=false->(true=true/\wk kku (rn (sg 6 []) 3 kku)/\((some (.cells true 1 ((gX (kyI ss) M J).flatMap ai):ab)=some (kk9 ss M)/\aj 6 (kk9 ss M)=true)/\True)/\True)))))
abbrev kkp:Hint:=.go 0 (.again [])
abbrev kka(ss:List (Int×Int))(M:List Int):ab:=.cells true 1 ((isr (kyI ss) M M.length).flatMap ai)
theorem LR(M:List Int)(w h:Int)(a:List Bool)(p:Int)(ss:List (Int×Int))(rr:List (List Int)):vF prog msk (dm 0) 100000 true 40 true 256 [slQ 0 2 M.length,nI 0,nI (kk7 M),.func (.func 166) #[] #[.pointer (some ⟨1,0,none⟩)]] (dq 0 1 (M.flatMap ai) (xS w h a p ss rr)) (some [0])
 (.go 1 (.slot 11 (nI (0+1)) (.go 0 (.inv 3 (Nat) (1) [] [0] (fun J=>[(8,nI (J:Int)),(3,.func (.func 166) #[] #[.pointer (some ⟨1,0,none⟩)]),(2,nI (kk7 M)),(1,nI 0),(0,slQ 0 2 M.length)]) (fun J=>[(0,true,.cells true 1 ((gX (kyI ss) M J).flatMap ai))]) (fun J=>[]) (fun J=>[]) (fun J=>(1<=J/\(J<=List.length M∨J=1))) (fun J=>(List.length M-J)) (fun J => .go 2 (.fork (.go 1 (.inv 3 (Nat) (J) [] [0] (fun U=>[(9,nI (U:Int)),(0,slQ 0 2 M.length),(1,nI 0),(2,nI (kk7 M)),(3,.func (.func 166) #[] #[.pointer (some ⟨1,0,none⟩)]),(8,nI (J:Int))]) (fun U=>[(0,true,.cells true 1 ((kkq ss M J U).flatMap ai))]) (fun U=>[]) (fun U=>[]) (fun U=>(U<=J/\gn (kyI ss) (isr (kyI ss) M J) (M.getD J 0) J=gn (kyI ss) (isr (kyI ss) M J) (M.getD J 0) U)) (fun U=>U) (fun U => .go 3 (.aT (.go 2 (.need (.val (nI ((kkq ss M J U).getD U 0)) (.go 2 (.slot 29 (nI ((U:Int)-1)) (.need (.val (nI ((kkq ss M J U).getD ((U:Int)-1).toNat 0)) (.into (some [0]) (.go 6 (.need (.go 0 (.val (nI (kkf ss M J U).1) (.go 5 (.need (.go 0 (.val (nI (kkb ss M J U).1) (.go 0 (.slot 24 (nI ((kkf ss M J U).1-(kkb ss M J U).1)) (.go 0 (.keep (.go 1 (.fork (.go 4 (.slot 41 (nI ((U:Int)-1)) (.go 2 (.slot 44 (nI ((U:Int)-1)) (.need (.val (nI ((kkq ss M J U).getD ((U:Int)-1).toNat 0)) (.go 1 (.need (.val (nI ((kkq ss M J U).getD U 0)) (.need (.need (.need (.need (.go 1 (.slot 36 (nI ((U:Int)-1)) kkp))))))))))))))) (.go 1 (.slot 16 (nI ((J:Int)+1)) kkp)))))))))))))))))))))))) (.go 3 (.slot 16 (nI ((J:Int)+1)) kkp)))))) (.keep (.again []))))))))
 (lW ((dq 0 1 (M.flatMap ai) (xS w h a p ss rr)):HT).n 3 0 (kka ss M) (.tuple #[]) [])=Er M w h a p ss rr:=by kernel_rfl
abbrev kkj(M:List Int):Prop:=kk0 = .func (.func 166) #[] #[.pointer (some ⟨1,0,none⟩)]/\(nI (kk7 M):Value)=nI (kk7 M)/\wkR (slQ 0 2 M.length)/\(nI 20:Value)=nI 20/\True
abbrev kk3(qn0 qn1:Nat)(qd0:List Int):=decide (((((qn0*qn1+qn0):Nat):Int):Int)<=(kks qd0))
abbrev kke(M:List Int)(w h:Int)(a:List Bool)(p:Int)(ss:List (Int×Int))(rr:List (List Int)):Prop:=(ar (.cells true 1 (M.flatMap ai)))/\(ar (.cells false 0 [.pointer (some ⟨2,0,none⟩)]))/\(ar (.cells false 0 [nI w,nI h,slQ 3 2 a.length,nI p,slQ 4 2 ss.length,slQ 5 1 rr.length]))/\(ar (.cells false 0 (a.flatMap af)))/\(ar (.cells false 0 (ss.flatMap spC)))/\(ar (.cells false 0 (inL rr)))/\True
abbrev kkc(H':Heap)(M:List Int)(w h:Int)(a:List Bool)(p:Int)(ss:List (Int×Int))(rr:List (List Int)):Prop:=H'[0]?=some (.cells true 1 (M.flatMap ai):ab)/\H'[1]?=some (.cells false 0 [.pointer (some ⟨2,0,none⟩)]:ab)/\H'[2]?=some (.cells false 0 [nI w,nI h,slQ 3 2 a.length,nI p,slQ 4 2 ss.length,slQ 5 1 rr.length]:ab)/\H'[3]?=some (.cells false 0 (a.flatMap af):ab)/\H'[4]?=some (.cells false 0 (ss.flatMap spC):ab)/\H'[5]?=some (.cells false 0 (inL rr):ab)/\True
abbrev kkm(J:Nat):Int:=((20*J+20):Nat)
abbrev kkl(ss:List (Int×Int))(M:List Int):Prop:=((nk 6 (kka ss M))/\True)/\(True)/\(True)
abbrev kk6(U:Nat):Int:=((20*U+20):Nat)
abbrev kkk(M:List Int)(U:Nat):Prop:=kk0 = .func (.func 166) #[] #[.pointer (some ⟨1,0,none⟩)]/\(nI (kk7 M):Value)=nI (kk7 M)/\wkR (slQ 0 2 M.length)/\(nI (kk6 U):Value)=nI (kk6 U)/\True
abbrev kkg(Z:Nat):Int:=((40*Z):Nat)
abbrev kkn(Z:Nat):Int:=((40*Z+40):Nat)
abbrev kk1(qn0 qn1:Nat)(qd0:List Int):Prop:=(nI ((((20*qn0+20):Nat):Int)*2):Value)=nI (((20*qn1+20):Nat):Int)/\wkR (slQ 0 2 qd0.length)/\(nI (kks qd0):Value)=nI (kks qd0)/\kk0 = .func (.func 166) #[] #[.pointer (some ⟨1,0,none⟩)]/\True
abbrev kkr(U:Nat)(M:List Int)(ss:List (Int×Int)):Prop:=(nI (IntKind.wrap .i64 ((kk6 U)*2)):Value)=nI ((kk6 U)*2)/\(∃bM:Nat,(bM=0)/\0<0/\true=true/\(kk1 U bM M)/\kkl ss M)
def yh(M:List Int)(w h:Int)(a:List Bool)(p:Int)(ss:List (Int×Int))(rr:List (List Int)):Prop :=
 (true=true/\(0=0)/\(true=true/\((nI 0:Value)=nI (((20*0):Nat):Int)/\(nI 20:Value)=nI (((20*0+20):Nat):Int)/\kkj M)/\((nk 6 (.cells true 1 (M.flatMap ai)))/\True)/\kkt)/\(∀J:Nat,true=true)/\∀J:Nat,(J=0)->(((kk3 20 J M)=true->((kke M w h a p ss rr)/\(∀H':Heap,H'.length=6->(kkc H' M w h a p ss rr)->ad prog 256 [slQ 0 2 M.length,nI (((20*J):Nat):Int),nI (kkm J),.func (.func 166) #[] #[.pointer (some ⟨1,0,none⟩)]] H' [0] (Is (.tuple #[]) (List.set H' 0 (kk9 ss M))))/\((nI (IntKind.wrap .i64 ((kkm J)+20)):Value)=nI ((kkm J)+20)/\∃aD:Nat,(aD=0)/\0<0/\true=true/\((nI (kkm J):Value)=nI (((20*aD):Nat):Int)/\(nI ((kkm J)+20):Value)=nI (((20*aD+20):Nat):Int)/\kkj M)/\((some (kk9 ss M)=some (.cells true 1 (M.flatMap ai):ab)/\aj 6 (.cells true 1 (M.flatMap ai):ab)=true)/\True)/\kkt)))/\((kk3 20 J M)=false->((kke M w h a p ss rr)/\(∀H':Heap,H'.length=6->(kkc H' M w h a p ss rr)->ad prog 256 [slQ 0 2 M.length,nI (((20*J):Nat):Int),nI (kk7 M),.func (.func 166) #[] #[.pointer (some ⟨1,0,none⟩)]] H' [0] (Is (.tuple #[]) (List.set H' 0 (kk9 ss M))))/\(true=true/\(0=0)/\(true=true/\((nI 20:Value)=nI (((20*0+20):Nat):Int)/\wkR (slQ 0 2 M.length)/\(nI (kk7 M):Value)=nI (kk7 M)/\kk0 = .func (.func 166) #[] #[.pointer (some ⟨1,0,none⟩)]/\True)/\kkl ss M)/\(∀U:Nat,true=true)/\∀U:Nat,(U=0)->(((decide (((kk6 U):Int)<(kk7 M)))=true->((nI (IntKind.wrap .i64 (2*(kk6 U))):Value)=nI (2*(kk6 U))/\(true=true/\(0=0)/\(true=true/\((nI 0:Value)=nI (((40*0):Nat):Int)/\(nI (2*(kk6 U)):Value)=nI (((40*0+40):Nat):Int)/\kkk M U)/\kkl ss M)/\(∀Z:Nat,true=true)/\∀Z:Nat,(Z=0)->(((kk3 40 Z M)=true->((nI (IntKind.wrap .i64 ((kkg Z)+(kk6 U))):Value)=nI ((kkg Z)+(kk6 U))/\((ar (kka ss M))/\True)/\(∀H':Heap,H'.length=6->(H'[0]?=some (kk9 ss M)/\True)->ad prog 257 [slQ 0 2 M.length,nI (kkg Z),nI ((kkg Z)+(kk6 U)),nI (kkn Z),.func (.func 166) #[] #[.pointer (some ⟨1,0,none⟩)]] H' [0] (Is (.tuple #[]) (List.set H' 0 (kk9 ss M))))/\(nI (IntKind.wrap .i64 (2*(kk6 U))):Value)=nI (2*(kk6 U))/\((nI (IntKind.wrap .i64 ((kkn Z)+(2*(kk6 U)))):Value)=nI ((kkn Z)+(2*(kk6 U)))/\∃bM:Nat,(bM=0)/\0<0/\true=true/\((nI (kkn Z):Value)=nI (((40*bM):Nat):Int)/\(nI ((kkn Z)+(2*(kk6 U))):Value)=nI (((40*bM+40):Nat):Int)/\kkk M U)/\kkl ss M)))/\((kk3 40 Z M)=false->((nI (IntKind.wrap .i64 ((kkg Z)+(kk6 U))):Value)=nI ((kkg Z)+(kk6 U))/\((decide ((((kkg Z)+(kk6 U)):Int)<(kk7 M)))=true->(((ar (kka ss M))/\True)/\(∀H':Heap,H'.length=6->(H'[0]?=some (kk9 ss M)/\True)->ad prog 257 [slQ 0 2 M.length,nI (kkg Z),nI ((kkg Z)+(kk6 U)),nI (kk7 M),.func (.func 166) #[] #[.pointer (some ⟨1,0,none⟩)]] H' [0] (Is (.tuple #[]) (List.set H' 0 (kk9 ss M))))/\kkr U M ss))/\((decide ((((kkg Z)+(kk6 U)):Int)<(kk7 M)))=false->(kkr U M ss))))))))/\((decide (((kk6 U):Int)<(kk7 M)))=false->(true=true/\wk kku (rn (sg 6 []) 3 kku)/\((nk 6 (kka ss M))/\True)/\True))))))))
abbrev kki(M:List Int)(w h:Int)(a:List Bool)(p:Int)(ss:List (Int×Int))(rr:List (List Int)):List (Nat×ab):=[(0,.cells true 1 (M.flatMap ai)),(1,.cells false 0 [.pointer (some ⟨2,0,none⟩)]),(2,.cells false 0 [nI w,nI h,slQ 3 2 a.length,nI p,slQ 4 2 ss.length,slQ 5 1 rr.length]),(3,.cells false 0 (a.flatMap af)),(4,.cells false 0 (ss.flatMap spC)),(5,.cells false 0 (inL rr))]
abbrev kkd(ss:List (Int×Int))(M:List Int):List (Nat×ab):=[(0,.cells true 1 ((isr (kyI ss) M M.length).flatMap ai))]
theorem J2(M:List Int)(w h:Int)(a:List Bool)(p:Int)(ss:List (Int×Int))(rr:List (List Int)):vF prog msk (dm 0) 100000 true 40 true 226 [slQ 0 2 M.length,nI (kk7 M),.func (.func 166) #[] #[.pointer (some ⟨1,0,none⟩)]] (dq 0 1 (M.flatMap ai) (xS w h a p ss rr)) (some [0])
 (.go 3 (.inv 3 (Nat) (0) [] [0] (fun J=>[(7,nI (((20*J):Nat):Int)),(8,nI (kkm J)),(2,.func (.func 166) #[] #[.pointer (some ⟨1,0,none⟩)]),(1,nI (kk7 M)),(0,slQ 0 2 M.length),(6,nI 20)]) (fun J=>[(0,true,.cells true 1 (M.flatMap ai))]) (fun J=>[]) (fun J=>[]) (fun J=>(J=0)) (fun J=>0) (fun J => .go 2 (.fork (.go 3 (.mn (kki M w h a p ss rr) (.tuple #[]) (kkd ss M) [] (.go 4 (.slot 22 (nI ((kkm J)+20)) kkp)))) (.go 3 (.mn (kki M w h a p ss rr) (.tuple #[]) (kkd ss M) [] (.inv 3 (Nat) (0) [] [0] (fun U=>[(6,nI (kk6 U)),(0,slQ 0 2 M.length),(1,nI (kk7 M)),(2,.func (.func 166) #[] #[.pointer (some ⟨1,0,none⟩)])]) (fun U=>[(0,true,.cells true 1 ((isr (kyI ss) M M.length).flatMap ai))]) (fun U=>[]) (fun U=>[]) (fun U=>(U=0)) (fun U=>0) (fun U => .go 2 (.fork (.go 1 (.slot 32 (nI (2*(kk6 U))) (.go 1 (.inv 3 (Nat) (0) [] [0] (fun Z=>[(7,nI (kkg Z)),(8,nI (kkn Z)),(2,.func (.func 166) #[] #[.pointer (some ⟨1,0,none⟩)]),(1,nI (kk7 M)),(0,slQ 0 2 M.length),(6,nI (kk6 U))]) (fun Z=>[(0,true,.cells true 1 ((isr (kyI ss) M M.length).flatMap ai))]) (fun Z=>[]) (fun Z=>[]) (fun Z=>(Z=0)) (fun Z=>0) (fun Z => .go 2 (.fork (.go 4 (.slot 40 (nI ((kkg Z)+(kk6 U))) (.go 1 (.mn (kkd ss M) (.tuple #[]) (kkd ss M) [] (.go 4 (.slot 47 (nI (2*(kk6 U))) (.go 0 (.slot 48 (nI ((kkn Z)+(2*(kk6 U)))) kkp)))))))) (.go 2 (.slot 51 (nI ((kkg Z)+(kk6 U))) (.go 3 (.fork (.go 4 (.mn (kkd ss M) (.tuple #[]) (kkd ss M) [] (.go 1 (.slot 62 (nI ((kk6 U)*2)) kkp)))) (.go 1 (.slot 62 (nI ((kk6 U)*2)) kkp)))))))))))) (.keep (.again [])))))))))))
 (lW ((dq 0 1 (M.flatMap ai) (xS w h a p ss rr)):HT).n 3 0 (kka ss M) (.tuple #[]) [])=yh M w h a p ss rr:=by kernel_rfl
end
end Go.Proofs.YtbgfjemppjhmjaaGreat
namespace Go.K
noncomputable section
attribute [local irreducible] vF
variable {P:Program}
theorem ad.EH{f:FuncId}{args:List Value}{H0 H new:Heap}{v V:Value}{σ:Nat->Option Nat}{d k D z:Nat}{c0 c1:List Value}(hp:uC P H0 H σ d k D (.cells true z c0))(h:ad P f args H0 [k] (Is v (H0.set k (.cells true z c1)++new)))
  (h1p:c1.all (aJ 0)=true) (hV:∀(ρ1 ρ2:Ren) (x:Value),(∀r,ρ1 k=some r->ρ2 D=some r)->VR ρ1 v x->VR ρ2 V x) (hn:new.all (fun o=>aZ d o&&o.owned)=true) (hn2:new.map (rno (bF H0.length) d)=new) :
  ad P f (args.map (rn σ d)) H [D] (Is V (H.set D (.cells true z c1)++new.map (rno (dc H0.length H.length) d))):=by
 refine ⟨h.1,fun B Y w args' hr ha =>?_⟩
 let ρs:Ren:=⟨fun id=>(σ id).bind fun id'=>(Y id').map fun r=>if id=k then r else ⟨r.b,r.s,r.n,0,false⟩,Y.mem,fun F k=>(σ F).bind fun F'=>Y.g F' k⟩
 have hσ:∀id id' r,σ id=some id'->Y id'=some r->ρs id=some (if id=k then r else ⟨r.b,r.s,r.n,0,false⟩):=by
  intro id id' r h1 h2;show Option.bind _ _=_;rw[h1];show Option.map _ _=_;rw[h2];rfl
 have hσd:∀id id' r,σ id=some id'->Y id'=some r->∃r',ρs id=some r'/\r'.b=r.b/\r'.s=r.s/\(r'.own=false∨r'=r):=fun id id' r h1 h2=>by
  refine ⟨_,hσ _ _ _ h1 h2,?_⟩
  split
  ·exact ⟨rfl,rfl,.inr rfl⟩
  ·exact ⟨rfl,rfl,.inl rfl⟩
 have hσg:∀F F' k r,σ F=some F'->Y.g F' k=some r->ρs.g F k=some r:=by intro F F' k r h1 h2;show Option.bind _ _=_;rw[h1];exact h2
 have dH:∀{F k r},ρs.g F k=some r->∃F',σ F=some F'/\Y.g F' k=some r:=fun h=>Option.bind_eq_some_iff.1 h
 have pZ:∀{F:Nat} {z:Nat} {cs:List Value},H0[F]?=some (.fam z cs)->False:=fun {F z' cs} mh=>by
  by_cases e:F=k
  ·have:=mh;rw[e,hp.k0]at this;cases this
  ·rcases hp.obj F _ e mh with h|⟨_,h⟩ <;> cases h
 have hnf:∀{F k r z cs},FM ρs H0 F k r z cs->False:=fun m=>pZ m.h
 have hsome:∀{id r},ρs id=some r->∃id' r0,σ id=some id'/\Y id'=some r0/\r=if id=k then r0 else ⟨r0.b,r0.s,r0.n,0,false⟩:=by
  intro id r h
  obtain ⟨id',h1,h2⟩:=Option.bind_eq_some_iff.1 h
  obtain ⟨r0,h3,h4⟩:=ba h2
  exact ⟨id',r0,h1,h3,h4.symm⟩
 have hsk:∀{r},ρs k=some r->Y D=some r:=fun {r} h=>by
  obtain ⟨id',r0,h1,h2,h3⟩:=hsome h
  rw[if_pos rfl]at h3
  subst h3
  rw[hp.hk]at h1;cases h1;exact h2
 have hown:∀(id:Nat) (o:ab),H0[id]?=some o->o.owned=true->id=k:=by
  intro id o h1 h2
  by_cases e:id=k
  ·exact e
  ·rcases hp.obj id o e h1 with rfl|⟨cs,rfl⟩ <;> cases h2
 have hDo:(ab.cells true z c0).owned=true:=rfl
 have hoth:∀{id r o rD},id≠k->ρs id=some r->H0[id]?=some o->o.alive=true->Y D=some rD->rD.b≠r.b:=fun {id r o rD} e h1 h2 h3 h4=>by
  rcases hp.obj id o e h2 with rfl|⟨cs,rfl⟩
  ·cases h3
  ·obtain ⟨id',r0,k1,k2,rfl⟩:=hsome h1
   obtain ⟨own,z',g⟩:=hp.rd id id' cs k1 h2
   rw[if_neg e]
   exact hr.sep D id' rD r0 _ _ h4 k2 hp.hD g hDo rfl (fun q=>hp.ne id cs h2 (by rw[k1,q]))
 have hr0:Rel P B ρs H0 w:=by
  refine ⟨hr.bsize,fun g hg =>?_,fun id r h =>?_,fun id r h =>?_,fun id r o h1 h2 =>?_,fun id r o h1 h2 h3 =>?_,fun id1 id2 r1 r2 o1 o2 h1 h2 g1 g2 k1 k2 hne =>?_,fun b m hb=>⟨(hr.mem b m hb).1,fun id r o h1 h2 h3 =>?_⟩,
   ⟨fun F k r h=>by obtain ⟨F',k1,_⟩:=dH h;exact hp.dom _ _ k1,fun F k r h=>by obtain ⟨F',_,k2⟩:=dH h;exact hr.fam.lt _ _ _ k2,fun _ _ _ _ _ m=>(hnf m).elim,fun _ _ _ _ _ m=>(hnf m).elim,fun _ _ _ _ _ _ _ _ _ _ m=>(hnf m).elim,fun _ _ _ _ _ _ _ _ m=>(hnf m).elim,fun _ _ _ _ _ _ _ m=>(hnf m).elim,fun _ _ _ _ _ h=>(pZ h).elim⟩⟩
  ·obtain ⟨r,k1,k2,k3⟩:=hr.dS g hg
   refine ⟨_,hσ g g r (hp.dS g hg) k1,?_⟩
   split
   ·exact ⟨k2,k3⟩
   ·exact ⟨k2,k3⟩
  ·obtain ⟨id',r0,h1,_,_⟩:=hsome h;exact hp.dom _ _ h1
  ·obtain ⟨id',r0,_,h2,rfl⟩:=hsome h
   have:=hr.lt id' r0 h2
   split <;> exact this
  ·by_cases e:id=k
   ·subst e
    rw[hp.k0]at h2;cases h2
    exact kr (Y:=Y) (ρ':=ρs) (fun _ _ h=>h) hp.pl (hr.obj D r _ (hsk h1) hp.hD)
   ·obtain ⟨id',r0,k1,k2,rfl⟩:=hsome h1
    rw[if_neg e]
    rcases hp.obj id o e h2 with rfl|⟨cs,rfl⟩
    ·trivial
    ·obtain ⟨own,z,g⟩:=hp.rd id id' cs k1 h2
     obtain ⟨e1,e2,cs',ty,fz,hb,hnz,hfz,hcs⟩:=hr.obj _ _ _ k2 g
     refine ⟨rfl,rfl,cs',ty,fz,hb,hnz,fun h=>(by cases h),fun i x hx =>?_⟩
     obtain ⟨x',y1,y2⟩:=hcs i (rn σ d x) (by rw[List.getElem?_map,hx];rfl)
     exact ⟨x',y1,te hσd (fun _ _ h=>h) hσg d y2⟩
  ·obtain rfl:=hown id o h2 h3
   exact hr.base D r _ (hsk h1) hp.hD hDo
  ·obtain rfl:=hown id1 o1 g1 k1
   exact hoth (Ne.symm hne) h2 g2 k2 (hsk h1)
  ·obtain rfl:=hown id o h2 h3
   exact (hr.mem b m hb).2 D r _ (hsk h1) hp.hD hDo
 have ha0:VRl ρs args args'.toList:=⟨by have:=ha.1;simpa using this,fun i x x' a b=>te hσd (fun _ _ h=>h) hσg d (ha.2 i (rn σ d x) x' (by rw[List.getElem?_map,a];rfl) b)⟩
 refine (h.2 B ρs w args' hr0 ha0).mono ?_
 rintro e w' ⟨v1,v',ρ1,H1,rfl,hv',hpost,rfl,rfl⟩
 have hkl:k<H0.length:=(List.getElem?_eq_some_iff.1 hp.k0).1
 have hDl:D<H.length:=(List.getElem?_eq_some_iff.1 hp.hD).1
 have h1k:(H0.set k (.cells true z c1)++new)[k]?=some (.cells true z c1):=by
  rw[List.getElem?_append_left (by simpa using hkl),List.getElem?_set_self hkl]
 have h1o:∀i,i<H0.length->i≠k->(H0.set k (.cells true z c1)++new)[i]?=H0[i]? := fun i hi e=>by
  rw[List.getElem?_append_left (by simpa using hi),List.getElem?_set_ne (Ne.symm e)]
 have h1n:∀i,H0.length<=i->(H0.set k (.cells true z c1)++new)[i]?=new[i-H0.length]? := fun i hi=>by
  rw[List.getElem?_append_right (by simpa using hi)];simp
 have mR:∀b,OB ρs H0 b->∃rD,Y D=some rD/\ρs k=some rD/\rD.b=b:=fun b h=>h.elim (fun ⟨id,r,o,h1,h2,h3,h4⟩=>by
   obtain rfl:=hown id o h2 h3
   exact ⟨r,hsk h1,h1,h4⟩) (fun ⟨_,_,_,_,_,m,_⟩=>(hnf m).elim)
 have hOB:∀b,OB ρs H0 b->OB Y H b:=fun b h=>by
  obtain ⟨rD,h1,_,h2⟩:=mR b h
  exact .inl ⟨D,rD,_,h1,hp.hD,hDo,h2⟩
 let ρ2:Ren:=⟨fun id=>if id<H.length then Y id else ρ1 (H0.length+(id-H.length)),ρ1.mem,fun F k=>if F<H.length then Y.g F k else ρ1.g (H0.length+(F-H.length)) k⟩
 let ρn:Ren:=⟨fun id=>if id<H0.length then none else ρ1 id,ρ1.mem,fun F k=>if F<H0.length then none else ρ1.g F k⟩
 have hn1:∀id id' r,bF H0.length id=some id'->ρ1 id'=some r->ρn id=some r:=by
  intro id id' r h1 h2
  unfold bF at h1
  split at h1
  ·cases h1
  ·rename_i hlt;cases h1;show (if _ then _ else _)=_;rw[if_neg hlt];exact h2
 have xK:∀F F' k r,bF H0.length F=some F'->ρ1.g F' k=some r->ρn.g F k=some r:=by
  intro F F' k r h1 h2
  unfold bF at h1
  split at h1
  ·cases h1
  ·rename_i hlt;cases h1;show (if _ then _ else _)=_;rw[if_neg hlt];exact h2
 have li:∀F k r,ρn.g F k=some r->∃F',dc H0.length H.length F=some F'/\ρ2.g F' k=some r:=by
  intro F k r h1
  have h1':(if F<H0.length then none else ρ1.g F k)=some r:=h1
  split at h1'
  ·cases h1'
  ·rename_i hlt
   refine ⟨_,if_neg hlt,?_⟩
   show (if _ then _ else _)=_
   rw[if_neg (by omega),show H0.length+(H.length+(F-H0.length)-H.length)=F by omega];exact h1'
 have rg:∀id r,ρn id=some r->∃id',dc H0.length H.length id=some id'/\ρ2 id'=some r:=by
  intro id r h1
  have h1':(if id<H0.length then none else ρ1 id)=some r:=h1
  split at h1'
  ·cases h1'
  ·rename_i hlt
   refine ⟨_,if_neg hlt,?_⟩
   show (if _ then _ else _)=_
   rw[if_neg (by omega),show H0.length+(H.length+(id-H0.length)-H.length)=id by omega];exact h1'
 have hext:Ren.le Y ρ2:=⟨fun id r h1=>by
  show (if _ then _ else _)=_
  rw[if_pos (hr.dom _ _ h1)];exact h1,hpost.ext.mem,fun F k r h1=>by
  show (if _ then _ else _)=_
  rw[if_pos (hr.fam.dom _ _ _ h1)];exact h1⟩
 have hnew:∀(k:Nat) (o:ab),new[k]?=some o->aZ d o=true/\o.owned=true/\rno (bF H0.length) d o=o:=by
  intro k o hk
  rw[List.all_eq_true]at hn
  have:=hn o (List.mem_of_getElem? hk)
  simp only[Bool.and_eq_true]at this
  refine ⟨this.1,this.2,?_⟩
  have h3:(new.map (rno (bF H0.length) d))[k]?=some o:=by rw[hn2];exact hk
  rw[List.getElem?_map,hk]at h3
  exact Option.some.inj h3
 have hoa:∀o:ab,o.owned=true->o.alive=true:=by intro o ho;cases o <;> first|rfl|cases ho
 have hfresh:∀id r o,H0.length<=id->ρ1 id=some r->new[id-H0.length]?=some o->w.heap.size<=r.b:=by
  intro id r o hid h1 h2
  have ho:o.owned=true:=(hnew _ _ h2).2.1
  rcases Nat.lt_or_ge r.b w.heap.size with hlt|hge
  ·obtain ⟨rD,k1,k2,k3⟩:=mR _ (hpost.ob r.b hlt (.inl ⟨id,r,o,h1,by rw[h1n id hid];exact h2,ho,rfl⟩))
   exact absurd k3 (hpost.rel.sep k id rD r _ o (hpost.ext _ _ k2) h1 h1k (by rw[h1n id hid];exact h2) rfl (hoa _ ho) (by omega))
  ·exact hge
 have p8:(H.set D (.cells true z c1)++new.map (rno (dc H0.length H.length) d))[D]?=some (.cells true z c1):=by
  rw[List.getElem?_append_left (by simpa using hDl),List.getElem?_set_self hDl]
 have dp:∀id,id<H.length->id≠D->(H.set D (.cells true z c1)++new.map (rno (dc H0.length H.length) d))[id]?=H[id]? := fun id hid e=>by
  rw[List.getElem?_append_left (by simpa using hid),List.getElem?_set_ne (Ne.symm e)]
 have hback:∀id o,id<H.length->(H.set D (.cells true z c1)++new.map (rno (dc H0.length H.length) d))[id]?=some o->∃o',H[id]?=some o'/\o'.owned=o.owned/\o'.alive=o.alive:=fun id o hid h2=>by
  by_cases e:id=D
  ·subst e
   rw[p8]at h2;cases h2
   exact ⟨_,hp.hD,rfl,rfl⟩
  ·rw[dp id hid e]at h2;exact ⟨o,h2,rfl,rfl⟩
 have cR:∀id o',H.length<=id->(H.set D (.cells true z c1)++new.map (rno (dc H0.length H.length) d))[id]?=some o'->∃o,new[id-H.length]?=some o/\o'=rno (dc H0.length H.length) d o/\aZ d o=true/\o.owned=true/\rno (bF H0.length) d o=o:=by
  intro id o' hid h2
  rw[List.getElem?_append_right (by simpa using hid),List.getElem?_map,List.length_set]at h2
  obtain ⟨o,a1,rfl⟩:=ba h2
  obtain ⟨x1,x2,x3⟩:=hnew _ _ a1
  exact ⟨o,a1,rfl,x1,x2,x3⟩
 have hVk:∀r,ρ1 k=some r->ρ2 D=some r:=fun r h1=>by
  show (if _ then _ else _)=_
  rw[if_pos hDl]
  cases hs:ρs k with
  |none=>exact absurd (hpost.new k r h1 hs) (by omega)
  |some r' =>
   have:=hpost.ext _ _ hs
   rw[h1]at this;cases this
   exact hsk hs
 refine ⟨_,v',ρ2,_,rfl,hV ρ1 ρ2 v' hVk hv',?_,rfl,rfl⟩
 have fr:∀id r o,¬ id<H.length->ρ1 (H0.length+(id-H.length))=some r->(H.set D (.cells true z c1)++new.map (rno (dc H0.length H.length) d))[id]?=some o->w.heap.size<=r.b:=by
  intro id r o hid a b
  obtain ⟨o0,a1,_,_,_,_⟩:=cR id o (by omega) b
  exact hfresh _ r o0 (by omega) a (by rw[show H0.length+(id-H.length)-H0.length=id-H.length by omega];exact a1)
 have u:∀id,ρ2 id=if id<H.length then Y id else ρ1 (H0.length+(id-H.length)):=fun _=>rfl
 have Jh:∀id r o,Y id=some r->H[id]?=some o->o.alive=true->id≠D->¬ OB ρs H0 r.b:=fun id r o a b c e q=>by
  obtain ⟨rD,k1,_,k3⟩:=mR _ q
  exact hr.sep D id rD r _ o k1 a hp.hD b hDo c (Ne.symm e) k3
 have jm:∀{F k r z' cs},ρ2.g F k=some r->(H.set D (.cells true z c1)++new.map (rno (dc H0.length H.length) d))[F]?=some (.fam z' cs)->Y.g F k=some r/\H[F]?=some (.fam z' cs):=fun {F k r z' cs} mg mh=>by
  have h1:(if F<H.length then Y.g F k else ρ1.g (H0.length+(F-H.length)) k)=some r:=mg
  rcases Nat.lt_or_ge F H.length with h|h
  ·rw[if_pos h]at h1
   refine ⟨h1,?_⟩
   by_cases e:F=D
   ·have:=mh;rw[e,p8]at this;cases this
   ·rw[<- dp F h e];exact mh
  ·obtain ⟨o,_,e,g1,g2,_⟩:=cR F _ h mh
   cases o <;> first|(cases g1;done)|(cases g2;done)|(cases e;done)
 have hfm:∀{F k r z' cs},FM ρ2 (H.set D (.cells true z c1)++new.map (rno (dc H0.length H.length) d)) F k r z' cs->FM Y H F k r z' cs:=fun m=>⟨(jm m.g m.h).1,(jm m.g m.h).2,m.a⟩
 have jF:iL B ρ2 (H.set D (.cells true z c1)++new.map (rno (dc H0.length H.length) d)) w':=by
  refine ⟨fun F k r h1 =>?_,fun F k r h1 =>?_,fun F k r z cs m=>hr.fam.base _ _ _ _ _ (hfm m),fun F k r z cs m=>(hr.fam.obj _ _ _ _ _ (hfm m)).mono hext (hpost.keep _ (hr.fam.lt _ _ _ (hfm m).g) (fun q =>?_)),
   fun F k r z cs F' k' r' z' cs' m m'=>hr.fam.sep _ _ _ _ _ _ _ _ _ _ (hfm m) (hfm m'),fun F k r z cs id r' o m h1 h2 h3 =>?_,fun F k r z cs b m' m hb =>?_,fun F k r cs h1 h2=>hr.fam.cnt F k r cs (jm h1 h2).1 (jm h1 h2).2⟩
  ·have h1:(if F<H.length then Y.g F k else ρ1.g (H0.length+(F-H.length)) k)=some r:=h1
   rcases Nat.lt_or_ge F H.length with h|h
   ·simp;omega
   ·rw[if_neg (by omega)]at h1
    have:=hpost.rel.fam.dom _ _ _ h1
    simp at this ⊢;omega
  ·have h1:(if F<H.length then Y.g F k else ρ1.g (H0.length+(F-H.length)) k)=some r:=h1
   rcases Nat.lt_or_ge F H.length with h|h
   ·rw[if_pos h]at h1
    exact Nat.lt_of_lt_of_le (hr.fam.lt _ _ _ h1) hpost.size
   ·rw[if_neg (by omega)]at h1
    exact hpost.rel.fam.lt _ _ _ h1
  ·obtain ⟨rD,k1,_,k3⟩:=mR _ q
   exact hr.fam.sep2 _ _ _ _ _ D rD _ (hfm m) k1 hp.hD rfl k3
  ·rw[u]at h1
   rcases Nat.lt_or_ge id H.length with h|h
   ·rw[if_pos h]at h1
    obtain ⟨o',b1,_,b3⟩:=hback id o h h2
    exact hr.fam.sep2 _ _ _ _ _ id r' o' (hfm m) h1 b1 (by rw[b3];exact h3)
   ·rw[if_neg (by omega)]at h1
    have:=fr id r' o (by omega) h1 h2
    have:=hr.fam.lt _ _ _ (hfm m).g
    omega
  ·have hb:ρ1.mem b=some m':=hb
   rcases hpost.frz b m' hb with g|g|g
   ·exact hr.fam.mem _ _ _ _ _ b m' (hfm m) g
   ·have:=hr.fam.lt _ _ _ (hfm m).g;omega
   ·obtain ⟨rD,k1,_,k3⟩:=mR _ g
    exact fun q=>hr.fam.sep2 _ _ _ _ _ D rD _ (hfm m) k1 hp.hD rfl (k3.trans q.symm)
 refine ⟨⟨Nat.le_trans hr.bsize hpost.size,fun g hg =>?_,fun id r h1 =>?_,fun id r h1 =>?_,fun id r o h1 h2 =>?_,fun id r o h1 h2 h3 =>?_,fun id1 id2 r1 r2 o1 o2 h1 h2 g1 g2 k1 k2 hne =>?_,fun b m hb=>⟨(hpost.rel.mem b m hb).1,fun id r o h1 h2 h3 =>?_⟩,jF⟩,hext,fun id r h1 h2 =>?_,by simp,fun id h1 h2=>dp id h1 (fun e=>h2 (by rw[e];exact List.mem_singleton.2 rfl)),hpost.size,fun b h1 h2=>hpost.keep b h1 (fun q=>h2 (hOB b q)),fun b h1 h2 =>?_,hpost.os,hpost.tape,hpost.output,fun b m hb=>(hpost.frz b m hb).imp id fun h=>h.imp id (hOB b),hpost.drawn,fun F k r h1 h2 => .inl (by
  have h1:(if F<H.length then Y.g F k else ρ1.g (H0.length+(F-H.length)) k)=some r:=h1
  rcases Nat.lt_or_ge F H.length with h|h
  ·rw[if_pos h,h2]at h1;cases h1
  ·exact h)⟩
 ·obtain ⟨r,k1,k2,k3⟩:=hr.dS g hg;exact ⟨r,hext _ _ k1,k2,k3⟩
 ·rw[u]at h1
  split at h1
  ·rw[ao,List.length_set];omega
  ·rename_i hid
   have:=hpost.rel.dom _ _ h1
   rw[ao,List.length_set]at this
   rw[ao,List.length_map,List.length_set];omega
 ·rw[u]at h1
  split at h1
  ·exact Nat.lt_of_lt_of_le (hr.lt _ _ h1) hpost.size
  ·exact hpost.rel.lt _ _ h1
 ·rw[u]at h1
  split at h1
  ·rename_i hid
   by_cases e:id=D
   ·subst e
    rw[p8]at h2;cases h2
    have hk1:ρs k=some r:=by have:=hσ _ _ _ hp.hk h1;rw[if_pos rfl]at this;exact this
    exact kr (Y:=ρ1) (ρ':=ρ2) (fun _ _ h=>h) h1p (hpost.rel.obj k r _ (hpost.ext _ _ hk1) h1k)
   ·rw[dp id hid e]at h2
    cases hal:o.alive with
    |true=>exact (hr.obj _ _ _ h1 h2).mono hext (hpost.keep _ (hr.lt _ _ h1) (Jh id r o h1 h2 hal e))
    |false=>cases o <;> first|trivial|cases hal
  ·rename_i hid
   obtain ⟨o0,a1,rfl,a3,a4,a5⟩:=cR id o (by omega) h2
   have h6:=hpost.rel.obj _ _ _ h1 (show _=some o0 by rw[h1n _ (by omega),show H0.length+(id-H.length)-H0.length=id-H.length by omega];exact a1)
   rw[<- a5]at h6
   have hd:rno (bF H0.length) d o0 = .dead->o0 = .dead:=fun he=>by rw[a5]at he;exact he
   exact lR rg (fun _ _ h=>h) li a3 (jb hn1 (fun _ _ h=>h) xK h6 hd)
 ·rw[u]at h1
  split at h1
  ·rename_i hid
   obtain ⟨o',b1,b2,_⟩:=hback id o hid h2
   exact hr.base _ _ _ h1 b1 (by rw[b2];exact h3)
  ·rename_i hid
   obtain ⟨o0,a1,_,a3,a4,_⟩:=cR id o (by omega) h2
   exact hpost.rel.base _ _ _ h1 (show _=some o0 by rw[h1n _ (by omega),show H0.length+(id-H.length)-H0.length=id-H.length by omega];exact a1) a4
 ·rw[u]at h1 h2
  by_cases c1':id1<H.length
  ·rw[if_pos c1']at h1
   obtain ⟨p1,b1,b2,_⟩:=hback id1 o1 c1' g1
   by_cases c2:id2<H.length
   ·rw[if_pos c2]at h2
    obtain ⟨p2,d1,_,d3⟩:=hback id2 o2 c2 g2
    exact hr.sep id1 id2 r1 r2 p1 p2 h1 h2 b1 d1 (by rw[b2];exact k1) (by rw[d3];exact k2) hne
   ·rw[if_neg c2]at h2
    have:=hr.lt _ _ h1
    have:=fr id2 r2 o2 c2 h2 g2
    omega
  ·rw[if_neg c1']at h1
   have f1:=fr id1 r1 o1 c1' h1 g1
   by_cases c2:id2<H.length
   ·rw[if_pos c2]at h2
    have:=hr.lt _ _ h2
    omega
   ·rw[if_neg c2]at h2
    obtain ⟨p1,a1,_,_,a4,_⟩:=cR id1 o1 (by omega) g1
    obtain ⟨p2,b1,_,_,b4,_⟩:=cR id2 o2 (by omega) g2
    exact hpost.rel.sep _ _ r1 r2 p1 p2 h1 h2 (by rw[h1n _ (by omega),show H0.length+(id1-H.length)-H0.length=id1-H.length by omega];exact a1) (by rw[h1n _ (by omega),show H0.length+(id2-H.length)-H0.length=id2-H.length by omega];exact b1) a4 (hoa _ b4) (by omega)
 ·rw[u]at h1
  split at h1
  ·rename_i hid
   obtain ⟨o',b1,b2,_⟩:=hback id o hid h2
   intro he
   rcases hpost.frz b m hb with g|g|g
   ·exact (hr.mem b m g).2 id r o' h1 b1 (by rw[b2];exact h3) he
   ·have:=hr.lt _ _ h1;omega
   ·obtain ⟨rD,k1,k2,k3⟩:=mR _ g
    exact (hpost.rel.mem b m hb).2 k rD _ (hpost.ext _ _ k2) h1k rfl k3
  ·rename_i hid
   obtain ⟨o0,a1,_,a3,a4,_⟩:=cR id o (by omega) h2
   exact (hpost.rel.mem b m hb).2 _ r o0 h1 (by rw[h1n _ (by omega),show H0.length+(id-H.length)-H0.length=id-H.length by omega];exact a1) a4
 ·rw[u]at h1
  split at h1
  ·rw[h2]at h1;cases h1
  ·omega
 ·rcases h2 with ⟨id,r,o,k1,k2,k3,k4⟩|⟨F,k,r,z,cs,m,e⟩
  ·rw[u]at k1
   split at k1
   ·rename_i hid
    obtain ⟨o',b1,b2,_⟩:=hback id o hid k2
    exact .inl ⟨id,r,o',k1,b1,by rw[b2];exact k3,k4⟩
   ·rename_i hid
    have:=fr id r o hid k1 k2
    omega
  ·exact .inr ⟨F,k,r,z,cs,hfm m,e⟩
theorem KA{mixed:Bool}{mask:Nat}{dm:Value->MS}{rounds:Nat}(ft:gy P mixed mask)(gq:mixed=true->P.follows .mixedOrders=true)(n:Nat){f:FuncId}{args:List Value}{css:List (List Value)}{h:Hint}{v:Value}{z:Nat}{c0 c1:List Value}
  (hc:vF P mask dm rounds mixed n true f args (dq P.globals.size z c0 css) (some [P.globals.size]) h (lW (dq P.globals.size z c0 css).n 3 P.globals.size (.cells true z c1) v []))
  (hp0:c0.all (aJ 0)=true) (hp1:c1.all (aJ 0)=true) {V:Value} {D:Nat} (hV:∀(ρ1 ρ2:Ren) (x:Value),(∀r,ρ1 P.globals.size=some r->ρ2 D=some r)->VR ρ1 v x->VR ρ2 V x)
  {H:Heap} (hD:H[D]?=some (.cells true z c0)) (ids:List Nat) (hl:ids.length=css.length) (gu:∀(k:Nat) (cs:List Value),css[k]?=some cs->∃id own z,ids[k]?=some id/\H[id]?=some (ab.cells own z (cs.map (rn (jQ P.globals.size D ids) 3)))) (hne:D ∉ ids) :
  ad P f (args.map (rn (jQ P.globals.size D ids) 3)) H [D] (Is V (H.set D (.cells true z c1))):=by
 have e:(dq P.globals.size z c0 css).list.length=P.globals.size+1+css.length:=by rw[HT.length,u9]
 have hkn:P.globals.size<(dq P.globals.size z c0 css).n:=by rw[u9];omega
 have h1:ad P f args (dq P.globals.size z c0 css).list [P.globals.size] (Is v ((dq P.globals.size z c0 css).list.set P.globals.size (.cells true z c1)++([]:List (Bool×ab)).map (·.2))):=by
  refine ad.G5 (d:=3) hkn (((lN ft gq n).1 f args _ (some [P.globals.size]) h _ hc).post ?_)
  rintro v' H' ⟨H2,h2,e,hk⟩
  cases h2 with
  |again σ=>exact ⟨H2,σ,e,hk⟩
  |_=>exact hk.elim
 have hp:uC P (dq P.globals.size z c0 css).list H (jQ P.globals.size D ids) 3 P.globals.size D (.cells true z c0):=by
  refine ⟨fun g hg=>if_pos hg,fun id id' h =>?_,by rw[e];omega,?_,?_,hD,hp0,fun id o hne h =>?_,fun id cs h =>?_,fun id id' cs h1 h2 =>?_⟩
  ·rw[e]
   unfold jQ at h
   split at h
   ·omega
   ·split at h
    ·omega
    ·have:=(List.getElem?_eq_some_iff.1 h).1;omega
  ·rw[iu,if_neg (Nat.lt_irrefl _),if_pos rfl]
  ·show (if _ then _ else _)=_
   rw[if_neg (Nat.lt_irrefl _),if_pos rfl]
  ·rw[iu]at h
   split at h
   ·cases h;exact .inl rfl
   ·try rw[if_neg hne]at h
    obtain ⟨cs,_,rfl⟩:=ba h;exact .inr ⟨cs,rfl⟩
  ·rw[iu]at h
   split at h
   ·cases h
   ·rename_i h5
    split at h
    ·cases h
    ·rename_i h6
     unfold jQ
     rw[if_neg h5,if_neg h6]
     exact fun q=>hne (List.mem_of_getElem? q)
  ·rw[iu]at h2
   split at h2
   ·cases h2
   ·rename_i h5
    split at h2
    ·cases h2
    ·rename_i h6
     obtain ⟨cs',a1,a2⟩:=ba h2
     cases a2
     unfold jQ at h1
     rw[if_neg h5,if_neg h6]at h1
     obtain ⟨id2,own,z2,b1,b2⟩:=gu _ _ a1
     rw[h1]at b1;cases b1
     exact ⟨own,z2,b2⟩
 have:=ad.EH (V:=V) (new:=[]) hp h1 hp1 hV rfl rfl
 rw[List.map_nil,List.append_nil]at this
 exact this
end
end Go.K
namespace Go.Proofs.YtbgfjemppjhmjaaGreat
noncomputable section
attribute [local irreducible] vF
variable {w h:Int} {a:List Bool} {p:Int} {ss:List (Int×Int)} {o1 o2:Bool} {z1 z2:Nat} {H:Heap}
def InS(n:Nat)(M:List Int):Prop:=∀v∈M,0<=v/\v<(n:Int)
theorem InS.at{n:Nat}{M:List Int}(h:InS n M){i:Nat}(hi:i<M.length):0<=M.getD i 0/\M.getD i 0<(n:Int):=h _ (b8 hi)
theorem GT{f:FuncId}{args:List Value}{css:List (List Value)}{h:Hint}{c0 c1:List Value}
  (hc:vF prog msk (dm 0) 100000 true 40 true f args (dq 0 1 c0 css) (some [0]) h (lW (dq 0 1 c0 css).n 3 0 (.cells true 1 c1) (.tuple #[]) []))
  (hp0:c0.all (aJ 0)=true) (hp1:c1.all (aJ 0)=true) {H:Heap} {D:Nat} (hD:H[D]?=some (.cells true 1 c0)) {ids:List Nat} (hi:uG H (jQ 0 D ids) ids css) (hne:D ∉ ids) {args':List Value} (ha:args.map (rn (jQ 0 D ids) 3)=args') :
  ad prog f args' H [D] (Is (.tuple #[]) (H.set D (.cells true 1 c1))):=by
 subst ha
 have key:=KA (H:=H) (D:=D) (z:=1) (c0:=c0) (c1:=c1) iw mixed 40 (v:=.tuple #[]) (V:=.tuple #[]) (by rw[dx];exact hc) hp0 hp1 (fun ρ1 ρ2 x hr hv=>by
  cases hv with
  |tuple h1 h2=>exact .tuple h1 (fun i v v' q=>by simp at q)) hD ids hi.len (by rw[dx];exact hi.get) hne
 rw[dx]at key
 exact key
theorem GU{f:FuncId}{args:List Value}{css:List (List Value)}{h:Hint}{n:Nat}{c0 c1:List Value}
  (hc:vF prog msk (dm 0) 100000 true 40 true f args (dq 0 1 c0 css) (some [0]) h (lW (dq 0 1 c0 css).n 3 0 (.cells true 1 c1) (slQ 0 2 n) []))
  (hp0:c0.all (aJ 0)=true) (hp1:c1.all (aJ 0)=true) {H:Heap} {D:Nat} (hD:H[D]?=some (.cells true 1 c0)) {ids:List Nat} (hi:uG H (jQ 0 D ids) ids css) (hne:D ∉ ids) {args':List Value} (ha:args.map (rn (jQ 0 D ids) 3)=args') :
  ad prog f args' H [D] (Is (slQ D 2 n) (H.set D (.cells true 1 c1))):=by
 subst ha
 have key:=KA (H:=H) (D:=D) (z:=1) (c0:=c0) (c1:=c1) iw mixed 40 (v:=slQ 0 2 n) (V:=slQ D 2 n) (by rw[dx];exact hc) hp0 hp1 (fun ρ1 ρ2 x hr hv=>by
  rw[dx]at hr
  cases hv with
  |aS=>exact .aS
  |bp h hp hl hc ho=>exact .bp (hr _ h) hp hl hc ho) hD ids hi.len (by rw[dx];exact hi.get) hne
 rw[dx]at key
 exact key
theorem wW(l:List Bool)(σ:Nat->Option Nat):(l.flatMap af).map (rn σ 3)=l.flatMap af:=(iP (d:=0) (az 0 l)).1
theorem HZ(l:List (Int×Int))(σ:Nat->Option Nat):(l.flatMap spC).map (rn σ 3)=l.flatMap spC:=(iP (d:=0) (ct 0 l)).1
theorem B4(l:List (List Int))(σ:Nat->Option Nat):(inL l).map (rn σ 3)=inL l:=(iP (d:=0) (wb 0 l)).1
theorem mP(o:Bool)(z:Nat)(l:List Int)(σ:Nat->Option Nat):rno σ 3 (.cells o z (l.flatMap ai)) = .cells o z (l.flatMap ai):=congrArg (ab.cells o z) (iP (d:=0) (am 0 l)).1
theorem xI(o:Bool)(z:Nat)(l:List Int):aZ 3 (.cells o z (l.flatMap ai))=true:=(iP (σ:=fun _=>none) (d:=0) (am 0 l)).2
theorem Ld{M:List Int}{rr:List (List Int)}(t:ej w h a p ss)(hM:InS ss.length M)(hl:M.length<=1000):Er M w h a p ss rr:=by
 delta Er kk0 kk7 kkt kkh kks kk5 kkq kko kk4 kkf kkb kk2 kk8 kku kk9
 refine ⟨aG (by omega),rfl,⟨Nat.le_refl _,Or.inr rfl⟩,?_,fun _=>rfl,fun x hx=>⟨fun c =>?_,fun c =>?_⟩⟩
 ·rw[EX]
  repeat' first|exact am _ _|exact rfl|exact aa _|exact ac|apply And.intro|(exact iEq (by omega))
 ·have hx1:x<M.length:=by have:=av c;omega
  refine ⟨rfl,⟨Nat.le_refl _,rfl⟩,?_,fun _=>rfl,fun y hy=>⟨fun d =>?_,fun d =>?_⟩⟩
  ·rw[EY hx1]
   repeat' first|exact am _ _|exact rfl|exact aa _|exact ac|apply And.intro|(exact iEq (by omega))
  ·have hy1:0<y:=by have:=av d;omega
   obtain ⟨hyx,hip⟩:=hy
   have hsl:=AF (k:=kyI ss) hx1 hyx
   have eN:Int.toNat (((y:Nat):Int)-1)=y-1:=by omega
   have e1:=BV (k:=kyI ss) hx1 hyx
   have e2:=AE (k:=kyI ss) hx1 hyx (show y-1<y by omega)
   have hil:=fV (kyI ss) M x
   have b1:0<=(cg (kyI ss) M x y).getD y 0/\(cg (kyI ss) M x y).getD y 0<(ss.length:Int):=by rw[e1];exact hM.at hx1
   have hin:InS ss.length (isr (kyI ss) M x):=fun v hv=>hM v (List.mem_of_mem_take ((pT (kyI ss) M x (by omega)).mem_iff.1 hv))
   have b2:0<=(cg (kyI ss) M x y).getD (y-1) 0/\(cg (kyI ss) M x y).getD (y-1) 0<(ss.length:Int):=by rw[e2];exact hin.at (by omega)
   have m1:=(t.bd (show Int.toNat ((cg (kyI ss) M x y).getD y 0)<ss.length by omega)).1
   have m2:=(t.bd (show Int.toNat ((cg (kyI ss) M x y).getD (y-1) 0)<ss.length by omega)).1
   rw[eN]
   have k1:kyI ss (M.getD x 0)=(ss.getD (Int.toNat ((cg (kyI ss) M x y).getD y 0)) ae).1:=by rw[e1];rfl
   have k2:kyI ss ((isr (kyI ss) M x).getD (y-1) 0)=(ss.getD (Int.toNat ((cg (kyI ss) M x y).getD (y-1) 0)) ae).1:=by rw[e2];rfl
   refine ⟨⟨by omega,by omega⟩,cL (by omega) (by omega),aG (by omega),⟨by omega,by omega⟩,cL (by omega) (by omega),b1,fI (by omega) (by omega),b2,fI (by omega) (by omega),aG (by omega),fun g =>?_,fun g =>?_⟩
   ·have hlt:kyI ss (M.getD x 0)<kyI ss ((isr (kyI ss) M x).getD (y-1) 0):=by have:=av g;rw[k1,k2];omega
    have hgo:=FT (m:=isr (kyI ss) M x) hlt
    rw[show y-1+1=y by omega]at hgo
    refine ⟨aG (by omega),aG (by omega),⟨by omega,by omega⟩,cL (by omega) (by omega),⟨by omega,by omega⟩,cL (by omega) (by omega),⟨by omega,by omega⟩,?_,rfl,⟨by omega,by omega⟩,?_,rfl,aG (by omega),y-1,⟨by omega,by rw[hip,hgo]⟩,by omega,?_⟩
    ·rw[aP bg];omega
    ·rw[cW,aP bg];omega
    ·have hsw:=wT (k:=kyI ss) hx1 (show y-1+1<=x by omega)
     rw[show y-1+1=y by omega,<- e1,<- e2]at hsw
     have s1:bE (bE ((cg (kyI ss) M x y).flatMap ai) (0+Int.toNat ((y:Nat):Int)*1) [.int .i64 ((cg (kyI ss) M x y).getD (y-1) 0)]) (0+(y-1)*1) [.int .i64 ((cg (kyI ss) M x y).getD y 0)]=(cg (kyI ss) M x (y-1)).flatMap ai:=by
      rw[show 0+Int.toNat ((y:Nat):Int)*1=y*1 by omega,show 0+(y-1)*1=(y-1)*1 by omega]
      have f1:=fw bg (cg (kyI ss) M x y) y (by omega) ((cg (kyI ss) M x y).getD (y-1) 0)
      rw[show ai ((cg (kyI ss) M x y).getD (y-1) 0)=[.int .i64 ((cg (kyI ss) M x y).getD (y-1) 0)] from rfl]at f1
      rw[f1]
      have f2:=fw bg ((cg (kyI ss) M x y).set y ((cg (kyI ss) M x y).getD (y-1) 0)) (y-1) (by rw[List.length_set];omega) ((cg (kyI ss) M x y).getD y 0)
      rw[show ai ((cg (kyI ss) M x y).getD y 0)=[.int .i64 ((cg (kyI ss) M x y).getD y 0)] from rfl]at f2
      rw[f2,hsw]
     rw[s1]
     repeat' first|exact am _ _|exact rfl|exact aa _|exact ac|apply And.intro|(exact iEq (by omega))
   ·have hnl:¬ kyI ss (M.getD x 0)<kyI ss ((isr (kyI ss) M x).getD (y-1) 0):=by have:=aA g;rw[k1,k2];omega
    have hno:=FS (m:=isr (kyI ss) M x) hnl
    rw[show y-1+1=y by omega]at hno
    rw[rE hx1 (hip.trans hno)]
    refine ⟨aG (by omega),x+1,⟨by omega,Or.inl (by omega)⟩,by omega,?_⟩
    repeat' first|exact am _ _|exact rfl|exact aa _|exact ac|apply And.intro|(exact iEq (by omega))
  ·have hy1:y=0:=by have:=aA d;omega
   obtain ⟨hyx,hip⟩:=hy
   subst hy1
   rw[rE (j:=0) hx1 (hip.trans rfl)]
   refine ⟨aG (by omega),x+1,⟨by omega,Or.inl (by omega)⟩,by omega,?_⟩
   repeat' first|exact am _ _|exact rfl|exact aa _|exact ac|apply And.intro|(exact iEq (by omega))
 ·have hx1:M.length<=x:=by have:=aA c;omega
  rw[AB hx1]
  repeat' first|exact am _ _|exact rfl|exact aa _|exact ac|apply And.intro|(exact iEq (by omega))
structure Au(H:Heap)(D:Nat)(w h:Int)(a:List Bool)(p:Int)(ss:List (Int×Int))(rr:List (List Int))(b r i j q:Nat):Prop where
 ne:D ∉ [b,r,i,j,q]
 box:∃o z,H[b]?=some (.cells o z [.pointer (some ⟨r,0,none⟩)])
 wk:∃o z,H[r]?=some (.cells o z (iF w h a p ss rr i j q))
 land:∃o z,H[i]?=some (.cells o z (a.flatMap af))
 seen:∃o z,H[j]?=some (.cells o z (ss.flatMap spC))
 rows:∃o z,H[q]?=some (.cells o z (inL rr))
theorem Au.ins{D:Nat}{rr:List (List Int)}{b r i j q:Nat}(k:Au H D w h a p ss rr b r i j q):uG H (jQ 0 D [b,r,i,j,q]) [b,r,i,j,q] (xS w h a p ss rr) :=
 ⟨k.box,k.wk,by rw[wW];exact k.land,by rw[HZ];exact k.seen,by rw[B4];exact k.rows,trivial⟩
theorem Mr{M:List Int}{rr:List (List Int)}(t:ej w h a p ss)(hM:InS ss.length M)(hl:M.length<=1000){D b r i j q:Nat}(hD:H[D]?=some (.cells true 1 (M.flatMap ai)))(k:Au H D w h a p ss rr b r i j q) :
  ad prog 256 [slQ D 2 M.length,.int .i64 0,.int .i64 (M.length:Int),.func (.func 166) #[] #[.pointer (some ⟨b,0,none⟩)]] H [D] (Is (.tuple #[]) (H.set D (.cells true 1 ((isr (kyI ss) M M.length).flatMap ai)))) :=
 GT (css:=xS w h a p ss rr) (Eq.mpr (LR M w h a p ss rr) (Ld t hM hl)) (am _ _) (am _ _) hD (ids:=[b,r,i,j,q]) k.ins k.ne rfl
theorem I6{M:List Int}{rr:List (List Int)}(t:ej w h a p ss)(hM:InS ss.length M)(hl:M.length<=19):yh M w h a p ss rr:=by
 delta yh kk0 kk7 kkj kkt kks kk3 kke kkc kkm kk9 kka kkl kk6 kkk kkg kkn kk1 kkr kku
 refine ⟨rfl,rfl,?_,fun _=>rfl,fun x hx=>⟨fun c=>(by have:=av c;omega),fun c=>⟨⟨rfl,rfl,rfl,rfl,rfl,rfl,trivial⟩,fun H' _ g =>?_,rfl,rfl,?_,fun _=>rfl,fun y hy=>⟨fun d=>(by have:=av d;omega),fun d =>?_⟩⟩⟩⟩
 ·repeat' first|exact am _ _|exact rfl|exact aa _|exact ac|apply And.intro|(exact iEq (by omega))
 ·subst hx
  exact Mr (b:=1) (r:=2) (i:=3) (j:=4) (q:=5) t hM (by omega) g.1 ⟨by decide,⟨_,_,g.2.1⟩,⟨_,_,g.2.2.1⟩,⟨_,_,g.2.2.2.1⟩,⟨_,_,g.2.2.2.2.1⟩,⟨_,_,g.2.2.2.2.2.1⟩⟩
 ·repeat' first|exact am _ _|exact rfl|exact aa _|exact ac|apply And.intro|(exact iEq (by omega))
 ·repeat' first|exact am _ _|exact rfl|exact aa _|exact ac|apply And.intro|(exact iEq (by omega))
theorem K3{M:List Int}{rr:List (List Int)}(t:ej w h a p ss)(hM:InS ss.length M)(hl:M.length<=19){D b r i j q:Nat}(hD:H[D]?=some (.cells true 1 (M.flatMap ai)))(k:Au H D w h a p ss rr b r i j q) :
  ad prog 226 [slQ D 2 M.length,.int .i64 (M.length:Int),.func (.func 166) #[] #[.pointer (some ⟨b,0,none⟩)]] H [D] (Is (.tuple #[]) (H.set D (.cells true 1 ((isr (kyI ss) M M.length).flatMap ai)))) :=
 GT (css:=xS w h a p ss rr) (Eq.mpr (J2 M w h a p ss rr) (I6 t hM hl)) (am _ _) (am _ _) hD (ids:=[b,r,i,j,q]) k.ins k.ne rfl
abbrev kmb(k:Nat):Int:=(k:Nat)
abbrev kmi(ss:List (Int×Int))(k:Nat):=ss.getD k ae
abbrev kmr(i:Nat):Int:=(i:Nat)
abbrev kmw(ss:List (Int×Int))(k:Nat):=Int.toNat (kmi ss k).2
abbrev kmx(ss:List (Int×Int))(i:Nat):=ss.getD i ae
def ED(sp:Value)(w h:Int)(a:List Bool)(p:Int)(ss:List (Int×Int))(rr:List (List Int))(i k:Nat):Prop :=
 (((0:Int)<=(kmb k)/\((kmb k):Int)<((ss.length:Nat):Int))/\((ss.flatMap spC)[((0+Int.toNat (kmb k)*2)+1)]?=some (nI (kmi ss k).2))/\((0:Int)<=(kmb k)/\((kmb k):Int)<((ss.length:Nat):Int))/\((ss.flatMap spC)[((0+Int.toNat (kmb k)*2)+0)]?=some (nI (kmi ss k).1))/\((0:Int)<=(kmr i)/\((kmr i):Int)<((rr.length:Nat):Int))/\((inL rr)[(0+Int.toNat (kmr i)*1)]?=some (.iface ((rr.getD i []).length+1) (.agg ⟨((rr.getD i []).flatMap ai)⟩)))/\((0:Int)<=(kmi ss k).2/\((kmi ss k).2:Int)<(((rr.getD i []).length:Nat):Int))/\(((rr.getD i []).flatMap ai)[(Int.toNat (kmi ss k).2*1)]?=some (nI ((rr.getD i []).getD (kmw ss k) 0)))/\((decide ((((rr.getD i []).getD (kmw ss k) 0):Int)<1073741824))=true->((nI (IntKind.wrap .i64 (((rr.getD i []).getD (kmw ss k) 0)*p)):Value)=nI (((rr.getD i []).getD (kmw ss k) 0)*p)/\((0:Int)<=(kmr i)/\((kmr i):Int)<((ss.length:Nat):Int))/\((ss.flatMap spC)[((0+Int.toNat (kmr i)*2)+0)]?=some (nI (kmx ss i).1))/\(nI (IntKind.wrap .i64 ((kmi ss k).1-(kmx ss i).1)):Value)=nI ((kmi ss k).1-(kmx ss i).1)/\((0:Int)<=(kmr i)/\((kmr i):Int)<((ss.length:Nat):Int))/\((ss.flatMap spC)[((0+Int.toNat (kmr i)*2)+0)]?=some (nI (kmx ss i).1))/\(nI (IntKind.wrap .i64 ((kmx ss i).1-(kmi ss k).1)):Value)=nI ((kmx ss i).1-(kmi ss k).1)/\(.bool (decide (((((rr.getD i []).getD (kmw ss k) 0)*p):Int)<=(if (((kmx ss i).1-(kmi ss k).1):Int) > ((kmi ss k).1-(kmx ss i).1) then (((kmx ss i).1-(kmi ss k).1):Int) else ((kmi ss k).1-(kmx ss i).1)))):Value)=sp))/\((decide ((((rr.getD i []).getD (kmw ss k) 0):Int)<1073741824))=false->(.bool false:Value)=sp))
theorem L6(sp:Value)(w h:Int)(a:List Bool)(p:Int)(ss:List (Int×Int))(rr:List (List Int))(i k:Nat):vF prog msk (dm 0) 100000 true 40 true 87 [.pointer (some ⟨0,0,none⟩),nI (kmr i),nI (kmb k)] (bA 0 (ctxA w h a p ss rr)) (some [])
 (.go 8 (.need (.go 0 (.val (nI (kmi ss k).2) (.go 5 (.need (.go 0 (.val (nI (kmi ss k).1) (.go 13 (.need (.val (.iface ((rr.getD i []).length+1) (.agg ⟨((rr.getD i []).flatMap ai)⟩)) (.go 0 (.need (.val (nI ((rr.getD i []).getD (kmw ss k) 0)) (.go 4 (.aT (.go 6 (.slot 25 (nI (((rr.getD i []).getD (kmw ss k) 0)*p)) (.go 6 (.need (.go 0 (.val (nI (kmx ss i).1) (.go 0 (.slot 36 (nI ((kmi ss k).1-(kmx ss i).1)) (.go 5 (.need (.go 0 (.val (nI (kmx ss i).1) (.go 1 (.slot 47 (nI ((kmx ss i).1-(kmi ss k).1)) (.auto))))))))))))))) (.auto)))))))))))))))))
 (fun v _ _=>v=sp)=ED sp w h a p ss rr i k:=by kernel_rfl
abbrev km0:Value:=.func (.func 86) #[] #[.pointer (some ⟨1,0,none⟩),.pointer (some ⟨2,0,none⟩)]
abbrev kme(k:Nat):Prop:=(nI (kmb k):Value)=nI (kmb k)/\True
abbrev kmk(k:Nat):Prop:=km0 = .func (.func 86) #[] #[.pointer (some ⟨1,0,none⟩),.pointer (some ⟨2,0,none⟩)]/\wkR (slQ 0 2 k)/\kme k
abbrev kmg:Prop:=(True)/\(True)
abbrev kmv:Prop:=(True)/\kmg
abbrev kmy:Prop:=∀J:Nat,true=true
abbrev kmj(J k:Nat):=decide (((J:Int):Int)<(kmb k))
abbrev km4(qn0 qn1:Nat):Prop:=(0:Int)<=(qn0:Int)/\((qn0:Int):Int)<((qn1:Nat):Int)
abbrev km6(qd0:List Int)(qn0:Nat):Prop:=(qd0.flatMap ai)[(0+Int.toNat (qn0:Int)*1)]?=some (nI (qd0.getD qn0 0))
abbrev kmf(w h:Int)(a:List Bool)(p:Int)(ss:List (Int×Int))(rr:List (List Int)):List Value:=[nI w,nI h,slQ 4 2 a.length,nI p,slQ 5 2 ss.length,slQ 6 1 rr.length]
abbrev kmt(w h:Int)(a:List Bool)(p:Int)(ss:List (Int×Int))(rr:List (List Int)):Prop:=(ar (.cells false 0 (kmf w h a p ss rr)))/\(ar (.cells false 0 (a.flatMap af)))/\(ar (.cells false 0 (ss.flatMap spC)))/\(ar (.cells false 0 (inL rr)))/\True
abbrev kmm(H':Heap)(w h:Int)(a:List Bool)(p:Int)(ss:List (Int×Int))(rr:List (List Int)):Prop:=H'[3]?=some (.cells false 0 (kmf w h a p ss rr):ab)/\H'[4]?=some (.cells false 0 (a.flatMap af):ab)/\H'[5]?=some (.cells false 0 (ss.flatMap spC):ab)/\H'[6]?=some (.cells false 0 (inL rr):ab)/\True
abbrev kmd(k:Nat)(p:Int)(ss:List (Int×Int))(rr:List (List Int))(i1_:Int)(M:List Int):Prop:=true=true/\wk (slQ 0 2 k:Value) (rn (sg 7 []) 3 (slQ 0 2 (aN (agI p ss rr i1_) M k).length:Value))/\((some (.cells true 1 (M.flatMap ai):ab)=some (.cells true 1 ((fA (agI p ss rr i1_) M k).flatMap ai):ab)/\aj 7 (.cells true 1 ((fA (agI p ss rr i1_) M k).flatMap ai):ab)=true)/\True)/\(True)
abbrev kmh(J:Nat):Value:=nI (IntKind.wrap .i64 ((J:Int)+1))
abbrev kms(J:Nat):Value:=nI ((J:Int)+1)
abbrev kma(k:Nat):Prop:=km0 = .func (.func 86) #[] #[.pointer (some ⟨1,0,none⟩),.pointer (some ⟨2,0,none⟩)]/\wkR (slQ 0 2 k)/\(.slice none 0 0:Value) = .slice none 0 0/\True
abbrev kmu(U k:Nat):=decide (((U:Int):Int)<(kmb k))
abbrev km8(p:Int)(ss:List (Int×Int))(rr:List (List Int))(i1_:Int)(M:List Int)(U:Nat):Int:=((aN (agI p ss rr i1_) M U).length:Nat)
abbrev kml(U:Nat):Value:=nI (IntKind.wrap .i64 ((U:Int)+1))
abbrev kmn:Prop:=true=false∨1=0∨1=1
def Ex(M:List Int)(k:Nat)(w h:Int)(a:List Bool)(p:Int)(ss:List (Int×Int))(rr:List (List Int))(i1_:Int):Prop :=
 (true=true/\(0<=k/\(M.take 0).all (agI p ss rr i1_)=true)/\(true=true/\((nI 0:Value)=nI ((0:Nat):Int)/\kmk k)/\kmv)/\kmy/\∀J:Nat,(J<=k/\(M.take J).all (agI p ss rr i1_)=true)->(((kmj J k)=true->((km4 J k)/\(km6 M J)/\(kmt w h a p ss rr)/\(∀H':Heap,H'.length=7->(kmm H' w h a p ss rr)->ad prog 87 [.pointer (some ⟨3,0,none⟩),nI i1_,nI (M.getD J 0)] H' [] (Is (.bool (agI p ss rr i1_ (M.getD J 0))) H'))/\((!(agI p ss rr i1_ (M.getD J 0)))=true->(((((J:Int):Int) == (-1))=true->(kmd k p ss rr i1_ M))/\((((J:Int):Int) == (-1))=false->((kmh J)=nI ((J:Int)+1)/\(true=true/\((J+1)<=k/\(aN (agI p ss rr i1_) M (J+1)).length<(J+1))/\(true=true/\((kms J)=nI (((J+1):Nat):Int)/\(nI (J:Int):Value)=nI (((aN (agI p ss rr i1_) M (J+1)).length:Nat):Int)/\kma k)/\((some (.cells true 1 (M.flatMap ai):ab)=some (.cells true 1 ((cb (agI p ss rr i1_) M (J+1)).flatMap ai):ab)/\aj 7 (.cells true 1 ((cb (agI p ss rr i1_) M (J+1)).flatMap ai):ab)=true)/\True)/\kmg)/\(∀U:Nat,true=true)/\∀U:Nat,(U<=k/\(aN (agI p ss rr i1_) M U).length<U)->(((kmu U k)=true->((km4 U k)/\(((cb (agI p ss rr i1_) M U).flatMap ai)[(0+Int.toNat (U:Int)*1)]?=some (nI ((cb (agI p ss rr i1_) M U).getD U 0)))/\(kmt w h a p ss rr)/\(∀H':Heap,H'.length=7->(kmm H' w h a p ss rr)->ad prog 87 [.pointer (some ⟨3,0,none⟩),nI i1_,nI ((cb (agI p ss rr i1_) M U).getD U 0)] H' [] (Is (.bool (agI p ss rr i1_ ((cb (agI p ss rr i1_) M U).getD U 0))) H'))/\((!(!(agI p ss rr i1_ ((cb (agI p ss rr i1_) M U).getD U 0))))=true->(((0:Int)<=(km8 p ss rr i1_ M U)/\((km8 p ss rr i1_ M U):Int)<(kmb k))/\((0+Int.toNat (km8 p ss rr i1_ M U)*1)+1<=List.length ((cb (agI p ss rr i1_) M U).flatMap ai))/\true=true/\(nI (IntKind.wrap .i64 ((km8 p ss rr i1_ M U)+1)):Value)=nI ((km8 p ss rr i1_ M U)+1)/\((kml U)=nI ((U:Int)+1)/\∃ax:Nat,(ax<=k/\(aN (agI p ss rr i1_) M ax).length<ax)/\(k-ax)<(k-U)/\true=true/\((nI ((U:Int)+1):Value)=nI (ax:Int)/\(nI ((km8 p ss rr i1_ M U)+1):Value)=nI (((aN (agI p ss rr i1_) M ax).length:Nat):Int)/\kma k)/\((some (.cells true 1 (bE ((cb (agI p ss rr i1_) M U).flatMap ai) (0+Int.toNat (km8 p ss rr i1_ M U)*1) [nI ((cb (agI p ss rr i1_) M U).getD U 0)]):ab)=some (.cells true 1 ((cb (agI p ss rr i1_) M ax).flatMap ai):ab)/\aj 7 (.cells true 1 ((cb (agI p ss rr i1_) M ax).flatMap ai):ab)=true)/\True)/\kmg)))/\((!(!(agI p ss rr i1_ ((cb (agI p ss rr i1_) M U).getD U 0))))=false->((kml U)=nI ((U:Int)+1)/\∃ax:Nat,(ax<=k/\(aN (agI p ss rr i1_) M ax).length<ax)/\(k-ax)<(k-U)/\true=true/\((nI ((U:Int)+1):Value)=nI (ax:Int)/\(nI (km8 p ss rr i1_ M U):Value)=nI (((aN (agI p ss rr i1_) M ax).length:Nat):Int)/\kma k)/\((some (.cells true 1 ((cb (agI p ss rr i1_) M U).flatMap ai):ab)=some (.cells true 1 ((cb (agI p ss rr i1_) M ax).flatMap ai):ab)/\aj 7 (.cells true 1 ((cb (agI p ss rr i1_) M ax).flatMap ai):ab)=true)/\True)/\kmg))))/\((kmu U k)=false->(((kmn/\k<=k)/\(k<=k)/\(0:Int)<=(km8 p ss rr i1_ M U)/\((km8 p ss rr i1_ M U):Int)<=(kmb k))/\(.slice (some ⟨0,(0+(km8 p ss rr i1_ M U).toNat*1),some 2⟩) (k-(km8 p ss rr i1_ M U).toNat) (k-(km8 p ss rr i1_ M U).toNat):Value) = .slice (some ⟨0,(0+(km8 p ss rr i1_ M U).toNat*1),some 2⟩) (k-(aN (agI p ss rr i1_) M U).length) (k-(aN (agI p ss rr i1_) M U).length)/\((0+(km8 p ss rr i1_ M U).toNat*1)+(k-(aN (agI p ss rr i1_) M U).length)*1<=List.length ((cb (agI p ss rr i1_) M U).flatMap ai))/\true=true/\((kmn/\(km8 p ss rr i1_ M U).toNat<=k)/\((0:Int)<=(km8 p ss rr i1_ M U)/\((km8 p ss rr i1_ M U):Int)<=(kmb k))/\0<=(km8 p ss rr i1_ M U).toNat)/\(slQ 0 2 ((km8 p ss rr i1_ M U).toNat-0):Value)=slQ 0 2 (aN (agI p ss rr i1_) M U).length/\true=true/\wk (slQ 0 2 (aN (agI p ss rr i1_) M U).length:Value) (rn (sg 7 []) 3 (slQ 0 2 (aN (agI p ss rr i1_) M k).length:Value))/\((some (.cells true 1 (bE ((cb (agI p ss rr i1_) M U).flatMap ai) (0+(km8 p ss rr i1_ M U).toNat*1) (dX [nI 0] (k-(aN (agI p ss rr i1_) M U).length))):ab)=some (.cells true 1 ((fA (agI p ss rr i1_) M k).flatMap ai):ab)/\aj 7 (.cells true 1 ((fA (agI p ss rr i1_) M k).flatMap ai):ab)=true)/\True)/\True))))))))/\((!(agI p ss rr i1_ (M.getD J 0)))=false->((kmh J)=nI ((J:Int)+1)/\∃aD:Nat,(aD<=k/\(M.take aD).all (agI p ss rr i1_)=true)/\(k-aD)<(k-J)/\true=true/\((kms J)=nI (aD:Int)/\kmk k)/\kmv))))/\((kmj J k)=false->(kmd k p ss rr i1_ M))))
abbrev kmp:Hint:=.keep (.again [])
abbrev km3(qn0 qn1 qn2:Nat):Hint:=.go qn0 (.slot qn1 (nI ((qn2:Int)+1)) (.go 0 (.again [])))
theorem LX(M:List Int)(k:Nat)(w h:Int)(a:List Bool)(p:Int)(ss:List (Int×Int))(rr:List (List Int))(i1_:Int):vF prog msk (dm 0) 100000 true 40 true 84 [slQ 0 2 k,.func (.func 86) #[] #[.pointer (some ⟨1,0,none⟩),.pointer (some ⟨2,0,none⟩)]] (dq 0 1 (M.flatMap ai) (JH w h a p ss rr i1_)) (some [0])
 (.go 7 (.inv 3 (Nat) (0) [] [] (fun J=>[(8,nI (J:Int)),(1,.func (.func 86) #[] #[.pointer (some ⟨1,0,none⟩),.pointer (some ⟨2,0,none⟩)]),(0,slQ 0 2 k),(7,nI (kmb k))]) (fun J=>[]) (fun J=>[]) (fun J=>[]) (fun J=>(J<=k/\(M.take J).all (agI p ss rr i1_)=true)) (fun J=>(k-J)) (fun J => .go 0 (.fork (.go 4 (.need (.val (nI (M.getD J 0)) (.go 4 (.ans [(3,.cells false 0 (kmf w h a p ss rr)),(4,.cells false 0 (a.flatMap af)),(5,.cells false 0 (ss.flatMap spC)),(6,.cells false 0 (inL rr))] (.bool (agI p ss rr i1_ (M.getD J 0))) [] (.go 1 (.fork (.go 4 (.fork (.go 1 kmp) (.go 1 (.slot 15 (nI ((J:Int)+1)) (.go 0 (.inv 3 (Nat) ((J+1)) [] [0] (fun U=>[(6,nI (U:Int)),(5,nI (km8 p ss rr i1_ M U)),(1,.func (.func 86) #[] #[.pointer (some ⟨1,0,none⟩),.pointer (some ⟨2,0,none⟩)]),(0,slQ 0 2 k),(4,.slice none 0 0)]) (fun U=>[(0,true,.cells true 1 ((cb (agI p ss rr i1_) M U).flatMap ai))]) (fun U=>[]) (fun U=>[]) (fun U=>(U<=k/\(aN (agI p ss rr i1_) M U).length<U)) (fun U=>(k-U)) (fun U => .go 3 (.fork (.go 1 (.need (.val (nI ((cb (agI p ss rr i1_) M U).getD U 0)) (.go 7 (.ans [(3,.cells false 0 (kmf w h a p ss rr)),(4,.cells false 0 (a.flatMap af)),(5,.cells false 0 (ss.flatMap spC)),(6,.cells false 0 (inL rr))] (.bool (agI p ss rr i1_ ((cb (agI p ss rr i1_) M U).getD U 0))) [] (.go 2 (.fork (.go 2 (.need (.need (.go 1 (.slot 35 (nI ((km8 p ss rr i1_ M U)+1)) (km3 2 21 U)))))) (km3 1 21 U)))))))) (.go 1 (.need (.slot 38 (.slice (some ⟨0,(0+(km8 p ss rr i1_ M U).toNat*1),some 2⟩) (k-(aN (agI p ss rr i1_) M U).length) (k-(aN (agI p ss rr i1_) M U).length)) (.need (.go 1 (.need (.slot 41 (slQ 0 2 (aN (agI p ss rr i1_) M U).length) (.go 0 kmp)))))))))))))))) (km3 0 18 J)))))))) (.go 6 kmp)))))
 (lW ((dq 0 1 (M.flatMap ai) (JH w h a p ss rr i1_)):HT).n 3 0 (.cells true 1 ((fA (agI p ss rr i1_) M k).flatMap ai)) (slQ 0 2 (aN (agI p ss rr i1_) M k).length) [])=Ex M k w h a p ss rr i1_:=by kernel_rfl
abbrev km2:Value:=.func (.func 89) #[] #[.pointer (some ⟨1,0,none⟩)]
abbrev kmq(k:Nat):Prop:=km2 = .func (.func 89) #[] #[.pointer (some ⟨1,0,none⟩)]/\wkR (slQ 0 2 k)/\kme k
abbrev km1(qn0:Nat)(qi0:Int)(qd0:List Int):Prop:=true=true/\wk (slQ 0 2 qn0:Value) (rn (sg 2 []) 3 (slQ 0 2 (aN (qNe qi0) qd0 qn0).length:Value))/\((some (.cells true 1 (qd0.flatMap ai):ab)=some (.cells true 1 ((fA (qNe qi0) qd0 qn0).flatMap ai):ab)/\aj 2 (.cells true 1 ((fA (qNe qi0) qd0 qn0).flatMap ai):ab)=true)/\True)/\(True)
abbrev kmc(k:Nat):Prop:=km2 = .func (.func 89) #[] #[.pointer (some ⟨1,0,none⟩)]/\wkR (slQ 0 2 k)/\(.slice none 0 0:Value) = .slice none 0 0/\True
abbrev km9(i1_:Int)(M:List Int)(U:Nat):Int:=((aN (qNe i1_) M U).length:Nat)
abbrev km5(qi0:Int)(qd0:List Int)(qn0:Nat):ab:=.cells true 1 ((cb (qNe qi0) qd0 qn0).flatMap ai)
abbrev km7(qi0:Int)(qd0:List Int)(qn0 qn1:Nat):Prop:=(0:Int)<=(((aN (qNe qi0) qd0 qn0).length:Nat):Int)/\((((aN (qNe qi0) qd0 qn0).length:Nat):Int):Int)<=((qn1:Nat):Int)
def Ew(M:List Int)(k:Nat)(i1_:Int):Prop :=
 (true=true/\(0<=k/\(M.take 0).all (qNe i1_)=true)/\(true=true/\((nI 0:Value)=nI ((0:Nat):Int)/\kmq k)/\kmv)/\kmy/\∀J:Nat,(J<=k/\(M.take J).all (qNe i1_)=true)->(((kmj J k)=true->((km4 J k)/\(km6 M J)/\((((M.getD J 0):Int) == i1_)=true->(((((J:Int):Int) == (-1))=true->(km1 k i1_ M))/\((((J:Int):Int) == (-1))=false->((kmh J)=nI ((J:Int)+1)/\(true=true/\((J+1)<=k/\(aN (qNe i1_) M (J+1)).length<(J+1))/\(true=true/\((kms J)=nI (((J+1):Nat):Int)/\(nI (J:Int):Value)=nI (((aN (qNe i1_) M (J+1)).length:Nat):Int)/\kmc k)/\((some (.cells true 1 (M.flatMap ai):ab)=some (.cells true 1 ((cb (qNe i1_) M (J+1)).flatMap ai):ab)/\aj 2 (.cells true 1 ((cb (qNe i1_) M (J+1)).flatMap ai):ab)=true)/\True)/\kmg)/\(∀U:Nat,true=true)/\∀U:Nat,(U<=k/\(aN (qNe i1_) M U).length<U)->(((kmu U k)=true->((km4 U k)/\(((cb (qNe i1_) M U).flatMap ai)[(0+Int.toNat (U:Int)*1)]?=some (nI ((cb (qNe i1_) M U).getD U 0)))/\((!((((cb (qNe i1_) M U).getD U 0):Int) == i1_))=true->(((0:Int)<=(km9 i1_ M U)/\((km9 i1_ M U):Int)<(kmb k))/\((0+Int.toNat (km9 i1_ M U)*1)+1<=List.length ((cb (qNe i1_) M U).flatMap ai))/\true=true/\(nI (IntKind.wrap .i64 ((km9 i1_ M U)+1)):Value)=nI ((km9 i1_ M U)+1)/\((kml U)=nI ((U:Int)+1)/\∃ax:Nat,(ax<=k/\(aN (qNe i1_) M ax).length<ax)/\(k-ax)<(k-U)/\true=true/\((nI ((U:Int)+1):Value)=nI (ax:Int)/\(nI ((km9 i1_ M U)+1):Value)=nI (((aN (qNe i1_) M ax).length:Nat):Int)/\kmc k)/\((some (.cells true 1 (bE ((cb (qNe i1_) M U).flatMap ai) (0+Int.toNat (km9 i1_ M U)*1) [nI ((cb (qNe i1_) M U).getD U 0)]):ab)=some (km5 i1_ M ax)/\aj 2 (km5 i1_ M ax)=true)/\True)/\kmg)))/\((!((((cb (qNe i1_) M U).getD U 0):Int) == i1_))=false->((kml U)=nI ((U:Int)+1)/\∃ax:Nat,(ax<=k/\(aN (qNe i1_) M ax).length<ax)/\(k-ax)<(k-U)/\true=true/\((nI ((U:Int)+1):Value)=nI (ax:Int)/\(nI (km9 i1_ M U):Value)=nI (((aN (qNe i1_) M ax).length:Nat):Int)/\kmc k)/\((some (km5 i1_ M U)=some (km5 i1_ M ax)/\aj 2 (km5 i1_ M ax)=true)/\True)/\kmg))))/\((kmu U k)=false->(((kmn/\k<=k)/\(k<=k)/\km7 i1_ M U k)/\(.slice (some ⟨0,(0+(km9 i1_ M U).toNat*1),some 2⟩) (k-(km9 i1_ M U).toNat) (k-(km9 i1_ M U).toNat):Value) = .slice (some ⟨0,(0+(km9 i1_ M U).toNat*1),some 2⟩) (k-(aN (qNe i1_) M U).length) (k-(aN (qNe i1_) M U).length)/\((0+(km9 i1_ M U).toNat*1)+(k-(aN (qNe i1_) M U).length)*1<=List.length ((cb (qNe i1_) M U).flatMap ai))/\true=true/\((kmn/\(km9 i1_ M U).toNat<=k)/\(km7 i1_ M U k)/\0<=(km9 i1_ M U).toNat)/\(slQ 0 2 ((km9 i1_ M U).toNat-0):Value)=slQ 0 2 (aN (qNe i1_) M U).length/\true=true/\wk (slQ 0 2 (aN (qNe i1_) M U).length:Value) (rn (sg 2 []) 3 (slQ 0 2 (aN (qNe i1_) M k).length:Value))/\((some (.cells true 1 (bE ((cb (qNe i1_) M U).flatMap ai) (0+(km9 i1_ M U).toNat*1) (dX [nI 0] (k-(aN (qNe i1_) M U).length))):ab)=some (.cells true 1 ((fA (qNe i1_) M k).flatMap ai):ab)/\aj 2 (.cells true 1 ((fA (qNe i1_) M k).flatMap ai):ab)=true)/\True)/\True))))))))/\((((M.getD J 0):Int) == i1_)=false->((kmh J)=nI ((J:Int)+1)/\∃aD:Nat,(aD<=k/\(M.take aD).all (qNe i1_)=true)/\(k-aD)<(k-J)/\true=true/\((kms J)=nI (aD:Int)/\kmq k)/\kmv))))/\((kmj J k)=false->(km1 k i1_ M))))
theorem LW(M:List Int)(k:Nat)(i1_:Int):vF prog msk (dm 0) 100000 true 40 true 84 [slQ 0 2 k,.func (.func 89) #[] #[.pointer (some ⟨1,0,none⟩)]] (dq 0 1 (M.flatMap ai) [[nI i1_]]) (some [0])
 (.go 7 (.inv 3 (Nat) (0) [] [] (fun J=>[(8,nI (J:Int)),(1,.func (.func 89) #[] #[.pointer (some ⟨1,0,none⟩)]),(0,slQ 0 2 k),(7,nI (kmb k))]) (fun J=>[]) (fun J=>[]) (fun J=>[]) (fun J=>(J<=k/\(M.take J).all (qNe i1_)=true)) (fun J=>(k-J)) (fun J => .go 0 (.fork (.go 4 (.need (.val (nI (M.getD J 0)) (.go 5 (.fork (.go 4 (.fork (.go 1 kmp) (.go 1 (.slot 15 (nI ((J:Int)+1)) (.go 0 (.inv 3 (Nat) ((J+1)) [] [0] (fun U=>[(6,nI (U:Int)),(5,nI (km9 i1_ M U)),(1,.func (.func 89) #[] #[.pointer (some ⟨1,0,none⟩)]),(0,slQ 0 2 k),(4,.slice none 0 0)]) (fun U=>[(0,true,.cells true 1 ((cb (qNe i1_) M U).flatMap ai))]) (fun U=>[]) (fun U=>[]) (fun U=>(U<=k/\(aN (qNe i1_) M U).length<U)) (fun U=>(k-U)) (fun U => .go 3 (.fork (.go 1 (.need (.val (nI ((cb (qNe i1_) M U).getD U 0)) (.go 9 (.fork (.go 2 (.need (.need (.go 1 (.slot 35 (nI ((km9 i1_ M U)+1)) (km3 2 21 U)))))) (km3 1 21 U)))))) (.go 1 (.need (.slot 38 (.slice (some ⟨0,(0+(km9 i1_ M U).toNat*1),some 2⟩) (k-(aN (qNe i1_) M U).length) (k-(aN (qNe i1_) M U).length)) (.need (.go 1 (.need (.slot 41 (slQ 0 2 (aN (qNe i1_) M U).length) (.go 0 kmp)))))))))))))))) (km3 0 18 J)))))) (.go 6 kmp)))))
 (lW ((dq 0 1 (M.flatMap ai) [[nI i1_]]):HT).n 3 0 (.cells true 1 ((fA (qNe i1_) M k).flatMap ai)) (slQ 0 2 (aN (qNe i1_) M k).length) [])=Ew M k i1_:=by kernel_rfl
abbrev kmo(i1_:Int)(k:Nat):Prop:=(nI i1_:Value)=nI i1_/\(.slice (some ⟨0,0,none⟩) k k:Value) = .slice (some ⟨0,0,none⟩) k k/\kme k
def Ey(sp:Value)(M:List Int)(k:Nat)(i1_:Int):Prop :=
 (true=true/\(0<=k/\(M.take 0).any (fun v=>v == i1_)=false)/\(true=true/\((nI 0:Value)=nI ((0:Nat):Int)/\kmo i1_ k)/\kmv)/\kmy/\∀J:Nat,(J<=k/\(M.take J).any (fun v=>v == i1_)=false)->(((kmj J k)=true->((km4 J k)/\(km6 M J)/\(((i1_:Int) == (M.getD J 0))=true->(.bool (decide ((0:Int)<=(J:Int))):Value)=sp)/\(((i1_:Int) == (M.getD J 0))=false->((kmh J)=nI ((J:Int)+1)/\∃aD:Nat,(aD<=k/\(M.take aD).any (fun v=>v == i1_)=false)/\(k-aD)<(k-J)/\true=true/\((kms J)=nI (aD:Int)/\kmo i1_ k)/\kmv))))/\((kmj J k)=false->(.bool false:Value)=sp)))
theorem LY(sp:Value)(M:List Int)(k:Nat)(i1_:Int):vF prog msk (dm 0) 100000 true 40 true 88 [.slice (some ⟨0,0,none⟩) k k,nI i1_] (bA 0 [M.flatMap ai]) (some [])
 (.go 7 (.inv 3 (Nat) (0) [] [] (fun J=>[(8,nI (J:Int)),(1,nI i1_),(0,.slice (some ⟨0,0,none⟩) k k),(7,nI (kmb k))]) (fun J=>[]) (fun J=>[]) (fun J=>[]) (fun J=>(J<=k/\(M.take J).any (fun v=>v == i1_)=false)) (fun J=>(k-J)) (fun J => .go 0 (.fork (.go 4 (.need (.val (nI (M.getD J 0)) (.go 0 (.fork (.auto) (km3 0 18 J)))))) (.auto)))))
 (fun v _ _=>v=sp)=Ey sp M k i1_:=by kernel_rfl
theorem Hw{q:Int->Bool}{M:List Int}{x:Nat}(hx:x<M.length)(h:(M.take x).all q=true)(h2:q (M.getD x 0)=true):(M.take (x+1)).all q=true:=by
 rw[km (d:=0) hx,List.all_append,h,List.all_cons,h2];rfl
theorem Hx(q:Int->Bool)(M:List Int):(M.take 0).all q=true:=by rw[List.take_zero];rfl
theorem G2{i v:Int}(h:(v == i)=false):qNe i v=true:=by unfold qNe;rw[decide_eq_false (beq_eq_false_iff_ne.1 h)];rfl
theorem G3{i v:Int}(h:(v == i)=true):qNe i v=false:=by unfold qNe;rw[decide_eq_true (eq_of_beq h)];rfl
theorem nn1(x:Nat):((((x:Nat):Int) == (-1)):Bool)=false:=beq_eq_false_iff_ne.2 (by omega)
theorem Jc{rr:List (List Int)}(t:ej w h a p ss)(rk:dZ a ss rr){i k:Nat}(hi:i<ss.length)(hk:k<ss.length):ED (.bool (jH p ss rr i k)) w h a p ss rr i k:=by
 have hl:=rk.len
 obtain ⟨r1,r2⟩:=rk.row i hi
 have hkb:=t.bd hk
 have hb:=r2 (Int.toNat (ss.getD k ae).2) (by omega)
 have hs:=t.bd hi
 have hp:=t.tn
 delta ED kmb kmi kmr kmw kmx
 refine ⟨⟨by omega,by omega⟩,m7 hk (by omega),⟨by omega,by omega⟩,fI hk (by omega),⟨by omega,by omega⟩,pU (by omega) (by omega),⟨hkb.2.1,by rw[r1];exact hkb.2.2⟩,cL (by omega) (by omega),fun q =>?_,fun q =>?_⟩
 ·have h1:=av q
  unfold jH fG
  obtain ⟨e,he⟩:∃e,(rr.getD i []).getD (Int.toNat (ss.getD k ae).2) 0=e:=⟨_,rfl⟩
  rw[he]at h1 hb ⊢
  have hep:0<=e*p/\e*p<=1073741824*1000:=⟨Int.mul_nonneg hb.1 (by omega),Int.mul_le_mul (by omega) hp.2 (by omega) (by omega)⟩
  refine ⟨aG (by omega),⟨by omega,by omega⟩,fI hi (by omega),aG (by omega),⟨by omega,by omega⟩,fI hi (by omega),aG (by omega),?_⟩
  rw[decide_eq_true (show e<bb from h1),Bool.true_and];rfl
 ·have h1:=aA q
  unfold jH fG
  rw[decide_eq_false (show ¬ _<bb from h1)];rfl
theorem FO{rr:List (List Int)}(t:ej w h a p ss)(rk:dZ a ss rr){x y:Int}(hx:0<=x/\x<(ss.length:Int))(hy:0<=y/\y<(ss.length:Int)){H:Heap}{r j l q:Nat}
  (h3:∃o z,H[r]?=some (.cells o z (iF w h a p ss rr j l q))) (h4:∃o z,H[j]?=some (.cells o z (a.flatMap af))) (h5:∃o z,H[l]?=some (.cells o z (ss.flatMap spC))) (h6:∃o z,H[q]?=some (.cells o z (inL rr))) :
  ad prog 87 [.pointer (some ⟨r,0,none⟩),.int .i64 x,.int .i64 y] H [] (Is (.bool (agI p ss rr x y)) H):=by
 have key:=sT (Eq.mpr (L6 (.bool (jH p ss rr (Int.toNat x) (Int.toNat y))) w h a p ss rr (Int.toNat x) (Int.toNat y)) (Jc t rk (by omega) (by omega))) rfl (H:=H) (ids:=[r,j,l,q]) (hi:=⟨h3,by rw[wW];exact h4,by rw[HZ];exact h5,by rw[B4];exact h6,trivial⟩) (args':=[.pointer (some ⟨r,0,none⟩),.int .i64 ((Int.toNat x:Nat):Int),.int .i64 ((Int.toNat y:Nat):Int)]) (ha:=rfl)
 rw[show ((Int.toNat x:Nat):Int)=x by omega,show ((Int.toNat y:Nat):Int)=y by omega]at key
 exact key
theorem I3{M:List Int}{k:Nat}{rr:List (List Int)}{i:Int}(hk:k<=M.length)(hM:M.length<=1000)(t:ej w h a p ss)(rk:dZ a ss rr)(hi:0<=i/\i<(ss.length:Int))(hin:∀x,x<k->0<=M.getD x 0/\M.getD x 0<(ss.length:Int)):Ex M k w h a p ss rr i:=by
 delta Ex km0 kmb kme kmk kmg kmv kmy kmj km4 km6 kmf kmt kmm kmd kmh kms kma kmu km8 kml kmn
 refine ⟨rfl,⟨Nat.zero_le _,Hx _ _⟩,?_,fun _=>rfl,?_⟩
 ·repeat' first|exact am _ _|exact aa _|exact rfl|exact aa _|exact ac|apply And.intro
 rintro x ⟨hx,ha⟩
 refine mi (fun b =>?_) (fun b =>?_)
 ·have hlt:x<M.length:=by omega
  have hvv:0<=(M.getD x 0)/\(M.getD x 0)<(ss.length:Int):=by exact hin x (by omega)
  refine ⟨⟨by omega,by omega⟩,cL (by omega) (by omega),⟨rfl,rfl,rfl,rfl,trivial⟩,fun H' _ g=>FO t rk hi hvv ⟨_,_,g.1⟩ ⟨_,_,g.2.1⟩ ⟨_,_,g.2.2.1⟩ ⟨_,_,g.2.2.2.1⟩,⟨fun d =>?_,fun d =>?_⟩⟩
  ·have hq:(agI p ss rr i) (M.getD x 0)=false:=ff d
   have mf:=oX (q:=(agI p ss rr i)) hlt ha hq
   refine ⟨fun e=>absurd e (by rw[nn1];decide),fun _=>⟨aG (by omega),rfl,⟨by omega,by rw[mf.2];omega⟩,?_,fun _=>rfl,?_⟩⟩
   ·rw[mf.1,mf.2]
    repeat' first|exact am _ _|exact aa _|exact rfl|exact aa _|exact ac|apply And.intro
   rintro y ⟨hy,hc⟩
   have hml:=vu (q:=(agI p ss rr i)) (show y<=M.length by omega)
   refine mi (fun b =>?_) (fun b =>?_)
   ·have hma:=za (q:=(agI p ss rr i)) (show y<M.length by omega)
    have hvv:0<=((cb (agI p ss rr i) M y).getD y 0)/\((cb (agI p ss rr i) M y).getD y 0)<(ss.length:Int):=by rw[hma];exact hin y (by omega)
    refine ⟨⟨by omega,by omega⟩,cL (by omega) (by omega),⟨rfl,rfl,rfl,rfl,trivial⟩,fun H' _ g=>FO t rk hi hvv ⟨_,_,g.1⟩ ⟨_,_,g.2.1⟩ ⟨_,_,g.2.2.1⟩ ⟨_,_,g.2.2.2.1⟩,⟨fun d =>?_,fun d =>?_⟩⟩
    ·have hq2:(agI p ss rr i) (M.getD y 0)=true:=by rw[<- hma];exact bK (ff d)
     have h1:=Cx (q:=(agI p ss rr i)) (show y<M.length by omega) hq2
     have h2:=tM (q:=(agI p ss rr i)) (show y<M.length by omega) hq2
     have h3:(aN (agI p ss rr i) M (y+1)).length=(aN (agI p ss rr i) M y).length+1:=by rw[h2,ao];rfl
     have h4:=fw (f:=ai) bg (cb (agI p ss rr i) M y) (aN (agI p ss rr i) M y).length (by omega) ((cb (agI p ss rr i) M y).getD y 0)
     rw[show (cb (agI p ss rr i) M y).set (aN (agI p ss rr i) M y).length ((cb (agI p ss rr i) M y).getD y 0)=cb (agI p ss rr i) M (y+1) by rw[hma,h1]]at h4
     refine ⟨⟨by omega,by omega⟩,by rw[aP bg,hml];omega,rfl,aG (by omega),aG (by omega),y+1,⟨by omega,by omega⟩,by omega,rfl,?_⟩
     rw[h3,show 0+Int.toNat (((aN (agI p ss rr i) M y).length:Nat):Int)*1=(aN (agI p ss rr i) M y).length*1 by omega]
     repeat' first|exact am _ _|exact aa _|(exact congrArg (fun l=>some (ab.cells true 1 l)) h4)|exact rfl|exact aa _|exact ac|apply And.intro
    ·have hq2:(agI p ss rr i) (M.getD y 0)=false:=by rw[<- hma];exact ff (bK d)
     have h1:=Cy (q:=(agI p ss rr i)) (show y<M.length by omega) hq2
     have h2:=oc (q:=(agI p ss rr i)) (show y<M.length by omega) hq2
     refine ⟨aG (by omega),y+1,⟨by omega,by rw[h2];omega⟩,by omega,rfl,?_⟩
     rw[h1,h2]
     repeat' first|exact am _ _|exact aa _|exact rfl|exact aa _|exact ac|apply And.intro
   ·obtain rfl:y=k:=by omega
    refine ⟨⟨⟨.inr (.inr rfl),Nat.le_refl _⟩,Nat.le_refl _,by omega,by omega⟩,by rw[Int.toNat_natCast],by rw[aP bg,hml];omega,rfl,⟨⟨.inr (.inr rfl),by omega⟩,⟨by omega,by omega⟩,by omega⟩,by rw[Int.toNat_natCast];rfl,rfl,aa _,⟨⟨?_,am _ _⟩,trivial⟩,trivial⟩
    rw[Int.toNat_natCast,Ak (by omega)]
  ·have hq:(agI p ss rr i) (M.getD x 0)=true:=bK d
   have ha2:=Hw (by omega) ha hq
   refine ⟨aG (by omega),x+1,⟨by omega,ha2⟩,by omega,rfl,?_⟩
   repeat' first|exact am _ _|exact aa _|exact rfl|exact aa _|exact ac|apply And.intro
 ·obtain rfl:x=k:=by omega
  have da:=wx (q:=(agI p ss rr i)) (by omega) ha
  rw[da.1,da.2]
  repeat' first|exact am _ _|exact aa _|exact rfl|exact aa _|exact ac|apply And.intro
theorem I2{M:List Int}{k:Nat}{i:Int}(hk:k<=M.length)(hM:M.length<=1000)  : Ew M k i:=by
 delta Ew km2 kmb kme kmq kmg kmv kmy kmj km4 km6 km1 kmh kms kmc kmu km9 kml km5 kmn km7
 refine ⟨rfl,⟨Nat.zero_le _,Hx _ _⟩,?_,fun _=>rfl,?_⟩
 ·repeat' first|exact am _ _|exact aa _|exact rfl|exact aa _|exact ac|apply And.intro
 rintro x ⟨hx,ha⟩
 refine mi (fun b =>?_) (fun b =>?_)
 ·have hlt:x<M.length:=by omega
  refine ⟨⟨by omega,by omega⟩,cL (by omega) (by omega),⟨fun d =>?_,fun d =>?_⟩⟩
  ·have hq:(qNe i) (M.getD x 0)=false:=G3 d
   have mf:=oX (q:=(qNe i)) hlt ha hq
   refine ⟨fun e=>absurd e (by rw[nn1];decide),fun _=>⟨aG (by omega),rfl,⟨by omega,by rw[mf.2];omega⟩,?_,fun _=>rfl,?_⟩⟩
   ·rw[mf.1,mf.2]
    repeat' first|exact am _ _|exact aa _|exact rfl|exact aa _|exact ac|apply And.intro
   rintro y ⟨hy,hc⟩
   have hml:=vu (q:=(qNe i)) (show y<=M.length by omega)
   refine mi (fun b =>?_) (fun b =>?_)
   ·have hma:=za (q:=(qNe i)) (show y<M.length by omega)
    refine ⟨⟨by omega,by omega⟩,cL (by omega) (by omega),⟨fun d =>?_,fun d =>?_⟩⟩
    ·have hq2:(qNe i) (M.getD y 0)=true:=by rw[<- hma];exact G2 (ff d)
     have h1:=Cx (q:=(qNe i)) (show y<M.length by omega) hq2
     have h2:=tM (q:=(qNe i)) (show y<M.length by omega) hq2
     have h3:(aN (qNe i) M (y+1)).length=(aN (qNe i) M y).length+1:=by rw[h2,ao];rfl
     have h4:=fw (f:=ai) bg (cb (qNe i) M y) (aN (qNe i) M y).length (by omega) ((cb (qNe i) M y).getD y 0)
     rw[show (cb (qNe i) M y).set (aN (qNe i) M y).length ((cb (qNe i) M y).getD y 0)=cb (qNe i) M (y+1) by rw[hma,h1]]at h4
     refine ⟨⟨by omega,by omega⟩,by rw[aP bg,hml];omega,rfl,aG (by omega),aG (by omega),y+1,⟨by omega,by omega⟩,by omega,rfl,?_⟩
     rw[h3,show 0+Int.toNat (((aN (qNe i) M y).length:Nat):Int)*1=(aN (qNe i) M y).length*1 by omega]
     repeat' first|exact am _ _|exact aa _|(exact congrArg (fun l=>some (ab.cells true 1 l)) h4)|exact rfl|exact aa _|exact ac|apply And.intro
    ·have hq2:(qNe i) (M.getD y 0)=false:=by rw[<- hma];exact G3 (bK d)
     have h1:=Cy (q:=(qNe i)) (show y<M.length by omega) hq2
     have h2:=oc (q:=(qNe i)) (show y<M.length by omega) hq2
     refine ⟨aG (by omega),y+1,⟨by omega,by rw[h2];omega⟩,by omega,rfl,?_⟩
     rw[h1,h2]
     repeat' first|exact am _ _|exact aa _|exact rfl|exact aa _|exact ac|apply And.intro
   ·obtain rfl:y=k:=by omega
    refine ⟨⟨⟨.inr (.inr rfl),Nat.le_refl _⟩,Nat.le_refl _,by omega,by omega⟩,by rw[Int.toNat_natCast],by rw[aP bg,hml];omega,rfl,⟨⟨.inr (.inr rfl),by omega⟩,⟨by omega,by omega⟩,by omega⟩,by rw[Int.toNat_natCast];rfl,rfl,aa _,⟨⟨?_,am _ _⟩,trivial⟩,trivial⟩
    rw[Int.toNat_natCast,Ak (by omega)]
  ·have hq:(qNe i) (M.getD x 0)=true:=G2 d
   have ha2:=Hw (by omega) ha hq
   refine ⟨aG (by omega),x+1,⟨by omega,ha2⟩,by omega,rfl,?_⟩
   repeat' first|exact am _ _|exact aa _|exact rfl|exact aa _|exact ac|apply And.intro
 ·obtain rfl:x=k:=by omega
  have da:=wx (q:=(qNe i)) (by omega) ha
  rw[da.1,da.2]
  repeat' first|exact am _ _|exact aa _|exact rfl|exact aa _|exact ac|apply And.intro
theorem K6{M:List Int}{k:Nat}{rr:List (List Int)}{i:Int}(hk:k<=M.length)(hM:M.length<=1000)(t:ej w h a p ss)(rk:dZ a ss rr)(hi:0<=i/\i<(ss.length:Int))(hin:∀x,x<k->0<=M.getD x 0/\M.getD x 0<(ss.length:Int)){D b c r j l q:Nat}(hD:H[D]?=some (.cells true 1 (M.flatMap ai)))(hne:D ∉ [b,c,r,j,l,q])
  (h1:∃o z,H[b]?=some (.cells o z [.pointer (some ⟨r,0,none⟩)])) (h2:∃o z,H[c]?=some (.cells o z [.int .i64 i])) (h3:∃o z,H[r]?=some (.cells o z (iF w h a p ss rr j l q))) (h4:∃o z,H[j]?=some (.cells o z (a.flatMap af))) (h5:∃o z,H[l]?=some (.cells o z (ss.flatMap spC))) (h6:∃o z,H[q]?=some (.cells o z (inL rr))) :
  ad prog 84 [slQ D 2 k,.func (.func 86) #[] #[.pointer (some ⟨b,0,none⟩),.pointer (some ⟨c,0,none⟩)]] H [D] (Is (slQ D 2 (aN (agI p ss rr i) M k).length) (H.set D (.cells true 1 ((fA (agI p ss rr i) M k).flatMap ai)))) :=
 GU (css:=JH w h a p ss rr i) (Eq.mpr (LX M k w h a p ss rr i) (I3 hk hM t rk hi hin)) (am _ _) (am _ _) hD (ids:=[b,c,r,j,l,q]) ⟨h1,h2,h3,by rw[wW];exact h4,by rw[HZ];exact h5,by rw[B4];exact h6,trivial⟩ hne rfl
theorem Hl{M:List Int}{k:Nat}{i:Int}(hk:k<=M.length)(hM:M.length<=1000){D c:Nat}(hD:H[D]?=some (.cells true 1 (M.flatMap ai)))(hne:D≠c)(h2:∃o z,H[c]?=some (.cells o z [.int .i64 i])) :
  ad prog 84 [slQ D 2 k,.func (.func 89) #[] #[.pointer (some ⟨c,0,none⟩)]] H [D] (Is (slQ D 2 (aN (qNe i) M k).length) (H.set D (.cells true 1 ((fA (qNe i) M k).flatMap ai)))) :=
 GU (css:=[[.int .i64 i]]) (Eq.mpr (LW M k i) (I2 hk hM)) (am _ _) (am _ _) hD (ids:=[c]) ⟨h2,trivial⟩ (by simpa using hne) rfl
theorem Ja{M:List Int}{k:Nat}{i:Int}(hk:k<=M.length)(hM:M.length<=1000):Ey (.bool ((M.take k).any fun v=>v == i)) M k i:=by
 delta Ey kmb kme kmo kmg kmv kmy kmj km4 km6 kmh kms
 refine ⟨rfl,⟨Nat.zero_le _,(by rw[List.take_zero];rfl)⟩,?_,fun _=>rfl,?_⟩
 ·repeat' first|exact am _ _|exact aa _|exact rfl|exact aa _|exact ac|apply And.intro
 rintro x ⟨hx,ha⟩
 refine mi (fun b =>?_) (fun b =>?_)
 ·refine ⟨⟨by omega,by omega⟩,cL (by omega) (by omega),fun d =>?_,fun d =>?_⟩
  ·show Value.bool _=Value.bool _
   rw[decide_eq_true (show (0:Int)<=((x:Nat):Int) by omega)]
   congr 1
   symm
   rw[List.any_eq_true]
   refine ⟨M.getD x 0,?_,by rw[eq_of_beq d];exact beq_self_eq_true _⟩
   rw[List.mem_iff_getElem]
   refine ⟨x,by rw[List.length_take];omega,?_⟩
   rw[List.getElem_take,gI (by omega)]
  ·refine ⟨aG (by omega),x+1,⟨by omega,?_⟩,by omega,rfl,?_⟩
   ·rw[km (d:=0) (by omega),List.any_append,ha,List.any_cons,List.any_nil,Bool.or_false,Bool.false_or]
    exact beq_eq_false_iff_ne.2 fun e=>(beq_eq_false_iff_ne.1 d) e.symm
   ·repeat' first|exact am _ _|exact aa _|exact rfl|exact aa _|exact ac|apply And.intro
 ·obtain rfl:x=k:=by omega
  show Value.bool _=Value.bool _
  rw[ha]
theorem K7{M:List Int}{k:Nat}{i:Int}(hk:k<=M.length)(hM:M.length<=1000){D:Nat}{o z}(hD:H[D]?=some (.cells o z (M.flatMap ai))) :
  ad prog 88 [.slice (some ⟨D,0,none⟩) k k,.int .i64 i] H [] (Is (.bool ((M.take k).any fun v=>v == i)) H) :=
 KD (css:=[M.flatMap ai]) (Eq.mpr (LY _ M k i) (Ja hk hM)) (Cg (am 0 _)) rfl [D] rfl (Cf hD)
def rp(w i k:Int):Bool:=decide ((Int.tmod i w-Int.tmod k w)*(Int.tmod i w-Int.tmod k w)+(Int.tdiv i w-Int.tdiv k w)*(Int.tdiv i w-Int.tdiv k w)=1)
def mw(w h:Int)(a:List Bool)(f:Int)(n:Int)(c:Nat):Int:=if bk w h a f c<=n/\bk w h a f c<bb then bk w h a f c else -1
def kJ(w h:Int)(a:List Bool)(f:Int)(n:Int):List Int:=dE (mw w h a f n) a.length
def eo(w h:Int)(a:List Bool)(f:Int)(n:Int)(x:Nat):List Int:=dE (fun c=>if c<x then mw w h a f n c else mw w h a f (n-1) c) a.length
def gH(w h:Int)(a:List Bool)(f:Int)(n:Int)(x:Nat):Bool:=(List.range x).any fun c=>decide (bk w h a f c=n)
def i9(w h:Int)(a:List Bool)(f:Int)(n:Int)(i x:Nat):Bool:=(List.range x).any fun k=>rp w i k&&decide (bk w h a f k=n-1)
theorem sq1{x y:Int}(h:x*x+y*y=1):(x=0/\(y=1∨y = -1))∨(y=0/\(x=1∨x = -1)):=by
 have nn:∀z:Int,0<=z*z:=fun z=>by
  rcases Int.le_total 0 z with q|q
  ·exact Int.mul_nonneg q q
  ·have:=Int.mul_nonneg (a:=-z) (b:=-z) (by omega) (by omega)
   rwa [Int.neg_mul_neg]at this
 have bd:∀z:Int,z*z<=1 -> -1<=z/\z<=1:=fun z hz=>by
  constructor
  ·by_cases q : -1<=z
   ·exact q
   ·have:=Int.mul_le_mul (a:=2) (b:=2) (c:=-z) (d:=-z) (by omega) (by omega) (by omega) (by omega)
    rw[Int.neg_mul_neg]at this;omega
  ·by_cases q:z<=1
   ·exact q
   ·have:=Int.mul_le_mul (a:=2) (b:=2) (c:=z) (d:=z) (by omega) (by omega) (by omega) (by omega)
    omega
 have hx:=nn x
 have hy:=nn y
 have bx:=bd x (by omega)
 have by_:=bd y (by omega)
 have cx:x = -1∨x=0∨x=1:=by omega
 have cy:y = -1∨y=0∨y=1:=by omega
 rcases cx with rfl|rfl|rfl <;> rcases cy with rfl|rfl|rfl <;> simp at h ⊢
theorem D8(b:cM w h a.length){i k:Int}(hi:0<=i/\i<(a.length:Int))(hk:0<=k/\k<(a.length:Int))(hs:a.getD (Int.toNat i) false=false)(q:rp w i k=true):∃j,j<4/\iS w h a k j/\nbT w k j=i:=by
 obtain ⟨i1,i2,i3⟩:=Bk b hi
 obtain ⟨k1,k2,k3⟩:=Bk b hk
 have key:∀j,j<4->Int.tmod i w=Int.tmod k w+bdx j->Int.tdiv i w=Int.tdiv k w+bdy j->iS w h a k j/\nbT w k j=i:=fun j hj e1 e2=>by
  have e:nbT w k j=i:=by
   show nbV w k j*w+nbU w k j=i
   rw[show nbV w k j=Int.tdiv i w from e2.symm,show nbU w k j=Int.tmod i w from e1.symm];exact i3
  refine ⟨⟨⟨?_,?_⟩,by rw[e];exact hs⟩,e⟩
  ·rw[show nbU w k j=Int.tmod i w from e1.symm];exact i1
  ·rw[show nbV w k j=Int.tdiv i w from e2.symm];exact i2
 rcases sq1 (av q) with ⟨x0,y1|y1⟩|⟨y0,x1|x1⟩
 ·exact ⟨3,by omega,key 3 (by omega) (by show _=_+(0:Int);omega) (by show _=_+(1:Int);omega)⟩
 ·exact ⟨0,by omega,key 0 (by omega) (by show _=_+(0:Int);omega) (by show _=_+(-1:Int);omega)⟩
 ·exact ⟨2,by omega,key 2 (by omega) (by show _=_+(1:Int);omega) (by show _=_+(0:Int);omega)⟩
 ·exact ⟨1,by omega,key 1 (by omega) (by show _=_+(-1:Int);omega) (by show _=_+(0:Int);omega)⟩
theorem BM(b:cM w h a.length){k:Int}{j:Nat}(hj:j<4)(q:iS w h a k j):rp w (nbT w k j) k=true:=by
 have hw:=b.w1
 obtain ⟨⟨hu,hv⟩,_⟩:=q
 obtain ⟨p1,p2⟩:=vm (w:=w) hw.1 hu hv.1
 have eT:nbV w k j*w+nbU w k j=nbT w k j:=rfl
 rw[eT]at p1 p2
 unfold rp
 rw[p1,p2]
 have e1:nbU w k j-Int.tmod k w=bdx j:=by unfold nbU;omega
 have e2:nbV w k j-Int.tdiv k w=bdy j:=by unfold nbV;omega
 rw[e1,e2]
 match j,hj with
 |0,_=>decide
 |1,_=>decide
 |2,_=>decide
 |3,_=>decide
theorem wq{f:Int}(b:cM w h a.length)(hf:0<=f/\f<(a.length:Int)){i:Int}{n:Nat}(e:bk w h a f i=((n+1:Nat):Int))(hl:bk w h a f i<bb):∃k:Int,(0<=k/\k<(a.length:Int))/\bk w h a f k=n/\rp w i k=true:=by
 obtain ⟨m,m1,m2⟩:=ke hl
 have em:m=n+1:=by omega
 subst em
 cases m1 with
 | @step _ k j hj hw hb =>
  refine ⟨k,yD b hf hw,?_,BM b hj hb⟩
  have d1:=qq hw
  obtain ⟨q,q1,q2⟩:=ke (xR b hf hw)
  have d2:=qq (Wy.step j hj q1 hb)
  omega
theorem HP{f:Int}(b:cM w h a.length)(hf:0<=f/\f<(a.length:Int)){c:Int}(hl:bk w h a f c<bb):0<=bk w h a f c/\bk w h a f c+1<=(a.length:Int):=by
 obtain ⟨m,m1,m2⟩:=ke hl
 obtain ⟨q,q1,q2⟩:=wK m1
 have:=jp q2
 have:=xa b hf q2
 omega
theorem EW{f:Int}(b:cM w h a.length)(hf:0<=f/\f<(a.length:Int)){n:Int}(hn:1<=n/\n<bb){i:Nat}(hi:i<a.length)(hs:a.getD i false=false)(hm:¬ bk w h a f i<=n-1):i9 w h a f n i a.length=decide (bk w h a f i=n):=by
 rw[Bool.eq_iff_iff,decide_eq_true_eq]
 unfold i9
 rw[List.any_eq_true]
 constructor
 ·rintro ⟨k,hk,e⟩
  have hk:=List.mem_range.1 hk
  rw[Bool.and_eq_true,decide_eq_true_eq]at e
  obtain ⟨j,hj,j1,j2⟩:=D8 b (i:=(i:Int)) (k:=(k:Int)) (by omega) (by omega) (by rw[show Int.toNat ((i:Nat):Int)=i by omega];exact hs) e.1
  obtain ⟨m,m1,m2⟩:=ke (show bk w h a f k<bb by omega)
  have d:=qq (Wy.step j hj m1 j1)
  rw[j2]at d
  omega
 ·intro e
  obtain ⟨k,k1,k2,k3⟩:=wq b hf (i:=(i:Int)) (n:=Int.toNat (n-1)) (by omega) (by omega)
  refine ⟨Int.toNat k,List.mem_range.2 (by omega),?_⟩
  rw[show ((Int.toNat k:Nat):Int)=k by omega,k3,decide_eq_true (show bk w h a f k=n-1 by omega)];rfl
theorem uX{f:Int}(hs:a.getD (Int.toNat f) false=false){i:Nat}(hl:a.getD i false=true):bk w h a f i=bb:=by
 refine Ah fun n q =>?_
 have:=Bt hs q
 rw[show Int.toNat ((i:Nat):Int)=i by omega,hl]at this
 cases this
theorem EU{f:Int}{n:Int}{c:Nat}(q:bk w h a f c≠n):mw w h a f n c=mw w h a f (n-1) c:=by
 unfold mw
 have e:(bk w h a f c<=n/\bk w h a f c<bb)=(bk w h a f c<=n-1/\bk w h a f c<bb):=propext ⟨fun h=>⟨by omega,h.2⟩,fun h=>⟨by omega,h.2⟩⟩
 simp only[e]
theorem lP(w h:Int)(a:List Bool)(f n:Int)(x:Nat):(eo w h a f n x).length=a.length:=by unfold eo dE;rw[List.length_map,List.length_range]
theorem HR(w h:Int)(a:List Bool)(f n:Int):eo w h a f n 0=kJ w h a f (n-1):=by
 unfold eo kJ dE
 refine List.map_congr_left fun c _ =>?_
 rw[if_neg (Nat.not_lt_zero _)]
theorem BT(w h:Int)(a:List Bool)(f n:Int):eo w h a f n a.length=kJ w h a f n:=by
 unfold eo kJ dE
 refine List.map_congr_left fun c hc =>?_
 rw[if_pos (List.mem_range.1 hc)]
theorem mv{f n:Int}{x:Nat}(q:bk w h a f x≠n):eo w h a f n (x+1)=eo w h a f n x:=by
 unfold eo dE
 refine List.map_congr_left fun c hc =>?_
 by_cases e:c=x
 ·subst e
  rw[if_pos (by omega),if_neg (by omega),EU q]
 ·by_cases r:c<x
  ·rw[if_pos (by omega),if_pos r]
  ·rw[if_neg (by omega),if_neg r]
theorem BR{f n:Int}{x:Nat}(hx:x<a.length)(hn:n<bb)(q:bk w h a f x=n):(eo w h a f n x).set x n=eo w h a f n (x+1):=by
 unfold eo dE
 refine List.ext_getElem (by simp) fun i h1 h2 =>?_
 rw[List.getElem_set]
 simp only[List.getElem_map,List.getElem_range]
 by_cases e:x=i
 ·subst e
  rw[if_pos rfl,if_pos (by omega)]
  unfold mw
  rw[if_pos (by omega),q]
 ·rw[if_neg e]
  by_cases r:i<x
  ·rw[if_pos r,if_pos (by omega)]
  ·rw[if_neg r,if_neg (by omega)]
theorem uY{f n:Int}{x k:Nat}(hk:k<a.length):(eo w h a f n x).getD k 0=if k<x then mw w h a f n k else mw w h a f (n-1) k:=by
 unfold eo
 rw[List.getD_eq_getElem?_getD]
 unfold dE
 rw[List.getElem?_map,List.getElem?_range hk];rfl
theorem yN{f n:Int}{x k:Nat}(hn:1<=n/\n<bb)(hk:k<a.length):(eo w h a f n x).getD k 0=n-1 ↔ bk w h a f k=n-1:=by
 rw[uY hk]
 unfold mw
 constructor
 ·intro e
  repeat' split at e
  all_goals omega
 ·intro e
  rw[e]
  split
  ·rw[if_pos (by omega)]
  ·rw[if_pos (by omega)]
theorem BS{f n:Int}{x:Nat}(b:cM w h a.length)(hf:0<=f/\f<(a.length:Int))(hn:n<bb)(hx:x<a.length):(eo w h a f n x).getD x 0<0 ↔ ¬ bk w h a f x<=n-1:=by
 rw[uY hx,if_neg (by omega)]
 unfold mw
 have:=iB b hf x
 constructor
 ·intro e
  split at e <;> omega
 ·intro e
  rw[if_neg (by omega)];decide
theorem wS(w h:Int)(a:List Bool)(f n:Int)(x:Nat):gH w h a f n (x+1)=(gH w h a f n x ||decide (bk w h a f x=n)):=by
 unfold gH
 rw[List.range_succ,List.any_append,List.any_cons,List.any_nil,Bool.or_false]
theorem BU(w h:Int)(a:List Bool)(f n:Int)(i x:Nat):i9 w h a f n i (x+1)=(i9 w h a f n i x ||(rp w i x&&decide (bk w h a f x=n-1))):=by
 unfold i9
 rw[List.range_succ,List.any_append,List.any_cons,List.any_nil,Bool.or_false]
theorem EV{f:Int}(b:cM w h a.length)(hf:0<=f/\f<(a.length:Int)){n:Int}(hn:n<bb)(q:gH w h a f n a.length=true):n+1<=(a.length:Int):=by
 unfold gH at q
 rw[List.any_eq_true]at q
 obtain ⟨k,_,e⟩:=q
 have e:=av e
 have:=HP b hf (c:=k) (by omega)
 omega
theorem EQ{f:Int}(b:cM w h a.length)(hf:0<=f/\f<(a.length:Int)){n:Int}(hn:0<=n/\n<bb)(q:gH w h a f n a.length=false):kJ w h a f n=dE (fun c=>if bk w h a f c<bb then bk w h a f c else -1) a.length:=by
 have no:∀k:Int,0<=k/\k<(a.length:Int)->bk w h a f k≠n:=fun k hk e=>by
  unfold gH at q
  rw[List.any_eq_false]at q
  refine q (Int.toNat k) (List.mem_range.2 (by omega)) (decide_eq_true ?_)
  rw[show ((Int.toNat k:Nat):Int)=k by omega];exact e
 have key:∀m:Nat,∀k:Int,0<=k/\k<(a.length:Int)->bk w h a f k<bb->bk w h a f k≠n+m:=by
  intro m
  induction m with
  |zero=>intro k hk _ e;exact no k hk (by omega)
  |succ m ih =>
   intro k hk hl e
   obtain ⟨i,i1,i2,i3⟩:=wq b hf (i:=k) (n:=Int.toNat (n+m)) (by omega) hl
   exact ih i i1 (by omega) (by omega)
 unfold kJ dE
 refine List.map_congr_left fun c hc =>?_
 have hc:=List.mem_range.1 hc
 unfold mw
 by_cases l:bk w h a f c<bb
 ·have hle:bk w h a f c<=n:=Int.not_lt.1 fun g=>key (Int.toNat (bk w h a f c-n)) c (by omega) l (by omega)
  rw[if_pos l,if_pos ⟨hle,l⟩]
 ·rw[if_neg l,if_neg fun g=>l g.2]
theorem ES{f:Int}(b:cM w h a.length)(hf:0<=f/\f<(a.length:Int)):(List.replicate a.length (-1:Int)).set (Int.toNat f) 0=kJ w h a f 0:=by
 unfold kJ dE
 refine List.ext_getElem (by simp) fun i h1 h2 =>?_
 have hi:i<a.length:=by rw[List.length_map,List.length_range]at h2;exact h2
 rw[List.getElem_set,List.getElem_replicate,List.getElem_map,List.getElem_range]
 have bd:=iB b hf i
 unfold mw
 by_cases e:Int.toNat f=i
 ·rw[if_pos e]
  have:bk w h a f i=0:=by rw[show ((i:Nat):Int)=f by omega];exact Hp ..
  rw[this,if_pos ⟨by omega,by decide⟩]
 ·rw[if_neg e]
  by_cases z:bk w h a f i<=0/\bk w h a f i<bb
  ·exfalso
   obtain ⟨m,m1,m2⟩:=ke z.2
   have:m=0:=by omega
   subst this
   have hfi:f=(i:Int):=by
    generalize hg:((i:Nat):Int)=g at m1
    cases m1
    exact hg.symm ▸ rfl
   omega
  ·rw[if_neg z]
end
end Go.Proofs.YtbgfjemppjhmjaaGreat
