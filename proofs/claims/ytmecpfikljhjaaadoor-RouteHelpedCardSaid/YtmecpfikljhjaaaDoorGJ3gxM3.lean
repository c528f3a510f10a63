/- What is to be shown of functions. Printed by a program. No condition. -/
import Derived.Test.YtmecpfikljhjaaaDoorGA7xJ5
import Derived.Test.YtmecpfikljhjaaaDoorGK27xA0
open Go Go.K
set_option maxRecDepth 1000000
set_option maxHeartbeats 4000000
set_option linter.unusedVariables false
set_option linter.unusedSimpArgs false
namespace Go.Proofs.YtmecpfikljhjaaaDoor
noncomputable section
attribute [local irreducible] vF
def Rclone(cs:List Cht):Prop :=
 (ck (cs.length=0) False (((0+cs.length)*48<=2 ^ 44/\cs.length≠0/\(0<=0/\0+0*4<=List.length ([]:List Value))/\(cs.length<=cs.length/\0+cs.length*4<=List.length (cs.flatMap chC))/\((((cs.flatMap chC).drop 0).take (cs.length*4)):List Value).all (fun v=>one1 v)=true)/\true=true/\(true=true/\wk (slN 3 (0+cs.length):Value) (rn (sg 2 [(2,3)]) 3 (slQ 2 1 cs.length:Value))/\((kbq 2 (.cells true 4 (((([]:List Value).drop 0).take (0*4))++(((cs.flatMap chC).drop 0).take (cs.length*4)))) (.cells true 4 (cs.flatMap chC)))/\True))))
abbrev jo2:List Value:=[nI 4000,nI 8000,nI 14000,nI 24000,nI 40000,nI 90000]
theorem Eclone(cs:List Cht):vF prog msk (dm 0) 100000 true 40 true 64 [slN 1 cs.length] (readsK [.cells false 0 jo2,.cells false 0 (cs.flatMap chC)]) (some [])
 (.go 5 (.cas (cs.length=0) (.again []) (.need (.go 0 (.again [(2,3)])))))
 (newK ((readsK [.cells false 0 jo2,.cells false 0 (cs.flatMap chC)]):HT).n 3 (slQ 2 1 cs.length) [(true,.cells true 4 (cs.flatMap chC))])=Rclone cs:=by kernel_rfl
abbrev joq:KObj:=.cells false 0 jo2
abbrev jof(p:Pl):=p.land.flatMap boolC
abbrev joj(p:Pl):=p.cts.flatMap chC
abbrev jo8(p:Pl):Prop:=(someR (.cells true 1 (p.chan.flatMap boolC)))/\(someR (.cells true 2 (p.shp.th.flatMap ptC)))/\(someR (.cells true 2 (p.shp.wa.flatMap ptC)))/\(someR (.cells true 2 (p.shp.ic.flatMap ptC)))/\True
abbrev jo7(H':Heap)(p:Pl):Prop:=H'[3]?=some (.cells true 1 (p.chan.flatMap boolC):KObj)/\H'[4]?=some (.cells true 2 (p.shp.th.flatMap ptC):KObj)/\H'[5]?=some (.cells true 2 (p.shp.wa.flatMap ptC):KObj)/\H'[6]?=some (.cells true 2 (p.shp.ic.flatMap ptC):KObj)/\True
abbrev jo5(p:Pl):List Value:=[.agg #[nI p.w,nI p.h,slQ 1 2 p.land.length,slQ 2 2 p.cts.length,slQ 3 2 p.chan.length,nI p.shp.cls,nI p.shp.pow,nI p.shp.dra,nI p.shp.ton,slQ 4 2 p.shp.th.length,slQ 5 2 p.shp.wa.length,slQ 6 2 p.shp.ic.length,nI p.shp.slow,nI p.shp.brash,nI p.shp.rdg,nI p.shp.prs,nI p.size,nI p.frm,nI p.to]]
abbrev joi(p:Pl):Int:=(p.cts.length:Nat)
abbrev jod(p:Pl):Prop:=eR (pt 7)/\eR (nI 0)/\eR (nI 0)/\eR (.func (.func 63) #[] #[])/\wR (slQ 8 1 p.cts.length)/\eR (nI (joi p))/\True
abbrev jor(p:Pl)(x2:Nat):=lstTo p.cts x2
abbrev jo3(p:Pl)(x2:Nat):=List.length ((jor p x2).getD x2 zCh).cells
abbrev jo4(p:Pl)(x2:Nat):Value:=.agg ⟨(List.flatMap cellC ((jor p x2).getD x2 zCh).cells)⟩
abbrev joe(p:Pl)(x2:Nat):Value:=.agg #[nI ((jor p x2).getD x2 zCh).w,nI ((jor p x2).getD x2 zCh).h,nI ((jor p x2).getD x2 zCh).hr,.iface ((jo3 p x2)+1) (jo4 p x2)]
abbrev joh(p:Pl)(x2:Nat):Value:=.iface ((jo3 p x2)+1) (jo4 p x2)
abbrev jo1(p:Pl)(x2 x3:Nat):=List.getD ((jor p x2).getD x2 zCh).cells x3 zeroC
abbrev jo9(p:Pl)(x2 x3:Nat):Value:=.agg #[nI (jo1 p x2 x3).conc.lo,nI (jo1 p x2 x3).conc.hi,nI (jo1 p x2 x3).thick.lo,nI (jo1 p x2 x3).thick.hi,nI (jo1 p x2 x3).ridge.lo,nI (jo1 p x2 x3).ridge.hi,nI (jo1 p x2 x3).press.lo,nI (jo1 p x2 x3).press.hi]
abbrev joa(p:Pl)(x2 x3:Nat):=leTo ((jor p x2).getD x2 zCh) x3
abbrev job(p:Pl)(x2 x3:Nat):List Value:=[nI (jo1 p x2 x3).conc.lo,nI (jo1 p x2 x3).conc.lo,nI (jo1 p x2 x3).thick.lo,nI (jo1 p x2 x3).thick.lo,nI (jo1 p x2 x3).ridge.lo,nI (jo1 p x2 x3).ridge.lo,nI (jo1 p x2 x3).press.lo,nI (jo1 p x2 x3).press.lo]
abbrev joc(p:Pl):=List.flatMap chC (hopeP p).cts
abbrev jo0(p:Pl):List Value:=[nI p.w,nI p.h,slQ 1 2 p.land.length,slQ 9 2 (List.length (hopeP p).cts),slQ 3 2 p.chan.length,nI p.shp.cls,nI p.shp.pow,nI p.shp.dra,nI p.shp.ton,slQ 4 2 p.shp.th.length,slQ 5 2 p.shp.wa.length,slQ 6 2 p.shp.ic.length,nI p.shp.slow,nI p.shp.brash,nI p.shp.rdg,nI p.shp.prs,nI p.size,nI p.frm,nI p.to,nI (endP (hopeP p)),.map (some 11)]
abbrev jog(p:Pl):=knE (Memo.nil (sfP (hopeP p))).1
abbrev jok(p:Pl):=rn (sg 7 []) 3 (.tuple #[nI (bestT (hopeP p)),nI (bestE (hopeP p))]:Value)
def RHope(p:Pl):Prop :=
 (((someR joq)/\(someR (.cells true 1 (jof p)))/\(someR (.cells false 0 (joj p)))/\jo8 p)/\(∀H':Heap,H'.length=8->(H'[0]?=some (.cells false 0 jo2:KObj)/\H'[1]?=some (.cells true 1 (jof p):KObj)/\H'[2]?=some (.cells false 0 (joj p):KObj)/\jo7 H' p)->KCall prog 47 (jo5 p) H' [] (Is (nI 0) H'))/\(n2q 8 0 joq 2 (.cells false 0 (joj p)) 64 [slQ 2 2 p.cts.length] (slQ 8 1 p.cts.length) [(.cells true 4 (joj p):KObj)] (lq (0<=List.length p.cts) (true=true/\((nI 0:Value)=nI ((0:Nat):Int)/\jod p)/\((kbq 9 (.cells true 4 (joj p)) (.cells true 4 ((lstTo p.cts 0).flatMap chC)))/\True)/\(True)/\(True)) (∀x2:Nat,(x2<=List.length p.cts)->(fk (decide (((x2:Int):Int)<(joi p))) ((ixq (x2:Int) p.cts.length)/\((partA 4 ((jor p x2).flatMap chC) (0+Int.toNat (x2:Int)*4)=some (joe p x2))/\(lq (0<=List.length ((jor p x2).getD x2 zCh).cells) (true=true/\((nI 0:Value)=nI ((0:Nat):Int)/\wk (.slice none 0 0:Value) (slQ 0 1 (leTo ((jor p x2).getD x2 zCh) 0).length:Value)/\eR (nI (joi p))/\wR (slQ 8 1 p.cts.length)/\eR (.func (.func 63) #[] #[])/\eR (nI 0)/\eR (nI 0)/\eR (pt 7)/\eR (nI (x2:Int))/\eR (pt 9)/\eR (nI (x2:Int))/\(joh p x2)=rn (sg 10 []) 3 (joh p x2)/\eR (nI (((jo3 p x2):Nat):Int))/\True)/\(True)/\(True/\True)/\(True)) (∀x3:Nat,(x3<=List.length ((jor p x2).getD x2 zCh).cells)->(fk (decide (((x3:Int):Int)<(((jo3 p x2):Nat):Int))) ((ixq (x3:Int) (jo3 p x2))/\((partA 8 (List.flatMap cellC ((jor p x2).getD x2 zCh).cells) (Int.toNat (x3:Int)*8)=some (jo9 p x2 x3))/\(apq (joa p x2 x3).length 64 8 ((joa p x2 x3).flatMap cellC) (job p x2 x3) (nw ((x3:Int)+1) (∃x3':Nat,(x3'<=List.length ((jor p x2).getD x2 zCh).cells)/\(List.length ((jor p x2).getD x2 zCh).cells-x3')<(List.length ((jor p x2).getD x2 zCh).cells-x3)/\true=true/\((nI ((x3:Int)+1):Value)=nI (x3':Int)/\wk (slN 13 ((joa p x2 x3).length+1):Value) (slQ 13 1 (leTo ((jor p x2).getD x2 zCh) x3').length:Value)/\eR (nI (joi p))/\wR (slQ 8 1 p.cts.length)/\eR (.func (.func 63) #[] #[])/\eR (nI 0)/\eR (nI 0)/\eR (pt 7)/\eR (nI (x2:Int))/\eR (pt 9)/\eR (nI (x2:Int))/\(joh p x2)=rn (sg 10 [(10,13)]) 3 (joh p x2)/\eR (nI (((jo3 p x2):Nat):Int))/\True)/\(True)/\((kbq 10 (.cells true 8 (((((joa p x2 x3).flatMap cellC).drop 0).take ((joa p x2 x3).length*8))++((((job p x2 x3):List Value).drop 0).take (1*8)))) (.cells true 8 ((leTo ((jor p x2).getD x2 zCh) x3').flatMap cellC)))/\True)/\(True)))))) ((ixq (x2:Int) p.cts.length)/\((((0+Int.toNat (x2:Int)*4)+3)+1<=List.length ((jor p x2).flatMap chC))/\true=true/\(nw ((x2:Int)+1) (∃x2':Nat,(x2'<=List.length p.cts)/\(List.length p.cts-x2')<(List.length p.cts-x2)/\true=true/\((nI ((x2:Int)+1):Value)=nI (x2':Int)/\jod p)/\((kbq 9 (.cells true 4 (setl ((jor p x2).flatMap chC) ((0+Int.toNat (x2:Int)*4)+3) [.iface ((joa p x2 x3).length+1) (.agg ⟨((joa p x2 x3).flatMap cellC)⟩)])) (.cells true 4 ((lstTo p.cts x2').flatMap chC)))/\True)/\(True)/\(True)))))))))) ((some (.cells true 4 ((jor p x2).flatMap chC):KObj)=some (.cells true 4 (joc p):KObj))/\(((.agg #[nI p.w,nI p.h,slQ 1 2 p.land.length,slQ 9 2 p.cts.length,slQ 3 2 p.chan.length,nI p.shp.cls,nI p.shp.pow,nI p.shp.dra,nI p.shp.ton,slQ 4 2 p.shp.th.length,slQ 5 2 p.shp.wa.length,slQ 6 2 p.shp.ic.length,nI p.shp.slow,nI p.shp.brash,nI p.shp.rdg,nI p.shp.prs,nI p.size,nI p.frm,nI p.to]:Value) = .agg #[nI p.w,nI p.h,slQ 1 2 p.land.length,slQ 9 2 (List.length (hopeP p).cts),slQ 3 2 p.chan.length,nI p.shp.cls,nI p.shp.pow,nI p.shp.dra,nI p.shp.ton,slQ 4 2 p.shp.th.length,slQ 5 2 p.shp.wa.length,slQ 6 2 p.shp.ic.length,nI p.shp.slow,nI p.shp.brash,nI p.shp.rdg,nI p.shp.prs,nI p.size,nI p.frm,nI p.to])/\(((someR joq)/\(someR (.cells true 1 (jof p)))/\(someR (.cells false 0 (joc p)))/\jo8 p)/\(∀H':Heap,H'.length=10->(H'[0]?=some (.cells false 0 jo2:KObj)/\H'[1]?=some (.cells true 1 (jof p):KObj)/\H'[9]?=some (.cells false 0 (joc p):KObj)/\jo7 H' p)->KCall prog 30 [.agg #[nI p.w,nI p.h,slQ 1 2 p.land.length,slQ 9 2 (List.length (hopeP p).cts),slQ 3 2 p.chan.length,nI p.shp.cls,nI p.shp.pow,nI p.shp.dra,nI p.shp.ton,slQ 4 2 p.shp.th.length,slQ 5 2 p.shp.wa.length,slQ 6 2 p.shp.ic.length,nI p.shp.slow,nI p.shp.brash,nI p.shp.rdg,nI p.shp.prs,nI p.size,nI p.frm,nI p.to]] H' [] (Is (.tuple #[pt 10,nI 0]) (H' ++ [(.cells true 0 (jo0 p):KObj),(.map (jog p):KObj)])))/\(((someR joq)/\(someR (.cells true 0 (jo0 p)))/\(someR (.cells true 1 (jof p)))/\(someR (.cells false 0 (joc p)))/\(someR (.cells true 1 (p.chan.flatMap boolC)))/\(someR (.cells true 2 (p.shp.th.flatMap ptC)))/\(someR (.cells true 2 (p.shp.wa.flatMap ptC)))/\(someR (.cells true 2 (p.shp.ic.flatMap ptC)))/\(someR (.map (jog p)))/\True)/\(∀H':Heap,H'.length=12->(H'[0]?=some (.cells false 0 jo2:KObj)/\H'[10]?=some (.cells true 0 (jo0 p):KObj)/\H'[1]?=some (.cells true 1 (jof p):KObj)/\H'[9]?=some (.cells false 0 (joc p):KObj)/\H'[3]?=some (.cells true 1 (p.chan.flatMap boolC):KObj)/\H'[4]?=some (.cells true 2 (p.shp.th.flatMap ptC):KObj)/\H'[5]?=some (.cells true 2 (p.shp.wa.flatMap ptC):KObj)/\H'[6]?=some (.cells true 2 (p.shp.ic.flatMap ptC):KObj)/\H'[11]?=some (.map (jog p):KObj)/\True)->KCall prog 31 [pt 10] H' [11] (fun y H2 => ∃z:Memo (sfP (hopeP p)),True/\y=nI (arrP (hopeP p))/\H2=(List.set H' 11 (.map (knE z.1):KObj))))/\(∀r4:Memo (sfP (hopeP p)),True->(fk (decide (((arrP (hopeP p)):Int)<0)) (true=true/\wk (.tuple #[nI 0,nI 51]:Value) (jok p)/\(True)) (true=true/\wk (.tuple #[nI (arrP (hopeP p)),nI 0]:Value) (jok p)/\(True)))))))))))))
abbrev jo6(p:Pl):=readsK [.cells false 0 jo2,.cells true 1 (jof p),.cells false 0 (joj p),.cells true 1 (p.chan.flatMap boolC),.cells true 2 (p.shp.th.flatMap ptC),.cells true 2 (p.shp.wa.flatMap ptC),.cells true 2 (p.shp.ic.flatMap ptC)]
abbrev jol:Nat×KObj:=(0,.cells false 0 jo2)
abbrev jom(p:Pl):Nat×KObj:=(3,.cells true 1 (p.chan.flatMap boolC))
abbrev jon(p:Pl):Nat×KObj:=(4,.cells true 2 (p.shp.th.flatMap ptC))
abbrev joo(p:Pl):Nat×KObj:=(5,.cells true 2 (p.shp.wa.flatMap ptC))
abbrev jop(p:Pl):Nat×KObj:=(6,.cells true 2 (p.shp.ic.flatMap ptC))
theorem EHope(p:Pl):vF prog msk (dm 0) 100000 true 40 true 25 (jo5 p) (jo6 p) (some [])
 (.go 3 (.ans [jol,(1,.cells true 1 (jof p)),(2,.cells false 0 (joj p)),(jom p),(jon p),(joo p),(jop p)] (nI 0) [] (.go 6 (.ans [jol,(2,.cells false 0 (joj p))] (slQ 8 1 p.cts.length) [.cells true 4 (joj p)] (.go 5 (.inv 3 (Nat) (0) [] [8] (fun x2=>[(26,nI (x2:Int)),(1,pt 7),(2,nI 0),(3,nI 0),(5,.func (.func 63) #[] #[]),(24,slQ 8 1 p.cts.length),(25,nI (joi p))]) (fun x2=>[(8,true,.cells true 4 ((jor p x2).flatMap chC))]) (fun x2=>[]) (fun x2=>[]) (fun x2=>(x2<=List.length p.cts)) (fun x2=>(List.length p.cts-x2)) (fun x2 => .go 0 (.fork (.go 0 (.need (.val (joe p x2) (.go 7 (.inv 3 (Nat) (0) [] [] (fun x3=>[(34,nI (x3:Int)),(8,slQ 10 1 (joa p x2 x3).length),(25,nI (joi p)),(24,slQ 8 1 p.cts.length),(5,.func (.func 63) #[] #[]),(3,nI 0),(2,nI 0),(1,pt 7),(26,nI (x2:Int)),(7,pt 9),(6,nI (x2:Int)),(32,.iface ((jo3 p x2)+1) (jo4 p x2)),(33,nI (((jo3 p x2):Nat):Int))]) (fun x3=>[]) (fun x3=>[(true,.cells true 8 ((joa p x2 x3).flatMap cellC))]) (fun x3=>[]) (fun x3=>(x3<=List.length ((jor p x2).getD x2 zCh).cells)) (fun x3=>(List.length ((jor p x2).getD x2 zCh).cells-x3)) (fun x3 => .go 0 (.fork (.need (.val (jo9 p x2 x3) (.go 52 (.need (.go 1 (.slot 58 (nI ((x3:Int)+1)) (.go 0 (.again [(10,13)])))))))) (.go 3 (.frz [62] (.need (.go 0 (.need (.go 0 (.slot 65 (nI ((x2:Int)+1)) (.go 0 (.again [])))))))))))))))) (.obj 8 (.cells true 4 (joc p)) (.go 0 (.tab [.tog 67 3,.tog 67 3] (.slot 67 (.agg #[nI p.w,nI p.h,slQ 1 2 p.land.length,slQ 9 2 (List.length (hopeP p).cts),slQ 3 2 p.chan.length,nI p.shp.cls,nI p.shp.pow,nI p.shp.dra,nI p.shp.ton,slQ 4 2 p.shp.th.length,slQ 5 2 p.shp.wa.length,slQ 6 2 p.shp.ic.length,nI p.shp.slow,nI p.shp.brash,nI p.shp.rdg,nI p.shp.prs,nI p.size,nI p.frm,nI p.to]) (.ans [jol,(1,.cells true 1 (jof p)),(9,.cells false 0 (joc p)),(jom p),(jon p),(joo p),(jop p)] (.tuple #[pt 10,nI 0]) [.cells true 0 (jo0 p),.map (jog p)] (.go 8 (.anse [jol,(10,.cells true 0 (jo0 p)),(1,.cells true 1 (jof p)),(9,.cells false 0 (joc p)),(jom p),(jon p),(joo p),(jop p),(11,.map (jog p))] [11] (Memo (sfP (hopeP p))) (fun r4=>True) (fun r4=>nI (arrP (hopeP p))) (fun r4=>[(11,.map (knE r4.1))]) (fun r4=>[]) (fun r4 => .go 2 (.fork (.go 1 (.again [])) (.go 2 (.again [])))))))))))))))))))
 (newK ((jo6 p):HT).n 3 (.tuple #[nI (bestT (hopeP p)),nI (bestE (hopeP p))]) [])=RHope p:=by kernel_rfl
theorem errUp_zero{e:Nat->Int}:∀{n:Nat},(∀i,i<n->e i=0)->errUp e n=0
 |0,_=>rfl
 |n+1,h=>errUp_succ (errUp_zero fun i hi=>h i (by omega)) (h n (by omega))
theorem le_right{c:Cell}(h:rightC c):rightC (leC c):=by
 unfold rightC rightSp leC leS at *
 dsimp only at *
 omega
theorem errs_le{l:List Cell}(h:errs errCell l=0):errs errCell (l.map leC)=0:=by
 induction l with
 |nil=>rfl
 |cons x l ih =>
  have h0:(if errCell x=0 then errs errCell l else errCell x)=0:=h
  split at h0
  ·rename_i hx
   show (if errCell (leC x)=0 then errs errCell (l.map leC) else errCell (leC x))=0
   rw[if_pos (errCell_iff.2 (le_right (errCell_iff.1 hx)))];exact ih h0
  ·rename_i hx;exact absurd h0 hx
theorem leTo_all(c:Cht):leTo c c.cells.length=c.cells.map leC:=by unfold leTo;rw[List.take_length]
theorem hope_cht{p:Pl}(e:∀i,i<p.cts.length->errCht p i=0):∀i,i<p.cts.length->errCht (hopeP p) i=0:=by
 intro i hi
 have h:=e i hi
 have g1:(hopeP p).cts.getD i zCh=leH (p.cts.getD i zCh):=by
  show (lstTo p.cts p.cts.length).getD i zCh=_
  rw[lstTo_get _ _ (Nat.le_refl _) i hi,if_pos hi]
 have g0:(hopeP p).cts.getD 0 zCh=leH (p.cts.getD 0 zCh):=by
  show (lstTo p.cts p.cts.length).getD 0 zCh=_
  rw[lstTo_get _ _ (Nat.le_refl _) 0 (by omega),if_pos (by omega)]
 unfold errCht at h ⊢
 dsimp only at h ⊢
 rw[g1,g0]
 obtain ⟨h1,h2⟩:=first2_0 h
 have h3:errChart (p.cts.getD i zCh).w (p.cts.getD i zCh).h (p.cts.getD i zCh).hr (leTo (p.cts.getD i zCh) (p.cts.getD i zCh).cells.length)=0:=by
  unfold errChart at h1 ⊢
  obtain ⟨k1,k2⟩:=first2_0 h1
  rw[leTo_all,List.length_map,k1,first2_2 rfl]
  split at k2
  ·rename_i q;rw[if_pos q];exact errs_le k2
  ·cases k2
 show first2 (errChart _ _ _ (leTo _ _)) _=0
 rw[show errChart (leH (p.cts.getD i zCh)).w (leH (p.cts.getD i zCh)).h (leH (p.cts.getD i zCh)).hr (leTo (p.cts.getD i zCh) (p.cts.getD i zCh).cells.length)=0 from h3,first2_2 rfl]
 exact h2
theorem hopeErr{p:Pl}(e0:errPl p=0):errPl (hopeP p)=0:=by
 have o:=plOk e0
 have hl:(hopeP p).cts.length=p.cts.length:=lstTo_len _ _
 have hu:errUp (errCht (hopeP p)) p.cts.length=errUp (errCht p) p.cts.length:=by rw[errUp_zero (hope_cht o.cht),errUp_zero o.cht]
 unfold errPl at e0 ⊢
 rw[hl,hu]
 exact e0
theorem one_chs(l:List Cht)(n:Nat):((List.take n (List.drop 0 (l.flatMap chC))).all fun v=>one1 v)=true:=by
 rw[List.all_eq_true]
 intro v hv
 have h:=List.mem_of_mem_take hv
 rw[List.drop_zero]at h
 obtain ⟨c,_,h⟩:=List.mem_flatMap.1 h
 simp only[chC,List.mem_cons,List.not_mem_nil,or_false,List.mem_append]at h
 rcases h with h|h|h|h <;> (subst h;rfl)
theorem wk_Rn{id o l:Nat}(h:0<l):wk (.slice (some ⟨id,o,some 2⟩) l l) (.slice (some ⟨id,o,none⟩) l l):=by
 intro ρ x hx
 cases hx with
 |sliceRe=>exact absurd h (Nat.lt_irrefl 0)
 |sliceR h hp hl hc ho=>exact .slice h hl hc ho
theorem kClone{cs:List Cht}(h0:0<cs.length)(h1:cs.length<=1000000){H:Heap}{L:Nat}(hH:H[0]?=some strO)(hL:H[L]?=some (.cells false 0 (cs.flatMap chC)))(hne:L≠0) :
  KCall prog 64 [slQ L 2 cs.length] H [] (Is (slQ H.length 1 cs.length) (H ++ [.cells true 4 (cs.flatMap chC)])):=by
 have fl:=flat_len (f:=chC) chC_len cs
 refine KCall.wkA (args2:=[slN L cs.length]) ?_ ⟨wk_Rn h0,trivial⟩
 refine valKs (os:=[strO,.cells false 0 (cs.flatMap chC)]) (ids:=[0,L]) (fun j=>slQ j 1 cs.length) (new:=[.cells true 4 (cs.flatMap chC)]) (Eq.mpr (Eclone cs) ?_) (by show (rnoOk 3 strO&&(rnoOk 3 (.cells false 0 (cs.flatMap chC))&&true))=true;rw[chRok];rfl) rfl ⟨⟨_,_,rfl,plainCh _ _⟩,trivial⟩ (by simp[Ne.symm hne]) ⟨hH,by rw[chRno];exact hL,trivial⟩ rfl (fun j=>rfl) rfl
 delta Rclone slQ slN ck kbq
 refine ⟨fun q=>absurd q (by omega),fun _=>⟨⟨by omega,by omega,⟨Nat.le_refl _,Nat.le_refl _⟩,⟨Nat.le_refl _,by omega⟩,one_chs _ _⟩,rfl,?_⟩⟩
 have e:List.take (0*4) (List.drop 0 ([]:List Value))++List.take (cs.length*4) (List.drop 0 (cs.flatMap chC))=cs.flatMap chC:=by
  rw[List.drop_zero,List.drop_zero,List.take_of_length_le (l:=cs.flatMap chC) (by omega)];rfl
 rw[e,Nat.zero_add]
 repeat' first|exact plainCh _ _|exact trivial|(exact wk_Q (by omega))|refine ⟨rfl,?_⟩|apply And.intro
theorem partCl{l:List Cell}{k off:Nat}(h:k<l.length)(ho:off=k*8):partA 8 (l.flatMap cellC) off=some (.agg ⟨cellC (l.getD k zeroC)⟩):=part_at (n:=8) (d:=zeroC) (c:=0) (m:=8) cellC_len h (by omega) (by omega)
theorem rn_dC(σ:Nat->Option Nat)(n:Nat)(l:List Cell):rn σ 3 (.iface n (.agg ⟨l.flatMap cellC⟩)) = .iface n (.agg ⟨l.flatMap cellC⟩):=by
 show Value.iface _ (.agg ⟨(l.flatMap cellC).map (rn σ 2)⟩)=_
 rw[List.map_congr_left (g:=fun v=>v) fun v hv =>?_,List.map_id']
 obtain ⟨c,_,h⟩:=List.mem_flatMap.1 hv
 simp only[cellC,List.mem_cons,List.not_mem_nil,or_false,List.mem_append]at h
 rcases h with h|h|h|h|h|h|h|h <;> (subst h;rfl)
theorem plAt8{H:Heap}{p:Pl}{Q:Prop}(h:H[0]?=some strO/\H[1]?=some (.cells true 1 (p.land.flatMap boolC))/\H[9]?=some (.cells false 0 (p.cts.flatMap chC))/\H[3]?=some (.cells true 1 (p.chan.flatMap boolC)) /\
  H[4]?=some (.cells true 2 (p.shp.th.flatMap ptC))/\H[5]?=some (.cells true 2 (p.shp.wa.flatMap ptC))/\H[6]?=some (.cells true 2 (p.shp.ic.flatMap ptC))/\Q):PlAt H p 1 9 3 4 5 6:=by
 obtain ⟨a0,a1,a2,a3,a4,a5,a6,_⟩:=h
 exact ⟨by decide,a0,a1,a2,a3,a4,a5,a6⟩
theorem wkAtH{H:Heap}{p:Pl}{K:Memo (sfP p)}{Q:Prop}(h:H[0]?=some strO/\H[10]?=some (.cells true 0 (wkC p 1 9 3 4 5 6 11))/\H[1]?=some (.cells true 1 (p.land.flatMap boolC))/\H[9]?=some (.cells false 0 (p.cts.flatMap chC))/\H[3]?=some (.cells true 1 (p.chan.flatMap boolC)) /\
  H[4]?=some (.cells true 2 (p.shp.th.flatMap ptC))/\H[5]?=some (.cells true 2 (p.shp.wa.flatMap ptC))/\H[6]?=some (.cells true 2 (p.shp.ic.flatMap ptC))/\H[11]?=some (.map (knE K.1))/\Q):WkAt H p K 1 9 3 4 5 6 10 11:=by
 obtain ⟨a0,a7,a1,a2,a3,a4,a5,a6,a8,_⟩:=h
 exact ⟨by decide,a0,a1,a2,a3,a4,a5,a6,a7,a8⟩
theorem kHope{p:Pl}(e0:errPl p=0){H:Heap}{l c n t w i:Nat}(a:PlAt H p l c n t w i) :
  KCall prog 25 [plV p l c n t w i] H [] (Is (.tuple #[nI (bestT (hopeP p)),nI (bestE (hopeP p))]) H):=by
 have o:=plOk e0
 have e1:=hopeErr e0
 have o1:=plOk e1
 have hcl:(hopeP p).cts.length=p.cts.length:=lstTo_len _ _
 have key:=valKs (fun _ => .tuple #[nI (bestT (hopeP p)),nI (bestE (hopeP p))]) (new:=[]) (Eq.mpr (EHope p) ?_) (pOs_ok p) rfl trivial a.1 a.objs rfl (fun _=>rfl) (args':=[plV p l c n t w i]) rfl
 ·rwa [List.append_nil]at key
 have hct:=o.cts
 have hbd:=o.bd
 delta RHope joq jof joj jo8 jo2 jo7 jo5 jod joi jor joe joh jo3 jo9 joa job joc jo0 jog jok jo1 jo4 nI slQ pt slN someR fk nw eR wR kbq ixq lq apq n2q
 refine ⟨?_,fun H' _ h=>e0 ▸ kCheck p o.lst h.2.1 h.2.2.1 h.2.2.2.1 h.2.2.2.2.1 h.2.2.2.2.2.1 h.2.2.2.2.2.2.1,?_,fun H' hn h=>hn ▸ kClone (by omega) (by omega) h.1 h.2.1 (by decide),rfl,Nat.zero_le _,⟨rfl,?_⟩,fun _=>rfl,fun x2 hx2=>⟨fun q =>?_,fun q =>?_⟩⟩
 ·repeat' first|exact trivial|refine ⟨rfl,?_⟩
 ·repeat' first|exact trivial|refine ⟨rfl,?_⟩
 ·repeat' first|exact plainCh _ _|exact trivial|exact wk_refl _|refine ⟨rfl,?_⟩|refine ⟨trivial,?_⟩|apply And.intro
 ·have hx:=of_decide_eq_true q
  have hx':x2<p.cts.length:=by omega
  have hll:=lstTo_len p.cts x2
  have hg:=lstTo_get p.cts x2 hx2 x2 hx'
  rw[if_neg (Nat.lt_irrefl x2)]at hg
  have ch:=o.chart hx'
  have hcc:=ch.len
  rw[<- hg]at hcc
  refine ⟨by omega,partCh (by omega) (by omega),rfl,Nat.zero_le _,⟨rfl,?_⟩,fun _=>rfl,fun x3 hx3=>⟨fun q3 =>?_,fun q3 =>?_⟩⟩
  ·repeat' first|exact (rn_dC _ _ _).symm|exact trivial|exact wk_refl _|exact wk_nil _ _ _ (.inl rfl)|refine ⟨rfl,?_⟩|refine ⟨trivial,?_⟩|apply And.intro
  ·have h3:=of_decide_eq_true q3
   have h3':x3<((lstTo p.cts x2).getD x2 zCh).cells.length:=by omega
   have yes:=leTo_succ h3'
   have hl3:=leTo_len _ x3 hx3
   refine ⟨by omega,partCl h3' (by omega),⟨by omega,by decide,⟨Nat.le_refl _,by rw[flat_len cellC_len];omega⟩,⟨Nat.le_refl _,by simp⟩,rfl⟩,rfl,vI64 (by omega),x3+1,by omega,by omega,rfl,?_⟩
   repeat' first|exact wk_snoc yes|exact ob_snoc cellC_len yes rfl|exact plainC _ _|exact (rn_dC _ _ _).symm|exact trivial|exact wk_refl _|refine ⟨rfl,?_⟩|refine ⟨trivial,?_⟩|apply And.intro
  ·have h3:=of_decide_eq_false q3
   have e3:x3=((lstTo p.cts x2).getD x2 zCh).cells.length:=by omega
   have fl:=flat_len (f:=chC) chC_len (lstTo p.cts x2)
   have es:setl ((lstTo p.cts x2).flatMap chC) (x2*4+3) [.iface ((leTo ((lstTo p.cts x2).getD x2 zCh) x3).length+1) (.agg ⟨(leTo ((lstTo p.cts x2).getD x2 zCh) x3).flatMap cellC⟩)]=(lstTo p.cts (x2+1)).flatMap chC:=by
    rw[e3]
    exact flat_setIn (d:=zCh) (y:=leH ((lstTo p.cts x2).getD x2 zCh)) chC_len (lstTo p.cts x2) x2 (by omega) (Nat.le_refl 4) rfl
   refine ⟨by omega,by omega,rfl,vI64 (by omega),x2+1,by omega,by omega,rfl,?_⟩
   rw[show 0+Int.toNat (x2:Int)*4+3=x2*4+3 by omega,es]
   repeat' first|exact plainCh _ _|exact trivial|exact wk_refl _|refine ⟨rfl,?_⟩|refine ⟨trivial,?_⟩|apply And.intro
 ·have hx:=of_decide_eq_false q
  have e:lstTo p.cts x2=(hopeP p).cts:=by
   show _=lstTo p.cts p.cts.length
   congr 1;omega
  rw[e]
  refine ⟨rfl,by rw[hcl],?_,fun H' hn h=>kOpenN o1.lst e1 hn rfl (plAt8 h),?_,fun H' hn h=>kArrival o1 (wkAtH h),fun r4 _=>⟨fun s =>?_,fun s =>?_⟩⟩
  ·repeat' first|exact trivial|refine ⟨rfl,?_⟩
  ·repeat' first|exact trivial|refine ⟨rfl,?_⟩
  ·have h:=of_decide_eq_true s
   rw[show bestT (hopeP p)=0 from if_pos h,show bestE (hopeP p)=51 from if_pos h]
   repeat' first|exact trivial|exact wk_refl _|refine ⟨rfl,?_⟩|apply And.intro
  ·have h:=of_decide_eq_false s
   rw[show bestT (hopeP p)=arrP (hopeP p) from if_neg h,show bestE (hopeP p)=0 from if_neg h]
   repeat' first|exact trivial|exact wk_refl _|refine ⟨rfl,?_⟩|apply And.intro
abbrev exH1:List KObj:=[.cells false 0 [nI 4000,nI 8000,nI 14000,nI 24000,nI 40000,nI 90000],.cells true 0 [nI 3,nI 1,slN 2 3,slN 14 2,slN 3 3,nI 3,nI 6000,nI 800,nI 9000,slN 6 3,slN 7 2,slN 8 2,nI 0,nI 20,nI 10,nI 100,nI 80,nI 0,nI 2],.cells true 1 [.bool false,.bool false,.bool false],.cells true 1 [.bool false,.bool false,.bool false],.cells true 0 [nI 3,nI 1,slN 2 3,slN 14 2,slN 3 3,nI 3,nI 6000,nI 800,nI 9000,slN 6 3,slN 7 2,slN 8 2,nI 0,nI 20,nI 10,nI 100,nI 80,nI 0,nI 2],.cells true 0 [nI 3,nI 6000,nI 800,nI 9000,slN 6 3,slN 7 2,slN 8 2,nI 0,nI 20,nI 10,nI 100],.cells true 2 [nI 0,nI 1000,nI 100,nI 800,nI 200,nI 0],.cells true 2 [nI 0,nI 0,nI 200,nI 400],.cells true 2 [nI 0,nI 0,nI 400,nI 2000],.cells true 8 [nI 0,nI 0,nI 0,nI 0,nI 0,nI 0,nI 0,nI 0,nI 0,nI 0,nI 0,nI 0,nI 0,nI 0,nI 0,nI 0,nI 0,nI 0,nI 0,nI 0,nI 0,nI 0,nI 0,nI 0],.cells true 4 [nI 3,nI 1,nI 0,slN 9 3],.dead,.cells true 8 [nI 0,nI 0,nI 0,nI 0,nI 0,nI 0,nI 0,nI 0,nI 0,nI 0,nI 0,nI 0,nI 0,nI 0,nI 0,nI 0,nI 0,nI 0,nI 0,nI 0,nI 0,nI 0,nI 0,nI 0],.cells true 4 [nI 3,nI 1,nI 1,slN 12 3],.cells true 4 [nI 3,nI 1,nI 0,slN 9 3,nI 3,nI 1,nI 1,slN 12 3],.cells true 0 [nI 3,nI 1,slN 2 3,slN 14 2,slN 3 3,nI 3,nI 6000,nI 800,nI 9000,slN 6 3,slN 7 2,slN 8 2,nI 0,nI 20,nI 10,nI 100,nI 80,nI 0,nI 2]]
abbrev exH2:List KObj:=[.cells false 0 [nI 4000,nI 8000,nI 14000,nI 24000,nI 40000,nI 90000],.cells true 0 [nI 3,nI 1,slN 2 3,slN 14 2,slN 3 3,nI 3,nI 6000,nI 800,nI 9000,slN 6 3,slN 7 2,slN 8 2,nI 0,nI 20,nI 10,nI 100,nI 80,nI 0,nI 2],.cells true 1 [.bool false,.bool false,.bool false],.cells true 1 [.bool false,.bool false,.bool false],.cells true 0 [nI 3,nI 1,slN 2 3,slN 14 2,slN 3 3,nI 3,nI 6000,nI 800,nI 9000,slN 6 3,slN 7 2,slN 8 2,nI 0,nI 20,nI 10,nI 100,nI 80,nI 0,nI 2],.cells true 0 [nI 3,nI 6000,nI 800,nI 9000,slN 6 3,slN 7 2,slN 8 2,nI 0,nI 20,nI 10,nI 100],.cells true 2 [nI 0,nI 1000,nI 100,nI 800,nI 200,nI 0],.cells true 2 [nI 0,nI 0,nI 200,nI 400],.cells true 2 [nI 0,nI 0,nI 400,nI 2000],.cells true 8 [nI 0,nI 0,nI 0,nI 0,nI 0,nI 0,nI 0,nI 0,nI 0,nI 100,nI 0,nI 150,nI 0,nI 0,nI 0,nI 3,nI 0,nI 0,nI 0,nI 0,nI 0,nI 0,nI 0,nI 0],.cells true 4 [nI 3,nI 1,nI 0,slN 9 3],.dead,.cells true 8 [nI 0,nI 0,nI 0,nI 0,nI 0,nI 0,nI 0,nI 0,nI 0,nI 0,nI 0,nI 0,nI 0,nI 0,nI 0,nI 0,nI 0,nI 0,nI 0,nI 0,nI 0,nI 0,nI 0,nI 0],.cells true 4 [nI 3,nI 1,nI 1,slN 12 3],.cells true 4 [nI 3,nI 1,nI 0,slN 9 3,nI 3,nI 1,nI 1,slN 12 3],.cells true 0 [nI 3,nI 1,slN 2 3,slN 14 2,slN 3 3,nI 3,nI 6000,nI 800,nI 9000,slN 6 3,slN 7 2,slN 8 2,nI 0,nI 20,nI 10,nI 100,nI 80,nI 0,nI 2],.cells true 4 [nI 1,nI 0,nI 160,nI 3,nI 2,nI 3,nI 160,nI 6]]
abbrev exH3:List KObj:=[.cells false 0 [nI 4000,nI 8000,nI 14000,nI 24000,nI 40000,nI 90000],.cells true 0 [nI 3,nI 1,slN 2 3,slN 14 2,slN 3 3,nI 3,nI 6000,nI 800,nI 9000,slN 6 3,slN 7 2,slN 8 2,nI 0,nI 20,nI 10,nI 100,nI 80,nI 0,nI 2],.cells true 1 [.bool false,.bool false,.bool false],.cells true 1 [.bool false,.bool false,.bool false],.cells true 0 [nI 3,nI 1,slN 2 3,slN 14 2,slN 3 3,nI 3,nI 6000,nI 800,nI 9000,slN 6 3,slN 7 2,slN 8 2,nI 0,nI 20,nI 10,nI 100,nI 80,nI 0,nI 2],.cells true 0 [nI 3,nI 6000,nI 800,nI 9000,slN 6 3,slN 7 2,slN 8 2,nI 0,nI 20,nI 10,nI 100],.cells true 2 [nI 0,nI 1000,nI 100,nI 800,nI 200,nI 0],.cells true 2 [nI 0,nI 0,nI 200,nI 400],.cells true 2 [nI 0,nI 0,nI 400,nI 2000],.cells true 8 [nI 0,nI 0,nI 0,nI 0,nI 0,nI 0,nI 0,nI 0,nI 0,nI 100,nI 0,nI 150,nI 0,nI 0,nI 0,nI 3,nI 0,nI 0,nI 0,nI 0,nI 0,nI 0,nI 0,nI 0],.cells true 4 [nI 3,nI 1,nI 0,slN 9 3],.dead,.cells true 8 [nI 0,nI 0,nI 0,nI 0,nI 0,nI 0,nI 0,nI 0,nI 0,nI 100,nI 0,nI 150,nI 0,nI 0,nI 0,nI 3,nI 0,nI 0,nI 0,nI 0,nI 0,nI 0,nI 0,nI 0],.cells true 4 [nI 3,nI 1,nI 1,slN 12 3],.cells true 4 [nI 3,nI 1,nI 0,slN 9 3,nI 3,nI 1,nI 1,slN 12 3],.cells true 0 [nI 3,nI 1,slN 2 3,slN 14 2,slN 3 3,nI 3,nI 6000,nI 800,nI 9000,slN 6 3,slN 7 2,slN 8 2,nI 0,nI 20,nI 10,nI 100,nI 80,nI 0,nI 2],.cells true 4 [nI 1,nI 0,nI 160,nI 3,nI 2,nI 3,nI 160,nI 6],.cells true 4 [nI 1,nI 6,nI 160,nI 9,nI 2,nI 9,nI 160,nI 12]]
abbrev exH4:List KObj:=[.cells false 0 [nI 4000,nI 8000,nI 14000,nI 24000,nI 40000,nI 90000],.cells true 0 [nI 3,nI 1,slN 2 3,slN 14 2,slN 3 3,nI 3,nI 6000,nI 800,nI 9000,slN 6 3,slN 7 2,slN 8 2,nI 0,nI 20,nI 10,nI 100,nI 80,nI 0,nI 2],.cells true 1 [.bool false,.bool false,.bool false],.cells true 1 [.bool false,.bool false,.bool false],.cells true 0 [nI 3,nI 1,slN 2 3,slN 14 2,slN 3 3,nI 3,nI 6000,nI 800,nI 9000,slN 6 3,slN 7 2,slN 8 2,nI 0,nI 20,nI 10,nI 100,nI 80,nI 0,nI 2],.cells true 0 [nI 3,nI 6000,nI 800,nI 9000,slN 6 3,slN 7 2,slN 8 2,nI 0,nI 20,nI 10,nI 100],.cells true 2 [nI 0,nI 1000,nI 100,nI 800,nI 200,nI 0],.cells true 2 [nI 0,nI 0,nI 200,nI 400],.cells true 2 [nI 0,nI 0,nI 400,nI 2000],.cells true 8 [nI 0,nI 0,nI 0,nI 0,nI 0,nI 0,nI 0,nI 0,nI 0,nI 100,nI 0,nI 150,nI 0,nI 0,nI 0,nI 3,nI 0,nI 0,nI 0,nI 0,nI 0,nI 0,nI 0,nI 0],.cells true 4 [nI 3,nI 1,nI 0,slN 9 3],.dead,.cells true 8 [nI 0,nI 0,nI 0,nI 0,nI 0,nI 0,nI 0,nI 0,nI 0,nI 100,nI 0,nI 150,nI 0,nI 0,nI 0,nI 3,nI 0,nI 0,nI 0,nI 0,nI 0,nI 0,nI 0,nI 0],.cells true 4 [nI 3,nI 1,nI 1,slN 12 3],.cells true 4 [nI 3,nI 1,nI 0,slN 9 3,nI 3,nI 1,nI 1,slN 12 3],.cells true 0 [nI 3,nI 1,slN 2 3,slN 14 2,slN 3 3,nI 3,nI 6000,nI 800,nI 9000,slN 6 3,slN 7 2,slN 8 2,nI 0,nI 20,nI 10,nI 100,nI 80,nI 0,nI 2],.cells true 4 [nI 1,nI 0,nI 160,nI 3,nI 2,nI 3,nI 160,nI 6],.cells true 4 [nI 1,nI 6,nI 160,nI 9,nI 2,nI 9,nI 160,nI 12],.cells true 1 [nI 1]]
abbrev cZ:List Value:=[zeroC,zeroC,zeroC].flatMap cellC
theorem exDp(a b:Cell){H:Heap}(h0:H[0]?=some strO)(h2:H[2]?=some (.cells true 1 [.bool false,.bool false,.bool false]))(h3:H[3]?=some (.cells true 1 [.bool false,.bool false,.bool false]))(h6:H[6]?=some (.cells true 2 [nI 0,nI 1000,nI 100,nI 800,nI 200,nI 0]))(h7:H[7]?=some (.cells true 2 [nI 0,nI 0,nI 200,nI 400]))(h8:H[8]?=some (.cells true 2 [nI 0,nI 0,nI 400,nI 2000])) :
  DpAt H (threeP a b) 2 3 6 7 8:=⟨by decide,h0,h2,h3,h6,h7,h8⟩
theorem exC1:KCall prog 8 [.agg ⟨exVs⟩] exH1 [] (Is (.tuple #[slQ 16 1 2,nI 6,nI 0]) (exH1 ++ [.cells true 4 [nI 1,nI 0,nI 160,nI 3,nI 2,nI 3,nI 160,nI 6]])):=by
 have k:=deepN (p:=threeP zeroC zeroC) (fun j => .tuple #[.slice (some ⟨j,0,some 1⟩) (bestLs (threeP zeroC zeroC)).length (bestLs (threeP zeroC zeroC)).length,nI (bestT (threeP zeroC zeroC)),nI (bestE (threeP zeroC zeroC))]) (fun a=>kBst (plOk ex_e0).lst ex_e0 a) ⟨⟨_,_,rfl,plainGL _ _⟩,trivial⟩ (H:=lentH exH1 cZ cZ) rfl (exDp zeroC zeroC rfl rfl rfl rfl rfl rfl)
 rw[exLs0,exT0,exE0]at k
 exact liveP (c9:=cZ) (c12:=cZ) rfl rfl rfl rfl (fun o ho=>by rw[List.mem_singleton.1 ho];exact ⟨rfl,rfl⟩) rfl rfl (k.wkA (exWk _ _ zeroC zeroC rfl rfl))
abbrev cV:List Value:=[zeroC,hvC,zeroC].flatMap cellC
theorem exC2:KCall prog 8 [.agg ⟨exVs⟩] exH2 [] (Is (.tuple #[slQ 17 1 2,nI 12,nI 0]) (exH2 ++ [.cells true 4 [nI 1,nI 6,nI 160,nI 9,nI 2,nI 9,nI 160,nI 12]])):=by
 have k:=deepN (p:=threeP hvC zeroC) (fun j => .tuple #[.slice (some ⟨j,0,some 1⟩) (bestLs (threeP hvC zeroC)).length (bestLs (threeP hvC zeroC)).length,nI (bestT (threeP hvC zeroC)),nI (bestE (threeP hvC zeroC))]) (fun a=>kBst (plOk ex_e1).lst ex_e1 a) ⟨⟨_,_,rfl,plainGL _ _⟩,trivial⟩ (H:=lentH exH2 cV cZ) rfl (exDp hvC zeroC rfl rfl rfl rfl rfl rfl)
 rw[exLs1,exT1,exE1]at k
 exact liveP (c9:=cV) (c12:=cZ) rfl rfl rfl rfl (fun o ho=>by rw[List.mem_singleton.1 ho];exact ⟨rfl,rfl⟩) rfl rfl (k.wkA (exWk _ _ hvC zeroC rfl rfl))
theorem exC3:KCall prog 17 [.agg ⟨exVs⟩] exH3 [] (Is (.tuple #[slQ 18 1 1,nI 0]) (exH3 ++ [.cells true 1 [nI 1]])):=by
 have k:=deepN (p:=threeP hvC hvC) (fun j => .tuple #[.slice (some ⟨j,0,some 1⟩) (wlP (threeP hvC hvC)).length (wlP (threeP hvC hvC)).length,nI (wlE (threeP hvC hvC))]) (fun a=>kWall (plOk ex_e2).lst ex_e2 a) ⟨⟨_,_,rfl,plainIL _ _⟩,trivial⟩ (H:=lentH exH3 cV cV) rfl (exDp hvC hvC rfl rfl rfl rfl rfl rfl)
 rw[ex_w2,ex_w3]at k
 exact liveP (c9:=cV) (c12:=cV) rfl rfl rfl rfl (fun o ho=>by rw[List.mem_singleton.1 ho];exact ⟨rfl,rfl⟩) rfl rfl (k.wkA (exWk _ _ hvC hvC rfl rfl))
theorem exC4:KCall prog 25 [.agg ⟨exVs⟩] exH4 [] (Is (.tuple #[nI 6,nI 0]) exH4):=by
 have k:=deepN (p:=threeP hvC hvC) (new:=[]) (fun _ => .tuple #[nI (bestT (hopeP (threeP hvC hvC))),nI (bestE (hopeP (threeP hvC hvC)))]) (fun {H l c n t w i} a=>by rw[List.append_nil];exact kHope ex_e2 a) trivial (H:=lentH exH4 cV cV) rfl (exDp hvC hvC rfl rfl rfl rfl rfl rfl)
 rw[exT2,exE2]at k
 have z:=liveP (new:=[]) (c9:=cV) (c12:=cV) rfl rfl rfl rfl (fun o ho=>by cases ho) rfl rfl (k.wkA (exWk _ _ hvC hvC rfl rfl)) (H:=exH4) (vs:=exVs) (f:=25) (v:=.tuple #[nI 6,nI 0])
 rw[List.append_nil]at z
 exact z
theorem kAwake{H:Heap}(h0:H[0]?=some strO):KCall prog 9 [] H [] (Is (.bool true) H):=by
 refine valV (os:=[strO]) (ids:=[0]) (Eq.mpr (Eawake _) ?_) rfl rfl rfl (fun _=>rfl) (by decide) ⟨h0,trivial⟩ rfl rfl
 delta Rawake jpl jpe jph jpm jpn jpo jpp jp2 jpq jpr jps jpt jpg jpi jpu jpv jpw jpx jpy jpz jp10 jp9 jp11 jpj jp7 jpk jpa jp1 jp6 jpd jpf jpb jpc jp8 jp3 jp4 jp0 jp5 nI slQ slN someR
 refine ⟨?_,fun H' hn h =>?_,?_,fun H' hn h =>?_,?_,fun H' hn h =>?_,?_,fun H' hn h =>?_,rfl⟩
 ·repeat' first|exact trivial|refine ⟨rfl,?_⟩
 ·obtain rfl:H'=exH1:=atAll_eq h hn
  exact exC1
 ·repeat' first|exact trivial|refine ⟨rfl,?_⟩
 ·obtain rfl:H'=exH2:=atAll_eq h hn
  exact exC2
 ·repeat' first|exact trivial|refine ⟨rfl,?_⟩
 ·obtain rfl:H'=exH3:=atAll_eq h hn
  exact exC3
 ·repeat' first|exact trivial|refine ⟨rfl,?_⟩
 ·obtain rfl:H'=exH4:=atAll_eq h hn
  exact exC4
def wtW(L:List Int)(n:Int):Int:=2+dN L n 5
def wtH(L:List Int)(n:Int):Int:=2+dN L (n+1) 4
def wtC(L:List Int)(n:Int)(i:Nat):Bool:=decide (0<i)&&(dN L (n+1+(i:Int)) 7 == 0)
def wtL(L:List Int)(n:Int)(k:Nat):List Bool:=(List.range k).map (wtC L n)
def wtK(L:List Int)(n:Int):Nat:=Int.toNat (wtW L n*wtH L n)
def wtD(n:Int):Nat->Int
 |0=>n+2
 |k+1=>n+2+(k:Int)
theorem wtL_succ(L:List Int)(n:Int)(k:Nat):wtL L n (k+1)=wtL L n k ++ [wtC L n k]:=by unfold wtL;rw[List.range_succ,List.map_append];rfl
theorem wtL_len(L:List Int)(n:Int)(k:Nat):(wtL L n k).length=k:=by unfold wtL;simp
theorem wt_bd(L:List Int)(n:Int):(2<=wtW L n/\wtW L n<=6)/\2<=wtH L n/\wtH L n<=5:=by
 have h1:=dN_bd L n (m:=5) (by omega)
 have h2:=dN_bd L (n+1) (m:=4) (by omega)
 unfold wtW wtH
 omega
theorem wt_mul(L:List Int)(n:Int):4<=wtW L n*wtH L n/\wtW L n*wtH L n<=30:=by
 obtain ⟨h1,h2⟩:=wt_bd L n
 have a:2*2<=wtW L n*wtH L n:=Int.mul_le_mul h1.1 h2.1 (by omega) (by omega)
 have b:wtW L n*wtH L n<=6*5:=Int.mul_le_mul h1.2 h2.2 (by omega) (by omega)
 omega
abbrev u8C(x:Int):List Value:=[.int .u8 x]
def bytesOk(l:List Int):Prop:=∀x∈l,0<=x/\x<=255
structure CurSo(l:List Pt)(way:Int)(k:Nat)(x y:Int):Prop where
 len:l.length=k+1
 z:(l.getD 0 zP).1=0
 last:l.getD k zP=(x,y)
 pt:∀i,i<=k->ptOk l i=true
 st:∀i,i<=k->stOk l way i=true
theorem getD_app{l:List Pt}{q:Pt}{i:Nat}(h:i<l.length):(l ++ [q]).getD i zP=l.getD i zP:=by
 rw[List.getD_eq_getElem?_getD,List.getD_eq_getElem?_getD,List.getElem?_append_left h]
theorem getD_lst{l:List Pt}{q:Pt}:(l ++ [q]).getD l.length zP=q:=by
 rw[List.getD_eq_getElem?_getD,List.getElem?_append_right (Nat.le_refl _),Nat.sub_self];rfl
theorem CurSo.one{way x y:Int}(hx:x=0)(hy:0<=y/\y<=20000):CurSo [(x,y)] way 0 x y:=by
 subst hx
 refine ⟨rfl,rfl,rfl,fun i hi =>?_,fun i hi =>?_⟩
 ·obtain rfl:i=0:=by omega
  show (inB 0 0 400&&inB y 0 20000 && !(decide (0<0)&&_))=true
  rw[inB_iff.2 (show (0:Int)<=0/\(0:Int)<=400 by omega),inB_iff.2 hy];rfl
 ·obtain rfl:i=0:=by omega
  rfl
theorem CurSo.more{l:List Pt}{way x y x' y':Int}{k:Nat}(c:CurSo l way k x y)(hx:x<x'/\x'<=400)(h0:0<=x')(hy:0<=y'/\y'<=20000)(hw:0<=(y'-y)*way):CurSo (l ++ [(x',y')]) way (k+1) x' y':=by
 have hl:=c.len
 have e1:(l ++ [(x',y')]).getD (k+1) zP=(x',y'):=by rw[<- hl];exact getD_lst
 have e0:∀i,i<=k->(l ++ [(x',y')]).getD i zP=l.getD i zP:=fun i hi=>getD_app (by omega)
 refine ⟨by rw[List.length_append,hl];rfl,by rw[e0 0 (by omega)];exact c.z,e1,fun i hi =>?_,fun i hi =>?_⟩
 ·by_cases e:i=k+1
  ·subst e
   unfold ptOk
   rw[e1,show k+1-1=k from rfl,e0 k (Nat.le_refl _),c.last,inB_iff.2 (show 0<=x'/\x'<=400 by omega),inB_iff.2 hy,decide_eq_false (show ¬ x'<=x by omega),Bool.and_false];rfl
  ·have:=c.pt i (by omega)
   unfold ptOk at this ⊢
   rw[e0 i (by omega),e0 (i-1) (by omega)];exact this
 ·by_cases e:i=k+1
  ·subst e
   unfold stOk
   rw[e1,show k+1-1=k from rfl,e0 k (Nat.le_refl _),c.last,decide_eq_false (show ¬ (y'-y)*way<0 by omega)]
   simp
  ·have:=c.st i (by omega)
   unfold stOk at this ⊢
   rw[e0 i (by omega),e0 (i-1) (by omega)];exact this
theorem CurSo.ok{l:List Pt}{way x y:Int}{k:Nat}(c:CurSo l way k x y)(h1:1<=k)(h2:k<=7):steB l way=true/\endX l=x:=by
 have hl:=c.len
 refine ⟨?_,by unfold endX;rw[hl,Nat.add_sub_cancel,c.last]⟩
 unfold steB curB
 rw[inB_iff.2 (show (2:Int)<=(l.length:Int)/\(l.length:Int)<=8 by omega),c.z]
 have a:(List.range l.length).all (ptOk l)=true:=by
  rw[List.all_eq_true];intro i hi;exact c.pt i (by have:=List.mem_range.1 hi;omega)
 have b:(List.range l.length).all (stOk l way)=true:=by
  rw[List.all_eq_true];intro i hi;exact c.st i (by have:=List.mem_range.1 hi;omega)
 rw[a,b];rfl
def byL(L:List Int)(n:Int)(k:Nat):List Int:=(List.range k).map fun (j:Nat)=>dN L (n+1+(j:Int)) 256
theorem byL_succ(L:List Int)(n:Int)(k:Nat):byL L n (k+1)=byL L n k ++ [dN L (n+1+(k:Int)) 256]:=by unfold byL;rw[List.range_succ,List.map_append];rfl
theorem byL_len(L:List Int)(n:Int)(k:Nat):(byL L n k).length=k:=by unfold byL;simp
theorem byL_ok(L:List Int)(n:Int)(k:Nat):bytesOk (byL L n k):=by
 intro x hx
 unfold byL at hx
 obtain ⟨j,_,rfl⟩:=List.mem_map.1 hx
 have:=dN_bd L (n+1+(j:Int)) (m:=256) (by omega)
 omega
def cellsOk(nl:Nat)(l:List Cell):Prop:=l.length=nl/\∀k,k<l.length->rightC (l.getD k zeroC)
def ChSo(w h b:Int)(nl:Nat)(cs:List Cht):Prop:=∀i,i<cs.length->(cs.getD i zCh).w=w/\(cs.getD i zCh).h=h/\(cs.getD i zCh).hr=b+(i:Int)/\cellsOk nl (cs.getD i zCh).cells
abbrev jr0(L:List Int):Value:=.agg ⟨(L.flatMap intC)⟩
abbrev jr3(L:List Int)(n:Int):List Value:=[.iface (L.length+1) (jr0 L),nI (n+1)]
abbrev jr9(L:List Int)(n:Int):List Value:=[.iface (L.length+1) (jr0 L),nI ((n+1)+1)]
abbrev jr5:Prop:=eR (pt 1)/\eR (pt 2)/\eR (pt 3)/\True
abbrev jr2(L:List Int)(n:Int)(x2:Nat):List Value:=[.iface (L.length+1) (jr0 L),nI (wtD n x2)]
abbrev jr6(L:List Int)(n:Int)(x2:Nat):Prop:=(wtL L n x2).length<=(wtL L n x2).length/\0+(wtL L n x2).length*1<=List.length ((wtL L n x2).flatMap boolC)
abbrev jr1(L:List Int)(n:Int)(x2 x2':Nat):Prop:=wkO (.cells true 0 [nI (wtW L n),nI (wtH L n),slN 6 ((wtL L n x2).length+1)]:KObj) (rno (sg 4 [(4,6)]) 3 (.cells true 0 [nI (wtW L n),nI (wtH L n),slQ 4 1 (wtL L n x2').length]:KObj))/\True
abbrev jr8:List Value:=[.bool false]
def Rwaters(L:List Int)(n:Int):Prop :=
 (((someR (.cells true 0 [.iface (L.length+1) (jr0 L),nI n]))/\True)/\(∀H':Heap,H'.length=3->(H'[1]?=some (.cells true 0 [.iface (L.length+1) (jr0 L),nI n]:KObj)/\True)->KCall prog 13 [pt 1,nI 5] H' [1] (Is (nI (dN L n 5)) (List.set H' 1 (.cells true 0 (jr3 L n):KObj))))/\(nw (2+(dN L n 5)) (((someR (.cells true 0 (jr3 L n)))/\True)/\(∀H':Heap,H'.length=3->(H'[1]?=some (.cells true 0 (jr3 L n):KObj)/\True)->KCall prog 13 [pt 1,nI 4] H' [1] (Is (nI (dN L (n+1) 4)) (List.set H' 1 (.cells true 0 (jr9 L n):KObj))))/\(nw (2+(dN L (n+1) 4)) (((nI (2+(dN L n 5)):Value)=nI (wtW L n))/\(((nI (2+(dN L (n+1) 4)):Value)=nI (wtH L n))/\(lq (0<=wtK L n) (true=true/\((nI 0:Value)=nI ((0:Nat):Int)/\jr5)/\((kbq 4 (.cells true 0 (jr9 L n)) (.cells true 0 [.iface (L.length+1) (jr0 L),nI (wtD n 0)]))/\wkO (.cells true 0 [nI (2+(dN L n 5)),nI (2+(dN L (n+1) 4)),.slice none 0 0]:KObj) (rno (sg 4 []) 3 (.cells true 0 [nI (wtW L n),nI (wtH L n),slQ 4 1 (wtL L n 0).length]:KObj))/\True)/\(True/\True)/\(True)) (∀x2:Nat,(x2<=wtK L n)->(nw ((wtW L n)*(wtH L n)) (fk (decide (((x2:Int):Int)<((wtW L n)*(wtH L n)))) (fk (decide ((0:Int)<(x2:Int))) (((someR (.cells true 0 (jr2 L n x2)))/\True)/\(∀H':Heap,H'.length=5->(H'[1]?=some (.cells true 0 (jr2 L n x2):KObj)/\True)->KCall prog 13 [pt 1,nI 7] H' [1] (Is (nI (dN L (wtD n x2) 7)) (List.set H' 1 (.cells true 0 [.iface (L.length+1) (jr0 L),nI ((wtD n x2)+1)]:KObj))))/\((((wtL L n x2).length+1)*1<=2 ^ 44/\1≠0/\(jr6 L n x2)/\(1<=1/\0+1*1<=List.length ([.bool (((dN L (wtD n x2) 7):Int) == 0)]:List Value))/\(((([.bool (((dN L (wtD n x2) 7):Int) == 0)]:List Value).drop 0).take (1*1)):List Value).all (fun v=>one1 v)=true)/\true=true/\(nw ((x2:Int)+1) (∃x2':Nat,(x2'<=wtK L n)/\(wtK L n-x2')<(wtK L n-x2)/\true=true/\((nI ((x2:Int)+1):Value)=nI (x2':Int)/\jr5)/\((kbq 4 (.cells true 0 [.iface (L.length+1) (jr0 L),nI ((wtD n x2)+1)]) (.cells true 0 [.iface (L.length+1) (jr0 L),nI (wtD n x2')]))/\jr1 L n x2 x2')/\((kbq 4 (.cells true 1 (((((wtL L n x2).flatMap boolC).drop 0).take ((wtL L n x2).length*1))++((([.bool (((dN L (wtD n x2) 7):Int) == 0)]:List Value).drop 0).take (1*1)))) (.cells true 1 ((wtL L n x2').flatMap boolC)))/\True)/\(True))))) ((((wtL L n x2).length+1)*1<=2 ^ 44/\1≠0/\(jr6 L n x2)/\(1<=1/\0+1*1<=List.length jr8)/\(((jr8.drop 0).take (1*1)):List Value).all (fun v=>one1 v)=true)/\true=true/\(nw ((x2:Int)+1) (∃x2':Nat,(x2'<=wtK L n)/\(wtK L n-x2')<(wtK L n-x2)/\true=true/\((nI ((x2:Int)+1):Value)=nI (x2':Int)/\jr5)/\((kbq 4 (.cells true 0 (jr2 L n x2)) (.cells true 0 [.iface (L.length+1) (jr0 L),nI (wtD n x2')]))/\jr1 L n x2 x2')/\((kbq 4 (.cells true 1 (((((wtL L n x2).flatMap boolC).drop 0).take ((wtL L n x2).length*1))++((jr8.drop 0).take (1*1)))) (.cells true 1 ((wtL L n x2').flatMap boolC)))/\True)/\(True))))) (∃x:Unit,True/\(true=true/\wk (.agg #[nI (wtW L n),nI (wtH L n),slQ 4 1 (wtL L n x2).length]:Value) (rn (sg 2 [(2,4)]) 3 (.agg #[nI (wtW L n),nI (wtH L n),slQ 2 1 (wtL L n (wtK L n)).length]:Value))/\((kbq 2 (.cells true 0 (jr2 L n x2)) (.cells true 0 [.iface (L.length+1) (jr0 L),nI (wtD n (wtK L n))]))/\True)/\((kbq 2 (.cells true 1 ((wtL L n x2).flatMap boolC)) (.cells true 1 ((wtL L n (wtK L n)).flatMap boolC)))/\True)))))))))))))
abbrev jr4(L:List Int)(n:Int):=readsK [.cells false 0 [nI 4000,nI 8000,nI 14000,nI 24000,nI 40000,nI 90000],.cells true 0 [.iface (L.length+1) (jr0 L),nI n]]
abbrev jr7(x2:Nat):Hint:=.need (.go 3 (.slot 20 (nI ((x2:Int)+1)) (.go 0 (.again [(4,6)]))))
theorem Ewaters(L:List Int)(n:Int):vF prog msk (dm 0) 100000 true 40 true 27 [pt 1] (jr4 L n) (some [1])
 (.go 1 (.answ [(1,.cells true 0 [.iface (L.length+1) (jr0 L),nI n])] (nI (dN L n 5)) [(1,.cells true 0 (jr3 L n))] [] (.go 0 (.slot 7 (nI (2+(dN L n 5))) (.go 0 (.answ [(1,.cells true 0 (jr3 L n))] (nI (dN L (n+1) 4)) [(1,.cells true 0 (jr9 L n))] [] (.go 0 (.slot 10 (nI (2+(dN L (n+1) 4))) (.go 0 (.slot 7 (nI (wtW L n)) (.slot 10 (nI (wtH L n)) (.go 2 (.inv 3 (Nat) (0) [] [1,3] (fun x2=>[(4,nI (x2:Int)),(0,pt 1),(2,pt 2),(3,pt 3)]) (fun x2=>[(1,true,.cells true 0 (jr2 L n x2)),(3,false,.cells true 0 [nI (wtW L n),nI (wtH L n),slQ 4 1 (wtL L n x2).length])]) (fun x2=>[(true,.cells true 1 ((wtL L n x2).flatMap boolC))]) (fun x2=>[]) (fun x2=>(x2<=wtK L n)) (fun x2=>(wtK L n-x2)) (fun x2 => .go 5 (.slot 17 (nI ((wtW L n)*(wtH L n))) (.go 0 (.fork (.go 4 (.gfork (.go 0 (.answ [(1,.cells true 0 (jr2 L n x2))] (nI (dN L (wtD n x2) 7)) [(1,.cells true 0 [.iface (L.length+1) (jr0 L),nI ((wtD n x2)+1)])] [] (.go 2 (jr7 x2)))) (.go 1 (jr7 x2)))) (.go 1 (.keep (.again [(2,4)]))))))))))))))))))))
 (newKWE (α:=Unit) ((jr4 L n):HT).n 3 [1] (fun x=>True) (fun x => .agg #[nI (wtW L n),nI (wtH L n),slQ 2 1 (wtL L n (wtK L n)).length]) (fun x=>[(1,true,.cells true 0 [.iface (L.length+1) (jr0 L),nI (wtD n (wtK L n))])]) (fun x=>[(true,.cells true 1 ((wtL L n (wtK L n)).flatMap boolC))]))=Rwaters L n:=by kernel_rfl
abbrev dgO(L:List Int)(n:Int):KObj:=.cells true 0 (digC L n)
theorem dg_plo(L:List Int)(n:Int):PloO (dgO L n):=ploC (plainDig 0 L n)
theorem dg_rno(L:List Int)(n:Int)(σ:Nat->Option Nat):rno σ 3 (dgO L n)=dgO L n:=(dg_plo L n).rn σ
abbrev dgOs(L:List Int)(n:Int):List KObj:=[strO,dgO L n]
theorem dgOs_ok(L:List Int)(n:Int):(dgOs L n).all (rnoOk 3)=true:=by
 show (rnoOk 3 strO&&(rnoOk 3 (dgO L n)&&true))=true
 rw[(dg_plo L n).ok];rfl
theorem valD{f:FuncId}{args:List Value}{L:List Int}{n:Int}{h:Hint}{α:Type}{I:α->Prop}(v:α->Nat->Value){d:α->Int}{new:α->List KObj}
  (hc:vF prog msk (dm 0) 100000 true 40 true f args (readsK (dgOs L n)) (some [1]) h (newKWE (α:=α) (readsK (dgOs L n)).n 3 [1] I (fun x=>v x 2) (fun x=>[(1,true,dgO L (d x))]) (fun x=>(new x).map fun o=>(true,o))))
  (hv:∀x,I x->rnOk 3 (v x 2)=true) (hn:∀x,I x->newAll (new x)) {H:Heap} {D:Nat} (hD:D≠0) (h3:∀x j,I x->rn (sgNew (sgI [0,D]) 2 j) 3 (v x 2)=v x j) (h0:H[0]?=some strO) (h1:H[D]?=some (dgO L n)) {args':List Value} (ha:args.map (rn (sgI [0,D]) 3)=args') :
  KCall prog f args' H [D] (fun y H2 => ∃x,I x/\y=v x H.length/\H2=H.set D (dgO L (d x))++new x) :=
 valWE (os:=dgOs L n) (ids:=[0,D]) v (chg:=fun x=>[(1,true,dgO L (d x))]) (new:=new) (ks:=[1]) hc (dgOs_ok L n) (fun k hk=>by obtain rfl:=List.mem_singleton.1 hk;exact ⟨_,rfl,rfl⟩) hv (fun x _=>⟨⟨List.mem_singleton.2 rfl,dg_plo L _⟩,trivial⟩) hn (by simp[Ne.symm hD]) ⟨h0,by rw[dg_rno];exact h1,trivial⟩ rfl h3 ha (ms:=[D]) rfl
theorem kNextD{L:List Int}{n m:Int}(hn:0<=n/\n<=1000000000)(hm:1<=m/\m<=1000000000){H:Heap}(hH:1<=H.length){D:Nat}(hD:H[D]?=some (dgO L n)):KCall prog 13 [pt D,nI m] H [D] (Is (nI (dN L n m)) (H.set D (dgO L (n+1)))):=kNext L n m hn hm hH hD
theorem kWaters{L:List Int}{n:Int}(hn:0<=n/\n<=900000000){H:Heap}{D:Nat}(hD:D≠0)(h0:H[0]?=some strO)(h1:H[D]?=some (dgO L n)) :
  KCall prog 27 [pt D] H [D] (fun y H2 => ∃x:Unit,True/\y = .agg #[nI (wtW L n),nI (wtH L n),.slice (some ⟨H.length,0,some 1⟩) (wtL L n (wtK L n)).length (wtL L n (wtK L n)).length]/\H2=H.set D (dgO L (wtD n (wtK L n))) ++ [.cells true 1 ((wtL L n (wtK L n)).flatMap boolC)]):=by
 refine valD (α:=Unit) (I:=fun _=>True) (fun _ j => .agg #[nI (wtW L n),nI (wtH L n),.slice (some ⟨j,0,some 1⟩) (wtL L n (wtK L n)).length (wtL L n (wtK L n)).length]) (d:=fun _=>wtD n (wtK L n)) (new:=fun _=>[.cells true 1 ((wtL L n (wtK L n)).flatMap boolC)]) (Eq.mpr (Ewaters L n) ?_) (fun _ _=>rfl) (fun _ _=>⟨⟨_,_,rfl,plainBL _ _⟩,trivial⟩) hD (fun _ _ _=>rfl) h0 h1 rfl
 have hb:=wt_bd L n
 have hm:=wt_mul L n
 have hk:wtK L n=Int.toNat (wtW L n*wtH L n):=rfl
 have b1:=dN_bd L n (m:=5) (by omega)
 have b2:=dN_bd L (n+1) (m:=4) (by omega)
 delta Rwaters jr0 jr3 jr9 jr5 jr2 jr6 jr1 jr8 nI slQ pt slN someR fk nw eR kbq lq
 refine ⟨⟨rfl,trivial⟩,fun H' hl h=>kNextD (by omega) (by omega) (by omega) h.1,vI64 (by omega),⟨rfl,trivial⟩,fun H' hl h=>kNextD (by omega) (by omega) (by omega) h.1,vI64 (by omega),rfl,rfl,rfl,Nat.zero_le _,⟨rfl,?_⟩,fun _=>rfl,fun x2 hx2=>⟨vI64 (by omega),fun q =>?_,fun q =>?_⟩⟩
 ·rw[show n+1+1=wtD n 0 by show _=n+2;omega]
  repeat' first|exact plainDig _ _ _|exact trivial|exact wk_refl _|refine wkO_cells ?_|refine wks_cons ?_ ?_|exact wk_nil _ _ _ (.inl rfl)|refine ⟨rfl,?_⟩|refine ⟨trivial,?_⟩|apply And.intro
 ·have h2:=of_decide_eq_true q
  have hl:=wtL_len L n x2
  refine ⟨fun r =>?_,fun r =>?_⟩
  ·have hr:=of_decide_eq_true r
   obtain ⟨k,rfl⟩:∃k,x2=k+1:=⟨x2-1,by omega⟩
   have e0:wtD n (k+1)=n+2+(k:Int):=rfl
   have e1:wtD n (k+1)+1=wtD n (k+1+1):=by show n+2+(k:Int)+1=n+2+((k+1:Nat):Int);omega
   have ec:wtC L n (k+1)=(dN L (wtD n (k+1)) 7 == 0):=by
    unfold wtC
    rw[decide_eq_true (Nat.succ_pos k),Bool.true_and,show n+1+((k+1:Nat):Int)=wtD n (k+1) by rw[e0];omega]
   have yes:wtL L n (k+1+1)=wtL L n (k+1) ++ [dN L (wtD n (k+1)) 7 == 0]:=by rw[wtL_succ,ec]
   refine ⟨⟨rfl,trivial⟩,fun H' hl h=>kNextD (by omega) (by omega) (by omega) h.1,⟨by omega,by decide,⟨Nat.le_refl _,by rw[flat_len boolC_len];omega⟩,⟨Nat.le_refl _,by simp⟩,rfl⟩,rfl,vI64 (by omega),k+1+1,by omega,by omega,rfl,?_⟩
   rw[e1]
   repeat' first|exact plainDig _ _ _|exact wk_snoc yes|exact ob_snoc boolC_len yes rfl|exact plainBL _ _|exact trivial|exact wk_refl _|refine wkO_cells ?_|refine wks_cons ?_ ?_|refine ⟨rfl,?_⟩|apply And.intro
  ·have hr:=of_decide_eq_false r
   obtain rfl:x2=0:=by omega
   have yes:wtL L n (0+1)=wtL L n 0 ++ [false]:=by rw[wtL_succ];rfl
   have e1:wtD n 0=wtD n (0+1):=by show n+2=n+2+((0:Nat):Int);omega
   refine ⟨⟨by omega,by decide,⟨Nat.le_refl _,by rw[flat_len boolC_len];omega⟩,⟨Nat.le_refl _,by simp⟩,rfl⟩,rfl,vI64 (by omega),0+1,by omega,by omega,rfl,?_⟩
   rw[e1]
   repeat' first|exact plainDig _ _ _|exact wk_snoc yes|exact plainBL _ _|exact trivial|exact wk_refl _|refine wkO_cells ?_|refine wks_cons ?_ ?_|refine ⟨rfl,?_⟩|apply And.intro
 ·have h2:=of_decide_eq_false q
  rw[show x2=wtK L n by omega]
  refine ⟨(),trivial,?_⟩
  repeat' first|exact plainDig _ _ _|exact plainBL _ _|exact trivial|exact wk_refl _|refine ⟨rfl,?_⟩|apply And.intro
abbrev js0(L:List Int):Value:=.agg ⟨(L.flatMap intC)⟩
abbrev jsc(L:List Int)(n:Int):List Value:=[.iface (L.length+1) (js0 L),nI (n+1)]
abbrev jso(x:Cell×Int)(n:Int):Prop:=rightC x.1/\n<=x.2/\x.2<=n+9
abbrev js9(x:Cell×Int):=rn (sg 2 []) 3 (.agg #[nI x.1.conc.lo,nI x.1.conc.hi,nI x.1.thick.lo,nI x.1.thick.hi,nI x.1.ridge.lo,nI x.1.ridge.hi,nI x.1.press.lo,nI x.1.press.hi]:Value)
abbrev js8(L:List Int)(n:Int):List Value:=[.iface (L.length+1) (js0 L),nI ((n+1)+1)]
abbrev js6(L:List Int)(n:Int):List Value:=[.iface (L.length+1) (js0 L),nI (((n+1)+1)+1)]
abbrev jsj(L:List Int)(n:Int):=dN L (((n+1)+1)+1) 251
abbrev js5(L:List Int)(n:Int):List Value:=[.iface (L.length+1) (js0 L),nI ((((n+1)+1)+1)+1)]
abbrev jsl(L:List Int)(n:Int):=dN L ((((n+1)+1)+1)+1) 101
abbrev js4(L:List Int)(n:Int):List Value:=[.iface (L.length+1) (js0 L),nI (((((n+1)+1)+1)+1)+1)]
abbrev jsf(L:List Int)(n:Int):=dN L (((((n+1)+1)+1)+1)+1) 21
abbrev js3(L:List Int)(n:Int):List Value:=[.iface (L.length+1) (js0 L),nI ((((((n+1)+1)+1)+1)+1)+1)]
abbrev jsh(L:List Int)(n:Int):=dN L ((((((n+1)+1)+1)+1)+1)+1) 21
abbrev js2(L:List Int)(n:Int):List Value:=[.iface (L.length+1) (js0 L),nI (((((((n+1)+1)+1)+1)+1)+1)+1)]
abbrev jsa(L:List Int)(n:Int):=dN L (((((((n+1)+1)+1)+1)+1)+1)+1) 4
abbrev js1(L:List Int)(n:Int):List Value:=[.iface (L.length+1) (js0 L),nI ((((((((n+1)+1)+1)+1)+1)+1)+1)+1)]
abbrev jsd(L:List Int)(n:Int):=dN L ((((((((n+1)+1)+1)+1)+1)+1)+1)+1) 4
abbrev js7(L:List Int)(n:Int):List Value:=[.iface (L.length+1) (js0 L),nI (((((((((n+1)+1)+1)+1)+1)+1)+1)+1)+1)]
abbrev jsp(L:List Int)(n:Int)(x:Cell×Int):Prop:=((kbq 2 (.cells true 0 (js7 L n)) (.cells true 0 [.iface (L.length+1) (js0 L),nI x.2]))/\True)/\(True)
abbrev jsk(L:List Int)(n:Int):=dN L (((n+1)+1)+1) 61
abbrev jsn(L:List Int)(n:Int):=dN L ((((n+1)+1)+1)+1) 31
abbrev jsg(L:List Int)(n:Int):=dN L (((((n+1)+1)+1)+1)+1) 5
abbrev jsi(L:List Int)(n:Int):=dN L ((((((n+1)+1)+1)+1)+1)+1) 5
abbrev jsb(L:List Int)(n:Int):=dN L (((((((n+1)+1)+1)+1)+1)+1)+1) 2
abbrev jse(L:List Int)(n:Int):=dN L ((((((((n+1)+1)+1)+1)+1)+1)+1)+1) 2
def Rcell(L:List Int)(n:Int):Prop :=
 (((someR (.cells true 0 [.iface (L.length+1) (js0 L),nI n]))/\True)/\(∀H':Heap,H'.length=4->(H'[1]?=some (.cells true 0 [.iface (L.length+1) (js0 L),nI n]:KObj)/\True)->KCall prog 13 [pt 1,nI 4] H' [1] (Is (nI (dN L n 4)) (List.set H' 1 (.cells true 0 (jsc L n):KObj))))/\(fk (((dN L n 4):Int) == 0) (∃x:Cell×Int,(jso x n)/\(true=true/\wk (.agg #[nI 0,nI 0,nI 0,nI 0,nI 0,nI 0,nI 0,nI 0]:Value) (js9 x)/\((kbq 2 (.cells true 0 (jsc L n)) (.cells true 0 [.iface (L.length+1) (js0 L),nI x.2]))/\True)/\(True))) (fk (((dN L n 4):Int) == 1) (((someR (.cells true 0 (jsc L n)))/\True)/\(∀H':Heap,H'.length=5->(H'[1]?=some (.cells true 0 (jsc L n):KObj)/\True)->KCall prog 13 [pt 1,nI 101] H' [1] (Is (nI (dN L (n+1) 101)) (List.set H' 1 (.cells true 0 (js8 L n):KObj))))/\(((someR (.cells true 0 (js8 L n)))/\True)/\(∀H':Heap,H'.length=5->(H'[1]?=some (.cells true 0 (js8 L n):KObj)/\True)->KCall prog 13 [pt 1,nI 31] H' [1] (Is (nI (dN L ((n+1)+1) 31)) (List.set H' 1 (.cells true 0 (js6 L n):KObj))))/\(nw ((dN L (n+1) 101)+(dN L ((n+1)+1) 31)) (((someR (.cells true 0 (js6 L n)))/\True)/\(∀H':Heap,H'.length=6->(H'[1]?=some (.cells true 0 (js6 L n):KObj)/\True)->KCall prog 13 [pt 1,nI 251] H' [1] (Is (nI (jsj L n)) (List.set H' 1 (.cells true 0 (js5 L n):KObj))))/\(((someR (.cells true 0 (js5 L n)))/\True)/\(∀H':Heap,H'.length=6->(H'[1]?=some (.cells true 0 (js5 L n):KObj)/\True)->KCall prog 13 [pt 1,nI 101] H' [1] (Is (nI (jsl L n)) (List.set H' 1 (.cells true 0 (js4 L n):KObj))))/\(nw ((jsj L n)+(jsl L n)) (((someR (.cells true 0 (js4 L n)))/\True)/\(∀H':Heap,H'.length=7->(H'[1]?=some (.cells true 0 (js4 L n):KObj)/\True)->KCall prog 13 [pt 1,nI 21] H' [1] (Is (nI (jsf L n)) (List.set H' 1 (.cells true 0 (js3 L n):KObj))))/\(((someR (.cells true 0 (js3 L n)))/\True)/\(∀H':Heap,H'.length=7->(H'[1]?=some (.cells true 0 (js3 L n):KObj)/\True)->KCall prog 13 [pt 1,nI 21] H' [1] (Is (nI (jsh L n)) (List.set H' 1 (.cells true 0 (js2 L n):KObj))))/\(nw ((jsf L n)+(jsh L n)) (((someR (.cells true 0 (js2 L n)))/\True)/\(∀H':Heap,H'.length=8->(H'[1]?=some (.cells true 0 (js2 L n):KObj)/\True)->KCall prog 13 [pt 1,nI 4] H' [1] (Is (nI (jsa L n)) (List.set H' 1 (.cells true 0 (js1 L n):KObj))))/\(((someR (.cells true 0 (js1 L n)))/\True)/\(∀H':Heap,H'.length=8->(H'[1]?=some (.cells true 0 (js1 L n):KObj)/\True)->KCall prog 13 [pt 1,nI 4] H' [1] (Is (nI (jsd L n)) (List.set H' 1 (.cells true 0 (js7 L n):KObj))))/\(nw ((jsa L n)+(jsd L n)) (∃x:Cell×Int,(jso x n)/\(true=true/\wk (.agg #[nI (if (100:Int)<(dN L (n+1) 101) then (100:Int) else (dN L (n+1) 101)),nI (if (100:Int)<((dN L (n+1) 101)+(dN L ((n+1)+1) 31)) then (100:Int) else ((dN L (n+1) 101)+(dN L ((n+1)+1) 31))),nI (if (400:Int)<(jsj L n) then (400:Int) else (jsj L n)),nI (if (400:Int)<((jsj L n)+(jsl L n)) then (400:Int) else ((jsj L n)+(jsl L n))),nI (if (100:Int)<(jsf L n) then (100:Int) else (jsf L n)),nI (if (100:Int)<((jsf L n)+(jsh L n)) then (100:Int) else ((jsf L n)+(jsh L n))),nI (if (3:Int)<(jsa L n) then (3:Int) else (jsa L n)),nI (if (3:Int)<((jsa L n)+(jsd L n)) then (3:Int) else ((jsa L n)+(jsd L n)))]:Value) (js9 x)/\jsp L n x)))))))))))))) (((someR (.cells true 0 (jsc L n)))/\True)/\(∀H':Heap,H'.length=5->(H'[1]?=some (.cells true 0 (jsc L n):KObj)/\True)->KCall prog 13 [pt 1,nI 61] H' [1] (Is (nI (dN L (n+1) 61)) (List.set H' 1 (.cells true 0 (js8 L n):KObj))))/\(((someR (.cells true 0 (js8 L n)))/\True)/\(∀H':Heap,H'.length=5->(H'[1]?=some (.cells true 0 (js8 L n):KObj)/\True)->KCall prog 13 [pt 1,nI 41] H' [1] (Is (nI (dN L ((n+1)+1) 41)) (List.set H' 1 (.cells true 0 (js6 L n):KObj))))/\(nw ((dN L (n+1) 61)+(dN L ((n+1)+1) 41)) (((someR (.cells true 0 (js6 L n)))/\True)/\(∀H':Heap,H'.length=6->(H'[1]?=some (.cells true 0 (js6 L n):KObj)/\True)->KCall prog 13 [pt 1,nI 61] H' [1] (Is (nI (jsk L n)) (List.set H' 1 (.cells true 0 (js5 L n):KObj))))/\(((someR (.cells true 0 (js5 L n)))/\True)/\(∀H':Heap,H'.length=6->(H'[1]?=some (.cells true 0 (js5 L n):KObj)/\True)->KCall prog 13 [pt 1,nI 31] H' [1] (Is (nI (jsn L n)) (List.set H' 1 (.cells true 0 (js4 L n):KObj))))/\(nw ((jsk L n)+(jsn L n)) (((someR (.cells true 0 (js4 L n)))/\True)/\(∀H':Heap,H'.length=7->(H'[1]?=some (.cells true 0 (js4 L n):KObj)/\True)->KCall prog 13 [pt 1,nI 5] H' [1] (Is (nI (jsg L n)) (List.set H' 1 (.cells true 0 (js3 L n):KObj))))/\(((someR (.cells true 0 (js3 L n)))/\True)/\(∀H':Heap,H'.length=7->(H'[1]?=some (.cells true 0 (js3 L n):KObj)/\True)->KCall prog 13 [pt 1,nI 5] H' [1] (Is (nI (jsi L n)) (List.set H' 1 (.cells true 0 (js2 L n):KObj))))/\(nw ((jsg L n)+(jsi L n)) (((someR (.cells true 0 (js2 L n)))/\True)/\(∀H':Heap,H'.length=8->(H'[1]?=some (.cells true 0 (js2 L n):KObj)/\True)->KCall prog 13 [pt 1,nI 2] H' [1] (Is (nI (jsb L n)) (List.set H' 1 (.cells true 0 (js1 L n):KObj))))/\(((someR (.cells true 0 (js1 L n)))/\True)/\(∀H':Heap,H'.length=8->(H'[1]?=some (.cells true 0 (js1 L n):KObj)/\True)->KCall prog 13 [pt 1,nI 2] H' [1] (Is (nI (jse L n)) (List.set H' 1 (.cells true 0 (js7 L n):KObj))))/\(nw ((jsb L n)+(jse L n)) (∃x:Cell×Int,(jso x n)/\(true=true/\wk (.agg #[nI (if (100:Int)<(dN L (n+1) 61) then (100:Int) else (dN L (n+1) 61)),nI (if (100:Int)<((dN L (n+1) 61)+(dN L ((n+1)+1) 41)) then (100:Int) else ((dN L (n+1) 61)+(dN L ((n+1)+1) 41))),nI (if (400:Int)<(jsk L n) then (400:Int) else (jsk L n)),nI (if (400:Int)<((jsk L n)+(jsn L n)) then (400:Int) else ((jsk L n)+(jsn L n))),nI (if (100:Int)<(jsg L n) then (100:Int) else (jsg L n)),nI (if (100:Int)<((jsg L n)+(jsi L n)) then (100:Int) else ((jsg L n)+(jsi L n))),nI (if (3:Int)<(jsb L n) then (3:Int) else (jsb L n)),nI (if (3:Int)<((jsb L n)+(jse L n)) then (3:Int) else ((jsb L n)+(jse L n)))]:Value) (js9 x)/\jsp L n x)))))))))))))))))
abbrev jsm(L:List Int)(n:Int):=readsK [.cells false 0 [nI 4000,nI 8000,nI 14000,nI 24000,nI 40000,nI 90000],.cells true 0 [.iface (L.length+1) (js0 L),nI n]]
theorem Ecell(L:List Int)(n:Int):vF prog msk (dm 0) 100000 true 40 true 29 [pt 1] (jsm L n) (some [1])
 (.go 4 (.answ [(1,.cells true 0 [.iface (L.length+1) (js0 L),nI n])] (nI (dN L n 4)) [(1,.cells true 0 (jsc L n))] [] (.go 1 (.fork (.go 1 (.keep (.again []))) (.go 1 (.fork (.go 0 (.into (some [1,2,3]) (.go 3 (.answ [(1,.cells true 0 (jsc L n))] (nI (dN L (n+1) 101)) [(1,.cells true 0 (js8 L n))] [] (.go 7 (.answ [(1,.cells true 0 (js8 L n))] (nI (dN L ((n+1)+1) 31)) [(1,.cells true 0 (js6 L n))] [] (.go 0 (.slot 21 (nI ((dN L (n+1) 101)+(dN L ((n+1)+1) 31))) (.go 3 (.keep (.go 0 (.into (some [1,2,3,4]) (.go 3 (.answ [(1,.cells true 0 (js6 L n))] (nI (jsj L n)) [(1,.cells true 0 (js5 L n))] [] (.go 7 (.answ [(1,.cells true 0 (js5 L n))] (nI (jsl L n)) [(1,.cells true 0 (js4 L n))] [] (.go 0 (.slot 21 (nI ((jsj L n)+(jsl L n))) (.go 3 (.keep (.go 0 (.into (some [1,2,3,4,5]) (.go 3 (.answ [(1,.cells true 0 (js4 L n))] (nI (jsf L n)) [(1,.cells true 0 (js3 L n))] [] (.go 7 (.answ [(1,.cells true 0 (js3 L n))] (nI (jsh L n)) [(1,.cells true 0 (js2 L n))] [] (.go 0 (.slot 21 (nI ((jsf L n)+(jsh L n))) (.go 3 (.keep (.go 0 (.into (some [1,2,3,4,5,6]) (.go 3 (.answ [(1,.cells true 0 (js2 L n))] (nI (jsa L n)) [(1,.cells true 0 (js1 L n))] [] (.go 7 (.answ [(1,.cells true 0 (js1 L n))] (nI (jsd L n)) [(1,.cells true 0 (js7 L n))] [] (.go 0 (.slot 21 (nI ((jsa L n)+(jsd L n))) (.go 3 (.keep (.go 1 (.keep (.again []))))))))))))))))))))))))))))))))))))))))))) (.go 0 (.into (some [1,2,3]) (.go 3 (.answ [(1,.cells true 0 (jsc L n))] (nI (dN L (n+1) 61)) [(1,.cells true 0 (js8 L n))] [] (.go 7 (.answ [(1,.cells true 0 (js8 L n))] (nI (dN L ((n+1)+1) 41)) [(1,.cells true 0 (js6 L n))] [] (.go 0 (.slot 21 (nI ((dN L (n+1) 61)+(dN L ((n+1)+1) 41))) (.go 3 (.keep (.go 0 (.into (some [1,2,3,4]) (.go 3 (.answ [(1,.cells true 0 (js6 L n))] (nI (jsk L n)) [(1,.cells true 0 (js5 L n))] [] (.go 7 (.answ [(1,.cells true 0 (js5 L n))] (nI (jsn L n)) [(1,.cells true 0 (js4 L n))] [] (.go 0 (.slot 21 (nI ((jsk L n)+(jsn L n))) (.go 3 (.keep (.go 0 (.into (some [1,2,3,4,5]) (.go 3 (.answ [(1,.cells true 0 (js4 L n))] (nI (jsg L n)) [(1,.cells true 0 (js3 L n))] [] (.go 7 (.answ [(1,.cells true 0 (js3 L n))] (nI (jsi L n)) [(1,.cells true 0 (js2 L n))] [] (.go 0 (.slot 21 (nI ((jsg L n)+(jsi L n))) (.go 3 (.keep (.go 0 (.into (some [1,2,3,4,5,6]) (.go 3 (.answ [(1,.cells true 0 (js2 L n))] (nI (jsb L n)) [(1,.cells true 0 (js1 L n))] [] (.go 7 (.answ [(1,.cells true 0 (js1 L n))] (nI (jse L n)) [(1,.cells true 0 (js7 L n))] [] (.go 0 (.slot 21 (nI ((jsb L n)+(jse L n))) (.go 3 (.keep (.go 1 (.keep (.again [])))))))))))))))))))))))))))))))))))))))))))))))))
 (newKWE (α:=Cell×Int) ((jsm L n):HT).n 3 [1] (fun x=>(jso x n)) (fun x => .agg #[nI x.1.conc.lo,nI x.1.conc.hi,nI x.1.thick.lo,nI x.1.thick.hi,nI x.1.ridge.lo,nI x.1.ridge.hi,nI x.1.press.lo,nI x.1.press.hi]) (fun x=>[(1,true,.cells true 0 [.iface (L.length+1) (js0 L),nI x.2])]) (fun x=>[]))=Rcell L n:=by kernel_rfl
theorem dn2{L:List Int}{a b m k:Int}(hm:1<=m/\m<=100000)(hk:1<=k/\k<=100000):(nI (IntKind.wrap .i64 (dN L a m+dN L b k)):Value)=nI (dN L a m+dN L b k):=by
 have h1:=dN_bd L a hm.1
 have h2:=dN_bd L b hk.1
 exact vI64 (by omega)
def spI(L:List Int)(a b m k c:Int):Span:=⟨if c<dN L a m then c else dN L a m,if c<dN L a m+dN L b k then c else dN L a m+dN L b k⟩
theorem spI_ok{L:List Int}{a b m k c:Int}(hc:0<=c)(hm:1<=m)(hk:1<=k):rightSp (spI L a b m k c) c:=by
 have h1:=dN_bd L a hm
 have h2:=dN_bd L b hk
 unfold rightSp spI
 dsimp only
 by_cases p:c<dN L a m
 ·rw[if_pos p,if_pos (by omega)];omega
 ·rw[if_neg p]
  by_cases q:c<dN L a m+dN L b k
  ·rw[if_pos q];omega
  ·rw[if_neg q];omega
theorem zero_right:rightC zeroC:=by decide
theorem kCell{L:List Int}{n:Int}(hn:0<=n/\n<=900000000){H:Heap}{D:Nat}(hD:D≠0)(h0:H[0]?=some strO)(h1:H[D]?=some (dgO L n)) :
  KCall prog 29 [pt D] H [D] (fun y H2 => ∃x:Cell×Int,(rightC x.1/\n<=x.2/\x.2<=n+9)/\y = .agg ⟨cellC x.1⟩/\H2=H.set D (dgO L x.2)):=by
 have key:=valD (α:=Cell×Int) (I:=fun x=>rightC x.1/\n<=x.2/\x.2<=n+9) (fun x _ => .agg ⟨cellC x.1⟩) (d:=fun x=>x.2) (new:=fun _=>[]) (Eq.mpr (Ecell L n) ?_) (fun _ _=>rfl) (fun _ _=>trivial) hD (fun _ _ _=>rfl) h0 h1 (args':=[pt D]) rfl
 ·refine key.post ?_
  rintro y H2 ⟨x,hx,rfl,rfl⟩
  exact ⟨x,hx,rfl,List.append_nil _⟩
 delta Rcell js0 jsc jso js9 js8 js6 jsj js5 jsl js4 jsf js3 jsh js2 jsa js1 jsd js7 jsp jsk jsn jsg jsi jsb jse nI pt someR fk nw kbq
 refine ⟨⟨rfl,trivial⟩,fun H' hl h=>kNextD (by omega) (by omega) (by omega) h.1,fun q =>?_,fun q=>⟨fun r =>?_,fun r =>?_⟩⟩
 ·refine ⟨(zeroC,n+1),⟨zero_right,by show n<=n+1;omega,by show n+1<=n+9;omega⟩,?_⟩
  repeat' first|exact plainDig _ _ _|exact trivial|exact wk_refl _|refine ⟨rfl,?_⟩|apply And.intro
 ·refine ⟨⟨rfl,trivial⟩,fun H' hl h=>kNextD (by omega) (by omega) (by omega) h.1,⟨rfl,trivial⟩,fun H' hl h=>kNextD (by omega) (by omega) (by omega) h.1,dn2 (by decide) (by decide),⟨rfl,trivial⟩,fun H' hl h=>kNextD (by omega) (by omega) (by omega) h.1,⟨rfl,trivial⟩,fun H' hl h=>kNextD (by omega) (by omega) (by omega) h.1,dn2 (by decide) (by decide),
   ⟨rfl,trivial⟩,fun H' hl h=>kNextD (by omega) (by omega) (by omega) h.1,⟨rfl,trivial⟩,fun H' hl h=>kNextD (by omega) (by omega) (by omega) h.1,dn2 (by decide) (by decide),⟨rfl,trivial⟩,fun H' hl h=>kNextD (by omega) (by omega) (by omega) h.1,⟨rfl,trivial⟩,fun H' hl h=>kNextD (by omega) (by omega) (by omega) h.1,dn2 (by decide) (by decide),
   (⟨spI L (n+1) (n+1+1) 101 31 100,spI L (n+1+1+1) (n+1+1+1+1) 251 101 400,spI L (n+1+1+1+1+1) (n+1+1+1+1+1+1) 21 21 100,spI L (n+1+1+1+1+1+1+1) (n+1+1+1+1+1+1+1+1) 4 4 3⟩,n+1+1+1+1+1+1+1+1+1),⟨⟨spI_ok (by decide) (by decide) (by decide),spI_ok (by decide) (by decide) (by decide),spI_ok (by decide) (by decide) (by decide),spI_ok (by decide) (by decide) (by decide)⟩,by show n<=n+1+1+1+1+1+1+1+1+1;omega,by show n+1+1+1+1+1+1+1+1+1<=n+9;omega⟩,rfl,wk_refl _,⟨⟨rfl,plainDig _ _ _⟩,trivial⟩,trivial⟩
 ·refine ⟨⟨rfl,trivial⟩,fun H' hl h=>kNextD (by omega) (by omega) (by omega) h.1,⟨rfl,trivial⟩,fun H' hl h=>kNextD (by omega) (by omega) (by omega) h.1,dn2 (by decide) (by decide),⟨rfl,trivial⟩,fun H' hl h=>kNextD (by omega) (by omega) (by omega) h.1,⟨rfl,trivial⟩,fun H' hl h=>kNextD (by omega) (by omega) (by omega) h.1,dn2 (by decide) (by decide),
   ⟨rfl,trivial⟩,fun H' hl h=>kNextD (by omega) (by omega) (by omega) h.1,⟨rfl,trivial⟩,fun H' hl h=>kNextD (by omega) (by omega) (by omega) h.1,dn2 (by decide) (by decide),⟨rfl,trivial⟩,fun H' hl h=>kNextD (by omega) (by omega) (by omega) h.1,⟨rfl,trivial⟩,fun H' hl h=>kNextD (by omega) (by omega) (by omega) h.1,dn2 (by decide) (by decide),
   (⟨spI L (n+1) (n+1+1) 61 41 100,spI L (n+1+1+1) (n+1+1+1+1) 61 31 400,spI L (n+1+1+1+1+1) (n+1+1+1+1+1+1) 5 5 100,spI L (n+1+1+1+1+1+1+1) (n+1+1+1+1+1+1+1+1) 2 2 3⟩,n+1+1+1+1+1+1+1+1+1),⟨⟨spI_ok (by decide) (by decide) (by decide),spI_ok (by decide) (by decide) (by decide),spI_ok (by decide) (by decide) (by decide),spI_ok (by decide) (by decide) (by decide)⟩,by show n<=n+1+1+1+1+1+1+1+1+1;omega,by show n+1+1+1+1+1+1+1+1+1<=n+9;omega⟩,rfl,wk_refl _,⟨⟨rfl,plainDig _ _ _⟩,trivial⟩,trivial⟩
abbrev jt1(x:Int×Int)(m:Int)(l:List Int):Prop:=(0<=x.1/\x.1<m)/\0<=x.2/\x.2<=((List.length l:Nat):Int)
def Rdraw(l:List Int)(i m:Int):Prop :=
 (fk (decide ((((l.length:Nat):Int):Int)<=i)) (∃x:Int×Int,(jt1 x m l)/\(true=true/\wk (nI 0:Value) (rn (sg 4 []) 3 (nI x.1:Value))/\((kbq 4 (.cells true 0 [nI i]) (.cells true 0 [nI x.2]))/\True)/\(True))) (nw (i+1) (nw ((i+1)-1) ((ixq ((i+1)-1) l.length)/\(((l.flatMap u8C)[(0+Int.toNat ((i+1)-1)*1)]?=some (.int .u8 (l.getD ((i+1)-1).toNat 0)))/\(∃y0:Int,bw (IntKind.wrap .i64 (l.getD ((i+1)-1).toNat 0)) y0/\(((m:Int)≠0)/\(∃x:Int×Int,(jt1 x m l)/\(true=true/\wk (nI (Int.tmod y0 m):Value) (rn (sg 4 []) 3 (nI x.1:Value))/\((kbq 4 (.cells true 0 [nI (i+1)]) (.cells true 0 [nI x.2]))/\True)/\(True))))))))))
abbrev jt0(i:Int)(l:List Int):=readsK [.cells false 0 [nI 4000,nI 8000,nI 14000,nI 24000,nI 40000,nI 90000],.cells true 0 [nI i],.cells true 0 [slQ 3 2 l.length],.cells true 1 (l.flatMap u8C)]
theorem Edraw(l:List Int)(i m:Int):vF prog msk (dm 0) 100000 true 40 true 118 [nI m,pt 1,pt 2] (jt0 i l) (some [1])
 (.go 4 (.fork (.go 0 (.again [])) (.go 1 (.slot 10 (nI (i+1)) (.go 3 (.slot 13 (nI ((i+1)-1)) (.need (.val (.int .u8 (l.getD ((i+1)-1).toNat 0)) (.go 0 (.bind Int (fun y0 => .slot 16 (nI y0) (.go 0 (.need (.go 0 (.again [])))))))))))))))
 (newKWE (α:=Int×Int) ((jt0 i l):HT).n 3 [1] (fun x=>(jt1 x m l)) (fun x=>nI x.1) (fun x=>[(1,true,.cells true 0 [nI x.2])]) (fun x=>[]))=Rdraw l i m:=by kernel_rfl
theorem u8C_len(x:Int):(u8C x).length=1:=rfl
theorem plainU(n:Nat)(l:List Int):(l.flatMap u8C).all (belowC n)=true:=plain_flat (fun _=>rfl) l
theorem u8At{a:List Int}{k:Nat}(h:k<a.length){off:Nat}(ho:off=k):(a.flatMap u8C)[off]?=some (.int .u8 (a.getD k 0)):=cell_at (c:=0) u8C_len h (by omega) rfl
theorem u8Rno(o:Bool)(z:Nat)(l:List Int)(σ:Nat->Option Nat):rno σ 3 (.cells o z (l.flatMap u8C)) = .cells o z (l.flatMap u8C):=congrArg (KObj.cells o z) (rnCl (d:=0) (plainU 0 l)).1
theorem u8Rok(o:Bool)(z:Nat)(l:List Int):rnoOk 3 (.cells o z (l.flatMap u8C))=true:=(rnCl (σ:=fun _=>none) (d:=0) (plainU 0 l)).2
theorem kDraw{l:List Int}(hb:bytesOk l)(hl:l.length<=1000000){i m:Int}(hi:0<=i/\i<=(l.length:Int))(hm:1<=m){H:Heap}{I B Y:Nat}(hnd:[0,I,B,Y].Nodup)(h0:H[0]?=some strO)(h1:H[I]?=some (.cells true 0 [nI i]))(h2:H[B]?=some (.cells true 0 [slQ Y 2 l.length]))(h3:H[Y]?=some (.cells true 1 (l.flatMap u8C))) :
  KCall prog 118 [nI m,pt I,pt B] H [I] (fun y H2 => ∃z:Int×Int,((0<=z.1/\z.1<m)/\0<=z.2/\z.2<=(l.length:Int))/\y=nI z.1/\H2=H.set I (.cells true 0 [nI z.2])):=by
 have key:=valWE (α:=Int×Int) (I:=fun z=>(0<=z.1/\z.1<m)/\0<=z.2/\z.2<=(l.length:Int)) (os:=[strO,.cells true 0 [nI i],.cells true 0 [slQ 3 2 l.length],.cells true 1 (l.flatMap u8C)]) (fun z _=>nI z.1) (chg:=fun z=>[(1,true,.cells true 0 [nI z.2])]) (new:=fun _=>[]) (ks:=[1]) (ids:=[0,I,B,Y])
  (Eq.mpr (Edraw l i m) ?_) (by show (rnoOk 3 strO&&(rnoOk 3 (.cells true 0 [nI i])&&(rnoOk 3 (.cells true 0 [slQ 3 2 l.length])&&(rnoOk 3 (.cells true 1 (l.flatMap u8C))&&true))))=true;rw[u8Rok];rfl) (fun k hk=>by obtain rfl:=List.mem_singleton.1 hk;exact ⟨_,rfl,rfl⟩) (fun _ _=>rfl) (fun z _=>⟨⟨List.mem_singleton.2 rfl,ploC rfl⟩,trivial⟩) (fun _ _=>trivial) hnd ⟨h0,h1,h2,by rw[u8Rno];exact h3,trivial⟩ rfl (fun _ _ _=>rfl) (args':=[nI m,pt I,pt B]) rfl (ms:=[I]) rfl
 ·refine key.post ?_
  rintro y H2 ⟨x,hx,rfl,rfl⟩
  exact ⟨x,hx,rfl,List.append_nil _⟩
 delta Rdraw jt1 nI fk nw bw kbq ixq
 refine ⟨fun q =>?_,fun q =>?_⟩
 ·refine ⟨(0,i),⟨⟨Int.le_refl _,by show 0<m;omega⟩,hi⟩,rfl,wk_refl _,⟨⟨rfl,rfl⟩,trivial⟩,trivial⟩
 ·have h:=of_decide_eq_false q
  have e:i+1-1=i:=by omega
  have hx:=hb (l.getD (Int.toNat (i+1-1)) 0) (getD_mem (by omega))
  refine ⟨vI64 (by omega),vI64 (by omega),by omega,u8At (by omega) (by omega),_,vI64 (by omega),by omega,(Int.tmod (l.getD (Int.toNat (i+1-1)) 0) m,i+1),⟨⟨Int.tmod_nonneg _ hx.1,Int.tmod_lt_of_pos _ (by omega)⟩,by show 0<=i+1;omega,by show i+1<=_;omega⟩,rfl,wk_refl _,⟨⟨rfl,rfl⟩,trivial⟩,trivial⟩
end
end Go.Proofs.YtmecpfikljhjaaaDoor
