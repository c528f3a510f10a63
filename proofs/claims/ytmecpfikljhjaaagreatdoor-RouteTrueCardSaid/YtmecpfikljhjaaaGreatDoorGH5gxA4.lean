/- What is to be shown of functions. Printed by a program. No condition. -/
import Derived.Test.YtmecpfikljhjaaaGreatDoorGH1gxH4
import Derived.Test.YtmecpfikljhjaaaGreatDoorGK27xA0
import Derived.Test.YtmecpfikljhjaaaGreatDoorV14
open Go Go.K
set_option maxRecDepth 1000000
set_option maxHeartbeats 4000000
set_option linter.unusedVariables false
set_option linter.unusedSimpArgs false
namespace Go.Proofs.YtmecpfikljhjaaaGreatDoor
noncomputable section
attribute [local irreducible] vF
abbrev je6(p:Pl):aa:=.cells false 0 (p.land.flatMap af)
abbrev je4(p:Pl):=fN p.w p.h p.land.length
abbrev je2(p:Pl):Int:=(p.cts.length:Nat)
abbrev je5(p:Pl):Prop:=eR (pt 7)/\wR (slQ 2 2 p.cts.length)/\eR (nI (je2 p))/\True
abbrev je1(p:Pl)(x2:Nat):Value:=.agg #[nI (p.cts.getD x2 zCh).w,nI (p.cts.getD x2 zCh).h,nI (p.cts.getD x2 zCh).hr,.iface ((List.length (p.cts.getD x2 zCh).cells)+1) (.agg ⟨(List.flatMap cellC (p.cts.getD x2 zCh).cells)⟩)]
abbrev je0(p:Pl)(x2:Nat):=cD (p.cts.getD x2 zCh).w (p.cts.getD x2 zCh).h (p.cts.getD x2 zCh).hr (p.cts.getD x2 zCh).cells
def xT(sp:Value)(p:Pl):Prop :=
 (c1q 8 1 (je6 p) 76 [.agg #[nI p.w,nI p.h,slQ 1 2 p.land.length]] (nI (je4 p)) (fk (((je4 p):Int) != 0) ((nI (je4 p):Value)=sp) (c0q 8 77 [nI (je2 p),nI 1,nI 48] (.bool (inB (je2 p) 1 48)) (fk (!(inB (je2 p) 1 48)) ((nI 2:Value)=sp) (lq (0<=List.length p.cts/\cd (ct p) 0=0) (true=true/\((nI 0:Value)=nI ((0:Nat):Int)/\je5 p)/\(True)/\(True)/\(True)) (∀x2:Nat,(x2<=List.length p.cts/\cd (ct p) x2=0)->(fk (decide (((x2:Int):Int)<(je2 p))) ((ixq (x2:Int) p.cts.length)/\((cN 4 (p.cts.flatMap chC) (0+Int.toNat (x2:Int)*4)=some (je1 p x2))/\(c1q 10 9 (.cells false 0 (List.flatMap cellC (p.cts.getD x2 zCh).cells)) 78 [.agg #[nI (p.cts.getD x2 zCh).w,nI (p.cts.getD x2 zCh).h,nI (p.cts.getD x2 zCh).hr,slQ 9 2 (List.length (p.cts.getD x2 zCh).cells)]] (nI (je0 p x2)) (fk (((je0 p x2):Int) != 0) ((nI (je0 p x2):Value)=sp) (fk (((p.cts.getD x2 zCh).w:Int) != p.w) ((nI 1:Value)=sp) (fk (((p.cts.getD x2 zCh).h:Int) != p.h) ((nI 1:Value)=sp) ((ixq 0 p.cts.length)/\(((p.cts.flatMap chC)[2]?=some (nI (p.cts.getD 0 zCh).hr))/\(nw ((p.cts.getD 0 zCh).hr+(x2:Int)) (fk (((p.cts.getD x2 zCh).hr:Int) != ((p.cts.getD 0 zCh).hr+(x2:Int))) ((nI 11:Value)=sp) (nw ((x2:Int)+1) (∃x2':Nat,(x2'<=List.length p.cts/\cd (ct p) x2'=0)/\(List.length p.cts-x2')<(List.length p.cts-x2)/\true=true/\((nI ((x2:Int)+1):Value)=nI (x2':Int)/\je5 p)/\(True)/\(True)/\(True))))))))))))) (fk ((((p.chan.length:Nat):Int):Int) != ((p.land.length:Nat):Int)) ((nI 1:Value)=sp) (c3q 8 4 (.cells false 0 (p.shp.th.flatMap ptC)) 5 (.cells false 0 (p.shp.wa.flatMap ptC)) 6 (.cells false 0 (p.shp.ic.flatMap ptC)) 79 [.agg #[nI p.shp.cls,nI p.shp.pow,nI p.shp.dra,nI p.shp.ton,slQ 4 2 p.shp.th.length,slQ 5 2 p.shp.wa.length,slQ 6 2 p.shp.ic.length,nI p.shp.slow,nI p.shp.aw,nI p.shp.rdg,nI p.shp.prs]] (nI (aU p.shp)) (fk (((aU p.shp):Int) != 0) ((nI (aU p.shp):Value)=sp) (c0q 8 77 [nI p.size,nI 1,nI 500] (.bool (inB p.size 1 500)) (fk (!(inB p.size 1 500)) ((nI 6:Value)=sp) (c1q 8 1 (je6 p) 60 [.agg #[nI p.w,nI p.h,slQ 1 2 p.land.length],nI p.frm] (.bool (fh p.land p.frm)) (fk (!(fh p.land p.frm)) ((nI 1:Value)=sp) (c1q 8 1 (je6 p) 60 [.agg #[nI p.w,nI p.h,slQ 1 2 p.land.length],nI p.to] (.bool (fh p.land p.to)) (fk (!(fh p.land p.to)) ((nI 1:Value)=sp) ((nI 0:Value)=sp)))))))))))))))))
abbrev je3(p:Pl):List (Nat×aa):=[(1,.cells false 0 (p.land.flatMap af))]
theorem Ef(sp:Value)(p:Pl):vF prog msk (dm 0) 100000 true 40 true 29 [.agg #[nI p.w,nI p.h,slQ 1 2 p.land.length,slQ 2 2 p.cts.length,slQ 3 2 p.chan.length,nI p.shp.cls,nI p.shp.pow,nI p.shp.dra,nI p.shp.ton,slQ 4 2 p.shp.th.length,slQ 5 2 p.shp.wa.length,slQ 6 2 p.shp.ic.length,nI p.shp.slow,nI p.shp.aw,nI p.shp.rdg,nI p.shp.prs,nI p.size,nI p.frm,nI p.to]] (cq 1 [p.land.flatMap af,p.cts.flatMap chC,p.chan.flatMap af,p.shp.th.flatMap ptC,p.shp.wa.flatMap ptC,p.shp.ic.flatMap ptC]) (some [])
 (.go 3 (.ans (je3 p) (nI (je4 p)) [] (.go 2 (.fork (.auto) (.go 2 (.ans [] (.bool (inB (je2 p) 1 48)) [] (.go 0 (.fork (.auto) (.go 3 (.inv 3 (Nat) (0) [] [] (fun x2=>[(22,nI (x2:Int)),(1,pt 7),(20,slQ 2 2 p.cts.length),(21,nI (je2 p))]) (fun x2=>[]) (fun x2=>[]) (fun x2=>[]) (fun x2=>(x2<=List.length p.cts/\cd (ct p) x2=0)) (fun x2=>(List.length p.cts-x2)) (fun x2 => .go 0 (.fork (.go 0 (.need (.val (je1 p x2) (.go 3 (.frz [27] (.ans [(9,.cells false 0 (List.flatMap cellC (p.cts.getD x2 zCh).cells))] (nI (je0 p x2)) [] (.go 3 (.fork (.auto) (.go 6 (.aM (.auto) (.go 7 (.fork (.auto) (.go 3 (.need (.go 0 (.val (nI (p.cts.getD 0 zCh).hr) (.go 1 (.slot 57 (nI ((p.cts.getD 0 zCh).hr+(x2:Int))) (.go 1 (.fork (.auto) (.go 0 (.slot 59 (nI ((x2:Int)+1)) (.go 0 (.again [])))))))))))))))))))))))) (.go 7 (.fork (.auto) (.go 1 (.ans [(4,.cells false 0 (p.shp.th.flatMap ptC)),(5,.cells false 0 (p.shp.wa.flatMap ptC)),(6,.cells false 0 (p.shp.ic.flatMap ptC))] (nI (aU p.shp)) [] (.go 3 (.fork (.auto) (.go 1 (.ans [] (.bool (inB p.size 1 500)) [] (.go 1 (.fork (.auto) (.go 3 (.ans (je3 p) (.bool (fh p.land p.frm)) [] (.go 1 (.aM (.auto) (.go 3 (.ans (je3 p) (.bool (fh p.land p.to)) [] (.go 2 (.fork (.auto) (.auto)))))))))))))))))))))))))))))))
 (fun v _ _=>v=sp)=xT sp p:=by kernel_rfl
theorem eC(c:Cht):(chC c).length=4:=rfl
theorem IB(n:Nat)(c:Cht):ao n (.iface (c.cells.length+1) (.agg ⟨c.cells.flatMap cellC⟩))=true:=by
 show (c.cells.flatMap cellC).all (b7 n)=true
 rw[List.all_flatMap,List.all_eq_true]
 intro r _;rfl
theorem IC(n:Nat)(c:Cht):(chC c).all (ao n)=true:=by
 show (true&&(true&&(true&&(ao n (.iface (c.cells.length+1) (.agg ⟨c.cells.flatMap cellC⟩))&&true))))=true
 rw[IB];rfl
theorem ei(n:Nat)(l:List Cht):(l.flatMap chC).all (ao n)=true:=cQ (fun c=>IC n c) l
theorem Ai{l:List Cht}{k off:Nat}(h:k<l.length)(ho:off=k*4):cN 4 (l.flatMap chC) off=some (.agg ⟨chC (l.getD k zCh)⟩):=jc (n:=4) (d:=zCh) (c:=0) (m:=4) eC h (by omega) (by omega)
theorem ID{l:List Cht}{k off:Nat}(h:k<l.length)(ho:off=k*4+2):(l.flatMap chC)[off]?=some (nI (l.getD k zCh).hr):=eZ (c:=2) (d:=zCh) eC h (by omega) rfl
structure zn(p:Pl):Prop where
 land:p.land.length<=1000000
 cts:p.cts.length<=1000000
 chan:p.chan.length<=1000000
 shp:uG p.shp
theorem ud{e:Nat->Int}{n k:Nat}(h0:cd e k=0)(h1:e k≠0)(hk:k<n):cd e n=e k:=ue h0 h1 hk
theorem iU{w h t:Int}{cs:List Cell}(e:cD w h t cs=0):0<=t/\t<=10000:=by
 unfold cD bM at e
 split at e
 ·rename_i q;exact (iT.1 q).2.2.2
 ·rename_i q;exact absurd e q
theorem zf{p:Pl}{i:Nat}(e:ct p i=0):0<=(p.cts.getD i zCh).hr/\(p.cts.getD i zCh).hr<=10000:=by
 unfold ct at e
 dsimp only at e
 by_cases q:cD (p.cts.getD i zCh).w (p.cts.getD i zCh).h (p.cts.getD i zCh).hr (p.cts.getD i zCh).cells=0
 ·exact iU q
 ·rw[eA q]at e;exact absurd e q
theorem AV(p:Pl)(hp:zn p){H:Heap}{l c n t w i:Nat}{o1 o2 o3 o4 o5 o6:Bool}{z1 z2 z3 z4 z5 z6:Nat}
  (h1:H[l]?=some (.cells o1 z1 (p.land.flatMap af))) (h2:H[c]?=some (.cells o2 z2 (p.cts.flatMap chC))) (h3:H[n]?=some (.cells o3 z3 (p.chan.flatMap af))) (h4:H[t]?=some (.cells o4 z4 (p.shp.th.flatMap ptC))) (h5:H[w]?=some (.cells o5 z5 (p.shp.wa.flatMap ptC))) (h6:H[i]?=some (.cells o6 z6 (p.shp.ic.flatMap ptC))) :
  ad prog 29 [plV p l c n t w i] H [] (Is (nI (bO p)) H):=by
 refine iy (css:=[p.land.flatMap af,p.cts.flatMap chC,p.chan.flatMap af,p.shp.th.flatMap ptC,p.shp.wa.flatMap ptC,p.shp.ic.flatMap ptC]) (v:=nI (bO p)) (ids:=[l,c,n,t,w,i]) (Eq.mpr (Ef _ p) ?_) ⟨bW _ _,ei _ _,bW _ _,dR _ _,dR _ _,dR _ _,trivial⟩ rfl ⟨⟨_,_,h1⟩,⟨_,_,h2⟩,⟨_,_,h3⟩,⟨_,_,h4⟩,⟨_,_,h5⟩,⟨_,_,h6⟩,trivial⟩ rfl
 have hl1:=hp.land
 delta xT bO je6 je4 je2 je5 je1 je0 nI slQ pt fk nw eR wR ixq lq c0q c1q c3q
 refine ⟨⟨rfl,trivial⟩,fun H' _ h=>Gd _ _ _ h.1,fun e =>?_,fun e =>?_⟩
 ·rw[eA (neB e)]
 rw[bI (rk e)]
 refine ⟨trivial,fun H' hl _=>yQ _ _ _ (by omega),fun e =>?_,fun e =>?_⟩
 ·rw[if_pos (kl e)]
 rw[if_neg (by rw[dL e];simp)]
 have hn:=aR.1 (dL e)
 refine ⟨rfl,⟨Nat.zero_le _,rfl⟩,?_,fun _=>rfl,fun x ⟨hx,hu⟩=>⟨fun k =>?_,fun k =>?_⟩⟩
 ·repeat' first|exact trivial|exact ae _|refine ⟨rfl,?_⟩|refine ⟨trivial,?_⟩|apply And.intro
 ·have hx1:x<p.cts.length:=by have:=of_decide_eq_true k;omega
  have bad:∀{v:Int},v≠0->ct p x=v->(nI v)=nI (bM (cd (ct p) p.cts.length) (if p.chan.length≠p.land.length then 1 else bM (aU p.shp) (if inB p.size 1 500=false then 6 else if (fh p.land p.frm&&fh p.land p.to)=false then 1 else 0))):=fun {v} h1 h2=>by
   rw[ud hu (by rw[h2];exact h1) hx1,h2,eA h1]
  refine ⟨⟨by omega,by omega⟩,Ai hx1 (by omega),⟨rfl,trivial⟩,fun H' _ h=>Ga _ _ _ _ h.1,fun a =>?_,fun a =>?_⟩
  ·exact bad (neB a) (by unfold ct;exact eA (neB a))
  have e1:ct p x=if (p.cts.getD x zCh).w=p.w/\(p.cts.getD x zCh).h=p.h then (if (p.cts.getD x zCh).hr=(p.cts.getD 0 zCh).hr+(x:Int) then 0 else 11) else 1:=by unfold ct;exact bI (rk a)
  refine ⟨fun b=>bad (by decide) (by rw[e1,if_neg (fun q=>u4 b q.1)]),fun b=>⟨fun d=>bad (by decide) (by rw[e1,if_neg (fun q=>u4 d q.2)]),fun d =>?_⟩⟩
  rw[if_pos ⟨zg b,zg d⟩]at e1
  have h0:0<=(p.cts.getD 0 zCh).hr/\(p.cts.getD 0 zCh).hr<=10000:=by
   by_cases q:x=0
   ·subst q;exact iU (rk a)
   ·exact zf (dX hu 0 (by omega))
  refine ⟨⟨by omega,by omega⟩,ID (by omega) (by omega),ak (by omega),fun f=>bad (by decide) (by rw[e1,if_neg (u4 f)]),fun f =>?_⟩
  rw[if_pos (zg f)]at e1
  refine ⟨ak (by omega),x+1,⟨by omega,fM hu e1⟩,by omega,rfl,?_⟩
  repeat' first|exact trivial|exact ae _|refine ⟨rfl,?_⟩|refine ⟨trivial,?_⟩|apply And.intro
 ·have h1:x=p.cts.length:=by have:=of_decide_eq_false k;omega
  rw[h1]at hu
  rw[bI hu]
  refine ⟨fun a =>?_,fun a =>?_⟩
  ·rw[if_pos (fun q=>u4 a (by rw[q]))]
  rw[if_neg (fun q=>q (by have:=zg a;omega))]
  refine ⟨⟨rfl,rfl,rfl,trivial⟩,fun H' _ h=>qX _ hp.shp h.1 h.2.1 h.2.2.1,fun b =>?_,fun b =>?_⟩
  ·rw[eA (neB b)]
  rw[bI (rk b)]
  refine ⟨trivial,fun H' hl _=>yQ _ _ _ (by omega),fun d =>?_,fun d =>?_⟩
  ·rw[if_pos (kl d)]
  rw[if_neg (by rw[dL d];simp)]
  refine ⟨⟨rfl,trivial⟩,fun H' _ h=>kIs _ _ _ _ (by have:=hp.land;omega) h.1,fun f =>?_,fun f =>?_⟩
  ·rw[if_pos (by rw[kl f];rfl)]
  refine ⟨⟨rfl,trivial⟩,fun H' _ h=>kIs _ _ _ _ (by have:=hp.land;omega) h.1,fun g =>?_,fun g =>?_⟩
  ·rw[if_pos (by rw[kl g,Bool.and_false])]
  ·rw[if_neg (by rw[dL f,dL g];simp)]
abbrev wkC(p:Pl)(l c n t w i m:Nat):List Value:=plC p l c n t w i ++ [nI (endP p),.map (some m)]
def bdx:Nat->Int:=fun j=>[0,-1,1,0].getD j 0
def bdy:Nat->Int:=fun j=>[-1,0,0,1].getD j 0
def nbU(p:Pl)(c:Int)(j:Nat):Int:=Int.tmod c p.w+bdx j
def nbV(p:Pl)(c:Int)(j:Nat):Int:=Int.tdiv c p.w+bdy j
def nbT(p:Pl)(c:Int)(j:Nat):Int:=nbV p c j*p.w+nbU p c j
def nbB(p:Pl)(c:Int)(j:Nat):Bool:=inB (nbU p c j) 0 (p.w-1)&&inB (nbV p c j) 0 (p.h-1) && !p.land.getD (Int.toNat (nbT p c j)) false
def eF(p:Pl)(c:Int)(n:Nat):List Int:=((List.range n).filter (nbB p c)).map (nbT p c)
def bsP(p:Pl)(c:Int):List Int:=eF p c 4
def l8(p:Pl)(c a:Int)(n:Nat):Bool:=(List.range n).all fun u => !(sfP p c (Int.tdiv (a+(u:Int)) 6) == 0)
def wtB(p:Pl)(c a b:Int):Bool:=l8 p c a (Int.toNat (b-a))
def tkP(p:Pl)(v:Int):Int:=Int.tdiv (6*p.size+v-1) v
abbrev jf4(p:Pl):Prop:=(ac (.cells true 1 (p.land.flatMap af)))/\(ac (.cells false 0 (p.cts.flatMap chC)))/\(ac (.cells true 1 (p.chan.flatMap af)))/\(ac (.cells true 2 (p.shp.th.flatMap ptC)))/\(ac (.cells true 2 (p.shp.wa.flatMap ptC)))/\(ac (.cells true 2 (p.shp.ic.flatMap ptC)))/\True
abbrev jf0(p:Pl):List Value:=[.agg #[nI p.w,nI p.h,slQ 1 2 p.land.length,slQ 2 2 p.cts.length,slQ 3 2 p.chan.length,nI p.shp.cls,nI p.shp.pow,nI p.shp.dra,nI p.shp.ton,slQ 4 2 p.shp.th.length,slQ 5 2 p.shp.wa.length,slQ 6 2 p.shp.ic.length,nI p.shp.slow,nI p.shp.aw,nI p.shp.rdg,nI p.shp.prs,nI p.size,nI p.frm,nI p.to]]
abbrev jf2(p:Pl):Prop:=∀H':Heap,H'.length=8->(H'[1]?=some (.cells true 1 (p.land.flatMap af):aa)/\H'[2]?=some (.cells false 0 (p.cts.flatMap chC):aa)/\H'[3]?=some (.cells true 1 (p.chan.flatMap af):aa)/\H'[4]?=some (.cells true 2 (p.shp.th.flatMap ptC):aa)/\H'[5]?=some (.cells true 2 (p.shp.wa.flatMap ptC):aa)/\H'[6]?=some (.cells true 2 (p.shp.ic.flatMap ptC):aa)/\True)->ad prog 29 (jf0 p) H' [] (Is (nI (bO p)) H')
abbrev jf6(p:Pl):Value:=.tuple #[.pointer none,nI (bO p)]
abbrev jf7(p:Pl):Int:=(p.cts.length:Nat)
abbrev jf3(p:Pl):List Value:=[nI p.w,nI p.h,slQ 1 2 p.land.length,slQ 2 2 p.cts.length,slQ 3 2 p.chan.length,nI p.shp.cls,nI p.shp.pow,nI p.shp.dra,nI p.shp.ton,slQ 4 2 p.shp.th.length,slQ 5 2 p.shp.wa.length,slQ 6 2 p.shp.ic.length,nI p.shp.slow,nI p.shp.aw,nI p.shp.rdg,nI p.shp.prs,nI p.size,nI p.frm,nI p.to,nI (endP p),.map (some 8)]
def wq(p:Pl):Prop :=
 ((jf4 p)/\(jf2 p)/\(fk (((bO p):Int) != 0) (true=true/\wk (jf6 p) (rn (sg 7 []) 3 (.tuple #[pt 7,nI 0]:Value))/\(True/\True/\True)) (nw (6*(jf7 p)) (true=true/\wk (.tuple #[pt 9,nI 0]:Value) (rn (sg 7 [(7,9),(8,8)]) 3 (.tuple #[pt 7,nI 0]:Value))/\(wkO (.cells true 0 [nI p.w,nI p.h,slQ 1 2 p.land.length,slQ 2 2 p.cts.length,slQ 3 2 p.chan.length,nI p.shp.cls,nI p.shp.pow,nI p.shp.dra,nI p.shp.ton,slQ 4 2 p.shp.th.length,slQ 5 2 p.shp.wa.length,slQ 6 2 p.shp.ic.length,nI p.shp.slow,nI p.shp.aw,nI p.shp.rdg,nI p.shp.prs,nI p.size,nI p.frm,nI p.to,nI (6*(jf7 p)),.map (some 8)]:aa) (rno (sg 7 [(7,9),(8,8)]) 3 (.cells true 0 (jf3 p):aa))/\(krq 7 (.map (knE [])))/\True)))))
abbrev jf1(p:Pl):=aG [.cells false 0 [nI 4000,nI 8000,nI 14000,nI 24000,nI 40000,nI 90000],.cells true 1 (p.land.flatMap af),.cells false 0 (p.cts.flatMap chC),.cells true 1 (p.chan.flatMap af),.cells true 2 (p.shp.th.flatMap ptC),.cells true 2 (p.shp.wa.flatMap ptC),.cells true 2 (p.shp.ic.flatMap ptC)]
abbrev jf5(p:Pl):List (Nat×aa):=[(1,.cells true 1 (p.land.flatMap af)),(2,.cells false 0 (p.cts.flatMap chC)),(3,.cells true 1 (p.chan.flatMap af)),(4,.cells true 2 (p.shp.th.flatMap ptC)),(5,.cells true 2 (p.shp.wa.flatMap ptC)),(6,.cells true 2 (p.shp.ic.flatMap ptC))]
theorem G4(p:Pl):vF prog msk (dm 0) 100000 true 40 true 53 (jf0 p) (jf1 p) (some [])
 (.go 3 (.ans (jf5 p) (nI (bO p)) [] (.go 2 (.fork (.go 2 (.again [])) (.go 4 (.slot 14 (nI (6*(jf7 p))) (.go 4 (.again [(7,9),(8,8)]))))))))
 (mW ((jf1 p):HT).n 3 (.tuple #[pt 7,nI 0]) [(false,.cells true 0 (jf3 p)),(true,.map (knE []))])=wq p:=by kernel_rfl
structure bG(p:Pl):Prop where
 bas:yg p.w p.h p.land.length
 cts:1<=p.cts.length/\p.cts.length<=48
 cht:∀i,i<p.cts.length->ct p i=0
 chan:p.chan.length=p.land.length
 shp:aU p.shp=0
 size:1<=p.size/\p.size<=500
 frm:fh p.land p.frm=true
 to:fh p.land p.to=true
theorem eB{a b:Int}(h:bM a b=0):a=0/\b=0:=by
 unfold bM at h
 split at h
 ·exact ⟨‹_›,h⟩
 ·exact absurd h ‹_›
theorem kj{p:Pl}(e:bO p=0):bG p:=by
 unfold bO at e
 obtain ⟨e1,e⟩:=eB e
 split at e
 ·cases e
 rename_i hn
 obtain ⟨e2,e⟩:=eB e
 split at e
 ·cases e
 rename_i hc
 obtain ⟨e3,e⟩:=eB e
 split at e
 ·cases e
 rename_i hz
 split at e
 ·cases e
 rename_i hs
 simp only[Bool.not_eq_false,aR,Bool.and_eq_true]at hn hz hs
 exact ⟨EZ e1,by omega,dX e2,by omega,e3,hz,hs.1,hs.2⟩
structure Jf(p:Pl)(c:Cht):Prop where
 len:c.cells.length=p.land.length
 cell:∀k,k<c.cells.length->bk (c.cells.getD k az)
 hr:0<=c.hr/\c.hr<=10000
 w:c.w=p.w
 h:c.h=p.h
theorem uc{α:Type}{e:α->Int}{d:α}:∀{l:List α},errs e l=0->∀k,k<l.length->e (l.getD k d)=0
 | [],_,k,h=>by simp at h
 |x :: l,h0,k,h=>by
  have h0:(if e x=0 then errs e l else e x)=0:=h0
  split at h0
  ·rename_i hx
   cases k with
   |zero=>exact hx
   |succ k=>exact uc h0 k (by simpa using h)
  ·rename_i hx;exact absurd h0 hx
theorem bG.pW{p:Pl}(o:bG p){i:Nat}(hi:i<p.cts.length):Jf p (p.cts.getD i zCh):=by
 have e:=o.cht i hi
 unfold ct at e
 obtain ⟨e1,e2⟩:=eB e
 have hr:=iU e1
 unfold cD at e1
 obtain ⟨e3,e4⟩:=eB e1
 split at e4
 ·rename_i hl
  split at e2
  ·rename_i hw
   exact ⟨by have:=o.bas.n1;rw[hw.1,hw.2,<- this]at hl;omega,fun k hk=>dY.1 (uc e4 k hk),hr,hw.1,hw.2⟩
  ·cases e2
 ·cases e4
theorem bG.bd{p:Pl}(o:bG p):1<=p.land.length/\p.land.length<=1024:=by
 have b:=o.bas
 have:=Am b.w1 b.h1
 have h1:=b.n1
 have h2:=b.p1
 omega
theorem bG.lst{p:Pl}(o:bG p):zn p:=by
 have b:=o.bd
 have s:=sk o.shp
 have c:=o.chan
 have t:=o.cts
 exact ⟨by omega,by omega,by omega,by have:=(a9 s.th).len;omega,by have:=(a9 s.wa).len;omega,by have:=(a9 s.ic).len;omega⟩
theorem su{a:List Bool}{c:Int}:fh a c=true ↔ (0<=c/\c<(a.length:Int))/\a.getD (Int.toNat c) false=false:=by
 unfold fh
 rw[Bool.and_eq_true,aR,Bool.not_eq_true']
 exact ⟨fun h=>⟨by omega,h.2⟩,fun h=>⟨by omega,h.2⟩⟩
def gJ(H:Heap)(p:Pl)(l c n t w i:Nat):Prop :=
 [0,l,c,n,t,w,i].Nodup/\H[0]?=some bC/\H[l]?=some (.cells true 1 (p.land.flatMap af))/\H[c]?=some (.cells false 0 (p.cts.flatMap chC))/\H[n]?=some (.cells true 1 (p.chan.flatMap af)) /\
  H[t]?=some (.cells true 2 (p.shp.th.flatMap ptC))/\H[w]?=some (.cells true 2 (p.shp.wa.flatMap ptC))/\H[i]?=some (.cells true 2 (p.shp.ic.flatMap ptC))
theorem dB(o:Bool)(z:Nat)(l:List Bool)(σ:Nat->Option Nat):rno σ 3 (.cells o z (l.flatMap af)) = .cells o z (l.flatMap af):=congrArg (aa.cells o z) (ed (d:=0) (bW 0 l)).1
theorem kJ(o:Bool)(z:Nat)(l:List Bool):am 3 (.cells o z (l.flatMap af))=true:=(ed (σ:=fun _=>none) (d:=0) (bW 0 l)).2
theorem nX(o:Bool)(z:Nat)(l:List Cht)(σ:Nat->Option Nat):rno σ 3 (.cells o z (l.flatMap chC)) = .cells o z (l.flatMap chC):=congrArg (aa.cells o z) (ed (d:=0) (ei 0 l)).1
theorem BD(o:Bool)(z:Nat)(l:List Cht):am 3 (.cells o z (l.flatMap chC))=true:=(ed (σ:=fun _=>none) (d:=0) (ei 0 l)).2
abbrev pOs(p:Pl):List aa:=[bC,.cells true 1 (p.land.flatMap af),.cells false 0 (p.cts.flatMap chC),.cells true 1 (p.chan.flatMap af),.cells true 2 (p.shp.th.flatMap ptC),.cells true 2 (p.shp.wa.flatMap ptC),.cells true 2 (p.shp.ic.flatMap ptC)]
theorem kY(p:Pl):(pOs p).all (am 3)=true:=by
 show (am 3 bC&&(am 3 (.cells true 1 (p.land.flatMap af))&&(am 3 (.cells false 0 (p.cts.flatMap chC))&&(am 3 (.cells true 1 (p.chan.flatMap af))&&(am 3 (.cells true 2 (p.shp.th.flatMap ptC))&&(am 3 (.cells true 2 (p.shp.wa.flatMap ptC))&&(am 3 (.cells true 2 (p.shp.ic.flatMap ptC))&&true)))))))=true
 rw[kJ,BD,kJ,fD,fD,fD];rfl
theorem gJ.objs{H:Heap}{p:Pl}{l c n t w i:Nat}(a:gJ H p l c n t w i):cR H (sgI [0,l,c,n,t,w,i]) [0,l,c,n,t,w,i] (pOs p) :=
 ⟨a.2.1,by rw[dB];exact a.2.2.1,by rw[nX];exact a.2.2.2.1,by rw[dB];exact a.2.2.2.2.1,by rw[cJ];exact a.2.2.2.2.2.1,by rw[cJ];exact a.2.2.2.2.2.2.1,by rw[cJ];exact a.2.2.2.2.2.2.2,trivial⟩
theorem knB(n:Nat)(K:List ((Int×Int)×Int)):cu n (.map (knE K))=true:=by
 show ((gG kyV (fun v=>nI v) K).all fun e=>bn n e.1&&bn n e.2)=true
 unfold gG
 rw[List.all_map,List.all_eq_true]
 intro e _;rfl
theorem F4{p:Pl}(hp:zn p)(e0:bO p=0){H:Heap}{l c n t w i:Nat}(a:gJ H p l c n t w i) :
  ad prog 53 [plV p l c n t w i] H [] (Is (.tuple #[pt H.length,nI 0]) (H ++ [.cells true 0 (wkC p l c n t w i (H.length+1)),.map (knE [])])):=by
 have key:=Hq mY mixed 40 (os:=pOs p) (v:=.tuple #[pt 7,nI 0])
  (new:=[(false,.cells true 0 (wkC p 1 2 3 4 5 6 8)),(true,.map (knE []))]) (Eq.mpr (G4 p) (show wq p by
  delta wq jf4 jf2 jf6 jf7 jf3 jf0 nI slQ pt ac fk nw krq
  refine ⟨⟨rfl,rfl,rfl,rfl,rfl,rfl,trivial⟩,fun H' _ h=>AV p hp h.1 h.2.1 h.2.2.1 h.2.2.2.1 h.2.2.2.2.1 h.2.2.2.2.2.1,fun e=>absurd e0 (neB e),fun _ =>?_⟩
  have hc:=(kj e0).cts
  refine ⟨ak (by omega),rfl,ae _,?_,⟨rfl,knB _ _⟩,trivial⟩
  exact bh rfl)) (kY p) rfl rfl a.1 a.objs (Do rfl)
 exact key
abbrev jg7(t:Int):=Int.tdiv t 6
abbrev jgb(p:Pl)(t:Int):Value:=.iface ((List.length (p.cts.getD (jg7 t).toNat zCh).cells)+1) (.agg ⟨(List.flatMap cellC (p.cts.getD (jg7 t).toNat zCh).cells)⟩)
abbrev jg1(p:Pl)(t c:Int):=List.getD (p.cts.getD (jg7 t).toNat zCh).cells c.toNat az
abbrev jg8(p:Pl)(t c:Int):Value:=.agg #[nI (jg1 p t c).ap.lo,nI (jg1 p t c).ap.hi,nI (jg1 p t c).ag.lo,nI (jg1 p t c).ag.hi,nI (jg1 p t c).ai.lo,nI (jg1 p t c).ai.hi,nI (jg1 p t c).ah.lo,nI (jg1 p t c).ah.hi]
abbrev jg6:List Value:=[nI 4000,nI 8000,nI 14000,nI 24000,nI 40000,nI 90000]
def BS(p:Pl)(K:ab (sfP p))(c t:Int):Prop :=
 (nw (jg7 t) ((hO prog 270 (nI 0) (.agg #[nI c,nI (jg7 t)]) true (knE K.1)=some (.tuple #[nI (iv (c,(jg7 t)) 0 K.1),.bool (fe (c,(jg7 t)) K.1)]))/\(fk (!(fe (c,(jg7 t)) K.1)) ((ixq (jg7 t) p.cts.length)/\(((p.cts.flatMap chC)[((0+Int.toNat (jg7 t)*4)+3)]?=some (jgb p t))/\((ixq c (List.length (p.cts.getD (jg7 t).toNat zCh).cells))/\((cN 8 (List.flatMap cellC (p.cts.getD (jg7 t).toNat zCh).cells) (Int.toNat c*8)=some (jg8 p t c))/\((ixq c p.chan.length)/\(((p.chan.flatMap af)[(0+Int.toNat c*1)]?=some (.bool (p.chan.getD c.toNat false)))/\(c4q 10 0 (.cells false 0 jg6) 4 (.cells true 2 (p.shp.th.flatMap ptC)) 5 (.cells true 2 (p.shp.wa.flatMap ptC)) 6 (.cells true 2 (p.shp.ic.flatMap ptC)) 83 [.agg #[nI p.shp.cls,nI p.shp.pow,nI p.shp.dra,nI p.shp.ton,slQ 4 2 p.shp.th.length,slQ 5 2 p.shp.wa.length,slQ 6 2 p.shp.ic.length,nI p.shp.slow,nI p.shp.aw,nI p.shp.rdg,nI p.shp.prs],.agg #[nI (jg1 p t c).ap.lo,nI (jg1 p t c).ap.hi,nI (jg1 p t c).ag.lo,nI (jg1 p t c).ag.hi,nI (jg1 p t c).ai.lo,nI (jg1 p t c).ai.hi,nI (jg1 p t c).ah.lo,nI (jg1 p t c).ah.hi],.bool (p.chan.getD c.toNat false)] (.tuple #[nI (sfP p c (jg7 t)),nI (sfE p c (jg7 t))]) ((lO prog 270 (.agg #[nI c,nI (jg7 t)]) (nI (sfP p c (jg7 t))) (knE K.1)=some (knE (gX (c,(jg7 t)) (sfP p c (jg7 t)) K.1)))/\(∃x:ab (sfP p),True/\(true=true/\wk (nI (sfP p c (jg7 t)):Value) (rn (sg 9 []) 3 (nI (sfP p c (jg7 t)):Value))/\((kbq 9 (.map (knE (gX (c,(jg7 t)) (sfP p c (jg7 t)) K.1))) (.map (knE x.1)))/\True)/\(True))))))))))) (∃x:ab (sfP p),True/\(true=true/\wk (nI (iv (c,(jg7 t)) 0 K.1):Value) (rn (sg 9 []) 3 (nI (sfP p c (jg7 t)):Value))/\((kbq 9 (.map (knE K.1)) (.map (knE x.1)))/\True)/\(True))))))
abbrev jg3(p:Pl):List Value:=[nI p.w,nI p.h,slQ 1 2 p.land.length,slQ 2 2 p.cts.length,slQ 3 2 p.chan.length,nI p.shp.cls,nI p.shp.pow,nI p.shp.dra,nI p.shp.ton,slQ 4 2 p.shp.th.length,slQ 5 2 p.shp.wa.length,slQ 6 2 p.shp.ic.length,nI p.shp.slow,nI p.shp.aw,nI p.shp.rdg,nI p.shp.prs,nI p.size,nI p.frm,nI p.to,nI (endP p),.map (some 8)]
abbrev jg0(p:Pl)(K:ab (sfP p)):=aG [.cells false 0 jg6,.cells true 1 (p.land.flatMap af),.cells false 0 (p.cts.flatMap chC),.cells true 1 (p.chan.flatMap af),.cells true 2 (p.shp.th.flatMap ptC),.cells true 2 (p.shp.wa.flatMap ptC),.cells true 2 (p.shp.ic.flatMap ptC),.cells true 0 (jg3 p),.map (knE K.1)]
theorem GU(p:Pl)(K:ab (sfP p))(c t:Int):vF prog msk (dm 0) 100000 true 40 true 119 [pt 7,nI c,nI t] (jg0 p K) (some [8])
 (.go 3 (.slot 12 (nI (jg7 t)) (.go 7 (.val (.tuple #[nI (iv (c,(jg7 t)) 0 K.1),.bool (fe (c,(jg7 t)) K.1)]) (.go 6 (.fork (.go 11 (.need (.go 0 (.val (jgb p t) (.go 0 (.need (.val (jg8 p t c) (.go 5 (.need (.val (.bool (p.chan.getD c.toNat false)) (.ans [(0,.cells false 0 jg6),(4,.cells true 2 (p.shp.th.flatMap ptC)),(5,.cells true 2 (p.shp.wa.flatMap ptC)),(6,.cells true 2 (p.shp.ic.flatMap ptC))] (.tuple #[nI (sfP p c (jg7 t)),nI (sfE p c (jg7 t))]) [] (.go 9 (.An (knE (gX (c,(jg7 t)) (sfP p c (jg7 t)) K.1)) (.go 1 (.keep (.again [])))))))))))))))) (.go 1 (.keep (.again [])))))))))
 (cK (α:=ab (sfP p)) ((jg0 p K):HT).n 3 [8] (fun x=>True) (fun x=>nI (sfP p c (jg7 t))) (fun x=>[(8,true,.map (knE x.1))]) (fun x=>[]))=BS p K c t:=by kernel_rfl
abbrev jgc(c:Int)(p:Pl):=Int.tdiv c p.w
abbrev jge(c:Int)(p:Pl):=Int.tmod c p.w
abbrev jg9(c:Int)(p:Pl):Prop:=eR (pt 7)/\eR (.slice none 0 0)/\eR (nI (jge c p))/\eR (nI (jgc c p))/\eR (.agg #[nI 0,nI (-1),nI (-1),nI 0,nI 1,nI 0,nI 0,nI 1])/\True
abbrev jg5(x0:Nat):=List.getD [0,(-1),1,0] x0 0
abbrev jg4(x0:Nat):=List.getD [(-1),0,0,1] x0 0
abbrev jga(p:Pl)(c:Int)(x0:Nat):=p.land.getD ((((jgc c p)+(jg4 x0))*p.w)+((jge c p)+(jg5 x0))).toNat false
abbrev jg2(x0:Nat)(p:Pl)(c:Int):=nw ((x0:Int)+1) (∃x0':Nat,(x0'<=4)/\(4-x0')<(4-x0)/\true=true/\((nI ((x0:Int)+1):Value)=nI (x0':Int)/\wk (slQ 9 1 (eF p c x0).length:Value) (slQ 9 1 (eF p c x0').length:Value)/\jg9 c p)/\(True)/\((kbq 9 (.cells true 1 ((eF p c x0).flatMap bc)) (.cells true 1 ((eF p c x0').flatMap bc)))/\True)/\(True))
def ya(p:Pl)(K:ab (sfP p))(c:Int):Prop :=
 (((p.w:Int)≠0)/\(((p.w:Int)≠0)/\(nw (jgc c p) (lq (0<=4) (true=true/\((nI 0:Value)=nI ((0:Nat):Int)/\wk (.slice none 0 0:Value) (slQ 0 1 (eF p c 0).length:Value)/\jg9 c p)/\(True)/\(True/\True)/\(True)) (∀x0:Nat,(x0<=4)->(fk (decide (((x0:Int):Int)<4)) ((ll prog 223 (.agg #[nI 0,nI (-1),nI (-1),nI 0,nI 1,nI 0,nI 0,nI 1]) (nI (x0:Int))=some (.agg #[nI (jg5 x0),nI (jg4 x0)]))/\(nw ((jge c p)+(jg5 x0)) (nw ((jgc c p)+(jg4 x0)) (nw (p.w-1) (c0q 11 77 [nI ((jge c p)+(jg5 x0)),nI 0,nI (p.w-1)] (.bool (inB ((jge c p)+(jg5 x0)) 0 (p.w-1))) (fk (inB ((jge c p)+(jg5 x0)) 0 (p.w-1)) (nw (p.h-1) (c0q 11 77 [nI ((jgc c p)+(jg4 x0)),nI 0,nI (p.h-1)] (.bool (inB ((jgc c p)+(jg4 x0)) 0 (p.h-1))) (fk (inB ((jgc c p)+(jg4 x0)) 0 (p.h-1)) (nw (((jgc c p)+(jg4 x0))*p.w) (nw ((((jgc c p)+(jg4 x0))*p.w)+((jge c p)+(jg5 x0))) ((ixq ((((jgc c p)+(jg4 x0))*p.w)+((jge c p)+(jg5 x0))) p.land.length)/\(((p.land.flatMap af)[(0+Int.toNat ((((jgc c p)+(jg4 x0))*p.w)+((jge c p)+(jg5 x0)))*1)]?=some (.bool (jga p c x0)))/\(fk (!(jga p c x0)) (nw (((jgc c p)+(jg4 x0))*p.w) (nw ((((jgc c p)+(jg4 x0))*p.w)+((jge c p)+(jg5 x0))) (apq (eF p c x0).length 8 1 ((eF p c x0).flatMap bc) [nI ((((jgc c p)+(jg4 x0))*p.w)+((jge c p)+(jg5 x0)))] (nw ((x0:Int)+1) (∃x0':Nat,(x0'<=4)/\(4-x0')<(4-x0)/\true=true/\((nI ((x0:Int)+1):Value)=nI (x0':Int)/\wk (slN 12 ((eF p c x0).length+1):Value) (slQ 12 1 (eF p c x0').length:Value)/\jg9 c p)/\(True)/\((kbq 9 (.cells true 1 (((((eF p c x0).flatMap bc).drop 0).take ((eF p c x0).length*1))++((([nI ((((jgc c p)+(jg4 x0))*p.w)+((jge c p)+(jg5 x0)))]:List Value).drop 0).take (1*1)))) (.cells true 1 ((eF p c x0').flatMap bc)))/\True)/\(True)))))) (jg2 x0 p c)))))) (jg2 x0 p c)))) (jg2 x0 p c))))))) (true=true/\wk (slQ 9 1 (eF p c x0).length:Value) (rn (sg 9 [(9,9)]) 3 (slQ 9 1 (bsP p c).length:Value))/\((kbq 9 (.cells true 1 ((eF p c x0).flatMap bc)) (.cells true 1 ((bsP p c).flatMap bc)))/\True))))))))
abbrev jgd(x0:Nat):Hint:=.slot 98 (nI ((x0:Int)+1)) (.go 0 (.again [(9,9)]))
theorem Ep(p:Pl)(K:ab (sfP p))(c:Int):vF prog msk (dm 0) 100000 true 40 true 62 [pt 7,nI c] (jg0 p K) (some [])
 (.go 8 (.need (.go 6 (.need (.slot 27 (nI (jgc c p)) (.go 7 (.inv 3 (Nat) (0) [] [] (fun x0=>[(33,nI (x0:Int)),(5,slQ 9 1 (eF p c x0).length),(0,pt 7),(4,.slice none 0 0),(6,nI (jge c p)),(7,nI (jgc c p)),(32,.agg #[nI 0,nI (-1),nI (-1),nI 0,nI 1,nI 0,nI 0,nI 1])]) (fun x0=>[]) (fun x0=>[(true,.cells true 1 ((eF p c x0).flatMap bc))]) (fun x0=>[]) (fun x0=>(x0<=4)) (fun x0=>(4-x0)) (fun x0 => .go 0 (.fork (.val (.agg #[nI (jg5 x0),nI (jg4 x0)]) (.go 5 (.slot 39 (nI ((jge c p)+(jg5 x0))) (.go 3 (.slot 43 (nI ((jgc c p)+(jg4 x0))) (.go 9 (.slot 51 (nI (p.w-1)) (.ans [] (.bool (inB ((jge c p)+(jg5 x0)) 0 (p.w-1))) [] (.go 0 (.aM (.go 7 (.slot 61 (nI (p.h-1)) (.ans [] (.bool (inB ((jgc c p)+(jg4 x0)) 0 (p.h-1))) [] (.go 1 (.aM (.go 13 (.slot 78 (nI (((jgc c p)+(jg4 x0))*p.w)) (.go 1 (.slot 80 (nI ((((jgc c p)+(jg4 x0))*p.w)+((jge c p)+(jg5 x0)))) (.need (.val (.bool (jga p c x0)) (.go 1 (.fork (.go 8 (.slot 93 (nI (((jgc c p)+(jg4 x0))*p.w)) (.go 1 (.slot 95 (nI ((((jgc c p)+(jg4 x0))*p.w)+((jge c p)+(jg5 x0)))) (.go 0 (.need (.go 1 (.slot 98 (nI ((x0:Int)+1)) (.go 0 (.again [(9,12)])))))))))) (.go 0 (jgd x0)))))))))) (.go 2 (jgd x0))))))) (.go 4 (jgd x0)))))))))))) (.go 1 (.again [(9,9)])))))))))))
 (mW ((jg0 p K):HT).n 3 (slQ 9 1 (bsP p c).length) [(true,.cells true 1 ((bsP p c).flatMap bc))])=ya p K c:=by kernel_rfl
def BU(p:Pl)(K:ab (sfP p))(c a b:Int):Prop :=
 (true=true/\(((0,K):Nat×ab (sfP p)).1<=Int.toNat (b-a)/\l8 p c a ((0,K):Nat×ab (sfP p)).1=true)/\(true=true/\((nI a:Value)=nI (a+((((0,K):Nat×ab (sfP p)).1:Nat):Int))/\eR (nI b)/\eR (nI c)/\eR (pt 7)/\True)/\((kbq 9 (.map (knE K.1)) (.map (knE ((0,K):Nat×ab (sfP p)).2.1)))/\True)/\(True)/\(True))/\(∀eE:Nat×ab (sfP p),true=true)/\∀eE:Nat×ab (sfP p),(eE.1<=Int.toNat (b-a)/\l8 p c a eE.1=true)->(fk (decide (((a+((eE.1:Nat):Int)):Int)<b)) (((ac (.cells false 0 jg6))/\(ac (.cells true 0 (jg3 p)))/\(ac (.cells true 1 (p.land.flatMap af)))/\(ac (.cells false 0 (p.cts.flatMap chC)))/\(ac (.cells true 1 (p.chan.flatMap af)))/\(ac (.cells true 2 (p.shp.th.flatMap ptC)))/\(ac (.cells true 2 (p.shp.wa.flatMap ptC)))/\(ac (.cells true 2 (p.shp.ic.flatMap ptC)))/\(ac (.map (knE eE.2.1)))/\True)/\(∀H':Heap,H'.length=9->(H'[0]?=some (.cells false 0 jg6:aa)/\H'[7]?=some (.cells true 0 (jg3 p):aa)/\H'[1]?=some (.cells true 1 (p.land.flatMap af):aa)/\H'[2]?=some (.cells false 0 (p.cts.flatMap chC):aa)/\H'[3]?=some (.cells true 1 (p.chan.flatMap af):aa)/\H'[4]?=some (.cells true 2 (p.shp.th.flatMap ptC):aa)/\H'[5]?=some (.cells true 2 (p.shp.wa.flatMap ptC):aa)/\H'[6]?=some (.cells true 2 (p.shp.ic.flatMap ptC):aa)/\H'[8]?=some (.map (knE eE.2.1):aa)/\True)->ad prog 119 [pt 7,nI c,nI (a+((eE.1:Nat):Int))] H' [8] (fun y H2 => ∃z:ab (sfP p),True/\y=nI (sfP p c (Int.tdiv (a+((eE.1:Nat):Int)) 6))/\H2=(List.set H' 8 (.map (knE z.1):aa))))/\(∀r1:ab (sfP p),True->(fk (((sfP p c (Int.tdiv (a+((eE.1:Nat):Int)) 6)):Int) == 0) (∃x:ab (sfP p),True/\(true=true/\wk (.bool false:Value) (rn (sg 9 []) 3 (.bool (wtB p c a b):Value))/\((kbq 9 (.map (knE r1.1)) (.map (knE x.1)))/\True)/\(True))) (nw ((a+((eE.1:Nat):Int))+1) (∃rP:Nat×ab (sfP p),(rP.1<=Int.toNat (b-a)/\l8 p c a rP.1=true)/\(Int.toNat (b-a)-rP.1)<(Int.toNat (b-a)-eE.1)/\true=true/\((nI ((a+((eE.1:Nat):Int))+1):Value)=nI (a+((rP.1:Nat):Int))/\eR (nI b)/\eR (nI c)/\eR (pt 7)/\True)/\((kbq 9 (.map (knE r1.1)) (.map (knE rP.2.1)))/\True)/\(True)/\(True)))))) (∃x:ab (sfP p),True/\(true=true/\wk (.bool true:Value) (rn (sg 9 []) 3 (.bool (wtB p c a b):Value))/\((kbq 9 (.map (knE eE.2.1)) (.map (knE x.1)))/\True)/\(True)))))
theorem GV(p:Pl)(K:ab (sfP p))(c a b:Int):vF prog msk (dm 0) 100000 true 40 true 70 [pt 7,nI c,nI a,nI b] (jg0 p K) (some [8])
 (.go 2 (.inv 3 (Nat×ab (sfP p)) (((0,K):Nat×ab (sfP p))) [] [8] (fun eE=>[(9,nI (a+((eE.1:Nat):Int))),(3,nI b),(1,nI c),(0,pt 7)]) (fun eE=>[(8,true,.map (knE eE.2.1))]) (fun eE=>[]) (fun eE=>[]) (fun eE=>(eE.1<=Int.toNat (b-a)/\l8 p c a eE.1=true)) (fun eE=>(Int.toNat (b-a)-eE.1)) (fun eE => .go 2 (.fork (.go 2 (.cg [(0,.cells false 0 jg6),(7,.cells true 0 (jg3 p)),(1,.cells true 1 (p.land.flatMap af)),(2,.cells false 0 (p.cts.flatMap chC)),(3,.cells true 1 (p.chan.flatMap af)),(4,.cells true 2 (p.shp.th.flatMap ptC)),(5,.cells true 2 (p.shp.wa.flatMap ptC)),(6,.cells true 2 (p.shp.ic.flatMap ptC)),(8,.map (knE eE.2.1))] [8] (ab (sfP p)) (fun r1=>True) (fun r1=>nI (sfP p c (Int.tdiv (a+((eE.1:Nat):Int)) 6))) (fun r1=>[(8,.map (knE r1.1))]) (fun r1=>[]) (fun r1 => .go 0 (.fork (.go 0 (.keep (.again []))) (.go 1 (.slot 15 (nI ((a+((eE.1:Nat):Int))+1)) (.go 0 (.again [])))))))) (.go 0 (.keep (.again [])))))))
 (cK (α:=ab (sfP p)) ((jg0 p K):HT).n 3 [8] (fun x=>True) (fun x => .bool (wtB p c a b)) (fun x=>[(8,true,.map (knE x.1))]) (fun x=>[]))=BU p K c a b:=by kernel_rfl
def BV(sp:Value)(p:Pl)(K:ab (sfP p))(v:Int):Prop :=
 (nw (6*p.size) (nw ((6*p.size)+v) (nw (((6*p.size)+v)-1) (((v:Int)≠0)/\(nw (Int.tdiv (((6*p.size)+v)-1) v) ((nI (Int.tdiv (((6*p.size)+v)-1) v):Value)=sp))))))
theorem GY(sp:Value)(p:Pl)(K:ab (sfP p))(v:Int):vF prog msk (dm 0) 100000 true 40 true 118 [pt 7,nI v] (jg0 p K) (some [])
 (.go 6 (.slot 10 (nI (6*p.size)) (.go 1 (.slot 12 (nI ((6*p.size)+v)) (.go 0 (.slot 13 (nI (((6*p.size)+v)-1)) (.go 0 (.need (.slot 15 (nI (Int.tdiv (((6*p.size)+v)-1) v)) (.auto))))))))))
 (fun v _ _=>v=sp)=BV sp p K v:=by kernel_rfl
def i7(H:Heap)(p:Pl)(K:ab (sfP p))(l c n t w i W m:Nat):Prop :=
 [0,l,c,n,t,w,i,W,m].Nodup/\H[0]?=some bC/\H[l]?=some (.cells true 1 (p.land.flatMap af))/\H[c]?=some (.cells false 0 (p.cts.flatMap chC))/\H[n]?=some (.cells true 1 (p.chan.flatMap af)) /\
  H[t]?=some (.cells true 2 (p.shp.th.flatMap ptC))/\H[w]?=some (.cells true 2 (p.shp.wa.flatMap ptC))/\H[i]?=some (.cells true 2 (p.shp.ic.flatMap ptC))/\H[W]?=some (.cells true 0 (wkC p l c n t w i m))/\H[m]?=some (.map (knE K.1))
abbrev wOs(p:Pl)(K:ab (sfP p)):List aa:=[bC,.cells true 1 (p.land.flatMap af),.cells false 0 (p.cts.flatMap chC),.cells true 1 (p.chan.flatMap af),.cells true 2 (p.shp.th.flatMap ptC),.cells true 2 (p.shp.wa.flatMap ptC),.cells true 2 (p.shp.ic.flatMap ptC),.cells true 0 (wkC p 1 2 3 4 5 6 8),.map (knE K.1)]
theorem jE(p:Pl)(K:ab (sfP p)):(wOs p K).all (am 3)=true:=by
 show (am 3 bC&&(am 3 (.cells true 1 (p.land.flatMap af))&&(am 3 (.cells false 0 (p.cts.flatMap chC))&&(am 3 (.cells true 1 (p.chan.flatMap af))&&(am 3 (.cells true 2 (p.shp.th.flatMap ptC))&&(am 3 (.cells true 2 (p.shp.wa.flatMap ptC))&&(am 3 (.cells true 2 (p.shp.ic.flatMap ptC))&&(am 3 (.cells true 0 (wkC p 1 2 3 4 5 6 8))&&(am 3 (.map (knE K.1))&&true)))))))))=true
 rw[kJ,BD,kJ,fD,fD,fD,(plM K.1).ok];rfl
theorem i7.objs{H:Heap}{p:Pl}{K:ab (sfP p)}{l c n t w i W m:Nat}(a:i7 H p K l c n t w i W m):cR H (sgI [0,l,c,n,t,w,i,W,m]) [0,l,c,n,t,w,i,W,m] (wOs p K):=by
 obtain ⟨_,a0,a1,a2,a3,a4,a5,a6,a7,a8⟩:=a
 exact ⟨a0,by rw[dB];exact a1,by rw[nX];exact a2,by rw[dB];exact a3,by rw[cJ];exact a4,by rw[cJ];exact a5,by rw[cJ];exact a6,a7,by rw[(plM K.1).rn];exact a8,trivial⟩
theorem eG{H:Heap}{p:Pl}{K:ab (sfP p)}{Q:Prop}(h:H[0]?=some bC/\H[7]?=some (.cells true 0 (wkC p 1 2 3 4 5 6 8))/\H[1]?=some (.cells true 1 (p.land.flatMap af))/\H[2]?=some (.cells false 0 (p.cts.flatMap chC))/\H[3]?=some (.cells true 1 (p.chan.flatMap af)) /\
  H[4]?=some (.cells true 2 (p.shp.th.flatMap ptC))/\H[5]?=some (.cells true 2 (p.shp.wa.flatMap ptC))/\H[6]?=some (.cells true 2 (p.shp.ic.flatMap ptC))/\H[8]?=some (.map (knE K.1))/\Q):i7 H p K 1 2 3 4 5 6 7 8:=by
 obtain ⟨a0,a7,a1,a2,a3,a4,a5,a6,a8,_⟩:=h
 exact ⟨by decide,a0,a1,a2,a3,a4,a5,a6,a7,a8⟩
theorem zC{f:FuncId}{args:List Value}{p:Pl}{K:ab (sfP p)}{h:Hint}{v:Value}
  (hc:vF prog msk (dm 0) 100000 true 40 true f args (aG (wOs p K)) (some [8]) h (cK (α:=ab (sfP p)) (aG (wOs p K)).n 3 [8] (fun _=>True) (fun _=>v) (fun x=>[(8,true,.map (knE x.1))]) (fun _=>[])))
  (hv:cm 3 v=true) (h4:∀σ,rn σ 3 v=v) {H:Heap} {l c n t w i W m:Nat} (a:i7 H p K l c n t w i W m) {args':List Value} (ha:args.map (rn (sgI [0,l,c,n,t,w,i,W,m]) 3)=args') :
  ad prog f args' H [m] (fun y H2 => ∃z:ab (sfP p),True/\y=v/\H2=H.set m (.map (knE z.1))):=by
 have key:=lI (α:=ab (sfP p)) (fun _ _=>v) (new:=fun _=>[]) hc (jE p K) (fun k hk=>by obtain rfl:=List.mem_singleton.1 hk;exact ⟨_,rfl,rfl⟩) (fun _ _=>hv) (fun x _=>⟨⟨List.mem_singleton.2 rfl,plM x.1⟩,trivial⟩) (fun _ _=>trivial) a.1 a.objs rfl (fun _ _ _=>h4 _) ha (ms:=[m]) rfl
 refine key.post ?_
 rintro y H2 ⟨x,_,rfl,rfl⟩
 exact ⟨x,trivial,rfl,List.append_nil _⟩
theorem Hr{f:FuncId}{args:List Value}{p:Pl}{K:ab (sfP p)}{h:Hint}{v:Value}
  (hc:vF prog msk (dm 0) 100000 true 40 true f args (aG (wOs p K)) (some []) h (fun v' _ _=>v'=v)) (hb:bn 0 v=true) (hv:cm 3 v=true) (h4:∀σ,rn σ 3 v=v) {H:Heap} {l c n t w i W m:Nat} (a:i7 H p K l c n t w i W m) {args':List Value} (ha:args.map (rn (sgI [0,l,c,n,t,w,i,W,m]) 3)=args') :
  ad prog f args' H [] (Is v H):=gi hc (jE p K) hb hv h4 a.1 a.objs rfl ha
theorem HN(a b:Int×Int):bH prog Op.maxDepth 270 (kyV a) (kyV b)=some (decide (a=b)):=by
 have h:bH prog Op.maxDepth 270 (kyV a) (kyV b)=some ((a.1 == b.1)&&((a.2 == b.2)&&true)):=by kernel_rfl
 rw[h]
 congr 1
 rw[Bool.and_true,Bool.eq_iff_iff,Bool.and_eq_true,beq_iff_eq,beq_iff_eq,decide_eq_true_eq]
 exact ⟨fun q=>Prod.ext q.1 q.2,fun q=>by rw[q];exact ⟨rfl,rfl⟩⟩
theorem HM(a:Int×Int):lS (kyV a) (kyV a)=true:=by
 show ((a.1 == a.1)&&((a.2 == a.2)&&true))=true
 simp
theorem Hx{t e:Int}(h0:0<=t)(h1:t<6*e):0<=Int.tdiv t 6/\Int.tdiv t 6<e:=by
 rw[Int.tdiv_eq_ediv_of_nonneg h0];omega
theorem td{p:Pl}(o:bG p){K:ab (sfP p)}{c t:Int}(hc:0<=c/\c<(p.land.length:Int))(ht:0<=t/\t<endP p){H:Heap}{l c' n t' w i W m:Nat}(a:i7 H p K l c' n t' w i W m) :
  ad prog 119 [pt W,nI c,nI t] H [m] (fun y H2 => ∃z:ab (sfP p),True/\y=nI (sfP p c (Int.tdiv t 6))/\H2=H.set m (.map (knE z.1))):=by
 refine zC (Eq.mpr (GU p K c t) ?_) rfl (fun _=>rfl) a rfl
 have hh:=Hx ht.1 ht.2
 have ho:=o.cts
 have ch:=o.pW (i:=Int.toNat (Int.tdiv t 6)) (by omega)
 have hl:=o.chan
 delta BS jg7 jgb jg8 jg6 jg1 nI slQ fk nw kbq ixq c4q
 refine ⟨ak (by omega),Ap (kt:=270) (key:=kyV) (val:=fun v=>nI v) HN (c,Int.tdiv t 6) 0 rfl true K.1,fun e =>?_,fun e =>?_⟩
 ·refine ⟨⟨hh.1,hh.2⟩,eZ (c:=3) (d:=zCh) eC (by omega) (by omega) rfl,⟨hc.1,by rw[ch.len];exact hc.2⟩,mQ (by rw[ch.len];omega) rfl,⟨hc.1,by rw[hl];exact hc.2⟩,eQ (by omega) (by omega),⟨rfl,rfl,rfl,rfl,trivial⟩,fun H' _ h =>?_,EB (kt:=270) (key:=kyV) (val:=fun v=>nI v) HN HM (c,Int.tdiv t 6) (sfP p c (Int.tdiv t 6)) K.1,⟨K.put c (Int.tdiv t 6),trivial,rfl,ae _,⟨⟨rfl,knB _ _⟩,trivial⟩,trivial⟩⟩
  exact F6 p.shp o.lst.shp _ _ ⟨by decide,h.1,h.2.1,h.2.2.1,h.2.2.2.1⟩
 ·refine ⟨K,trivial,rfl,?_,⟨⟨rfl,knB _ _⟩,trivial⟩,trivial⟩
  rw[K.2 c (Int.tdiv t 6) (dL e)];exact ae _
theorem oY{p:Pl}{c a:Int}{n:Nat}:l8 p c a (n+1)=(l8 p c a n && !(sfP p c (Int.tdiv (a+(n:Int)) 6) == 0)):=by
 unfold l8;rw[List.range_succ,List.all_append];simp
theorem Cq{p:Pl}{c a:Int}{n k:Nat}(h:k<n)(e:(sfP p c (Int.tdiv (a+(k:Int)) 6) == 0)=true):l8 p c a n=false:=iG h (by rw[e];rfl)
theorem qU{p:Pl}(o:bG p){K:ab (sfP p)}{c x y:Int}(hc:0<=c/\c<(p.land.length:Int))(hx:0<=x)(hy:y<=endP p){H:Heap}{l c' n t' w i W m:Nat}(a:i7 H p K l c' n t' w i W m) :
  ad prog 70 [pt W,nI c,nI x,nI y] H [m] (fun q H2 => ∃z:ab (sfP p),True/\q = .bool (wtB p c x y)/\H2=H.set m (.map (knE z.1))):=by
 refine zC (Eq.mpr (GV p K c x y) ?_) rfl (fun _=>rfl) a rfl
 have he:endP p<=288:=by have:=o.cts;unfold endP;omega
 delta BU jg6 jg3 nI slQ pt ac fk nw eR kbq
 refine ⟨rfl,⟨Nat.zero_le _,rfl⟩,⟨rfl,⟨iEq (by show x=x+((0:Nat):Int);omega),rfl,rfl,rfl,trivial⟩,⟨⟨rfl,knB _ _⟩,trivial⟩,trivial,trivial⟩,fun _=>rfl,fun q ⟨h1,h2⟩=>⟨fun k =>?_,fun k =>?_⟩⟩
 ·have hk:=of_decide_eq_true k
  refine ⟨⟨rfl,rfl,rfl,rfl,rfl,rfl,rfl,rfl,rfl,trivial⟩,fun H' _ h=>td o hc (by omega) (eG h),fun r _=>⟨fun e =>?_,fun e =>?_⟩⟩
  ·refine ⟨r,trivial,rfl,?_,⟨⟨rfl,knB _ _⟩,trivial⟩,trivial⟩
   rw[show wtB p c x y=false from Cq (k:=q.1) (by omega) e];exact ae _
  ·refine ⟨ak (by omega),(q.1+1,r),⟨by show q.1+1<=_;omega,by show l8 p c x (q.1+1)=true;rw[oY,h2,e];rfl⟩,by show _-(q.1+1)<_-q.1;omega,rfl,⟨iEq (by show _=x+((q.1+1:Nat):Int);omega),rfl,rfl,rfl,trivial⟩,⟨⟨rfl,knB _ _⟩,trivial⟩,trivial,trivial⟩
 ·have hk:=of_decide_eq_false k
  refine ⟨q.2,trivial,rfl,?_,⟨⟨rfl,knB _ _⟩,trivial⟩,trivial⟩
  rw[show wtB p c x y=true from by unfold wtB;rw[show Int.toNat (y-x)=q.1 by omega];exact h2];exact ae _
theorem qV{p:Pl}(o:bG p){K:ab (sfP p)}{v:Int}(hv:1<=v/\v<=1000000){H:Heap}{l c' n t' w i W m:Nat}(a:i7 H p K l c' n t' w i W m) :
  ad prog 118 [pt W,nI v] H [] (Is (nI (tkP p v)) H):=by
 refine Hr (Eq.mpr (GY _ p K v) ?_) rfl rfl (fun _=>rfl) a rfl
 have hz:=o.size
 delta BV nI nw
 have hb:0<=Int.tdiv (6*p.size+v-1) v/\Int.tdiv (6*p.size+v-1) v<=2000000:=by
  rw[Int.tdiv_eq_ediv_of_nonneg (by omega)]
  exact ⟨Int.ediv_nonneg (by omega) (by omega),Int.le_trans (Int.ediv_le_self _ (by omega)) (by omega)⟩
 exact ⟨ak (by omega),ak (by omega),ak (by omega),by omega,ak (by omega),rfl⟩
theorem IJ{j:Nat}(hj:j<4):(-1<=bdx j/\bdx j<=1) /\ -1<=bdy j/\bdy j<=1:=by
 match j,hj with
 |0,_=>decide
 |1,_=>decide
 |2,_=>decide
 |3,_=>decide
theorem pY(p:Pl)(c:Int)(n:Nat):eF p c (n+1)=eF p c n++(if nbB p c n then [nbT p c n] else []):=by
 unfold eF
 rw[List.range_succ,List.filter_append,List.map_append]
 congr 1
 by_cases h:nbB p c n=true
 ·rw[if_pos h,List.filter_cons,if_pos h];rfl
 ·rw[if_neg h,List.filter_cons,if_neg h];rfl
theorem ul(p:Pl)(c:Int)(n:Nat):(eF p c n).length<=n:=by
 unfold eF
 rw[List.length_map]
 exact Nat.le_trans (List.length_filter_le ..) (by simp)
theorem JQ{w h:Int}{n:Nat}(b:yg w h n){i:Int}(hi:0<=i/\i<(n:Int)):(0<=Int.tmod i w/\Int.tmod i w<=w-1)/\(0<=Int.tdiv i w/\Int.tdiv i w<=h-1)/\Int.tdiv i w*w+Int.tmod i w=i:=by
 have hw:=b.w1
 have h1:=Int.mul_tdiv_add_tmod i w
 rw[Int.tmod_eq_emod_of_nonneg hi.1,Int.tdiv_eq_ediv_of_nonneg hi.1]at *
 have h2:=Int.emod_nonneg i (b:=w) (by omega)
 have h3:=Int.emod_lt_of_pos i (b:=w) (by omega)
 have h4:=Int.ediv_nonneg hi.1 (by omega:0<=w)
 have h5:i / w<h:=by
  rw[Int.ediv_lt_iff_lt_mul (by omega)]
  rw[Int.mul_comm,<- b.n1];exact hi.2
 exact ⟨by omega,by omega,by rw[Int.mul_comm];exact h1⟩
theorem EH{w h:Int}{n:Nat}(b:yg w h n){u v:Int}(hu:0<=u/\u<=w-1)(hv:0<=v/\v<=h-1):0<=v*w+u/\v*w+u<(n:Int):=by
 have hw:=b.w1
 have h1:0<=v*w:=Int.mul_nonneg hv.1 (by omega)
 have h2:v*w<=(h-1)*w:=Int.mul_le_mul_of_nonneg_right hv.2 (by omega)
 have h3:(h-1)*w=w*h-w:=by rw[Int.sub_mul,Int.mul_comm h w];omega
 have:=b.n1
 omega
theorem ky{p:Pl}(o:bG p){K:ab (sfP p)}{c:Int}(hc:0<=c/\c<(p.land.length:Int)){H:Heap}{l c' n t' w i W m:Nat}(a:i7 H p K l c' n t' w i W m) :
  ad prog 62 [pt W,nI c] H [] (Is (.slice (some ⟨H.length,0,some 1⟩) (bsP p c).length (bsP p c).length) (H ++ [.cells true 1 ((bsP p c).flatMap bc)])):=by
 refine mF (fun j => .slice (some ⟨j,0,some 1⟩) (bsP p c).length (bsP p c).length) (new:=[.cells true 1 ((bsP p c).flatMap bc)]) (Eq.mpr (Ep p K c) ?_) (jE p K) rfl ⟨⟨_,_,rfl,cz _ _⟩,trivial⟩ a.1 a.objs rfl (fun j=>rfl) rfl
 have b:=o.bas
 have hd:=JQ b hc
 have hw:=b.w1
 have hh:=b.h1
 delta ya jgc jg9 jg5 jg4 jge jga jg2 nI slQ pt slN fk nw eR kbq ixq lq apq c0q
 refine ⟨by omega,by omega,ak (by omega),rfl,by omega,?_,fun _=>rfl,fun x hx=>⟨fun k =>?_,fun k =>?_⟩⟩
 ·repeat' first|exact trivial|exact ef _ _ _ (.inl rfl)|refine ⟨rfl,?_⟩|refine ⟨trivial,?_⟩|apply And.intro
 ·have h4:x<4:=by have:=of_decide_eq_true k;omega
  have hb:=IJ h4
  have e0:(Int.tmod c p.w + [0,-1,1,0].getD x 0:Int)=nbU p c x:=rfl
  have e1:(Int.tdiv c p.w + [-1,0,0,1].getD x 0:Int)=nbV p c x:=rfl
  have hl:=ul p c x
  have hu : -1<=nbU p c x/\nbU p c x<=64:=by rw[<- e0];have:=hb.1;unfold bdx at this;omega
  have hv : -1<=nbV p c x/\nbV p c x<=64:=by rw[<- e1];have:=hb.2;unfold bdy at this;omega
  have no:nbB p c x=false->eF p c (x+1)=eF p c x:=fun q=>by rw[pY,q];exact List.append_nil _
  simp only[e0,e1]
  refine ⟨?_,ak (by omega),ak (by omega),ak (by omega),trivial,fun H' hl _=>yQ _ _ _ (by omega),fun f1=>⟨ak (by omega),trivial,fun H' hl _=>yQ _ _ _ (by omega),fun f2 =>?_,fun f2 =>?_⟩,fun f1 =>?_⟩
  ·match x,h4 with
   |0,_=>rfl
   |1,_=>rfl
   |2,_=>rfl
   |3,_=>rfl
  ·have g1:=aR.1 f1
   have g2:=aR.1 f2
   have g3:=EH b g1 g2
   have g4:=iI (a:=nbV p c x) (b:=p.w) (A:=64) (B:=64) g2.1 (by omega) (by omega) hw.2
   have e2:nbV p c x*p.w+nbU p c x=nbT p c x:=rfl
   simp only[e2]at g3 ⊢
   refine ⟨ak (by omega),?_,g3,eQ (by omega) (by omega),fun f3 =>?_,fun f3 =>?_⟩
   ·exact ak (by have:=o.bd;omega)
   ·have yes:eF p c (x+1)=eF p c x ++ [nbT p c x]:=by
     rw[pY,show nbB p c x=true from by unfold nbB;rw[f1,f2,f3];rfl];rfl
    refine ⟨ak (by omega),ak (by have:=o.bd;omega),⟨by omega,by decide,⟨Nat.le_refl _,by rw[aP iM];omega⟩,⟨Nat.le_refl _,by simp⟩,rfl⟩,trivial,ak (by omega),x+1,by omega,by omega,trivial,?_⟩
    repeat' first|exact cv yes|exact cA iM yes rfl|exact cz _ _|exact trivial|refine ⟨rfl,?_⟩|refine ⟨trivial,?_⟩|apply And.intro
   ·refine ⟨ak (by omega),x+1,by omega,by omega,trivial,?_⟩
    rw[no (by unfold nbB;rw[f1,f2,f3];rfl)]
    repeat' first|exact cz _ _|exact trivial|exact ae _|refine ⟨rfl,?_⟩|refine ⟨trivial,?_⟩|apply And.intro
  ·refine ⟨ak (by omega),x+1,by omega,by omega,trivial,?_⟩
   rw[no (by unfold nbB;rw[f2,Bool.and_false];rfl)]
   repeat' first|exact cz _ _|exact trivial|exact ae _|refine ⟨rfl,?_⟩|refine ⟨trivial,?_⟩|apply And.intro
  ·refine ⟨ak (by omega),x+1,by omega,by omega,trivial,?_⟩
   rw[no (by unfold nbB;rw[f1];rfl)]
   repeat' first|exact cz _ _|exact trivial|exact ae _|refine ⟨rfl,?_⟩|refine ⟨trivial,?_⟩|apply And.intro
 ·have h4:x=4:=by have:=of_decide_eq_false k;omega
  subst h4
  repeat' first|exact cz _ _|exact trivial|exact ae _|refine ⟨rfl,?_⟩|apply And.intro
structure Leg where
 to:Int
 dep:Int
 spd:Int
 arr:Int
deriving DecidableEq
def zL:Leg:=⟨0,0,0,0⟩
abbrev lgC(x:Leg):List Value:=[nI x.to,nI x.dep,nI x.spd,nI x.arr]
def bR(p:Pl)(to t:Int):Nat->Int
 |0=>250
 |n+1=>if sfP p to (Int.tdiv (t+(n:Int)) 6)<bR p to t n then sfP p to (Int.tdiv (t+(n:Int)) 6) else bR p to t n
def spL(p:Pl)(to t:Int)(n:Nat):Int :=
 if 1<n then (if Int.tdiv (6*p.size-1) ((n:Int)-1)<bR p to t n then Int.tdiv (6*p.size-1) ((n:Int)-1) else bR p to t n) else bR p to t n
def goB(p:Pl)(to t:Int)(n:Nat):Bool:=decide (10<=bR p to t n)&&decide (10<=spL p to t n)
def okL(p:Pl)(to t:Int)(n:Nat):Bool:=(List.range n).all fun k=>goB p to t (k+1)
def ek(p:Pl)(to t:Int)(k:Nat):List Leg:=if okL p to t (k+1)&&(tkP p (spL p to t (k+1)) == ((k+1:Nat):Int)) then [⟨to,t,spL p to t (k+1),t+1+(k:Int)⟩] else []
def bD(p:Pl)(to t:Int)(n:Nat):List Leg:=(List.range n).flatMap (ek p to t)
def jO(p:Pl)(t to:Int):List Leg:=bD p to t (Int.toNat (endP p-t))
def aV(p:Pl)(c t:Int)(i:Nat):List Leg:=((bsP p c).take i).flatMap (jO p t)
def lgP(p:Pl)(c t:Int):List Leg:=(bsP p c).flatMap (jO p t)
theorem jd(x:Leg):(lgC x).length=4:=rfl
theorem bu(n:Nat)(l:List Leg):(l.flatMap lgC).all (ao n)=true:=cQ (fun _=>rfl) l
theorem jX{p:Pl}(o:bG p){c x:Int}(hc:0<=c/\c<(p.land.length:Int))(h:x∈bsP p c):(0<=x/\x<(p.land.length:Int))/\p.land.getD (Int.toNat x) false=false:=by
 unfold bsP eF at h
 obtain ⟨j,hj,rfl⟩:=List.mem_map.1 h
 have hb:=(List.mem_filter.1 hj).2
 unfold nbB at hb
 rw[Bool.and_eq_true,Bool.and_eq_true]at hb
 refine ⟨EH o.bas (aR.1 hb.1.1) (aR.1 hb.1.2),?_⟩
 have h2:=hb.2
 rwa [Bool.not_eq_true']at h2
theorem ft(p:Pl)(c:Int):(bsP p c).length<=4:=ul p c 4
theorem nY{p:Pl}(o:bG p){c:Int}(hc:0<=c/\c<(p.land.length:Int)){i:Nat}(h:i<(bsP p c).length):0<=(bsP p c).getD i 0/\(bsP p c).getD i 0<(p.land.length:Int):=(jX o hc (kE h)).1
theorem ml(p:Pl)(to t:Int):∀n,bR p to t n<=250
 |0=>Int.le_refl _
 |n+1=>by
  have:=ml p to t n
  unfold bR
  by_cases h:sfP p to (Int.tdiv (t+(n:Int)) 6)<bR p to t n
  ·rw[if_pos h];omega
  ·rw[if_neg h];exact this
theorem uS(p:Pl)(to t:Int)(n:Nat):spL p to t n<=bR p to t n:=by
 unfold spL
 by_cases h:1<n
 ·rw[if_pos h]
  by_cases h2:Int.tdiv (6*p.size-1) ((n:Int)-1)<bR p to t n
  ·rw[if_pos h2];omega
  ·rw[if_neg h2];omega
 ·rw[if_neg h];omega
theorem mS{p:Pl}{to t:Int}{n:Nat}:okL p to t (n+1)=(okL p to t n&&goB p to t (n+1)):=by
 unfold okL;rw[List.range_succ,List.all_append];simp
theorem FO{p:Pl}{to t:Int}{n:Nat}(h:goB p to t (n+1)=false){k:Nat}(hk:n<=k):okL p to t (k+1)=false:=iG (i:=n) (by omega) h
theorem dU{p:Pl}{to t:Int}{n:Nat}:bD p to t (n+1)=bD p to t n++ek p to t n:=by
 unfold bD;rw[List.range_succ,List.flatMap_append];simp
theorem Aq{p:Pl}{to t:Int}{n k:Nat}(h:goB p to t (n+1)=false)(hk:n<=k):ek p to t k=[]:=by
 unfold ek;rw[FO h hk];rfl
theorem pC{p:Pl}{to t:Int}{n:Nat}(h:goB p to t (n+1)=false):∀{m:Nat},n<=m->bD p to t m=bD p to t n
 |0,hm=>by rw[Nat.le_zero.1 hm]
 |m+1,hm=>by
  by_cases e:n=m+1
  ·rw[e]
  ·rw[dU,Aq h (by omega),List.append_nil];exact pC h (by omega)
theorem yG(p:Pl)(to t:Int)(k:Nat):(ek p to t k).length<=1:=by
 unfold ek
 by_cases h:(okL p to t (k+1)&&(tkP p (spL p to t (k+1)) == ((k+1:Nat):Int)))=true
 ·rw[if_pos h];exact Nat.le_refl _
 ·rw[if_neg h];exact Nat.zero_le _
theorem nh(p:Pl)(to t:Int):∀n,(bD p to t n).length<=n
 |0=>Nat.le_refl _
 |n+1=>by
  rw[dU,List.length_append]
  have:=nh p to t n
  have:=yG p to t n
  omega
theorem pu{p:Pl}{c t:Int}{i:Nat}(h:i<(bsP p c).length):aV p c t (i+1)=aV p c t i++jO p t ((bsP p c).getD i 0):=by
 unfold aV
 rw[List.take_add_one,List.flatMap_append,List.getElem?_eq_getElem h,List.getD_eq_getElem?_getD,List.getElem?_eq_getElem h]
 simp
theorem gu{p:Pl}{c t:Int}{i:Nat}(h:(bsP p c).length<=i):aV p c t i=lgP p c t:=by
 unfold aV lgP;rw[List.take_of_length_le h]
theorem mP{p:Pl}{t:Int}(c:Int)(ht:0<=t):∀i,(aV p c t i).length<=i*Int.toNat (endP p)
 |0=>by simp[aV]
 |i+1=>by
  by_cases h:i<(bsP p c).length
  ·rw[pu h,List.length_append,Nat.add_mul]
   have:=mP c ht (p:=p) i
   have h2:(jO p t ((bsP p c).getD i 0)).length<=Int.toNat (endP p-t):=nh ..
   omega
  ·have e:aV p c t (i+1)=aV p c t i:=by rw[gu (by omega),gu (by omega)]
   rw[e,Nat.add_mul]
   have:=mP c ht (p:=p) i
   omega
theorem dG{p:Pl}(o:bG p):endP p<=288:=by have:=o.cts;unfold endP;omega
theorem wU{p:Pl}(o:bG p){c t:Int}(ht:0<=t){i:Nat}(h:i<=(bsP p c).length):(aV p c t i).length<=1152:=by
 have h1:=mP (p:=p) c ht i
 have h2:=ft p c
 have h3:=dG o
 have h4:i*Int.toNat (endP p)<=4*288:=Nat.mul_le_mul (by omega) (by omega)
 omega
theorem FX{p:Pl}(o:bG p){c t:Int}(ht:0<=t):(lgP p c t).length<=1152:=by
 rw[<- gu (Nat.le_refl _)];exact wU o ht (Nat.le_refl _)
theorem Ae{p:Pl}(o:bG p){c t to:Int}(ht:0<=t){i n:Nat}(h:i<=(bsP p c).length)(hn:n<=Int.toNat (endP p-t)):(aV p c t i++bD p to t n).length<=1440:=by
 have h1:=wU o ht h
 have h2:=nh p to t n
 have h3:=dG o
 rw[List.length_append];omega
theorem dy{p:Pl}{c t:Int}{i n:Nat}(h:i<(bsP p c).length)(hn:n<=Int.toNat (endP p-t))(hs:n=Int.toNat (endP p-t)∨goB p ((bsP p c).getD i 0) t (n+1)=false) :
  aV p c t (i+1)=aV p c t i++bD p ((bsP p c).getD i 0) t n:=by
 rw[pu h]
 congr 1
 rcases hs with rfl|hs
 ·rfl
 ·exact pC hs hn
theorem nf{p:Pl}{to t:Int}{n:Nat}{u:Int}(hu:u=Int.tdiv (t+(n:Int)) 6):(if sfP p to u<bR p to t n then sfP p to u else bR p to t n)=bR p to t (n+1):=by subst hu;rfl
theorem re{p:Pl}{to t:Int}{n:Nat}(h:bR p to t n<10):goB p to t n=false:=by
 unfold goB;rw[decide_eq_false (by omega)];rfl
theorem vY{p:Pl}{to t:Int}{n:Nat}(h:spL p to t n<10):goB p to t n=false:=by
 unfold goB;rw[decide_eq_false (p:=10<=spL p to t n) (by omega),Bool.and_false]
theorem rc{p:Pl}{to t:Int}{n:Nat}(h1:¬ bR p to t n<10)(h2:¬ spL p to t n<10):goB p to t n=true:=by
 unfold goB;rw[decide_eq_true (by omega),decide_eq_true (by omega)];rfl
end
end Go.Proofs.YtmecpfikljhjaaaGreatDoor
namespace Go.K
noncomputable section
structure Tb where
 ks:Nat->Nat
 hs:List Value
 ms:List Value
def sG(v:Value):Prop:=∀σ:Nat->Option Nat,rn σ 3 v=v
structure fS{α:Type}(F z n:Nat)(enc:α->List Value)(rows:Nat->List α)(T:Tb):Prop where
 hl:T.hs.length=n
 m0:T.ms[0]?=some (.int .i64 (z:Int))
 fx:∀v∈T.ms,sG v
 hd:∀t,t<n->T.hs[t]?=some (cX (rows t).length F (T.ks t))
 rw:∀t,t<n->0<(rows t).length->T.ms[T.ks t+1]?=some (.agg ⟨(rows t).flatMap enc⟩)
 dj:∀t u,t<n->u<n->t≠u->0<(rows t).length->0<(rows u).length->T.ks t≠T.ks u
def Tb.new(F z n:Nat):Tb:=⟨fun _=>0,List.replicate n (cX 0 F 0),[.int .i64 (z:Int)]⟩
theorem fS.new{α:Type}(F z n:Nat)(enc:α->List Value):fS F z n enc (fun _=>[]) (Tb.new F z n):=by
 refine ⟨List.length_replicate,rfl,fun v hv σ =>?_,fun t ht =>?_,fun t _ h=>absurd h (Nat.lt_irrefl 0),fun t u _ _ _ h=>absurd h (Nat.lt_irrefl 0)⟩
 ·cases List.mem_singleton.1 hv;rfl
 ·show (List.replicate n _)[t]?=_
  rw[List.getElem?_replicate,if_pos ht];rfl
theorem lN(r k:Nat)(ms:List Value):(aE r k ms).length=ms.length:=by
 cases r with
 |zero=>rfl
 |succ r=>exact List.length_set
theorem uU:sG junk:=fun _=>rfl
theorem sT{r k:Nat}{ms:List Value}(h:∀v∈ms,sG v):∀v∈aE r k ms,sG v:=by
 cases r with
 |zero=>exact h
 |succ r =>
  intro v hv
  rcases List.mem_or_eq_of_mem_set hv with hv|rfl
  ·exact h v hv
  ·exact uU
theorem yu{cs:List Value}(h:∀(σ:Nat->Option Nat),∀v∈cs,rn σ 2 v=v):sG (.agg ⟨cs⟩):=fun σ=>by
 show Value.agg ⟨cs.map (rn σ 2)⟩=_
 rw[List.map_congr_left (h σ),List.map_id']
theorem fS.lt{α:Type}{F z n:Nat}{enc:α->List Value}{rows:Nat->List α}{T:Tb}(I:fS F z n enc rows T){t:Nat}(ht:t<n)(h:0<(rows t).length):T.ks t+1<T.ms.length:=(List.getElem?_eq_some_iff.1 (I.rw t ht h)).1
theorem fS.pos{α:Type}{F z n:Nat}{enc:α->List Value}{rows:Nat->List α}{T:Tb}(I:fS F z n enc rows T):0<T.ms.length:=(List.getElem?_eq_some_iff.1 I.m0).1
def Tb.put(F t r:Nat)(row:List Value)(q:Nat)(T:Tb):Tb:=⟨fun j=>if j=t then T.ms.length-1 else T.ks j,T.hs.set t (cX q F (T.ms.length-1)),cp q (aE r (T.ks t) T.ms) row⟩
theorem fS.put{α:Type}{F z n:Nat}{enc:α->List Value}{rows:Nat->List α}{T:Tb}(I:fS F z n enc rows T){t:Nat}(ht:t<n)(l:List α)(hf:∀(σ:Nat->Option Nat) (x:α),∀v∈enc x,rn σ 2 v=v){row:List Value}(e:row=l.flatMap enc) :
  fS F z n enc (fun j=>if j=t then l else rows j) (T.put F t (rows t).length row l.length):=by
 subst e
 have hp:=I.pos
 have hfx:=sT (r:=(rows t).length) (k:=T.ks t) I.fx
 have hll:=lN (rows t).length (T.ks t) T.ms
 have hle:∀j,j<n->j≠t->0<(rows j).length->(aE (rows t).length (T.ks t) T.ms)[T.ks j+1]?=T.ms[T.ks j+1]? := fun j hj hne h=>by
  cases hr:(rows t).length with
  |zero=>rfl
  |succ r =>
   show (T.ms.set (T.ks t+1) junk)[_]?=_
   rw[List.getElem?_set_ne fun e=>I.dj t j ht hj (Ne.symm hne) (by omega) h (by omega)]
 have h0:(aE (rows t).length (T.ks t) T.ms)[0]?=T.ms[0]? := by
  cases hr:(rows t).length with
  |zero=>rfl
  |succ r=>exact List.getElem?_set_ne (by omega)
 have hm:∀(i:Nat) (v:Value),(aE (rows t).length (T.ks t) T.ms)[i]?=some v->(cp l.length (aE (rows t).length (T.ks t) T.ms) (l.flatMap enc))[i]?=some v:=fun i v h=>by
  cases hq:l.length with
  |zero=>exact h
  |succ q =>
   show (_ ++ [_])[i]?=_
   rw[List.getElem?_append_left (List.getElem?_eq_some_iff.1 h).1];exact h
 refine ⟨?_,?_,?_,?_,?_,?_⟩
 ·show (T.hs.set _ _).length=n
  rw[List.length_set];exact I.hl
 ·exact hm _ _ (h0.trans I.m0)
 ·intro v hv
  have hv:v∈cp l.length (aE (rows t).length (T.ks t) T.ms) (l.flatMap enc):=hv
  cases hq:l.length with
  |zero=>rw[hq]at hv;exact hfx v hv
  |succ q =>
   rw[hq]at hv
   rcases List.mem_append.1 hv with hv|hv
   ·exact hfx v hv
   ·cases List.mem_singleton.1 hv
    refine yu fun σ v hv =>?_
    obtain ⟨x,_,hx⟩:=List.mem_flatMap.1 hv
    exact hf σ x v hx
 ·intro j hj
  show (T.hs.set t _)[j]?=some (cX (if j=t then l else rows j).length F (if j=t then _ else _))
  by_cases h:j=t
  ·subst h
   rw[if_pos rfl,if_pos rfl,List.getElem?_set_self (by rw[I.hl];exact ht)]
  ·rw[if_neg h,if_neg h,List.getElem?_set_ne (Ne.symm h)];exact I.hd j hj
 ·intro j hj hl
  show (cp _ _ _)[(if j=t then T.ms.length-1 else T.ks j)+1]?=some (.agg ⟨(if j=t then l else rows j).flatMap enc⟩)
  by_cases h:j=t
  ·subst h
   rw[if_pos rfl]at hl
   rw[if_pos rfl,if_pos rfl]
   cases hq:l.length with
   |zero=>omega
   |succ q =>
    show (_ ++ [_])[_]?=_
    rw[List.getElem?_append_right (by omega),show T.ms.length-1+1-(aE (rows j).length (T.ks j) T.ms).length=0 by omega];rfl
  ·rw[if_neg h]at hl
   rw[if_neg h,if_neg h]
   exact hm _ _ ((hle j hj h hl).trans (I.rw j hj hl))
 ·intro j u hj hu hne h1 h2
  show (if j=t then T.ms.length-1 else T.ks j)≠(if u=t then T.ms.length-1 else T.ks u)
  by_cases a:j=t
  ·have b:¬ u=t:=fun b=>hne (a.trans b.symm)
   rw[if_neg b]at h2
   rw[if_pos a,if_neg b]
   have:=I.lt hu h2;omega
  ·rw[if_neg a]at h1
   rw[if_neg a]
   by_cases b:u=t
   ·rw[if_pos b]
    have:=I.lt hj h1;omega
   ·rw[if_neg b]at h2
    rw[if_neg b];exact I.dj j u hj hu hne h1 h2
theorem zR{σ:Nat->Option Nat}{F:Nat}(h:σ F=some F)(n k:Nat):rn σ 3 (cX n F k)=cX n F k:=by
 show (match σ F with|some id'=>Value.iface (n+1) (.pointer (some ⟨id',0,some (k+3)⟩))|none=>_)=_
 rw[h]
theorem fS.wkH{α:Type}{F z n:Nat}{enc:α->List Value}{rows:Nat->List α}{T:Tb}(I:fS F z n enc rows T){σ:Nat->Option Nat}(hF:σ F=some F){zh:Nat}{hs:List Value}(e:hs=T.hs):wkO (.cells true zh hs) (rno σ 3 (.cells true zh T.hs)):=by
 refine bh ?_
 subst e
 show _=aa.cells true zh (T.hs.map (rn σ 3))
 rw[show T.hs.map (rn σ 3)=T.hs from ?_]
 refine List.ext_getElem? fun i =>?_
 rw[List.getElem?_map]
 by_cases h:i<n
 ·rw[I.hd i h]
  exact congrArg some (zR hF _ _)
 ·rw[List.getElem?_eq_none (by rw[I.hl];omega)];rfl
theorem fS.wkM{α:Type}{F z n:Nat}{enc:α->List Value}{rows:Nat->List α}{T:Tb}(I:fS F z n enc rows T){σ:Nat->Option Nat}{ms:List Value}(e:ms=T.ms):wkO (.fam 0 ms) (rno σ 3 (.fam 0 T.ms)):=by
 refine bh ?_
 subst e
 show _=aa.fam 0 (T.ms.map (rn σ 3))
 rw[List.map_congr_left fun v hv=>I.fx v hv σ,List.map_id']
theorem yi(σ:Nat->Option Nat)(F:Nat):wk (.slice none 0 0) (rn σ 3 (cX 0 F 0)):=by
 intro ρ x h
 cases h
 show VR ρ (match σ F with|some id'=>Value.iface 1 (.pointer (some ⟨id',0,some 3⟩))|none => .iface 1 (.pointer none)) _
 cases σ F with
 |some _=>exact .bS
 |none=>exact .bS
theorem sW(v:Value):∀n,cM [v] n=List.replicate n v
 |0=>rfl
 |n+1=>by show v :: cM [v] n=_;rw[sW v n];rfl
theorem wC{a b:Value}(h:wk a b):∀n,wks (List.replicate n a) (List.replicate n b)
 |0=>trivial
 |n+1=>⟨h,wC h n⟩
theorem Fq{σ:Nat->Option Nat}{F z n zh:Nat}:wkO (.cells true zh (cM [.slice none 0 0] n)) (rno σ 3 (.cells true zh (Tb.new F z n).hs)):=by
 show wkO _ (.cells true zh ((List.replicate n (cX 0 F 0)).map (rn σ 3)))
 rw[List.map_replicate,sW]
 exact aN (wC (yi σ F) n)
end
end Go.K
namespace Go.Proofs.YtmecpfikljhjaaaGreatDoor
noncomputable section
attribute [local irreducible] vF
def dc(G:List (List Bool))(a c:Int):List (List Bool):=G.set (Int.toNat a) ((G.getD (Int.toNat a) []).set (Int.toNat c) true)
def bU(G:List (List Bool))(l:List Leg):List (List Bool):=l.foldl (fun G x=>dc G x.arr x.to) G
abbrev NT(p:Pl):Nat:=Int.toNat (endP p+1)
def G0(p:Pl):List (List Bool):=dc (List.replicate (NT p) (List.replicate p.chan.length false)) 0 p.frm
def cSt(p:Pl)(t j:Nat)(G:List (List Bool)):List (List Bool):=bU (if wtB p (j:Int) (t:Int) ((t:Int)+1) then dc G ((t:Int)+1) (j:Int) else G) (lgP p (j:Int) (t:Int))
def cTo(p:Pl)(t:Nat)(G:List (List Bool)):Nat->List (List Bool)
 |0=>G
 |j+1=>if (G.getD t []).getD j false then cSt p t j (cTo p t G j) else cTo p t G j
def gTo(p:Pl):Nat->List (List Bool)
 |0=>G0 p
 |k+1=>cTo p k (gTo p k) (((gTo p k).getD k []).length)
def tbP(p:Pl):List (List Bool):=gTo p (Int.toNat (endP p))
abbrev dV(l:List Bool):Value:=.iface (l.length+1) (.agg ⟨l.flatMap af⟩)
def Tb.frz(t r:Nat)(v:Value)(T:Tb):Tb:=⟨fun j=>if j=t then T.ms.length-1 else T.ks j,T.hs.set t v,aE r (T.ks t) T.ms⟩
structure bN(F N n f:Nat)(G:List (List Bool))(T:Tb):Prop where
 gl:G.length=N
 rl:∀t,t<N->(G.getD t []).length=n
 tl:T.hs.length=N
 sh:∃hs',fS F 1 N af (fun t=>if t<f then [] else G.getD t []) ⟨T.ks,hs',T.ms⟩/\∀t,f<=t->t<N->T.hs[t]?=hs'[t]?
 dn:∀t,t<f->t<N->T.hs[t]?=some (dV (G.getD t []))
variable {F N n f:Nat} {G:List (List Bool)} {T:Tb}
theorem bN.at(I:bN F N n f G T){t:Nat}(h1:f<=t)(h2:t<N):T.hs[t]?=some (cX (G.getD t []).length F (T.ks t)):=by
 obtain ⟨hs',J,e⟩:=I.sh
 rw[e t h1 h2,J.hd t h2,if_neg (by omega)]
theorem bN.m0(I:bN F N n f G T):T.ms[0]?=some (nI ((1:Nat):Int)):=by obtain ⟨hs',J,e⟩:=I.sh;exact J.m0
theorem bN.pos(I:bN F N n f G T):0<T.ms.length:=by obtain ⟨hs',J,e⟩:=I.sh;exact J.pos
theorem bN.rw(I:bN F N n f G T){t:Nat}(h1:f<=t)(h2:t<N):0<(G.getD t []).length->T.ms[T.ks t+1]?=some (.agg ⟨(G.getD t []).flatMap af⟩):=fun h=>by
 obtain ⟨hs',J,e⟩:=I.sh
 have:=J.rw t h2
 rw[if_neg (by omega)]at this
 exact this h
theorem nZ(σ:Nat->Option Nat)(x:Bool):∀v∈af x,rn σ 2 v=v:=fun v hv=>by cases List.mem_singleton.1 hv;rfl
theorem bN.put(I:bN F N n f G T){t:Nat}(h1:f<=t)(h2:t<N){l:List Bool}{row:List Value}{r q:Nat}(e:row=l.flatMap af)(hr:r=(G.getD t []).length)(hq:q=l.length)(hl:l.length=n):bN F N n f (G.set t l) (T.put F t r row q):=by
 subst hr hq
 obtain ⟨hs',J,g⟩:=I.sh
 have J2:=J.put h2 l nZ e
 have hG:t<G.length:=by rw[I.gl];exact h2
 refine ⟨by rw[List.length_set];exact I.gl,fun u hu =>?_,by show (T.hs.set _ _).length=N;rw[List.length_set];exact I.tl,⟨hs'.set t (cX l.length F (T.ms.length-1)),?_,fun u hu hv =>?_⟩,fun u hu hv =>?_⟩
 ·rw[c7 hG]
  by_cases a:u=t
  ·rw[if_pos a];exact hl
  ·rw[if_neg a];exact I.rl u hu
 ·have e1:(fun u=>if u<f then [] else (G.set t l).getD u [])=(fun j=>if j=t then l else (fun t=>if t<f then [] else G.getD t []) j):=funext fun u=>by
   rw[c7 hG]
   by_cases a:u=t
   ·rw[if_pos a,if_pos a,if_neg (by omega)]
   ·rw[if_neg a,if_neg a]
  rw[e1]
  have e2:(if t<f then ([]:List Bool) else G.getD t []).length=(G.getD t []).length:=by rw[if_neg (by omega)]
  have J3:=J2
  unfold Tb.put at J3 ⊢
  dsimp only at J3 ⊢
  rw[e2]at J3
  exact J3
 ·show (T.hs.set t _)[u]?=_
  by_cases a:u=t
  ·subst a
   rw[List.getElem?_set_self (by rw[I.tl];exact h2),List.getElem?_set_self (by rw[J.hl];exact h2)]
  ·rw[List.getElem?_set_ne (Ne.symm a),List.getElem?_set_ne (Ne.symm a)];exact g u hu hv
 ·show (T.hs.set t _)[u]?=_
  rw[List.getElem?_set_ne (by omega),I.dn u hu hv,c7 hG,if_neg (by omega)]
theorem bN.frz(I:bN F N n f G T)(h:f<N){r:Nat}{v:Value}(hr:r=(G.getD f []).length)(hv:v=dV (G.getD f [])):bN F N n (f+1) G (Tb.frz f r v T):=by
 subst hr hv
 obtain ⟨hs',J,g⟩:=I.sh
 have J2:=J.put h ([]:List Bool) nZ rfl
 refine ⟨I.gl,I.rl,by show (T.hs.set _ _).length=N;rw[List.length_set];exact I.tl,⟨hs'.set f (cX 0 F (T.ms.length-1)),?_,fun u hu hv =>?_⟩,fun u hu hv =>?_⟩
 ·have e1:(fun u=>if u<f+1 then ([]:List Bool) else G.getD u [])=(fun j=>if j=f then [] else (fun t=>if t<f then [] else G.getD t []) j):=funext fun u=>by
   show (if u<f+1 then ([]:List Bool) else G.getD u [])=if u=f then [] else if u<f then [] else G.getD u []
   by_cases a:u=f
   ·rw[if_pos a,if_pos (by omega)]
   ·rw[if_neg a]
    by_cases b:u<f
    ·rw[if_pos b,if_pos (by omega)]
    ·rw[if_neg b,if_neg (by omega)]
  rw[e1]
  have e2:(if f<f then ([]:List Bool) else G.getD f []).length=(G.getD f []).length:=by rw[if_neg (by omega)]
  have J3:=J2
  unfold Tb.put at J3
  unfold Tb.frz
  dsimp only at J3 ⊢
  rw[e2]at J3
  exact J3
 ·show (T.hs.set f _)[u]?=_
  rw[List.getElem?_set_ne (by omega),List.getElem?_set_ne (by omega)];exact g u (by omega) hv
 ·show (T.hs.set f _)[u]?=_
  by_cases a:u=f
  ·subst a
   rw[List.getElem?_set_self (by rw[I.tl];exact h)]
  ·rw[List.getElem?_set_ne (Ne.symm a)];exact I.dn u (by omega) hv
theorem fV(σ:Nat->Option Nat)(l:List Bool):rn σ 3 (dV l)=dV l:=by
 show Value.iface _ (.agg ⟨(l.flatMap af).map (rn σ 2)⟩)=_
 rw[List.map_congr_left (g:=fun v=>v) fun v hv =>?_,List.map_id']
 obtain ⟨b,_,hb⟩:=List.mem_flatMap.1 hv
 cases List.mem_singleton.1 hb;rfl
theorem bN.wkH(I:bN F N n f G T){σ:Nat->Option Nat}(hF:σ F=some F){zh:Nat}{hs:List Value}(e:hs=T.hs):wkO (.cells true zh hs) (rno σ 3 (.cells true zh T.hs)):=by
 refine bh ?_
 subst e
 show _=aa.cells true zh (T.hs.map (rn σ 3))
 rw[show T.hs.map (rn σ 3)=T.hs from ?_]
 refine List.ext_getElem? fun i =>?_
 rw[List.getElem?_map]
 by_cases h:i<N
 ·by_cases hf:f<=i
  ·rw[I.at hf h];exact congrArg some (zR hF _ _)
  ·rw[I.dn i (by omega) h];exact congrArg some (fV σ _)
 ·rw[List.getElem?_eq_none (by rw[I.tl];omega)];rfl
theorem bN.wkM(I:bN F N n f G T){σ:Nat->Option Nat}{ms:List Value}(e:ms=T.ms):wkO (.fam 0 ms) (rno σ 3 (.fam 0 T.ms)):=by
 obtain ⟨hs',J,_⟩:=I.sh
 exact J.wkM e
theorem bN.all(I:bN F N n N G T):T.hs=G.map dV:=by
 refine List.ext_getElem? fun i =>?_
 rw[List.getElem?_map]
 by_cases h:i<N
 ·rw[I.dn i h h,List.getD_eq_getElem?_getD,List.getElem?_eq_getElem (by rw[I.gl];exact h)];rfl
 ·rw[List.getElem?_eq_none (by rw[I.tl];omega),List.getElem?_eq_none (by rw[I.gl];omega)];rfl
theorem bN.ofI{k:Nat}(hk:k=N)(I:fS F 1 N af (fun j=>if j<k then List.replicate n false else []) T):bN F N n 0 (List.replicate N (List.replicate n false)) T:=by
 subst hk
 have e:∀t,t<k->(List.replicate k (List.replicate n false)).getD t []=List.replicate n false:=fun t ht=>by
  rw[List.getD_eq_getElem?_getD,List.getElem?_replicate,if_pos ht];rfl
 refine ⟨List.length_replicate,fun t ht=>by rw[e t ht,List.length_replicate],I.hl,⟨T.hs,?_,fun _ _ _=>rfl⟩,fun t ht=>absurd ht (Nat.not_lt_zero t)⟩
 have e1:(fun t=>if t<0 then ([]:List Bool) else (List.replicate k (List.replicate n false)).getD t [])=fun j=>if j<k then List.replicate n false else []:=funext fun t=>by
  rw[if_neg (Nat.not_lt_zero t)]
  by_cases h:t<k
  ·rw[if_pos h,e t h]
  ·rw[if_neg h,List.getD_eq_getElem?_getD,List.getElem?_eq_none (by rw[List.length_replicate];omega)];rfl
 rw[e1];exact I
def unB:List Value->List Bool
 | .bool b :: l=>b :: unB l
 |_=>[]
theorem se:∀l:List Bool,unB (l.flatMap af)=l
 | [] =>rfl
 |b :: l=>by show b :: unB (l.flatMap af)=_;rw[se l]
def ce(T:Tb)(t:Nat):List Bool:=match T.ms[T.ks t+1]? with|some (.agg ⟨cs⟩)=>unB cs|_=>[]
theorem bN.row(I:bN F N n f G T)(h0:0<n){t:Nat}(h1:f<=t)(h2:t<N):ce T t=G.getD t []:=by
 unfold ce
 rw[I.rw h1 h2 (by rw[I.rl t h2];exact h0)]
 exact se _
end
end Go.Proofs.YtmecpfikljhjaaaGreatDoor
