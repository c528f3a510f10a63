/- What is to be shown of functions. Printed by a program. No condition. -/
import Derived.Test.YtbgfjemppjhmjaaGreatGO7gxP23
import Derived.Test.YtbgfjemppjhmjaaGreatGO1gxW3
open Go Go.K
set_option maxRecDepth 1000000
set_option maxHeartbeats 4000000
set_option linter.unusedVariables false
set_option linter.unusedSimpArgs false
namespace Go.Proofs.YtbgfjemppjhmjaaGreat
noncomputable section
attribute [local irreducible] vF
variable {w h:Int} {a:List Bool} {p:Int} {ss:List (Int×Int)} {o1 o2:Bool} {z1 z2:Nat} {H:Heap}
abbrev kq6(i:Nat):Int:=(i:Nat)
abbrev kq4(ss:List (Int×Int)):Int:=(ss.length:Nat)
abbrev kqa(ss:List (Int×Int))(i:Nat):=ss.getD i ae
def JT(o1 o2:Bool)(z1 z2:Nat)(w h:Int)(a:List Bool)(p:Int)(ss:List (Int×Int))(rr:List (List Int))(i:Nat)(c m:Int):Prop :=
 (((0:Int)<=(kq6 i)/\((kq6 i):Int)<((rr.length:Nat):Int))/\((inL rr)[(0+Int.toNat (kq6 i)*1)]?=some (.iface ((rr.getD i []).length+1) (.agg ⟨((rr.getD i []).flatMap ai)⟩)))/\((0:Int)<=c/\(c:Int)<(((rr.getD i []).length:Nat):Int))/\(((rr.getD i []).flatMap ai)[(Int.toNat c*1)]?=some (nI ((rr.getD i []).getD c.toNat 0)))/\((decide ((((rr.getD i []).getD c.toNat 0):Int)<1073741824))=true->((nI (IntKind.wrap .i64 (((rr.getD i []).getD c.toNat 0)*p)):Value)=nI (((rr.getD i []).getD c.toNat 0)*p)/\((0:Int)<=(kq6 i)/\((kq6 i):Int)<(kq4 ss))/\((ss.flatMap spC)[((0+Int.toNat (kq6 i)*2)+0)]?=some (nI (kqa ss i).1))/\(nI (IntKind.wrap .i64 (m-(kqa ss i).1)):Value)=nI (m-(kqa ss i).1)/\((0:Int)<=(kq6 i)/\((kq6 i):Int)<(kq4 ss))/\((ss.flatMap spC)[((0+Int.toNat (kq6 i)*2)+0)]?=some (nI (kqa ss i).1))/\(nI (IntKind.wrap .i64 ((kqa ss i).1-m)):Value)=nI ((kqa ss i).1-m)/\true=true/\wk (.bool (decide (((((rr.getD i []).getD c.toNat 0)*p):Int)<=(if (((kqa ss i).1-m):Int) > (m-(kqa ss i).1) then (((kqa ss i).1-m):Int) else (m-(kqa ss i).1)))):Value) (rn (sg 4 []) 3 (.bool (fG p ss rr i c m):Value))/\True))/\((decide ((((rr.getD i []).getD c.toNat 0):Int)<1073741824))=false->(true=true/\wk (.bool false:Value) (rn (sg 4 []) 3 (.bool (fG p ss rr i c m):Value))/\True)))
abbrev kq5(w h:Int)(a:List Bool)(p:Int)(ss:List (Int×Int))(rr:List (List Int)):List Value:=[nI w,nI h,slQ 0 2 a.length,nI p,slQ 1 2 ss.length,slQ 3 1 rr.length]
abbrev kq1(o1:Bool)(z1:Nat)(a:List Bool)(o2:Bool)(z2:Nat)(ss:List (Int×Int))(w h p:Int)(rr:List (List Int)):=aW [.cells o1 z1 (a.flatMap af),.cells o2 z2 (ss.flatMap spC),.cells true 0 (kq5 w h a p ss rr),.cells true 1 (inL rr)]
theorem MV(o1 o2:Bool)(z1 z2:Nat)(w h:Int)(a:List Bool)(p:Int)(ss:List (Int×Int))(rr:List (List Int))(i:Nat)(c m:Int):vF prog msk (dm 0) 100000 true 40 true 79 [.pointer (some ⟨2,0,none⟩),nI (kq6 i),nI c,nI m] (kq1 o1 z1 a o2 z2 ss w h p rr) (some [])
 (.go 12 (.need (.val (.iface ((rr.getD i []).length+1) (.agg ⟨((rr.getD i []).flatMap ai)⟩)) (.go 0 (.need (.val (nI ((rr.getD i []).getD c.toNat 0)) (.go 4 (.aT (.go 6 (.slot 25 (nI (((rr.getD i []).getD c.toNat 0)*p)) (.go 6 (.need (.go 0 (.val (nI (kqa ss i).1) (.go 0 (.slot 36 (nI (m-(kqa ss i).1)) (.go 5 (.need (.go 0 (.val (nI (kqa ss i).1) (.go 1 (.slot 47 (nI ((kqa ss i).1-m)) (.go 3 (.again [])))))))))))))))) (.go 1 (.again []))))))))))
 (ca ((kq1 o1 z1 a o2 z2 ss w h p rr):HT).n 3 (.bool (fG p ss rr i c m)) [])=JT o1 o2 z1 z2 w h a p ss rr i c m:=by kernel_rfl
def yz(o1 o2:Bool)(z1 z2:Nat)(w h:Int)(a:List Bool)(p:Int)(ss:List (Int×Int))(rr:List (List Int))(i k:Nat):Prop :=
 (((0:Int)<=((k:Nat):Int)/\(((k:Nat):Int):Int)<(kq4 ss))/\((ss.flatMap spC)[((0+Int.toNat ((k:Nat):Int)*2)+1)]?=some (nI (ss.getD k ae).2))/\((0:Int)<=((k:Nat):Int)/\(((k:Nat):Int):Int)<(kq4 ss))/\((ss.flatMap spC)[((0+Int.toNat ((k:Nat):Int)*2)+0)]?=some (nI (ss.getD k ae).1))/\((ar (.cells true 0 (kq5 w h a p ss rr)))/\(ar (.cells o1 z1 (a.flatMap af)))/\(ar (.cells o2 z2 (ss.flatMap spC)))/\(ar (.cells true 1 (inL rr)))/\True)/\(∀H':Heap,H'.length=4->(H'[2]?=some (.cells true 0 (kq5 w h a p ss rr):ab)/\H'[0]?=some (.cells o1 z1 (a.flatMap af):ab)/\H'[1]?=some (.cells o2 z2 (ss.flatMap spC):ab)/\H'[3]?=some (.cells true 1 (inL rr):ab)/\True)->ad prog 79 [.pointer (some ⟨2,0,none⟩),nI (kq6 i),nI (ss.getD k ae).2,nI (ss.getD k ae).1] H' [] (Is (.bool (fG p ss rr i (ss.getD k ae).2 (ss.getD k ae).1)) H'))/\true=true/\wk (.bool (fG p ss rr i (ss.getD k ae).2 (ss.getD k ae).1):Value) (rn (sg 4 []) 3 (.bool (jH p ss rr i k):Value))/\True)
theorem Kq(o1 o2:Bool)(z1 z2:Nat)(w h:Int)(a:List Bool)(p:Int)(ss:List (Int×Int))(rr:List (List Int))(i k:Nat):vF prog msk (dm 0) 100000 true 40 true 87 [.pointer (some ⟨2,0,none⟩),nI (kq6 i),nI ((k:Nat):Int)] (kq1 o1 z1 a o2 z2 ss w h p rr) (some [])
 (.go 8 (.need (.go 0 (.val (nI (ss.getD k ae).2) (.go 5 (.need (.go 0 (.val (nI (ss.getD k ae).1) (.ans [(2,.cells true 0 (kq5 w h a p ss rr)),(0,.cells o1 z1 (a.flatMap af)),(1,.cells o2 z2 (ss.flatMap spC)),(3,.cells true 1 (inL rr))] (.bool (fG p ss rr i (ss.getD k ae).2 (ss.getD k ae).1)) [] (.go 0 (.again [])))))))))))
 (ca ((kq1 o1 z1 a o2 z2 ss w h p rr):HT).n 3 (.bool (jH p ss rr i k)) [])=yz o1 o2 z1 z2 w h a p ss rr i k:=by kernel_rfl
abbrev kq3(ss:List (Int×Int)):Prop:=(.slice none 0 0:Value) = .slice none 0 0/\(nI (kq4 ss):Value)=nI (kq4 ss)/\True
abbrev kq8(J:Nat):Value:=nI (IntKind.wrap .i64 ((J:Int)+1))
def JU(o1 o2:Bool)(z1 z2:Nat)(w h:Int)(a:List Bool)(p:Int)(ss:List (Int×Int))(rr:List (List Int)):Prop :=
 (true=true/\(0<=List.length ss)/\(true=true/\((nI 0:Value)=nI ((0:Nat):Int)/\wk (.slice none 0 0:Value) (slQ 0 1 (aQ 0).length:Value)/\kq3 ss)/\(True)/\(True/\True)/\True)/\(∀J:Nat,true=true)/\∀J:Nat,(J<=List.length ss)->(((decide (((J:Int):Int)<(kq4 ss)))=true->((((aQ J).length+1)*8<=2 ^ 44/\1≠0/\((aQ J).length<=(aQ J).length/\0+(aQ J).length*1<=List.length ((aQ J).flatMap ai))/\(1<=1/\0+1*1<=List.length ([nI (J:Int)]:List Value))/\(((([nI (J:Int)]:List Value).drop 0).take (1*1)):List Value).all (fun v=>cO v)=true)/\true=true/\((kq8 J)=nI ((J:Int)+1)/\∃aD:Nat,(aD<=List.length ss)/\(List.length ss-aD)<(List.length ss-J)/\true=true/\((nI ((J:Int)+1):Value)=nI (aD:Int)/\wk (.slice (some ⟨6,0,none⟩) ((aQ J).length+1) ((aQ J).length+1):Value) (slQ 6 1 (aQ aD).length:Value)/\kq3 ss)/\(True)/\((some (.cells true 1 (((((aQ J).flatMap ai).drop 0).take ((aQ J).length*1))++((([nI (J:Int)]:List Value).drop 0).take (1*1))):ab)=some (.cells true 1 ((aQ aD).flatMap ai):ab)/\aj 4 (.cells true 1 ((aQ aD).flatMap ai):ab)=true)/\True)/\True)))/\((decide (((J:Int):Int)<(kq4 ss)))=false->(true=true/\wk (slQ 4 1 (aQ J).length:Value) (rn (sg 4 [(4,4)]) 3 (slQ 4 1 (aQ ss.length).length:Value))/\(some (.cells true 1 ((aQ J).flatMap ai):ab)=some (.cells true 1 ((aQ ss.length).flatMap ai):ab)/\aj 4 (.cells true 1 ((aQ ss.length).flatMap ai):ab)=true)/\True))))
abbrev kq0(qn0 qn1 qn2 qn3 qn4:Nat):Hint:=.go qn0 (.slot qn1 (nI ((qn2:Int)+1)) (.go 0 (.again [(qn3,qn4)])))
theorem MW(o1 o2:Bool)(z1 z2:Nat)(w h:Int)(a:List Bool)(p:Int)(ss:List (Int×Int))(rr:List (List Int)):vF prog msk (dm 0) 100000 true 40 true 77 [.pointer (some ⟨2,0,none⟩)] (kq1 o1 z1 a o2 z2 ss w h p rr) (some [])
 (.go 8 (.inv 3 (Nat) (0) [] [] (fun J=>[(11,nI (J:Int)),(3,slQ 4 1 (aQ J).length),(2,.slice none 0 0),(10,nI (kq4 ss))]) (fun J=>[]) (fun J=>[(true,.cells true 1 ((aQ J).flatMap ai))]) (fun J=>[]) (fun J=>(J<=List.length ss)) (fun J=>(List.length ss-J)) (fun J => .go 0 (.fork (.go 4 (.need (kq0 1 18 J 4 6))) (.go 1 (.again [(4,4)]))))))
 (ca ((kq1 o1 z1 a o2 z2 ss w h p rr):HT).n 3 (slQ 4 1 (aQ ss.length).length) [(true,.cells true 1 ((aQ ss.length).flatMap ai))])=JU o1 o2 z1 z2 w h a p ss rr:=by kernel_rfl
abbrev kq9(ss:List (Int×Int)):Prop:=(.pointer (some ⟨2,0,none⟩):Value) = .pointer (some ⟨2,0,none⟩)/\kq3 ss
abbrev kq2(ss:List (Int×Int))(J:Nat):Prop:=(nI (kq4 ss):Value)=nI (kq4 ss)/\(.slice none 0 0:Value) = .slice none 0 0/\(.pointer (some ⟨2,0,none⟩):Value) = .pointer (some ⟨2,0,none⟩)/\(nI (J:Int):Value)=nI (J:Int)/\(nI (J:Int):Value)=nI (J:Int)/\True
abbrev kq7(p:Int)(ss:List (Int×Int))(rr:List (List Int))(J ax:Nat):ab:=.cells true 2 ((a8 p ss rr J++bi p ss rr J ax).flatMap spC)
def Ez(o1 o2:Bool)(z1 z2:Nat)(w h:Int)(a:List Bool)(p:Int)(ss:List (Int×Int))(rr:List (List Int)):Prop :=
 (true=true/\(0<=List.length ss)/\(true=true/\((nI 0:Value)=nI ((0:Nat):Int)/\wk (.slice none 0 0:Value) (slQ 0 1 (a8 p ss rr 0).length:Value)/\kq9 ss)/\(True)/\(True/\True)/\True)/\(∀J:Nat,true=true)/\∀J:Nat,(J<=List.length ss)->(((decide (((J:Int):Int)<(kq4 ss)))=true->((kq8 J)=nI ((J:Int)+1)/\(true=true/\(J<(J+1)/\((J+1)<=List.length ss∨(J+1)=J+1))/\(true=true/\((nI ((J:Int)+1):Value)=nI (((J+1):Nat):Int)/\wk (slQ 4 1 (a8 p ss rr J).length:Value) (slQ 4 1 (a8 p ss rr J++bi p ss rr J (J+1)).length:Value)/\kq2 ss J)/\(True/\True)/\((some (.cells true 2 ((a8 p ss rr J).flatMap spC):ab)=some (.cells true 2 ((a8 p ss rr J++bi p ss rr J (J+1)).flatMap spC):ab)/\aj 5 (.cells true 2 ((a8 p ss rr J++bi p ss rr J (J+1)).flatMap spC):ab)=true)/\True)/\True)/\(∀U:Nat,true=true)/\∀U:Nat,(J<U/\(U<=List.length ss∨U=J+1))->(((decide (((U:Int):Int)<(kq4 ss)))=true->(((ar (.cells true 0 (kq5 w h a p ss rr)))/\(ar (.cells o1 z1 (a.flatMap af)))/\(ar (.cells o2 z2 (ss.flatMap spC)))/\(ar (.cells true 1 (inL rr)))/\True)/\(∀H':Heap,H'.length=6->(H'[2]?=some (.cells true 0 (kq5 w h a p ss rr):ab)/\H'[0]?=some (.cells o1 z1 (a.flatMap af):ab)/\H'[1]?=some (.cells o2 z2 (ss.flatMap spC):ab)/\H'[3]?=some (.cells true 1 (inL rr):ab)/\True)->ad prog 87 [.pointer (some ⟨2,0,none⟩),nI (J:Int),nI (U:Int)] H' [] (Is (.bool (jH p ss rr J U)) H'))/\((!(jH p ss rr J U))=true->((((a8 p ss rr J++bi p ss rr J U).length+1)*16<=2 ^ 44/\1≠0/\((a8 p ss rr J++bi p ss rr J U).length<=(a8 p ss rr J++bi p ss rr J U).length/\0+(a8 p ss rr J++bi p ss rr J U).length*2<=List.length ((a8 p ss rr J++bi p ss rr J U).flatMap spC))/\(1<=1/\0+1*2<=List.length ([nI (J:Int),nI (U:Int)]:List Value))/\(((([nI (J:Int),nI (U:Int)]:List Value).drop 0).take (1*2)):List Value).all (fun v=>cO v)=true)/\true=true/\((nI (IntKind.wrap .i64 ((U:Int)+1)):Value)=nI ((U:Int)+1)/\∃ax:Nat,(J<ax/\(ax<=List.length ss∨ax=J+1))/\(List.length ss-ax)<(List.length ss-U)/\true=true/\((nI ((U:Int)+1):Value)=nI (ax:Int)/\wk (.slice (some ⟨7,0,none⟩) ((a8 p ss rr J++bi p ss rr J U).length+1) ((a8 p ss rr J++bi p ss rr J U).length+1):Value) (slQ 7 1 (a8 p ss rr J++bi p ss rr J ax).length:Value)/\kq2 ss J)/\(True/\True)/\((some (.cells true 2 (((((a8 p ss rr J++bi p ss rr J U).flatMap spC).drop 0).take ((a8 p ss rr J++bi p ss rr J U).length*2))++((([nI (J:Int),nI (U:Int)]:List Value).drop 0).take (1*2))):ab)=some (kq7 p ss rr J ax)/\aj 5 (kq7 p ss rr J ax)=true)/\True)/\True)))/\((!(jH p ss rr J U))=false->((nI (IntKind.wrap .i64 ((U:Int)+1)):Value)=nI ((U:Int)+1)/\∃ax:Nat,(J<ax/\(ax<=List.length ss∨ax=J+1))/\(List.length ss-ax)<(List.length ss-U)/\true=true/\((nI ((U:Int)+1):Value)=nI (ax:Int)/\wk (slQ 5 1 (a8 p ss rr J++bi p ss rr J U).length:Value) (slQ 5 1 (a8 p ss rr J++bi p ss rr J ax).length:Value)/\kq2 ss J)/\(True/\True)/\((some (.cells true 2 ((a8 p ss rr J++bi p ss rr J U).flatMap spC):ab)=some (kq7 p ss rr J ax)/\aj 5 (kq7 p ss rr J ax)=true)/\True)/\True))))/\((decide (((U:Int):Int)<(kq4 ss)))=false->((kq8 J)=nI ((J:Int)+1)/\∃ax:Nat,(ax<=List.length ss)/\(List.length ss-ax)<(List.length ss-J)/\true=true/\((nI ((J:Int)+1):Value)=nI (ax:Int)/\wk (slQ 5 1 (a8 p ss rr J++bi p ss rr J U).length:Value) (slQ 5 1 (a8 p ss rr ax).length:Value)/\kq9 ss)/\(True)/\((some (.cells true 2 ((a8 p ss rr J++bi p ss rr J U).flatMap spC):ab)=some (.cells true 2 ((a8 p ss rr ax).flatMap spC):ab)/\aj 4 (.cells true 2 ((a8 p ss rr ax).flatMap spC):ab)=true)/\True)/\True))))))/\((decide (((J:Int):Int)<(kq4 ss)))=false->(true=true/\wk (slQ 4 1 (a8 p ss rr J).length:Value) (rn (sg 4 [(4,4)]) 3 (slQ 4 1 (a8 p ss rr ss.length).length:Value))/\(some (.cells true 2 ((a8 p ss rr J).flatMap spC):ab)=some (.cells true 2 ((a8 p ss rr ss.length).flatMap spC):ab)/\aj 4 (.cells true 2 ((a8 p ss rr ss.length).flatMap spC):ab)=true)/\True))))
theorem LZ(o1 o2:Bool)(z1 z2:Nat)(w h:Int)(a:List Bool)(p:Int)(ss:List (Int×Int))(rr:List (List Int)):vF prog msk (dm 0) 100000 true 40 true 74 [.pointer (some ⟨2,0,none⟩)] (kq1 o1 z1 a o2 z2 ss w h p rr) (some [])
 (.go 8 (.inv 3 (Nat) (0) [] [] (fun J=>[(12,nI (J:Int)),(3,slQ 4 1 (a8 p ss rr J).length),(0,.pointer (some ⟨2,0,none⟩)),(2,.slice none 0 0),(11,nI (kq4 ss))]) (fun J=>[]) (fun J=>[(true,.cells true 2 ((a8 p ss rr J).flatMap spC))]) (fun J=>[]) (fun J=>(J<=List.length ss)) (fun J=>(List.length ss-J)) (fun J => .go 0 (.fork (.go 3 (.slot 16 (nI ((J:Int)+1)) (.go 0 (.inv 3 (Nat) ((J+1)) [(5,4)] [4] (fun U=>[(5,nI (U:Int)),(3,slQ 5 1 (a8 p ss rr J++bi p ss rr J U).length),(11,nI (kq4 ss)),(2,.slice none 0 0),(0,.pointer (some ⟨2,0,none⟩)),(12,nI (J:Int)),(4,nI (J:Int))]) (fun U=>[(4,false,.dead)]) (fun U=>[(true,.cells true 2 ((a8 p ss rr J++bi p ss rr J U).flatMap spC))]) (fun U=>[]) (fun U=>(J<U/\(U<=List.length ss∨U=J+1))) (fun U=>(List.length ss-U)) (fun U => .go 7 (.fork (.go 2 (.ans [(2,.cells true 0 (kq5 w h a p ss rr)),(0,.cells o1 z1 (a.flatMap af)),(1,.cells o2 z2 (ss.flatMap spC)),(3,.cells true 1 (inL rr))] (.bool (jH p ss rr J U)) [] (.go 0 (.fork (.go 4 (.need (kq0 2 26 U 5 7))) (kq0 1 26 U 5 5))))) (kq0 0 38 J 4 5))))))) (.go 1 (.again [(4,4)]))))))
 (ca ((kq1 o1 z1 a o2 z2 ss w h p rr):HT).n 3 (slQ 4 1 (a8 p ss rr ss.length).length) [(true,.cells true 2 ((a8 p ss rr ss.length).flatMap spC))])=Ez o1 o2 z1 z2 w h a p ss rr:=by kernel_rfl
structure dZ(a:List Bool)(ss:List (Int×Int))(rr:List (List Int)):Prop where
 len:rr.length=ss.length
 row:∀k,k<ss.length->(rr.getD k []).length=a.length/\∀c,c<a.length->0<=(rr.getD k []).getD c 0/\(rr.getD k []).getD c 0<=bb
theorem fI{l:List (Int×Int)}{k off:Nat}(h:k<l.length)(ho:off=k*2):(l.flatMap spC)[off]?=some (.int .i64 (l.getD k ae).1):=oo (c:=0) (d:=ae) cd h (by omega) rfl
theorem m7{l:List (Int×Int)}{k off:Nat}(h:k<l.length)(ho:off=k*2+1):(l.flatMap spC)[off]?=some (.int .i64 (l.getD k ae).2):=oo (c:=1) (d:=ae) cd h (by omega) rfl
theorem Le{rr:List (List Int)}{i:Nat}{c m:Int}(t:ej w h a p ss)(r:dZ a ss rr)(hi:i<ss.length)(hc:0<=c/\c<(a.length:Int))(hm : -1000000<=m/\m<=1000000):JT o1 o2 z1 z2 w h a p ss rr i c m:=by
 have hl:=r.len
 obtain ⟨r1,r2⟩:=r.row i hi
 have hb:=r2 (Int.toNat c) (by omega)
 have hs:=t.bd hi
 have hp:=t.tn
 delta JT kq6 kq4 kqa
 refine ⟨⟨by omega,by omega⟩,pU (by omega) (by omega),⟨hc.1,by rw[r1];exact hc.2⟩,cL (by omega) (by omega),fun k =>?_,fun k =>?_⟩
 ·have h1:=av k
  obtain ⟨e,he⟩:∃e,(rr.getD i []).getD (Int.toNat c) 0=e:=⟨_,rfl⟩
  rw[he]at h1 hb
  have hep:0<=e*p/\e*p<=1073741824*1000:=⟨Int.mul_nonneg hb.1 (by omega),Int.mul_le_mul (by omega) hp.2 (by omega) (by omega)⟩
  refine ⟨by rw[he];exact aG (by omega),⟨by omega,by omega⟩,fI hi (by omega),aG (by omega),⟨by omega,by omega⟩,fI hi (by omega),aG (by omega),rfl,bl ?_,trivial⟩
  show Value.bool _=Value.bool _
  congr 1
  unfold fG
  rw[he,decide_eq_true (show e<bb from h1),Bool.true_and];rfl
 ·refine ⟨rfl,bl ?_,trivial⟩
  show Value.bool _=Value.bool _
  congr 1
  unfold fG
  have h1:=aA k
  rw[decide_eq_false (show ¬ _<bb from h1)];rfl
def rq(H:Heap)(o1 o2:Bool)(z1 z2:Nat)(w h:Int)(a:List Bool)(p:Int)(ss:List (Int×Int))(rr:List (List Int))(i j r q:Nat):Prop :=
 [i,j,r,q].Nodup/\H[i]?=some (.cells o1 z1 (a.flatMap af))/\H[j]?=some (.cells o2 z2 (ss.flatMap spC))/\H[r]?=some (.cells true 0 (iF w h a p ss rr i j q))/\H[q]?=some (.cells true 1 (inL rr))
theorem sN(o1 o2:Bool)(z1 z2:Nat)(w h:Int)(a:List Bool)(p:Int)(ss:List (Int×Int))(rr:List (List Int)):[ab.cells o1 z1 (a.flatMap af),.cells o2 z2 (ss.flatMap spC),.cells true 0 (iF w h a p ss rr 0 1 3),.cells true 1 (inL rr)].all (aZ 3)=true:=by
 show (aZ 3 (.cells o1 z1 (a.flatMap af))&&(aZ 3 (.cells o2 z2 (ss.flatMap spC))&&(aZ 3 (.cells true 0 (iF w h a p ss rr 0 1 3))&&(aZ 3 (.cells true 1 (inL rr))&&true))))=true
 rw[fB,jv,tW];rfl
theorem rq.objs{rr:List (List Int)}{i j r q:Nat}(k:rq H o1 o2 z1 z2 w h a p ss rr i j r q) :
  hY H (sgI [i,j,r,q]) [i,j,r,q] [.cells o1 z1 (a.flatMap af),.cells o2 z2 (ss.flatMap spC),.cells true 0 (iF w h a p ss rr 0 1 3),.cells true 1 (inL rr)] :=
 ⟨by rw[dB];exact k.2.1,by rw[gz];exact k.2.2.1,k.2.2.2.1,by rw[tX];exact k.2.2.2.2,trivial⟩
theorem K9{rr:List (List Int)}(t:ej w h a p ss)(rk:dZ a ss rr){x:Nat}{c m:Int}(hx:x<ss.length)(hc:0<=c/\c<(a.length:Int))(hm : -1000000<=m/\m<=1000000){z1 z2 i j r q:Nat}(k:rq H o1 o2 z1 z2 w h a p ss rr i j r q) :
  ad prog 79 [.pointer (some ⟨r,0,none⟩),.int .i64 (x:Int),.int .i64 c,.int .i64 m] H [] (Is (.bool (fG p ss rr x c m)) H):=by
 have key:=bR (fun _ => .bool (fG p ss rr x c m)) (new:=[]) (Eq.mpr (MV o1 o2 z1 z2 w h a p ss rr x c m) (Le t rk hx hc hm)) (sN ..) rfl trivial k.1 k.objs (fun j=>rfl) (args':=[.pointer (some ⟨r,0,none⟩),.int .i64 (x:Int),.int .i64 c,.int .i64 m]) rfl
 rwa [List.append_nil]at key
theorem IM{rr:List (List Int)}(t:ej w h a p ss)(rk:dZ a ss rr){x y:Nat}(hx:x<ss.length)(hy:y<ss.length){z1 z2 i j r q:Nat}(k:rq H o1 o2 z1 z2 w h a p ss rr i j r q) :
  ad prog 87 [.pointer (some ⟨r,0,none⟩),.int .i64 (x:Int),.int .i64 (y:Int)] H [] (Is (.bool (jH p ss rr x y)) H):=by
 have hb:=t.bd hy
 have key:=bR (fun _ => .bool (jH p ss rr x y)) (new:=[]) (Eq.mpr (Kq o1 o2 z1 z2 w h a p ss rr x y) (show yz o1 o2 z1 z2 w h a p ss rr x y by
   delta yz kq4 kq5 kq6
   exact ⟨⟨by omega,by omega⟩,m7 hy (by omega),⟨by omega,by omega⟩,fI hy (by omega),⟨rfl,rfl,rfl,rfl,trivial⟩,fun H' _ h'=>K9 t rk hx hb.2 (by omega) ⟨by decide,h'.2.1,h'.2.2.1,h'.1,h'.2.2.2.1⟩,rfl,aa _,trivial⟩)) (sN ..) rfl trivial k.1 k.objs (fun j=>rfl) (args':=[.pointer (some ⟨r,0,none⟩),.int .i64 (x:Int),.int .i64 (y:Int)]) rfl
 rwa [List.append_nil]at key
theorem mq(n:Nat):(aQ n).length=n:=dC ..
theorem sK(n:Nat):aQ (n+1)=aQ n ++ [(n:Int)]:=gQ ..
theorem Lf{rr:List (List Int)}(hs:ss.length<=100000):JU o1 o2 z1 z2 w h a p ss rr:=by
 delta JU kq4 kq3 kq8
 refine ⟨rfl,Nat.zero_le _,?_,fun _=>rfl,fun x hx=>⟨fun k =>?_,fun k =>?_⟩⟩
 ·repeat' first|exact ah _ _ _ (.inl rfl)|exact rfl|exact aa _|exact ac|exact ah _ _ _ (.inl rfl)|apply And.intro
 ·have h1:x<ss.length:=by have:=av k;omega
  have hl:=mq x
  refine ⟨⟨by omega,by decide,⟨Nat.le_refl _,by rw[aP bg];omega⟩,⟨Nat.le_refl _,by simp⟩,rfl⟩,rfl,aG (by omega),x+1,by omega,by omega,rfl,?_⟩
  repeat' first|exact dd (sK x)|exact de bg (sK x) rfl|exact am _ _|exact rfl|exact aa _|exact ac|exact ah _ _ _ (.inl rfl)|apply And.intro
 ·have h1:x=ss.length:=by have:=aA k;omega
  rw[h1]
  repeat' first|exact am _ _|exact rfl|exact aa _|exact ac|exact ah _ _ _ (.inl rfl)|apply And.intro
theorem IL{rr:List (List Int)}(hs:ss.length<=100000){z1 z2 i j r q:Nat}(k:rq H o1 o2 z1 z2 w h a p ss rr i j r q) :
  ad prog 77 [.pointer (some ⟨r,0,none⟩)] H [] (Is (.slice (some ⟨H.length,0,some 1⟩) (aQ ss.length).length (aQ ss.length).length) (H ++ [.cells true 1 ((aQ ss.length).flatMap ai)])) :=
 bR (fun j => .slice (some ⟨j,0,some 1⟩) (aQ ss.length).length (aQ ss.length).length) (new:=[.cells true 1 ((aQ ss.length).flatMap ai)]) (Eq.mpr (MW o1 o2 z1 z2 w h a p ss rr) (Lf hs)) (sN ..) rfl ⟨⟨_,_,rfl,am _ _⟩,trivial⟩ k.1 k.objs (fun j=>rfl) rfl
theorem qA(p:Int)(ss:List (Int×Int))(rr:List (List Int))(x y:Nat):(bi p ss rr x y).length<=y:=by
 unfold bi
 rw[List.length_map]
 exact Nat.le_trans (List.length_filter_le ..) (by simp)
theorem Am(p:Int)(ss:List (Int×Int))(rr:List (List Int))(x:Nat):bi p ss rr x (x+1)=[]:=by
 unfold bi
 rw[List.filter_eq_nil_iff.2 (fun k hk=>by
  have:=List.mem_range.1 hk
  rw[decide_eq_false (by omega)];simp)]
 rfl
theorem sF{rr:List (List Int)}{x y:Nat}(h:x<y)(e:jH p ss rr x y=false):bi p ss rr x (y+1)=bi p ss rr x y ++ [((x:Int),(y:Int))]:=by
 unfold bi
 rw[List.range_succ,List.filter_append,List.map_append]
 simp[h,e]
theorem wC{rr:List (List Int)}{x y:Nat}(e:jH p ss rr x y=true):bi p ss rr x (y+1)=bi p ss rr x y:=by
 unfold bi
 rw[List.range_succ,List.filter_append,List.map_append]
 simp[e]
theorem mX(p:Int)(ss:List (Int×Int))(rr:List (List Int))(x:Nat):a8 p ss rr (x+1)=a8 p ss rr x++bi p ss rr x ss.length:=by
 unfold a8
 rw[List.range_succ,List.flatMap_append];simp
theorem ug(p:Int)(ss:List (Int×Int))(rr:List (List Int))(x:Nat):(a8 p ss rr x).length<=x*ss.length:=by
 induction x with
 |zero=>simp[a8]
 |succ x ih =>
  rw[mX,ao]
  have:=qA p ss rr x ss.length
  rw[Nat.succ_mul];omega
theorem spB(n:Nat)(l:List (Int×Int)):aj n (.cells true 2 (l.flatMap spC))=true:=ct n l
theorem ou{α:Type}{id:Nat}{L M:List α}(h:L=M):wk (.slice (some ⟨id,0,some 1⟩) L.length L.length) (.slice (some ⟨id,0,some 1⟩) M.length M.length):=by rw[h];exact aa _
theorem obE{own:Bool}{z:Nat}{L M:List (Int×Int)}(h:L=M):(some (ab.cells own z (L.flatMap spC)):Option ab)=some (.cells own z (M.flatMap spC)):=by rw[h]
theorem Jb{rr:List (List Int)}(t:ej w h a p ss)(rk:dZ a ss rr):Ez o1 o2 z1 z2 w h a p ss rr:=by
 have hs:=t.few
 delta Ez kq4 kq3 kq9 kq8 kq2 kq5 kq7
 refine ⟨rfl,Nat.zero_le _,?_,fun _=>rfl,fun x hx=>⟨fun k =>?_,fun k =>?_⟩⟩
 ·repeat' first|exact ah _ _ _ (.inl rfl)|exact rfl|exact aa _|exact ac|exact ah _ _ _ (.inl rfl)|apply And.intro
 ·have h1:x<ss.length:=by have:=av k;omega
  refine ⟨aG (by omega),rfl,⟨by omega,.inr rfl⟩,?_,fun _=>rfl,fun y hy=>⟨fun ky =>?_,fun ky =>?_⟩⟩
  ·have e0:a8 p ss rr x=a8 p ss rr x++bi p ss rr x (x+1):=by rw[Am,List.append_nil]
   repeat' first|exact ou e0|exact obE e0|exact spB _ _|exact rfl|exact aa _|exact ac|exact ah _ _ _ (.inl rfl)|apply And.intro
  ·have h2:y<ss.length:=by have:=av ky;omega
   have hle:(a8 p ss rr x++bi p ss rr x y).length<=500:=by
    rw[ao]
    have a1:=ug p ss rr x
    have a2:=qA p ss rr x y
    have a3:x*ss.length<=20*20:=Nat.mul_le_mul (by omega) hs
    omega
   refine ⟨⟨rfl,rfl,rfl,rfl,trivial⟩,fun H' _ h'=>IM t rk h1 h2 ⟨by decide,h'.2.1,h'.2.2.1,h'.1,h'.2.2.2.1⟩,fun b =>?_,fun b =>?_⟩
   ·have e0:a8 p ss rr x++bi p ss rr x (y+1)=(a8 p ss rr x++bi p ss rr x y) ++ [((x:Int),(y:Int))]:=by rw[sF hy.1 (ff b),List.append_assoc]
    refine ⟨⟨by omega,by decide,⟨Nat.le_refl _,by rw[aP cd];omega⟩,⟨Nat.le_refl _,by simp⟩,rfl⟩,rfl,aG (by omega),y+1,⟨by omega,by omega⟩,by omega,rfl,?_⟩
    repeat' first|exact dd e0|exact de cd e0 rfl|exact spB _ _|exact rfl|exact aa _|exact ac|exact ah _ _ _ (.inl rfl)|apply And.intro
   ·have e0:a8 p ss rr x++bi p ss rr x y=a8 p ss rr x++bi p ss rr x (y+1):=by rw[wC (bK b)]
    refine ⟨aG (by omega),y+1,⟨by omega,by omega⟩,by omega,rfl,?_⟩
    repeat' first|exact ou e0|exact obE e0|exact spB _ _|exact rfl|exact aa _|exact ac|exact ah _ _ _ (.inl rfl)|apply And.intro
  ·have h2:y=ss.length:=by have:=aA ky;omega
   have e0:a8 p ss rr x++bi p ss rr x y=a8 p ss rr (x+1):=by rw[mX,h2]
   refine ⟨aG (by omega),x+1,by omega,by omega,rfl,?_⟩
   repeat' first|exact ou e0|exact obE e0|exact spB _ _|exact rfl|exact aa _|exact ac|exact ah _ _ _ (.inl rfl)|apply And.intro
 ·have h1:x=ss.length:=by have:=aA k;omega
  rw[h1]
  repeat' first|exact spB _ _|exact rfl|exact aa _|exact ac|exact ah _ _ _ (.inl rfl)|apply And.intro
theorem v8{rr:List (List Int)}(t:ej w h a p ss)(rk:dZ a ss rr){z1 z2 i j r q:Nat}(k:rq H o1 o2 z1 z2 w h a p ss rr i j r q) :
  ad prog 74 [.pointer (some ⟨r,0,none⟩)] H [] (Is (.slice (some ⟨H.length,0,some 1⟩) (a8 p ss rr ss.length).length (a8 p ss rr ss.length).length) (H ++ [.cells true 2 ((a8 p ss rr ss.length).flatMap spC)])) :=
 bR (fun j => .slice (some ⟨j,0,some 1⟩) (a8 p ss rr ss.length).length (a8 p ss rr ss.length).length) (new:=[.cells true 2 ((a8 p ss rr ss.length).flatMap spC)]) (Eq.mpr (LZ o1 o2 z1 z2 w h a p ss rr) (Jb t rk)) (sN ..) rfl ⟨⟨_,_,rfl,ct _ _⟩,trivial⟩ k.1 k.objs (fun j=>rfl) rfl
def MO(L:List Int)(n:Int):Int:=if 0<L.length then IntKind.wrap .i64 (L.getD (Int.toNat (Int.tmod n ((L.length:Nat):Int))) 0+IntKind.wrap .i64 (Int.tdiv n ((L.length:Nat):Int))) else 0
def dN(L:List Int)(n m:Int):Int:=MO L n % m
def mnI(x y:Int):Int:=if y<x then y else x
def cH(p:Int)(ss:List (Int×Int))(rr:List (List Int))(c m:Int)(x:Nat):Bool:=(List.range x).all fun i=>fG p ss rr i c m
def whL(a:List Bool)(p:Int)(ss:List (Int×Int))(rr:List (List Int))(m:Int)(x:Nat):List Int:=((List.range x).filter fun c:Nat=>bJ a c&&cH p ss rr c m ss.length).map fun c:Nat=>(c:Int)
def lsT(ss:List (Int×Int))(x:Nat):Int:=(ss.take x).foldl (fun b s=>mnI b s.1) 100000
def msT(ss:List (Int×Int))(x:Nat):Int:=(ss.take x).foldl (fun b s=>mxI b s.1) 0
def stC(rr:List (List Int))(i:Nat)(c:Int):Int:=(rr.getD i []).getD (Int.toNat c) 0
def jT(p:Int)(ss:List (Int×Int))(rr:List (List Int))(c:Int)(x:Nat):List (Int×Int):=dE (fun i:Nat=>((ss.getD i ae).1-stC rr i c*p+1,(ss.getD i ae).1+stC rr i c*p-1)) x
def mj(rr:List (List Int))(c:Int)(x:Nat):Bool:=(List.range x).any fun i=>decide (stC rr i c=bb)
def scan(most:Int)(st:Int×List (Int×Int))(x:Int×Int):Int×List (Int×Int) :=
 if x.1 > x.2 then st else (mxI st.1 (x.2+1),if x.1 > st.1/\st.1<=most then st.2 ++ [(st.1,mnI (x.1-1) most)] else st.2)
def jw(least most:Int)(S:List (Int×Int))(k:Nat):Int×List (Int×Int):=(S.take k).foldl (scan most) (least,[])
def kM(N:List (Int×Int))(m:Int):Bool:=N.any fun x=>decide (x.1<=m)&&decide (m<=x.2)
def D9(l:List (Int×Int))(m:Int):List (Int×Int):=match l.getLast? with
 |some x=>if x.2+1=m then l.dropLast ++ [(x.1,m)] else l ++ [(m,m)]
 |none=>[(m,m)]
def runs(f:Int->Bool)(lo:Int):Nat->List (Int×Int)
 |0=>[]
 |n+1=>if f (lo+(n:Int))=true then D9 (runs f lo n) (lo+(n:Int)) else runs f lo n
def tmL(p:Int)(ss:List (Int×Int))(rr:List (List Int))(c:Int):List (Int×Int) :=
 if mj rr c ss.length=true then [] else runs (fun m => !kM (jT p ss rr c ss.length) m) (lsT ss ss.length) (Int.toNat (msT ss ss.length-lsT ss ss.length+1))
def qJ(L M:List (Int×Int)):Prop:=L.Perm M/\M.Pairwise fun x y=>x.1<=y.1
abbrev kd5(w h:Int)(a:List Bool)(ss:List (Int×Int)):=aC w h a ss ss.length
abbrev kd3(w h:Int)(a:List Bool)(p:Int)(ss:List (Int×Int)):List Value:=[nI w,nI h,slQ 0 2 a.length,nI p,slQ 1 2 ss.length,slQ 5 1 (kd5 w h a ss).length]
abbrev kdb(a:List Bool)(p:Int)(ss:List (Int×Int))(w h m:Int):Value:=.tuple #[slQ 2 1 (whL a p ss (kd5 w h a ss) m a.length).length,nI 0]
abbrev kd8(w h:Int)(a:List Bool)(p:Int)(ss:List (Int×Int))(o1:Bool)(z1:Nat)(o2:Bool)(z2:Nat):Prop:=(ar (.cells true 0 (kd3 w h a p ss)))/\(ar (.cells o1 z1 (a.flatMap af)))/\(ar (.cells o2 z2 (ss.flatMap spC)))/\(ar (.cells true 1 (inL (kd5 w h a ss))))/\True
abbrev kd6(H':Heap)(w h:Int)(a:List Bool)(p:Int)(ss:List (Int×Int))(o1:Bool)(z1:Nat)(o2:Bool)(z2:Nat):Prop:=H'[4]?=some (.cells true 0 (kd3 w h a p ss):ab)/\H'[0]?=some (.cells o1 z1 (a.flatMap af):ab)/\H'[1]?=some (.cells o2 z2 (ss.flatMap spC):ab)/\H'[5]?=some (.cells true 1 (inL (kd5 w h a ss)):ab)/\True
abbrev kd4(a:List Bool):Prop:=(.pointer (some ⟨3,0,none⟩):Value) = .pointer (some ⟨3,0,none⟩)/\(.slice none 0 0:Value) = .slice none 0 0/\(nI 0:Value)=nI 0/\(.pointer (some ⟨6,0,none⟩):Value) = .pointer (some ⟨6,0,none⟩)/\(nI ((a.length:Nat):Int):Value)=nI ((a.length:Nat):Int)/\True
abbrev kd9(ss:List (Int×Int)):=aQ ss.length
abbrev kd0:Value:=.func (.func 78) #[] #[.pointer (some ⟨6,0,none⟩),.pointer (some ⟨9,0,none⟩),.pointer (some ⟨3,0,none⟩)]
abbrev kd7(ss:List (Int×Int)):Prop:=kd0 = .func (.func 78) #[] #[.pointer (some ⟨6,0,none⟩),.pointer (some ⟨9,0,none⟩),.pointer (some ⟨3,0,none⟩)]/\wkR (slQ 10 1 (kd9 ss).length)/\(nI (((kd9 ss).length:Nat):Int):Value)=nI (((kd9 ss).length:Nat):Int)/\True
abbrev kd2(a:List Bool)(p:Int)(ss:List (Int×Int))(w h m:Int)(J:Nat):Prop:=(((whL a p ss (kd5 w h a ss) m J).length+1)*8<=2 ^ 44/\1≠0/\((whL a p ss (kd5 w h a ss) m J).length<=(whL a p ss (kd5 w h a ss) m J).length/\0+(whL a p ss (kd5 w h a ss) m J).length*1<=List.length ((whL a p ss (kd5 w h a ss) m J).flatMap ai))/\(1<=1/\0+1*1<=List.length ([nI (J:Int)]:List Value))/\(((([nI (J:Int)]:List Value).drop 0).take (1*1)):List Value).all (fun v=>cO v)=true)/\true=true/\((nI (IntKind.wrap .i64 ((J:Int)+1)):Value)=nI ((J:Int)+1)/\(∃ax:Nat,(ax<=List.length a)/\(List.length a-ax)<(List.length a-J)/\true=true/\((nI ((J:Int)+1):Value)=nI (ax:Int)/\wk (.slice (some ⟨12,0,none⟩) ((whL a p ss (kd5 w h a ss) m J).length+1) ((whL a p ss (kd5 w h a ss) m J).length+1):Value) (slQ 12 1 (whL a p ss (kd5 w h a ss) m ax).length:Value)/\kd4 a)/\(True)/\((some (.cells true 1 (((((whL a p ss (kd5 w h a ss) m J).flatMap ai).drop 0).take ((whL a p ss (kd5 w h a ss) m J).length*1))++((([nI (J:Int)]:List Value).drop 0).take (1*1))):ab)=some (.cells true 1 ((whL a p ss (kd5 w h a ss) m ax).flatMap ai):ab)/\aj 8 (.cells true 1 ((whL a p ss (kd5 w h a ss) m ax).flatMap ai):ab)=true)/\True)/\(True)))
def yd(o1 o2:Bool)(z1 z2:Nat)(w h:Int)(a:List Bool)(p:Int)(ss:List (Int×Int))(m:Int):Prop :=
 (((ar (.cells o1 z1 (a.flatMap af)))/\(ar (.cells o2 z2 (ss.flatMap spC)))/\True)/\(∀H':Heap,H'.length=4->(H'[0]?=some (.cells o1 z1 (a.flatMap af):ab)/\H'[1]?=some (.cells o2 z2 (ss.flatMap spC):ab)/\True)->ad prog 72 [.agg #[nI w,nI h,slQ 0 2 a.length,nI p,slQ 1 2 ss.length]] H' [] (Is (.tuple #[.pointer (some ⟨4,0,none⟩),nI 0]) (H' ++ [(.cells true 0 (kd3 w h a p ss):ab),(.cells true 1 (inL (kd5 w h a ss)):ab)])))/\((decide ((0:Int)<=m))=true->(((!(decide ((m:Int)<=100000)))=true->(true=true/\wk (.tuple #[.slice none 0 0,nI 6]:Value) (rn (sg 2 []) 3 (kdb a p ss w h m))/\True/\True))/\((!(decide ((m:Int)<=100000)))=false->((kd8 w h a p ss o1 z1 o2 z2)/\(∀H':Heap,H'.length=7->(kd6 H' w h a p ss o1 z1 o2 z2)->ad prog 74 [.pointer (some ⟨4,0,none⟩)] H' [] (Is (slQ 7 1 (a8 p ss (kd5 w h a ss) ss.length).length) (H' ++ [(.cells true 2 ((a8 p ss (kd5 w h a ss) ss.length).flatMap spC):ab)])))/\((decide ((0:Int)<(((a8 p ss (kd5 w h a ss) ss.length).length:Nat):Int)))=true->(true=true/\wk (.tuple #[.slice none 0 0,nI 9]:Value) (rn (sg 2 []) 3 (kdb a p ss w h m))/\True/\True))/\((decide ((0:Int)<(((a8 p ss (kd5 w h a ss) ss.length).length:Nat):Int)))=false->(true=true/\(0<=List.length a)/\(true=true/\((nI 0:Value)=nI ((0:Nat):Int)/\wk (.slice none 0 0:Value) (slQ 0 1 (whL a p ss (kd5 w h a ss) m 0).length:Value)/\kd4 a)/\(True)/\(True/\True)/\True)/\(∀J:Nat,true=true)/\∀J:Nat,(J<=List.length a)->(((decide (((J:Int):Int)<((a.length:Nat):Int)))=true->(((ar (.cells o1 z1 (a.flatMap af)))/\True)/\(∀H':Heap,H'.length=10->(H'[0]?=some (.cells o1 z1 (a.flatMap af):ab)/\True)->ad prog 75 [.agg #[nI w,nI h,slQ 0 2 a.length],nI (J:Int)] H' [] (Is (.bool (bJ a (J:Int))) H'))/\((bJ a (J:Int))=true->((kd8 w h a p ss o1 z1 o2 z2)/\(∀H':Heap,H'.length=10->(kd6 H' w h a p ss o1 z1 o2 z2)->ad prog 77 [.pointer (some ⟨4,0,none⟩)] H' [] (Is (slQ 10 1 (kd9 ss).length) (H' ++ [(.cells true 1 ((kd9 ss).flatMap ai):ab)])))/\(true=true/\((0)<=List.length (kd9 ss)/\cH p ss (kd5 w h a ss) (J:Int) m (0)=true)/\(true=true/\((nI 0:Value)=nI (((0):Nat):Int)/\kd7 ss)/\(True)/\(True)/\True)/\(∀U:Nat,true=true)/\∀U:Nat,(U<=List.length (kd9 ss)/\cH p ss (kd5 w h a ss) (J:Int) m U=true)->(((decide (((U:Int):Int)<(((kd9 ss).length:Nat):Int)))=true->(((0:Int)<=(U:Int)/\((U:Int):Int)<(((kd9 ss).length:Nat):Int))/\(((kd9 ss).flatMap ai)[(0+Int.toNat (U:Int)*1)]?=some (nI ((kd9 ss).getD U 0)))/\(kd8 w h a p ss o1 z1 o2 z2)/\(∀H':Heap,H'.length=11->(kd6 H' w h a p ss o1 z1 o2 z2)->ad prog 79 [.pointer (some ⟨4,0,none⟩),nI ((kd9 ss).getD U 0),nI (J:Int),nI m] H' [] (Is (.bool (fG p ss (kd5 w h a ss) ((kd9 ss).getD U 0).toNat (J:Int) m)) H'))/\((!(fG p ss (kd5 w h a ss) ((kd9 ss).getD U 0).toNat (J:Int) m))=true->(((!(decide ((0:Int)<=(U:Int))))=true->(kd2 a p ss w h m J))/\((!(decide ((0:Int)<=(U:Int))))=false->((nI (IntKind.wrap .i64 ((J:Int)+1)):Value)=nI ((J:Int)+1)/\∃ax:Nat,(ax<=List.length a)/\(List.length a-ax)<(List.length a-J)/\true=true/\((nI ((J:Int)+1):Value)=nI (ax:Int)/\wk (slQ 8 1 (whL a p ss (kd5 w h a ss) m J).length:Value) (slQ 8 1 (whL a p ss (kd5 w h a ss) m ax).length:Value)/\kd4 a)/\(True)/\((some (.cells true 1 ((whL a p ss (kd5 w h a ss) m J).flatMap ai):ab)=some (.cells true 1 ((whL a p ss (kd5 w h a ss) m ax).flatMap ai):ab)/\aj 8 (.cells true 1 ((whL a p ss (kd5 w h a ss) m ax).flatMap ai):ab)=true)/\True)/\True))))/\((!(fG p ss (kd5 w h a ss) ((kd9 ss).getD U 0).toNat (J:Int) m))=false->((nI (IntKind.wrap .i64 ((U:Int)+1)):Value)=nI ((U:Int)+1)/\∃ax:Nat,(ax<=List.length (kd9 ss)/\cH p ss (kd5 w h a ss) (J:Int) m ax=true)/\(List.length (kd9 ss)-ax)<(List.length (kd9 ss)-U)/\true=true/\((nI ((U:Int)+1):Value)=nI (ax:Int)/\kd7 ss)/\(True)/\(True)/\True))))/\((decide (((U:Int):Int)<(((kd9 ss).length:Nat):Int)))=false->(kd2 a p ss w h m J))))))/\((bJ a (J:Int))=false->((nI (IntKind.wrap .i64 ((J:Int)+1)):Value)=nI ((J:Int)+1)/\∃aD:Nat,(aD<=List.length a)/\(List.length a-aD)<(List.length a-J)/\true=true/\((nI ((J:Int)+1):Value)=nI (aD:Int)/\wk (slQ 8 1 (whL a p ss (kd5 w h a ss) m J).length:Value) (slQ 8 1 (whL a p ss (kd5 w h a ss) m aD).length:Value)/\kd4 a)/\(True)/\((some (.cells true 1 ((whL a p ss (kd5 w h a ss) m J).flatMap ai):ab)=some (.cells true 1 ((whL a p ss (kd5 w h a ss) m aD).flatMap ai):ab)/\aj 8 (.cells true 1 ((whL a p ss (kd5 w h a ss) m aD).flatMap ai):ab)=true)/\True)/\True))))/\((decide (((J:Int):Int)<((a.length:Nat):Int)))=false->(true=true/\wk (.tuple #[slQ 8 1 (whL a p ss (kd5 w h a ss) m J).length,nI 0]:Value) (rn (sg 2 [(2,8)]) 3 (kdb a p ss w h m))/\(some (.cells true 1 ((whL a p ss (kd5 w h a ss) m J).flatMap ai):ab)=some (.cells true 1 ((whL a p ss (kd5 w h a ss) m a.length).flatMap ai):ab)/\aj 2 (.cells true 1 ((whL a p ss (kd5 w h a ss) m a.length).flatMap ai):ab)=true)/\True)))))))))/\((decide ((0:Int)<=m))=false->(true=true/\wk (.tuple #[.slice none 0 0,nI 6]:Value) (rn (sg 2 []) 3 (kdb a p ss w h m))/\True/\True)))
abbrev kda(w h:Int)(a:List Bool)(p:Int)(ss:List (Int×Int))(o1:Bool)(z1:Nat)(o2:Bool)(z2:Nat):List (Nat×ab):=[(4,.cells true 0 (kd3 w h a p ss)),(0,.cells o1 z1 (a.flatMap af)),(1,.cells o2 z2 (ss.flatMap spC)),(5,.cells true 1 (inL (kd5 w h a ss)))]
abbrev kd1(qn0 qn1 qn2:Nat):Hint:=.go qn0 (.slot 56 (nI ((qn1:Int)+1)) (.go 0 (.again [(8,qn2)])))
theorem JX(o1 o2:Bool)(z1 z2:Nat)(w h:Int)(a:List Bool)(p:Int)(ss:List (Int×Int))(m:Int):vF prog msk (dm 0) 100000 true 40 true 18 [.agg #[nI w,nI h,slQ 0 2 a.length,nI p,slQ 1 2 ss.length],nI m] (aW [.cells o1 z1 (a.flatMap af),.cells o2 z2 (ss.flatMap spC)]) (some [])
 (.go 4 (.ans [(0,.cells o1 z1 (a.flatMap af)),(1,.cells o2 z2 (ss.flatMap spC))] (.tuple #[.pointer (some ⟨4,0,none⟩),nI 0]) [.cells true 0 (kd3 w h a p ss),.cells true 1 (inL (kd5 w h a ss))] (.go 16 (.aT (.go 6 (.fork (.go 1 (.again [])) (.go 0 (.ans (kda w h a p ss o1 z1 o2 z2) (slQ 7 1 (a8 p ss (kd5 w h a ss) ss.length).length) [.cells true 2 ((a8 p ss (kd5 w h a ss) ss.length).flatMap spC)] (.go 2 (.fork (.go 1 (.again [])) (.go 8 (.inv 3 (Nat) (0) [] [] (fun J=>[(35,nI (J:Int)),(8,slQ 8 1 (whL a p ss (kd5 w h a ss) m J).length),(3,.pointer (some ⟨3,0,none⟩)),(4,.slice none 0 0),(5,nI 0),(6,.pointer (some ⟨6,0,none⟩)),(34,nI ((a.length:Nat):Int))]) (fun J=>[]) (fun J=>[(true,.cells true 1 ((whL a p ss (kd5 w h a ss) m J).flatMap ai))]) (fun J=>[]) (fun J=>(J<=List.length a)) (fun J=>(List.length a-J)) (fun J => .go 0 (.fork (.go 8 (.ans [(0,.cells o1 z1 (a.flatMap af))] (.bool (bJ a (J:Int))) [] (.go 0 (.aT (.go 1 (.ans (kda w h a p ss o1 z1 o2 z2) (slQ 10 1 (kd9 ss).length) [.cells true 1 ((kd9 ss).flatMap ai)] (.go 8 (.inv 3 (Nat) ((0)) [] [] (fun U=>[(8,nI (U:Int)),(1,.func (.func 78) #[] #[.pointer (some ⟨6,0,none⟩),.pointer (some ⟨9,0,none⟩),.pointer (some ⟨3,0,none⟩)]),(0,slQ 10 1 (kd9 ss).length),(7,nI (((kd9 ss).length:Nat):Int))]) (fun U=>[]) (fun U=>[]) (fun U=>[]) (fun U=>(U<=List.length (kd9 ss)/\cH p ss (kd5 w h a ss) (J:Int) m U=true)) (fun U=>(List.length (kd9 ss)-U)) (fun U => .go 0 (.fork (.go 4 (.need (.val (nI ((kd9 ss).getD U 0)) (.go 5 (.ans (kda w h a p ss o1 z1 o2 z2) (.bool (fG p ss (kd5 w h a ss) ((kd9 ss).getD U 0).toNat (J:Int) m)) [] (.go 1 (.fork (.go 5 (.fork (.go 2 (.need (kd1 1 J 12))) (kd1 0 J 8))) (.go 0 (.slot 18 (nI ((U:Int)+1)) (.go 0 (.again []))))))))))) (.go 8 (.need (kd1 1 J 12))))))))) (kd1 2 J 8))))) (.go 2 (.again [(2,8)])))))))))))) (.go 6 (.again []))))))
 (ca ((aW [.cells o1 z1 (a.flatMap af),.cells o2 z2 (ss.flatMap spC)]):HT).n 3 (.tuple #[slQ 2 1 (whL a p ss (kd5 w h a ss) m a.length).length,nI 0]) [(true,.cells true 1 ((whL a p ss (kd5 w h a ss) m a.length).flatMap ai))])=yd o1 o2 z1 z2 w h a p ss m:=by kernel_rfl
theorem Co:∀(X l:List Int),X.Nodup->(∀m∈X,m∈l)->X.length<=l.length
 | [],_,_,_=>Nat.zero_le _
 |a :: X,l,h,hs=>by
  rw[List.nodup_cons]at h
  have ih:=Co X (l.erase a) h.2 fun m hm=>(List.mem_erase_of_ne fun e=>h.1 (by rw[<- e];exact hm)).2 (hs m (List.mem_cons_of_mem _ hm))
  have ha:=hs a (List.mem_cons_self ..)
  rw[List.length_erase_of_mem ha]at ih
  have:=List.length_pos_of_mem ha
  rw[List.length_cons];omega
theorem Fm{f c:Int}{n m:Nat}(x:Lst w h a f c n)(y:Lst w h a f c m):n=m:=by
 have:=x.2 m y.1
 have:=y.2 n x.1
 omega
theorem yD{f c:Int}{n:Nat}(b:cM w h a.length)(hf:0<=f/\f<(a.length:Int))(q:Wy w h a f n c):0<=c/\c<(a.length:Int):=by
 cases q with
 |base=>exact hf
 |step j hj hw hb=>exact vn b hb.1.1 hb.1.2
theorem AV{f:Int}(b:cM w h a.length)(hf:0<=f/\f<(a.length:Int)):∀(n:Nat) (c:Int),Lst w h a f c n->∃X:List Int,X.Nodup/\X.length=n+1/\∀x∈X,(0<=x/\x<(a.length:Int))/\∃k,k<=n/\Lst w h a f x k:=by
 intro n
 induction n with
 |zero=>exact fun c q=>⟨[c],by simp,rfl,fun x hx=>by rw[List.mem_singleton.1 hx];exact ⟨yD b hf q.1,0,Nat.le_refl _,q⟩⟩
 |succ n ih =>
  intro c q
  have q0:=q
  obtain ⟨q1,q2⟩:=q
  cases q1 with
  | @step _ i j hj hw hb =>
   have hp:Lst w h a f i n:=⟨hw,fun m hm=>by have:=q2 (m+1) (.step j hj hm hb);omega⟩
   obtain ⟨X,x1,x2,x3⟩:=ih i hp
   refine ⟨nbT w i j :: X,List.nodup_cons.2 ⟨fun hx =>?_,x1⟩,by rw[List.length_cons,x2],fun x hx =>?_⟩
   ·obtain ⟨_,k,k1,k2⟩:=x3 _ hx
    have:=Fm k2 q0
    omega
   ·rcases List.mem_cons.1 hx with rfl|hx
    ·exact ⟨vn b hb.1.1 hb.1.2,n+1,Nat.le_refl _,q0⟩
    ·obtain ⟨y1,k,k1,k2⟩:=x3 _ hx
     exact ⟨y1,k,by omega,k2⟩
theorem xa{f c:Int}{n:Nat}(b:cM w h a.length)(hf:0<=f/\f<(a.length:Int))(q:Lst w h a f c n):n+1<=a.length:=by
 obtain ⟨X,x1,x2,x3⟩:=AV b hf n c q
 have:=Co X ((List.range a.length).map fun k:Nat=>(k:Int)) x1 (fun x hx=>by
  have:=(x3 x hx).1
  exact List.mem_map.2 ⟨Int.toNat x,List.mem_range.2 (by omega),by omega⟩)
 rw[List.length_map,List.length_range]at this
 omega
theorem wK{f c:Int}:∀{n:Nat},Wy w h a f n c->∃m,m<=n/\Lst w h a f c m:=by
 intro n
 induction n using Nat.strongRecOn with
 |ind n ih =>
  intro q
  by_cases hx:∃m,m<n/\Wy w h a f m c
  ·obtain ⟨m,hm,hq⟩:=hx
   obtain ⟨k,k1,k2⟩:=ih m hm hq
   exact ⟨k,by omega,k2⟩
  ·exact ⟨n,Nat.le_refl _,q,fun m hm=>Nat.le_of_not_lt fun hl=>hx ⟨m,hl,hm⟩⟩
theorem iB{f:Int}(b:cM w h a.length)(hf:0<=f/\f<(a.length:Int))(c:Int):0<=bk w h a f c/\(bk w h a f c<1024∨bk w h a f c=bb):=by
 by_cases q:∃n,Lst w h a f c n
 ·obtain ⟨n,hn⟩:=q
  have:=xa b hf hn
  have h1:=b.n1
  have h2:=b.p1
  rw[jp hn];omega
 ·have e:bk w h a f c=bb:=by unfold bk;rw[dif_neg q]
  rw[e];unfold bb;omega
theorem DQ{f:Int}(b:cM w h a.length)(hf:0<=f/\f<(a.length:Int)):(cw w h a f).length=a.length/\∀c,c<a.length->0<=(cw w h a f).getD c 0/\(cw w h a f).getD c 0<=bb:=by
 refine ⟨dC ..,fun c hc =>?_⟩
 rw[show (cw w h a f).getD c 0=bk w h a f (c:Int) from dD hc]
 have:=iB b hf (c:Int)
 unfold bb at *
 omega
theorem jR(t:ej w h a p ss):dZ a ss (aH w h a ss) :=
 ⟨oI ..,fun k hk=>by
  have e:(aH w h a ss).getD k []=cw w h a (ss.getD k ae).2:=dD hk
  rw[e]
  exact DQ t.bas (t.bd hk).2⟩
theorem Bo{rr:List (List Int)}{c m:Int}{x:Nat}(h:cH p ss rr c m x=true)(h1:fG p ss rr x c m=true):cH p ss rr c m (x+1)=true:=by
 unfold cH at h ⊢
 rw[List.range_succ,List.all_append,h,List.all_cons,h1];rfl
theorem Gs{rr:List (List Int)}{c m:Int}{x n:Nat}(hx:x<n)(h1:fG p ss rr x c m=false):cH p ss rr c m n=false:=by
 unfold cH
 rw[Bool.eq_false_iff]
 intro h
 rw[List.all_eq_true]at h
 have:=h x (List.mem_range.2 hx)
 rw[h1]at this;cases this
theorem yE{rr:List (List Int)}{m:Int}{x:Nat}(h1:bJ a x=true)(h2:cH p ss rr x m ss.length=true):whL a p ss rr m (x+1)=whL a p ss rr m x ++ [(x:Int)]:=by
 unfold whL
 rw[List.range_succ,List.filter_append,List.map_append]
 simp[h1,h2]
theorem sO{rr:List (List Int)}{m:Int}{x:Nat}(h:(bJ a x&&cH p ss rr x m ss.length)=false):whL a p ss rr m (x+1)=whL a p ss rr m x:=by
 unfold whL
 rw[List.range_succ,List.filter_append,List.map_append]
 simp only[List.filter_cons,h]
 simp
theorem wN(a:List Bool)(p:Int)(ss:List (Int×Int))(rr:List (List Int))(m:Int)(x:Nat):(whL a p ss rr m x).length<=x:=by
 unfold whL
 rw[List.length_map]
 exact Nat.le_trans (List.length_filter_le ..) (by simp)
theorem obI{own:Bool}{z:Nat}{L M:List Int}(h:L=M):(some (ab.cells own z (L.flatMap ai)):Option ab)=some (.cells own z (M.flatMap ai)):=by rw[h]
theorem GC{n x:Nat}(h:x<n):(aQ n).getD x 0=(x:Int):=dD h
theorem FX{m:Int}(t:ej w h a p ss)(e0:aB w h a p ss=0)(hm:0<=m/\m<=100000)(hc:a8 p ss (aH w h a ss) ss.length=[]):yd o1 o2 z1 z2 w h a p ss m:=by
 have hs:=t.few
 have hn:=t.bas.n1
 have hp1:=t.bas.p1
 have ha:a.length<=1024:=by omega
 have rk:=jR t
 delta yd kd5 kd3 kdb kd8 kd6 kd4 kd9 kd0 kd7 kd2
 refine ⟨⟨rfl,rfl,trivial⟩,fun H' hH h=>(by have:=j7 (by omega) (by omega) e0 (by decide) h.1 h.2.1;rw[hH]at this;exact this),fun k1=>⟨fun k2=>absurd (aA (ff k2)) (by omega),fun k2=>⟨⟨rfl,rfl,rfl,rfl,trivial⟩,fun H' hH h=>hH ▸ v8 t rk ⟨by decide,h.2.1,h.2.2.1,h.1,h.2.2.2.1⟩,fun k3 =>?_,fun k3 =>?_⟩⟩,fun k1=>absurd (aA k1) (by omega)⟩
 ·have:=av k3
  rw[show (aC w h a ss ss.length)=aH w h a ss from rfl,hc]at this
  exact absurd this (by simp)
 refine ⟨rfl,Nat.zero_le _,?_,fun _=>rfl,fun x hx=>⟨fun k =>?_,fun k =>?_⟩⟩
 ·repeat' first|exact ah _ _ _ (.inl rfl)|exact rfl|exact aa _|exact ac|exact ah _ _ _ (.inl rfl)|apply And.intro
 ·have h1:x<a.length:=by have:=av k;omega
  have hle:=wN a p ss (aC w h a ss ss.length) m x
  have hyes:bJ a x=true->cH p ss (aC w h a ss ss.length) x m ss.length=true->whL a p ss (aC w h a ss ss.length) m (x+1)=whL a p ss (aC w h a ss ss.length) m x ++ [(x:Int)]:=yE
  refine ⟨⟨rfl,trivial⟩,fun H' _ h=>A9 _ _ _ _ (by omega) h.1,fun b=>⟨⟨rfl,rfl,rfl,rfl,trivial⟩,fun H' hH h=>hH ▸ IL (by omega) ⟨by decide,h.2.1,h.2.2.1,h.1,h.2.2.2.1⟩,rfl,⟨Nat.zero_le _,rfl⟩,?_,fun _=>rfl,fun y hy=>⟨fun ky =>?_,fun ky =>?_⟩⟩,fun b =>?_⟩
  ·repeat' first|exact rfl|exact aa _|exact ac|exact ah _ _ _ (.inl rfl)|apply And.intro
  ·have h2:y<ss.length:=by have:=av ky;rw[mq]at this;omega
   have e1:=GC h2
   have hl:=mq ss.length
   rw[e1]
   refine ⟨⟨by omega,by omega⟩,by rw[cL (k:=y) (by omega) (by omega),e1],⟨rfl,rfl,rfl,rfl,trivial⟩,fun H' _ h=>K9 t rk h2 ⟨by omega,by omega⟩ (by omega) ⟨by decide,h.2.1,h.2.2.1,h.1,h.2.2.2.1⟩,fun q=>⟨fun q2=>absurd (aA (ff q2)) (by omega),fun q2 =>?_⟩,fun q =>?_⟩
   ·have e2:whL a p ss (aC w h a ss ss.length) m x=whL a p ss (aC w h a ss ss.length) m (x+1):=(sO (by rw[Gs h2 (ff q),Bool.and_false])).symm
    refine ⟨aG (by omega),x+1,by omega,by omega,rfl,?_⟩
    repeat' first|exact ou e2|exact obI e2|exact am _ _|exact rfl|exact aa _|exact ac|exact ah _ _ _ (.inl rfl)|apply And.intro
   ·refine ⟨aG (by omega),y+1,⟨by omega,Bo hy.2 (bK q)⟩,by omega,rfl,?_⟩
    repeat' first|exact rfl|exact aa _|exact ac|exact ah _ _ _ (.inl rfl)|apply And.intro
  ·have h2:y=ss.length:=by have:=aA ky;have:=hy.1;rw[mq]at *;omega
   have e2:=hyes b (h2 ▸ hy.2)
   refine ⟨⟨by omega,by decide,⟨Nat.le_refl _,by rw[aP bg];omega⟩,⟨Nat.le_refl _,by simp⟩,rfl⟩,rfl,aG (by omega),x+1,by omega,by omega,rfl,?_⟩
   repeat' first|exact dd e2|exact de bg e2 rfl|exact am _ _|exact rfl|exact aa _|exact ac|exact ah _ _ _ (.inl rfl)|apply And.intro
  ·have e2:whL a p ss (aC w h a ss ss.length) m x=whL a p ss (aC w h a ss ss.length) m (x+1):=(sO (by rw[b,Bool.false_and])).symm
   refine ⟨aG (by omega),x+1,by omega,by omega,rfl,?_⟩
   repeat' first|exact ou e2|exact obI e2|exact am _ _|exact rfl|exact aa _|exact ac|exact ah _ _ _ (.inl rfl)|apply And.intro
 ·have h1:x=a.length:=by have:=aA k;omega
  rw[h1]
  repeat' first|exact am _ _|exact rfl|exact aa _|exact ac|exact ah _ _ _ (.inl rfl)|apply And.intro
theorem Iu{m:Int}(e0:aB w h a p ss=0)(hm:0<=m/\m<=100000)(hc:a8 p ss (aH w h a ss) ss.length=[]){i j:Nat}(hne:i≠j)(hi:H[i]?=some (.cells o1 z1 (a.flatMap af)))(hj:H[j]?=some (.cells o2 z2 (ss.flatMap spC))) :
  ad prog 18 [db w h a p ss i j,.int .i64 m] H [] (Is (.tuple #[.slice (some ⟨H.length,0,some 1⟩) (whL a p ss (aH w h a ss) m a.length).length (whL a p ss (aH w h a ss) m a.length).length,.int .i64 0]) (H ++ [.cells true 1 ((whL a p ss (aH w h a ss) m a.length).flatMap ai)])) :=
 bR (fun j => .tuple #[.slice (some ⟨j,0,some 1⟩) (whL a p ss (aH w h a ss) m a.length).length (whL a p ss (aH w h a ss) m a.length).length,.int .i64 0]) (new:=[.cells true 1 ((whL a p ss (aH w h a ss) m a.length).flatMap ai)]) (Eq.mpr (JX o1 o2 z1 z2 w h a p ss m) (FX (gW e0) e0 hm hc)) (cz ..) rfl ⟨⟨_,_,rfl,am _ _⟩,trivial⟩ (ids:=[i,j]) (by simp[hne]) (bC hi hj) (fun j=>rfl) rfl
theorem qI(m:Int):D9 [] m=[(m,m)]:=rfl
theorem gU(l:List (Int×Int))(x:Int×Int)(m:Int):D9 (l ++ [x]) m=if x.2+1=m then l ++ [(x.1,m)] else l ++ [x] ++ [(m,m)]:=by
 unfold D9
 simp
theorem dF(f:Int->Bool)(lo:Int)(n:Nat):runs f lo (n+1)=if f (lo+(n:Int))=true then D9 (runs f lo n) (lo+(n:Int)) else runs f lo n:=rfl
structure MR(f:Int->Bool)(lo hi:Int)(l:List (Int×Int)):Prop where
 mem:∀x∈l,lo<=x.1/\x.1<=x.2/\x.2<hi/\∀m,x.1<=m->m<=x.2->f m=true
 cov:∀m,lo<=m->m<hi->f m=true->∃x∈l,x.1<=m/\m<=x.2
 gap:l.Pairwise fun x y=>x.2+1<y.1
theorem HV(f:Int->Bool)(lo:Int)(n:Nat):MR f lo (lo+(n:Int)) (runs f lo n):=by
 induction n with
 |zero=>exact ⟨fun x hx=>(by cases hx),fun m h1 h2=>by omega,List.Pairwise.nil⟩
 |succ n ih =>
  rw[dF]
  obtain ⟨h1,h2,h3⟩:=ih
  by_cases hf:f (lo+(n:Int))=true
  ·rw[if_pos hf]
   rcases List.eq_nil_or_concat (runs f lo n) with e|⟨L,x,e⟩
   ·rw[e]at h1 h2 ⊢
    rw[qI]
    refine ⟨fun x hx =>?_,fun m m1 m2 m3 =>?_,List.pairwise_singleton ..⟩
    ·rw[List.mem_singleton.1 hx]
     exact ⟨by dsimp only;omega,by dsimp only;omega,by dsimp only;omega,fun m m1 m2=>by dsimp only at m1 m2;rw[show m=lo+(n:Int) from by omega];exact hf⟩
    ·by_cases hm:m=lo+(n:Int)
     ·exact ⟨_,List.mem_singleton.2 rfl,by dsimp only;omega,by dsimp only;omega⟩
     ·obtain ⟨x,hx,_⟩:=h2 m m1 (by omega) m3
      cases hx
   ·rw[List.concat_eq_append]at e
    rw[e]at h1 h2 h3 ⊢
    rw[gU]
    have hx:=h1 x (List.mem_append_right _ (List.mem_singleton.2 rfl))
    have h4:=List.pairwise_append.1 h3
    by_cases he:x.2+1=lo+(n:Int)
    ·rw[if_pos he]
     refine ⟨fun y hy =>?_,fun m m1 m2 m3 =>?_,List.pairwise_append.2 ⟨h4.1,List.pairwise_singleton ..,fun y hy z hz =>?_⟩⟩
     ·rcases List.mem_append.1 hy with hy|hy
      ·have:=h1 y (List.mem_append_left _ hy)
       exact ⟨this.1,this.2.1,by omega,this.2.2.2⟩
      ·rw[List.mem_singleton.1 hy]
       refine ⟨hx.1,by dsimp only;omega,by dsimp only;omega,fun m m1 m2 =>?_⟩
       dsimp only at m1 m2
       by_cases hm:m=lo+(n:Int)
       ·rw[hm];exact hf
       ·exact hx.2.2.2 m m1 (by omega)
     ·by_cases hm:m=lo+(n:Int)
      ·exact ⟨_,List.mem_append_right _ (List.mem_singleton.2 rfl),by dsimp only;omega,by dsimp only;omega⟩
      ·obtain ⟨y,hy,y1,y2⟩:=h2 m m1 (by omega) m3
       rcases List.mem_append.1 hy with hy|hy
       ·exact ⟨y,List.mem_append_left _ hy,y1,y2⟩
       ·rw[List.mem_singleton.1 hy]at y1 y2
        exact ⟨_,List.mem_append_right _ (List.mem_singleton.2 rfl),y1,by dsimp only;omega⟩
     ·rw[List.mem_singleton.1 hz]
      exact h4.2.2 y hy x (List.mem_singleton.2 rfl)
    ·rw[if_neg he]
     refine ⟨fun y hy =>?_,fun m m1 m2 m3 =>?_,List.pairwise_append.2 ⟨h3,List.pairwise_singleton ..,fun y hy z hz =>?_⟩⟩
     ·rcases List.mem_append.1 hy with hy|hy
      ·have:=h1 y hy
       exact ⟨this.1,this.2.1,by omega,this.2.2.2⟩
      ·rw[List.mem_singleton.1 hy]
       exact ⟨by dsimp only;omega,by dsimp only;omega,by dsimp only;omega,fun m m1 m2=>by dsimp only at m1 m2;rw[show m=lo+(n:Int) from by omega];exact hf⟩
     ·by_cases hm:m=lo+(n:Int)
      ·exact ⟨_,List.mem_append_right _ (List.mem_singleton.2 rfl),by dsimp only;omega,by dsimp only;omega⟩
      ·obtain ⟨y,hy,y1,y2⟩:=h2 m m1 (by omega) m3
       exact ⟨y,List.mem_append_left _ hy,y1,y2⟩
     ·rw[List.mem_singleton.1 hz]
      dsimp only
      rcases List.mem_append.1 hy with hy|hy
      ·have:=h4.2.2 y hy x (List.mem_singleton.2 rfl)
       omega
      ·rw[List.mem_singleton.1 hy];omega
  ·rw[if_neg hf]
   refine ⟨fun y hy =>?_,fun m m1 m2 m3 =>?_,h3⟩
   ·have:=h1 y hy
    exact ⟨this.1,this.2.1,by omega,this.2.2.2⟩
   ·by_cases hm:m=lo+(n:Int)
    ·rw[hm]at m3;exact absurd m3 hf
    ·exact h2 m m1 (by omega) m3
theorem mz(f:Int->Bool)(lo:Int)(n:Nat):∀k:Nat,(∀m,lo+(n:Int)<=m->m<lo+(n:Int)+(k:Int)->f m=false)->runs f lo (n+k)=runs f lo n
 |0,_=>rfl
 |k+1,h=>by
  rw[show n+(k+1)=(n+k)+1 from rfl,dF,if_neg (by rw[h _ (by omega) (by omega)];exact Bool.noConfusion)]
  exact mz f lo n k fun m m1 m2=>h m m1 (by omega)
theorem u5(f:Int->Bool)(lo:Int)(n:Nat)(h0:n=0∨f (lo+(n:Int)-1)=false):∀k:Nat,(∀m,lo+(n:Int)<=m->m<=lo+(n:Int)+(k:Int)->f m=true)->runs f lo (n+k+1)=runs f lo n ++ [(lo+(n:Int),lo+(n:Int)+(k:Int))]
 |0,h=>by
  rw[Nat.add_zero,dF,if_pos (h _ (by omega) (by omega))]
  rcases List.eq_nil_or_concat (runs f lo n) with e|⟨L,x,e⟩
  ·rw[e,qI];simp
  ·rw[List.concat_eq_append]at e
   have hx:=(HV f lo n).mem x (by rw[e];exact List.mem_append_right _ (List.mem_singleton.2 rfl))
   rw[e,gU,if_neg (fun q =>?_)]
   ·simp
   ·rcases h0 with rfl|h0
    ·cases L <;> cases e
    ·have:=hx.2.2.2 x.2 hx.2.1 (Int.le_refl _)
     rw[show x.2=lo+(n:Int)-1 from by omega,h0]at this
     cases this
 |k+1,h=>by
  have ih:=u5 f lo n h0 k fun m m1 m2=>h m m1 (by omega)
  rw[show n+(k+1)+1=(n+k+1)+1 from rfl,dF,if_pos (h _ (by omega) (by omega)),ih,gU,if_pos (by dsimp only;omega)]
  congr 2
  apply Prod.ext
  ·rfl
  ·dsimp only;omega
theorem s9(f:Int->Bool)(lo:Int):∀n,(runs f lo n).length<=n
 |0=>Nat.le_refl _
 |n+1=>by
  have ih:=s9 f lo n
  rw[dF]
  split
  ·rcases List.eq_nil_or_concat (runs f lo n) with e|⟨L,x,e⟩
   ·rw[e,qI];simp
   ·rw[List.concat_eq_append]at e
    rw[e]at ih ⊢
    rw[gU]
    split <;> simp only[ao,aV]at * <;> omega
  ·omega
structure ScI(N:List (Int×Int))(least most:Int)(D:List (Int×Int))(st:Int×List (Int×Int)):Prop where
 lo:least<=st.1
 edge:st.1=least∨∃y∈D,y.1<=y.2/\y.2+1=st.1
 past:∀y∈D,y.1<=y.2->y.2+1<=st.1
 inN:∀y∈D,y∈N∨most<y.1
 out:st.2=runs (fun m => !kM N m) least (Int.toNat (mnI (most+1) st.1-least))
theorem oU{N:List (Int×Int)}{m:Int}{y:Int×Int}(h:y∈N)(h1:y.1<=m)(h2:m<=y.2):(!kM N m)=false:=by
 have:kM N m=true:=by
  unfold kM
  rw[List.any_eq_true]
  exact ⟨y,h,by rw[decide_eq_true h1,decide_eq_true h2];rfl⟩
 rw[this];rfl
theorem yY{N:List (Int×Int)}{m:Int}(h:∀y∈N,¬ (y.1<=m/\m<=y.2)):(!kM N m)=true:=by
 have:kM N m=false:=by
  rw[Bool.eq_false_iff]
  intro q
  unfold kM at q
  rw[List.any_eq_true]at q
  obtain ⟨y,hy,q⟩:=q
  rw[Bool.and_eq_true,decide_eq_true_eq,decide_eq_true_eq]at q
  exact h y hy q
 rw[this];rfl
theorem Cu{x y:Int}(h:y<x):mnI x y=y:=by unfold mnI;rw[if_pos h]
theorem vr{x y:Int}(h:¬ y<x):mnI x y=x:=by unfold mnI;rw[if_neg h]
theorem ScI.step{N:List (Int×Int)}{least most:Int}{D:List (Int×Int)}{st:Int×List (Int×Int)}{x:Int×Int}(hl:least<=most)(s:ScI N least most D st)(hx:x∈N∨most<x.1)(hN:∀y∈N,y∈D∨x.1<=y.1):ScI N least most (D ++ [x]) (scan most st x):=by
 obtain ⟨s1,s2,s3,s4,s5⟩:=s
 have hin:∀y∈D ++ [x],y∈N∨most<y.1:=fun y hy=>by
  rcases List.mem_append.1 hy with hy|hy
  ·exact s4 y hy
  ·rw[List.mem_singleton.1 hy];exact hx
 have hself:x∈D ++ [x]:=List.mem_append_right _ (List.mem_singleton.2 rfl)
 unfold scan
 by_cases h0:x.1 > x.2
 ·rw[if_pos h0]
  refine ⟨s1,s2.imp id (fun ⟨y,hy,q⟩=>⟨y,List.mem_append_left _ hy,q⟩),fun y hy h =>?_,hin,s5⟩
  rcases List.mem_append.1 hy with hy|hy
  ·exact s3 y hy h
  ·rw[List.mem_singleton.1 hy]at h;omega
 rw[if_neg h0]
 have hmx:mxI st.1 (x.2+1)=st.1/\x.2+1<=st.1∨mxI st.1 (x.2+1)=x.2+1/\st.1<x.2+1:=by unfold mxI;split <;> omega
 refine ⟨?_,?_,fun y hy h =>?_,hin,?_⟩
 ·dsimp only;omega
 ·dsimp only
  rcases hmx with ⟨e,q⟩|⟨e,q⟩
  ·rw[e];exact s2.imp id (fun ⟨y,hy,q⟩=>⟨y,List.mem_append_left _ hy,q⟩)
  ·rw[e];exact .inr ⟨x,hself,by omega,rfl⟩
 ·dsimp only
  rcases List.mem_append.1 hy with hy|hy
  ·have:=s3 y hy h;omega
  ·rw[List.mem_singleton.1 hy];omega
 ·dsimp only
  by_cases hem:x.1 > st.1/\st.1<=most
  ·rw[if_pos hem]
   have e1:mxI st.1 (x.2+1)=x.2+1:=by rcases hmx with ⟨_,q⟩|⟨e,_⟩ <;> omega
   rw[e1]
   rw[Cu (show st.1<most+1 by omega)]at s5
   obtain ⟨n,hn⟩:∃n:Nat,(n:Int)=st.1-least:=⟨Int.toNat (st.1-least),by omega⟩
   have en:Int.toNat (st.1-least)=n:=by omega
   rw[en]at s5
   have elo:least+(n:Int)=st.1:=by omega
   obtain ⟨u,hu⟩:∃u,mnI (x.1-1) most=u:=⟨_,rfl⟩
   have hub:(u=most/\most<x.1-1)∨(u=x.1-1/\x.1-1<=most):=by
    rw[<- hu];unfold mnI;split <;> omega
   obtain ⟨k,hk⟩:∃k:Nat,(k:Int)=u-st.1:=⟨Int.toNat (u-st.1),by omega⟩
   have hnew:=u5 (fun m => !kM N m) least n (by
    rcases s2 with e|⟨y,hy,y1,y2⟩
    ·exact .inl (by omega)
    ·refine .inr ?_
     rcases s4 y hy with h|h
     ·exact oU h (by omega) (by omega)
     ·omega) k (fun m m1 m2=>yY fun y hy q=>by
      rcases hN y hy with h|h
      ·have:=s3 y h (by omega);omega
      ·omega)
   rw[hu,s5]
   have ek:least+(n:Int)+(k:Int)=u:=by omega
   rw[ek,elo]at hnew
   rw[<- hnew]
   rcases hub with ⟨h1,h2⟩|⟨h1,h2⟩
   ·rw[vr (by omega)]
    rw[show Int.toNat (most+1-least)=n+k+1 from by omega]
   ·by_cases h3:x.1<=most
    ·have hxN:x∈N:=hx.resolve_right (by omega)
     obtain ⟨v,hv⟩:∃v,mnI (most+1) (x.2+1)=v:=⟨_,rfl⟩
     have hvb:(v=x.2+1/\x.2<most)∨(v=most+1/\most<=x.2):=by rw[<- hv];unfold mnI;split <;> omega
     rw[hv]
     obtain ⟨j,hj⟩:∃j:Nat,(j:Int)=v-(least+((n+k+1:Nat):Int)):=⟨Int.toNat (v-(least+((n+k+1:Nat):Int))),by omega⟩
     rw[show Int.toNat (v-least)=n+k+1+j from by omega]
     exact (mz _ _ _ j fun m m1 m2=>oU hxN (by omega) (by omega)).symm
    ·rw[vr (by omega)]
     rw[show Int.toNat (most+1-least)=n+k+1 from by omega]
  ·rw[if_neg hem,s5]
   rcases hmx with ⟨e,q⟩|⟨e,q⟩
   ·rw[e]
   ·rw[e]
    by_cases h1:st.1<=most
    ·have h2:x.1<=st.1:=by omega
     have hxN:x∈N:=hx.resolve_right (by omega)
     rw[Cu (show st.1<most+1 by omega)]
     obtain ⟨v,hv⟩:∃v,mnI (most+1) (x.2+1)=v:=⟨_,rfl⟩
     have hvb:(v=x.2+1/\x.2<most)∨(v=most+1/\most<=x.2):=by rw[<- hv];unfold mnI;split <;> omega
     rw[hv]
     obtain ⟨j,hj⟩:∃j:Nat,(j:Int)=v-st.1:=⟨Int.toNat (v-st.1),by omega⟩
     rw[show Int.toNat (v-least)=Int.toNat (st.1-least)+j from by omega]
     exact (mz _ _ _ j fun m m1 m2=>oU hxN (by omega) (by omega)).symm
    ·rw[vr (show ¬ st.1<most+1 by omega),vr (by omega)]
theorem lu(least most:Int)(S:List (Int×Int)){k:Nat}(hk:k<S.length):jw least most S (k+1)=scan most (jw least most S k) (S.getD k ae):=by
 unfold jw
 rw[List.take_succ_eq_append_getElem hk,List.foldl_append,List.getD_eq_getElem?_getD,List.getElem?_eq_getElem hk];rfl
theorem B0{N M:List (Int×Int)}{least most:Int}(hl:least<=most)(hs:qJ N M):∀k,k<=(M ++ [(most+1,most+1)]).length->ScI N least most ((M ++ [(most+1,most+1)]).take k) (jw least most (M ++ [(most+1,most+1)]) k)
 |0,_=>by
  have e:([]:List (Int×Int))=runs (fun m => !kM N m) least (Int.toNat (mnI (most+1) least-least)):=by
   rw[Cu (by omega),Int.sub_self];rfl
  exact ⟨Int.le_refl _,.inl rfl,fun y hy=>(by cases hy),fun y hy=>(by cases hy),e⟩
 |k+1,hk=>by
  have ih:=B0 hl hs k (by omega)
  rw[lu _ _ _ (by omega),List.take_succ_eq_append_getElem (by omega)]
  have e:(M ++ [(most+1,most+1)]).getD k ae=(M ++ [(most+1,most+1)])[k]:=by rw[List.getD_eq_getElem?_getD,List.getElem?_eq_getElem (by omega)];rfl
  rw[e]
  rw[ao,aV]at hk
  refine ih.step hl ?_ fun y hy =>?_
  ·by_cases h:k<M.length
   ·rw[List.getElem_append_left h]
    exact .inl (hs.1.mem_iff.2 (List.getElem_mem h))
   ·rw[List.getElem_append_right (by omega)]
    refine .inr ?_
    simp only[show k-M.length=0 from by omega,List.getElem_cons_zero];omega
  ·obtain ⟨i,hi,rfl⟩:=List.mem_iff_getElem.1 (hs.1.mem_iff.1 hy)
   by_cases hik:i<k
   ·refine .inl ?_
    rw[List.mem_iff_getElem]
    refine ⟨i,by rw[List.length_take,ao,aV];omega,?_⟩
    rw[List.getElem_take,List.getElem_append_left hi]
   ·refine .inr ?_
    rw[List.getElem_append_left (by omega)]
    by_cases h:k=i
    ·subst h;exact Int.le_refl _
    ·exact List.pairwise_iff_getElem.1 hs.2 k i (by omega) hi (by omega)
theorem BZ{N M:List (Int×Int)}{least most:Int}(hl:least<=most)(hs:qJ N M):(jw least most (M ++ [(most+1,most+1)]) (M ++ [(most+1,most+1)]).length).2=runs (fun m => !kM N m) least (Int.toNat (most-least+1)):=by
 have h:=B0 hl hs _ (Nat.le_refl _)
 rw[List.take_length]at h
 have h1:=h.past (most+1,most+1) (List.mem_append_right _ (List.mem_singleton.2 rfl)) (Int.le_refl _)
 rw[h.out,vr (by dsimp only at h1;omega)]
 congr 1;omega
abbrev kef(a:List Bool):=a.flatMap af
abbrev ke3(w h:Int)(a:List Bool)(ss:List (Int×Int)):=aC w h a ss ss.length
abbrev ke8(w h:Int)(a:List Bool)(p:Int)(ss:List (Int×Int)):List Value:=[nI w,nI h,slQ 0 2 a.length,nI p,slQ 1 2 ss.length,slQ 4 1 (ke3 w h a ss).length]
abbrev ked(p:Int)(ss:List (Int×Int))(w h:Int)(a:List Bool)(c:Int):=rn (sg 2 []) 3 (.tuple #[slQ 2 1 (tmL p ss (ke3 w h a ss) c).length,nI 0]:Value)
abbrev keh:Prop:=True/\True
abbrev kei(ss:List (Int×Int)):Int:=(ss.length:Nat)
abbrev ke9(c:Int)(ss:List (Int×Int)):Prop:=(nI c:Value)=nI c/\(.pointer (some ⟨3,0,none⟩):Value) = .pointer (some ⟨3,0,none⟩)/\wkR (slQ 1 2 ss.length)/\(nI (kei ss):Value)=nI (kei ss)/\True
abbrev kee(ss:List (Int×Int))(J:Nat):=ss.getD J ae
abbrev kea(p:Int)(ss:List (Int×Int))(w h:Int)(a:List Bool)(c:Int)(J:Nat):=jT p ss (ke3 w h a ss) c J
abbrev ke7(ss:List (Int×Int))(J:Nat)(w h:Int)(a:List Bool)(c p:Int):List Value:=[nI (((kee ss J).1-((((ke3 w h a ss).getD J []).getD c.toNat 0)*p))+1),nI (((kee ss J).1+((((ke3 w h a ss).getD J []).getD c.toNat 0)*p))-1)]
abbrev kej(ss:List (Int×Int))(J:Nat):List Value:=[nI ((msT ss J)+1),nI ((msT ss J)+1)]
abbrev ke4(ss:List (Int×Int)):=msT ss ss.length
abbrev ke5(ss:List (Int×Int))(J:Nat)(p w h:Int)(a:List Bool)(c:Int):Prop:=(nI (msT ss J):Value)=nI (msT ss J)/\(.slice (some ⟨8,0,none⟩) ((kea p ss w h a c J).length+1) ((kea p ss w h a c J).length+1):Value) = .slice (some ⟨8,0,none⟩) ((kea p ss w h a c J).length+1) ((kea p ss w h a c J).length+1)/\(nI ((((kea p ss w h a c J).length+1):Nat):Int):Value)=nI ((((kea p ss w h a c J).length+1):Nat):Int)/\True
abbrev kek(r4 ss:List (Int×Int))(U:Nat):=decide ((((r4 ++ [((ke4 ss)+1,(ke4 ss)+1)]).getD U ae).2:Int)<((r4 ++ [((ke4 ss)+1,(ke4 ss)+1)]).getD U ae).1)
abbrev ke1(ss r4:List (Int×Int))(U:Nat):=jw (lsT ss ss.length) (ke4 ss) (r4 ++ [((ke4 ss)+1,(ke4 ss)+1)]) U
abbrev keg(ss r4:List (Int×Int))(U:Nat):=List.length (ke1 ss r4 U).2
abbrev keb(ss r4:List (Int×Int))(ax:Nat):=jw (lsT ss ss.length) (ke4 ss) (r4 ++ [((ke4 ss)+1,(ke4 ss)+1)]) ax
abbrev ke6(ss r4:List (Int×Int))(U J:Nat):List Value:=[nI (ke1 ss r4 U).1,nI (if ((msT ss J):Int)<(((r4 ++ [((ke4 ss)+1,(ke4 ss)+1)]).getD U ae).1-1) then ((msT ss J):Int) else (((r4 ++ [((ke4 ss)+1,(ke4 ss)+1)]).getD U ae).1-1))]
abbrev kec(ss r4:List (Int×Int))(bM:Nat):=jw (lsT ss ss.length) (ke4 ss) (r4 ++ [((ke4 ss)+1,(ke4 ss)+1)]) bM
abbrev ke2(r4 ss:List (Int×Int))(U J:Nat)(p w h:Int)(a:List Bool)(c:Int):Prop:=(nI (IntKind.wrap .i64 (((r4 ++ [((ke4 ss)+1,(ke4 ss)+1)]).getD U ae).2+1)):Value)=nI (((r4 ++ [((ke4 ss)+1,(ke4 ss)+1)]).getD U ae).2+1)/\(∃i_2:Int,(nI (if ((((r4 ++ [((ke4 ss)+1,(ke4 ss)+1)]).getD U ae).2+1):Int) > (ke1 ss r4 U).1 then ((((r4 ++ [((ke4 ss)+1,(ke4 ss)+1)]).getD U ae).2+1):Int) else (ke1 ss r4 U).1):Value)=nI i_2/\((nI (IntKind.wrap .i64 ((U:Int)+1)):Value)=nI ((U:Int)+1)/\(∃bM:Nat,(bM<=List.length (r4 ++ [((ke4 ss)+1,(ke4 ss)+1)]))/\(List.length (r4 ++ [((ke4 ss)+1,(ke4 ss)+1)])-bM)<(List.length (r4 ++ [((ke4 ss)+1,(ke4 ss)+1)])-U)/\true=true/\((nI ((U:Int)+1):Value)=nI (bM:Int)/\wk (slQ 9 1 (keg ss r4 U):Value) (slQ 9 1 (List.length (kec ss r4 bM).2):Value)/\(nI i_2:Value)=nI (kec ss r4 bM).1/\ke5 ss J p w h a c)/\((nk 9 (.cells true 2 ((r4 ++ [((ke4 ss)+1,(ke4 ss)+1)]).flatMap spC)))/\True)/\((some (.cells true 2 (((ke1 ss r4 U).2).flatMap spC):ab)=some (.cells true 2 (((kec ss r4 bM).2).flatMap spC):ab)/\aj 9 (.cells true 2 (((kec ss r4 bM).2).flatMap spC):ab)=true)/\True)/\(True))))
def yf(o1 o2:Bool)(z1 z2:Nat)(w h:Int)(a:List Bool)(p:Int)(ss:List (Int×Int))(c:Int):Prop :=
 (((ar (.cells o1 z1 (kef a)))/\(ar (.cells o2 z2 (ss.flatMap spC)))/\True)/\(∀H':Heap,H'.length=3->(H'[0]?=some (.cells o1 z1 (kef a):ab)/\H'[1]?=some (.cells o2 z2 (ss.flatMap spC):ab)/\True)->ad prog 72 [.agg #[nI w,nI h,slQ 0 2 a.length,nI p,slQ 1 2 ss.length]] H' [] (Is (.tuple #[.pointer (some ⟨3,0,none⟩),nI 0]) (H' ++ [(.cells true 0 (ke8 w h a p ss):ab),(.cells true 1 (inL (ke3 w h a ss)):ab)])))/\((ar (.cells o1 z1 (kef a)))/\True)/\(∀H':Heap,H'.length=5->(H'[0]?=some (.cells o1 z1 (kef a):ab)/\True)->ad prog 75 [.agg #[nI w,nI h,slQ 0 2 a.length],nI c] H' [] (Is (.bool (bJ a c)) H'))/\((!(bJ a c))=true->(true=true/\wk (.tuple #[.slice none 0 0,nI 1]:Value) (ked p ss w h a c)/\keh))/\((!(bJ a c))=false->(((ar (.cells true 0 (ke8 w h a p ss)))/\(ar (.cells o1 z1 (kef a)))/\(ar (.cells o2 z2 (ss.flatMap spC)))/\(ar (.cells true 1 (inL (ke3 w h a ss))))/\True)/\(∀H':Heap,H'.length=5->(H'[3]?=some (.cells true 0 (ke8 w h a p ss):ab)/\H'[0]?=some (.cells o1 z1 (kef a):ab)/\H'[1]?=some (.cells o2 z2 (ss.flatMap spC):ab)/\H'[4]?=some (.cells true 1 (inL (ke3 w h a ss)):ab)/\True)->ad prog 74 [.pointer (some ⟨3,0,none⟩)] H' [] (Is (slQ 5 1 (a8 p ss (ke3 w h a ss) ss.length).length) (H' ++ [(.cells true 2 ((a8 p ss (ke3 w h a ss) ss.length).flatMap spC):ab)])))/\((decide ((0:Int)<(((a8 p ss (ke3 w h a ss) ss.length).length:Nat):Int)))=true->(true=true/\wk (.tuple #[.slice none 0 0,nI 9]:Value) (ked p ss w h a c)/\keh))/\((decide ((0:Int)<(((a8 p ss (ke3 w h a ss) ss.length).length:Nat):Int)))=false->(((((kei ss):Int) == 0)=true->(true=true/\wk (.tuple #[.slice none 0 0,nI 4]:Value) (ked p ss w h a c)/\keh))/\((((kei ss):Int) == 0)=false->(true=true/\(0<=List.length ss/\mj (ke3 w h a ss) c 0=false)/\(true=true/\((nI 0:Value)=nI ((0:Nat):Int)/\wk (.slice none 0 0:Value) (slQ 0 1 (jT p ss (ke3 w h a ss) c 0).length:Value)/\(nI 100000:Value)=nI (lsT ss 0)/\(nI 0:Value)=nI (msT ss 0)/\ke9 c ss)/\(True)/\keh/\True)/\(∀J:Nat,true=true)/\∀J:Nat,(J<=List.length ss/\mj (ke3 w h a ss) c J=false)->(((decide (((J:Int):Int)<(kei ss)))=true->(((0:Int)<=(J:Int)/\((J:Int):Int)<(kei ss))/\(fJ 2 (ss.flatMap spC) (0+Int.toNat (J:Int)*2)=some (.agg #[nI (kee ss J).1,nI (kee ss J).2]))/\((0:Int)<=(J:Int)/\((J:Int):Int)<(((ke3 w h a ss).length:Nat):Int))/\((inL (ke3 w h a ss))[(0+Int.toNat (J:Int)*1)]?=some (.iface (((ke3 w h a ss).getD J []).length+1) (.agg ⟨(((ke3 w h a ss).getD J []).flatMap ai)⟩)))/\((0:Int)<=c/\(c:Int)<((((ke3 w h a ss).getD J []).length:Nat):Int))/\((((ke3 w h a ss).getD J []).flatMap ai)[(Int.toNat c*1)]?=some (nI (((ke3 w h a ss).getD J []).getD c.toNat 0)))/\((((((ke3 w h a ss).getD J []).getD c.toNat 0):Int) == 1073741824)=true->(true=true/\wk (.tuple #[.slice none 0 0,nI 0]:Value) (ked p ss w h a c)/\keh))/\((((((ke3 w h a ss).getD J []).getD c.toNat 0):Int) == 1073741824)=false->((nI (IntKind.wrap .i64 ((((ke3 w h a ss).getD J []).getD c.toNat 0)*p)):Value)=nI ((((ke3 w h a ss).getD J []).getD c.toNat 0)*p)/\(nI (IntKind.wrap .i64 ((kee ss J).1-((((ke3 w h a ss).getD J []).getD c.toNat 0)*p))):Value)=nI ((kee ss J).1-((((ke3 w h a ss).getD J []).getD c.toNat 0)*p))/\(nI (IntKind.wrap .i64 (((kee ss J).1-((((ke3 w h a ss).getD J []).getD c.toNat 0)*p))+1)):Value)=nI (((kee ss J).1-((((ke3 w h a ss).getD J []).getD c.toNat 0)*p))+1)/\(nI (IntKind.wrap .i64 ((((ke3 w h a ss).getD J []).getD c.toNat 0)*p)):Value)=nI ((((ke3 w h a ss).getD J []).getD c.toNat 0)*p)/\(nI (IntKind.wrap .i64 ((kee ss J).1+((((ke3 w h a ss).getD J []).getD c.toNat 0)*p))):Value)=nI ((kee ss J).1+((((ke3 w h a ss).getD J []).getD c.toNat 0)*p))/\(nI (IntKind.wrap .i64 (((kee ss J).1+((((ke3 w h a ss).getD J []).getD c.toNat 0)*p))-1)):Value)=nI (((kee ss J).1+((((ke3 w h a ss).getD J []).getD c.toNat 0)*p))-1)/\(((kea p ss w h a c J).length+1)*16<=2 ^ 44/\1≠0/\((kea p ss w h a c J).length<=(kea p ss w h a c J).length/\0+(kea p ss w h a c J).length*2<=List.length ((kea p ss w h a c J).flatMap spC))/\(1<=1/\0+1*2<=List.length (ke7 ss J w h a c p))/\((((ke7 ss J w h a c p).drop 0).take (1*2)):List Value).all (fun v=>cO v)=true)/\true=true/\((nI (IntKind.wrap .i64 ((J:Int)+1)):Value)=nI ((J:Int)+1)/\∃aD:Nat,(aD<=List.length ss/\mj (ke3 w h a ss) c aD=false)/\(List.length ss-aD)<(List.length ss-J)/\true=true/\((nI ((J:Int)+1):Value)=nI (aD:Int)/\wk (.slice (some ⟨9,0,none⟩) ((kea p ss w h a c J).length+1) ((kea p ss w h a c J).length+1):Value) (slQ 9 1 (jT p ss (ke3 w h a ss) c aD).length:Value)/\(nI (if ((kee ss J).1:Int)<(lsT ss J) then ((kee ss J).1:Int) else (lsT ss J)):Value)=nI (lsT ss aD)/\(nI (if ((kee ss J).1:Int) > (msT ss J) then ((kee ss J).1:Int) else (msT ss J)):Value)=nI (msT ss aD)/\ke9 c ss)/\(True)/\((some (.cells true 2 (((((kea p ss w h a c J).flatMap spC).drop 0).take ((kea p ss w h a c J).length*2))++(((ke7 ss J w h a c p).drop 0).take (1*2))):ab)=some (.cells true 2 ((jT p ss (ke3 w h a ss) c aD).flatMap spC):ab)/\aj 6 (.cells true 2 ((jT p ss (ke3 w h a ss) c aD).flatMap spC):ab)=true)/\True)/\True)))))/\((decide (((J:Int):Int)<(kei ss)))=false->(((ar (.cells true 2 ((kea p ss w h a c J).flatMap spC)))/\True)/\(∀H':Heap,H'.length=7->(H'[6]?=some (.cells true 2 ((kea p ss w h a c J).flatMap spC):ab)/\True)->ad prog 81 [slQ 6 1 (kea p ss w h a c J).length,.func (.func 82) #[] #[]] H' [6] (fun y H2 => ∃z:List (Int×Int),(qJ (kea p ss w h a c J) z)/\y = .tuple #[]/\H2=(List.set H' 6 (.cells true 2 (z.flatMap spC):ab))))/\∀r4:List (Int×Int),(qJ (kea p ss w h a c J) r4)->((nI (IntKind.wrap .i64 ((msT ss J)+1)):Value)=nI ((msT ss J)+1)/\(nI (IntKind.wrap .i64 ((msT ss J)+1)):Value)=nI ((msT ss J)+1)/\(((kea p ss w h a c J).length+1)*16<=2 ^ 44/\1≠0/\((kea p ss w h a c J).length<=(kea p ss w h a c J).length/\0+(kea p ss w h a c J).length*2<=List.length (r4.flatMap spC))/\(1<=1/\0+1*2<=List.length (kej ss J))/\((((kej ss J).drop 0).take (1*2)):List Value).all (fun v=>cO v)=true)/\true=true/\(true=true/\(0<=List.length (r4 ++ [((ke4 ss)+1,(ke4 ss)+1)]))/\(true=true/\((nI 0:Value)=nI ((0:Nat):Int)/\wk (.slice none 0 0:Value) (slQ 0 1 (List.length (jw (lsT ss ss.length) (ke4 ss) (r4 ++ [((ke4 ss)+1,(ke4 ss)+1)]) 0).2):Value)/\(nI (lsT ss J):Value)=nI (jw (lsT ss ss.length) (ke4 ss) (r4 ++ [((ke4 ss)+1,(ke4 ss)+1)]) 0).1/\ke5 ss J p w h a c)/\((some (.cells true 2 ((((r4.flatMap spC).drop 0).take ((kea p ss w h a c J).length*2))++(((kej ss J).drop 0).take (1*2))):ab)=some (.cells true 2 ((r4 ++ [((ke4 ss)+1,(ke4 ss)+1)]).flatMap spC):ab)/\aj 9 (.cells true 2 ((r4 ++ [((ke4 ss)+1,(ke4 ss)+1)]).flatMap spC):ab)=true)/\True)/\keh/\True)/\(∀U:Nat,true=true)/\∀U:Nat,(U<=List.length (r4 ++ [((ke4 ss)+1,(ke4 ss)+1)]))->(((decide (((U:Int):Int)<((((kea p ss w h a c J).length+1):Nat):Int)))=true->(((0:Int)<=(U:Int)/\((U:Int):Int)<((((kea p ss w h a c J).length+1):Nat):Int))/\(fJ 2 ((r4 ++ [((ke4 ss)+1,(ke4 ss)+1)]).flatMap spC) (0+Int.toNat (U:Int)*2)=some (.agg #[nI ((r4 ++ [((ke4 ss)+1,(ke4 ss)+1)]).getD U ae).1,nI ((r4 ++ [((ke4 ss)+1,(ke4 ss)+1)]).getD U ae).2]))/\((kek r4 ss U)=true->((nI (IntKind.wrap .i64 ((U:Int)+1)):Value)=nI ((U:Int)+1)/\∃ax:Nat,(ax<=List.length (r4 ++ [((ke4 ss)+1,(ke4 ss)+1)]))/\(List.length (r4 ++ [((ke4 ss)+1,(ke4 ss)+1)])-ax)<(List.length (r4 ++ [((ke4 ss)+1,(ke4 ss)+1)])-U)/\true=true/\((nI ((U:Int)+1):Value)=nI (ax:Int)/\wk (slQ 9 1 (keg ss r4 U):Value) (slQ 9 1 (List.length (keb ss r4 ax).2):Value)/\(nI (ke1 ss r4 U).1:Value)=nI (keb ss r4 ax).1/\ke5 ss J p w h a c)/\((nk 9 (.cells true 2 ((r4 ++ [((ke4 ss)+1,(ke4 ss)+1)]).flatMap spC)))/\True)/\((some (.cells true 2 (((ke1 ss r4 U).2).flatMap spC):ab)=some (.cells true 2 (((keb ss r4 ax).2).flatMap spC):ab)/\aj 9 (.cells true 2 (((keb ss r4 ax).2).flatMap spC):ab)=true)/\True)/\True))/\((kek r4 ss U)=false->(((decide (((ke1 ss r4 U).1:Int)<((r4 ++ [((ke4 ss)+1,(ke4 ss)+1)]).getD U ae).1))=true->(((decide (((ke1 ss r4 U).1:Int)<=(msT ss J)))=true->((nI (IntKind.wrap .i64 (((r4 ++ [((ke4 ss)+1,(ke4 ss)+1)]).getD U ae).1-1)):Value)=nI (((r4 ++ [((ke4 ss)+1,(ke4 ss)+1)]).getD U ae).1-1)/\(((keg ss r4 U)+1)*16<=2 ^ 44/\1≠0/\((keg ss r4 U)<=(keg ss r4 U)/\0+(keg ss r4 U)*2<=List.length (((ke1 ss r4 U).2).flatMap spC))/\(1<=1/\0+1*2<=List.length (ke6 ss r4 U J))/\((((ke6 ss r4 U J).drop 0).take (1*2)):List Value).all (fun v=>cO v)=true)/\true=true/\((nI (IntKind.wrap .i64 (((r4 ++ [((ke4 ss)+1,(ke4 ss)+1)]).getD U ae).2+1)):Value)=nI (((r4 ++ [((ke4 ss)+1,(ke4 ss)+1)]).getD U ae).2+1)/\∃i_2:Int,(nI (if ((((r4 ++ [((ke4 ss)+1,(ke4 ss)+1)]).getD U ae).2+1):Int) > (ke1 ss r4 U).1 then ((((r4 ++ [((ke4 ss)+1,(ke4 ss)+1)]).getD U ae).2+1):Int) else (ke1 ss r4 U).1):Value)=nI i_2/\((nI (IntKind.wrap .i64 ((U:Int)+1)):Value)=nI ((U:Int)+1)/\∃bM:Nat,(bM<=List.length (r4 ++ [((ke4 ss)+1,(ke4 ss)+1)]))/\(List.length (r4 ++ [((ke4 ss)+1,(ke4 ss)+1)])-bM)<(List.length (r4 ++ [((ke4 ss)+1,(ke4 ss)+1)])-U)/\true=true/\((nI ((U:Int)+1):Value)=nI (bM:Int)/\wk (.slice (some ⟨12,0,none⟩) ((keg ss r4 U)+1) ((keg ss r4 U)+1):Value) (slQ 12 1 (List.length (kec ss r4 bM).2):Value)/\(nI i_2:Value)=nI (kec ss r4 bM).1/\ke5 ss J p w h a c)/\((nk 9 (.cells true 2 ((r4 ++ [((ke4 ss)+1,(ke4 ss)+1)]).flatMap spC)))/\True)/\((some (.cells true 2 ((((((ke1 ss r4 U).2).flatMap spC).drop 0).take ((keg ss r4 U)*2))++(((ke6 ss r4 U J).drop 0).take (1*2))):ab)=some (.cells true 2 (((kec ss r4 bM).2).flatMap spC):ab)/\aj 9 (.cells true 2 (((kec ss r4 bM).2).flatMap spC):ab)=true)/\True)/\True))))/\((decide (((ke1 ss r4 U).1:Int)<=(msT ss J)))=false->(ke2 r4 ss U J p w h a c))))/\((decide (((ke1 ss r4 U).1:Int)<((r4 ++ [((ke4 ss)+1,(ke4 ss)+1)]).getD U ae).1))=false->(ke2 r4 ss U J p w h a c))))))/\((decide (((U:Int):Int)<((((kea p ss w h a c J).length+1):Nat):Int)))=false->(true=true/\wk (.tuple #[slQ 9 1 (keg ss r4 U),nI 0]:Value) (rn (sg 2 [(2,9)]) 3 (.tuple #[slQ 2 1 (tmL p ss (ke3 w h a ss) c).length,nI 0]:Value))/\(some (.cells true 2 (((ke1 ss r4 U).2).flatMap spC):ab)=some (.cells true 2 ((tmL p ss (ke3 w h a ss) c).flatMap spC):ab)/\aj 2 (.cells true 2 ((tmL p ss (ke3 w h a ss) c).flatMap spC):ab)=true)/\True)))))))))))))))
abbrev ke0(qn0 qn1:Nat):Hint:=.go 0 (.bind Int (fun i_2 => .slot 144 (nI i_2) (.go 1 (.slot 145 (nI ((qn0:Int)+1)) (.go 0 (.again [(9,qn1)]))))))
theorem J0(o1 o2:Bool)(z1 z2:Nat)(w h:Int)(a:List Bool)(p:Int)(ss:List (Int×Int))(c:Int):vF prog msk (dm 0) 100000 true 40 true 19 [.agg #[nI w,nI h,slQ 0 2 a.length,nI p,slQ 1 2 ss.length],nI c] (aW [.cells o1 z1 (kef a),.cells o2 z2 (ss.flatMap spC)]) (some [])
 (.go 3 (.ans [(0,.cells o1 z1 (kef a)),(1,.cells o2 z2 (ss.flatMap spC))] (.tuple #[.pointer (some ⟨3,0,none⟩),nI 0]) [.cells true 0 (ke8 w h a p ss),.cells true 1 (inL (ke3 w h a ss))] (.go 11 (.ans [(0,.cells o1 z1 (kef a))] (.bool (bJ a c)) [] (.go 1 (.fork (.go 1 (.again [])) (.go 0 (.ans [(3,.cells true 0 (ke8 w h a p ss)),(0,.cells o1 z1 (kef a)),(1,.cells o2 z2 (ss.flatMap spC)),(4,.cells true 1 (inL (ke3 w h a ss)))] (slQ 5 1 (a8 p ss (ke3 w h a ss) ss.length).length) [.cells true 2 ((a8 p ss (ke3 w h a ss) ss.length).flatMap spC)] (.go 2 (.fork (.go 1 (.again [])) (.go 7 (.fork (.go 1 (.again [])) (.go 9 (.inv 3 (Nat) (0) [] [] (fun J=>[(52,nI (J:Int)),(8,slQ 6 1 (kea p ss w h a c J).length),(9,nI (lsT ss J)),(10,nI (msT ss J)),(1,nI c),(6,.pointer (some ⟨3,0,none⟩)),(50,slQ 1 2 ss.length),(51,nI (kei ss))]) (fun J=>[]) (fun J=>[(true,.cells true 2 ((kea p ss w h a c J).flatMap spC))]) (fun J=>[]) (fun J=>(J<=List.length ss/\mj (ke3 w h a ss) c J=false)) (fun J=>(List.length ss-J)) (fun J => .go 0 (.fork (.go 0 (.need (.val (.agg #[nI (kee ss J).1,nI (kee ss J).2]) (.go 24 (.need (.val (.iface (((ke3 w h a ss).getD J []).length+1) (.agg ⟨(((ke3 w h a ss).getD J []).flatMap ai)⟩)) (.go 0 (.need (.val (nI (((ke3 w h a ss).getD J []).getD c.toNat 0)) (.go 3 (.fork (.go 1 (.again [])) (.go 9 (.slot 82 (nI ((((ke3 w h a ss).getD J []).getD c.toNat 0)*p)) (.go 0 (.slot 83 (nI ((kee ss J).1-((((ke3 w h a ss).getD J []).getD c.toNat 0)*p))) (.go 0 (.slot 84 (nI (((kee ss J).1-((((ke3 w h a ss).getD J []).getD c.toNat 0)*p))+1)) (.go 8 (.slot 93 (nI ((((ke3 w h a ss).getD J []).getD c.toNat 0)*p)) (.go 0 (.slot 94 (nI ((kee ss J).1+((((ke3 w h a ss).getD J []).getD c.toNat 0)*p))) (.go 0 (.slot 95 (nI (((kee ss J).1+((((ke3 w h a ss).getD J []).getD c.toNat 0)*p))-1)) (.go 1 (.need (.go 1 (.slot 99 (nI ((J:Int)+1)) (.go 0 (.again [(6,9)]))))))))))))))))))))))))))))) (.go 0 (.GA [(6,.cells true 2 ((kea p ss w h a c J).flatMap spC))] [6] (List (Int×Int)) (fun r4=>(qJ (kea p ss w h a c J) r4)) (fun r4 => .tuple #[]) (fun r4=>[(6,.cells true 2 (r4.flatMap spC))]) (fun r4=>[]) (fun r4 => .go 5 (.slot 105 (nI ((msT ss J)+1)) (.go 1 (.slot 107 (nI ((msT ss J)+1)) (.go 1 (.need (.go 1 (.inv 3 (Nat) (0) [] [8] (fun U=>[(112,nI (U:Int)),(14,slQ 9 1 (keg ss r4 U)),(15,nI (ke1 ss r4 U).1),(10,nI (msT ss J)),(110,.slice (some ⟨8,0,none⟩) ((kea p ss w h a c J).length+1) ((kea p ss w h a c J).length+1)),(111,nI ((((kea p ss w h a c J).length+1):Nat):Int))]) (fun U=>[(8,true,.cells true 2 ((r4 ++ [((ke4 ss)+1,(ke4 ss)+1)]).flatMap spC))]) (fun U=>[(true,.cells true 2 (((ke1 ss r4 U).2).flatMap spC))]) (fun U=>[]) (fun U=>(U<=List.length (r4 ++ [((ke4 ss)+1,(ke4 ss)+1)]))) (fun U=>(List.length (r4 ++ [((ke4 ss)+1,(ke4 ss)+1)])-U)) (fun U => .go 0 (.fork (.need (.val (.agg #[nI ((r4 ++ [((ke4 ss)+1,(ke4 ss)+1)]).getD U ae).1,nI ((r4 ++ [((ke4 ss)+1,(ke4 ss)+1)]).getD U ae).2]) (.go 6 (.fork (.go 0 (.slot 145 (nI ((U:Int)+1)) (.go 0 (.again [(9,9)])))) (.go 4 (.aT (.go 3 (.fork (.go 4 (.slot 134 (nI (((r4 ++ [((ke4 ss)+1,(ke4 ss)+1)]).getD U ae).1-1)) (.go 3 (.need (.go 4 (.slot 143 (nI (((r4 ++ [((ke4 ss)+1,(ke4 ss)+1)]).getD U ae).2+1)) (ke0 U 12))))))) (.go 3 (.slot 143 (nI (((r4 ++ [((ke4 ss)+1,(ke4 ss)+1)]).getD U ae).2+1)) (ke0 U 9))))) (.go 5 (.slot 143 (nI (((r4 ++ [((ke4 ss)+1,(ke4 ss)+1)]).getD U ae).2+1)) (ke0 U 9))))))))) (.go 2 (.again [(2,9)]))))))))))))))))))))))))))))))
 (ca ((aW [.cells o1 z1 (kef a),.cells o2 z2 (ss.flatMap spC)]):HT).n 3 (.tuple #[slQ 2 1 (tmL p ss (ke3 w h a ss) c).length,nI 0]) [(true,.cells true 2 ((tmL p ss (ke3 w h a ss) c).flatMap spC))])=yf o1 o2 z1 z2 w h a p ss c:=by kernel_rfl
def LC(sp:Value)(a b:Int×Int):Prop :=
 ((.int .i64 (IntKind.wrap .i64 (a.1-b.1)):Value) = .int .i64 (a.1-b.1)/\(.int .i64 (a.1-b.1):Value)=sp)
theorem L2(sp:Value)(a b:Int×Int):vF prog msk (dm 0) 100000 true 40 true 82 [.agg #[.int .i64 a.1,.int .i64 a.2],.agg #[.int .i64 b.1,.int .i64 b.2]] ⟨0,.leaf⟩ (some [])
 (.go 7 (.slot 9 (.int .i64 (a.1-b.1)) (.auto)))
 (fun v _ _=>v=sp)=LC sp a b:=by kernel_rfl
end
end Go.Proofs.YtbgfjemppjhmjaaGreat
