/- Drift: the examples of the chapter (awake), as a contract. No condition. -/
import Derived.Test.YtkkgnalgmebfjaaGreatA4a
import Derived.Test.YtkkgnalgmebfjaaGreatGQ5gxQ3g
import Derived.Test.YtkkgnalgmebfjaaGreatGQ3xQ4
import Derived.Test.YtkkgnalgmebfjaaGreatRows
import Derived.JoinedCond
import Derived.Test.YtkkgnalgmebfjaaGreatGK27xD3g
import Derived.Test.YtkkgnalgmebfjaaGreatGS1xE1g
open Go Go.K
set_option maxRecDepth 1000000
set_option maxHeartbeats 4000000
set_option linter.unusedVariables false
set_option linter.unusedSimpArgs false
namespace Go.Proofs.YtkkgnalgmebfjaaGreat
noncomputable section
attribute [local irreducible] vF
theorem zJ(H:Heap):aF prog F.cy [] H [] (Is (.bool true) H):=by
 have hv:vF prog msk (dm zM) 100000 true 40 true F.cy [] ⟨0,.leaf⟩ none .auto (fun v _ _=>pz v):=of_eq_true w9
 have h0:=vc (P:=prog) (mask:=msk) (dm:=dm zM) (rounds:=100000) (mixed:=true) tE mixed 40 (f:=F.cy) (args:=[]) (H:=⟨0,.leaf⟩) (M:=none) (h:=.auto) (Q:=fun v _=>pz v) hv
 have h1:aF prog F.cy [] [] [] (fun v _=>v = .bool true):=h0.post (fun v H' h=>by
   cases v <;> first|exact h.elim|(rename_i b;cases b <;> first|rfl|exact h.elim))
 have h2:aF prog F.cy [] [] [] (Is (.bool true) []):=aF.clean h1 rfl
 have h3:=aF.frame (H:=H) (new:=[]) (d:=3) (U:=fun _=>none) ⟨fun g hg=>absurd hg (by rw[iU];exact Nat.not_lt_zero _),fun _ _ h=>(by cases h),fun id h=>absurd h (Nat.not_lt_zero _),fun _ _ _ h=>(by cases h),fun _ _ _ h=>(by cases h)⟩ h2 rfl rfl
 simpa[rn] using h3
theorem AB{f:FuncId}{args:List Value}{css:List (List Value)}{h:Hint}{v:Value}(hc:vF prog msk (dm 0) 100000 true 40 true f args (ba 0 css) (some []) h (fun v' _ _=>v'=v))(hp:jP css)(hv:cK 0 v=true)
  {H:Heap} {ids:List Nat} (hi:qO H ids css) {args':List Value} (ha:args.map (rn (sgR 0 ids) 5)=args'):aF prog f args' H [] (Is v H):=by
 subst ha
 exact ga hc (fW hp) hv ids (kD hi) (jm hi)
theorem yh(w h:Int)(a:List Bool)(l:List Flow)(xs:List Ice)(ms:List Move):(ae w h a l xs ms).1.length<=a.length/\(ae w h a l xs ms).2.1.length<=a.length:=by
 unfold ae
 split
 ·show (b7 w h a xs ms).length<=_/\(b8 w h a xs ms).length<=_
  unfold b7 b8
  rw[List.length_map,List.length_map,gq]
  exact ⟨Nat.le_refl _,Nat.le_refl _⟩
 ·exact ⟨Nat.zero_le _,Nat.zero_le _⟩
theorem yf(w h:Int)(a:List Bool)(l:List Flow)(w' h' t:Int)(cs:List Cell):(aQ w h a l w' h' t cs).1.cells.length<=a.length:=by
 unfold aQ
 split
 ·split
  ·split
   ·exact Nat.zero_le _
   ·show (bV w h a l cs).length<=_
    unfold bV;rw[cf];exact Nat.le_refl _
  ·exact Nat.zero_le _
 ·exact Nat.zero_le _
theorem yg(w h:Int)(a:List Bool)(w' h' t:Int)(cs:List Cell):(ai w h a w' h' t cs).1.cells.length<=cs.length:=by
 unfold ai
 split
 ·split
  ·show (cm _ _).length<=_
   rw[cf];exact Nat.le_refl _
  ·exact Nat.zero_le _
 ·exact Nat.zero_le _
set_option maxHeartbeats 4000000 in
theorem va(w h:Int)(a:List Bool)(l:List Flow)(xs:List Ice)(ms:List Move)(w' h' t:Int)(cs:List Cell){H:Heap}{i0 i1 i2 i3 i4:Nat}{o0 o1 o2 o3 o4:Bool}{z0 z1 z2 z3 z4:Nat}(e0:H[i0]?=some (.cells o0 z0 (a.flatMap am)))(e1:H[i1]?=some (.cells o1 z1 (l.flatMap aV)))(e2:H[i2]?=some (.cells o2 z2 (xs.flatMap aS)))(e3:H[i3]?=some (.cells o3 z3 (ms.flatMap moveC)))(e4:H[i4]?=some (.cells o4 z4 (cs.flatMap cellC))) :
  aF prog F.gn [eH w h i0 a.length,.slice (some ⟨i1,0,some 2⟩) l.length l.length,.slice (some ⟨i2,0,some 2⟩) xs.length xs.length,.slice (some ⟨i3,0,some 2⟩) ms.length ms.length,rq w' h' t i4 cs.length] H [] (Is (.bool true) H):=by
 refine AB (Eq.mpr (rH _ w h a l xs ms w' h' t cs) ?_) ⟨bP 0 a,d8 0 l,c7 0 xs,cH 0 ms,bE 0 cs,trivial⟩ rfl (ids:=[i0,i1,i2,i3,i4]) ⟨⟨_,_,e0⟩,⟨_,_,e1⟩,⟨_,_,e2⟩,⟨_,_,e3⟩,⟨_,_,e4⟩,trivial⟩ rfl
 unfold lA
 have aw:∀n:Nat,True/\(∀H':Heap,H'.length=n->True->aF prog 8 [] H' [] (Is (.bool true) H'))/\(Value.bool true) = .bool true:=fun n=>⟨trivial,fun H' _ _=>zJ H',rfl⟩
 refine aH (fun _=>aw _) (fun V=>aH (fun _=>aw _) (fun n1=>aH (fun _=>aw _) (fun n2=>aH (fun _=>aw _) (fun n3=>aH (fun _=>aw _) (fun n4 =>?_)))))
 obtain ⟨d1,d2⟩:=yh w h a l xs ms
 have d3:=yf w h a l w' h' t cs
 have d4:=yg w h a w' h' t cs
 refine ⟨⟨rfl,trivial⟩,fun H' hl hd=>zI w h a (by omega) hl hd.1,⟨rfl,trivial⟩,fun H' hl hd=>zD l (by omega) hl hd.1,⟨rfl,trivial⟩,fun H' hl hd=>zH w' h' t cs (by omega) hl hd.1,⟨rfl,trivial⟩,fun H' hl hd=>zE xs (by omega) hl hd.1,⟨rfl,trivial⟩,fun H' hl hd=>xW ms (by omega) hl hd.1,
  ⟨rfl,rfl,rfl,rfl,trivial⟩,fun H' hl hd=>(zF w h a l xs ms (by omega) (by omega) hl hd.1 hd.2.1 hd.2.2.1 hd.2.2.2.1).wkA ⟨ar ⟨ag _,ag _,dE,trivial⟩,dE,dE,dE,trivial⟩,
  ⟨rfl,rfl,rfl,rfl,trivial⟩,fun H' hl hd=>xU w h a l xs ms (by omega) (by omega) hl hd.1 hd.2.1 hd.2.2.1 hd.2.2.2.1,
  fD (bne_self_eq_false _) (fD (bne_self_eq_false _) ⟨⟨rfl,rfl,trivial⟩,fun H' hl hd=>(vb (ae w h a l xs ms).2.1 [] [] (by omega) (by rw[List.append_nil];exact hd.1) (by rw[List.append_nil];exact hd.2.1)).wkA ⟨dE,dE,trivial⟩,rfl,Nat.zero_le _,?_,fun _=>rfl,?_⟩)⟩
 ·repeat' first|exact trivial|exact rfl|exact ag _|refine af ?_|refine ak ?_ ?_|exact aE|exact aL _ _ _ (.inl rfl)|(exact bf (by omega))|refine aA ?_|refine ar ?_|refine aC ?_ ?_ ?_|refine aB ?_ ?_ ?_|refine toMax ?_|refine toMin ?_|refine ⟨rfl,?_⟩|refine ⟨trivial,?_⟩|(refine aH (fun h =>?_) (fun h =>?_))|(refine az (fun h =>?_) (fun h =>?_))|(refine aI (fun h =>?_) (fun h =>?_))|refine aD ?_|(refine ⟨au (by omega),?_⟩)|(refine And.intro (by omega) ?_)|apply And.intro|(exact iEq (by omega))|(exact au (by omega))
 intro x hx
 refine aH (fun k =>?_) (fun k =>?_)
 ·have hlt:x<(ae w h a l xs ms).1.length:=by omega
  refine ⟨by omega,gF hlt,by omega,gF hlt,fD (by simp) ⟨au (by omega),x+1,by omega,by omega,rfl,?_⟩⟩
  repeat' first|exact trivial|exact rfl|exact ag _|refine af ?_|refine ak ?_ ?_|exact aE|exact aL _ _ _ (.inl rfl)|(exact bf (by omega))|refine aA ?_|refine ar ?_|refine aC ?_ ?_ ?_|refine aB ?_ ?_ ?_|refine toMax ?_|refine toMin ?_|refine ⟨rfl,?_⟩|refine ⟨trivial,?_⟩|(refine aH (fun h =>?_) (fun h =>?_))|(refine az (fun h =>?_) (fun h =>?_))|(refine aI (fun h =>?_) (fun h =>?_))|refine aD ?_|(refine ⟨au (by omega),?_⟩)|(refine And.intro (by omega) ?_)|apply And.intro|(exact iEq (by omega))|(exact au (by omega))
 refine ⟨⟨rfl,rfl,rfl,trivial⟩,fun H' hl hd=>(AR w h a l (by omega) w' h' t cs hl hd.1 hd.2.1 hd.2.2.1).wkA ⟨ar ⟨ag _,ag _,dE,trivial⟩,dE,ar ⟨ag _,ag _,ag _,dE,trivial⟩,trivial⟩,
  ⟨rfl,rfl,rfl,trivial⟩,fun H' hl hd=>zx w h a l (by omega) w' h' t cs hl hd.1 hd.2.1 hd.2.2.1,
  fD (bne_self_eq_false _) ⟨⟨rfl,rfl,trivial⟩,fun H' hl hd=>(ws _ _ _ _ (by omega) hd.1 hd.2.1).wkA ⟨ar ⟨ag _,ag _,ag _,dE,trivial⟩,ar ⟨ag _,ag _,ag _,dE,trivial⟩,trivial⟩,
  ⟨rfl,rfl,trivial⟩,fun H' hl hd=>(zC w h a w' h' t cs hl hd.1 hd.2.1).wkA ⟨ar ⟨ag _,ag _,dE,trivial⟩,ar ⟨ag _,ag _,ag _,dE,trivial⟩,trivial⟩,
  ⟨rfl,rfl,trivial⟩,fun H' hl hd=>xT w h a w' h' t cs hl hd.1 hd.2.1,
  fD (bne_self_eq_false _) ⟨⟨rfl,rfl,trivial⟩,fun H' hl hd=>(ws _ _ _ _ (by omega) hd.1 hd.2.1).wkA ⟨ar ⟨ag _,ag _,ag _,dE,trivial⟩,ar ⟨ag _,ag _,ag _,dE,trivial⟩,trivial⟩,
  rfl,Nat.zero_le _,?_,fun _=>rfl,?_⟩⟩⟩
 ·rw[uB]
  repeat' first|exact bE _ _|exact trivial|exact rfl|exact ag _|refine af ?_|refine ak ?_ ?_|exact aE|exact aL _ _ _ (.inl rfl)|(exact bf (by omega))|refine aA ?_|refine ar ?_|refine aC ?_ ?_ ?_|refine aB ?_ ?_ ?_|refine toMax ?_|refine toMin ?_|refine ⟨rfl,?_⟩|refine ⟨trivial,?_⟩|(refine aH (fun h =>?_) (fun h =>?_))|(refine az (fun h =>?_) (fun h =>?_))|(refine aI (fun h =>?_) (fun h =>?_))|refine aD ?_|(refine ⟨au (by omega),?_⟩)|(refine And.intro (by omega) ?_)|apply And.intro|(exact iEq (by omega))|(exact au (by omega))
 intro y hy
 refine aH (fun k2 =>?_) (fun k2 =>?_)
 ·have hlt:y<(ai w h a w' h' t cs).1.cells.length:=by omega
  have es:bt ((dw (ai w h a w' h' t cs).1.cells y).flatMap cellC) (0+Int.toNat ((y:Nat):Int)*8) (cellC cq)=(dw (ai w h a w' h' t cs).1.cells (y+1)).flatMap cellC:=by
   rw[<- uA hlt,<- j0 cz _ y (by rw[fM];exact hlt),show 0+Int.toNat ((y:Nat):Int)*8=y*8 by omega]
  refine ⟨trivial,fun H' _ _=>xY H',by omega,by rw[bg cz,fM];omega,rfl,au (by omega),y+1,by omega,by omega,rfl,?_⟩
  repeat' first|(exact congrArg (fun q=>some (aa.cells true 8 q)) es)|exact bE _ _|exact trivial|exact rfl|exact ag _|refine af ?_|refine ak ?_ ?_|exact aE|exact aL _ _ _ (.inl rfl)|(exact bf (by omega))|refine aA ?_|refine ar ?_|refine aC ?_ ?_ ?_|refine aB ?_ ?_ ?_|refine toMax ?_|refine toMin ?_|refine ⟨rfl,?_⟩|refine ⟨trivial,?_⟩|(refine aH (fun h =>?_) (fun h =>?_))|(refine az (fun h =>?_) (fun h =>?_))|(refine aI (fun h =>?_) (fun h =>?_))|refine aD ?_|(refine ⟨au (by omega),?_⟩)|(refine And.intro (by omega) ?_)|apply And.intro|(exact iEq (by omega))|(exact au (by omega))
 refine ⟨⟨rfl,rfl,trivial⟩,fun H' hl hd=>(ws _ _ _ _ (by omega) hd.1 hd.2.1).wkA ⟨ar ⟨ag _,ag _,ag _,dE,trivial⟩,ag _,trivial⟩,
  fD (bne_self_eq_false _) (fD (bne_self_eq_false _) ⟨⟨rfl,rfl,trivial⟩,fun H' hl hd=>(qM a (by omega) hd.1 hd.2.1).wkA ⟨dE,ag _,trivial⟩,fD (bne_self_eq_false _) ⟨rfl,Nat.zero_le _,?_,fun _=>rfl,?_⟩⟩)⟩
 ·repeat' first|exact trivial|exact rfl|exact ag _|refine af ?_|refine ak ?_ ?_|exact aE|exact aL _ _ _ (.inl rfl)|(exact bf (by omega))|refine aA ?_|refine ar ?_|refine aC ?_ ?_ ?_|refine aB ?_ ?_ ?_|refine toMax ?_|refine toMin ?_|refine ⟨rfl,?_⟩|refine ⟨trivial,?_⟩|(refine aH (fun h =>?_) (fun h =>?_))|(refine az (fun h =>?_) (fun h =>?_))|(refine aI (fun h =>?_) (fun h =>?_))|refine aD ?_|(refine ⟨au (by omega),?_⟩)|(refine And.intro (by omega) ?_)|apply And.intro|(exact iEq (by omega))|(exact au (by omega))
 intro v hv
 refine aH (fun k3 =>?_) (fun k3=>aw _)
 refine ⟨by omega,eR (by omega),by omega,eR (by omega),fD (by simp) ⟨au (by omega),v+1,by omega,by omega,rfl,?_⟩⟩
 repeat' first|exact trivial|exact rfl|exact ag _|refine af ?_|refine ak ?_ ?_|exact aE|exact aL _ _ _ (.inl rfl)|(exact bf (by omega))|refine aA ?_|refine ar ?_|refine aC ?_ ?_ ?_|refine aB ?_ ?_ ?_|refine toMax ?_|refine toMin ?_|refine ⟨rfl,?_⟩|refine ⟨trivial,?_⟩|(refine aH (fun h =>?_) (fun h =>?_))|(refine az (fun h =>?_) (fun h =>?_))|(refine aI (fun h =>?_) (fun h =>?_))|refine aD ?_|(refine ⟨au (by omega),?_⟩)|(refine And.intro (by omega) ?_)|apply And.intro|(exact iEq (by omega))|(exact au (by omega))
end
end Go.Proofs.YtkkgnalgmebfjaaGreat
namespace Go.Proofs.YtkkgnalgmebfjaaGreat
open Go Go.K Go.ChangeShapes Go.WideShapes Go.ChangeAt Go.RowKit
noncomputable section
theorem own:ownKnob Tryz.prog.godebug=none:=by kernel_rfl
theorem sized:hJ Tryz.prog=true:=by kernel_rfl
abbrev known(t:TypeId):Prop:=t<Tryz.prog.types.size
theorem kids:Kids Tryz.prog known:=kids_rows (by kernel_rfl) (by kernel_rfl)
theorem jo{Z:Type}{f:Z->List Value}{n t:Nat}(H:Heap)(hf:lj Tryz.prog 5 t=some n)(hα:∀ns:List Int,ns.length=n->∃x:Z,ns.map (Value.int .i64)=f x) :
  ∀c,K.Good Tryz.prog H 5 t c->∃x:Z,c=f x/\True:=by
 intro c h
 obtain ⟨ns,rfl,h2,_⟩:=jq 5 t n c hf h
 obtain ⟨x,hx⟩:=hα ns h2
 exact ⟨x,hx,trivial⟩
theorem iW{Z:Type}{f:Z->List Value}{H:Heap}{n t e:Nat}{cs:List Value}(hu:Tryz.prog.underlying t=some (.slice e))(hg:∀c,K.Good Tryz.prog H n e c->∃x:Z,c=f x/\True)(h:K.Good Tryz.prog H (n+1) t cs) :
  ∃(v:Value) (xs:List Z),cs=[v]/\xs.length<=maxLen/\∀K:Heap,∃(gs:List aa) (id:Nat) (own:Bool) (z:Nat),wk v (.slice (some ⟨id,0,some 2⟩) xs.length xs.length)/\(H++K++gs)[id]?=some (.cells own z (xs.flatMap f)):=by
 unfold K.Good at h
 rw[hu]at h
 rcases h with h|h|⟨id,len,cs',h1,h2,h3,h4,h5⟩
 ·exact ⟨_,[],h,by simp[maxLen],fun K=>⟨[.cells false 0 []],(H++K).length,false,0,aL _ _ _ (.inr rfl),by rw[List.getElem?_append_right (Nat.le_refl _)];simp⟩⟩
 ·exact ⟨_,[],h,by simp[maxLen],fun K=>⟨[.cells false 0 []],(H++K).length,false,0,Bl _ _ _ (.inr rfl),by rw[List.getElem?_append_right (Nat.le_refl _)];simp⟩⟩
 ·obtain ⟨xs,rfl,rfl,_⟩:=mV (f:=f) (q:=fun _=>True) hg len cs' h5
  refine ⟨_,xs,h1,h4,fun K=>⟨[],id,false,0,Bk,?_⟩⟩
  rw[List.append_nil,List.getElem?_append_left (List.getElem?_eq_some_iff.1 h2).1];exact h2
theorem ij{Z:Type}{f:Z->List Value}{H:Heap}{t e:Nat}{v:Value}(hu:Tryz.prog.underlying t=some (.slice e))(hg:∀c,K.Good Tryz.prog H 5 e c->∃x:Z,c=f x/\True)(h:eC Tryz.prog H 6 t v) :
  ∃xs:List Z,xs.length<=maxLen/\∀K:Heap,∃(gs:List aa) (id:Nat) (own:Bool) (z:Nat),wk v (.slice (some ⟨id,0,some 2⟩) xs.length xs.length)/\(H++K++gs)[id]?=some (.cells own z (xs.flatMap f)):=by
 unfold eC at h
 rw[hu]at h
 obtain ⟨v',xs,h1,h2,h3⟩:=iW hu hg h
 cases h1
 exact ⟨xs,h2,h3⟩
theorem sI{H:Heap}{v:Value}(h:eC Tryz.prog H 6 25 v):∃xs:List Flow,xs.length<=maxLen/\∀K:Heap,∃(gs:List aa) (id:Nat) (own:Bool) (z:Nat),wk v (.slice (some ⟨id,0,some 2⟩) xs.length xs.length)/\(H++K++gs)[id]?=some (.cells own z (xs.flatMap aV)):=by
 refine ij (e:=87) (by kernel_rfl) (jo (n:=4) H (by kernel_rfl) fun ns h =>?_) h
 match ns,h with
 | [a1,a2,a3,a4],_=>exact ⟨⟨⟨a1,a2⟩,⟨a3,a4⟩⟩,rfl⟩
theorem ii{H:Heap}{n:Nat}{c:List Value}(h:K.Good Tryz.prog H (n+1) 3 c):∃x:Int,c=[.int .i64 x]:=by
 obtain ⟨ns,h1,h2,h3⟩:=jq (n+1) 3 1 c (by unfold lj;rw[show Tryz.prog.underlying 3=some (.int .i64) by kernel_rfl]) h
 match ns,h2 with
 | [x],_=>exact ⟨x,by simpa using h1⟩
theorem sV{H:Heap}{v:Value}(h:eC Tryz.prog H 6 24 v):∃(w hh:Int) (a:List Bool),∀K:Heap,∃(gs:List aa) (id:Nat) (own:Bool) (z:Nat),wk v (eH w hh id a.length)/\(H++K++gs)[id]?=some (.cells own z (a.flatMap am)):=by
 have hu:∃fs,Tryz.prog.underlying 24=some (.struct fs)/\fs.toList.map (·.type)=[3,3,22]:=by
  have:(match Tryz.prog.underlying 24 with|some (.struct fs)=>decide (fs.toList.map (·.type)=[3,3,22])|_=>false)=true:=by kernel_rfl
  split at this
  ·rename_i fs e;exact ⟨fs,e,hZ this⟩
  ·cases this
 obtain ⟨fs,hu,ht⟩:=hu
 unfold eC at h
 rw[hu]at h
 obtain ⟨cs,rfl,h⟩:=h
 unfold K.Good at h
 rw[hu]at h
 simp only[ht]at h
 obtain ⟨c1,r1,rfl,h1,c2,r2,rfl,h2,c3,r3,rfl,h3,h4⟩:=h
 obtain rfl:r3=[]:=h4
 obtain ⟨w,rfl⟩:=ii h1
 obtain ⟨hh,rfl⟩:=ii h2
 obtain ⟨v,xs,rfl,_,hr⟩:=iW (f:=am) (n:=4) (e:=4) (by kernel_rfl) (fun c hc=>by
  unfold K.Good at hc
  rw[show Tryz.prog.underlying 4=some .bool by kernel_rfl]at hc
  obtain ⟨b,rfl⟩:=hc
  exact ⟨b,rfl,trivial⟩) h3
 refine ⟨w,hh,xs,fun K =>?_⟩
 obtain ⟨gs,id,own,z,g1,g2⟩:=hr K
 exact ⟨gs,id,own,z,ar ⟨ag _,ag _,g1,trivial⟩,g2⟩
theorem vf{H:Heap}{v:Value}(h:eC Tryz.prog H 6 26 v):∃xs:List Ice,xs.length<=maxLen/\∀K:Heap,∃(gs:List aa) (id:Nat) (own:Bool) (z:Nat),wk v (.slice (some ⟨id,0,some 2⟩) xs.length xs.length)/\(H++K++gs)[id]?=some (.cells own z (xs.flatMap aS)):=by
 refine ij (e:=53) (by kernel_rfl) (jo (n:=4) H (by kernel_rfl) fun ns h =>?_) h
 match ns,h with
 | [a1,a2,a3,a4],_=>exact ⟨⟨a1,a2,a3,a4⟩,rfl⟩
theorem sa{H:Heap}{v:Value}(h:eC Tryz.prog H 6 27 v):∃xs:List Move,xs.length<=maxLen/\∀K:Heap,∃(gs:List aa) (id:Nat) (own:Bool) (z:Nat),wk v (.slice (some ⟨id,0,some 2⟩) xs.length xs.length)/\(H++K++gs)[id]?=some (.cells own z (xs.flatMap moveC)):=by
 refine ij (e:=92) (by kernel_rfl) (jo (n:=2) H (by kernel_rfl) fun ns h =>?_) h
 match ns,h with
 | [a1,a2],_=>exact ⟨⟨a1,a2⟩,rfl⟩
theorem sQ{H:Heap}{v:Value}(h:eC Tryz.prog H 6 30 v):∃(w hh t:Int) (cs:List Cell),∀K:Heap,∃(gs:List aa) (id:Nat) (own:Bool) (z:Nat),wk v (.agg #[.int .i64 w,.int .i64 hh,.int .i64 t,.slice (some ⟨id,0,some 2⟩) cs.length cs.length])/\(H++K++gs)[id]?=some (.cells own z (cs.flatMap cellC)):=by
 have hu:∃fs,Tryz.prog.underlying 30=some (.struct fs)/\fs.toList.map (·.type)=[3,3,3,28]:=by
  have:(match Tryz.prog.underlying 30 with|some (.struct fs)=>decide (fs.toList.map (·.type)=[3,3,3,28])|_=>false)=true:=by kernel_rfl
  split at this
  ·rename_i fs e;exact ⟨fs,e,hZ this⟩
  ·cases this
 obtain ⟨fs,hu,ht⟩:=hu
 unfold eC at h
 rw[hu]at h
 obtain ⟨cs,rfl,h⟩:=h
 unfold K.Good at h
 rw[hu]at h
 simp only[ht]at h
 obtain ⟨c1,r1,rfl,h1,c2,r2,rfl,h2,c3,r3,rfl,h3,c4,r4,rfl,h4,h5⟩:=h
 obtain rfl:r4=[]:=h5
 obtain ⟨w,rfl⟩:=ii h1
 obtain ⟨hh,rfl⟩:=ii h2
 obtain ⟨t,rfl⟩:=ii h3
 obtain ⟨v,xs,rfl,_,hr⟩:=iW (f:=cellC) (n:=4) (e:=90) (by kernel_rfl) (fun c hc=>by
  obtain ⟨ns,rfl,k2,_⟩:=jq 4 90 8 c (by kernel_rfl) hc
  match ns,k2 with
  | [a1,a2,a3,a4,a5,a6,a7,a8],_=>exact ⟨⟨⟨a1,a2⟩,⟨a3,a4⟩,⟨a5,a6⟩,⟨a7,a8⟩⟩,rfl,trivial⟩) h4
 refine ⟨w,hh,t,xs,fun K =>?_⟩
 obtain ⟨gs,id,own,z,g1,g2⟩:=hr K
 exact ⟨gs,id,own,z,ar ⟨ag _,ag _,ag _,g1,trivial⟩,g2⟩
end
end Go.Proofs.YtkkgnalgmebfjaaGreat
