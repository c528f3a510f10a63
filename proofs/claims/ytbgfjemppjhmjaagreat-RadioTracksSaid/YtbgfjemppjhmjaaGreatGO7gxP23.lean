/- What is to be shown of functions. Printed by a program. No condition. -/
import Derived.Test.YtbgfjemppjhmjaaGreatGO1gxW3
import Derived.Test.YtbgfjemppjhmjaaGreatGK27xR0b
open Go Go.K
set_option maxRecDepth 1000000
set_option maxHeartbeats 4000000
set_option linter.unusedVariables false
set_option linter.unusedSimpArgs false
namespace Go.Proofs.YtbgfjemppjhmjaaGreat
noncomputable section
attribute [local irreducible] vF
variable {w h:Int} {a:List Bool} {p:Int} {ss:List (Int×Int)} {o1 o2:Bool} {z1 z2:Nat} {H:Heap}
abbrev ks5(L:List Msg)(a:Int):Value:=.tuple #[.slice (some ⟨2,0,some 1⟩) (List.length (iA L a)) (List.length (iA L a)),.int .i64 0]
abbrev kse(L:List Msg)(a:Int):Prop:=true=true/\wk (.tuple #[.slice none 0 0,.int .i64 6]:Value) (rn (sg 2 []) 3 (ks5 L a))/\(True/\True)
abbrev ksh:ab:=.cells true 0 [.map (some 1)]
abbrev ksa(L:List Msg):=List.length (aI L)
abbrev ks1(L:List Msg):Prop:=(.pointer (some ⟨5,0,none⟩):Value) = .pointer (some ⟨5,0,none⟩)/\(.func (.yield 6) #[] #[]:Value) = .func (.yield 6) #[] #[]/\wk (.slice (some ⟨7,0,some 1⟩) (ksa L) (ksa L):Value) (.slice (some ⟨7,0,some 1⟩) (ksa L) (ksa L):Value)/\(.int .i64 (((ksa L):Nat):Int):Value) = .int .i64 (((ksa L):Nat):Int)/\True
abbrev ks0(a:Int):Prop:=(mG prog 33 0/\(.func (.func 161) #[] #[.pointer (some ⟨4,0,none⟩),.pointer (some ⟨5,0,none⟩)]:Value) = .func (.func 161) #[] #[.pointer (some ⟨4,0,none⟩),.pointer (some ⟨5,0,none⟩)]/\(.int .i64 a:Value) = .int .i64 a/\(.pointer (some ⟨0,0,none⟩):Value) = .pointer (some ⟨0,0,none⟩)/\(.pointer (some ⟨3,0,none⟩):Value) = .pointer (some ⟨3,0,none⟩)/\(.pointer (some ⟨2,0,none⟩):Value) = .pointer (some ⟨2,0,none⟩)/\(.bool false:Value) = .bool false/\(.bool (decide ((a:Int)<=4)):Value) = .bool (decide ((a:Int)<=4))/\(.int .i64 a:Value) = .int .i64 a/\(.bool false:Value) = .bool false/\(.pointer (some ⟨0,0,none⟩):Value) = .pointer (some ⟨0,0,none⟩)/\(.int .i64 0:Value) = .int .i64 0/\(.slice none 0 0:Value) = .slice none 0 0/\(.pointer (some ⟨0,0,none⟩):Value) = .pointer (some ⟨0,0,none⟩)/\(.int .i64 a:Value) = .int .i64 a/\True)/\True
abbrev ks8(x1:Nat):Int:=(x1:Nat)
abbrev ks3(L:List Msg)(x1:Nat):=List.getD (aI L) x1 ay
abbrev ks7(L:List Msg)(x1:Nat):Value:=.agg #[.int .i64 (ks3 L x1).au,.int .i64 (ks3 L x1).nu,.int .i64 (ks3 L x1).at_,.int .i64 (ks3 L x1).ki,.int .i64 (ks3 L x1).sh,.int .i64 (ks3 L x1).ce,.int .i64 (ks3 L x1).va]
abbrev ks4(L:List Msg)(a:Int)(x1:Nat):=List.length (cI (aI L) a x1).2.2
abbrev ksd(L:List Msg)(a:Int)(x1':Nat):ab:=.cells true 0 [.slice (some ⟨8,0,some 1⟩) (List.length (cI (aI L) a x1').2.2) (List.length (cI (aI L) a x1').2.2)]
abbrev ksf(L:List Msg)(a:Int)(x1:Nat):=List.flatMap spC (cI (aI L) a x1).2.2
abbrev ks9(L:List Msg)(a:Int)(x1':Nat):ab:=.cells true 2 (List.flatMap spC (cI (aI L) a x1').2.2)
abbrev ks2(x1:Nat)(L:List Msg)(a:Int):Prop:=(.int .i64 (IntKind.wrap .i64 ((ks8 x1)+1)):Value) = .int .i64 ((ks8 x1)+1)/\(∃x1':Nat,(x1'<=List.length (aI L))/\(List.length (aI L)-x1')<(List.length (aI L)-x1)/\true=true/\((.int .i64 ((ks8 x1)+1):Value) = .int .i64 ((x1':Nat):Int)/\(.int .i64 (cI (aI L) a x1).1:Value) = .int .i64 (cI (aI L) a x1').1/\ks1 L)/\(wkO (.cells true 0 [.slice (some ⟨8,0,some 1⟩) (ks4 L a x1) (ks4 L a x1)]:ab) (rno (sg 8 [(8,8)]) 3 (ksd L a x1'))/\(some (.cells true 0 [.int .i64 (cI (aI L) a x1).2.1]:ab)=some (.cells true 0 [.int .i64 (cI (aI L) a x1').2.1]:ab)/\aj 8 (.cells true 0 [.int .i64 (cI (aI L) a x1').2.1]:ab)=true)/\True)/\((some (.cells true 2 (ksf L a x1):ab)=some (ks9 L a x1')/\aj 8 (ks9 L a x1')=true)/\True)/\(ks0 a))
abbrev ksb(L:List Msg)(a:Int)(x1:Nat):List Value:=[.int .i64 (cI (aI L) a x1).2.1,.int .i64 ((ks3 L x1).nu-1)]
abbrev ksg(x1 x1':Nat)(L:List Msg)(a:Int):Prop:=(.int .i64 ((ks8 x1)+1):Value) = .int .i64 ((x1':Nat):Int)/\(.int .i64 (ks3 L x1).nu:Value) = .int .i64 (cI (aI L) a x1').1/\ks1 L
abbrev ks6(L:List Msg)(x1:Nat)(a:Int)(x1':Nat):Prop:=(some (.cells true 0 [.int .i64 ((ks3 L x1).nu+1)]:ab)=some (.cells true 0 [.int .i64 (cI (aI L) a x1').2.1]:ab)/\aj 8 (.cells true 0 [.int .i64 (cI (aI L) a x1').2.1]:ab)=true)/\True
def Eu(L:List Msg)(a:Int):Prop :=
 (((decide ((1:Int)<=a))=true->(((!(decide ((a:Int)<=4)))=true->(kse L a))/\((!(decide ((a:Int)<=4)))=false->(((some ksh=some ksh)/\(some (.map (aq L):ab)=some (.map (aq L):ab))/\True)/\(∀H':Heap,H'.length=7->(H'[0]?=some ksh/\H'[1]?=some (.map (aq L):ab)/\True)->ad prog 95 [.pointer (some ⟨0,0,none⟩)] H' [] (Is (.slice (some ⟨7,0,some 1⟩) (ksa L) (ksa L)) (H' ++ [(.cells true 7 (List.flatMap bL (aI L)):ab)])))/\(true=true/\(0<=List.length (aI L))/\(true=true/\((.int .i64 0:Value) = .int .i64 ((0:Nat):Int)/\(.int .i64 0:Value) = .int .i64 (cI (aI L) a 0).1/\ks1 L)/\(wkO (.cells true 0 [.slice none 0 0]:ab) (rno (sg 8 []) 3 (.cells true 0 [.slice (some ⟨8,0,some 1⟩) (List.length (cI (aI L) a 0).2.2) (List.length (cI (aI L) a 0).2.2)]:ab))/\(some (.cells true 0 [.int .i64 1]:ab)=some (.cells true 0 [.int .i64 (cI (aI L) a 0).2.1]:ab)/\aj 8 (.cells true 0 [.int .i64 (cI (aI L) a 0).2.1]:ab)=true)/\True)/\(True/\True)/\ks0 a)/\(∀x1:Nat,true=true)/\∀x1:Nat,(x1<=List.length (aI L))->(((decide (((ks8 x1):Int)<(((ksa L):Nat):Int)))=true->(((0:Int)<=(ks8 x1)/\((ks8 x1):Int)<(((ksa L):Nat):Int))/\(fJ 7 (List.flatMap bL (aI L)) (0+Int.toNat (ks8 x1)*7)=some (ks7 L x1))/\((((ks3 L x1).au:Int) != a)=true->(ks2 x1 L a))/\((((ks3 L x1).au:Int) != a)=false->(((((ks3 L x1).nu:Int) == (cI (aI L) a x1).1)=true->(ks2 x1 L a))/\((((ks3 L x1).nu:Int) == (cI (aI L) a x1).1)=false->(((decide (((cI (aI L) a x1).2.1:Int)<(ks3 L x1).nu))=true->((.int .i64 (IntKind.wrap .i64 ((ks3 L x1).nu-1)):Value) = .int .i64 ((ks3 L x1).nu-1)/\(((ks4 L a x1)+1)*16<=2 ^ 44/\1≠0/\((ks4 L a x1)<=(ks4 L a x1)/\0+(ks4 L a x1)*2<=List.length (ksf L a x1))/\(1<=1/\0+1*2<=List.length (ksb L a x1))/\((List.take (1*2) (List.drop 0 (ksb L a x1))):List Value).all (fun v=>cO v)=true)/\true=true/\(.int .i64 (IntKind.wrap .i64 ((ks3 L x1).nu+1)):Value) = .int .i64 ((ks3 L x1).nu+1)/\((.int .i64 (IntKind.wrap .i64 ((ks8 x1)+1)):Value) = .int .i64 ((ks8 x1)+1)/\∃x1':Nat,(x1'<=List.length (aI L))/\(List.length (aI L)-x1')<(List.length (aI L)-x1)/\true=true/\(ksg x1 x1' L a)/\(wkO (.cells true 0 [.slice (some ⟨11,0,none⟩) ((ks4 L a x1)+1) ((ks4 L a x1)+1)]:ab) (rno (sg 8 [(8,11)]) 3 (ksd L a x1'))/\ks6 L x1 a x1')/\((some (.cells true 2 ((List.take ((ks4 L a x1)*2) (List.drop 0 (ksf L a x1)))++(List.take (1*2) (List.drop 0 (ksb L a x1)))):ab)=some (ks9 L a x1')/\aj 8 (ks9 L a x1')=true)/\True)/\ks0 a)))/\((decide (((cI (aI L) a x1).2.1:Int)<(ks3 L x1).nu))=false->((.int .i64 (IntKind.wrap .i64 ((ks3 L x1).nu+1)):Value) = .int .i64 ((ks3 L x1).nu+1)/\((.int .i64 (IntKind.wrap .i64 ((ks8 x1)+1)):Value) = .int .i64 ((ks8 x1)+1)/\∃x1':Nat,(x1'<=List.length (aI L))/\(List.length (aI L)-x1')<(List.length (aI L)-x1)/\true=true/\(ksg x1 x1' L a)/\(wkO (.cells true 0 [.slice (some ⟨8,0,some 1⟩) (ks4 L a x1) (ks4 L a x1)]:ab) (rno (sg 8 [(8,8)]) 3 (ksd L a x1'))/\ks6 L x1 a x1')/\((some (.cells true 2 (ksf L a x1):ab)=some (ks9 L a x1')/\aj 8 (ks9 L a x1')=true)/\True)/\ks0 a)))))))))/\((decide (((ks8 x1):Int)<(((ksa L):Nat):Int)))=false->(true=true/\wk (.tuple #[.slice (some ⟨8,0,some 1⟩) (ks4 L a x1) (ks4 L a x1),.int .i64 0]:Value) (rn (sg 2 [(2,8)]) 3 (ks5 L a))/\(some (.cells true 2 (ksf L a x1):ab)=some (.cells true 2 (List.flatMap spC (iA L a)):ab)/\aj 2 (.cells true 2 (List.flatMap spC (iA L a)):ab)=true)/\True))))))))/\((decide ((1:Int)<=a))=false->(kse L a)))
abbrev ksc(x1:Nat):Hint:=.slot 30 (.int .i64 ((ks8 x1)+1)) (.go 0 (.again [(8,8)]))
theorem LU(L:List Msg)(a:Int):vF prog msk (dm 0) 100000 true 40 true 33 [.pointer (some ⟨0,0,none⟩),.int .i64 a] (aW [.cells true 0 [.map (some 1)],.map (aq L)]) (some [])
 (.go 22 (.aT (.go 5 (.fork (.go 1 (.again [])) (.go 10 (.into (some [2,3,4,5]) (.go 1 (.ans [(0,.cells true 0 [.map (some 1)]),(1,.map (aq L))] (.slice (some ⟨7,0,some 1⟩) (ksa L) (ksa L)) [.cells true 7 (List.flatMap bL (aI L))] (.go 1 (.inv 3 (Nat) (0) [] [2,3,6] (fun x1=>[(10,.int .i64 (ks8 x1)),(4,.int .i64 (cI (aI L) a x1).1),(2,.pointer (some ⟨5,0,none⟩)),(0,.func (.yield 6) #[] #[]),(8,.slice (some ⟨7,0,some 1⟩) (ksa L) (ksa L)),(9,.int .i64 (((ksa L):Nat):Int))]) (fun x1=>[(2,false,.cells true 0 [.slice (some ⟨8,0,some 1⟩) (ks4 L a x1) (ks4 L a x1)]),(3,true,.cells true 0 [.int .i64 (cI (aI L) a x1).2.1])]) (fun x1=>[(true,.cells true 2 (ksf L a x1))]) (fun x1=>[(6,[(16,.func (.func 161) #[] #[.pointer (some ⟨4,0,none⟩),.pointer (some ⟨5,0,none⟩)]),(15,.int .i64 a),(14,.pointer (some ⟨0,0,none⟩)),(7,.pointer (some ⟨3,0,none⟩)),(6,.pointer (some ⟨2,0,none⟩)),(13,.bool false),(12,.bool (decide ((a:Int)<=4))),(11,.int .i64 a),(10,.bool false),(9,.pointer (some ⟨0,0,none⟩)),(5,.int .i64 0),(4,.slice none 0 0),(0,.pointer (some ⟨0,0,none⟩)),(1,.int .i64 a)])]) (fun x1=>(x1<=List.length (aI L))) (fun x1=>(List.length (aI L)-x1)) (fun x1 => .go 0 (.fork (.need (.val (ks7 L x1) (.go 6 (.aT (.go 2 (ksc x1)) (.go 4 (.fork (.go 0 (ksc x1)) (.go 4 (.into (some [2,3,6,8,9]) (.go 3 (.fork (.go 3 (.slot 24 (.int .i64 ((ks3 L x1).nu-1)) (.go 1 (.need (.go 2 (.slot 29 (.int .i64 ((ks3 L x1).nu+1)) (.go 3 (.slot 30 (.int .i64 ((ks8 x1)+1)) (.go 0 (.again [(8,11)])))))))))) (.go 1 (.slot 29 (.int .i64 ((ks3 L x1).nu+1)) (.go 3 (ksc x1)))))))))))))) (.go 2 (.again [(2,8)])))))))))))) (.go 5 (.again []))))
 (ca ((aW [.cells true 0 [.map (some 1)],.map (aq L)]):HT).n 3 (.tuple #[.slice (some ⟨2,0,some 1⟩) (List.length (iA L a)) (List.length (iA L a)),.int .i64 0]) [(true,.cells true 2 (List.flatMap spC (iA L a)))])=Eu L a:=by kernel_rfl
theorem Mo{x y:Int}(h:(x != y)=true):x≠y:=by simpa using h
theorem JE{x y:Int}(h:(x != y)=false):x=y:=by simpa using h
theorem cd(x:Int×Int):(spC x).length=2:=rfl
theorem ct(n:Nat)(l:List (Int×Int)):(l.flatMap spC).all (aJ n)=true:=je (fun _=>rfl) l
theorem Mw{L:List Msg}{a:Int}(hk:∀m∈L,okM m=true)(hl:L.length<=2000)(h1:1<=a)(h4:a<=4):Eu L a:=by
 have hS:=jL L
 delta Eu ks5 kse ksh ksa ks1 ks0 ks8 ks3 ks7 ks4 ksd ksf ks9 ks2 ksb ksg ks6
 refine ⟨fun b=>⟨fun c=>(by rw[decide_eq_true h4]at c;cases c),fun c=>⟨⟨rfl,rfl,trivial⟩,fun H' hl' h =>?_,rfl,Nat.zero_le _,?_,fun _=>rfl,fun x hx=>⟨fun d =>?_,fun d =>?_⟩⟩⟩,fun b=>(by rw[decide_eq_true h1]at b;cases b)⟩
 ·have:=zK hk hl (H:=H') (by decide) h.1 h.2.1
  rw[hl']at this;exact this
 ·repeat' first|exact ah _ _ _ (.inl rfl)|exact ct _ _|exact rfl|exact aa _|refine aK ?_|exact ac|exact ah _ _ _ (.inl rfl)|(refine And.intro (by omega) ?_)|apply And.intro
 ·have hx1:x<(aI L).length:=by have:=av d;omega
  have hm:=hX (hk _ (uW.1 (b8 (d:=ay) hx1)))
  refine ⟨⟨by omega,by omega⟩,Ce hx1 (by omega),fun e=>⟨aG (by omega),x+1,by omega,by omega,rfl,?_⟩,fun e=>⟨fun f=>⟨aG (by omega),x+1,by omega,by omega,rfl,?_⟩,fun f =>?_⟩⟩
  ·rw[i5 hx1,Aa (.inl (Mo e))]
   repeat' first|exact ct _ _|exact aa _|exact rfl|exact aa _|refine aK ?_|exact ac|exact ah _ _ _ (.inl rfl)|(refine And.intro (by omega) ?_)|apply And.intro
  ·rw[i5 hx1,Aa (.inr (eq_of_beq f))]
   repeat' first|exact ct _ _|exact aa _|exact rfl|exact aa _|refine aK ?_|exact ac|exact ah _ _ _ (.inl rfl)|(refine And.intro (by omega) ?_)|apply And.intro
  ·have ea:((aI L).getD x ay).au=a:=JE e
   have en:((aI L).getD x ay).nu≠(cI (aI L) a x).1:=fun q=>by rw[q]at f;simp at f
   have gl:=DJ (aI L) a x
   refine ⟨fun g=>⟨aG (by omega),?_,rfl,aG (by omega),aG (by omega),x+1,by omega,by omega,rfl,?_⟩,fun g=>⟨aG (by omega),aG (by omega),x+1,by omega,by omega,rfl,?_⟩⟩
   ·repeat' first|exact kF cd _|exact Nat.le_refl 2|exact rfl|exact aa _|refine aK ?_|exact ac|exact ah _ _ _ (.inl rfl)|(refine And.intro (by omega) ?_)|apply And.intro
   ·rw[i5 hx1,Gh ea en (av g)]
    repeat' first|exact ct _ _|exact dd rfl|exact de cd rfl rfl|exact rfl|exact aa _|refine aK ?_|exact ac|exact ah _ _ _ (.inl rfl)|(refine And.intro (by omega) ?_)|apply And.intro
   ·rw[i5 hx1,Gg ea en (aA g)]
    repeat' first|exact ct _ _|exact aa _|exact rfl|exact aa _|refine aK ?_|exact ac|exact ah _ _ _ (.inl rfl)|(refine And.intro (by omega) ?_)|apply And.intro
 ·have hx1:x=(aI L).length:=by have:=aA d;omega
  rw[hx1]
  exact ⟨rfl,aa _,⟨rfl,ct _ _⟩,trivial⟩
theorem K4{L:List Msg}{a:Int}(hk:∀m∈L,okM m=true)(hl:L.length<=2000)(h1:1<=a)(h4:a<=4){i q:Nat}(hne:i≠q)(hi:H[i]?=some (.cells true 0 [.map (some q)]))(hq:H[q]?=some (.map (aq L))) :
  ad prog 33 [.pointer (some ⟨i,0,none⟩),.int .i64 a] H [] (Is (.tuple #[.slice (some ⟨H.length,0,some 1⟩) (iA L a).length (iA L a).length,.int .i64 0]) (H ++ [.cells true 2 ((iA L a).flatMap spC)])) :=
 BF (fun j => .tuple #[.slice (some ⟨j,0,some 1⟩) (iA L a).length (iA L a).length,.int .i64 0]) (os:=[.cells true 0 [.map (some 1)],.map (aq L)]) (Eq.mpr (LU L a) (Mw hk hl h1 h4)) (tl L 1) rfl
  ⟨⟨_,_,rfl,ct _ _⟩,trivial⟩ (ids:=[i,q]) (by simp[hne]) (lU hi hq) (fun j=>rfl) rfl
end
end Go.Proofs.YtbgfjemppjhmjaaGreat
namespace Go.Proofs.YtbgfjemppjhmjaaGreat
noncomputable section
def bb:Int:=1073741824
def cE(w h:Int)(n:Nat):Int:=if (1<=w/\w<=64)/\(1<=h/\h<=64)/\w*h<=1024 then (if (n:Int)=w*h then 0 else 1) else 6
structure cM(w h:Int)(n:Nat):Prop where
 w1:1<=w/\w<=64
 h1:1<=h/\h<=64
 p1:w*h<=1024
 n1:(n:Int)=w*h
theorem D5{w h:Int}{n:Nat}(e:cE w h n=0):cM w h n:=by
 unfold cE at e
 split at e
 ·rename_i q
  split at e
  ·rename_i q2;exact ⟨q.1,q.2.1,q.2.2,q2⟩
  ·cases e
 ·cases e
def bJ(a:List Bool)(c:Int):Bool:=decide (0<=c)&&decide (c<=((a.length:Nat):Int)-1) && !a.getD (Int.toNat c) false
def bdx:Nat->Int:=fun j=>[0,-1,1,0].getD j 0
def bdy:Nat->Int:=fun j=>[-1,0,0,1].getD j 0
def nbU(w i:Int)(j:Nat):Int:=Int.tmod i w+bdx j
def nbV(w i:Int)(j:Nat):Int:=Int.tdiv i w+bdy j
def nbT(w i:Int)(j:Nat):Int:=nbV w i j*w+nbU w i j
def iS(w h:Int)(a:List Bool)(i:Int)(j:Nat):Prop:=((0<=nbU w i j/\nbU w i j<=w-1)/\0<=nbV w i j/\nbV w i j<=h-1)/\a.getD (Int.toNat (nbT w i j)) false=false
theorem Ly{j:Nat}(hj:j<4):(-1<=bdx j/\bdx j<=1) /\ -1<=bdy j/\bdy j<=1:=by
 match j,hj with
 |0,_=>decide
 |1,_=>decide
 |2,_=>decide
 |3,_=>decide
theorem Bk{w h:Int}{n:Nat}(b:cM w h n){i:Int}(hi:0<=i/\i<(n:Int)):(0<=Int.tmod i w/\Int.tmod i w<=w-1)/\(0<=Int.tdiv i w/\Int.tdiv i w<=h-1)/\Int.tdiv i w*w+Int.tmod i w=i:=by
 have hw:=b.w1
 have h1:=Int.mul_tdiv_add_tmod i w
 rw[Int.tmod_eq_emod_of_nonneg hi.1,Int.tdiv_eq_ediv_of_nonneg hi.1]at *
 have h2:=Int.emod_nonneg i (b:=w) (by omega)
 have h3:=Int.emod_lt_of_pos i (b:=w) (by omega)
 have h4:=Int.ediv_nonneg hi.1 (by omega:0<=w)
 have h5:i / w<h:=by
  rw[Int.ediv_lt_iff_lt_mul (by omega)]
  rw[Int.mul_comm,<- b.n1];exact hi.2
 exact ⟨by omega,by omega,by rw[Int.mul_comm];exact h1⟩
theorem vn{w h:Int}{n:Nat}(b:cM w h n){u v:Int}(hu:0<=u/\u<=w-1)(hv:0<=v/\v<=h-1):0<=v*w+u/\v*w+u<(n:Int):=by
 have hw:=b.w1
 have h1:0<=v*w:=Int.mul_nonneg hv.1 (by omega)
 have h2:v*w<=(h-1)*w:=Int.mul_le_mul_of_nonneg_right hv.2 (by omega)
 have h3:(h-1)*w=w*h-w:=by rw[Int.sub_mul,Int.mul_comm h w];omega
 have:=b.n1
 omega
inductive Wy (w h:Int) (a:List Bool) (f:Int):Nat->Int->Prop
 |base:Wy w h a f 0 f
 |step {n:Nat} {i:Int} (j:Nat) (hj:j<4) (hw:Wy w h a f n i) (hb:iS w h a i j):Wy w h a f (n+1) (nbT w i j)
def Lst(w h:Int)(a:List Bool)(f c:Int)(n:Nat):Prop:=Wy w h a f n c/\∀m,Wy w h a f m c->n<=m
open Classical in
def bk(w h:Int)(a:List Bool)(f c:Int):Int:=if q:∃n,Lst w h a f c n then ((Classical.choose q:Nat):Int) else bb
theorem jp{w h:Int}{a:List Bool}{f c:Int}{n:Nat}(q:Lst w h a f c n):bk w h a f c=n:=by
 have e:∃n,Lst w h a f c n:=⟨n,q⟩
 unfold bk
 rw[dif_pos e]
 have:=Classical.choose_spec e
 have h1:=this.2 n q.1
 have h2:=q.2 _ this.1
 omega
theorem Ah{w h:Int}{a:List Bool}{f c:Int}(q:∀n,¬ Wy w h a f n c):bk w h a f c=bb:=by
 unfold bk
 rw[dif_neg]
 rintro ⟨n,hn⟩
 exact q n hn.1
def cw(w h:Int)(a:List Bool)(f:Int):List Int:=dE (fun c:Nat=>bk w h a f (c:Int)) a.length
def gO(O:List Int)(i:Int):Int:=O.getD (Int.toNat i) 0
def fnd(O:List Int):Nat:=O.countP fun v=>decide (v≠bb)
def unf(O:List Int):Nat:=O.countP fun v=>decide (v=bb)
def gA(Q:List Int)(O:List Int):Nat:=2*unf O+Q.length
theorem uc(O:List Int):fnd O+unf O=O.length:=by
 unfold fnd unf
 have h:=List.length_eq_countP_add_countP (p:=fun v:Int=>decide (v=bb)) (l:=O)
 have e:(fun v:Int=>decide (v≠bb))=fun v=>decide ¬ (decide (v=bb)=true):=by funext v;simp
 rw[e];omega
theorem countP_set(p:Int->Bool)(O:List Int)(k:Nat)(v:Int)(hk:k<O.length):(O.set k v).countP p+(if p (O.getD k 0)=true then 1 else 0)=O.countP p+(if p v=true then 1 else 0):=by
 induction O generalizing k with
 |nil=>cases hk
 |cons a O ih =>
  cases k with
  |zero=>simp[List.countP_cons];omega
  |succ k =>
   have:=ih k (by simpa using hk)
   simp only[List.set_cons_succ,List.countP_cons,List.getD_cons_succ]
   omega
theorem s6{O:List Int}{k:Nat}{v:Int}(hk:k<O.length)(h0:O.getD k 0=bb)(hv:v≠bb):fnd (O.set k v)=fnd O+1/\unf (O.set k v)+1=unf O:=by
 have h1:=countP_set (fun v=>decide (v≠bb)) O k v hk
 have h2:=countP_set (fun v=>decide (v=bb)) O k v hk
 simp only[h0,ne_eq,not_true_eq_false,decide_false,Bool.false_eq_true,if_false,hv,not_false_eq_true,decide_true,if_true]at h1 h2
 unfold fnd unf
 simp only[ne_eq]at h1 h2 ⊢
 omega
theorem DK{O:List Int}{k c:Nat}{v:Int}(hk:k<O.length):(O.set k v).getD c 0=if c=k then v else O.getD c 0:=by
 rw[List.getD_eq_getElem?_getD,List.getElem?_set]
 by_cases e:k=c
 ·rw[if_pos e,if_pos hk,if_pos e.symm];rfl
 ·rw[if_neg e,if_neg fun q=>e q.symm,List.getD_eq_getElem?_getD]
structure BfD(w h:Int)(a:List Bool)(f:Int)(Q O:List Int):Prop where
 len:O.length=a.length
 f0:gO O f=0
 bd:∀c:Nat,c<a.length->O.getD c 0≠bb->0<=O.getD c 0/\Wy w h a f (Int.toNat (O.getD c 0)) (c:Int)
 cnt:∀c:Nat,c<a.length->O.getD c 0≠bb->O.getD c 0<(fnd O:Int)
 q:∀i∈Q,(0<=i/\i<(a.length:Int))/\gO O i≠bb
 srt:Q.Pairwise fun i k=>gO O i<=gO O k
 top:∀i,Q.head?=some i->∀c:Nat,c<a.length->O.getD c 0≠bb->O.getD c 0<=gO O i+1
 done:∀c:Nat,c<a.length->O.getD c 0≠bb->(c:Int)∈Q∨∀j,j<4->iS w h a (c:Int) j->gO O (nbT w (c:Int) j)≠bb/\gO O (nbT w (c:Int) j)<=O.getD c 0+1
 sz:Q.length+unf O<=a.length
structure BfJ(w h:Int)(a:List Bool)(f i:Int)(x:Nat)(Q O:List Int):Prop where
 len:O.length=a.length
 f0:gO O f=0
 bd:∀c:Nat,c<a.length->O.getD c 0≠bb->0<=O.getD c 0/\Wy w h a f (Int.toNat (O.getD c 0)) (c:Int)
 cnt:∀c:Nat,c<a.length->O.getD c 0≠bb->O.getD c 0<(fnd O:Int)
 ii:(0<=i/\i<(a.length:Int))/\gO O i≠bb
 q:∀k∈Q,(0<=k/\k<(a.length:Int))/\gO O k≠bb
 srt:Q.Pairwise fun i k=>gO O i<=gO O k
 low:∀k∈Q,gO O i<=gO O k
 top:∀c:Nat,c<a.length->O.getD c 0≠bb->O.getD c 0<=gO O i+1
 seen:∀j,j<x->iS w h a i j->gO O (nbT w i j)≠bb/\gO O (nbT w i j)<=gO O i+1
 done:∀c:Nat,c<a.length->O.getD c 0≠bb->(c:Int)=i∨(c:Int)∈Q∨∀j,j<4->iS w h a (c:Int) j->gO O (nbT w (c:Int) j)≠bb/\gO O (nbT w (c:Int) j)<=O.getD c 0+1
 sz:Q.length+unf O<a.length
theorem BfD.pop{w h:Int}{a:List Bool}{f i:Int}{Q O:List Int}(b:BfD w h a f (i :: Q) O):BfJ w h a f i 0 Q O:=by
 have hs:=List.pairwise_cons.1 b.srt
 refine ⟨b.len,b.f0,b.bd,b.cnt,b.q i (List.mem_cons_self ..),fun k hk=>b.q k (List.mem_cons_of_mem _ hk),hs.2,hs.1,b.top i rfl,fun j hj=>absurd hj (Nat.not_lt_zero _),fun c hc hf =>?_,?_⟩
 ·rcases b.done c hc hf with q|q
  ·rcases List.mem_cons.1 q with e|e
   ·exact .inl e
   ·exact .inr (.inl e)
  ·exact .inr (.inr q)
 ·have:=b.sz;rw[List.length_cons]at this;omega
theorem BfJ.skip{w h:Int}{a:List Bool}{f i:Int}{x:Nat}{Q O:List Int}(b:BfJ w h a f i x Q O)(hs:iS w h a i x->gO O (nbT w i x)≠bb)(hin:iS w h a i x->0<=nbT w i x/\nbT w i x<(a.length:Int)):BfJ w h a f i (x+1) Q O:=by
 refine ⟨b.len,b.f0,b.bd,b.cnt,b.ii,b.q,b.srt,b.low,b.top,fun j hj hb =>?_,b.done,b.sz⟩
 by_cases e:j=x
 ·subst e
  have h1:=hin hb
  exact ⟨hs hb,b.top _ (by omega) (hs hb)⟩
 ·exact b.seen j (by omega) hb
theorem BfJ.add{w h:Int}{a:List Bool}{f i:Int}{x:Nat}{Q O:List Int}(b:BfJ w h a f i x Q O)(hx:x<4)(hb:iS w h a i x)(hin:0<=nbT w i x/\nbT w i x<(a.length:Int))(hn:gO O (nbT w i x)=bb)(hsm:(a.length:Int)<=1024):BfJ w h a f i (x+1) (Q ++ [nbT w i x]) (O.set (Int.toNat (nbT w i x)) (gO O i+1)):=by
 have hi:=b.ii
 have hd:=b.bd (Int.toNat i) (by omega) hi.2
 have hc:=b.cnt (Int.toNat i) (by omega) hi.2
 have hfu:=uc O
 have hlen:=b.len
 generalize ht:Int.toNat (nbT w i x)=t at *
 have htl:t<O.length:=by omega
 have hO0:O.getD t 0=bb:=by rw[<- ht];exact hn
 have hv:gO O i+1≠bb:=by unfold gO at *;unfold bb at *;omega
 obtain ⟨c1,c2⟩:=s6 htl hO0 hv
 have hg:∀c:Nat,(O.set t (gO O i+1)).getD c 0=if c=t then gO O i+1 else O.getD c 0:=fun c=>DK htl
 have hgI:∀k:Int,gO O k≠bb->gO (O.set t (gO O i+1)) k=gO O k:=fun k hk=>by
  show (O.set t (gO O i+1)).getD (Int.toNat k) 0=_
  rw[hg,if_neg (fun e=>hk (by unfold gO;rw[e];exact hO0))];rfl
 have hgi:=hgI i hi.2
 refine ⟨by rw[List.length_set];exact b.len,by rw[hgI f (by rw[b.f0];decide)];exact b.f0,fun c hcl hcf =>?_,fun c hcl hcf =>?_,⟨hi.1,by rw[hgi];exact hi.2⟩,fun k hk =>?_,?_,fun k hk =>?_,fun c hcl hcf =>?_,fun j hj hbj =>?_,fun c hcl hcf =>?_,?_⟩
 ·rw[hg]at hcf ⊢
  by_cases e:c=t
  ·rw[if_pos e]
   refine ⟨by unfold gO;omega,?_⟩
   have hw:=Wy.step x hx hd.2 (by rw[show ((Int.toNat i:Nat):Int)=i by omega];exact hb)
   rw[show ((Int.toNat i:Nat):Int)=i by omega]at hw
   rw[e,show ((t:Nat):Int)=nbT w i x by omega,show Int.toNat (gO O i+1)=Int.toNat (O.getD (Int.toNat i) 0)+1 by unfold gO;omega]
   exact hw
  ·rw[if_neg e]at hcf ⊢;exact b.bd c hcl hcf
 ·rw[hg]at hcf ⊢
  rw[c1]
  by_cases e:c=t
  ·rw[if_pos e];unfold gO;omega
  ·rw[if_neg e]at hcf ⊢;have:=b.cnt c hcl hcf;omega
 ·rcases List.mem_append.1 hk with e|e
  ·have:=b.q k e
   exact ⟨this.1,by rw[hgI k this.2];exact this.2⟩
  ·rw[List.mem_singleton.1 e]
   refine ⟨hin,?_⟩
   show (O.set t (gO O i+1)).getD (Int.toNat (nbT w i x)) 0≠bb
   rw[ht,hg,if_pos rfl];exact hv
 ·refine List.pairwise_append.2 ⟨?_,List.pairwise_singleton _ _,fun k hk q hq =>?_⟩
  ·refine List.Pairwise.imp_of_mem (fun {u v} hu hv h =>?_) b.srt
   rw[hgI u (b.q u hu).2,hgI v (b.q v hv).2];exact h
  ·rw[List.mem_singleton.1 hq,hgI k (b.q k hk).2]
   show _<=(O.set t (gO O i+1)).getD (Int.toNat (nbT w i x)) 0
   rw[ht,hg,if_pos rfl]
   have:=b.q k hk
   exact b.top (Int.toNat k) (by omega) this.2
 ·rw[hgi]
  rcases List.mem_append.1 hk with e|e
  ·rw[hgI k (b.q k e).2];exact b.low k e
  ·rw[List.mem_singleton.1 e]
   show _<=(O.set t (gO O i+1)).getD (Int.toNat (nbT w i x)) 0
   rw[ht,hg,if_pos rfl];omega
 ·rw[hgi,hg]at *
  by_cases e:c=t
  ·rw[if_pos e];omega
  ·rw[if_neg e]at hcf ⊢;exact b.top c hcl hcf
 ·rw[hgi]
  by_cases e:j=x
  ·subst e
   have:gO (O.set t (gO O i+1)) (nbT w i j)=gO O i+1:=by
    show (O.set t (gO O i+1)).getD (Int.toNat (nbT w i j)) 0=_
    rw[ht,hg,if_pos rfl]
   rw[this];exact ⟨hv,Int.le_refl _⟩
  ·have:=b.seen j (by omega) hbj
   rw[hgI _ this.1];exact this
 ·rw[hg]at hcf
  by_cases e:c=t
  ·exact .inr (.inl (List.mem_append_right _ (by rw[List.mem_singleton];omega)))
  ·rw[if_neg e]at hcf
   rcases b.done c hcl hcf with q|q|q
   ·exact .inl q
   ·exact .inr (.inl (List.mem_append_left _ q))
   ·refine .inr (.inr fun j hj hbj =>?_)
    have:=q j hj hbj
    rw[hgI _ this.1,hg,if_neg e];exact this
 ·have:=b.sz
  rw[ao,aV];omega
theorem BfJ.fin{w h:Int}{a:List Bool}{f i:Int}{Q O:List Int}(b:BfJ w h a f i 4 Q O):BfD w h a f Q O:=by
 refine ⟨b.len,b.f0,b.bd,b.cnt,b.q,b.srt,fun k hk c hc hf =>?_,fun c hc hf =>?_,by have:=b.sz;omega⟩
 ·have h1:=b.top c hc hf
  have h2:=b.low k (by
   cases Q with
   |nil=>cases hk
   |cons q Q=>cases hk;exact List.mem_cons_self ..)
  omega
 ·rcases b.done c hc hf with q|q|q
  ·refine .inr fun j hj hbj =>?_
   rw[q]at hbj ⊢
   have:=b.seen j hj hbj
   rw[show O.getD c 0=gO O i from by unfold gO;rw[<- q];rfl]
   exact this
  ·exact .inl q
  ·exact .inr q
theorem BfD.near{w h:Int}{a:List Bool}{f:Int}{O:List Int}(b:BfD w h a f [] O)(hb:cM w h a.length)(hf:0<=f/\f<(a.length:Int)){n:Nat}{c:Int}(hw:Wy w h a f n c):(0<=c/\c<(a.length:Int))/\gO O c≠bb/\gO O c<=(n:Int):=by
 induction hw with
 |base=>exact ⟨hf,by rw[b.f0];decide,by rw[b.f0];exact Int.le_refl _⟩
 | @step n i j hj hw hbj ih =>
  obtain ⟨h1,h2,h3⟩:=ih
  have hin:=vn hb hbj.1.1 hbj.1.2
  have e:((Int.toNat i:Nat):Int)=i:=by omega
  rcases b.done (Int.toNat i) (by omega) h2 with q|q
  ·cases q
  ·have:=q j hj (by rw[e];exact hbj)
   rw[e]at this
   refine ⟨hin,this.1,?_⟩
   have h4:O.getD (Int.toNat i) 0=gO O i:=rfl
   rw[h4]at this
   omega
theorem BfD.eq{w h:Int}{a:List Bool}{f:Int}{O:List Int}(b:BfD w h a f [] O)(hb:cM w h a.length)(hf:0<=f/\f<(a.length:Int)):O=cw w h a f:=by
 refine List.ext_getElem? fun c =>?_
 unfold cw dE
 rw[List.getElem?_map]
 by_cases hc:c<a.length
 ·rw[List.getElem?_range hc,List.getElem?_eq_getElem (by rw[b.len];exact hc)]
  have hg:O.getD c 0=O[c]'(by rw[b.len];exact hc):=by simp[List.getD_eq_getElem?_getD,b.len,hc]
  show some _=some (bk w h a f (c:Int))
  rw[<- hg]
  congr 1
  by_cases e:O.getD c 0=bb
  ·rw[e,Ah]
   intro n hn
   exact (b.near hb hf hn).2.1 e
  ·have h1:=b.bd c hc e
   rw[jp (n:=Int.toNat (O.getD c 0)) ⟨h1.2,fun m hm =>?_⟩]
   ·omega
   ·have:=(b.near hb hf hm).2.2
    have h4:gO O (c:Int)=O.getD c 0:=rfl
    rw[h4]at this;omega
 ·rw[List.getElem?_eq_none (by rw[b.len];omega),List.getElem?_eq_none (by rw[List.length_range];omega)];rfl
def fL(n x:Nat):List Int:=List.replicate x bb++List.replicate (n-x) 0
def gN(n:Nat)(f:Int):List Int:=(List.replicate n bb).set (Int.toNat f) 0
theorem Gw{w h:Int}{a:List Bool}{f:Int}(hf:0<=f/\f<(a.length:Int)):BfD w h a f [f] (gN a.length f):=by
 generalize ht:Int.toNat f=t
 have htl:t<(List.replicate a.length bb).length:=by rw[List.length_replicate];omega
 have hg:∀c:Nat,c<a.length->(gN a.length f).getD c 0=if c=t then 0 else bb:=fun c hc=>by
  unfold gN
  rw[ht,DK htl]
  congr 1
  simp[List.getD_eq_getElem?_getD,List.getElem?_replicate,hc]
 have h0:(List.replicate a.length bb).getD t 0=bb:=by
  rw[List.length_replicate]at htl
  simp[List.getD_eq_getElem?_getD,List.getElem?_replicate,htl]
 have hcnt:=s6 (v:=0) htl h0 (by decide)
 have hu:unf (List.replicate a.length bb)=a.length:=by unfold unf;rw[List.countP_replicate];simp
 have hf0:fnd (List.replicate a.length bb)=0:=by have:=uc (List.replicate a.length bb);rw[List.length_replicate,hu]at this;omega
 have hone:∀c:Nat,c<a.length->(gN a.length f).getD c 0≠bb->c=t:=fun c hc hcf=>by
  rw[hg c hc]at hcf
  by_cases e:c=t
  ·exact e
  ·rw[if_neg e]at hcf;exact absurd rfl hcf
 have htn:t<a.length:=by rwa [List.length_replicate]at htl
 have e0:gO (gN a.length f) f=0:=by
  show (gN a.length f).getD (Int.toNat f) 0=0
  rw[ht,hg t htn,if_pos rfl]
 refine ⟨by unfold gN;rw[List.length_set,List.length_replicate],e0,fun c hc hcf =>?_,fun c hc hcf =>?_,fun i hi =>?_,List.pairwise_singleton _ _,fun i hi c hc hcf =>?_,fun c hc hcf => .inl ?_,?_⟩
 ·rw[hone c hc hcf,hg t htn,if_pos rfl]
  refine ⟨Int.le_refl _,?_⟩
  rw[show ((t:Nat):Int)=f by omega];exact Wy.base
 ·rw[hone c hc hcf,hg t htn,if_pos rfl]
  unfold gN;rw[ht,hcnt.1];omega
 ·rw[List.mem_singleton.1 hi]
  exact ⟨hf,by rw[e0];decide⟩
 ·cases hi
  rw[hone c hc hcf,hg t htn,if_pos rfl,e0];decide
 ·rw[hone c hc hcf,List.mem_singleton];omega
 ·unfold gN;rw[ht];rw[hu]at hcnt;simp only[List.length_cons,List.length_nil];omega
theorem Bi{n x:Nat}(hx:x<n):(fL n x).set x bb=fL n (x+1):=by
 unfold fL
 rw[List.set_append_right _ _ (by rw[List.length_replicate];exact Nat.le_refl _),List.length_replicate,Nat.sub_self,show n-x=(n-(x+1))+1 by omega,List.replicate_succ,List.set_cons_zero,B5,List.append_assoc];rfl
end
end Go.Proofs.YtbgfjemppjhmjaaGreat
namespace Go.Proofs.YtbgfjemppjhmjaaGreat
noncomputable section
attribute [local irreducible] vF
variable {w h:Int} {a:List Bool} {p:Int} {ss:List (Int×Int)} {o1 o2:Bool} {z1 z2:Nat} {H:Heap}
def okS(a:List Bool)(s:Int×Int):Bool:=(decide (0<=s.1)&&decide (s.1<=100000))&&bJ a s.2
def aB(w h:Int)(a:List Bool)(p:Int)(ss:List (Int×Int)):Int :=
 if cE w h a.length=0 then (if 1<=p/\p<=1000 then (if ss.length<=20 then (if ss.all (okS a)=true then 0 else 110) else 2) else 6) else cE w h a.length
def aC(w h:Int)(a:List Bool)(ss:List (Int×Int))(x:Nat):List (List Int):=dE (fun i:Nat=>cw w h a (ss.getD i ae).2) x
def mxI(x y:Int):Int:=if y > x then y else x
def fG(p:Int)(ss:List (Int×Int))(rr:List (List Int))(i:Nat)(c m:Int):Bool :=
 decide ((rr.getD i []).getD (Int.toNat c) 0<bb)&&decide ((rr.getD i []).getD (Int.toNat c) 0*p<=mxI (m-(ss.getD i ae).1) ((ss.getD i ae).1-m))
def jH(p:Int)(ss:List (Int×Int))(rr:List (List Int))(i k:Nat):Bool:=fG p ss rr i (ss.getD k ae).2 (ss.getD k ae).1
def bi(p:Int)(ss:List (Int×Int))(rr:List (List Int))(x y:Nat):List (Int×Int):=((List.range y).filter fun k=>decide (x<k) && !jH p ss rr x k).map fun k:Nat=>(((x:Nat):Int),((k:Nat):Int))
def a8(p:Int)(ss:List (Int×Int))(rr:List (List Int))(x:Nat):List (Int×Int):=(List.range x).flatMap fun i=>bi p ss rr i ss.length
def aQ(n:Nat):List Int:=dE (fun i:Nat=>(i:Int)) n
abbrev kx4:Value:=nI 6
abbrev kx3(a:List Bool):Int:=(a.length:Nat)
def EC(sp:Value)(w h:Int)(a:List Bool):Prop :=
 (((decide ((1:Int)<=w))=true->(((!(decide ((w:Int)<=64)))=true->kx4=sp)/\((!(decide ((w:Int)<=64)))=false->(((decide ((1:Int)<=h))=true->(((!(decide ((h:Int)<=64)))=true->kx4=sp)/\((!(decide ((h:Int)<=64)))=false->((nI (IntKind.wrap .i64 (w*h)):Value)=nI (w*h)/\((decide ((1024:Int)<(w*h)))=true->kx4=sp)/\((decide ((1024:Int)<(w*h)))=false->((nI (IntKind.wrap .i64 (w*h)):Value)=nI (w*h)/\((((kx3 a):Int) != (w*h))=true->(nI 1:Value)=sp)/\((((kx3 a):Int) != (w*h))=false->(nI 0:Value)=sp)))))))/\((decide ((1:Int)<=h))=false->kx4=sp)))))/\((decide ((1:Int)<=w))=false->kx4=sp))
abbrev kx5:Hint:=.fork (.auto) (.auto)
theorem Ko(sp:Value)(w h:Int)(a:List Bool):vF prog msk (dm 0) 100000 true 40 true 108 [.agg #[nI w,nI h,slQ 0 2 a.length]] (bA 0 [a.flatMap af]) (some [])
 (.go 9 (.aT (.go 6 (.aT (.auto) (.go 7 (.aT (.go 7 (.aT (.auto) (.go 4 (.slot 19 (nI (w*h)) (.go 2 (.fork (.auto) (.go 7 (.slot 30 (nI (w*h)) (.go 1 kx5))))))))) (.auto))))) (.auto)))
 (fun v _ _=>v=sp)=EC sp w h a:=by kernel_rfl
def LB(sp:Value)(w h:Int)(a:List Bool)(c:Int):Prop :=
 ((nI (IntKind.wrap .i64 ((kx3 a)-1)):Value)=nI ((kx3 a)-1)/\((decide ((0:Int)<=c))=true->(((decide ((c:Int)<=((kx3 a)-1)))=true->(((0:Int)<=c/\(c:Int)<(kx3 a))/\((a.flatMap af)[(0+Int.toNat c*1)]?=some (.bool (a.getD c.toNat false)))/\(.bool (!(a.getD c.toNat false)):Value)=sp))/\((decide ((c:Int)<=((kx3 a)-1)))=false->(.bool false:Value)=sp)))/\((decide ((0:Int)<=c))=false->(.bool false:Value)=sp))
theorem MT(sp:Value)(w h:Int)(a:List Bool)(c:Int):vF prog msk (dm 0) 100000 true 40 true 75 [.agg #[nI w,nI h,slQ 0 2 a.length],nI c] (bA 0 [a.flatMap af]) (some [])
 (.go 6 (.slot 9 (nI ((kx3 a)-1)) (.go 5 (.aT (.go 5 (.aT (.go 2 (.need (.val (.bool (a.getD c.toNat false)) (.auto)))) (.auto))) (.auto)))))
 (fun v _ _=>v=sp)=LB sp w h a c:=by kernel_rfl
abbrev kx6(ss:List (Int×Int)):Int:=(ss.length:Nat)
abbrev kx1:Value:=.func (.func 110) #[] #[.pointer (some ⟨2,0,none⟩)]
abbrev kx2(ss:List (Int×Int)):Prop:=kx1 = .func (.func 110) #[] #[.pointer (some ⟨2,0,none⟩)]/\wkR (slQ 1 2 ss.length)/\(nI (kx6 ss):Value)=nI (kx6 ss)/\True
abbrev kx0(qn0:Nat)(qv0:Value):Prop:=((decide ((0:Int)<=(qn0:Int)))=true->(nI 110:Value)=qv0)/\((decide ((0:Int)<=(qn0:Int)))=false->(nI 0:Value)=qv0)
def Eb(sp:Value)(w h:Int)(a:List Bool)(p:Int)(ss:List (Int×Int)):Prop :=
 (((ar (.cells false 0 (a.flatMap af)))/\True)/\(∀H':Heap,H'.length=3->(H'[0]?=some (.cells false 0 (a.flatMap af):ab)/\True)->ad prog 108 [.agg #[nI w,nI h,slQ 0 2 a.length]] H' [] (Is (nI (cE w h a.length)) H'))/\((((cE w h a.length):Int) != 0)=true->(nI (cE w h a.length):Value)=sp)/\((((cE w h a.length):Int) != 0)=false->(((decide ((1:Int)<=p))=true->(((!(decide ((p:Int)<=1000)))=true->kx4=sp)/\((!(decide ((p:Int)<=1000)))=false->(((decide ((20:Int)<(kx6 ss)))=true->(nI 2:Value)=sp)/\((decide ((20:Int)<(kx6 ss)))=false->(true=true/\(0<=List.length ss/\(ss.take 0).all (okS a)=true)/\(true=true/\((nI 0:Value)=nI ((0:Nat):Int)/\kx2 ss)/\(True)/\(True)/\True)/\(∀J:Nat,true=true)/\∀J:Nat,(J<=List.length ss/\(ss.take J).all (okS a)=true)->(((decide (((J:Int):Int)<(kx6 ss)))=true->(((0:Int)<=(J:Int)/\((J:Int):Int)<(kx6 ss))/\(fJ 2 (ss.flatMap spC) (0+Int.toNat (J:Int)*2)=some (.agg #[nI (ss.getD J ae).1,nI (ss.getD J ae).2]))/\((decide ((0:Int)<=(ss.getD J ae).1))=true->(((!(decide (((ss.getD J ae).1:Int)<=100000)))=true->(kx0 J sp))/\((!(decide (((ss.getD J ae).1:Int)<=100000)))=false->(((ar (.cells false 0 (a.flatMap af)))/\True)/\(∀H':Heap,H'.length=4->(H'[0]?=some (.cells false 0 (a.flatMap af):ab)/\True)->ad prog 75 [.agg #[nI w,nI h,slQ 0 2 a.length],nI (ss.getD J ae).2] H' [] (Is (.bool (bJ a (ss.getD J ae).2)) H'))/\((!(bJ a (ss.getD J ae).2))=true->(kx0 J sp))/\((!(bJ a (ss.getD J ae).2))=false->((nI (IntKind.wrap .i64 ((J:Int)+1)):Value)=nI ((J:Int)+1)/\∃aD:Nat,(aD<=List.length ss/\(ss.take aD).all (okS a)=true)/\(List.length ss-aD)<(List.length ss-J)/\true=true/\((nI ((J:Int)+1):Value)=nI (aD:Int)/\kx2 ss)/\(True)/\(True)/\True))))))/\((decide ((0:Int)<=(ss.getD J ae).1))=false->(kx0 J sp))))/\((decide (((J:Int):Int)<(kx6 ss)))=false->(nI 0:Value)=sp))))))))/\((decide ((1:Int)<=p))=false->kx4=sp))))
theorem JZ(sp:Value)(w h:Int)(a:List Bool)(p:Int)(ss:List (Int×Int)):vF prog msk (dm 0) 100000 true 40 true 41 [.agg #[nI w,nI h,slQ 0 2 a.length,nI p,slQ 1 2 ss.length]] (bA 0 [a.flatMap af,ss.flatMap spC]) (some [])
 (.go 3 (.ans [(0,.cells false 0 (a.flatMap af))] (nI (cE w h a.length)) [] (.go 2 (.fork (.auto) (.go 7 (.aT (.go 6 (.fork (.auto) (.go 4 (.fork (.auto) (.go 11 (.inv 3 (Nat) (0) [] [] (fun J=>[(8,nI (J:Int)),(1,.func (.func 110) #[] #[.pointer (some ⟨2,0,none⟩)]),(0,slQ 1 2 ss.length),(7,nI (kx6 ss))]) (fun J=>[]) (fun J=>[]) (fun J=>[]) (fun J=>(J<=List.length ss/\(ss.take J).all (okS a)=true)) (fun J=>(List.length ss-J)) (fun J => .go 0 (.fork (.go 4 (.need (.val (.agg #[nI (ss.getD J ae).1,nI (ss.getD J ae).2]) (.go 10 (.aT (.go 6 (.aT (.go 6 kx5) (.go 3 (.ans [(0,.cells false 0 (a.flatMap af))] (.bool (bJ a (ss.getD J ae).2)) [] (.go 2 (.fork (.go 3 kx5) (.go 0 (.slot 18 (nI ((J:Int)+1)) (.go 0 (.again [])))))))))) (.go 10 kx5)))))) (.auto))))))))) (.auto)))))))
 (fun v _ _=>v=sp)=Eb sp w h a p ss:=by kernel_rfl
theorem Cr(a:1<=w/\w<=64)(b:1<=h/\h<=64):1<=w*h/\w*h<=4096:=by
 have h1:1*1<=w*h:=Int.mul_le_mul a.1 b.1 (by omega) (by omega)
 have h2:w*h<=64*64:=Int.mul_le_mul a.2 b.2 (by omega) (by omega)
 omega
abbrev JO(w h:Int)(i n:Nat):Value:=.agg #[.int .i64 w,.int .i64 h,.slice (some ⟨i,0,some 2⟩) n n]
abbrev db(w h:Int)(a:List Bool)(p:Int)(ss:List (Int×Int))(i j:Nat):Value:=.agg #[.int .i64 w,.int .i64 h,.slice (some ⟨i,0,some 2⟩) a.length a.length,.int .i64 p,.slice (some ⟨j,0,some 2⟩) ss.length ss.length]
theorem Dk(w h:Int)(a:List Bool){id:Nat}{own:Bool}{z:Nat}(hid:H[id]?=some (.cells own z (a.flatMap af))) :
  ad prog 108 [JO w h id a.length] H [] (Is (.int .i64 (cE w h a.length)) H):=by
 refine m6 (css:=[a.flatMap af]) (v:=.int .i64 (cE w h a.length)) (ids:=[id]) (Eq.mpr (Ko _ w h a) ?_) ⟨az _ _,trivial⟩ rfl ⟨⟨_,_,hid⟩,trivial⟩ rfl
 delta EC kx4 kx3 cE
 obtain ⟨p,hp⟩:∃p,w*h=p:=⟨_,rfl⟩
 have hb:=fun a b=>hp ▸ Cr (w:=w) (h:=h) a b
 simp only[hp]
 repeat' first|(exact iEq (by split <;> (try split) <;> omega))|exact trivial|exact rfl|exact aa _|exact ac|refine ap ?_|refine b9 ?_|refine toMax ?_|refine toMin ?_|refine ⟨rfl,?_⟩|(refine mi (fun h =>?_) (fun h =>?_))|refine cU ?_|apply And.intro|(exact aG (by omega))
theorem A9(w h:Int)(a:List Bool)(c:Int)(hl:a.length<=100000){id:Nat}{own:Bool}{z:Nat}(hid:H[id]?=some (.cells own z (a.flatMap af))) :
  ad prog 75 [JO w h id a.length,.int .i64 c] H [] (Is (.bool (bJ a c)) H):=by
 refine m6 (css:=[a.flatMap af]) (v:=.bool (bJ a c)) (ids:=[id]) (Eq.mpr (MT _ w h a c) ?_) ⟨az _ _,trivial⟩ rfl ⟨⟨_,_,hid⟩,trivial⟩ rfl
 delta LB kx3 bJ
 refine ⟨aG (by omega),fun h1=>⟨fun h2=>⟨⟨av h1,by have:=av h2;omega⟩,ip (by have:=av h2;have:=av h1;omega) (by omega),?_⟩,fun h2 =>?_⟩,fun h1 =>?_⟩
 ·rw[h1,h2];rfl
 ·rw[h1,h2];rfl
 ·rw[h1];rfl
theorem fN{l:List (Int×Int)}{k off:Nat}(h:k<l.length)(ho:off=k*2):fJ 2 (l.flatMap spC) off=some (.agg ⟨spC (l.getD k ae)⟩):=yV (n:=2) (d:=ae) (c:=0) (m:=2) cd h (by omega) (by omega)
theorem all_succ{α:Type}{p:α->Bool}{l:List α}{x:Nat}{d:α}(hx:x<l.length)(h:(l.take x).all p=true)(h1:p (l.getD x d)=true):(l.take (x+1)).all p=true:=by
 rw[List.take_succ_eq_append_getElem hx,List.all_append,h,List.all_cons]
 rw[show l.getD x d=l[x] from by simp[List.getD_eq_getElem?_getD,hx]]at h1
 rw[h1];rfl
theorem D6{α:Type}{p:α->Bool}{l:List α}{x:Nat}{d:α}(hx:x<l.length)(h1:p (l.getD x d)=false):l.all p=false:=by
 rw[Bool.eq_false_iff]
 intro h
 rw[List.all_eq_true]at h
 have:=h _ (b8 (d:=d) hx)
 rw[h1]at this;cases this
theorem xE(w h:Int)(a:List Bool)(p:Int)(ss:List (Int×Int))(hl:a.length<=100000)(hs:ss.length<=100000){i j:Nat}(hi:H[i]?=some (.cells o1 z1 (a.flatMap af)))(hj:H[j]?=some (.cells o2 z2 (ss.flatMap spC))) :
  ad prog 41 [db w h a p ss i j] H [] (Is (.int .i64 (aB w h a p ss)) H):=by
 refine m6 (css:=[a.flatMap af,ss.flatMap spC]) (v:=.int .i64 (aB w h a p ss)) (ids:=[i,j]) (Eq.mpr (JZ _ w h a p ss) ?_) ⟨az _ _,ct _ _,trivial⟩ rfl ⟨⟨_,_,hi⟩,⟨_,_,hj⟩,trivial⟩ rfl
 delta Eb kx4 kx6 kx1 kx2 kx0 aB
 refine ⟨⟨rfl,trivial⟩,fun H' _ h=>Dk _ _ _ h.1,fun e=>by rw[if_neg (neB e)],fun e =>?_⟩
 rw[if_pos (rh e)]
 refine ⟨fun p1=>⟨fun p2 =>?_,fun p2=>⟨fun n =>?_,fun n =>?_⟩⟩,fun p1 =>?_⟩
 ·rw[if_neg (fun q=>by have:=aA (ff p2);omega)]
 ·rw[if_pos ⟨av p1,av (bK p2)⟩,if_neg (by have:=av n;omega)]
 ·rw[if_pos ⟨av p1,av (bK p2)⟩,if_pos (by have:=aA n;omega)]
  refine ⟨rfl,⟨Nat.zero_le _,rfl⟩,?_,fun _=>rfl,fun x hx=>⟨fun b =>?_,fun b =>?_⟩⟩
  ·repeat' first|exact trivial|exact rfl|exact aa _|exact ac|refine ap ?_|refine b9 ?_|refine toMax ?_|refine toMin ?_|refine ⟨rfl,?_⟩|(refine mi (fun h =>?_) (fun h =>?_))|refine cU ?_|apply And.intro|(exact aG (by omega))
  ·have h1:x<ss.length:=by have:=av b;omega
   have hbad:okS a (ss.getD x ae)=false->(Value.int .i64 110) = .int .i64 (if ss.all (okS a)=true then 0 else 110):=fun q=>by rw[D6 h1 q];rfl
   have hx0:∀{P:Prop},(decide ((0:Int)<=(x:Int))=false->P):=fun q=>absurd (aA q) (by omega)
   refine ⟨⟨by omega,by omega⟩,fN h1 (by omega),fun c1=>⟨fun c2=>⟨fun _=>hbad ?_,hx0⟩,fun c2=>⟨⟨rfl,trivial⟩,fun H' _ h=>A9 _ _ _ _ hl h.1,fun c3=>⟨fun _=>hbad ?_,hx0⟩,fun c3=>⟨aG (by omega),x+1,⟨by omega,all_succ (d:=ae) h1 hx.2 ?_⟩,by omega,rfl,?_⟩⟩⟩,fun c1=>⟨fun _=>hbad ?_,hx0⟩⟩
   ·unfold okS;rw[c1,ff c2];rfl
   ·unfold okS;rw[c1,bK c2,ff c3];rfl
   ·unfold okS;rw[c1,bK c2,bK c3];rfl
   ·repeat' first|exact trivial|exact rfl|exact aa _|exact ac|refine ap ?_|refine b9 ?_|refine toMax ?_|refine toMin ?_|refine ⟨rfl,?_⟩|(refine mi (fun h =>?_) (fun h =>?_))|refine cU ?_|apply And.intro|(exact aG (by omega))
   ·unfold okS;rw[c1];rfl
  ·have h1:x=ss.length:=by have:=aA b;omega
   have:=hx.2
   rw[h1,List.take_length]at this
   rw[if_pos this]
 ·rw[if_neg (fun q=>by have:=aA p1;omega)]
abbrev kad(a:List Bool):Int:=(a.length:Nat)
abbrev ka7(f:Int)(a:List Bool):Prop:=(nI f:Value)=nI f/\(.pointer (some ⟨1,0,none⟩):Value) = .pointer (some ⟨1,0,none⟩)/\(.slice none 0 0:Value) = .slice none 0 0/\(.slice (some ⟨2,0,none⟩) a.length a.length:Value) = .slice (some ⟨2,0,none⟩) a.length a.length/\(nI (kad a):Value)=nI (kad a)/\True
abbrev kaa(a:List Bool):Prop:=(.slice (some ⟨2,0,none⟩) a.length a.length:Value) = .slice (some ⟨2,0,none⟩) a.length a.length/\(.slice none 0 0:Value) = .slice none 0 0/\(.pointer (some ⟨1,0,none⟩):Value) = .pointer (some ⟨1,0,none⟩)/\True
abbrev kaj(x1:List Int×Nat×List Int):Int:=((List.length x1.1-x1.2.1):Nat)
abbrev ka2(x1:List Int×Nat×List Int):=x1.1.getD (x1.2.1+0) 0
abbrev ka6(x1:List Int×Nat×List Int)(w:Int):=Int.tdiv (ka2 x1) w
abbrev ka8(x1:List Int×Nat×List Int)(w:Int):=Int.tmod (ka2 x1) w
abbrev ka0:Value:=.agg #[nI 0,nI (-1),nI (-1),nI 0,nI 1,nI 0,nI 0,nI 1]
abbrev ka5(a:List Bool)(x1:List Int×Nat×List Int)(w:Int):Prop:=(.pointer (some ⟨1,0,none⟩):Value) = .pointer (some ⟨1,0,none⟩)/\(.slice none 0 0:Value) = .slice none 0 0/\(.slice (some ⟨2,0,none⟩) a.length a.length:Value) = .slice (some ⟨2,0,none⟩) a.length a.length/\(nI (ka8 x1 w):Value)=nI (ka8 x1 w)/\(nI (ka6 x1 w):Value)=nI (ka6 x1 w)/\ka0 = .agg #[nI 0,nI (-1),nI (-1),nI 0,nI 1,nI 0,nI 0,nI 1]/\True
abbrev kae(x2:Nat×List Int×Nat×List Int)(x1:List Int×Nat×List Int)(w h:Int)(a:List Bool)(f:Int):Prop:=x2.1<=4/\x2.2.2.1<List.length x2.2.1/\List.getD x2.2.1 x2.2.2.1 0=List.getD x1.1 x1.2.1 0/\BfJ w h a f (x1.1.getD x1.2.1 0) x2.1 (x2.2.1.drop (x2.2.2.1+1)) x2.2.2.2/\gA (x2.2.1.drop (x2.2.2.1+1)) x2.2.2.2<=gA (x1.1.drop (x1.2.1+1)) x1.2.2
abbrev ka4(x2:Nat×List Int×Nat×List Int):=List.getD [0,(-1),1,0] x2.1 0
abbrev ka3(x2:Nat×List Int×Nat×List Int):=List.getD [(-1),0,0,1] x2.1 0
abbrev kab(x1:List Int×Nat×List Int)(w:Int)(x2:Nat×List Int×Nat×List Int)(a:List Bool):Prop:=(0:Int)<=((((ka6 x1 w)+(ka3 x2))*w)+((ka8 x1 w)+(ka4 x2)))/\(((((ka6 x1 w)+(ka3 x2))*w)+((ka8 x1 w)+(ka4 x2))):Int)<(kad a)
abbrev kag(a:List Bool)(x1:List Int×Nat×List Int)(w:Int)(x2:Nat×List Int×Nat×List Int):=a.getD ((((ka6 x1 w)+(ka3 x2))*w)+((ka8 x1 w)+(ka4 x2))).toNat false
abbrev kaf(x2:Nat×List Int×Nat×List Int)(x1:List Int×Nat×List Int)(w:Int):=x2.2.2.2.getD ((((ka6 x1 w)+(ka3 x2))*w)+((ka8 x1 w)+(ka4 x2))).toNat 0
abbrev kac(x2:Nat×List Int×Nat×List Int):=x2.2.2.2.getD (x2.2.1.getD (x2.2.2.1+0) 0).toNat 0
abbrev ka1(x2:Nat×List Int×Nat×List Int)(x1:List Int×Nat×List Int)(w h:Int)(a:List Bool)(f:Int):Prop:=(nI (IntKind.wrap .i64 (((x2.1:Nat):Int)+1)):Value)=nI (((x2.1:Nat):Int)+1)/\(∃x2':Nat×List Int×Nat×List Int,(x2'.1<=4/\x2'.2.2.1<List.length x2'.2.1/\List.getD x2'.2.1 x2'.2.2.1 0=List.getD x1.1 x1.2.1 0/\BfJ w h a f (x1.1.getD x1.2.1 0) x2'.1 (x2'.2.1.drop (x2'.2.2.1+1)) x2'.2.2.2/\gA (x2'.2.1.drop (x2'.2.2.1+1)) x2'.2.2.2<=gA (x1.1.drop (x1.2.1+1)) x1.2.2)/\(4-x2'.1)<(4-x2.1)/\true=true/\((nI (((x2.1:Nat):Int)+1):Value)=nI ((x2'.1:Nat):Int)/\(.slice (some ⟨5,x2.2.2.1,none⟩) (List.length x2.2.1-x2.2.2.1) (List.length x2.2.1-x2.2.2.1):Value) = .slice (some ⟨5,x2'.2.2.1,none⟩) (List.length x2'.2.1-x2'.2.2.1) (List.length x2'.2.1-x2'.2.2.1)/\ka5 a x1 w)/\((some (.cells true 1 (x2.2.2.2.flatMap ai):ab)=some (.cells true 1 (x2'.2.2.2.flatMap ai):ab)/\aj 5 (.cells true 1 (x2'.2.2.2.flatMap ai):ab)=true)/\True/\True)/\((some (.cells true 1 (x2.2.1.flatMap ai):ab)=some (.cells true 1 (x2'.2.1.flatMap ai):ab)/\aj 5 (.cells true 1 (x2'.2.1.flatMap ai):ab)=true)/\True)/\(True))
def yg(w h:Int)(a:List Bool)(f:Int):Prop :=
 (((0:Int)<=(kad a)/\((kad a):Int)<=(kad a)/\((kad a):Int)<2 ^ 62/\8*((kad a):Int)<=2 ^ 48)/\(true=true/\(0<=a.length)/\(true=true/\((nI 0:Value)=nI ((0:Nat):Int)/\ka7 f a)/\((some (.cells true 1 (dX [nI 0] a.length):ab)=some (.cells true 1 ((fL a.length 0).flatMap ai):ab)/\aj 3 (.cells true 1 ((fL a.length 0).flatMap ai):ab)=true)/\True)/\(True)/\True)/\(∀J:Nat,true=true)/\∀J:Nat,(J<=a.length)->(((decide (((J:Int):Int)<(kad a)))=true->(((0:Int)<=(J:Int)/\((J:Int):Int)<(kad a))/\((0+Int.toNat (J:Int)*1)+1<=List.length ((fL a.length J).flatMap ai))/\true=true/\((nI (IntKind.wrap .i64 ((J:Int)+1)):Value)=nI ((J:Int)+1)/\∃aD:Nat,(aD<=a.length)/\(a.length-aD)<(a.length-J)/\true=true/\((nI ((J:Int)+1):Value)=nI (aD:Int)/\ka7 f a)/\((some (.cells true 1 (bE ((fL a.length J).flatMap ai) (0+Int.toNat (J:Int)*1) [nI 1073741824]):ab)=some (.cells true 1 ((fL a.length aD).flatMap ai):ab)/\aj 3 (.cells true 1 ((fL a.length aD).flatMap ai):ab)=true)/\True)/\(True)/\True)))/\((decide (((J:Int):Int)<(kad a)))=false->(((0:Int)<=f/\(f:Int)<(kad a))/\((0+Int.toNat f*1)+1<=List.length ((fL a.length J).flatMap ai))/\true=true/\(true=true/\(([f],0,gN a.length f).2.1<=List.length ([f],0,gN a.length f).1/\BfD w h a f (List.drop ([f],0,gN a.length f).2.1 ([f],0,gN a.length f).1) ([f],0,gN a.length f).2.2)/\(true=true/\((.slice (some ⟨3,0,none⟩) 1 1:Value) = .slice (some ⟨3,([f],0,gN a.length f).2.1,none⟩) (List.length ([f],0,gN a.length f).1-([f],0,gN a.length f).2.1) (List.length ([f],0,gN a.length f).1-([f],0,gN a.length f).2.1)/\kaa a)/\((some (.cells true 1 (bE ((fL a.length J).flatMap ai) (0+Int.toNat f*1) [nI 0]):ab)=some (.cells true 1 (List.flatMap ai ([f],0,gN a.length f).2.2):ab)/\aj 4 (.cells true 1 (List.flatMap ai ([f],0,gN a.length f).2.2):ab)=true)/\True/\True)/\((some (.cells true 1 [nI f]:ab)=some (.cells true 1 (List.flatMap ai ([f],0,gN a.length f).1):ab)/\aj 4 (.cells true 1 (List.flatMap ai ([f],0,gN a.length f).1):ab)=true)/\True)/\True)/\(∀x1:List Int×Nat×List Int,true=true)/\∀x1:List Int×Nat×List Int,(x1.2.1<=List.length x1.1/\BfD w h a f (x1.1.drop x1.2.1) x1.2.2)->(((decide ((0:Int)<(kaj x1)))=true->(((0:Int)<=0/\(0:Int)<(kaj x1))/\((x1.1.flatMap ai)[(x1.2.1+0*1)]?=some (nI (ka2 x1)))/\((w:Int)≠0)/\((0:Int)<=0/\(0:Int)<(kaj x1))/\((x1.1.flatMap ai)[(x1.2.1+0*1)]?=some (nI (ka2 x1)))/\((w:Int)≠0)/\(nI (IntKind.wrap .i64 (ka6 x1 w)):Value)=nI (ka6 x1 w)/\(true=true/\((0,x1.1,x1.2.1,x1.2.2).1<=4/\(0,x1.1,x1.2.1,x1.2.2).2.2.1<List.length (0,x1.1,x1.2.1,x1.2.2).2.1/\List.getD (0,x1.1,x1.2.1,x1.2.2).2.1 (0,x1.1,x1.2.1,x1.2.2).2.2.1 0=List.getD x1.1 x1.2.1 0/\BfJ w h a f (x1.1.getD x1.2.1 0) (0,x1.1,x1.2.1,x1.2.2).1 (List.drop ((0,x1.1,x1.2.1,x1.2.2).2.2.1+1) (0,x1.1,x1.2.1,x1.2.2).2.1) (0,x1.1,x1.2.1,x1.2.2).2.2.2/\gA (List.drop ((0,x1.1,x1.2.1,x1.2.2).2.2.1+1) (0,x1.1,x1.2.1,x1.2.2).2.1) (0,x1.1,x1.2.1,x1.2.2).2.2.2<=gA (x1.1.drop (x1.2.1+1)) x1.2.2)/\(true=true/\((nI 0:Value)=nI (((0,x1.1,x1.2.1,x1.2.2).1:Nat):Int)/\(.slice (some ⟨4,x1.2.1,none⟩) (List.length x1.1-x1.2.1) (List.length x1.1-x1.2.1):Value) = .slice (some ⟨4,(0,x1.1,x1.2.1,x1.2.2).2.2.1,none⟩) (List.length (0,x1.1,x1.2.1,x1.2.2).2.1-(0,x1.1,x1.2.1,x1.2.2).2.2.1) (List.length (0,x1.1,x1.2.1,x1.2.2).2.1-(0,x1.1,x1.2.1,x1.2.2).2.2.1)/\ka5 a x1 w)/\((some (.cells true 1 (x1.2.2.flatMap ai):ab)=some (.cells true 1 (List.flatMap ai (0,x1.1,x1.2.1,x1.2.2).2.2.2):ab)/\aj 5 (.cells true 1 (List.flatMap ai (0,x1.1,x1.2.1,x1.2.2).2.2.2):ab)=true)/\True/\True)/\((some (.cells true 1 (x1.1.flatMap ai):ab)=some (.cells true 1 (List.flatMap ai (0,x1.1,x1.2.1,x1.2.2).2.1):ab)/\aj 5 (.cells true 1 (List.flatMap ai (0,x1.1,x1.2.1,x1.2.2).2.1):ab)=true)/\True)/\True)/\(∀x2:Nat×List Int×Nat×List Int,true=true)/\∀x2:Nat×List Int×Nat×List Int,(kae x2 x1 w h a f)->(((decide ((((x2.1:Nat):Int):Int)<4))=true->((ia prog 271 (.agg #[nI 0,nI (-1),nI (-1),nI 0,nI 1,nI 0,nI 0,nI 1]) (nI ((x2.1:Nat):Int))=some (.agg #[nI (ka4 x2),nI (ka3 x2)]))/\(nI (IntKind.wrap .i64 ((ka8 x1 w)+(ka4 x2))):Value)=nI ((ka8 x1 w)+(ka4 x2))/\(nI (IntKind.wrap .i64 ((ka6 x1 w)+(ka3 x2))):Value)=nI ((ka6 x1 w)+(ka3 x2))/\(nI (IntKind.wrap .i64 (((ka6 x1 w)+(ka3 x2))*w)):Value)=nI (((ka6 x1 w)+(ka3 x2))*w)/\(nI (IntKind.wrap .i64 ((((ka6 x1 w)+(ka3 x2))*w)+((ka8 x1 w)+(ka4 x2)))):Value)=nI ((((ka6 x1 w)+(ka3 x2))*w)+((ka8 x1 w)+(ka4 x2)))/\(nI (IntKind.wrap .i64 (w-1)):Value)=nI (w-1)/\((decide ((0:Int)<=((ka8 x1 w)+(ka4 x2))))=true->(((decide ((((ka8 x1 w)+(ka4 x2)):Int)<=(w-1)))=true->((nI (IntKind.wrap .i64 (h-1)):Value)=nI (h-1)/\((decide ((0:Int)<=((ka6 x1 w)+(ka3 x2))))=true->(((decide ((((ka6 x1 w)+(ka3 x2)):Int)<=(h-1)))=true->((kab x1 w x2 a)/\((a.flatMap af)[(0+Int.toNat ((((ka6 x1 w)+(ka3 x2))*w)+((ka8 x1 w)+(ka4 x2)))*1)]?=some (.bool (kag a x1 w x2)))/\((!(kag a x1 w x2))=true->((kab x1 w x2 a)/\((x2.2.2.2.flatMap ai)[(0+Int.toNat ((((ka6 x1 w)+(ka3 x2))*w)+((ka8 x1 w)+(ka4 x2)))*1)]?=some (nI (kaf x2 x1 w)))/\((((kaf x2 x1 w):Int) == 1073741824)=true->(((0:Int)<=0/\(0:Int)<(((List.length x2.2.1-x2.2.2.1):Nat):Int))/\((x2.2.1.flatMap ai)[(x2.2.2.1+0*1)]?=some (nI (x2.2.1.getD (x2.2.2.1+0) 0)))/\((0:Int)<=(x2.2.1.getD (x2.2.2.1+0) 0)/\((x2.2.1.getD (x2.2.2.1+0) 0):Int)<(kad a))/\((x2.2.2.2.flatMap ai)[(0+Int.toNat (x2.2.1.getD (x2.2.2.1+0) 0)*1)]?=some (nI (kac x2)))/\(nI (IntKind.wrap .i64 ((kac x2)+1)):Value)=nI ((kac x2)+1)/\(kab x1 w x2 a)/\((0+Int.toNat ((((ka6 x1 w)+(ka3 x2))*w)+((ka8 x1 w)+(ka4 x2)))*1)+1<=List.length (x2.2.2.2.flatMap ai))/\true=true/\(((List.length x2.2.1-x2.2.2.1)+1)*8<=2 ^ 44/\1≠0/\((List.length x2.2.1-x2.2.2.1)<=(List.length x2.2.1-x2.2.2.1)/\x2.2.2.1+(List.length x2.2.1-x2.2.2.1)*1<=List.length (x2.2.1.flatMap ai))/\(1<=1/\0+1*1<=List.length ([nI ((((ka6 x1 w)+(ka3 x2))*w)+((ka8 x1 w)+(ka4 x2)))]:List Value))/\(((([nI ((((ka6 x1 w)+(ka3 x2))*w)+((ka8 x1 w)+(ka4 x2)))]:List Value).drop 0).take (1*1)):List Value).all (fun v=>cO v)=true)/\true=true/\((nI (IntKind.wrap .i64 (((x2.1:Nat):Int)+1)):Value)=nI (((x2.1:Nat):Int)+1)/\∃x2':Nat×List Int×Nat×List Int,(x2'.1<=4/\x2'.2.2.1<List.length x2'.2.1/\List.getD x2'.2.1 x2'.2.2.1 0=List.getD x1.1 x1.2.1 0/\BfJ w h a f (x1.1.getD x1.2.1 0) x2'.1 (x2'.2.1.drop (x2'.2.2.1+1)) x2'.2.2.2/\gA (x2'.2.1.drop (x2'.2.2.1+1)) x2'.2.2.2<=gA (x1.1.drop (x1.2.1+1)) x1.2.2)/\(4-x2'.1)<(4-x2.1)/\true=true/\((nI (((x2.1:Nat):Int)+1):Value)=nI ((x2'.1:Nat):Int)/\(.slice (some ⟨8,0,none⟩) ((List.length x2.2.1-x2.2.2.1)+1) ((List.length x2.2.1-x2.2.2.1)+1):Value) = .slice (some ⟨8,x2'.2.2.1,none⟩) (List.length x2'.2.1-x2'.2.2.1) (List.length x2'.2.1-x2'.2.2.1)/\ka5 a x1 w)/\((some (.cells true 1 (bE (x2.2.2.2.flatMap ai) (0+Int.toNat ((((ka6 x1 w)+(ka3 x2))*w)+((ka8 x1 w)+(ka4 x2)))*1) [nI ((kac x2)+1)]):ab)=some (.cells true 1 (x2'.2.2.2.flatMap ai):ab)/\aj 5 (.cells true 1 (x2'.2.2.2.flatMap ai):ab)=true)/\True/\True)/\((some (.cells true 1 ((((x2.2.1.flatMap ai).drop x2.2.2.1).take ((List.length x2.2.1-x2.2.2.1)*1))++((([nI ((((ka6 x1 w)+(ka3 x2))*w)+((ka8 x1 w)+(ka4 x2)))]:List Value).drop 0).take (1*1))):ab)=some (.cells true 1 (x2'.2.1.flatMap ai):ab)/\aj 5 (.cells true 1 (x2'.2.1.flatMap ai):ab)=true)/\True)/\True)))/\((((kaf x2 x1 w):Int) == 1073741824)=false->(ka1 x2 x1 w h a f))))/\((!(kag a x1 w x2))=false->(ka1 x2 x1 w h a f))))/\((decide ((((ka6 x1 w)+(ka3 x2)):Int)<=(h-1)))=false->(ka1 x2 x1 w h a f))))/\((decide ((0:Int)<=((ka6 x1 w)+(ka3 x2))))=false->(ka1 x2 x1 w h a f))))/\((decide ((((ka8 x1 w)+(ka4 x2)):Int)<=(w-1)))=false->(ka1 x2 x1 w h a f))))/\((decide ((0:Int)<=((ka8 x1 w)+(ka4 x2))))=false->(ka1 x2 x1 w h a f))))/\((decide ((((x2.1:Nat):Int):Int)<4))=false->(((true=false∨1=0∨1=1)/\((List.length x2.2.1-x2.2.2.1)<=(List.length x2.2.1-x2.2.2.1))/\(0:Int)<=1/\(1:Int)<=(((List.length x2.2.1-x2.2.2.1):Nat):Int))/\∃x1':List Int×Nat×List Int,(x1'.2.1<=List.length x1'.1/\BfD w h a f (x1'.1.drop x1'.2.1) x1'.2.2)/\(gA (x1'.1.drop x1'.2.1) x1'.2.2)<(gA (x1.1.drop x1.2.1) x1.2.2)/\true=true/\((.slice (some ⟨5,(x2.2.2.1+1*1),none⟩) ((List.length x2.2.1-x2.2.2.1)-1) ((List.length x2.2.1-x2.2.2.1)-1):Value) = .slice (some ⟨5,x1'.2.1,none⟩) (List.length x1'.1-x1'.2.1) (List.length x1'.1-x1'.2.1)/\kaa a)/\((some (.cells true 1 (x2.2.2.2.flatMap ai):ab)=some (.cells true 1 (x1'.2.2.flatMap ai):ab)/\aj 4 (.cells true 1 (x1'.2.2.flatMap ai):ab)=true)/\True/\True)/\((some (.cells true 1 (x2.2.1.flatMap ai):ab)=some (.cells true 1 (x1'.1.flatMap ai):ab)/\aj 4 (.cells true 1 (x1'.1.flatMap ai):ab)=true)/\True)/\True))))))/\((decide ((0:Int)<(kaj x1)))=false->(true=true/\wk (.slice (some ⟨2,0,none⟩) a.length a.length:Value) (rn (sg 1 [(1,2)]) 3 (slQ 1 1 (cw w h a f).length:Value))/\(some (.cells true 1 (x1.2.2.flatMap ai):ab)=some (.cells true 1 ((cw w h a f).flatMap ai):ab)/\aj 1 (.cells true 1 ((cw w h a f).flatMap ai):ab)=true)/\True)))))))))
abbrev kai:Nat×Value:=(2,.pointer (some ⟨1,0,none⟩))
abbrev kah(a:List Bool):Nat×Value:=(5,.slice (some ⟨2,0,none⟩) a.length a.length)
abbrev ka9(x2:Nat×List Int×Nat×List Int):Hint:=.slot 113 (nI (((x2.1:Nat):Int)+1)) (.go 0 (.again [(5,5)]))
theorem J1(w h:Int)(a:List Bool)(f:Int):vF prog msk (dm 0) 100000 true 40 true 114 [.agg #[nI w,nI h,slQ 0 2 a.length],nI f] (bA 0 [a.flatMap af]) (some [])
 (.go 4 (.need (.go 3 (.inv 3 (Nat) (0) [] [2] (fun J=>[(21,nI (J:Int)),(1,nI f),kai,(4,.slice none 0 0),(kah a),(20,nI (kad a))]) (fun J=>[(2,true,.cells true 1 ((fL a.length J).flatMap ai))]) (fun J=>[]) (fun J=>[]) (fun J=>(J<=a.length)) (fun J=>(a.length-J)) (fun J => .go 0 (.fork (.go 3 (.need (.need (.go 0 (.slot 27 (nI ((J:Int)+1)) (.go 0 (.again []))))))) (.go 1 (.need (.need (.go 2 (.inv 3 (List Int×Nat×List Int) (([f],0,gN a.length f)) [(4,3)] [2,3] (fun x1=>[(7,.slice (some ⟨4,x1.2.1,none⟩) (List.length x1.1-x1.2.1) (List.length x1.1-x1.2.1)),(kah a),(4,.slice none 0 0),kai]) (fun x1=>[(2,true,.cells true 1 (x1.2.2.flatMap ai)),(3,false,.dead)]) (fun x1=>[(true,.cells true 1 (x1.1.flatMap ai))]) (fun x1=>[]) (fun x1=>(x1.2.1<=List.length x1.1/\BfD w h a f (x1.1.drop x1.2.1) x1.2.2)) (fun x1=>(gA (x1.1.drop x1.2.1) x1.2.2)) (fun x1 => .go 2 (.fork (.go 0 (.need (.val (nI (ka2 x1)) (.go 1 (.need (.go 0 (.need (.val (nI (ka2 x1)) (.go 1 (.need (.slot 49 (nI (ka6 x1 w)) (.go 7 (.inv 3 (Nat×List Int×Nat×List Int) ((0,x1.1,x1.2.1,x1.2.2)) [(5,4)] [2,4] (fun x2=>[(55,nI ((x2.1:Nat):Int)),(7,.slice (some ⟨5,x2.2.2.1,none⟩) (List.length x2.2.1-x2.2.2.1) (List.length x2.2.1-x2.2.2.1)),kai,(4,.slice none 0 0),(kah a),(8,nI (ka8 x1 w)),(9,nI (ka6 x1 w)),(54,.agg #[nI 0,nI (-1),nI (-1),nI 0,nI 1,nI 0,nI 0,nI 1])]) (fun x2=>[(2,true,.cells true 1 (x2.2.2.2.flatMap ai)),(4,false,.dead)]) (fun x2=>[(true,.cells true 1 (x2.2.1.flatMap ai))]) (fun x2=>[]) (fun x2=>(kae x2 x1 w h a f)) (fun x2=>(4-x2.1)) (fun x2 => .go 0 (.fork (.val (.agg #[nI (ka4 x2),nI (ka3 x2)]) (.go 5 (.slot 61 (nI ((ka8 x1 w)+(ka4 x2))) (.go 3 (.slot 65 (nI ((ka6 x1 w)+(ka3 x2))) (.go 5 (.slot 69 (nI (((ka6 x1 w)+(ka3 x2))*w)) (.go 1 (.slot 71 (nI ((((ka6 x1 w)+(ka3 x2))*w)+((ka8 x1 w)+(ka4 x2)))) (.go 4 (.slot 75 (nI (w-1)) (.go 5 (.aT (.go 5 (.aT (.go 3 (.slot 81 (nI (h-1)) (.go 5 (.aT (.go 6 (.aT (.go 2 (.need (.val (.bool (kag a x1 w x2)) (.go 2 (.aT (.go 1 (.need (.val (nI (kaf x2 x1 w)) (.go 1 (.fork (.go 3 (.need (.val (nI (x2.2.1.getD (x2.2.2.1+0) 0)) (.need (.val (nI (kac x2)) (.go 0 (.slot 107 (nI ((kac x2)+1)) (.need (.need (.go 2 (.need (.go 1 (.slot 113 (nI (((x2.1:Nat):Int)+1)) (.go 0 (.again [(5,8)]))))))))))))))) (.go 0 (ka9 x2))))))) (.go 2 (ka9 x2))))))) (.go 4 (ka9 x2)))) (.go 8 (ka9 x2)))))) (.go 6 (ka9 x2)))) (.go 9 (ka9 x2))))))))))))))) (.go 0 (.need (.go 0 (.again [(4,5)]))))))))))))))))))) (.go 1 (.again [(1,2)])))))))))))))))
 (ca ((bA 0 [a.flatMap af]):HT).n 3 (slQ 1 1 (cw w h a f).length) [(true,.cells true 1 ((cw w h a f).flatMap ai))])=yg w h a f:=by kernel_rfl
theorem kix{j:Nat}(h:j<4):ia prog 271 (.agg #[nI 0,nI (-1),nI (-1),nI 0,nI 1,nI 0,nI 0,nI 1]) (nI ((j:Nat):Int))=some (.agg #[nI (List.getD [0,(-1),1,0] j 0),nI (List.getD [(-1),0,0,1] j 0)]):=by
 have:j=0∨j=1∨j=2∨j=3:=by omega
 rcases this with rfl|rfl|rfl|rfl
 ·exact (by kernel_rfl:ia prog 271 (.agg #[nI 0,nI (-1),nI (-1),nI 0,nI 1,nI 0,nI 0,nI 1]) (nI 0)=some (.agg #[nI 0,nI (-1)]))
 ·exact (by kernel_rfl:ia prog 271 (.agg #[nI 0,nI (-1),nI (-1),nI 0,nI 1,nI 0,nI 0,nI 1]) (nI 1)=some (.agg #[nI (-1),nI 0]))
 ·exact (by kernel_rfl:ia prog 271 (.agg #[nI 0,nI (-1),nI (-1),nI 0,nI 1,nI 0,nI 0,nI 1]) (nI 2)=some (.agg #[nI 1,nI 0]))
 ·exact (by kernel_rfl:ia prog 271 (.agg #[nI 0,nI (-1),nI (-1),nI 0,nI 1,nI 0,nI 0,nI 1]) (nI 3)=some (.agg #[nI 0,nI 1]))
theorem AG{C:List Int}{o:Nat}(ho:o<=C.length)(t:Int):List.take ((C.length-o)*1) (List.drop o (C.flatMap ai))++List.take (1*1) (List.drop 0 ([nI t]:List Value))=(C.drop o ++ [t]).flatMap ai:=by
 rw[xQ,Nat.mul_one,List.take_of_length_le (by rw[aP bg,List.length_drop];omega),List.flatMap_append];rfl
theorem HU{xs ys:List Int}{k off:Nat}{v:Int}(hk:k<xs.length)(ho:off=k)(e:xs.set k v=ys):(some (ab.cells true 1 (bE (xs.flatMap ai) off [.int .i64 v])):Option ab)=some (.cells true 1 (ys.flatMap ai)):=by
 subst ho;subst e
 have:=fw bg xs off hk v
 rw[Nat.mul_one]at this
 rw[this]
theorem Gl(n:Nat):fL n 0=List.replicate n 0:=by unfold fL;simp
theorem Gk(n:Nat):fL n n=List.replicate n bb:=by unfold fL;simp
theorem sD{n x:Nat}(h:x<=n):(fL n x).length=n:=by unfold fL;rw[ao,List.length_replicate,List.length_replicate];omega
theorem Kz{w h v:Int}(hw:1<=w/\w<=64)(hh:1<=h/\h<=64)(hv : -1<=v/\v<=h) : -64<=v*w/\v*w<=4096:=by
 have h1:v*w<=h*w:=Int.mul_le_mul_of_nonneg_right hv.2 (by omega)
 have h2 : -1*w<=v*w:=Int.mul_le_mul_of_nonneg_right hv.1 (by omega)
 have h3:=Cr hh hw
 omega
theorem slO{id o o' n m:Nat}(h1:o=o')(h:n=m):(Value.slice (some ⟨id,o,none⟩) n n) = .slice (some ⟨id,o',none⟩) m m:=by rw[h1,h]
theorem mQ(n:Nat)(l:List Int):aj n (.cells true 1 (l.flatMap ai))=true:=am n l
set_option maxHeartbeats 2000000 in
theorem F0{f:Int}(b:cM w h a.length)(hf:0<=f/\f<(a.length:Int)):yg w h a f:=by
 have hn:=b.n1
 have hp:=b.p1
 have hw:=b.w1
 have hh:=b.h1
 have hsm:(a.length:Int)<=1024:=by omega
 delta yg kad ka7 kaa kaj ka2 ka6 ka8 ka0 ka5 kae ka4 ka3 kab kag kaf kac ka1
 refine ⟨⟨by omega,by omega,by omega,by omega⟩,rfl,Nat.zero_le _,?_,fun _=>rfl,fun x hx=>⟨fun k =>?_,fun k =>?_⟩⟩
 ·rw[pf,Gl]
  repeat' first|exact mQ _ _|exact rfl|exact ac|apply And.intro
 ·have h1:x<a.length:=by have:=av k;omega
  have hl:=sD hx
  refine ⟨⟨by omega,by omega⟩,by rw[aP bg,hl];omega,rfl,aG (by omega),x+1,by omega,by omega,rfl,?_⟩
  repeat' first|(exact HU (by omega) (by omega) (Bi h1))|exact mQ _ _|exact rfl|exact ac|apply And.intro
 ·have h1:x=a.length:=by have:=aA k;omega
  have hl:=sD hx
  rw[h1]at hl ⊢
  refine ⟨hf,by rw[aP bg,hl];omega,rfl,rfl,⟨Nat.zero_le _,Gw hf⟩,?_,fun _=>rfl,?_⟩
  ·repeat' first|(exact HU (k:=Int.toNat f) (by omega) (by omega) (by rw[Gk];rfl))|exact mQ _ _|exact rfl|exact ac|apply And.intro
  rintro ⟨C,p,O⟩ ⟨ho,hb⟩
  dsimp only at ho hb ⊢
  have hOL:=hb.len
  rw[Nat.add_zero,Nat.zero_mul,Nat.add_zero]
  refine ⟨fun kq =>?_,fun kq =>?_⟩
  ·have hlt:p<C.length:=by have:=av kq;omega
   have hdr:=qr hlt
   have hb2:=hb
   rw[hdr]at hb2
   have hbi:=(hb2.q _ (List.mem_cons_self ..)).1
   have hJ:=hb2.pop
   generalize hi:C.getD p 0=i at *
   obtain ⟨d1,d2,d3⟩:=Bk b hbi
   refine ⟨⟨by omega,by omega⟩,by rw[<- hi];exact cL hlt rfl,by omega,⟨by omega,by omega⟩,by rw[<- hi];exact cL hlt rfl,by omega,aG (by omega),rfl,⟨Nat.zero_le _,hlt,rfl,hJ,Nat.le_refl _⟩,?_,fun _=>rfl,?_⟩
   ·repeat' first|exact mQ _ _|exact rfl|exact ac|apply And.intro
   rintro ⟨j,C2,p2,O2⟩ ⟨hj4,ho2,hi2,hbj,hme⟩
   dsimp only at hj4 ho2 hi2 hbj hme ⊢
   have M2:=hbj.len
   have hsz:=hbj.sz
   rw[List.length_drop]at hsz
   refine ⟨fun kj =>?_,fun kj =>?_⟩
   ·have hj5:j<4:=by have:=av kj;omega
    obtain ⟨x1,x2⟩:=Ly hj5
    have hvw:=Kz hw hh (v:=nbV w i j) (by unfold nbV;omega)
    have hsk:(iS w h a i j->gO O2 (nbT w i j)≠bb)->(j+1<=4/\p2<C2.length/\C2.getD p2 0=i/\BfJ w h a f i (j+1) (C2.drop (p2+1)) O2/\gA (C2.drop (p2+1)) O2<=gA (C.drop (p+1)) O):=fun hs=>⟨by omega,ho2,hi2,hbj.skip hs (fun q=>vn b q.1.1 q.1.2),hme⟩
    have eU:Int.tmod i w+List.getD [0,(-1),1,0] j 0=nbU w i j:=rfl
    have eV:Int.tdiv i w+List.getD [(-1),0,0,1] j 0=nbV w i j:=rfl
    have bu : -1<=nbU w i j/\nbU w i j<=64:=by unfold nbU;omega
    have bv : -1<=nbV w i j/\nbV w i j<=64:=by unfold nbV;omega
    rw[eU,eV]
    have eT:nbV w i j*w+nbU w i j=nbT w i j:=rfl
    refine ⟨kix hj5,aG (by omega),aG (by omega),aG (by omega),aG (by omega),aG (by omega),fun u1=>⟨fun u2=>⟨aG (by omega),fun v1=>⟨fun v2 =>?_,fun v2 =>?_⟩,fun v1 =>?_⟩,fun u2 =>?_⟩,fun u1 =>?_⟩
    ·have hu:0<=nbU w i j/\nbU w i j<=w-1:=⟨av u1,av u2⟩
     have hv:0<=nbV w i j/\nbV w i j<=h-1:=⟨av v1,av v2⟩
     have hin:=vn b hu hv
     rw[eT]at hin ⊢
     refine ⟨hin,ip (by omega) (by omega),fun l1=>⟨hin,cL (by omega) (by omega),fun g1 =>?_,fun g1 =>?_⟩,fun l1 =>?_⟩
     ·have hg1:gO O2 (nbT w i j)=bb:=eq_of_beq g1
      have hnb:iS w h a i j:=⟨⟨hu,hv⟩,ff l1⟩
      have hii:=hbj.ii
      have hcn:=hbj.cnt (Int.toNat i) (by omega) hii.2
      have hfu:=uc O2
      have hbd:=hbj.bd (Int.toNat i) (by omega) hii.2
      have hadd:=hbj.add hj5 hnb hin hg1 hsm
      have hd2:C2.drop p2=i :: C2.drop (p2+1):=by rw[qr ho2,hi2]
      have hgi:gO O2 i=O2.getD (Int.toNat i) 0:=rfl
      have hsc:=s6 (O:=O2) (k:=Int.toNat (nbT w i j)) (v:=gO O2 i+1) (by omega) hg1 (by rw[hgi];unfold bb;omega)
      rw[Nat.add_zero,hi2]
      refine ⟨⟨by omega,by omega⟩,by rw[<- hi2];exact cL ho2 rfl,hbi,cL (by omega) (by omega),aG (by omega),hin,by rw[aP bg];omega,rfl,⟨by omega,by decide,⟨Nat.le_refl _,by rw[aP bg];omega⟩,⟨Nat.le_refl _,by simp⟩,rfl⟩,rfl,aG (by omega),(j+1,C2.drop p2 ++ [nbT w i j],0,O2.set (Int.toNat (nbT w i j)) (gO O2 i+1)),⟨by dsimp only;omega,by dsimp only;rw[ao];simp,by dsimp only;rw[hd2];rfl,?_,?_⟩,by dsimp only;omega,rfl,?_⟩
      ·dsimp only
       rw[hd2]
       exact hadd
      ·dsimp only
       rw[hd2]
       refine Nat.le_trans ?_ hme
       show gA (C2.drop (p2+1) ++ [nbT w i j]) _<=_
       unfold gA
       rw[ao,aV];omega
      ·rw[AG (by omega)]
       repeat' first|(exact HU (by omega) (by omega) rfl)|exact mQ _ _|(exact slO rfl (by dsimp only;rw[ao,List.length_drop,aV];omega))|exact rfl|exact ac|apply And.intro
     ·have hg1:gO O2 (nbT w i j)≠bb:=fun q=>by
       have q2:O2.getD (Int.toNat (nbT w i j)) 0=1073741824:=q
       rw[q2]at g1;cases g1
      refine ⟨aG (by omega),(j+1,C2,p2,O2),hsk (fun _=>hg1),by dsimp only;omega,rfl,?_⟩
      repeat' first|exact mQ _ _|exact rfl|exact ac|apply And.intro
     ·refine ⟨aG (by omega),(j+1,C2,p2,O2),hsk (fun q=>by have:=q.2;rw[this]at l1;cases l1),by dsimp only;omega,rfl,?_⟩
      repeat' first|exact mQ _ _|exact rfl|exact ac|apply And.intro
    ·refine ⟨aG (by omega),(j+1,C2,p2,O2),hsk (fun q=>absurd q.1.2.2 (aA v2)),by dsimp only;omega,rfl,?_⟩
     repeat' first|exact mQ _ _|exact rfl|exact ac|apply And.intro
    ·refine ⟨aG (by omega),(j+1,C2,p2,O2),hsk (fun q=>absurd q.1.2.1 (aA v1)),by dsimp only;omega,rfl,?_⟩
     repeat' first|exact mQ _ _|exact rfl|exact ac|apply And.intro
    ·refine ⟨aG (by omega),(j+1,C2,p2,O2),hsk (fun q=>absurd q.1.1.2 (aA u2)),by dsimp only;omega,rfl,?_⟩
     repeat' first|exact mQ _ _|exact rfl|exact ac|apply And.intro
    ·refine ⟨aG (by omega),(j+1,C2,p2,O2),hsk (fun q=>absurd q.1.1.1 (aA u1)),by dsimp only;omega,rfl,?_⟩
     repeat' first|exact mQ _ _|exact rfl|exact ac|apply And.intro
   ·have hj:j=4:=by have:=aA kj;omega
    subst hj
    refine ⟨⟨.inr (.inr rfl),Nat.le_refl _,by omega,by omega⟩,(C2,p2+1,O2),⟨by dsimp only;omega,hbj.fin⟩,?_,rfl,?_⟩
    ·dsimp only
     rw[hdr]
     refine Nat.lt_of_le_of_lt hme ?_
     unfold gA
     rw[List.length_cons];omega
    ·repeat' first|exact mQ _ _|(exact slO (by omega) (by omega))|exact rfl|exact ac|apply And.intro
  ·have hq:C.drop p=[]:=List.drop_eq_nil_of_le (by have:=aA kq;omega)
   rw[hq]at hb
   have hE:=hb.eq b hf
   have hlE:(cw w h a f).length=a.length:=by unfold cw;exact dC ..
   rw[hE]
   refine ⟨rfl,Ku hlE (by omega),⟨rfl,mQ _ _⟩,trivial⟩
theorem De{f:Int}(b:cM w h a.length)(hf:0<=f/\f<(a.length:Int)){id:Nat}{own:Bool}{z:Nat}(hid:H[id]?=some (.cells own z (a.flatMap af))) :
  ad prog 114 [JO w h id a.length,.int .i64 f] H [] (Is (.slice (some ⟨H.length,0,some 1⟩) (cw w h a f).length (cw w h a f).length) (H ++ [.cells true 1 ((cw w h a f).flatMap ai)])) :=
 HF (fun j => .slice (some ⟨j,0,some 1⟩) (cw w h a f).length (cw w h a f).length) (Eq.mpr (J1 w h a f) (F0 b hf)) (az _ _) (fun n=>am n _) rfl rfl (fun _=>rfl) hid rfl
abbrev kb4(o1:Bool)(z1:Nat)(a:List Bool)(o2:Bool)(z2:Nat)(ss:List (Int×Int))(w h p:Int):Prop:=∀H':Heap,H'.length=3->(H'[0]?=some (.cells o1 z1 (a.flatMap af):ab)/\H'[1]?=some (.cells o2 z2 (ss.flatMap spC):ab)/\True)->ad prog 41 [.agg #[nI w,nI h,slQ 0 2 a.length,nI p,slQ 1 2 ss.length]] H' [] (Is (nI (aB w h a p ss)) H')
abbrev kb6:Value:=.tuple #[.pointer (some ⟨2,0,none⟩),nI 0]
abbrev kb2(ss:List (Int×Int))(w h:Int)(a:List Bool)(p:Int):Prop:=true=true/\((nI 0:Value)=nI ((0:Nat):Int)/\(.pointer none:Value) = .pointer none/\(nI 0:Value)=nI 0/\(.pointer (some ⟨3,0,none⟩):Value) = .pointer (some ⟨3,0,none⟩)/\wkR (slQ 1 2 ss.length)/\(nI ((ss.length:Nat):Int):Value)=nI ((ss.length:Nat):Int)/\True)/\(wkO (.cells true 0 [nI w,nI h,slQ 0 2 a.length,nI p,slQ 1 2 ss.length,.slice none 0 0]:ab) (rno (sg 4 []) 3 (.cells true 0 [nI w,nI h,slQ 0 2 a.length,nI p,slQ 1 2 ss.length,slQ 4 1 (aC w h a ss 0).length]:ab))/\True)/\(True/\True)/\(True)
abbrev kb1(J:Nat)(ss:List (Int×Int))(o1:Bool)(z1:Nat)(a:List Bool)(w h p:Int):Prop:=(decide (((J:Int):Int)<((ss.length:Nat):Int)))=true->(((0:Int)<=(J:Int)/\((J:Int):Int)<((ss.length:Nat):Int))/\((fJ 2 (ss.flatMap spC) (0+Int.toNat (J:Int)*2)=some (.agg #[nI (ss.getD J ae).1,nI (ss.getD J ae).2]))/\(((ar (.cells o1 z1 (a.flatMap af)))/\True)/\(∀H':Heap,H'.length=6->(H'[0]?=some (.cells o1 z1 (a.flatMap af):ab)/\True)->ad prog 114 [.agg #[nI w,nI h,slQ 0 2 a.length],nI (ss.getD J ae).2] H' [] (Is (slQ 6 1 (cw w h a (ss.getD J ae).2).length) (H' ++ [(.cells true 1 ((cw w h a (ss.getD J ae).2).flatMap ai):ab)])))/\((((aC w h a ss J).length+1)*24<=2 ^ 44/\1≠0/\((aC w h a ss J).length<=(aC w h a ss J).length/\0+(aC w h a ss J).length*1<=List.length (inL (aC w h a ss J)))/\(1<=1/\0+1*1<=List.length ([.iface ((cw w h a (ss.getD J ae).2).length+1) (.agg ⟨((cw w h a (ss.getD J ae).2).flatMap ai)⟩)]:List Value))/\(((([.iface ((cw w h a (ss.getD J ae).2).length+1) (.agg ⟨((cw w h a (ss.getD J ae).2).flatMap ai)⟩)]:List Value).drop 0).take (1*1)):List Value).all (fun v=>cO v)=true)/\true=true/\((nI (IntKind.wrap .i64 ((J:Int)+1)):Value)=nI ((J:Int)+1)/\(∃aD:Nat,(aD<=List.length ss)/\(List.length ss-aD)<(List.length ss-J)/\true=true/\((nI ((J:Int)+1):Value)=nI (aD:Int)/\(.pointer none:Value) = .pointer none/\(nI 0:Value)=nI 0/\(.pointer (some ⟨3,0,none⟩):Value) = .pointer (some ⟨3,0,none⟩)/\wkR (slQ 1 2 ss.length)/\(nI ((ss.length:Nat):Int):Value)=nI ((ss.length:Nat):Int)/\True)/\(wkO (.cells true 0 [nI w,nI h,slQ 0 2 a.length,nI p,slQ 1 2 ss.length,.slice (some ⟨8,0,none⟩) ((aC w h a ss J).length+1) ((aC w h a ss J).length+1)]:ab) (rno (sg 4 [(4,8)]) 3 (.cells true 0 [nI w,nI h,slQ 0 2 a.length,nI p,slQ 1 2 ss.length,slQ 4 1 (aC w h a ss aD).length]:ab))/\True)/\((some (.cells true 1 ((((inL (aC w h a ss J)).drop 0).take ((aC w h a ss J).length*1))++((([.iface ((cw w h a (ss.getD J ae).2).length+1) (.agg ⟨((cw w h a (ss.getD J ae).2).flatMap ai)⟩)]:List Value).drop 0).take (1*1))):ab)=some (.cells true 1 (inL (aC w h a ss aD)):ab)/\aj 4 (.cells true 1 (inL (aC w h a ss aD)):ab)=true)/\True)/\(True)))))))
abbrev kb7:Value:=.tuple #[.pointer (some ⟨3,0,none⟩),nI 0]
def yn(o1 o2:Bool)(z1 z2:Nat)(w h:Int)(a:List Bool)(p:Int)(ss:List (Int×Int)):Prop :=
 (((ar (.cells o1 z1 (a.flatMap af)))/\(ar (.cells o2 z2 (ss.flatMap spC)))/\True)/\(kb4 o1 z1 a o2 z2 ss w h p)/\((((aB w h a p ss):Int) != 0)=true->(true=true/\wk (.tuple #[.pointer none,nI (aB w h a p ss)]:Value) (rn (sg 2 []) 3 kb6)/\True/\True/\True))/\((((aB w h a p ss):Int) != 0)=false->(true=true/\(0<=List.length ss)/\(kb2 ss w h a p)/\(∀J:Nat,true=true)/\∀J:Nat,(J<=List.length ss)->((kb1 J ss o1 z1 a w h p)/\((decide (((J:Int):Int)<((ss.length:Nat):Int)))=false->(true=true/\wk kb7 (rn (sg 2 [(2,3),(3,4)]) 3 kb6)/\wkO (.cells true 0 [nI w,nI h,slQ 0 2 a.length,nI p,slQ 1 2 ss.length,slQ 4 1 (aC w h a ss J).length]:ab) (rno (sg 2 [(2,3),(3,4)]) 3 (.cells true 0 [nI w,nI h,slQ 0 2 a.length,nI p,slQ 1 2 ss.length,slQ 3 1 (aC w h a ss ss.length).length]:ab))/\(some (.cells true 1 (inL (aC w h a ss J)):ab)=some (.cells true 1 (inL (aC w h a ss ss.length)):ab)/\aj 2 (.cells true 1 (inL (aC w h a ss ss.length)):ab)=true)/\True))))))
abbrev kb5(J:Nat)(ss:List (Int×Int)):List (Nat×Value):=[(22,nI (J:Int)),(2,.pointer none),(3,nI 0),(5,.pointer (some ⟨3,0,none⟩)),(20,slQ 1 2 ss.length),(21,nI ((ss.length:Nat):Int))]
abbrev kb0(qn0:Nat):Hint:=.into (some [3,4,5,6]) (.go 5 (.frz [9] (.go 0 (.need (.go 3 (.slot 38 (nI ((qn0:Int)+1)) (.go 0 (.again [(4,8)]))))))))
abbrev kb3(ss:List (Int×Int))(J:Nat)(o1:Bool)(z1:Nat)(a:List Bool)(w h:Int):Hint:=.need (.val (.agg #[nI (ss.getD J ae).1,nI (ss.getD J ae).2]) (.go 11 (.ans [(0,.cells o1 z1 (a.flatMap af))] (slQ 6 1 (cw w h a (ss.getD J ae).2).length) [.cells true 1 ((cw w h a (ss.getD J ae).2).flatMap ai)] (kb0 J))))
theorem Ka(o1 o2:Bool)(z1 z2:Nat)(w h:Int)(a:List Bool)(p:Int)(ss:List (Int×Int)):vF prog msk (dm 0) 100000 true 40 true 72 [.agg #[nI w,nI h,slQ 0 2 a.length,nI p,slQ 1 2 ss.length]] (aW [.cells o1 z1 (a.flatMap af),.cells o2 z2 (ss.flatMap spC)]) (some [])
 (.go 3 (.ans [(0,.cells o1 z1 (a.flatMap af)),(1,.cells o2 z2 (ss.flatMap spC))] (nI (aB w h a p ss)) [] (.go 2 (.fork (.go 2 (.again [])) (.go 10 (.inv 3 (Nat) (0) [] [3] (fun J=>(kb5 J ss)) (fun J=>[(3,false,.cells true 0 [nI w,nI h,slQ 0 2 a.length,nI p,slQ 1 2 ss.length,slQ 4 1 (aC w h a ss J).length])]) (fun J=>[(true,.cells true 1 (inL (aC w h a ss J)))]) (fun J=>[]) (fun J=>(J<=List.length ss)) (fun J=>(List.length ss-J)) (fun J => .go 0 (.fork (kb3 ss J o1 z1 a w h) (.go 2 (.again [(2,3),(3,4)]))))))))))
 (ca ((aW [.cells o1 z1 (a.flatMap af),.cells o2 z2 (ss.flatMap spC)]):HT).n 3 (.tuple #[.pointer (some ⟨2,0,none⟩),nI 0]) [(false,.cells true 0 [nI w,nI h,slQ 0 2 a.length,nI p,slQ 1 2 ss.length,slQ 3 1 (aC w h a ss ss.length).length]),(true,.cells true 1 (inL (aC w h a ss ss.length)))])=yn o1 o2 z1 z2 w h a p ss:=by kernel_rfl
def ym(o1 o2:Bool)(z1 z2:Nat)(w h:Int)(a:List Bool)(p:Int)(ss:List (Int×Int)):Prop :=
 (((ar (.cells o1 z1 (a.flatMap af)))/\(ar (.cells o2 z2 (ss.flatMap spC)))/\True)/\(kb4 o1 z1 a o2 z2 ss w h p)/\((((aB w h a p ss):Int) != 0)=true->(true=true/\wk (.tuple #[.pointer none,nI (aB w h a p ss)]:Value) (rn (sg 2 []) 3 (.tuple #[.pointer none,nI (aB w h a p ss)]:Value))/\True))/\((((aB w h a p ss):Int) != 0)=false->(true=true/\(0<=List.length ss)/\(kb2 ss w h a p)/\(∀J:Nat,true=true)/\∀J:Nat,(J<=List.length ss)->((kb1 J ss o1 z1 a w h p)/\((decide (((J:Int):Int)<((ss.length:Nat):Int)))=false->(true=true/\wk kb7 (rn (sg 2 []) 3 (.tuple #[.pointer none,nI (aB w h a p ss)]:Value))/\True))))))
theorem J9(o1 o2:Bool)(z1 z2:Nat)(w h:Int)(a:List Bool)(p:Int)(ss:List (Int×Int)):vF prog msk (dm 0) 100000 true 40 true 72 [.agg #[nI w,nI h,slQ 0 2 a.length,nI p,slQ 1 2 ss.length]] (aW [.cells o1 z1 (a.flatMap af),.cells o2 z2 (ss.flatMap spC)]) (some [])
 (.go 3 (.ans [(0,.cells o1 z1 (a.flatMap af)),(1,.cells o2 z2 (ss.flatMap spC))] (nI (aB w h a p ss)) [] (.go 2 (.fork (.go 2 (.again [])) (.go 10 (.inv 3 (Nat) (0) [] [3] (fun J=>(kb5 J ss)) (fun J=>[(3,false,.cells true 0 [nI w,nI h,slQ 0 2 a.length,nI p,slQ 1 2 ss.length,slQ 4 1 (aC w h a ss J).length])]) (fun J=>[(true,.cells true 1 (inL (aC w h a ss J)))]) (fun J=>[]) (fun J=>(J<=List.length ss)) (fun J=>(List.length ss-J)) (fun J => .go 0 (.fork (kb3 ss J o1 z1 a w h) (.go 2 (.again []))))))))))
 (ca ((aW [.cells o1 z1 (a.flatMap af),.cells o2 z2 (ss.flatMap spC)]):HT).n 3 (.tuple #[.pointer none,nI (aB w h a p ss)]) [])=ym o1 o2 z1 z2 w h a p ss:=by kernel_rfl
theorem oI(w h:Int)(a:List Bool)(ss:List (Int×Int))(x:Nat):(aC w h a ss x).length=x:=dC ..
theorem rM(w h:Int)(a:List Bool)(ss:List (Int×Int))(x:Nat):aC w h a ss (x+1)=aC w h a ss x ++ [cw w h a (ss.getD x ae).2]:=gQ ..
theorem Cl{L M:List (List Int)}{x:List Int}{c:List Value}(hM:M=L ++ [x])(hc:[inV x]=c):(some (ab.cells true 1 (List.take (L.length*1) (List.drop 0 (inL L))++List.take (1*1) (List.drop 0 c))):Option ab)=some (.cells true 1 (inL M)):=by
 subst hc hM
 rw[List.drop_zero,List.drop_zero,Nat.mul_one,List.take_of_length_le (by rw[tV];omega)]
 unfold inL
 rw[List.map_append];rfl
theorem Dl(n:Nat)(l:List (List Int)):aj n (.cells true 1 (inL l))=true:=wb n l
structure ej(w h:Int)(a:List Bool)(p:Int)(ss:List (Int×Int)):Prop where
 bas:cM w h a.length
 tn:1<=p/\p<=1000
 few:ss.length<=20
 seen:∀s∈ss,(0<=s.1/\s.1<=100000)/\(0<=s.2/\s.2<(a.length:Int))/\a.getD (Int.toNat s.2) false=false
theorem ko{c:Int}(h:bJ a c=true):(0<=c/\c<(a.length:Int))/\a.getD (Int.toNat c) false=false:=by
 unfold bJ at h
 simp only[Bool.and_eq_true,decide_eq_true_eq]at h
 refine ⟨by omega,?_⟩
 have:=h.2
 simpa using this
theorem gW(e:aB w h a p ss=0):ej w h a p ss:=by
 unfold aB at e
 split at e
 ·rename_i hb
  split at e
  ·rename_i hp
   split at e
   ·rename_i hs
    split at e
    ·rename_i ha
     refine ⟨D5 hb,hp,hs,fun s hm =>?_⟩
     have h1:=List.all_eq_true.1 ha s hm
     unfold okS at h1
     simp only[Bool.and_eq_true,decide_eq_true_eq]at h1
     exact ⟨h1.1,ko h1.2⟩
    ·cases e
   ·cases e
  ·cases e
 ·rename_i hb;exact absurd e hb
theorem ej.bd(t:ej w h a p ss){x:Nat}(hx:x<ss.length):(0<=(ss.getD x ae).1/\(ss.getD x ae).1<=100000)/\(0<=(ss.getD x ae).2/\(ss.getD x ae).2<(a.length:Int)):=⟨(t.seen _ (b8 hx)).1,(t.seen _ (b8 hx)).2.1⟩
theorem Ma{id:Nat}{L:List (List Int)}(h:L.length=0):wk (.slice none 0 0) (.slice (some ⟨id,0,some 1⟩) L.length L.length):=by rw[h];exact ah _ _ _ (.inl rfl)
theorem Mv(ha:a.length<=100000)(hs:ss.length<=100000)(e0:aB w h a p ss=0):yn o1 o2 z1 z2 w h a p ss:=by
 have t:=gW e0
 have hf:=t.few
 delta yn kb4 kb6 kb2 kb1 kb7
 refine ⟨⟨rfl,rfl,trivial⟩,fun H' _ h=>xE _ _ _ _ _ ha hs h.1 h.2.1,fun e=>absurd e0 (neB e),fun _=>⟨rfl,Nat.zero_le _,?_,fun _=>rfl,fun x hx=>⟨fun k =>?_,fun k =>?_⟩⟩⟩
 ·repeat' first|exact Ma (oI ..)|exact Dl _ _|exact rfl|exact aa _|refine aK ?_|exact ac|exact ah _ _ _ (.inl rfl)|apply And.intro
 ·have h1:x<ss.length:=by have:=av k;omega
  have hl:=oI w h a ss x
  refine ⟨⟨by omega,by omega⟩,fN h1 (by omega),⟨rfl,trivial⟩,fun H' hH h=>hH ▸ De t.bas (t.bd h1).2 h.1,⟨by omega,by decide,⟨Nat.le_refl _,by rw[tV];omega⟩,⟨Nat.le_refl _,by simp⟩,rfl⟩,rfl,aG (by omega),x+1,by omega,by omega,rfl,?_,?_,?_,trivial⟩
  ·repeat' first|exact rfl|exact aa _|refine aK ?_|exact ac|exact ah _ _ _ (.inl rfl)|apply And.intro
  ·repeat' first|exact dd (rM w h a ss x)|exact rfl|exact aa _|refine aK ?_|exact ac|exact ah _ _ _ (.inl rfl)|apply And.intro
  ·exact ⟨⟨Cl (rM w h a ss x) rfl,Dl _ _⟩,trivial⟩
 ·have h1:x=ss.length:=by have:=aA k;omega
  rw[h1]
  repeat' first|exact Dl _ _|exact rfl|exact aa _|refine aK ?_|exact ac|exact ah _ _ _ (.inl rfl)|apply And.intro
theorem Mu(ha:a.length<=100000)(hs:ss.length<=100000)(e0:aB w h a p ss≠0):ym o1 o2 z1 z2 w h a p ss:=by
 delta ym kb4 kb2 kb1 kb7
 refine ⟨⟨rfl,rfl,trivial⟩,fun H' _ h=>xE _ _ _ _ _ ha hs h.1 h.2.1,fun _ =>?_,fun e=>absurd (rh e) e0⟩
 repeat' first|exact rfl|exact aa _|refine aK ?_|exact ac|exact ah _ _ _ (.inl rfl)|apply And.intro
theorem dB(o:Bool)(z:Nat)(l:List Bool)(σ:Nat->Option Nat):rno σ 3 (.cells o z (l.flatMap af)) = .cells o z (l.flatMap af):=congrArg (ab.cells o z) (iP (d:=0) (az 0 l)).1
theorem fB(o:Bool)(z:Nat)(l:List Bool):aZ 3 (.cells o z (l.flatMap af))=true:=(iP (σ:=fun _=>none) (d:=0) (az 0 l)).2
theorem gz(o:Bool)(z:Nat)(l:List (Int×Int))(σ:Nat->Option Nat):rno σ 3 (.cells o z (l.flatMap spC)) = .cells o z (l.flatMap spC):=congrArg (ab.cells o z) (iP (d:=0) (ct 0 l)).1
theorem jv(o:Bool)(z:Nat)(l:List (Int×Int)):aZ 3 (.cells o z (l.flatMap spC))=true:=(iP (σ:=fun _=>none) (d:=0) (ct 0 l)).2
theorem tX(o:Bool)(z:Nat)(l:List (List Int))(σ:Nat->Option Nat):rno σ 3 (.cells o z (inL l)) = .cells o z (inL l):=congrArg (ab.cells o z) (iP (d:=0) (wb 0 l)).1
theorem tW(o:Bool)(z:Nat)(l:List (List Int)):aZ 3 (.cells o z (inL l))=true:=(iP (σ:=fun _=>none) (d:=0) (wb 0 l)).2
theorem cz(o1 o2:Bool)(z1 z2:Nat)(a:List Bool)(ss:List (Int×Int)):[ab.cells o1 z1 (a.flatMap af),.cells o2 z2 (ss.flatMap spC)].all (aZ 3)=true:=by
 show (aZ 3 (.cells o1 z1 (a.flatMap af))&&(aZ 3 (.cells o2 z2 (ss.flatMap spC))&&true))=true
 rw[fB,jv];rfl
theorem bC{i j:Nat}(hi:H[i]?=some (.cells o1 z1 (a.flatMap af)))(hj:H[j]?=some (.cells o2 z2 (ss.flatMap spC))) :
  hY H (sgI [i,j]) [i,j] [.cells o1 z1 (a.flatMap af),.cells o2 z2 (ss.flatMap spC)]:=⟨by rw[dB];exact hi,by rw[gz];exact hj,trivial⟩
abbrev iF(w h:Int)(a:List Bool)(p:Int)(ss:List (Int×Int))(rr:List (List Int))(i j r:Nat):List Value:=[.int .i64 w,.int .i64 h,.slice (some ⟨i,0,some 2⟩) a.length a.length,.int .i64 p,.slice (some ⟨j,0,some 2⟩) ss.length ss.length,.slice (some ⟨r,0,some 1⟩) rr.length rr.length]
abbrev aH(w h:Int)(a:List Bool)(ss:List (Int×Int)):List (List Int):=aC w h a ss ss.length
theorem j7(ha:a.length<=100000)(hs:ss.length<=100000)(e0:aB w h a p ss=0){i j:Nat}(hne:i≠j)(hi:H[i]?=some (.cells o1 z1 (a.flatMap af)))(hj:H[j]?=some (.cells o2 z2 (ss.flatMap spC))) :
  ad prog 72 [db w h a p ss i j] H [] (Is (.tuple #[.pointer (some ⟨H.length,0,none⟩),.int .i64 0]) (H ++ [.cells true 0 (iF w h a p ss (aH w h a ss) i j (H.length+1)),.cells true 1 (inL (aH w h a ss))])):=by
 have key:=vcK iw mixed dx 40 (os:=[.cells o1 z1 (a.flatMap af),.cells o2 z2 (ss.flatMap spC)]) (v:=.tuple #[.pointer (some ⟨2,0,none⟩),.int .i64 0])
  (new:=[(false,.cells true 0 (iF w h a p ss (aH w h a ss) 0 1 3)),(true,.cells true 1 (inL (aH w h a ss)))]) (Eq.mpr (Ka o1 o2 z1 z2 w h a p ss) (Mv ha hs e0)) (cz ..) rfl
  (by show ((aZ 3 (.cells true 0 (iF w h a p ss (aH w h a ss) 0 1 3))&&true)&&((aZ 3 (.cells true 1 (inL (aH w h a ss)))&&true)&&true))=true;rw[tW];rfl) (H:=H) (ids:=[i,j]) (by simp[hne]) (bC hi hj)
 have e:(List.map (rno (dW (sgI [i,j]) 2 H.length) 3) ([(false,ab.cells true 0 (iF w h a p ss (aH w h a ss) 0 1 3)),(true,.cells true 1 (inL (aH w h a ss)))].map (·.2)))=[.cells true 0 (iF w h a p ss (aH w h a ss) i j (H.length+1)),.cells true 1 (inL (aH w h a ss))]:=by
  show [rno _ 3 (.cells true 0 (iF w h a p ss (aH w h a ss) 0 1 3)),rno _ 3 (.cells true 1 (inL (aH w h a ss)))]=_
  rw[tX];rfl
 have e2:([ab.cells o1 z1 (a.flatMap af),.cells o2 z2 (ss.flatMap spC)]:List ab).length=2:=rfl
 rw[e2,e]at key
 exact key
theorem IB(ha:a.length<=100000)(hs:ss.length<=100000)(e0:aB w h a p ss≠0){i j:Nat}(hne:i≠j)(hi:H[i]?=some (.cells o1 z1 (a.flatMap af)))(hj:H[j]?=some (.cells o2 z2 (ss.flatMap spC))) :
  ad prog 72 [db w h a p ss i j] H [] (Is (.tuple #[.pointer none,.int .i64 (aB w h a p ss)]) H):=by
 have key:=vcK iw mixed dx 40 (os:=[.cells o1 z1 (a.flatMap af),.cells o2 z2 (ss.flatMap spC)]) (v:=.tuple #[.pointer none,.int .i64 (aB w h a p ss)]) (new:=[])
  (Eq.mpr (J9 o1 o2 z1 z2 w h a p ss) (Mu ha hs e0)) (cz ..) rfl rfl (H:=H) (ids:=[i,j]) (by simp[hne]) (bC hi hj)
 rw[show (H++List.map (rno (dW (sgI [i,j]) ([ab.cells o1 z1 (a.flatMap af),.cells o2 z2 (ss.flatMap spC)]:List ab).length H.length) 3) (([]:List (Bool×ab)).map (·.2)))=H from List.append_nil H]at key
 exact key
end
end Go.Proofs.YtbgfjemppjhmjaaGreat
