/- What is to be shown of functions. Printed by a program. No condition. -/
import Derived.Test.YtbgfjemppjhmjaaGreatGK27xR0b
import Derived.Shelf.SlSortCmp.WholeK
import Derived.Ground.SlsfProg
import Derived.Test.YtbgfjemppjhmjaaGreatChecked
import Derived.Sort.Grow
import Derived.Deep.Draws
import Derived.Shelf.SlSortCmp.Whole1
import Derived.Shelf.SlMaps.Clone
import Derived.Ground.SlmcProg
open Go Go.K
set_option maxRecDepth 1000000
set_option maxHeartbeats 4000000
set_option linter.unusedVariables false
set_option linter.unusedSimpArgs false
namespace Go.Proofs.YtbgfjemppjhmjaaGreat
noncomputable section
attribute [local irreducible] vF
variable {w h:Int} {a:List Bool} {p:Int} {ss:List (Int×Int)} {o1 o2:Bool} {z1 z2:Nat} {H:Heap}
abbrev ktf(m:Msg):=decide ((0:Int)<=m.ce)
abbrev ktd(m:Msg):=decide ((m.ce:Int)<=1023)
abbrev kt5:Value:=.bool false
def Ep(sp:Value)(m:Msg):Prop :=
 ((((1:Int) == m.ki)=true->(((decide ((1:Int)<=m.sh))=true->(((decide ((m.sh:Int)<=40))=true->(((ktf m)=true->(((ktd m)=true->(.bool ((m.va:Int) == 0):Value)=sp)/\((ktd m)=false->kt5=sp)))/\((ktf m)=false->kt5=sp)))/\((decide ((m.sh:Int)<=40))=false->kt5=sp)))/\((decide ((1:Int)<=m.sh))=false->kt5=sp)))/\(((1:Int) == m.ki)=false->kt5=sp))
abbrev ktb:Hint:=.aT (.go 7 (.aT (.auto) (.auto))) (.auto)
theorem Kg(sp:Value)(m:Msg):vF prog msk (dm 0) 100000 true 40 true 122 [.agg #[.int .i64 1,.func (.func 174) #[] #[.pointer (some ⟨0,0,none⟩)]],.pointer (some ⟨1,0,none⟩)] (bA 0 [[.func (.func 173) #[] #[]],bL m]) (some [])
 (.go 7 (.aT (.go 13 (.aT (.go 5 (.aT (.go 12 ktb) (.auto))) (.auto))) (.auto)))
 (fun v _ _=>v=sp)=Ep sp m:=by kernel_rfl
def Eo(sp:Value)(m:Msg):Prop :=
 ((((2:Int) == m.ki)=true->((((m.sh:Int) == 0)=true->(((ktf m)=true->(((ktd m)=true->(((decide ((0:Int)<=m.va))=true->(.bool (decide ((m.va:Int)<=1000000)):Value)=sp)/\((decide ((0:Int)<=m.va))=false->kt5=sp)))/\((ktd m)=false->kt5=sp)))/\((ktf m)=false->kt5=sp)))/\(((m.sh:Int) == 0)=false->kt5=sp)))/\(((2:Int) == m.ki)=false->kt5=sp))
theorem Kf(sp:Value)(m:Msg):vF prog msk (dm 0) 100000 true 40 true 122 [.agg #[.int .i64 2,.func (.func 175) #[] #[.pointer (some ⟨0,0,none⟩)]],.pointer (some ⟨1,0,none⟩)] (bA 0 [[.func (.func 173) #[] #[]],bL m]) (some [])
 (.go 7 (.aT (.go 9 (.aT (.go 12 (.aT (.go 7 ktb) (.auto))) (.auto))) (.auto)))
 (fun v _ _=>v=sp)=Eo sp m:=by kernel_rfl
def En(sp:Value)(m:Msg):Prop :=
 ((((3:Int) == m.ki)=true->((((m.sh:Int) == 0)=true->((((m.ce:Int) == 0)=true->(((decide ((1:Int)<=m.va))=true->(.bool (decide ((m.va:Int)<=200)):Value)=sp)/\((decide ((1:Int)<=m.va))=false->kt5=sp)))/\(((m.ce:Int) == 0)=false->kt5=sp)))/\(((m.sh:Int) == 0)=false->kt5=sp)))/\(((3:Int) == m.ki)=false->kt5=sp))
abbrev ktc:List Value:=[.agg #[.int .i64 3,.func (.func 176) #[] #[]],.pointer (some ⟨0,0,none⟩)]
theorem Ke(sp:Value)(m:Msg):vF prog msk (dm 0) 100000 true 40 true 122 ktc (bA 0 [bL m]) (some [])
 (.go 7 (.aT (.go 9 (.aT (.go 4 ktb) (.auto))) (.auto)))
 (fun v _ _=>v=sp)=En sp m:=by kernel_rfl
abbrev kt4:ab:=.cells true 0 [.func (.func 173) #[] #[]]
abbrev kt1(m:Msg):List Value:=[.int .i64 m.au,.int .i64 m.nu,.int .i64 m.at_,.int .i64 m.ki,.int .i64 m.sh,.int .i64 m.ce,.int .i64 m.va]
abbrev kt7(m:Msg):ab:=.cells true 0 (kt1 m)
abbrev kt8:Value:=.int .i64 110
abbrev kt0(m:Msg)(sp:Value):Prop:=((decide ((1:Int)<=m.au))=true->(((!(decide ((m.au:Int)<=4)))=true->kt8=sp)/\((!(decide ((m.au:Int)<=4)))=false->(((decide ((1:Int)<=m.nu))=true->(((!(decide ((m.nu:Int)<=200)))=true->kt8=sp)/\((!(decide ((m.nu:Int)<=200)))=false->(((decide ((0:Int)<=m.at_))=true->(((!(decide ((m.at_:Int)<=100000)))=true->kt8=sp)/\((!(decide ((m.at_:Int)<=100000)))=false->(.int .i64 0:Value)=sp)))/\((decide ((0:Int)<=m.at_))=false->kt8=sp)))))/\((decide ((1:Int)<=m.nu))=false->kt8=sp)))))/\((decide ((1:Int)<=m.au))=false->kt8=sp)
def yu(sp:Value)(m:Msg):Prop :=
 (((some kt4=some kt4)/\(some (kt7 m)=some (kt7 m))/\True)/\(∀H':Heap,H'.length=3->(H'[1]?=some kt4/\H'[0]?=some (kt7 m)/\True)->ad prog 122 [.agg #[.int .i64 1,.func (.func 174) #[] #[.pointer (some ⟨1,0,none⟩)]],.pointer (some ⟨0,0,none⟩)] H' [] (Is (.bool (k1B m)) H'))/\((k1B m)=true->(kt0 m sp))/\((k1B m)=false->(((some kt4=some kt4)/\(some (kt7 m)=some (kt7 m))/\True)/\(∀H':Heap,H'.length=3->(H'[1]?=some kt4/\H'[0]?=some (kt7 m)/\True)->ad prog 122 [.agg #[.int .i64 2,.func (.func 175) #[] #[.pointer (some ⟨1,0,none⟩)]],.pointer (some ⟨0,0,none⟩)] H' [] (Is (.bool (k2B m)) H'))/\((k2B m)=true->(kt0 m sp))/\((k2B m)=false->(((some (kt7 m)=some (kt7 m))/\True)/\(∀H':Heap,H'.length=3->(H'[0]?=some (kt7 m)/\True)->ad prog 122 ktc H' [] (Is (.bool (k3B m)) H'))/\((k3B m)=true->(kt0 m sp))/\((k3B m)=false->(((decide ((1:Int)<=m.au))=true->(((!(decide ((m.au:Int)<=4)))=true->kt8=sp)/\((!(decide ((m.au:Int)<=4)))=false->(((decide ((1:Int)<=m.nu))=true->(((!(decide ((m.nu:Int)<=200)))=true->kt8=sp)/\((!(decide ((m.nu:Int)<=200)))=false->(((decide ((0:Int)<=m.at_))=true->(((!(decide ((m.at_:Int)<=100000)))=true->kt8=sp)/\((!(decide ((m.at_:Int)<=100000)))=false->kt8=sp)))/\((decide ((0:Int)<=m.at_))=false->kt8=sp)))))/\((decide ((1:Int)<=m.nu))=false->kt8=sp)))))/\((decide ((1:Int)<=m.au))=false->kt8=sp))))))))
abbrev kt9(m:Msg):List Value:=[.agg #[.int .i64 m.au,.int .i64 m.nu,.int .i64 m.at_,.int .i64 m.ki,.int .i64 m.sh,.int .i64 m.ce,.int .i64 m.va]]
abbrev kte(m:Msg):List (Nat×ab):=[(1,.cells true 0 [.func (.func 173) #[] #[]]),(0,.cells true 0 (kt1 m))]
abbrev kt2:Hint:=.aT (.go 6 (.aT (.auto) (.go 7 (.aT (.go 7 (.aT (.auto) (.go 7 ktb))) (.auto))))) (.auto)
theorem Kk(sp:Value)(m:Msg):vF prog msk (dm 0) 100000 true 40 true 55 (kt9 m) ⟨0,.leaf⟩ (some [])
 (.go 31 (.ans (kte m) (.bool (k1B m)) [] (.fork (.go 12 kt2) (.go 10 (.ans (kte m) (.bool (k2B m)) [] (.fork (.go 12 kt2) (.go 10 (.ans [(0,.cells true 0 (kt1 m))] (.bool (k3B m)) [] (.fork (.go 12 kt2) (.go 15 kt2))))))))))
 (fun v _ _=>v=sp)=yu sp m:=by kernel_rfl
def HA  : Prop :=
 (true=true/\wk (.tuple #[.pointer (some ⟨1,0,none⟩),.int .i64 0]:Value) (rn (sg 0 [(0,1),(1,0)]) 3 (.tuple #[.pointer (some ⟨0,0,none⟩),.int .i64 0]:Value))/\wkO (.cells true 0 [.map (some 0)]:ab) (rno (sg 0 [(0,1),(1,0)]) 3 (.cells true 0 [.map (some 1)]:ab))/\(some (.map (aq []):ab)=some (.map (aq []):ab)/\aj 0 (.map (aq []):ab)=true)/\True)
theorem LP  : vF prog msk (dm 0) 100000 true 40 true 54 [] (aW []) (some [])
 (.go 6 (.again [(0,1),(1,0)]))
 (ca ((aW []):HT).n 3 (.tuple #[.pointer (some ⟨0,0,none⟩),.int .i64 0]) [(false,.cells true 0 [.map (some 1)]),(true,.map (aq []))])=HA :=by kernel_rfl
abbrev kt6(L:List Msg)(m:Msg):=rn (sg 2 []) 3 (.tuple #[.bool (lI L m),.int .i64 (e7 L m)]:Value)
abbrev kt3(L:List Msg)(m:Msg):Prop:=((some (.map (aq L):ab)=some (.map (aq (lH L m)):ab)/\aj 2 (.map (aq (lH L m)):ab)=true)/\True)/\(True)
abbrev kta(m:Msg):Value:=.agg #[.int .i64 m.au,.int .i64 m.nu,.int .i64 m.at_,.int .i64 m.ki,.int .i64 m.sh,.int .i64 m.ce,.int .i64 m.va]
def JV(L:List Msg)(m:Msg):Prop :=
 ((True)/\(∀H':Heap,H'.length=3->(True)->ad prog 55 (kt9 m) H' [] (Is (.int .i64 (jG m)) H'))/\((((jG m):Int) != 0)=true->(true=true/\wk (.tuple #[.bool false,.int .i64 (jG m)]:Value) (kt6 L m)/\kt3 L m))/\((((jG m):Int) != 0)=false->((dR prog 64 (.bool false) (kta m) false (aq L)=some (.bool (f8 L m)))/\((f8 L m)=true->(true=true/\wk (.tuple #[.bool false,.int .i64 0]:Value) (kt6 L m)/\kt3 L m))/\((f8 L m)=false->(((decide ((1500:Int)<=(((List.length (aq L)):Nat):Int)))=true->(true=true/\wk (.tuple #[.bool false,.int .i64 2]:Value) (kt6 L m)/\kt3 L m))/\((decide ((1500:Int)<=(((List.length (aq L)):Nat):Int)))=false->((ix prog 64 (kta m) (.bool true) (aq L)=some (aq (uo L m)))/\true=true/\wk (.tuple #[.bool true,.int .i64 0]:Value) (kt6 L m)/\((some (.map (aq (uo L m)):ab)=some (.map (aq (lH L m)):ab)/\aj 2 (.map (aq (lH L m)):ab)=true)/\True)/\True)))))))
theorem MX(L:List Msg)(m:Msg):vF prog msk (dm 0) 100000 true 40 true 31 [.pointer (some ⟨1,0,none⟩),.agg #[.int .i64 m.au,.int .i64 m.nu,.int .i64 m.at_,.int .i64 m.ki,.int .i64 m.sh,.int .i64 m.ce,.int .i64 m.va]] (fO 0 (.map (aq L)) [[.map (some 0)]]) (some [0])
 (.go 17 (.ans [] (.int .i64 (jG m)) [] (.go 2 (.fork (.go 2 (.keep (.again []))) (.go 4 (.val (.bool (f8 L m)) (.fork (.go 1 (.keep (.again []))) (.go 5 (.fork (.go 1 (.keep (.again []))) (.go 4 (.vp (aq (uo L m)) (.go 1 (.keep (.again []))))))))))))))
 (lW ((fO 0 (.map (aq L)) [[.map (some 0)]]):HT).n 3 0 (.map (aq (lH L m))) (.tuple #[.bool (lI L m),.int .i64 (e7 L m)]) [])=JV L m:=by kernel_rfl
theorem KY(a b:Msg):cr prog Op.maxDepth 64 (jf a) (jf b)=some (decide (a=b)):=by
 have h:cr prog Op.maxDepth 64 (jf a) (jf b)=some ((a.au == b.au)&&((a.nu == b.nu)&&((a.at_ == b.at_)&&((a.ki == b.ki)&&((a.sh == b.sh)&&((a.ce == b.ce)&&((a.va == b.va)&&true))))))):=by kernel_rfl
 rw[h]
 congr 1
 rw[Bool.eq_iff_iff]
 obtain ⟨a1,a2,a3,a4,a5,a6,a7⟩:=a
 obtain ⟨b1,b2,b3,b4,b5,b6,b7⟩:=b
 simp
theorem KX(a b:Int×Int):cr prog Op.maxDepth 79 (nmV a) (nmV b)=some (decide (a=b)):=by
 have h:cr prog Op.maxDepth 79 (nmV a) (nmV b)=some ((a.1 == b.1)&&((a.2 == b.2)&&true)):=by kernel_rfl
 rw[h]
 congr 1
 rw[Bool.eq_iff_iff]
 obtain ⟨a1,a2⟩:=a
 obtain ⟨b1,b2⟩:=b
 simp
theorem eqM(a:Msg):kV (jf a) (jf a)=true:=by simp[kV,mJ,mK]
theorem eqN(a:Int×Int):kV (nmV a) (nmV a)=true:=by simp[kV,mJ,mK]
theorem eC(L:List Msg):(aq L).length=L.length:=by unfold aq;rw[wp,List.length_map]
theorem wh(m:Msg):∀(L:List Msg),cS m false (L.map fun m=>(m,true))=f8 L m
 | [] =>rfl
 |a :: L=>by
  show (if a=m then true else cS m false (L.map fun m=>(m,true)))=_
  rw[wh m L]
  unfold f8
  by_cases h:a=m
  ·rw[if_pos h,h];simp
  ·rw[if_neg h];simp[Ne.symm h]
theorem wg(m:Msg):∀(L:List Msg),eJ m true (L.map fun m=>(m,true))=(uo L m).map fun m=>(m,true)
 | [] =>rfl
 |a :: L=>by
  show (if a=m then (m,true) :: L.map (fun m=>(m,true)) else (a,true) :: eJ m true (L.map fun m=>(m,true)))=_
  rw[wg m L]
  unfold uo
  by_cases h:a=m
  ·rw[if_pos h,h,if_pos (List.mem_cons_self ..)];rfl
  ·rw[if_neg h]
   by_cases h2:m∈L
   ·rw[if_pos h2,if_pos (List.mem_cons_of_mem _ h2)];rfl
   ·rw[if_neg h2,if_neg (fun q=>by rcases List.mem_cons.1 q with e|e;exact h e.symm;exact h2 e)];rfl
theorem KU(L:List Msg)(m:Msg):dR prog 64 (.bool false) (jf m) false (aq L)=some (.bool (f8 L m)):=by
 unfold aq
 rw[xd (key:=jf) (val:=fun b => .bool b) KY m false rfl,wh];rfl
theorem Ml(L:List Msg)(m:Msg):ix prog 64 (jf m) (.bool true) (aq L)=some (aq (uo L m)):=by
 unfold aq
 rw[BX (key:=jf) (val:=fun b => .bool b) KY eqM m true,wg]
theorem jn(L:List Msg)(n:Nat):aj n (.map (aq L))=true:=by
 show (aq L).all _=true
 unfold aq fy
 rw[List.all_map,List.all_map,List.all_eq_true]
 intro m _;rfl
theorem zU(L:List Msg):plO (.map (aq L))=true:=by
 show (aq L).all _=true
 unfold aq fy
 rw[List.all_map,List.all_map,List.all_eq_true]
 intro m _;rfl
theorem eqB(k:Int)(n:Int):(k == n)=decide (n=k) :=
 Bool.eq_iff_iff.2 ⟨fun h=>decide_eq_true (eq_of_beq h).symm,fun h=>by rw[av h];exact beq_self_eq_true _⟩
theorem zEq(n:Int):decide (0=n)=decide (n=0):=Bool.eq_iff_iff.2 ⟨fun h=>decide_eq_true (av h).symm,fun h=>decide_eq_true (av h).symm⟩
theorem IG(m:Msg){i c:Nat}{z o z2 o2}(hi:H[i]?=some (.cells o z (bL m)))(hc:H[c]?=some (.cells o2 z2 [.func (.func 173) #[] #[]])) :
  ad prog 122 [.agg #[.int .i64 1,.func (.func 174) #[] #[.pointer (some ⟨c,0,none⟩)]],.pointer (some ⟨i,0,none⟩)] H [] (Is (.bool (k1B m)) H):=by
 refine sT (v:=.bool (k1B m)) (css:=[[.func (.func 173) #[] #[]],bL m]) (ids:=[c,i]) (Eq.mpr (Kg _ m) ?_) (hv:=rfl) (hi:=⟨⟨_,_,hc⟩,⟨_,_,hi⟩,trivial⟩) (ha:=rfl)
 delta Ep ktf ktd kt5;unfold k1B inB
 rw[eqB 1,eqB m.va,zEq m.va]
 cases decide (m.ki=1) <;> cases decide (1<=m.sh) <;> cases decide (m.sh<=40) <;> cases decide (0<=m.ce) <;> cases decide (m.ce<=1023) <;> simp
theorem IF(m:Msg){i c:Nat}{z o z2 o2}(hi:H[i]?=some (.cells o z (bL m)))(hc:H[c]?=some (.cells o2 z2 [.func (.func 173) #[] #[]])) :
  ad prog 122 [.agg #[.int .i64 2,.func (.func 175) #[] #[.pointer (some ⟨c,0,none⟩)]],.pointer (some ⟨i,0,none⟩)] H [] (Is (.bool (k2B m)) H):=by
 refine sT (v:=.bool (k2B m)) (css:=[[.func (.func 173) #[] #[]],bL m]) (ids:=[c,i]) (Eq.mpr (Kf _ m) ?_) (hv:=rfl) (hi:=⟨⟨_,_,hc⟩,⟨_,_,hi⟩,trivial⟩) (ha:=rfl)
 delta Eo ktf ktd kt5;unfold k2B inB
 rw[eqB 2,eqB m.sh,zEq m.sh]
 cases decide (m.ki=2) <;> cases decide (m.sh=0) <;> cases decide (0<=m.va) <;> cases decide (0<=m.ce) <;> cases decide (m.ce<=1023) <;> simp
theorem IE(m:Msg){i:Nat}{z o}(hi:H[i]?=some (.cells o z (bL m))) :
  ad prog 122 [.agg #[.int .i64 3,.func (.func 176) #[] #[]],.pointer (some ⟨i,0,none⟩)] H [] (Is (.bool (k3B m)) H):=by
 refine sT (v:=.bool (k3B m)) (css:=[bL m]) (ids:=[i]) (Eq.mpr (Ke _ m) ?_) (hv:=rfl) (hi:=⟨⟨_,_,hi⟩,trivial⟩) (ha:=rfl)
 delta En kt5;unfold k3B inB
 rw[eqB 3,eqB m.sh,eqB m.ce,zEq m.sh,zEq m.ce]
 cases decide (m.ki=3) <;> cases decide (m.sh=0) <;> cases decide (m.ce=0) <;> cases decide (1<=m.va) <;> simp
theorem hv1(m:Msg):yu (.int .i64 (jG m)) m:=by
 delta yu kt4 kt1 kt7 kt8 kt0 ktc
 refine ⟨⟨rfl,rfl,trivial⟩,fun H' _ h=>IG m h.2.1 h.1,fun a =>?_,fun a=>⟨⟨rfl,rfl,trivial⟩,fun H' _ h=>IF m h.2.1 h.1,fun b =>?_,fun b=>⟨⟨rfl,trivial⟩,fun H' _ h=>IE m h.1,fun c =>?_,fun c =>?_⟩⟩⟩
 ·have ek:kT m=true:=by unfold kT;rw[a];rfl
  unfold jG okM inB
  rw[ek]
  cases decide (1<=m.au) <;> cases decide (m.au<=4) <;> cases decide (1<=m.nu) <;> cases decide (m.nu<=200) <;> cases decide (0<=m.at_) <;> cases decide (m.at_<=100000) <;> simp
 ·have ek:kT m=true:=by unfold kT;rw[a,b];rfl
  unfold jG okM inB
  rw[ek]
  cases decide (1<=m.au) <;> cases decide (m.au<=4) <;> cases decide (1<=m.nu) <;> cases decide (m.nu<=200) <;> cases decide (0<=m.at_) <;> cases decide (m.at_<=100000) <;> simp
 ·have ek:kT m=true:=by unfold kT;rw[a,b,c];rfl
  unfold jG okM inB
  rw[ek]
  cases decide (1<=m.au) <;> cases decide (m.au<=4) <;> cases decide (1<=m.nu) <;> cases decide (m.nu<=200) <;> cases decide (0<=m.at_) <;> cases decide (m.at_<=100000) <;> simp
 ·have ek:kT m=false:=by unfold kT;rw[a,b,c];rfl
  unfold jG okM inB
  rw[ek]
  cases decide (1<=m.au) <;> cases decide (m.au<=4) <;> cases decide (1<=m.nu) <;> cases decide (m.nu<=200) <;> cases decide (0<=m.at_) <;> cases decide (m.at_<=100000) <;> simp
theorem IK(m:Msg)(H:Heap):ad prog 55 [jf m] H [] (Is (.int .i64 (jG m)) H) :=
 sT (v:=.int .i64 (jG m)) (css:=[]) (ids:=[]) (Eq.mpr (Kk _ m) (hv1 m)) (hv:=rfl) (hi:=trivial) (ha:=rfl)
theorem Mq(H:Heap):ad prog 54 [] H [] (Is (.tuple #[.pointer (some ⟨H.length,0,none⟩),.int .i64 0]) (H ++ [.cells true 0 [.map (some (H.length+1))],.map (aq [])])):=by
 have key:=vcK iw mixed dx 40 (H:=H) (ids:=[]) (os:=[]) (v:=.tuple #[.pointer (some ⟨0,0,none⟩),.int .i64 0]) (new:=[(false,.cells true 0 [.map (some 1)]),(true,.map (aq []))])
  (Eq.mpr LP (show HA from ⟨rfl,bl rfl,rx rfl,⟨rfl,rfl⟩,trivial⟩)) rfl rfl rfl List.nodup_nil trivial
 exact key
theorem JQ{L:List Msg}{m:Msg}(h:jG m≠0):lH L m=L/\lI L m=false/\e7 L m=jG m:=by
 have hk:okM m≠true:=fun q=>h (if_pos q)
 refine ⟨if_neg fun q=>hk q.1,?_,?_⟩
 ·unfold lI;cases e:okM m with
  |true=>exact absurd e hk
  |false=>rfl
 ·unfold e7 jG;rw[if_neg hk,if_neg hk]
theorem w6{m:Msg}(h:jG m=0):okM m=true:=by
 unfold jG at h
 split at h
 ·assumption
 ·cases h
theorem hv2(L:List Msg)(m:Msg):JV L m:=by
 delta JV kt9 kt6 kt3 kta
 refine ⟨trivial,fun H' _ _=>IK m H',fun a =>?_,fun a=>⟨KU L m,fun b =>?_,fun b=>⟨fun c =>?_,fun c=>⟨Ml L m,?_⟩⟩⟩⟩
 ·have h:jG m≠0:=by simpa using a
  obtain ⟨e1,e2,e3⟩:=JQ (L:=L) h
  rw[e1,e2,e3]
  exact ⟨rfl,aa _,⟨⟨rfl,jn _ _⟩,trivial⟩,trivial⟩
 ·have hk:=w6 (m:=m) (by simpa using a)
  have hm:m∈L:=av b
  rw[show lH L m=L from by unfold lH uo;rw[if_pos hm];split <;> rfl,show lI L m=false from by unfold lI;rw[b];simp,show e7 L m=0 from by unfold e7;rw[if_pos hk,if_pos hm]]
  exact ⟨rfl,aa _,⟨⟨rfl,jn _ _⟩,trivial⟩,trivial⟩
 ·have hk:=w6 (m:=m) (by simpa using a)
  have hm:¬ m∈L:=aA b
  rw[eC]at c
  have hc:¬ L.length<1500:=by have:=av c;omega
  rw[show lH L m=L from if_neg fun q=>hc q.2,show lI L m=false from by unfold lI;simp[hc],show e7 L m=2 from by unfold e7;rw[if_pos hk,if_neg hm,if_neg hc]]
  exact ⟨rfl,aa _,⟨⟨rfl,jn _ _⟩,trivial⟩,trivial⟩
 ·have hk:=w6 (m:=m) (by simpa using a)
  have hm:¬ m∈L:=aA b
  rw[eC]at c
  have hc:L.length<1500:=by have:=aA c;omega
  rw[show lH L m=uo L m from if_pos ⟨hk,hc⟩,show lI L m=true from by unfold lI;rw[b,hk];simp[hc],show e7 L m=0 from by unfold e7;rw[if_pos hk,if_neg hm,if_pos hc]]
  exact ⟨rfl,aa _,⟨⟨rfl,jn _ _⟩,trivial⟩,trivial⟩
theorem IP(L:List Msg)(m:Msg){i q:Nat}{o z}(hi:H[i]?=some (.cells o z [.map (some q)]))(hq:H[q]?=some (.map (aq L))) :
  ad prog 31 [.pointer (some ⟨i,0,none⟩),jf m] H [q] (Is (.tuple #[.bool (lI L m),.int .i64 (e7 L m)]) (H.set q (.map (aq (lH L m))))):=by
 have key:=Md iw mixed 40 (H:=H) (D:=q) (o0:=.map (aq L)) (o1:=.map (aq (lH L m))) (css:=[[.map (some 0)]]) (v:=.tuple #[.bool (lI L m),.int .i64 (e7 L m)]) (new:=[])
  (by rw[dx];exact Eq.mpr (MX L m) (hv2 L m)) (zU _) (zU _) rfl rfl rfl rfl hq [i] rfl (fun k cs h=>by
   rw[dx]
   match k with
   |0=>cases h;exact ⟨i,o,z,rfl,hi⟩) (fun h=>by
   rw[List.mem_singleton]at h
   subst h
   rw[hi]at hq;cases hq)
 rw[dx]at key
 simp only[List.map_nil,List.append_nil]at key
 exact key
def us(L:List Msg):Prop :=
 (true=true/\(fC L ([]:List Nat))/\(true=true/\((.func (.yield 4) #[] #[]:Value) = .func (.yield 4) #[] #[]/\(.pointer (some ⟨5,0,none⟩):Value) = .pointer (some ⟨5,0,none⟩)/\True)/\(wkO (.cells true 0 [.slice none 0 0]:ab) (rno (sg 6 []) 3 (.cells true 0 [.slice (some ⟨6,0,some 1⟩) (List.length (cB L ([]:List Nat))) (List.length (cB L ([]:List Nat)))]:ab))/\(some (.iter 1 (List.length (aq L)) []:ab)=some (.iter 1 (List.length (aq L)) ([]:List Nat):ab)/\aj 6 (.iter 1 (List.length (aq L)) ([]:List Nat):ab)=true)/\True)/\(True/\True)/\(mG prog 251 0/\(.func (.func 217) #[] #[.pointer (some ⟨2,0,none⟩)]:Value) = .func (.func 217) #[] #[.pointer (some ⟨2,0,none⟩)]/\(.slice none 0 0:Value) = .slice none 0 0/\(.pointer (some ⟨3,0,none⟩):Value) = .pointer (some ⟨3,0,none⟩)/\(.slice none 0 0:Value) = .slice none 0 0/\(.func (.func 217) #[] #[.pointer (some ⟨2,0,none⟩)]:Value) = .func (.func 217) #[] #[.pointer (some ⟨2,0,none⟩)]/\True)/\True)/\(∀x0:List Nat,true=true)/\∀x0:List Nat,(fC L x0)->((List.length (aq L)=(List.length (aq L)))/\(∀x1:Nat,x1<(List.length (aq L))->x1 ∉ x0->((List.length (aq L)=(List.length (aq L)))/\(gx (aq L) (x0 ++ [x1])=some (.tuple #[.agg #[.int .i64 (List.getD L x1 ay).au,.int .i64 (List.getD L x1 ay).nu,.int .i64 (List.getD L x1 ay).at_,.int .i64 (List.getD L x1 ay).ki,.int .i64 (List.getD L x1 ay).sh,.int .i64 (List.getD L x1 ay).ce,.int .i64 (List.getD L x1 ay).va],.bool true]))/\((((List.length (cB L x0))+1)*56<=2 ^ 44/\1≠0/\((List.length (cB L x0))<=(List.length (cB L x0))/\0+(List.length (cB L x0))*7<=List.length (List.flatMap bL (cB L x0)))/\(1<=1/\0+1*7<=List.length ([.int .i64 (List.getD L x1 ay).au,.int .i64 (List.getD L x1 ay).nu,.int .i64 (List.getD L x1 ay).at_,.int .i64 (List.getD L x1 ay).ki,.int .i64 (List.getD L x1 ay).sh,.int .i64 (List.getD L x1 ay).ce,.int .i64 (List.getD L x1 ay).va]:List Value))/\((List.take (1*7) (List.drop 0 ([.int .i64 (List.getD L x1 ay).au,.int .i64 (List.getD L x1 ay).nu,.int .i64 (List.getD L x1 ay).at_,.int .i64 (List.getD L x1 ay).ki,.int .i64 (List.getD L x1 ay).sh,.int .i64 (List.getD L x1 ay).ce,.int .i64 (List.getD L x1 ay).va]:List Value))):List Value).all (fun v=>cO v)=true)/\true=true/\∃x0':List Nat,(fC L x0')/\(List.length L-List.length x0')<(List.length L-List.length x0)/\true=true/\((.func (.yield 4) #[] #[]:Value) = .func (.yield 4) #[] #[]/\(.pointer (some ⟨5,0,none⟩):Value) = .pointer (some ⟨5,0,none⟩)/\True)/\(wkO (.cells true 0 [.slice (some ⟨10,0,none⟩) ((List.length (cB L x0))+1) ((List.length (cB L x0))+1)]:ab) (rno (sg 6 [(6,10)]) 3 (.cells true 0 [.slice (some ⟨6,0,some 1⟩) (List.length (cB L x0')) (List.length (cB L x0'))]:ab))/\(some (.iter 1 (List.length (aq L)) (x0 ++ [x1]):ab)=some (.iter 1 (List.length (aq L)) x0':ab)/\aj 6 (.iter 1 (List.length (aq L)) x0':ab)=true)/\True)/\((some (.cells true 7 ((List.take ((List.length (cB L x0))*7) (List.drop 0 (List.flatMap bL (cB L x0))))++(List.take (1*7) (List.drop 0 ([.int .i64 (List.getD L x1 ay).au,.int .i64 (List.getD L x1 ay).nu,.int .i64 (List.getD L x1 ay).at_,.int .i64 (List.getD L x1 ay).ki,.int .i64 (List.getD L x1 ay).sh,.int .i64 (List.getD L x1 ay).ce,.int .i64 (List.getD L x1 ay).va]:List Value)))):ab)=some (.cells true 7 (List.flatMap bL (cB L x0')):ab)/\aj 6 (.cells true 7 (List.flatMap bL (cB L x0')):ab)=true)/\True)/\(mG prog 251 0/\(.func (.func 217) #[] #[.pointer (some ⟨2,0,none⟩)]:Value) = .func (.func 217) #[] #[.pointer (some ⟨2,0,none⟩)]/\(.slice none 0 0:Value) = .slice none 0 0/\(.pointer (some ⟨3,0,none⟩):Value) = .pointer (some ⟨3,0,none⟩)/\(.slice none 0 0:Value) = .slice none 0 0/\(.func (.func 217) #[] #[.pointer (some ⟨2,0,none⟩)]:Value) = .func (.func 217) #[] #[.pointer (some ⟨2,0,none⟩)]/\True)/\True)))/\((∀x1:Nat,x1<(List.length (aq L))->x1∈x0)->(((some (.cells true 7 (List.flatMap bL (cB L x0)):ab)=some (.cells true 7 (List.flatMap bL (cB L x0)):ab))/\True)/\(∀H':Heap,H'.length=7->(H'[6]?=some (.cells true 7 (List.flatMap bL (cB L x0)):ab)/\True)->ad prog 216 [.slice (some ⟨6,0,some 1⟩) (List.length (cB L x0)) (List.length (cB L x0)),.func (.func 160) #[] #[]] H' [6] (Is (.tuple #[]) (List.set H' 6 (.cells true 7 (List.flatMap bL (aI (cB L x0))):ab))))/\true=true/\wk (.slice (some ⟨6,0,some 1⟩) (List.length (cB L x0)) (List.length (cB L x0)):Value) (rn (sg 2 [(2,6)]) 3 (.slice (some ⟨2,0,some 1⟩) (List.length (aI L)) (List.length (aI L)):Value))/\(some (.cells true 7 (List.flatMap bL (aI (cB L x0))):ab)=some (.cells true 7 (List.flatMap bL (aI L)):ab)/\aj 2 (.cells true 7 (List.flatMap bL (aI L)):ab)=true)/\True))))
theorem GF(L:List Msg):vF prog msk (dm 0) 100000 true 40 true 95 [.pointer (some ⟨0,0,none⟩)] (aW [.cells true 0 [.map (some 1)],.map (aq L)]) (some [])
 (.go 19 (.into (some [3]) (.go 1 (.inv 3 (List Nat) (([]:List Nat)) [] [3,5,4] (fun x0=>[(0,.func (.yield 4) #[] #[]),(5,.pointer (some ⟨5,0,none⟩))]) (fun x0=>[(3,false,.cells true 0 [.slice (some ⟨6,0,some 1⟩) (List.length (cB L x0)) (List.length (cB L x0))]),(5,true,.iter 1 (List.length (aq L)) x0)]) (fun x0=>[(true,.cells true 7 (List.flatMap bL (cB L x0)))]) (fun x0=>[(4,[(6,.func (.func 217) #[] #[.pointer (some ⟨2,0,none⟩)]),(4,.slice none 0 0),(2,.pointer (some ⟨3,0,none⟩)),(0,.slice none 0 0),(1,.func (.func 217) #[] #[.pointer (some ⟨2,0,none⟩)])])]) (fun x0=>(fC L x0)) (fun x0=>(List.length L-List.length x0)) (fun x0 => .nxt (fun x1 => .go 1 (.val (.tuple #[.agg #[.int .i64 (List.getD L x1 ay).au,.int .i64 (List.getD L x1 ay).nu,.int .i64 (List.getD L x1 ay).at_,.int .i64 (List.getD L x1 ay).ki,.int .i64 (List.getD L x1 ay).sh,.int .i64 (List.getD L x1 ay).ce,.int .i64 (List.getD L x1 ay).va],.bool true]) (.go 4 (.into (some [3,5,4,6,7]) (.go 4 (.need (.go 2 (.again [(6,10)])))))))) (.go 7 (.mn [(6,.cells true 7 (List.flatMap bL (cB L x0)))] (.tuple #[]) [(6,.cells true 7 (List.flatMap bL (aI (cB L x0))))] [] (.go 2 (.again [(2,6)])))))))))
 (ca ((aW [.cells true 0 [.map (some 1)],.map (aq L)]):HT).n 3 (.slice (some ⟨2,0,some 1⟩) (List.length (aI L)) (List.length (aI L))) [(true,.cells true 7 (List.flatMap bL (aI L)))])=us L:=by kernel_rfl
def El(sp:Value)(a b:Msg):Prop :=
 ((.int .i64 (IntKind.wrap .i64 (a.au-b.au)):Value) = .int .i64 (a.au-b.au)/\(.int .i64 (IntKind.wrap .i64 (a.nu-b.nu)):Value) = .int .i64 (a.nu-b.nu)/\(.int .i64 (IntKind.wrap .i64 (a.at_-b.at_)):Value) = .int .i64 (a.at_-b.at_)/\(.int .i64 (IntKind.wrap .i64 (a.ki-b.ki)):Value) = .int .i64 (a.ki-b.ki)/\(.int .i64 (IntKind.wrap .i64 (a.sh-b.sh)):Value) = .int .i64 (a.sh-b.sh)/\(.int .i64 (IntKind.wrap .i64 (a.ce-b.ce)):Value) = .int .i64 (a.ce-b.ce)/\(.int .i64 (IntKind.wrap .i64 (a.va-b.va)):Value) = .int .i64 (a.va-b.va)/\((((a.au-b.au):Int) != 0)=true->(.int .i64 (a.au-b.au):Value)=sp)/\((((a.au-b.au):Int) != 0)=false->(((((a.nu-b.nu):Int) != 0)=true->(.int .i64 (a.nu-b.nu):Value)=sp)/\((((a.nu-b.nu):Int) != 0)=false->(((((a.at_-b.at_):Int) != 0)=true->(.int .i64 (a.at_-b.at_):Value)=sp)/\((((a.at_-b.at_):Int) != 0)=false->(((((a.ki-b.ki):Int) != 0)=true->(.int .i64 (a.ki-b.ki):Value)=sp)/\((((a.ki-b.ki):Int) != 0)=false->(((((a.sh-b.sh):Int) != 0)=true->(.int .i64 (a.sh-b.sh):Value)=sp)/\((((a.sh-b.sh):Int) != 0)=false->(((((a.ce-b.ce):Int) != 0)=true->(.int .i64 (a.ce-b.ce):Value)=sp)/\((((a.ce-b.ce):Int) != 0)=false->(((((a.va-b.va):Int) != 0)=true->(.int .i64 (a.va-b.va):Value)=sp)/\((((a.va-b.va):Int) != 0)=false->(.int .i64 0:Value)=sp))))))))))))))
theorem J8(sp:Value)(a b:Msg):vF prog msk (dm 0) 100000 true 40 true 160 [.agg #[.int .i64 a.au,.int .i64 a.nu,.int .i64 a.at_,.int .i64 a.ki,.int .i64 a.sh,.int .i64 a.ce,.int .i64 a.va],.agg #[.int .i64 b.au,.int .i64 b.nu,.int .i64 b.at_,.int .i64 b.ki,.int .i64 b.sh,.int .i64 b.ce,.int .i64 b.va]] ⟨0,.leaf⟩ (some [])
 (.go 7 (.slot 9 (.int .i64 (a.au-b.au)) (.go 4 (.slot 14 (.int .i64 (a.nu-b.nu)) (.go 4 (.slot 19 (.int .i64 (a.at_-b.at_)) (.go 4 (.slot 24 (.int .i64 (a.ki-b.ki)) (.go 4 (.slot 29 (.int .i64 (a.sh-b.sh)) (.go 4 (.slot 34 (.int .i64 (a.ce-b.ce)) (.go 4 (.slot 39 (.int .i64 (a.va-b.va)) (.go 14 (.fork (.auto) (.go 9 (.fork (.auto) (.go 9 (.fork (.auto) (.go 9 (.fork (.auto) (.go 9 (.fork (.auto) (.go 9 (.fork (.auto) (.go 9 (.fork (.auto) (.auto)))))))))))))))))))))))))))))
 (fun v _ _=>v=sp)=El sp a b:=by kernel_rfl
def JR(sp:Value)  : Prop :=
 (.tuple #[]:Value)=sp
theorem J4(sp:Value)  : vF prog msk (dm 0) 100000 true 40 true 216 [.slice (some ⟨0,0,some 1⟩) 0 0,.func (.func 160) #[] #[]] ⟨0,.leaf⟩ (some [])
 (.auto)
 (fun v _ _=>v=sp)=JR sp :=by kernel_rfl
end
end Go.Proofs.YtbgfjemppjhmjaaGreat
namespace Go.Proofs.YtbgfjemppjhmjaaGreat
open Go Go.Shelf
def AD:Go.Shelf.Ren:=⟨fun|6=>216|15=>154|14=>252|28=>213|29=>214|20=>227|21=>271|22=>272|23=>273|24=>274|25=>275|26=>276|27=>277|46=>282|47=>247|48=>248|49=>283|50=>284|57=>286|n=>n,fun|22=>56|24=>64|25=>195|3=>3|39=>258|0=>0|53=>302|55=>304|4=>4|46=>295|45=>294|50=>299|5=>5|9=>9|66=>323|70=>138|76=>339|77=>340|n=>n,fun|n=>n⟩
theorem KK:Go.Proofs.SlLaysF0.n6 Tryz.prog AD:={
 mixed:=by kernel_rfl
 f6:=⟨Tryz.f216.name,by decide,Tryz.func216.trans (congrArg some (by kernel_rfl))⟩
 f14:=⟨Tryz.f252.name,by decide,Tryz.func252.trans (congrArg some (by kernel_rfl))⟩
 f15:=Tryz.func154.trans (congrArg some (by kernel_rfl))
 f20:=⟨Tryz.f227.name,by decide,Tryz.func227.trans (congrArg some (by kernel_rfl))⟩
 f21:=⟨Tryz.f271.name,by decide,Tryz.func271.trans (congrArg some (by kernel_rfl))⟩
 f22:=⟨Tryz.f272.name,by decide,Tryz.func272.trans (congrArg some (by kernel_rfl))⟩
 f23:=⟨Tryz.f273.name,by decide,Tryz.func273.trans (congrArg some (by kernel_rfl))⟩
 f24:=⟨Tryz.f274.name,by decide,Tryz.func274.trans (congrArg some (by kernel_rfl))⟩
 f25:=⟨Tryz.f275.name,by decide,Tryz.func275.trans (congrArg some (by kernel_rfl))⟩
 f26:=⟨Tryz.f276.name,by decide,Tryz.func276.trans (congrArg some (by kernel_rfl))⟩
 f27:=⟨Tryz.f277.name,by decide,Tryz.func277.trans (congrArg some (by kernel_rfl))⟩
 f28:=Tryz.func213.trans (congrArg some (by kernel_rfl))
 f29:=Tryz.func214.trans (congrArg some (by kernel_rfl))
 f46:=⟨Tryz.f282.name,by decide,Tryz.func282.trans (congrArg some (by kernel_rfl))⟩
 f47:=Tryz.func247.trans (congrArg some (by kernel_rfl))
 f48:=Tryz.func248.trans (congrArg some (by kernel_rfl))
 f49:=⟨Tryz.f283.name,by decide,Tryz.func283.trans (congrArg some (by kernel_rfl))⟩
 f50:=⟨Tryz.f284.name,by decide,Tryz.func284.trans (congrArg some (by kernel_rfl))⟩
 f57:=⟨Tryz.f286.name,by decide,Tryz.func286.trans (congrArg some (by kernel_rfl))⟩
 t0:=Tryz.underlying0
 a0:=Tryz.isAgg0
 z0:=Tryz.sizeOf0
 v0:=Tryz.zeroValue0
 t3:=Tryz.underlying3
 a3:=Tryz.isAgg3
 z3:=Tryz.sizeOf3
 v3:=Tryz.zeroValue3
 t4:=Tryz.underlying4
 a4:=Tryz.isAgg4
 z4:=Tryz.sizeOf4
 v4:=Tryz.zeroValue4
 t5:=Tryz.underlying5
 a5:=Tryz.isAgg5
 z5:=Tryz.sizeOf5
 v5:=Tryz.zeroValue5
 t9:=Tryz.underlying9
 a9:=Tryz.isAgg9
 z9:=Tryz.sizeOf9
 v9:=Tryz.zeroValue9
 t22:=Tryz.underlying56
 a22:=Tryz.isAgg56
 z22:=Tryz.sizeOf56
 v22:=Tryz.zeroValue56
 t25:=Tryz.underlying195
 a25:=Tryz.isAgg195
 z25:=Tryz.sizeOf195
 v25:=Tryz.zeroValue195
 t39:=Tryz.underlying258
 a39:=Tryz.isAgg258
 z39:=Tryz.sizeOf258
 v39:=Tryz.zeroValue258
 t45:=Tryz.underlying294
 a45:=Tryz.isAgg294
 z45:=Tryz.sizeOf294
 v45:=Tryz.zeroValue294
 t46:=Tryz.underlying295
 a46:=Tryz.isAgg295
 z46:=Tryz.sizeOf295
 v46:=Tryz.zeroValue295
 t50:=Tryz.underlying299
 a50:=Tryz.isAgg299
 z50:=Tryz.sizeOf299
 v50:=Tryz.zeroValue299
 t53:=Tryz.underlying302
 a53:=Tryz.isAgg302
 z53:=Tryz.sizeOf302
 v53:=Tryz.zeroValue302
 t55:=Tryz.underlying304
 a55:=Tryz.isAgg304
 z55:=Tryz.sizeOf304
 v55:=Tryz.zeroValue304
 t66:=Tryz.underlying323
 a66:=Tryz.isAgg323
 z66:=Tryz.sizeOf323
 v66:=Tryz.zeroValue323
 t70:=Tryz.underlying138
 a70:=Tryz.isAgg138
 z70:=Tryz.sizeOf138
 v70:=Tryz.zeroValue138
 t76:=Tryz.underlying339
 a76:=Tryz.isAgg339
 z76:=Tryz.sizeOf339
 v76:=Tryz.zeroValue339
 t77:=Tryz.underlying340
 a77:=Tryz.isAgg340
 z77:=Tryz.sizeOf340
 v77:=Tryz.zeroValue340 }
def AC:Go.Shelf.Ren:=⟨fun|6=>81|15=>154|14=>153|28=>213|29=>214|20=>205|21=>206|22=>207|23=>208|24=>209|25=>210|26=>211|27=>212|46=>246|47=>247|48=>248|49=>249|50=>250|57=>270|n=>n,fun|22=>41|24=>47|25=>177|3=>3|39=>258|0=>0|53=>302|55=>304|4=>4|46=>295|45=>294|50=>299|5=>5|9=>9|66=>323|70=>138|76=>339|77=>340|n=>n,fun|n=>n⟩
theorem KJ:Go.Proofs.SlLaysF0.n6 Tryz.prog AC:={
 mixed:=by kernel_rfl
 f6:=⟨Tryz.f81.name,by decide,Tryz.func81.trans (congrArg some (by kernel_rfl))⟩
 f14:=⟨Tryz.f153.name,by decide,Tryz.func153.trans (congrArg some (by kernel_rfl))⟩
 f15:=Tryz.func154.trans (congrArg some (by kernel_rfl))
 f20:=⟨Tryz.f205.name,by decide,Tryz.func205.trans (congrArg some (by kernel_rfl))⟩
 f21:=⟨Tryz.f206.name,by decide,Tryz.func206.trans (congrArg some (by kernel_rfl))⟩
 f22:=⟨Tryz.f207.name,by decide,Tryz.func207.trans (congrArg some (by kernel_rfl))⟩
 f23:=⟨Tryz.f208.name,by decide,Tryz.func208.trans (congrArg some (by kernel_rfl))⟩
 f24:=⟨Tryz.f209.name,by decide,Tryz.func209.trans (congrArg some (by kernel_rfl))⟩
 f25:=⟨Tryz.f210.name,by decide,Tryz.func210.trans (congrArg some (by kernel_rfl))⟩
 f26:=⟨Tryz.f211.name,by decide,Tryz.func211.trans (congrArg some (by kernel_rfl))⟩
 f27:=⟨Tryz.f212.name,by decide,Tryz.func212.trans (congrArg some (by kernel_rfl))⟩
 f28:=Tryz.func213.trans (congrArg some (by kernel_rfl))
 f29:=Tryz.func214.trans (congrArg some (by kernel_rfl))
 f46:=⟨Tryz.f246.name,by decide,Tryz.func246.trans (congrArg some (by kernel_rfl))⟩
 f47:=Tryz.func247.trans (congrArg some (by kernel_rfl))
 f48:=Tryz.func248.trans (congrArg some (by kernel_rfl))
 f49:=⟨Tryz.f249.name,by decide,Tryz.func249.trans (congrArg some (by kernel_rfl))⟩
 f50:=⟨Tryz.f250.name,by decide,Tryz.func250.trans (congrArg some (by kernel_rfl))⟩
 f57:=⟨Tryz.f270.name,by decide,Tryz.func270.trans (congrArg some (by kernel_rfl))⟩
 t0:=Tryz.underlying0
 a0:=Tryz.isAgg0
 z0:=Tryz.sizeOf0
 v0:=Tryz.zeroValue0
 t3:=Tryz.underlying3
 a3:=Tryz.isAgg3
 z3:=Tryz.sizeOf3
 v3:=Tryz.zeroValue3
 t4:=Tryz.underlying4
 a4:=Tryz.isAgg4
 z4:=Tryz.sizeOf4
 v4:=Tryz.zeroValue4
 t5:=Tryz.underlying5
 a5:=Tryz.isAgg5
 z5:=Tryz.sizeOf5
 v5:=Tryz.zeroValue5
 t9:=Tryz.underlying9
 a9:=Tryz.isAgg9
 z9:=Tryz.sizeOf9
 v9:=Tryz.zeroValue9
 t22:=Tryz.underlying41
 a22:=Tryz.isAgg41
 z22:=Tryz.sizeOf41
 v22:=Tryz.zeroValue41
 t25:=Tryz.underlying177
 a25:=Tryz.isAgg177
 z25:=Tryz.sizeOf177
 v25:=Tryz.zeroValue177
 t39:=Tryz.underlying258
 a39:=Tryz.isAgg258
 z39:=Tryz.sizeOf258
 v39:=Tryz.zeroValue258
 t45:=Tryz.underlying294
 a45:=Tryz.isAgg294
 z45:=Tryz.sizeOf294
 v45:=Tryz.zeroValue294
 t46:=Tryz.underlying295
 a46:=Tryz.isAgg295
 z46:=Tryz.sizeOf295
 v46:=Tryz.zeroValue295
 t50:=Tryz.underlying299
 a50:=Tryz.isAgg299
 z50:=Tryz.sizeOf299
 v50:=Tryz.zeroValue299
 t53:=Tryz.underlying302
 a53:=Tryz.isAgg302
 z53:=Tryz.sizeOf302
 v53:=Tryz.zeroValue302
 t55:=Tryz.underlying304
 a55:=Tryz.isAgg304
 z55:=Tryz.sizeOf304
 v55:=Tryz.zeroValue304
 t66:=Tryz.underlying323
 a66:=Tryz.isAgg323
 z66:=Tryz.sizeOf323
 v66:=Tryz.zeroValue323
 t70:=Tryz.underlying138
 a70:=Tryz.isAgg138
 z70:=Tryz.sizeOf138
 v70:=Tryz.zeroValue138
 t76:=Tryz.underlying339
 a76:=Tryz.isAgg339
 z76:=Tryz.sizeOf339
 v76:=Tryz.zeroValue339
 t77:=Tryz.underlying340
 a77:=Tryz.isAgg340
 z77:=Tryz.sizeOf340
 v77:=Tryz.zeroValue340 }
end Go.Proofs.YtbgfjemppjhmjaaGreat
namespace Go.K
variable {P:Program}
theorem Rel.world{B:Nat}{Y:Ren}{H:Heap}{w W:World}(hr:Rel P B Y H w)(b0:Nat)(hsz:w.heap.size<=W.heap.size)(hsame:∀b,b<w.heap.size->b≠b0->W.heap[b]?=w.heap[b]?)
  (hfree:∀id r o,Y id=some r->H[id]?=some o->o.alive=true->r.b≠b0) (hmem:∀m,Y.mem b0=some m->False) (hfb:¬ FB Y H b0):Rel P B Y H W:=by
 refine ⟨Nat.le_trans hr.bsize hsz,hr.dS,hr.dom,fun id r h=>Nat.lt_of_lt_of_le (hr.lt id r h) hsz,fun id r o h1 h2 =>?_,hr.base,hr.sep,fun b m hb=>⟨?_,(hr.mem b m hb).2⟩,
  hr.fam.keep (Ren.le_refl _) (fun _ _ _ h=>h) (fun _ _ _ _ h=>h) (Nat.le_refl _) hsz (fun b hb=>by
   rcases Nat.lt_or_ge b w.heap.size with hl|hl
   ·exact hsame b hl (fun e=>hfb (e ▸ hb))
   ·exact absurd hb (hr.fam.qg hl)) (fun id r o a b c=>hr.fam.free a b c) (fun b m h=>hr.fam.fK h)⟩
 ·by_cases hal:o.alive=true
  ·exact (hr.obj id r o h1 h2).mono (Ren.le_refl _) (hsame _ (hr.lt id r h1) (hfree id r o h1 h2 hal))
  ·cases o <;> first|trivial|exact absurd rfl hal
 ·obtain ⟨ty,fz,e⟩:=(hr.mem b m hb).1
  have hne:b≠b0:=by rintro rfl;exact hmem m hb
  exact ⟨ty,fz,(hsame b (Array.getElem?_eq_some_iff.1 e).1 hne).trans e⟩
theorem Post.grown{B base:Nat}{M:List Nat}{Y ρ':Ren}{H H':Heap}{w w1 w2:World}(p:Post P B base M Y H w ρ' H' w1)(hsz:w1.heap.size<=w2.heap.size)(hsame:∀b,b<w1.heap.size->w2.heap[b]?=w1.heap[b]?)
  (hos:w2.os=w1.os) (ht:w2.tape=w1.tape) (ho:w2.output=w1.output) (hd:w1.drawn<=w2.drawn):Post P B base M Y H w ρ' H' w2:=by
 have hlt:∀id r o,ρ' id=some r->H'[id]?=some o->o.alive=true->r.b≠w1.heap.size:=fun id r o h1 _ _=>by have:=p.rel.lt id r h1;omega
 have hm:∀m,ρ'.mem w1.heap.size=some m->False:=fun m h=>by
  obtain ⟨ty,fz,e⟩:=(p.rel.mem _ m h).1
  have:=(Array.getElem?_eq_some_iff.1 e).1;omega
 exact ⟨p.rel.world w1.heap.size hsz (fun b h _=>hsame b h) hlt hm (p.rel.fam.qg (Nat.le_refl _)),p.ext,p.new,p.len,p.same,Nat.le_trans p.size hsz,fun b h1 h2=>(hsame b (Nat.lt_of_lt_of_le h1 p.size)).trans (p.keep b h1 h2),p.ob,hos.trans p.os,ht.trans p.tape,ho.trans p.output,p.frz,Nat.le_trans p.drawn hd,p.lV⟩
theorem Bv{w w':World}(hos:w'.os=w.os)(ht:w'.tape=w.tape)(ho:w'.output=w.output)(hd:w.drawn<=w'.drawn)(hsz:w.heap.size<=w'.heap.size)(hsame:∀b,b<w.heap.size->w'.heap[b]?=w.heap[b]?) :
  ∃q os',w'=Sort.grow (w.drewN q) os':=by
 refine ⟨w'.drawn-w.drawn,w'.heap.extract w.heap.size w'.heap.size,?_⟩
 obtain ⟨h,t,d,o,u⟩:=w
 obtain ⟨h',t',d',o',u'⟩:=w'
 simp only at hos ht ho hd hsz hsame
 subst hos ht ho
 unfold Sort.grow World.drewN
 simp only[World.mk.injEq,true_and,and_true]
 refine ⟨?_,by omega⟩
 apply Array.ext_getElem?
 intro i
 rw[Array.getElem?_append]
 split
 ·rename_i hi;exact hsame i hi
 ·rename_i hi
  rw[Array.getElem?_extract]
  simp only[Nat.min_self]
  split
  ·congr 1;omega
  ·rw[Array.getElem?_eq_none (by omega)]
theorem ad.everywhere{g:FuncId}{args:List Value}{n:Nat}{v:Value}(h:ad P g args (List.replicate n .dead) [] (Is v (List.replicate n .dead))){B:Nat}{Y:Ren}{H:Heap}{W:World}(hr:Rel P B Y H W)(hn:H.length<=n){args':Array Value}(ha:VRl Y args args'.toList) :
  Calls P g args' W fun e w'=>(∃v',e = .returned v'/\∃ρ',VR ρ' v v')/\∃q os',w'=Sort.grow (W.drewN q) os':=by
 have eY:∀(id:Nat) (o:ab),(List.replicate n ab.dead)[id]?=some o->o = .dead:=fun id o ho=>by
  rw[List.getElem?_replicate]at ho
  split at ho
  ·cases ho;rfl
  ·cases ho
 have hrg:Rel P B Y (List.replicate n .dead) W:=by
  refine ⟨hr.bsize,hr.dS,fun id r h1 =>?_,hr.lt,fun id r o h1 h2 =>?_,fun id r o h1 h2 h3 =>?_,fun id id' r r' o o' h1 h1' h2 h2' h3 _ _ =>?_,fun b m hm=>⟨(hr.mem b m hm).1,fun id r o h1 h2 h3 =>?_⟩,iL.vk (fun F k r h=>by rw[List.length_replicate];exact Nat.lt_of_lt_of_le (hr.fam.dom F k r h) hn) hr.fam.lt (fun F z cs h=>by cases eY F _ h)⟩
  ·rw[List.length_replicate];exact Nat.lt_of_lt_of_le (hr.dom id r h1) hn
  ·rw[eY id o h2];trivial
  ·rw[eY id o h2]at h3;cases h3
  ·rw[eY id o h2]at h3;cases h3
  ·rw[eY id o h2]at h3;cases h3
 have hob:∀b,¬ OB Y (List.replicate n .dead) b:=by
  rintro b (⟨id,r,o,h1,h2,h3,_⟩|⟨F,k,r,z,cs,m,_⟩)
  ·rw[eY id o h2]at h3;cases h3
  ·cases eY F _ m.h
 refine callsIn_wide.1 ((h.2 B Y W args' hrg ha).mono ?_)
 rintro e w' ⟨v1,v',ρ',H',rfl,hv',hp,rfl,rfl⟩
 exact ⟨⟨v',rfl,ρ',hv'⟩,Bv hp.os hp.tape hp.output hp.drawn hp.size (fun b hb=>hp.keep b hb (hob b))⟩
end Go.K
namespace Go.K
open Go Go.Proofs Go.RowKit Go.Lib Go.Sort
variable {P:Program}
theorem mV{β:Type}(dv:β->List Value)(k:Nat)(hk:∀x,(dv x).length=k)(k0:0<k):∀(L:List β) (t:Nat),(L.flatMap dv)[t]?=(L[t / k]?).bind fun x=>(dv x)[t % k]?
 | [],t=>by simp
 |x :: L,t=>by
  rw[List.flatMap_cons]
  by_cases h:t<k
  ·rw[List.getElem?_append_left (by rw[hk];exact h),Nat.div_eq_of_lt h,Nat.mod_eq_of_lt h];rfl
  ·rw[List.getElem?_append_right (by rw[hk];omega),hk,mV dv k hk k0 L (t-k)]
   have e1:t / k=(t-k) / k+1:=by rw[Nat.div_eq_sub_div k0 (by omega)]
   have e2:(t-k) % k=t % k:=(Nat.mod_eq_sub_mod (by omega)).symm
   rw[e1,e2];rfl
theorem sB{β:Type}(dv:β->List Value)(k:Nat)(hk:∀x,(dv x).length=k):∀(L:List β),(L.flatMap dv).length=L.length*k
 | [] =>by simp
 |x :: L=>by rw[List.flatMap_cons,ao,hk,sB dv k hk L,List.length_cons,Nat.succ_mul,Nat.add_comm]
theorem pR{R:Go.Shelf.Ren}(L:SlLaysF0.n6 P R)(k:Nat)(k0:0<k)(aE:∀w,(isAgg (R.t 24)).run P w = .ok true w)(zE:∀w,(Go.sizeOf (R.t 24)).run P w = .ok k w)
  {β:Type} (dv:β->List Value) (hk:∀x,(dv x).length=k) (cf:β->β->Int) (hO:SWO (ltOf cf)) (g:Nat)
  (hone:∀(Y:K.Ren) (x:β) (v v':Value),v∈dv x->VR Y v v'->v'.oneCell'=true) (eg:∀args w,(callFunc g args).run P w = .ok (.enter g args) w) (ef:Enters P (R.f 6))
  (hcmp:∀x y n,ad P g [.agg (dv x).toArray,.agg (dv y).toArray] (List.replicate n .dead) [] (Is (.int .i64 (cf x y)) (List.replicate n .dead)))
  {H:Heap} {id:Nat} {tag:Option Nat} (htag:tag=none∨tag=some 1) {L0:List β} (h0:0<L0.length) (hlen:L0.length<4611686018427387904) (ho:H[id]?=some (.cells true k (L0.flatMap dv)))
  {Q:Value->Heap->Prop} (hQ:∀L1:List β,L1.Perm L0->L1.Pairwise (fun x y=>ltOf cf y x=false)->Q (.tuple #[]) (H.set id (.cells true k (L1.flatMap dv)))) :
  ad P (R.f 6) [.slice (some ⟨id,0,tag⟩) L0.length L0.length,.func (.func g) #[] #[]] H [id] Q:=by
 refine ⟨ef,fun B Y w args' hr ha =>?_⟩
 obtain ⟨x',f',rfl⟩:∃x' f',args' = #[x',f']:=by
  have hl:=ha.1
  obtain ⟨l⟩:=args'
  match l,hl with
  | [a,b],_=>exact ⟨a,b,rfl⟩
 have hx:=ha.2 0 _ _ rfl rfl
 have hf:=ha.2 1 _ _ rfl rfl
 obtain rfl:f' = .func (.func g) #[] #[]:=by
  cases hf with
  |func h1 h2 h3 h4 =>
   obtain rfl:=Array.eq_empty_of_size_eq_zero (by simpa using h1.symm)
   obtain rfl:=Array.eq_empty_of_size_eq_zero (by simpa using h3.symm)
   rfl
 obtain ⟨r,cap',hid,hcap,rfl⟩:∃r cap',Y id=some r/\L0.length<=cap'/\x' = .slice (some ⟨r.b,0+r.s,none⟩) L0.length cap':=by
  generalize L0.length=n at hx h0
  rcases htag with rfl|rfl
  ·cases hx with
   |slice h hl hc _=>exact ⟨_,_,h,Nat.le_trans hl hc,rfl⟩
   |br h=>exact absurd h0 (Nat.lt_irrefl 0)
  ·cases hx with
   |aY=>exact absurd h0 (Nat.lt_irrefl 0)
   |aX=>exact absurd h0 (Nat.lt_irrefl 0)
   |bz h hp hl hc _=>exact ⟨_,_,h,Nat.le_trans hl hc,rfl⟩
 rw[Nat.zero_add]
 have Jg:=hr.obj id r _ hid ho
 obtain ⟨ow,zz,cs',ty,fz,hb,hsz,hfz,hcs⟩:=Jg
 obtain rfl:=hfz rfl
 let α:={p:β×List Value // VRl Y (dv p.1) p.2}
 have hcell:∀(i:Nat) (hi:i<L0.length) (c:Nat) (hc:c<k),∃v',cs'[(i*k+c)+r.s]?=some v'/\VR Y ((dv L0[i])[c]'(by rw[hk];exact hc)) v':=fun i hi c hc=>by
  refine hcs (i*k+c) _ ?_
  have hm:(i*k+c) % k=c:=by rw[Nat.mul_comm,Nat.mul_add_mod];exact Nat.mod_eq_of_lt hc
  have hd:(i*k+c) / k=i:=by rw[Nat.mul_comm,Nat.mul_add_div k0,Nat.div_eq_of_lt hc,Nat.add_zero]
  rw[mV dv k hk k0,hd,hm,List.getElem?_eq_getElem hi]
  exact List.getElem?_eq_getElem _
 have hel:∀i:_root_.Fin L0.length,∃vs:List Value,(∀c,c<k->cs'[(i.1*k+c)+r.s]?=vs[c]?)/\VRl Y (dv L0[i.1]) vs:=fun i=>by
  refine ⟨(List.range k).map fun c=>(cs'[(i.1*k+c)+r.s]?).getD undef,fun c hc =>?_,by simp[hk],fun c v v' a b =>?_⟩
  ·obtain ⟨v',e,_⟩:=hcell i.1 i.2 c hc
   rw[List.getElem?_map,List.getElem?_range hc]
   show _=some ((cs'[(i.1*k+c)+r.s]?).getD undef)
   rw[e];rfl
  ·have hc:c<k:=by have:=(List.getElem?_eq_some_iff.1 a).1;rw[hk]at this;exact this
   obtain ⟨v2,e,hv⟩:=hcell i.1 i.2 c hc
   rw[List.getElem?_map,List.getElem?_range hc]at b
   have b:some ((cs'[(i.1*k+c)+r.s]?).getD undef)=some v':=b
   rw[e]at b
   rw[List.getElem?_eq_getElem (by rw[hk];exact hc)]at a
   cases a;cases b;exact hv
 let el:_root_.Fin L0.length->α:=fun i=>⟨(L0[i.1],Classical.choose (hel i)),(Classical.choose_spec (hel i)).2⟩
 have MD:∀i c,c<k->cs'[(i.1*k+c)+r.s]?=(el i).1.2[c]? := fun i=>(Classical.choose_spec (hel i)).1
 let d:Array α:=Array.ofFn el
 haveI:Inhabited α:=⟨el ⟨0,h0⟩⟩
 let enc:α->List Value:=fun p=>p.1.2
 have hke:∀x:α,(enc x).length=k:=fun x=>by rw[<- hk x.1.1];exact x.2.1.symm
 let cf2:α->α->Int:=fun x y=>cf x.1.1 y.1.1
 have hds:d.size=L0.length:=Array.size_ofFn
 have hO2:SWO (ltOf cf2):=⟨fun x=>hO.irrefl x.1.1,fun x y z=>hO.trans x.1.1 y.1.1 z.1.1,fun x y z=>hO.ntrans x.1.1 y.1.1 z.1.1⟩
 have hdi:∀j (hj:j<d.size),d[j]! = el ⟨j,by omega⟩:=fun j hj=>by
  rw[getElem!_pos d j hj];exact Array.getElem_ofFn hj
 have hdm:∀t,t<d.size*k->t / k<d.size:=fun t ht=>Nat.div_lt_of_lt_mul (by rwa [Nat.mul_comm]at ht)
 have hsplit:∀t,(t / k)*k+t % k=t:=fun t=>by rw[Nat.mul_comm];exact Nat.div_add_mod t k
 have hH:HoldsK enc k w r.b r.s d:=fun t ht=>by
  have ht':t<d.size*k:=by simpa using ht
  have hj:=hdm t ht'
  have hc:t % k<k:=Nat.mod_lt _ k0
  have e:=MD ⟨t / k,by omega⟩ (t % k) hc
  rw[hsplit]at e
  refine ⟨?_,by simp[World.frozen?,hb]⟩
  rw[get_flatK _ _ _ t ht',hdi _ hj]
  simp only[World.cell?,hb,Option.isSome_none,Bool.false_eq_true,if_false]
  rw[Nat.add_comm,e]
  have hl:t % k<(el ⟨t / k,by omega⟩).1.2.length:=by rw[hke (el ⟨t / k,by omega⟩)];exact hc
  rw[List.getElem?_eq_getElem hl]
  exact (congrArg some (getElem!_pos (el ⟨t / k,by omega⟩).1.2 (t % k) hl)).symm
 have hblk:=hr.lt id r hid
 have h1:∀x:α,∀v∈enc x,v.oneCell'=true:=fun x v hv=>by
  obtain ⟨c,hc,rfl⟩:=List.getElem_of_mem hv
  have hc':c<(dv x.1.1).length:=by rw[hk,<- hke x];exact hc
  exact hone Y x.1.1 _ _ (List.getElem_mem hc') (x.2.2 c _ _ (List.getElem?_eq_getElem hc') (List.getElem?_eq_getElem hc))
 have hcl:CmpLays P g #[] enc k cf2 r.b r.s d.size w:=by
  intro m os dk hdk x y
  have hrd:Rel P B Y (H.set id .dead) w:=(Post.kill (base:=0) (M:=[]) hr hid ho rfl (fun h=>absurd h (Nat.not_lt_zero _))).rel
  have hrW:Rel P B Y (H.set id .dead) (sortWorldK enc k w r.b r.s m dk os):=by
   refine hrd.world r.b ?_ ?_ ?_ ?_ (fun h=>hr.fam.free hid ho rfl (FB.Ck (fun _ _ h=>by cases h) h))
   ·simp[sortWorldK,grow,putRowK,putRow,mapBlock,ahead]
   ·intro b hb1 hb2
    simp only[sortWorldK,grow,putRowK,putRow,mapBlock,ahead]
    rw[Array.getElem?_append_left (by simpa using hb1),Array.getElem?_modify,if_neg (Ne.symm hb2)]
    rfl
   ·intro i x o g1 g2 g3
    by_cases e:i=id
    ·subst e;rw[List.getElem?_set_self (List.getElem?_eq_some_iff.1 ho).1]at g2;cases g2;cases g3
    ·rw[List.getElem?_set_ne (Ne.symm e)]at g2
     exact (hr.sep id i r x _ o hid g1 ho g2 rfl g3 (Ne.symm e)).symm
   ·exact fun m h=>(hr.mem _ m h).2 id r _ hid ho rfl rfl
  have hagg:∀x:α,VR Y (.agg (dv x.1.1).toArray) (.agg (enc x).toArray):=fun x =>
   .agg (by simpa using x.2.1) fun i v v' a b=>x.2.2 i v v' (by simpa using a) (by simpa using b)
  have hval:VRl Y [.agg (dv x.1.1).toArray,.agg (dv y.1.1).toArray] (#[.agg (enc x).toArray,.agg (enc y).toArray]:Array Value).toList:=by
   refine ⟨rfl,fun i a b g1 g2 =>?_⟩
   match i with
   |0=>cases g1;cases g2;exact hagg x
   |1=>cases g1;cases g2;exact hagg y
   |i+2=>cases g1
  refine (ad.everywhere (hcmp x.1.1 y.1.1 _) hrW (Nat.le_refl _) (args':=#[.agg (enc x).toArray,.agg (enc y).toArray]) hval).mono ?_
  rintro e w' ⟨⟨v',rfl,ρ',hv⟩,q,os',rfl⟩
  cases hv
  exact ⟨rfl,q,os',rfl⟩
 have hcon:=AnyQ.slices_SortFunc L k aE zE enc hke h1 cf2 hO2 g #[] r.b r.s cap' d w eg hcl hH hblk (by omega)
 rw[hds]at hcon
 refine callsIn_wide.2 (hcon.mono ?_)
 rintro e w' ⟨rfl,d',n1,os,hperm,F8,rfl⟩
 have hsz':d'.size=L0.length:=hperm.1.trans hds
 let c:α->β:=fun p=>p.1.1
 have hdc:d.toList.map c=L0:=by
  refine List.ext_getElem? fun i =>?_
  rw[List.getElem?_map,Array.getElem?_toList,Array.getElem?_ofFn]
  split
  ·rename_i hi;rw[List.getElem?_eq_getElem hi];rfl
  ·rename_i hi;rw[List.getElem?_eq_none (by omega)];rfl
 let L1:=d'.toList.map c
 have hp1:L1.Perm L0:=by
  have h:=hperm.2.2
  rw[show d'.extract 0 L0.length=d' from by rw[<- hsz'];simp,show d.extract 0 L0.length=d from by rw[<- hds];simp]at h
  have:=h.map c
  rw[hdc]at this
  exact this
 have hs1:L1.Pairwise (fun x y=>ltOf cf y x=false):=by
  refine List.pairwise_iff_getElem.2 fun i j hi hj hij =>?_
  have hi':i<d'.size:=by simpa[L1] using hi
  have hj':j<d'.size:=by simpa[L1] using hj
  have:=F8 i j (Nat.zero_le _) hij (by omega)
  rw[getElem!_pos d' i hi',getElem!_pos d' j hj']at this
  show ltOf cf (L1[j]) (L1[i])=false
  have e1:L1[j]=c d'[j]:=by simp[L1]
  have e2:L1[i]=c d'[i]:=by simp[L1]
  rw[e1,e2];exact this
 have hl1:L1.length=L0.length:=hp1.length_eq
 have hput:bh Y r (.cells true k (L1.flatMap dv)) (w.putObj r.b (.cells (putCells _root_.id r.s (flatK enc k d') cs') ty (0,0))):=by
  refine ⟨ow,zz,putCells _root_.id r.s (flatK enc k d') cs',ty,(0,0),World.putObj_heap_same hblk,by simp[putCells,hsz],fun _=>rfl,fun t v hv =>?_⟩
  have ht:t<L0.length*k:=by
   have:=(List.getElem?_eq_some_iff.1 hv).1;rwa [sB dv k hk,hl1]at this
  have hc:t % k<k:=Nat.mod_lt _ k0
  have hj:t / k<d'.size:=by rw[hsz'];exact Nat.div_lt_of_lt_mul (by rwa [Nat.mul_comm]at ht)
  obtain ⟨v0,e1,_⟩:=hcell (t / k) (by omega) (t % k) hc
  rw[hsplit]at e1
  rw[mV dv k hk k0,show L1[t / k]?=some (c d'[t / k]) from by simp[L1,hj]]at hv
  have hle:t % k<(enc d'[t / k]).length:=by rw[hke];exact hc
  refine ⟨(enc d'[t / k])[t % k],?_,d'[t / k].2.2 (t % k) v _ hv (List.getElem?_eq_getElem hle)⟩
  simp only[putCells,Array.getElem?_mapIdx,e1,Option.map_some]
  rw[if_pos ⟨by omega,by rw[size_flatK,hsz'];omega⟩,show t+r.s-r.s=t by omega,get_flatK _ _ _ t (by rw[hsz'];exact ht),getElem!_pos d' _ hj,show (enc d'[t / k])[t % k]! = (enc d'[t / k])[t % k] from getElem!_pos (enc d'[t / k]) (t % k) hle]
  rfl
 have p1:=Post.put (base:=H.length) (M:=[id]) hr hid ho rfl (by rw[hb];rfl) hput (fun _=>List.mem_singleton.2 rfl)
 have hheap:∀b,b<w.heap.size->(sortWorldK enc k w r.b r.s n1 d' os).heap[b]?=(w.putObj r.b (.cells (putCells _root_.id r.s (flatK enc k d') cs') ty (0,0))).heap[b]? := by
  intro b hb1
  simp only[sortWorldK,grow,putRowK,putRow,mapBlock,ahead]
  rw[Array.getElem?_append_left (by simpa using hb1),Array.getElem?_modify]
  by_cases e:r.b=b
  ·subst e
   rw[if_pos rfl,World.putObj_heap_same hblk]
   show Option.map (onCells _) w.heap[r.b]?=_
   rw[hb];rfl
  ·rw[if_neg e,World.putObj_heap_other (Ne.symm e)];rfl
 have p2:=p1.grown (w2:=sortWorldK enc k w r.b r.s n1 d' os) (by simp[sortWorldK,grow,putRowK,putRow,mapBlock,ahead,World.putObj]) (fun b hb1=>hheap b (by simpa[World.putObj] using hb1)) rfl rfl rfl (by simp[sortWorldK,grow,putRowK,putRow,mapBlock,ahead,World.putObj])
 exact ⟨.tuple #[],.tuple #[],Y,_,rfl,.tuple rfl (fun i a b h=>by simp at h),p2,hQ L1 hp1 hs1⟩
end Go.K
namespace Go.Proofs.YtbgfjemppjhmjaaGreat
open Go Go.K Go.Sort
noncomputable section
attribute [local irreducible] vF
theorem neB{x:Int}(h:(x != 0)=true):¬ x=0:=by simpa using h
theorem rh{x:Int}(h:(x != 0)=false):x=0:=by simpa using h
theorem IA{a b:Msg}(ha:okM a=true)(hb:okM b=true)(H:Heap):ad prog 160 [jf a,jf b] H [] (Is (.int .i64 (tp a b)) H):=by
 refine sT (v:=.int .i64 (tp a b)) (css:=[]) (ids:=[]) (Eq.mpr (J8 _ a b) ?_) (hv:=rfl) (hi:=trivial) (ha:=rfl)
 have h1:=hX ha
 have h2:=hX hb
 unfold El tp
 refine ⟨aG (by omega),aG (by omega),aG (by omega),aG (by omega),aG (by omega),aG (by omega),aG (by omega),?_⟩
 refine ⟨fun h=>by rw[rR (neB h)],fun h =>?_⟩
 rw[rS (rh h)]
 refine ⟨fun h=>by rw[rR (neB h)],fun h =>?_⟩
 rw[rS (rh h)]
 refine ⟨fun h=>by rw[rR (neB h)],fun h =>?_⟩
 rw[rS (rh h)]
 refine ⟨fun h=>by rw[rR (neB h)],fun h =>?_⟩
 rw[rS (rh h)]
 refine ⟨fun h=>by rw[rR (neB h)],fun h =>?_⟩
 rw[rS (rh h)]
 refine ⟨fun h=>by rw[rR (neB h)],fun h =>?_⟩
 rw[rS (rh h)]
 exact ⟨fun h=>rfl,fun h=>by rw[rh h]⟩
theorem oh {f : FuncId} {fn : Func} (hf : prog.funcs[f]? = some fn) (hname : (fn.name == "runtime.NumGoroutine") = false) (hb : fn.body.isSome = true) : Enters prog f := by
 obtain ⟨c,hc⟩:=Option.isSome_iff_exists.1 hb
 exact enters_of hf hname hc
theorem Gq:Enters prog 216:=oh Tryz.func216 (by kernel_rfl) (by kernel_rfl)
theorem Gp:Enters prog 160:=oh Tryz.func160 (by kernel_rfl) (by kernel_rfl)
abbrev sM:={m:Msg // okM m=true}
theorem Mi:SWO (ltOf fun x y:sM=>tp x.1 y.1):=by
 have h:∀x y:sM,ltOf (fun x y:sM=>tp x.1 y.1) x y=decide (iW x.1<iW y.1):=fun x y=>decide_eq_decide.2 (yX x.2 y.2)
 refine ⟨fun x =>?_,fun x y z h1 h2 =>?_,fun x y z h1 h2 =>?_⟩
 ·rw[h];exact decide_eq_false (by omega)
 ·rw[h]at h1 h2 ⊢;have:=av h1;have:=av h2;exact decide_eq_true (by omega)
 ·rw[h]at h1 h2 ⊢;have:=aA h1;have:=aA h2;exact decide_eq_false (by omega)
theorem hZ(m:Msg):(bL m).length=7:=rfl
theorem G7:∀(L:List Msg),(∀m∈L,okM m=true)->∃L':List sM,L'.map (·.1)=L
 | [],_=>⟨[],rfl⟩
 |m :: L,h=>by
  obtain ⟨L',e⟩:=G7 L fun x hx=>h x (List.mem_cons_of_mem _ hx)
  exact ⟨⟨m,h m (List.mem_cons_self ..)⟩ :: L',by rw[List.map_cons,e]⟩
theorem ud:∀(L':List sM),L'.flatMap (fun x=>bL x.1)=(L'.map (·.1)).flatMap bL
 | [] =>rfl
 |x :: L'=>by rw[List.flatMap_cons,ud L'];rfl
theorem aM{α:Type}{l:List α}{i:Nat}{x:α}(h:l[i]?=some x):l.set i x=l:=by
 refine List.ext_getElem? fun k =>?_
 rw[List.getElem?_set]
 split
 ·rename_i e;subst e
  rw[if_pos (List.getElem?_eq_some_iff.1 h).1,h]
 ·rfl
theorem Iz{L0:List Msg}(hk:∀m∈L0,okM m=true)(hl:L0.length<4000000){H:Heap}{id:Nat}(ho:H[id]?=some (.cells true 7 (L0.flatMap bL))) :
  ad prog 216 [.slice (some ⟨id,0,some 1⟩) L0.length L0.length,.func (.func 160) #[] #[]] H [id] (Is (.tuple #[]) (H.set id (.cells true 7 ((aI L0).flatMap bL)))):=by
 rcases Nat.eq_zero_or_pos L0.length with h0|h0
 ·have e:L0=[]:=List.length_eq_zero_iff.1 h0
  subst e
  have key:ad prog 216 [.slice (some ⟨0,0,some 1⟩) 0 0,.func (.func 160) #[] #[]] H [] (Is (.tuple #[]) H) :=
   sT (v:=.tuple #[]) (css:=[]) (ids:=[]) (Eq.mpr (J4 _) rfl) (hv:=rfl) (hi:=trivial) (ha:=rfl)
  have e2:aI []=[]:=List.length_eq_zero_iff.1 (by rw[jL];rfl)
  rw[e2,aM ho]
  exact (ad.wkA (args:=[.slice (some ⟨id,0,some 1⟩) 0 0,.func (.func 160) #[] #[]]) key (ak (Kv _ _ _ _) (ak (aa _) ac))).mono (fun _ h _=>by cases h) (fun _ _ h=>h)
 ·obtain ⟨L',e⟩:=G7 L0 hk
  have hl':L'.length=L0.length:=by rw[<- e,List.length_map]
  rw[<- e,<- ud]at ho
  have key:=pR (P:=prog) KK 7 (by omega) Tryz.isAgg64 Tryz.sizeOf64 (fun x:sM=>bL x.1) (fun x=>rfl) (fun x y=>tp x.1 y.1) Mi 160
   (fun Y x v v' hv hr=>by
    simp only[List.mem_cons,List.not_mem_nil,or_false]at hv
    rcases hv with rfl|rfl|rfl|rfl|rfl|rfl|rfl <;> cases hr <;> rfl)
   Gp Gq (fun x y n=>IA x.2 y.2 _) (.inr rfl) (L0:=L') (by omega) (by omega) ho (Q:=Is (.tuple #[]) (H.set id (.cells true 7 ((aI L0).flatMap bL))))
   (fun L1 hp hs=>⟨rfl,by
    have e1:L1.map (·.1)=aI L0:=by
     have hp2:(L1.map (·.1)).Perm L0:=by rw[<- e];exact hp.map _
     refine lk (hp2.trans (fM L0).symm) (fun m hm=>hk m (hp2.mem_iff.1 hm)) ?_ (ir L0)
     rw[List.pairwise_map]
     refine hs.imp fun {x y} h =>?_
     have:=(yX y.2 x.2)
     have h2:¬ tp y.1 x.1<0:=aA h
     omega
    rw[ud,e1]⟩)
  rw[hl']at key
  exact key
theorem JF(L:List Msg){i:Nat}(hi:i<L.length)(s:List Nat):gx (aq L) (s ++ [i])=some (.tuple #[jf (L.getD i ay),.bool true]):=by
 unfold aq
 rw[Ae (ay,true) (by rwa [List.length_map])]
 rw[show (L.map fun m=>(m,true)).getD i (ay,true)=(L.getD i ay,true) from by simp[List.getD_eq_getElem?_getD,hi]]
theorem zd:mG prog 251 0:=AW (by kernel_rfl)
theorem fT(n:Nat)(l:List Msg):(l.flatMap bL).all (aJ n)=true:=je (fun _=>rfl) l
theorem hv3{L:List Msg}(hk:∀m∈L,okM m=true)(hl:L.length<=2000):us L:=by
 unfold us
 refine ⟨rfl,wU L,?_,fun _=>rfl,fun s hs=>⟨rfl,fun i hi hn=>⟨rfl,JF L (by rwa [eC]at hi) s,?_⟩,fun hall =>?_⟩⟩
 ·repeat' first|exact zd|exact ah _ _ _ (.inl rfl)|exact rfl|exact aa _|refine aK ?_|exact ac|exact ah _ _ _ (.inl rfl)|(refine And.intro (by omega) ?_)|apply And.intro
 ·have hi':i<L.length:=by rwa [eC]at hi
  have hp:=Cd L s
  have hq:=oE hs
  refine ⟨?_,rfl,s ++ [i],gR hs hi' hn,iN hs hi' hn,?_⟩
  ·repeat' first|exact kF hZ _|exact Nat.le_refl 7|exact rfl|exact aa _|refine aK ?_|exact ac|exact ah _ _ _ (.inl rfl)|(refine And.intro (by omega) ?_)|apply And.intro
  ·repeat' first|exact zd|exact dd (rQ L s i)|exact de hZ (rQ L s i) rfl|exact fT _ _|exact rfl|exact aa _|refine aK ?_|exact ac|exact ah _ _ _ (.inl rfl)|(refine And.intro (by omega) ?_)|apply And.intro
 ·have Ls:s.Perm (List.range L.length):=oF hs fun i hi=>hall i (by rwa [eC])
  have hpm:(cB L s).Perm L:=lQ Ls
  have e1:aI (cB L s)=aI L:=sZ hpm fun m hm=>hk m (hpm.mem_iff.1 hm)
  have el:(cB L s).length=(aI L).length:=by rw[jL];exact hpm.length_eq
  refine ⟨⟨rfl,trivial⟩,fun H' _ h=>Iz (fun m hm=>hk m (hpm.mem_iff.1 hm)) (by rw[el,jL];omega) h.1,?_⟩
  rw[e1,el]
  repeat' first|exact fT _ _|exact rfl|exact aa _|refine aK ?_|exact ac|exact ah _ _ _ (.inl rfl)|(refine And.intro (by omega) ?_)|apply And.intro
theorem DA(L:List Msg)(σ:Nat->Option Nat):rno σ 3 (.map (aq L)) = .map (aq L):=by
 show ab.map ((aq L).map _)=_
 congr 1
 unfold aq fy
 simp only[List.map_map]
 exact List.map_congr_left fun m _=>rfl
theorem Gb(L:List Msg):aZ 3 (.map (aq L))=true:=by
 show (aq L).all _=true
 unfold aq fy
 rw[List.all_map,List.all_map,List.all_eq_true]
 intro m _;rfl
theorem tl(L:List Msg)(q:Nat):[ab.cells true 0 [.map (some q)],.map (aq L)].all (aZ 3)=true:=by
 show (aZ 3 (.cells true 0 [.map (some q)])&&(aZ 3 (.map (aq L))&&true))=true
 rw[Gb];rfl
theorem lU{H:Heap}{i q:Nat}{L:List Msg}(hi:H[i]?=some (.cells true 0 [.map (some q)]))(hq:H[q]?=some (.map (aq L))):hY H (sgI [i,q]) [i,q] [.cells true 0 [.map (some 1)],.map (aq L)]:=by
 exact ⟨hi,by rw[DA];exact hq,trivial⟩
theorem zK{L:List Msg}(hk:∀m∈L,okM m=true)(hl:L.length<=2000){H:Heap}{i q:Nat}(hne:i≠q)(hi:H[i]?=some (.cells true 0 [.map (some q)]))(hq:H[q]?=some (.map (aq L))) :
  ad prog 95 [.pointer (some ⟨i,0,none⟩)] H [] (Is (.slice (some ⟨H.length,0,some 1⟩) (aI L).length (aI L).length) (H ++ [.cells true 7 ((aI L).flatMap bL)])) :=
 bR (fun j => .slice (some ⟨j,0,some 1⟩) (aI L).length (aI L).length) (os:=[.cells true 0 [.map (some 1)],.map (aq L)]) (new:=[.cells true 7 ((aI L).flatMap bL)]) (Eq.mpr (GF L) (hv3 hk hl)) (tl L 1) rfl
  ⟨⟨_,_,rfl,fT _ _⟩,trivial⟩ (ids:=[i,q]) (by simp[hne]) (lU hi hq) (fun j=>rfl) rfl
end
end Go.Proofs.YtbgfjemppjhmjaaGreat
namespace Go.Proofs.YtbgfjemppjhmjaaGreat
noncomputable section
attribute [local irreducible] vF
variable {w h:Int} {a:List Bool} {p:Int} {ss:List (Int×Int)} {o1 o2:Bool} {z1 z2:Nat} {H:Heap}
def Et(F G:List ((Int×Int)×Bool))(m:Msg):Prop :=
 ((((m.ki:Int) == 3)=true->(true=true/\wk (.bool true:Value) (rn (sg 4 []) 3 (.bool (jB F G m):Value))/\True))/\(((m.ki:Int) == 3)=false->((dR prog 79 (.bool false) (.agg #[nI m.au,nI m.nu]) false (nmE F)=some (.bool (cS (m.au,m.nu) false F)))/\((cS (m.au,m.nu) false F)=true->(true=true/\wk (.bool true:Value) (rn (sg 4 []) 3 (.bool (jB F G m):Value))/\True))/\((cS (m.au,m.nu) false F)=false->((dR prog 79 (.bool false) (.agg #[nI m.au,nI m.nu]) false (nmE G)=some (.bool (cS (m.au,m.nu) false G)))/\true=true/\wk (.bool (cS (m.au,m.nu) false G):Value) (rn (sg 4 []) 3 (.bool (jB F G m):Value))/\True)))))
theorem LT(F G:List ((Int×Int)×Bool))(m:Msg):vF prog msk (dm 0) 100000 true 40 true 163 [.agg #[nI m.au,nI m.nu,nI m.at_,nI m.ki,nI m.sh,nI m.ce,nI m.va],.pointer (some ⟨0,0,none⟩),.pointer (some ⟨1,0,none⟩)] (aW [.cells true 0 [.map (some 2)],.cells true 0 [.map (some 3)],.map (nmE F),.map (nmE G)]) (some [])
 (.go 5 (.aT (.go 3 (.again [])) (.go 10 (.val (.bool (cS (m.au,m.nu) false F)) (.go 1 (.aT (.go 1 (.again [])) (.go 10 (.val (.bool (cS (m.au,m.nu) false G)) (.go 1 (.again []))))))))))
 (ca ((aW [.cells true 0 [.map (some 2)],.cells true 0 [.map (some 3)],.map (nmE F),.map (nmE G)]):HT).n 3 (.bool (jB F G m)) [])=Et F G m:=by kernel_rfl
abbrev kpj:List Nat:=[]
abbrev kp2:Prop:=(.map none:Value) = .map none/\(.map (some 2):Value) = .map (some 2)/\(.pointer (some ⟨3,0,none⟩):Value) = .pointer (some ⟨3,0,none⟩)/\True
abbrev kpq(L:List Msg):ab:=.iter 1 (aq L).length kpj
abbrev kpl:Prop:=(True)/\(True)
abbrev kpn(L:List Msg):Prop:=List.length (aq L)=(aq L).length
abbrev kp9(L:List Msg)(J:Nat):=L.getD J ay
abbrev kp5(L:List Msg)(J:Nat):Value:=.tuple #[.agg #[nI (kp9 L J).au,nI (kp9 L J).nu,nI (kp9 L J).at_,nI (kp9 L J).ki,nI (kp9 L J).sh,nI (kp9 L J).ce,nI (kp9 L J).va],.bool true]
abbrev kpd(L:List Msg)(J:Nat)(x0:List Nat):=cS ((kp9 L J).au,(kp9 L J).nu) false (bP L x0)
abbrev kph(L:List Msg)(J:Nat)(x0:List Nat):=nmE (eJ ((kp9 L J).au,(kp9 L J).nu) (dM ((kp9 L J).au,(kp9 L J).nu) (bP L x0)) (bP L x0))
abbrev kp0:Prop:=(.pointer (some ⟨0,0,none⟩):Value) = .pointer (some ⟨0,0,none⟩)/\(.slice none 0 0:Value) = .slice none 0 0/\(.pointer (some ⟨4,0,none⟩):Value) = .pointer (some ⟨4,0,none⟩)/\(.pointer (some ⟨6,0,none⟩):Value) = .pointer (some ⟨6,0,none⟩)/\(.pointer (some ⟨7,0,none⟩):Value) = .pointer (some ⟨7,0,none⟩)/\True
abbrev kp6(L:List Msg)(x2 x0:List Nat)(J:Nat):Prop:=∃x2':List Nat,(fC L x2')/\(List.length L-List.length x2')<(List.length L-List.length x2)/\true=true/\kp0/\((some (.map (nmE (wdF L (bP L x0) x2)):ab)=some (.map (nmE (wdF L (bP L x0) x2')):ab)/\aj 8 (.map (nmE (wdF L (bP L x0) x2')):ab)=true)/\(some (.iter 1 (aq L).length (x2 ++ [J]):ab)=some (.iter 1 (aq L).length x2':ab)/\aj 8 (.iter 1 (aq L).length x2':ab)=true)/\True)/\(True)/\(True)
abbrev kp1:Value:=.func (.func 163) #[] #[.pointer (some ⟨4,0,none⟩),.pointer (some ⟨6,0,none⟩)]
abbrev kp8(L:List Msg):Int:=((aI L).length:Nat)
abbrev kpe(L:List Msg):Prop:=kp1 = .func (.func 163) #[] #[.pointer (some ⟨4,0,none⟩),.pointer (some ⟨6,0,none⟩)]/\wkR (slQ 8 1 (aI L).length)/\(nI (kp8 L):Value)=nI (kp8 L)/\True
abbrev kpc(L:List Msg)(J:Nat):Value:=.agg #[nI ((aI L).getD J ay).au,nI ((aI L).getD J ay).nu,nI ((aI L).getD J ay).at_,nI ((aI L).getD J ay).ki,nI ((aI L).getD J ay).sh,nI ((aI L).getD J ay).ce,nI ((aI L).getD J ay).va]
abbrev kpk(L:List Msg)(x0 x2:List Nat):Prop:=(ar (.cells true 0 [.map (some 2)]))/\(ar (.cells true 0 [.map (some 5)]))/\(ar (.map (nmE (bP L x0))))/\(ar (.map (nmE (wdF L (bP L x0) x2))))/\True
abbrev kpg(H':Heap)(L:List Msg)(x0 x2:List Nat):Prop:=H'[4]?=some (.cells true 0 [.map (some 2)]:ab)/\H'[6]?=some (.cells true 0 [.map (some 5)]:ab)/\H'[2]?=some (.map (nmE (bP L x0)):ab)/\H'[5]?=some (.map (nmE (wdF L (bP L x0) x2)):ab)/\True
abbrev kpo(L:List Msg)(x0 x2:List Nat)(J:Nat):=jB (bP L x0) (wdF L (bP L x0) x2) ((aI L).getD J ay)
abbrev kpa(L:List Msg):Prop:=true=true/\wk (slQ 8 1 (aI L).length:Value) (rn (sg 2 [(2,8)]) 3 (slQ 2 2 (cq L).length:Value))/\(wkO (.cells true 7 ((aI L).flatMap bL):ab) (rno (sg 2 [(2,8)]) 3 (.cells true 7 ((cq L).flatMap bL):ab))/\True)
abbrev kp7(L:List Msg):Prop:=kp1 = .func (.func 163) #[] #[.pointer (some ⟨4,0,none⟩),.pointer (some ⟨6,0,none⟩)]/\wkR (slQ 8 1 (aI L).length)/\(.slice none 0 0:Value) = .slice none 0 0/\True
abbrev kpf(L:List Msg)(U:Nat):=dg (du L) (aI L) U
abbrev kp4(L:List Msg)(U:Nat):=kN (du L) (aI L) U
abbrev kpb(L:List Msg)(U:Nat):Value:=.agg #[nI ((kp4 L U).getD U ay).au,nI ((kp4 L U).getD U ay).nu,nI ((kp4 L U).getD U ay).at_,nI ((kp4 L U).getD U ay).ki,nI ((kp4 L U).getD U ay).sh,nI ((kp4 L U).getD U ay).ce,nI ((kp4 L U).getD U ay).va]
abbrev kpm(L:List Msg)(x0 x2:List Nat)(U:Nat):=jB (bP L x0) (wdF L (bP L x0) x2) ((kp4 L U).getD U ay)
abbrev kp3(L:List Msg)(U:Nat):Int:=((kpf L U).length:Nat)
abbrev kpi(L:List Msg)(ax:Nat):ab:=.cells true 7 ((kN (du L) (aI L) ax).flatMap bL)
def Em(L:List Msg):Prop :=
 (true=true/\(fC L kpj)/\(true=true/\kp2/\((some (.map (nmE []):ab)=some (.map (nmE (bP L kpj)):ab)/\aj 4 (.map (nmE (bP L kpj)):ab)=true)/\(some (.iter 1 (aq L).length []:ab)=some (kpq L)/\aj 4 (kpq L)=true)/\True)/\kpl)/\(∀x0:List Nat,true=true)/\∀x0:List Nat,(fC L x0)->((kpn L)/\(∀J:Nat,J<(aq L).length->J ∉ x0->((kpn L)/\(gx (aq L) (x0 ++ [J])=some (kp5 L J))/\(dR prog 79 (.bool false) (.agg #[nI (kp9 L J).au,nI (kp9 L J).nu]) true (nmE (bP L x0))=some (.tuple #[.bool (kpd L J x0),.bool (dM ((kp9 L J).au,(kp9 L J).nu) (bP L x0))]))/\((ix prog 79 (.agg #[nI (kp9 L J).au,nI (kp9 L J).nu]) (.bool (dM ((kp9 L J).au,(kp9 L J).nu) (bP L x0))) (nmE (bP L x0))=some (kph L J x0))/\∃x0':List Nat,(fC L x0')/\(List.length L-List.length x0')<(List.length L-List.length x0)/\true=true/\kp2/\((some (.map (kph L J x0):ab)=some (.map (nmE (bP L x0')):ab)/\aj 4 (.map (nmE (bP L x0')):ab)=true)/\(some (.iter 1 (aq L).length (x0 ++ [J]):ab)=some (.iter 1 (aq L).length x0':ab)/\aj 4 (.iter 1 (aq L).length x0':ab)=true)/\True)/\kpl)))/\((∀J:Nat,J<(aq L).length->J∈x0)->(true=true/\(fC L kpj)/\(true=true/\kp0/\((some (.map (nmE []):ab)=some (.map (nmE (wdF L (bP L x0) kpj)):ab)/\aj 8 (.map (nmE (wdF L (bP L x0) kpj)):ab)=true)/\(some (.iter 1 (aq L).length []:ab)=some (kpq L)/\aj 8 (kpq L)=true)/\True)/\kpl)/\(∀x2:List Nat,true=true)/\∀x2:List Nat,(fC L x2)->((kpn L)/\(∀J:Nat,J<(aq L).length->J ∉ x2->((kpn L)/\(gx (aq L) (x2 ++ [J])=some (kp5 L J))/\((((kp9 L J).ki:Int) == 3)=true->((dR prog 79 (.bool false) (.agg #[nI (kp9 L J).au,nI (kp9 L J).nu]) false (nmE (bP L x0))=some (.bool (kpd L J x0)))/\((!(kpd L J x0))=true->((ix prog 79 (.agg #[nI (kp9 L J).au,nI (kp9 L J).va]) (.bool true) (nmE (wdF L (bP L x0) x2))=some (nmE (eJ ((kp9 L J).au,(kp9 L J).va) true (wdF L (bP L x0) x2))))/\∃x2':List Nat,(fC L x2')/\(List.length L-List.length x2')<(List.length L-List.length x2)/\true=true/\kp0/\((some (.map (nmE (eJ ((kp9 L J).au,(kp9 L J).va) true (wdF L (bP L x0) x2))):ab)=some (.map (nmE (wdF L (bP L x0) x2')):ab)/\aj 8 (.map (nmE (wdF L (bP L x0) x2')):ab)=true)/\(some (.iter 1 (aq L).length (x2 ++ [J]):ab)=some (.iter 1 (aq L).length x2':ab)/\aj 8 (.iter 1 (aq L).length x2':ab)=true)/\True)/\kpl))/\((!(kpd L J x0))=false->(kp6 L x2 x0 J))))/\((((kp9 L J).ki:Int) == 3)=false->(kp6 L x2 x0 J))))/\((∀J:Nat,J<(aq L).length->J∈x2)->(((ar (.cells true 0 [.map (some 1)]))/\(ar (.map (aq L)))/\True)/\(∀H':Heap,H'.length=8->(H'[0]?=some (.cells true 0 [.map (some 1)]:ab)/\H'[1]?=some (.map (aq L):ab)/\True)->ad prog 95 [.pointer (some ⟨0,0,none⟩)] H' [] (Is (slQ 8 1 (aI L).length) (H' ++ [(.cells true 7 ((aI L).flatMap bL):ab)])))/\(true=true/\(0<=List.length (aI L)/\((aI L).take 0).all (du L)=true)/\(true=true/\((nI 0:Value)=nI ((0:Nat):Int)/\kpe L)/\(True)/\kpl)/\(∀J:Nat,true=true)/\∀J:Nat,(J<=List.length (aI L)/\((aI L).take J).all (du L)=true)->(((decide (((J:Int):Int)<(kp8 L)))=true->(((0:Int)<=(J:Int)/\((J:Int):Int)<(kp8 L))/\(fJ 7 ((aI L).flatMap bL) (0+Int.toNat (J:Int)*7)=some (kpc L J))/\(kpk L x0 x2)/\(∀H':Heap,H'.length=9->(kpg H' L x0 x2)->ad prog 163 [.agg #[nI ((aI L).getD J ay).au,nI ((aI L).getD J ay).nu,nI ((aI L).getD J ay).at_,nI ((aI L).getD J ay).ki,nI ((aI L).getD J ay).sh,nI ((aI L).getD J ay).ce,nI ((aI L).getD J ay).va],.pointer (some ⟨4,0,none⟩),.pointer (some ⟨6,0,none⟩)] H' [] (Is (.bool (kpo L x0 x2 J)) H'))/\((kpo L x0 x2 J)=true->(((((J:Int):Int) == (-1))=true->(kpa L))/\((((J:Int):Int) == (-1))=false->((nI (IntKind.wrap .i64 ((J:Int)+1)):Value)=nI ((J:Int)+1)/\(true=true/\((J+1)<=List.length (aI L)/\(dg (du L) (aI L) (J+1)).length<(J+1))/\(true=true/\((nI ((J:Int)+1):Value)=nI (((J+1):Nat):Int)/\(nI (J:Int):Value)=nI (((dg (du L) (aI L) (J+1)).length:Nat):Int)/\kp7 L)/\((some (.cells true 7 ((aI L).flatMap bL):ab)=some (.cells true 7 ((kN (du L) (aI L) (J+1)).flatMap bL):ab)/\aj 9 (.cells true 7 ((kN (du L) (aI L) (J+1)).flatMap bL):ab)=true)/\True)/\kpl)/\(∀U:Nat,true=true)/\∀U:Nat,(U<=List.length (aI L)/\(kpf L U).length<U)->(((decide (((U:Int):Int)<(kp8 L)))=true->(((0:Int)<=(U:Int)/\((U:Int):Int)<(kp8 L))/\(fJ 7 ((kp4 L U).flatMap bL) (0+Int.toNat (U:Int)*7)=some (kpb L U))/\(kpk L x0 x2)/\(∀H':Heap,H'.length=10->(kpg H' L x0 x2)->ad prog 163 [.agg #[nI ((kp4 L U).getD U ay).au,nI ((kp4 L U).getD U ay).nu,nI ((kp4 L U).getD U ay).at_,nI ((kp4 L U).getD U ay).ki,nI ((kp4 L U).getD U ay).sh,nI ((kp4 L U).getD U ay).ce,nI ((kp4 L U).getD U ay).va],.pointer (some ⟨4,0,none⟩),.pointer (some ⟨6,0,none⟩)] H' [] (Is (.bool (kpm L x0 x2 U)) H'))/\((!(kpm L x0 x2 U))=true->(((0:Int)<=(kp3 L U)/\((kp3 L U):Int)<(kp8 L))/\((0+Int.toNat (kp3 L U)*7)+7<=List.length ((kp4 L U).flatMap bL))/\true=true/\(nI (IntKind.wrap .i64 ((kp3 L U)+1)):Value)=nI ((kp3 L U)+1)/\((nI (IntKind.wrap .i64 ((U:Int)+1)):Value)=nI ((U:Int)+1)/\∃ax:Nat,(ax<=List.length (aI L)/\(dg (du L) (aI L) ax).length<ax)/\(List.length (aI L)-ax)<(List.length (aI L)-U)/\true=true/\((nI ((U:Int)+1):Value)=nI (ax:Int)/\(nI ((kp3 L U)+1):Value)=nI (((dg (du L) (aI L) ax).length:Nat):Int)/\kp7 L)/\((some (.cells true 7 (bE ((kp4 L U).flatMap bL) (0+Int.toNat (kp3 L U)*7) [nI ((kp4 L U).getD U ay).au,nI ((kp4 L U).getD U ay).nu,nI ((kp4 L U).getD U ay).at_,nI ((kp4 L U).getD U ay).ki,nI ((kp4 L U).getD U ay).sh,nI ((kp4 L U).getD U ay).ce,nI ((kp4 L U).getD U ay).va]):ab)=some (kpi L ax)/\aj 9 (kpi L ax)=true)/\True)/\kpl)))/\((!(kpm L x0 x2 U))=false->((nI (IntKind.wrap .i64 ((U:Int)+1)):Value)=nI ((U:Int)+1)/\∃ax:Nat,(ax<=List.length (aI L)/\(dg (du L) (aI L) ax).length<ax)/\(List.length (aI L)-ax)<(List.length (aI L)-U)/\true=true/\((nI ((U:Int)+1):Value)=nI (ax:Int)/\(nI (kp3 L U):Value)=nI (((dg (du L) (aI L) ax).length:Nat):Int)/\kp7 L)/\((some (.cells true 7 ((kp4 L U).flatMap bL):ab)=some (kpi L ax)/\aj 9 (kpi L ax)=true)/\True)/\kpl))))/\((decide (((U:Int):Int)<(kp8 L)))=false->((((true=false∨7=0∨7=7)/\(aI L).length<=(aI L).length)/\((aI L).length<=(aI L).length)/\(0:Int)<=(kp3 L U)/\((kp3 L U):Int)<=(kp8 L))/\(.slice (some ⟨8,(0+(kp3 L U).toNat*7),some 2⟩) ((aI L).length-(kp3 L U).toNat) ((aI L).length-(kp3 L U).toNat):Value) = .slice (some ⟨8,(0+(kp3 L U).toNat*7),some 2⟩) ((aI L).length-(kpf L U).length) ((aI L).length-(kpf L U).length)/\((0+(kp3 L U).toNat*7)+((aI L).length-(kpf L U).length)*7<=List.length ((kp4 L U).flatMap bL))/\true=true/\(((true=false∨7=0∨7=7)/\(kp3 L U).toNat<=(aI L).length)/\((0:Int)<=(kp3 L U)/\((kp3 L U):Int)<=(kp8 L))/\0<=(kp3 L U).toNat)/\(slQ 8 2 ((kp3 L U).toNat-0):Value)=slQ 8 2 (kpf L U).length/\true=true/\wk (slQ 8 2 (kpf L U).length:Value) (rn (sg 2 [(2,8)]) 3 (slQ 2 2 (cq L).length:Value))/\wkO (.cells true 7 (bE ((kp4 L U).flatMap bL) (0+(kp3 L U).toNat*7) (dX [nI 0,nI 0,nI 0,nI 0,nI 0,nI 0,nI 0] ((aI L).length-(kpf L U).length))):ab) (rno (sg 2 [(2,8)]) 3 (.cells true 7 ((cq L).flatMap bL):ab))/\True))))))))/\((kpo L x0 x2 J)=false->((nI (IntKind.wrap .i64 ((J:Int)+1)):Value)=nI ((J:Int)+1)/\∃aD:Nat,(aD<=List.length (aI L)/\((aI L).take aD).all (du L)=true)/\(List.length (aI L)-aD)<(List.length (aI L)-J)/\true=true/\((nI ((J:Int)+1):Value)=nI (aD:Int)/\kpe L)/\(True)/\kpl))))/\((decide (((J:Int):Int)<(kp8 L)))=false->(kpa L)))))))))))
abbrev kpp(L:List Msg)(x0 x2:List Nat):List (Nat×ab):=[(4,.cells true 0 [.map (some 2)]),(6,.cells true 0 [.map (some 5)]),(2,.map (nmE (bP L x0))),(5,.map (nmE (wdF L (bP L x0) x2)))]
abbrev kpr:Hint:=.keep (.go 0 (.again [(2,8)]))
theorem LQ(L:List Msg):vF prog msk (dm 0) 100000 true 40 true 98 [.pointer (some ⟨0,0,none⟩)] (aW [.cells true 0 [.map (some 1)],.map (aq L)]) (some [])
 (.go 10 (.inv 3 (List Nat) (kpj) [] [2,3] (fun x0=>[(2,.map none),(3,.map (some 2)),(12,.pointer (some ⟨3,0,none⟩))]) (fun x0=>[(2,true,.map (nmE (bP L x0))),(3,true,.iter 1 (aq L).length x0)]) (fun x0=>[]) (fun x0=>[]) (fun x0=>(fC L x0)) (fun x0=>(List.length L-List.length x0)) (fun x0 => .nxt (fun J => .go 1 (.val (kp5 L J) (.go 13 (.val (.tuple #[.bool (kpd L J x0),.bool (dM ((kp9 L J).au,(kp9 L J).nu) (bP L x0))]) (.go 16 (.vp (kph L J x0) (.again []))))))) (.go 13 (.inv 3 (List Nat) (kpj) [] [5,7] (fun x2=>[(0,.pointer (some ⟨0,0,none⟩)),(2,.slice none 0 0),(3,.pointer (some ⟨4,0,none⟩)),(4,.pointer (some ⟨6,0,none⟩)),(13,.pointer (some ⟨7,0,none⟩))]) (fun x2=>[(5,true,.map (nmE (wdF L (bP L x0) x2))),(7,true,.iter 1 (aq L).length x2)]) (fun x2=>[]) (fun x2=>[]) (fun x2=>(fC L x2)) (fun x2=>(List.length L-List.length x2)) (fun x2 => .nxt (fun J => .go 1 (.val (kp5 L J) (.go 6 (.aT (.go 10 (.val (.bool (kpd L J x0)) (.go 1 (.fork (.go 5 (.vp (nmE (eJ ((kp9 L J).au,(kp9 L J).va) true (wdF L (bP L x0) x2))) (.again []))) (.again []))))) (.go 1 (.again [])))))) (.go 2 (.ans [(0,.cells true 0 [.map (some 1)]),(1,.map (aq L))] (slQ 8 1 (aI L).length) [.cells true 7 ((aI L).flatMap bL)] (.go 0 (.into (some [2,3,4,5,6,7,8]) (.go 7 (.inv 3 (Nat) (0) [] [] (fun J=>[(8,nI (J:Int)),(1,.func (.func 163) #[] #[.pointer (some ⟨4,0,none⟩),.pointer (some ⟨6,0,none⟩)]),(0,slQ 8 1 (aI L).length),(7,nI (kp8 L))]) (fun J=>[]) (fun J=>[]) (fun J=>[]) (fun J=>(J<=List.length (aI L)/\((aI L).take J).all (du L)=true)) (fun J=>(List.length (aI L)-J)) (fun J => .go 0 (.fork (.go 4 (.need (.val (kpc L J) (.ans (kpp L x0 x2) (.bool (kpo L x0 x2 J)) [] (.fork (.go 4 (.fork (.go 1 kpr) (.go 1 (.slot 15 (nI ((J:Int)+1)) (.go 0 (.inv 3 (Nat) ((J+1)) [] [8] (fun U=>[(6,nI (U:Int)),(5,nI (kp3 L U)),(1,.func (.func 163) #[] #[.pointer (some ⟨4,0,none⟩),.pointer (some ⟨6,0,none⟩)]),(0,slQ 8 1 (aI L).length),(4,.slice none 0 0)]) (fun U=>[(8,true,.cells true 7 ((kp4 L U).flatMap bL))]) (fun U=>[]) (fun U=>[]) (fun U=>(U<=List.length (aI L)/\(kpf L U).length<U)) (fun U=>(List.length (aI L)-U)) (fun U => .go 3 (.fork (.go 1 (.need (.val (kpb L U) (.go 3 (.ans (kpp L x0 x2) (.bool (kpm L x0 x2 U)) [] (.go 0 (.fork (.go 2 (.need (.need (.go 1 (.slot 35 (nI ((kp3 L U)+1)) (.go 2 (.slot 21 (nI ((U:Int)+1)) (.go 0 (.again []))))))))) (.go 1 (.slot 21 (nI ((U:Int)+1)) (.go 0 (.again []))))))))))) (.go 1 (.need (.slot 38 (.slice (some ⟨8,(0+(kp3 L U).toNat*7),some 2⟩) ((aI L).length-(kpf L U).length) ((aI L).length-(kpf L U).length)) (.need (.go 1 (.need (.slot 41 (slQ 8 2 (kpf L U).length) (.go 0 kpr)))))))))))))))) (.go 0 (.slot 18 (nI ((J:Int)+1)) (.go 0 (.again []))))))))) (.go 6 kpr)))))))))))))))
 (ca ((aW [.cells true 0 [.map (some 1)],.map (aq L)]):HT).n 3 (slQ 2 2 (cq L).length) [(false,.cells true 7 ((cq L).flatMap bL))])=Em L:=by kernel_rfl
theorem lZ(F:List ((Int×Int)×Bool))(a n:Int)(ok:Bool):dR prog 79 (.bool false) (nmV (a,n)) ok (nmE F)=some (xf ok (.bool (cS (a,n) false F)) (dM (a,n) F)) :=
 xd (key:=nmV) (val:=fun b => .bool b) KX (a,n) false rfl ok F
theorem KN(F:List ((Int×Int)×Bool))(a n:Int)(b:Bool):ix prog 79 (nmV (a,n)) (.bool b) (nmE F)=some (nmE (eJ (a,n) b F)) :=
 BX (key:=nmV) (val:=fun b => .bool b) KX eqN (a,n) b F
theorem iR(F:List ((Int×Int)×Bool))(n:Nat):aj n (.map (nmE F))=true:=by
 show (nmE F).all _=true
 unfold nmE fy
 rw[List.all_map,List.all_eq_true]
 intro m _;rfl
theorem Cp(F:List ((Int×Int)×Bool))(σ:Nat->Option Nat):rno σ 3 (.map (nmE F)) = .map (nmE F):=by
 show ab.map ((nmE F).map _)=_
 congr 1
 unfold nmE fy
 simp only[List.map_map]
 exact List.map_congr_left fun m _=>rfl
theorem Hb(F:List ((Int×Int)×Bool)):aZ 3 (.map (nmE F))=true:=by
 show (nmE F).all _=true
 unfold nmE fy
 rw[List.all_map,List.all_eq_true]
 intro m _;rfl
theorem hvG(F G:List ((Int×Int)×Bool))(m:Msg):Et F G m:=by
 delta Et jB
 refine ⟨fun a=>⟨rfl,?_,trivial⟩,fun a=>⟨lZ _ _ _ false,fun b=>⟨rfl,?_,trivial⟩,fun b=>⟨lZ _ _ _ false,rfl,?_,trivial⟩⟩⟩
 ·rw[show decide (m.ki=3)=true from a];exact aa _
 ·rw[b,Bool.or_true];exact aa _
 ·rw[show decide (m.ki=3)=false from a,b];exact aa _
theorem Hk(F G:List ((Int×Int)×Bool))(m:Msg){i j k l:Nat}(hnd:[i,j,k,l].Nodup)(hi:H[i]?=some (.cells true 0 [.map (some k)]))(hj:H[j]?=some (.cells true 0 [.map (some l)]))(hk:H[k]?=some (.map (nmE F)))(hl:H[l]?=some (.map (nmE G))) :
  ad prog 163 [jf m,.pointer (some ⟨i,0,none⟩),.pointer (some ⟨j,0,none⟩)] H [] (Is (.bool (jB F G m)) H):=by
 have key:=bR (fun _ => .bool (jB F G m)) (os:=[.cells true 0 [.map (some 2)],.cells true 0 [.map (some 3)],.map (nmE F),.map (nmE G)]) (new:=[]) (Eq.mpr (LT F G m) (hvG F G m))
  (by show (true&&(true&&(aZ 3 (.map (nmE F))&&(aZ 3 (.map (nmE G))&&true))))=true;rw[Hb,Hb];rfl) rfl trivial (ids:=[i,j,k,l]) hnd (H:=H)
  ⟨hi,hj,by rw[Cp];exact hk,by rw[Cp];exact hl,trivial⟩ (fun j=>rfl) (args':=[jf m,.pointer (some ⟨i,0,none⟩),.pointer (some ⟨j,0,none⟩)]) rfl
 rwa [List.append_nil]at key
theorem Ce{l:List Msg}{k off:Nat}(h:k<l.length)(ho:off=k*7):fJ 7 (l.flatMap bL) off=some (jf (l.getD k ay)):=yV (n:=7) (d:=ay) (c:=0) (m:=7) hZ h (by omega) (by omega)
theorem Mk{xs:List Msg}{k off:Nat}(hk:k<xs.length)(ho:off=k*7)(y:Msg):(some (ab.cells true 7 (bE (xs.flatMap bL) off (bL y))):Option ab)=some (.cells true 7 ((xs.set k y).flatMap bL)):=by
 subst ho
 rw[fw hZ xs k hk y]
theorem sG(xs:List Msg)(σ:Nat->Option Nat):rno σ 3 (.cells true 7 (xs.flatMap bL)) = .cells true 7 (xs.flatMap bL):=congrArg (ab.cells true 7) (iP (d:=0) (fT 0 xs)).1
theorem Bx(xs:List Msg)(σ:Nat->Option Nat):wkO (.cells true 7 (xs.flatMap bL)) (rno σ 3 (.cells true 7 (xs.flatMap bL))):=rx (sG xs σ).symm
theorem EI{own:Bool}{z:Nat}(A X:List Value):wkO (.cells own z (A++X)) (.cells own z A):=by
 refine ⟨rfl,rfl,fun Y r w ho =>?_,fun _ _ h=>by cases h⟩
 obtain ⟨k1,k2,cs2,ty,fz,k3,k4,k5,k6⟩:=ho
 refine ⟨k1,k2,cs2,ty,fz,k3,k4,k5,fun i x hx=>k6 i x ?_⟩
 rw[List.getElem?_append_left (List.getElem?_eq_some_iff.1 hx).1];exact hx
theorem EJ{A B:List Msg}{off:Nat}(ho:off=A.length*7)(n:List Value)(σ:Nat->Option Nat):wkO (.cells true 7 (bE ((A++B).flatMap bL) off n)) (rno σ 3 (.cells true 7 (A.flatMap bL))):=by
 rw[sG,List.flatMap_append,ho,show A.length*7=(A.flatMap bL).length+0 from by rw[aP hZ,Nat.add_zero],u0]
 exact EI _ _
theorem hv4{L:List Msg}(hk:∀m∈L,okM m=true)(hl:L.length<=2000):Em L:=by
 delta Em kpj kp2 kpq kpl kpn kp9 kp5 kpd kph kp0 kp6 kp1 kp8 kpe kpc kpk kpg kpo kpa kp7 kpf kp4 kpb kpm kp3 kpi
 refine ⟨rfl,wU L,?_,fun _=>rfl,fun s hs=>⟨rfl,fun i hi hn=>⟨rfl,JF L (by rwa [eC]at hi) s,lZ _ _ _ true,KN _ _ _ _,?_⟩,fun hall =>?_⟩⟩
 ·repeat' first|exact iR _ _|exact rfl|exact aa _|exact ac|apply And.intro
 ·have hi':i<L.length:=by rwa [eC]at hi
  refine ⟨s ++ [i],gR hs hi' hn,iN hs hi' hn,?_⟩
  rw[qh]
  repeat' first|exact iR _ _|exact rfl|exact aa _|exact ac|apply And.intro
 ·have Lr:s.Perm (List.range L.length):=oF hs fun i hi=>hall i (by rwa [eC])
  refine ⟨rfl,wU L,?_,fun _=>rfl,fun t ht=>⟨rfl,fun i hi hn=>⟨rfl,JF L (by rwa [eC]at hi) t,?_⟩,fun hall =>?_⟩⟩
  ·repeat' first|exact iR _ _|exact rfl|exact aa _|exact ac|apply And.intro
  ·have hi':i<L.length:=by rwa [eC]at hi
   refine ⟨fun a=>⟨lZ _ _ _ false,fun b=>⟨KN _ _ _ _,t ++ [i],gR ht hi' hn,iN ht hi' hn,?_⟩,fun b=>⟨t ++ [i],gR ht hi' hn,iN ht hi' hn,?_⟩⟩,fun a=>⟨t ++ [i],gR ht hi' hn,iN ht hi' hn,?_⟩⟩
   ·rw[lL,if_pos ⟨eq_of_beq a,ff b⟩]
    repeat' first|exact iR _ _|exact rfl|exact aa _|exact ac|apply And.intro
   ·rw[lL,if_neg (fun q=>by rw[bK b]at q;cases q.2)]
    repeat' first|exact iR _ _|exact rfl|exact aa _|exact ac|apply And.intro
   ·rw[lL,if_neg (fun q=>by rw[q.1]at a;cases a)]
    repeat' first|exact iR _ _|exact rfl|exact aa _|exact ac|apply And.intro
  ·have Lq:t.Perm (List.range L.length):=oF ht fun i hi=>hall i (by rwa [eC])
   have hG:∀m,jB (bP L s) (wdF L (bP L s) t) m=wl L m:=fun m=>Be Lr Lq m
   have hS:=jL L
   have hn:[4,6,2,5].Nodup:=by decide
   refine ⟨⟨rfl,rfl,trivial⟩,fun H' hl' h =>?_,rfl,⟨Nat.zero_le _,rfl⟩,?_,fun _=>rfl,fun x hx=>⟨fun a =>?_,fun a =>?_⟩⟩
   ·have:=zK hk hl (H:=H') (by decide) h.1 h.2.1
    rw[hl']at this;exact this
   ·repeat' first|exact rfl|exact aa _|exact ac|apply And.intro
   ·have hx1:x<(aI L).length:=by have:=av a;omega
    refine ⟨⟨by omega,by omega⟩,Ce hx1 (by omega),⟨rfl,rfl,rfl,rfl,trivial⟩,fun H' _ h=>Hk _ _ _ hn h.1 h.2.1 h.2.2.1 h.2.2.2.1,fun g=>⟨fun c=>absurd (eq_of_beq c) (by omega),fun c =>?_⟩,fun g =>?_⟩
    ·rw[hG]at g
     have hq:du L ((aI L).getD x ay)=false:=by unfold du;rw[g];rfl
     have hkl:(dg (du L) (aI L) (x+1)).length=x:=by rw[oa hx1 hq,se hx.2,List.length_take];omega
     refine ⟨aG (by omega),rfl,⟨hx1,by omega⟩,?_,fun _=>rfl,fun y hy=>⟨fun b =>?_,fun b =>?_⟩⟩
     ·rw[hkl,Cw hx1 hq,Cv hx.2 hx.1]
      repeat' first|exact fT _ _|exact rfl|exact aa _|exact ac|apply And.intro
     ·have hy1:y<(aI L).length:=by have:=av b;omega
      have hml:=vt (q:=du L) (M:=aI L) hy.1
      refine ⟨⟨by omega,by omega⟩,Ce (by omega) (by omega),⟨rfl,rfl,rfl,rfl,trivial⟩,fun H' _ h=>Hk _ _ _ hn h.1 h.2.1 h.2.2.1 h.2.2.2.1,?_⟩
      rw[hG,Fk hy1]
      refine ⟨fun g2 =>?_,fun g2 =>?_⟩
      ·have hq:du L ((aI L).getD y ay)=true:=g2
       have hy2:=hy.2
       have hle:(dg (du L) (aI L) (y+1)).length=(dg (du L) (aI L) y).length+1:=by rw[zm hy1 hq,ao];rfl
       refine ⟨⟨by omega,by omega⟩,by rw[aP hZ,hml];omega,rfl,aG (by omega),aG (by omega),y+1,⟨by omega,by omega⟩,by omega,rfl,?_⟩
       rw[hle,Ia hy1 hq]
       repeat' first|(exact Mk (by omega) (by omega) _)|exact fT _ _|exact rfl|exact aa _|exact ac|apply And.intro
      ·have hq:du L ((aI L).getD y ay)=false:=g2
       have hy2:=hy.2
       refine ⟨aG (by omega),y+1,⟨by omega,by rw[oa hy1 hq];omega⟩,by omega,rfl,?_⟩
       rw[oa hy1 hq,Cw hy1 hq]
       repeat' first|exact fT _ _|exact rfl|exact aa _|exact ac|apply And.intro
     ·have hy1:y=(aI L).length:=by have:=aA b;omega
      have hml:=vt (q:=du L) (M:=aI L) hy.1
      have hy2:=hy.2
      have e:dg (du L) (aI L) y=cq L:=by rw[hy1,A1];rfl
      refine ⟨⟨⟨.inr (.inr rfl),Nat.le_refl _⟩,Nat.le_refl _,by omega,by omega⟩,rfl,by rw[aP hZ,hml];omega,rfl,⟨⟨.inr (.inr rfl),by omega⟩,⟨by omega,by omega⟩,Nat.zero_le _⟩,rfl,rfl,?_,?_,trivial⟩
      ·rw[e];exact aa _
      ·rw[<- e];exact EJ (by omega) _ _
    ·rw[hG]at g
     have hq:du L ((aI L).getD x ay)=true:=by unfold du;rw[g];rfl
     refine ⟨aG (by omega),x+1,⟨by omega,?_⟩,by omega,rfl,?_⟩
     ·rw[List.take_succ_eq_append_getElem hx1,List.all_append,hx.2,List.all_cons]
      rw[show (aI L).getD x ay=(aI L)[x] from by simp[List.getD_eq_getElem?_getD,hx1]]at hq
      rw[hq];rfl
     ·repeat' first|exact rfl|exact aa _|exact ac|apply And.intro
   ·have hx1:x=(aI L).length:=by have:=aA a;omega
    have Lp:cq L=aI L:=by
     show (aI L).filter (du L)=aI L
     have:=hx.2
     rw[hx1,List.take_length,List.all_eq_true]at this
     exact List.filter_eq_self.2 this
    rw[Lp]
    repeat' first|exact dU|exact Bx _ _|exact rfl|exact aa _|exact ac|apply And.intro
theorem IC{L:List Msg}(hk:∀m∈L,okM m=true)(hl:L.length<=2000){i q:Nat}(hne:i≠q)(hi:H[i]?=some (.cells true 0 [.map (some q)]))(hq:H[q]?=some (.map (aq L))) :
  ad prog 98 [.pointer (some ⟨i,0,none⟩)] H [] (Is (.slice (some ⟨H.length,0,some 2⟩) (cq L).length (cq L).length) (H ++ [.cells true 7 ((cq L).flatMap bL)])) :=
 BF (fun j => .slice (some ⟨j,0,some 2⟩) (cq L).length (cq L).length) (os:=[.cells true 0 [.map (some 1)],.map (aq L)]) (Eq.mpr (LQ L) (hv4 hk hl)) (tl L 1) rfl
  ⟨⟨_,_,rfl,fT _ _⟩,trivial⟩ (ids:=[i,q]) (by simp[hne]) (lU hi hq) (fun j=>rfl) rfl
def JS(L:List Msg):Prop :=
 (((some (.cells true 0 [.map (some 1)]:ab)=some (.cells true 0 [.map (some 1)]:ab))/\(some (.map (aq L):ab)=some (.map (aq L):ab))/\True)/\(∀H':Heap,H'.length=2->(H'[0]?=some (.cells true 0 [.map (some 1)]:ab)/\H'[1]?=some (.map (aq L):ab)/\True)->ad prog 98 [.pointer (some ⟨0,0,none⟩)] H' [] (Is (.slice (some ⟨2,0,some 2⟩) (List.length (cq L)) (List.length (cq L))) (H' ++ [(.cells true 7 (List.flatMap bL (cq L)):ab)])))/\true=true/\wk (.tuple #[.slice (some ⟨2,0,some 2⟩) (List.length (cq L)) (List.length (cq L)),.int .i64 0]:Value) (rn (sg 2 [(2,2)]) 3 (.tuple #[.slice (some ⟨2,0,some 2⟩) (List.length (cq L)) (List.length (cq L)),.int .i64 0]:Value))/\(some (.cells true 7 (List.flatMap bL (cq L)):ab)=some (.cells true 7 (List.flatMap bL (cq L)):ab)/\aj 2 (.cells true 7 (List.flatMap bL (cq L)):ab)=true)/\True)
theorem Kd(L:List Msg):vF prog msk (dm 0) 100000 true 40 true 34 [.pointer (some ⟨0,0,none⟩)] (aW [.cells true 0 [.map (some 1)],.map (aq L)]) (some [])
 (.go 16 (.ans [(0,.cells true 0 [.map (some 1)]),(1,.map (aq L))] (.slice (some ⟨2,0,some 2⟩) (List.length (cq L)) (List.length (cq L))) [.cells true 7 (List.flatMap bL (cq L))] (.go 1 (.again [(2,2)]))))
 (ca ((aW [.cells true 0 [.map (some 1)],.map (aq L)]):HT).n 3 (.tuple #[.slice (some ⟨2,0,some 2⟩) (List.length (cq L)) (List.length (cq L)),.int .i64 0]) [(true,.cells true 7 (List.flatMap bL (cq L)))])=JS L:=by kernel_rfl
end
end Go.Proofs.YtbgfjemppjhmjaaGreat
namespace Go.Proofs.YtbgfjemppjhmjaaGreat
open Go Go.Shelf
end Go.Proofs.YtbgfjemppjhmjaaGreat
namespace Go.K
open Go Go.Proofs
variable {P:Program}
end Go.K
namespace Go.Proofs.YtbgfjemppjhmjaaGreat
noncomputable section
attribute [local irreducible] vF
variable {w h:Int} {a:List Bool} {p:Int} {ss:List (Int×Int)} {o1 o2:Bool} {z1 z2:Nat} {H:Heap}
theorem Hi{L:List Msg}(hk:∀m∈L,okM m=true)(hl:L.length<=2000){i q:Nat}(hne:i≠q)(hi:H[i]?=some (.cells true 0 [.map (some q)]))(hq:H[q]?=some (.map (aq L))) :
  ad prog 34 [.pointer (some ⟨i,0,none⟩)] H [] (Is (.tuple #[.slice (some ⟨H.length,0,some 2⟩) (cq L).length (cq L).length,.int .i64 0]) (H ++ [.cells true 7 ((cq L).flatMap bL)])):=by
 refine BF (fun j => .tuple #[.slice (some ⟨j,0,some 2⟩) (cq L).length (cq L).length,.int .i64 0]) (os:=[.cells true 0 [.map (some 1)],.map (aq L)]) (b:=true) (Eq.mpr (Kd L) ?_) (tl L 1) rfl
  ⟨⟨_,_,rfl,fT _ _⟩,trivial⟩ (ids:=[i,q]) (by simp[hne]) (lU hi hq) (fun j=>rfl) rfl
 refine ⟨⟨rfl,rfl,trivial⟩,fun H' hl' h =>?_,rfl,aa _,⟨rfl,fT _ _⟩,trivial⟩
 have:=IC hk hl (H:=H') (by decide) h.1 h.2.1
 rw[hl']at this;exact this
def ae:Int×Int:=(0,0)
abbrev spC(x:Int×Int):List Value:=[.int .i64 x.1,.int .i64 x.2]
def nM(a:Int)(st:Int×Int×List (Int×Int))(m:Msg):Int×Int×List (Int×Int) :=
 if m.au=a/\m.nu≠st.1 then (m.nu,m.nu+1,if st.2.1<m.nu then st.2.2 ++ [(st.2.1,m.nu-1)] else st.2.2) else st
def cI(M:List Msg)(a:Int)(x:Nat):Int×Int×List (Int×Int):=(M.take x).foldl (nM a) (0,1,[])
def iA(L:List Msg)(a:Int):List (Int×Int):=(cI (aI L) a (aI L).length).2.2
theorem i5{M:List Msg}{x:Nat}(hx:x<M.length)(a:Int):cI M a (x+1)=nM a (cI M a x) (M.getD x ay):=by
 unfold cI
 rw[List.take_succ_eq_append_getElem hx,List.foldl_append]
 rw[show M.getD x ay=M[x] from by simp[List.getD_eq_getElem?_getD,hx]];rfl
theorem DJ(M:List Msg)(a:Int):∀x,(cI M a x).2.2.length<=x:=by
 intro x
 induction x with
 |zero=>exact Nat.le_refl _
 |succ x ih =>
  rcases Nat.lt_or_ge x M.length with h|h
  ·rw[i5 h]
   unfold nM
   split
   ·show (if (cI M a x).2.1<(M.getD x ay).nu then (cI M a x).2.2 ++ [((cI M a x).2.1,(M.getD x ay).nu-1)] else (cI M a x).2.2).length<=x+1
    split
    ·rw[ao];simp only[List.length_cons,List.length_nil];omega
    ·omega
   ·omega
  ·have:cI M a (x+1)=cI M a x:=by unfold cI;rw[List.take_of_length_le (by omega),List.take_of_length_le h]
   rw[this];omega
theorem Aa{a:Int}{st:Int×Int×List (Int×Int)}{m:Msg}(h:m.au≠a∨m.nu=st.1):nM a st m=st:=if_neg fun q=>h.elim (fun e=>e q.1) (fun e=>q.2 e)
theorem Gh{a:Int}{st:Int×Int×List (Int×Int)}{m:Msg}(h1:m.au=a)(h2:m.nu≠st.1)(h3:st.2.1<m.nu):nM a st m=(m.nu,m.nu+1,st.2.2 ++ [(st.2.1,m.nu-1)]):=by
 unfold nM;rw[if_pos ⟨h1,h2⟩,if_pos h3]
theorem Gg{a:Int}{st:Int×Int×List (Int×Int)}{m:Msg}(h1:m.au=a)(h2:m.nu≠st.1)(h3:¬ st.2.1<m.nu):nM a st m=(m.nu,m.nu+1,st.2.2):=by
 unfold nM;rw[if_pos ⟨h1,h2⟩,if_neg h3]
end
end Go.Proofs.YtbgfjemppjhmjaaGreat
