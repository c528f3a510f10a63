/- Blocks renamed: what a round of a loop has made may be named anew. No condition. -/
import Derived.Test.YtkkgnalgmebfjaaGreatGK16xV3
import Derived.Test.YtkkgnalgmebfjaaGreatGK12xK15
open Go Go.K
set_option linter.unusedVariables false
set_option linter.unusedSimpArgs false
namespace Go.K
noncomputable section
variable {P:Program}
def bad:Value:=.iface 0 .nilIface
theorem VR.bad{Z:Ren}{v':Value}(h:VR Z bad v'):False:=by cases h
def rn(V:Nat->Option Nat):Nat->Value->Value
 |0,_=>bad
 |d+1,v=>match v with
  | .pointer (some ⟨id,off,none⟩)=>match V id with|some id' => .pointer (some ⟨id',off,none⟩)|none=>bad
  | .pointer (some ⟨id,off,some (k+3)⟩)=>match V id with|some id' => .pointer (some ⟨id',off,some (k+3)⟩)|none=>bad
  | .slice (some ⟨id,off,none⟩) len cap=>match V id with|some id' => .slice (some ⟨id',off,none⟩) len cap|none=>bad
  | .slice (some ⟨id,off,some (k+1)⟩) len cap=>match V id with
   |some id' => .slice (some ⟨id',off,some (k+1)⟩) len cap
   |none=>match len,cap with
    |0,0 => .slice (some ⟨0,0,some (k+1)⟩) 0 0
    |_,_=>bad
  | .map (some id)=>match V id with|some id' => .map (some id')|none=>bad
  | .func (.yield l) ⟨[]⟩ ⟨[]⟩=>match V l with|some l' => .func (.yield l') #[] #[]|none=>bad
  | .func (.func f) first cap => .func (.func f) ⟨first.toList.map (rn V d)⟩ ⟨cap.toList.map (rn V d)⟩
  | .func _ _ _=>bad
  | .agg cs => .agg ⟨cs.toList.map (rn V d)⟩
  | .tuple vs => .tuple ⟨vs.toList.map (rn V d)⟩
  | .iface k (.agg cs) => .iface k (.agg ⟨cs.toList.map (rn V d)⟩)
  | .iface k (.tuple cs) => .iface k (.tuple ⟨cs.toList.map (rn V d)⟩)
  | .iface k (.pointer (some ⟨id,off,some (j+3)⟩))=>match V id with|some id' => .iface k (.pointer (some ⟨id',off,some (j+3)⟩))|none=>match k with|1 => .iface 1 (.pointer none)|_=>bad
  |v=>v
def rno(V:Nat->Option Nat)(d:Nat):ab->ab
 | .cells own z cs => .cells own z (cs.map (rn V d))
 | .map es => .map (es.map fun e=>(rn V d e.1,rn V d e.2))
 | .loop st pe tm N ps as bd => .dead
 | .iter m n s=>match V m with|some m' => .iter m' n s|none => .dead
 | .fam z cs => .fam z (cs.map (rn V d))
 | .dead => .dead
theorem gg{Z ρ':Ren}{V:Nat->Option Nat}{d:Nat}(ih:∀{v r:Value},VR ρ' (rn V d v) r->VR Z v r){cs:Array Value}{r:Array Value}
  (h1:(⟨cs.toList.map (rn V d)⟩:Array Value).size=r.size) (h2:∀(i:Nat) (v v':Value),(⟨cs.toList.map (rn V d)⟩:Array Value)[i]?=some v->r[i]?=some v'->VR ρ' v v') :
  cs.size=r.size/\∀(i:Nat) (v v':Value),cs[i]?=some v->r[i]?=some v'->VR Z v v':=by
 refine ⟨by simpa using h1,fun i v v' a b=>ih (h2 i _ v' ?_ b)⟩
 have:(⟨cs.toList.map (rn V d)⟩:Array Value)=cs.map (rn V d):=Array.toList_inj.1 (by simp)
 rw[this,Array.getElem?_map,a];rfl
theorem kC{Z ρ':Ren}{V:Nat->Option Nat}{d s:Nat}(ih:∀{v r:Value},VR ρ' (rn V d v) r->VR Z v r){cs m:Array Value}
  (h1:(⟨cs.toList.map (rn V d)⟩:Array Value).size=0∨(⟨cs.toList.map (rn V d)⟩:Array Value).size+s<=m.size) (h2:∀(i:Nat) (v v':Value),(⟨cs.toList.map (rn V d)⟩:Array Value)[i]?=some v->m[i+s]?=some v'->VR ρ' v v') :
  (cs.size=0∨cs.size+s<=m.size)/\∀(i:Nat) (v v':Value),cs[i]?=some v->m[i+s]?=some v'->VR Z v v':=by
 refine ⟨by simpa using h1,fun i v v' a b=>ih (h2 i _ v' ?_ b)⟩
 have:(⟨cs.toList.map (rn V d)⟩:Array Value)=cs.map (rn V d):=Array.toList_inj.1 (by simp)
 rw[this,Array.getElem?_map,a];rfl
theorem jt{Z ρ':Ren}{V:Nat->Option Nat}(hσ:∀id id' r,V id=some id'->ρ' id'=some r->Z id=some r)(hm:∀b m,ρ'.mem b=some m->Z.mem b=some m)(hg:∀F F' k r,V F=some F'->ρ'.g F' k=some r->Z.g F k=some r):∀(d:Nat) {v r:Value},VR ρ' (rn V d v) r->VR Z v r:=by
 intro d
 induction d with
 |zero=>intro v r h;exact (VR.bad h).elim
 |succ d ih =>
  intro v r h
  unfold rn at h
  split at h
  ·split at h
   ·rename_i g;cases h with|ptr k=>exact .ptr (hσ _ _ _ g k)
   ·exact (VR.bad h).elim
  ·split at h
   ·rename_i g;cases h with|eR k=>exact .eR (hg _ _ _ _ g k)
   ·exact (VR.bad h).elim
  ·split at h
   ·rename_i g
    cases h with
    |slice k hl hc ho=>exact .slice (hσ _ _ _ g k) hl hc ho
    |bK k=>exact .bK (hσ _ _ _ g k)
   ·exact (VR.bad h).elim
  ·split at h
   ·rename_i g
    cases h with
    |ba=>exact .ba
    |bb=>exact .bb
    |bF k hp hl hc ho=>exact .bF (hσ _ _ _ g k) hp hl hc ho
    |bf=>exact .bf
    |bQ k hp hl hc ho=>exact .bQ (hσ _ _ _ g k) hp hl hc ho
   ·split at h
    ·cases h with
     |ba=>exact .ba
     |bb=>exact .bb
     |bF k hp hl hc ho=>exact absurd hp (Nat.lt_irrefl 0)
     |bf=>exact .bf
     |bQ k hp hl hc ho=>exact absurd hp (Nat.lt_irrefl 0)
    ·exact (VR.bad h).elim
  ·split at h
   ·rename_i g;cases h with|map k=>exact .map (hσ _ _ _ g k)
   ·exact (VR.bad h).elim
  ·split at h
   ·rename_i g;cases h with|yield k=>exact .yield (hσ _ _ _ g k)
   ·exact (VR.bad h).elim
  ·cases h with
   |func h1 h2 h3 h4 =>
    obtain ⟨a1,a2⟩:=gg ih h1 h2
    obtain ⟨b1,b2⟩:=gg ih h3 h4
    exact .func a1 a2 b1 b2
  ·exact (VR.bad h).elim
  ·cases h with|agg h1 h2=>obtain ⟨a1,a2⟩:=gg ih h1 h2;exact .agg a1 a2
  ·cases h with|tuple h1 h2=>obtain ⟨a1,a2⟩:=gg ih h1 h2;exact .tuple a1 a2
  ·cases h with
   |deep g1 g2 g3 g4 g5=>obtain ⟨a1,a2⟩:=kC ih g4 g5;exact .deep (hm _ _ g1) g2 g3 a1 a2
   |cu=>exact .cu
  ·cases h with|cL g1 g2 g3=>obtain ⟨a1,a2⟩:=kC ih g2 g3;exact .cL (hm _ _ g1) a1 a2
  ·split at h
   ·rename_i g
    cases h with
    |fsl k hp hc hs ho=>exact .fsl (hg _ _ _ _ g k) hp hc hs ho
    |dc=>exact .dc
   ·split at h
    ·cases h with|dc=>exact .dc
    ·exact (VR.bad h).elim
  ·rename_i n1 n1f n2 n2q n3 n4 n5 n6 n7 n8 n9 n10 n11
   cases h with
   |junk=>exact .junk _
   |bool b=>exact .bool b
   |int k n=>exact .int k n
   |float k n=>exact .float k n
   |string s=>exact .string s
   |cO=>exact .cO
   |ptr k=>exact absurd rfl (n1 _ _)
   |eR k=>exact absurd rfl (n1f _ _ _)
   |bG=>exact .bG
   |slice k hl hc ho=>exact absurd rfl (n2 _ _ _ _)
   |bK k=>exact absurd rfl (n2 _ _ _ _)
   |cq=>exact .cq
   |ba=>exact .ba
   |bb=>exact .bb
   |bF=>exact absurd rfl (n2q _ _ _ _ _)
   |bf=>exact .bf
   |bQ=>exact absurd rfl (n2q _ _ _ _ _)
   |cP=>exact .cP
   |map k=>exact absurd rfl (n3 _)
   |nilFunc=>exact .nilFunc
   |nilIface=>exact .nilIface
   |func h1 h2 h3 h4=>exact absurd rfl (n5 _ _ _)
   |yield k=>exact absurd rfl (n4 _)
   |agg h1 h2=>exact absurd rfl (n7 _)
   |tuple h1 h2=>exact absurd rfl (n8 _)
   |deep=>exact absurd rfl (n9 _ _)
   |cu=>exact absurd rfl (n9 _ _)
   |fsl=>exact absurd rfl (n11 _ _ _ _)
   |dc=>exact .dc
   |cL=>exact absurd rfl (n10 _ _)
theorem kb{Z ρ':Ren}{V:Nat->Option Nat}(hσ:∀id id' r,V id=some id'->ρ' id'=some r->Z id=some r)(hm:∀b m,ρ'.mem b=some m->Z.mem b=some m)(hg:∀F F' k r,V F=some F'->ρ'.g F' k=some r->Z.g F k=some r){d:Nat}{r:RI}{o:ab}{w:World}(h:bt ρ' r (rno V d o) w)(hl:rno V d o = .dead->o = .dead):bt Z r o w:=by
 cases o with
 |cells own z cs =>
  obtain ⟨h1,h2,cs',ty,fz,h3,h4,h5,h6⟩:=h
  refine ⟨h1,h2,cs',ty,fz,h3,h4,h5,fun i v hv =>?_⟩
  obtain ⟨v',g1,g2⟩:=h6 i (rn V d v) (by rw[List.getElem?_map,hv];rfl)
  exact ⟨v',g1,jt hσ hm hg d g2⟩
 |map es =>
  obtain ⟨h1,es',h2,h3,h4⟩:=h
  refine ⟨h1,es',h2,by simpa using h3,fun i k v hv =>?_⟩
  obtain ⟨e',g1,g2,g3⟩:=h4 i (rn V d k) (rn V d v) (by rw[List.getElem?_map,hv];rfl)
  exact ⟨e',g1,jt hσ hm hg d g2,jt hσ hm hg d g3⟩
 |loop st pe tm N ps as bd=>exact absurd (hl rfl) (by simp)
 |iter m n s =>
  simp only[rno]at h hl
  cases hs:V m with
  |none=>rw[hs]at hl;exact absurd (hl rfl) (by simp)
  |some m' =>
   rw[hs]at h
   obtain ⟨h1,h0,rm,h2,h3⟩:=h
   exact ⟨h1,h0,rm,hσ _ _ _ hs h2,h3⟩
 |fam _ _=>trivial
 |dead=>trivial
def wk(a b:Value):Prop:=∀(Z:Ren) (x:Value),VR Z a x->VR Z b x
theorem ah(a:Value):wk a a:=fun _ _ h=>h
theorem wo{a b:Value}(h:a=b):wk a b:=by subst h;exact ah a
theorem aJ(id o k:Nat)(hk:k=1∨k=2):wk (.slice none 0 0) (.slice (some ⟨id,o,some k⟩) 0 0):=by
 intro Z x h
 rcases hk with rfl|rfl <;> cases h
 ·exact .ba
 ·exact .bf
theorem bi{id o l c:Nat}(hp:0<l):wk (.slice (some ⟨id,o,none⟩) l c) (.slice (some ⟨id,o,some 1⟩) l c):=by
 intro Z x h
 cases h with
 |slice h hl hc ho=>exact .bF h hp hl hc ho
 |bK=>exact absurd hp (Nat.lt_irrefl 0)
theorem ct{id o l:Nat}:wk (.slice (some ⟨id,o,some 1⟩) l l) (.slice (some ⟨id,o,some 2⟩) l l):=by
 intro Z x h
 cases h with
 |ba=>exact .bf
 |bb=>exact .bf
 |bF h hp hl hc ho=>exact .bQ h hp hl hc ho
def wks:List Value->List Value->Prop
 | [],[] =>True
 |a :: r,b :: s=>wk a b/\wks r s
 |_,_=>False
theorem fw:∀{xs ys:List Value},wks xs ys->xs.length=ys.length/\∀(i:Nat) (a b:Value),xs[i]?=some a->ys[i]?=some b->wk a b
 | [],[],_=>⟨rfl,fun i a b h=>by simp at h⟩
 |a :: r,b :: s,h=>⟨by simp[(fw h.2).1],fun i x y hx hy=>by
   cases i with
   |zero=>simp at hx hy;subst hx;subst hy;exact h.1
   |succ i=>exact (fw h.2).2 i x y (by simpa using hx) (by simpa using hy)⟩
 | [],_ :: _,h=>h.elim
 |_ :: _,[],h=>h.elim
theorem av{xs ys:List Value}(h:wks xs ys):wk (.agg ⟨xs⟩) (.agg ⟨ys⟩):=by
 obtain ⟨h1,h2⟩:=fw h
 intro Z x hx
 cases hx with
 | @agg cs cs' g1 g2 =>
  refine .agg (by simpa[<- h1] using g1) fun i v v' hv hv' =>?_
  have hi:i<xs.length:=by rw[h1];have:=(Array.getElem?_eq_some_iff.1 hv).1;simpa using this
  exact h2 i xs[i] v (List.getElem?_eq_getElem hi) (by simpa using hv) _ _ (g2 i _ v' (by simp[hi]) hv')
theorem aD{xs ys:List Value}(h:wks xs ys):wk (.tuple ⟨xs⟩) (.tuple ⟨ys⟩):=by
 obtain ⟨h1,h2⟩:=fw h
 intro Z x hx
 cases hx with
 | @tuple cs cs' g1 g2 =>
  refine .tuple (by simpa[<- h1] using g1) fun i v v' hv hv' =>?_
  have hi:i<xs.length:=by rw[h1];have:=(Array.getElem?_eq_some_iff.1 hv).1;simpa using this
  exact h2 i xs[i] v (List.getElem?_eq_getElem hi) (by simpa using hv) _ _ (g2 i _ v' (by simp[hi]) hv')
def iW(cs cs':List Value):Prop:=∀(k:IntKind) (n:Int),cs'[0]?=some (.int k n)->cs[0]?=some (.int k n)
theorem j8(cs:List Value):iW cs cs:=fun _ _ h=>h
theorem A0{V:Nat->Option Nat}{d:Nat}{v:Value}{k:IntKind}{n:Int}(h:rn V d v = .int k n):v = .int k n:=by
 cases d with
 |zero=>cases h
 |succ d =>
  unfold rn at h
  split at h <;> first|(cases h;done)|(split at h <;> first|(cases h;done)|(split at h <;> first|(cases h;done)|(split at h <;> cases h)))|exact h
theorem VR.sF{Z:Ren}{v:Value}(h:∀x,VR Z v x):v = .chan none:=by
 have h1:=h (.bool true)
 have h2:=h (.bool false)
 cases h1 with
 |junk=>rfl
 |bool=>cases h2
theorem tZ.back{Z ρ':Ren}{r:RI}{k:Nat}{cs cs':List Value}{c2:Array Value}(h:tZ ρ' r k cs' c2)(hl:iW cs cs')(hn:cs'.length=cs.length)(hv:∀(i:Nat) (v v':Value),cs[i]?=some v->cs'[i]?=some v'->∀x,VR ρ' v' x->VR Z v x):tZ Z r k cs c2:=by
 have key:∀v,cs[k+1]?=some v->∃v',cs'[k+1]?=some v'/\((v' = .chan none/\v = .chan none)∨∃row',v' = .agg row'/\r.s+row'.size<=c2.size/\VR Z v (.agg (c2.extract r.s (r.s+row'.size)))):=fun v a=>by
  have hi:k+1<cs'.length:=by rw[hn];exact (List.getElem?_eq_some_iff.1 a).1
  have a':=List.getElem?_eq_getElem hi
  refine ⟨_,a',?_⟩
  rcases h.2.1 _ a' with e|⟨row',e⟩
  ·left
   refine ⟨e,VR.sF (Z:=Z) fun x=>hv _ _ _ a a' x ?_⟩
   rw[e];exact .junk x
  ·right
   rw[e]at a'
   obtain ⟨h1,h2⟩:=h.2.2 row' a'
   refine ⟨row',e,h1,hv _ _ _ a a' _ ?_⟩
   refine .agg (by simp;omega) (fun i v v' a b =>?_)
   obtain ⟨v2,e1,e2⟩:=h2 i v a
   have hi:=(Array.getElem?_eq_some_iff.1 a).1
   rw[Array.getElem?_extract]at b
   rw[if_pos (by omega),Nat.add_comm,e1]at b
   cases b;exact e2
 refine ⟨⟨h.1.1,h.1.2.1,h.1.2.2.1,hl _ _ h.1.2.2.2⟩,fun v a =>?_,fun row hr =>?_⟩
 ·obtain ⟨v',_,hh⟩:=key v a
  rcases hh with ⟨_,e⟩|⟨row',_,_,hy⟩
  ·exact .inl e
  ·cases hy with
   |junk=>exact .inl rfl
   |agg=>exact .inr ⟨_,rfl⟩
 ·obtain ⟨v',_,hh⟩:=key _ hr
  rcases hh with ⟨_,e⟩|⟨row',_,h1,hy⟩
  ·cases e
  ·cases hy with
   |agg g1 g2 =>
    have hsz:row.size=row'.size:=by rw[g1];simp;omega
    refine ⟨by omega,fun i v a =>?_⟩
    have hi:=(Array.getElem?_eq_some_iff.1 a).1
    have hc:i+r.s<c2.size:=by omega
    refine ⟨c2[i+r.s],Array.getElem?_eq_getElem hc,g2 i v _ a ?_⟩
    rw[Array.getElem?_extract,if_pos (by omega),Nat.add_comm]
    exact Array.getElem?_eq_getElem hc
def wkO(o o':ab):Prop:=o'.owned=o.owned/\o'.alive=o.alive/\(∀(Z:Ren) (r:RI) (w:World),bt Z r o w->bt Z r o' w) /\
 ∀z cs,o' = .fam z cs->∃cs0,o = .fam z cs0/\cs0.length=cs.length/\(∀(i:Nat) (v v':Value),cs0[i]?=some v->cs[i]?=some v'->wk v v')/\(z=0->iW cs cs0)
theorem wp(o:ab):wkO o o:=⟨rfl,rfl,fun _ _ _ h=>h,fun z cs h=>⟨cs,h,rfl,fun i v v' a b=>(by rw[a]at b;cases b;exact ah _),fun _=>j8 cs⟩⟩
theorem iU{o o':ab}(h:o=o'):wkO o o':=by subst h;exact wp o
theorem aq{own:Bool}{z:Nat}{cs cs':List Value}(h:wks cs cs'):wkO (.cells own z cs) (.cells own z cs'):=by
 obtain ⟨h1,h2⟩:=fw h
 refine ⟨rfl,rfl,fun Z r w ho =>?_,fun _ _ h=>by cases h⟩
 obtain ⟨k1,k2,cs2,ty,fz,k3,k4,k5,k6⟩:=ho
 refine ⟨k1,k2,cs2,ty,fz,k3,k4,k5,fun i x hx =>?_⟩
 have hi:i<cs.length:=by rw[h1];exact (List.getElem?_eq_some_iff.1 hx).1
 obtain ⟨x',y1,y2⟩:=k6 i _ (List.getElem?_eq_getElem hi)
 exact ⟨x',y1,h2 i _ x (List.getElem?_eq_getElem hi) hx _ _ y2⟩
def cg(ρ':Ren)(V:Nat->Option Nat):Ren:=⟨fun id=>(V id).bind ρ'.f,ρ'.mem,fun F k=>(V F).bind fun F'=>ρ'.g F' k⟩
theorem nW{Z ρ':Ren}{n:Nat}(hle:∀id r,id<n->ρ' id=some r->Z id=some r)(hm:∀b m,ρ'.mem b=some m->Z.mem b=some m){r:RI}{o:ab}{w:World}(hb:ar n o=true)(h:bt ρ' r o w):bt Z r o w:=by
 cases o with
 |cells own z cs =>
  obtain ⟨k1,k2,cs',ty,fz,k3,k4,k5,k6⟩:=h
  simp only[ar,List.all_eq_true]at hb
  exact ⟨k1,k2,cs',ty,fz,k3,k4,k5,fun i x hx=>let ⟨x',y1,y2⟩:=k6 i x hx; ⟨x',y1,bj hle hm (hb x (List.mem_of_getElem? hx)) y2⟩⟩
 |fam _ _=>trivial
 |dead=>trivial
 |map es =>
  obtain ⟨k1,es',k2,k3,k4⟩:=h
  simp only[ar,List.all_eq_true,Bool.and_eq_true]at hb
  exact ⟨k1,es',k2,k3,fun i k x hx=>let ⟨e',y1,y2,y3⟩:=k4 i k x hx;let q:=hb _ (List.mem_of_getElem? hx); ⟨e',y1,gQ hle hm q.1 y2,gQ hle hm q.2 y3⟩⟩
 |iter m n s =>
  obtain ⟨k1,k0,rm,k2,k3⟩:=h
  exact ⟨k1,k0,rm,hle _ _ (ip hb) k2,k3⟩
 |loop _ _ _ _ _ _ _=>simp[ar]at hb
theorem bt.back{Z ρ' ρ2:Ren}(hle:Ren.le Z ρ')(hf:∀id r,Z id=some r->ρ2 id=some r)(hm:∀b m,ρ'.mem b=some m->ρ2.mem b=some m)(hg:∀F k r,Z.g F k=some r->ρ2.g F k=some r){r:RI}{o:ab}{w w':World}(h:bt Z r o w)(h':bt ρ' r o w'):bt ρ2 r o w':=by
 cases o with
 |cells own z cs =>
  obtain ⟨k1,k2,cs',ty,fz,k3,k4,k5,k6⟩:=h'
  obtain ⟨_,_,cs2,_,_,_,_,_,j6⟩:=h
  exact ⟨k1,k2,cs',ty,fz,k3,k4,k5,fun i x hx=>let ⟨x',y1,y2⟩:=k6 i x hx;let ⟨x2,_,z2⟩:=j6 i x hx; ⟨x',y1,z2.down hle hf hm hg y2⟩⟩
 |fam _ _=>trivial
 |dead=>trivial
 |map es =>
  obtain ⟨k1,es',k2,k3,k4⟩:=h'
  obtain ⟨_,es2,_,_,j4⟩:=h
  exact ⟨k1,es',k2,k3,fun i k x hx=>let ⟨e',y1,y2,y3⟩:=k4 i k x hx;let ⟨_,_,z2,z3⟩:=j4 i k x hx; ⟨e',y1,z2.down hle hf hm hg y2,z3.down hle hf hm hg y3⟩⟩
 |iter m n s =>
  obtain ⟨k1,k0,rm,k2,k3⟩:=h'
  obtain ⟨_,_,rm2,j2,_⟩:=h
  have:=hle _ _ j2
  rw[k2]at this
  cases this
  exact ⟨k1,k0,rm,hf _ _ j2,k3⟩
 |loop st pe tm N ps asg bd =>
  obtain ⟨k1,l,k2,k3,k4,k5,k6,k7,k8,k9⟩:=h'
  obtain ⟨_,l2,_,_,_,_,_,_,_,j9⟩:=h
  exact ⟨k1,l,k2,k3,k4,k5,k6,k7,k8,fun t ht=>(j9 t ht).down hle hf hm hg (k9 t ht)⟩
theorem oL(V:Nat->Option Nat)(d:Nat)(o:ab)(h:rno V d o = .dead->o = .dead):(rno V d o).owned=o.owned/\(rno V d o).alive=o.alive:=by
 cases o with
 |loop _ _ _ _ _ _ _=>exact absurd (h rfl) (by simp)
 |iter m n s =>
  simp only[rno]at h ⊢
  cases hs:V m with
  |none=>rw[hs]at h;exact absurd (h rfl) (by simp)
  |some m'=>exact ⟨rfl,rfl⟩
 |_=>exact ⟨rfl,rfl⟩
def ab.wX:ab->Bool
 | .dead=>false
 |_=>true
theorem rr{o:ab}(h:o.alive=true):o.wX=true:=by cases o <;> first|rfl|cases h
structure nX(V:Nat->Option Nat)(Z ρ':Ren):Prop where
 f:∀id id' r,V id=some id'->ρ' id'=some r->Z id=some r
 m:∀b m,ρ'.mem b=some m->Z.mem b=some m
 g:∀F F' k r,V F=some F'->ρ'.g F' k=some r->Z.g F k=some r
structure Emb(H0:Heap)(ML:List Nat)(N:Nat)(V:Nat->Option Nat)(d:Nat)(T:Tm)(H:Heap)(T':Tm)(H':Heap):Prop where
 len:H0.length<=H.length
 old:∀id,id<H0.length->V id=some id
 dom:∀id id',V id=some id'->id<H.length
 inj:∀id1 id2 id' o1 o2,V id1=some id'->V id2=some id'->H[id1]?=some o1->H[id2]?=some o2->o1.wX=true->o2.wX=true->id1=id2
 slots:∀t,t<N->T t=junk∨wk (T' t) (rn V d (T t))
 same:∀id,id<H0.length->id ∉ ML->H[id]?=H0[id]?
 obj:∀id id' o,V id=some id'->(H0.length<=id∨id∈ML)->H[id]?=some o->(o = .dead∨(∃o',H'[id']?=some o'/\o'.owned=o.owned/\o'.alive=o.alive /\
  (∀(Z ρ':Ren) (r:RI) (w:World),nX V Z ρ'->bt ρ' r o' w->bt Z r o w) /\
  (∀z cs,o = .fam z cs->∃cs',o' = .fam z cs'/\cs'.length=cs.length/\(∀(i:Nat) (v v':Value),cs[i]?=some v->cs'[i]?=some v'->∀(Z ρ':Ren) (x:Value),nX V Z ρ'->VR ρ' v' x->VR Z v x)/\(z=0->iW cs cs'))))
theorem Emb.post{B:Nat}{ML:List Nat}{N:Nat}{V:Nat->Option Nat}{d:Nat}{ρ0 ρ':Ren}{H0 H H':Heap}{w0 w':World}{T T':Tm}(e:Emb H0 ML N V d T H T' H')(h0:Rel P B ρ0 H0 w0)
  (p:Post P B H0.length ML ρ0 H0 w0 ρ' H' w'):Post P B H0.length ML ρ0 H0 w0 (cg ρ' V) H w'/\∀tmps,TR ρ' N T' tmps->TR (cg ρ' V) N T tmps:=by
 have hun:=p.same
 have hσ:∀id id' r,V id=some id'->ρ' id'=some r->cg ρ' V id=some r:=by
  intro id id' r h1 h2;show Option.bind _ _=_;rw[h1];exact h2
 have hm:∀b m,ρ'.mem b=some m->(cg ρ' V).mem b=some m:=fun _ _ h=>h
 have hg:∀F F' k r,V F=some F'->ρ'.g F' k=some r->(cg ρ' V).g F k=some r:=by
  intro F F' k r h1 h2;show Option.bind _ _=_;rw[h1];exact h2
 have hle:nX V (cg ρ' V) ρ':=⟨hσ,hm,hg⟩
 have hsome:∀{id r},cg ρ' V id=some r->∃id',V id=some id'/\ρ' id'=some r:=fun h=>Option.bind_eq_some_iff.1 h
 have eF:∀{F k r},(cg ρ' V).g F k=some r->∃F',V F=some F'/\ρ'.g F' k=some r:=fun h=>Option.bind_eq_some_iff.1 h
 have hext:Ren.le ρ0 (cg ρ' V):=⟨fun id r h=>hσ id id r (e.old id (h0.dom _ _ h)) (p.ext _ _ h),p.ext.mem,fun F k r h=>hg F F k r (e.old F (h0.fam.dom _ _ _ h)) (p.ext.g _ _ _ h)⟩
 have hcase:∀id id' o,V id=some id'->H[id]?=some o->(o = .dead∨(∃o',H'[id']?=some o'/\o'.owned=o.owned/\o'.alive=o.alive/\(∀r,ρ' id'=some r->bt ρ' r o' w'->bt (cg ρ' V) r o w'))):=by
  intro id id' o h1 h2
  by_cases hc:H0.length<=id∨id∈ML
  ·rcases e.obj id id' o h1 hc h2 with h|⟨o',g1,g2,g3,g4,_⟩
   ·exact .inl h
   ·exact .inr ⟨o',g1,g2,g3,fun r _ hr=>g4 _ _ r w' hle hr⟩
  ·have hl:id<H0.length:=by
    rcases Nat.lt_or_ge id H0.length with h|h
    ·exact h
    ·exact absurd (.inl h) hc
   have hM:id ∉ ML:=fun h=>hc (.inr h)
   rw[e.old id hl]at h1
   cases h1
   have h3:=e.same id hl hM
   refine .inr ⟨o,by rw[hun id hl hM,<- h3];exact h2,rfl,rfl,fun r k2 hro =>?_⟩
   have g5:H0[id]?=some o:=by rw[<- h3];exact h2
   have hr0:ρ0 id=some r:=by
    cases hq:ρ0 id with
    |none=>exact absurd (p.new _ _ k2 hq) (by omega)
    |some r0=>have:=p.ext _ _ hq;rw[k2]at this;exact this.symm
   exact bt.back p.ext hext.f hm hext.g (h0.obj _ _ _ hr0 g5) hro
 have hfm:∀{F k r z cs},FM (cg ρ' V) H F k r z cs->∃F' cs',V F=some F'/\FM ρ' H' F' k r z cs'/\t6 (cg ρ' V) r k z cs w':=by
  intro F k r z cs m
  obtain ⟨F',k1,k2⟩:=eF m.g
  by_cases hc:H0.length<=F∨F∈ML
  ·rcases e.obj F F' _ k1 hc m.h with h|⟨o',g1,_,_,_,g5⟩
   ·cases h
   ·obtain ⟨cs',rfl,hl,hv,htab⟩:=g5 z cs rfl
    have m':FM ρ' H' F' k r z cs':=⟨k2,g1,fun e=>by
     obtain ⟨v,hv1,hv2⟩:=m.a e
     have hi:k+1<cs'.length:=by rw[hl];exact (List.getElem?_eq_some_iff.1 hv1).1
     refine ⟨_,List.getElem?_eq_getElem hi,fun e2=>hv2 (VR.sF (Z:=cg ρ' V) fun x=>hv _ _ _ hv1 (List.getElem?_eq_getElem hi) _ _ x hle ?_)⟩
     rw[e2];exact .junk x⟩
    obtain ⟨c2,ty,a1,a2,a3,a4,a5⟩:=p.rel.fam.obj _ _ _ _ _ m'
    refine ⟨F',cs',k1,m',c2,ty,a1,by rw[<- hl];exact a2,fun e=>(a3 e).back (htab e) hl (fun i v v' q1 q2 x=>hv i v v' q1 q2 _ _ x hle),a4,fun i v hi hv2 =>?_⟩
    have hlt:k*z+i<cs'.length:=by rw[hl];exact (List.getElem?_eq_some_iff.1 hv2).1
    obtain ⟨v',b1,b2⟩:=a5 i _ hi (List.getElem?_eq_getElem hlt)
    exact ⟨v',b1,hv _ v _ hv2 (List.getElem?_eq_getElem hlt) _ _ _ hle b2⟩
  ·have hl:F<H0.length:=by
    rcases Nat.lt_or_ge F H0.length with h|h
    ·exact h
    ·exact absurd (.inl h) hc
   have hM:F ∉ ML:=fun h=>hc (.inr h)
   rw[e.old F hl]at k1
   cases k1
   have h3:=e.same F hl hM
   have g5:H0[F]?=some (.fam z cs):=by rw[<- h3];exact m.h
   have m':FM ρ' H' F k r z cs:=⟨k2,by rw[hun F hl hM];exact g5,m.a⟩
   have hr0:ρ0.g F k=some r:=by
    cases hq:ρ0.g F k with
    |none =>
     rcases p.kl _ _ _ k2 hq with h|h
     ·omega
     ·exact absurd h hM
    |some r0=>have:=p.ext.g _ _ _ hq;rw[k2]at this;exact this.symm
   obtain ⟨_,_,_,_,j3,_,j5⟩:=h0.fam.obj F k r z cs ⟨hr0,g5,m.a⟩
   obtain ⟨c2,ty,a1,a2,a3,a4,a5⟩:=p.rel.fam.obj _ _ _ _ _ m'
   refine ⟨F,cs,e.old F hl,m',c2,ty,a1,a2,fun e0=>⟨(a3 e0).1,(a3 e0).2.1,fun row hrow=>⟨((a3 e0).2.2 row hrow).1,fun i v hv2 =>?_⟩⟩,a4,fun i v hi hv2 =>?_⟩
   ·obtain ⟨v',b1,b2⟩:=((a3 e0).2.2 row hrow).2 i v hv2
    obtain ⟨_,_,z2⟩:=((j3 e0).2.2 row hrow).2 i v hv2
    exact ⟨v',b1,z2.down p.ext hext.f hm hext.g b2⟩
   obtain ⟨v',b1,b2⟩:=a5 i v hi hv2
   obtain ⟨_,_,z2⟩:=j5 i v hi hv2
   exact ⟨v',b1,z2.down p.ext hext.f hm hext.g b2⟩
 have hown:∀id id' o,V id=some id'->H[id]?=some o->o.alive=true->∃o',H'[id']?=some o'/\o'.owned=o.owned/\o'.alive=true:=by
  intro id id' o h1 h2 h3
  rcases hcase id id' o h1 h2 with rfl|⟨o',g1,g2,g3,_⟩
  ·cases h3
  ·exact ⟨o',g1,g2,g3.trans h3⟩
 have hoa:∀o:ab,o.owned=true->o.alive=true:=by intro o ho;cases o <;> first|rfl|cases ho
 have hrel:Rel P B (cg ρ' V) H w':=by
  refine ⟨p.rel.bsize,fun g hg =>?_,fun id r h =>?_,fun id r h =>?_,fun id r o h1 h2 =>?_,fun id r o h1 h2 h3 =>?_,fun id1 id2 r1 r2 o1 o2 h1 h2 g1 g2 k1 k2 hne =>?_,fun b m hb=>⟨(p.rel.mem b m hb).1,fun id r o h1 h2 h3 =>?_⟩,?_⟩
  ·obtain ⟨r,k1,k2,k3⟩:=h0.dR g hg
   exact ⟨r,hext _ _ k1,k2,k3⟩
  ·obtain ⟨id',h1,_⟩:=hsome h;exact e.dom _ _ h1
  ·obtain ⟨id',h1,h2⟩:=hsome h;exact p.rel.lt _ _ h2
  ·obtain ⟨id',k1,k2⟩:=hsome h1
   rcases hcase id id' o k1 h2 with rfl|⟨o',g1,_,_,g4⟩
   ·trivial
   ·exact g4 r k2 (p.rel.obj _ _ _ k2 g1)
  ·obtain ⟨id',k1,k2⟩:=hsome h1
   obtain ⟨o',g1,g2,_⟩:=hown id id' o k1 h2 (hoa o h3)
   exact p.rel.base id' r o' k2 g1 (by rw[g2];exact h3)
  ·obtain ⟨i1,a1,a2⟩:=hsome h1
   obtain ⟨i2,b1,b2⟩:=hsome h2
   obtain ⟨o1',c1,c2,_⟩:=hown id1 i1 o1 a1 g1 (hoa _ k1)
   obtain ⟨o2',d1,_,d3⟩:=hown id2 i2 o2 b1 g2 k2
   exact p.rel.sep i1 i2 r1 r2 o1' o2' a2 b2 c1 d1 (by rw[c2];exact k1) d3 (fun he=>hne (e.inj _ _ _ _ _ a1 (he ▸ b1) g1 g2 (rr (hoa _ k1)) (rr k2)))
  ·obtain ⟨id',k1,k2⟩:=hsome h1
   obtain ⟨o',g1,g2,_⟩:=hown id id' o k1 h2 (hoa o h3)
   exact (p.rel.mem b m hb).2 id' r o' k2 g1 (by rw[g2];exact h3)
  ·refine ⟨fun F k r h =>?_,fun F k r h =>?_,fun F k r z cs m =>?_,fun F k r z cs m =>?_,fun F1 k1 r1 z1 c1 F2 k2 r2 z2 c2 m1 m2 he =>?_,fun F k r z cs id r2 o m h1 h2 h3 =>?_,fun F k r z cs b mm m hb =>?_,fun F k r cs h h2 =>?_⟩
   ·obtain ⟨F',h1,_⟩:=eF h;exact e.dom _ _ h1
   ·obtain ⟨F',_,h2⟩:=eF h;exact p.rel.fam.lt _ _ _ h2
   ·obtain ⟨F',cs',_,m',_⟩:=hfm m;exact p.rel.fam.base _ _ _ _ _ m'
   ·obtain ⟨F',cs',_,_,h⟩:=hfm m;exact h
   ·obtain ⟨F1',c1',s1,m1',_⟩:=hfm m1
    obtain ⟨F2',c2',s2,m2',_⟩:=hfm m2
    obtain ⟨rfl,rfl⟩:=p.rel.fam.sep _ _ _ _ _ _ _ _ _ _ m1' m2' he
    exact ⟨e.inj _ _ _ _ _ s1 s2 m1.h m2.h rfl rfl,rfl⟩
   ·obtain ⟨F',cs',_,m',_⟩:=hfm m
    obtain ⟨id',k1,k2⟩:=hsome h1
    obtain ⟨o',g1,_,g3⟩:=hown id id' o k1 h2 h3
    exact p.rel.fam.sep2 _ _ _ _ _ id' r2 o' m' k2 g1 g3
   ·obtain ⟨F',cs',_,m',_⟩:=hfm m;exact p.rel.fam.mem _ _ _ _ _ b mm m' hb
   ·obtain ⟨F',k1,k2⟩:=eF h
    by_cases hc:H0.length<=F∨F∈ML
    ·rcases e.obj F F' _ k1 hc h2 with h|⟨o',g1,_,_,_,g5⟩
     ·cases h
     ·obtain ⟨cs',rfl,hl,_⟩:=g5 0 cs rfl
      rw[<- hl];exact p.rel.fam.cnt F' k r cs' k2 g1
    ·have hl:F<H0.length:=by
      rcases Nat.lt_or_ge F H0.length with h|h
      ·exact h
      ·exact absurd (.inl h) hc
     have hM:F ∉ ML:=fun h=>hc (.inr h)
     rw[e.old F hl]at k1
     cases k1
     exact p.rel.fam.cnt F k r cs k2 (by rw[hun F hl hM,<- e.same F hl hM];exact h2)
 refine ⟨⟨hrel,hext,fun id r h1 h2 =>?_,e.len,fun id h1 h2 =>?_,p.size,p.keep,fun b h1 h2 =>?_,p.os,p.tape,p.output,p.frz,p.drawn,fun F k r h1 h2 =>?_⟩,fun tmps ht=>⟨ht.1,fun t hlt =>?_⟩⟩
 ·rcases Nat.lt_or_ge id H0.length with hl|hl
  ·obtain ⟨id',k1,k2⟩:=hsome h1
   rw[e.old id hl]at k1
   cases k1
   exact p.new id r k2 h2
  ·exact hl
 ·exact e.same id h1 h2
 ·rcases h2 with ⟨id,r,o,k1,k2,k3,k4⟩|⟨F,k,r,z,cs,m,he⟩
  ·obtain ⟨id',a1,a2⟩:=hsome k1
   obtain ⟨o',c1,c2,_⟩:=hown id id' o a1 k2 (hoa _ k3)
   exact p.ob b h1 (.inl ⟨id',r,o',a2,c1,by rw[c2];exact k3,k4⟩)
  ·obtain ⟨F',cs',_,m',_⟩:=hfm m
   exact p.ob b h1 (.inr ⟨F',k,r,z,cs',m',he⟩)
 ·rcases Nat.lt_or_ge F H0.length with hl|hl
  ·obtain ⟨F',k1,k2⟩:=eF h1
   rw[e.old F hl]at k1
   cases k1
   exact p.kl F k r k2 h2
  ·exact .inl hl
 ·have:=ht.2 t hlt
  rcases e.slots t hlt with h|h
  ·rw[h];exact .junk _
  ·exact jt hσ hm hg d (h _ _ this)
theorem KW.renamed{ro:Option Nat}{N base:Nat}{M ML:List Nat}{c:Code}{T:Tm}{H:Heap}{Q:Exit->Tm->Heap->Prop}(hML:∀id∈ML,id<base->id∈M)
  (h:KW P ro N H.length ML c T H (j0 (fun T2 H2 => ∃V d T3 H3,Emb H ML N V d T3 H3 T2 H2/\Q .normal T3 H3) Q)):KW P ro N base M c T H Q:=by
 intro B Z w a n0 h1 h2 h3 h4 h5
 refine wpIn_mono (h B Z w a n0 h1 (Nat.le_refl _) h3 h4 h5) ?_
 rintro e a2 w2 ⟨ρ2,T2,H2,k1,k2,k3,k4⟩
 cases e with
 |normal =>
  obtain ⟨V,d,T3,H3,he,hq⟩:=k4
  obtain ⟨q1,q2⟩:=he.post h1 k1
  exact ⟨_,T3,H3,q1.weaken h2 (fun id hid hb=>hML id hid hb),q2 _ k2,k3,hq⟩
 |_=>exact ⟨ρ2,T2,H2,k1.weaken h2 (fun id hid hb=>hML id hid hb),k2,k3,k4⟩
theorem KW.Ck{ro:Option Nat}{N base:Nat}{M ML:List Nat}{c:Code}{T:Tm}{H:Heap}{Q:Exit->Tm->Heap->Prop}(hML:∀id∈ML,id<base->id∈M)(I:Nat->Tm->Heap->Prop)
  (h0:∃n V d T1 H1,I n T1 H1/\Emb H ML N V d T1 H1 T H)
  (hI:∀n T1 H1,I n T1 H1->∀id,id<H.length->id ∉ ML->H1[id]?=H[id]?)
  (round:∀n T1 H1,H.length<=H1.length->I n T1 H1->KW P ro N H.length ML c T1 H1 (j0 (fun T2 H2 => ∃k V d T3 H3,k<n/\I k T3 H3/\Emb H ML N V d T3 H3 T2 H2) Q)):KW P ro N base M (.loop c) T H Q:=by
 intro B Z w a n0 h1 h2 h3 h4 h5
 have key:∀(m:Nat) (n:Nat) (ρ':Ren) (T':Tm) (H':Heap) (w':World) (a':Act),n<m->Post P B H.length ML Z H w ρ' H' w'->TR ρ' N T' a'.tmps->DOK n0 a'.defers w'->I n T' H' ->
   Code.roundsIn (Fw ro) 0 P c (fun e a' w' => ∃ρ' T' H',Post P B base M Z H w ρ' H' w'/\TR ρ' N T' a'.tmps/\DOK n0 a'.defers w'/\Q e T' H') m a' w':=by
  intro m
  induction m with
  |zero=>intro n _ _ _ _ _ hlt;omega
  |succ m ih =>
   intro n ρ' T' H' w' a' hlt hp hT hD hIn
   rw[roundsIn_succ]
   refine wpIn_mono (round n T' H' hp.len hIn B ρ' w' a' n0 hp.rel hp.len hT (Nat.le_trans h4 hp.size) hD) ?_
   rintro e a2 w2 ⟨ρ2,T2,H2,k1,k2,k3,k4⟩
   cases e with
   |normal =>
    obtain ⟨k,V,d,T3,H3,hk,hI3,he⟩:=k4
    obtain ⟨q1,q2⟩:=he.post h1 (hp.trans k1)
    exact ih k _ T3 H3 w2 a2 (by omega) q1 (q2 _ k2) k3 hI3
   |_=>exact ⟨ρ2,T2,H2,(hp.trans k1).weaken h2 (fun id hid hb=>hML id hid hb),k2,k3,k4⟩
 obtain ⟨n,V,d,T1,H1,hIn,he⟩:=h0
 obtain ⟨q1,q2⟩:=he.post h1 (Post.refl h1)
 exact wpIn_loop_rounds (n+1) (key (n+1) n _ T1 H1 w a (by omega) q1 (q2 _ h3) h5 hIn)
theorem ft{H:Heap}(gs:List ab){id:Nat}(h:id<H.length):(H++gs)[id]?=H[id]? := List.getElem?_append_left h
theorem Rel.ghost{B:Nat}{Z:Ren}{H:Heap}{w:World}(h:Rel P B Z H w)(gs:List ab):Rel P B Z (H++gs) w:=by
 have g:∀{id r},Z id=some r->(H++gs)[id]?=H[id]? := fun a=>ft gs (h.dom _ _ a)
 refine ⟨h.bsize,h.dR,fun id r a=>by have:=h.dom id r a;rw[br];omega,h.lt,fun id r o a b=>h.obj id r o a (by rw[<- g a];exact b),fun id r o a b=>h.base id r o a (by rw[<- g a];exact b),
  fun i j x y o o' a b c d=>h.sep i j x y o o' a b (by rw[<- g a];exact c) (by rw[<- g b];exact d),fun b m hb=>⟨(h.mem b m hb).1,fun id r o a c=>(h.mem b m hb).2 id r o a (by rw[<- g a];exact c)⟩,
  h.fam.keep (Ren.le_refl _) (fun _ _ _ h=>h) (fun F z cs hF h=>by rw[List.getElem?_append_left hF]at h;exact h) (by simp) (Nat.le_refl _) (fun _ _=>rfl) (fun id r o a b c=>h.fam.free a (by rw[<- g a];exact b) c) (fun b m k=>h.fam.eI k)⟩
theorem OB.ghost{B:Nat}{Z:Ren}{H:Heap}{w:World}(h:Rel P B Z H w)(gs:List ab)(b:Nat):OB Z (H++gs) b ↔ OB Z H b:=by
 have g:∀{id r},Z id=some r->(H++gs)[id]?=H[id]? := fun a=>ft gs (h.dom _ _ a)
 constructor
 ·rintro (⟨id,r,o,a,b,c⟩|⟨F,k,r,z,cs,m,e⟩)
  ·exact .inl ⟨id,r,o,a,by rw[<- g a];exact b,c⟩
  ·exact .inr ⟨F,k,r,z,cs,⟨m.g,by have:=m.h;rw[ft gs (h.fam.dom F k r m.g)]at this;exact this,m.a⟩,e⟩
 ·rintro (⟨id,r,o,a,b,c⟩|⟨F,k,r,z,cs,m,e⟩)
  ·exact .inl ⟨id,r,o,a,by rw[g a];exact b,c⟩
  ·exact .inr ⟨F,k,r,z,cs,⟨m.g,by rw[ft gs (h.fam.dom F k r m.g)];exact m.h,m.a⟩,e⟩
theorem Post.ghost{B base:Nat}{M:List Nat}{Z ρ':Ren}{H H':Heap}{w w':World}(p:Post P B base M Z H w ρ' H' w')(hb:base<=H.length)(gs:List ab):Post P B base M Z H w ρ' (H'++gs) w' :=
 { p with
  rel:=p.rel.ghost gs
  len:=by have:=p.len;rw[br];omega
  same:=fun id h1 h2=>by rw[ft gs (by have:=p.len;omega)];exact p.same id h1 h2
  ob:=fun b h1 h2=>p.ob b h1 ((OB.ghost p.rel gs b).1 h2) }
theorem Post.za{B:Nat}{M:List Nat}{Z ρ':Ren}{H H':Heap}{w w':World}{gs:List ab}(h0:Rel P B Z H w)(p:Post P B (H++gs).length M Z (H++gs) w ρ' H' w'):Post P B H.length M Z H w ρ' H' w' :=
 { p with
  new:=fun id r a b=>by have:=p.new id r a b;rw[br]at this;omega
  len:=by have:=p.len;rw[br]at this;omega
  same:=fun id h1 h2=>by rw[p.same id (by rw[br];omega) h2,ft gs h1]
  keep:=fun b h1 h2=>p.keep b h1 (fun h=>h2 ((OB.ghost h0 gs b).1 h))
  ob:=fun b h1 h2=>(OB.ghost h0 gs b).1 (p.ob b h1 h2)
  frz:=fun b m hb=>(p.frz b m hb).imp id fun h=>h.imp id (OB.ghost h0 gs b).1
  kl:=fun F k r a b=>(p.kl F k r a b).imp (fun h=>by rw[br]at h;omega) id }
theorem am.weak{f:FuncId}{args:List Value}{H:Heap}{M:List Nat}{Q Q':Value->Heap->Prop}(h:am P f args H M Q)
  (hq:∀v H',Q v H'->∃v2 gs,wk v v2/\Q' v2 (H'++gs)):am P f args H M Q':=by
 refine ⟨h.1,fun B Z w args' hr ha=>(h.2 B Z w args' hr ha).mono ?_⟩
 rintro e w' ⟨v,v',ρ',H',rfl,hv,hp,hQ⟩
 obtain ⟨v2,gs,k1,k2⟩:=hq v H' hQ
 exact ⟨v2,v',ρ',H'++gs,rfl,k1 _ _ hv,hp.ghost (Nat.le_refl _) gs,k2⟩
theorem am.wu{f:FuncId}{args args2:List Value}{H:Heap}{M:List Nat}{Q:Value->Heap->Prop}(gs:List ab)(h:am P f args2 (H++gs) M Q)
  (hl:args.length=args2.length) (ha:∀(i:Nat) (a b:Value),args[i]?=some a->args2[i]?=some b->wk a b):am P f args H M Q:=by
 refine ⟨h.1,fun B Z w args' hr hv=>(h.2 B Z w args' (hr.ghost gs) ⟨hl.symm.trans hv.1,fun i b v' h1 h2 =>?_⟩).mono ?_⟩
 ·have hi:i<args.length:=by rw[hl];exact (List.getElem?_eq_some_iff.1 h1).1
  exact ha i _ b (List.getElem?_eq_getElem hi) h1 _ _ (hv.2 i _ v' (List.getElem?_eq_getElem hi) h2)
 ·rintro e w' ⟨v,v',ρ',H',rfl,h1,hp,hQ⟩
  exact ⟨v,v',ρ',H',rfl,h1,hp.za hr,hQ⟩
end
end Go.K
namespace Go.K
variable {P:Program}
def Ren.frz(Z:Ren)(b:Nat)(m:Array Value):Ren:=⟨Z.f,fun x=>if x=b then some m else Z.mem x,Z.g⟩
theorem Post.CG{B base:Nat}{M:List Nat}{Z:Ren}{H:Heap}{w:World}(hr:Rel P B Z H w){id z:Nat}{r:RI}{cs:List Value}{m:Array Value}{ty:TypeId}{fz:Nat×Nat}(hid:Z id=some r)(ho:H[id]?=some (.cells true z cs))
  (hb:w.heap[r.b]?=some (.cells m ty fz)) (hM:id<base->id∈M):Post P B base M Z H w (Z.frz r.b m) (H.set id .dead) w:=by
 have p:=Post.kill (base:=base) (M:=M) hr hid ho rfl hM
 have hno:∀m',Z.mem r.b=some m'->False:=fun m' h=>(hr.mem r.b m' h).2 id r _ hid ho rfl rfl
 have hle:Ren.le Z (Z.frz r.b m):=⟨fun _ _ h=>h,fun b m' h=>by
  show (if _ then _ else _)=_
  by_cases e:b=r.b
  ·subst e;exact (hno m' h).elim
  ·rw[if_neg e];exact h,fun _ _ _ h=>h⟩
 refine ⟨⟨p.rel.bsize,p.rel.dR,p.rel.dom,p.rel.lt,fun i x o h1 h2=>(p.rel.obj i x o h1 h2).mono hle rfl,p.rel.base,p.rel.sep,fun b m' h =>?_,p.rel.fam.keep hle (fun _ _ _ h=>h) (fun _ _ _ _ h=>h) (Nat.le_refl _) (Nat.le_refl _) (fun _ _=>rfl) (fun i x o a b c=>p.rel.fam.free a b c) (fun b m' h=>by
   have h':(if b=r.b then some m else Z.mem b)=some m':=h
   by_cases e:b=r.b
   ·subst e
    exact fun hf=>hr.fam.free hid ho rfl (FB.A2 (fun _ _ h=>by cases h) hf)
   ·rw[if_neg e]at h';exact p.rel.fam.eI h')⟩,hle,p.new,p.len,p.same,p.size,p.keep,fun b hb ho2=>p.ob b hb (ho2.imp (fun q=>q) fun ⟨F,k,x,z,c,m,e⟩=>⟨F,k,x,z,c,⟨m.g,m.h,m.a⟩,e⟩),p.os,p.tape,p.output,fun b m' h =>?_,p.drawn,p.kl⟩
 ·have h':(if b=r.b then some m else Z.mem b)=some m':=h
  by_cases e:b=r.b
  ·rw[if_pos e]at h';cases h';subst e
   refine ⟨⟨ty,fz,hb⟩,fun i x o h1 h2 h3 he =>?_⟩
   by_cases e2:i=id
   ·subst e2
    rw[List.getElem?_set_self (List.getElem?_eq_some_iff.1 ho).1]at h2
    cases h2;cases h3
   ·rw[List.getElem?_set_ne (Ne.symm e2)]at h2
    have hal:o.alive=true:=by cases o <;> first|rfl|cases h3
    exact hr.sep id i r x _ o hid h1 ho h2 rfl hal (Ne.symm e2) he.symm
  ·rw[if_neg e]at h';exact p.rel.mem b m' h'
 ·have h':(if b=r.b then some m else Z.mem b)=some m':=h
  by_cases e:b=r.b
  ·exact .inr (.inr (.inl ⟨id,r,_,hid,ho,rfl,e.symm⟩))
  ·rw[if_neg e]at h';exact .inl h'
theorem VR.freeze{Z:Ren}{r:RI}{id z n c:Nat}{tag:Option Nat}{cs:List Value}{H:Heap}{w:World}{m:Array Value}{ty:TypeId}{fz:Nat×Nat}(htag:tag=none∨tag=some 1)(hid:Z id=some r)
  (hb:w.heap[r.b]?=some (.cells m ty fz)) (ho:bt Z r (.cells true z cs) w) (hle:Ren.le Z (Z.frz r.b m)) {x:Value} (h:VR Z (.slice (some ⟨id,0,tag⟩) n c) x):VR (Z.frz r.b m) (.iface (n+1) (.agg ⟨cs⟩)) x:=by
 obtain ⟨_,_,m',ty',fz',hb',hsz,_,hcs⟩:=ho
 rw[hb]at hb';cases hb'
 have hm:(Z.frz r.b m).mem r.b=some m:=by show (if _ then _ else _)=_;rw[if_pos rfl]
 have main:∀cap',n<=cap'->VR (Z.frz r.b m) (.iface (n+1) (.agg ⟨cs⟩)) (.slice (some ⟨r.b,0+r.s,none⟩) n cap'):=by
  intro cap' hc
  rw[Nat.zero_add]
  rcases Nat.eq_zero_or_pos n with rfl|hp
  ·exact .cu
  ·refine .deep hm hp hc ?_ (fun i v v' a b =>?_)
   ·rcases Nat.eq_zero_or_pos cs.length with h0|h0
    ·exact .inl h0
    ·right
     obtain ⟨v',g1,_⟩:=hcs (cs.length-1) _ (List.getElem?_eq_getElem (by omega))
     have:=(Array.getElem?_eq_some_iff.1 g1).1
     show cs.length+r.s<=m.size
     omega
   ·obtain ⟨v2,g1,g2⟩:=hcs i v (by simpa using a)
    rw[g1]at b;cases b
    exact g2.mono hle
 rcases htag with rfl|rfl
 ·cases h with
  |slice h' hl hc _=>rw[hid]at h';cases h';exact main _ (Nat.le_trans hl hc)
  |bK h'=>exact .cu
 ·cases h with
  |ba=>exact .cu
  |bb=>exact .cu
  |bF h' hp hl hc _=>rw[hid]at h';cases h';exact main _ (Nat.le_trans hl hc)
theorem VR.uO{Z:Ren}{id n c:Nat}{tag:Option Nat}{cs:List Value}(htag:tag=none∨tag=some 1)(hid:Z id=none){x:Value}(h:VR Z (.slice (some ⟨id,0,tag⟩) n c) x):VR Z (.iface (n+1) (.agg ⟨cs⟩)) x:=by
 rcases htag with rfl|rfl
 ·cases h with
  |slice h' hl hc _=>rw[hid]at h';cases h'
  |bK h'=>rw[hid]at h';cases h'
 ·cases h with
  |ba=>exact .cu
  |bb=>exact .cu
  |bF h' hp hl hc _=>rw[hid]at h';cases h'
theorem bO.freeze{base:Nat}{M:List Nat}{T:Tm}{H:Heap}{t id n c z:Nat}{tag:Option Nat}{cs:List Value}(hT:T t = .slice (some ⟨id,0,tag⟩) n c)(htag:tag=none∨tag=some 1)(ho:H[id]?=some (.cells true z cs))(hM:id<base->id∈M) :
  bO P base M T H (put T (some t) (.iface (n+1) (.agg ⟨cs⟩))) (H.set id .dead):=by
 intro B Z w N tmps h1 h2 h3
 have fin:∀ρ1,Post P B base M Z H w ρ1 (H.set id .dead) w->(∀x,VR Z (T t) x->VR ρ1 (.iface (n+1) (.agg ⟨cs⟩)) x)->∃ρ',Post P B base M Z H w ρ' (H.set id .dead) w/\TR ρ' N (put T (some t) (.iface (n+1) (.agg ⟨cs⟩))) tmps:=by
  intro ρ1 p hv
  refine ⟨ρ1,p,h3.1,fun s hs =>?_⟩
  have:=h3.2 s hs
  show VR ρ1 (upd T t _ s) _
  unfold upd
  by_cases e:s=t
  ·subst e
   rw[if_pos rfl]
   exact hv _ this
  ·rw[if_neg e]
   exact this.mono p.ext
 cases hid:Z id with
 |none=>exact fin Z (Post.uE h1 ho rfl hM) (fun x hx=>VR.uO htag hid (by rw[<- hT];exact hx))
 |some r =>
  have hob:=h1.obj id r _ hid ho
  obtain ⟨_,_,m,ty,fz,hb,_⟩:=hob
  have p:=Post.CG (base:=base) (M:=M) h1 hid ho hb hM
  exact fin _ p (fun x hx=>VR.freeze (H:=H) htag hid hb (h1.obj id r _ hid ho) p.ext (by rw[<- hT];exact hx))
theorem Post.more{B base:Nat}{M:List Nat}{Z:Ren}{H:Heap}{w:World}(hr:Rel P B Z H w)(hob:base<=H.length)(cs:List Value):Post P B base M Z H w Z (H ++ [.cells false 0 cs]) w:=by
 have hlt:∀id r o,Z id=some r->(H ++ [ab.cells false 0 cs])[id]?=some o->H[id]?=some o:=fun id r o h1 h2=>by
  rw[List.getElem?_append_left (hr.dom _ _ h1)]at h2;exact h2
 refine ⟨⟨hr.bsize,hr.dR,fun id r h=>by have:=hr.dom _ _ h;rw[br];omega,hr.lt,fun id r o h1 h2=>hr.obj id r o h1 (hlt id r o h1 h2),fun id r o h1 h2=>hr.base id r o h1 (hlt id r o h1 h2),fun id id' r r' o o' h1 h1' h2 h2'=>hr.sep id id' r r' o o' h1 h1' (hlt _ _ _ h1 h2) (hlt _ _ _ h1' h2'),fun b m h=>⟨(hr.mem b m h).1,fun id r o h1 h2=>(hr.mem b m h).2 id r o h1 (hlt _ _ _ h1 h2)⟩,
   hr.fam.keep (Ren.le_refl _) (fun _ _ _ h=>h) (fun F z cs hF h=>by rw[List.getElem?_append_left hF]at h;exact h) (by simp) (Nat.le_refl _) (fun _ _=>rfl) (fun id r o a b c=>hr.fam.free a (hlt _ _ _ a b) c) (fun b m h=>hr.fam.eI h)⟩,
  Ren.le_refl _,fun id r a b=>(by rw[b]at a;cases a),by rw[br];omega,fun id h1 _=>List.getElem?_append_left (by omega),Nat.le_refl _,fun _ _ _=>rfl,fun b _ ho =>?_,rfl,rfl,rfl,fun _ _ h => .inl h,Nat.le_refl _,fun F k r a b=>(by rw[b]at a;cases a)⟩
 rcases ho with ⟨id,r,o,h1,h2,h3,h4⟩|⟨F,k,r,z,c,m,e⟩
 ·exact .inl ⟨id,r,o,h1,hlt _ _ _ h1 h2,h3,h4⟩
 ·exact .inr ⟨F,k,r,z,c,⟨m.g,by have:=m.h;rw[List.getElem?_append_left (hr.fam.dom F k r m.g)]at this;exact this,m.a⟩,e⟩
theorem Post.read{B base:Nat}{M:List Nat}{Z:Ren}{H:Heap}{w:World}(hr:Rel P B Z H w)(hob:base<=H.length){b s:Nat}{m:Array Value}(hm:Z.mem b=some m){cs:List Value}(h1:cs.length=0∨cs.length+s<=m.size)
  (h2:∀(i:Nat) (v v':Value),cs[i]?=some v->m[i+s]?=some v'->VR Z v v'):Post P B base M Z H w (Z.set H.length ⟨b,s,m.size,0,false⟩) (H ++ [.cells false 0 cs]) w:=by
 have hnone:Z H.length=none:=by
  cases h:Z H.length with
  |none=>rfl
  |some r=>exact absurd (hr.dom _ _ h) (Nat.lt_irrefl _)
 have hle:=Ren.dO (r:=⟨b,s,m.size,0,false⟩) hnone
 obtain ⟨⟨ty,fz,hb⟩,hmo⟩:=hr.mem b m hm
 have hnew:(H ++ [ab.cells false 0 cs])[H.length]?=some (.cells false 0 cs):=by simp
 have hold:∀id r,id≠H.length->Z.set H.length ⟨b,s,m.size,0,false⟩ id=some r->Z id=some r/\(H ++ [ab.cells false 0 cs])[id]?=H[id]? := fun id r e h=>by
  rw[Ren.aP e]at h
  exact ⟨h,List.getElem?_append_left (hr.dom _ _ h)⟩
 refine ⟨⟨hr.bsize,fun g hg =>?_,fun id r h =>?_,fun id r h =>?_,fun id r o h3 h4 =>?_,fun id r o h3 h4 h5 =>?_,fun id id' r r' o o' h3 h3' h4 h4' h5 h5' hne =>?_,fun b' m' h=>⟨(hr.mem b' m' h).1,fun id r o h3 h4 h5 =>?_⟩,
   hr.fam.keep hle (fun _ _ _ h=>h) (fun F z cs hF h=>by rw[List.getElem?_append_left hF]at h;exact h) (by simp) (Nat.le_refl _) (fun _ _=>rfl) (fun id r o h1 h2 h3=>by
    by_cases e:id=H.length
    ·subst e;rw[Ren.aQ]at h1;cases h1;exact hr.fam.eI hm
    ·obtain ⟨k1,k2⟩:=hold id r e h1
     rw[k2]at h2
     exact hr.fam.free k1 h2 h3) (fun b m h=>hr.fam.eI h)⟩,
  hle,fun id r h3 h4 =>?_,by rw[br];omega,fun id h1 _=>List.getElem?_append_left (by omega),Nat.le_refl _,fun _ _ _=>rfl,fun b' _ ho =>?_,rfl,rfl,rfl,fun _ _ h => .inl h,Nat.le_refl _,fun F k r a b=>(by rw[show (Z.set H.length _).g=Z.g from rfl,b]at a;cases a)⟩
 ·obtain ⟨r,k1,k2,k3⟩:=hr.dR g hg;exact ⟨r,hle _ _ k1,k2,k3⟩
 ·rw[br]
  by_cases e:id=H.length
  ·simp[e]
  ·have:=hr.dom _ _ (hold id r e h).1;omega
 ·by_cases e:id=H.length
  ·subst e;rw[Ren.aQ]at h;cases h;exact (Array.getElem?_eq_some_iff.1 hb).1
  ·exact hr.lt _ _ (hold id r e h).1
 ·by_cases e:id=H.length
  ·subst e
   rw[Ren.aQ]at h3;cases h3
   rw[hnew]at h4;cases h4
   refine ⟨rfl,rfl,m,ty,fz,hb,rfl,fun h=>(by cases h),fun i v hv =>?_⟩
   have hi:i+s<m.size:=by have:=(List.getElem?_eq_some_iff.1 hv).1;omega
   exact ⟨_,Array.getElem?_eq_getElem hi,(h2 i v _ hv (Array.getElem?_eq_getElem hi)).mono hle⟩
  ·obtain ⟨k1,k2⟩:=hold id r e h3
   rw[k2]at h4
   exact (hr.obj id r o k1 h4).mono hle rfl
 ·by_cases e:id=H.length
  ·subst e;rw[hnew]at h4;cases h4;cases h5
  ·obtain ⟨k1,k2⟩:=hold id r e h3
   rw[k2]at h4
   exact hr.base id r o k1 h4 h5
 ·by_cases e:id=H.length
  ·subst e;rw[hnew]at h4;cases h4;cases h5
  ·obtain ⟨k1,k2⟩:=hold id r e h3
   rw[k2]at h4
   by_cases e':id'=H.length
   ·subst e'
    rw[Ren.aQ]at h3';cases h3'
    exact hmo id r o k1 h4 h5
   ·obtain ⟨k1',k2'⟩:=hold id' r' e' h3'
    rw[k2']at h4'
    exact hr.sep id id' r r' o o' k1 k1' h4 h4' h5 h5' hne
 ·by_cases e:id=H.length
  ·subst e;rw[hnew]at h4;cases h4;cases h5
  ·obtain ⟨k1,k2⟩:=hold id r e h3
   rw[k2]at h4
   exact (hr.mem b' m' h).2 id r o k1 h4 h5
 ·by_cases e:id=H.length
  ·omega
  ·have:=(hold id r e h3).1
   rw[h4]at this;cases this
 ·rcases ho with ⟨id,r,o,k1,k2,k3,k4⟩|⟨F,k,r,z,c,m,e⟩
  ·by_cases e:id=H.length
   ·subst e;rw[hnew]at k2;cases k2;cases k3
   ·obtain ⟨g1,g2⟩:=hold id r e k1
    rw[g2]at k2
    exact .inl ⟨id,r,o,g1,k2,k3,k4⟩
  ·exact .inr ⟨F,k,r,z,c,⟨m.g,by have:=m.h;rw[List.getElem?_append_left (hr.fam.dom F k r m.g)]at this;exact this,m.a⟩,e⟩
theorem bO.read{base:Nat}{M:List Nat}{T:Tm}{H:Heap}{t n:Nat}{cs:Array Value}(hT:T t = .iface (n+1) (.agg cs)) :
  bO P base M T H (put T (some t) (.slice (some ⟨H.length,0,some 2⟩) n n)) (H ++ [.cells false 0 cs.toList]):=by
 intro B Z w N tmps hr hob h3
 have fin:∀ρ1,Post P B base M Z H w ρ1 (H ++ [.cells false 0 cs.toList]) w->(t<N->VR ρ1 (.slice (some ⟨H.length,0,some 2⟩) n n) (tmps.getD t undef))->∃ρ',Post P B base M Z H w ρ' (H ++ [.cells false 0 cs.toList]) w/\TR ρ' N (put T (some t) (.slice (some ⟨H.length,0,some 2⟩) n n)) tmps:=by
  intro ρ1 p hv
  refine ⟨ρ1,p,h3.1,fun s hs =>?_⟩
  have:=h3.2 s hs
  show VR ρ1 (upd T t _ s) _
  unfold upd
  by_cases e:s=t
  ·subst e;rw[if_pos rfl];exact hv hs
  ·rw[if_neg e];exact this.mono p.ext
 by_cases ht:t<N
 ·have hv:=h3.2 t ht
  rw[hT]at hv
  generalize tmps.getD t undef=x at hv fin
  cases hv with
  | @deep n b s cap' cs m hm hp hc h1 h2 =>
   refine fin _ (Post.read hr hob hm (cs:=cs.toList) (by simpa using h1) (fun i v v' a b=>h2 i v v' (by simpa using a) b)) (fun _ =>?_)
   have:=VR.bQ (Z:=Z.set H.length ⟨b,s,m.size,0,false⟩) (id:=H.length) (o:=0) (r:=⟨b,s,m.size,0,false⟩) (len:=n) (cap:=n) (cap':=cap') (Ren.aQ ..) hp (Nat.le_refl _) hc (fun h=>by cases h)
   rw[Nat.zero_add]at this
   exact this
  |cu=>exact fin _ (Post.more hr hob _) (fun _ => .bf)
 ·exact fin _ (Post.more hr hob _) (fun h=>absurd h ht)
def tf(A F k:Nat):Nat->Value->Value
 |0,v=>v
 |d+1,v=>match v with
  | .pointer (some ⟨id,off,none⟩)=>cond (Nat.beq id A) (.pointer (some ⟨F,off,some (k+3)⟩)) (.pointer (some ⟨id,off,none⟩))
  | .func (.func f) first cap => .func (.func f) ⟨first.toList.map (tf A F k d)⟩ ⟨cap.toList.map (tf A F k d)⟩
  | .agg cs => .agg ⟨cs.toList.map (tf A F k d)⟩
  | .tuple cs => .tuple ⟨cs.toList.map (tf A F k d)⟩
  |v=>v
theorem qv{Z:Ren}{f:Value->Value}(ih:∀{v x:Value},VR Z v x->VR Z (f v) x){cs cs':Array Value}(h1:cs.size=cs'.size)(h2:∀(i:Nat) (v v':Value),cs[i]?=some v->cs'[i]?=some v'->VR Z v v') :
  (⟨cs.toList.map f⟩:Array Value).size=cs'.size/\∀(i:Nat) (v v':Value),(⟨cs.toList.map f⟩:Array Value)[i]?=some v->cs'[i]?=some v'->VR Z v v':=by
 have e:(⟨cs.toList.map f⟩:Array Value)=cs.map f:=Array.toList_inj.1 (by simp)
 rw[e]
 refine ⟨by simpa using h1,fun i v v' a b =>?_⟩
 rw[Array.getElem?_map]at a
 obtain ⟨x,hx,rfl⟩:=bo a
 exact ih (h2 i x v' hx b)
theorem An{Z:Ren}{A F k:Nat}(hA:∀r,Z A=some r->Z.g F k=some r):∀(d:Nat) {v x:Value},VR Z v x->VR Z (tf A F k d v) x:=by
 intro d
 induction d with
 |zero=>intro v x h;exact h
 |succ d ih =>
  intro v x h
  unfold tf
  split
  ·rename_i id off
   cases hb:Nat.beq id A with
   |false=>exact h
   |true =>
    rw[Nat.eq_of_beq_eq_true hb]at h
    cases h with|ptr hr=>exact .eR (hA _ hr)
  ·cases h with
   |func h1 h2 h3 h4 =>
    obtain ⟨a1,a2⟩:=qv ih h1 h2
    obtain ⟨b1,b2⟩:=qv ih h3 h4
    exact .func a1 a2 b1 b2
  ·cases h with|agg h1 h2=>obtain ⟨a1,a2⟩:=qv ih h1 h2;exact .agg a1 a2
  ·cases h with|tuple h1 h2=>obtain ⟨a1,a2⟩:=qv ih h1 h2;exact .tuple a1 a2
  ·exact h
theorem Post.Ap{B base:Nat}{M:List Nat}{Z:Ren}{H:Heap}{w:World}(hr:Rel P B Z H w){b:Nat}{o o':ab}(ho:H[b]?=some o)(h1:o'.owned=o.owned)(h2:o'.alive=o.alive)
  (hf:∀z cs,o ≠ .fam z cs) (hf':∀z cs,o' ≠ .fam z cs) (h':∀r,Z b=some r->bt Z r o w->bt Z r o' w) (hM:b<base->b∈M):Post P B base M Z H w Z (H.set b o') w:=by
 have hbl:b<H.length:=(List.getElem?_eq_some_iff.1 ho).1
 have back:∀(i:Nat) (p:ab),(H.set b o')[i]?=some p->∃q:ab,H[i]?=some q/\q.owned=p.owned/\q.alive=p.alive:=fun i p h=>by
  by_cases e:i=b
  ·subst e
   rw[List.getElem?_set_self hbl]at h;cases h
   exact ⟨o,ho,h1.symm,h2.symm⟩
  ·rw[List.getElem?_set_ne (Ne.symm e)]at h
   exact ⟨p,h,rfl,rfl⟩
 have kw:∀(F z:Nat) (cs:List Value),(H.set b o')[F]?=some (.fam z cs)->H[F]?=some (.fam z cs):=fun F z cs h=>by
  by_cases e:F=b
  ·subst e
   rw[List.getElem?_set_self hbl]at h;cases h
   exact absurd rfl (hf' z cs)
  ·rw[List.getElem?_set_ne (Ne.symm e)]at h;exact h
 refine ⟨⟨hr.bsize,hr.dR,fun i x h=>by simpa using hr.dom i x h,hr.lt,fun i x p a c =>?_,fun i x p a c d =>?_,fun i j x y p q a c d e f g hne =>?_,fun b' m hm=>⟨(hr.mem b' m hm).1,fun i x p a c d =>?_⟩,
   hr.fam.keep (Ren.le_refl _) (fun _ _ _ h=>h) (fun F z cs _ h=>kw F z cs h) (by simp) (Nat.le_refl _) (fun _ _=>rfl) (fun i x p a c d =>?_) (fun b m h=>hr.fam.eI h)⟩,
  Ren.le_refl _,fun i x a b=>(by rw[b]at a;cases a),by simp,fun i h3 h4=>List.getElem?_set_ne (fun (e:b=i)=>h4 (by subst e;exact hM h3)),Nat.le_refl _,fun _ _ _=>rfl,fun b' _ hob =>?_,rfl,rfl,rfl,fun _ _ h => .inl h,Nat.le_refl _,fun F k r a b=>(by rw[b]at a;cases a)⟩
 ·by_cases e:i=b
  ·subst e
   rw[List.getElem?_set_self hbl]at c;cases c
   exact h' x a (hr.obj _ x o a ho)
  ·rw[List.getElem?_set_ne (Ne.symm e)]at c
   exact hr.obj i x p a c
 ·obtain ⟨q,q1,q2,_⟩:=back i p c;exact hr.base i x q a q1 (by rw[q2];exact d)
 ·obtain ⟨p',p1,p2,_⟩:=back i p d
  obtain ⟨q',q1,_,q3⟩:=back j q e
  exact hr.sep i j x y p' q' a c p1 q1 (by rw[p2];exact f) (by rw[q3];exact g) hne
 ·obtain ⟨q,q1,q2,_⟩:=back i p c;exact (hr.mem b' m hm).2 i x q a q1 (by rw[q2];exact d)
 ·obtain ⟨q,q1,_,q3⟩:=back i p c;exact hr.fam.free a q1 (by rw[q3];exact d)
 ·rcases hob with ⟨i,x,p,a,c,d,e⟩|⟨F,k,x,z,cs,m,e⟩
  ·obtain ⟨q,q1,q2,_⟩:=back i p c;exact .inl ⟨i,x,q,a,q1,by rw[q2];exact d,e⟩
  ·exact .inr ⟨F,k,x,z,cs,⟨m.g,kw F z cs m.h,m.a⟩,e⟩
theorem bt.tf{Z:Ren}{A F k d:Nat}(hA:∀r,Z A=some r->Z.g F k=some r){r:RI}{own:Bool}{z:Nat}{cs:List Value}{w:World}(h:bt Z r (.cells own z cs) w):bt Z r (.cells own z (cs.map (tf A F k d))) w:=by
 obtain ⟨h1,h2,cs',ty,fz,h3,h4,h5,h6⟩:=h
 refine ⟨h1,h2,cs',ty,fz,h3,h4,h5,fun i v a =>?_⟩
 rw[List.getElem?_map]at a
 obtain ⟨x,hx,rfl⟩:=bo a
 obtain ⟨v',b,c⟩:=h6 i x hx
 exact ⟨v',b,An hA d c⟩
def Ren.mem1(Z:Ren)(A F k:Nat):Ren:=⟨Z.f,Z.mem,fun F' k'=>if F'=F/\k'=k then Z.f A else Z.g F' k'⟩
theorem Post.member{B base:Nat}{M:List Nat}{Z:Ren}{H:Heap}{w:World}(hr:Rel P B Z H w){A F k z zA:Nat}{cs ms:List Value}(hA:H[A]?=some (.cells true zA cs))(hF:H[F]?=some (.fam z ms))
  (hz:cs.length=z) (h0:0<z) (hk:ms.length=k*z) (hMA:A<base->A∈M) (hMF:F<base->F∈M) :
  Post P B base M Z H w (Z.mem1 A F k) ((H.set A .dead).set F (.fam z (ms++cs))) w:=by
 have hAl:A<H.length:=(List.getElem?_eq_some_iff.1 hA).1
 have hFl:F<H.length:=(List.getElem?_eq_some_iff.1 hF).1
 have hne:A≠F:=fun e=>by subst e;rw[hA]at hF;cases hF
 have hgn:Z.g F k=none:=by
  cases hq:Z.g F k with
  |none=>rfl
  |some r =>
   obtain ⟨_,_,_,a2,_⟩:=hr.fam.obj F k r z ms ⟨hq,hF,fun e=>absurd e (by omega)⟩
   rw[Nat.add_mul,Nat.one_mul,hk]at a2;omega
 have hle:Ren.le Z (Z.mem1 A F k):=⟨fun _ _ h=>h,fun _ _ h=>h,fun F' k' r h=>by
  show (if _ then _ else _)=_
  rw[if_neg]
  ·exact h
  ·rintro ⟨rfl,rfl⟩;rw[hgn]at h;cases h⟩
 have hgA:((H.set A .dead).set F (.fam z (ms++cs)))[A]?=some .dead:=by
  rw[List.getElem?_set_ne (Ne.symm hne),List.getElem?_set_self hAl]
 have hgF:((H.set A .dead).set F (.fam z (ms++cs)))[F]?=some (.fam z (ms++cs)):=List.getElem?_set_self (by simpa using hFl)
 have hgo:∀i,i≠A->i≠F->((H.set A .dead).set F (.fam z (ms++cs)))[i]?=H[i]? := fun i a b=>by
  rw[List.getElem?_set_ne (Ne.symm b),List.getElem?_set_ne (Ne.symm a)]
 have back:∀i p,((H.set A .dead).set F (.fam z (ms++cs)))[i]?=some p->p.alive=true->i≠A/\H[i]?=some p:=fun i p h ha=>by
  by_cases e:i=A
  ·subst e;rw[hgA]at h;cases h;cases ha
  ·by_cases e2:i=F
   ·subst e2;rw[hgF]at h;cases h;cases ha
   ·rw[hgo i e e2]at h;exact ⟨e,h⟩
 have gof:∀{F' k' r},(Z.mem1 A F k).g F' k'=some r->(F'=F/\k'=k/\Z A=some r)∨(¬ (F'=F/\k'=k)/\Z.g F' k'=some r):=fun {F' k' r} h=>by
  have h:(if F'=F/\k'=k then Z.f A else Z.g F' k')=some r:=h
  by_cases e:F'=F/\k'=k
  ·rw[if_pos e]at h;exact .inl ⟨e.1,e.2,h⟩
  ·rw[if_neg e]at h;exact .inr ⟨e,h⟩
 have fm:∀{F' k' r z' c},FM (Z.mem1 A F k) ((H.set A .dead).set F (.fam z (ms++cs))) F' k' r z' c ->
   (F'=F/\k'=k/\Z A=some r/\z'=z/\c=ms++cs)∨(∃c',FM Z H F' k' r z' c'/\¬ (F'=F/\k'=k)/\(c=c'∨(F'=F/\c'=ms/\c=ms++cs/\z'=z))):=fun {F' k' r z' c} m=>by
  have hh:=m.h
  rcases gof m.g with ⟨rfl,rfl,h⟩|⟨e,h⟩
  ·rw[hgF]at hh;cases hh
   exact .inl ⟨rfl,rfl,h,rfl,rfl⟩
  ·right
   by_cases e2:F'=F
   ·subst e2
    rw[hgF]at hh;cases hh
    exact ⟨ms,⟨h,hF,fun e=>absurd e (by omega)⟩,e,.inr ⟨rfl,rfl,rfl,rfl⟩⟩
   ·by_cases e3:F'=A
    ·subst e3;rw[hgA]at hh;cases hh
    ·rw[hgo F' e3 e2]at hh
     exact ⟨c,⟨h,hh,m.a⟩,e,.inl rfl⟩
 have hown:(ab.cells true zA cs).owned=true:=rfl
 refine ⟨⟨hr.bsize,hr.dR,fun i x h=>by simpa using hr.dom i x h,hr.lt,fun i x o h1 h2 =>?_,fun i x o h1 h2 h3=>hr.base i x o h1 (back i o h2 (bh h3)).2 h3,
   fun i j x y o o' h1 h2 h3 h4 h5 h6 hn=>hr.sep i j x y o o' h1 h2 (back i o h3 (bh h5)).2 (back j o' h4 h6).2 h5 h6 hn,fun b m hm=>⟨(hr.mem b m hm).1,fun i x o h1 h2 h3=>(hr.mem b m hm).2 i x o h1 (back i o h2 (bh h3)).2 h3⟩,?_⟩,
  hle,fun i x a b=>(by have a:Z i=some x:=a;rw[b]at a;cases a),by simp,fun i h1 h2 =>?_,Nat.le_refl _,fun _ _ _=>rfl,fun b _ hob =>?_,rfl,rfl,rfl,fun _ _ h => .inl h,Nat.le_refl _,fun F' k' r a b =>?_⟩
 ·cases ha:o.alive with
  |true=>exact (hr.obj i x o h1 (back i o h2 ha).2).mono hle rfl
  |false=>cases o <;> first|trivial|simp[ab.alive]at ha
 ·refine ⟨fun F' k' r h =>?_,fun F' k' r h =>?_,fun F' k' r z' c m =>?_,fun F' k' r z' c m =>?_,fun F1 k1 r1 z1 c1 F2 k2 r2 z2 c2 m1 m2 e =>?_,fun F' k' r z' c id r2 o m h1 h2 h3 =>?_,fun F' k' r z' c b m2 m hb =>?_,fun F' k' r c g h =>?_⟩
  ·rcases gof h with ⟨rfl,_,_⟩|⟨_,h⟩
   ·simpa using hFl
   ·simpa using hr.fam.dom _ _ _ h
  ·rcases gof h with ⟨_,_,h⟩|⟨_,h⟩
   ·exact hr.lt _ _ h
   ·exact hr.fam.lt _ _ _ h
  ·rcases fm m with ⟨_,_,h,_⟩|⟨c',m',_⟩
   ·exact hr.base A r _ h hA hown
   ·exact hr.fam.base _ _ _ _ _ m'
  ·rcases fm m with ⟨rfl,rfl,h,rfl,rfl⟩|⟨c',m',e,hc⟩
   ·obtain ⟨e1,e2,cs',ty,fz,hb,hn,hfz,hcs⟩:=hr.obj A r _ h hA
    obtain rfl:fz=(0,0):=hfz rfl
    have hlast:=hcs (z'-1) _ (List.getElem?_eq_getElem (by omega))
    obtain ⟨v',g1,_⟩:=hlast
    have hlt:=(Array.getElem?_eq_some_iff.1 g1).1
    refine ⟨cs',ty,hb,by rw[br,hk,hz,Nat.add_mul,Nat.one_mul];exact Nat.le_refl _,fun e=>absurd e (by omega),by omega,fun i v hi hv =>?_⟩
    rw[List.getElem?_append_right (by omega),hk,Nat.add_sub_cancel_left]at hv
    obtain ⟨v',a1,a2⟩:=hcs i v hv
    exact ⟨v',a1,a2.mono hle⟩
   ·have ob:=hr.fam.obj _ _ _ _ _ m'
    rcases hc with rfl|⟨_,hc1,rfl,_⟩
    ·exact ob.mono hle rfl
    ·obtain ⟨cs',ty,a1,a2,a3,a4,a5⟩:=ob
     rw[hc1]at a2 a5
     refine ⟨cs',ty,a1,by rw[br];omega,fun e=>absurd e (by omega),a4,fun i v hi hv =>?_⟩
     have hlt:k'*z'+i<ms.length:=by rw[Nat.add_mul,Nat.one_mul]at a2;omega
     rw[List.getElem?_append_left hlt]at hv
     obtain ⟨v',b1,b2⟩:=a5 i v hi hv
     exact ⟨v',b1,b2.mono hle⟩
  ·rcases fm m1 with ⟨rfl,rfl,g1,_⟩|⟨c1',m1',e1,_⟩
   ·rcases fm m2 with ⟨rfl,rfl,g2,_⟩|⟨c2',m2',e2,_⟩
    ·exact ⟨rfl,rfl⟩
    ·exact absurd e (hr.fam.sep2 _ _ _ _ _ A r1 _ m2' g1 hA rfl)
   ·rcases fm m2 with ⟨rfl,rfl,g2,_⟩|⟨c2',m2',e2,_⟩
    ·exact absurd e.symm (hr.fam.sep2 _ _ _ _ _ A r2 _ m1' g2 hA rfl)
    ·exact hr.fam.sep _ _ _ _ _ _ _ _ _ _ m1' m2' e
  ·obtain ⟨hid,ho⟩:=back id o h2 h3
   rcases fm m with ⟨_,_,g1,_⟩|⟨c',m',_⟩
   ·exact (hr.sep A id r r2 _ o g1 h1 hA ho hown h3 (Ne.symm hid)).symm
   ·exact hr.fam.sep2 _ _ _ _ _ id r2 o m' h1 ho h3
  ·rcases fm m with ⟨_,_,g1,_⟩|⟨c',m',_⟩
   ·exact (hr.mem b m2 hb).2 A r _ g1 hA hown
   ·exact hr.fam.mem _ _ _ _ _ b m2 m' hb
  ·by_cases e:F'=F
   ·subst e;rw[hgF]at h;cases h;omega
   ·by_cases e2:F'=A
    ·subst e2;rw[hgA]at h;cases h
    ·rw[hgo F' e2 e]at h
     rcases gof g with ⟨q,_,_⟩|⟨_,q⟩
     ·exact absurd q e
     ·exact hr.fam.cnt F' k' r c q h
 ·by_cases e:i=A
  ·exact absurd (e ▸ hMA (e ▸ h1)) h2
  ·by_cases e2:i=F
   ·exact absurd (e2 ▸ hMF (e2 ▸ h1)) h2
   ·exact hgo i e e2
 ·rcases hob with ⟨i,x,o,k1,k2,k3,k4⟩|⟨F',k',x,z',c,m,e⟩
  ·exact .inl ⟨i,x,o,k1,(back i o k2 (bh k3)).2,k3,k4⟩
  ·rcases fm m with ⟨_,_,g1,_⟩|⟨c',m',_⟩
   ·exact .inl ⟨A,x,_,g1,hA,hown,e⟩
   ·exact .inr ⟨F',k',x,z',c',m',e⟩
 ·rcases gof a with ⟨rfl,_,_⟩|⟨_,h⟩
  ·rcases Nat.lt_or_ge F' base with hl|hl
   ·exact .inr (hMF hl)
   ·exact .inl hl
  ·rw[b]at h;cases h
theorem Post.rp{B base:Nat}{M:List Nat}{Z:Ren}{H:Heap}{w:World}(hr:Rel P B Z H w)(hob:base<=H.length)(z:Nat):Post P B base M Z H w Z (H ++ [.fam z []]) w:=by
 have hlt:∀id r o,Z id=some r->(H ++ [ab.fam z []])[id]?=some o->H[id]?=some o:=fun id r o h1 h2=>by
  rw[List.getElem?_append_left (hr.dom _ _ h1)]at h2;exact h2
 refine ⟨⟨hr.bsize,hr.dR,fun id r h=>by have:=hr.dom _ _ h;rw[br];omega,hr.lt,fun id r o h1 h2=>hr.obj id r o h1 (hlt id r o h1 h2),fun id r o h1 h2=>hr.base id r o h1 (hlt id r o h1 h2),fun id id' r r' o o' h1 h1' h2 h2'=>hr.sep id id' r r' o o' h1 h1' (hlt _ _ _ h1 h2) (hlt _ _ _ h1' h2'),fun b m h=>⟨(hr.mem b m h).1,fun id r o h1 h2=>(hr.mem b m h).2 id r o h1 (hlt _ _ _ h1 h2)⟩,
   hr.fam.keep (Ren.le_refl _) (fun _ _ _ h=>h) (fun F z cs hF h=>by rw[List.getElem?_append_left hF]at h;exact h) (by simp) (Nat.le_refl _) (fun _ _=>rfl) (fun id r o a b c=>hr.fam.free a (hlt _ _ _ a b) c) (fun b m h=>hr.fam.eI h)⟩,
  Ren.le_refl _,fun id r a b=>(by rw[b]at a;cases a),by rw[br];omega,fun id h1 _=>List.getElem?_append_left (by omega),Nat.le_refl _,fun _ _ _=>rfl,fun b _ ho =>?_,rfl,rfl,rfl,fun _ _ h => .inl h,Nat.le_refl _,fun F k r a b=>(by rw[b]at a;cases a)⟩
 rcases ho with ⟨id,r,o,h1,h2,h3,h4⟩|⟨F,k,r,z,c,m,e⟩
 ·exact .inl ⟨id,r,o,h1,hlt _ _ _ h1 h2,h3,h4⟩
 ·exact .inr ⟨F,k,r,z,c,⟨m.g,by have:=m.h;rw[List.getElem?_append_left (hr.fam.dom F k r m.g)]at this;exact this,m.a⟩,e⟩
theorem bO.rp{base:Nat}{M:List Nat}{T:Tm}{H:Heap}(z:Nat):bO P base M T H T (H ++ [.fam z []]):=fun B Z w N tmps h1 h2 h3=>⟨Z,Post.rp h1 h2 z,h3⟩
def tfT(A F k d:Nat):List Nat->Tm->Tm
 | [],T=>T
 |t :: ts,T=>tfT A F k d ts (put T (some t) (tf A F k d (T t)))
def tfH(A F k d:Nat):List Nat->Heap->Heap
 | [],H=>H
 |b :: bs,H=>tfH A F k d bs (match H[b]? with|some (.cells own z cs)=>H.set b (.cells own z (cs.map (tf A F k d)))|_=>H)
theorem wF{Z:Ren}{A F k d N:Nat}(hA:∀r,Z A=some r->Z.g F k=some r){tmps:Array Value}:∀{ts:List Nat} {T:Tm},TR Z N T tmps->TR Z N (tfT A F k d ts T) tmps
 | [],T,h=>h
 |t :: ts,T,h=>wF hA (ts:=ts) ⟨h.1,fun s hs=>by
   have:=h.2 s hs
   show VR Z (upd T t _ s) _
   unfold upd
   by_cases e:s=t
   ·subst e;rw[if_pos rfl];exact An hA d this
   ·rw[if_neg e];exact this⟩
theorem Post.tfH{B base:Nat}{M:List Nat}{Z:Ren}{w:World}{A F k d:Nat}(hA:∀r,Z A=some r->Z.g F k=some r):∀{bs:List Nat} {H:Heap},Rel P B Z H w->(∀b∈bs,b<base->b∈M)->Post P B base M Z H w Z (tfH A F k d bs H) w
 | [],H,hr,_=>Post.refl hr
 |b :: bs,H,hr,hM=>by
  unfold K.tfH
  split
  ·rename_i own z cs hb
   have p:=Post.Ap (base:=base) (M:=M) hr (o':=.cells own z (cs.map (tf A F k d))) hb rfl rfl (fun _ _ h=>by cases h) (fun _ _ h=>by cases h) (fun r _ h=>bt.tf hA h) (hM b (List.mem_cons_self ..))
   exact p.trans (Post.tfH hA p.rel (fun x hx=>hM x (List.mem_cons_of_mem _ hx)))
  ·exact Post.tfH hA hr (fun x hx=>hM x (List.mem_cons_of_mem _ hx))
theorem bO.fam{base:Nat}{M:List Nat}{T:Tm}{H:Heap}{A F k z zA d:Nat}{cs ms:List Value}{ts bs:List Nat}(hA:H[A]?=some (.cells true zA cs))(hF:H[F]?=some (.fam z ms))
  (hz:cs.length=z) (h0:0<z) (hk:ms.length=k*z) (hMA:A<base->A∈M) (hMF:F<base->F∈M) (hMb:∀b∈bs,b<base->b∈M) :
  bO P base M T H (tfT A F k d ts T) (tfH A F k d bs ((H.set A .dead).set F (.fam z (ms++cs)))):=by
 intro B Z w N tmps h1 h2 h3
 have p:=Post.member (base:=base) (M:=M) h1 hA hF hz h0 hk hMA hMF
 have hg:∀r,(Z.mem1 A F k) A=some r->(Z.mem1 A F k).g F k=some r:=fun r h=>by
  show (if _ then _ else _)=_
  rw[if_pos ⟨rfl,rfl⟩];exact h
 exact ⟨_,p.trans (Post.tfH hg p.rel hMb),wF hg (h3.mono p.ext)⟩
def sG:Nat->List Value->Option (Nat×Value)
 |_,[] =>none
 |k,.slice (some a) n c :: _=>some (k,.slice (some a) n c)
 |k,.iface (n+1) (.agg cs) :: _=>some (k,.iface (n+1) (.agg cs))
 |k,_ :: r=>sG (k+1) r
theorem jW:∀{vs:List Value} {k i:Nat} {v:Value},sG k vs=some (i,v)->k<=i/\vs[i-k]?=some v
 | [],k,i,v,h=>by cases h
 |x :: r,k,i,v,h=>by
  unfold sG at h
  have hrec:sG (k+1) r=some (i,v)->k<=i/\(x :: r)[i-k]?=some v:=fun h=>by
   obtain ⟨a,b⟩:=jW h
   refine ⟨by omega,?_⟩
   rw[show i-k=(i-(k+1))+1 by omega,List.getElem?_cons_succ];exact b
  split at h
  ·cases h
  ·rename_i e;cases e;cases h;exact ⟨Nat.le_refl _,by simp⟩
  ·rename_i e;cases e;cases h;exact ⟨Nat.le_refl _,by simp⟩
  ·rename_i e;cases e;exact hrec h
theorem VR.BO{Z ρ1:Ren}{vs:List Value}{i:Nat}{u u2:Value}(hi:vs[i]?=some u)(hle:Ren.le Z ρ1)(hv:∀x,VR Z u x->VR ρ1 u2 x){x:Value}(h:VR Z (.agg ⟨vs⟩) x):VR ρ1 (.agg ⟨vs.set i u2⟩) x:=by
 cases h with
 | @agg _ cs' h1 h2 =>
  refine .agg (by simpa using h1) fun j v v' a b =>?_
  have a':(vs.set i u2)[j]?=some v:=by simpa using a
  rw[List.getElem?_set]at a'
  split at a'
  ·rename_i e;subst e
   split at a'
   ·cases a';exact hv _ (h2 i u v' (by simpa using hi) b)
   ·cases a'
  ·exact (h2 j v v' (by simpa using a') b).mono hle
theorem bO.Ch{base:Nat}{M:List Nat}{T:Tm}{H H2:Heap}{t:Nat}{v2:Value}(h:∀(B:Nat) (Z:Ren) (w:World) (x:Value),Rel P B Z H w->base<=H.length->VR Z (T t) x->∃ρ1,Post P B base M Z H w ρ1 H2 w/\VR ρ1 v2 x)
  (h0:∀(B:Nat) (Z:Ren) (w:World),Rel P B Z H w->base<=H.length->∃ρ1,Post P B base M Z H w ρ1 H2 w):bO P base M T H (put T (some t) v2) H2:=by
 intro B Z w N tmps hr hb h3
 by_cases ht:t<N
 ·obtain ⟨ρ1,p,hv⟩:=h B Z w _ hr hb (h3.2 t ht)
  refine ⟨ρ1,p,h3.1,fun s hs =>?_⟩
  show VR ρ1 (upd T t _ s) _
  unfold upd
  by_cases e:s=t
  ·subst e;rw[if_pos rfl];exact hv
  ·rw[if_neg e];exact (h3.2 s hs).mono p.ext
 ·obtain ⟨ρ1,p⟩:=h0 B Z w hr hb
  refine ⟨ρ1,p,h3.1,fun s hs =>?_⟩
  show VR ρ1 (upd T t _ s) _
  unfold upd
  rw[if_neg (by omega)]
  exact (h3.2 s hs).mono p.ext
theorem bO.zP{base:Nat}{M:List Nat}{T:Tm}{H:Heap}{t id n c z i:Nat}{tag:Option Nat}{cs vs:List Value}(hT:T t = .agg ⟨vs⟩)(hi:vs[i]?=some (.slice (some ⟨id,0,tag⟩) n c))(htag:tag=none∨tag=some 1)(ho:H[id]?=some (.cells true z cs))(hM:id<base->id∈M) :
  bO P base M T H (put T (some t) (.agg ⟨vs.set i (.iface (n+1) (.agg ⟨cs⟩))⟩)) (H.set id .dead):=by
 have key:∀(B:Nat) (Z:Ren) (w:World),Rel P B Z H w->∃ρ1,Post P B base M Z H w ρ1 (H.set id .dead) w/\∀x,VR Z (.slice (some ⟨id,0,tag⟩) n c) x->VR ρ1 (.iface (n+1) (.agg ⟨cs⟩)) x:=by
  intro B Z w h1
  cases hid:Z id with
  |none=>exact ⟨Z,Post.uE h1 ho rfl hM,fun x hx=>VR.uO htag hid hx⟩
  |some r =>
   have hob:=h1.obj id r _ hid ho
   obtain ⟨_,_,m,ty,fz,hb,_⟩:=hob
   have p:=Post.CG (base:=base) (M:=M) h1 hid ho hb hM
   exact ⟨_,p,fun x hx=>VR.freeze (H:=H) htag hid hb (h1.obj id r _ hid ho) p.ext hx⟩
 refine bO.Ch (fun B Z w x hr hb hx =>?_) (fun B Z w hr hb =>?_)
 ·obtain ⟨ρ1,p,hv⟩:=key B Z w hr
  rw[hT]at hx
  exact ⟨ρ1,p,VR.BO hi p.ext hv hx⟩
 ·obtain ⟨ρ1,p,_⟩:=key B Z w hr;exact ⟨ρ1,p⟩
theorem VR.thaw{B base n:Nat}{M:List Nat}{Z:Ren}{H:Heap}{w:World}(hr:Rel P B Z H w)(hob:base<=H.length){cs:Array Value}{x:Value}(hx:VR Z (.iface (n+1) (.agg cs)) x) :
  ∃ρ1,Post P B base M Z H w ρ1 (H ++ [.cells false 0 cs.toList]) w/\VR ρ1 (.slice (some ⟨H.length,0,some 2⟩) n n) x:=by
 cases hx with
 | @deep n b s cap' cs m hm hp hc h1 h2 =>
  refine ⟨_,Post.read hr hob hm (cs:=cs.toList) (by simpa using h1) (fun i v v' a b=>h2 i v v' (by simpa using a) b),?_⟩
  have:=VR.bQ (Z:=Z.set H.length ⟨b,s,m.size,0,false⟩) (id:=H.length) (o:=0) (r:=⟨b,s,m.size,0,false⟩) (len:=n) (cap:=n) (cap':=cap') (Ren.aQ ..) hp (Nat.le_refl _) hc (fun h=>by cases h)
  rw[Nat.zero_add]at this
  exact this
 |cu=>exact ⟨_,Post.more hr hob _,.bf⟩
theorem bO.Cg{base:Nat}{M:List Nat}{T:Tm}{H:Heap}{t n i:Nat}{cs:Array Value}{vs:List Value}(hT:T t = .agg ⟨vs⟩)(hi:vs[i]?=some (.iface (n+1) (.agg cs))) :
  bO P base M T H (put T (some t) (.agg ⟨vs.set i (.slice (some ⟨H.length,0,some 2⟩) n n)⟩)) (H ++ [.cells false 0 cs.toList]):=by
 refine bO.Ch (fun B Z w x hr hb hx =>?_) (fun B Z w hr hb=>⟨Z,Post.more hr hb _⟩)
 rw[hT]at hx
 cases hx with
 | @agg _ cs' h1 h2 =>
  have hl:=(List.getElem?_eq_some_iff.1 hi).1
  have hlt:i<cs'.size:=by rw[<- h1];simpa using hl
  obtain ⟨ρ1,p,hv⟩:=VR.thaw (base:=base) (M:=M) hr hb (h2 i _ _ (by simpa using hi) (Array.getElem?_eq_getElem hlt))
  refine ⟨ρ1,p,.agg (by simpa using h1) fun j v v' a b =>?_⟩
  have a':(vs.set i (.slice (some ⟨H.length,0,some 2⟩) n n))[j]?=some v:=by simpa using a
  rw[List.getElem?_set]at a'
  split at a'
  ·rename_i e;subst e
   cases a'
   rw[Array.getElem?_eq_getElem hlt]at b;cases b
   exact hv
  ·exact (h2 j v v' (by simpa using a') b).mono p.ext
def C1(Z:Ren)(a b:Value):Prop:=∀x,VR Z a x->VR Z b x
theorem Post.wU{B base:Nat}{M:List Nat}{Z:Ren}{H:Heap}{w:World}(hr:Rel P B Z H w)(hob:base<=H.length)(o0:ab):Post P B base M Z H w Z (H ++ [o0]) w:=by
 have hlt:∀id r o,Z id=some r->(H ++ [o0])[id]?=some o->H[id]?=some o:=fun id r o h1 h2=>by
  rw[List.getElem?_append_left (hr.dom _ _ h1)]at h2;exact h2
 refine ⟨⟨hr.bsize,hr.dR,fun id r h=>by have:=hr.dom _ _ h;rw[br];omega,hr.lt,fun id r o h1 h2=>hr.obj id r o h1 (hlt id r o h1 h2),fun id r o h1 h2=>hr.base id r o h1 (hlt id r o h1 h2),fun id id' r r' o o' h1 h1' h2 h2'=>hr.sep id id' r r' o o' h1 h1' (hlt _ _ _ h1 h2) (hlt _ _ _ h1' h2'),fun b m h=>⟨(hr.mem b m h).1,fun id r o h1 h2=>(hr.mem b m h).2 id r o h1 (hlt _ _ _ h1 h2)⟩,
   hr.fam.keep (Ren.le_refl _) (fun _ _ _ h=>h) (fun F z cs hF h=>by rw[List.getElem?_append_left hF]at h;exact h) (by simp) (Nat.le_refl _) (fun _ _=>rfl) (fun id r o a b c=>hr.fam.free a (hlt _ _ _ a b) c) (fun b m h=>hr.fam.eI h)⟩,
  Ren.le_refl _,fun id r a b=>(by rw[b]at a;cases a),by rw[br];omega,fun id h1 _=>List.getElem?_append_left (by omega),Nat.le_refl _,fun _ _ _=>rfl,fun b _ ho =>?_,rfl,rfl,rfl,fun _ _ h => .inl h,Nat.le_refl _,fun F k r a b=>(by rw[b]at a;cases a)⟩
 rcases ho with ⟨id,r,o,h1,h2,h3,h4⟩|⟨F,k,r,z,c,m,e⟩
 ·exact .inl ⟨id,r,o,h1,hlt _ _ _ h1 h2,h3,h4⟩
 ·exact .inr ⟨F,k,r,z,c,⟨m.g,by have:=m.h;rw[List.getElem?_append_left (hr.fam.dom F k r m.g)]at this;exact this,m.a⟩,e⟩
theorem Post.iZ{B base:Nat}{M:List Nat}{Z:Ren}{H:Heap}{w:World}(hr:Rel P B Z H w){b zh t:Nat}{hs:List Value}{v:Value}(ho:H[b]?=some (.cells true zh hs))(hv:∀v0,hs[t]?=some v0->C1 Z v0 v)(hM:b<base->b∈M) :
  Post P B base M Z H w Z (H.set b (.cells true zh (hs.set t v))) w:=by
 refine Post.Ap hr ho rfl rfl (fun _ _ h=>by cases h) (fun _ _ h=>by cases h) (fun r h0 h =>?_) hM
 obtain ⟨h1,h2,cs',ty,fz,h3,h4,h5,h6⟩:=h
 refine ⟨h1,h2,cs',ty,fz,h3,h4,h5,fun i x hx =>?_⟩
 by_cases e:t=i
 ·subst e
  have hl:t<hs.length:=by have:=(List.getElem?_eq_some_iff.1 hx).1;simpa using this
  rw[List.getElem?_set_self hl]at hx
  cases hx
  obtain ⟨v',a,c⟩:=h6 t _ (List.getElem?_eq_getElem hl)
  exact ⟨v',a,hv _ (List.getElem?_eq_getElem hl) v' c⟩
 ·rw[List.getElem?_set_ne e]at hx
  exact h6 i x hx
abbrev dp(n F k:Nat):Value:=.iface (n+1) (.pointer (some ⟨F,0,some (k+3)⟩))
theorem Post.wz{B base:Nat}{M:List Nat}{Z:Ren}{H:Heap}{w:World}(hr:Rel P B Z H w)(hob:base<=H.length){F k z:Nat}{r:RI}{ms row:List Value}(hg:Z.g F k=some r)(hF:H[F]?=some (.fam 0 ms))
  (hz:ms[0]?=some (.int .i64 (z:Int))) (hrow:ms[k+1]?=some (.agg ⟨row⟩)) (hMF:F<base->F∈M) :
  Post P B base M Z H w (Z.set H.length r) (H.set F (.fam 0 (ms.set (k+1) junk)) ++ [.cells true z row]) w:=by
 have hFl:F<H.length:=(List.getElem?_eq_some_iff.1 hF).1
 have hnone:Z H.length=none:=by
  cases h:Z H.length with
  |none=>rfl
  |some r=>exact absurd (hr.dom _ _ h) (Nat.lt_irrefl _)
 have hle:=Ren.dO (r:=r) hnone
 have hm:FM Z H F k r 0 ms:=⟨hg,hF,fun _=>⟨_,hrow,by simp⟩⟩
 obtain ⟨cs',ty,hb,_,hR,_,_⟩:=hr.fam.obj F k r 0 ms hm
 obtain ⟨⟨q1,q2,q3,q4⟩,_,q5⟩:=hR rfl
 obtain ⟨q6,q7⟩:=q5 _ hrow
 have hrz:z=r.z:=by
  rw[hz]at q4
  have:=Option.some.inj q4
  have:=Value.int.inj this
  omega
 have hk1:k+1<ms.length:=(List.getElem?_eq_some_iff.1 hrow).1
 have hgF:(H.set F (.fam 0 (ms.set (k+1) junk)) ++ [ab.cells true z row])[F]?=some (.fam 0 (ms.set (k+1) junk)):=by
  rw[List.getElem?_append_left (by simpa using hFl),List.getElem?_set_self hFl]
 have hgN:(H.set F (.fam 0 (ms.set (k+1) junk)) ++ [ab.cells true z row])[H.length]?=some (.cells true z row):=by
  rw[List.getElem?_append_right (by simp)];simp
 have hgo:∀i,i≠F->i<H.length->(H.set F (.fam 0 (ms.set (k+1) junk)) ++ [ab.cells true z row])[i]?=H[i]? := fun i a b=>by
  rw[List.getElem?_append_left (by simpa using b),List.getElem?_set_ne (Ne.symm a)]
 have hdm:∀i x,Z.set H.length r i=some x->(i=H.length/\x=r)∨(i<H.length/\i≠H.length/\Z i=some x):=fun i x h=>by
  by_cases e:i=H.length
  ·subst e;rw[Ren.aQ]at h;cases h;exact .inl ⟨rfl,rfl⟩
  ·rw[Ren.aP e]at h;exact .inr ⟨hr.dom _ _ h,e,h⟩
 have back:∀i p,i<H.length->(H.set F (.fam 0 (ms.set (k+1) junk)) ++ [ab.cells true z row])[i]?=some p->p.alive=true->H[i]?=some p:=fun i p hi h ha=>by
  by_cases e:i=F
  ·subst e;rw[hgF]at h;cases h;cases ha
  ·rw[hgo i e hi]at h;exact h
 have fm:∀{F' k' r' z' c},FM (Z.set H.length r) (H.set F (.fam 0 (ms.set (k+1) junk)) ++ [ab.cells true z row]) F' k' r' z' c ->
   ∃c',FM Z H F' k' r' z' c'/\¬ (F'=F/\k'=k)/\(c=c'∨(F'=F/\z'=0/\c'=ms/\c=ms.set (k+1) junk)):=fun {F' k' r' z' c} m=>by
  have g:Z.g F' k'=some r':=m.g
  have hh:=m.h
  by_cases e:F'=F
  ·subst e
   rw[hgF]at hh;cases hh
   obtain ⟨rw1,h1,h1'⟩:=m.a rfl
   have hne:k'≠k:=fun e=>by
    subst e
    rw[List.getElem?_set_self hk1]at h1;cases h1;exact h1' rfl
   rw[List.getElem?_set_ne (by omega)]at h1
   exact ⟨ms,⟨g,hF,fun _=>⟨rw1,h1,h1'⟩⟩,fun q=>hne q.2,.inr ⟨rfl,rfl,rfl,rfl⟩⟩
  ·rw[hgo F' e (hr.fam.dom _ _ _ g)]at hh
   exact ⟨c,⟨g,hh,m.a⟩,fun q=>e q.1,.inl rfl⟩
 have hcells:∀i v,row[i]?=some v->∃v',cs'[i+r.s]?=some v'/\VR Z v v':=fun i v h=>q7 i v (by simpa using h)
 refine ⟨⟨hr.bsize,fun g hg =>?_,fun i x h =>?_,fun i x h =>?_,fun i x o h1 h2 =>?_,fun i x o h1 h2 h3 =>?_,fun i j x y o o' h1 h2 h3 h4 h5 h6 hn =>?_,fun b m hb=>⟨(hr.mem b m hb).1,fun i x o h1 h2 h3 =>?_⟩,?_⟩,
  hle,fun i x a b =>?_,by simp,fun i h1 h2 =>?_,Nat.le_refl _,fun _ _ _=>rfl,fun b _ hob =>?_,rfl,rfl,rfl,fun _ _ h => .inl h,Nat.le_refl _,fun F' k' x a b=>(by rw[show (Z.set H.length r).g=Z.g from rfl,b]at a;cases a)⟩
 ·obtain ⟨x,a1,a2,a3⟩:=hr.dR g hg;exact ⟨x,hle _ _ a1,a2,a3⟩
 ·rw[br,List.length_set]
  rcases hdm i x h with ⟨rfl,_⟩|⟨h1,_,_⟩
  ·simp
  ·omega
 ·rcases hdm i x h with ⟨rfl,rfl⟩|⟨_,_,h1⟩
  ·exact hr.fam.lt _ _ _ hg
  ·exact hr.lt _ _ h1
 ·rcases hdm i x h1 with ⟨rfl,rfl⟩|⟨hi,_,h1⟩
  ·rw[hgN]at h2;cases h2
   exact ⟨q2.symm,hrz,cs',ty,(0,0),hb,q1.symm,fun _=>rfl,fun i v hv=>let ⟨v',a,c⟩:=hcells i v hv; ⟨v',a,c.mono hle⟩⟩
  ·cases ha:o.alive with
   |true=>exact (hr.obj i x o h1 (back i o hi h2 ha)).mono hle rfl
   |false=>cases o <;> first|trivial|simp[ab.alive]at ha
 ·rcases hdm i x h1 with ⟨rfl,rfl⟩|⟨hi,_,h1⟩
  ·exact hr.fam.base _ _ _ _ _ hm
  ·exact hr.base i x o h1 (back i o hi h2 (bh h3)) h3
 ·rcases hdm i x h1 with ⟨q8,q9⟩|⟨hi,_,h1'⟩
  ·rcases hdm j y h2 with ⟨p8,_⟩|⟨hj,_,h2'⟩
   ·exact absurd (q8.trans p8.symm) hn
   ·rw[q9];exact (hr.fam.sep2 _ _ _ _ _ j y o' hm h2' (back j o' hj h4 h6) h6).symm
  ·rcases hdm j y h2 with ⟨_,p9⟩|⟨hj,_,h2'⟩
   ·rw[p9];exact hr.fam.sep2 _ _ _ _ _ i x o hm h1' (back i o hi h3 (bh h5)) (bh h5)
   ·exact hr.sep i j x y o o' h1' h2' (back i o hi h3 (bh h5)) (back j o' hj h4 h6) h5 h6 hn
 ·rcases hdm i x h1 with ⟨rfl,rfl⟩|⟨hi,_,h1⟩
  ·exact hr.fam.mem _ _ _ _ _ b m hm hb
  ·exact (hr.mem b m hb).2 i x o h1 (back i o hi h2 (bh h3)) h3
 ·refine ⟨fun F' k' x h =>?_,fun F' k' x h=>hr.fam.lt F' k' x h,fun F' k' x z' c m =>?_,fun F' k' x z' c m =>?_,fun F1 k1 r1 z1 c1 F2 k2 r2 z2 c2 m1 m2 e =>?_,fun F' k' x z' c id r2 o m h1 h2 h3 =>?_,fun F' k' x z' c b m2 m hb =>?_,fun F' k' x c g h =>?_⟩
  ·have:=hr.fam.dom F' k' x h;rw[br,List.length_set];omega
  ·obtain ⟨c',m',_⟩:=fm m;exact hr.fam.base _ _ _ _ _ m'
  ·obtain ⟨c',m',hne,hc⟩:=fm m
   have ob:=(hr.fam.obj _ _ _ _ _ m').mono hle rfl
   rcases hc with rfl|⟨rfl,rfl,rfl,rfl⟩
   ·exact ob
   ·obtain ⟨c2,ty2,a1,a2,a3,a4,a5⟩:=ob
    have hkk:k'≠k:=fun e=>hne ⟨rfl,e⟩
    refine ⟨c2,ty2,a1,by simp,fun _=>⟨⟨(a3 rfl).1.1,(a3 rfl).1.2.1,(a3 rfl).1.2.2.1,by rw[List.getElem?_set_ne (by omega)];exact (a3 rfl).1.2.2.2⟩,fun v h1=>(a3 rfl).2.1 v (by rw[List.getElem?_set_ne (by omega)]at h1;exact h1),fun rw1 h1=>(a3 rfl).2.2 rw1 (by rw[List.getElem?_set_ne (by omega)]at h1;exact h1)⟩,a4,fun i v hi _=>absurd hi (Nat.not_lt_zero _)⟩
  ·obtain ⟨c1',m1',_⟩:=fm m1
   obtain ⟨c2',m2',_⟩:=fm m2
   exact hr.fam.sep _ _ _ _ _ _ _ _ _ _ m1' m2' e
  ·obtain ⟨c',m',hne,_⟩:=fm m
   rcases hdm id r2 h1 with ⟨rfl,rfl⟩|⟨hi,_,h1⟩
   ·exact fun e=>hne (hr.fam.sep _ _ _ _ _ _ _ _ _ _ m' hm e.symm)
   ·exact hr.fam.sep2 _ _ _ _ _ id r2 o m' h1 (back id o hi h2 h3) h3
  ·obtain ⟨c',m',_⟩:=fm m
   exact hr.fam.mem _ _ _ _ _ b m2 m' hb
  ·by_cases e:F'=F
   ·subst e;rw[hgF]at h;cases h
    rw[List.length_set];exact hr.fam.cnt F' k' x ms g hF
   ·rw[hgo F' e (hr.fam.dom _ _ _ g)]at h;exact hr.fam.cnt F' k' x c g h
 ·rcases hdm i x a with ⟨rfl,_⟩|⟨_,_,h1⟩
  ·exact Nat.le_refl _
  ·rw[b]at h1;cases h1
 ·exact hgo i (fun e=>h2 (e ▸ hMF (e ▸ h1))) (by omega)
 ·rcases hob with ⟨i,x,o,k1,k2,k3,k4⟩|⟨F',k',x,z',c,m,e⟩
  ·rcases hdm i x k1 with ⟨rfl,rfl⟩|⟨hi,_,h1⟩
   ·exact .inr ⟨F,k,x,0,ms,hm,k4⟩
   ·exact .inl ⟨i,x,o,h1,back i o hi k2 (bh k3),k3,k4⟩
  ·obtain ⟨c',m',_⟩:=fm m
   exact .inr ⟨F',k',x,z',c',m',e⟩
theorem Post.s5{B base:Nat}{M:List Nat}{Z:Ren}{H:Heap}{w:World}(hr:Rel P B Z H w){F:Nat}{ms ms':List Value}(hF:H[F]?=some (.fam 0 ms))(hl:ms.length<=ms'.length)(h0:ms'[0]?=ms[0]?)
  (hk:∀k r,Z.g F k=some r->ms'[k+1]?=ms[k+1]?) (hMF:F<base->F∈M):Post P B base M Z H w Z (H.set F (.fam 0 ms')) w:=by
 have hFl:F<H.length:=(List.getElem?_eq_some_iff.1 hF).1
 have hgF:(H.set F (.fam 0 ms'))[F]?=some (.fam 0 ms'):=List.getElem?_set_self hFl
 have hgo:∀i,i≠F->(H.set F (.fam 0 ms'))[i]?=H[i]? := fun i a=>List.getElem?_set_ne (Ne.symm a)
 have back:∀(i:Nat) (p:ab),(H.set F (.fam 0 ms'))[i]?=some p->p.alive=true->H[i]?=some p:=fun i p h ha=>by
  by_cases e:i=F
  ·subst e;rw[hgF]at h;cases h;cases ha
  ·rw[hgo i e]at h;exact h
 have fm:∀{F' k' r' z' c},FM Z (H.set F (.fam 0 ms')) F' k' r' z' c->∃c',FM Z H F' k' r' z' c'/\(c=c'∨(F'=F/\z'=0/\c'=ms/\c=ms')):=fun {F' k' r' z' c} m=>by
  have hh:=m.h
  by_cases e:F'=F
  ·subst e
   rw[hgF]at hh;cases hh
   obtain ⟨rw1,h1,h1'⟩:=m.a rfl
   exact ⟨ms,⟨m.g,hF,fun _=>⟨rw1,by rw[<- hk _ _ m.g];exact h1,h1'⟩⟩,.inr ⟨rfl,rfl,rfl,rfl⟩⟩
  ·rw[hgo F' e]at hh
   exact ⟨c,⟨m.g,hh,m.a⟩,.inl rfl⟩
 refine ⟨⟨hr.bsize,hr.dR,fun i x h=>by simpa using hr.dom i x h,hr.lt,fun i x o h1 h2 =>?_,fun i x o h1 h2 h3=>hr.base i x o h1 (back i o h2 (bh h3)) h3,
   fun i j x y o o' h1 h2 h3 h4 h5 h6 hn=>hr.sep i j x y o o' h1 h2 (back i o h3 (bh h5)) (back j o' h4 h6) h5 h6 hn,fun b m hm=>⟨(hr.mem b m hm).1,fun i x o h1 h2 h3=>(hr.mem b m hm).2 i x o h1 (back i o h2 (bh h3)) h3⟩,?_⟩,
  Ren.le_refl _,fun i x a b=>(by rw[b]at a;cases a),by simp,fun i h1 h2=>hgo i (fun e=>h2 (e ▸ hMF (e ▸ h1))),Nat.le_refl _,fun _ _ _=>rfl,fun b _ hob =>?_,rfl,rfl,rfl,fun _ _ h => .inl h,Nat.le_refl _,fun F' k' r a b=>(by rw[b]at a;cases a)⟩
 ·cases ha:o.alive with
  |true=>exact hr.obj i x o h1 (back i o h2 ha)
  |false=>cases o <;> first|trivial|simp[ab.alive]at ha
 ·refine ⟨fun F' k' x h=>by simpa using hr.fam.dom F' k' x h,hr.fam.lt,fun F' k' x z' c m =>?_,fun F' k' x z' c m =>?_,fun F1 k1 r1 z1 c1 F2 k2 r2 z2 c2 m1 m2 e =>?_,fun F' k' x z' c id r2 o m h1 h2 h3 =>?_,fun F' k' x z' c b m2 m hb =>?_,fun F' k' x c g h =>?_⟩
  ·obtain ⟨c',m',_⟩:=fm m;exact hr.fam.base _ _ _ _ _ m'
  ·obtain ⟨c',m',hc⟩:=fm m
   have ob:=hr.fam.obj _ _ _ _ _ m'
   rcases hc with rfl|⟨rfl,rfl,rfl,rfl⟩
   ·exact ob
   ·obtain ⟨c2,ty2,a1,a2,a3,a4,a5⟩:=ob
    have hkk:=hk _ _ m'.g
    exact ⟨c2,ty2,a1,by simp,fun _=>⟨⟨(a3 rfl).1.1,(a3 rfl).1.2.1,(a3 rfl).1.2.2.1,by rw[h0];exact (a3 rfl).1.2.2.2⟩,fun v h1=>(a3 rfl).2.1 v (by rw[<- hkk];exact h1),fun rw1 h1=>(a3 rfl).2.2 rw1 (by rw[<- hkk];exact h1)⟩,a4,fun i v hi _=>absurd hi (Nat.not_lt_zero _)⟩
  ·obtain ⟨c1',m1',_⟩:=fm m1
   obtain ⟨c2',m2',_⟩:=fm m2
   exact hr.fam.sep _ _ _ _ _ _ _ _ _ _ m1' m2' e
  ·obtain ⟨c',m',_⟩:=fm m
   exact hr.fam.sep2 _ _ _ _ _ id r2 o m' h1 (back id o h2 h3) h3
  ·obtain ⟨c',m',_⟩:=fm m
   exact hr.fam.mem _ _ _ _ _ b m2 m' hb
  ·by_cases e:F'=F
   ·subst e;rw[hgF]at h;cases h
    exact Nat.lt_of_lt_of_le (hr.fam.cnt F' k' x ms g hF) hl
   ·rw[hgo F' e]at h;exact hr.fam.cnt F' k' x c g h
 ·rcases hob with ⟨i,x,o,k1,k2,k3,k4⟩|⟨F',k',x,z',c,m,e⟩
  ·exact .inl ⟨i,x,o,k1,back i o k2 (bh k3),k3,k4⟩
  ·obtain ⟨c',m',_⟩:=fm m
   exact .inr ⟨F',k',x,z',c',m',e⟩
def aT(n k:Nat)(ms:List Value):List Value:=match n with|0=>ms|_+1=>ms.set (k+1) junk
theorem bO.take{base:Nat}{M:List Nat}{T:Tm}{H:Heap}{hd zh t F k n z:Nat}{hs ms row:List Value}(ho:H[hd]?=some (.cells true zh hs))(hF:H[F]?=some (.fam 0 ms))(hv:hs[t]?=some (dp n F k))
    (hz:ms[0]?=some (.int .i64 (z:Int))) (hn:row.length=n*z) (hrow:0<n->ms[k+1]?=some (.agg ⟨row⟩)) (hMh:hd<base->hd∈M) (hMF:F<base->F∈M) :
    bO P base M T H T ((H.set F (ab.fam 0 (aT n k ms)) ++ [ab.cells true z row]).set hd (ab.cells true zh (hs.set t (.slice (some ⟨H.length,0,some 1⟩) n n)))):=by
  intro B Z w N tmps h1 h2 h3
  have hhl:hd<H.length:=(List.getElem?_eq_some_iff.1 ho).1
  have hne:hd≠F:=fun e=>by subst e;rw[ho]at hF;cases hF
  have hget:∀X:List Value,(H.set F (.fam 0 X) ++ [ab.cells true z row])[hd]?=some (.cells true zh hs):=fun X=>by
    rw[List.getElem?_append_left (by simpa using hhl),List.getElem?_set_ne (Ne.symm hne)];exact ho
  have htl:=(List.getElem?_eq_some_iff.1 hv).1
  cases n with
  | zero =>
    have e0:H.set F (.fam 0 (aT 0 k ms))=H:=by
      show H.set F (.fam 0 ms)=H
      have hFl:F<H.length:=(List.getElem?_eq_some_iff.1 hF).1
      have:H[F] = .fam 0 ms:=by have:=hF;rw[List.getElem?_eq_getElem hFl]at this;exact Option.some.inj this
      rw[<- this];exact List.set_getElem_self _
    have hge:=hget (aT 0 k ms)
    rw[e0]at hge ⊢
    have p1:=Post.wU (M:=M) h1 h2 (.cells true z row)
    have p2:=Post.iZ (M:=M) (base:=base) p1.rel (t:=t) (v:=.slice (some ⟨H.length,0,some 1⟩) 0 0) hge (fun v0 e v' hh=>by
      rw[hv]at e;cases e
      cases hh with
      |fsl _ hp=>exact absurd hp (Nat.lt_irrefl 0)
      | @dc a _ =>
        cases a with
        |none=>exact .ba
        |some a=>exact .bb) hMh
    exact ⟨Z,p1.trans p2,h3⟩
  | succ n =>
    cases hg:Z.g F k with
    | some r =>
      have p1:=Post.wz (M:=M) h1 h2 hg hF hz (hrow (Nat.succ_pos _)) hMF
      have hge:=hget (aT (n+1) k ms)
      have p2:=Post.iZ (M:=M) (base:=base) p1.rel (t:=t) (v:=.slice (some ⟨H.length,0,some 1⟩) (n+1) (n+1)) hge (fun v0 e v' hh=>by
        rw[hv]at e;cases e
        cases hh with
        | fsl h hp hc hs ho =>
          have h:Z.g F k=some _:=h
          rw[hg]at h;cases h
          subst hs
          have:=VR.bF (Z:=Z.set H.length r) (id:=H.length) (o:=0) (r:=r) (len:=n+1) (cap:=n+1) (Ren.aQ _ _ _) hp (Nat.le_refl _) hc (fun _ _=>by omega)
          rw[Nat.zero_add]at this
          exact this) hMh
      exact ⟨_,p1.trans p2,h3.mono (Ren.le_trans p1.ext p2.ext)⟩
    | none =>
      have p1:Post P B base M Z H w Z (H.set F (ab.fam 0 (aT (n+1) k ms)) ++ [ab.cells true z row]) w:=by
        have p0:=Post.s5 (base:=base) (M:=M) (ms':=aT (n+1) k ms) h1 hF (by simp[aT]) (by show (ms.set (k+1) junk)[0]?=_;rw[List.getElem?_set_ne (by omega)]) (fun k' r' hk'=>by
          show (ms.set (k+1) junk)[k'+1]?=_
          rw [List.getElem?_set_ne (fun e => by have : k = k' := by omega
                                                subst this;rw[hg]at hk';cases hk')]) hMF
        exact p0.trans (Post.wU p0.rel (by simpa using h2) _)
      have hge:=hget (aT (n+1) k ms)
      have p2:=Post.iZ (M:=M) (base:=base) p1.rel (t:=t) (v:=.slice (some ⟨H.length,0,some 1⟩) (n+1) (n+1)) hge (fun v0 e v' hh=>by
        rw[hv]at e;cases e
        cases hh with
        |fsl h hp hc hs ho=>have h:Z.g F k=some _:=h;rw[hg]at h;cases h) hMh
      exact ⟨_,p1.trans p2,h3.mono (Ren.le_trans p1.ext p2.ext)⟩
theorem Post.give{B base:Nat}{M:List Nat}{Z:Ren}{H:Heap}{w:World}(hr:Rel P B Z H w){A F k z:Nat}{rA:RI}{cs ms:List Value}(hρ:Z A=some rA)(hA:H[A]?=some (.cells true z cs))(hF:H[F]?=some (.fam 0 ms))
  (hz:ms[0]?=some (.int .i64 (z:Int))) (h0:0<z) (hc:0<cs.length) (hk:ms.length=k+1) (hMA:A<base->A∈M) (hMF:F<base->F∈M) :
  Post P B base M Z H w (Z.mem1 A F k) ((H.set A .dead).set F (.fam 0 (ms ++ [.agg ⟨cs⟩]))) w:=by
 have hAl:A<H.length:=(List.getElem?_eq_some_iff.1 hA).1
 have hFl:F<H.length:=(List.getElem?_eq_some_iff.1 hF).1
 have hne:A≠F:=fun e=>by subst e;rw[hA]at hF;cases hF
 have hgn:Z.g F k=none:=by
  cases hq:Z.g F k with
  |none=>rfl
  |some r=>have:=hr.fam.cnt F k r ms hq hF;omega
 have hle:Ren.le Z (Z.mem1 A F k):=⟨fun _ _ h=>h,fun _ _ h=>h,fun F' k' r h=>by
  show (if _ then _ else _)=_
  rw[if_neg]
  ·exact h
  ·rintro ⟨rfl,rfl⟩;rw[hgn]at h;cases h⟩
 have hgA:((H.set A .dead).set F (.fam 0 (ms ++ [.agg ⟨cs⟩])))[A]?=some .dead:=by
  rw[List.getElem?_set_ne (Ne.symm hne),List.getElem?_set_self hAl]
 have hgF:((H.set A .dead).set F (.fam 0 (ms ++ [.agg ⟨cs⟩])))[F]?=some (.fam 0 (ms ++ [.agg ⟨cs⟩])):=List.getElem?_set_self (by simpa using hFl)
 have hgo:∀i,i≠A->i≠F->((H.set A .dead).set F (.fam 0 (ms ++ [.agg ⟨cs⟩])))[i]?=H[i]? := fun i a b=>by
  rw[List.getElem?_set_ne (Ne.symm b),List.getElem?_set_ne (Ne.symm a)]
 have back:∀i p,((H.set A .dead).set F (.fam 0 (ms ++ [.agg ⟨cs⟩])))[i]?=some p->p.alive=true->i≠A/\H[i]?=some p:=fun i p h ha=>by
  by_cases e:i=A
  ·subst e;rw[hgA]at h;cases h;cases ha
  ·by_cases e2:i=F
   ·subst e2;rw[hgF]at h;cases h;cases ha
   ·rw[hgo i e e2]at h;exact ⟨e,h⟩
 have gof:∀{F' k' r},(Z.mem1 A F k).g F' k'=some r->(F'=F/\k'=k/\Z A=some r)∨(¬ (F'=F/\k'=k)/\Z.g F' k'=some r):=fun {F' k' r} h=>by
  have h:(if F'=F/\k'=k then Z.f A else Z.g F' k')=some r:=h
  by_cases e:F'=F/\k'=k
  ·rw[if_pos e]at h;exact .inl ⟨e.1,e.2,h⟩
  ·rw[if_neg e]at h;exact .inr ⟨e,h⟩
 have hold:∀{k' r},Z.g F k'=some r->(ms ++ [Value.agg ⟨cs⟩])[k'+1]?=ms[k'+1]? := fun h=>List.getElem?_append_left (hr.fam.cnt F _ _ ms h hF)
 have h0':(ms ++ [Value.agg ⟨cs⟩])[0]?=ms[0]? := List.getElem?_append_left (by omega)
 have hnew:(ms ++ [Value.agg ⟨cs⟩])[k+1]?=some (.agg ⟨cs⟩):=by rw[List.getElem?_append_right (by omega),hk];simp
 have fm:∀{F' k' r z' c},FM (Z.mem1 A F k) ((H.set A .dead).set F (.fam 0 (ms ++ [.agg ⟨cs⟩]))) F' k' r z' c ->
   (F'=F/\k'=k/\Z A=some r/\z'=0/\c=ms ++ [.agg ⟨cs⟩])∨(∃c',FM Z H F' k' r z' c'/\¬ (F'=F/\k'=k)/\(c=c'∨(F'=F/\c'=ms/\c=ms ++ [.agg ⟨cs⟩]/\z'=0))):=fun {F' k' r z' c} m=>by
  have hh:=m.h
  rcases gof m.g with ⟨rfl,rfl,h⟩|⟨e,h⟩
  ·rw[hgF]at hh;cases hh
   exact .inl ⟨rfl,rfl,h,rfl,rfl⟩
  ·right
   by_cases e2:F'=F
   ·subst e2
    rw[hgF]at hh;cases hh
    obtain ⟨rw1,h1,h1'⟩:=m.a rfl
    exact ⟨ms,⟨h,hF,fun _=>⟨rw1,by rw[<- hold h];exact h1,h1'⟩⟩,e,.inr ⟨rfl,rfl,rfl,rfl⟩⟩
   ·by_cases e3:F'=A
    ·subst e3;rw[hgA]at hh;cases hh
    ·rw[hgo F' e3 e2]at hh
     exact ⟨c,⟨h,hh,m.a⟩,e,.inl rfl⟩
 have hown:(ab.cells true z cs).owned=true:=rfl
 refine ⟨⟨hr.bsize,hr.dR,fun i x h=>by simpa using hr.dom i x h,hr.lt,fun i x o h1 h2 =>?_,fun i x o h1 h2 h3=>hr.base i x o h1 (back i o h2 (bh h3)).2 h3,
   fun i j x y o o' h1 h2 h3 h4 h5 h6 hn=>hr.sep i j x y o o' h1 h2 (back i o h3 (bh h5)).2 (back j o' h4 h6).2 h5 h6 hn,fun b m hm=>⟨(hr.mem b m hm).1,fun i x o h1 h2 h3=>(hr.mem b m hm).2 i x o h1 (back i o h2 (bh h3)).2 h3⟩,?_⟩,
  hle,fun i x a b=>(by have a:Z i=some x:=a;rw[b]at a;cases a),by simp,fun i h1 h2 =>?_,Nat.le_refl _,fun _ _ _=>rfl,fun b _ hob =>?_,rfl,rfl,rfl,fun _ _ h => .inl h,Nat.le_refl _,fun F' k' r a b =>?_⟩
 ·cases ha:o.alive with
  |true=>exact (hr.obj i x o h1 (back i o h2 ha).2).mono hle rfl
  |false=>cases o <;> first|trivial|simp[ab.alive]at ha
 ·refine ⟨fun F' k' r h =>?_,fun F' k' r h =>?_,fun F' k' r z' c m =>?_,fun F' k' r z' c m =>?_,fun F1 k1 r1 z1 c1 F2 k2 r2 z2 c2 m1 m2 e =>?_,fun F' k' r z' c id r2 o m h1 h2 h3 =>?_,fun F' k' r z' c b m2 m hb =>?_,fun F' k' r c g h =>?_⟩
  ·rcases gof h with ⟨rfl,_,_⟩|⟨_,h⟩
   ·simpa using hFl
   ·simpa using hr.fam.dom _ _ _ h
  ·rcases gof h with ⟨_,_,h⟩|⟨_,h⟩
   ·exact hr.lt _ _ h
   ·exact hr.fam.lt _ _ _ h
  ·rcases fm m with ⟨_,_,h,_⟩|⟨c',m',_⟩
   ·exact hr.base A r _ h hA hown
   ·exact hr.fam.base _ _ _ _ _ m'
  ·rcases fm m with ⟨rfl,rfl,h,rfl,rfl⟩|⟨c',m',e,hc'⟩
   ·obtain ⟨e1,e2,cs',ty,fz,hb,hn,hfz,hcs⟩:=hr.obj A r _ h hA
    obtain rfl:fz=(0,0):=hfz rfl
    have hlast:=hcs (cs.length-1) _ (List.getElem?_eq_getElem (by omega))
    obtain ⟨v',g1,_⟩:=hlast
    have hlt:=(Array.getElem?_eq_some_iff.1 g1).1
    refine ⟨cs',ty,hb,by simp,fun _=>⟨⟨hn.symm,e1.symm,by omega,by rw[h0',hz,e2]⟩,fun v hv => .inr ⟨_,by rw[hnew]at hv;exact (Option.some.inj hv).symm⟩,fun row hrow =>?_⟩,by omega,fun i v hi hv=>absurd hi (Nat.not_lt_zero _)⟩
    rw[hnew]at hrow;cases hrow
    refine ⟨by show r.s+cs.length<=_;omega,fun i v hv =>?_⟩
    obtain ⟨v',a1,a2⟩:=hcs i v (by simpa using hv)
    exact ⟨v',a1,a2.mono hle⟩
   ·have ob:=hr.fam.obj _ _ _ _ _ m'
    rcases hc' with rfl|⟨rfl,hc1,rfl,rfl⟩
    ·exact ob.mono hle rfl
    ·obtain ⟨cs',ty,a1,a2,a3,a4,a5⟩:=ob.mono hle rfl
     subst hc1
     have hkk:=hold m'.g
     exact ⟨cs',ty,a1,by simp,fun _=>⟨⟨(a3 rfl).1.1,(a3 rfl).1.2.1,(a3 rfl).1.2.2.1,by rw[h0'];exact (a3 rfl).1.2.2.2⟩,fun v h1=>(a3 rfl).2.1 v (by rw[<- hkk];exact h1),fun rw1 h1=>(a3 rfl).2.2 rw1 (by rw[<- hkk];exact h1)⟩,a4,fun i v hi _=>absurd hi (Nat.not_lt_zero _)⟩
  ·rcases fm m1 with ⟨rfl,rfl,g1,_⟩|⟨c1',m1',e1,_⟩
   ·rcases fm m2 with ⟨rfl,rfl,g2,_⟩|⟨c2',m2',e2,_⟩
    ·exact ⟨rfl,rfl⟩
    ·exact absurd e (hr.fam.sep2 _ _ _ _ _ A r1 _ m2' g1 hA rfl)
   ·rcases fm m2 with ⟨rfl,rfl,g2,_⟩|⟨c2',m2',e2,_⟩
    ·exact absurd e.symm (hr.fam.sep2 _ _ _ _ _ A r2 _ m1' g2 hA rfl)
    ·exact hr.fam.sep _ _ _ _ _ _ _ _ _ _ m1' m2' e
  ·obtain ⟨hid,ho⟩:=back id o h2 h3
   rcases fm m with ⟨_,_,g1,_⟩|⟨c',m',_⟩
   ·exact (hr.sep A id r r2 _ o g1 h1 hA ho hown h3 (Ne.symm hid)).symm
   ·exact hr.fam.sep2 _ _ _ _ _ id r2 o m' h1 ho h3
  ·rcases fm m with ⟨_,_,g1,_⟩|⟨c',m',_⟩
   ·exact (hr.mem b m2 hb).2 A r _ g1 hA hown
   ·exact hr.fam.mem _ _ _ _ _ b m2 m' hb
  ·by_cases e:F'=F
   ·subst e;rw[hgF]at h;cases h
    rcases gof g with ⟨_,rfl,_⟩|⟨_,q⟩
    ·simp;omega
    ·have:=hr.fam.cnt F' k' r ms q hF;simp;omega
   ·by_cases e2:F'=A
    ·subst e2;rw[hgA]at h;cases h
    ·rw[hgo F' e2 e]at h
     rcases gof g with ⟨q,_,_⟩|⟨_,q⟩
     ·exact absurd q e
     ·exact hr.fam.cnt F' k' r c q h
 ·by_cases e:i=A
  ·exact absurd (e ▸ hMA (e ▸ h1)) h2
  ·by_cases e2:i=F
   ·exact absurd (e2 ▸ hMF (e2 ▸ h1)) h2
   ·exact hgo i e e2
 ·rcases hob with ⟨i,x,o,k1,k2,k3,k4⟩|⟨F',k',x,z',c,m,e⟩
  ·exact .inl ⟨i,x,o,k1,(back i o k2 (bh k3)).2,k3,k4⟩
  ·rcases fm m with ⟨_,_,g1,_⟩|⟨c',m',_⟩
   ·exact .inl ⟨A,x,_,g1,hA,hown,e⟩
   ·exact .inr ⟨F',k',x,z',c',m',e⟩
 ·rcases gof a with ⟨rfl,_,_⟩|⟨_,h⟩
  ·rcases Nat.lt_or_ge F' base with hl|hl
   ·exact .inr (hMF hl)
   ·exact .inl hl
  ·rw[b]at h;cases h
def cd(n:Nat)(ms row:List Value):List Value:=match n with|0=>ms|_+1=>ms ++ [.agg ⟨row⟩]
theorem bO.give{base:Nat}{M:List Nat}{T:Tm}{H:Heap}{hd zh t F A k n z:Nat}{tag:Option Nat}{hs ms row:List Value}(ho:H[hd]?=some (.cells true zh hs))(hF:H[F]?=some (.fam 0 ms))(hA:H[A]?=some (.cells true z row))
    (hv:hs[t]?=some (.slice (some ⟨A,0,tag⟩) n n)) (htag:tag=some 1∨(tag=none/\0<n)) (hz:ms[0]?=some (.int .i64 (z:Int))) (h0:0<z) (hn:row.length=n*z) (hk:ms.length=k+1) (hMh:hd<base->hd∈M) (hMF:F<base->F∈M) (hMA:A<base->A∈M) (hAh:A≠hd) :
    bO P base M T H T (((H.set A ab.dead).set F (ab.fam 0 (cd n ms row))).set hd (ab.cells true zh (hs.set t (dp n F k)))):=by
  intro B Z w N tmps h1 h2 h3
  have hhl:hd<H.length:=(List.getElem?_eq_some_iff.1 ho).1
  have hne:hd≠F:=fun e=>by subst e;rw[ho]at hF;cases hF
  have hAF:A≠F:=fun e=>by subst e;rw[hA]at hF;cases hF
  have hget:∀X:List Value,((H.set A .dead).set F (.fam 0 X))[hd]?=some (.cells true zh hs):=fun X=>by
    rw[List.getElem?_set_ne (Ne.symm hne),List.getElem?_set_ne hAh];exact ho
  have pd:=Post.uE (base:=base) (M:=M) h1 hA rfl hMA
  cases n with
  | zero =>
    obtain rfl : tag = some 1 := by rcases htag with h | ⟨_, h⟩; · exact h
                                    · exact absurd h (Nat.lt_irrefl 0)
    have hF':(H.set A .dead)[F]?=some (.fam 0 ms):=by rw[List.getElem?_set_ne hAF];exact hF
    have p1:=Post.s5 (base:=base) (M:=M) (ms':=cd 0 ms row) pd.rel hF' (Nat.le_refl _) rfl (fun _ _ _=>rfl) hMF
    have p2:=Post.iZ (M:=M) (base:=base) p1.rel (t:=t) (v:=dp 0 F k) (hget _) (fun v0 e v' hh=>by
      rw[hv]at e;cases e
      cases hh with
      |ba=>exact .dc
      |bb=>exact .dc
      |bF _ hp=>exact absurd hp (Nat.lt_irrefl 0)) hMh
    exact ⟨_,pd.trans (p1.trans p2),h3⟩
  | succ n =>
    cases hq:Z A with
    | none =>
      have hF':(H.set A .dead)[F]?=some (.fam 0 ms):=by rw[List.getElem?_set_ne hAF];exact hF
      have p1:=Post.s5 (base:=base) (M:=M) (ms':=cd (n+1) ms row) pd.rel hF' (by simp[cd]) (by show (ms ++ [_])[0]?=_;exact List.getElem?_append_left (by omega)) (fun k' r' hk'=>by
        show (ms ++ [_])[k'+1]?=_
        exact List.getElem?_append_left (h1.fam.cnt F k' r' ms hk' hF)) hMF
      have p2:=Post.iZ (M:=M) (base:=base) p1.rel (t:=t) (v:=dp (n+1) F k) (hget _) (fun v0 e v' hh=>by
        rw[hv]at e;cases e
        rcases htag with rfl|⟨rfl,_⟩
        · cases hh with|bF h=>rw[hq]at h;cases h
        · cases hh with|slice h=>rw[hq]at h;cases h) hMh
      exact ⟨_,pd.trans (p1.trans p2),h3⟩
    | some rA =>
      have hrl:0<row.length:=by rw[hn];exact Nat.mul_pos (Nat.succ_pos _) h0
      have p1:=Post.give (base:=base) (M:=M) h1 hq hA hF hz h0 hrl hk hMA hMF
      obtain ⟨e1,e2,_⟩:=h1.obj A rA _ hq hA
      have hgg:(Z.mem1 A F k).g F k=some rA:=by
        show (if _ then _ else _)=_
        rw[if_pos ⟨rfl,rfl⟩];exact hq
      have p2:=Post.iZ (M:=M) (base:=base) p1.rel (t:=t) (v:=dp (n+1) F k) (hget _) (fun v0 e v' hh=>by
        rw[hv]at e;cases e
        rcases htag with rfl|⟨rfl,_⟩
        · cases hh with
          | bF h hp hl hc ho2 =>
            have h:Z A=some _:=h
            rw[hq]at h;cases h
            rw[Nat.zero_add]
            exact .fsl hgg (Nat.succ_pos _) hc rfl (by have:=ho2 e1.symm (by omega);omega)
        · cases hh with
          | slice h hl hc ho2 =>
            have h:Z A=some _:=h
            rw[hq]at h;cases h
            rw[Nat.zero_add]
            exact .fsl hgg (Nat.succ_pos _) hc rfl (by have:=ho2 e1.symm (by omega);omega)) hMh
      exact ⟨_,p1.trans p2,h3.mono (Ren.le_trans p1.ext p2.ext)⟩
end Go.K
