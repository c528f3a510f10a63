/- Blocks renamed: what a round of a loop has made may be named anew. No condition. -/
import Derived.Test.YtbgfjemppjhmjaaGreatGK16xV3
import Derived.Test.YtbgfjemppjhmjaaGreatGK12xK15
open Go Go.K
set_option linter.unusedVariables false
set_option linter.unusedSimpArgs false
namespace Go.K
noncomputable section
variable {P:Program}
def bad:Value:=.iface 0 .nilIface
theorem VR.bad{Y:Ren}{v':Value}(h:VR Y bad v'):False:=by cases h
def rn(σ:Nat->Option Nat):Nat->Value->Value
 |0,_=>bad
 |d+1,v=>match v with
  | .pointer (some ⟨id,off,none⟩)=>match σ id with|some id' => .pointer (some ⟨id',off,none⟩)|none=>bad
  | .pointer (some ⟨id,off,some (k+3)⟩)=>match σ id with|some id' => .pointer (some ⟨id',off,some (k+3)⟩)|none=>bad
  | .slice (some ⟨id,off,none⟩) len cap=>match σ id with|some id' => .slice (some ⟨id',off,none⟩) len cap|none=>bad
  | .slice (some ⟨id,off,some (k+1)⟩) len cap=>match σ id with
   |some id' => .slice (some ⟨id',off,some (k+1)⟩) len cap
   |none=>match len,cap with
    |0,0 => .slice (some ⟨0,0,some (k+1)⟩) 0 0
    |_,_=>bad
  | .map (some id)=>match σ id with|some id' => .map (some id')|none=>bad
  | .func (.yield l) ⟨[]⟩ ⟨[]⟩=>match σ l with|some l' => .func (.yield l') #[] #[]|none=>bad
  | .func (.func f) first cap => .func (.func f) ⟨first.toList.map (rn σ d)⟩ ⟨cap.toList.map (rn σ d)⟩
  | .func _ _ _=>bad
  | .agg cs => .agg ⟨cs.toList.map (rn σ d)⟩
  | .tuple vs => .tuple ⟨vs.toList.map (rn σ d)⟩
  | .iface k (.agg cs) => .iface k (.agg ⟨cs.toList.map (rn σ d)⟩)
  | .iface k (.tuple cs) => .iface k (.tuple ⟨cs.toList.map (rn σ d)⟩)
  | .iface k (.pointer (some ⟨id,off,some (j+3)⟩))=>match σ id with|some id' => .iface k (.pointer (some ⟨id',off,some (j+3)⟩))|none=>match k with|1 => .iface 1 (.pointer none)|_=>bad
  |v=>v
def rno(σ:Nat->Option Nat)(d:Nat):ab->ab
 | .cells own z cs => .cells own z (cs.map (rn σ d))
 | .map es => .map (es.map fun e=>(rn σ d e.1,rn σ d e.2))
 | .loop st pe tm N ps as bd => .dead
 | .iter m n s=>match σ m with|some m' => .iter m' n s|none => .dead
 | .fam z cs => .fam z (cs.map (rn σ d))
 | .dead => .dead
theorem eZ{Y ρ':Ren}{σ:Nat->Option Nat}{d:Nat}(ih:∀{v r:Value},VR ρ' (rn σ d v) r->VR Y v r){cs:Array Value}{r:Array Value}
  (h1:(⟨cs.toList.map (rn σ d)⟩:Array Value).size=r.size) (h2:∀(i:Nat) (v v':Value),(⟨cs.toList.map (rn σ d)⟩:Array Value)[i]?=some v->r[i]?=some v'->VR ρ' v v') :
  cs.size=r.size/\∀(i:Nat) (v v':Value),cs[i]?=some v->r[i]?=some v'->VR Y v v':=by
 refine ⟨by simpa using h1,fun i v v' a b=>ih (h2 i _ v' ?_ b)⟩
 have:(⟨cs.toList.map (rn σ d)⟩:Array Value)=cs.map (rn σ d):=Array.toList_inj.1 (by simp)
 rw[this,Array.getElem?_map,a];rfl
theorem i6{Y ρ':Ren}{σ:Nat->Option Nat}{d s:Nat}(ih:∀{v r:Value},VR ρ' (rn σ d v) r->VR Y v r){cs m:Array Value}
  (h1:(⟨cs.toList.map (rn σ d)⟩:Array Value).size=0∨(⟨cs.toList.map (rn σ d)⟩:Array Value).size+s<=m.size) (h2:∀(i:Nat) (v v':Value),(⟨cs.toList.map (rn σ d)⟩:Array Value)[i]?=some v->m[i+s]?=some v'->VR ρ' v v') :
  (cs.size=0∨cs.size+s<=m.size)/\∀(i:Nat) (v v':Value),cs[i]?=some v->m[i+s]?=some v'->VR Y v v':=by
 refine ⟨by simpa using h1,fun i v v' a b=>ih (h2 i _ v' ?_ b)⟩
 have:(⟨cs.toList.map (rn σ d)⟩:Array Value)=cs.map (rn σ d):=Array.toList_inj.1 (by simp)
 rw[this,Array.getElem?_map,a];rfl
theorem jx{Y ρ':Ren}{σ:Nat->Option Nat}(hσ:∀id id' r,σ id=some id'->ρ' id'=some r->Y id=some r)(hm:∀b m,ρ'.mem b=some m->Y.mem b=some m)(hg:∀F F' k r,σ F=some F'->ρ'.g F' k=some r->Y.g F k=some r):∀(d:Nat) {v r:Value},VR ρ' (rn σ d v) r->VR Y v r:=by
 intro d
 induction d with
 |zero=>intro v r h;exact (VR.bad h).elim
 |succ d ih =>
  intro v r h
  unfold rn at h
  split at h
  ·split at h
   ·rename_i g;cases h with|ptr k=>exact .ptr (hσ _ _ _ g k)
   ·exact (VR.bad h).elim
  ·split at h
   ·rename_i g;cases h with|fh k=>exact .fh (hg _ _ _ _ g k)
   ·exact (VR.bad h).elim
  ·split at h
   ·rename_i g
    cases h with
    |slice k hl hc ho=>exact .slice (hσ _ _ _ g k) hl hc ho
    |br k=>exact .br (hσ _ _ _ g k)
   ·exact (VR.bad h).elim
  ·split at h
   ·rename_i g
    cases h with
    |aY=>exact .aY
    |aX=>exact .aX
    |bz k hp hl hc ho=>exact .bz (hσ _ _ _ g k) hp hl hc ho
    |aS=>exact .aS
    |bp k hp hl hc ho=>exact .bp (hσ _ _ _ g k) hp hl hc ho
   ·split at h
    ·cases h with
     |aY=>exact .aY
     |aX=>exact .aX
     |bz k hp hl hc ho=>exact absurd hp (Nat.lt_irrefl 0)
     |aS=>exact .aS
     |bp k hp hl hc ho=>exact absurd hp (Nat.lt_irrefl 0)
    ·exact (VR.bad h).elim
  ·split at h
   ·rename_i g;cases h with|map k=>exact .map (hσ _ _ _ g k)
   ·exact (VR.bad h).elim
  ·split at h
   ·rename_i g;cases h with|yield k=>exact .yield (hσ _ _ _ g k)
   ·exact (VR.bad h).elim
  ·cases h with
   |func h1 h2 h3 h4 =>
    obtain ⟨a1,a2⟩:=eZ ih h1 h2
    obtain ⟨b1,b2⟩:=eZ ih h3 h4
    exact .func a1 a2 b1 b2
  ·exact (VR.bad h).elim
  ·cases h with|agg h1 h2=>obtain ⟨a1,a2⟩:=eZ ih h1 h2;exact .agg a1 a2
  ·cases h with|tuple h1 h2=>obtain ⟨a1,a2⟩:=eZ ih h1 h2;exact .tuple a1 a2
  ·cases h with
   |deep g1 g2 g3 g4 g5=>obtain ⟨a1,a2⟩:=i6 ih g4 g5;exact .deep (hm _ _ g1) g2 g3 a1 a2
   |cm=>exact .cm
  ·cases h with|cG g1 g2 g3=>obtain ⟨a1,a2⟩:=i6 ih g2 g3;exact .cG (hm _ _ g1) a1 a2
  ·split at h
   ·rename_i g
    cases h with
    |fsl k hp hc hs ho=>exact .fsl (hg _ _ _ _ g k) hp hc hs ho
    |dr=>exact .dr
   ·split at h
    ·cases h with|dr=>exact .dr
    ·exact (VR.bad h).elim
  ·rename_i n1 n1f n2 n2q n3 n4 n5 n6 n7 n8 n9 n10 n11
   cases h with
   |junk=>exact .junk _
   |bool b=>exact .bool b
   |int k n=>exact .int k n
   |float k n=>exact .float k n
   |string s=>exact .string s
   |cN=>exact .cN
   |ptr k=>exact absurd rfl (n1 _ _)
   |fh k=>exact absurd rfl (n1f _ _ _)
   |bq=>exact .bq
   |slice k hl hc ho=>exact absurd rfl (n2 _ _ _ _)
   |br k=>exact absurd rfl (n2 _ _ _ _)
   |cj=>exact .cj
   |aY=>exact .aY
   |aX=>exact .aX
   |bz=>exact absurd rfl (n2q _ _ _ _ _)
   |aS=>exact .aS
   |bp=>exact absurd rfl (n2q _ _ _ _ _)
   |cP=>exact .cP
   |map k=>exact absurd rfl (n3 _)
   |nilFunc=>exact .nilFunc
   |nilIface=>exact .nilIface
   |func h1 h2 h3 h4=>exact absurd rfl (n5 _ _ _)
   |yield k=>exact absurd rfl (n4 _)
   |agg h1 h2=>exact absurd rfl (n7 _)
   |tuple h1 h2=>exact absurd rfl (n8 _)
   |deep=>exact absurd rfl (n9 _ _)
   |cm=>exact absurd rfl (n9 _ _)
   |fsl=>exact absurd rfl (n11 _ _ _ _)
   |dr=>exact .dr
   |cG=>exact absurd rfl (n10 _ _)
theorem jb{Y ρ':Ren}{σ:Nat->Option Nat}(hσ:∀id id' r,σ id=some id'->ρ' id'=some r->Y id=some r)(hm:∀b m,ρ'.mem b=some m->Y.mem b=some m)(hg:∀F F' k r,σ F=some F'->ρ'.g F' k=some r->Y.g F k=some r){d:Nat}{r:RI}{o:ab}{w:World}(h:bh ρ' r (rno σ d o) w)(hl:rno σ d o = .dead->o = .dead):bh Y r o w:=by
 cases o with
 |cells own z cs =>
  obtain ⟨h1,h2,cs',ty,fz,h3,h4,h5,h6⟩:=h
  refine ⟨h1,h2,cs',ty,fz,h3,h4,h5,fun i v hv =>?_⟩
  obtain ⟨v',g1,g2⟩:=h6 i (rn σ d v) (by rw[List.getElem?_map,hv];rfl)
  exact ⟨v',g1,jx hσ hm hg d g2⟩
 |map es =>
  obtain ⟨h1,es',h2,h3,h4⟩:=h
  refine ⟨h1,es',h2,by simpa using h3,fun i k v hv =>?_⟩
  obtain ⟨e',g1,g2,g3⟩:=h4 i (rn σ d k) (rn σ d v) (by rw[List.getElem?_map,hv];rfl)
  exact ⟨e',g1,jx hσ hm hg d g2,jx hσ hm hg d g3⟩
 |loop st pe tm N ps as bd=>exact absurd (hl rfl) (by simp)
 |iter m n s =>
  simp only[rno]at h hl
  cases hs:σ m with
  |none=>rw[hs]at hl;exact absurd (hl rfl) (by simp)
  |some m' =>
   rw[hs]at h
   obtain ⟨h1,h0,rm,h2,h3⟩:=h
   exact ⟨h1,h0,rm,hσ _ _ _ hs h2,h3⟩
 |fam _ _=>trivial
 |dead=>trivial
def wk(a b:Value):Prop:=∀(Y:Ren) (x:Value),VR Y a x->VR Y b x
theorem aa(a:Value):wk a a:=fun _ _ h=>h
theorem bl{a b:Value}(h:a=b):wk a b:=by subst h;exact aa a
theorem ah(id o k:Nat)(hk:k=1∨k=2):wk (.slice none 0 0) (.slice (some ⟨id,o,some k⟩) 0 0):=by
 intro Y x h
 rcases hk with rfl|rfl <;> cases h
 ·exact .aY
 ·exact .aS
theorem L7(id o k:Nat)(hk:k=1∨k=2):wk (.slice (some ⟨0,0,some 0⟩) 0 0) (.slice (some ⟨id,o,some k⟩) 0 0):=by
 intro Y x h
 rcases hk with rfl|rfl <;> cases h
 ·exact .aX
 ·exact .aS
theorem Kv(id o id' o':Nat):wk (.slice (some ⟨id,o,some 1⟩) 0 0) (.slice (some ⟨id',o',some 1⟩) 0 0):=by
 intro Y x h
 cases h with
 |aY=>exact .aY
 |aX=>exact .aX
 |bz _ hp=>exact absurd hp (Nat.lt_irrefl 0)
theorem iq{id o l c:Nat}(hp:0<l):wk (.slice (some ⟨id,o,none⟩) l c) (.slice (some ⟨id,o,some 1⟩) l c):=by
 intro Y x h
 cases h with
 |slice h hl hc ho=>exact .bz h hp hl hc ho
 |br=>exact absurd hp (Nat.lt_irrefl 0)
theorem nR{id o l:Nat}:wk (.slice (some ⟨id,o,none⟩) l l) (.slice (some ⟨id,o,some 2⟩) l l):=by
 intro Y x h
 cases h with
 |slice h hl hc ho =>
  rcases Nat.eq_zero_or_pos l with rfl|hp
  ·exact .aS
  ·exact .bp h hp hl hc ho
 |br=>exact .aS
theorem dU{id o l:Nat}:wk (.slice (some ⟨id,o,some 1⟩) l l) (.slice (some ⟨id,o,some 2⟩) l l):=by
 intro Y x h
 cases h with
 |aY=>exact .aS
 |aX=>exact .aS
 |bz h hp hl hc ho=>exact .bp h hp hl hc ho
def wks:List Value->List Value->Prop
 | [],[] =>True
 |a :: r,b :: s=>wk a b/\wks r s
 |_,_=>False
theorem fX:∀{xs ys:List Value},wks xs ys->xs.length=ys.length/\∀(i:Nat) (a b:Value),xs[i]?=some a->ys[i]?=some b->wk a b
 | [],[],_=>⟨rfl,fun i a b h=>by simp at h⟩
 |a :: r,b :: s,h=>⟨by simp[(fX h.2).1],fun i x y hx hy=>by
   cases i with
   |zero=>simp at hx hy;subst hx;subst hy;exact h.1
   |succ i=>exact (fX h.2).2 i x y (by simpa using hx) (by simpa using hy)⟩
 | [],_ :: _,h=>h.elim
 |_ :: _,[],h=>h.elim
theorem b9{xs ys:List Value}(h:wks xs ys):wk (.agg ⟨xs⟩) (.agg ⟨ys⟩):=by
 obtain ⟨h1,h2⟩:=fX h
 intro Y x hx
 cases hx with
 | @agg cs cs' g1 g2 =>
  refine .agg (by simpa[<- h1] using g1) fun i v v' hv hv' =>?_
  have hi:i<xs.length:=by rw[h1];have:=(Array.getElem?_eq_some_iff.1 hv).1;simpa using this
  exact h2 i xs[i] v (List.getElem?_eq_getElem hi) (by simpa using hv) _ _ (g2 i _ v' (by simp[hi]) hv')
theorem ap{xs ys:List Value}(h:wks xs ys):wk (.tuple ⟨xs⟩) (.tuple ⟨ys⟩):=by
 obtain ⟨h1,h2⟩:=fX h
 intro Y x hx
 cases hx with
 | @tuple cs cs' g1 g2 =>
  refine .tuple (by simpa[<- h1] using g1) fun i v v' hv hv' =>?_
  have hi:i<xs.length:=by rw[h1];have:=(Array.getElem?_eq_some_iff.1 hv).1;simpa using this
  exact h2 i xs[i] v (List.getElem?_eq_getElem hi) (by simpa using hv) _ _ (g2 i _ v' (by simp[hi]) hv')
def kn(cs cs':List Value):Prop:=∀(k:IntKind) (n:Int),cs'[0]?=some (.int k n)->cs[0]?=some (.int k n)
theorem lO(cs:List Value):kn cs cs:=fun _ _ h=>h
theorem HY{σ:Nat->Option Nat}{d:Nat}{v:Value}{k:IntKind}{n:Int}(h:rn σ d v = .int k n):v = .int k n:=by
 cases d with
 |zero=>cases h
 |succ d =>
  unfold rn at h
  split at h <;> first|(cases h;done)|(split at h <;> first|(cases h;done)|(split at h <;> first|(cases h;done)|(split at h <;> cases h)))|exact h
theorem VR.wI{Y:Ren}{v:Value}(h:∀x,VR Y v x):v = .chan none:=by
 have h1:=h (.bool true)
 have h2:=h (.bool false)
 cases h1 with
 |junk=>rfl
 |bool=>cases h2
theorem yB.back{Y ρ':Ren}{r:RI}{k:Nat}{cs cs':List Value}{c2:Array Value}(h:yB ρ' r k cs' c2)(hl:kn cs cs')(hn:cs'.length=cs.length)(hv:∀(i:Nat) (v v':Value),cs[i]?=some v->cs'[i]?=some v'->∀x,VR ρ' v' x->VR Y v x):yB Y r k cs c2:=by
 have key:∀v,cs[k+1]?=some v->∃v',cs'[k+1]?=some v'/\((v' = .chan none/\v = .chan none)∨∃row',v' = .agg row'/\r.s+row'.size<=c2.size/\VR Y v (.agg (c2.extract r.s (r.s+row'.size)))):=fun v a=>by
  have hi:k+1<cs'.length:=by rw[hn];exact (List.getElem?_eq_some_iff.1 a).1
  have a':=List.getElem?_eq_getElem hi
  refine ⟨_,a',?_⟩
  rcases h.2.1 _ a' with e|⟨row',e⟩
  ·left
   refine ⟨e,VR.wI (Y:=Y) fun x=>hv _ _ _ a a' x ?_⟩
   rw[e];exact .junk x
  ·right
   rw[e]at a'
   obtain ⟨h1,h2⟩:=h.2.2 row' a'
   refine ⟨row',e,h1,hv _ _ _ a a' _ ?_⟩
   refine .agg (by simp;omega) (fun i v v' a b =>?_)
   obtain ⟨v2,e1,e2⟩:=h2 i v a
   have hi:=(Array.getElem?_eq_some_iff.1 a).1
   rw[Array.getElem?_extract]at b
   rw[if_pos (by omega),Nat.add_comm,e1]at b
   cases b;exact e2
 refine ⟨⟨h.1.1,h.1.2.1,h.1.2.2.1,hl _ _ h.1.2.2.2⟩,fun v a =>?_,fun row hr =>?_⟩
 ·obtain ⟨v',_,hh⟩:=key v a
  rcases hh with ⟨_,e⟩|⟨row',_,_,hy⟩
  ·exact .inl e
  ·cases hy with
   |junk=>exact .inl rfl
   |agg=>exact .inr ⟨_,rfl⟩
 ·obtain ⟨v',_,hh⟩:=key _ hr
  rcases hh with ⟨_,e⟩|⟨row',_,h1,hy⟩
  ·cases e
  ·cases hy with
   |agg g1 g2 =>
    have hsz:row.size=row'.size:=by rw[g1];simp;omega
    refine ⟨by omega,fun i v a =>?_⟩
    have hi:=(Array.getElem?_eq_some_iff.1 a).1
    have hc:i+r.s<c2.size:=by omega
    refine ⟨c2[i+r.s],Array.getElem?_eq_getElem hc,g2 i v _ a ?_⟩
    rw[Array.getElem?_extract,if_pos (by omega),Nat.add_comm]
    exact Array.getElem?_eq_getElem hc
def wkO(o o':ab):Prop:=o'.owned=o.owned/\o'.alive=o.alive/\(∀(Y:Ren) (r:RI) (w:World),bh Y r o w->bh Y r o' w) /\
 ∀z cs,o' = .fam z cs->∃cs0,o = .fam z cs0/\cs0.length=cs.length/\(∀(i:Nat) (v v':Value),cs0[i]?=some v->cs[i]?=some v'->wk v v')/\(z=0->kn cs cs0)
theorem Bz(o:ab):wkO o o:=⟨rfl,rfl,fun _ _ _ h=>h,fun z cs h=>⟨cs,h,rfl,fun i v v' a b=>(by rw[a]at b;cases b;exact aa _),fun _=>lO cs⟩⟩
theorem rx{o o':ab}(h:o=o'):wkO o o':=by subst h;exact Bz o
theorem aK{own:Bool}{z:Nat}{cs cs':List Value}(h:wks cs cs'):wkO (.cells own z cs) (.cells own z cs'):=by
 obtain ⟨h1,h2⟩:=fX h
 refine ⟨rfl,rfl,fun Y r w ho =>?_,fun _ _ h=>by cases h⟩
 obtain ⟨k1,k2,cs2,ty,fz,k3,k4,k5,k6⟩:=ho
 refine ⟨k1,k2,cs2,ty,fz,k3,k4,k5,fun i x hx =>?_⟩
 have hi:i<cs.length:=by rw[h1];exact (List.getElem?_eq_some_iff.1 hx).1
 obtain ⟨x',y1,y2⟩:=k6 i _ (List.getElem?_eq_getElem hi)
 exact ⟨x',y1,h2 i _ x (List.getElem?_eq_getElem hi) hx _ _ y2⟩
def bW(ρ':Ren)(σ:Nat->Option Nat):Ren:=⟨fun id=>(σ id).bind ρ'.f,ρ'.mem,fun F k=>(σ F).bind fun F'=>ρ'.g F' k⟩
theorem qF{Y ρ':Ren}{n:Nat}(hle:∀id r,id<n->ρ' id=some r->Y id=some r)(hm:∀b m,ρ'.mem b=some m->Y.mem b=some m){r:RI}{o:ab}{w:World}(hb:aj n o=true)(h:bh ρ' r o w):bh Y r o w:=by
 cases o with
 |cells own z cs =>
  obtain ⟨k1,k2,cs',ty,fz,k3,k4,k5,k6⟩:=h
  simp only[aj,List.all_eq_true]at hb
  exact ⟨k1,k2,cs',ty,fz,k3,k4,k5,fun i x hx=>let ⟨x',y1,y2⟩:=k6 i x hx; ⟨x',y1,bc hle hm (hb x (List.mem_of_getElem? hx)) y2⟩⟩
 |fam _ _=>trivial
 |dead=>trivial
 |map es =>
  obtain ⟨k1,es',k2,k3,k4⟩:=h
  simp only[aj,List.all_eq_true,Bool.and_eq_true]at hb
  exact ⟨k1,es',k2,k3,fun i k x hx=>let ⟨e',y1,y2,y3⟩:=k4 i k x hx;let q:=hb _ (List.mem_of_getElem? hx); ⟨e',y1,fR hle hm q.1 y2,fR hle hm q.2 y3⟩⟩
 |iter m n s =>
  obtain ⟨k1,k0,rm,k2,k3⟩:=h
  exact ⟨k1,k0,rm,hle _ _ (av hb) k2,k3⟩
 |loop _ _ _ _ _ _ _=>simp[aj]at hb
theorem bh.back{Y ρ' ρ2:Ren}(hle:Ren.le Y ρ')(hf:∀id r,Y id=some r->ρ2 id=some r)(hm:∀b m,ρ'.mem b=some m->ρ2.mem b=some m)(hg:∀F k r,Y.g F k=some r->ρ2.g F k=some r){r:RI}{o:ab}{w w':World}(h:bh Y r o w)(h':bh ρ' r o w'):bh ρ2 r o w':=by
 cases o with
 |cells own z cs =>
  obtain ⟨k1,k2,cs',ty,fz,k3,k4,k5,k6⟩:=h'
  obtain ⟨_,_,cs2,_,_,_,_,_,j6⟩:=h
  exact ⟨k1,k2,cs',ty,fz,k3,k4,k5,fun i x hx=>let ⟨x',y1,y2⟩:=k6 i x hx;let ⟨x2,_,z2⟩:=j6 i x hx; ⟨x',y1,z2.down hle hf hm hg y2⟩⟩
 |fam _ _=>trivial
 |dead=>trivial
 |map es =>
  obtain ⟨k1,es',k2,k3,k4⟩:=h'
  obtain ⟨_,es2,_,_,j4⟩:=h
  exact ⟨k1,es',k2,k3,fun i k x hx=>let ⟨e',y1,y2,y3⟩:=k4 i k x hx;let ⟨_,_,z2,z3⟩:=j4 i k x hx; ⟨e',y1,z2.down hle hf hm hg y2,z3.down hle hf hm hg y3⟩⟩
 |iter m n s =>
  obtain ⟨k1,k0,rm,k2,k3⟩:=h'
  obtain ⟨_,_,rm2,j2,_⟩:=h
  have:=hle _ _ j2
  rw[k2]at this
  cases this
  exact ⟨k1,k0,rm,hf _ _ j2,k3⟩
 |loop st pe tm N ps asg bd =>
  obtain ⟨k1,l,k2,k3,k4,k5,k6,k7,k8,k9⟩:=h'
  obtain ⟨_,l2,_,_,_,_,_,_,_,j9⟩:=h
  exact ⟨k1,l,k2,k3,k4,k5,k6,k7,k8,fun t ht=>(j9 t ht).down hle hf hm hg (k9 t ht)⟩
theorem rN(σ:Nat->Option Nat)(d:Nat)(o:ab)(h:rno σ d o = .dead->o = .dead):(rno σ d o).owned=o.owned/\(rno σ d o).alive=o.alive:=by
 cases o with
 |loop _ _ _ _ _ _ _=>exact absurd (h rfl) (by simp)
 |iter m n s =>
  simp only[rno]at h ⊢
  cases hs:σ m with
  |none=>rw[hs]at h;exact absurd (h rfl) (by simp)
  |some m'=>exact ⟨rfl,rfl⟩
 |_=>exact ⟨rfl,rfl⟩
def ab.Cq:ab->Bool
 | .dead=>false
 |_=>true
theorem vl{o:ab}(h:o.alive=true):o.Cq=true:=by cases o <;> first|rfl|cases h
structure qK(σ:Nat->Option Nat)(Y ρ':Ren):Prop where
 f:∀id id' r,σ id=some id'->ρ' id'=some r->Y id=some r
 m:∀b m,ρ'.mem b=some m->Y.mem b=some m
 g:∀F F' k r,σ F=some F'->ρ'.g F' k=some r->Y.g F k=some r
structure Emb(H0:Heap)(ML:List Nat)(N:Nat)(σ:Nat->Option Nat)(d:Nat)(T:Tm)(H:Heap)(T':Tm)(H':Heap):Prop where
 len:H0.length<=H.length
 old:∀id,id<H0.length->σ id=some id
 dom:∀id id',σ id=some id'->id<H.length
 inj:∀id1 id2 id' o1 o2,σ id1=some id'->σ id2=some id'->H[id1]?=some o1->H[id2]?=some o2->o1.Cq=true->o2.Cq=true->id1=id2
 slots:∀t,t<N->T t=junk∨wk (T' t) (rn σ d (T t))
 same:∀id,id<H0.length->id ∉ ML->H[id]?=H0[id]?
 obj:∀id id' o,σ id=some id'->(H0.length<=id∨id∈ML)->H[id]?=some o->(o = .dead∨(∃o',H'[id']?=some o'/\o'.owned=o.owned/\o'.alive=o.alive /\
  (∀(Y ρ':Ren) (r:RI) (w:World),qK σ Y ρ'->bh ρ' r o' w->bh Y r o w) /\
  (∀z cs,o = .fam z cs->∃cs',o' = .fam z cs'/\cs'.length=cs.length/\(∀(i:Nat) (v v':Value),cs[i]?=some v->cs'[i]?=some v'->∀(Y ρ':Ren) (x:Value),qK σ Y ρ'->VR ρ' v' x->VR Y v x)/\(z=0->kn cs cs'))))
theorem Emb.post{B:Nat}{ML:List Nat}{N:Nat}{σ:Nat->Option Nat}{d:Nat}{ρ0 ρ':Ren}{H0 H H':Heap}{w0 w':World}{T T':Tm}(e:Emb H0 ML N σ d T H T' H')(h0:Rel P B ρ0 H0 w0)
  (p:Post P B H0.length ML ρ0 H0 w0 ρ' H' w'):Post P B H0.length ML ρ0 H0 w0 (bW ρ' σ) H w'/\∀tmps,TR ρ' N T' tmps->TR (bW ρ' σ) N T tmps:=by
 have hun:=p.same
 have hσ:∀id id' r,σ id=some id'->ρ' id'=some r->bW ρ' σ id=some r:=by
  intro id id' r h1 h2;show Option.bind _ _=_;rw[h1];exact h2
 have hm:∀b m,ρ'.mem b=some m->(bW ρ' σ).mem b=some m:=fun _ _ h=>h
 have hg:∀F F' k r,σ F=some F'->ρ'.g F' k=some r->(bW ρ' σ).g F k=some r:=by
  intro F F' k r h1 h2;show Option.bind _ _=_;rw[h1];exact h2
 have hle:qK σ (bW ρ' σ) ρ':=⟨hσ,hm,hg⟩
 have hsome:∀{id r},bW ρ' σ id=some r->∃id',σ id=some id'/\ρ' id'=some r:=fun h=>Option.bind_eq_some_iff.1 h
 have dH:∀{F k r},(bW ρ' σ).g F k=some r->∃F',σ F=some F'/\ρ'.g F' k=some r:=fun h=>Option.bind_eq_some_iff.1 h
 have hext:Ren.le ρ0 (bW ρ' σ):=⟨fun id r h=>hσ id id r (e.old id (h0.dom _ _ h)) (p.ext _ _ h),p.ext.mem,fun F k r h=>hg F F k r (e.old F (h0.fam.dom _ _ _ h)) (p.ext.g _ _ _ h)⟩
 have hcase:∀id id' o,σ id=some id'->H[id]?=some o->(o = .dead∨(∃o',H'[id']?=some o'/\o'.owned=o.owned/\o'.alive=o.alive/\(∀r,ρ' id'=some r->bh ρ' r o' w'->bh (bW ρ' σ) r o w'))):=by
  intro id id' o h1 h2
  by_cases hc:H0.length<=id∨id∈ML
  ·rcases e.obj id id' o h1 hc h2 with h|⟨o',g1,g2,g3,g4,_⟩
   ·exact .inl h
   ·exact .inr ⟨o',g1,g2,g3,fun r _ hr=>g4 _ _ r w' hle hr⟩
  ·have hl:id<H0.length:=by
    rcases Nat.lt_or_ge id H0.length with h|h
    ·exact h
    ·exact absurd (.inl h) hc
   have hM:id ∉ ML:=fun h=>hc (.inr h)
   rw[e.old id hl]at h1
   cases h1
   have h3:=e.same id hl hM
   refine .inr ⟨o,by rw[hun id hl hM,<- h3];exact h2,rfl,rfl,fun r k2 hro =>?_⟩
   have g5:H0[id]?=some o:=by rw[<- h3];exact h2
   have hr0:ρ0 id=some r:=by
    cases hq:ρ0 id with
    |none=>exact absurd (p.new _ _ k2 hq) (by omega)
    |some r0=>have:=p.ext _ _ hq;rw[k2]at this;exact this.symm
   exact bh.back p.ext hext.f hm hext.g (h0.obj _ _ _ hr0 g5) hro
 have hfm:∀{F k r z cs},FM (bW ρ' σ) H F k r z cs->∃F' cs',σ F=some F'/\FM ρ' H' F' k r z cs'/\yC (bW ρ' σ) r k z cs w':=by
  intro F k r z cs m
  obtain ⟨F',k1,k2⟩:=dH m.g
  by_cases hc:H0.length<=F∨F∈ML
  ·rcases e.obj F F' _ k1 hc m.h with h|⟨o',g1,_,_,_,g5⟩
   ·cases h
   ·obtain ⟨cs',rfl,hl,hv,htab⟩:=g5 z cs rfl
    have m':FM ρ' H' F' k r z cs':=⟨k2,g1,fun e=>by
     obtain ⟨v,hv1,hv2⟩:=m.a e
     have hi:k+1<cs'.length:=by rw[hl];exact (List.getElem?_eq_some_iff.1 hv1).1
     refine ⟨_,List.getElem?_eq_getElem hi,fun e2=>hv2 (VR.wI (Y:=bW ρ' σ) fun x=>hv _ _ _ hv1 (List.getElem?_eq_getElem hi) _ _ x hle ?_)⟩
     rw[e2];exact .junk x⟩
    obtain ⟨c2,ty,a1,a2,a3,a4,a5⟩:=p.rel.fam.obj _ _ _ _ _ m'
    refine ⟨F',cs',k1,m',c2,ty,a1,by rw[<- hl];exact a2,fun e=>(a3 e).back (htab e) hl (fun i v v' q1 q2 x=>hv i v v' q1 q2 _ _ x hle),a4,fun i v hi hv2 =>?_⟩
    have hlt:k*z+i<cs'.length:=by rw[hl];exact (List.getElem?_eq_some_iff.1 hv2).1
    obtain ⟨v',b1,b2⟩:=a5 i _ hi (List.getElem?_eq_getElem hlt)
    exact ⟨v',b1,hv _ v _ hv2 (List.getElem?_eq_getElem hlt) _ _ _ hle b2⟩
  ·have hl:F<H0.length:=by
    rcases Nat.lt_or_ge F H0.length with h|h
    ·exact h
    ·exact absurd (.inl h) hc
   have hM:F ∉ ML:=fun h=>hc (.inr h)
   rw[e.old F hl]at k1
   cases k1
   have h3:=e.same F hl hM
   have g5:H0[F]?=some (.fam z cs):=by rw[<- h3];exact m.h
   have m':FM ρ' H' F k r z cs:=⟨k2,by rw[hun F hl hM];exact g5,m.a⟩
   have hr0:ρ0.g F k=some r:=by
    cases hq:ρ0.g F k with
    |none =>
     rcases p.lV _ _ _ k2 hq with h|h
     ·omega
     ·exact absurd h hM
    |some r0=>have:=p.ext.g _ _ _ hq;rw[k2]at this;exact this.symm
   obtain ⟨_,_,_,_,j3,_,j5⟩:=h0.fam.obj F k r z cs ⟨hr0,g5,m.a⟩
   obtain ⟨c2,ty,a1,a2,a3,a4,a5⟩:=p.rel.fam.obj _ _ _ _ _ m'
   refine ⟨F,cs,e.old F hl,m',c2,ty,a1,a2,fun e0=>⟨(a3 e0).1,(a3 e0).2.1,fun row hrow=>⟨((a3 e0).2.2 row hrow).1,fun i v hv2 =>?_⟩⟩,a4,fun i v hi hv2 =>?_⟩
   ·obtain ⟨v',b1,b2⟩:=((a3 e0).2.2 row hrow).2 i v hv2
    obtain ⟨_,_,z2⟩:=((j3 e0).2.2 row hrow).2 i v hv2
    exact ⟨v',b1,z2.down p.ext hext.f hm hext.g b2⟩
   obtain ⟨v',b1,b2⟩:=a5 i v hi hv2
   obtain ⟨_,_,z2⟩:=j5 i v hi hv2
   exact ⟨v',b1,z2.down p.ext hext.f hm hext.g b2⟩
 have hown:∀id id' o,σ id=some id'->H[id]?=some o->o.alive=true->∃o',H'[id']?=some o'/\o'.owned=o.owned/\o'.alive=true:=by
  intro id id' o h1 h2 h3
  rcases hcase id id' o h1 h2 with rfl|⟨o',g1,g2,g3,_⟩
  ·cases h3
  ·exact ⟨o',g1,g2,g3.trans h3⟩
 have hoa:∀o:ab,o.owned=true->o.alive=true:=by intro o ho;cases o <;> first|rfl|cases ho
 have hrel:Rel P B (bW ρ' σ) H w':=by
  refine ⟨p.rel.bsize,fun g hg =>?_,fun id r h =>?_,fun id r h =>?_,fun id r o h1 h2 =>?_,fun id r o h1 h2 h3 =>?_,fun id1 id2 r1 r2 o1 o2 h1 h2 g1 g2 k1 k2 hne =>?_,fun b m hb=>⟨(p.rel.mem b m hb).1,fun id r o h1 h2 h3 =>?_⟩,?_⟩
  ·obtain ⟨r,k1,k2,k3⟩:=h0.dS g hg
   exact ⟨r,hext _ _ k1,k2,k3⟩
  ·obtain ⟨id',h1,_⟩:=hsome h;exact e.dom _ _ h1
  ·obtain ⟨id',h1,h2⟩:=hsome h;exact p.rel.lt _ _ h2
  ·obtain ⟨id',k1,k2⟩:=hsome h1
   rcases hcase id id' o k1 h2 with rfl|⟨o',g1,_,_,g4⟩
   ·trivial
   ·exact g4 r k2 (p.rel.obj _ _ _ k2 g1)
  ·obtain ⟨id',k1,k2⟩:=hsome h1
   obtain ⟨o',g1,g2,_⟩:=hown id id' o k1 h2 (hoa o h3)
   exact p.rel.base id' r o' k2 g1 (by rw[g2];exact h3)
  ·obtain ⟨i1,a1,a2⟩:=hsome h1
   obtain ⟨i2,b1,b2⟩:=hsome h2
   obtain ⟨o1',c1,c2,_⟩:=hown id1 i1 o1 a1 g1 (hoa _ k1)
   obtain ⟨o2',d1,_,d3⟩:=hown id2 i2 o2 b1 g2 k2
   exact p.rel.sep i1 i2 r1 r2 o1' o2' a2 b2 c1 d1 (by rw[c2];exact k1) d3 (fun he=>hne (e.inj _ _ _ _ _ a1 (he ▸ b1) g1 g2 (vl (hoa _ k1)) (vl k2)))
  ·obtain ⟨id',k1,k2⟩:=hsome h1
   obtain ⟨o',g1,g2,_⟩:=hown id id' o k1 h2 (hoa o h3)
   exact (p.rel.mem b m hb).2 id' r o' k2 g1 (by rw[g2];exact h3)
  ·refine ⟨fun F k r h =>?_,fun F k r h =>?_,fun F k r z cs m =>?_,fun F k r z cs m =>?_,fun F1 k1 r1 z1 c1 F2 k2 r2 z2 c2 m1 m2 he =>?_,fun F k r z cs id r2 o m h1 h2 h3 =>?_,fun F k r z cs b mm m hb =>?_,fun F k r cs h h2 =>?_⟩
   ·obtain ⟨F',h1,_⟩:=dH h;exact e.dom _ _ h1
   ·obtain ⟨F',_,h2⟩:=dH h;exact p.rel.fam.lt _ _ _ h2
   ·obtain ⟨F',cs',_,m',_⟩:=hfm m;exact p.rel.fam.base _ _ _ _ _ m'
   ·obtain ⟨F',cs',_,_,h⟩:=hfm m;exact h
   ·obtain ⟨F1',c1',s1,m1',_⟩:=hfm m1
    obtain ⟨F2',c2',s2,m2',_⟩:=hfm m2
    obtain ⟨rfl,rfl⟩:=p.rel.fam.sep _ _ _ _ _ _ _ _ _ _ m1' m2' he
    exact ⟨e.inj _ _ _ _ _ s1 s2 m1.h m2.h rfl rfl,rfl⟩
   ·obtain ⟨F',cs',_,m',_⟩:=hfm m
    obtain ⟨id',k1,k2⟩:=hsome h1
    obtain ⟨o',g1,_,g3⟩:=hown id id' o k1 h2 h3
    exact p.rel.fam.sep2 _ _ _ _ _ id' r2 o' m' k2 g1 g3
   ·obtain ⟨F',cs',_,m',_⟩:=hfm m;exact p.rel.fam.mem _ _ _ _ _ b mm m' hb
   ·obtain ⟨F',k1,k2⟩:=dH h
    by_cases hc:H0.length<=F∨F∈ML
    ·rcases e.obj F F' _ k1 hc h2 with h|⟨o',g1,_,_,_,g5⟩
     ·cases h
     ·obtain ⟨cs',rfl,hl,_⟩:=g5 0 cs rfl
      rw[<- hl];exact p.rel.fam.cnt F' k r cs' k2 g1
    ·have hl:F<H0.length:=by
      rcases Nat.lt_or_ge F H0.length with h|h
      ·exact h
      ·exact absurd (.inl h) hc
     have hM:F ∉ ML:=fun h=>hc (.inr h)
     rw[e.old F hl]at k1
     cases k1
     exact p.rel.fam.cnt F k r cs k2 (by rw[hun F hl hM,<- e.same F hl hM];exact h2)
 refine ⟨⟨hrel,hext,fun id r h1 h2 =>?_,e.len,fun id h1 h2 =>?_,p.size,p.keep,fun b h1 h2 =>?_,p.os,p.tape,p.output,p.frz,p.drawn,fun F k r h1 h2 =>?_⟩,fun tmps ht=>⟨ht.1,fun t hlt =>?_⟩⟩
 ·rcases Nat.lt_or_ge id H0.length with hl|hl
  ·obtain ⟨id',k1,k2⟩:=hsome h1
   rw[e.old id hl]at k1
   cases k1
   exact p.new id r k2 h2
  ·exact hl
 ·exact e.same id h1 h2
 ·rcases h2 with ⟨id,r,o,k1,k2,k3,k4⟩|⟨F,k,r,z,cs,m,he⟩
  ·obtain ⟨id',a1,a2⟩:=hsome k1
   obtain ⟨o',c1,c2,_⟩:=hown id id' o a1 k2 (hoa _ k3)
   exact p.ob b h1 (.inl ⟨id',r,o',a2,c1,by rw[c2];exact k3,k4⟩)
  ·obtain ⟨F',cs',_,m',_⟩:=hfm m
   exact p.ob b h1 (.inr ⟨F',k,r,z,cs',m',he⟩)
 ·rcases Nat.lt_or_ge F H0.length with hl|hl
  ·obtain ⟨F',k1,k2⟩:=dH h1
   rw[e.old F hl]at k1
   cases k1
   exact p.lV F k r k2 h2
  ·exact .inl hl
 ·have:=ht.2 t hlt
  rcases e.slots t hlt with h|h
  ·rw[h];exact .junk _
  ·exact jx hσ hm hg d (h _ _ this)
theorem KW.KT{ro:Option Nat}{N base:Nat}{M ML:List Nat}{c:Code}{T:Tm}{H:Heap}{Q:Exit->Tm->Heap->Prop}(hML:∀id∈ML,id<base->id∈M)(I:Nat->Tm->Heap->Prop)
  (h0:∃n σ d T1 H1,I n T1 H1/\Emb H ML N σ d T1 H1 T H)
  (hI:∀n T1 H1,I n T1 H1->∀id,id<H.length->id ∉ ML->H1[id]?=H[id]?)
  (round:∀n T1 H1,H.length<=H1.length->I n T1 H1->KW P ro N H.length ML c T1 H1 (rA (fun T2 H2 => ∃k σ d T3 H3,k<n/\I k T3 H3/\Emb H ML N σ d T3 H3 T2 H2) Q)):KW P ro N base M (.loop c) T H Q:=by
 intro B Y w a n0 h1 h2 h3 h4 h5
 have key:∀(m:Nat) (n:Nat) (ρ':Ren) (T':Tm) (H':Heap) (w':World) (a':Act),n<m->Post P B H.length ML Y H w ρ' H' w'->TR ρ' N T' a'.tmps->DOK n0 a'.defers w'->I n T' H' ->
   Code.roundsIn (Fw ro) 0 P c (fun e a' w' => ∃ρ' T' H',Post P B base M Y H w ρ' H' w'/\TR ρ' N T' a'.tmps/\DOK n0 a'.defers w'/\Q e T' H') m a' w':=by
  intro m
  induction m with
  |zero=>intro n _ _ _ _ _ hlt;omega
  |succ m ih =>
   intro n ρ' T' H' w' a' hlt hp hT hD hIn
   rw[roundsIn_succ]
   refine wpIn_mono (round n T' H' hp.len hIn B ρ' w' a' n0 hp.rel hp.len hT (Nat.le_trans h4 hp.size) hD) ?_
   rintro e a2 w2 ⟨ρ2,T2,H2,k1,k2,k3,k4⟩
   cases e with
   |normal =>
    obtain ⟨k,σ,d,T3,H3,hk,hI3,he⟩:=k4
    obtain ⟨q1,q2⟩:=he.post h1 (hp.trans k1)
    exact ih k _ T3 H3 w2 a2 (by omega) q1 (q2 _ k2) k3 hI3
   |_=>exact ⟨ρ2,T2,H2,(hp.trans k1).weaken h2 (fun id hid hb=>hML id hid hb),k2,k3,k4⟩
 obtain ⟨n,σ,d,T1,H1,hIn,he⟩:=h0
 obtain ⟨q1,q2⟩:=he.post h1 (Post.refl h1)
 exact wpIn_loop_rounds (n+1) (key (n+1) n _ T1 H1 w a (by omega) q1 (q2 _ h3) h5 hIn)
theorem gS{H:Heap}(gs:List ab){id:Nat}(h:id<H.length):(H++gs)[id]?=H[id]? := List.getElem?_append_left h
theorem Rel.ghost{B:Nat}{Y:Ren}{H:Heap}{w:World}(h:Rel P B Y H w)(gs:List ab):Rel P B Y (H++gs) w:=by
 have g:∀{id r},Y id=some r->(H++gs)[id]?=H[id]? := fun a=>gS gs (h.dom _ _ a)
 refine ⟨h.bsize,h.dS,fun id r a=>by have:=h.dom id r a;rw[ao];omega,h.lt,fun id r o a b=>h.obj id r o a (by rw[<- g a];exact b),fun id r o a b=>h.base id r o a (by rw[<- g a];exact b),
  fun i j x y o o' a b c d=>h.sep i j x y o o' a b (by rw[<- g a];exact c) (by rw[<- g b];exact d),fun b m hb=>⟨(h.mem b m hb).1,fun id r o a c=>(h.mem b m hb).2 id r o a (by rw[<- g a];exact c)⟩,
  h.fam.keep (Ren.le_refl _) (fun _ _ _ h=>h) (fun F z cs hF h=>by rw[List.getElem?_append_left hF]at h;exact h) (by simp) (Nat.le_refl _) (fun _ _=>rfl) (fun id r o a b c=>h.fam.free a (by rw[<- g a];exact b) c) (fun b m k=>h.fam.fK k)⟩
theorem OB.ghost{B:Nat}{Y:Ren}{H:Heap}{w:World}(h:Rel P B Y H w)(gs:List ab)(b:Nat):OB Y (H++gs) b ↔ OB Y H b:=by
 have g:∀{id r},Y id=some r->(H++gs)[id]?=H[id]? := fun a=>gS gs (h.dom _ _ a)
 constructor
 ·rintro (⟨id,r,o,a,b,c⟩|⟨F,k,r,z,cs,m,e⟩)
  ·exact .inl ⟨id,r,o,a,by rw[<- g a];exact b,c⟩
  ·exact .inr ⟨F,k,r,z,cs,⟨m.g,by have:=m.h;rw[gS gs (h.fam.dom F k r m.g)]at this;exact this,m.a⟩,e⟩
 ·rintro (⟨id,r,o,a,b,c⟩|⟨F,k,r,z,cs,m,e⟩)
  ·exact .inl ⟨id,r,o,a,by rw[g a];exact b,c⟩
  ·exact .inr ⟨F,k,r,z,cs,⟨m.g,by rw[gS gs (h.fam.dom F k r m.g)];exact m.h,m.a⟩,e⟩
theorem Post.ghost{B base:Nat}{M:List Nat}{Y ρ':Ren}{H H':Heap}{w w':World}(p:Post P B base M Y H w ρ' H' w')(hb:base<=H.length)(gs:List ab):Post P B base M Y H w ρ' (H'++gs) w' :=
 { p with
  rel:=p.rel.ghost gs
  len:=by have:=p.len;rw[ao];omega
  same:=fun id h1 h2=>by rw[gS gs (by have:=p.len;omega)];exact p.same id h1 h2
  ob:=fun b h1 h2=>p.ob b h1 ((OB.ghost p.rel gs b).1 h2) }
theorem Post.EM{B:Nat}{M:List Nat}{Y ρ':Ren}{H H':Heap}{w w':World}{gs:List ab}(h0:Rel P B Y H w)(p:Post P B (H++gs).length M Y (H++gs) w ρ' H' w'):Post P B H.length M Y H w ρ' H' w' :=
 { p with
  new:=fun id r a b=>by have:=p.new id r a b;rw[ao]at this;omega
  len:=by have:=p.len;rw[ao]at this;omega
  same:=fun id h1 h2=>by rw[p.same id (by rw[ao];omega) h2,gS gs h1]
  keep:=fun b h1 h2=>p.keep b h1 (fun h=>h2 ((OB.ghost h0 gs b).1 h))
  ob:=fun b h1 h2=>(OB.ghost h0 gs b).1 (p.ob b h1 h2)
  frz:=fun b m hb=>(p.frz b m hb).imp id fun h=>h.imp id (OB.ghost h0 gs b).1
  lV:=fun F k r a b=>(p.lV F k r a b).imp (fun h=>by rw[ao]at h;omega) id }
theorem ad.weak{f:FuncId}{args:List Value}{H:Heap}{M:List Nat}{Q Q':Value->Heap->Prop}(h:ad P f args H M Q)
  (hq:∀v H',Q v H'->∃v2 gs,wk v v2/\Q' v2 (H'++gs)):ad P f args H M Q':=by
 refine ⟨h.1,fun B Y w args' hr ha=>(h.2 B Y w args' hr ha).mono ?_⟩
 rintro e w' ⟨v,v',ρ',H',rfl,hv,hp,hQ⟩
 obtain ⟨v2,gs,k1,k2⟩:=hq v H' hQ
 exact ⟨v2,v',ρ',H'++gs,rfl,k1 _ _ hv,hp.ghost (Nat.le_refl _) gs,k2⟩
theorem ad.uJ{f:FuncId}{args args2:List Value}{H:Heap}{M:List Nat}{Q:Value->Heap->Prop}(gs:List ab)(h:ad P f args2 (H++gs) M Q)
  (hl:args.length=args2.length) (ha:∀(i:Nat) (a b:Value),args[i]?=some a->args2[i]?=some b->wk a b):ad P f args H M Q:=by
 refine ⟨h.1,fun B Y w args' hr hv=>(h.2 B Y w args' (hr.ghost gs) ⟨hl.symm.trans hv.1,fun i b v' h1 h2 =>?_⟩).mono ?_⟩
 ·have hi:i<args.length:=by rw[hl];exact (List.getElem?_eq_some_iff.1 h1).1
  exact ha i _ b (List.getElem?_eq_getElem hi) h1 _ _ (hv.2 i _ v' (List.getElem?_eq_getElem hi) h2)
 ·rintro e w' ⟨v,v',ρ',H',rfl,h1,hp,hQ⟩
  exact ⟨v,v',ρ',H',rfl,h1,hp.EM hr,hQ⟩
end
end Go.K
namespace Go.K
variable {P:Program}
def Ren.frz(Y:Ren)(b:Nat)(m:Array Value):Ren:=⟨Y.f,fun x=>if x=b then some m else Y.mem x,Y.g⟩
theorem Post.MK{B base:Nat}{M:List Nat}{Y:Ren}{H:Heap}{w:World}(hr:Rel P B Y H w){id z:Nat}{r:RI}{cs:List Value}{m:Array Value}{ty:TypeId}{fz:Nat×Nat}(hid:Y id=some r)(ho:H[id]?=some (.cells true z cs))
  (hb:w.heap[r.b]?=some (.cells m ty fz)) (hM:id<base->id∈M):Post P B base M Y H w (Y.frz r.b m) (H.set id .dead) w:=by
 have p:=Post.kill (base:=base) (M:=M) hr hid ho rfl hM
 have hno:∀m',Y.mem r.b=some m'->False:=fun m' h=>(hr.mem r.b m' h).2 id r _ hid ho rfl rfl
 have hle:Ren.le Y (Y.frz r.b m):=⟨fun _ _ h=>h,fun b m' h=>by
  show (if _ then _ else _)=_
  by_cases e:b=r.b
  ·subst e;exact (hno m' h).elim
  ·rw[if_neg e];exact h,fun _ _ _ h=>h⟩
 refine ⟨⟨p.rel.bsize,p.rel.dS,p.rel.dom,p.rel.lt,fun i x o h1 h2=>(p.rel.obj i x o h1 h2).mono hle rfl,p.rel.base,p.rel.sep,fun b m' h =>?_,p.rel.fam.keep hle (fun _ _ _ h=>h) (fun _ _ _ _ h=>h) (Nat.le_refl _) (Nat.le_refl _) (fun _ _=>rfl) (fun i x o a b c=>p.rel.fam.free a b c) (fun b m' h=>by
   have h':(if b=r.b then some m else Y.mem b)=some m':=h
   by_cases e:b=r.b
   ·subst e
    exact fun hf=>hr.fam.free hid ho rfl (FB.Ck (fun _ _ h=>by cases h) hf)
   ·rw[if_neg e]at h';exact p.rel.fam.fK h')⟩,hle,p.new,p.len,p.same,p.size,p.keep,fun b hb ho2=>p.ob b hb (ho2.imp (fun q=>q) fun ⟨F,k,x,z,c,m,e⟩=>⟨F,k,x,z,c,⟨m.g,m.h,m.a⟩,e⟩),p.os,p.tape,p.output,fun b m' h =>?_,p.drawn,p.lV⟩
 ·have h':(if b=r.b then some m else Y.mem b)=some m':=h
  by_cases e:b=r.b
  ·rw[if_pos e]at h';cases h';subst e
   refine ⟨⟨ty,fz,hb⟩,fun i x o h1 h2 h3 he =>?_⟩
   by_cases e2:i=id
   ·subst e2
    rw[List.getElem?_set_self (List.getElem?_eq_some_iff.1 ho).1]at h2
    cases h2;cases h3
   ·rw[List.getElem?_set_ne (Ne.symm e2)]at h2
    have hal:o.alive=true:=by cases o <;> first|rfl|cases h3
    exact hr.sep id i r x _ o hid h1 ho h2 rfl hal (Ne.symm e2) he.symm
  ·rw[if_neg e]at h';exact p.rel.mem b m' h'
 ·have h':(if b=r.b then some m else Y.mem b)=some m':=h
  by_cases e:b=r.b
  ·exact .inr (.inr (.inl ⟨id,r,_,hid,ho,rfl,e.symm⟩))
  ·rw[if_neg e]at h';exact .inl h'
theorem VR.freeze{Y:Ren}{r:RI}{id z n c:Nat}{tag:Option Nat}{cs:List Value}{H:Heap}{w:World}{m:Array Value}{ty:TypeId}{fz:Nat×Nat}(htag:tag=none∨tag=some 1)(hid:Y id=some r)
  (hb:w.heap[r.b]?=some (.cells m ty fz)) (ho:bh Y r (.cells true z cs) w) (hle:Ren.le Y (Y.frz r.b m)) {x:Value} (h:VR Y (.slice (some ⟨id,0,tag⟩) n c) x):VR (Y.frz r.b m) (.iface (n+1) (.agg ⟨cs⟩)) x:=by
 obtain ⟨_,_,m',ty',fz',hb',hsz,_,hcs⟩:=ho
 rw[hb]at hb';cases hb'
 have hm:(Y.frz r.b m).mem r.b=some m:=by show (if _ then _ else _)=_;rw[if_pos rfl]
 have main:∀cap',n<=cap'->VR (Y.frz r.b m) (.iface (n+1) (.agg ⟨cs⟩)) (.slice (some ⟨r.b,0+r.s,none⟩) n cap'):=by
  intro cap' hc
  rw[Nat.zero_add]
  rcases Nat.eq_zero_or_pos n with rfl|hp
  ·exact .cm
  ·refine .deep hm hp hc ?_ (fun i v v' a b =>?_)
   ·rcases Nat.eq_zero_or_pos cs.length with h0|h0
    ·exact .inl h0
    ·right
     obtain ⟨v',g1,_⟩:=hcs (cs.length-1) _ (List.getElem?_eq_getElem (by omega))
     have:=(Array.getElem?_eq_some_iff.1 g1).1
     show cs.length+r.s<=m.size
     omega
   ·obtain ⟨v2,g1,g2⟩:=hcs i v (by simpa using a)
    rw[g1]at b;cases b
    exact g2.mono hle
 rcases htag with rfl|rfl
 ·cases h with
  |slice h' hl hc _=>rw[hid]at h';cases h';exact main _ (Nat.le_trans hl hc)
  |br h'=>exact .cm
 ·cases h with
  |aY=>exact .cm
  |aX=>exact .cm
  |bz h' hp hl hc _=>rw[hid]at h';cases h';exact main _ (Nat.le_trans hl hc)
theorem VR.Gi{Y:Ren}{id n c:Nat}{tag:Option Nat}{cs:List Value}(htag:tag=none∨tag=some 1)(hid:Y id=none){x:Value}(h:VR Y (.slice (some ⟨id,0,tag⟩) n c) x):VR Y (.iface (n+1) (.agg ⟨cs⟩)) x:=by
 rcases htag with rfl|rfl
 ·cases h with
  |slice h' hl hc _=>rw[hid]at h';cases h'
  |br h'=>rw[hid]at h';cases h'
 ·cases h with
  |aY=>exact .cm
  |aX=>exact .cm
  |bz h' hp hl hc _=>rw[hid]at h';cases h'
theorem ee.freeze{base:Nat}{M:List Nat}{T:Tm}{H:Heap}{t id n c z:Nat}{tag:Option Nat}{cs:List Value}(hT:T t = .slice (some ⟨id,0,tag⟩) n c)(htag:tag=none∨tag=some 1)(ho:H[id]?=some (.cells true z cs))(hM:id<base->id∈M) :
  ee P base M T H (put T (some t) (.iface (n+1) (.agg ⟨cs⟩))) (H.set id .dead):=by
 intro B Y w N tmps h1 h2 h3
 have fin:∀ρ1,Post P B base M Y H w ρ1 (H.set id .dead) w->(∀x,VR Y (T t) x->VR ρ1 (.iface (n+1) (.agg ⟨cs⟩)) x)->∃ρ',Post P B base M Y H w ρ' (H.set id .dead) w/\TR ρ' N (put T (some t) (.iface (n+1) (.agg ⟨cs⟩))) tmps:=by
  intro ρ1 p hv
  refine ⟨ρ1,p,h3.1,fun s hs =>?_⟩
  have:=h3.2 s hs
  show VR ρ1 (upd T t _ s) _
  unfold upd
  by_cases e:s=t
  ·subst e
   rw[if_pos rfl]
   exact hv _ this
  ·rw[if_neg e]
   exact this.mono p.ext
 cases hid:Y id with
 |none=>exact fin Y (Post.Hg h1 ho rfl hM) (fun x hx=>VR.Gi htag hid (by rw[<- hT];exact hx))
 |some r =>
  have hob:=h1.obj id r _ hid ho
  obtain ⟨_,_,m,ty,fz,hb,_⟩:=hob
  have p:=Post.MK (base:=base) (M:=M) h1 hid ho hb hM
  exact fin _ p (fun x hx=>VR.freeze (H:=H) htag hid hb (h1.obj id r _ hid ho) p.ext (by rw[<- hT];exact hx))
theorem Post.more{B base:Nat}{M:List Nat}{Y:Ren}{H:Heap}{w:World}(hr:Rel P B Y H w)(hob:base<=H.length)(cs:List Value):Post P B base M Y H w Y (H ++ [.cells false 0 cs]) w:=by
 have hlt:∀id r o,Y id=some r->(H ++ [ab.cells false 0 cs])[id]?=some o->H[id]?=some o:=fun id r o h1 h2=>by
  rw[List.getElem?_append_left (hr.dom _ _ h1)]at h2;exact h2
 refine ⟨⟨hr.bsize,hr.dS,fun id r h=>by have:=hr.dom _ _ h;rw[ao];omega,hr.lt,fun id r o h1 h2=>hr.obj id r o h1 (hlt id r o h1 h2),fun id r o h1 h2=>hr.base id r o h1 (hlt id r o h1 h2),fun id id' r r' o o' h1 h1' h2 h2'=>hr.sep id id' r r' o o' h1 h1' (hlt _ _ _ h1 h2) (hlt _ _ _ h1' h2'),fun b m h=>⟨(hr.mem b m h).1,fun id r o h1 h2=>(hr.mem b m h).2 id r o h1 (hlt _ _ _ h1 h2)⟩,
   hr.fam.keep (Ren.le_refl _) (fun _ _ _ h=>h) (fun F z cs hF h=>by rw[List.getElem?_append_left hF]at h;exact h) (by simp) (Nat.le_refl _) (fun _ _=>rfl) (fun id r o a b c=>hr.fam.free a (hlt _ _ _ a b) c) (fun b m h=>hr.fam.fK h)⟩,
  Ren.le_refl _,fun id r a b=>(by rw[b]at a;cases a),by rw[ao];omega,fun id h1 _=>List.getElem?_append_left (by omega),Nat.le_refl _,fun _ _ _=>rfl,fun b _ ho =>?_,rfl,rfl,rfl,fun _ _ h => .inl h,Nat.le_refl _,fun F k r a b=>(by rw[b]at a;cases a)⟩
 rcases ho with ⟨id,r,o,h1,h2,h3,h4⟩|⟨F,k,r,z,c,m,e⟩
 ·exact .inl ⟨id,r,o,h1,hlt _ _ _ h1 h2,h3,h4⟩
 ·exact .inr ⟨F,k,r,z,c,⟨m.g,by have:=m.h;rw[List.getElem?_append_left (hr.fam.dom F k r m.g)]at this;exact this,m.a⟩,e⟩
theorem Post.read{B base:Nat}{M:List Nat}{Y:Ren}{H:Heap}{w:World}(hr:Rel P B Y H w)(hob:base<=H.length){b s:Nat}{m:Array Value}(hm:Y.mem b=some m){cs:List Value}(h1:cs.length=0∨cs.length+s<=m.size)
  (h2:∀(i:Nat) (v v':Value),cs[i]?=some v->m[i+s]?=some v'->VR Y v v'):Post P B base M Y H w (Y.set H.length ⟨b,s,m.size,0,false⟩) (H ++ [.cells false 0 cs]) w:=by
 have hnone:Y H.length=none:=by
  cases h:Y H.length with
  |none=>rfl
  |some r=>exact absurd (hr.dom _ _ h) (Nat.lt_irrefl _)
 have hle:=Ren.eS (r:=⟨b,s,m.size,0,false⟩) hnone
 obtain ⟨⟨ty,fz,hb⟩,hmo⟩:=hr.mem b m hm
 have hnew:(H ++ [ab.cells false 0 cs])[H.length]?=some (.cells false 0 cs):=by simp
 have hold:∀id r,id≠H.length->Y.set H.length ⟨b,s,m.size,0,false⟩ id=some r->Y id=some r/\(H ++ [ab.cells false 0 cs])[id]?=H[id]? := fun id r e h=>by
  rw[Ren.aL e]at h
  exact ⟨h,List.getElem?_append_left (hr.dom _ _ h)⟩
 refine ⟨⟨hr.bsize,fun g hg =>?_,fun id r h =>?_,fun id r h =>?_,fun id r o h3 h4 =>?_,fun id r o h3 h4 h5 =>?_,fun id id' r r' o o' h3 h3' h4 h4' h5 h5' hne =>?_,fun b' m' h=>⟨(hr.mem b' m' h).1,fun id r o h3 h4 h5 =>?_⟩,
   hr.fam.keep hle (fun _ _ _ h=>h) (fun F z cs hF h=>by rw[List.getElem?_append_left hF]at h;exact h) (by simp) (Nat.le_refl _) (fun _ _=>rfl) (fun id r o h1 h2 h3=>by
    by_cases e:id=H.length
    ·subst e;rw[Ren.aM]at h1;cases h1;exact hr.fam.fK hm
    ·obtain ⟨k1,k2⟩:=hold id r e h1
     rw[k2]at h2
     exact hr.fam.free k1 h2 h3) (fun b m h=>hr.fam.fK h)⟩,
  hle,fun id r h3 h4 =>?_,by rw[ao];omega,fun id h1 _=>List.getElem?_append_left (by omega),Nat.le_refl _,fun _ _ _=>rfl,fun b' _ ho =>?_,rfl,rfl,rfl,fun _ _ h => .inl h,Nat.le_refl _,fun F k r a b=>(by rw[show (Y.set H.length _).g=Y.g from rfl,b]at a;cases a)⟩
 ·obtain ⟨r,k1,k2,k3⟩:=hr.dS g hg;exact ⟨r,hle _ _ k1,k2,k3⟩
 ·rw[ao]
  by_cases e:id=H.length
  ·simp[e]
  ·have:=hr.dom _ _ (hold id r e h).1;omega
 ·by_cases e:id=H.length
  ·subst e;rw[Ren.aM]at h;cases h;exact (Array.getElem?_eq_some_iff.1 hb).1
  ·exact hr.lt _ _ (hold id r e h).1
 ·by_cases e:id=H.length
  ·subst e
   rw[Ren.aM]at h3;cases h3
   rw[hnew]at h4;cases h4
   refine ⟨rfl,rfl,m,ty,fz,hb,rfl,fun h=>(by cases h),fun i v hv =>?_⟩
   have hi:i+s<m.size:=by have:=(List.getElem?_eq_some_iff.1 hv).1;omega
   exact ⟨_,Array.getElem?_eq_getElem hi,(h2 i v _ hv (Array.getElem?_eq_getElem hi)).mono hle⟩
  ·obtain ⟨k1,k2⟩:=hold id r e h3
   rw[k2]at h4
   exact (hr.obj id r o k1 h4).mono hle rfl
 ·by_cases e:id=H.length
  ·subst e;rw[hnew]at h4;cases h4;cases h5
  ·obtain ⟨k1,k2⟩:=hold id r e h3
   rw[k2]at h4
   exact hr.base id r o k1 h4 h5
 ·by_cases e:id=H.length
  ·subst e;rw[hnew]at h4;cases h4;cases h5
  ·obtain ⟨k1,k2⟩:=hold id r e h3
   rw[k2]at h4
   by_cases e':id'=H.length
   ·subst e'
    rw[Ren.aM]at h3';cases h3'
    exact hmo id r o k1 h4 h5
   ·obtain ⟨k1',k2'⟩:=hold id' r' e' h3'
    rw[k2']at h4'
    exact hr.sep id id' r r' o o' k1 k1' h4 h4' h5 h5' hne
 ·by_cases e:id=H.length
  ·subst e;rw[hnew]at h4;cases h4;cases h5
  ·obtain ⟨k1,k2⟩:=hold id r e h3
   rw[k2]at h4
   exact (hr.mem b' m' h).2 id r o k1 h4 h5
 ·by_cases e:id=H.length
  ·omega
  ·have:=(hold id r e h3).1
   rw[h4]at this;cases this
 ·rcases ho with ⟨id,r,o,k1,k2,k3,k4⟩|⟨F,k,r,z,c,m,e⟩
  ·by_cases e:id=H.length
   ·subst e;rw[hnew]at k2;cases k2;cases k3
   ·obtain ⟨g1,g2⟩:=hold id r e k1
    rw[g2]at k2
    exact .inl ⟨id,r,o,g1,k2,k3,k4⟩
  ·exact .inr ⟨F,k,r,z,c,⟨m.g,by have:=m.h;rw[List.getElem?_append_left (hr.fam.dom F k r m.g)]at this;exact this,m.a⟩,e⟩
theorem ee.read{base:Nat}{M:List Nat}{T:Tm}{H:Heap}{t n:Nat}{cs:Array Value}(hT:T t = .iface (n+1) (.agg cs)) :
  ee P base M T H (put T (some t) (.slice (some ⟨H.length,0,some 2⟩) n n)) (H ++ [.cells false 0 cs.toList]):=by
 intro B Y w N tmps hr hob h3
 have fin:∀ρ1,Post P B base M Y H w ρ1 (H ++ [.cells false 0 cs.toList]) w->(t<N->VR ρ1 (.slice (some ⟨H.length,0,some 2⟩) n n) (tmps.getD t undef))->∃ρ',Post P B base M Y H w ρ' (H ++ [.cells false 0 cs.toList]) w/\TR ρ' N (put T (some t) (.slice (some ⟨H.length,0,some 2⟩) n n)) tmps:=by
  intro ρ1 p hv
  refine ⟨ρ1,p,h3.1,fun s hs =>?_⟩
  have:=h3.2 s hs
  show VR ρ1 (upd T t _ s) _
  unfold upd
  by_cases e:s=t
  ·subst e;rw[if_pos rfl];exact hv hs
  ·rw[if_neg e];exact this.mono p.ext
 by_cases ht:t<N
 ·have hv:=h3.2 t ht
  rw[hT]at hv
  generalize tmps.getD t undef=x at hv fin
  cases hv with
  | @deep n b s cap' cs m hm hp hc h1 h2 =>
   refine fin _ (Post.read hr hob hm (cs:=cs.toList) (by simpa using h1) (fun i v v' a b=>h2 i v v' (by simpa using a) b)) (fun _ =>?_)
   have:=VR.bp (Y:=Y.set H.length ⟨b,s,m.size,0,false⟩) (id:=H.length) (o:=0) (r:=⟨b,s,m.size,0,false⟩) (len:=n) (cap:=n) (cap':=cap') (Ren.aM ..) hp (Nat.le_refl _) hc (fun h=>by cases h)
   rw[Nat.zero_add]at this
   exact this
  |cm=>exact fin _ (Post.more hr hob _) (fun _ => .aS)
 ·exact fin _ (Post.more hr hob _) (fun h=>absurd h ht)
def tf(A F k:Nat):Nat->Value->Value
 |0,v=>v
 |d+1,v=>match v with
  | .pointer (some ⟨id,off,none⟩)=>cond (Nat.beq id A) (.pointer (some ⟨F,off,some (k+3)⟩)) (.pointer (some ⟨id,off,none⟩))
  | .func (.func f) first cap => .func (.func f) ⟨first.toList.map (tf A F k d)⟩ ⟨cap.toList.map (tf A F k d)⟩
  | .agg cs => .agg ⟨cs.toList.map (tf A F k d)⟩
  | .tuple cs => .tuple ⟨cs.toList.map (tf A F k d)⟩
  |v=>v
theorem um{Y:Ren}{f:Value->Value}(ih:∀{v x:Value},VR Y v x->VR Y (f v) x){cs cs':Array Value}(h1:cs.size=cs'.size)(h2:∀(i:Nat) (v v':Value),cs[i]?=some v->cs'[i]?=some v'->VR Y v v') :
  (⟨cs.toList.map f⟩:Array Value).size=cs'.size/\∀(i:Nat) (v v':Value),(⟨cs.toList.map f⟩:Array Value)[i]?=some v->cs'[i]?=some v'->VR Y v v':=by
 have e:(⟨cs.toList.map f⟩:Array Value)=cs.map f:=Array.toList_inj.1 (by simp)
 rw[e]
 refine ⟨by simpa using h1,fun i v v' a b =>?_⟩
 rw[Array.getElem?_map]at a
 obtain ⟨x,hx,rfl⟩:=ba a
 exact ih (h2 i x v' hx b)
theorem G0{Y:Ren}{A F k:Nat}(hA:∀r,Y A=some r->Y.g F k=some r):∀(d:Nat) {v x:Value},VR Y v x->VR Y (tf A F k d v) x:=by
 intro d
 induction d with
 |zero=>intro v x h;exact h
 |succ d ih =>
  intro v x h
  unfold tf
  split
  ·rename_i id off
   cases hb:Nat.beq id A with
   |false=>exact h
   |true =>
    rw[Nat.eq_of_beq_eq_true hb]at h
    cases h with|ptr hr=>exact .fh (hA _ hr)
  ·cases h with
   |func h1 h2 h3 h4 =>
    obtain ⟨a1,a2⟩:=um ih h1 h2
    obtain ⟨b1,b2⟩:=um ih h3 h4
    exact .func a1 a2 b1 b2
  ·cases h with|agg h1 h2=>obtain ⟨a1,a2⟩:=um ih h1 h2;exact .agg a1 a2
  ·cases h with|tuple h1 h2=>obtain ⟨a1,a2⟩:=um ih h1 h2;exact .tuple a1 a2
  ·exact h
theorem Post.KO{B base:Nat}{M:List Nat}{Y:Ren}{H:Heap}{w:World}(hr:Rel P B Y H w){b:Nat}{o o':ab}(ho:H[b]?=some o)(h1:o'.owned=o.owned)(h2:o'.alive=o.alive)
  (hf:∀z cs,o ≠ .fam z cs) (hf':∀z cs,o' ≠ .fam z cs) (h':∀r,Y b=some r->bh Y r o w->bh Y r o' w) (hM:b<base->b∈M):Post P B base M Y H w Y (H.set b o') w:=by
 have hbl:b<H.length:=(List.getElem?_eq_some_iff.1 ho).1
 have back:∀(i:Nat) (p:ab),(H.set b o')[i]?=some p->∃q:ab,H[i]?=some q/\q.owned=p.owned/\q.alive=p.alive:=fun i p h=>by
  by_cases e:i=b
  ·subst e
   rw[List.getElem?_set_self hbl]at h;cases h
   exact ⟨o,ho,h1.symm,h2.symm⟩
  ·rw[List.getElem?_set_ne (Ne.symm e)]at h
   exact ⟨p,h,rfl,rfl⟩
 have jF:∀(F z:Nat) (cs:List Value),(H.set b o')[F]?=some (.fam z cs)->H[F]?=some (.fam z cs):=fun F z cs h=>by
  by_cases e:F=b
  ·subst e
   rw[List.getElem?_set_self hbl]at h;cases h
   exact absurd rfl (hf' z cs)
  ·rw[List.getElem?_set_ne (Ne.symm e)]at h;exact h
 refine ⟨⟨hr.bsize,hr.dS,fun i x h=>by simpa using hr.dom i x h,hr.lt,fun i x p a c =>?_,fun i x p a c d =>?_,fun i j x y p q a c d e f g hne =>?_,fun b' m hm=>⟨(hr.mem b' m hm).1,fun i x p a c d =>?_⟩,
   hr.fam.keep (Ren.le_refl _) (fun _ _ _ h=>h) (fun F z cs _ h=>jF F z cs h) (by simp) (Nat.le_refl _) (fun _ _=>rfl) (fun i x p a c d =>?_) (fun b m h=>hr.fam.fK h)⟩,
  Ren.le_refl _,fun i x a b=>(by rw[b]at a;cases a),by simp,fun i h3 h4=>List.getElem?_set_ne (fun (e:b=i)=>h4 (by subst e;exact hM h3)),Nat.le_refl _,fun _ _ _=>rfl,fun b' _ hob =>?_,rfl,rfl,rfl,fun _ _ h => .inl h,Nat.le_refl _,fun F k r a b=>(by rw[b]at a;cases a)⟩
 ·by_cases e:i=b
  ·subst e
   rw[List.getElem?_set_self hbl]at c;cases c
   exact h' x a (hr.obj _ x o a ho)
  ·rw[List.getElem?_set_ne (Ne.symm e)]at c
   exact hr.obj i x p a c
 ·obtain ⟨q,q1,q2,_⟩:=back i p c;exact hr.base i x q a q1 (by rw[q2];exact d)
 ·obtain ⟨p',p1,p2,_⟩:=back i p d
  obtain ⟨q',q1,_,q3⟩:=back j q e
  exact hr.sep i j x y p' q' a c p1 q1 (by rw[p2];exact f) (by rw[q3];exact g) hne
 ·obtain ⟨q,q1,q2,_⟩:=back i p c;exact (hr.mem b' m hm).2 i x q a q1 (by rw[q2];exact d)
 ·obtain ⟨q,q1,_,q3⟩:=back i p c;exact hr.fam.free a q1 (by rw[q3];exact d)
 ·rcases hob with ⟨i,x,p,a,c,d,e⟩|⟨F,k,x,z,cs,m,e⟩
  ·obtain ⟨q,q1,q2,_⟩:=back i p c;exact .inl ⟨i,x,q,a,q1,by rw[q2];exact d,e⟩
  ·exact .inr ⟨F,k,x,z,cs,⟨m.g,jF F z cs m.h,m.a⟩,e⟩
theorem bh.tf{Y:Ren}{A F k d:Nat}(hA:∀r,Y A=some r->Y.g F k=some r){r:RI}{own:Bool}{z:Nat}{cs:List Value}{w:World}(h:bh Y r (.cells own z cs) w):bh Y r (.cells own z (cs.map (tf A F k d))) w:=by
 obtain ⟨h1,h2,cs',ty,fz,h3,h4,h5,h6⟩:=h
 refine ⟨h1,h2,cs',ty,fz,h3,h4,h5,fun i v a =>?_⟩
 rw[List.getElem?_map]at a
 obtain ⟨x,hx,rfl⟩:=ba a
 obtain ⟨v',b,c⟩:=h6 i x hx
 exact ⟨v',b,G0 hA d c⟩
def Ren.mem1(Y:Ren)(A F k:Nat):Ren:=⟨Y.f,Y.mem,fun F' k'=>if F'=F/\k'=k then Y.f A else Y.g F' k'⟩
theorem Post.member{B base:Nat}{M:List Nat}{Y:Ren}{H:Heap}{w:World}(hr:Rel P B Y H w){A F k z zA:Nat}{cs ms:List Value}(hA:H[A]?=some (.cells true zA cs))(hF:H[F]?=some (.fam z ms))
  (hz:cs.length=z) (h0:0<z) (hk:ms.length=k*z) (hMA:A<base->A∈M) (hMF:F<base->F∈M) :
  Post P B base M Y H w (Y.mem1 A F k) ((H.set A .dead).set F (.fam z (ms++cs))) w:=by
 have hAl:A<H.length:=(List.getElem?_eq_some_iff.1 hA).1
 have hFl:F<H.length:=(List.getElem?_eq_some_iff.1 hF).1
 have hne:A≠F:=fun e=>by subst e;rw[hA]at hF;cases hF
 have hgn:Y.g F k=none:=by
  cases hq:Y.g F k with
  |none=>rfl
  |some r =>
   obtain ⟨_,_,_,a2,_⟩:=hr.fam.obj F k r z ms ⟨hq,hF,fun e=>absurd e (by omega)⟩
   rw[Nat.add_mul,Nat.one_mul,hk]at a2;omega
 have hle:Ren.le Y (Y.mem1 A F k):=⟨fun _ _ h=>h,fun _ _ h=>h,fun F' k' r h=>by
  show (if _ then _ else _)=_
  rw[if_neg]
  ·exact h
  ·rintro ⟨rfl,rfl⟩;rw[hgn]at h;cases h⟩
 have hgA:((H.set A .dead).set F (.fam z (ms++cs)))[A]?=some .dead:=by
  rw[List.getElem?_set_ne (Ne.symm hne),List.getElem?_set_self hAl]
 have hgF:((H.set A .dead).set F (.fam z (ms++cs)))[F]?=some (.fam z (ms++cs)):=List.getElem?_set_self (by simpa using hFl)
 have hgo:∀i,i≠A->i≠F->((H.set A .dead).set F (.fam z (ms++cs)))[i]?=H[i]? := fun i a b=>by
  rw[List.getElem?_set_ne (Ne.symm b),List.getElem?_set_ne (Ne.symm a)]
 have back:∀i p,((H.set A .dead).set F (.fam z (ms++cs)))[i]?=some p->p.alive=true->i≠A/\H[i]?=some p:=fun i p h ha=>by
  by_cases e:i=A
  ·subst e;rw[hgA]at h;cases h;cases ha
  ·by_cases e2:i=F
   ·subst e2;rw[hgF]at h;cases h;cases ha
   ·rw[hgo i e e2]at h;exact ⟨e,h⟩
 have gof:∀{F' k' r},(Y.mem1 A F k).g F' k'=some r->(F'=F/\k'=k/\Y A=some r)∨(¬ (F'=F/\k'=k)/\Y.g F' k'=some r):=fun {F' k' r} h=>by
  have h:(if F'=F/\k'=k then Y.f A else Y.g F' k')=some r:=h
  by_cases e:F'=F/\k'=k
  ·rw[if_pos e]at h;exact .inl ⟨e.1,e.2,h⟩
  ·rw[if_neg e]at h;exact .inr ⟨e,h⟩
 have fm:∀{F' k' r z' c},FM (Y.mem1 A F k) ((H.set A .dead).set F (.fam z (ms++cs))) F' k' r z' c ->
   (F'=F/\k'=k/\Y A=some r/\z'=z/\c=ms++cs)∨(∃c',FM Y H F' k' r z' c'/\¬ (F'=F/\k'=k)/\(c=c'∨(F'=F/\c'=ms/\c=ms++cs/\z'=z))):=fun {F' k' r z' c} m=>by
  have hh:=m.h
  rcases gof m.g with ⟨rfl,rfl,h⟩|⟨e,h⟩
  ·rw[hgF]at hh;cases hh
   exact .inl ⟨rfl,rfl,h,rfl,rfl⟩
  ·right
   by_cases e2:F'=F
   ·subst e2
    rw[hgF]at hh;cases hh
    exact ⟨ms,⟨h,hF,fun e=>absurd e (by omega)⟩,e,.inr ⟨rfl,rfl,rfl,rfl⟩⟩
   ·by_cases e3:F'=A
    ·subst e3;rw[hgA]at hh;cases hh
    ·rw[hgo F' e3 e2]at hh
     exact ⟨c,⟨h,hh,m.a⟩,e,.inl rfl⟩
 have hown:(ab.cells true zA cs).owned=true:=rfl
 refine ⟨⟨hr.bsize,hr.dS,fun i x h=>by simpa using hr.dom i x h,hr.lt,fun i x o h1 h2 =>?_,fun i x o h1 h2 h3=>hr.base i x o h1 (back i o h2 (cX h3)).2 h3,
   fun i j x y o o' h1 h2 h3 h4 h5 h6 hn=>hr.sep i j x y o o' h1 h2 (back i o h3 (cX h5)).2 (back j o' h4 h6).2 h5 h6 hn,fun b m hm=>⟨(hr.mem b m hm).1,fun i x o h1 h2 h3=>(hr.mem b m hm).2 i x o h1 (back i o h2 (cX h3)).2 h3⟩,?_⟩,
  hle,fun i x a b=>(by have a:Y i=some x:=a;rw[b]at a;cases a),by simp,fun i h1 h2 =>?_,Nat.le_refl _,fun _ _ _=>rfl,fun b _ hob =>?_,rfl,rfl,rfl,fun _ _ h => .inl h,Nat.le_refl _,fun F' k' r a b =>?_⟩
 ·cases ha:o.alive with
  |true=>exact (hr.obj i x o h1 (back i o h2 ha).2).mono hle rfl
  |false=>cases o <;> first|trivial|simp[ab.alive]at ha
 ·refine ⟨fun F' k' r h =>?_,fun F' k' r h =>?_,fun F' k' r z' c m =>?_,fun F' k' r z' c m =>?_,fun F1 k1 r1 z1 c1 F2 k2 r2 z2 c2 m1 m2 e =>?_,fun F' k' r z' c id r2 o m h1 h2 h3 =>?_,fun F' k' r z' c b m2 m hb =>?_,fun F' k' r c g h =>?_⟩
  ·rcases gof h with ⟨rfl,_,_⟩|⟨_,h⟩
   ·simpa using hFl
   ·simpa using hr.fam.dom _ _ _ h
  ·rcases gof h with ⟨_,_,h⟩|⟨_,h⟩
   ·exact hr.lt _ _ h
   ·exact hr.fam.lt _ _ _ h
  ·rcases fm m with ⟨_,_,h,_⟩|⟨c',m',_⟩
   ·exact hr.base A r _ h hA hown
   ·exact hr.fam.base _ _ _ _ _ m'
  ·rcases fm m with ⟨rfl,rfl,h,rfl,rfl⟩|⟨c',m',e,hc⟩
   ·obtain ⟨e1,e2,cs',ty,fz,hb,hn,hfz,hcs⟩:=hr.obj A r _ h hA
    obtain rfl:fz=(0,0):=hfz rfl
    have hlast:=hcs (z'-1) _ (List.getElem?_eq_getElem (by omega))
    obtain ⟨v',g1,_⟩:=hlast
    have hlt:=(Array.getElem?_eq_some_iff.1 g1).1
    refine ⟨cs',ty,hb,by rw[ao,hk,hz,Nat.add_mul,Nat.one_mul];exact Nat.le_refl _,fun e=>absurd e (by omega),by omega,fun i v hi hv =>?_⟩
    rw[List.getElem?_append_right (by omega),hk,Nat.add_sub_cancel_left]at hv
    obtain ⟨v',a1,a2⟩:=hcs i v hv
    exact ⟨v',a1,a2.mono hle⟩
   ·have ob:=hr.fam.obj _ _ _ _ _ m'
    rcases hc with rfl|⟨_,hc1,rfl,_⟩
    ·exact ob.mono hle rfl
    ·obtain ⟨cs',ty,a1,a2,a3,a4,a5⟩:=ob
     rw[hc1]at a2 a5
     refine ⟨cs',ty,a1,by rw[ao];omega,fun e=>absurd e (by omega),a4,fun i v hi hv =>?_⟩
     have hlt:k'*z'+i<ms.length:=by rw[Nat.add_mul,Nat.one_mul]at a2;omega
     rw[List.getElem?_append_left hlt]at hv
     obtain ⟨v',b1,b2⟩:=a5 i v hi hv
     exact ⟨v',b1,b2.mono hle⟩
  ·rcases fm m1 with ⟨rfl,rfl,g1,_⟩|⟨c1',m1',e1,_⟩
   ·rcases fm m2 with ⟨rfl,rfl,g2,_⟩|⟨c2',m2',e2,_⟩
    ·exact ⟨rfl,rfl⟩
    ·exact absurd e (hr.fam.sep2 _ _ _ _ _ A r1 _ m2' g1 hA rfl)
   ·rcases fm m2 with ⟨rfl,rfl,g2,_⟩|⟨c2',m2',e2,_⟩
    ·exact absurd e.symm (hr.fam.sep2 _ _ _ _ _ A r2 _ m1' g2 hA rfl)
    ·exact hr.fam.sep _ _ _ _ _ _ _ _ _ _ m1' m2' e
  ·obtain ⟨hid,ho⟩:=back id o h2 h3
   rcases fm m with ⟨_,_,g1,_⟩|⟨c',m',_⟩
   ·exact (hr.sep A id r r2 _ o g1 h1 hA ho hown h3 (Ne.symm hid)).symm
   ·exact hr.fam.sep2 _ _ _ _ _ id r2 o m' h1 ho h3
  ·rcases fm m with ⟨_,_,g1,_⟩|⟨c',m',_⟩
   ·exact (hr.mem b m2 hb).2 A r _ g1 hA hown
   ·exact hr.fam.mem _ _ _ _ _ b m2 m' hb
  ·by_cases e:F'=F
   ·subst e;rw[hgF]at h;cases h;omega
   ·by_cases e2:F'=A
    ·subst e2;rw[hgA]at h;cases h
    ·rw[hgo F' e2 e]at h
     rcases gof g with ⟨q,_,_⟩|⟨_,q⟩
     ·exact absurd q e
     ·exact hr.fam.cnt F' k' r c q h
 ·by_cases e:i=A
  ·exact absurd (e ▸ hMA (e ▸ h1)) h2
  ·by_cases e2:i=F
   ·exact absurd (e2 ▸ hMF (e2 ▸ h1)) h2
   ·exact hgo i e e2
 ·rcases hob with ⟨i,x,o,k1,k2,k3,k4⟩|⟨F',k',x,z',c,m,e⟩
  ·exact .inl ⟨i,x,o,k1,(back i o k2 (cX k3)).2,k3,k4⟩
  ·rcases fm m with ⟨_,_,g1,_⟩|⟨c',m',_⟩
   ·exact .inl ⟨A,x,_,g1,hA,hown,e⟩
   ·exact .inr ⟨F',k',x,z',c',m',e⟩
 ·rcases gof a with ⟨rfl,_,_⟩|⟨_,h⟩
  ·rcases Nat.lt_or_ge F' base with hl|hl
   ·exact .inr (hMF hl)
   ·exact .inl hl
  ·rw[b]at h;cases h
theorem Post.vk{B base:Nat}{M:List Nat}{Y:Ren}{H:Heap}{w:World}(hr:Rel P B Y H w)(hob:base<=H.length)(z:Nat):Post P B base M Y H w Y (H ++ [.fam z []]) w:=by
 have hlt:∀id r o,Y id=some r->(H ++ [ab.fam z []])[id]?=some o->H[id]?=some o:=fun id r o h1 h2=>by
  rw[List.getElem?_append_left (hr.dom _ _ h1)]at h2;exact h2
 refine ⟨⟨hr.bsize,hr.dS,fun id r h=>by have:=hr.dom _ _ h;rw[ao];omega,hr.lt,fun id r o h1 h2=>hr.obj id r o h1 (hlt id r o h1 h2),fun id r o h1 h2=>hr.base id r o h1 (hlt id r o h1 h2),fun id id' r r' o o' h1 h1' h2 h2'=>hr.sep id id' r r' o o' h1 h1' (hlt _ _ _ h1 h2) (hlt _ _ _ h1' h2'),fun b m h=>⟨(hr.mem b m h).1,fun id r o h1 h2=>(hr.mem b m h).2 id r o h1 (hlt _ _ _ h1 h2)⟩,
   hr.fam.keep (Ren.le_refl _) (fun _ _ _ h=>h) (fun F z cs hF h=>by rw[List.getElem?_append_left hF]at h;exact h) (by simp) (Nat.le_refl _) (fun _ _=>rfl) (fun id r o a b c=>hr.fam.free a (hlt _ _ _ a b) c) (fun b m h=>hr.fam.fK h)⟩,
  Ren.le_refl _,fun id r a b=>(by rw[b]at a;cases a),by rw[ao];omega,fun id h1 _=>List.getElem?_append_left (by omega),Nat.le_refl _,fun _ _ _=>rfl,fun b _ ho =>?_,rfl,rfl,rfl,fun _ _ h => .inl h,Nat.le_refl _,fun F k r a b=>(by rw[b]at a;cases a)⟩
 rcases ho with ⟨id,r,o,h1,h2,h3,h4⟩|⟨F,k,r,z,c,m,e⟩
 ·exact .inl ⟨id,r,o,h1,hlt _ _ _ h1 h2,h3,h4⟩
 ·exact .inr ⟨F,k,r,z,c,⟨m.g,by have:=m.h;rw[List.getElem?_append_left (hr.fam.dom F k r m.g)]at this;exact this,m.a⟩,e⟩
theorem ee.vk{base:Nat}{M:List Nat}{T:Tm}{H:Heap}(z:Nat):ee P base M T H T (H ++ [.fam z []]):=fun B Y w N tmps h1 h2 h3=>⟨Y,Post.vk h1 h2 z,h3⟩
def tfT(A F k d:Nat):List Nat->Tm->Tm
 | [],T=>T
 |t :: ts,T=>tfT A F k d ts (put T (some t) (tf A F k d (T t)))
def tfH(A F k d:Nat):List Nat->Heap->Heap
 | [],H=>H
 |b :: bs,H=>tfH A F k d bs (match H[b]? with|some (.cells own z cs)=>H.set b (.cells own z (cs.map (tf A F k d)))|_=>H)
theorem BJ{Y:Ren}{A F k d N:Nat}(hA:∀r,Y A=some r->Y.g F k=some r){tmps:Array Value}:∀{ts:List Nat} {T:Tm},TR Y N T tmps->TR Y N (tfT A F k d ts T) tmps
 | [],T,h=>h
 |t :: ts,T,h=>BJ hA (ts:=ts) ⟨h.1,fun s hs=>by
   have:=h.2 s hs
   show VR Y (upd T t _ s) _
   unfold upd
   by_cases e:s=t
   ·subst e;rw[if_pos rfl];exact G0 hA d this
   ·rw[if_neg e];exact this⟩
theorem Post.tfH{B base:Nat}{M:List Nat}{Y:Ren}{w:World}{A F k d:Nat}(hA:∀r,Y A=some r->Y.g F k=some r):∀{bs:List Nat} {H:Heap},Rel P B Y H w->(∀b∈bs,b<base->b∈M)->Post P B base M Y H w Y (tfH A F k d bs H) w
 | [],H,hr,_=>Post.refl hr
 |b :: bs,H,hr,hM=>by
  unfold K.tfH
  split
  ·rename_i own z cs hb
   have p:=Post.KO (base:=base) (M:=M) hr (o':=.cells own z (cs.map (tf A F k d))) hb rfl rfl (fun _ _ h=>by cases h) (fun _ _ h=>by cases h) (fun r _ h=>bh.tf hA h) (hM b (List.mem_cons_self ..))
   exact p.trans (Post.tfH hA p.rel (fun x hx=>hM x (List.mem_cons_of_mem _ hx)))
  ·exact Post.tfH hA hr (fun x hx=>hM x (List.mem_cons_of_mem _ hx))
theorem ee.fam{base:Nat}{M:List Nat}{T:Tm}{H:Heap}{A F k z zA d:Nat}{cs ms:List Value}{ts bs:List Nat}(hA:H[A]?=some (.cells true zA cs))(hF:H[F]?=some (.fam z ms))
  (hz:cs.length=z) (h0:0<z) (hk:ms.length=k*z) (hMA:A<base->A∈M) (hMF:F<base->F∈M) (hMb:∀b∈bs,b<base->b∈M) :
  ee P base M T H (tfT A F k d ts T) (tfH A F k d bs ((H.set A .dead).set F (.fam z (ms++cs)))):=by
 intro B Y w N tmps h1 h2 h3
 have p:=Post.member (base:=base) (M:=M) h1 hA hF hz h0 hk hMA hMF
 have hg:∀r,(Y.mem1 A F k) A=some r->(Y.mem1 A F k).g F k=some r:=fun r h=>by
  show (if _ then _ else _)=_
  rw[if_pos ⟨rfl,rfl⟩];exact h
 exact ⟨_,p.trans (Post.tfH hg p.rel hMb),BJ hg (h3.mono p.ext)⟩
theorem VR.thaw{B base n:Nat}{M:List Nat}{Y:Ren}{H:Heap}{w:World}(hr:Rel P B Y H w)(hob:base<=H.length){cs:Array Value}{x:Value}(hx:VR Y (.iface (n+1) (.agg cs)) x) :
  ∃ρ1,Post P B base M Y H w ρ1 (H ++ [.cells false 0 cs.toList]) w/\VR ρ1 (.slice (some ⟨H.length,0,some 2⟩) n n) x:=by
 cases hx with
 | @deep n b s cap' cs m hm hp hc h1 h2 =>
  refine ⟨_,Post.read hr hob hm (cs:=cs.toList) (by simpa using h1) (fun i v v' a b=>h2 i v v' (by simpa using a) b),?_⟩
  have:=VR.bp (Y:=Y.set H.length ⟨b,s,m.size,0,false⟩) (id:=H.length) (o:=0) (r:=⟨b,s,m.size,0,false⟩) (len:=n) (cap:=n) (cap':=cap') (Ren.aM ..) hp (Nat.le_refl _) hc (fun h=>by cases h)
  rw[Nat.zero_add]at this
  exact this
 |cm=>exact ⟨_,Post.more hr hob _,.aS⟩
end Go.K
namespace Go.K
noncomputable section
variable {P:Program}
def Is(v:Value)(H:Heap):Value->Heap->Prop:=fun v' H'=>v'=v/\H'=H
def vf(bs:List Nat)(ops:Array Oper)(done:Nat):List Nat->Option Nat
 | [] =>none
 |i :: is=>if (match ops[i]? with|some o => !ed o|none=>false)&&(bs.getD i 0 &&& done == bs.getD i 0) then some i else vf bs ops done is
def yU(bs:List Nat)(done:Nat):List Nat->Option Nat
 | [] =>none
 |i :: is=>if bs.getD i 0 &&& done == bs.getD i 0 then some i else yU bs done is
def Hd(bs:List Nat)(ops:Array Oper):Nat->Nat->List Nat->List Nat
 |0,_,_=>[]
 |n+1,done,todo =>
  match (match vf bs ops done todo with|some i=>some i|none=>yU bs done todo) with
  |some i=>i :: Hd bs ops n (done |||2 ^ i) (todo.filter (fun j => !(Nat.beq j i)))
  |none=>[]
def G6(l:List Oper):List Nat:=Hd (ei l []) l.toArray l.length 0 (List.range l.length)
def codeOk(N G:Nat)(mixed:Bool):Code->Bool
 | .region _ ops draw=>ops.toList.all (kL N G)&&(!draw ||(mixed&&yW ops.toList (G6 ops.toList)))
 | .seq a b=>codeOk N G mixed a&&codeOk N G mixed b
 | .cond c a b=>(match c with| .tmp t=>decide (t<N)| .const (.bool _)=>true|_=>false)&&codeOk N G mixed a&&codeOk N G mixed b
 | .block _ b=>codeOk N G mixed b
 | .scope b=>codeOk N G mixed b
 | .loop b=>codeOk N G mixed b
 | .rangeFunc g ps a b=>(match g with| .tmp t=>decide (t<N)|_=>false)&&ps.toList.all (fun p=>decide (p<N))&&codeOk N G mixed a&&codeOk N G mixed b
 | .skip| .ret| .exit _| .label _=>true
 |_=>false
def JC(P:Program)(mixed:Bool)(f:Nat):Bool :=
 match P.funcs[f]? with
 |some fn =>
  match fn.body with
  | some c => !(fn.name == "runtime.NumGoroutine") && (oJ fn.ntmps fn.results.toList && codeOk fn.ntmps P.globals.size mixed c)
  |none=>false
 |none=>false
abbrev MS:=Option (List Nat)
inductive MQ where
 |new (z:Nat)
inductive Hint:Type 1 where
 |auto
 |go (n:Nat) (h:Hint)
 |fork (a b:Hint)
 |aT (a b:Hint)
 |need (h:Hint)
 |val (v:Value) (h:Hint)
 |ans (deps:List (Nat×ab)) (v:Value) (new:List ab) (h:Hint)
 |into (Mc:MS) (h:Hint)
 |keep (h:Hint)
 |obj (id:Nat) (o:ab) (h:Hint)
 |slot (t:Nat) (v:Value) (h:Hint)
 |bind (α:Type) (f:α->Hint)
 |inv (d:Nat) (α:Type) (x0:α) (σ0:List (Nat×Nat)) (ML:List Nat) (slots:α->List (Nat×Value)) (chg:α->List (Nat×Bool×ab)) (new:α->List (Bool×ab)) (lp:α->List (Nat×List (Nat×Value))) (I:α->Prop) (μ:α->Nat) (body:α->Hint)
 |again (σ:List (Nat×Nat))
 |cas (p:Prop) (a b:Hint)
 |join (d:Nat) (α:Type) (ML:List Nat) (slots:α->List (Nat×Value)) (chg:α->List (Nat×Bool×ab)) (new:α->List (Bool×ab)) (lp:α->List (Nat×List (Nat×Value))) (I:α->Prop) (a b:Hint) (next:α->Hint)
 |as (v:Value) (h:Hint)
 |ghost (o:ab) (h:Hint)
 |frz (ts:List Nat) (h:Hint)
 |mn (deps:List (Nat×ab)) (v:Value) (chg:List (Nat×ab)) (new:List ab) (h:Hint)
 |fam (l:List (Nat×Nat)) (k d:Nat) (ts bs:List Nat) (h:Hint)
 |tab (l:List MQ) (h:Hint)
 |vp (es:List (Value×Value)) (h:Hint)
 |nxt (h1:Nat->Hint) (h2:Hint)
 |GA (deps:List (Nat×ab)) (ids:List Nat) (α:Type) (I:α->Prop) (v:α->Value) (chg:α->List (Nat×ab)) (new:α->List ab) (h:α->Hint)
def Hint.dflt:Hint->Option Hint
 | .auto=>some .auto
 | .go n h=>some (match n with|0=>h|n+1 => .go n h)
 |_=>none
def jI(h:Hint):Env->HT->(Env->HT->Hint->Prop)->Prop :=
 Hint.rec (motive:=fun _=>Env->HT->(Env->HT->Hint->Prop)->Prop)
  (fun E H K=>K E H .auto)
  (fun n h _ E H K=>K E H (.go n h))
  (fun a b _ _ E H K=>K E H (.fork a b))
  (fun a b _ _ E H K=>K E H (.aT a b))
  (fun h _ E H K=>K E H (.need h))
  (fun v h _ E H K=>K E H (.val v h))
  (fun deps v new h _ E H K=>K E H (.ans deps v new h))
  (fun Mc h _ E H K=>K E H (.into Mc h))
  (fun h _ E H K=>K E H (.keep h))
  (fun id o _ ih E H K=>H.get id=some o/\ih E (H.set id o) K)
  (fun t v _ ih E H K=>E.get t=v/\ih (E.put (some t) v) H K)
  (fun α f ih E H K => ∃x:α,ih x E H K)
  (fun d α x0 σ0 ML slots chg new lp I μ body _ E H K=>K E H (.inv d α x0 σ0 ML slots chg new lp I μ body))
  (fun σ E H K=>K E H (.again σ))
  (fun p a b iha ihb E H K=>(p->iha E H K)/\(¬ p->ihb E H K))
  (fun d α ML slots chg new lp I a b next _ _ _ E H K=>K E H (.join d α ML slots chg new lp I a b next))
  (fun v h _ E H K=>K E H (.as v h))
  (fun o h _ E H K=>K E H (.ghost o h))
  (fun ts h _ E H K=>K E H (.frz ts h))
  (fun deps v chg new h _ E H K=>K E H (.mn deps v chg new h))
  (fun l k d ts bs h _ E H K=>K E H (.fam l k d ts bs h))
  (fun l h _ E H K=>K E H (.tab l h))
  (fun es h _ E H K=>K E H (.vp es h))
  (fun h1 h2 _ _ E H K=>K E H (.nxt h1 h2))
  (fun deps ids α I v chg new h _ E H K=>K E H (.GA deps ids α I v chg new h)) h
def vas(h:Hint):Value->HT->(Value->HT->Hint->Prop)->Prop :=
 Hint.rec (motive:=fun _=>Value->HT->(Value->HT->Hint->Prop)->Prop)
  (fun v H K=>K v H .auto)
  (fun n h _ v H K=>K v H (.go n h))
  (fun a b _ _ v H K=>K v H (.fork a b))
  (fun a b _ _ v H K=>K v H (.aT a b))
  (fun h _ v H K=>K v H (.need h))
  (fun x h _ v H K=>K v H (.val x h))
  (fun deps x new h _ v H K=>K v H (.ans deps x new h))
  (fun Mc h _ v H K=>K v H (.into Mc h))
  (fun h _ v H K=>K v H (.keep h))
  (fun id o h _ v H K=>K v H (.obj id o h))
  (fun t x h _ v H K=>K v H (.slot t x h))
  (fun α f _ v H K=>K v H (.bind α f))
  (fun d α x0 σ0 ML slots chg new lp I μ body _ v H K=>K v H (.inv d α x0 σ0 ML slots chg new lp I μ body))
  (fun σ v H K=>K v H (.again σ))
  (fun p a b _ _ v H K=>K v H (.cas p a b))
  (fun d α ML slots chg new lp I a b next _ _ _ v H K=>K v H (.join d α ML slots chg new lp I a b next))
  (fun x h ih v H K=>wk v x/\ih x H K)
  (fun o h ih v H K=>ih v (H.push o) K)
  (fun ts h _ v H K=>K v H (.frz ts h))
  (fun deps x chg new h _ v H K=>K v H (.mn deps x chg new h))
  (fun l k d ts bs h _ v H K=>K v H (.fam l k d ts bs h))
  (fun l h _ v H K=>K v H (.tab l h))
  (fun es h _ v H K=>K v H (.vp es h))
  (fun h1 h2 _ _ v H K=>K v H (.nxt h1 h2))
  (fun deps ids α I x chg new h _ v H K=>K v H (.GA deps ids α I x chg new h)) h
def f8(id:Nat):List Nat->Bool
 | [] =>false
 |x :: xs=>cond (Nat.beq id x) true (f8 id xs)
theorem iU{id:Nat}:∀{l:List Nat},f8 id l=true->id∈l
 | [],h=>by cases h
 |x :: xs,h=>by
  unfold f8 at h
  cases hb:Nat.beq id x with
  |true=>exact List.mem_cons.2 (.inl (Nat.eq_of_beq_eq_true hb))
  |false=>rw[hb]at h;exact List.mem_cons_of_mem _ (iU h)
def MS.list(M:MS)(n:Nat):List Nat:=match M with|none=>List.range n|some l=>l
def wM(base:Nat)(M:MS)(ms:List Nat):Bool :=
 match M with
 |none=>true
 |some l=>ms.all fun id=>cond (Nat.ble base id) true (f8 id l)
theorem mu{base:Nat}{M:MS}{ms:List Nat}(h:wM base M ms=true):∀id∈ms,id<base->id∈M.list base:=by
 intro id hid hb
 cases M with
 |none=>exact List.mem_range.2 hb
 |some l =>
  simp only[wM,List.all_eq_true]at h
  have:=h id hid
  cases hq:Nat.ble base id with
  |true=>have:=Nat.le_of_ble_eq_true hq;omega
  |false=>rw[hq]at this;exact iU this
def uI(base n:Nat)(M Mc:MS):Bool :=
 match Mc with
 |none=>M.isNone
 |some l=>wM base M l
theorem gP{base n:Nat}{M Mc:MS}(h:uI base n M Mc=true):∀id∈Mc.list n,id<base->id∈M.list base:=by
 intro id hid hb
 cases Mc with
 |none =>
  cases M with
  |none=>exact List.mem_range.2 hb
  |some l=>cases h
 |some l=>exact mu (M:=M) h id hid hb
def pb(bs:List Nat)(j:Nat)(log:List (Nat×Option Nat))(ms:List Nat):Bool :=
 log.all fun p=>im bs j p.1 ||(match p.2 with|none=>true|some x => !(f8 x ms))
theorem zb{id:Nat}:∀{l:List Nat},id∈l->f8 id l=true
 | [],h=>by cases h
 |x :: xs,h=>by
  unfold f8
  rcases List.mem_cons.1 h with rfl|h
  ·rw[Nat.beq_refl];rfl
  ·cases Nat.beq id x with
   |true=>rfl
   |false=>exact zb h
theorem ng{bs:List Nat}{j:Nat}{log:List (Nat×Option Nat)}{ms:List Nat}(h:pb bs j log ms=true):Loose bs j log ms:=by
 intro p hp hd x hx hm
 unfold pb at h
 rw[List.all_eq_true]at h
 have:=h p hp
 rw[hd,hx]at this
 simp[zb hm]at this
abbrev KV:=Value->HT->Hint->Prop
abbrev nQ:=FuncId->List Value->HT->MS->Hint->KV->Prop
abbrev qO:=Value->List Value->HT->MS->Hint->KV->Prop
def Av(P:Program)(fv:Value)(args:List Value)(H:Heap)(Mc:List Nat)(v:Value)(H':Heap):Prop :=
 match fv with
 | .func (.func f) first cap=>ad P f (first.toList++args++cap.toList) H Mc (Is v H')
 |fv=>i8 P fv args H Mc (Is v H')
def Kr(P:Program)(fv:Value)(args:List Value)(H:Heap)(Mc:List Nat)(Q:Value->Heap->Prop):Prop :=
 match fv with
 | .func (.func f) first cap=>ad P f (first.toList++args++cap.toList) H Mc Q
 |fv=>i8 P fv args H Mc Q
def wv(H:HT):List (Nat×ab)->Prop
 | [] =>True
 |(id,o) :: r=>H.get id=some o/\wv H r
def ww(H:Heap):List (Nat×ab)->Prop
 | [] =>True
 |(id,o) :: r=>H[id]?=some o/\ww H r
def xM(H:Heap):List ab->Heap
 | [] =>H
 |o :: r=>H++(o :: r)
def yP(H:Heap):List (Nat×ab)->Heap
 | [] =>H
 |(id,o) :: r=>yP (H.set id o) r
def yO(H:HT):List (Nat×ab)->HT
 | [] =>H
 |(id,o) :: r=>yO (H.set id o) r
def zQ:List (Nat×ab)->List Nat
 | [] => []
 |(id,_) :: r=>id :: zQ r
def iv(H:HT):List ab->HT
 | [] =>H
 |o :: r=>iv (H.push o) r
def ov(P:Program)(app:qO)(wok:MS->Bool)(dm:Value->MS)(o:Oper)(E:Env)(H:HT)(h:Hint)(K:Env->HT->Option Nat->Hint->Prop):Prop :=
 match eQ o.op with
 | .pure =>
  match h with
  | .fork h1 h2 =>
   match o.op with
   | .pick (.tmp t) x y =>
    match E.get t with
    | .bool b=>(b=true->K ((E.put (some t) (.bool true)).put o.dst (ev E.get x)) H none h1)/\(b=false->K ((E.put (some t) (.bool false)).put o.dst (ev E.get y)) H none h2)
    |_=>False
   |_=>False
  | .need h' =>
   match CG P o.op (ev E.get) H with
   |some (c,v,rd)=>c/\K (E.put o.dst v) H rd h'
   |none=>False
  | .val v h' =>
   match o.op with
   | .load t a =>
    match ev E.get a with
    | .pointer (some ⟨id,off,none⟩) =>
     match H.get id with
     |some (.cells _ _ cs)=>cY P t cs off=some v/\K (E.put o.dst v) H (some id) h'
     |_=>False
    | .pointer (some ⟨id,off,some (k+3)⟩) =>
     match H.get id with
     |some (.fam (z+1) cs) =>
      match vI P t off (z+1) with
      |true=>cY P t cs (k*(z+1)+off)=some v/\K (E.put o.dst v) H (some id) h'
      |false=>False
     |_=>False
    | .iface off (.tuple cs)=>cY P t cs.toList off=some v/\K (E.put o.dst v) H none h'
    |_=>False
   | .index t x i=>ia P t (ev E.get x) (ev E.get i)=some v/\K (E.put o.dst v) H none h'
   | .lookup t x i ok =>
    match P.underlying t,ev E.get x with
    |some (.map kt el),.map (some id) =>
     match H.get id,e9 P el,gk P kt (ev E.get i) with
     |some (.map es),some z,true=>dR P kt z (ev E.get i) ok es=some v/\K (E.put o.dst v) H (some id) h'
     |_,_,_=>False
    |_,_=>False
   |_=>False
  |h =>
   match h.dflt with
   |some h' =>
    match xk P o.op (ev E.get) H with
    |some (v,rd)=>K (E.put o.dst v) H rd h'
    |none=>False
   |none=>False
 | .alloc =>
  match h with
  | .need h' =>
   match xo P o.op (ev E.get) H.n with
   |some (c,v,ob)=>c/\K (E.put o.dst v) (H.push ob) (some H.n) h'
   |none=>False
  |h =>
   match h.dflt with
   |some h' =>
    match jl P o.op (ev E.get) H.n with
    |some (v,ob)=>K (E.put o.dst v) (H.push ob) (some H.n) h'
    |none=>False
   |none=>False
 | .write =>
  match h with
  | .need h' =>
   match xn P o.op (ev E.get) H with
   |some (c,v,H',ms)=>c/\wok (some ms)=true/\K (E.put o.dst v) H' none h'
   |none=>False
  | .val _ h' =>
   match tI P o.op (ev E.get) with
   |some (c,v)=>c/\K (E.put o.dst v) H none h'
   |none=>False
  | .vp es' h' =>
   match o.op with
   | .mapUpdate t m k v =>
    match P.underlying t,ev E.get m with
    |some (.map kt el),.map (some id) =>
     match H.get id,gk P kt (ev E.get k),wok (some [id]) with
     |some (.map es),true,true=>ix P kt (ev E.get k) (ev E.get v) es=some es'/\K (E.put o.dst undef) (H.set id (.map es')) none h'
     |_,_,_=>False
    |_,_=>False
   |_=>False
  |h =>
   match h.dflt with
   |some h' =>
    match tC P o.op (ev E.get) H with
    |some (v,H',ms)=>match wok (some ms) with|true=>K (E.put o.dst v) H' none h'|false=>False
    |none=>False
   |none=>False
 | .call =>
  match o.op with
  | .call ⟨.value f,args,_⟩ =>
   match h with
   | .ans deps v new h'=>wv H deps/\(∀H':Heap,H'.length=H.n->ww H' deps->Av P (ev E.get f) (args.toList.map (ev E.get)) H' [] v (xM H' new))/\K (E.put o.dst v) (iv H new) none h'
   | .mn deps v chg new h' =>
    match wok (some (zQ chg)) with
    |true=>wv H deps/\(∀H':Heap,H'.length=H.n->ww H' deps->Av P (ev E.get f) (args.toList.map (ev E.get)) H' (zQ chg) v (xM (yP H' chg) new))/\K (E.put o.dst v) (iv (yO H chg) new) none h'
    |false=>False
   | .GA deps ids α I v chg new h' =>
    match wok (some ids) with
    |true=>wv H deps/\(∀H':Heap,H'.length=H.n->ww H' deps->Kr P (ev E.get f) (args.toList.map (ev E.get)) H' ids (fun y H2 => ∃x,I x/\y=v x/\H2=xM (yP H' (chg x)) (new x)))/\∀x,I x->K (E.put o.dst (v x)) (iv (yO H (chg x)) (new x)) none (h' x)
    |false=>False
   | .into Mc h'=>match wok Mc with|true=>app (ev E.get f) (args.toList.map (ev E.get)) H Mc h' (fun v H' h''=>K (E.put o.dst v) H' none h'')|false=>False
   |h =>
    match h.dflt with
    |some h'=>match wok (dm (ev E.get f)) with|true=>app (ev E.get f) (args.toList.map (ev E.get)) H (dm (ev E.get f)) h' (fun v H' h''=>K (E.put o.dst v) H' none h'')|false=>False
    |none=>False
  |_=>False
 | .iter =>
  match o.op with
  | .range t x =>
   match P.underlying t,ev E.get x with
   |some (.map _ _),.map (some id) =>
    match H.get id,h.dflt with
    |some (.map es),some h'=>K (E.put o.dst (.pointer (some ⟨H.n,0,none⟩))) (H.push (.iter id es.length [])) none h'
    |_,_=>False
   |_,_=>False
  | .next it false =>
   match ev E.get it with
   | .pointer (some ⟨id,0,none⟩) =>
    match H.get id with
    |some (.iter m n seen) =>
     match H.get m,wok (some [id]),h with
     |some (.map es),true,.nxt h1 h2=>es.length=n/\(∀i,i<n->i ∉ seen->K (E.put o.dst (.tuple #[.bool true,.chan none,.chan none])) (H.set id (.iter m n (seen ++ [i]))) none (h1 i)) /\
       ((∀i,i<n->i∈seen)->K (E.put o.dst (.tuple #[.bool false])) H none h2)
     |_,_,_=>False
    |_=>False
   |_=>False
  | .entry it =>
   match ev E.get it with
   | .pointer (some ⟨id,0,none⟩) =>
    match H.get id with
    |some (.iter m n seen) =>
     match H.get m,h with
     |some (.map es),.val v h'=>es.length=n/\gx es seen=some v/\K (E.put o.dst v) H none h'
     |_,_=>False
    |_=>False
   |_=>False
  |_=>False
 | .bad=>False
def sS(P:Program)(app:qO)(wok:MS->Bool)(dm:Value->MS)(ops:Array Oper)(o:Oper)(E:Env)(H:HT)(h:Hint)(K:Env->HT->Option Nat->Hint->Prop)(ru:Env->HT->Hint->Prop):Prop :=
 fE E fun E=>fH H fun H=>jI h E H fun E H h =>
 match o.guard with
 |none=>ov P app wok dm o E H h K
 |some (g,want) =>
  match (ops[g]?).bind (·.dst) with
  |none=>ru (E.put o.dst undef) H h
  |some d =>
   match E.get d with
   | .bool b =>
    match h with
    | .aT h1 h2 =>
     (b=true->cond want (jI h1 (E.put (some d) (.bool true)) H fun E H h=>ov P app wok dm o E H h K) (ru ((E.put (some d) (.bool true)).put o.dst undef) H h1)) /\
     (b=false->cond want (ru ((E.put (some d) (.bool false)).put o.dst undef) H h2) (jI h2 (E.put (some d) (.bool false)) H fun E H h=>ov P app wok dm o E H h K))
    |h=>cond (cond b want (!want)) (ov P app wok dm o E H h K) (ru (E.put o.dst undef) H h)
   | .chan _=>False
   |_=>ru (E.put o.dst undef) H h
def uO(base:Nat)(M:MS):List Nat->Env->HT->(Env->HT->Prop)->Prop
 | [],E,H,K=>K E H
 |t :: ts,E,H,K =>
  match E.get t with
  | .slice (some ⟨id,0,tag⟩) n _ =>
   match (match tag with|none=>true|some k=>Nat.beq k 1)&&wM base M [id] with
   |true =>
    match H.get id with
    |some (.cells true _ cs)=>uO base M ts (E.put (some t) (.iface (Nat.succ n) (.agg ⟨cs⟩))) (H.set id .dead) K
    |_=>False
   |false=>False
  | .iface (n+1) (.agg cs)=>uO base M ts (E.put (some t) (.slice (some ⟨H.n,0,some 2⟩) n n)) (H.push (.cells false 0 cs.toList)) K
  |_=>False
def BD(base:Nat)(M:MS)(h:Hint)(E:Env)(H:HT)(K:Env->HT->Hint->Prop):Prop :=
 match h with
 | .frz ts h'=>uO base M ts E H (fun E H=>K E H h')
 |h=>K E H h
def BC(P:Program)(app:qO)(base n:Nat)(M:MS)(dm:Value->MS)(ops:Array Oper):List Oper->Env->HT->Hint->(Env->HT->Hint->Prop)->Prop
 | [],E,H,h,K=>K E H h
 |o :: os,E,H,h,K=>BD base M h E H fun E H h=>sS P app (fun Mc=>uI base H.n M Mc) dm ops o E H h (fun E' H' _ h'=>BC P app base n M dm ops os E' H' h' K) (fun E' H' h'=>BC P app base n M dm ops os E' H' h' K)
def uM(P:Program)(app:qO)(base:Nat)(M:MS)(dm:Value->MS)(bs:List Nat)(ops:Array Oper):List Nat->Env->HT->List (Nat×Option Nat)->Hint->(Env->HT->Hint->Prop)->Prop
 | [],E,H,_,h,K=>K E H h
 |i :: is,E,H,log,h,K =>
  match ops[i]? with
  |none=>False
  |some o =>
   match eQ o.op with
   | .iter=>False
   |_=>sS P app (fun Mc=>uI base H.n M Mc&&pb bs i log (Mc.list H.n)) dm ops o E H h
     (fun E' H' rd h'=>uM P app base M dm bs ops is E' H' (match eQ o.op with| .pure| .alloc=>(i,rd) :: log|_=>log) h' K)
     (fun E' H' h'=>uM P app base M dm bs ops is E' H' log h' K)
def lZ(id:Nat):List (Nat×Nat)->Option Nat
 | [] =>none
 |(a,b) :: r=>cond (Nat.beq id a) (some b) (lZ id r)
def sg(n0:Nat)(σ:List (Nat×Nat))(id:Nat):Option Nat:=cond (Nat.blt id n0) (some id) (lZ id σ)
def rW(k:Nat×Nat):List (Nat×Nat)->Bool
 | [] =>true
 |q :: r=>cond (Nat.beq k.1 q.1) false (cond (Nat.beq k.2 q.2) false (rW k r))
def lz(id:Nat)(chg:List (Nat×Bool×ab)):Bool :=
 cond (chg.any fun p=>Nat.beq p.1 id) (chg.all fun p=>cond (Nat.beq p.1 id) (match p.2.2 with| .dead=>true|_=>false) true) false
def uZ(n0 n:Nat)(chg:List (Nat×Bool×ab)):List (Nat×Nat)->Bool
 | [] =>true
 |p :: r=>cond (Nat.ble n0 p.1) (cond (Nat.blt p.1 n) (cond (cond (Nat.ble n0 p.2) true (lz p.2 chg)) (cond (rW p r) (uZ n0 n chg r) false) false) false) false
def jN(T:Tm)(σ:Nat->Option Nat)(d:Nat):List (Nat×Value)->Prop
 | [] =>True
 |(t,v) :: r=>(match v with| .slice (some ⟨_,_,some _⟩) _ _=>wk (T t) (rn σ d v)|v=>T t=rn σ d v)/\jN T σ d r
def rU(H:HT)(n0:Nat)(σ:Nat->Option Nat)(d:Nat)(id:Nat)(plain:Bool)(o:ab):Prop :=
 match o with
 | .dead=>True
 | .loop .. =>False
 | .iter m n s=>match σ id with
  |some id'=>H.get id'=some (.iter m n s)/\aj n0 (.iter m n s)=true
  |none=>True
 |o=>match σ id with
  |some id'=>cond plain (H.get id'=some o/\aj n0 o=true) (match H.get id' with|some o'=>wkO o' (rno σ d o)|none=>False)
  |none=>True
def wA(H:HT)(n0:Nat)(σ:Nat->Option Nat)(d:Nat):List (Nat×Bool×ab)->Prop
 | [] =>True
 |(id,plain,o) :: r=>rU H n0 σ d id plain o/\wA H n0 σ d r
def oV(H:HT)(n0:Nat)(σ:Nat->Option Nat)(d:Nat):Nat->List (Bool×ab)->Prop
 |_,[] =>True
 |id,(plain,o) :: r=>rU H n0 σ d id plain o/\oV H n0 σ d (Nat.succ id) r
def Ib(H H0:HT)(σ:Nat->Option Nat)(d:Nat):List (Nat×List (Nat×Value))->Prop
 | [] =>True
 |(L,sl) :: r =>
  (match H0.get L,H.get L with
  |some (.loop .ready none _ N ps as bd),some (.loop .ready none tm' N' ps' as' bd')=>(N=N'/\ps=ps'/\as=as'/\bd=bd')/\jN tm' σ d sl
  |_,_=>False)/\Ib H H0 σ d r
def me(slots:List (Nat×Value)):Env:=slots.foldl (fun E p=>E.put (some p.1) p.2) ⟨fun _=>junk,.leaf⟩
def di(H:HT)(p:Nat×List (Nat×Value)):HT :=
 match H.get p.1 with
 |some (.loop st pe _ N ps as bd)=>H.set p.1 (.loop st pe (me p.2).get N ps as bd)
 |_=>H
def jA(H:HT)(chg:List (Nat×Bool×ab))(new:List (Bool×ab))(lp:List (Nat×List (Nat×Value))):HT :=
 new.foldl (fun H p=>H.push p.2) (chg.foldl (fun H p=>H.set p.1 p.2.2) (lp.foldl di H))
def wB(n0:Nat)(ML:List Nat):List (Nat×Bool×ab)->Bool
 | [] =>true
 |p :: r=>cond (f8 p.1 ML) (cond (Nat.blt p.1 n0) (wB n0 ML r) false) false
def CE(n0:Nat)(ML:List Nat)(chg:List (Nat×Bool×ab)):List (Nat×List (Nat×Value))->Bool
 | [] =>true
 |p :: r=>cond (f8 p.1 ML) (cond (Nat.blt p.1 n0) (cond (chg.any fun q=>Nat.beq q.1 p.1) false (cond (r.any fun q=>Nat.beq q.1 p.1) false (CE n0 ML chg r))) false) false
def allIn(chg:List (Nat×Bool×ab))(lp:List (Nat×List (Nat×Value))):List Nat->Bool
 | [] =>true
 |id :: r=>cond (cond (chg.any fun p=>Nat.beq p.1 id) true (lp.any fun p=>Nat.beq p.1 id)) (allIn chg lp r) false
def p9(N:Nat)(E:Env)(H:HT)(H0:HT)(d:Nat)(ML:List Nat)(σ:List (Nat×Nat))(slots:List (Nat×Value))(chg:List (Nat×Bool×ab))(new:List (Bool×ab))(lp:List (Nat×List (Nat×Value))):Prop :=
 (uZ H0.n (Nat.add H0.n new.length) chg σ&&(wB H0.n ML chg&&(CE H0.n ML chg lp&&allIn chg lp ML)))=true/\jN E.get (sg H0.n σ) d slots/\wA H H0.n (sg H0.n σ) d chg/\oV H H0.n (sg H0.n σ) d H0.n new/\Ib H H0 (sg H0.n σ) d lp
def yH(body:Env->HT->Hint->(Exit->Env->HT->Hint->Prop)->Prop)(K:Exit->Env->HT->Hint->Prop):Nat->Env->HT->Hint->Prop
 |0,_,_,_=>False
 |n+1,E,H,h=>body E H h fun e E' H' h'=>match e with| .normal=>yH body K n E' H' h'|e=>K e E' H' h'
def DN:Code->Option Exit
 | .ret=>some .ret
 | .exit id=>some (.exit id)
 |_=>none
def MS.also(id:Nat)(M:MS):MS:=match M with|none=>none|some l=>some (id :: l)
def sU(K:Exit->Env->HT->Hint->Prop)(E:Env)(H:HT)(h:Hint):Option Code->Prop
 |none=>K .normal E H h
 |some c=>match DN c with|some e=>K e E H h|none=>False
def BG(K:Exit->Env->HT->Hint->Prop)(E:Env)(H:HT)(h:Hint)(pe:Option Code):LoopState->Prop
 | .busy=>False
 |_=>sU K E H h pe
def dV(P:Program)(call:nQ)(app:qO)(dm:Value->MS)(N rounds:Nat)(inr:Bool):Code->Nat->MS->Env->HT->Hint->(Exit->Env->HT->Hint->Prop)->Prop
 | .region _ ops draw,base,M,E,H,h,K =>
  BD base M h E H fun E H h =>
  cond draw (uM P app base M dm (ei ops.toList []) ops (G6 ops.toList) E H [] h (fun E' H' h'=>K .normal E' H' h'))
   (BC P app base 0 M dm ops ops.toList E H h (fun E' H' h'=>K .normal E' H' h'))
 | .skip,_,_,E,H,h,K=>K .normal E H h
 | .label _,_,_,E,H,h,K=>K .normal E H h
 | .ret,_,_,E,H,h,K=>K .ret E H h
 | .exit id,_,_,E,H,h,K=>K (.exit id) E H h
 | .seq a b,base,M,E,H,h,K=>dV P call app dm N rounds inr a base M E H h fun e E' H' h'=>match e with| .normal=>dV P call app dm N rounds inr b base M E' H' h' K|e=>K e E' H' h'
 | .scope b,base,M,E,H,h,K=>dV P call app dm N rounds inr b base M E H h fun e E' H' h'=>match e with| .goto _=>False|e=>K e E' H' h'
 | .block id b,base,M,E,H,h,K=>dV P call app dm N rounds inr b base M E H h fun e E' H' h'=>match e with| .exit id'=>cond (Nat.beq id' id) (K .normal E' H' h') (K (.exit id') E' H' h')|e=>K e E' H' h'
 | .cond (.tmp t) a b,base,M,E,H,h,K =>
  jI h E H fun E H h =>
  match E.get t with
  | .bool c =>
   match h with
   | .fork h1 h2=>(c=true->dV P call app dm N rounds inr a base M (E.put (some t) (.bool true)) H h1 K)/\(c=false->dV P call app dm N rounds inr b base M (E.put (some t) (.bool false)) H h2 K)
   |h=>match h.dflt with|some h'=>(match c with|true=>dV P call app dm N rounds inr a base M E H h' K|false=>dV P call app dm N rounds inr b base M E H h' K)|none=>False
  |_=>False
 | .cond (.const (.bool c)) x y,base,M,E,H,h,K =>
  match c with
  |true=>dV P call app dm N rounds inr x base M E H h K
  |false=>dV P call app dm N rounds inr y base M E H h K
 | .loop b,base,M,E,H,h,K =>
  jI h E H fun E H h =>
  match h with
  | .inv d α x0 σ0 ML slots chg new lp I μ hb =>
   wM base M ML=true/\I x0/\p9 N E H H d ML σ0 (slots x0) (chg x0) (new x0) (lp x0)/\(∀x,(wB H.n ML (chg x)&&CE H.n ML (chg x) (lp x))=true) /\
   ∀x,I x->dV P call app dm N rounds inr b H.n (some ML) (me (slots x)) (jA H (chg x) (new x) (lp x)) (hb x) fun e E' H' h'=>match e with
    | .normal=>jI h' E' H' fun E' H' h'=>match h' with| .again σ => ∃x',I x'/\μ x'<μ x/\p9 N E' H' H d ML σ (slots x') (chg x') (new x') (lp x')|_=>False
    |e=>K e E' H' h'
  |h=>yH (fun E H h K=>dV P call app dm N rounds inr b base M E H h K) K rounds E H h
 | .rangeFunc (.tmp t) ps as bd,base,M,E,H,h,K =>
  jI h E H fun E H h =>
  cond inr False
   (match E.get t with
   | .func (.func gf) first cap =>
    match (match h with| .into Mc h'=>some (Mc,h')|h=>match h.dflt with|some h'=>some (none,h')|none=>none) with
    |some (Mc,h') =>
     match uI base H.n M Mc&&Nat.ble base H.n with
     |true=>call gf (first.toList ++ [.func (.yield H.n) #[] #[]]++cap.toList) (H.push (.loop .ready none E.get N ps as bd)) (MS.also H.n Mc) h' (fun _ H' h'' =>
       match H'.get H.n with
       |some (.loop st pe _ _ _ _ _)=>BG K E (H'.set H.n .dead) h'' pe st
       |_=>False)
     |false=>False
    |none=>False
   |_=>False)
 |_,_,_,_,_,_,_=>False
def wP(P:Program)(call:nQ)(app:qO)(dm:Value->MS)(rounds:Nat)(mixed:Bool)(L:Nat)(args:List Value)(H:HT)(M:MS)(h:Hint)(K:KV):Prop :=
 match H.get L with
 |some (.loop .ready _ tm N ps as bd) =>
  match Nat.beq args.length ps.size&&(ps.toList.all (fun p=>decide (p<N))&&(codeOk N P.globals.size mixed as&&(codeOk N P.globals.size mixed bd&&(match M with|none=>Nat.blt L H.n|some l=>f8 L l)))) with
  |true=>dV P call app dm N rounds true as H.n M ⟨oC ps.toList args tm,.leaf⟩ H h fun e E1 H1 h1 =>
   match e with
   | .normal =>
    match H1.get L with
    |some (.loop .ready pe1 tm1 N1 ps1 as1 bd1)=>dV P call app dm N rounds true bd H.n M E1 (H1.set L (.loop .busy pe1 tm1 N1 ps1 as1 bd1)) h1 fun e E2 H2 h2 =>
     jI h2 E2 H2 fun E2 H2 h2 =>
     match xG e with
     |some j =>
      match H2.get L with
      |some (.loop _ _ tm2 N2 ps2 as2 bd2)=>K (.bool j.isNone) (H2.set L (.loop (match j.isNone with|true => .ready|false => .done) j tm2 N2 ps2 as2 bd2)) h2
      |_=>False
     |none=>False
    |_=>False
   |_=>False
  |false=>False
 |_=>False
def jU(P:Program)(T:Tm)(H:HT):ResultVar->Option Value
 | .tmp t=>some (T t)
 | .cell a ty=>(po P ty (T a) H).map (·.1)
def zj(P:Program)(rs:List ResultVar)(T:Tm)(H:HT):Option Value :=
 match rs with
 | [r] =>jU P T H r
 | [r,r2] =>match jU P T H r,jU P T H r2 with|some v,some v2=>some (.tuple ⟨[v,v2]⟩)|_,_=>none
 | [r,r2,r3] =>match jU P T H r,jU P T H r2,jU P T H r3 with|some v,some v2,some v3=>some (.tuple ⟨[v,v2,v3]⟩)|_,_,_=>none
 | [] =>some (.tuple ⟨[]⟩)
 |_=>none
def rz(n:Nat)(M:MS)(v:Value)(H':HT)(h:Hint)(K:KV):Prop :=
 match h with
 | .keep h'=>K v H' h'
 |h =>
  match M with
  |none=>K v H' h
  |some l =>
   match cn n v&&l.all (fun id=>match H'.get id with|some o=>aj n o|none=>true) with
   |true=>K v (H'.take n) h
   |false=>K v H' h
def BE(P:Program)(mask:Nat)(call:nQ)(app:qO)(dm:Value->MS)(rounds:Nat)(f:FuncId)(args:List Value)(H:HT)(M:MS)(h:Hint)(K:KV):Prop :=
 match Nat.testBit mask f with
 |true =>
  match P.funcs[f]? with
  |some fn =>
   match fn.body with
   |some c =>
    match Nat.ble args.length fn.ntmps with
    |true=>dV P call app dm fn.ntmps rounds false c H.n M ⟨zO args,.leaf⟩ H h fun e E' H' h' =>
     match e with
     | .normal=>jI h' E' H' fun E' H' h'=>match zj P fn.results.toList E'.get H' with|some v=>vas h' v H' (fun v H' h'=>rz H.n M v H' h' K)|none=>False
     | .ret=>jI h' E' H' fun E' H' h'=>match zj P fn.results.toList E'.get H' with|some v=>vas h' v H' (fun v H' h'=>rz H.n M v H' h' K)|none=>False
     |_=>False
    |false=>False
   |none=>False
  |none=>False
 |false=>False
def EL(call:nQ)(yld:Nat->List Value->HT->MS->Hint->KV->Prop)(fv:Value)(args:List Value)(H:HT)(M:MS)(h:Hint)(K:KV):Prop :=
 match fv with
 | .func (.func f) first cap=>call f (first.toList++args++cap.toList) H M h K
 | .func (.yield L) ⟨[]⟩ ⟨[]⟩=>yld L args H M h K
 |_=>False
def vF(P:Program)(mask:Nat)(dm:Value->MS)(rounds:Nat)(mixed:Bool):Nat->Bool->Nat->List Value->HT->MS->Hint->KV->Prop
 |0,_,_,_,_,_,_,_=>False
 |n+1,b,f,args,H,M,h,K =>
  match b with
  |true=>BE P mask (vF P mask dm rounds mixed n true) (EL (vF P mask dm rounds mixed n true) (vF P mask dm rounds mixed n false)) dm rounds f args H M h K
  |false=>wP P (vF P mask dm rounds mixed n true) (EL (vF P mask dm rounds mixed n true) (vF P mask dm rounds mixed n false)) dm rounds mixed f args H M h K
end
end Go.K
