/- The canonical heap, the relation between canonical and real values, and what a step may do to memory. No condition. -/
import Derived.RangeFuncLeaves
import Derived.OrdersIn
import Derived.Below
import Derived.TacticsIn
import Derived.Laws.StructEq
import Derived.RangeFuncRecord
import Derived.ChangeKeysEq
open Go
set_option linter.unusedVariables false
set_option linter.unusedSimpArgs false
namespace Go.K
inductive aa where
 |cells (own:Bool) (z:Nat) (cs:List Value)
 |map (es:List (Value×Value))
 |loop (st:LoopState) (pending:Option Code) (tm:Nat->Value) (N:Nat) (ps:Array Nat) (assign body:Code)
 |fam (z:Nat) (cs:List Value)
 |iter (m n:Nat) (seen:List Nat)
 |dead
instance:Inhabited aa:=⟨.dead⟩
abbrev Heap:=List aa
def aa.alive:aa->Bool
 | .dead=>false
 | .fam _ _=>false
 |_=>true
def aa.owned:aa->Bool
 | .cells o _ _=>o
 | .map _=>true
 | .loop .. =>true
 | .iter .. =>true
 | .fam _ _=>false
 | .dead=>false
abbrev Tm:=Nat->Value
def upd(T:Tm)(d:Nat)(v:Value):Tm:=fun t=>if t=d then v else T t
def put(T:Tm)(dst:Option Nat)(v:Value):Tm :=
 match dst with
 |some d=>upd T d v
 |none=>T
def ev(T:Tm):Operand->Value
 | .tmp t=>T t
 | .const v=>v
 | .global g => .pointer (some ⟨g,0,none⟩)
 | .func f => .func (.func f) #[] #[]
structure RI where
 b:Nat
 s:Nat
 n:Nat
 z:Nat
 own:Bool
structure Ren where
 f:Nat->Option RI
 mem:Nat->Option (Array Value)
 g:Nat->Nat->Option RI
instance:CoeFun Ren (fun _=>Nat->Option RI):=⟨Ren.f⟩
structure Ren.le(ρ ρ':Ren):Prop where
 f:∀id r,ρ id=some r->ρ' id=some r
 mem:∀b m,ρ.mem b=some m->ρ'.mem b=some m
 g:∀F k r,ρ.g F k=some r->ρ'.g F k=some r
instance {ρ ρ':Ren}:CoeFun (Ren.le ρ ρ') (fun _ => ∀id r,ρ id=some r->ρ' id=some r):=⟨Ren.le.f⟩
theorem Ren.le_refl(ρ:Ren):Ren.le ρ ρ:=⟨fun _ _ h=>h,fun _ _ h=>h,fun _ _ _ h=>h⟩
theorem Ren.le_trans{a b c:Ren}(h:Ren.le a b)(k:Ren.le b c):Ren.le a c:=⟨fun id r x=>k id r (h id r x),fun b m x=>k.mem b m (h.mem b m x),fun F i r x=>k.g F i r (h.g F i r x)⟩
inductive VR (ρ:Ren):Value->Value->Prop
 |junk (v'):VR ρ (.chan none) v'
 |bool (b):VR ρ (.bool b) (.bool b)
 |int (k n):VR ρ (.int k n) (.int k n)
 |float (k n):VR ρ (.float k n) (.float k n)
 |string (s):VR ρ (.string s) (.string s)
 |bK:VR ρ (.pointer none) (.pointer none)
 |ptr {id o r} (h:ρ id=some r):VR ρ (.pointer (some ⟨id,o,none⟩)) (.pointer (some ⟨r.b,o+r.s,none⟩))
 |dS {F k o r} (h:ρ.g F k=some r):VR ρ (.pointer (some ⟨F,o,some (k+3)⟩)) (.pointer (some ⟨r.b,o+r.s,none⟩))
 |aT:VR ρ (.slice none 0 0) (.slice none 0 0)
 |slice {id o r len cap cap'} (h:ρ id=some r) (hl:len<=cap) (hc:cap<=cap') (ho:r.own=true->r.z≠0->o+r.s+cap'*r.z<=r.n) :
   VR ρ (.slice (some ⟨id,o,none⟩) len cap) (.slice (some ⟨r.b,o+r.s,none⟩) len cap')
 |aQ {id o r o'} (h:ρ id=some r):VR ρ (.slice (some ⟨id,o,none⟩) 0 0) (.slice (some ⟨r.b,o',none⟩) 0 0)
 |bv {a:Addr}:VR ρ (.slice (some ⟨0,0,some 0⟩) 0 0) (.slice (some a) 0 0)
 |ax {id o}:VR ρ (.slice (some ⟨id,o,some 1⟩) 0 0) (.slice none 0 0)
 |ay {id o} {a:Addr}:VR ρ (.slice (some ⟨id,o,some 1⟩) 0 0) (.slice (some a) 0 0)
 |aD {id o r len cap cap'} (h:ρ id=some r) (hp:0<len) (hl:len<=cap) (hc:cap<=cap') (ho:r.own=true->r.z≠0->o+r.s+cap'*r.z<=r.n) :
   VR ρ (.slice (some ⟨id,o,some 1⟩) len cap) (.slice (some ⟨r.b,o+r.s,none⟩) len cap')
 |aB {id o} {a:Option Addr} {cap'}:VR ρ (.slice (some ⟨id,o,some 2⟩) 0 0) (.slice a 0 cap')
 |aX {id o r len cap cap'} (h:ρ id=some r) (hp:0<len) (hl:len<=cap) (hc:cap<=cap') (ho:r.own=true->r.z≠0->o+r.s+cap'*r.z<=r.n) :
   VR ρ (.slice (some ⟨id,o,some 2⟩) len cap) (.slice (some ⟨r.b,o+r.s,none⟩) len cap')
 |bL:VR ρ (.map none) (.map none)
 |map {id r} (h:ρ id=some r):VR ρ (.map (some id)) (.map (some r.b))
 |nilFunc:VR ρ .nilFunc .nilFunc
 |nilIface:VR ρ .nilIface .nilIface
 |func {f:FuncId} {first first' cap cap':Array Value} (h1:first.size=first'.size) (h2:∀(i:Nat) (v v':Value),first[i]?=some v->first'[i]?=some v'->VR ρ v v')
   (h3:cap.size=cap'.size) (h4:∀(i:Nat) (v v':Value),cap[i]?=some v->cap'[i]?=some v'->VR ρ v v'):VR ρ (.func (.func f) first cap) (.func (.func f) first' cap')
 |yield {l r} (h:ρ l=some r):VR ρ (.func (.yield l) #[] #[]) (.func (.yield r.b) #[] #[])
 |agg {cs cs':Array Value} (h1:cs.size=cs'.size) (h2:∀(i:Nat) (v v':Value),cs[i]?=some v->cs'[i]?=some v'->VR ρ v v'):VR ρ (.agg cs) (.agg cs')
 |tuple {cs cs':Array Value} (h1:cs.size=cs'.size) (h2:∀(i:Nat) (v v':Value),cs[i]?=some v->cs'[i]?=some v'->VR ρ v v'):VR ρ (.tuple cs) (.tuple cs')
 |deep {n b s cap':Nat} {cs m:Array Value} (hm:ρ.mem b=some m) (hp:0<n) (hc:n<=cap') (h1:cs.size=0∨cs.size+s<=m.size) (h2:∀(i:Nat) (v v':Value),cs[i]?=some v->m[i+s]?=some v'->VR ρ v v'):VR ρ (.iface (n+1) (.agg cs)) (.slice (some ⟨b,s,none⟩) n cap')
 |br {cs:Array Value} {a:Option Addr} {cap':Nat}:VR ρ (.iface 1 (.agg cs)) (.slice a 0 cap')
 |fsl {F k n s cap':Nat} {r:RI} (h:ρ.g F k=some r) (hp:0<n) (hc:n<=cap') (hs:s=r.s) (ho:s+cap'*r.z<=r.n):VR ρ (.iface (n+1) (.pointer (some ⟨F,0,some (k+3)⟩))) (.slice (some ⟨r.b,s,none⟩) n cap')
 |bS {a:Option Addr} {p:Option Addr}:VR ρ (.iface 1 (.pointer p)) (.slice a 0 0)
 |bP {o b s:Nat} {cs m:Array Value} (hm:ρ.mem b=some m) (h1:cs.size=0∨cs.size+s<=m.size) (h2:∀(i:Nat) (v v':Value),cs[i]?=some v->m[i+s]?=some v'->VR ρ v v'):VR ρ (.iface o (.tuple cs)) (.pointer (some ⟨b,o+s,none⟩))
theorem VR.mono{ρ ρ':Ren}(hle:Ren.le ρ ρ'){v v':Value}(h:VR ρ v v'):VR ρ' v v':=by
 induction h with
 |junk v'=>exact .junk v'
 |bool b=>exact .bool b
 |int k n=>exact .int k n
 |float k n=>exact .float k n
 |string s=>exact .string s
 |bK=>exact .bK
 |ptr h=>exact .ptr (hle _ _ h)
 |dS h=>exact .dS (hle.g _ _ _ h)
 |aT=>exact .aT
 |slice h hl hc ho=>exact .slice (hle _ _ h) hl hc ho
 |aQ h=>exact .aQ (hle _ _ h)
 |bv=>exact .bv
 |ax=>exact .ax
 |ay=>exact .ay
 |aD h hp hl hc ho=>exact .aD (hle _ _ h) hp hl hc ho
 |aB=>exact .aB
 |aX h hp hl hc ho=>exact .aX (hle _ _ h) hp hl hc ho
 |bL=>exact .bL
 |map h=>exact .map (hle _ _ h)
 |nilFunc=>exact .nilFunc
 |nilIface=>exact .nilIface
 |func h1 _ h3 _ i2 i4=>exact .func h1 (fun i v v' a b=>i2 i v v' a b) h3 (fun i v v' a b=>i4 i v v' a b)
 |yield h=>exact .yield (hle _ _ h)
 |agg h1 _ i2=>exact .agg h1 (fun i v v' a b=>i2 i v v' a b)
 |tuple h1 _ i2=>exact .tuple h1 (fun i v v' a b=>i2 i v v' a b)
 |deep hm hp hc h1 _ i2=>exact .deep (hle.mem _ _ hm) hp hc h1 (fun i v v' a b=>i2 i v v' a b)
 |br=>exact .br
 |fsl h hp hc hs ho=>exact .fsl (hle.g _ _ _ h) hp hc hs ho
 |bS=>exact .bS
 |bP hm h1 _ i2=>exact .bP (hle.mem _ _ hm) h1 (fun i v v' a b=>i2 i v v' a b)
theorem VR.down{ρ ρ' ρ2:Ren}(hle:Ren.le ρ ρ')(hf:∀id r,ρ id=some r->ρ2 id=some r)(hm2:∀b m,ρ'.mem b=some m->ρ2.mem b=some m)(hg2:∀F k r,ρ.g F k=some r->ρ2.g F k=some r){v x:Value}(h:VR ρ v x):∀{y},VR ρ' v y->VR ρ2 v y:=by
 induction h with
 |junk v'=>intro y hy;exact .junk y
 |bool b=>intro y hy;cases hy;exact .bool b
 |int k n=>intro y hy;cases hy;exact .int k n
 |float k n=>intro y hy;cases hy;exact .float k n
 |string s=>intro y hy;cases hy;exact .string s
 |bK=>intro y hy;cases hy;exact .bK
 |ptr h=>intro y hy;cases hy with|ptr h'=>rw[hle _ _ h]at h';cases h';exact .ptr (hf _ _ h)
 |dS h=>intro y hy;cases hy with|dS h'=>rw[hle.g _ _ _ h]at h';cases h';exact .dS (hg2 _ _ _ h)
 |aT=>intro y hy;cases hy;exact .aT
 |slice h hl hc ho =>
  intro y hy
  cases hy with
  |slice h' hl' hc' ho'=>rw[hle _ _ h]at h';cases h';exact .slice (hf _ _ h) hl' hc' ho'
  |aQ h'=>rw[hle _ _ h]at h';cases h';exact .aQ (hf _ _ h)
 |aQ h =>
  intro y hy
  cases hy with
  |slice h' hl' hc' ho'=>rw[hle _ _ h]at h';cases h';exact .slice (hf _ _ h) hl' hc' ho'
  |aQ h'=>rw[hle _ _ h]at h';cases h';exact .aQ (hf _ _ h)
 |bv=>intro y hy;cases hy;exact .bv
 |ax =>
  intro y hy
  cases hy with
  |ax=>exact .ax
  |ay=>exact .ay
  |aD h' hp=>exact absurd hp (Nat.lt_irrefl 0)
 |ay =>
  intro y hy
  cases hy with
  |ax=>exact .ax
  |ay=>exact .ay
  |aD h' hp=>exact absurd hp (Nat.lt_irrefl 0)
 |aD h hp hl hc ho =>
  intro y hy
  cases hy with
  |ax=>exact absurd hp (Nat.lt_irrefl 0)
  |ay=>exact absurd hp (Nat.lt_irrefl 0)
  |aD h' hp' hl' hc' ho'=>rw[hle _ _ h]at h';cases h';exact .aD (hf _ _ h) hp' hl' hc' ho'
 |aB =>
  intro y hy
  cases hy with
  |aB=>exact .aB
  |aX h' hp=>exact absurd hp (Nat.lt_irrefl 0)
 |aX h hp hl hc ho =>
  intro y hy
  cases hy with
  |aB=>exact absurd hp (Nat.lt_irrefl 0)
  |aX h' hp' hl' hc' ho'=>rw[hle _ _ h]at h';cases h';exact .aX (hf _ _ h) hp' hl' hc' ho'
 |bL=>intro y hy;cases hy;exact .bL
 |map h=>intro y hy;cases hy with|map h'=>rw[hle _ _ h]at h';cases h';exact .map (hf _ _ h)
 |nilFunc=>intro y hy;cases hy;exact .nilFunc
 |nilIface=>intro y hy;cases hy;exact .nilIface
 | @func f first first' cap cap' h1 h2 h3 h4 i2 i4 =>
  intro y hy
  cases hy with
  |func g1 g2 g3 g4 =>
   refine .func g1 (fun i v v' a b =>?_) g3 (fun i v v' a b =>?_)
   ·have hi:i<first'.size:=h1 ▸ (Array.getElem?_eq_some_iff.1 a).1
    exact i2 i v _ a (Array.getElem?_eq_getElem hi) (g2 i v v' a b)
   ·have hi:i<cap'.size:=h3 ▸ (Array.getElem?_eq_some_iff.1 a).1
    exact i4 i v _ a (Array.getElem?_eq_getElem hi) (g4 i v v' a b)
 |yield h=>intro y hy;cases hy with|yield h'=>rw[hle _ _ h]at h';cases h';exact .yield (hf _ _ h)
 | @agg cs cs' h1 h2 i2 =>
  intro y hy
  cases hy with
  |agg g1 g2 =>
   refine .agg g1 (fun i v v' a b =>?_)
   have hi:i<cs'.size:=h1 ▸ (Array.getElem?_eq_some_iff.1 a).1
   exact i2 i v _ a (Array.getElem?_eq_getElem hi) (g2 i v v' a b)
 | @tuple cs cs' h1 h2 i2 =>
  intro y hy
  cases hy with
  |tuple g1 g2 =>
   refine .tuple g1 (fun i v v' a b =>?_)
   have hi:i<cs'.size:=h1 ▸ (Array.getElem?_eq_some_iff.1 a).1
   exact i2 i v _ a (Array.getElem?_eq_getElem hi) (g2 i v v' a b)
 | @deep n b s cap' cs m hm hp hc h1 h2 i2 =>
  intro y hy
  cases hy with
  |deep gm gp gc g1 g2 =>
   refine .deep (hm2 _ _ gm) gp gc g1 (fun i v v' a b =>?_)
   have hi:i+s<m.size:=by have:=(Array.getElem?_eq_some_iff.1 a).1;omega
   exact i2 i v _ a (Array.getElem?_eq_getElem hi) (g2 i v v' a b)
  |br=>exact absurd hp (Nat.lt_irrefl 0)
 |br =>
  intro y hy
  cases hy with
  |deep gm gp=>exact absurd gp (Nat.lt_irrefl 0)
  |br=>exact .br
 |fsl h hp hc hs ho =>
  intro y hy
  cases hy with
  |fsl h' hp' hc' hs' ho'=>rw[hle.g _ _ _ h]at h';cases h';exact .fsl (hg2 _ _ _ h) hp' hc' hs' ho'
  |bS=>exact absurd hp (Nat.lt_irrefl 0)
 |bS =>
  intro y hy
  cases hy with
  |fsl h' hp' hc' hs' ho'=>exact absurd hp' (Nat.lt_irrefl 0)
  |bS=>exact .bS
 | @bP o b s cs m hm h1 h2 i2 =>
  intro y hy
  cases hy with
  |bP gm g1 g2 =>
   refine .bP (hm2 _ _ gm) g1 (fun i v v' a b =>?_)
   have hi:i+s<m.size:=by have:=(Array.getElem?_eq_some_iff.1 a).1;omega
   exact i2 i v _ a (Array.getElem?_eq_getElem hi) (g2 i v v' a b)
theorem VR.deq{ρ:Ren}{id off k len cap:Nat}{x':Value}(h:VR ρ (.slice (some ⟨id,off,some (k+1)⟩) len cap) x')(hp:0<len):VR ρ (.slice (some ⟨id,off,none⟩) len cap) x':=by
 cases h with
 |ax=>exact absurd hp (Nat.lt_irrefl 0)
 |ay=>exact absurd hp (Nat.lt_irrefl 0)
 |aD h _ hl hc ho=>exact .slice h hl hc ho
 |aB=>exact absurd hp (Nat.lt_irrefl 0)
 |aX h _ hl hc ho=>exact .slice h hl hc ho
abbrev junk:Value:=.chan none
theorem VR.undef(ρ:Ren):VR ρ undef undef:=.tuple rfl (by intro i v v' h;simp at h)
def VRl(ρ:Ren)(l l':List Value):Prop:=l.length=l'.length/\∀(i:Nat) (v v':Value),l[i]?=some v->l'[i]?=some v'->VR ρ v v'
theorem VRl.mono{ρ ρ':Ren}(hle:Ren.le ρ ρ'){l l':List Value}(h:VRl ρ l l'):VRl ρ' l l':=⟨h.1,fun i v v' a b=>(h.2 i v v' a b).mono hle⟩
theorem VRl.nil(ρ:Ren):VRl ρ [] []:=⟨rfl,fun i v v' h=>by simp at h⟩
theorem VRl.cons{ρ:Ren}{v v':Value}{l l':List Value}(h:VR ρ v v')(k:VRl ρ l l'):VRl ρ (v :: l) (v' :: l') :=
 ⟨by simp[k.1],fun i x x' a b=>by
  cases i with
  |zero=>simp at a b;subst a;subst b;exact h
  |succ i=>simp at a b;exact k.2 i x x' a b⟩
theorem VRl.append{ρ:Ren}{l l' m m':List Value}(h:VRl ρ l l')(k:VRl ρ m m'):VRl ρ (l++m) (l'++m') :=
 ⟨by simp[h.1,k.1],fun i x x' a b=>by
  rcases Nat.lt_or_ge i l.length with hi|hi
  ·rw[List.getElem?_append_left hi]at a
   rw[List.getElem?_append_left (h.1 ▸ hi)]at b
   exact h.2 i x x' a b
  ·rw[List.getElem?_append_right hi]at a
   rw[List.getElem?_append_right (h.1 ▸ hi),<- h.1]at b
   exact k.2 _ x x' a b⟩
theorem VRl.get{ρ:Ren}{l l':List Value}(h:VRl ρ l l'){i:Nat}{v:Value}(a:l[i]?=some v):∃v',l'[i]?=some v'/\VR ρ v v':=by
 have hi:i<l'.length:=h.1 ▸ (List.getElem?_eq_some_iff.1 a).1
 exact ⟨_,List.getElem?_eq_getElem hi,h.2 i v _ a (List.getElem?_eq_getElem hi)⟩
theorem VRl.extract{ρ:Ren}{l l':List Value}(h:VRl ρ l l')(k n:Nat):VRl ρ ((l.drop k).take n) ((l'.drop k).take n) :=
 ⟨by simp[h.1],fun i x x' a b=>by
  rw[List.getElem?_take]at a b
  split at a <;> rename_i hi
  ·rw[if_pos hi]at b
   rw[List.getElem?_drop]at a b
   exact h.2 _ x x' a b
  ·simp at a⟩
theorem VRl.set{ρ:Ren}{l l':List Value}(h:VRl ρ l l'){v v':Value}(hv:VR ρ v v')(k:Nat):VRl ρ (l.set k v) (l'.set k v') :=
 ⟨by simp[h.1],fun i x x' a b=>by
  by_cases hik:k=i
  ·subst hik
   have hk:k<l.length:=by have:=(List.getElem?_eq_some_iff.1 a).1;simpa using this
   rw[List.getElem?_set_self hk]at a
   rw[List.getElem?_set_self (h.1 ▸ hk)]at b
   cases a;cases b;exact hv
  ·rw[List.getElem?_set_ne hik]at a b
   exact h.2 i x x' a b⟩
def aI(ρ:Ren)(r:RI)(o:aa)(w:World):Prop :=
 match o with
 | .cells own z cs=>own=r.own/\z=r.z/\∃cs' ty fz,w.heap[r.b]?=some (.cells cs' ty fz)/\cs'.size=r.n/\(own=true->fz=(0,0)) /\
   ∀(i:Nat) (v:Value),cs[i]?=some v->∃v':Value,cs'[i+r.s]?=some v'/\VR ρ v v'
 | .map es=>r.own=true/\∃es',w.heap[r.b]?=some (.map es' es'.size)/\(es.length=es'.size/\∀(i:Nat) (e':MapEntry),es'[i]?=some e'->e'.born=i) /\
   ∀(i:Nat) (k v:Value),es[i]?=some (k,v)->∃e':MapEntry,es'[i]?=some e'/\VR ρ k e'.key/\VR ρ v e'.val
 | .loop st pending tm N ps assign body=>r.own=true/\∃l,w.heap[r.b]?=some (.loop l)/\l.state=st/\l.pending=pending/\l.params=ps/\l.assign=assign/\l.body=body/\l.tmps.size=N/\∀t,t<N->VR ρ (tm t) (l.tmps.getD t undef)
 | .iter m n seen=>r.own=true/\r.s=0/\∃rm,ρ m=some rm/\w.heap[r.b]?=some (.mapIter (some rm.b) n ⟨seen⟩ n)
 | .fam _ _=>True
 | .dead=>True
theorem aI.mono{ρ ρ':Ren}(hle:Ren.le ρ ρ'){r:RI}{o:aa}{w w':World}(hb:w'.heap[r.b]?=w.heap[r.b]?)(h:aI ρ r o w):aI ρ' r o w':=by
 cases o with
 |cells own z cs =>
  obtain ⟨h1,h2,cs',ty,fz,h3,h4,h5,h6⟩:=h
  exact ⟨h1,h2,cs',ty,fz,hb.trans h3,h4,h5,fun i v a=>let ⟨v',b,c⟩:=h6 i v a; ⟨v',b,c.mono hle⟩⟩
 |map es =>
  obtain ⟨h1,es',h2,h3,h4⟩:=h
  exact ⟨h1,es',hb.trans h2,h3,fun i k v a=>let ⟨e',b,c,d⟩:=h4 i k v a; ⟨e',b,c.mono hle,d.mono hle⟩⟩
 |iter m n seen=>obtain ⟨h1,h0,rm,h2,h3⟩:=h;exact ⟨h1,h0,rm,hle _ _ h2,hb.trans h3⟩
 |loop st pending tm N ps assign body =>
  obtain ⟨h1,l,h2,h3,h4,h5,h6,h7,h8,h9⟩:=h
  exact ⟨h1,l,hb.trans h2,h3,h4,h5,h6,h7,h8,fun t ht=>(h9 t ht).mono hle⟩
 |fam z cs=>trivial
 |dead=>trivial
structure FM(ρ:Ren)(H:Heap)(F k:Nat)(r:RI)(z:Nat)(cs:List Value):Prop where
 g:ρ.g F k=some r
 h:H[F]?=some (.fam z cs)
 a:z=0->∃v,cs[k+1]?=some v/\v ≠ .chan none
def ww(ρ:Ren)(r:RI)(k:Nat)(cs:List Value)(cs':Array Value):Prop :=
 (r.n=cs'.size/\r.own=true/\0<r.z/\cs[0]?=some (.int .i64 (r.z:Int)))/\(∀v,cs[k+1]?=some v->v = .chan none∨∃row,v = .agg row)/\∀row:Array Value,cs[k+1]?=some (.agg row)->r.s+row.size<=cs'.size/\∀(i:Nat) (v:Value),row[i]?=some v->∃v':Value,cs'[i+r.s]?=some v'/\VR ρ v v'
theorem ww.mono{ρ ρ':Ren}(hle:Ren.le ρ ρ'){r:RI}{k:Nat}{cs:List Value}{cs':Array Value}(h:ww ρ r k cs cs'):ww ρ' r k cs cs' :=
 ⟨h.1,h.2.1,fun row hr=>let ⟨a,f⟩:=h.2.2 row hr; ⟨a,fun i v hv=>let ⟨v',b,c⟩:=f i v hv; ⟨v',b,c.mono hle⟩⟩⟩
def wx(ρ:Ren)(r:RI)(k z:Nat)(cs:List Value)(w:World):Prop :=
 ∃(cs':Array Value) (ty:TypeId),w.heap[r.b]?=some (.cells cs' ty (0,0))/\(k+1)*z<=cs.length/\(z=0->ww ρ r k cs cs')/\r.s+z<=cs'.size /\
  ∀(i:Nat) (v:Value),i<z->cs[k*z+i]?=some v->∃v':Value,cs'[i+r.s]?=some v'/\VR ρ v v'
theorem wx.mono{ρ ρ':Ren}(hle:Ren.le ρ ρ'){r:RI}{k z:Nat}{cs:List Value}{w w':World}(hb:w'.heap[r.b]?=w.heap[r.b]?)(h:wx ρ r k z cs w):wx ρ' r k z cs w':=by
 obtain ⟨cs',ty,h1,h2,h3,h4,h5⟩:=h
 exact ⟨cs',ty,hb.trans h1,h2,fun e=>(h3 e).mono hle,h4,fun i v hi a=>let ⟨v',b,c⟩:=h5 i v hi a; ⟨v',b,c.mono hle⟩⟩
def FB(ρ:Ren)(H:Heap)(b:Nat):Prop:=∃F k r z cs,FM ρ H F k r z cs/\r.b=b
structure gR(B:Nat)(ρ:Ren)(H:Heap)(w:World):Prop where
 dom:∀F k r,ρ.g F k=some r->F<H.length
 lt:∀F k r,ρ.g F k=some r->r.b<w.heap.size
 base:∀F k r z cs,FM ρ H F k r z cs->B<=r.b
 obj:∀F k r z cs,FM ρ H F k r z cs->wx ρ r k z cs w
 sep:∀F k r z cs F' k' r' z' cs',FM ρ H F k r z cs->FM ρ H F' k' r' z' cs'->r.b=r'.b->F=F'/\k=k'
 sep2:∀F k r z cs id r' o,FM ρ H F k r z cs->ρ id=some r'->H[id]?=some o->o.alive=true->r'.b≠r.b
 mem:∀F k r z cs b m,FM ρ H F k r z cs->ρ.mem b=some m->r.b≠b
 cnt:∀F k r cs,ρ.g F k=some r->H[F]?=some (.fam 0 cs)->k+1<cs.length
theorem gR.free{B:Nat}{ρ:Ren}{H:Heap}{w:World}(h:gR B ρ H w){id:Nat}{r:RI}{o:aa}(h1:ρ id=some r)(h2:H[id]?=some o)(h3:o.alive=true):¬ FB ρ H r.b:=by
 rintro ⟨F,k,x,z,cs,g,e⟩
 exact h.sep2 F k x z cs id r o g h1 h2 h3 e.symm
theorem gR.ez{B:Nat}{ρ:Ren}{H:Heap}{w:World}(h:gR B ρ H w){b:Nat}{m:Array Value}(h1:ρ.mem b=some m):¬ FB ρ H b:=by
 rintro ⟨F,k,x,z,cs,g,e⟩
 exact h.mem F k x z cs b m g h1 e
theorem gR.t8{B:Nat}{ρ:Ren}{H:Heap}{w:World}(h:gR B ρ H w){b:Nat}(h1:w.heap.size<=b):¬ FB ρ H b:=by
 rintro ⟨F,k,x,z,cs,g,rfl⟩
 have:=h.lt F k x g.g
 omega
theorem gR.Io{B:Nat}{ρ:Ren}{H:Heap}{w:World}(h:gR B ρ H w){b:Nat}(h1:b<B):¬ FB ρ H b:=by
 rintro ⟨F,k,x,z,cs,g,rfl⟩
 have:=h.base F k x z cs g
 omega
theorem FB.none{ρ:Ren}{H:Heap}(h:∀(F z:Nat) (cs:List Value),H[F]?=some (.fam z cs)->False)(b:Nat):¬ FB ρ H b:=fun ⟨F,_,_,z,cs,g,_⟩=>h F z cs g.h
theorem FB.FP{ρ:Ren}{H:Heap}{id:Nat}{o:aa}(hn:∀z cs,o ≠ .fam z cs){b:Nat}(h:FB ρ (H.set id o) b):FB ρ H b:=by
 obtain ⟨F,k,x,z,cs,g,e⟩:=h
 refine ⟨F,k,x,z,cs,⟨g.g,?_,g.a⟩,e⟩
 have:=g.h
 rw[List.getElem?_set]at this
 split at this
 ·split at this
  ·cases this;exact absurd rfl (hn z cs)
  ·cases this
 ·exact this
theorem gR.km{B:Nat}{ρ:Ren}{H:Heap}{w:World}(hd:∀F k r,ρ.g F k=some r->F<H.length)(hl:∀F k r,ρ.g F k=some r->r.b<w.heap.size)(h:∀(F z:Nat) (cs:List Value),H[F]?=some (.fam z cs)->False):gR B ρ H w :=
 ⟨hd,hl,fun F _ _ z cs m=>(h F z cs m.h).elim,fun F _ _ z cs m=>(h F z cs m.h).elim,fun F _ _ z cs _ _ _ _ _ m=>(h F z cs m.h).elim,fun F _ _ z cs _ _ _ m=>(h F z cs m.h).elim,fun F _ _ z cs _ _ m=>(h F z cs m.h).elim,fun F _ _ cs _ m=>(h F 0 cs m).elim⟩
theorem gR.keep{B:Nat}{ρ ρ':Ren}{H H':Heap}{w w':World}(h:gR B ρ H w)(hle:Ren.le ρ ρ')(hg:∀F k r,ρ'.g F k=some r->ρ.g F k=some r)
  (hH:∀F z cs,F<H.length->H'[F]?=some (.fam z cs)->H[F]?=some (.fam z cs)) (hlen:H.length<=H'.length) (hsz:w.heap.size<=w'.heap.size)
  (hw:∀b,FB ρ H b->w'.heap[b]?=w.heap[b]?) (h2:∀id r o,ρ' id=some r->H'[id]?=some o->o.alive=true->¬ FB ρ H r.b) (hm:∀b m,ρ'.mem b=some m->¬ FB ρ H b):gR B ρ' H' w':=by
 have fm:∀{F k r z cs},FM ρ' H' F k r z cs->FM ρ H F k r z cs:=fun m=>⟨hg _ _ _ m.g,hH _ _ _ (h.dom _ _ _ (hg _ _ _ m.g)) m.h,m.a⟩
 exact ⟨fun F k r a=>Nat.lt_of_lt_of_le (h.dom F k r (hg F k r a)) hlen,fun F k r a=>Nat.lt_of_lt_of_le (h.lt F k r (hg F k r a)) hsz,fun F k r z cs a=>h.base F k r z cs (fm a),
  fun F k r z cs a=>(h.obj F k r z cs (fm a)).mono hle (hw _ ⟨F,k,r,z,cs,fm a,rfl⟩),fun F k r z cs F' k' r' z' cs' a b=>h.sep _ _ _ _ _ _ _ _ _ _ (fm a) (fm b),
  fun F k r z cs id r' o a b c d e=>h2 id r' o b c d ⟨F,k,r,z,cs,fm a,e.symm⟩,fun F k r z cs b m a c e=>hm b m c ⟨F,k,r,z,cs,fm a,e⟩,fun F k r cs a b=>h.cnt F k r cs (hg F k r a) (hH _ _ _ (h.dom _ _ _ (hg F k r a)) b)⟩
structure Rel(P:Program)(B:Nat)(ρ:Ren)(H:Heap)(w:World):Prop where
 bsize:B<=w.heap.size
 cS:∀g,g<P.globals.size->∃r,ρ g=some r/\r.b=g/\r.s=0
 dom:∀id r,ρ id=some r->id<H.length
 lt:∀id r,ρ id=some r->r.b<w.heap.size
 obj:∀id r o,ρ id=some r->H[id]?=some o->aI ρ r o w
 base:∀id r o,ρ id=some r->H[id]?=some o->o.owned=true->B<=r.b
 sep:∀id id' r r' o o',ρ id=some r->ρ id'=some r'->H[id]?=some o->H[id']?=some o'->o.owned=true->o'.alive=true->id≠id'->r.b≠r'.b
 mem:∀b m,ρ.mem b=some m->(∃ty fz,w.heap[b]?=some (.cells m ty fz))/\∀id r o,ρ id=some r->H[id]?=some o->o.owned=true->r.b≠b
 fam:gR B ρ H w
def OB(ρ:Ren)(H:Heap)(b:Nat):Prop:=(∃id r o,ρ id=some r/\H[id]?=some o/\o.owned=true/\r.b=b)∨FB ρ H b
structure Post(P:Program)(B base:Nat)(M:List Nat)(ρ:Ren)(H:Heap)(w:World)(ρ':Ren)(H':Heap)(w':World):Prop where
 rel:Rel P B ρ' H' w'
 ext:Ren.le ρ ρ'
 new:∀id r,ρ' id=some r->ρ id=none->H.length<=id
 len:H.length<=H'.length
 same:∀id,id<base->id ∉ M->H'[id]?=H[id]?
 size:w.heap.size<=w'.heap.size
 keep:∀b,b<w.heap.size->¬ OB ρ H b->w'.heap[b]?=w.heap[b]?
 ob:∀b,b<w.heap.size->OB ρ' H' b->OB ρ H b
 os:w'.os=w.os
 tape:w'.tape=w.tape
 output:w'.output=w.output
 frz:∀b m,ρ'.mem b=some m->ρ.mem b=some m∨w.heap.size<=b∨OB ρ H b
 drawn:w.drawn<=w'.drawn
 kn:∀F k r,ρ'.g F k=some r->ρ.g F k=none->base<=F∨F∈M
theorem Post.refl{P:Program}{B base:Nat}{M:List Nat}{ρ:Ren}{H:Heap}{w:World}(h:Rel P B ρ H w):Post P B base M ρ H w ρ H w :=
 ⟨h,Ren.le_refl _,fun id r a b=>(by rw[b]at a;cases a),Nat.le_refl _,fun _ _ _=>rfl,Nat.le_refl _,fun _ _ _=>rfl,fun _ _ h=>h,rfl,rfl,rfl,fun _ _ h => .inl h,Nat.le_refl _,fun F k r a b=>(by rw[b]at a;cases a)⟩
theorem Post.trans{P:Program}{B base:Nat}{M:List Nat}{ρ ρ1 ρ2:Ren}{H H1 H2:Heap}{w w1 w2:World}
  (h:Post P B base M ρ H w ρ1 H1 w1) (k:Post P B base M ρ1 H1 w1 ρ2 H2 w2):Post P B base M ρ H w ρ2 H2 w2 where
 rel:=k.rel
 ext:=Ren.le_trans h.ext k.ext
 new:=fun id r a b=>by
  cases hc:ρ1 id with
  |none=>exact Nat.le_trans h.len (k.new id r a hc)
  |some r'=>exact h.new id r' hc b
 len:=Nat.le_trans h.len k.len
 same:=fun id hb hm=>(k.same id hb hm).trans (h.same id hb hm)
 size:=Nat.le_trans h.size k.size
 keep:=fun b hb hn=>(k.keep b (Nat.lt_of_lt_of_le hb h.size) (fun ho=>hn (h.ob b hb ho))).trans (h.keep b hb hn)
 ob:=fun b hb ho=>h.ob b hb (k.ob b (Nat.lt_of_lt_of_le hb h.size) ho)
 os:=k.os.trans h.os
 tape:=k.tape.trans h.tape
 output:=k.output.trans h.output
 frz:=fun b m hb=>by
  rcases k.frz b m hb with g|g|g
  ·exact h.frz b m g
  ·exact .inr (.inl (Nat.le_trans h.size g))
  ·rcases Nat.lt_or_ge b w.heap.size with hl|hl
   ·exact .inr (.inr (h.ob b hl g))
   ·exact .inr (.inl hl)
 drawn:=Nat.le_trans h.drawn k.drawn
 kn:=fun F i r a b=>by
  cases hc:ρ1.g F i with
  |none=>exact k.kn F i r a hc
  |some r'=>exact h.kn F i r' hc b
theorem Post.weaken{P:Program}{B base base':Nat}{M M':List Nat}{ρ ρ':Ren}{H H':Heap}{w w':World}
  (h:Post P B base M ρ H w ρ' H' w') (hb:base'<=base) (hM:∀id∈M,id<base'->id∈M'):Post P B base' M' ρ H w ρ' H' w' :=
 { h with
  same:=fun id hi hm=>h.same id (Nat.lt_of_lt_of_le hi hb) (fun hmm=>hm (hM id hmm hi))
  kn:=fun F k r a b=>by
   rcases h.kn F k r a b with g|g
   ·exact .inl (Nat.le_trans hb g)
   ·rcases Nat.lt_or_ge F base' with hl|hl
    ·exact .inr (hM F g hl)
    ·exact .inl hl }
theorem Rel.drew{P:Program}{B:Nat}{ρ:Ren}{H:Heap}{w:World}(h:Rel P B ρ H w):Rel P B ρ H w.drew :=
 ⟨h.bsize,h.cS,h.dom,h.lt,fun id r o a b=>by
  have:=h.obj id r o a b
  cases o <;> exact this,h.base,h.sep,h.mem,h.fam.keep (Ren.le_refl _) (fun _ _ _ h=>h) (fun _ _ _ _ h=>h) (Nat.le_refl _) (Nat.le_refl _) (fun _ _=>rfl) (fun id r o a b c=>h.fam.free a b c) (fun b m a=>h.fam.ez a)⟩
theorem OB.base{P:Program}{B:Nat}{ρ:Ren}{H:Heap}{w:World}(h:Rel P B ρ H w){b:Nat}(ho:OB ρ H b):B<=b:=by
 rcases ho with ⟨id,r,o,h1,h2,h3,rfl⟩|⟨F,k,r,z,cs,g,rfl⟩
 ·exact h.base id r o h1 h2 h3
 ·exact h.fam.base F k r z cs g
theorem Post.below{P:Program}{B base:Nat}{M:List Nat}{ρ ρ':Ren}{H H':Heap}{w w':World}(hr:Rel P B ρ H w)
  (h:Post P B base M ρ H w ρ' H' w'):RowKit.Below B w w' :=
 ⟨h.os,h.tape,h.output,h.size,fun k hk=>h.keep k (by have:=hr.bsize;omega) (fun ho=>by have:=OB.base hr ho;omega)⟩
def aO(P:Program)(t:TypeId):Option Nat:=(P.info? t).map (·.size)
def hX(P:Program)(t:TypeId):Option Nat:=(P.info? t).map (·.bytes)
def vr(P:Program)(t:TypeId):Option Bool:=(P.underlying t).map fun d=>match d with| .struct _| .array _ _=>true|_=>false
def ig:Value->Bool
 | .bool _| .int _ _| .float _ _| .string _| .pointer none| .slice none 0 0| .map none| .nilFunc| .nilIface=>true
 | .func (.func _) ⟨[]⟩ ⟨[]⟩=>true
 |_=>false
def fZ:Value->Bool
 | .agg cs=>cs.toList.all ig
 | .tuple cs=>cs.toList.all ig
 |v=>ig v
def dD(P:Program)(t:TypeId):Option Value:=((P.info? t).bind (·.zero)).bind fun v=>if fZ v then some v else none
def ba(l:List Value)(k:Nat):List Value->List Value
 | [] =>l
 |v :: vs=>ba (l.set k v) (k+1) vs
theorem cw(vs:List Value):∀(l:List Value) (k:Nat),(ba l k vs).length=l.length:=by
 induction vs with
 |nil=>intro l k;rfl
 |cons v vs ih=>intro l k;simp[ba,ih]
def cb(P:Program)(t:TypeId)(cs:List Value)(off:Nat):Option Value :=
 match vr P t with
 |some true =>
  match aO P t with
  |some n=>if off+n<=cs.length then some (.agg ⟨(cs.drop off).take n⟩) else none
  |none=>none
 |some false=>cs[off]?
 |none=>none
def s8(P:Program)(t:TypeId)(off z:Nat):Bool :=
 match vr P t with
 |some true =>
  match aO P t with
  |some n=>decide (off+n<=z)
  |none=>false
 |some false=>decide (off+1<=z)
 |none=>false
def jx(P:Program)(t:TypeId)(a:Value)(H:Heap):Option (Value×Nat) :=
 match a with
 | .pointer (some ⟨id,off,none⟩) =>
  match H[id]? with
  |some (.cells _ _ cs)=>(cb P t cs off).map fun v=>(v,id)
  |_=>none
 | .pointer (some ⟨id,off,some (k+3)⟩) =>
  match H[id]? with
  |some (.fam (z+1) cs)=>if s8 P t off (z+1)=true then (cb P t cs (k*(z+1)+off)).map fun v=>(v,id) else none
  |_=>none
 |_=>none
def jR(P:Program)(t:TypeId)(a:Value):Option Value :=
 match a with
 | .iface o (.tuple cs)=>cb P t cs.toList o
 |_=>none
def nt:Value->Bool
 | .tuple _| .chan _=>false
 |_=>true
def dz:Value->Bool
 | .agg _| .tuple _| .chan _=>false
 |_=>true
def jy(place:Nat->Option (Nat×Nat))(cells:List Value):List (Nat×Value)->Option (List Value)
 | [] =>some cells
 |(i,v) :: rest =>
  match place i with
  |none=>none
  |some (off,size)=>if v.cells.toList.length=size/\off+size<=cells.length/\nt v=true then jy place (ba cells off v.cells.toList) rest else none
def vf(P:Program)(fs:Array Field)(i:Nat):Option (Nat×Nat):=(fs[i]?).bind fun f=>(aO P f.type).map fun n=>(f.offset,n)
def qT(P:Program)(t:TypeId)(parts:List (Nat×Value)):Option Value :=
 match dD P t,P.underlying t with
 |some z,some (.struct fs)=>if fs.toList.all (fun f=>(aO P f.type).isSome) then (jy (vf P fs) z.cells.toList parts).map fun c => .agg ⟨c⟩ else none
 |some z,some (.array _ e) =>
  match aO P e with
  |some n=>(jy (fun i=>some (i*n,n)) z.cells.toList parts).map fun c => .agg ⟨c⟩
  |none=>none
 |_,_=>none
def vk(op:BinOp)(k:IntKind)(a:Int)(k':IntKind)(b:Int):Option Value :=
 match op with
 | .shl=>if b<0 then none else some (.int k (k.wrap (a*2 ^ min b.toNat k.bits)))
 | .shr=>if b<0 then none else some (.int k (a.fdiv (2 ^ min b.toNat k.bits)))
 | .add=>if k=k' then some (.int k (k.wrap (a+b))) else none
 | .sub=>if k=k' then some (.int k (k.wrap (a-b))) else none
 | .mul=>if k=k' then some (.int k (k.wrap (a*b))) else none
 | .quo=>if k=k' then (if b=0 then none else some (.int k (k.wrap (a.tdiv b)))) else none
 | .rem=>if k=k' then (if b=0 then none else some (.int k (a.tmod b))) else none
 | .and=>if k=k' then some (.int k (k.wrap ((BitVec.ofInt k.bits a &&& BitVec.ofInt k.bits b).toNat))) else none
 | .or=>if k=k' then some (.int k (k.wrap ((BitVec.ofInt k.bits a |||BitVec.ofInt k.bits b).toNat))) else none
 | .xor=>if k=k' then some (.int k (k.wrap ((BitVec.ofInt k.bits a ^^^ BitVec.ofInt k.bits b).toNat))) else none
 | .andNot=>if k=k' then some (.int k (k.wrap ((BitVec.ofInt k.bits a &&& ~~~ BitVec.ofInt k.bits b).toNat))) else none
 | .eql=>if k=k' then some (.bool (a == b)) else none
 | .neq=>if k=k' then some (.bool (a != b)) else none
 | .lss=>if k=k' then some (.bool (decide (a<b))) else none
 | .leq=>if k=k' then some (.bool (decide (a<=b))) else none
 | .gtr=>if k=k' then some (.bool (decide (b<a))) else none
 | .geq=>if k=k' then some (.bool (decide (b<=a))) else none
def dA(P:Program)(eq:TypeId->Value->Value->Option Bool)(xs ys:List Value):List Field->Option Bool
 | [] =>some true
 |f :: fs =>
  match dA P eq xs ys fs with
  |none=>none
  |some r =>
   if f.name = "_" then some r else
   match cb P f.type xs f.offset,cb P f.type ys f.offset with
   |some a,some b=>(eq f.type a b).map (· && r)
   |_,_=>none
def eo(P:Program)(eq:TypeId->Value->Value->Option Bool)(e:TypeId)(n:Nat)(xs ys:List Value):Nat->Nat->Option Bool
 |_,0=>some true
 |i,m+1 =>
  match eo P eq e n xs ys (i+1) m with
  |none=>none
  |some r =>
   match cb P e xs (i*n),cb P e ys (i*n) with
   |some a,some b=>(eq e a b).map (· && r)
   |_,_=>none
def CH:Option Addr->Option Bool
 |none=>some true
 |some ⟨_,_,none⟩=>some false
 |some ⟨_,_,some 0⟩=>some false
 |some _=>none
def deq:Value->Value
 | .slice (some ⟨id,off,some (_+1)⟩) len cap => .slice (some ⟨id,off,none⟩) len cap
 |v=>v
theorem zi(v:Value):deq v=v∨∃id off k len cap,v = .slice (some ⟨id,off,some (k+1)⟩) len cap:=by
 unfold deq
 split
 ·exact .inr ⟨_,_,_,_,_,rfl⟩
 ·exact .inl rfl
def bH(P:Program):Nat->TypeId->Value->Value->Option Bool
 |0,_,_,_=>none
 |d+1,t,x,y =>
  match P.underlying t,x,y with
  |some .bool,.bool a,.bool b=>some (a == b)
  |some (.int _),.int k a,.int k' b=>if k=k' then some (a == b) else none
  |some .string,.string a,.string b=>some (a == b)
  |some (.struct fs),.agg xs,.agg ys=>if P.stoodInHeld t then none else dA P (bH P d) xs.toList ys.toList fs.toList
  |some (.array len e),.agg xs,.agg ys =>
   match aO P e with
   |some n=>eo P (bH P d) e n xs.toList ys.toList 0 len
   |none=>none
  |some (.slice _),.slice none _ _,.slice b _ _=>CH b
  |some (.slice _),.slice b _ _,.slice none _ _=>CH b
  |some (.pointer _),.pointer none,.pointer b=>some b.isNone
  |some (.pointer _),.pointer _,.pointer none=>some false
  |some (.map _ _),.map none,.map b=>some b.isNone
  |some (.map _ _),.map _,.map none=>some false
  |some (.func _ _ _),.nilFunc,.nilFunc=>some true
  |some (.func _ _ _),.nilFunc,.func _ _ _=>some false
  |some (.func _ _ _),.func _ _ _,.nilFunc=>some false
  |_,_,_=>none
def keq(P:Program)(t:TypeId)(x y:Value):Option Bool :=
 match x,y with
 | .agg _,.agg _=>if P.eqGuardType P.depth t then none else bH P Op.maxDepth t x y
 |_,_=>bH P Op.maxDepth t x y
def ny(P:Program)(op:BinOp)(t:TypeId)(x y:Value):Option Value :=
 match op with
 | .eql=>(keq P t x y).map .bool
 | .neq=>(keq P t x y).map fun b => .bool (!b)
 |_=>none
def ta(P:Program)(op:BinOp)(t:TypeId)(x y:Value):Option Value :=
 match x,y with
 | .int k a,.int k' b=>vk op k a k' b
 | .bool _,.bool _=>ny P op t x y
 | .agg _,.agg _=>ny P op t x y
 | .slice _ _ _,.slice _ _ _=>ny P op t x y
 | .pointer none,.pointer _=>ny P op t x y
 | .pointer _,.pointer none=>ny P op t x y
 | .map _,.map _=>ny P op t x y
 | .nilFunc,.nilFunc=>ny P op t x y
 | .nilFunc,.func _ _ _=>ny P op t x y
 | .func _ _ _,.nilFunc=>ny P op t x y
 |_,_=>none
def kun(op:UnOp)(x:Value):Option Value :=
 match op,x with
 | .neg,.int k n=>some (.int k (k.wrap (0-n)))
 | .not,.bool b=>some (.bool !b)
 | .xor,.int k n=>some (.int k (k.wrap ((BitVec.ofInt k.bits (if k.signed then -1 else k.max) ^^^ BitVec.ofInt k.bits n).toNat)))
 |_,_=>none
def xk(P:Program)(s d:TypeId)(x:Value):Option Value :=
 match P.underlying s,P.underlying d,x with
 |some _,some (.int k),.int _ n=>some (.int k (k.wrap n))
 |_,_,_=>none
def jf(mx:Bool):List Value->Option Value
 | [] =>none
 |x :: rest=>rest.foldlM (fun a b=>match a,b with
   | .int k x,.int _ y=>some (.int k (if mx then (if y > x then y else x) else (if y<x then y else x)))
   |_,_=>none) x
def hP(P:Program)(s:TypeId)(x:Value)(f:Nat):Option Value :=
 match P.underlying s,x with
 |some (.struct fs),.pointer (some ⟨id,off,none⟩) =>
  match fs[f]? with
  |some fd=>match aO P fd.type with|some (_+1)=>some (.pointer (some ⟨id,off+fd.offset,none⟩))|_=>none
  |none=>none
 |some (.struct fs),.pointer (some ⟨id,off,some (k+3)⟩) =>
  match fs[f]? with
  |some fd=>match aO P fd.type with|some (_+1)=>some (.pointer (some ⟨id,off+fd.offset,some (k+3)⟩))|_=>none
  |none=>none
 |some (.struct fs),.iface off (.tuple cs) =>
  match fs[f]? with
  |some fd=>match aO P fd.type with|some (_+1)=>some (.iface (off+fd.offset) (.tuple cs))|_=>none
  |none=>none
 |_,_=>none
def qN(P:Program)(t:TypeId)(x:Value)(f:Nat):Option Value :=
 match P.underlying t,x with
 |some (.struct fs),.agg cs =>
  match fs[f]? with
  |some fd=>cb P fd.type cs.toList fd.offset
  |none=>none
 |_,_=>none
def cC(P:Program)(t:TypeId)(x i:Value):Option Value :=
 match P.underlying t,x,i with
 |some (.slice e),.slice (some ⟨id,off,none⟩) len _,.int _ i =>
  match aO P e with
  |some n=>if 0<=i/\i<len then some (.pointer (some ⟨id,off+i.toNat*n,none⟩)) else none
  |none=>none
 |some (.array len e),.pointer (some ⟨id,off,none⟩),.int _ i =>
  match aO P e with
  |some n=>if 0<=i/\i<len then some (.pointer (some ⟨id,off+i.toNat*n,none⟩)) else none
  |none=>none
 |some (.slice e),.iface (len+1) (.agg cs),.int _ i =>
  match aO P e with
  |some n=>if 0<=i/\i<len then some (.iface (i.toNat*n) (.tuple cs)) else none
  |none=>none
 |some (.array len e),.iface off (.tuple cs),.int _ i =>
  match aO P e with
  |some n=>if 0<=i/\i<len then some (.iface (off+i.toNat*n) (.tuple cs)) else none
  |none=>none
 |_,_,_=>none
def dt(P:Program)(t:TypeId)(x i:Value):Option Value:=cC P t (deq x) i
def ll(P:Program)(t:TypeId)(x i:Value):Option Value :=
 match P.underlying t,x,i with
 |some (.array len e),.agg cs,.int _ i =>
  match aO P e with
  |some n=>if 0<=i/\i<len then cb P e cs.toList (i.toNat*n) else none
  |none=>none
 |some .string,.string s,.int _ i=>if 0<=i then (s[i.toNat]?).map fun b => .int .u8 b.toNat else none
 |_,_,_=>none
def fi(v:Option Value)(d m:Nat):Option Nat :=
 match v with
 |none=>some d
 |some (.int _ i)=>if 0<=i/\i<=m then some i.toNat else none
 |_=>none
def jQ(P:Program)(t:TypeId)(x:Value)(lo hi:Option Value)(H:Heap):Option (Value×Option Nat) :=
 match P.underlying t,x with
 |some (.slice e),.slice a len cap =>
  match aO P e,fi hi len cap with
  |some n,some h =>
   match fi lo 0 h with
   |some l =>
    match a with
    |none=>some (.slice none 0 0,none)
    |some ⟨id,off,none⟩ =>
     match H[id]? with
     |some (.cells own z _)=>if own=false∨z=0∨z=n then some (.slice (some ⟨id,off+l*n,none⟩) (h-l) (cap-l),some id) else none
     |_=>none
    |some ⟨id,off,some (_+1)⟩ =>
     match H[id]? with
     |some (.cells own z _)=>if (own=false∨z=0∨z=n)/\h<=len then some (.slice (some ⟨id,off+l*n,some 2⟩) (h-l) (h-l),some id) else none
     |_=>none
    |some _=>none
   |none=>none
  |_,_=>none
 |some (.array (m+1) e),.pointer (some ⟨id,off,none⟩) =>
  match lo,hi,aO P e,H[id]? with
  |none,none,some _,some (.cells own z _)=>if own=false∨z=0 then some (.slice (some ⟨id,off,none⟩) (m+1) (m+1),some id) else none
  |_,_,_,_=>none
 |some (.slice e),.iface (n+1) (.agg cs) =>
  match lo,aO P e,fi hi n n with
  |none,some z,some h=>some (.iface (h+1) (.agg ⟨cs.toList.take (h*z)⟩),none)
  |_,_,_=>none
 |_,_=>none
def AE(P:Program)(t:TypeId)(x:Value)(H:Heap):Option (Value×Option Nat) :=
 match P.underlying t,x with
 |some (.slice _),.slice _ n _=>some (.int .i64 n,none)
 |some (.slice _),.iface (n+1) (.agg _)=>some (.int .i64 n,none)
 |some (.slice _),.iface (n+1) (.pointer _)=>some (.int .i64 n,none)
 |some .string,.string s=>some (.int .i64 s.size,none)
 |some (.array n _),_=>some (.int .i64 n,none)
 |some (.map _ _),.map none=>some (.int .i64 0,none)
 |some (.map _ _),.map (some id)=>match H[id]? with|some (.map es)=>some (.int .i64 es.length,some id)|_=>none
 |_,_=>none
def lm:Value->Bool
 | .bool _| .int _ _| .string _=>true
 |_=>false
def fJ:Value->Bool
 | .agg cs=>cs.toList.all lm
 |v=>lm v
def qP:Value->Value->Bool
 | .bool a,.bool b=>a == b
 | .int k a,.int k' b=>decide (k=k')&&decide (a=b)
 | .string a,.string b=>a == b
 |_,_=>false
def qO:List Value->List Value->Bool
 | [],[] =>true
 |a :: l,b :: r=>qP a b&&qO l r
 |_,_=>false
def lS:Value->Value->Bool
 | .agg xs,.agg ys=>qO xs.toList ys.toList
 |a,b=>qP a b
def fG(P:Program)(kt:TypeId)(key:Value):List (Value×Value)->Nat->Option (Option (Nat×Value))
 | [],_=>some none
 |(k,v) :: es,i=>match bH P Op.maxDepth kt key k with
  |some true=>some (some (i,v))
  |some false=>fG P kt key es (i+1)
  |none=>none
def yL(ok:Bool)(v:Value)(b:Bool):Value:=match ok with|true => .tuple #[v,.bool b]|false=>v
def hO(P:Program)(kt:TypeId)(z key:Value)(ok:Bool)(es:List (Value×Value)):Option Value :=
 match fG P kt key es 0 with
 |some (some (_,v))=>some (yL ok v true)
 |some none=>some (yL ok z false)
 |none=>none
def dF(P:Program)(kt:TypeId)(key:Value):Bool:=fJ key&&(bH P Op.maxDepth kt key key).isSome
def jh(P:Program)(t:TypeId)(m key:Value)(ok:Bool)(H:Heap):Option (Value×Option Nat) :=
 match P.underlying t with
 |some (.map kt el) =>
  match dD P el,dF P kt key,m with
  |some z,true,.map none=>some (yL ok z false,none)
  |some z,true,.map (some id)=>match H[id]? with
   |some (.map es)=>(hO P kt z key ok es).map fun v=>(v,some id)
   |_=>none
  |_,_,_=>none
 |_=>none
def lO(P:Program)(kt:TypeId)(key v:Value)(es:List (Value×Value)):Option (List (Value×Value)) :=
 match fG P kt key es 0 with
 |some (some (i,_))=>match es[i]? with
  |some (k,_)=>match lS k key with|true=>some (es.set i (key,v))|false=>none
  |none=>none
 |some none=>some (es ++ [(key,v)])
 |none=>none
def jg(P:Program)(t:TypeId)(m key v:Value)(H:Heap):Option (Heap×List Nat) :=
 match P.underlying t with
 |some (.map kt _) =>
  match dF P kt key,m with
  |true,.map (some id)=>match H[id]? with
   |some (.map es)=>(lO P kt key v es).map fun es'=>(H.set id (.map es'),[id])
   |_=>none
  |_,_=>none
 |_=>none
def AK(P:Program)(kt:TypeId)(z key:Value)(es:List (Value×Value)):Option (List (Value×Value)×Value) :=
 match fG P kt key es 0 with
 |some (some (i,v))=>match es[i]? with
  |some (k,_)=>match lS k key with|true=>some (es,.tuple #[v,.int .i64 (i:Int)])|false=>none
  |none=>none
 |some none=>some (es ++ [(key,z)],.tuple #[z,.int .i64 (es.length:Int)])
 |none=>none
def mn(P:Program)(t:TypeId)(m key:Value)(H:Heap):Option (Value×Heap×List Nat) :=
 match P.underlying t with
 |some (.map kt el) =>
  match dD P el,dF P kt key,m with
  |some z,true,.map (some id)=>match H[id]? with
   |some (.map es)=>(AK P kt z key es).map fun r=>(r.2,H.set id (.map r.1),[id])
   |_=>none
  |_,_,_=>none
 |_=>none
def AH(st v:Value)(es:List (Value×Value)):Option (List (Value×Value)) :=
 match st with
 | .int .i64 i=>match es[i.toNat]? with
  |some (k,_)=>if 0<=i then some (es.set i.toNat (k,v)) else none
  |none=>none
 |_=>none
def qQ(m st v:Value)(H:Heap):Option (Heap×List Nat) :=
 match m with
 | .map (some id)=>match H[id]? with
  |some (.map es)=>(AH st v es).map fun es'=>(H.set id (.map es'),[id])
  |_=>none
 |_=>none
def cO(P:Program)(o:Op)(e:Operand->Value)(H:Heap):Option (Value×Option Nat) :=
 match o with
 | .move x=>some (e x,none)
 | .assign x=>some (e x,none)
 | .pick c a b=>match e c with| .bool t=>some (if t then e a else e b,none)|_=>none
 | .build t parts=>(qT P t (parts.toList.map fun p=>(p.1,e p.2))).map (·,none)
 | .load t a=>match jR P t (e a) with|some v=>some (v,none)|none=>(jx P t (e a) H).map fun r=>(r.1,some r.2)
 | .nilCheck x=>match e x with
  | .pointer (some a)=>some (.pointer (some a),none)
  | .iface o (.tuple cs)=>some (.iface o (.tuple cs),none)
  | .func (.func f) x y=>some (.func (.func f) x y,none)
  | .func (.yield f) x y=>some (.func (.yield f) x y,none)
  |_=>none
 | .binOp op t x y _=>(ta P op t (e x) (e y)).map (·,none)
 | .unOp op _ x=>(kun op (e x)).map (·,none)
 | .convert s d x=>(xk P s d (e x)).map (·,none)
 | .makeFunc (.func f) first cap=>some (.func (.func f) (first.map e) (cap.map e),none)
 | .slice t x lo hi none=>jQ P t (e x) (lo.map e) (hi.map e) H
 | .fieldAddr s x f=>(hP P s (e x) f).map (·,none)
 | .field t x f=>(qN P t (e x) f).map (·,none)
 | .indexAddr t x i=>(dt P t (e x) (e i)).map (·,none)
 | .index t x i=>(ll P t (e x) (e i)).map (·,none)
 | .extract x i=>match e x with| .tuple vs=>(vs[i]?).map (·,none)|_=>none
 | .call ⟨.builtin .len,⟨[x]⟩,⟨t :: _⟩⟩=>AE P t (e x) H
 | .call ⟨.builtin .min,xs,_⟩=>(jf false (xs.toList.map e)).map (·,none)
 | .call ⟨.builtin .max,xs,_⟩=>(jf true (xs.toList.map e)).map (·,none)
 | .lookup t x i ok=>jh P t (e x) (e i) ok H
 |_=>none
def cM(z:List Value):Nat->List Value
 |0=>[]
 |n+1=>z++cM z n
def ia(P:Program)(o:Op)(e:Operand->Value)(id:Nat):Option (Value×aa) :=
 match o with
 | .alloc t=>(dD P t).map fun z=>(.pointer (some ⟨id,0,none⟩),.cells true 0 z.cells.toList)
 | .box _ x=>if nt (e x)=true then some (.pointer (some ⟨id,0,none⟩),.cells true 0 (e x).cells.toList) else none
 | .buildSlice t len parts =>
  match P.underlying t with
  |some (.slice el) =>
   match aO P el,dD P el with
   |some n,some z=>if z.cells.toList.length=n/\len*n<=2 ^ 24 then
     (jy (fun i=>some (i*n,n)) (cM z.cells.toList len) (parts.toList.map fun p=>(p.1,e p.2))).map fun c=>(.slice (some ⟨id,0,match len with|0=>some 1|_+1=>none⟩) len len,.cells true n c) else none
   |_,_=>none
  |_=>none
 | .makeSlice t l c =>
  match P.underlying t,e l,e c with
  |some (.slice el),.int .i64 l,.int .i64 c =>
   match aO P el,hX P el,dD P el with
   |some n,some by_,some z=>if z.cells.toList.length=n/\0<=l/\l<=c/\c<2 ^ 62/\by_*c<=2 ^ 48 then
     some (.slice (some ⟨id,0,none⟩) l.toNat c.toNat,.cells true n (cM z.cells.toList c.toNat)) else none
   |_,_,_=>none
  |_,_,_=>none
 | .makeMap t none=>some (.map (some id),.map [])
 |_=>none
def cL(P:Program)(n:Nat)(len:Nat)(x:Value)(H:Heap):Option (List Value) :=
 match deq x with
 | .slice none _ _=>if len=0 then some [] else none
 | .slice (some ⟨id,off,none⟩) l _ =>
  match H[id]? with
  |some (.cells _ _ cs)=>if len<=l/\off+len*n<=cs.length then some ((cs.drop off).take (len*n)) else none
  |_=>none
 |_=>none
def hZ(P:Program)(t:TypeId)(s x:Value)(H:Heap):Option (Value×Heap×List Nat) :=
 match P.underlying t,s,x with
 |some (.slice el),.slice base len cap,.slice xb m xc =>
  match aO P el,hX P el with
  |some (n+1),some by_ =>
   if (len+m)*by_<=2 ^ 44/\1<=by_/\by_<=2 ^ 16 then
    if m=0 then some (s,H,[]) else
    match cL P (n+1) len s H,cL P (n+1) m x H,(dD P el) with
    |some old,some new,some z =>
     if z.cells.toList.length=n+1/\new.all (fun v=>dz v) then
     match base with
     |none=>some (.slice (some ⟨H.length,0,none⟩) (len+m) (len+m),H ++ [.cells true (n+1) (old++new)],[])
     |some ⟨id,off,none⟩ =>
      match H[id]? with
      |some (.cells true zz _)=>if zz=n+1 then
        some (.slice (some ⟨H.length,0,none⟩) (len+m) (len+m),H.set id .dead ++ [.cells true (n+1) (old++new)],[id]) else none
      |_=>none
     |some ⟨id,off,some 1⟩ =>
      match H[id]? with
      |some (.cells true zz _)=>if zz=n+1 then
        some (.slice (some ⟨H.length,0,none⟩) (len+m) (len+m),H.set id .dead ++ [.cells true (n+1) (old++new)],[id]) else none
      |_=>none
     |_=>none
     else none
    |_,_,_=>none
   else none
  |_,_=>none
 |_,_,_=>none
def jP(P:Program)(t:TypeId)(a v:Value)(H:Heap):Option (Heap×List Nat) :=
 match a with
 | .pointer (some ⟨id,off,none⟩) =>
  match H[id]? with
  |some (.cells true z cs) =>
   match aO P t with
   |some n=>if v.cells.toList.length=n/\off+n<=cs.length/\v.cells.toList.all (fun v=>dz v) then
     some (H.set id (.cells true z (ba cs off v.cells.toList)),[id]) else none
   |none=>none
  |_=>none
 | .pointer (some ⟨id,off,some (k+3)⟩) =>
  match H[id]? with
  |some (.fam (z+1) cs) =>
   match aO P t with
   |some n=>if v.cells.toList.length=n/\off+n<=z+1/\k*(z+1)+(z+1)<=cs.length/\v.cells.toList.all (fun v=>dz v) then
     some (H.set id (.fam (z+1) (ba cs (k*(z+1)+off) v.cells.toList)),[id]) else none
   |none=>none
  |_=>none
 |_=>none
def pL(P:Program)(t:TypeId)(d s:Value)(H:Heap):Option (Value×Heap×List Nat) :=
 match P.underlying t,d,s with
 |some (.slice el),.slice base len cap,.slice sb m sc =>
  match aO P el with
  |some n =>
   match cL P n (min m len) s H with
   |some new =>
    match base with
    |none=>some (.int .i64 (min m len:Nat),H,[])
    |some ⟨id,off,none⟩ =>
     match H[id]? with
     |some (.cells true z cs)=>if off+(min m len)*n<=cs.length/\new.all (fun v=>dz v) then
       some (.int .i64 (min m len:Nat),H.set id (.cells true z (ba cs off new)),[id]) else none
     |_=>none
    |_=>none
   |none=>none
  |none=>none
 |_,_,_=>none
def lv(P:Program)(t:TypeId)(x:Value)(H:Heap):Option (Value×Heap×List Nat) :=
 match P.underlying t,x with
 |some (.slice el),.slice base len cap =>
  match aO P el,dD P el with
  |some n,some z =>
   match base with
   |none=>some (undef,H,[])
   |some ⟨id,off,_⟩ =>
    match H[id]? with
    |some (.cells true zz cs)=>if off+len*n<=cs.length/\z.cells.toList.length=n/\z.cells.toList.all (fun v=>dz v) then some (undef,H.set id (.cells true zz (ba cs off (cM z.cells.toList len))),[id]) else none
    |_=>none
  |_,_=>none
 |_,_=>none
def dd(P:Program)(o:Op)(e:Operand->Value)(H:Heap):Option (Value×Heap×List Nat) :=
 match o with
 | .store t a v=>(jP P t (e a) (e v) H).map fun r=>(undef,r.1,r.2)
 | .call ⟨.builtin .append,⟨[s,x]⟩,⟨[t,u]⟩⟩=>match P.underlying u with
  |some (.slice _)=>hZ P t (e s) (e x) H
  |_=>none
 | .call ⟨.builtin .copy,⟨[d,s]⟩,⟨t :: _⟩⟩=>pL P t (e d) (e s) H
 | .call ⟨.builtin .clear,⟨[x]⟩,⟨t :: _⟩⟩=>lv P t (e x) H
 | .mapUpdate t m k v=>(jg P t (e m) (e k) (e v) H).map fun r=>(undef,r.1,r.2)
 | .mapEntry t m k=>mn P t (e m) (e k) H
 | .entryStore _ m s v=>(qQ (e m) (e s) (e v) H).map fun r=>(undef,r.1,r.2)
 |_=>none
def v7(es:List (Value×Value))(seen:List Nat):Option Value:=(seen.getLast?).bind fun i=>(es[i]?).map fun e => .tuple #[e.1,e.2]
inductive OC where
 |pure|alloc|write|call|iter|bad
deriving DecidableEq
def dE:Op->OC
 | .move _| .assign _| .pick .. | .build .. | .load .. | .nilCheck _| .binOp .. | .unOp .. | .convert .. | .makeFunc .. | .slice .. | .fieldAddr .. | .field .. | .indexAddr .. | .index .. | .extract .. | .lookup .. => .pure
 | .alloc _| .box .. | .buildSlice .. | .makeSlice .. | .makeMap .. => .alloc
 | .store .. | .mapUpdate .. | .mapEntry .. | .entryStore .. => .write
 | .range .. | .next .. | .entry .. => .iter
 | .call c=>match c.callee with
  | .builtin .len| .builtin .min| .builtin .max => .pure
  | .builtin .append| .builtin .copy| .builtin .clear => .write
  | .builtin _ => .bad
  | .value _ => .call
  | .invoke _ _ => .bad
 |_ => .bad
end Go.K
namespace Go.K
variable {P:Program} {w:World} {ρ:Ren}
theorem aA{t:TypeId}{d:TypeDesc}(h:P.underlying t=some d)(w:World):(underlying t).run P w = .ok d w:=run_underlying h w
theorem gk{t:TypeId}{b:Bool}(h:vr P t=some b)(w:World):(isAgg t).run P w = .ok b w:=by
 unfold vr at h
 cases hu:P.underlying t with
 |none=>simp[hu]at h
 |some d =>
  simp[hu]at h
  subst h
  simp only[isAgg,Sem.run_bind,aA hu,Result.andThen_ok]
  cases d <;> rfl
theorem bj{t:TypeId}{n:Nat}(h:aO P t=some n)(w:World):(sizeOf t).run P w = .ok n w:=by
 unfold aO at h
 cases hi:P.info? t with
 |none=>simp[hi]at h
 |some i =>
  simp[hi]at h
  simp[sizeOf,typeInfo,hi,h]
theorem sy{t:TypeId}{n:Nat}(h:aO P t=some n)(w:World):∃i,P.info? t=some i/\i.size=n/\(typeInfo t).run P w = .ok i w:=by
 unfold aO at h
 cases hi:P.info? t with
 |none=>simp[hi]at h
 |some i=>simp[hi]at h;exact ⟨i,rfl,h,by simp[typeInfo,hi]⟩
theorem yq{t:TypeId}{n:Nat}(h:hX P t=some n)(w:World):∃i,i.bytes=n/\(typeInfo t).run P w = .ok i w:=by
 unfold hX at h
 cases hi:P.info? t with
 |none=>simp[hi]at h
 |some i=>simp[hi]at h;exact ⟨i,h,by simp[typeInfo,hi]⟩
theorem nW{v:Value}(h:ig v=true):VR ρ v v:=by
 unfold ig at h
 split at h <;> first
  |exact .bool _|exact .int _ _|exact .float _ _|exact .string _|exact .bK|exact .aT|exact .bL|exact .nilFunc|exact .nilIface
  |(exact .func rfl (by intro i v v' a;simp at a) rfl (by intro i v v' a;simp at a))
  |simp at h
theorem nV{cs:Array Value}(h:cs.toList.all ig=true):∀(i:Nat) (v v':Value),cs[i]?=some v->cs[i]?=some v'->VR ρ v v':=by
 intro i v v' a b
 rw[a]at b;cases b
 rw[List.all_eq_true]at h
 exact nW (h v (by rw[Array.mem_toList_iff];exact Array.mem_of_getElem? a))
theorem fQ{v:Value}(h:fZ v=true):VR ρ v v:=by
 unfold fZ at h
 split at h
 ·exact .agg rfl (nV h)
 ·exact .tuple rfl (nV h)
 ·exact nW h
theorem da{t:TypeId}{z:Value}(h:dD P t=some z)(w:World):(zeroValue t).run P w = .ok z w/\fZ z=true:=by
 unfold dD at h
 cases hi:P.info? t with
 |none=>simp[hi]at h
 |some i =>
  cases hz:i.zero with
  |none=>simp[hi,hz]at h
  |some v =>
   simp[hi,hz]at h
   obtain ⟨hc,rfl⟩:=h
   exact ⟨by simp[zeroValue,typeInfo,hi,hz],hc⟩
theorem VR.cells{v v':Value}(h:VR ρ v v')(hn:nt v=true):VRl ρ v.cells.toList v'.cells.toList:=by
 have one:∀{v v':Value},VR ρ v v'->VRl ρ [v] [v']:=fun h => .cons h (.nil ρ)
 cases h with
 |junk=>cases hn
 |agg h1 h2=>exact ⟨by simpa[Value.cells] using h1,fun i a b x y=>h2 i a b (by simpa[Value.cells] using x) (by simpa[Value.cells] using y)⟩
 |bool b=>exact one (.bool b)
 |int k n=>exact one (.int k n)
 |float k n=>exact one (.float k n)
 |string s=>exact one (.string s)
 |bK=>exact one .bK
 |ptr h=>exact one (.ptr h)
 |dS h=>exact one (.dS h)
 |aT=>exact one .aT
 |slice h hl hc ho=>exact one (.slice h hl hc ho)
 |aQ h=>exact one (.aQ h)
 |bv=>exact one .bv
 |ax=>exact one .ax
 |ay=>exact one .ay
 |aD h hp hl hc ho=>exact one (.aD h hp hl hc ho)
 |aB=>exact one .aB
 |aX h hp hl hc ho=>exact one (.aX h hp hl hc ho)
 |bL=>exact one .bL
 |map h=>exact one (.map h)
 |nilFunc=>exact one .nilFunc
 |nilIface=>exact one .nilIface
 |func h1 h2 h3 h4=>exact one (.func h1 h2 h3 h4)
 |yield h=>exact one (.yield h)
 |tuple h1 h2=>exact one (.tuple h1 h2)
 |deep hm hp hc h1 h2=>exact one (.deep hm hp hc h1 h2)
 |br=>exact one .br
 |fsl h hp hc hs ho=>exact one (.fsl h hp hc hs ho)
 |bS=>exact one .bS
 |bP hm h1 h2=>exact one (.bP hm h1 h2)
theorem fq{z:Value}(h:fZ z=true):VRl ρ z.cells.toList z.cells.toList:=by
 by_cases hn:nt z=true
 ·exact VR.cells (fQ h) hn
 ·cases z <;> first|exact absurd rfl hn|exact .cons (fQ h) (.nil ρ)|(simp[fZ,ig]at h)
theorem px{v:Value}(h:v.cells.toList.all (fun v=>dz v)=true):nt v=true:=by
 cases v <;> first|rfl|(simp[Value.cells,dz]at h)
theorem VRl.agg{cs cs':Array Value}(h:VRl ρ cs.toList cs'.toList):VR ρ (.agg cs) (.agg cs') :=
 .agg (by simpa using h.1) (fun i a b x y=>h.2 i a b (by simpa using x) (by simpa using y))
theorem VR.f0{cs cs':Array Value}(h:VR ρ (.agg cs) (.agg cs')):VRl ρ cs.toList cs'.toList:=by
 cases h with|agg h1 h2=>exact ⟨by simpa using h1,fun i a b x y=>h2 i a b (by simpa using x) (by simpa using y)⟩
theorem VR.oneCell{v v':Value}(h:VR ρ v v')(ho:dz v=true):v'.oneCell'=true:=by cases h <;> first|rfl|cases ho
theorem VRl.oneCell{l l':List Value}(h:VRl ρ l l')(ho:l.all (fun v=>dz v)=true):l'.all (fun v=>v.oneCell')=true:=by
 rw[List.all_eq_true]at *
 intro v' hv'
 obtain ⟨i,hi,rfl⟩:=List.mem_iff_getElem.1 hv'
 have hi':i<l.length:=h.1 ▸ hi
 exact (h.2 i _ _ (List.getElem?_eq_getElem hi') (List.getElem?_eq_getElem hi)).oneCell (ho _ (List.getElem_mem hi'))
theorem VRl.ba{vs vs':List Value}(h:VRl ρ vs vs'):∀{l l':List Value} (k:Nat),VRl ρ l l'->VRl ρ (ba l k vs) (ba l' k vs'):=by
  induction vs generalizing vs' with
  | nil => intro l l' k hl; obtain rfl : vs' = [] := by have := h.1; simpa using this.symm
           exact hl
  | cons v vs ih =>
    intro l l' k hl
    cases vs' with
    |nil=>have:=h.1;simp at this
    | cons v' vs' =>
      have hv:VR ρ v v':=h.2 0 v v' rfl rfl
      have ht:VRl ρ vs vs':=⟨by have:=h.1;simpa using this,fun i a b x y=>h.2 (i+1) a b (by simpa using x) (by simpa using y)⟩
      exact ih ht (k+1) (hl.set hv k)
theorem fa{t:TypeId}{cs:List Value}{cs':Array Value}{off:Nat}{v:Value}(h:cb P t cs off=some v)(hl:VRl ρ cs cs'.toList)(w:World) :
  ∃v',(part t cs' off).run P w = .ok v' w/\VR ρ v v':=by
 unfold cb at h
 cases ha:vr P t with
 |none=>simp[ha]at h
 |some b =>
  cases b with
  |true =>
   cases hn:aO P t with
   |none=>simp[ha,hn]at h
   |some n =>
    simp only[ha,hn]at h
    split at h
    ·rename_i hle
     cases h
     refine ⟨.agg (cs'.extract off (off+n)),by simp[part,gk ha,bj hn],VRl.agg ?_⟩
     have:=hl.extract off n
     simpa[Array.toList_extract,List.extract_eq_take_drop] using this
    ·simp at h
  |false =>
   simp only[ha]at h
   obtain ⟨v',h1,h2⟩:=hl.get h
   exact ⟨v',by simp at h1;simp[part,gk ha,h1],h2⟩
end Go.K
namespace Go.K
variable {P:Program} {w:World} {ρ:Ren} {H:Heap}
theorem addr_add(b off k:Nat):(⟨b,off,none⟩:Addr).add k=⟨b,off+k,none⟩:=by
 unfold Addr.add
 split
 ·rename_i h;subst h;rfl
 ·rfl
theorem cell_of{b:Nat}{cs:Array Value}{ty:TypeId}{fz:Nat×Nat}(hb:w.heap[b]?=some (.cells cs ty fz))(k:Nat):w.cell? ⟨b,k,none⟩=cs[k]? := by
 simp[World.cell?,hb]
theorem lJ{b k:Nat}{cs:Array Value}{ty:TypeId}{fz:Nat×Nat}{v:Value}(hb:w.heap[b]?=some (.cells cs ty fz))(hv:cs[k]?=some v) :
  (load ⟨b,k,none⟩).run P w = .ok v w:=by
 rw[run_load,cell_of hb,hv]
theorem run_loadCellsFrom{b off:Nat}{cs:Array Value}{ty:TypeId}{fz:Nat×Nat}(hb:w.heap[b]?=some (.cells cs ty fz)) :
  ∀(n i:Nat) (acc:Array Value),off+i+n<=cs.size->(loadCellsFrom ⟨b,off,none⟩ i n acc).run P w = .ok (acc++cs.extract (off+i) (off+i+n)) w:=by
 intro n
 induction n with
 |zero=>intro i acc h;simp[loadCellsFrom];omega
 |succ n ih =>
  intro i acc h
  have hi:off+i<cs.size:=by omega
  simp only[loadCellsFrom,Sem.run_bind,addr_add]
  rw[lJ hb (Array.getElem?_eq_getElem hi)]
  simp only[Result.andThen_ok]
  rw[ih (i+1) _ (by omega)]
  congr 1
  apply Array.toList_inj.1
  simp only[Array.toList_append,Array.toList_push,Array.toList_extract,List.extract_eq_take_drop,List.append_assoc]
  congr 1
  have e1:off+(i+1)+n-(off+(i+1))=n:=by omega
  have e2:off+i+(n+1)-(off+i)=n+1:=by omega
  rw[e1,e2]
  have e3:cs.toList.drop (off+i)=cs[off+i] :: cs.toList.drop (off+(i+1)):=by
   rw[List.drop_eq_getElem_cons (by simpa using hi)]
   rfl
  rw[e3];rfl
theorem run_loadCells{b off n:Nat}{cs:Array Value}{ty:TypeId}{fz:Nat×Nat}(hb:w.heap[b]?=some (.cells cs ty fz))(h:off+n<=cs.size) :
  (loadCells ⟨b,off,none⟩ n).run P w = .ok (cs.extract off (off+n)) w:=by
 have:=run_loadCellsFrom (P:=P) (off:=off) hb n 0 #[] (by omega)
 simpa[loadCells] using this
theorem dx{cs:List Value}{cs':Array Value}{s off n:Nat}(h:∀(i:Nat) (v:Value),cs[i]?=some v->∃v':Value,cs'[i+s]?=some v'/\VR ρ v v')
  (hle:off+n<=cs.length):off+s+n<=cs'.size∨n=0:=by
 rcases Nat.eq_zero_or_pos n with h0|h0
 ·exact .inr h0
 ·left
  have hi:off+n-1<cs.length:=by omega
  obtain ⟨v',h1,_⟩:=h (off+n-1) _ (List.getElem?_eq_getElem hi)
  have:=(Array.getElem?_eq_some_iff.1 h1).1
  omega
theorem pn{cs:List Value}{cs':Array Value}{s off n:Nat}(h:∀(i:Nat) (v:Value),cs[i]?=some v->∃v':Value,cs'[i+s]?=some v'/\VR ρ v v')
  (hle:off+n<=cs.length):VRl ρ ((cs.drop off).take n) (cs'.extract (off+s) (off+s+n)).toList:=by
 have hsz:=dx h hle
 refine ⟨?_,fun i v v' a b =>?_⟩
 ·simp only[List.length_take,List.length_drop,Array.length_toList,Array.size_extract]
  rcases hsz with h1|h1 <;> omega
 ·rw[List.getElem?_take]at a
  split at a
  ·rename_i hi
   rw[List.getElem?_drop]at a
   obtain ⟨x',h1,h2⟩:=h _ _ a
   rw[Array.getElem?_toList,Array.getElem?_extract]at b
   split at b
   ·have e:off+s+i=off+i+s:=by omega
    rw[e,h1]at b;cases b;exact h2
   ·simp at b
  ·simp at a
structure kP(ρ:Ren)(H:Heap)(w:World)(id:Nat):Prop where
 o:∀r o,ρ id=some r->H[id]?=some o->aI ρ r o w
 f:∀k r z cs,FM ρ H id k r z cs->wx ρ r k z cs w
theorem qI{t:TypeId}{cs:List Value}{k z off:Nat}{v:Value}(hf:s8 P t off z=true)(hp:cb P t cs (k*z+off)=some v)(hl:(k+1)*z<=cs.length) :
  cb P t ((cs.drop (k*z)).take z) off=some v:=by
 have hz:k*z+z<=cs.length:=by rw[Nat.add_mul,Nat.one_mul]at hl;exact hl
 unfold s8 at hf
 unfold cb at hp ⊢
 cases ha:vr P t with
 |none=>simp[ha]at hf
 |some b =>
  cases b with
  |true =>
   cases hn:aO P t with
   |none=>simp[ha,hn]at hf
   |some n =>
    simp only[ha,hn,decide_eq_true_eq]at hf hp ⊢
    rw[if_pos (by omega)]at hp
    cases hp
    have e1:((cs.drop (k*z)).take z).length=z:=by rw[List.length_take,List.length_drop];omega
    rw[if_pos (by omega)]
    rw[List.drop_take,List.take_take,List.drop_drop,show min n (z-off)=n by omega]
  |false =>
   simp only[ha,decide_eq_true_eq]at hf hp ⊢
   rw[List.getElem?_take,if_pos (by omega),List.getElem?_drop]
   exact hp
theorem lh{t:TypeId}{v:Value}{cs:List Value}{cs':Array Value}{off s b:Nat}{ty:TypeId}{fz:Nat×Nat}(hp:cb P t cs off=some v)(hb:w.heap[b]?=some (.cells cs' ty fz))
  (hcs:∀(i:Nat) (v:Value),cs[i]?=some v->∃v':Value,cs'[i+s]?=some v'/\VR ρ v v') :
  ∃v',(Instr.loadAt t (.pointer (some ⟨b,off+s,none⟩))).run P w = .ok v' w/\VR ρ v v':=by
 unfold cb at hp
 cases hag:vr P t with
 |none=>simp[hag]at hp
 |some b =>
  cases b with
  |true =>
   cases hs:aO P t with
   |none=>simp[hag,hs]at hp
   |some n =>
    simp only[hag,hs]at hp
    split at hp
    ·rename_i hle
     cases hp
     have hv:=pn hcs hle
     have hsz:=dx hcs hle
     by_cases h0:n=0
     ·subst h0
      refine ⟨.agg #[],by simp[Instr.loadAt,Instr.sureAddr,loadVar,gk hag,bj hs,loadCells,loadCellsFrom],?_⟩
      exact VRl.agg (by simpa using VRl.nil ρ)
     ·refine ⟨.agg (cs'.extract (off+s) (off+s+n)),?_,VRl.agg hv⟩
      simp[Instr.loadAt,Instr.sureAddr,loadVar,gk hag,bj hs,run_loadCells (P:=P) (off:=off+s) (n:=n) hb (by omega)]
    ·simp at hp
  |false =>
   simp only[hag]at hp
   obtain ⟨v',h1,h2⟩:=hcs _ _ hp
   exact ⟨v',by simp only[Instr.loadAt,Instr.sureAddr,loadVar,Sem.run_bind,Sem.run_pure,Result.andThen_ok,gk hag];simpa using lJ (P:=P) hb h1,h2⟩
theorem pH{t:TypeId}{a a' v:Value}{id:Nat}(h:jx P t a H=some (v,id))(ha:VR ρ a a')(ho:kP ρ H w id) :
  ∃v',(Instr.loadAt t a').run P w = .ok v' w/\VR ρ v v':=by
 unfold jx at h
 split at h
 ·rename_i id' off
  split at h
  ·rename_i own z cs hid
   cases hp:cb P t cs off with
   |none=>simp[hp]at h
   |some x =>
    simp[hp]at h
    obtain ⟨rfl,rfl⟩:=h
    cases ha with
    | @ptr _ _ r hr =>
     obtain ⟨_,_,cs',ty,fz,hb,hn,_,hcs⟩:=ho.o r _ hr hid
     exact lh hp hb hcs
  ·simp at h
 ·rename_i id' off k
  split at h
  ·rename_i z cs hid
   split at h
   ·rename_i hf
    cases hp:cb P t cs (k*(z+1)+off) with
    |none=>simp[hp]at h
    |some x =>
     simp[hp]at h
     obtain ⟨rfl,rfl⟩:=h
     cases ha with
     | @dS _ _ _ r hr =>
      obtain ⟨cs',ty,hb,hl,hz,hs,hcs⟩:=ho.f k r (z+1) cs ⟨hr,hid,fun e=>absurd e (Nat.succ_ne_zero _)⟩
      refine lh (qI hf hp hl) hb (fun i v a =>?_)
      rw[List.getElem?_take]at a
      split at a
      ·rename_i hi
       rw[List.getElem?_drop]at a
       exact hcs i v hi a
      ·cases a
   ·simp at h
  ·simp at h
 ·simp at h
theorem vj{t:TypeId}{a a' v:Value}(h:jR P t a=some v)(ha:VR ρ a a')(hm:∀b m,ρ.mem b=some m->∃ty fz,w.heap[b]?=some (.cells m ty fz)) :
  ∃v',(Instr.loadAt t a').run P w = .ok v' w/\VR ρ v v':=by
 unfold jR at h
 split at h
 ·rename_i o cs
  cases ha with
  |bP g1 g2 g3 =>
   obtain ⟨ty,fz,hb⟩:=hm _ _ g1
   refine lh h hb (fun i v hv =>?_)
   rw[Array.getElem?_toList]at hv
   have hi:=(Array.getElem?_eq_some_iff.1 hv).1
   refine ⟨_,Array.getElem?_eq_getElem (by omega),g3 i v _ hv (Array.getElem?_eq_getElem (by omega))⟩
 ·simp at h
theorem nU{place:Nat->Option (Nat×Nat)}:∀{parts parts':List (Nat×Value)} {cells c:List Value} {cells':Array Value},
  jy place cells parts=some c->VRl ρ cells cells'.toList->parts.length=parts'.length ->
  (∀(i:Nat) (x x':Nat×Value),parts[i]?=some x->parts'[i]?=some x'->x.1=x'.1/\VR ρ x.2 x'.2) ->
  ∃c',Instr.fill place cells' parts'=some c'/\VRl ρ c c'.toList:=by
 intro parts
 induction parts with
 |nil =>
  intro parts' cells c cells' h hl hlen _
  obtain rfl:parts'=[]:=by simpa using hlen.symm
  simp[jy]at h
  subst h
  exact ⟨cells',by simp[Instr.fill],hl⟩
 |cons p rest ih =>
  intro parts' cells c cells' h hl hlen hp
  cases parts' with
  |nil=>simp at hlen
  |cons p' rest' =>
   obtain ⟨i,v⟩:=p
   obtain ⟨i',v'⟩:=p'
   obtain ⟨rfl,hv⟩:=hp 0 _ _ rfl rfl
   simp only at hv
   have hv:VR ρ v v':=hv
   simp only[jy]at h
   cases hpl:place i with
   |none=>simp[hpl]at h
   |some os =>
    obtain ⟨off,size⟩:=os
    simp only[hpl]at h
    split at h
    ·rename_i hc
     have hcv:=hv.cells hc.2.2
     have hz:v'.cells.size=size:=by have:=hcv.1;simp at this;have:=hc.1;simp at this;omega
     have hcl:cells'.size=cells.length:=by have:=hl.1;simpa using this.symm
     have Ij:∀(vs:List Value) (cs:Array Value) (k:Nat),(vs.zipIdx k).foldl (fun (cs:Array Value) (x:Value×Nat)=>cs.setIfInBounds (off+x.2) x.1) cs=⟨ba cs.toList (off+k) vs⟩:=by
      intro vs
      induction vs with
      |nil=>intro cs k;simp[ba]
      |cons y ys ihy =>
       intro cs k
       simp only[List.zipIdx_cons,List.foldl_cons,ba]
       rw[ihy]
       simp[Nat.add_assoc]
     have hf2:v'.cells.zipIdx.foldl (fun cs (x:Value×Nat)=>cs.setIfInBounds (off+x.2) x.1) cells'=⟨ba cells'.toList off v'.cells.toList⟩:=by
      have:=Ij v'.cells.toList cells' 0
      rw[<- Array.foldl_toList]
      simpa using this
     obtain ⟨c',h1,h2⟩:=ih (parts':=rest') (cells':=⟨ba cells'.toList off v'.cells.toList⟩) h (VRl.ba hcv off hl) (by simpa using hlen)
      (fun k x x' a b=>hp (k+1) x x' (by simpa using a) (by simpa using b))
     refine ⟨c',?_,h2⟩
     simp only[Instr.fill,hpl]
     rw[if_neg (by simp[hz];omega)]
     rw[<- h1]
     congr 1
    ·simp at h
end Go.K
namespace Go.K
variable {P:Program} {w:World} {ρ:Ren} {H:Heap}
set_option maxHeartbeats 1000000 in
theorem lu:∀(d:Nat) {t:TypeId} {x y x' y':Value} {b:Bool},bH P d t x y=some b->VR ρ x x'->VR ρ y y'->∀w:World,(Op.equalIn d t x' y').run P w = .ok b w:=by
 intro d
 induction d with
 |zero=>intro t x y x' y' b h;simp[bH]at h
 |succ d ih =>
  intro t x y x' y' b h hx hy w
  have hf:∀(fs:List Field) (xs ys:Array Value) (xs' ys':Array Value) (b:Bool),dA P (bH P d) xs.toList ys.toList fs=some b->VRl ρ xs.toList xs'.toList->VRl ρ ys.toList ys'.toList ->
    (Op.eqFields d xs' ys' fs).run P w = .ok b w:=by
   intro fs
   induction fs with
   |nil=>intro xs ys xs' ys' b h _ _;simp[dA]at h;subst h;simp[Op.eqFields]
   |cons f fs ihf =>
    intro xs ys xs' ys' b h hx hy
    simp only[dA]at h
    cases hr:dA P (bH P d) xs.toList ys.toList fs with
    |none=>simp[hr]at h
    |some r =>
     simp only[hr]at h
     have hrest:=ihf xs ys xs' ys' r hr hx hy
     simp only[Op.eqFields]
     split at h
     ·rename_i hn
      rw[if_neg (by simpa using hn)]
      cases h;exact hrest
     ·rename_i hn
      rw[if_pos (by simpa using hn)]
      cases ha:cb P f.type xs.toList f.offset with
      |none=>simp[ha]at h
      |some a =>
       cases hb:cb P f.type ys.toList f.offset with
       |none=>simp[ha,hb]at h
       |some c =>
        simp only[ha,hb]at h
        obtain ⟨q,hq,rfl⟩:=Option.map_eq_some_iff.1 h
        obtain ⟨a',ha',hva⟩:=fa (P:=P) ha hx w
        obtain ⟨c',hc',hvc⟩:=fa (P:=P) hb hy w
        simp only[Sem.run_bind,ha',hc',Result.andThen_ok,ih hq hva hvc w]
        cases q <;> simp[hrest]
  have hi:∀(e:TypeId) (n:Nat),aO P e=some n->∀(m i:Nat) (xs ys:Array Value) (xs' ys':Array Value) (b:Bool),eo P (bH P d) e n xs.toList ys.toList i m=some b->VRl ρ xs.toList xs'.toList->VRl ρ ys.toList ys'.toList ->
    (Op.eqItems d e n xs' ys' (List.range' i m)).run P w = .ok b w:=by
   intro e n hn m
   induction m with
   |zero=>intro i xs ys xs' ys' b h _ _;simp[eo]at h;subst h;simp[Op.eqItems]
   |succ m ihm =>
    intro i xs ys xs' ys' b h hx hy
    simp only[eo]at h
    cases hr:eo P (bH P d) e n xs.toList ys.toList (i+1) m with
    |none=>simp[hr]at h
    |some r =>
     simp only[hr]at h
     have hrest:=ihm (i+1) xs ys xs' ys' r hr hx hy
     cases ha:cb P e xs.toList (i*n) with
     |none=>simp[ha]at h
     |some a =>
      cases hb:cb P e ys.toList (i*n) with
      |none=>simp[ha,hb]at h
      |some c =>
       simp only[ha,hb]at h
       obtain ⟨q,hq,rfl⟩:=Option.map_eq_some_iff.1 h
       obtain ⟨a',ha',hva⟩:=fa (P:=P) ha hx w
       obtain ⟨c',hc',hvc⟩:=fa (P:=P) hb hy w
       simp only[List.range'_succ,Op.eqItems,Sem.run_bind,ha',hc',Result.andThen_ok,ih hq hva hvc w]
       cases q <;> simp[hrest]
  unfold bH at h
  split at h
  ·rename_i a c hu;cases hx;cases hy;cases h;simp[Op.equalIn,aA hu]
  ·rename_i k a k' c hu
   cases hx;cases hy
   split at h
   ·rename_i hk;cases h;subst hk;simp[Op.equalIn,aA hu]
   ·simp at h
  ·rename_i a c hu;cases hx;cases hy;cases h;simp[Op.equalIn,aA hu]
  ·rename_i fs xs ys hu
   split at h
   ·simp at h
   ·rename_i hs
    cases hx with
    | @agg _ xs' g1 g2 =>
     cases hy with
     | @agg _ ys' k1 k2 =>
      have hfo:P.fieldsOf t=fs:=by simp[Program.fieldsOf,hu]
      rw[run_equalIn_struct w d t xs' ys' (by rw[hfo];exact hu) (by simpa using hs),hfo]
      exact hf _ _ _ _ _ _ h (VR.f0 (.agg g1 g2)) (VR.f0 (.agg k1 k2))
  ·rename_i len e xs ys hu
   cases hn:aO P e with
   |none=>simp[hn]at h
   |some n =>
    simp only[hn]at h
    cases hx with
    | @agg _ xs' g1 g2 =>
     cases hy with
     | @agg _ ys' k1 k2 =>
      obtain ⟨i,hi1,hi2,_⟩:=sy hn w
      rw[run_equalIn_array w d xs' ys' hu hi1,List.range_eq_range']
      have:P.cellsOf e=n:=by simp[Program.cellsOf,hi1,hi2]
      rw[this]
      exact hi e n hn _ _ _ _ _ _ _ h (VR.f0 (.agg g1 g2)) (VR.f0 (.agg k1 k2))
  ·rename_i hu
   cases hx
   cases hy <;> (unfold CH at h;first|(cases h;simp[Op.equalIn,aA hu])|cases h)
  ·rename_i hno hu
   cases hy
   cases hx <;> (unfold CH at h;first|exact (hno rfl).elim|(cases h;simp[Op.equalIn,aA hu])|cases h)
  ·rename_i hu;cases h;cases hx;cases hy <;> simp[Op.equalIn,aA hu]
  ·rename_i hno hu;cases h;cases hy;cases hx <;> first|exact (hno rfl).elim|simp[Op.equalIn,aA hu]
  ·rename_i hu;cases h;cases hx;cases hy <;> simp[Op.equalIn,aA hu]
  ·rename_i hno hu;cases h;cases hy;cases hx <;> first|exact (hno rfl).elim|simp[Op.equalIn,aA hu]
  ·rename_i hu;cases h;cases hx;cases hy;simp only[Op.equalIn,Sem.run_bind,aA hu,Result.andThen_ok,Sem.run_pure]
  ·rename_i hu;cases h;cases hx;cases hy <;> simp only[Op.equalIn,Sem.run_bind,aA hu,Result.andThen_ok,Sem.run_pure]
  ·rename_i hu;cases h;cases hy;cases hx <;> simp only[Op.equalIn,Sem.run_bind,aA hu,Result.andThen_ok,Sem.run_pure]
  ·simp at h
end Go.K
namespace Go.K
variable {P:Program} {w:World} {ρ:Ren} {H:Heap}
theorem AG{op:BinOp}{t:TypeId}{x y:Operand}{k k':IntKind}{a b:Int}{v:Value}(h:vk op k a k' b=some v)(w:World) :
  ((do eqGuard op t x y (.int k a) (.int k' b);binOp op t (.int k a) (.int k' b):Sem Value)).run P w = .ok v w/\VR ρ v v:=by
 unfold vk at h
 have hg:∀op,eqGuard op t x y (.int k a) (.int k' b)=pure ():=fun op=>by cases op <;> rfl
 rw[hg]
 cases op <;> simp only at h <;> (repeat' split at h) <;> first
  |(simp at h;done)
  |(cases h;refine ⟨?_,by first|exact .int _ _|exact .bool _⟩;simp_all [binOp,Op.shift,Op.intArith,Op.intDiv,Op.intBits,Op.intCmp] <;> (intro hlt;omega))
theorem ep{op:BinOp}{t:TypeId}{x y x' y' v:Value}(h:ny P op t x y=some v)(hx:VR ρ x x')(hy:VR ρ y y')
  (he:∀w,(binOp .eql t x' y').run P w=((Op.equal t x' y').run P w).andThen fun b w => .ok (.bool b) w)
  (hn:∀w,(binOp .neq t x' y').run P w=((Op.equal t x' y').run P w).andThen fun b w => .ok (.bool (!b)) w)
  {ox oy:Operand} (hg:(∃xs ys,x' = .agg xs/\y' = .agg ys)∨∀op,eqGuard op t ox oy x' y'=pure ()) (w:World) :
  ((do eqGuard op t ox oy x' y';binOp op t x' y':Sem Value)).run P w = .ok v w/\VR ρ v v:=by
 have key:∀b,keq P t x y=some b->(Op.equal t x' y').run P w = .ok b w/\∀op,(op = .eql∨op = .neq)->(eqGuard op t ox oy x' y').run P w = .ok () w:=by
  intro b hb
  unfold keq at hb
  split at hb
  ·rename_i xs ys
   split at hb
   ·simp at hb
   ·rename_i hgt
    refine ⟨lu _ hb hx hy w,fun op hop =>?_⟩
    cases hx;cases hy
    rcases hop with rfl|rfl <;> simp[eqGuard,hgt]
  ·rename_i hno
   refine ⟨lu _ hb hx hy w,fun op hop =>?_⟩
   rcases hg with ⟨xs,ys,rfl,rfl⟩|hg
   ·cases hx with
    |junk=>exfalso;unfold bH at hb;split at hb <;> simp_all
    |agg a b=>cases hy with
     |junk=>exfalso;unfold bH at hb;split at hb <;> simp_all
     |agg c d=>exact absurd rfl (hno _ _ rfl)
   ·rw[hg];rfl
 unfold ny at h
 split at h
 ·obtain ⟨b,hb,rfl⟩:=Option.map_eq_some_iff.1 h
  obtain ⟨h1,h2⟩:=key b hb
  refine ⟨?_,.bool _⟩
  simp[Sem.run_bind,h2 .eql (.inl rfl),he,h1]
 ·obtain ⟨b,hb,rfl⟩:=Option.map_eq_some_iff.1 h
  obtain ⟨h1,h2⟩:=key b hb
  refine ⟨?_,.bool _⟩
  simp[Sem.run_bind,h2 .neq (.inr rfl),hn,h1]
 ·simp at h
set_option maxHeartbeats 1000000 in
theorem AL{op:BinOp}{t:TypeId}{x y x' y' v:Value}{ox oy:Operand}(h:ta P op t x y=some v)(hx:VR ρ x x')(hy:VR ρ y y')(w:World) :
  ((do eqGuard op t ox oy x' y';binOp op t x' y':Sem Value)).run P w = .ok v w/\VR ρ v v:=by
 unfold ta at h
 split at h
 ·cases hx;cases hy;exact AG h w
 ·refine ep h hx hy ?_ ?_ ?_ w
  all_goals cases hx;cases hy
  ·intro w;simp[binOp]
  ·intro w;simp[binOp]
  ·right;intro op;cases op <;> rfl
 ·refine ep h hx hy ?_ ?_ ?_ w
  all_goals cases hx;cases hy
  ·intro w;simp[binOp]
  ·intro w;simp[binOp]
  ·left;exact ⟨_,_,rfl,rfl⟩
 ·refine ep h hx hy ?_ ?_ ?_ w
  all_goals cases hx <;> cases hy
  all_goals first|(intro w;simp[binOp])|(right;intro op;cases op <;> rfl)
 ·refine ep h hx hy ?_ ?_ ?_ w
  all_goals cases hx <;> cases hy
  all_goals first|(intro w;simp[binOp])|(right;intro op;cases op <;> rfl)
 ·refine ep h hx hy ?_ ?_ ?_ w
  all_goals cases hx <;> cases hy
  all_goals first|(intro w;simp[binOp])|(right;intro op;cases op <;> rfl)
 ·refine ep h hx hy ?_ ?_ ?_ w
  all_goals cases hx <;> cases hy
  all_goals first|(intro w;simp[binOp])|(right;intro op;cases op <;> rfl)
 ·refine ep h hx hy ?_ ?_ ?_ w
  all_goals cases hx <;> cases hy
  all_goals first|(intro w;simp[binOp])|(right;intro op;cases op <;> rfl)
 ·refine ep h hx hy ?_ ?_ ?_ w
  all_goals cases hx <;> cases hy
  all_goals first|(intro w;simp[binOp])|(right;intro op;cases op <;> rfl)
 ·refine ep h hx hy ?_ ?_ ?_ w
  all_goals cases hx <;> cases hy
  all_goals first|(intro w;simp[binOp])|(right;intro op;cases op <;> rfl)
 ·simp at h
theorem CN{op:UnOp}{x x' v:Value}(h:kun op x=some v)(hx:VR ρ x x')(w:World):(Op.unary op x').run P w = .ok v w/\VR ρ v v:=by
 unfold kun at h
 split at h
 ·cases hx;cases h;exact ⟨rfl,.int _ _⟩
 ·cases hx;cases h;exact ⟨rfl,.bool _⟩
 ·cases hx;cases h;exact ⟨rfl,.int _ _⟩
 ·simp at h
theorem yP{s d:TypeId}{x x' v:Value}(h:xk P s d x=some v)(hx:VR ρ x x')(w:World):(convert s d x').run P w = .ok v w/\VR ρ v v:=by
 unfold xk at h
 split at h
 ·rename_i k _ n hs hd
  cases hx;cases h
  refine ⟨?_,.int _ _⟩
  simp only[convert,Sem.run_bind,aA hs,aA hd,Result.andThen_ok]
  simp[Conv.intToInt]
 ·simp at h
theorem yN(mx:Bool):∀{rest rest':List Value} {x x' v:Value},
  rest.foldlM (fun a b=>match a,b with
   | .int k x,.int _ y=>some (.int k (if mx then (if y > x then y else x) else (if y<x then y else x)))
   |_,_=>none) x=some v->VR ρ x x'->VRl ρ rest rest'->∀w,∃v',(rest'.foldlM (if mx then Builtin.max2 else Builtin.min2) x').run P w = .ok v' w/\VR ρ v v':=by
 intro rest
 induction rest with
 |nil =>
  intro rest' x x' v h hx hl w
  obtain rfl:rest'=[]:=by have:=hl.1;simpa using this.symm
  simp at h;subst h
  exact ⟨x',rfl,hx⟩
 |cons y ys ih =>
  intro rest' x x' v h hx hl w
  cases rest' with
  |nil=>have:=hl.1;simp at this
  |cons y' ys' =>
   have hy:VR ρ y y':=hl.2 0 _ _ rfl rfl
   have ht:VRl ρ ys ys':=⟨by have:=hl.1;simpa using this,fun i a b p q=>hl.2 (i+1) a b (by simpa using p) (by simpa using q)⟩
   rw[List.foldlM_cons]at h
   simp only[Option.bind_eq_bind,Option.bind_eq_some_iff]at h
   obtain ⟨u,hu,h⟩:=h
   split at hu
   ·rename_i k a k2 c
    cases hx;cases hy
    cases hu
    obtain ⟨v',h1,h2⟩:=ih h (.int _ _) ht w
    refine ⟨v',?_,h2⟩
    rw[List.foldlM_cons]
    cases mx <;> simpa[Builtin.max2,Builtin.min2] using h1
   ·simp at hu
theorem lR(mx:Bool){l l':List Value}{v:Value}(h:jf mx l=some v)(hl:VRl ρ l l')(ts:Array TypeId)(t:TypeId)(w:World) :
  ∃v',((if mx then Builtin.max_ ts t ⟨l'⟩ else Builtin.min_ ts t ⟨l'⟩)).run P w = .ok v' w/\VR ρ v v':=by
 cases l with
 |nil=>simp[jf]at h
 |cons x rest =>
  cases l' with
  |nil=>have:=hl.1;simp at this
  |cons x' rest' =>
   have hx:VR ρ x x':=hl.2 0 _ _ rfl rfl
   have ht:VRl ρ rest rest':=⟨by have:=hl.1;simpa using this,fun i a b p q=>hl.2 (i+1) a b (by simpa using p) (by simpa using q)⟩
   obtain ⟨v',h1,h2⟩:=yN mx h hx ht w
   refine ⟨v',?_,h2⟩
   cases mx <;> simpa[Builtin.max_,Builtin.min_] using h1
theorem fC{fd:Field}{n:Nat}(h:aO P fd.type=some (n+1))(b off:Nat)(w:World):(fieldPlace ⟨b,off,none⟩ fd).run P w = .ok ⟨b,off+fd.offset,none⟩ w:=by
 simp[fieldPlace,bj h,addr_add]
theorem nv{s:TypeId}{x x' v:Value}{f:Nat}(h:hP P s x f=some v)(hx:VR ρ x x')(w:World):∃v',(Instr.fieldAt s x' f).run P w = .ok v' w/\VR ρ v v':=by
 unfold hP at h
 split at h
 ·rename_i fs id off hu
  split at h
  ·rename_i fd hf
   split at h
   ·rename_i n hn
    cases h
    cases hx with
    |ptr hr =>
     refine ⟨_,?_,by have:=VR.ptr (o:=off+fd.offset) hr;rw[show off+fd.offset+_=off+_+fd.offset from Nat.add_right_comm _ _ _]at this;exact this⟩
     simp[Instr.fieldAt,aA hu,hf,Instr.sureAddr,fC hn]
   ·simp at h
  ·simp at h
 ·rename_i fs id off k hu
  split at h
  ·rename_i fd hf
   split at h
   ·rename_i n hn
    cases h
    cases hx with
    |dS hr =>
     refine ⟨_,?_,by have:=VR.dS (o:=off+fd.offset) hr;rw[show off+fd.offset+_=off+_+fd.offset from Nat.add_right_comm _ _ _]at this;exact this⟩
     simp[Instr.fieldAt,aA hu,hf,Instr.sureAddr,fC hn]
   ·simp at h
  ·simp at h
 ·rename_i fs off cs hu
  split at h
  ·rename_i fd hf
   split at h
   ·rename_i n hn
    cases h
    cases hx with
    | @bP _ b s _ _ g1 g2 g3 =>
     refine ⟨_,?_,by have:=VR.bP (o:=off+fd.offset) g1 g2 g3;rw[show off+fd.offset+s=off+s+fd.offset from Nat.add_right_comm _ _ _]at this;exact this⟩
     simp[Instr.fieldAt,aA hu,hf,Instr.sureAddr,fC hn]
   ·simp at h
  ·simp at h
 ·simp at h
theorem vm{t:TypeId}{x x' v:Value}{f:Nat}(h:qN P t x f=some v)(hx:VR ρ x x')(w:World):∃v',(Instr.field t x' f).run P w = .ok v' w/\VR ρ v v':=by
 unfold qN at h
 split at h
 ·rename_i fs cs hu
  split at h
  ·rename_i fd hf
   cases hx with
   |agg h1 h2 =>
    obtain ⟨v',h3,h4⟩:=fa (P:=P) h (VR.f0 (.agg h1 h2)) w
    exact ⟨v',by simp[Instr.field,aA hu,hf,asAgg,h3],h4⟩
  ·simp at h
 ·simp at h
theorem im{t:TypeId}{x i x' i' v:Value}(h:cC P t x i=some v)(hx:VR ρ x x')(hi:VR ρ i i')(w:World):∃v',(Instr.indexAt t x' i').run P w = .ok v' w/\VR ρ v v':=by
 unfold cC at h
 split at h
 ·rename_i e id off len cap k i hu
  cases hn:aO P e with
  |none=>simp[hn]at h
  |some n =>
   simp only[hn]at h
   split at h
   ·rename_i hb
    cases h
    cases hi
    cases hx with
    |slice hr hl hc ho =>
     refine ⟨_,?_,by have:=VR.ptr (o:=off+i.toNat*n) hr;rw[show off+i.toNat*n+_=off+_+i.toNat*n from Nat.add_right_comm _ _ _]at this;exact this⟩
     simp[Instr.indexAt,aA hu,asIntOf,hb,bj hn,addr_add]
    |aQ hr=>omega
   ·simp at h
 ·rename_i len e id off k i hu
  cases hn:aO P e with
  |none=>simp[hn]at h
  |some n =>
   simp only[hn]at h
   split at h
   ·rename_i hb
    cases h
    cases hi
    cases hx with
    |ptr hr =>
     refine ⟨_,?_,by have:=VR.ptr (o:=off+i.toNat*n) hr;rw[show off+i.toNat*n+_=off+_+i.toNat*n from Nat.add_right_comm _ _ _]at this;exact this⟩
     simp[Instr.indexAt,aA hu,asIntOf,hb,bj hn,addr_add,Instr.sureAddr]
   ·simp at h
 ·rename_i e len cs k i hu
  cases hn:aO P e with
  |none=>simp[hn]at h
  |some n =>
   simp only[hn]at h
   split at h
   ·rename_i hb
    cases h
    cases hi
    cases hx with
    | @deep _ b s _ _ _ g1 g2 g3 g4 g5 =>
     refine ⟨_,?_,by have:=VR.bP (o:=i.toNat*n) g1 g4 g5;rw[Nat.add_comm]at this;exact this⟩
     simp[Instr.indexAt,aA hu,asIntOf,hb,bj hn,addr_add]
    |br=>omega
   ·simp at h
 ·rename_i len e off cs k i hu
  cases hn:aO P e with
  |none=>simp[hn]at h
  |some n =>
   simp only[hn]at h
   split at h
   ·rename_i hb
    cases h
    cases hi
    cases hx with
    | @bP _ b s _ _ g1 g2 g3 =>
     refine ⟨_,?_,by have:=VR.bP (o:=off+i.toNat*n) g1 g2 g3;rw[show off+i.toNat*n+s=off+s+i.toNat*n from Nat.add_right_comm _ _ _]at this;exact this⟩
     simp[Instr.indexAt,aA hu,asIntOf,hb,bj hn,addr_add,Instr.sureAddr]
   ·simp at h
 ·simp at h
theorem me{t:TypeId}{id off len cap:Nat}{i v:Value}(h:cC P t (.slice (some ⟨id,off,none⟩) len cap) i=some v):0<len:=by
 unfold cC at h
 split at h
 ·rename_i g
  cases g
  split at h
  ·split at h
   ·omega
   ·cases h
  ·cases h
 ·rename_i g;cases g
 ·rename_i g;cases g
 ·rename_i g;cases g
 ·cases h
theorem nu{t:TypeId}{x i x' i' v:Value}(h:dt P t x i=some v)(hx:VR ρ x x')(hi:VR ρ i i')(w:World):∃v',(Instr.indexAt t x' i').run P w = .ok v' w/\VR ρ v v':=by
 unfold dt at h
 unfold deq at h
 split at h
 ·exact im h (hx.deq (me h)) hi w
 ·exact im h hx hi w
theorem vl{t:TypeId}{x i x' i' v:Value}(h:ll P t x i=some v)(hx:VR ρ x x')(hi:VR ρ i i')(w:World):∃v',(Instr.index t x' i').run P w = .ok v' w/\VR ρ v v':=by
 unfold ll at h
 split at h
 ·rename_i len e cs k i hu
  cases hn:aO P e with
  |none=>simp[hn]at h
  |some n =>
   simp only[hn]at h
   split at h
   ·rename_i hb
    cases hi
    cases hx with
    |agg h1 h2 =>
     obtain ⟨v',h3,h4⟩:=fa (P:=P) h (VR.f0 (.agg h1 h2)) w
     exact ⟨v',by simp[Instr.index,aA hu,asIntOf,hb,bj hn,h3],h4⟩
   ·simp at h
 ·rename_i s k i hu
  split at h
  ·rename_i h0
   obtain ⟨b,hb,rfl⟩:=Option.map_eq_some_iff.1 h
   cases hi
   cases hx
   exact ⟨_,by simp[Instr.index,aA hu,asIntOf,h0,hb],.int _ _⟩
  ·simp at h
 ·simp at h
theorem eO{v v':Option Value}{d m m' r:Nat}{code:BoundsCode}(h:fi v d m=some r)(hv:∀x,v=some x->∃x',v'=some x'/\VR ρ x x')(hn:v=none->v'=none)(hm:m<=m')(w:World) :
  ((match v' with|some v=>Instr.sliceBound v m' code|none=>pure d):Sem Nat).run P w = .ok r w/\(v=none->r=d)/\(v≠none->r<=m):=by
 unfold fi at h
 split at h
 ·cases h
  obtain rfl:v'=none:=hn rfl
  exact ⟨rfl,fun _=>rfl,fun h=>absurd rfl h⟩
 ·rename_i k i
  split at h
  ·rename_i hb
   cases h
   obtain ⟨x',rfl,hx⟩:=hv _ rfl
   cases hx
   refine ⟨?_,fun h=>by simp at h,fun _=>by omega⟩
   simp only[Instr.sliceBound,asIntOf,Sem.run_bind,Sem.run_pure,Result.andThen_ok]
   rw[if_pos (by omega)];rfl
  ·simp at h
 ·simp at h
theorem vb{t:TypeId}{x x' v:Value}{lo hi lo' hi':Option Value}{rd:Option Nat}(h:jQ P t x lo hi H=some (v,rd))(hx:VR ρ x x')
  (hlo:∀x,lo=some x->∃x',lo'=some x'/\VR ρ x x') (Dt:lo=none->lo'=none) (hhi:∀x,hi=some x->∃x',hi'=some x'/\VR ρ x x') (Bb:hi=none->hi'=none)
  (ho:∀id,rd=some id->kP ρ H w id):∃v',(Instr.sliceAt t x' lo' hi' none).run P w = .ok v' w/\VR ρ v v':=by
 unfold jQ at h
 split at h
 ·rename_i e a len cap hu
  cases hn:aO P e with
  |none=>simp[hn]at h
  |some n =>
   cases hh:fi hi len cap with
   |none=>simp[hn,hh]at h
   |some h' =>
    cases hl:fi lo 0 h' with
    |none=>simp[hn,hh,hl]at h
    |some l =>
     simp only[hn,hh,hl]at h
     have run:∀(a':Option Addr) (cap':Nat),cap<=cap'->(Instr.sliceAt t (.slice a' len cap') lo' hi' none).run P w =
       .ok (.slice (if cap'=l then a' else a'.map (·.add (l*n))) (h'-l) (cap'-l)) w:=by
      intro a' cap' hc
      have h1:=(eO (P:=P) (code:=.sliceAcap) hh hhi Bb hc w).1
      have h2:=(eO (P:=P) (code:=.sliceB) hl hlo Dt (Nat.le_refl _) w).1
      simp only[Instr.sliceAt,Instr.slice,aA hu,Sem.run_bind,Result.andThen_ok]
      have hbs:(Instr.sliceBounds true len cap' lo' hi' none).run P w = .ok (l,h',cap') w:=by
       unfold Instr.sliceBounds
       simp only[Sem.run_bind,Sem.run_pure,Result.andThen_ok]
       cases hi' <;> cases lo' <;> simp_all [Sem.run_bind]
      simp[hbs,bj hn]
     have hll:l<=h':=by
      rcases (eO (P:=P) (code:=.sliceB) hl hlo Dt (Nat.le_refl _) w) with ⟨_,h2,h3⟩
      cases lo with
      |none=>have:=h2 rfl;omega
      |some _=>exact h3 (by simp)
     have hhc:len<=cap->h'<=cap:=by
      intro hlc
      rcases (eO (P:=P) (code:=.sliceAcap) hh hhi Bb (Nat.le_refl _) w) with ⟨_,h2,h3⟩
      cases hi with
      |none=>have:=h2 rfl;omega
      |some _=>exact h3 (by simp)
     split at h
     ·cases hx
      have:=hhc (Nat.le_refl _)
      obtain rfl:h'=0:=by omega
      obtain rfl:l=0:=by omega
      cases h
      exact ⟨_,run none 0 (Nat.le_refl _),by simpa using VR.aT⟩
     ·rename_i id off
      split at h
      ·rename_i own z cs hid
       split at h
       ·rename_i hz
        cases h
        cases hx with
        | @slice _ _ r _ _ cap' hr hlc hc hroom =>
         obtain ⟨e1,e2,_⟩:=(ho id rfl).o r _ hr hid
         have hh2:=hhc hlc
         refine ⟨_,run _ cap' hc,?_⟩
         by_cases hcl:cap'=l
         ·obtain rfl:cap=l:=by omega
          rw[if_pos hcl,show h'-cap=0 by omega,show cap-cap=0 by omega,show cap'-cap=0 by omega]
          exact .aQ hr
         ·rw[if_neg hcl]
          simp only[Option.map_some,addr_add]
          rw[show off+r.s+l*n=off+l*n+r.s from Nat.add_right_comm _ _ _]
          refine .slice hr (by omega) (by omega) (fun hown hz0 =>?_)
          have:=hroom hown hz0
          have hzn:r.z=n:=by
           rcases hz with h1|h1|h1
           ·rw[e1,hown]at h1;simp at h1
           ·rw[e2]at h1;exact absurd h1 hz0
           ·rw[<- e2];exact h1
          rw[hzn]at this ⊢
          have:(cap'-l)*n+l*n=cap'*n:=by rw[<- Nat.add_mul];congr 1;omega
          omega
        |aQ hr =>
         have hh2:=hhc (Nat.le_refl _)
         obtain rfl:h'=0:=by omega
         obtain rfl:l=0:=by omega
         exact ⟨_,run _ 0 (Nat.le_refl _),by simpa using VR.aQ hr⟩
       ·simp at h
      ·simp at h
     ·rename_i id off q
      split at h
      ·rename_i own z cs hid
       split at h
       ·rename_i hz
        obtain ⟨hz,hle⟩:=hz
        cases h
        rcases Nat.eq_zero_or_pos len with h0|h0
        ·subst h0
         obtain rfl:h'=0:=by omega
         obtain rfl:l=0:=by omega
         have fin:∀(a':Option Addr) (cap':Nat),cap<=cap'->∃v',(Instr.sliceAt t (.slice a' 0 cap') lo' hi' none).run P w = .ok v' w/\VR ρ (.slice (some ⟨id,off+0*n,some 2⟩) 0 0) v':=fun a' cap' hc=>⟨_,run a' cap' hc,.aB⟩
         cases hx with
         |ax=>exact fin _ _ (Nat.le_refl _)
         |ay=>exact fin _ _ (Nat.le_refl _)
         |aD _ hp=>exact absurd hp (Nat.lt_irrefl 0)
         |aB=>exact fin _ _ (Nat.zero_le _)
         |aX _ hp=>exact absurd hp (Nat.lt_irrefl 0)
        ·cases hx.deq h0 with
         | @slice _ _ r _ _ cap' hr hlc hc hroom =>
          obtain ⟨e1,e2,_⟩:=(ho id rfl).o r _ hr hid
          refine ⟨_,run _ cap' hc,?_⟩
          rcases Nat.eq_zero_or_pos (h'-l) with hq|hq
          ·rw[hq];exact .aB
          ·rw[if_neg (by omega)]
           simp only[Option.map_some,addr_add]
           rw[show off+r.s+l*n=off+l*n+r.s from Nat.add_right_comm _ _ _]
           refine .aX hr hq (Nat.le_refl _) (by omega) (fun hown hz0 =>?_)
           have:=hroom hown hz0
           have hzn:r.z=n:=by
            rcases hz with h1|h1|h1
            ·rw[e1,hown]at h1;simp at h1
            ·rw[e2]at h1;exact absurd h1 hz0
            ·rw[<- e2];exact h1
           rw[hzn]at this ⊢
           have:(cap'-l)*n+l*n=cap'*n:=by rw[<- Nat.add_mul];congr 1;omega
           omega
         |aQ hr=>exact absurd h0 (Nat.lt_irrefl 0)
       ·simp at h
      ·simp at h
     ·simp at h
 ·rename_i m e id off hu
  split at h
  ·rename_i sz own z cs hn hid
   split at h
   ·rename_i hz
    cases h
    cases hx with
    | @ptr _ _ r hr =>
     obtain ⟨e1,e2,_⟩:=(ho id rfl).o r _ hr hid
     have h1:=Dt rfl
     have h2:=Bb rfl
     subst h1 h2
     refine ⟨.slice (some ⟨r.b,off+r.s,none⟩) (m+1) (m+1),?_,.slice hr (Nat.le_refl _) (Nat.le_refl _) (fun hown hz0 =>?_)⟩
     ·simp[Instr.sliceAt,aA hu,Instr.sureAddr,Instr.sliceBounds,bj hn,addr_add]
     ·rcases hz with q|q
      ·rw[e1,hown]at q;cases q
      ·rw[e2]at q;exact absurd q hz0
   ·simp at h
  ·simp at h
 ·rename_i e n cs hu
  split at h
  ·rename_i z h' hn hh
   cases h
   have hl0:=Dt rfl
   subst hl0
   have hb:=eO (P:=P) (code:=.sliceAcap) hh hhi Bb (Nat.le_refl _) w
   have hle:h'<=n:=by
    cases hi with
    |none=>have:=hb.2.1 rfl;omega
    |some _=>exact hb.2.2 (by simp)
   have run:∀(a':Option Addr) (cap':Nat),n<=cap'->(Instr.sliceAt t (.slice a' n cap') none hi' none).run P w =
     .ok (.slice (if cap'=0 then a' else a'.map (·.add (0*z))) (h'-0) (cap'-0)) w:=by
    intro a' cap' hc
    have h1:=(eO (P:=P) (code:=.sliceAcap) hh hhi Bb hc w).1
    simp only[Instr.sliceAt,Instr.slice,aA hu,Sem.run_bind,Result.andThen_ok]
    have hbs:(Instr.sliceBounds true n cap' none hi' none).run P w = .ok (0,h',cap') w:=by
     unfold Instr.sliceBounds
     simp only[Sem.run_bind,Sem.run_pure,Result.andThen_ok]
     cases hi' <;> simp_all [Sem.run_bind]
    simp[hbs,bj hn]
   cases hx with
   | @deep _ b s cap' _ m hm hp hc h1 h2 =>
    refine ⟨_,run _ _ hc,?_⟩
    rw[if_neg (by omega)]
    simp only[Option.map_some,addr_add,Nat.zero_mul,Nat.add_zero,Nat.sub_zero]
    rcases Nat.eq_zero_or_pos h' with h0|h0
    ·subst h0;exact .br
    ·refine .deep hm h0 (by omega) ?_ (fun i v v' a c =>?_)
     ·rcases h1 with h1|h1
      ·left;simp[h1]
      ·right
       have:(List.take (h'*z) cs.toList).length<=cs.size:=by rw[List.length_take];simp;omega
       show (List.take (h'*z) cs.toList).length+s<=_
       omega
     ·refine h2 i v v' ?_ c
      have a2:(List.take (h'*z) cs.toList)[i]?=some v:=by simpa using a
      rw[List.getElem?_take]at a2
      split at a2
      ·simpa using a2
      ·cases a2
   |br =>
    obtain rfl:h'=0:=by omega
    exact ⟨_,run _ _ (Nat.zero_le _),.br⟩
  ·simp at h
 ·simp at h
theorem AB{t:TypeId}{x x' v:Value}{rd:Option Nat}(h:AE P t x H=some (v,rd))(hx:VR ρ x x')(ho:∀id,rd=some id->kP ρ H w id)(ts:List TypeId)(ty:TypeId) :
  ∃v',(Builtin.len_ ⟨t :: ts⟩ ty #[x']).run P w = .ok v' w/\VR ρ v v':=by
 unfold AE at h
 split at h
 ·rename_i hu;cases h
  cases hx <;> exact ⟨_,by simp[Builtin.len_,aA hu,goInt],.int _ _⟩
 ·rename_i hu;cases h
  cases hx <;> exact ⟨_,by simp[Builtin.len_,aA hu,goInt],.int _ _⟩
 ·rename_i hu;cases h
  cases hx <;> exact ⟨_,by simp[Builtin.len_,aA hu,goInt],.int _ _⟩
 ·rename_i hu;cases h;cases hx;exact ⟨_,by simp[Builtin.len_,aA hu,goInt],.int _ _⟩
 ·rename_i hu;cases h;exact ⟨_,by simp[Builtin.len_,aA hu,goInt],.int _ _⟩
 ·rename_i hu;cases h;cases hx;exact ⟨_,by simp[Builtin.len_,aA hu,goInt],.int _ _⟩
 ·rename_i id hu
  split at h
  ·rename_i es hid
   cases h
   cases hx with
   | @map _ r hr =>
    obtain ⟨_,es',hb,⟨hlen,_⟩,_⟩:=(ho id rfl).o _ _ hr hid
    refine ⟨.int .i64 es'.size,?_,by rw[hlen];exact .int _ _⟩
    have:(getObj r.b).run P w = .ok (.map es' es'.size) w:=by simp only[getObj,Sem.run,hb]
    simp[Builtin.len_,aA hu,goInt,this]
  ·simp at h
 ·simp at h
end Go.K
