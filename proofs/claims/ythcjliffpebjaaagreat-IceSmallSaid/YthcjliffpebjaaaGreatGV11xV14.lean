/- Contracts out of what is to be shown. No condition. -/
import Derived.Test.YthcjliffpebjaaaGreatGV6xV10
import Derived.Deep.Slices
import Derived.ChangeStays
import Derived.OpenShut
import Derived.ProofKit
open Go Go.K
set_option linter.unusedVariables false
set_option linter.unusedSimpArgs false
namespace Go.K
noncomputable section
variable {P:Program}
theorem E5{P:Program}{mixed:Bool}(M n:Nat)(hlt:M<2 ^ n)(h:(List.range n).all (fun f => !(Nat.testBit M f) ||MT P mixed f)=true):iH P mixed M:=by
 intro f hf
 rcases Nat.lt_or_ge f n with hn|hn
 ·rw[List.all_eq_true]at h
  have:=h f (List.mem_range.2 hn)
  simpa[hf] using this
 ·have:Nat.testBit M f=false:=Nat.testBit_lt_two_pow (Nat.lt_of_lt_of_le hlt (Nat.pow_le_pow_right Om hn))
  rw[this]at hf;cases hf
theorem rnL{σ:Nat->Option Nat}{d:Nat}{v:Value}(h:bv 0 v=true):rn σ (d+1) v=v/\dD (d+1) v=true:=by
 cases v with
 |pointer a=>cases a with|none=>exact ⟨rfl,rfl⟩|some a=>obtain ⟨b,o,s⟩:=a;cases s <;> simp[bv]at h
 |slice a l c=>cases a with|none=>exact ⟨rfl,rfl⟩|some a=>simp[bv]at h
 |map r=>cases r with|none=>exact ⟨rfl,rfl⟩|some r=>simp[bv]at h
 |func=>simp[bv]at h
 |agg=>simp[bv]at h
 |tuple=>simp[bv]at h
 |iface=>simp[bv]at h
 |_=>exact ⟨rfl,rfl⟩
theorem Gy{σ:Nat->Option Nat}{d:Nat}{p:Value->Bool}(hp:∀v,p v=true->rn σ d v=v/\dD d v=true):∀{l:List Value},l.all p=true->l.map (rn σ d)=l/\l.all (dD d)=true
 | [],_=>⟨rfl,rfl⟩
 |v :: l,h=>by
  simp only[List.all_cons,Bool.and_eq_true]at h
  obtain ⟨a,b⟩:=hp v h.1
  obtain ⟨c,e⟩:=Gy hp h.2
  exact ⟨by rw[List.map_cons,a,c],by simp[b,e]⟩
theorem rnI{σ:Nat->Option Nat}{d k:Nat}{p:Value->Bool}(hp:∀v,p v=true->rn σ d v=v/\dD d v=true){cs:Array Value}(h:cs.toList.all p=true) :
  (rn σ (d+1) (.iface k (.agg cs)) = .iface k (.agg cs)/\dD (d+1) (.iface k (.agg cs))=true)/\(rn σ (d+1) (.iface k (.tuple cs)) = .iface k (.tuple cs)/\dD (d+1) (.iface k (.tuple cs))=true):=by
 obtain ⟨a,b⟩:=Gy hp h
 exact ⟨⟨by unfold rn;simp only;rw[a],b⟩,⟨by unfold rn;simp only;rw[a],b⟩⟩
theorem rnD{σ:Nat->Option Nat}{d:Nat}{v:Value}(h:dP 0 v=true):rn σ (d+2) v=v/\dD (d+2) v=true:=by
 cases v with
 |iface k x =>
  cases x with
  |agg cs=>exact (rnI (d:=d+1) (fun v hv=>rnL hv) h).1
  |tuple cs=>exact (rnI (d:=d+1) (fun v hv=>rnL hv) h).2
  |_=>cases h
 |_=>exact rnL (d:=d+1) h
theorem rnC{σ:Nat->Option Nat}{d:Nat}{v:Value}(h:aw 0 v=true):rn σ (d+3) v=v/\dD (d+3) v=true:=by
 cases v with
 |iface k x =>
  cases x with
  |agg cs=>exact (rnI (d:=d+2) (fun v hv=>rnD hv) h).1
  |tuple cs=>exact (rnI (d:=d+2) (fun v hv=>rnD hv) h).2
  |_=>cases h
 |pointer a=>cases a with|none=>exact ⟨rfl,rfl⟩|some a=>obtain ⟨b,o,s⟩:=a;cases s <;> simp[aw]at h
 |slice a l c=>cases a with|none=>exact ⟨rfl,rfl⟩|some a=>simp[aw]at h
 |map r=>cases r with|none=>exact ⟨rfl,rfl⟩|some r=>simp[aw]at h
 |func=>simp[aw]at h
 |agg=>simp[aw]at h
 |tuple=>simp[aw]at h
 |_=>exact ⟨rfl,rfl⟩
theorem dw{σ:Nat->Option Nat}{d:Nat}:∀{l:List Value},l.all (aw 0)=true->l.map (rn σ (d+3))=l/\l.all (dD (d+3))=true
 | [],_=>⟨rfl,rfl⟩
 |v :: l,h=>by
  simp only[List.all_cons,Bool.and_eq_true]at h
  obtain ⟨a,b⟩:=rnC (σ:=σ) (d:=d) h.1
  obtain ⟨c,e⟩:=dw (σ:=σ) (d:=d) h.2
  exact ⟨by rw[List.map_cons,a,c],by simp[b,e]⟩
theorem rnV{σ:Nat->Option Nat}{d:Nat}{v:Value}(h:cP 0 v=true):rn σ (d+5) v=v/\dD (d+5) v=true:=by
 cases v with
 |agg cs =>
  obtain ⟨a,b⟩:=dw (σ:=σ) (d:=d+1) h
  exact ⟨by unfold rn;simp only;rw[a],b⟩
 |tuple vs =>
  have key:∀l:List Value,(l.all fun v=>match v with| .agg cs=>cs.toList.all (aw 0)|v=>aw 0 v)=true->l.map (rn σ (d+4))=l/\l.all (dD (d+4))=true:=by
   intro l
   induction l with
   |nil=>intro _;exact ⟨rfl,rfl⟩
   |cons v l ih =>
    intro hl
    simp only[List.all_cons,Bool.and_eq_true]at hl
    obtain ⟨c,e⟩:=ih hl.2
    have hv:rn σ (d+4) v=v/\dD (d+4) v=true:=by
     cases v with
     |agg cs =>
      obtain ⟨a,b⟩:=dw (σ:=σ) (d:=d) hl.1
      exact ⟨by unfold rn;simp only;rw[a],b⟩
     |_=>exact rnC (d:=d+1) hl.1
    exact ⟨by rw[List.map_cons,hv.1,c],by simp[hv.2,e]⟩
  obtain ⟨a,b⟩:=key vs.toList h
  exact ⟨by unfold rn;simp only;rw[a],b⟩
 |_=>exact rnC (d:=d+2) h
theorem iu{n:Nat}{v:Value}(h:bv 0 v=true):bv n v=true:=by
 cases v with
 |pointer a=>cases a with|none=>rfl|some a=>obtain ⟨b,o,s⟩:=a;cases s <;> simp[bv]at h
 |slice a l c=>cases a with|none=>rfl|some a=>simp[bv]at h
 |map r=>cases r with|none=>rfl|some r=>simp[bv]at h
 |func=>simp[bv]at h
 |agg=>simp[bv]at h
 |tuple=>simp[bv]at h
 |iface=>simp[bv]at h
 |_=>first|rfl|exact h
theorem mU{p q:Value->Bool}(hp:∀v,p v=true->q v=true){l:List Value}(h:l.all p=true):l.all q=true:=by
 rw[List.all_eq_true]at *;exact fun v hv=>hp v (h v hv)
theorem rJ{n:Nat}{v:Value}(h:dP 0 v=true):dP n v=true:=by
 cases v with
 |iface k x =>
  cases x with
  |agg cs=>exact mU (fun v hv=>iu hv) h
  |tuple cs=>exact mU (fun v hv=>iu hv) h
  |_=>cases h
 |pointer a=>exact iu (n:=n) (v:=.pointer a) h
 |slice a l c=>exact iu (n:=n) (v:=.slice a l c) h
 |map r=>exact iu (n:=n) (v:=.map r) h
 |_=>first|rfl|exact h
theorem d8{n:Nat}{v:Value}(h:aw 0 v=true):aw n v=true:=by
 cases v with
 |iface k x =>
  cases x with
  |agg cs=>exact mU (fun v hv=>rJ hv) h
  |tuple cs=>exact mU (fun v hv=>rJ hv) h
  |_=>cases h
 |pointer a=>cases a with|none=>rfl|some a=>obtain ⟨b,o,s⟩:=a;cases s <;> simp[aw]at h
 |slice a l c=>cases a with|none=>rfl|some a=>simp[aw]at h
 |map r=>cases r with|none=>rfl|some r=>simp[aw]at h
 |func=>simp[aw]at h
 |agg=>simp[aw]at h
 |tuple=>simp[aw]at h
 |_=>first|rfl|exact h
theorem yn{n:Nat}{l:List Value}(h:l.all (aw 0)=true):l.all (aw n)=true:=by
 rw[List.all_eq_true]at *;exact fun v hv=>d8 (h v hv)
theorem AY{n:Nat}{v:Value}(h:cP 0 v=true):cP n v=true:=by
 cases v with
 |agg cs=>exact yn h
 |tuple vs =>
  simp only[cP,List.all_eq_true]at *
  intro v hv
  have:=h v hv
  cases v with
  |agg cs=>simp only[List.all_eq_true]at *;exact fun x hx=>d8 (this x hx)
  |_=>exact d8 this
 |bool b=>rfl
 |int k n=>rfl
 |float k n=>rfl
 |string s=>rfl
 |nilFunc=>rfl
 |nilIface=>rfl
 |pointer a=>exact d8 (n:=n) (v:=.pointer a) h
 |slice a l c=>exact d8 (n:=n) (v:=.slice a l c) h
 |map r=>exact d8 (n:=n) (v:=.map r) h
 |iface k x=>exact d8 (n:=n) (v:=.iface k x) h
 |_=>simp[cP,aw]at h
theorem ak.clean{f:FuncId}{args:List Value}{H:Heap}{v:Value}(h:ak P f args H [] (fun v' _=>v'=v))(hb:cP 0 v=true):ak P f args H [] (Is v H):=by
 refine h.trim ?_
 rintro v' H' hl hs rfl
 refine ⟨AY hb,(fun _ h=>(by cases h)),rfl,?_⟩
 refine List.ext_getElem? (fun i =>?_)
 rw[List.getElem?_take]
 split
 ·rename_i hi;exact hs i hi (by simp)
 ·rename_i hi;exact (List.getElem?_eq_none Om).symm
section
variable {mask:Nat} {dm:Value->MS} {rounds:Nat} {mixed:Bool}
theorem vcP(gu:iH P mixed mask)(iE:mixed=true->P.follows .mixedOrders=true)(n:Nat){f:FuncId}{args:List Value}{h:Hint}{v:Value}(hargs:∀σ,args.map (rn σ 5)=args)(hv:cP 0 v=true)
  (hc:vF P mask dm rounds mixed n true f args ⟨P.globals.size,.leaf⟩ (some []) h (fun v' _ _=>v'=v)) (H:Heap) (hH:P.globals.size<=H.length):ak P f args H [] (Is v H):=by
 have h1:=ak.clean (vc gu iE n (Q:=fun v' _=>v'=v) hc) hv
 have fu:∀(id:Nat) (o:ah),(HT.list ⟨P.globals.size,.leaf⟩)[id]?=some o->o = .dead:=by
  intro id o ho
  rw[HT.ap]at ho
  unfold HT.get at ho
  cases hb:Nat.blt id P.globals.size with
  |true=>simp only[hb,cond_true]at ho;cases ho;rfl
  |false=>simp only[hb,cond_false]at ho;cases ho
 have hlen:(HT.list ⟨P.globals.size,.leaf⟩).length=P.globals.size:=HT.length _
 have hp:Part P (HT.list ⟨P.globals.size,.leaf⟩) H (fun id=>if id<P.globals.size then some id else none) 5:=by
  refine ⟨fun g hg=>if_pos hg,fun id id' h =>?_,fun id hid =>?_,fun a b c h1 h2 =>?_,fun id id' o _ ho => .inl (fu id o ho)⟩
  ·split at h
   ·cases h;rw[hlen];omega
   ·cases h
  ·rw[hlen]at hid;exact ⟨id,if_pos hid⟩
  ·split at h1
   ·split at h2
    ·cases h1;cases h2;rfl
    ·cases h2
   ·cases h1
 have h2:=ak.frame (new:=[]) (d:=5) hp (by simpa using h1) (rnV (σ:=fun _=>none) (d:=0) hv).2 rfl
 rw[hargs,(rnV (d:=0) hv).1]at h2
 simpa using h2
def er(n0 d:Nat)(v:Value)(new:List (Bool×ah)):KV:=fun v' H' h' =>
 match h' with
 | .again σ=>EH n0 (n0+new.length) [] σ=true/\wk v' (rn (sg n0 σ) d v)/\zi H' n0 (sg n0 σ) d n0 new
 |_=>False
theorem ak.pack{f:FuncId}{args:List Value}{H0:HT}{v:Value}{new:List (Bool×ah)}{d:Nat}(h:ak P f args H0.list [] (fun v' H' => ∃(H2:HT) (σ:List (Nat×Nat)),H'=H2.list/\EH H0.n (H0.n+new.length) [] σ=true/\wk v' (rn (sg H0.n σ) d v)/\zi H2 H0.n (sg H0.n σ) d H0.n new)) :
  ak P f args H0.list [] (Is v (H0.list++new.map (·.2))):=by
 refine ⟨h.1,fun B V w args' hr ha=>(h.2 B V w args' hr ha).mono ?_⟩
 rintro e w' ⟨v',r,ρ',H',rfl,hv,hp,H2,σ,rfl,hs,hw,hn⟩
 have hh:um 0 ⟨fun _=>junk,.leaf⟩ H2 H0 d [] σ [] [] new []:=⟨by simp only[Bool.and_eq_true];exact ⟨hs,rfl,rfl,rfl⟩,trivial,trivial,hn,trivial⟩
 have he:=kY hh
 have hlist:(kh H0 [] new []).list=H0.list++new.map (·.2):=by
  have key:∀(l:List (Bool×ah)) (H:HT),(l.foldl (fun H p=>H.push p.2) H).list=H.list++l.map (·.2):=by
   intro l
   induction l with
   |nil=>intro H;simp
   |cons p l ih=>intro H;rw[List.foldl_cons,ih,HT.bN];simp
  exact key new H0
 rw[hlist]at he
 obtain ⟨q1,_⟩:=he.post hr hp
 refine ⟨v,r,cq ρ' (sg H0.n σ),_,rfl,?_,q1,rfl,rfl⟩
 have hσ:∀id id' r,sg H0.n σ id=some id'->ρ' id'=some r->(cq ρ' (sg H0.n σ)) id=some r:=fun id id' r h1 h2=>by show Option.bind _ _=_;rw[h1];exact h2
 exact ny (ρ':=ρ') (V:=cq ρ' (sg H0.n σ)) hσ (fun _ _ h=>h) (fun F F' k r h1 h2=>by show Option.bind _ _=_;rw[h1];exact h2) d (hw _ _ hv)
theorem vcN(gu:iH P mixed mask)(iE:mixed=true->P.follows .mixedOrders=true)(n:Nat){f:FuncId}{args:List Value}{H0:HT}{h:Hint}{v:Value}{new:List (Bool×ah)}{d:Nat}
  (hc:vF P mask dm rounds mixed n true f args H0 (some []) h (er H0.n d v new)):ak P f args H0.list [] (Is v (H0.list++new.map (·.2))):=by
 refine ak.pack (d:=d) (((yI gu iE n).1 f args H0 (some []) h _ hc).post ?_)
 rintro v' H' ⟨H2,h2,e,hk⟩
 cases h2 with
 |again σ=>exact ⟨H2,σ,e,hk⟩
 |_=>exact hk.elim
end
def cu(n:Nat)(cs:List Value)(off:Nat):Option Value:=if off+n<=cs.length then some (.agg ⟨(cs.drop off).take n⟩) else none
def Iv{α:Type}(f:α->List Value)(n:Nat)(cs:List Value)(off:Nat)(xs:List α):Prop:=∀(k:Nat) (x:α),xs[k]?=some x->(f x).length=n/\(cs.drop (off+k*n)).take n=f x
theorem Iv.cell{α:Type}{f:α->List Value}{n:Nat}{cs:List Value}{off:Nat}{xs:List α}(h:Iv f n cs off xs){k c:Nat}{x:α}(hx:xs[k]?=some x){v:Value}(hv:(f x)[c]?=some v):cs[off+k*n+c]?=some v:=by
 obtain ⟨h1,h2⟩:=h k x hx
 have hc:c<n:=by have:=(List.getElem?_eq_some_iff.1 hv).1;omega
 rw[<- h2,List.getElem?_take,if_pos hc,List.getElem?_drop]at hv
 exact hv
theorem Iv.agg{α:Type}{f:α->List Value}{n:Nat}{cs:List Value}{off:Nat}{xs:List α}(h:Iv f n cs off xs){k c m:Nat}{x:α}(hx:xs[k]?=some x)(hm:c+m<=n)(h0:0<m):cu m cs (off+k*n+c)=some (.agg ⟨((f x).drop c).take m⟩):=by
 obtain ⟨h1,h2⟩:=h k x hx
 have hl:(f x).length<=(cs.drop (off+k*n)).length:=by rw[<- h2,List.length_take];omega
 rw[List.length_drop]at hl
 unfold cu
 rw[if_pos Om,<- h2,List.drop_take,List.take_take,List.drop_drop,Nat.min_eq_left Om]
end
end Go.K
namespace Go.K
variable {P:Program}
def yO(P:Program):Nat->List Field->Nat->Bool
 |off,[],tot=>off == tot
 |off,f :: fs,tot=>f.offset == off&&yO P (off+P.cellsOf f.type) fs tot
def ja(P:Program):Nat->TypeId->Bool
 |0,_=>false
 |n+1,t=>match P.underlying t with
  |some .bool=>true
  |some (.int _)=>true
  |some .string=>true
  |some (.struct fs)=>fs.toList.all (fun f=>ja P n f.type)&&yO P 0 fs.toList (P.cellsOf t)
  |some (.slice e)=>ja P n e&&decide (0<P.cellsOf e)
  |some (.array k e)=>ja P n e&&decide (0<P.cellsOf e)&&(P.cellsOf t == k*P.cellsOf e)
  |_=>false
def Jc(P:Program)(n:Nat)(t:TypeId):Bool:=ja P n t&&match P.underlying t with|some (.array _ _)=>false|_=>true
def kE(g:TypeId->List Value->Prop):List TypeId->List Value->Prop
 | [],cs=>cs=[]
 |t :: ts,cs => ∃c rest,cs=c++rest/\g t c/\kE g ts rest
def Good(P:Program)(H:Heap):Nat->TypeId->List Value->Prop
 |0,_,_=>False
 |n+1,t,cs=>match P.underlying t with
  |some .bool => ∃b,cs=[.bool b]
  |some (.int k) => ∃x,cs=[.int k x]/\k.min<=x/\x<=k.max
  |some .string => ∃s,cs=[.string s]
  |some (.struct fs)=>kE (Good P H n) (fs.toList.map (·.type)) cs
  |some (.slice e)=>cs=[.slice none 0 0]∨cs=[.slice (some ⟨0,0,some 0⟩) 0 0] ∨
    ∃id len cs',cs=[.slice (some ⟨id,0,none⟩) len len]/\H[id]?=some (.cells false 0 cs')/\cs'.length=len*P.cellsOf e/\len<=maxLen/\kE (Good P H n) (List.replicate len e) cs'
  |some (.array k e)=>kE (Good P H n) (List.replicate k e) cs
  |_=>False
theorem kE.mono{g g':TypeId->List Value->Prop}(h:∀t cs,g t cs->g' t cs):∀{ts:List TypeId} {cs:List Value},kE g ts cs->kE g' ts cs
 | [],_,hl=>hl
 |_ :: _,_,⟨c,rest,e,h1,h2⟩=>⟨c,rest,e,h _ _ h1,kE.mono h h2⟩
theorem Good.mono{H K:Heap}:∀{n:Nat} {t:TypeId} {cs:List Value},Good P H n t cs->Good P (H++K) n t cs:=by
 intro n
 induction n with
 |zero=>intro t cs h;exact h
 |succ n ih =>
  intro t cs h
  unfold Good at h ⊢
  split at h
  ·exact h
  ·exact h
  ·exact h
  ·exact kE.mono (fun _ _=>ih) h
  ·rcases h with h|h|⟨id,len,cs',h1,h2,h3,h4,h5⟩
   ·exact .inl h
   ·exact .inr (.inl h)
   ·exact .inr (.inr ⟨id,len,cs',h1,by rw[List.getElem?_append_left (List.getElem?_eq_some_iff.1 h2).1];exact h2,h3,h4,kE.mono (fun _ _=>ih) h5⟩)
  ·exact kE.mono (fun _ _=>ih) h
  ·exact h
structure Ext(P:Program)(B:Nat)(W:World)(V:Ren)(H:Heap)(ρ':Ren)(H':Heap):Prop where
 rel:Rel P B ρ' H' W
 le:Ren.le V ρ'
 pre:∃K,H'=H++K
theorem Ext.refl{B:Nat}{W:World}{V:Ren}{H:Heap}(h:Rel P B V H W):Ext P B W V H V H:=⟨h,Ren.le_refl _,[],by simp⟩
theorem Ext.trans{B:Nat}{W:World}{V ρ1 ρ2:Ren}{H H1 H2:Heap}(h:Ext P B W V H ρ1 H1)(k:Ext P B W ρ1 H1 ρ2 H2):Ext P B W V H ρ2 H2:=by
 obtain ⟨K1,rfl⟩:=h.pre
 obtain ⟨K2,rfl⟩:=k.pre
 exact ⟨k.rel,Ren.le_trans h.le k.le,K1++K2,by simp⟩
theorem Ext.row{B:Nat}{W:World}{V:Ren}{H:Heap}(hr:Rel P B V H W){ri:RI}{cs:List Value}(hown:ri.own=false)(hz:ri.z=0)(hlt:ri.b<W.heap.size)(hb:ri.b<B)
  (ho:∃cs' ty fz,W.heap[ri.b]?=some (.cells cs' ty fz)/\cs'.size=ri.n/\∀(i:Nat) (v:Value),cs[i]?=some v->∃v':Value,cs'[i+ri.s]?=some v'/\VR V v v') :
  Ext P B W V H (V.set H.length ri) (H ++ [.cells false 0 cs]):=by
 have hnone:V H.length=none:=by
  cases h:V H.length with
  |none=>rfl
  |some r=>exact absurd (hr.dom _ _ h) (Nat.lt_irrefl _)
 have hle:=Ren.eU (r:=ri) hnone
 have hget:∀id,id≠H.length->id<H.length+1->(H ++ [ah.cells false 0 cs])[id]?=H[id]? := fun id h1 h2=>List.getElem?_append_left Om
 have hnew:(H ++ [ah.cells false 0 cs])[H.length]?=some (.cells false 0 cs):=by simp
 have hdom:∀id r,V.set H.length ri id=some r->id<H.length+1:=fun id r h=>by
  by_cases e:id=H.length
  ·omega
  ·rw[Ren.aG e]at h;have:=hr.dom _ _ h;omega
 refine ⟨⟨hr.bsize,fun g hg =>?_,fun id r h=>by simpa using hdom id r h,fun id r h =>?_,fun id r o h1 h2 =>?_,fun id r o h1 h2 h3 =>?_,?_,fun b m hm=>⟨(hr.mem b m hm).1,fun id r o h1 h2 h3 =>?_⟩,
   hr.fam.keep hle (fun _ _ _ h=>h) (fun F z cs hF h=>by rw[List.getElem?_append_left hF]at h;exact h) (by simp) (Nat.le_refl _) (fun _ _=>rfl) (fun id r o h1 h2 h3=>by
    by_cases e:id=H.length
    ·subst e;rw[Ren.aJ]at h1;cases h1;exact hr.fam.OI hb
    ·rw[Ren.aG e]at h1
     rw[hget id e (by have:=hr.dom _ _ h1;omega)]at h2
     exact hr.fam.free h1 h2 h3) (fun b m h=>hr.fam.gz h)⟩,hle,_,rfl⟩
 ·obtain ⟨r,h1,h2,h3⟩:=hr.eM g hg
  exact ⟨r,hle _ _ h1,h2,h3⟩
 ·by_cases e:id=H.length
  ·subst e;rw[Ren.aJ]at h;cases h;exact hlt
  ·rw[Ren.aG e]at h;exact hr.lt _ _ h
 ·by_cases e:id=H.length
  ·subst e
   rw[Ren.aJ]at h1;cases h1
   rw[hnew]at h2;cases h2
   obtain ⟨cs',ty,fz,g1,g2,g3⟩:=ho
   exact ⟨hown.symm,hz.symm,cs',ty,fz,g1,g2,fun h=>(by cases h),fun i v hv=>let ⟨v',a,b⟩:=g3 i v hv; ⟨v',a,b.mono hle⟩⟩
  ·rw[Ren.aG e]at h1
   rw[hget id e (by have:=hr.dom _ _ h1;omega)]at h2
   exact (hr.obj id r o h1 h2).mono hle rfl
 ·by_cases e:id=H.length
  ·subst e;rw[hnew]at h2;cases h2;cases h3
  ·rw[Ren.aG e]at h1
   rw[hget id e (by have:=hr.dom _ _ h1;omega)]at h2
   exact hr.base id r o h1 h2 h3
 ·intro id id' r r' o o' h1 h1' h2 h2' h3 h3' hne
  by_cases e:id=H.length
  ·subst e;rw[hnew]at h2;cases h2;cases h3
  ·rw[Ren.aG e]at h1
   rw[hget id e (by have:=hr.dom _ _ h1;omega)]at h2
   by_cases e':id'=H.length
   ·subst e'
    rw[Ren.aJ]at h1';cases h1'
    have:=hr.base id r o h1 h2 h3
    omega
   ·rw[Ren.aG e']at h1'
    rw[hget id' e' (by have:=hr.dom _ _ h1';omega)]at h2'
    exact hr.sep id id' r r' o o' h1 h1' h2 h2' h3 h3' hne
 ·by_cases e:id=H.length
  ·subst e;rw[hnew]at h2;cases h2;cases h3
  ·rw[Ren.aG e]at h1
   rw[hget id e (by have:=hr.dom _ _ h1;omega)]at h2
   exact (hr.mem b m hm).2 id r o h1 h2 h3
end Go.K
namespace Go.K
variable {P:Program} {HH:Type} {enc:TypeId×Value->HH} {W:World} {base:Nat} {held:Bool} {B:Nat}
theorem VRl.length{V:Ren}{l l':List Value}(h:VRl V l l'):l.length=l'.length:=h.1
theorem oN{m n:Nat}(IH:∀(t:TypeId) (cs:List Value) (x:DataW HH×List MemPlace) (V:Ren) (H:Heap),ja P n t=true->DataW.trod enc P W base (fun _=>true) held m t cs=some x->Rel P B V H W->∃ρ' H' cs',Ext P B W V H ρ' H'/\VRl ρ' cs' cs/\Good P H' n t cs') :
  ∀(l:List (TypeId×List Value)),(∀p∈l,ja P n p.1=true/\∃x,DataW.trod enc P W base (fun _=>true) held m p.1 p.2=some x)->∀(V:Ren) (H:Heap),Rel P B V H W ->
   ∃ρ' H' cs',Ext P B W V H ρ' H'/\VRl ρ' cs' (l.map (·.2)).flatten/\kE (Good P H' n) (l.map (·.1)) cs':=by
 intro l
 induction l with
 |nil=>intro _ V H hr;exact ⟨V,H,[],Ext.refl hr,.nil V,rfl⟩
 |cons p ps ih =>
  intro hp V H hr
  obtain ⟨h1,x,h2⟩:=hp p (List.mem_cons_self ..)
  obtain ⟨ρ1,H1,c1,e1,v1,g1⟩:=IH p.1 p.2 x V H h1 h2 hr
  obtain ⟨ρ2,H2,c2,e2,v2,g2⟩:=ih (fun q hq=>hp q (List.mem_cons_of_mem _ hq)) ρ1 H1 e1.rel
  refine ⟨ρ2,H2,c1++c2,e1.trans e2,?_,c1,c2,rfl,?_,g2⟩
  ·simp only[List.map_cons,List.flatten_cons]
   exact VRl.append (v1.mono e2.le) v2
  ·obtain ⟨K,rfl⟩:=e2.pre
   exact g1.mono
theorem ED:∀(fs:List Field) (off tot:Nat) (cs:List Value),yO P off fs tot=true->cs.length=tot->off<=tot/\((fs.map (fun f=>(cs.drop f.offset).take (P.cellsOf f.type))).flatten=cs.drop off):=by
 intro fs
 induction fs with
 |nil =>
  intro off tot cs h hl
  simp only[yO,beq_iff_eq]at h
  subst h
  exact ⟨Nat.le_refl _,by rw[<- hl];simp⟩
 |cons f fs ih =>
  intro off tot cs h hl
  simp only[yO,Bool.and_eq_true,beq_iff_eq]at h
  obtain ⟨h1,h2⟩:=h
  obtain ⟨h3,h4⟩:=ih _ _ cs h2 hl
  refine ⟨Om,?_⟩
  simp only[List.map_cons,List.flatten_cons,h4,h1]
  rw[<- List.drop_drop]
  exact List.take_append_drop ..
theorem xe:∀(n size:Nat),(List.replicate n size).sum=n*size
 |0,size=>by simp
 |n+1,size=>by rw[List.replicate_succ,List.sum_cons,xe n size,Nat.add_mul];omega
theorem flat_get{n size:Nat}{css:Nat->List Value}(hl:∀i,i<n->(css i).length=size)(hs:0<size):∀(j:Nat),j<n*size->((List.range n).map css).flatten[j]?=(css (j / size))[j % size]? := by
 induction n with
 |zero=>intro j hj;omega
 |succ n ih =>
  intro j hj
  rw[List.range_succ,List.map_append,List.flatten_append]
  have hlen:((List.range n).map css).flatten.length=n*size:=by
   rw[List.length_flatten,List.map_map]
   have:(List.range n).map (List.length ∘ css)=List.replicate n size:=by
    rw[List.eq_replicate_iff]
    refine ⟨by simp,fun b hb =>?_⟩
    obtain ⟨i,hi,rfl⟩:=List.mem_map.1 hb
    exact hl i (by have:=List.mem_range.1 hi;omega)
   rw[this];exact xe n size
  rcases Nat.lt_or_ge j (n*size) with h|h
  ·rw[List.getElem?_append_left Om]
   exact ih (fun i hi=>hl i Om) j h
  ·rw[List.getElem?_append_right Om,hlen]
   have h1:j / size=n:=by
    rw[Nat.div_eq_of_lt_le h]
    rw[Nat.add_mul]at hj ⊢;omega
   have h2:j % size=j-n*size:=by
    have:=Nat.mod_add_div j size
    rw[h1,Nat.mul_comm]at this;omega
   simp[h1,h2]
theorem bring(hbase:B=W.heap.size):∀(m n:Nat) (t:TypeId) (cs:List Value) (x:DataW HH×List MemPlace) (V:Ren) (H:Heap),ja P n t=true->DataW.trod enc P W base (fun _=>true) held m t cs=some x->Rel P B V H W ->
  ∃ρ' H' cs',Ext P B W V H ρ' H'/\VRl ρ' cs' cs/\Good P H' n t cs':=by
 intro m
 induction m with
 |zero=>intro n t cs x V H _ h;simp[DataW.trod]at h
 |succ m ih =>
  intro n t cs x V H hp h hr
  cases n with
  |zero=>simp[ja]at hp
  |succ n =>
   unfold ja at hp
   split at hp
   ·rename_i hu
    obtain ⟨b,rfl,_⟩:=DataW.trod_bool hu h
    exact ⟨V,H,[.bool b],Ext.refl hr,.cons (.bool b) (.nil V),by simp[Good,hu]⟩
   ·rename_i k hu
    obtain ⟨y,rfl,_,hw⟩:=DataW.trod_int hu h
    refine ⟨V,H,[.int k y],Ext.refl hr,.cons (.int k y) (.nil V),?_⟩
    simp only[Lit.wf,Bool.and_eq_true,decide_eq_true_eq]at hw
    simp[Good,hu,hw]
   ·rename_i hu
    obtain ⟨s,rfl,_⟩:=DataW.trod_string hu h
    exact ⟨V,H,[.string s],Ext.refl hr,.cons (.string s) (.nil V),by simp[Good,hu]⟩
   ·rename_i fs hu
    simp only[Bool.and_eq_true,List.all_eq_true]at hp
    obtain ⟨xs,m',hm,_,hl,hxl,hx⟩:=DataW.trod_struct hu h
    cases hm
    obtain ⟨_,hfl⟩:=ED fs.toList 0 _ cs hp.2 hl
    obtain ⟨ρ',H',cs',e,v,g⟩:=oN (ih n) (fs.toList.map (fun f=>(f.type,(cs.drop f.offset).take (P.cellsOf f.type)))) (fun p hpm=>by
     obtain ⟨f,hf,rfl⟩:=List.mem_map.1 hpm
     refine ⟨hp.1 f hf,?_⟩
     obtain ⟨i,hi⟩:=List.getElem?_of_mem hf
     have hi':fs[i]?=some f:=by simpa using hi
     have hlt:i<xs.length:=by rw[hxl];exact (Array.getElem?_eq_some_iff.1 hi').1
     exact ⟨_,(hx i f hi').trans (List.getElem?_eq_getElem hlt)⟩) V H hr
    refine ⟨ρ',H',cs',e,?_,?_⟩
    ·rw[List.map_map]at v
     rw[List.drop_zero]at hfl
     rw[<- hfl];exact v
    ·rw[List.map_map]at g
     simp only[Good,hu];exact g
   ·rename_i e hu
    simp only[Bool.and_eq_true,decide_eq_true_eq]at hp
    rcases DataW.trod_slice hu h with ⟨rfl,_⟩|⟨a,len,cap,elems,rest,m',hm,rfl,_,hb,hl,hcap,hlen,hel,hrest,_⟩
    ·exact ⟨V,H,[.slice none 0 0],Ext.refl hr,.cons .bC (.nil V),by simp[Good,hu]⟩
    ·cases hm
     rcases Nat.eq_zero_or_pos cap with hc0|PH
     ·subst hc0
      have hl0:len=0:=Om
      subst hl0
      exact ⟨V,H,[.slice (some ⟨0,0,some 0⟩) 0 0],Ext.refl hr,.cons .cB (.nil V),by simp[Good,hu]⟩
     ·have MQ:∃c0,W.cells? base a (P.cellsOf e)=some c0:=by
       rcases Nat.eq_zero_or_pos len with h0|h0
       ·have h1:=(hrest rfl).2 0 Om
        have h2:0<rest.length:=by rw[(hrest rfl).1];omega
        rw[List.getElem?_eq_getElem h2]at h1
        obtain ⟨c0,g1,_⟩:=Option.bind_eq_some_iff.1 h1
        subst h0
        exact ⟨c0,by simpa[Addr.add] using g1⟩
       ·have h1:=hel 0 h0
        rw[List.getElem?_eq_getElem Om]at h1
        obtain ⟨c0,g1,_⟩:=Option.bind_eq_some_iff.1 h1
        exact ⟨c0,by simpa[Addr.add] using g1⟩
      obtain ⟨c0,hc0⟩:=MQ
      obtain ⟨_,hc1,hc2⟩:=World.cells?_some hc0
      have hc3:W.cell? a=c0[0]? := by simpa[Addr.add] using hc2 0 hp.2
      rw[List.getElem?_eq_getElem Om]at hc3
      obtain ⟨b,off,spot⟩:=a
      unfold World.cell? at hc3
      simp only at hc3
      split at hc3
      ·rename_i raw ty fz hraw
       cases spot with
       |some q=>simp at hc3
       |none =>
        have hadd:∀p,(⟨b,off,none⟩:Addr).add p=⟨b,off+p,none⟩:=by
         intro p;unfold Addr.add;split
         ·rename_i h0;subst h0;rfl
         ·rfl
        have hcell:∀k,W.cell? ⟨b,k,none⟩=raw[k]? := by intro k;unfold World.cell?;simp[hraw]
        have hbl:b<W.heap.size:=(Array.getElem?_eq_some_iff.1 hraw).1
        obtain ⟨css,jT⟩:∃css:Nat->List Value,∀i,i<len->W.cells? base ⟨b,off+i*P.cellsOf e,none⟩ (P.cellsOf e)=some (css i)/\∃y,DataW.trod enc P W base (fun _=>true) held m e (css i)=some y:=by
         refine ⟨fun i=>(W.cells? base ⟨b,off+i*P.cellsOf e,none⟩ (P.cellsOf e)).getD [],fun i hi =>?_⟩
         have h1:=hel i hi
         rw[hadd,List.getElem?_eq_getElem Om]at h1
         obtain ⟨ci,g1,g2⟩:=Option.bind_eq_some_iff.1 h1
         simp only[g1,Option.getD_some]
         exact ⟨trivial,_,g2⟩
        obtain ⟨ρ1,H1,cs1,e1,v1,g1⟩:=oN (ih n) ((List.range len).map (fun i=>(e,css i))) (fun p hpm=>by
         obtain ⟨i,hi,rfl⟩:=List.mem_map.1 hpm
         exact ⟨hp.1,(jT i (List.mem_range.1 hi)).2⟩) V H hr
        have hmap:((List.range len).map (fun i=>(e,css i))).map (·.1)=List.replicate len e:=by
         rw[List.map_map,List.eq_replicate_iff]
         refine ⟨by simp,fun q hq =>?_⟩
         obtain ⟨i,_,rfl⟩:=List.mem_map.1 hq;rfl
        rw[hmap]at g1
        rw[List.map_map]at v1
        have hcl:∀i,i<len->(css i).length=P.cellsOf e:=fun i hi=>(World.cells?_some (jT i hi).1).2.1
        have Ow:((List.range len).map css).flatten.length=len*P.cellsOf e:=by
         rw[List.length_flatten,List.map_map]
         have:(List.range len).map (List.length ∘ css)=List.replicate len (P.cellsOf e):=by
          rw[List.eq_replicate_iff]
          refine ⟨by simp,fun q hq =>?_⟩
          obtain ⟨i,hi,rfl⟩:=List.mem_map.1 hq
          exact hcl i (List.mem_range.1 hi)
         rw[this];exact xe _ _
        have hv1:VRl ρ1 cs1 ((List.range len).map css).flatten:=v1
        have HJ:cs1.length=len*P.cellsOf e:=hv1.1.trans Ow
        have Ot:∀j,j<len*P.cellsOf e->raw[j+off]?=((List.range len).map css).flatten[j]? := by
         intro j hj
         rw[flat_get hcl hp.2 j hj]
         have hdiv:j / P.cellsOf e<len:=(Nat.div_lt_iff_lt_mul hp.2).2 hj
         have hmod:j % P.cellsOf e<P.cellsOf e:=Nat.mod_lt _ hp.2
         have h3:=(World.cells?_some (jT _ hdiv).1).2.2 _ hmod
         have OE:(⟨b,off+j / P.cellsOf e*P.cellsOf e,none⟩:Addr).add (j % P.cellsOf e)=⟨b,j+off,none⟩:=by
          have:=Nat.div_add_mod j (P.cellsOf e)
          rw[Nat.mul_comm]at this
          unfold Addr.add;split
          ·congr 1;omega
          ·simp only;congr 1;omega
         rw[OE,hcell]at h3
         exact h3
        have e2:=Ext.row (B:=B) (W:=W) e1.rel (ri:=⟨b,off,raw.size,0,false⟩) (cs:=cs1) rfl rfl hbl (by rw[hbase];exact hbl) ⟨raw,ty,fz,hraw,rfl,fun i v hv=>by
         have hi:i<len*P.cellsOf e:=by rw[<- HJ];exact (List.getElem?_eq_some_iff.1 hv).1
         obtain ⟨v',k1,k2⟩:=hv1.get hv
         exact ⟨v',(Ot i hi).trans k1,k2⟩⟩
        refine ⟨_,_,[.slice (some ⟨H1.length,0,none⟩) len len],e1.trans e2,.cons ?_ (.nil _),?_⟩
        ·have:=VR.slice (V:=ρ1.set H1.length ⟨b,off,raw.size,0,false⟩) (id:=H1.length) (o:=0) (len:=len) (cap:=len) (cap':=cap) (Ren.aJ ..) (Nat.le_refl _) hl (fun h=>by cases h)
         simpa using this
        ·simp only[Good,hu]
         refine .inr (.inr ⟨H1.length,len,cs1,rfl,by simp,HJ,Om,kE.mono (fun _ _ h=>h.mono) g1⟩)
      ·simp at hc3
   ·rename_i k e hu
    simp only[Bool.and_eq_true,decide_eq_true_eq,beq_iff_eq]at hp
    obtain ⟨xs,m',hm,_,hl,hxl,hx⟩:=DataW.trod_array hu h
    cases hm
    obtain ⟨ρ',H',cs',x,v,g⟩:=oN (ih n) ((List.range k).map (fun i=>(e,(cs.drop (i*P.cellsOf e)).take (P.cellsOf e)))) (fun p hpm=>by
     obtain ⟨i,hi,rfl⟩:=List.mem_map.1 hpm
     have hi:=List.mem_range.1 hi
     exact ⟨hp.1.1,_,(hx i hi).trans (List.getElem?_eq_getElem Om)⟩) V H hr
    have hmap:((List.range k).map (fun i=>(e,(cs.drop (i*P.cellsOf e)).take (P.cellsOf e)))).map (·.1)=List.replicate k e:=by
     rw[List.map_map,List.eq_replicate_iff]
     refine ⟨by simp,fun q hq =>?_⟩
     obtain ⟨i,_,rfl⟩:=List.mem_map.1 hq;rfl
    rw[hmap]at g
    rw[List.map_map]at v
    have Cp:∀(j:Nat),j<=k->((List.range j).map (fun i=>(cs.drop (i*P.cellsOf e)).take (P.cellsOf e))).flatten=cs.take (j*P.cellsOf e):=by
     intro j
     induction j with
     |zero=>intro _;simp
     |succ j ihj =>
      intro hj
      rw[List.range_succ,List.map_append,List.flatten_append,ihj Om,Nat.succ_mul,List.take_add]
      simp
    have hall:=Cp k (Nat.le_refl k)
    rw[<- hp.2,<- hl,List.take_length]at hall
    refine ⟨ρ',H',cs',x,?_,?_⟩
    ·have v':VRl ρ' cs' ((List.range k).map (fun i=>(cs.drop (i*P.cellsOf e)).take (P.cellsOf e))).flatten:=v
     rw[hall]at v';exact v'
    ·simp only[Good,hu];exact g
   ·cases hp
end Go.K
namespace Go.K
open Go Go.RowKit Go.ChangeAt Go.WideShapes
variable {P:Program} {HH:Type} {enc:TypeId×Value->HH}
def qv(P:Program)(H:Heap)(n:Nat)(t:TypeId)(v:Value):Prop :=
 match P.underlying t with
 |some (.struct _) => ∃cs:List Value,v = .agg ⟨cs⟩/\Good P H n t cs
 |_=>Good P H n t [v]
def Bf(P:Program)(H:Heap)(n:Nat):List TypeId->List Value->Prop
 | [],[] =>True
 |t :: ts,v :: vs=>qv P H n t v/\Bf P H n ts vs
 |_,_=>False
theorem qv.mono{H K:Heap}{n:Nat}{t:TypeId}{v:Value}(h:qv P H n t v):qv P (H++K) n t v:=by
 unfold qv at h ⊢
 split at h
 ·obtain ⟨cs,h1,h2⟩:=h;exact ⟨cs,h1,h2.mono⟩
 ·exact h.mono
theorem AX{W:World}{B b0 m n:Nat}{t:TypeId}{v:Value}{d:DataW HH}{ps:List MemPlace}{held:Bool}{V:Ren}{H:Heap}(hbase:B=W.heap.size)(hp:Jc P n t=true)(hok:Value.okWide P W .any b0 t v)
  (h:DataW.Trod enc P W 0 (fun _=>true) held t v d ps) (hr:Rel P B V H W):∃ρ' H' v',Ext P B W V H ρ' H'/\VR ρ' v' v/\qv P H' n t v':=by
 obtain ⟨m,h⟩:=h
 unfold Jc at hp
 obtain ⟨hp,hna⟩:=(Bool.and_eq_true _ _ ▸ hp:_/\_)
 obtain ⟨ρ',H',cs',e,hv,g⟩:=bring hbase m n t _ _ V H hp h hr
 have single:(∀fs,P.underlying t≠some (.struct fs))->(v.cells = #[v])->∃ρ' H' v',Ext P B W V H ρ' H'/\VR ρ' v' v/\qv P H' n t v':=by
  intro hns hc
  rw[hc]at hv
  have hl:cs'.length=1:=hv.1
  obtain ⟨v',rfl⟩:=List.length_eq_one_iff.1 hl
  refine ⟨ρ',H',v',e,hv.2 0 v' v rfl rfl,?_⟩
  unfold qv
  split
  ·rename_i fs hu;exact absurd hu (hns fs)
  ·exact g
 cases n with
 |zero=>simp[ja]at hp
 |succ n =>
  unfold ja at hp
  split at hp
  ·rename_i hu
   refine single (fun fs h=>by rw[hu]at h;cases h) ?_
   cases v <;> simp[Value.okWide,Cell.okWide,Cell.ok,hu]at hok <;> rfl
  ·rename_i k hu
   refine single (fun fs h=>by rw[hu]at h;cases h) ?_
   cases v <;> simp[Value.okWide,Cell.okWide,Cell.ok,hu]at hok <;> rfl
  ·rename_i hu
   refine single (fun fs h=>by rw[hu]at h;cases h) ?_
   cases v <;> simp[Value.okWide,Cell.okWide,Cell.ok,hu]at hok <;> rfl
  ·rename_i fs hu
   simp only[Value.okWide,hu]at hok
   obtain ⟨cs,rfl,_,_⟩:=hok
   refine ⟨ρ',H',.agg ⟨cs'⟩,e,.agg (by have:=hv.1;simpa[Value.cells] using this) (fun i a b x y=>hv.2 i a b (by simpa using x) (by simpa[Value.cells] using y)),?_⟩
   simp only[qv,hu]
   exact ⟨cs',rfl,g⟩
  ·rename_i e' hu
   refine single (fun fs h=>by rw[hu]at h;cases h) ?_
   cases v <;> simp[Value.okWide,Cell.okWide,Cell.ok,hu]at hok <;> rfl
  ·rename_i k e' hu
   rw[hu]at hna;cases hna
  ·cases hp
theorem Cw{W:World}{B b0 n:Nat}{held:Bool}(hbase:B=W.heap.size):∀(ts:List TypeId) (vs:List Value) (ds:List (DataW HH)) (ps:List MemPlace) (V:Ren) (H:Heap),ts.all (Jc P n)=true ->
  (∀(j:Nat) (t:TypeId) (v:Value),ts[j]?=some t->vs[j]?=some v->Value.okWide P W .any b0 t v)->DataW.TrodAll enc P W 0 (fun _=>true) held ts vs ds ps->Rel P B V H W ->
   ∃ρ' H' vs',Ext P B W V H ρ' H'/\VRl ρ' vs' vs/\Bf P H' n ts vs':=by
 intro ts
 induction ts with
 |nil =>
  intro vs ds ps V H _ _ h hr
  obtain ⟨rfl,_,_⟩:=Go.ChangeShapes.trodAll_nil h
  exact ⟨V,H,[],Ext.refl hr,.nil V,trivial⟩
 |cons t ts ih =>
  intro vs ds ps V H hp hok h hr
  obtain ⟨v,vs1,d,ds1,p,q,rfl,rfl,rfl,h1,h2⟩:=Go.ChangeShapes.trodAll_cons h
  simp only[List.all_cons,Bool.and_eq_true]at hp
  obtain ⟨ρ1,H1,v1,e1,r1,g1⟩:=AX (m:=0) hbase hp.1 (hok 0 t v rfl rfl) h1 hr
  obtain ⟨ρ2,H2,vs2,e2,r2,g2⟩:=ih vs1 ds1 q ρ1 H1 hp.2 (fun j a b x y=>hok (j+1) a b x y) h2 e1.rel
  refine ⟨ρ2,H2,v1 :: vs2,e1.trans e2,.cons (r1.mono e2.le) r2,?_,g2⟩
  obtain ⟨K,rfl⟩:=e2.pre
  exact g1.mono
theorem E7{N n b0:Nat}{ts:List TypeId}{args:Array Value}{W:World}{ds:List (DataW HH)}{ps:List MemPlace}{held:Bool}(hG:P.globals.size<=W.heap.size)(hplain:ts.all (Jc P n)=true)
  (hok:∀(j:Nat) (t:TypeId) (v:Value),ts[j]?=some t->args.toList[j]?=some v->Value.okWide P W .any b0 t v) (h:DataW.TrodAll enc P W 0 (fun _=>true) held ts args.toList ds ps)
  (Pu:∀(H:Heap) (vs:List Value),Bf P H n ts vs->ak P N vs H [] (fun v _=>v = .bool true)) :
  Calls P N args W fun e W'=>e = .returned (.bool true)/\RowKit.Below W.heap.size W W':=by
 have hr:Rel P W.heap.size ⟨fun g=>if g<P.globals.size then some ⟨g,0,0,0,false⟩ else none,fun _=>none,fun _ _=>none⟩ (List.replicate P.globals.size .dead) W:=by
  have fu:∀(id:Nat) (o:ah),(List.replicate P.globals.size ah.dead)[id]?=some o->o = .dead:=fun id o ho=>by
   rw[List.getElem?_replicate]at ho
   split at ho
   ·cases ho;rfl
   ·cases ho
  refine ⟨Nat.le_refl _,fun g hg=>⟨_,if_pos hg,rfl,rfl⟩,fun id r h1 =>?_,fun id r h1 =>?_,fun id r o h1 h2 =>?_,fun id r o h1 h2 h3 =>?_,fun id id' r r' o o' h1 h1' h2 h2' h3 _ _ =>?_,fun b m hm=>(by cases hm),ll.vU (fun _ _ _ h=>by cases h) (fun _ _ _ h=>by cases h) (fun F z cs h=>by have:=fu F _ h;cases this)⟩
  ·dsimp only at h1
   split at h1
   ·simpa using ‹id<_›
   ·cases h1
  ·dsimp only at h1
   split at h1
   ·cases h1;exact Nat.lt_of_lt_of_le ‹id<_› hG
   ·cases h1
  ·rw[fu id o h2];trivial
  ·rw[fu id o h2]at h3;cases h3
  ·rw[fu id o h2]at h3;cases h3
 obtain ⟨ρ',H',vs',e,hv,g⟩:=Cw rfl ts args.toList ds ps _ _ hplain hok h hr
 refine callsIn_wide.1 (((Pu H' vs' g).2 _ ρ' W args e.rel hv).mono ?_)
 rintro en w' ⟨v,v',ρ2,H2,rfl,h1,h2,rfl⟩
 cases h1
 exact ⟨rfl,h2.below e.rel⟩
theorem uY{W W':World}{sp:Nat->Bool}{T:TypeId->Prop}(K:Kids P T)(hsz:∀{t e:TypeId},T t->P.underlying t=some (.slice e)->0<P.cellsOf e) :
  ∀(ts:List TypeId) (vs:List Value) (ds:List (DataW HH)) (ps:List MemPlace),(∀t∈ts,T t)->DataW.TrodAll enc P W 0 (fun _=>true) true ts vs ds ps->(∀p∈ps,W.sameAt W' p)->(∀p∈ps,sp p.block=true) ->
   DataW.TrodAll enc P W' 0 sp true ts vs ds ps:=by
 intro ts
 induction ts with
 |nil=>intro vs ds ps _ h _ _;obtain ⟨rfl,rfl,rfl⟩:=Go.ChangeShapes.trodAll_nil h;exact rfl
 |cons t ts ih =>
  intro vs ds ps hT h hs hp
  obtain ⟨v,vs1,d,ds1,p,q,rfl,rfl,rfl,⟨n,h1⟩,h2⟩:=Go.ChangeShapes.trodAll_cons h
  refine ⟨p,q,⟨n,DataW.trod_stays K hsz (fun h=>by cases h) (hT t (List.mem_cons_self ..)) h1 (fun x hx=>hs x (List.mem_append_left _ hx)) (fun x hx=>hp x (List.mem_append_left _ hx))⟩,?_,rfl⟩
  exact ih vs1 ds1 q (fun t ht=>hT t (List.mem_cons_of_mem _ ht)) h2 (fun x hx=>hs x (List.mem_append_right _ hx)) (fun x hx=>hp x (List.mem_append_right _ hx))
def lR(P:Program):Bool:=(List.range P.types.size).all fun t=>match P.underlying t with|some (.slice e)=>decide (0<P.cellsOf e)|_=>true
theorem qx(h:lR P=true):∀{t e:TypeId},t<P.types.size->P.underlying t=some (.slice e)->0<P.cellsOf e:=by
 intro t e ht hu
 unfold lR at h
 rw[List.all_eq_true]at h
 have:=h t (List.mem_range.2 ht)
 rw[hu]at this
 simpa using this
theorem u9{f:Func}{s:ChangeSpec}{apart fresh handsOn again:Bool}{W W':World}{args:Array Value}{ds gs:List (DataW HH)}{before:List MemPlace}{tb:TypeId}{T:TypeId->Prop}
  (K:Kids P T) (hsz:∀{t e:TypeId},T t->P.underlying t=some (.slice e)->0<P.cellsOf e) (hT:∀t∈f.params.toList,T t)
  (hW:DataW.Whole enc P f.params.toList s.vars apart W args.toList ds gs before) (hvars:s.vars=[]) (hb:RowKit.Below W.heap.size W W') (hrt:f.resultTypes = #[tb]) (htb:P.underlying tb=some .bool)
  (hs:s.fn HH ds = { results:=[.lit (.bool true)],args:=ds }):s.post enc P f apart fresh handsOn again W args (.bool true) W':=by
 have hlt:=hW.lt
 have hW':=hW
 obtain ⟨p,q,hA,hV,rfl,hz,hn⟩:=hW
 rw[hvars]at hV
 obtain ⟨rfl,rfl⟩:=Go.ChangeShapes.trodVars_none hV
 have hA':∀sp:Nat->Bool,(∀x∈p,sp x.block=true)->DataW.TrodAll enc P W' 0 sp true f.params.toList args.toList ds p:=fun sp hsp =>
  uY K hsz _ _ _ _ hT hA (fun x hx=>hb.same (hlt x (by simpa using hx))) hsp
 have hres:∀(b:Nat) (sp:Nat->Bool) (hd:Bool),DataW.TrodAll enc P W' b sp hd f.resultTypes.toList ((Value.bool true).resultList f.resultTypes.size) [.lit (.bool true)] []:=by
  intro b sp hd
  rw[hrt]
  exact trodAll_cons_mk (Go.RowKit.shut_bool htb true) Go.ChangeShapes.trodAll_mk0
 have hs':s.fn HH (ds ++ []) = { results:=[.lit (.bool true)],args:=ds }:=by simpa using hs
 refine ⟨ds,[],p ++ [],[],p,[],hW',?_,?_,?_,?_,fun _ =>?_⟩
 ·rw[hs'];exact hres _ _ _
 ·rw[hs'];exact hA' _ (fun x hx=>by simpa using hlt x (by simpa using hx))
 ·rw[hs',hvars];rfl
 ·exact World.keptBut_mono (fun x hx=>⟨by simpa using hx,.inr (by simpa using hx)⟩) (hb.frame (· ∈ p))
 ·refine ⟨Go.RowKit.ok_one hrt rfl (Go.RowKit.okWide_bool_mk htb true),_,[],([]++p) ++ [],⟨[]++p,[],Go.ChangeShapes.trodAll_append (hA' _ (fun _ _=>rfl)) (hres _ _ _),by rw[hvars];rfl,rfl,?_,?_⟩,?_⟩
  ·intro b off hx
   have hx':MemPlace.cell b off∈p:=by simpa using hx
   rw[hb.frozen (p:=⟨b,off,none⟩) (hlt (.cell b off) (by simpa using hx'))]
   exact hz b off (by simpa using hx')
  ·intro ha
   have:=hn ha
   simpa using this
  ·intro x hx _
   simpa using hx
end Go.K
namespace Go.K
noncomputable section
variable {P:Program}
theorem xf{α:Type}{f:α->List Value}{n:Nat}(hf:∀x,(f x).length=n):∀(xs:List α),Iv f n (xs.flatMap f) 0 xs:=by
 intro xs k x hx
 refine ⟨hf x,?_⟩
 have key:∀(xs:List α) (k:Nat),xs[k]?=some x->(List.drop (k*n) (xs.flatMap f)).take n=f x:=by
  intro xs
  induction xs with
  |nil=>intro k h;simp at h
  |cons y ys ih =>
   intro k h
   cases k with
   |zero=>simp at h;subst h;simp[<- hf y]
   |succ k =>
    simp at h
    rw[List.flatMap_cons,Nat.succ_mul,Nat.add_comm,<- List.drop_drop,<- hf y,List.drop_left]
    rw[hf y]
    exact ih k h
 rw[Nat.zero_add];exact key xs k hx
theorem FO{H:Heap}{n:Nat}{vs:List Value}(h:Bf P H n [] vs):vs=[]:=by
 cases vs with
 |nil=>rfl
 |cons v vs=>exact h.elim
theorem Gz{V ρ':Ren}{σ:Nat->Option Nat}(hσ:∀id id' r,σ id=some id'->ρ' id'=some r->∃r',V id=some r'/\r'.b=r.b/\r'.s=r.s/\r'.own=false)(hm:∀b m,ρ'.mem b=some m->V.mem b=some m)(hg:∀F F' k r,σ F=some F'->ρ'.g F' k=some r->V.g F k=some r):∀(d:Nat) {v r:Value},VR ρ' (rn σ d v) r->VR V v r:=by
 intro d
 induction d with
 |zero=>intro v r h;exact (VR.bad h).elim
 |succ d ih =>
  have ptr:∀{id id' off:Nat} {r:RI},σ id=some id'->ρ' id'=some r->VR V (.pointer (some ⟨id,off,none⟩)) (.pointer (some ⟨r.b,off+r.s,none⟩)):=by
   intro id id' off r g k
   obtain ⟨r',a1,a2,a3,_⟩:=hσ _ _ _ g k
   rw[<- a2,<- a3];exact .ptr a1
  have slc:∀{id id' off len cap cap':Nat} {r:RI},σ id=some id'->ρ' id'=some r->len<=cap->cap<=cap'->VR V (.slice (some ⟨id,off,none⟩) len cap) (.slice (some ⟨r.b,off+r.s,none⟩) len cap'):=by
   intro id id' off len cap cap' r g k hl hc
   obtain ⟨r',a1,a2,a3,a4⟩:=hσ _ _ _ g k
   rw[<- a2,<- a3];exact .slice a1 hl hc (fun h=>by rw[a4]at h;cases h)
  have slQ:∀{id id' off len cap cap':Nat} {r:RI},σ id=some id'->ρ' id'=some r->0<len->len<=cap->cap<=cap'->VR V (.slice (some ⟨id,off,some 1⟩) len cap) (.slice (some ⟨r.b,off+r.s,none⟩) len cap'):=by
   intro id id' off len cap cap' r g k hp hl hc
   obtain ⟨r',a1,a2,a3,a4⟩:=hσ _ _ _ g k
   rw[<- a2,<- a3];exact .bn a1 hp hl hc (fun h=>by rw[a4]at h;cases h)
  have slR:∀{id id' off len cap cap':Nat} {r:RI},σ id=some id'->ρ' id'=some r->0<len->len<=cap->cap<=cap'->VR V (.slice (some ⟨id,off,some 2⟩) len cap) (.slice (some ⟨r.b,off+r.s,none⟩) len cap'):=by
   intro id id' off len cap cap' r g k hp hl hc
   obtain ⟨r',a1,a2,a3,a4⟩:=hσ _ _ _ g k
   rw[<- a2,<- a3];exact .bO a1 hp hl hc (fun h=>by rw[a4]at h;cases h)
  intro v r h
  unfold rn at h
  split at h
  ·split at h
   ·rename_i g;cases h with|ptr k=>exact ptr g k
   ·exact (VR.bad h).elim
  ·split at h
   ·rename_i g;cases h with|gZ k=>exact .gZ (hg _ _ _ _ g k)
   ·exact (VR.bad h).elim
  ·split at h
   ·rename_i g
    cases h with
    |slice k hl hc ho=>exact slc g k hl hc
    |bE k=>obtain ⟨r',a1,a2,a3,_⟩:=hσ _ _ _ g k;rw[<- a2];exact .bE a1
   ·exact (VR.bad h).elim
  ·split at h
   ·rename_i g
    cases h with
    |aR=>exact .aR
    |aS=>exact .aS
    |bn k hp hl hc ho=>exact slQ g k hp hl hc
    |aY=>exact .aY
    |bO k hp hl hc ho=>exact slR g k hp hl hc
   ·split at h
    ·cases h with
     |aR=>exact .aR
     |aS=>exact .aS
     |bn k hp hl hc ho=>exact absurd hp (Nat.lt_irrefl 0)
     |aY=>exact .aY
     |bO k hp hl hc ho=>exact absurd hp (Nat.lt_irrefl 0)
    ·exact (VR.bad h).elim
  ·split at h
   ·rename_i g;cases h with|map k=>obtain ⟨r',a1,a2,_⟩:=hσ _ _ _ g k;rw[<- a2];exact .map a1
   ·exact (VR.bad h).elim
  ·split at h
   ·rename_i g;cases h with|yield k=>obtain ⟨r',a1,a2,_⟩:=hσ _ _ _ g k;rw[<- a2];exact .yield a1
   ·exact (VR.bad h).elim
  ·cases h with
   |func h1 h2 h3 h4 =>
    obtain ⟨a1,a2⟩:=jB ih h1 h2
    obtain ⟨b1,b2⟩:=jB ih h3 h4
    exact .func a1 a2 b1 b2
  ·exact (VR.bad h).elim
  ·cases h with|agg h1 h2=>obtain ⟨a1,a2⟩:=jB ih h1 h2;exact .agg a1 a2
  ·cases h with|tuple h1 h2=>obtain ⟨a1,a2⟩:=jB ih h1 h2;exact .tuple a1 a2
  ·cases h with
   |deep g1 g2 g3 g4 g5=>obtain ⟨a1,a2⟩:=qb ih g4 g5;exact .deep (hm _ _ g1) g2 g3 a1 a2
   |cH=>exact .cH
  ·cases h with|dg g1 g2 g3=>obtain ⟨a1,a2⟩:=qb ih g2 g3;exact .dg (hm _ _ g1) a1 a2
  ·split at h
   ·rename_i g
    cases h with
    |fsl k hp hc hs ho=>exact .fsl (hg _ _ _ _ g k) hp hc hs ho
    |dK=>exact .dK
   ·split at h
    ·cases h with|dK=>exact .dK
    ·exact (VR.bad h).elim
  ·rename_i n1 n1f n2 n2q n3 n4 n5 n6 n7 n8 n9 n10 n11
   cases h with
   |junk=>exact .junk _
   |bool b=>exact .bool b
   |int k n=>exact .int k n
   |float k n=>exact .float k n
   |string s=>exact .string s
   |dl=>exact .dl
   |ptr k=>exact absurd rfl (n1 _ _)
   |gZ k=>exact absurd rfl (n1f _ _ _)
   |bC=>exact .bC
   |slice k hl hc ho=>exact absurd rfl (n2 _ _ _ _)
   |bE k=>exact absurd rfl (n2 _ _ _ _)
   |cB=>exact .cB
   |aR=>exact .aR
   |aS=>exact .aS
   |bn=>exact absurd rfl (n2q _ _ _ _ _)
   |aY=>exact .aY
   |bO=>exact absurd rfl (n2q _ _ _ _ _)
   |dq=>exact .dq
   |map k=>exact absurd rfl (n3 _)
   |nilFunc=>exact .nilFunc
   |nilIface=>exact .nilIface
   |func h1 h2 h3 h4=>exact absurd rfl (n5 _ _ _)
   |yield k=>exact absurd rfl (n4 _)
   |agg h1 h2=>exact absurd rfl (n7 _)
   |tuple h1 h2=>exact absurd rfl (n8 _)
   |deep=>exact absurd rfl (n9 _ _)
   |cH=>exact absurd rfl (n9 _ _)
   |fsl=>exact absurd rfl (n11 _ _ _ _)
   |dK=>exact .dK
   |dg=>exact absurd rfl (n10 _ _)
def bD(n0 id:Nat):Option Nat:=if id<n0 then none else some id
def bT(n0 n id:Nat):Option Nat:=if id<n0 then none else some (n+(id-n0))
structure Reads(P:Program)(H0 H:Heap)(σ:Nat->Option Nat)(d:Nat):Prop where
 eM:∀g,g<P.globals.size->σ g=some g
 dom:∀id id',σ id=some id'->id<H0.length
 len:P.globals.size<=H0.length
 obj:∀(id:Nat) (o:ah),H0[id]?=some o->o = .dead∨∃cs,o = .cells false 0 cs
 rd:∀(id id':Nat) (cs:List Value),σ id=some id'->H0[id]?=some (.cells false 0 cs)->∃own z D,H[id']?=some (.cells own z (cs.map (rn σ d)++D))
theorem ak.reads{f:FuncId}{args:List Value}{H0 H new:Heap}{v:Value}{σ:Nat->Option Nat}{d:Nat}(hp:Reads P H0 H σ d)(h:ak P f args H0 [] (Is v (H0++new)))
  (hv:dD d v=true) (hv2:rn (bD H0.length) d v=v) (hn:new.all (fun o=>cY d o&&o.owned)=true) (hn2:new.map (rno (bD H0.length) d)=new) :
  ak P f (args.map (rn σ d)) H [] (Is (rn (bT H0.length H.length) d v) (H++new.map (rno (bT H0.length H.length) d))):=by
 refine ⟨h.1,fun B V w args' hr ha =>?_⟩
 let ρs:Ren:=⟨fun id=>(σ id).bind fun id'=>(V id').map fun r=>⟨r.b,r.s,r.n,0,false⟩,V.mem,fun F k=>(σ F).bind fun F'=>V.g F' k⟩
 have hσ:∀id id' r,σ id=some id'->V id'=some r->ρs id=some ⟨r.b,r.s,r.n,0,false⟩:=by
  intro id id' r h1 h2;show Option.bind _ _=_;rw[h1];show Option.map _ _=_;rw[h2];rfl
 have hσd:∀id id' r,σ id=some id'->V id'=some r->∃r',ρs id=some r'/\r'.b=r.b/\r'.s=r.s/\r'.own=false:=fun id id' r h1 h2=>⟨_,hσ _ _ _ h1 h2,rfl,rfl,rfl⟩
 have hσg:∀F F' k r,σ F=some F'->V.g F' k=some r->ρs.g F k=some r:=by intro F F' k r h1 h2;show Option.bind _ _=_;rw[h1];exact h2
 have gq:∀{F k r},ρs.g F k=some r->∃F',σ F=some F'/\V.g F' k=some r:=fun h=>Option.bind_eq_some_iff.1 h
 have HC:∀{F:Nat} {z:Nat} {cs:List Value},H0[F]?=some (.fam z cs)->False:=fun {F z cs} mh=>by
  rcases hp.obj F _ mh with h|⟨_,h⟩ <;> cases h
 have hnf:∀{F k r z cs},FM ρs H0 F k r z cs->False:=fun m=>HC m.h
 have hsome:∀{id r},ρs id=some r->∃id' r0,σ id=some id'/\V id'=some r0/\r=⟨r0.b,r0.s,r0.n,0,false⟩:=by
  intro id r h
  obtain ⟨id',h1,h2⟩:=Option.bind_eq_some_iff.1 h
  obtain ⟨r0,h3,h4⟩:=aX h2
  exact ⟨id',r0,h1,h3,h4.symm⟩
 have ya:∀(id:Nat) (o:ah),H0[id]?=some o->o.owned=true->False:=by
  intro id o h1 h2
  rcases hp.obj id o h1 with rfl|⟨cs,rfl⟩ <;> cases h2
 have hr0:Rel P B ρs H0 w:=by
  refine ⟨hr.bsize,fun g hg =>?_,fun id r h =>?_,fun id r h =>?_,fun id r o h1 h2 =>?_,fun id r o h1 h2 h3=>(ya id o h2 h3).elim,fun id1 id2 r1 r2 o1 o2 h1 h2 g1 g2 k1 k2 hne=>(ya id1 o1 g1 k1).elim,fun b m hb=>⟨(hr.mem b m hb).1,fun id r o h1 h2 h3=>(ya id o h2 h3).elim⟩,
   ⟨fun F k r h=>by obtain ⟨F',k1,_⟩:=gq h;exact hp.dom _ _ k1,fun F k r h=>by obtain ⟨F',_,k2⟩:=gq h;exact hr.fam.lt _ _ _ k2,fun _ _ _ _ _ m=>(hnf m).elim,fun _ _ _ _ _ m=>(hnf m).elim,fun _ _ _ _ _ _ _ _ _ _ m=>(hnf m).elim,fun _ _ _ _ _ _ _ _ m=>(hnf m).elim,fun _ _ _ _ _ _ _ m=>(hnf m).elim,fun _ _ _ _ _ h=>(HC h).elim⟩⟩
  ·obtain ⟨r,k1,k2,k3⟩:=hr.eM g hg;exact ⟨_,hσ g g r (hp.eM g hg) k1,k2,k3⟩
  ·obtain ⟨id',r0,h1,_,_⟩:=hsome h;exact hp.dom _ _ h1
  ·obtain ⟨id',r0,_,h2,rfl⟩:=hsome h;exact hr.lt id' r0 h2
  ·obtain ⟨id',r0,k1,k2,rfl⟩:=hsome h1
   rcases hp.obj id o h2 with rfl|⟨cs,rfl⟩
   ·trivial
   ·obtain ⟨own,z,D,g⟩:=hp.rd id id' cs k1 h2
    obtain ⟨e1,e2,cs',ty,fz,hb,hnz,hfz,hcs⟩:=hr.obj _ _ _ k2 g
    refine ⟨rfl,rfl,cs',ty,fz,hb,hnz,fun h=>(by cases h),fun i x hx =>?_⟩
    obtain ⟨x',y1,y2⟩:=hcs i (rn σ d x) (by rw[List.getElem?_append_left (by rw[List.length_map];exact (List.getElem?_eq_some_iff.1 hx).1),List.getElem?_map,hx];rfl)
    exact ⟨x',y1,Gz hσd (fun _ _ h=>h) hσg d y2⟩
 have ha0:VRl ρs args args'.toList:=⟨by have:=ha.1;simpa using this,fun i x x' a b=>Gz hσd (fun _ _ h=>h) hσg d (ha.2 i (rn σ d x) x' (by rw[List.getElem?_map,a];rfl) b)⟩
 refine (h.2 B ρs w args' hr0 ha0).mono ?_
 rintro e w' ⟨v1,v',ρ1,H1,rfl,hv',hpost,rfl,rfl⟩
 have ul:∀b,¬ OB ρs H0 b:=fun b h=>h.elim (fun ⟨id,r,o,_,h2,h3,_⟩=>ya id o h2 h3) (fun ⟨_,_,_,_,_,m,_⟩=>hnf m)
 let ρ2:Ren:=⟨fun id=>if id<H.length then V id else ρ1 (H0.length+(id-H.length)),ρ1.mem,fun F k=>if F<H.length then V.g F k else ρ1.g (H0.length+(F-H.length)) k⟩
 let ρn:Ren:=⟨fun id=>if id<H0.length then none else ρ1 id,ρ1.mem,fun F k=>if F<H0.length then none else ρ1.g F k⟩
 have hn1:∀id id' r,bD H0.length id=some id'->ρ1 id'=some r->ρn id=some r:=by
  intro id id' r h1 h2
  unfold bD at h1
  split at h1
  ·cases h1
  ·rename_i hlt;cases h1;show (if _ then _ else _)=_;rw[if_neg hlt];exact h2
 have Ou:∀F F' k r,bD H0.length F=some F'->ρ1.g F' k=some r->ρn.g F k=some r:=by
  intro F F' k r h1 h2
  unfold bD at h1
  split at h1
  ·cases h1
  ·rename_i hlt;cases h1;show (if _ then _ else _)=_;rw[if_neg hlt];exact h2
 have Am:∀F k r,ρn.g F k=some r->∃F',bT H0.length H.length F=some F'/\ρ2.g F' k=some r:=by
  intro F k r h1
  have h1':(if F<H0.length then none else ρ1.g F k)=some r:=h1
  split at h1'
  ·cases h1'
  ·rename_i hlt
   refine ⟨_,if_neg hlt,?_⟩
   show (if _ then _ else _)=_
   rw[if_neg Om,show H0.length+(H.length+(F-H0.length)-H.length)=F by omega];exact h1'
 have HF:∀id r,ρn id=some r->∃id',bT H0.length H.length id=some id'/\ρ2 id'=some r:=by
  intro id r h1
  have h1':(if id<H0.length then none else ρ1 id)=some r:=h1
  split at h1'
  ·cases h1'
  ·rename_i hlt
   refine ⟨_,if_neg hlt,?_⟩
   show (if _ then _ else _)=_
   rw[if_neg Om,show H0.length+(H.length+(id-H0.length)-H.length)=id by omega];exact h1'
 have hext:Ren.le V ρ2:=⟨fun id r h1=>by
  show (if _ then _ else _)=_
  rw[if_pos (hr.dom _ _ h1)];exact h1,hpost.ext.mem,fun F k r h1=>by
  show (if _ then _ else _)=_
  rw[if_pos (hr.fam.dom _ _ _ h1)];exact h1⟩
 have hnew:∀(k:Nat) (o:ah),new[k]?=some o->cY d o=true/\o.owned=true/\rno (bD H0.length) d o=o:=by
  intro k o hk
  rw[List.all_eq_true]at hn
  have:=hn o (List.mem_of_getElem? hk)
  simp only[Bool.and_eq_true]at this
  refine ⟨this.1,this.2,?_⟩
  have h3:(new.map (rno (bD H0.length) d))[k]?=some o:=by rw[hn2];exact hk
  rw[List.getElem?_map,hk]at h3
  exact Option.some.inj h3
 have hfresh:∀id r o,H0.length<=id->ρ1 id=some r->(H0++new)[id]?=some o->w.heap.size<=r.b:=by
  intro id r o hid h1 h2
  have ho:o.owned=true:=by rw[List.getElem?_append_right hid]at h2;exact (hnew _ _ h2).2.1
  rcases Nat.lt_or_ge r.b w.heap.size with hlt|hge
  ·exact absurd (hpost.ob r.b hlt (.inl ⟨id,r,o,h1,h2,ho,rfl⟩)) (ul _)
  ·exact hge
 have io:∀id o',H.length<=id->(H++new.map (rno (bT H0.length H.length) d))[id]?=some o'->∃o,(H0++new)[H0.length+(id-H.length)]?=some o/\o'=rno (bT H0.length H.length) d o/\cY d o=true/\o.owned=true/\rno (bD H0.length) d o=o:=by
  intro id o' hid h2
  rw[List.getElem?_append_right hid,List.getElem?_map]at h2
  obtain ⟨o,a1,rfl⟩:=aX h2
  obtain ⟨x1,x2,x3⟩:=hnew _ _ a1
  refine ⟨o,?_,rfl,x1,x2,x3⟩
  rw[List.getElem?_append_right Om,show H0.length+(id-H.length)-H0.length=id-H.length by omega];exact a1
 have gx:∀id,id<H.length->(H++new.map (rno (bT H0.length H.length) d))[id]?=H[id]? := fun id hid=>List.getElem?_append_left hid
 have hoa:∀o:ah,o.owned=true->o.alive=true:=by intro o ho;cases o <;> first|rfl|cases ho
 have hvn:VR ρn v1 v':=by
  have:VR ρ1 (rn (bD H0.length) d v1) v':=by rw[hv2];exact hv'
  exact ny hn1 (fun _ _ h=>h) Ou d this
 refine ⟨_,v',ρ2,_,rfl,A4 HF (fun _ _ h=>h) Am d hv hvn,?_,rfl,rfl⟩
 have fr:∀id r o,¬ id<H.length->ρ1 (H0.length+(id-H.length))=some r->(H++new.map (rno (bT H0.length H.length) d))[id]?=some o->w.heap.size<=r.b:=by
  intro id r o hid a b
  obtain ⟨o0,a1,_,_,_,_⟩:=io id o Om b
  exact hfresh _ r o0 Om a a1
 have u:∀id,ρ2 id=if id<H.length then V id else ρ1 (H0.length+(id-H.length)):=fun _=>rfl
 have yb:∀{F k r z cs},ρ2.g F k=some r->(H++new.map (rno (bT H0.length H.length) d))[F]?=some (.fam z cs)->V.g F k=some r/\H[F]?=some (.fam z cs):=fun {F k r z cs} mg mh=>by
  have h1:(if F<H.length then V.g F k else ρ1.g (H0.length+(F-H.length)) k)=some r:=mg
  rcases Nat.lt_or_ge F H.length with h|h
  ·rw[if_pos h]at h1
   exact ⟨h1,by rw[<- gx F h];exact mh⟩
  ·obtain ⟨o,_,e,g1,g2,_⟩:=io F _ h mh
   cases o <;> first|(cases g1;done)|(cases g2;done)|(cases e;done)
 have hfm:∀{F k r z cs},FM ρ2 (H++new.map (rno (bT H0.length H.length) d)) F k r z cs->FM V H F k r z cs:=fun m=>⟨(yb m.g m.h).1,(yb m.g m.h).2,m.a⟩
 have pT:ll B ρ2 (H++new.map (rno (bT H0.length H.length) d)) w':=by
  refine ⟨fun F k r h1 =>?_,fun F k r h1 =>?_,fun F k r z cs m=>hr.fam.base _ _ _ _ _ (hfm m),fun F k r z cs m=>(hr.fam.obj _ _ _ _ _ (hfm m)).mono hext (hpost.keep _ (hr.fam.lt _ _ _ (hfm m).g) (ul _)),
   fun F k r z cs F' k' r' z' cs' m m'=>hr.fam.sep _ _ _ _ _ _ _ _ _ _ (hfm m) (hfm m'),fun F k r z cs id r' o m h1 h2 h3 =>?_,fun F k r z cs b m' m hb =>?_,fun F k r cs h1 h2=>hr.fam.cnt F k r cs (yb h1 h2).1 (yb h1 h2).2⟩
  ·have h1:(if F<H.length then V.g F k else ρ1.g (H0.length+(F-H.length)) k)=some r:=h1
   rcases Nat.lt_or_ge F H.length with h|h
   ·simp;omega
   ·rw[if_neg Om]at h1
    have:=hpost.rel.fam.dom _ _ _ h1
    simp at this ⊢;omega
  ·have h1:(if F<H.length then V.g F k else ρ1.g (H0.length+(F-H.length)) k)=some r:=h1
   rcases Nat.lt_or_ge F H.length with h|h
   ·rw[if_pos h]at h1
    exact Nat.lt_of_lt_of_le (hr.fam.lt _ _ _ h1) hpost.size
   ·rw[if_neg Om]at h1
    exact hpost.rel.fam.lt _ _ _ h1
  ·rw[u]at h1
   rcases Nat.lt_or_ge id H.length with h|h
   ·rw[if_pos h]at h1
    exact hr.fam.sep2 _ _ _ _ _ id r' o (hfm m) h1 (by rw[<- gx id h];exact h2) h3
   ·rw[if_neg Om]at h1
    have:=fr id r' o Om h1 h2
    have:=hr.fam.lt _ _ _ (hfm m).g
    omega
  ·have hb:ρ1.mem b=some m':=hb
   rcases hpost.frz b m' hb with g|g|g
   ·exact hr.fam.mem _ _ _ _ _ b m' (hfm m) g
   ·have:=hr.fam.lt _ _ _ (hfm m).g;omega
   ·exact absurd g (ul _)
 refine ⟨⟨Nat.le_trans hr.bsize hpost.size,fun g hg =>?_,fun id r h1 =>?_,fun id r h1 =>?_,fun id r o h1 h2 =>?_,fun id r o h1 h2 h3 =>?_,fun id1 id2 r1 r2 o1 o2 h1 h2 g1 g2 k1 k2 hne =>?_,fun b m hb=>⟨(hpost.rel.mem b m hb).1,fun id r o h1 h2 h3 =>?_⟩,pT⟩,hext,fun id r h1 h2 =>?_,by simp,fun id h1 h2=>gx id h1,hpost.size,fun b h1 h2=>hpost.keep b h1 (ul b),fun b h1 h2 =>?_,hpost.os,hpost.tape,hpost.output,fun b m hb=>(hpost.frz b m hb).imp id fun h=>h.elim .inl fun h=>(ul b h).elim,hpost.drawn,fun F k r h1 h2 => .inl (by
  have h1:(if F<H.length then V.g F k else ρ1.g (H0.length+(F-H.length)) k)=some r:=h1
  rcases Nat.lt_or_ge F H.length with h|h
  ·rw[if_pos h,h2]at h1;cases h1
  ·exact h)⟩
 ·obtain ⟨r,k1,k2,k3⟩:=hr.eM g hg;exact ⟨r,hext _ _ k1,k2,k3⟩
 ·rw[u]at h1
  split at h1
  ·rw[aI];omega
  ·rename_i hid
   have:=hpost.rel.dom _ _ h1
   rw[aI]at this
   rw[aI,List.length_map];omega
 ·rw[u]at h1
  split at h1
  ·exact Nat.lt_of_lt_of_le (hr.lt _ _ h1) hpost.size
  ·exact hpost.rel.lt _ _ h1
 ·rw[u]at h1
  split at h1
  ·rename_i hid
   rw[gx id hid]at h2
   exact (hr.obj _ _ _ h1 h2).mono hext (hpost.keep _ (hr.lt _ _ h1) (ul _))
  ·rename_i hid
   obtain ⟨o0,a1,rfl,a3,a4,a5⟩:=io id o Om h2
   have h6:=hpost.rel.obj _ _ _ h1 a1
   rw[<- a5]at h6
   have hd:rno (bD H0.length) d o0 = .dead->o0 = .dead:=fun he=>by rw[a5]at he;exact he
   exact xk HF (fun _ _ h=>h) Am a3 (oZ hn1 (fun _ _ h=>h) Ou h6 hd)
 ·rw[u]at h1
  split at h1
  ·rename_i hid;rw[gx id hid]at h2;exact hr.base _ _ _ h1 h2 h3
  ·rename_i hid
   obtain ⟨o0,a1,_,a3,a4,_⟩:=io id o Om h2
   exact hpost.rel.base _ _ _ h1 a1 a4
 ·rw[u]at h1 h2
  by_cases c1:id1<H.length
  ·rw[if_pos c1]at h1
   rw[gx id1 c1]at g1
   by_cases c2:id2<H.length
   ·rw[if_pos c2]at h2
    rw[gx id2 c2]at g2
    exact hr.sep id1 id2 r1 r2 o1 o2 h1 h2 g1 g2 k1 k2 hne
   ·rw[if_neg c2]at h2
    have:=hr.lt _ _ h1
    have:=fr id2 r2 o2 c2 h2 g2
    omega
  ·rw[if_neg c1]at h1
   have f1:=fr id1 r1 o1 c1 h1 g1
   by_cases c2:id2<H.length
   ·rw[if_pos c2]at h2
    have:=hr.lt _ _ h2
    omega
   ·rw[if_neg c2]at h2
    obtain ⟨p1,a1,_,_,a4,_⟩:=io id1 o1 Om g1
    obtain ⟨p2,b1,_,_,b4,_⟩:=io id2 o2 Om g2
    exact hpost.rel.sep _ _ r1 r2 p1 p2 h1 h2 a1 b1 a4 (hoa _ b4) Om
 ·rw[u]at h1
  split at h1
  ·rename_i hid
   rw[gx id hid]at h2
   intro he
   rcases hpost.frz b m hb with g|g|g
   ·exact (hr.mem b m g).2 id r o h1 h2 h3 he
   ·have:=hr.lt _ _ h1;omega
   ·exact ul b g
  ·rename_i hid
   obtain ⟨o0,a1,_,a3,a4,_⟩:=io id o Om h2
   exact (hpost.rel.mem b m hb).2 _ r o0 h1 a1 a4
 ·rw[u]at h1
  split at h1
  ·rw[h2]at h1;cases h1
  ·omega
 ·rcases h2 with ⟨id,r,o,k1,k2,k3,k4⟩|⟨F,k,r,z,cs,m,e⟩
  ·rw[u]at k1
   split at k1
   ·rename_i hid;rw[gx id hid]at k2;exact .inl ⟨id,r,o,k1,k2,k3,k4⟩
   ·rename_i hid
    have:=fr id r o hid k1 k2
    omega
  ·exact .inr ⟨F,k,r,z,cs,hfm m,e⟩
end
end Go.K
namespace Go.K
noncomputable section
variable {P:Program} {mask:Nat} {dm:Value->MS} {rounds:Nat} {mixed:Bool}
def aH(G:Nat)(css:List (List Value)):HT:=css.foldl (fun H cs=>H.push (.cells false 0 cs)) ⟨G,.leaf⟩
def sgR(G:Nat)(ids:List Nat)(i:Nat):Option Nat:=if i<G then some i else ids[i-G]?
theorem sW(G:Nat):∀(css:List (List Value)) (H:HT) (id:Nat),(css.foldl (fun H cs=>H.push (.cells false 0 cs)) H).n=H.n+css.length /\
  (css.foldl (fun H cs=>H.push (.cells false 0 cs)) H).list[id]?=if id<H.n then H.list[id]? else (css[id-H.n]?).map (fun cs=>ah.cells false 0 cs):=by
 intro css
 induction css with
 |nil =>
  intro H id
  refine ⟨rfl,?_⟩
  split
  ·rfl
  ·rw[List.getElem?_eq_none (by rw[List.foldl_nil,HT.length];omega)];simp
 |cons cs css ih =>
  intro H id
  obtain ⟨h1,h2⟩:=ih (H.push (.cells false 0 cs)) id
  have hn:(H.push (.cells false 0 cs)).n=H.n+1:=rfl
  refine ⟨by rw[List.foldl_cons,h1,hn,List.length_cons];omega,?_⟩
  rw[List.foldl_cons,h2,hn,HT.bN]
  by_cases c1:id<H.n
  ·rw[if_pos Om,if_pos c1,List.getElem?_append_left (by rw[HT.length];exact c1)]
  ·rw[if_neg c1]
   by_cases c2:id=H.n
   ·rw[if_pos Om,List.getElem?_append_right (by rw[HT.length];omega),HT.length,c2];simp
   ·rw[if_neg Om,show id-H.n=(id-(H.n+1))+1 by omega,List.getElem?_cons_succ]
theorem pb(G:Nat)(css:List (List Value)):(aH G css).n=G+css.length:=(sW G css ⟨G,.leaf⟩ 0).1
theorem jv(G:Nat)(css:List (List Value))(id:Nat):(aH G css).list[id]?=if id<G then some .dead else (css[id-G]?).map (fun cs=>ah.cells false 0 cs):=by
 rw[show (aH G css).list[id]?=_ from (sW G css ⟨G,.leaf⟩ id).2]
 show (if id<G then _ else _)=_
 split
 ·rename_i h
  rw[HT.ap]
  unfold HT.get
  show cond (Nat.blt id G) _ _=_
  rw[show Nat.blt id G=true by rw[Nat.blt_eq];exact h];rfl
 ·rfl
theorem vM{d:Nat}{css:List (List Value)}{ids:List Nat}{H:Heap}(jT:∀cs∈css,cs.all (aw 0)=true)(gv:∀(k:Nat) (cs:List Value),css[k]?=some cs->∃id own z D,ids[k]?=some id/\H[id]?=some (ah.cells own z (cs++D)))(hl:ids.length=css.length) :
  Reads P (aH P.globals.size css).list H (sgR P.globals.size ids) (d+3):=by
 have hn:(aH P.globals.size css).list.length=P.globals.size+css.length:=by rw[HT.length,pb]
 refine ⟨fun g hg=>if_pos hg,fun id id' h =>?_,by rw[hn];omega,fun id o h =>?_,fun id id' cs h1 h2 =>?_⟩
 ·rw[hn]
  unfold sgR at h
  split at h
  ·omega
  ·have:=(List.getElem?_eq_some_iff.1 h).1;omega
 ·rw[jv]at h
  split at h
  ·cases h;exact .inl rfl
  ·obtain ⟨cs,_,rfl⟩:=aX h;exact .inr ⟨cs,rfl⟩
 ·rw[jv]at h2
  split at h2
  ·cases h2
  ·rename_i hlt
   obtain ⟨cs',a1,a2⟩:=aX h2
   cases a2
   unfold sgR at h1
   rw[if_neg hlt]at h1
   obtain ⟨id2,own,z,D,b1,b2⟩:=gv _ _ a1
   rw[h1]at b1;cases b1
   refine ⟨own,z,D,?_⟩
   rw[b2,(dw (d:=d) (jT _ (List.mem_of_getElem? a1))).1]
theorem Oh{css:List (List Value)}{ids:List Nat}{H:Heap}(gv:∀(k:Nat) (cs:List Value),css[k]?=some cs->∃id own z,ids[k]?=some id/\H[id]?=some (ah.cells own z cs)):∀(k:Nat) (cs:List Value),css[k]?=some cs->∃id own z D,ids[k]?=some id/\H[id]?=some (ah.cells own z (cs++D)):=fun k cs h=>by
 obtain ⟨id,own,z,a,b⟩:=gv k cs h
 exact ⟨id,own,z,[],a,by rw[List.append_nil];exact b⟩
theorem GD{d:Nat}{css:List (List Value)}{ids:List Nat}{H:Heap}(jT:∀cs∈css,cs.all (aw 0)=true)(gv:∀(k:Nat) (cs:List Value),css[k]?=some cs->∃id own z,ids[k]?=some id/\H[id]?=some (ah.cells own z cs))(hl:ids.length=css.length) :
  Reads P (aH P.globals.size css).list H (sgR P.globals.size ids) (d+3):=vM jT (Oh gv) hl
theorem O9(gu:iH P mixed mask)(iE:mixed=true->P.follows .mixedOrders=true)(n:Nat){f:FuncId}{args:List Value}{css:List (List Value)}{h:Hint}{v:Value}{new:List (Bool×ah)}
  (jT:∀cs∈css,cs.all (aw 0)=true)
  (hc:vF P mask dm rounds mixed n true f args (aH P.globals.size css) (some []) h (er (aH P.globals.size css).n 3 v new))
  (hv:dD 3 v=true) (hv2:rn (bD (P.globals.size+css.length)) 3 v=v) (hn:(new.map (·.2)).all (fun o=>cY 3 o&&o.owned)=true) (hn2:(new.map (·.2)).map (rno (bD (P.globals.size+css.length)) 3)=new.map (·.2))
  {H:Heap} (ids:List Nat) (hl:ids.length=css.length) (gv:∀(k:Nat) (cs:List Value),css[k]?=some cs->∃id own z D,ids[k]?=some id/\H[id]?=some (ah.cells own z (cs++D))) :
  ak P f (args.map (rn (sgR P.globals.size ids) 3)) H [] (Is (rn (bT (P.globals.size+css.length) H.length) 3 v) (H++(new.map (·.2)).map (rno (bT (P.globals.size+css.length) H.length) 3))):=by
 have h1:=vcN gu iE n hc
 have e:(aH P.globals.size css).list.length=P.globals.size+css.length:=by rw[HT.length,pb]
 have:=ak.reads (vM (d:=0) jT gv hl) h1 hv (by rw[e];exact hv2) hn (by rw[e];exact hn2)
 rw[e]at this
 exact this
theorem vcR(gu:iH P mixed mask)(iE:mixed=true->P.follows .mixedOrders=true)(n:Nat){f:FuncId}{args:List Value}{css:List (List Value)}{h:Hint}{v:Value}{new:List (Bool×ah)}
  (jT:∀cs∈css,cs.all (aw 0)=true)
  (hc:vF P mask dm rounds mixed n true f args (aH P.globals.size css) (some []) h (er (aH P.globals.size css).n 3 v new))
  (hv:dD 3 v=true) (hv2:rn (bD (P.globals.size+css.length)) 3 v=v) (hn:(new.map (·.2)).all (fun o=>cY 3 o&&o.owned)=true) (hn2:(new.map (·.2)).map (rno (bD (P.globals.size+css.length)) 3)=new.map (·.2))
  {H:Heap} (ids:List Nat) (hl:ids.length=css.length) (gv:∀(k:Nat) (cs:List Value),css[k]?=some cs->∃id own z,ids[k]?=some id/\H[id]?=some (ah.cells own z cs)) :
  ak P f (args.map (rn (sgR P.globals.size ids) 3)) H [] (Is (rn (bT (P.globals.size+css.length) H.length) 3 v) (H++(new.map (·.2)).map (rno (bT (P.globals.size+css.length) H.length) 3))):=O9 gu iE n jT hc hv hv2 hn hn2 ids hl (Oh gv)
theorem Pb(gu:iH P mixed mask)(iE:mixed=true->P.follows .mixedOrders=true)(n:Nat){f:FuncId}{args:List Value}{css:List (List Value)}{h:Hint}{v:Value}
  (jT:∀cs∈css,cs.all (aw 0)=true)
  (hc:vF P mask dm rounds mixed n true f args (aH P.globals.size css) (some []) h (fun v' _ _=>v'=v)) (hv:cP 0 v=true)
  {H:Heap} (ids:List Nat) (hl:ids.length=css.length) (gv:∀(k:Nat) (cs:List Value),css[k]?=some cs->∃id own z,ids[k]?=some id/\H[id]?=some (ah.cells own z cs)) :
  ak P f (args.map (rn (sgR P.globals.size ids) 5)) H [] (Is v H):=by
 have h1:ak P f args (aH P.globals.size css).list [] (Is v ((aH P.globals.size css).list ++ [])):=by
  have:=ak.clean (vc gu iE n (Q:=fun v' _=>v'=v) hc) hv
  simpa using this
 have:=ak.reads (GD (d:=2) jT gv hl) h1 (rnV (σ:=fun _=>none) (d:=0) hv).2 (rnV (d:=0) hv).1 rfl rfl
 rw[(rnV (d:=0) hv).1]at this
 simpa using this
def nE:Code->List (Array Nat×Code×Code)
 | .seq a b=>nE a++nE b
 | .cond _ a b=>nE a++nE b
 | .block _ b=>nE b
 | .loop b=>nE b
 | .scope b=>nE b
 | .rangeFunc _ ps a b=>(ps,a,b) :: (nE a++nE b)
 |_=>[]
def LG(P:Program)(f k:Nat):Prop :=
 match P.funcs[f]? with
 |some fn=>match fn.body with
  |some c=>match (nE c)[k]? with
   |some (ps,as,bd)=>fn.ntmps=fn.ntmps/\ps=ps/\as=as/\bd=bd
   |none=>False
  |none=>False
 |none=>False
section
variable {α:Type} {f:α->List Value} {n:Nat}
theorem aK(hf:∀x,(f x).length=n)(xs:List α):(xs.flatMap f).length=xs.length*n:=by
 induction xs with
 |nil=>simp
 |cons x xs ih=>rw[List.flatMap_cons,aI,ih,hf,List.length_cons,Nat.succ_mul];omega
theorem DE(hf:∀x,(f x).length=n){xs:List α}{d:α}{k:Nat}(hk:k<xs.length):((xs.flatMap f).drop (k*n)).take n=f (xs.getD k d):=by
 have:=(xf (f:=f) (n:=n) (xs:=xs) hf k (xs.getD k d) (by rw[List.getD_eq_getElem?_getD,List.getElem?_eq_getElem hk];rfl)).2
 simpa using this
theorem jA(hf:∀x,(f x).length=n){xs:List α}{d:α}{k off c:Nat}(hk:k<xs.length)(hoff:off=k*n+c){v:Value}(hv:(f (xs.getD k d))[c]?=some v):(xs.flatMap f)[off]?=some v:=by
 have hc:c<n:=by have:=(List.getElem?_eq_some_iff.1 hv).1;rw[hf]at this;exact this
 rw[<- DE hf hk,List.getElem?_take,if_pos hc,List.getElem?_drop]at hv
 rw[hoff];exact hv
theorem mH(hf:∀x,(f x).length=n){xs:List α}{d:α}{k off c m:Nat}(hk:k<xs.length)(hoff:off=k*n+c)(hm:c+m<=n):cu m (xs.flatMap f) off=some (.agg ⟨((f (xs.getD k d)).drop c).take m⟩):=by
 have hl:=aK hf xs
 have:(k+1)*n<=xs.length*n:=Nat.mul_le_mul_right n hk
 rw[Nat.add_mul,Nat.one_mul]at this
 unfold cu
 rw[if_pos Om,<- DE hf hk,List.drop_take,List.take_take,List.drop_drop,Nat.min_eq_left Om,hoff]
theorem cF(hf:∀x,(f x).length=n)(xs:List α)(x:α){k:Nat}(hk:k=xs.length):(List.take (k*n) (List.drop 0 (xs.flatMap f)))++f x=(xs ++ [x]).flatMap f:=by
 subst hk
 rw[List.drop_zero,List.take_of_length_le (by rw[aK hf];exact Nat.le_refl _),List.flatMap_append]
 simp
theorem cD{m:Nat}(hf:∀x,(f x).all (aw m)=true)(xs:List α):(xs.flatMap f).all (aw m)=true:=by
 rw[List.all_flatMap,List.all_eq_true]
 intro r _;exact hf r
end
end
end Go.K
