/- What is to be shown so that code does what is wanted: computed from its text, with hints. No condition. -/
import Derived.Test.YtkkgnalgmebfjaaGreatGV4xK41
open Go Go.K
set_option linter.unusedVariables false
set_option linter.unusedSimpArgs false
namespace Go.K
noncomputable section
variable {P:Program}
def Is(v:Value)(H:Heap):Value->Heap->Prop:=fun v' H'=>v'=v/\H'=H
def qn(bs:List Nat)(ops:Array Oper)(done:Nat):List Nat->Option Nat
 | [] =>none
 |i :: is=>if (match ops[i]? with|some o => !dC o|none=>false)&&(bs.getD i 0 &&& done == bs.getD i 0) then some i else qn bs ops done is
def tq(bs:List Nat)(done:Nat):List Nat->Option Nat
 | [] =>none
 |i :: is=>if bs.getD i 0 &&& done == bs.getD i 0 then some i else tq bs done is
def yH(bs:List Nat)(ops:Array Oper):Nat->Nat->List Nat->List Nat
 |0,_,_=>[]
 |n+1,done,todo =>
  match (match qn bs ops done todo with|some i=>some i|none=>tq bs done todo) with
  |some i=>i :: yH bs ops n (done |||2 ^ i) (todo.filter (fun j => !(Nat.beq j i)))
  |none=>[]
def yF(l:List Oper):List Nat:=yH (dD l []) l.toArray l.length 0 (List.range l.length)
def codeOk(N G:Nat)(mixed:Bool):Code->Bool
 | .region _ ops draw=>ops.toList.all (iL N G)&&(!draw ||(mixed&&tr ops.toList (yF ops.toList)))
 | .seq a b=>codeOk N G mixed a&&codeOk N G mixed b
 | .cond c a b=>(match c with| .tmp t=>decide (t<N)| .const (.bool _)=>true|_=>false)&&codeOk N G mixed a&&codeOk N G mixed b
 | .block _ b=>codeOk N G mixed b
 | .scope b=>codeOk N G mixed b
 | .loop b=>codeOk N G mixed b
 | .rangeFunc g ps a b=>(match g with| .tmp t=>decide (t<N)|_=>false)&&ps.toList.all (fun p=>decide (p<N))&&codeOk N G mixed a&&codeOk N G mixed b
 | .skip| .ret| .exit _| .label _=>true
 |_=>false
def zZ(P:Program)(mixed:Bool)(f:Nat):Bool :=
 match P.funcs[f]? with
 |some fn =>
  match fn.body with
  | some c => !(fn.name == "runtime.NumGoroutine") && (ma fn.ntmps fn.results.toList && codeOk fn.ntmps P.globals.size mixed c)
  |none=>false
 |none=>false
abbrev MS:=Option (List Nat)
inductive Af where
 |new (z:Nat)
 |take (hd t F k n z:Nat) (row:List Value)
 |give (hd t F A k n z:Nat) (q:Bool)
inductive Hint:Type 1 where
 |auto
 |go (n:Nat) (h:Hint)
 |fork (a b:Hint)
 |aU (a b:Hint)
 |need (h:Hint)
 |val (v:Value) (h:Hint)
 |ans (deps:List (Nat×aa)) (v:Value) (new:List aa) (h:Hint)
 |into (Mc:MS) (h:Hint)
 |keep (h:Hint)
 |obj (id:Nat) (o:aa) (h:Hint)
 |slot (t:Nat) (v:Value) (h:Hint)
 |bind (Z:Type) (f:Z->Hint)
 |inv (d:Nat) (Z:Type) (x0:Z) (σ0:List (Nat×Nat)) (ML:List Nat) (slots:Z->List (Nat×Value)) (chg:Z->List (Nat×Bool×aa)) (new:Z->List (Bool×aa)) (lp:Z->List (Nat×List (Nat×Value))) (I:Z->Prop) (μ:Z->Nat) (body:Z->Hint)
 |again (U:List (Nat×Nat))
 |cas (p:Prop) (a b:Hint)
 |join (d:Nat) (Z:Type) (ML:List Nat) (slots:Z->List (Nat×Value)) (chg:Z->List (Nat×Bool×aa)) (new:Z->List (Bool×aa)) (lp:Z->List (Nat×List (Nat×Value))) (I:Z->Prop) (a b:Hint) (next:Z->Hint)
 |as (v:Value) (h:Hint)
 |ghost (o:aa) (h:Hint)
 |frz (ts:List Nat) (h:Hint)
 |yn (deps:List (Nat×aa)) (v:Value) (chg:List (Nat×aa)) (new:List aa) (h:Hint)
 |fam (l:List (Nat×Nat)) (k d:Nat) (ts bs:List Nat) (h:Hint)
 |tab (l:List Af) (h:Hint)
 |zn (es:List (Value×Value)) (h:Hint)
 |nxt (h1:Nat->Hint) (h2:Hint)
 |Ad (deps:List (Nat×aa)) (ids:List Nat) (Z:Type) (I:Z->Prop) (v:Z->Value) (chg:Z->List (Nat×aa)) (new:Z->List aa) (h:Z->Hint)
def Hint.dflt:Hint->Option Hint
 | .auto=>some .auto
 | .go n h=>some (match n with|0=>h|n+1 => .go n h)
 |_=>none
def gQ(h:Hint):Env->HT->(Env->HT->Hint->Prop)->Prop :=
 Hint.rec (motive:=fun _=>Env->HT->(Env->HT->Hint->Prop)->Prop)
  (fun E H K=>K E H .auto)
  (fun n h _ E H K=>K E H (.go n h))
  (fun a b _ _ E H K=>K E H (.fork a b))
  (fun a b _ _ E H K=>K E H (.aU a b))
  (fun h _ E H K=>K E H (.need h))
  (fun v h _ E H K=>K E H (.val v h))
  (fun deps v new h _ E H K=>K E H (.ans deps v new h))
  (fun Mc h _ E H K=>K E H (.into Mc h))
  (fun h _ E H K=>K E H (.keep h))
  (fun id o _ ih E H K=>H.get id=some o/\ih E (H.set id o) K)
  (fun t v _ ih E H K=>E.get t=v/\ih (E.put (some t) v) H K)
  (fun Z f ih E H K => ∃x:Z,ih x E H K)
  (fun d Z x0 σ0 ML slots chg new lp I μ body _ E H K=>K E H (.inv d Z x0 σ0 ML slots chg new lp I μ body))
  (fun U E H K=>K E H (.again U))
  (fun p a b iha ihb E H K=>(p->iha E H K)/\(¬ p->ihb E H K))
  (fun d Z ML slots chg new lp I a b next _ _ _ E H K=>K E H (.join d Z ML slots chg new lp I a b next))
  (fun v h _ E H K=>K E H (.as v h))
  (fun o h _ E H K=>K E H (.ghost o h))
  (fun ts h _ E H K=>K E H (.frz ts h))
  (fun deps v chg new h _ E H K=>K E H (.yn deps v chg new h))
  (fun l k d ts bs h _ E H K=>K E H (.fam l k d ts bs h))
  (fun l h _ E H K=>K E H (.tab l h))
  (fun es h _ E H K=>K E H (.zn es h))
  (fun h1 h2 _ _ E H K=>K E H (.nxt h1 h2))
  (fun deps ids Z I v chg new h _ E H K=>K E H (.Ad deps ids Z I v chg new h)) h
def vas(h:Hint):Value->HT->(Value->HT->Hint->Prop)->Prop :=
 Hint.rec (motive:=fun _=>Value->HT->(Value->HT->Hint->Prop)->Prop)
  (fun v H K=>K v H .auto)
  (fun n h _ v H K=>K v H (.go n h))
  (fun a b _ _ v H K=>K v H (.fork a b))
  (fun a b _ _ v H K=>K v H (.aU a b))
  (fun h _ v H K=>K v H (.need h))
  (fun x h _ v H K=>K v H (.val x h))
  (fun deps x new h _ v H K=>K v H (.ans deps x new h))
  (fun Mc h _ v H K=>K v H (.into Mc h))
  (fun h _ v H K=>K v H (.keep h))
  (fun id o h _ v H K=>K v H (.obj id o h))
  (fun t x h _ v H K=>K v H (.slot t x h))
  (fun Z f _ v H K=>K v H (.bind Z f))
  (fun d Z x0 σ0 ML slots chg new lp I μ body _ v H K=>K v H (.inv d Z x0 σ0 ML slots chg new lp I μ body))
  (fun U v H K=>K v H (.again U))
  (fun p a b _ _ v H K=>K v H (.cas p a b))
  (fun d Z ML slots chg new lp I a b next _ _ _ v H K=>K v H (.join d Z ML slots chg new lp I a b next))
  (fun x h ih v H K=>wk v x/\ih x H K)
  (fun o h ih v H K=>ih v (H.push o) K)
  (fun ts h _ v H K=>K v H (.frz ts h))
  (fun deps x chg new h _ v H K=>K v H (.yn deps x chg new h))
  (fun l k d ts bs h _ v H K=>K v H (.fam l k d ts bs h))
  (fun l h _ v H K=>K v H (.tab l h))
  (fun es h _ v H K=>K v H (.zn es h))
  (fun h1 h2 _ _ v H K=>K v H (.nxt h1 h2))
  (fun deps ids Z I x chg new h _ v H K=>K v H (.Ad deps ids Z I x chg new h)) h
def kx(id:Nat):List Nat->Bool
 | [] =>false
 |x :: xs=>cond (Nat.beq id x) true (kx id xs)
theorem gu{id:Nat}:∀{l:List Nat},kx id l=true->id∈l
 | [],h=>by cases h
 |x :: xs,h=>by
  unfold kx at h
  cases hb:Nat.beq id x with
  |true=>exact List.mem_cons.2 (.inl (Nat.eq_of_beq_eq_true hb))
  |false=>rw[hb]at h;exact List.mem_cons_of_mem _ (gu h)
def MS.list(M:MS)(n:Nat):List Nat:=match M with|none=>List.range n|some l=>l
def lF(base:Nat)(M:MS)(ms:List Nat):Bool :=
 match M with
 |none=>true
 |some l=>ms.all fun id=>cond (Nat.ble base id) true (kx id l)
theorem dO{base:Nat}{M:MS}{ms:List Nat}(h:lF base M ms=true):∀id∈ms,id<base->id∈M.list base:=by
 intro id hid hb
 cases M with
 |none=>exact List.mem_range.2 hb
 |some l =>
  simp only[lF,List.all_eq_true]at h
  have:=h id hid
  cases hq:Nat.ble base id with
  |true=>have:=Nat.le_of_ble_eq_true hq;omega
  |false=>rw[hq]at this;exact gu this
def pM(base n:Nat)(M Mc:MS):Bool :=
 match Mc with
 |none=>M.isNone
 |some l=>lF base M l
theorem fc{base n:Nat}{M Mc:MS}(h:pM base n M Mc=true):∀id∈Mc.list n,id<base->id∈M.list base:=by
 intro id hid hb
 cases Mc with
 |none =>
  cases M with
  |none=>exact List.mem_range.2 hb
  |some l=>cases h
 |some l=>exact dO (M:=M) h id hid hb
def mw(bs:List Nat)(j:Nat)(log:List (Nat×Option Nat))(ms:List Nat):Bool :=
 log.all fun p=>fI bs j p.1 ||(match p.2 with|none=>true|some x => !(kx x ms))
theorem tG{id:Nat}:∀{l:List Nat},id∈l->kx id l=true
 | [],h=>by cases h
 |x :: xs,h=>by
  unfold kx
  rcases List.mem_cons.1 h with rfl|h
  ·rw[Nat.beq_refl];rfl
  ·cases Nat.beq id x with
   |true=>rfl
   |false=>exact tG h
theorem la{bs:List Nat}{j:Nat}{log:List (Nat×Option Nat)}{ms:List Nat}(h:mw bs j log ms=true):Loose bs j log ms:=by
 intro p hp hd x hx hm
 unfold mw at h
 rw[List.all_eq_true]at h
 have:=h p hp
 rw[hd,hx]at this
 simp[tG hm]at this
abbrev KV:=Value->HT->Hint->Prop
abbrev lE:=FuncId->List Value->HT->MS->Hint->KV->Prop
abbrev nl:=Value->List Value->HT->MS->Hint->KV->Prop
def uy(P:Program)(fv:Value)(args:List Value)(H:Heap)(Mc:List Nat)(v:Value)(H':Heap):Prop :=
 match fv with
 | .func (.func f) first cap=>aF P f (first.toList++args++cap.toList) H Mc (Is v H')
 |fv=>gB P fv args H Mc (Is v H')
def Ax(P:Program)(fv:Value)(args:List Value)(H:Heap)(Mc:List Nat)(Q:Value->Heap->Prop):Prop :=
 match fv with
 | .func (.func f) first cap=>aF P f (first.toList++args++cap.toList) H Mc Q
 |fv=>gB P fv args H Mc Q
def rg(H:HT):List (Nat×aa)->Prop
 | [] =>True
 |(id,o) :: r=>H.get id=some o/\rg H r
def rh(H:Heap):List (Nat×aa)->Prop
 | [] =>True
 |(id,o) :: r=>H[id]?=some o/\rh H r
def sH(H:Heap):List aa->Heap
 | [] =>H
 |o :: r=>H++(o :: r)
def tk(H:Heap):List (Nat×aa)->Heap
 | [] =>H
 |(id,o) :: r=>tk (H.set id o) r
def tj(H:HT):List (Nat×aa)->HT
 | [] =>H
 |(id,o) :: r=>tj (H.set id o) r
def tU:List (Nat×aa)->List Nat
 | [] => []
 |(id,_) :: r=>id :: tU r
def fO(H:HT):List aa->HT
 | [] =>H
 |o :: r=>fO (H.push o) r
def lX(P:Program)(app:nl)(wok:MS->Bool)(dm:Value->MS)(o:Oper)(E:Env)(H:HT)(h:Hint)(K:Env->HT->Option Nat->Hint->Prop):Prop :=
 match dT o.op with
 | .pure =>
  match h with
  | .fork h1 h2 =>
   match o.op with
   | .pick (.tmp t) x y =>
    match E.get t with
    | .bool b=>(b=true->K ((E.put (some t) (.bool true)).put o.dst (ev E.get x)) H none h1)/\(b=false->K ((E.put (some t) (.bool false)).put o.dst (ev E.get y)) H none h2)
    |_=>False
   |_=>False
  | .need h' =>
   match wh P o.op (ev E.get) H with
   |some (c,v,rd)=>c/\K (E.put o.dst v) H rd h'
   |none=>False
  | .val v h' =>
   match o.op with
   | .load t a =>
    match ev E.get a with
    | .pointer (some ⟨id,off,none⟩) =>
     match H.get id with
     |some (.cells _ _ cs)=>cL P t cs off=some v/\K (E.put o.dst v) H (some id) h'
     |_=>False
    | .pointer (some ⟨id,off,some (k+3)⟩) =>
     match H.get id with
     |some (.fam (z+1) cs) =>
      match mI P t off (z+1) with
      |true=>cL P t cs (k*(z+1)+off)=some v/\K (E.put o.dst v) H (some id) h'
      |false=>False
     |_=>False
    | .iface off (.tuple cs)=>cL P t cs.toList off=some v/\K (E.put o.dst v) H none h'
    |_=>False
   | .index t x i=>mH P t (ev E.get x) (ev E.get i)=some v/\K (E.put o.dst v) H none h'
   | .lookup t x i ok =>
    match P.underlying t,ev E.get x with
    |some (.map kt el),.map (some id) =>
     match H.get id,eg P el,eZ P kt (ev E.get i) with
     |some (.map es),some z,true=>mE P kt z (ev E.get i) ok es=some v/\K (E.put o.dst v) H (some id) h'
     |_,_,_=>False
    |_,_=>False
   |_=>False
  |h =>
   match h.dflt with
   |some h' =>
    match sm P o.op (ev E.get) H with
    |some (v,rd)=>K (E.put o.dst v) H rd h'
    |none=>False
   |none=>False
 | .alloc =>
  match h with
  | .need h' =>
   match ss P o.op (ev E.get) H.n with
   |some (c,v,ob)=>c/\K (E.put o.dst v) (H.push ob) (some H.n) h'
   |none=>False
  |h =>
   match h.dflt with
   |some h' =>
    match gL P o.op (ev E.get) H.n with
    |some (v,ob)=>K (E.put o.dst v) (H.push ob) (some H.n) h'
    |none=>False
   |none=>False
 | .write =>
  match h with
  | .need h' =>
   match sr P o.op (ev E.get) H with
   |some (c,v,H',ms)=>c/\wok (some ms)=true/\K (E.put o.dst v) H' none h'
   |none=>False
  | .val _ h' =>
   match pn P o.op (ev E.get) with
   |some (c,v)=>c/\K (E.put o.dst v) H none h'
   |none=>False
  | .zn es' h' =>
   match o.op with
   | .mapUpdate t m k v =>
    match P.underlying t,ev E.get m with
    |some (.map kt el),.map (some id) =>
     match H.get id,eZ P kt (ev E.get k),wok (some [id]) with
     |some (.map es),true,true=>tL P kt (ev E.get k) (ev E.get v) es=some es'/\K (E.put o.dst undef) (H.set id (.map es')) none h'
     |_,_,_=>False
    |_,_=>False
   |_=>False
  |h =>
   match h.dflt with
   |some h' =>
    match pc P o.op (ev E.get) H with
    |some (v,H',ms)=>match wok (some ms) with|true=>K (E.put o.dst v) H' none h'|false=>False
    |none=>False
   |none=>False
 | .call =>
  match o.op with
  | .call ⟨.value f,args,_⟩ =>
   match h with
   | .ans deps v new h'=>rg H deps/\(∀H':Heap,H'.length=H.n->rh H' deps->uy P (ev E.get f) (args.toList.map (ev E.get)) H' [] v (sH H' new))/\K (E.put o.dst v) (fO H new) none h'
   | .yn deps v chg new h' =>
    match wok (some (tU chg)) with
    |true=>rg H deps/\(∀H':Heap,H'.length=H.n->rh H' deps->uy P (ev E.get f) (args.toList.map (ev E.get)) H' (tU chg) v (sH (tk H' chg) new))/\K (E.put o.dst v) (fO (tj H chg) new) none h'
    |false=>False
   | .Ad deps ids Z I v chg new h' =>
    match wok (some ids) with
    |true=>rg H deps/\(∀H':Heap,H'.length=H.n->rh H' deps->Ax P (ev E.get f) (args.toList.map (ev E.get)) H' ids (fun y H2 => ∃x,I x/\y=v x/\H2=sH (tk H' (chg x)) (new x)))/\∀x,I x->K (E.put o.dst (v x)) (fO (tj H (chg x)) (new x)) none (h' x)
    |false=>False
   | .into Mc h'=>match wok Mc with|true=>app (ev E.get f) (args.toList.map (ev E.get)) H Mc h' (fun v H' h''=>K (E.put o.dst v) H' none h'')|false=>False
   |h =>
    match h.dflt with
    |some h'=>match wok (dm (ev E.get f)) with|true=>app (ev E.get f) (args.toList.map (ev E.get)) H (dm (ev E.get f)) h' (fun v H' h''=>K (E.put o.dst v) H' none h'')|false=>False
    |none=>False
  |_=>False
 | .iter =>
  match o.op with
  | .range t x =>
   match P.underlying t,ev E.get x with
   |some (.map _ _),.map (some id) =>
    match H.get id,h.dflt with
    |some (.map es),some h'=>K (E.put o.dst (.pointer (some ⟨H.n,0,none⟩))) (H.push (.iter id es.length [])) none h'
    |_,_=>False
   |_,_=>False
  | .next it false =>
   match ev E.get it with
   | .pointer (some ⟨id,0,none⟩) =>
    match H.get id with
    |some (.iter m n seen) =>
     match H.get m,wok (some [id]),h with
     |some (.map es),true,.nxt h1 h2=>es.length=n/\(∀i,i<n->i ∉ seen->K (E.put o.dst (.tuple #[.bool true,.chan none,.chan none])) (H.set id (.iter m n (seen ++ [i]))) none (h1 i)) /\
       ((∀i,i<n->i∈seen)->K (E.put o.dst (.tuple #[.bool false])) H none h2)
     |_,_,_=>False
    |_=>False
   |_=>False
  | .entry it =>
   match ev E.get it with
   | .pointer (some ⟨id,0,none⟩) =>
    match H.get id with
    |some (.iter m n seen) =>
     match H.get m,h with
     |some (.map es),.val v h'=>es.length=n/\sK es seen=some v/\K (E.put o.dst v) H none h'
     |_,_=>False
    |_=>False
   |_=>False
  |_=>False
 | .bad=>False
def oJ(P:Program)(app:nl)(wok:MS->Bool)(dm:Value->MS)(ops:Array Oper)(o:Oper)(E:Env)(H:HT)(h:Hint)(K:Env->HT->Option Nat->Hint->Prop)(nC:Env->HT->Hint->Prop):Prop :=
 fE E fun E=>fH H fun H=>gQ h E H fun E H h =>
 match o.guard with
 |none=>lX P app wok dm o E H h K
 |some (g,want) =>
  match (ops[g]?).bind (·.dst) with
  |none=>nC (E.put o.dst undef) H h
  |some d =>
   match E.get d with
   | .bool b =>
    match h with
    | .aU h1 h2 =>
     (b=true->cond want (gQ h1 (E.put (some d) (.bool true)) H fun E H h=>lX P app wok dm o E H h K) (nC ((E.put (some d) (.bool true)).put o.dst undef) H h1)) /\
     (b=false->cond want (nC ((E.put (some d) (.bool false)).put o.dst undef) H h2) (gQ h2 (E.put (some d) (.bool false)) H fun E H h=>lX P app wok dm o E H h K))
    |h=>cond (cond b want (!want)) (lX P app wok dm o E H h K) (nC (E.put o.dst undef) H h)
   | .chan _=>False
   |_=>nC (E.put o.dst undef) H h
def l0(base:Nat)(M:MS):List Nat->Env->HT->(Env->HT->Prop)->Prop
 | [],E,H,K=>K E H
 |t :: ts,E,H,K =>
  match E.get t with
  | .slice (some ⟨id,0,tag⟩) n _ =>
   match (match tag with|none=>true|some k=>Nat.beq k 1)&&lF base M [id] with
   |true =>
    match H.get id with
    |some (.cells true _ cs)=>l0 base M ts (E.put (some t) (.iface (Nat.succ n) (.agg ⟨cs⟩))) (H.set id .dead) K
    |_=>False
   |false=>False
  | .iface (n+1) (.agg cs)=>l0 base M ts (E.put (some t) (.slice (some ⟨H.n,0,some 2⟩) n n)) (H.push (.cells false 0 cs.toList)) K
  | .agg ⟨vs⟩ =>
   match rz 0 vs with
   |some (i,.slice (some ⟨id,0,tag⟩) n _) =>
    match (match tag with|none=>true|some k=>Nat.beq k 1)&&lF base M [id] with
    |true =>
     match H.get id with
     |some (.cells true _ cs)=>l0 base M ts (E.put (some t) (.agg ⟨vs.set i (.iface (Nat.succ n) (.agg ⟨cs⟩))⟩)) (H.set id .dead) K
     |_=>False
    |false=>False
   |some (i,.iface (n+1) (.agg cs))=>l0 base M ts (E.put (some t) (.agg ⟨vs.set i (.slice (some ⟨H.n,0,some 2⟩) n n)⟩)) (H.push (.cells false 0 cs.toList)) K
   |_=>False
  |_=>False
def tfE(A F k d:Nat):List Nat->Env->Env
 | [],E=>E
 |t :: ts,E=>tfE A F k d ts (E.put (some t) (tf A F k d (E.get t)))
def xE(A F k d:Nat):List Nat->HT->HT
 | [],H=>H
 |b :: bs,H=>xE A F k d bs (match H.get b with|some (.cells own z cs)=>H.set b (.cells own z (cs.map (tf A F k d)))|_=>H)
def te(base:Nat)(M:MS)(k d:Nat)(ts bs:List Nat):List (Nat×Nat)->Env->HT->(Env->HT->Prop)->Prop
 | [],E,H,K=>K E H
 |(A,F) :: l,E,H,K =>
  match lF base M (A :: F :: bs) with
  |true =>
   match H.get A with
   |some (.cells true _ cs) =>
    match H.get F with
    |some (.fam z ms)=>(cs.length=z/\0<z/\ms.length=k*z)/\te base M k d ts bs l (tfE A F k d ts E) (xE A F k d bs ((H.set A .dead).set F (.fam z (ms++cs)))) K
    |_=>False
   |_=>False
  |false=>False
def yZ:List Nat->HT->HT
 | [],H=>H
 |z :: zs,H=>yZ zs (H.push (.fam z []))
def lW(base:Nat)(M:MS):List Af->HT->(HT->Prop)->Prop
 | [],H,K=>K H
 | .new z :: l,H,K=>lW base M l (H.push (.fam 0 [.int .i64 (z:Int)])) K
 | .take hd t F k n z row :: l,H,K =>
  match lF base M [hd,F] with
  |true =>
   match H.get hd with
   |some (.cells true zh hs) =>
    match H.get F with
    |some (.fam 0 ms)=>(hs[t]?=some (e7 n F k)/\ms[0]?=some (.int .i64 (z:Int))/\row.length=n*z/\(0<n->ms[k+1]?=some (.agg ⟨row⟩))) /\
      lW base M l (((H.set F (.fam 0 (bQ n k ms))).push (.cells true z row)).set hd (.cells true zh (hs.set t (.slice (some ⟨H.n,0,some 1⟩) n n)))) K
    |_=>False
   |_=>False
  |false=>False
 | .give hd t F A k n z q :: l,H,K =>
  match lF base M [hd,F,A] && !(Nat.beq A hd) with
  |true =>
   match H.get hd with
   |some (.cells true zh hs) =>
    match H.get F with
    |some (.fam 0 ms) =>
     match H.get A with
     |some (.cells true z' row) =>
      match Nat.beq z' z with
      |true=>(hs[t]?=some (.slice (some ⟨A,0,match q with|true=>some 1|false=>none⟩) n n)/\(q=true∨0<n)/\ms[0]?=some (.int .i64 (z:Int))/\0<z/\row.length=n*z/\ms.length=k+1) /\
        lW base M l (((H.set A .dead).set F (.fam 0 (dB n ms row))).set hd (.cells true zh (hs.set t (e7 n F k)))) K
      |false=>False
     |_=>False
    |_=>False
   |_=>False
  |false=>False
def vD(base:Nat)(M:MS)(h:Hint)(E:Env)(H:HT)(K:Env->HT->Hint->Prop):Prop :=
 match h with
 | .frz ts h'=>l0 base M ts E H (fun E H=>K E H h')
 | .fam [] k d zs bs h'=>K E (yZ zs H) h'
 | .fam (p :: l) k d ts bs h'=>te base M k d ts bs (p :: l) E H (fun E H=>K E H h')
 | .tab l h'=>lW base M l H (fun H=>K E H h')
 |h=>K E H h
def vC(P:Program)(app:nl)(base n:Nat)(M:MS)(dm:Value->MS)(ops:Array Oper):List Oper->Env->HT->Hint->(Env->HT->Hint->Prop)->Prop
 | [],E,H,h,K=>K E H h
 |o :: os,E,H,h,K=>vD base M h E H fun E H h=>oJ P app (fun Mc=>pM base H.n M Mc) dm ops o E H h (fun E' H' _ h'=>vC P app base n M dm ops os E' H' h' K) (fun E' H' h'=>vC P app base n M dm ops os E' H' h' K)
def pQ(P:Program)(app:nl)(base:Nat)(M:MS)(dm:Value->MS)(bs:List Nat)(ops:Array Oper):List Nat->Env->HT->List (Nat×Option Nat)->Hint->(Env->HT->Hint->Prop)->Prop
 | [],E,H,_,h,K=>K E H h
 |i :: is,E,H,log,h,K =>
  match ops[i]? with
  |none=>False
  |some o =>
   match dT o.op with
   | .iter=>False
   |_=>oJ P app (fun Mc=>pM base H.n M Mc&&mw bs i log (Mc.list H.n)) dm ops o E H h
     (fun E' H' rd h'=>pQ P app base M dm bs ops is E' H' (match dT o.op with| .pure| .alloc=>(i,rd) :: log|_=>log) h' K)
     (fun E' H' h'=>pQ P app base M dm bs ops is E' H' log h' K)
def tI(id:Nat):List (Nat×Nat)->Option Nat
 | [] =>none
 |(a,b) :: r=>cond (Nat.beq id a) (some b) (tI id r)
def sg(V:Nat)(U:List (Nat×Nat))(id:Nat):Option Nat:=cond (Nat.blt id V) (some id) (tI id U)
def qp(k:Nat×Nat):List (Nat×Nat)->Bool
 | [] =>true
 |q :: r=>cond (Nat.beq k.1 q.1) false (cond (Nat.beq k.2 q.2) false (qp k r))
def jh(id:Nat)(chg:List (Nat×Bool×aa)):Bool :=
 cond (chg.any fun p=>Nat.beq p.1 id) (chg.all fun p=>cond (Nat.beq p.1 id) (match p.2.2 with| .dead=>true|_=>false) true) false
def uM(V n:Nat)(chg:List (Nat×Bool×aa)):List (Nat×Nat)->Bool
 | [] =>true
 |p :: r=>cond (Nat.ble V p.1) (cond (Nat.blt p.1 n) (cond (cond (Nat.ble V p.2) true (jh p.2 chg)) (cond (qp p r) (uM V n chg r) false) false) false) false
def hB(T:Tm)(U:Nat->Option Nat)(d:Nat):List (Nat×Value)->Prop
 | [] =>True
 |(t,v) :: r=>(match v with| .slice (some ⟨_,_,some _⟩) _ _=>wk (T t) (rn U d v)|v=>T t=rn U d v)/\hB T U d r
def nQ(H:HT)(V:Nat)(U:Nat->Option Nat)(d:Nat)(id:Nat)(plain:Bool)(o:aa):Prop :=
 match o with
 | .dead=>True
 | .loop .. =>False
 | .iter m n s=>match U id with
  |some id'=>H.get id'=some (.iter m n s)/\ah V (.iter m n s)=true
  |none=>True
 |o=>match U id with
  |some id'=>cond plain (H.get id'=some o/\ah V o=true) (match H.get id' with|some o'=>wkO o' (rno U d o)|none=>False)
  |none=>True
def w6(H:HT)(V:Nat)(U:Nat->Option Nat)(d:Nat):List (Nat×Bool×aa)->Prop
 | [] =>True
 |(id,plain,o) :: r=>nQ H V U d id plain o/\w6 H V U d r
def qr(H:HT)(V:Nat)(U:Nat->Option Nat)(d:Nat):Nat->List (Bool×aa)->Prop
 |_,[] =>True
 |id,(plain,o) :: r=>nQ H V U d id plain o/\qr H V U d (Nat.succ id) r
def zp(H H0:HT)(U:Nat->Option Nat)(d:Nat):List (Nat×List (Nat×Value))->Prop
 | [] =>True
 |(L,sl) :: r =>
  (match H0.get L,H.get L with
  |some (.loop .ready none _ N ps as bd),some (.loop .ready none tm' N' ps' as' bd')=>(N=N'/\ps=ps'/\as=as'/\bd=bd')/\hB tm' U d sl
  |_,_=>False)/\zp H H0 U d r
def ie(slots:List (Nat×Value)):Env:=slots.foldl (fun E p=>E.put (some p.1) p.2) ⟨fun _=>junk,.leaf⟩
def cZ(H:HT)(p:Nat×List (Nat×Value)):HT :=
 match H.get p.1 with
 |some (.loop st pe _ N ps as bd)=>H.set p.1 (.loop st pe (ie p.2).get N ps as bd)
 |_=>H
def gv(H:HT)(chg:List (Nat×Bool×aa))(new:List (Bool×aa))(lp:List (Nat×List (Nat×Value))):HT :=
 new.foldl (fun H p=>H.push p.2) (chg.foldl (fun H p=>H.set p.1 p.2.2) (lp.foldl cZ H))
def rp(V:Nat)(ML:List Nat):List (Nat×Bool×aa)->Bool
 | [] =>true
 |p :: r=>cond (kx p.1 ML) (cond (Nat.blt p.1 V) (rp V ML r) false) false
def wa(V:Nat)(ML:List Nat)(chg:List (Nat×Bool×aa)):List (Nat×List (Nat×Value))->Bool
 | [] =>true
 |p :: r=>cond (kx p.1 ML) (cond (Nat.blt p.1 V) (cond (chg.any fun q=>Nat.beq q.1 p.1) false (cond (r.any fun q=>Nat.beq q.1 p.1) false (wa V ML chg r))) false) false
def allIn(chg:List (Nat×Bool×aa))(lp:List (Nat×List (Nat×Value))):List Nat->Bool
 | [] =>true
 |id :: r=>cond (cond (chg.any fun p=>Nat.beq p.1 id) true (lp.any fun p=>Nat.beq p.1 id)) (allIn chg lp r) false
def mU(N:Nat)(E:Env)(H:HT)(H0:HT)(d:Nat)(ML:List Nat)(U:List (Nat×Nat))(slots:List (Nat×Value))(chg:List (Nat×Bool×aa))(new:List (Bool×aa))(lp:List (Nat×List (Nat×Value))):Prop :=
 (uM H0.n (Nat.add H0.n new.length) chg U&&(rp H0.n ML chg&&(wa H0.n ML chg lp&&allIn chg lp ML)))=true/\hB E.get (sg H0.n U) d slots/\w6 H H0.n (sg H0.n U) d chg/\qr H H0.n (sg H0.n U) d H0.n new/\zp H H0 (sg H0.n U) d lp
def tc(body:Env->HT->Hint->(Exit->Env->HT->Hint->Prop)->Prop)(K:Exit->Env->HT->Hint->Prop):Nat->Env->HT->Hint->Prop
 |0,_,_,_=>False
 |n+1,E,H,h=>body E H h fun e E' H' h'=>match e with| .normal=>tc body K n E' H' h'|e=>K e E' H' h'
def td{Z:Type}(N:Nat)(H:HT)(d:Nat)(ML:List Nat)(slots:Z->List (Nat×Value))(chg:Z->List (Nat×Bool×aa))(new:Z->List (Bool×aa))(lp:Z->List (Nat×List (Nat×Value)))(I:Z->Prop)
  (K:Exit->Env->HT->Hint->Prop) (e:Exit) (E':Env) (H':HT) (h':Hint):Prop :=
 match e with
 | .normal=>gQ h' E' H' fun E' H' h'=>match h' with| .again U => ∃x,I x/\mU N E' H' H d ML U (slots x) (chg x) (new x) (lp x)|_=>False
 |e=>K e E' H' h'
def wQ:Code->Option Exit
 | .ret=>some .ret
 | .exit id=>some (.exit id)
 |_=>none
def MS.also(id:Nat)(M:MS):MS:=match M with|none=>none|some l=>some (id :: l)
def oK(K:Exit->Env->HT->Hint->Prop)(E:Env)(H:HT)(h:Hint):Option Code->Prop
 |none=>K .normal E H h
 |some c=>match wQ c with|some e=>K e E H h|none=>False
def vG(K:Exit->Env->HT->Hint->Prop)(E:Env)(H:HT)(h:Hint)(pe:Option Code):LoopState->Prop
 | .busy=>False
 |_=>oK K E H h pe
def de(P:Program)(call:lE)(app:nl)(dm:Value->MS)(N rounds:Nat)(inr:Bool):Code->Nat->MS->Env->HT->Hint->(Exit->Env->HT->Hint->Prop)->Prop
 | .region _ ops draw,base,M,E,H,h,K =>
  vD base M h E H fun E H h =>
  cond draw (pQ P app base M dm (dD ops.toList []) ops (yF ops.toList) E H [] h (fun E' H' h'=>K .normal E' H' h'))
   (vC P app base 0 M dm ops ops.toList E H h (fun E' H' h'=>K .normal E' H' h'))
 | .skip,_,_,E,H,h,K=>K .normal E H h
 | .label _,_,_,E,H,h,K=>K .normal E H h
 | .ret,_,_,E,H,h,K=>K .ret E H h
 | .exit id,_,_,E,H,h,K=>K (.exit id) E H h
 | .seq a b,base,M,E,H,h,K=>de P call app dm N rounds inr a base M E H h fun e E' H' h'=>match e with| .normal=>de P call app dm N rounds inr b base M E' H' h' K|e=>K e E' H' h'
 | .scope b,base,M,E,H,h,K=>de P call app dm N rounds inr b base M E H h fun e E' H' h'=>match e with| .goto _=>False|e=>K e E' H' h'
 | .block id b,base,M,E,H,h,K=>de P call app dm N rounds inr b base M E H h fun e E' H' h'=>match e with| .exit id'=>cond (Nat.beq id' id) (K .normal E' H' h') (K (.exit id') E' H' h')|e=>K e E' H' h'
 | .cond (.tmp t) a b,base,M,E,H,h,K =>
  gQ h E H fun E H h =>
  match E.get t with
  | .bool c =>
   match h with
   | .fork h1 h2=>(c=true->de P call app dm N rounds inr a base M (E.put (some t) (.bool true)) H h1 K)/\(c=false->de P call app dm N rounds inr b base M (E.put (some t) (.bool false)) H h2 K)
   | .join d Z ML slots chg new lp I h1 h2 next =>
    lF base M ML=true/\(c=true->de P call app dm N rounds inr a H.n (some ML) (E.put (some t) (.bool true)) H h1 (fun e E' H' h'=>td N H d ML slots chg new lp I (fun e'=>K e') e E' H' h')) /\
    (c=false->de P call app dm N rounds inr b H.n (some ML) (E.put (some t) (.bool false)) H h2 (fun e E' H' h'=>td N H d ML slots chg new lp I (fun e'=>K e') e E' H' h')) /\
    ∀x,I x->K .normal (ie (slots x)) (gv H (chg x) (new x) (lp x)) (next x)
   |h=>match h.dflt with|some h'=>(match c with|true=>de P call app dm N rounds inr a base M E H h' K|false=>de P call app dm N rounds inr b base M E H h' K)|none=>False
  |_=>False
 | .cond (.const (.bool c)) x y,base,M,E,H,h,K =>
  match c with
  |true=>de P call app dm N rounds inr x base M E H h K
  |false=>de P call app dm N rounds inr y base M E H h K
 | .loop b,base,M,E,H,h,K =>
  gQ h E H fun E H h =>
  match h with
  | .inv d Z x0 σ0 ML slots chg new lp I μ hb =>
   lF base M ML=true/\I x0/\mU N E H H d ML σ0 (slots x0) (chg x0) (new x0) (lp x0)/\(∀x,(rp H.n ML (chg x)&&wa H.n ML (chg x) (lp x))=true) /\
   ∀x,I x->de P call app dm N rounds inr b H.n (some ML) (ie (slots x)) (gv H (chg x) (new x) (lp x)) (hb x) fun e E' H' h'=>match e with
    | .normal=>gQ h' E' H' fun E' H' h'=>match h' with| .again U => ∃x',I x'/\μ x'<μ x/\mU N E' H' H d ML U (slots x') (chg x') (new x') (lp x')|_=>False
    |e=>K e E' H' h'
  |h=>tc (fun E H h K=>de P call app dm N rounds inr b base M E H h K) K rounds E H h
 | .rangeFunc (.tmp t) ps as bd,base,M,E,H,h,K =>
  gQ h E H fun E H h =>
  cond inr False
   (match E.get t with
   | .func (.func gf) first cap =>
    match (match h with| .into Mc h'=>some (Mc,h')|h=>match h.dflt with|some h'=>some (none,h')|none=>none) with
    |some (Mc,h') =>
     match pM base H.n M Mc&&Nat.ble base H.n with
     |true=>call gf (first.toList ++ [.func (.yield H.n) #[] #[]]++cap.toList) (H.push (.loop .ready none E.get N ps as bd)) (MS.also H.n Mc) h' (fun _ H' h'' =>
       match H'.get H.n with
       |some (.loop st pe _ _ _ _ _)=>vG K E (H'.set H.n .dead) h'' pe st
       |_=>False)
     |false=>False
    |none=>False
   |_=>False)
 |_,_,_,_,_,_,_=>False
def rN(P:Program)(call:lE)(app:nl)(dm:Value->MS)(rounds:Nat)(mixed:Bool)(L:Nat)(args:List Value)(H:HT)(M:MS)(h:Hint)(K:KV):Prop :=
 match H.get L with
 |some (.loop .ready _ tm N ps as bd) =>
  match Nat.beq args.length ps.size&&(ps.toList.all (fun p=>decide (p<N))&&(codeOk N P.globals.size mixed as&&(codeOk N P.globals.size mixed bd&&(match M with|none=>Nat.blt L H.n|some l=>kx L l)))) with
  |true=>de P call app dm N rounds true as H.n M ⟨l7 ps.toList args tm,.leaf⟩ H h fun e E1 H1 h1 =>
   match e with
   | .normal =>
    match H1.get L with
    |some (.loop .ready pe1 tm1 N1 ps1 as1 bd1)=>de P call app dm N rounds true bd H.n M E1 (H1.set L (.loop .busy pe1 tm1 N1 ps1 as1 bd1)) h1 fun e E2 H2 h2 =>
     gQ h2 E2 H2 fun E2 H2 h2 =>
     match sE e with
     |some j =>
      match H2.get L with
      |some (.loop _ _ tm2 N2 ps2 as2 bd2)=>K (.bool j.isNone) (H2.set L (.loop (match j.isNone with|true => .ready|false => .done) j tm2 N2 ps2 as2 bd2)) h2
      |_=>False
     |none=>False
    |_=>False
   |_=>False
  |false=>False
 |_=>False
def ia(P:Program)(T:Tm)(H:HT):ResultVar->Option Value
 | .tmp t=>some (T t)
 | .cell a ty=>(mF P ty (T a) H).map (·.1)
def tM(P:Program)(rs:List ResultVar)(T:Tm)(H:HT):Option Value :=
 match rs with
 | [r] =>ia P T H r
 | [r,r2] =>match ia P T H r,ia P T H r2 with|some v,some v2=>some (.tuple ⟨[v,v2]⟩)|_,_=>none
 | [r,r2,r3] =>match ia P T H r,ia P T H r2,ia P T H r3 with|some v,some v2,some v3=>some (.tuple ⟨[v,v2,v3]⟩)|_,_,_=>none
 | [] =>some (.tuple ⟨[]⟩)
 |_=>none
def nD(n:Nat)(M:MS)(v:Value)(H':HT)(h:Hint)(K:KV):Prop :=
 match h with
 | .keep h'=>K v H' h'
 |h =>
  match M with
  |none=>K v H' h
  |some l =>
   match cK n v&&l.all (fun id=>match H'.get id with|some o=>ah n o|none=>true) with
   |true=>K v (H'.take n) h
   |false=>K v H' h
def vE(P:Program)(mask:Nat)(call:lE)(app:nl)(dm:Value->MS)(rounds:Nat)(f:FuncId)(args:List Value)(H:HT)(M:MS)(h:Hint)(K:KV):Prop :=
 match Nat.testBit mask f with
 |true =>
  match P.funcs[f]? with
  |some fn =>
   match fn.body with
   |some c =>
    match Nat.ble args.length fn.ntmps with
    |true=>de P call app dm fn.ntmps rounds false c H.n M ⟨tS args,.leaf⟩ H h fun e E' H' h' =>
     match e with
     | .normal=>gQ h' E' H' fun E' H' h'=>match tM P fn.results.toList E'.get H' with|some v=>vas h' v H' (fun v H' h'=>nD H.n M v H' h' K)|none=>False
     | .ret=>gQ h' E' H' fun E' H' h'=>match tM P fn.results.toList E'.get H' with|some v=>vas h' v H' (fun v H' h'=>nD H.n M v H' h' K)|none=>False
     |_=>False
    |false=>False
   |none=>False
  |none=>False
 |false=>False
def xA(call:lE)(yld:Nat->List Value->HT->MS->Hint->KV->Prop)(fv:Value)(args:List Value)(H:HT)(M:MS)(h:Hint)(K:KV):Prop :=
 match fv with
 | .func (.func f) first cap=>call f (first.toList++args++cap.toList) H M h K
 | .func (.yield L) ⟨[]⟩ ⟨[]⟩=>yld L args H M h K
 |_=>False
def vF(P:Program)(mask:Nat)(dm:Value->MS)(rounds:Nat)(mixed:Bool):Nat->Bool->Nat->List Value->HT->MS->Hint->KV->Prop
 |0,_,_,_,_,_,_,_=>False
 |n+1,b,f,args,H,M,h,K =>
  match b with
  |true=>vE P mask (vF P mask dm rounds mixed n true) (xA (vF P mask dm rounds mixed n true) (vF P mask dm rounds mixed n false)) dm rounds f args H M h K
  |false=>rN P (vF P mask dm rounds mixed n true) (xA (vF P mask dm rounds mixed n true) (vF P mask dm rounds mixed n false)) dm rounds mixed f args H M h K
def iI(P:Program)(call:lE):Prop:=∀f args H M h K,call f args H M h K->aF P f args H.list (M.list H.n) (fun v H' => ∃H2 h2,H'=H2.list/\K v H2 h2)
def jz(P:Program)(app:nl):Prop:=∀fv args H M h K,app fv args H M h K->gB P fv args H.list (M.list H.n) (fun v H' => ∃H2 h2,H'=H2.list/\K v H2 h2)
def sY(P:Program)(yld:Nat->List Value->HT->MS->Hint->KV->Prop):Prop:=∀L args H M h K,yld L args H M h K->gB P (.func (.yield L) #[] #[]) args H.list (M.list H.n) (fun v H' => ∃H2 h2,H'=H2.list/\K v H2 h2)
theorem nv{H:HT}{id:Nat}{o:aa}(h:H.get id=some o):(H.set id o).list=H.list:=by
 rw[HT.bB]
 refine List.ext_getElem? fun i =>?_
 rw[List.getElem?_set]
 split
 ·rename_i e;subst e
  have:=HT.aN H id
  rw[h]at this
  split
  ·exact this.symm
  ·rename_i hl;rw[List.getElem?_eq_none (by omega)]at this;cases this
 ·rfl
theorem cA:∀{h:Hint} {E:Env} {H:HT} {k:Env->HT->Hint->Prop},gQ h E H k->∃E' H' h',E'.get=E.get/\H'.list=H.list/\k E' H' h':=by
 intro h
 induction h with
 |obj id o h ih =>
  intro E H k hk
  obtain ⟨h1,h2⟩:=hk
  obtain ⟨E',H',h',e1,e2,e3⟩:=ih h2
  exact ⟨E',H',h',e1,e2.trans (nv h1),e3⟩
 |slot t v h ih =>
  intro E H k hk
  obtain ⟨h1,h2⟩:=hk
  obtain ⟨E',H',h',e1,e2,e3⟩:=ih h2
  exact ⟨E',H',h',e1.trans (Env.dX E t v h1),e2,e3⟩
 |bind Z f ih =>
  intro E H k hk
  obtain ⟨x,hk⟩:=hk
  exact ih x hk
 |cas p a b iha ihb =>
  intro E H k hk
  by_cases hp:p
  ·exact iha (hk.1 hp)
  ·exact ihb (hk.2 hp)
 |_=>intro E H k hk;exact ⟨E,H,_,rfl,rfl,hk⟩
theorem uC:∀{h:Hint} {v:Value} {H:HT} {k:Value->HT->Hint->Prop},vas h v H k->∃v2 gs H' h',wk v v2/\H'.list=H.list++gs/\k v2 H' h':=by
 intro h
 induction h with
 |as x h ih =>
  intro v H k hk
  obtain ⟨h1,h2⟩:=hk
  obtain ⟨v2,gs,H',h',e1,e2,e3⟩:=ih h2
  exact ⟨v2,gs,H',h',fun J y hy=>e1 J y (h1 J y hy),e2,e3⟩
 |ghost o h ih =>
  intro v H k hk
  obtain ⟨v2,gs,H',h',e1,e2,e3⟩:=ih hk
  exact ⟨v2,o :: gs,H',h',e1,by rw[e2,HT.bW,List.append_assoc];rfl,e3⟩
 |_=>intro v H k hk;exact ⟨v,[],H,_,ag v,(List.append_nil _).symm,hk⟩
theorem HT.n_eq{H H':HT}(h:H'.list=H.list):H'.n=H.n:=by rw[<- HT.length,<- HT.length,h]
section
variable {app:nl} {call:lE} {dm:Value->MS}
theorem oC{fv:Value}{args:List Value}{H:Heap}{Mc:List Nat}{v:Value}{H':Heap}(h:uy P fv args H Mc v H'):gB P fv args H Mc (Is v H'):=by
 unfold uy at h
 split at h
 ·exact gB.func h
 ·exact h
theorem sW{fv:Value}{args:List Value}{H:Heap}{Mc:List Nat}{Q:Value->Heap->Prop}(h:Ax P fv args H Mc Q):gB P fv args H Mc Q:=by
 unfold Ax at h
 split at h
 ·exact gB.func h
 ·exact h
inductive Stepped (P:Program) (wok:MS->Bool) (o:Oper) (E:Env) (H:HT) (K:Env->HT->Option Nat->Hint->Prop):Prop
 |pure {v:Value} {rd:Option Nat} {E2:Env} {h2:Hint} (hc:dT o.op = .pure) (hp:dp P o.op (ev E.get) H.list=some (v,rd)) (he:E2.get=put E.get o.dst v) (hk:K E2 H rd h2)
 |alloc {v:Value} {ob:aa} {h2:Hint} (hc:dT o.op = .alloc) (hp:gL P o.op (ev E.get) H.n=some (v,ob)) (hk:K (E.put o.dst v) (H.push ob) (some H.n) h2)
 |write {v:Value} {H':HT} {ms:List Nat} {h2:Hint} (hc:dT o.op = .write) (hp:dU P o.op (ev E.get) H.list=some (v,H'.list,ms)) (hw:wok (some ms)=true) (hk:K (E.put o.dst v) H' none h2)
 |call {f:Operand} {args:Array Operand} {ts:Array TypeId} {Mc:MS} (hc:dT o.op = .call) (hop:o.op = .call ⟨.value f,args,ts⟩) (hw:wok Mc=true)
   (ha:gB P (ev E.get f) (args.toList.map (ev E.get)) H.list (Mc.list H.n) (fun v H' => ∃H2 h2,H'=H2.list/\K (E.put o.dst v) H2 none h2))
 |iter (hc:dT o.op = .iter) (hk:∀(base:Nat) (M:List Nat),(∀id,wok (some [id])=true->id<base->id∈M)->kh P base M o.op (ev E.get) H.list (fun v H' => ∃H2 h2,H'=H2.list/\K (E.put o.dst v) H2 none h2))
theorem lT{H:HT}:∀{l:List (Nat×aa)},rg H l->rh H.list l
 | [],_=>trivial
 |(id,o) :: r,h=>⟨by rw[HT.aN];exact h.1,lT h.2⟩
theorem gD:∀(new:List aa) (H:HT),(fO H new).list=sH H.list new:=by
 have key:∀(new:List aa) (H:HT),(fO H new).list=H.list++new:=by
  intro new
  induction new with
  |nil=>intro H;simp[fO]
  |cons o r ih=>intro H;simp only[fO,ih,HT.bW,List.append_assoc,List.cons_append,List.nil_append]
 intro new H
 rw[key]
 cases new with
 |nil=>simp[sH]
 |cons o r=>rfl
theorem iX:∀(chg:List (Nat×aa)) (H:HT),(tj H chg).list=tk H.list chg
 | [],_=>rfl
 |(id,o) :: r,H=>by
  have:=iX r (H.set id o)
  rw[HT.bB]at this
  exact this
theorem iO(ha:jz P app){wok:MS->Bool}(hw0:wok (some [])=true){o:Oper}{E:Env}{H:HT}{h:Hint}{K:Env->HT->Option Nat->Hint->Prop}(hv:lX P app wok dm o E H h K) :
  Stepped P wok o E H K:=by
 unfold lX at hv
 split at hv
 ·rename_i hc
  split at hv
  ·split at hv <;> try (exact hv.elim)
   rename_i hop t x y hop2
   split at hv <;> try (exact hv.elim)
   rename_i b hb
   cases b with
   |true =>
    refine .pure (v:=ev E.get x) (rd:=none) hc (by rw[hop2];simp only[dp];rw[show ev E.get (.tmp t) = .bool true from hb];rfl) ?_ (hv.1 rfl)
    rw[Env.get_put,Env.dX E t _ hb]
   |false =>
    refine .pure (v:=ev E.get y) (rd:=none) hc (by rw[hop2];simp only[dp];rw[show ev E.get (.tmp t) = .bool false from hb];rfl) ?_ (hv.2 rfl)
    rw[Env.get_put,Env.dX E t _ hb]
  ·split at hv <;> try (exact hv.elim)
   rename_i c v rd hn
   exact .pure hc (qF hn hv.1) (Env.get_put ..) hv.2
  ·split at hv <;> try (exact hv.elim)
   ·rename_i t a hop2
    split at hv <;> try (exact hv.elim)
    ·rename_i id off hp
     split at hv <;> try (exact hv.elim)
     rename_i own z cs hg
     refine .pure hc ?_ (Env.get_put ..) hv.2
     rw[hop2]
     simp only[dp,hp,jk,iP,HT.aN,hg,hv.1]
     rfl
    ·rename_i id off k hp
     split at hv <;> try (exact hv.elim)
     rename_i z cs hg
     split at hv <;> try (exact hv.elim)
     rename_i hfit
     refine .pure hc ?_ (Env.get_put ..) hv.2
     rw[hop2]
     simp only[dp,hp,jk,iP,HT.aN,hg,hfit,if_true,hv.1]
     rfl
    ·rename_i off cs hp
     refine .pure hc ?_ (Env.get_put ..) hv.2
     rw[hop2]
     simp only[dp,hp,jk,hv.1]
   ·rename_i t x i hop2
    refine .pure (rd:=none) hc ?_ (Env.get_put ..) hv.2
    rw[hop2]
    simp only[dp,hv.1]
    rfl
   ·rename_i t x i ok hop2
    split at hv <;> try (exact hv.elim)
    rename_i kt el id g1 g2
    split at hv <;> try (exact hv.elim)
    rename_i es z g3 g4 g5
    refine .pure hc ?_ (Env.get_put ..) hv.2
    rw[hop2]
    simp only[dp,iA,g1,g2,g4,g5,HT.aN,g3,hv.1]
    rfl
  ·split at hv <;> try (exact hv.elim)
   split at hv <;> try (exact hv.elim)
   rename_i v rd hp
   exact .pure hc (pi hp) (Env.get_put ..) hv
 ·rename_i hc
  split at hv
  ·split at hv <;> try (exact hv.elim)
   rename_i c v ob hn
   exact .alloc hc (po hn hv.1) hv.2
  ·split at hv <;> try (exact hv.elim)
   split at hv <;> try (exact hv.elim)
   rename_i v ob hp
   exact .alloc hc hp hv
 ·rename_i hc
  split at hv
  ·split at hv <;> try (exact hv.elim)
   rename_i c v H' ms hn
   exact .write hc (pm hn hv.1) hv.2.1 hv.2.2
  ·split at hv <;> try (exact hv.elim)
   rename_i c v hn
   exact .write hc (nz hn hv.1 H.list) hw0 hv.2
  ·split at hv <;> try (exact hv.elim)
   rename_i t m k v hop2
   split at hv <;> try (exact hv.elim)
   rename_i kt el id g1 g2
   split at hv <;> try (exact hv.elim)
   rename_i es g3 g4 g5
   refine .write (ms:=[id]) hc ?_ g5 hv.2
   rw[hop2]
   simp only[dU,iz,g1,g2,g4,HT.aN,g3,hv.1]
   simp only[HT.bB,Option.map_some]
  ·split at hv <;> try (exact hv.elim)
   split at hv <;> try (exact hv.elim)
   rename_i v H' ms hp
   split at hv <;> try (exact hv.elim)
   rename_i hw
   exact .write hc (nw hp) hw hv
 ·rename_i hc
  split at hv <;> try (exact hv.elim)
  rename_i f args ts hop2
  split at hv
  ·rename_i deps v new h'
   refine .call (Mc:=some []) hc hop2 hw0 ((oC (hv.2.1 H.list (HT.length H) (lT hv.1))).mono (fun _ h _=>h) ?_)
   rintro v2 H2 ⟨rfl,rfl⟩
   exact ⟨_,_,(gD _ _).symm,hv.2.2⟩
  ·rename_i deps v chg new h'
   split at hv <;> try (exact hv.elim)
   rename_i hw
   refine .call (Mc:=some (tU chg)) hc hop2 hw ((oC (hv.2.1 H.list (HT.length H) (lT hv.1))).mono (fun _ h _=>h) ?_)
   rintro v2 H2 ⟨rfl,rfl⟩
   exact ⟨_,_,by rw[gD,iX],hv.2.2⟩
  ·rename_i deps ids Z I v chg new h'
   split at hv <;> try (exact hv.elim)
   rename_i hw
   refine .call (Mc:=some ids) hc hop2 hw ((sW (hv.2.1 H.list (HT.length H) (lT hv.1))).mono (fun _ h _=>h) ?_)
   rintro v2 H2 ⟨x,hx,rfl,rfl⟩
   exact ⟨_,_,by rw[gD,iX],hv.2.2 x hx⟩
  ·split at hv <;> try (exact hv.elim)
   rename_i hw
   exact .call hc hop2 hw (ha _ _ _ _ _ _ hv)
  ·split at hv <;> try (exact hv.elim)
   split at hv <;> try (exact hv.elim)
   rename_i hw
   exact .call hc hop2 hw (ha _ _ _ _ _ _ hv)
 ·rename_i hc
  split at hv
  ·rename_i t x hop2
   split at hv <;> try (exact hv.elim)
   rename_i kt el id g1 g2
   split at hv <;> try (exact hv.elim)
   rename_i es h' g3 g4
   refine .iter hc fun base M _ =>?_
   rw[hop2]
   exact ⟨id,es,kt,el,g1,g2,by rw[HT.aN];exact g3,_,_,(HT.bW _ _).symm,by rw[HT.length];exact hv⟩
  ·rename_i it hop2
   split at hv <;> try (exact hv.elim)
   rename_i id g1
   split at hv <;> try (exact hv.elim)
   rename_i m n seen g2
   split at hv <;> try (exact hv.elim)
   rename_i es h1 h2 g3 g4
   refine .iter hc fun base M hM =>?_
   rw[hop2]
   exact ⟨rfl,id,m,n,seen,es,g1,by rw[HT.aN];exact g2,by rw[HT.aN];exact g3,hv.1,hM id g4,fun i hi hs=>⟨_,_,(HT.bB _ _ _).symm,hv.2.1 i hi hs⟩,fun hall=>⟨_,_,rfl,hv.2.2 hall⟩⟩
  ·rename_i it hop2
   split at hv <;> try (exact hv.elim)
   rename_i id g1
   split at hv <;> try (exact hv.elim)
   rename_i m n seen g2
   split at hv <;> try (exact hv.elim)
   rename_i es v h' g3
   refine .iter hc fun base M _ =>?_
   rw[hop2]
   exact ⟨id,m,n,seen,es,v,g1,by rw[HT.aN];exact g2,by rw[HT.aN];exact g3,hv.1,hv.2.1,_,_,rfl,hv.2.2⟩
  ·exact hv.elim
 ·exact hv.elim
theorem jA{wok:MS->Bool}{ops:Array Oper}{o:Oper}{E:Env}{H:HT}{h:Hint}{K:Env->HT->Option Nat->Hint->Prop}{nC:Env->HT->Hint->Prop}(hv:oJ P app wok dm ops o E H h K nC) :
  fX o ops E.get=true/\((cF o ops E.get=true/\∃E1 H1 h1,E1.get=E.get/\H1.list=H.list/\lX P app wok dm o E1 H1 h1 K)∨(cF o ops E.get=false/\∃E2 H1 h2,E2.get=put E.get o.dst undef/\H1.list=H.list/\nC E2 H1 h2)):=by
 unfold oJ at hv
 rw[A8,A7]at hv
 obtain ⟨E0,H0,h0,e1,e2,hv⟩:=cA hv
 rw[<- e1]
 unfold fX cF
 cases hg:o.guard with
 |none =>
  rw[hg]at hv
  exact ⟨rfl,.inl ⟨rfl,E0,H0,h0,rfl,e2,hv⟩⟩
 |some gw =>
  obtain ⟨g,want⟩:=gw
  rw[hg]at hv
  simp only at hv ⊢
  cases hd:(ops[g]?).bind (·.dst) with
  |none =>
   rw[hd]at hv
   exact ⟨rfl,.inr ⟨rfl,_,H0,h0,Env.get_put ..,e2,hv⟩⟩
  |some d =>
   rw[hd]at hv
   simp only at hv ⊢
   have off:∀{hh:Hint},nC (E0.put o.dst undef) H0 hh->∃E2 H1 h2,E2.get=put E0.get o.dst undef/\H1.list=H.list/\nC E2 H1 h2:=fun hk=>⟨_,H0,_,Env.get_put ..,e2,hk⟩
   have fork:∀b:Bool,E0.get d = .bool b->(E0.put (some d) (.bool b)).get=E0.get:=fun b hb=>Env.dX E0 d _ hb
   split at hv
   ·rename_i b hb
    rw[hb]
    refine ⟨rfl,?_⟩
    split at hv
    ·rename_i h1 h2
     cases b with
     |true =>
      have hv:=hv.1 rfl
      cases want with
      |true =>
       obtain ⟨E1,H1,h1',f1,f2,hv⟩:=cA hv
       exact .inl ⟨rfl,E1,H1,h1',f1.trans (fork _ hb),f2.trans e2,hv⟩
      |false=>exact .inr ⟨rfl,_,H0,h1,by rw[Env.get_put,fork _ hb],e2,hv⟩
     |false =>
      have hv:=hv.2 rfl
      cases want with
      |true=>exact .inr ⟨rfl,_,H0,h2,by rw[Env.get_put,fork _ hb],e2,hv⟩
      |false =>
       obtain ⟨E1,H1,h1',f1,f2,hv⟩:=cA hv
       exact .inl ⟨rfl,E1,H1,h1',f1.trans (fork _ hb),f2.trans e2,hv⟩
    ·cases b <;> cases want
     ·exact .inl ⟨rfl,E0,H0,_,rfl,e2,hv⟩
     ·exact .inr ⟨rfl,off hv⟩
     ·exact .inr ⟨rfl,off hv⟩
     ·exact .inl ⟨rfl,E0,H0,_,rfl,e2,hv⟩
   ·exact hv.elim
   ·rename_i n1 n2
    have h1:(match E0.get d with| .chan _=>false|_=>true)=true:=by
     split
     ·rename_i q;exact absurd q (n2 _)
     ·rfl
    have h2:(match E0.get d with| .bool b=>b == want|_=>false)=false:=by
     split
     ·rename_i q;exact absurd q (n1 _)
     ·rfl
    exact ⟨h1,.inr ⟨h2,off hv⟩⟩
theorem Az(base n:Nat)(M:MS)(bs:List Nat)(i:Nat)(log:List (Nat×Option Nat))(m:Nat):(pM base n M (some [])&&mw bs i log (MS.list (some []) m))=true:=by
 rw[Bool.and_eq_true]
 constructor
 ·unfold pM lF;cases M <;> rfl
 ·unfold mw
  rw[List.all_eq_true]
  intro p _
  cases p.2 <;> simp[MS.list,kx]
theorem Ay(base n:Nat)(M:MS):pM base n M (some [])=true:=by unfold pM lF;cases M <;> rfl
theorem eM{base:Nat}{M:MS}:∀{ts:List Nat} {E:Env} {H:HT} {k:Env->HT->Prop},l0 base M ts E H k->∃E2 H2,bR P base (M.list base) E.get H.list E2.get H2.list/\k E2 H2
 | [],E,H,k,hv=>⟨E,H,bR.refl,hv⟩
 |t :: ts,E,H,k,hv=>by
  unfold l0 at hv
  split at hv <;> try (exact hv.elim)
  ·rename_i id tag n cap hT
   split at hv <;> try (exact hv.elim)
   rename_i hw
   split at hv <;> try (exact hv.elim)
   rename_i z cs hg
   simp only[Bool.and_eq_true]at hw
   obtain ⟨E2,H2,g,hk⟩:=eM hv
   refine ⟨E2,H2,bR.trans (bR.freeze (cs:=cs) (z:=z) hT (tag:=tag) ?_ (by rw[HT.aN];exact hg) (fun hb=>dO hw.2 id (List.mem_cons_self ..) hb)) ?_,hk⟩
   ·have:=hw.1
    split at this
    ·exact .inl rfl
    ·exact .inr (congrArg some (Nat.eq_of_beq_eq_true this))
   ·rwa [Env.get_put,HT.bB]at g
  ·rename_i n cs hT
   obtain ⟨E2,H2,g,hk⟩:=eM hv
   refine ⟨E2,H2,bR.trans (bR.read (n:=n) (cs:=cs) hT) ?_,hk⟩
   rw[Env.get_put,HT.bW]at g
   rw[HT.length];exact g
  ·rename_i vs hT
   split at hv <;> try (exact hv.elim)
   ·rename_i i id tag n cap hi
    split at hv <;> try (exact hv.elim)
    rename_i hw
    split at hv <;> try (exact hv.elim)
    rename_i z cs hg
    simp only[Bool.and_eq_true]at hw
    obtain ⟨E2,H2,g,hk⟩:=eM hv
    refine ⟨E2,H2,bR.trans (bR.ye (cs:=cs) (z:=z) hT (jy hi).2 (tag:=tag) ?_ (by rw[HT.aN];exact hg) (fun hb=>dO hw.2 id (List.mem_cons_self ..) hb)) ?_,hk⟩
    ·have:=hw.1
     split at this
     ·exact .inl rfl
     ·exact .inr (congrArg some (Nat.eq_of_beq_eq_true this))
    ·rwa [Env.get_put,HT.bB]at g
   ·rename_i i n cs hi
    obtain ⟨E2,H2,g,hk⟩:=eM hv
    refine ⟨E2,H2,bR.trans (bR.AG (n:=n) (cs:=cs) hT (jy hi).2) ?_,hk⟩
    rw[Env.get_put,HT.bW]at g
    rw[HT.length];exact g
theorem tg{A F k d:Nat}:∀(ts:List Nat) (E:Env),(tfE A F k d ts E).get=tfT A F k d ts E.get
 | [],E=>rfl
 |t :: ts,E=>by unfold tfE tfT;rw[tg ts,Env.get_put]
theorem nF{A F k d:Nat}:∀(bs:List Nat) (H:HT),(xE A F k d bs H).list=tfH A F k d bs H.list
 | [],H=>rfl
 |b :: bs,H=>by
  unfold xE tfH
  rw[nF bs,HT.aN]
  cases H.get b with
  |none=>rfl
  |some o=>cases o <;> first|rfl|(simp only[HT.bB])
theorem kS{base:Nat}{M:MS}{kk d:Nat}{ts bs:List Nat}:∀{l:List (Nat×Nat)} {E:Env} {H:HT} {k:Env->HT->Prop},te base M kk d ts bs l E H k->∃E2 H2,bR P base (M.list base) E.get H.list E2.get H2.list/\k E2 H2
 | [],E,H,k,hv=>⟨E,H,bR.refl,hv⟩
 |(A,F) :: l,E,H,k,hv=>by
  unfold te at hv
  split at hv <;> try (exact hv.elim)
  rename_i hw
  split at hv <;> try (exact hv.elim)
  rename_i zA cs hA
  split at hv <;> try (exact hv.elim)
  rename_i z ms hF
  obtain ⟨⟨h1,h2,h3⟩,hv⟩:=hv
  have hM:=dO hw
  obtain ⟨E2,H2,g,hk⟩:=kS hv
  refine ⟨E2,H2,bR.trans (bR.fam (A:=A) (F:=F) (k:=kk) (d:=d) (ts:=ts) (bs:=bs) (by rw[HT.aN];exact hA) (by rw[HT.aN];exact hF) h1 h2 h3 (fun h=>hM A (by simp) h) (fun h=>hM F (by simp) h) (fun b hb h=>hM b (by simp[hb]) h)) ?_,hk⟩
  rw[tg,nF,HT.bB,HT.bB]at g
  exact g
theorem lY{base:Nat}{M:MS}{E:Env}:∀(zs:List Nat) (H:HT),bR P base (M.list base) E.get H.list E.get (yZ zs H).list
 | [],H=>bR.refl
 |z :: zs,H=>by
  have:=lY (base:=base) (M:=M) (E:=E) zs (H.push (.fam z []))
  rw[HT.bW]at this
  exact (bR.qq z).trans this
theorem fN{base:Nat}{M:MS}{T:Tm}:∀{l:List Af} {H:HT} {k:HT->Prop},lW base M l H k->∃H2,bR P base (M.list base) T H.list T H2.list/\k H2
 | [],H,k,hv=>⟨H,bR.refl,hv⟩
 | .new z :: l,H,k,hv=>by
  obtain ⟨H2,g,hk⟩:=fN (l:=l) hv
  refine ⟨H2,bR.trans (fun B J w N tmps h1 h2 h3=>⟨J,Post.vT h1 h2 (.fam 0 [.int .i64 (z:Int)]),h3⟩) ?_,hk⟩
  rwa [HT.bW]at g
 | .take hd t F k n z row :: l,H,kk,hv=>by
  unfold lW at hv
  split at hv <;> try (exact hv.elim)
  rename_i hw
  split at hv <;> try (exact hv.elim)
  rename_i zh hs hhd
  split at hv <;> try (exact hv.elim)
  rename_i ms hF
  obtain ⟨⟨c1,c2,c3,c4⟩,hv⟩:=hv
  have hM:=dO hw
  obtain ⟨H2,g,hk⟩:=fN (l:=l) hv
  refine ⟨H2,bR.trans (bR.take (hd:=hd) (zh:=zh) (t:=t) (F:=F) (k:=k) (n:=n) (z:=z) (hs:=hs) (ms:=ms) (row:=row) (by rw[HT.aN];exact hhd) (by rw[HT.aN];exact hF) c1 c2 c3 c4 (fun h=>hM hd (by simp) h) (fun h=>hM F (by simp) h)) ?_,hk⟩
  rw[HT.bB,HT.bW,HT.bB,<- HT.length]at g
  exact g
 | .give hd t F A k n z q :: l,H,kk,hv=>by
  unfold lW at hv
  split at hv <;> try (exact hv.elim)
  rename_i hw
  split at hv <;> try (exact hv.elim)
  rename_i zh hs hhd
  split at hv <;> try (exact hv.elim)
  rename_i ms hF
  split at hv <;> try (exact hv.elim)
  rename_i z' row hA
  split at hv <;> try (exact hv.elim)
  rename_i hzz
  have hzz:=Nat.eq_of_beq_eq_true hzz
  subst hzz
  obtain ⟨⟨c1,c2,c3,c4,c5,c6⟩,hv⟩:=hv
  rw[Bool.and_eq_true]at hw
  have hM:=dO hw.1
  have hne:A≠hd:=fun e=>by rw[e,Nat.beq_refl]at hw;exact absurd hw.2 (by decide)
  obtain ⟨H2,g,hk⟩:=fN (l:=l) hv
  refine ⟨H2,bR.trans (bR.give (hd:=hd) (zh:=zh) (t:=t) (F:=F) (A:=A) (k:=k) (n:=n) (hs:=hs) (ms:=ms) (row:=row) (tag:=match q with|true=>some 1|false=>none) (by rw[HT.aN];exact hhd) (by rw[HT.aN];exact hF) (by rw[HT.aN];exact hA) c1 ?_ c3 c4 c5 c6 (fun h=>hM hd (by simp) h) (fun h=>hM F (by simp) h) (fun h=>hM A (by simp) h) hne) ?_,hk⟩
  ·cases q with
   |true=>exact .inl rfl
   |false=>exact .inr ⟨rfl,c2.resolve_left (by decide)⟩
  ·rw[HT.bB,HT.bB,HT.bB]at g
   exact g
theorem lZ{base:Nat}{M:MS}{h:Hint}{E:Env}{H:HT}{k:Env->HT->Hint->Prop}(hv:vD base M h E H k):∃E2 H2 h2,bR P base (M.list base) E.get H.list E2.get H2.list/\k E2 H2 h2:=by
 unfold vD at hv
 split at hv
 ·obtain ⟨E2,H2,g,hk⟩:=eM hv;exact ⟨E2,H2,_,g,hk⟩
 ·exact ⟨E,_,_,lY _ _,hv⟩
 ·obtain ⟨E2,H2,g,hk⟩:=kS hv;exact ⟨E2,H2,_,g,hk⟩
 ·obtain ⟨H2,g,hk⟩:=fN hv;exact ⟨E,H2,_,g,hk⟩
 ·exact ⟨E,H,_,bR.refl,hv⟩
theorem rO(ha:jz P app){base n:Nat}{M:MS}{ops:Array Oper}:∀{os:List Oper} {E:Env} {H:HT} {h:Hint} {K:Env->HT->Hint->Prop},vC P app base n M dm ops os E H h K ->
  s5 P base (M.list base) ops os E.get H.list (fun T H' => ∃E2 H2 h2,T=E2.get/\H'=H2.list/\K E2 H2 h2):=by
 intro os
 induction os with
 |nil=>intro E H h K hv;exact ⟨E,H,h,rfl,rfl,hv⟩
 |cons o os ih =>
  intro E H h K hv
  simp only[vC]at hv
  obtain ⟨E0,H0,h0,hgh,hv⟩:=lZ (P:=P) hv
  obtain ⟨hkn,hv⟩:=jA hv
  simp only[s5]
  refine ⟨_,_,hgh,hkn,?_⟩
  rcases hv with ⟨hw,E1,H1,h1,e1,e2,hv⟩|⟨hw,E2,H1,h2,e1,e2,hv⟩
  ·rw[hw,if_pos rfl]
   have hn:=HT.n_eq e2
   rw[<- e1,<- e2]
   unfold uw
   rcases iO ha (by first|exact Ay .. |exact Az ..) hv with ⟨hc,hp,he,hk⟩|⟨hc,hp,hk⟩|⟨hc,hp,hwk,hk⟩|⟨hc,hop,hwk,hcall⟩|⟨hc,hk⟩
   ·rw[hc];exact ⟨_,_,hp,by have:=ih hk;rw[he]at this;exact this⟩
   ·rw[hc];exact ⟨_,_,by rw[HT.length];exact hp,by have:=ih hk;rw[Env.get_put,HT.bW]at this;exact this⟩
   ·rw[hc];exact ⟨_,_,_,hp,fun id hid hb=>fc (n:=H1.n) (Mc:=some _) (by rw[hn];exact hwk) id hid hb,by have:=ih hk;rw[Env.get_put]at this;exact this⟩
   ·rw[hc,hop]
    refine ⟨_,hcall.mono (fun _ h _=>h) ?_,fun id hid hb=>fc (n:=H1.n) (by rw[hn];exact hwk) id hid hb⟩
    rintro v H' ⟨H2,h2,rfl,hk⟩
    rw[<- Env.get_put];exact ih hk
   ·rw[hc]
    refine kh.mono (hk base (M.list base) fun id hw hb=>fc (n:=H1.n) (Mc:=some [id]) (by rw[hn];exact hw) id (List.mem_singleton.2 rfl) hb) ?_
    rintro v H' ⟨H2,h2,rfl,hk⟩
    rw[<- Env.get_put];exact ih hk
  ·rw[hw,if_neg (by simp)]
   rw[<- e1,<- e2]
   exact ih hv
theorem pP(ha:jz P app){base:Nat}{M:MS}{bs:List Nat}{ops:Array Oper}:∀{is:List Nat} {E:Env} {H:HT} {log:List (Nat×Option Nat)} {h:Hint} {K:Env->HT->Hint->Prop},pQ P app base M dm bs ops is E H log h K ->
  gA P base (M.list base) bs ops is E.get H.list log (fun T H' => ∃E2 H2 h2,T=E2.get/\H'=H2.list/\K E2 H2 h2):=by
 intro is
 induction is with
 |nil=>intro E H log h K hv;exact ⟨E,H,h,rfl,rfl,hv⟩
 |cons i is ih =>
  intro E H log h K hv
  simp only[pQ]at hv
  simp only[gA]
  split at hv <;> try (exact hv.elim)
  rename_i o ho
  simp only[ho]
  split at hv
  ·exact hv.elim
  rename_i hni
  obtain ⟨hkn,hv⟩:=jA hv
  refine ⟨hkn,?_⟩
  rcases hv with ⟨hw,E1,H1,h1,e1,e2,hv⟩|⟨hw,E2,H1,h2,e1,e2,hv⟩
  ·rw[hw,if_pos rfl]
   have hn:=HT.n_eq e2
   rw[<- e1,<- e2]
   unfold pI
   rcases iO ha (by first|exact Ay .. |exact Az ..) hv with ⟨hc,hp,he,hk⟩|⟨hc,hp,hk⟩|⟨hc,hp,hwk,hk⟩|⟨hc,hop,hwk,hcall⟩|⟨hc,hk⟩
   ·rw[hc]at hk ⊢;exact ⟨_,_,hp,by have:=ih hk;rw[he]at this;exact this⟩
   ·rw[hc]at hk ⊢
    refine ⟨_,_,by rw[HT.length];exact hp,?_⟩
    have:=ih hk
    rw[Env.get_put,HT.bW]at this
    rw[HT.length]
    exact this
   ·simp only[Bool.and_eq_true]at hwk
    rw[hc]at hk ⊢
    exact ⟨_,_,_,hp,fun id hid hb=>fc (n:=H1.n) (Mc:=some _) (by rw[hn];exact hwk.1) id hid hb,la hwk.2,by have:=ih hk;rw[Env.get_put]at this;exact this⟩
   ·simp only[Bool.and_eq_true]at hwk
    rw[hc]at hcall ⊢
    rw[hop]
    refine ⟨_,hcall.mono (fun _ h _=>h) ?_,fun id hid hb=>fc (n:=H1.n) (by rw[hn];exact hwk.1) id hid hb,la (by rw[hn];exact hwk.2)⟩
    rintro v H' ⟨H2,h2,rfl,hk⟩
    rw[<- Env.get_put];exact ih hk
   ·exact (hni hc).elim
  ·rw[hw,if_neg (by simp)]
   rw[<- e1,<- e2]
   exact ih hv
end
theorem ip{a b:Nat}(h:Nat.blt a b=true):a<b:=by rw[Nat.blt_eq]at h;exact h
theorem Ac{a b:Nat}(h:a<b):Nat.blt a b=true:=by rw[Nat.blt_eq];exact h
theorem sT{a b:Nat}(h:b<=a):Nat.blt a b=false:=by
 cases hb:Nat.blt a b with
 |false=>rfl
 |true=>have:=ip hb;omega
theorem oh(l:List (Nat×Value))(t:Nat):(ie l).get t=junk∨∃v,(t,v)∈l/\(ie l).get t=v:=by
 have key:∀(l:List (Nat×Value)) (E:Env),(l.foldl (fun E p=>E.put (some p.1) p.2) E).get t=E.get t∨∃v,(t,v)∈l/\(l.foldl (fun E p=>E.put (some p.1) p.2) E).get t=v:=by
  intro l
  induction l with
  |nil=>intro E;exact .inl rfl
  |cons p l ih =>
   intro E
   rcases ih (E.put (some p.1) p.2) with h|⟨v,h1,h2⟩
   ·rw[List.foldl_cons,h,Env.get_put]
    simp only[put,upd]
    by_cases e:t=p.1
    ·right;subst e;exact ⟨p.2,List.mem_cons_self ..,by simp⟩
    ·left;simp[e]
   ·right;exact ⟨v,List.mem_cons_of_mem _ h1,h2⟩
 rcases key l ⟨fun _=>junk,.leaf⟩ with h|h
 ·left;unfold ie;rw[h];rfl
 ·right;exact h
theorem gZ{T:Tm}{U:Nat->Option Nat}{d:Nat}:∀{l:List (Nat×Value)},hB T U d l->∀t v,(t,v)∈l->wk (T t) (rn U d v)
 | [],_,t,v,h=>by cases h
 |(t',v') :: r,h,t,v,hm=>by
  rcases List.mem_cons.1 hm with e|hm
  ·cases e
   have h1:=h.1
   split at h1
   ·exact h1
   ·exact vz h1
  ·exact gZ h.2 t v hm
theorem mt:∀(lp:List (Nat×List (Nat×Value))) (H:HT) (id:Nat),
  (lp.foldl cZ H).n=H.n/\((∃p∈lp,p.1=id/\∃st pe tm N ps as bd,H.get id=some (.loop st pe tm N ps as bd)/\(lp.foldl cZ H).get id=some (.loop st pe (ie p.2).get N ps as bd)) ∨
   ((∀p∈lp,p.1=id->∀st pe tm N ps as bd,H.get id≠some (.loop st pe tm N ps as bd))/\(lp.foldl cZ H).get id=H.get id)):=by
 intro lp
 induction lp with
 |nil=>intro H id;exact ⟨rfl,.inr ⟨fun _ h=>(by cases h),rfl⟩⟩
 |cons p lp ih =>
  intro H id
  have step:(cZ H p).n=H.n/\((p.1=id/\∃st pe tm N ps as bd,H.get id=some (.loop st pe tm N ps as bd)/\(cZ H p).get id=some (.loop st pe (ie p.2).get N ps as bd))∨((p.1=id->∀st pe tm N ps as bd,H.get id≠some (.loop st pe tm N ps as bd))/\(cZ H p).get id=H.get id)):=by
   unfold cZ
   split
   ·rename_i st pe tm N ps as bd hg
    refine ⟨rfl,?_⟩
    by_cases e:p.1=id
    ·left
     refine ⟨e,st,pe,tm,N,ps,as,bd,e ▸ hg,?_⟩
     rw[<- HT.aN,HT.bB,List.getElem?_set,if_pos e]
     have hlt:p.1<H.list.length:=by
      rw[<- HT.aN]at hg
      exact (List.getElem?_eq_some_iff.1 hg).1
     rw[if_pos hlt]
    ·right
     refine ⟨fun h=>absurd h e,?_⟩
     rw[<- HT.aN,HT.bB,List.getElem?_set,if_neg e,HT.aN]
   ·rename_i hn
    exact ⟨rfl,.inr ⟨fun e st pe tm N ps as bd h=>hn st pe tm N ps as bd (e ▸ h),rfl⟩⟩
  obtain ⟨h1,h2⟩:=ih (cZ H p) id
  refine ⟨h1.trans step.1,?_⟩
  rcases h2 with ⟨q,q1,q2,st,pe,tm,N,ps,as,bd,q3,q4⟩|⟨q1,q2⟩
  ·left
   refine ⟨q,List.mem_cons_of_mem _ q1,q2,st,pe,?_⟩
   rcases step.2 with ⟨_,st',pe',tm',N',ps',as',bd',s3,s4⟩|⟨_,s4⟩
   ·rw[s4]at q3;cases q3
    exact ⟨tm',N,ps,as,bd,s3,q4⟩
   ·rw[s4]at q3
    exact ⟨tm,N,ps,as,bd,q3,q4⟩
  ·rcases step.2 with ⟨s1,st',pe',tm',N',ps',as',bd',s3,s4⟩|⟨s1,s4⟩
   ·left
    exact ⟨p,List.mem_cons_self ..,s1,st',pe',tm',N',ps',as',bd',s3,by rw[List.foldl_cons,q2,s4]⟩
   ·right
    refine ⟨fun q hq e st pe tm N ps as bd h =>?_,by rw[List.foldl_cons,q2,s4]⟩
    rcases List.mem_cons.1 hq with rfl|hq
    ·exact s1 e st pe tm N ps as bd h
    ·exact q1 q hq e st pe tm N ps as bd (by rw[s4];exact h)
theorem mu{H H0:HT}{U:Nat->Option Nat}{d:Nat}:∀{lp:List (Nat×List (Nat×Value))},zp H H0 U d lp->∀p∈lp,
  ∃tm N ps as bd tm',H0.get p.1=some (.loop .ready none tm N ps as bd)/\H.get p.1=some (.loop .ready none tm' N ps as bd)/\hB tm' U d p.2
 | [],_,p,h=>by cases h
 |(L,sl) :: r,h,p,hm=>by
  rcases List.mem_cons.1 hm with rfl|hm
  ·have h1:=h.1
   split at h1
   ·rename_i tm N ps as bd tm' N' ps' as' bd' g1 g2
    obtain ⟨⟨rfl,rfl,rfl,rfl⟩,h2⟩:=h1
    exact ⟨tm,N,ps,as,bd,tm',g1,g2,h2⟩
   ·exact h1.elim
  ·exact mu h.2 p hm
theorem mv{V:Nat}{ML:List Nat}{chg:List (Nat×Bool×aa)}:∀{lp:List (Nat×List (Nat×Value))},wa V ML chg lp=true->∀p∈lp,p.1∈ML/\p.1<V
 | [],_,p,h=>by cases h
 |q :: r,h,p,hm=>by
  unfold wa at h
  cases h1:kx q.1 ML with
  |false=>rw[h1]at h;cases h
  |true =>
   rw[h1,cond_true]at h
   cases h2:Nat.blt q.1 V with
   |false=>rw[h2]at h;cases h
   |true =>
    rw[h2,cond_true]at h
    cases h3:(chg.any fun x=>Nat.beq x.1 q.1) with
    |true=>rw[h3]at h;cases h
    |false =>
     rw[h3,cond_false]at h
     cases h4:(r.any fun x=>Nat.beq x.1 q.1) with
     |true=>rw[h4]at h;cases h
     |false =>
      rw[h4,cond_false]at h
      rcases List.mem_cons.1 hm with rfl|hm
      ·exact ⟨gu h1,ip h2⟩
      ·exact mv h p hm
theorem sd{id:Nat}{chg:List (Nat×Bool×aa)}(h:jh id chg=true):(∃p∈chg,p.1=id)/\∀p∈chg,p.1=id->p.2.2 = .dead:=by
 unfold jh at h
 cases h1:(chg.any fun p=>Nat.beq p.1 id) with
 |false=>rw[h1]at h;cases h
 |true =>
  rw[h1,cond_true]at h
  rw[List.any_eq_true]at h1
  obtain ⟨p,p1,p2⟩:=h1
  refine ⟨⟨p,p1,Nat.eq_of_beq_eq_true p2⟩,fun q hq e =>?_⟩
  rw[List.all_eq_true]at h
  have:=h q hq
  rw[show Nat.beq q.1 id=true by rw[e];exact Nat.beq_refl _,cond_true]at this
  split at this
  ·assumption
  ·cases this
theorem iF:∀(chg:List (Nat×Bool×aa)) (H:HT) (id:Nat),(∀p∈chg,p.1<H.n) ->
  (chg.foldl (fun H p=>H.set p.1 p.2.2) H).n=H.n/\((∃p∈chg,p.1=id/\(chg.foldl (fun H p=>H.set p.1 p.2.2) H).get id=some p.2.2)∨((∀p∈chg,p.1≠id)/\(chg.foldl (fun H p=>H.set p.1 p.2.2) H).get id=H.get id)):=by
 intro chg
 induction chg with
 |nil=>intro H id _;exact ⟨rfl,.inr ⟨fun _ h=>(by cases h),rfl⟩⟩
 |cons p chg ih =>
  intro H id hlt
  obtain ⟨h1,h2⟩:=ih (H.set p.1 p.2.2) id (fun q hq=>hlt q (List.mem_cons_of_mem _ hq))
  refine ⟨h1,?_⟩
  rcases h2 with ⟨q,q1,q2,q3⟩|⟨q1,q2⟩
  ·exact .inl ⟨q,List.mem_cons_of_mem _ q1,q2,q3⟩
  ·rw[List.foldl_cons,q2,<- HT.aN,HT.bB,List.getElem?_set]
   by_cases e:p.1=id
   ·left
    refine ⟨p,List.mem_cons_self ..,e,?_⟩
    rw[if_pos e,if_pos (by rw[HT.length];exact e ▸ hlt p (List.mem_cons_self ..))]
   ·right
    rw[if_neg e,HT.aN]
    exact ⟨fun q hq=>by rcases List.mem_cons.1 hq with rfl|hq;exact e;exact q1 q hq,rfl⟩
theorem lO:∀(new:List (Bool×aa)) (H:HT) (id:Nat),
  (new.foldl (fun H p=>H.push p.2) H).n=H.n+new.length/\(id<H.n->(new.foldl (fun H p=>H.push p.2) H).get id=H.get id) /\
  (∀o,H.n<=id->(new.foldl (fun H p=>H.push p.2) H).get id=some o->∃p,new[id-H.n]?=some p/\p.2=o):=by
 intro new
 induction new with
 |nil =>
  intro H id
  refine ⟨rfl,fun _=>rfl,fun o h1 h2 =>?_⟩
  have h2':H.get id=some o:=h2
  rw[<- HT.aN,List.getElem?_eq_none (by rw[HT.length];exact h1)]at h2'
  cases h2'
 |cons p new ih =>
  intro H id
  obtain ⟨h1,h2,h3⟩:=ih (H.push p.2) id
  have hpn:(H.push p.2).n=H.n+1:=rfl
  have hget:∀i,i<=H.n->(H.push p.2).get i=if i=H.n then some p.2 else H.get i:=by
   intro i hi
   rw[<- HT.aN,HT.bW,<- HT.aN]
   by_cases e:i=H.n
   ·rw[if_pos e,List.getElem?_append_right (by rw[HT.length];omega),HT.length,e];simp
   ·rw[if_neg e,List.getElem?_append_left (by rw[HT.length];omega)]
  refine ⟨by rw[List.foldl_cons,h1,hpn,List.length_cons];omega,fun hlt =>?_,fun o hge ho =>?_⟩
  ·rw[List.foldl_cons,h2 (by rw[hpn];omega),hget id (by omega),if_neg (by omega)]
  ·rw[List.foldl_cons]at ho
   by_cases e:id=H.n
   ·rw[h2 (by rw[hpn];omega),hget id (by omega),if_pos e]at ho
    cases ho
    exact ⟨p,by rw[e];simp,rfl⟩
   ·obtain ⟨q,q1,q2⟩:=h3 o (by rw[hpn];omega) ho
    refine ⟨q,?_,q2⟩
    rw[hpn]at q1
    have:id-H.n=(id-(H.n+1))+1:=by omega
    rw[this,List.getElem?_cons_succ];exact q1
theorem kK{V:Nat}{ML:List Nat}:∀{chg:List (Nat×Bool×aa)},rp V ML chg=true->∀p∈chg,p.1∈ML/\p.1<V
 | [],_,p,h=>by cases h
 |q :: r,h,p,hm=>by
  unfold rp at h
  cases h1:kx q.1 ML with
  |false=>rw[h1]at h;cases h
  |true =>
   rw[h1,cond_true]at h
   cases h2:Nat.blt q.1 V with
   |false=>rw[h2]at h;cases h
   |true =>
    rw[h2,cond_true]at h
    rcases List.mem_cons.1 hm with rfl|hm
    ·exact ⟨gu h1,ip h2⟩
    ·exact kK h p hm
theorem kM{chg:List (Nat×Bool×aa)}{lp:List (Nat×List (Nat×Value))}:∀{ML:List Nat},allIn chg lp ML=true->∀id∈ML,(∃p∈chg,p.1=id)∨(∃p∈lp,p.1=id)
 | [],_,id,h=>by cases h
 |i :: r,h,id,hm=>by
  unfold allIn at h
  have one:∀{β:Type} (l:List (Nat×β)),(l.any fun p=>Nat.beq p.1 i)=true->∃p∈l,p.1=i:=by
   intro β l h1
   rw[List.any_eq_true]at h1
   obtain ⟨p,p1,p2⟩:=h1
   exact ⟨p,p1,Nat.eq_of_beq_eq_true p2⟩
  cases h1:(chg.any fun p=>Nat.beq p.1 i) with
  |false =>
   rw[h1,cond_false]at h
   cases h2:(lp.any fun p=>Nat.beq p.1 i) with
   |false=>rw[h2]at h;cases h
   |true =>
    rw[h2,cond_true]at h
    rcases List.mem_cons.1 hm with rfl|hm
    ·exact .inr (one _ h2)
    ·exact kM h id hm
  |true =>
   rw[h1,cond_true,cond_true]at h
   rcases List.mem_cons.1 hm with rfl|hm
   ·exact .inl (one _ h1)
   ·exact kM h id hm
theorem nX{id b:Nat}:∀{U:List (Nat×Nat)},tI id U=some b->(id,b)∈U
 | [],h=>by cases h
 |(x,y) :: r,h=>by
  unfold tI at h
  cases h1:Nat.beq id x with
  |true=>rw[h1,cond_true]at h;cases h;rw[Nat.eq_of_beq_eq_true h1];exact List.mem_cons_self ..
  |false=>rw[h1,cond_false]at h;exact List.mem_cons_of_mem _ (nX h)
theorem ml{k:Nat×Nat}:∀{U:List (Nat×Nat)},qp k U=true->∀q∈U,k.1≠q.1/\k.2≠q.2
 | [],_,q,h=>by cases h
 |p :: r,h,q,hm=>by
  unfold qp at h
  cases h1:Nat.beq k.1 p.1 with
  |true=>rw[h1]at h;cases h
  |false =>
   rw[h1,cond_false]at h
   cases h2:Nat.beq k.2 p.2 with
   |true=>rw[h2]at h;cases h
   |false =>
    rw[h2,cond_false]at h
    rcases List.mem_cons.1 hm with rfl|hm
    ·exact ⟨fun e=>(by rw[e,Nat.beq_refl]at h1;cases h1),fun e=>(by rw[e,Nat.beq_refl]at h2;cases h2)⟩
    ·exact ml h q hm
theorem nH{V n:Nat}{chg:List (Nat×Bool×aa)}:∀{U:List (Nat×Nat)},uM V n chg U=true->(∀p∈U,V<=p.1/\p.1<n/\(V<=p.2∨jh p.2 chg=true))/\(∀p∈U,∀q∈U,p.2=q.2->p.1=q.1)
 | [],_=>⟨fun _ h=>(by cases h),fun _ h=>(by cases h)⟩
 |p :: r,h=>by
  unfold uM at h
  cases h1:Nat.ble V p.1 with
  |false=>rw[h1]at h;cases h
  |true =>
  rw[h1,cond_true]at h
  cases h2:Nat.blt p.1 n with
  |false=>rw[h2]at h;cases h
  |true =>
  rw[h2,cond_true]at h
  cases h3:(cond (Nat.ble V p.2) true (jh p.2 chg)) with
  |false=>rw[h3]at h;cases h
  |true =>
  rw[h3,cond_true]at h
  have h3':V<=p.2∨jh p.2 chg=true:=by
   cases h5:Nat.ble V p.2 with
   |true=>exact .inl (Nat.le_of_ble_eq_true h5)
   |false=>rw[h5,cond_false]at h3;exact .inr h3
  cases h4:qp p r with
  |false=>rw[h4]at h;cases h
  |true =>
  rw[h4,cond_true]at h
  obtain ⟨k1,k2⟩:=nH h
  have hn:=ml h4
  refine ⟨fun q hq =>?_,fun a ha b hb e =>?_⟩
  ·rcases List.mem_cons.1 hq with rfl|hq
   ·exact ⟨Nat.le_of_ble_eq_true h1,ip h2,h3'⟩
   ·exact k1 q hq
  ·rcases List.mem_cons.1 ha with ea|ha'
   ·rcases List.mem_cons.1 hb with eb|hb'
    ·rw[ea,eb]
    ·exact absurd (by rw[<- ea];exact e) (hn b hb').2
   ·rcases List.mem_cons.1 hb with eb|hb'
    ·exact absurd (by rw[<- eb];exact e.symm) (hn a ha').2
    ·exact k2 a ha' b hb' e
theorem ov{H:HT}{V d:Nat}{U:Nat->Option Nat}:∀{chg:List (Nat×Bool×aa)},w6 H V U d chg->∀p∈chg,nQ H V U d p.1 p.2.1 p.2.2
 | [],_,p,h=>by cases h
 |(id,pl,o) :: r,h,p,hm=>by
  rcases List.mem_cons.1 hm with rfl|hm
  ·exact h.1
  ·exact ov h.2 p hm
theorem nS{H:HT}{V d:Nat}{U:Nat->Option Nat}:∀{new:List (Bool×aa)} {id:Nat},qr H V U d id new->∀i p,new[i]?=some p->nQ H V U d (id+i) p.1 p.2
 | [],_,_,i,p,h=>by simp at h
 |(pl,o) :: r,id,h,i,p,hm=>by
  cases i with
  |zero=>simp at hm;subst hm;exact h.1
  |succ i =>
   have:=nS h.2 i p (by simpa using hm)
   have e:Nat.succ id+i=id+(i+1):=by omega
   rw[e]at this;exact this
theorem mj{H:HT}{V d:Nat}{U:Nat->Option Nat}{id id':Nat}{pl:Bool}{o:aa}(hold:∀i,i<V->U i=some i)(h:nQ H V U d id pl o)(hs:U id=some id') :
  o = .dead∨(∃o',H.list[id']?=some o'/\o'.owned=o.owned/\o'.alive=o.alive/\(∀(J ρ':Ren) (r:RI) (w:World),nh U J ρ'->bD ρ' r o' w->bD J r o w)/\(∀z cs,o = .fam z cs->∃cs',o' = .fam z cs'/\cs'.length=cs.length/\(∀(i:Nat) (v v':Value),cs[i]?=some v->cs'[i]?=some v'->∀(J ρ':Ren) (x:Value),nh U J ρ'->VR ρ' v' x->VR J v x)/\(z=0->iq cs cs'))):=by
 have main:∀o:aa,(rno U d o = .dead->o = .dead)->(match U id with|some id'=>cond pl (H.get id'=some o/\ah V o=true) (match H.get id' with|some o'=>wkO o' (rno U d o)|none=>False)|none=>True) ->
   ∃o',H.list[id']?=some o'/\o'.owned=o.owned/\o'.alive=o.alive/\(∀(J ρ':Ren) (r:RI) (w:World),nh U J ρ'->bD ρ' r o' w->bD J r o w)/\(∀z cs,o = .fam z cs->∃cs',o' = .fam z cs'/\cs'.length=cs.length/\(∀(i:Nat) (v v':Value),cs[i]?=some v->cs'[i]?=some v'->∀(J ρ':Ren) (x:Value),nh U J ρ'->VR ρ' v' x->VR J v x)/\(z=0->iq cs cs')):=by
  intro o hd h
  rw[hs]at h
  simp only at h
  cases pl with
  |true=>exact ⟨o,by rw[HT.aN];exact h.1,rfl,rfl,fun J ρ' r w hS hr=>ng (fun i r hi a=>hS.f i i r (hold i hi) a) hS.m h.2 hr,fun z cs e=>⟨cs,e,rfl,fun i v v' a b J ρ' x hS hv=>(by
    rw[a]at b;cases b
    have hb:=h.2
    rw[e]at hb
    simp only[ah,List.all_eq_true]at hb
    exact br (fun i r hi a=>hS.f i i r (hold i hi) a) hS.m (hb v (List.mem_of_getElem? a)) hv),fun _=>jF cs⟩⟩
  |false =>
   obtain ⟨a,b⟩:=nM U d o hd
   rw[cond_false]at h
   split at h
   ·rename_i o2 hg
    exact ⟨o2,by rw[HT.aN];exact hg,h.1.symm.trans a,h.2.1.symm.trans b,fun J ρ' r w hS hr=>oU hS.f hS.m hS.g (h.2.2.1 _ _ _ hr) hd,fun z cs e=>by
     obtain ⟨cs0,e0,hl,hw,ht⟩:=h.2.2.2 z (cs.map (rn U d)) (by rw[e];rfl)
     refine ⟨cs0,e0,by rw[hl,List.length_map],fun i v v' a b J ρ' x hS hv=>jG hS.f hS.m hS.g d (hw i v' (rn U d v) b (by rw[List.getElem?_map,a];rfl) _ _ hv),fun hz k n hk =>?_⟩
     have:=ht hz k n hk
     rw[List.getElem?_map]at this
     obtain ⟨v,e1,e2⟩:=bv this
     rw[e1,zi e2]⟩
   ·exact h.elim
 cases o with
 |dead=>exact .inl rfl
 |loop _ _ _ _ _ _ _=>exact h.elim
 |cells own z cs=>exact .inr (main _ (by intro h;cases h) h)
 |map es=>exact .inr (main _ (by intro h;cases h) h)
 |iter m n s =>
  unfold nQ at h
  rw[hs]at h
  exact .inr ⟨.iter m n s,by rw[HT.aN];exact h.1,rfl,rfl,fun J ρ' r w hS hr=>ng (fun i r hi a=>hS.f i i r (hold i hi) a) hS.m h.2 hr,fun z cs e=>by cases e⟩
 |fam z cs=>exact .inr (main _ (by intro h;cases h) h)
theorem gM{N d:Nat}{E:Env}{H H0:HT}{ML:List Nat}{U:List (Nat×Nat)}{slots:List (Nat×Value)}{chg:List (Nat×Bool×aa)}{new:List (Bool×aa)}{lp:List (Nat×List (Nat×Value))}(h:mU N E H H0 d ML U slots chg new lp) :
  Emb H0.list ML N (sg H0.n U) d (ie slots).get (gv H0 chg new lp).list E.get H.list:=by
 obtain ⟨h1,h2,h3,h4,h5⟩:=h
 simp only[Bool.and_eq_true]at h1
 obtain ⟨k1,k2,k2',k3⟩:=h1
 obtain ⟨s1,s2⟩:=nH k1
 have hc:=kK k2
 have hl:=mv k2'
 have ln:=(mt lp H0 0).1
 have hlt:∀p∈chg,p.1<(lp.foldl cZ H0).n:=fun p hp=>by rw[ln];exact (hc p hp).2
 have hcn:=(iF chg (lp.foldl cZ H0) 0 hlt).1
 rw[ln]at hcn
 have hn:(gv H0 chg new lp).n=H0.n+new.length:=by
  unfold gv
  rw[(lO new _ 0).1,hcn]
 have hold:∀id,id<H0.n->sg H0.n U id=some id:=fun id hid=>by unfold sg;rw[Ac hid];rfl
 have hnew:∀id id',¬ id<H0.n->sg H0.n U id=some id'->(id,id')∈U:=fun id id' hid hs=>by
  unfold sg at hs;rw[sT (by omega),cond_false]at hs;exact nX hs
 have hget:∀id,id<H0.n->(gv H0 chg new lp).get id=(chg.foldl (fun H p=>H.set p.1 p.2.2) (lp.foldl cZ H0)).get id:=fun id hid=>by
  unfold gv
  exact (lO new _ id).2.1 (by rw[hcn];exact hid)
 have wC:∀id o,id<H0.n->jh id chg=true->(gv H0 chg new lp).get id=some o->o = .dead:=by
  intro id o hid hm ho
  obtain ⟨⟨p,p1,p2⟩,p3⟩:=sd hm
  rw[hget id hid]at ho
  rcases (iF chg (lp.foldl cZ H0) id hlt).2 with ⟨q,q1,q2,q3⟩|⟨q1,_⟩
  ·rw[q3]at ho;cases ho;exact p3 q q1 q2
  ·exact absurd p2 (q1 p p1)
 refine ⟨by rw[HT.length,HT.length,hn];omega,fun id hid=>hold id (by rwa [HT.length]at hid),fun id id' hs =>?_,fun i1 i2 i' o1 o2 e1 e2 g1 g2 a1 a2 =>?_,fun t _ =>?_,fun id hid hm =>?_,fun id id' o hs hc2 ho =>?_⟩
 ·rw[HT.length,hn]
  by_cases hid:id<H0.n
  ·omega
  ·have hp:=(s1 _ (hnew id id' hid hs)).2.1
   exact hp
 ·rw[HT.aN]at g1 g2
  by_cases a:i1<H0.n
  ·rw[hold i1 a]at e1
   cases e1
   by_cases b:i2<H0.n
   ·rw[hold i2 b]at e2;cases e2;rfl
   ·rcases (s1 _ (hnew _ _ b e2)).2.2 with h|h
    ·simp at h;omega
    ·rw[wC _ _ a h g1]at a1;cases a1
  ·by_cases b:i2<H0.n
   ·rw[hold i2 b]at e2;cases e2
    rcases (s1 _ (hnew _ _ a e1)).2.2 with h|h
    ·simp at h;omega
    ·rw[wC _ _ b h g2]at a2;cases a2
   ·exact s2 _ (hnew _ _ a e1) _ (hnew _ _ b e2) rfl
 ·rcases oh slots t with h|⟨v,m,h⟩
  ·exact .inl h
  ·rw[h];exact .inr (gZ h2 t v m)
 ·rw[HT.length]at hid
  rw[HT.aN,HT.aN,hget id hid]
  rcases (iF chg (lp.foldl cZ H0) id hlt).2 with ⟨p,p1,p2,_⟩|⟨_,q⟩
  ·exact absurd (p2 ▸ (hc p p1).1) hm
  ·rw[q]
   rcases (mt lp H0 id).2 with ⟨p,p1,p2,_⟩|⟨_,q⟩
   ·exact absurd (p2 ▸ (hl p p1).1) hm
   ·exact q
 ·rw[HT.length]at hc2
  rw[HT.aN]at ho
  by_cases hid:id<H0.n
  ·have hm:id∈ML:=by rcases hc2 with h|h;omega;exact h
   rw[hget id hid]at ho
   rcases (iF chg (lp.foldl cZ H0) id hlt).2 with ⟨q,q1,q2,q3⟩|⟨q1,q4⟩
   ·rw[q3]at ho;cases ho
    have:=ov h3 q q1
    rw[q2]at this
    exact mj hold this hs
   ·rcases kM k3 id hm with ⟨p,p1,p2⟩|⟨p,p1,p2⟩
    ·exact absurd p2 (q1 p p1)
    ·rw[q4]at ho
     obtain ⟨tm,N',ps,as,bd,tm',r1,r2,r3⟩:=mu h5 p p1
     rw[p2]at r1 r2
     rcases (mt lp H0 id).2 with ⟨q,w1,w2,st,pe,tm2,N2,ps2,as2,bd2,w3,w4⟩|⟨w1,_⟩
     ·rw[r1]at w3;cases w3
      rw[w4]at ho;cases ho
      obtain ⟨_,N3,ps3,as3,bd3,tm3,y1,y2,y3⟩:=mu h5 q w1
      rw[w2]at y1 y2
      rw[r1]at y1;cases y1
      rw[hold id hid]at hs;cases hs
      refine .inr ⟨.loop .ready none tm3 N' ps as bd,by rw[HT.aN];exact y2,rfl,rfl,fun J ρ' r w hS hr =>?_,fun z cs h=>by cases h⟩
      obtain ⟨z1,l,z2,z3,z4,z5,z6,z7,z8,z9⟩:=hr
      refine ⟨z1,l,z2,z3,z4,z5,z6,z7,z8,fun t ht =>?_⟩
      rcases oh q.2 t with h|⟨v,m,h⟩
      ·rw[h];exact .junk _
      ·rw[h];exact jG hS.f hS.m hS.g d (gZ y3 t v m _ _ (z9 t ht))
     ·exact absurd r1 (w1 p p1 p2 _ _ _ _ _ _ _)
  ·unfold gv at ho
   obtain ⟨p,p1,p2⟩:=(lO new (chg.foldl (fun H p=>H.set p.1 p.2.2) (lp.foldl cZ H0)) id).2.2 o (by rw[hcn];omega) ho
   rw[hcn]at p1
   have:=nS h4 _ p p1
   rw[show H0.n+(id-H0.n)=id by omega,p2]at this
   exact mj hold this hs
theorem KW.sO{ro:Option Nat}{N base:Nat}{M:List Nat}{T:Tm}{H:Heap}{Q:Exit->Tm->Heap->Prop}{x y:Code}{b:Bool}(h:KW P ro N base M (if b then x else y) T H Q):KW P ro N base M (.cond (.const (.bool b)) x y) T H Q:=by
 intro B J w a V h1 h2 h3 h4 h5
 exact wpIn_cond (t:=b) rfl (h B J w a V h1 h2 h3 h4 h5)
section
variable {call:lE} {app:nl} {dm:Value->MS}
def Fin(K:Exit->Env->HT->Hint->Prop):Exit->Tm->Heap->Prop:=fun e T H => ∃E2 H2 h2,T=E2.get/\H=H2.list/\K e E2 H2 h2
theorem pU{K:Exit->Env->HT->Hint->Prop}{E:Env}{H:HT}{h:Hint}{pe:Option Code}{st:LoopState}(hk:vG K E H h pe st) :
  st ≠ .busy/\oK K E H h pe:=by
 cases st
 ·exact ⟨(fun h=>by cases h),hk⟩
 ·exact hk.elim
 ·exact ⟨(fun h=>by cases h),hk⟩
 ·exact ⟨(fun h=>by cases h),hk⟩
theorem pR{ro:Option Nat}{N base:Nat}{M:List Nat}{b:Code}{body:Env->HT->Hint->(Exit->Env->HT->Hint->Prop)->Prop}
  (hb:∀{E:Env} {H:HT} {h:Hint} {K:Exit->Env->HT->Hint->Prop},body E H h K->KW P ro N base M b E.get H.list (Fin K)) {K:Exit->Env->HT->Hint->Prop} {n:Nat} {E:Env} {H:HT} {h:Hint} (hv:tc body K n E H h) :
  KW P ro N base M (.loop b) E.get H.list (Fin K):=by
 refine KW.loop (fun n T H' => ∃E1 H1 h1,T=E1.get/\H'=H1.list/\tc body K n E1 H1 h1) n ⟨E,H,h,rfl,rfl,hv⟩ ?_
 rintro n T1 H1 _ ⟨E1,H2,h1,rfl,rfl,hv⟩
 cases n with
 |zero=>exact hv.elim
 |succ n =>
  refine (hb hv).mono ?_
  rintro e T3 H3 ⟨E4,H4,h4,rfl,rfl,hk⟩
  cases e with
  |normal=>exact ⟨n,Nat.lt_succ_self n,E4,H4,h4,rfl,rfl,hk⟩
  |_=>exact ⟨E4,H4,h4,rfl,rfl,hk⟩
theorem kR{Z:Type}{N d:Nat}{H:HT}{ML:List Nat}{slots:Z->List (Nat×Value)}{chg:Z->List (Nat×Bool×aa)}{new:Z->List (Bool×aa)}{lp:Z->List (Nat×List (Nat×Value))}{I:Z->Prop}
  {K:Exit->Env->HT->Hint->Prop} {next:Z->Hint} (hn:∀x,I x->K .normal (ie (slots x)) (gv H (chg x) (new x) (lp x)) (next x)) (e:Exit) (T2:Tm) (H2:Heap)
  (h:Fin (fun e E' H' h'=>td N H d ML slots chg new lp I (fun e'=>K e') e E' H' h') e T2 H2):jD (fun T2 H2 => ∃U d T3 H3,Emb H.list ML N U d T3 H3 T2 H2/\Fin K .normal T3 H3) (Fin K) e T2 H2:=by
 obtain ⟨E2,H2',h2,rfl,rfl,hk⟩:=h
 cases e with
 |normal =>
  simp only[jD]
  simp only[td]at hk
  obtain ⟨E3,H3,h3,e3,e4,hk⟩:=cA hk
  rw[<- e3,<- e4]
  cases h3 with
  |again U =>
   obtain ⟨x,hx,hh⟩:=hk
   exact ⟨_,d,_,_,gM hh,_,_,next x,rfl,rfl,hn x hx⟩
  |_=>exact hk.elim
 |_=>exact ⟨E2,H2',h2,rfl,rfl,hk⟩
theorem rP{ro:Option Nat}{N base:Nat}{M:MS}{c:Code}{Q:Exit->Tm->Heap->Prop}{h:Hint}{E:Env}{H:HT}{k:Env->HT->Hint->Prop}(hv:vD base M h E H k)(hk:∀E' H' h',k E' H' h'->KW P ro N base (M.list base) c E'.get H'.list Q) :
  KW P ro N base (M.list base) c E.get H.list Q:=by
 obtain ⟨E2,H2,h2,g,hv⟩:=lZ (P:=P) hv
 exact KW.ghost g (hk _ _ _ hv)
theorem gY(hcall:iI P call)(happ:jz P app){ro:Option Nat}{N rounds:Nat}{inr mixed:Bool}(hro:inr=false->ro=none)(fZ:mixed=true->P.follows .mixedOrders=true) :
  ∀{c:Code} {base:Nat} {M:MS} {E:Env} {H:HT} {h:Hint} {K:Exit->Env->HT->Hint->Prop},codeOk N P.globals.size mixed c=true->de P call app dm N rounds inr c base M E H h K->KW P ro N base (M.list base) c E.get H.list (Fin K):=by
 intro c
 induction c with
 |region i ops draw =>
  intro base M E H h K hok hv
  simp only[codeOk,Bool.and_eq_true]at hok
  simp only[de]at hv
  refine rP hv fun E H h hv =>?_
  cases draw
  ·simp only[cond_false]at hv
   have:=KW.region (P:=P) (ro:=ro) (id:=i) (l:=ops.toList) (Q:=Fin K) hok.1 (rO happ hv)
   simpa using this
  ·simp only[cond_true]at hv
   simp only[Bool.not_true,Bool.false_or,Bool.and_eq_true]at hok
   have:=KW.draw (P:=P) (ro:=ro) (id:=i) (l:=ops.toList) (Q:=Fin K) (fZ hok.2.1) hok.1 _ hok.2.2 (pP happ hv)
   simpa using this
 |skip=>intro base M E H h K hok hv;exact KW.skip ⟨E,H,h,rfl,rfl,hv⟩
 |label=>intro base M E H h K hok hv;exact KW.label ⟨E,H,h,rfl,rfl,hv⟩
 |ret=>intro base M E H h K hok hv;exact KW.ret ⟨E,H,h,rfl,rfl,hv⟩
 |exit=>intro base M E H h K hok hv;exact KW.exit ⟨E,H,h,rfl,rfl,hv⟩
 |seq a b iha ihb =>
  intro base M E H h K hok hv
  simp only[codeOk,Bool.and_eq_true]at hok
  simp only[de]at hv
  refine KW.seq ((iha hok.1 hv).mono ?_)
  rintro e T H' ⟨E2,H2,h2,rfl,rfl,hk⟩
  cases e with
  |normal=>exact ihb hok.2 hk
  |_=>exact ⟨E2,H2,h2,rfl,rfl,hk⟩
 |block i b ih =>
  intro base M E H h K hok hv
  simp only[codeOk]at hok
  simp only[de]at hv
  refine KW.block ((ih hok hv).mono ?_)
  rintro e T H' ⟨E2,H2,h2,rfl,rfl,hk⟩
  cases e with
  |exit id' =>
   simp only[mR]
   cases hb:Nat.beq id' i with
   |true=>simp only[hb,cond_true]at hk;rw[if_pos (Nat.eq_of_beq_eq_true hb)];exact ⟨E2,H2,h2,rfl,rfl,hk⟩
   |false =>
    simp only[hb,cond_false]at hk
    rw[if_neg (fun he=>by subst he;rw[Nat.beq_refl]at hb;cases hb)]
    exact ⟨E2,H2,h2,rfl,rfl,hk⟩
  |_=>exact ⟨E2,H2,h2,rfl,rfl,hk⟩
 |scope b ih =>
  intro base M E H h K hok hv
  simp only[codeOk]at hok
  simp only[de]at hv
  refine KW.scope ((ih hok hv).mono ?_)
  rintro e T H' ⟨E2,H2,h2,rfl,rfl,hk⟩
  cases e with
  |goto l=>exact hk.elim
  |_=>exact ⟨E2,H2,h2,rfl,rfl,hk⟩
 |cond x a b iha ihb =>
  intro base M E H h K hok hv
  simp only[codeOk,Bool.and_eq_true]at hok
  cases x with
  |tmp t =>
   simp only[de]at hv
   have ht:t<N:=by simpa using hok.1.1
   obtain ⟨E0,H0,h0,e1,e2,hv⟩:=cA hv
   rw[<- e1,<- e2]
   split at hv <;> try (exact hv.elim)
   rename_i c hc
   refine KW.sN ht hc (fun hb =>?_) (fun hb =>?_)
   ·subst hb
    split at hv
    ·have:=iha hok.1.2 (hv.1 rfl)
     rwa [Env.dX E0 t _ hc]at this
    ·obtain ⟨hw,ha,_,hn⟩:=hv
     have:=iha hok.1.2 (ha rfl)
     rw[Env.dX E0 t _ hc]at this
     refine KW.renamed (fun id hid hb=>dO hw id hid hb) ?_
     rw[HT.length]
     exact this.mono (kR hn)
    ·split at hv <;> try (exact hv.elim)
     exact iha hok.1.2 hv
   ·subst hb
    split at hv
    ·have:=ihb hok.2 (hv.2 rfl)
     rwa [Env.dX E0 t _ hc]at this
    ·obtain ⟨hw,_,ha,hn⟩:=hv
     have:=ihb hok.2 (ha rfl)
     rw[Env.dX E0 t _ hc]at this
     refine KW.renamed (fun id hid hb=>dO hw id hid hb) ?_
     rw[HT.length]
     exact this.mono (kR hn)
    ·split at hv <;> try (exact hv.elim)
     exact ihb hok.2 hv
  |const v =>
   cases v with
   |bool b =>
    refine KW.sO ?_
    cases b
    ·exact ihb hok.2 hv
    ·exact iha hok.1.2 hv
   |_=>simp[de]at hv
  |_=>simp[de]at hv
 |loop b ih =>
  intro base M E H h K hok hv
  simp only[codeOk]at hok
  simp only[de]at hv
  obtain ⟨E0,H0,h0,e1,e2,hv⟩:=cA hv
  rw[<- e1,<- e2]
  split at hv
  ·rename_i d Z x0 σ0 ML slots chg new lp I μ hb
   obtain ⟨hw,hI0,hh0,hch,zO⟩:=hv
   refine KW.AM (ML:=ML) (fun id hid hbs=>dO hw id hid hbs) (fun n T H' => ∃x,I x/\μ x=n/\T=(ie (slots x)).get/\H'=(gv H0 (chg x) (new x) (lp x)).list) ⟨μ x0,_,d,_,_,⟨x0,hI0,rfl,rfl,rfl⟩,gM hh0⟩ ?_ ?_
   ·rintro n T1 H1 ⟨x,hx,_,_,rfl⟩ id hid hm
    rw[HT.length]at hid
    have hx2:=hch x
    rw[Bool.and_eq_true]at hx2
    have hc:=kK hx2.1
    have hl:=mv hx2.2
    have ln:=(mt (lp x) H0 0).1
    have hlt:∀p∈chg x,p.1<((lp x).foldl cZ H0).n:=fun p hp=>by rw[ln];exact (hc p hp).2
    rw[HT.aN,HT.aN]
    unfold gv
    rw[(lO (new x) _ id).2.1 (by rw[(iF (chg x) _ 0 hlt).1,ln];exact hid)]
    rcases (iF (chg x) _ id hlt).2 with ⟨p,p1,p2,_⟩|⟨_,q⟩
    ·exact absurd (p2 ▸ (hc p p1).1) hm
    ·rw[q]
     rcases (mt (lp x) H0 id).2 with ⟨p,p1,p2,_⟩|⟨_,q⟩
     ·exact absurd (p2 ▸ (hl p p1).1) hm
     ·exact q
   ·rintro n T1 H1 hlen ⟨x,hx,hn,rfl,rfl⟩
    rw[HT.length]
    have:=ih hok (zO x hx)
    refine this.mono ?_
    rintro e T H' ⟨E2,H2,h2,rfl,rfl,hk⟩
    cases e with
    |normal =>
     simp only[jD]
     obtain ⟨E3,H3,h3,e3,e4,hk⟩:=cA hk
     rw[<- e3,<- e4]
     cases h3 with
     |again U =>
      obtain ⟨x',hx',hlt,hh⟩:=hk
      exact ⟨μ x',_,d,_,_,by omega,⟨x',hx',rfl,rfl,rfl⟩,gM hh⟩
     |_=>exact hk.elim
    |_=>exact ⟨E2,H2,h2,rfl,rfl,hk⟩
  ·exact pR (fun hv=>ih hok hv) hv
 |rangeFunc g ps a b iha ihb =>
  intro base M E H h K hok hv
  cases g with
  |tmp t =>
   simp only[codeOk,Bool.and_eq_true]at hok
   have ht:t<N:=by simpa using hok.1.1.1
   simp only[de]at hv
   obtain ⟨E0,H0,h0,e1,e2,hv⟩:=cA hv
   rw[<- e1,<- e2]
   cases inr with
   |true=>exact hv.elim
   |false =>
    rw[cond_false]at hv
    have hr:=hro rfl
    subst hr
    split at hv <;> try (exact hv.elim)
    rename_i gf first cap hg
    split at hv <;> try (exact hv.elim)
    rename_i Mc h' hmc
    split at hv <;> try (exact hv.elim)
    rename_i hw
    simp only[Bool.and_eq_true]at hw
    obtain ⟨hw,hbn⟩:=hw
    have hc:=hcall _ _ _ _ _ _ hv
    rw[HT.bW]at hc
    refine KW.rangeFunc (Mc:=MS.list (MS.also H0.n Mc) (H0.push (.loop .ready none E0.get N ps a b)).n) ht hg ?_ ?_
    ·rw[HT.length]
     refine hc.mono (fun _ h _=>h) ?_
     rintro v H' ⟨H2,h2,rfl,hk⟩
     split at hk <;> try (exact hk.elim)
     rename_i st pe tm' N' ps' as' bd' hl
     rw[HT.aN]
     obtain ⟨hne,hk⟩:=pU hk
     refine ⟨_,_,_,_,_,_,_,hl,hne,?_⟩
     cases pe with
     |none=>exact ⟨_,_,_,rfl,(HT.bB ..).symm,hk⟩
     |some c =>
      simp only
      rw[<- HT.bB]
      cases c <;> simp only[oK,wQ]at hk
      ·exact KW.exit ⟨_,_,_,rfl,rfl,hk⟩
      ·exact KW.ret ⟨_,_,_,rfl,rfl,hk⟩
    ·intro id hid hb
     cases Mc with
     |none =>
      cases M with
      |none=>exact List.mem_range.2 hb
      |some l=>cases hw
     |some l =>
      have zV:id∈(H0.n :: l):=hid
      rcases List.mem_cons.1 zV with rfl|h1
      ·have:=Nat.le_of_ble_eq_true hbn;omega
      ·exact fc (n:=H0.n) (Mc:=some l) hw id h1 hb
  |_=>simp[codeOk]at hok
 |_=>intro base M E H h K hok;simp[codeOk]at hok
end
end
end Go.K
