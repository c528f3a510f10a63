/- What is to be shown so that code does what is wanted: computed from its text, with hints. No condition. -/
import Derived.Test.YtkkgnalgmebfjaaGreatGV4xK41
open Go Go.K
set_option linter.unusedVariables false
set_option linter.unusedSimpArgs false
namespace Go.K
noncomputable section
variable {P:Program}
def Is(v:Value)(H:Heap):Value->Heap->Prop:=fun v' H'=>v'=v/\H'=H
def rg(bs:List Nat)(ops:Array Oper)(done:Nat):List Nat->Option Nat
 | [] =>none
 |i :: is=>if (match ops[i]? with|some o => !dF o|none=>false)&&(bs.getD i 0 &&& done == bs.getD i 0) then some i else rg bs ops done is
def uo(bs:List Nat)(done:Nat):List Nat->Option Nat
 | [] =>none
 |i :: is=>if bs.getD i 0 &&& done == bs.getD i 0 then some i else uo bs done is
def Av(bs:List Nat)(ops:Array Oper):Nat->Nat->List Nat->List Nat
 |0,_,_=>[]
 |n+1,done,todo =>
  match (match rg bs ops done todo with|some i=>some i|none=>uo bs done todo) with
  |some i=>i :: Av bs ops n (done |||2 ^ i) (todo.filter (fun j => !(Nat.beq j i)))
  |none=>[]
def As(l:List Oper):List Nat:=Av (dH l []) l.toArray l.length 0 (List.range l.length)
def codeOk(N G:Nat)(mixed:Bool):Code->Bool
 | .region _ ops draw=>ops.toList.all (jo N G)&&(!draw ||(mixed&&uq ops.toList (As ops.toList)))
 | .seq a b=>codeOk N G mixed a&&codeOk N G mixed b
 | .cond c a b=>(match c with| .tmp t=>decide (t<N)| .const (.bool _)=>true|_=>false)&&codeOk N G mixed a&&codeOk N G mixed b
 | .block _ b=>codeOk N G mixed b
 | .scope b=>codeOk N G mixed b
 | .loop b=>codeOk N G mixed b
 | .rangeFunc g ps a b=>(match g with| .tmp t=>decide (t<N)|_=>false)&&ps.toList.all (fun p=>decide (p<N))&&codeOk N G mixed a&&codeOk N G mixed b
 | .skip| .ret| .exit _| .label _=>true
 |_=>false
def BC(P:Program)(mixed:Bool)(f:Nat):Bool :=
 match P.funcs[f]? with
 |some fn =>
  match fn.body with
  | some c => !(fn.name == "runtime.NumGoroutine") && (mN fn.ntmps fn.results.toList && codeOk fn.ntmps P.globals.size mixed c)
  |none=>false
 |none=>false
abbrev MS:=Option (List Nat)
inductive BP where
 |new (z:Nat)
 |take (hd t F k n z:Nat) (row:List Value)
 |give (hd t F A k n z:Nat) (q:Bool)
inductive Hint:Type 1 where
 |auto
 |go (n:Nat) (h:Hint)
 |fork (a b:Hint)
 |aO (a b:Hint)
 |need (h:Hint)
 |val (v:Value) (h:Hint)
 |ans (deps:List (Nat×ab)) (v:Value) (new:List ab) (h:Hint)
 |into (Mc:MS) (h:Hint)
 |keep (h:Hint)
 |obj (id:Nat) (o:ab) (h:Hint)
 |slot (t:Nat) (v:Value) (h:Hint)
 |bind (α:Type) (f:α->Hint)
 |inv (d:Nat) (α:Type) (x0:α) (σ0:List (Nat×Nat)) (ML:List Nat) (slots:α->List (Nat×Value)) (chg:α->List (Nat×Bool×ab)) (new:α->List (Bool×ab)) (lp:α->List (Nat×List (Nat×Value))) (I:α->Prop) (μ:α->Nat) (body:α->Hint)
 |again (V:List (Nat×Nat))
 |cas (p:Prop) (a b:Hint)
 |join (d:Nat) (α:Type) (ML:List Nat) (slots:α->List (Nat×Value)) (chg:α->List (Nat×Bool×ab)) (new:α->List (Bool×ab)) (lp:α->List (Nat×List (Nat×Value))) (I:α->Prop) (a b:Hint) (next:α->Hint)
 |as (v:Value) (h:Hint)
 |ghost (o:ab) (h:Hint)
 |frz (ts:List Nat) (h:Hint)
 |Ab (deps:List (Nat×ab)) (v:Value) (chg:List (Nat×ab)) (new:List ab) (h:Hint)
 |fam (l:List (Nat×Nat)) (k d:Nat) (ts bs:List Nat) (h:Hint)
 |tab (l:List BP) (h:Hint)
 |A5 (es:List (Value×Value)) (h:Hint)
 |nxt (h1:Nat->Hint) (h2:Hint)
 |BN (deps:List (Nat×ab)) (ids:List Nat) (α:Type) (I:α->Prop) (v:α->Value) (chg:α->List (Nat×ab)) (new:α->List ab) (h:α->Hint)
def Hint.dflt:Hint->Option Hint
 | .auto=>some .auto
 | .go n h=>some (match n with|0=>h|n+1 => .go n h)
 |_=>none
def io(h:Hint):Env->HT->(Env->HT->Hint->Prop)->Prop :=
 Hint.rec (motive:=fun _=>Env->HT->(Env->HT->Hint->Prop)->Prop)
  (fun E H K=>K E H .auto)
  (fun n h _ E H K=>K E H (.go n h))
  (fun a b _ _ E H K=>K E H (.fork a b))
  (fun a b _ _ E H K=>K E H (.aO a b))
  (fun h _ E H K=>K E H (.need h))
  (fun v h _ E H K=>K E H (.val v h))
  (fun deps v new h _ E H K=>K E H (.ans deps v new h))
  (fun Mc h _ E H K=>K E H (.into Mc h))
  (fun h _ E H K=>K E H (.keep h))
  (fun id o _ ih E H K=>H.get id=some o/\ih E (H.set id o) K)
  (fun t v _ ih E H K=>E.get t=v/\ih (E.put (some t) v) H K)
  (fun α f ih E H K => ∃x:α,ih x E H K)
  (fun d α x0 σ0 ML slots chg new lp I μ body _ E H K=>K E H (.inv d α x0 σ0 ML slots chg new lp I μ body))
  (fun V E H K=>K E H (.again V))
  (fun p a b iha ihb E H K=>(p->iha E H K)/\(¬ p->ihb E H K))
  (fun d α ML slots chg new lp I a b next _ _ _ E H K=>K E H (.join d α ML slots chg new lp I a b next))
  (fun v h _ E H K=>K E H (.as v h))
  (fun o h _ E H K=>K E H (.ghost o h))
  (fun ts h _ E H K=>K E H (.frz ts h))
  (fun deps v chg new h _ E H K=>K E H (.Ab deps v chg new h))
  (fun l k d ts bs h _ E H K=>K E H (.fam l k d ts bs h))
  (fun l h _ E H K=>K E H (.tab l h))
  (fun es h _ E H K=>K E H (.A5 es h))
  (fun h1 h2 _ _ E H K=>K E H (.nxt h1 h2))
  (fun deps ids α I v chg new h _ E H K=>K E H (.BN deps ids α I v chg new h)) h
def vas(h:Hint):Value->HT->(Value->HT->Hint->Prop)->Prop :=
 Hint.rec (motive:=fun _=>Value->HT->(Value->HT->Hint->Prop)->Prop)
  (fun v H K=>K v H .auto)
  (fun n h _ v H K=>K v H (.go n h))
  (fun a b _ _ v H K=>K v H (.fork a b))
  (fun a b _ _ v H K=>K v H (.aO a b))
  (fun h _ v H K=>K v H (.need h))
  (fun x h _ v H K=>K v H (.val x h))
  (fun deps x new h _ v H K=>K v H (.ans deps x new h))
  (fun Mc h _ v H K=>K v H (.into Mc h))
  (fun h _ v H K=>K v H (.keep h))
  (fun id o h _ v H K=>K v H (.obj id o h))
  (fun t x h _ v H K=>K v H (.slot t x h))
  (fun α f _ v H K=>K v H (.bind α f))
  (fun d α x0 σ0 ML slots chg new lp I μ body _ v H K=>K v H (.inv d α x0 σ0 ML slots chg new lp I μ body))
  (fun V v H K=>K v H (.again V))
  (fun p a b _ _ v H K=>K v H (.cas p a b))
  (fun d α ML slots chg new lp I a b next _ _ _ v H K=>K v H (.join d α ML slots chg new lp I a b next))
  (fun x h ih v H K=>wk v x/\ih x H K)
  (fun o h ih v H K=>ih v (H.push o) K)
  (fun ts h _ v H K=>K v H (.frz ts h))
  (fun deps x chg new h _ v H K=>K v H (.Ab deps x chg new h))
  (fun l k d ts bs h _ v H K=>K v H (.fam l k d ts bs h))
  (fun l h _ v H K=>K v H (.tab l h))
  (fun es h _ v H K=>K v H (.A5 es h))
  (fun h1 h2 _ _ v H K=>K v H (.nxt h1 h2))
  (fun deps ids α I x chg new h _ v H K=>K v H (.BN deps ids α I x chg new h)) h
def kZ(id:Nat):List Nat->Bool
 | [] =>false
 |x :: xs=>cond (Nat.beq id x) true (kZ id xs)
theorem gK{id:Nat}:∀{l:List Nat},kZ id l=true->id∈l
 | [],h=>by cases h
 |x :: xs,h=>by
  unfold kZ at h
  cases hb:Nat.beq id x with
  |true=>exact List.mem_cons.2 (.inl (Nat.eq_of_beq_eq_true hb))
  |false=>rw[hb]at h;exact List.mem_cons_of_mem _ (gK h)
def MS.list(M:MS)(n:Nat):List Nat:=match M with|none=>List.range n|some l=>l
def l7(base:Nat)(M:MS)(ms:List Nat):Bool :=
 match M with
 |none=>true
 |some l=>ms.all fun id=>cond (Nat.ble base id) true (kZ id l)
theorem dV{base:Nat}{M:MS}{ms:List Nat}(h:l7 base M ms=true):∀id∈ms,id<base->id∈M.list base:=by
 intro id hid hb
 cases M with
 |none=>exact List.mem_range.2 hb
 |some l =>
  simp only[l7,List.all_eq_true]at h
  have:=h id hid
  cases hq:Nat.ble base id with
  |true=>have:=Nat.le_of_ble_eq_true hq;omega
  |false=>rw[hq]at this;exact gK this
def qD(base n:Nat)(M Mc:MS):Bool :=
 match Mc with
 |none=>M.isNone
 |some l=>l7 base M l
theorem fq{base n:Nat}{M Mc:MS}(h:qD base n M Mc=true):∀id∈Mc.list n,id<base->id∈M.list base:=by
 intro id hid hb
 cases Mc with
 |none =>
  cases M with
  |none=>exact List.mem_range.2 hb
  |some l=>cases h
 |some l=>exact dV (M:=M) h id hid hb
def na(bs:List Nat)(j:Nat)(log:List (Nat×Option Nat))(ms:List Nat):Bool :=
 log.all fun p=>fR bs j p.1 ||(match p.2 with|none=>true|some x => !(kZ x ms))
theorem ux{id:Nat}:∀{l:List Nat},id∈l->kZ id l=true
 | [],h=>by cases h
 |x :: xs,h=>by
  unfold kZ
  rcases List.mem_cons.1 h with rfl|h
  ·rw[Nat.beq_refl];rfl
  ·cases Nat.beq id x with
   |true=>rfl
   |false=>exact ux h
theorem lI{bs:List Nat}{j:Nat}{log:List (Nat×Option Nat)}{ms:List Nat}(h:na bs j log ms=true):Loose bs j log ms:=by
 intro p hp hd x hx hm
 unfold na at h
 rw[List.all_eq_true]at h
 have:=h p hp
 rw[hd,hx]at this
 simp[ux hm]at this
abbrev KV:=Value->HT->Hint->Prop
abbrev l6:=FuncId->List Value->HT->MS->Hint->KV->Prop
abbrev oa:=Value->List Value->HT->MS->Hint->KV->Prop
def vm(P:Program)(fv:Value)(args:List Value)(H:Heap)(Mc:List Nat)(v:Value)(H':Heap):Prop :=
 match fv with
 | .func (.func f) first cap=>am P f (first.toList++args++cap.toList) H Mc (Is v H')
 |fv=>gS P fv args H Mc (Is v H')
def B7(P:Program)(fv:Value)(args:List Value)(H:Heap)(Mc:List Nat)(Q:Value->Heap->Prop):Prop :=
 match fv with
 | .func (.func f) first cap=>am P f (first.toList++args++cap.toList) H Mc Q
 |fv=>gS P fv args H Mc Q
def ss(H:HT):List (Nat×ab)->Prop
 | [] =>True
 |(id,o) :: r=>H.get id=some o/\ss H r
def su(H:Heap):List (Nat×ab)->Prop
 | [] =>True
 |(id,o) :: r=>H[id]?=some o/\su H r
def tH(H:Heap):List ab->Heap
 | [] =>H
 |o :: r=>H++(o :: r)
def ui(H:Heap):List (Nat×ab)->Heap
 | [] =>H
 |(id,o) :: r=>ui (H.set id o) r
def uh(H:HT):List (Nat×ab)->HT
 | [] =>H
 |(id,o) :: r=>uh (H.set id o) r
def uK:List (Nat×ab)->List Nat
 | [] => []
 |(id,_) :: r=>id :: uK r
def fW(H:HT):List ab->HT
 | [] =>H
 |o :: r=>fW (H.push o) r
def mu(P:Program)(app:oa)(wok:MS->Bool)(dm:Value->MS)(o:Oper)(E:Env)(H:HT)(h:Hint)(K:Env->HT->Option Nat->Hint->Prop):Prop :=
 match d6 o.op with
 | .pure =>
  match h with
  | .fork h1 h2 =>
   match o.op with
   | .pick (.tmp t) x y =>
    match E.get t with
    | .bool b=>(b=true->K ((E.put (some t) (.bool true)).put o.dst (ev E.get x)) H none h1)/\(b=false->K ((E.put (some t) (.bool false)).put o.dst (ev E.get y)) H none h2)
    |_=>False
   |_=>False
  | .need h' =>
   match xr P o.op (ev E.get) H with
   |some (c,v,rd)=>c/\K (E.put o.dst v) H rd h'
   |none=>False
  | .val v h' =>
   match o.op with
   | .load t a =>
    match ev E.get a with
    | .pointer (some ⟨id,off,none⟩) =>
     match H.get id with
     |some (.cells _ _ cs)=>cI P t cs off=some v/\K (E.put o.dst v) H (some id) h'
     |_=>False
    | .pointer (some ⟨id,off,some (k+3)⟩) =>
     match H.get id with
     |some (.fam (z+1) cs) =>
      match lM P t off (z+1) with
      |true=>cI P t cs (k*(z+1)+off)=some v/\K (E.put o.dst v) H (some id) h'
      |false=>False
     |_=>False
    | .iface off (.tuple cs)=>cI P t cs.toList off=some v/\K (E.put o.dst v) H none h'
    |_=>False
   | .index t x i=>nn P t (ev E.get x) (ev E.get i)=some v/\K (E.put o.dst v) H none h'
   | .lookup t x i ok =>
    match P.underlying t,ev E.get x with
    |some (.map kt el),.map (some id) =>
     match H.get id,et P el,fi P kt (ev E.get i) with
     |some (.map es),some z,true=>nj P kt z (ev E.get i) ok es=some v/\K (E.put o.dst v) H (some id) h'
     |_,_,_=>False
    |_,_=>False
   |_=>False
  |h =>
   match h.dflt with
   |some h' =>
    match tj P o.op (ev E.get) H with
    |some (v,rd)=>K (E.put o.dst v) H rd h'
    |none=>False
   |none=>False
 | .alloc =>
  match h with
  | .need h' =>
   match tp P o.op (ev E.get) H.n with
   |some (c,v,ob)=>c/\K (E.put o.dst v) (H.push ob) (some H.n) h'
   |none=>False
  |h =>
   match h.dflt with
   |some h' =>
    match hX P o.op (ev E.get) H.n with
    |some (v,ob)=>K (E.put o.dst v) (H.push ob) (some H.n) h'
    |none=>False
   |none=>False
 | .write =>
  match h with
  | .need h' =>
   match tn P o.op (ev E.get) H with
   |some (c,v,H',ms)=>c/\wok (some ms)=true/\K (E.put o.dst v) H' none h'
   |none=>False
  | .val _ h' =>
   match qd P o.op (ev E.get) with
   |some (c,v)=>c/\K (E.put o.dst v) H none h'
   |none=>False
  | .A5 es' h' =>
   match o.op with
   | .mapUpdate t m k v =>
    match P.underlying t,ev E.get m with
    |some (.map kt el),.map (some id) =>
     match H.get id,fi P kt (ev E.get k),wok (some [id]) with
     |some (.map es),true,true=>uC P kt (ev E.get k) (ev E.get v) es=some es'/\K (E.put o.dst undef) (H.set id (.map es')) none h'
     |_,_,_=>False
    |_,_=>False
   |_=>False
  |h =>
   match h.dflt with
   |some h' =>
    match pU P o.op (ev E.get) H with
    |some (v,H',ms)=>match wok (some ms) with|true=>K (E.put o.dst v) H' none h'|false=>False
    |none=>False
   |none=>False
 | .call =>
  match o.op with
  | .call ⟨.value f,args,_⟩ =>
   match h with
   | .ans deps v new h'=>ss H deps/\(∀H':Heap,H'.length=H.n->su H' deps->vm P (ev E.get f) (args.toList.map (ev E.get)) H' [] v (tH H' new))/\K (E.put o.dst v) (fW H new) none h'
   | .Ab deps v chg new h' =>
    match wok (some (uK chg)) with
    |true=>ss H deps/\(∀H':Heap,H'.length=H.n->su H' deps->vm P (ev E.get f) (args.toList.map (ev E.get)) H' (uK chg) v (tH (ui H' chg) new))/\K (E.put o.dst v) (fW (uh H chg) new) none h'
    |false=>False
   | .BN deps ids α I v chg new h' =>
    match wok (some ids) with
    |true=>ss H deps/\(∀H':Heap,H'.length=H.n->su H' deps->B7 P (ev E.get f) (args.toList.map (ev E.get)) H' ids (fun y H2 => ∃x,I x/\y=v x/\H2=tH (ui H' (chg x)) (new x)))/\∀x,I x->K (E.put o.dst (v x)) (fW (uh H (chg x)) (new x)) none (h' x)
    |false=>False
   | .into Mc h'=>match wok Mc with|true=>app (ev E.get f) (args.toList.map (ev E.get)) H Mc h' (fun v H' h''=>K (E.put o.dst v) H' none h'')|false=>False
   |h =>
    match h.dflt with
    |some h'=>match wok (dm (ev E.get f)) with|true=>app (ev E.get f) (args.toList.map (ev E.get)) H (dm (ev E.get f)) h' (fun v H' h''=>K (E.put o.dst v) H' none h'')|false=>False
    |none=>False
  |_=>False
 | .iter =>
  match o.op with
  | .range t x =>
   match P.underlying t,ev E.get x with
   |some (.map _ _),.map (some id) =>
    match H.get id,h.dflt with
    |some (.map es),some h'=>K (E.put o.dst (.pointer (some ⟨H.n,0,none⟩))) (H.push (.iter id es.length [])) none h'
    |_,_=>False
   |_,_=>False
  | .next it false =>
   match ev E.get it with
   | .pointer (some ⟨id,0,none⟩) =>
    match H.get id with
    |some (.iter m n seen) =>
     match H.get m,wok (some [id]),h with
     |some (.map es),true,.nxt h1 h2=>es.length=n/\(∀i,i<n->i ∉ seen->K (E.put o.dst (.tuple #[.bool true,.chan none,.chan none])) (H.set id (.iter m n (seen ++ [i]))) none (h1 i)) /\
       ((∀i,i<n->i∈seen)->K (E.put o.dst (.tuple #[.bool false])) H none h2)
     |_,_,_=>False
    |_=>False
   |_=>False
  | .entry it =>
   match ev E.get it with
   | .pointer (some ⟨id,0,none⟩) =>
    match H.get id with
    |some (.iter m n seen) =>
     match H.get m,h with
     |some (.map es),.val v h'=>es.length=n/\tK es seen=some v/\K (E.put o.dst v) H none h'
     |_,_=>False
    |_=>False
   |_=>False
  |_=>False
 | .bad=>False
def pz(P:Program)(app:oa)(wok:MS->Bool)(dm:Value->MS)(ops:Array Oper)(o:Oper)(E:Env)(H:HT)(h:Hint)(K:Env->HT->Option Nat->Hint->Prop)(oB:Env->HT->Hint->Prop):Prop :=
 fE E fun E=>fH H fun H=>io h E H fun E H h =>
 match o.guard with
 |none=>mu P app wok dm o E H h K
 |some (g,want) =>
  match (ops[g]?).bind (·.dst) with
  |none=>oB (E.put o.dst undef) H h
  |some d =>
   match E.get d with
   | .bool b =>
    match h with
    | .aO h1 h2 =>
     (b=true->cond want (io h1 (E.put (some d) (.bool true)) H fun E H h=>mu P app wok dm o E H h K) (oB ((E.put (some d) (.bool true)).put o.dst undef) H h1)) /\
     (b=false->cond want (oB ((E.put (some d) (.bool false)).put o.dst undef) H h2) (io h2 (E.put (some d) (.bool false)) H fun E H h=>mu P app wok dm o E H h K))
    |h=>cond (cond b want (!want)) (mu P app wok dm o E H h K) (oB (E.put o.dst undef) H h)
   | .chan _=>False
   |_=>oB (E.put o.dst undef) H h
def my(base:Nat)(M:MS):List Nat->Env->HT->(Env->HT->Prop)->Prop
 | [],E,H,K=>K E H
 |t :: ts,E,H,K =>
  match E.get t with
  | .slice (some ⟨id,0,tag⟩) n _ =>
   match (match tag with|none=>true|some k=>Nat.beq k 1)&&l7 base M [id] with
   |true =>
    match H.get id with
    |some (.cells true _ cs)=>my base M ts (E.put (some t) (.iface (Nat.succ n) (.agg ⟨cs⟩))) (H.set id .dead) K
    |_=>False
   |false=>False
  | .iface (n+1) (.agg cs)=>my base M ts (E.put (some t) (.slice (some ⟨H.n,0,some 2⟩) n n)) (H.push (.cells false 0 cs.toList)) K
  | .agg ⟨vs⟩ =>
   match sG 0 vs with
   |some (i,.slice (some ⟨id,0,tag⟩) n _) =>
    match (match tag with|none=>true|some k=>Nat.beq k 1)&&l7 base M [id] with
    |true =>
     match H.get id with
     |some (.cells true _ cs)=>my base M ts (E.put (some t) (.agg ⟨vs.set i (.iface (Nat.succ n) (.agg ⟨cs⟩))⟩)) (H.set id .dead) K
     |_=>False
    |false=>False
   |some (i,.iface (n+1) (.agg cs))=>my base M ts (E.put (some t) (.agg ⟨vs.set i (.slice (some ⟨H.n,0,some 2⟩) n n)⟩)) (H.push (.cells false 0 cs.toList)) K
   |_=>False
  |_=>False
def tfE(A F k d:Nat):List Nat->Env->Env
 | [],E=>E
 |t :: ts,E=>tfE A F k d ts (E.put (some t) (tf A F k d (E.get t)))
def zc(A F k d:Nat):List Nat->HT->HT
 | [],H=>H
 |b :: bs,H=>zc A F k d bs (match H.get b with|some (.cells own z cs)=>H.set b (.cells own z (cs.map (tf A F k d)))|_=>H)
def ud(base:Nat)(M:MS)(k d:Nat)(ts bs:List Nat):List (Nat×Nat)->Env->HT->(Env->HT->Prop)->Prop
 | [],E,H,K=>K E H
 |(A,F) :: l,E,H,K =>
  match l7 base M (A :: F :: bs) with
  |true =>
   match H.get A with
   |some (.cells true _ cs) =>
    match H.get F with
    |some (.fam z ms)=>(cs.length=z/\0<z/\ms.length=k*z)/\ud base M k d ts bs l (tfE A F k d ts E) (zc A F k d bs ((H.set A .dead).set F (.fam z (ms++cs)))) K
    |_=>False
   |_=>False
  |false=>False
def AU:List Nat->HT->HT
 | [],H=>H
 |z :: zs,H=>AU zs (H.push (.fam z []))
def mt(base:Nat)(M:MS):List BP->HT->(HT->Prop)->Prop
 | [],H,K=>K H
 | .new z :: l,H,K=>mt base M l (H.push (.fam 0 [.int .i64 (z:Int)])) K
 | .take hd t F k n z row :: l,H,K =>
  match l7 base M [hd,F] with
  |true =>
   match H.get hd with
   |some (.cells true zh hs) =>
    match H.get F with
    |some (.fam 0 ms)=>(hs[t]?=some (dp n F k)/\ms[0]?=some (.int .i64 (z:Int))/\row.length=n*z/\(0<n->ms[k+1]?=some (.agg ⟨row⟩))) /\
      mt base M l (((H.set F (.fam 0 (aT n k ms))).push (.cells true z row)).set hd (.cells true zh (hs.set t (.slice (some ⟨H.n,0,some 1⟩) n n)))) K
    |_=>False
   |_=>False
  |false=>False
 | .give hd t F A k n z q :: l,H,K =>
  match l7 base M [hd,F,A] && !(Nat.beq A hd) with
  |true =>
   match H.get hd with
   |some (.cells true zh hs) =>
    match H.get F with
    |some (.fam 0 ms) =>
     match H.get A with
     |some (.cells true z' row) =>
      match Nat.beq z' z with
      |true=>(hs[t]?=some (.slice (some ⟨A,0,match q with|true=>some 1|false=>none⟩) n n)/\(q=true∨0<n)/\ms[0]?=some (.int .i64 (z:Int))/\0<z/\row.length=n*z/\ms.length=k+1) /\
        mt base M l (((H.set A .dead).set F (.fam 0 (cd n ms row))).set hd (.cells true zh (hs.set t (dp n F k)))) K
      |false=>False
     |_=>False
    |_=>False
   |_=>False
  |false=>False
def ww(base:Nat)(M:MS)(h:Hint)(E:Env)(H:HT)(K:Env->HT->Hint->Prop):Prop :=
 match h with
 | .frz ts h'=>my base M ts E H (fun E H=>K E H h')
 | .fam [] k d zs bs h'=>K E (AU zs H) h'
 | .fam (p :: l) k d ts bs h'=>ud base M k d ts bs (p :: l) E H (fun E H=>K E H h')
 | .tab l h'=>mt base M l H (fun H=>K E H h')
 |h=>K E H h
def wv(P:Program)(app:oa)(base n:Nat)(M:MS)(dm:Value->MS)(ops:Array Oper):List Oper->Env->HT->Hint->(Env->HT->Hint->Prop)->Prop
 | [],E,H,h,K=>K E H h
 |o :: os,E,H,h,K=>ww base M h E H fun E H h=>pz P app (fun Mc=>qD base H.n M Mc) dm ops o E H h (fun E' H' _ h'=>wv P app base n M dm ops os E' H' h' K) (fun E' H' h'=>wv P app base n M dm ops os E' H' h' K)
def qG(P:Program)(app:oa)(base:Nat)(M:MS)(dm:Value->MS)(bs:List Nat)(ops:Array Oper):List Nat->Env->HT->List (Nat×Option Nat)->Hint->(Env->HT->Hint->Prop)->Prop
 | [],E,H,_,h,K=>K E H h
 |i :: is,E,H,log,h,K =>
  match ops[i]? with
  |none=>False
  |some o =>
   match d6 o.op with
   | .iter=>False
   |_=>pz P app (fun Mc=>qD base H.n M Mc&&na bs i log (Mc.list H.n)) dm ops o E H h
     (fun E' H' rd h'=>qG P app base M dm bs ops is E' H' (match d6 o.op with| .pure| .alloc=>(i,rd) :: log|_=>log) h' K)
     (fun E' H' h'=>qG P app base M dm bs ops is E' H' log h' K)
def uA(id:Nat):List (Nat×Nat)->Option Nat
 | [] =>none
 |(a,b) :: r=>cond (Nat.beq id a) (some b) (uA id r)
def sg(n0:Nat)(V:List (Nat×Nat))(id:Nat):Option Nat:=cond (Nat.blt id n0) (some id) (uA id V)
def rl(k:Nat×Nat):List (Nat×Nat)->Bool
 | [] =>true
 |q :: r=>cond (Nat.beq k.1 q.1) false (cond (Nat.beq k.2 q.2) false (rl k r))
def jK(id:Nat)(chg:List (Nat×Bool×ab)):Bool :=
 cond (chg.any fun p=>Nat.beq p.1 id) (chg.all fun p=>cond (Nat.beq p.1 id) (match p.2.2 with| .dead=>true|_=>false) true) false
def vC(n0 n:Nat)(chg:List (Nat×Bool×ab)):List (Nat×Nat)->Bool
 | [] =>true
 |p :: r=>cond (Nat.ble n0 p.1) (cond (Nat.blt p.1 n) (cond (cond (Nat.ble n0 p.2) true (jK p.2 chg)) (cond (rl p r) (vC n0 n chg r) false) false) false) false
def iC(T:Tm)(V:Nat->Option Nat)(d:Nat):List (Nat×Value)->Prop
 | [] =>True
 |(t,v) :: r=>(match v with| .slice (some ⟨_,_,some _⟩) _ _=>wk (T t) (rn V d v)|v=>T t=rn V d v)/\iC T V d r
def oP(H:HT)(n0:Nat)(V:Nat->Option Nat)(d:Nat)(id:Nat)(plain:Bool)(o:ab):Prop :=
 match o with
 | .dead=>True
 | .loop .. =>False
 | .iter m n s=>match V id with
  |some id'=>H.get id'=some (.iter m n s)/\ar n0 (.iter m n s)=true
  |none=>True
 |o=>match V id with
  |some id'=>cond plain (H.get id'=some o/\ar n0 o=true) (match H.get id' with|some o'=>wkO o' (rno V d o)|none=>False)
  |none=>True
def yy(H:HT)(n0:Nat)(V:Nat->Option Nat)(d:Nat):List (Nat×Bool×ab)->Prop
 | [] =>True
 |(id,plain,o) :: r=>oP H n0 V d id plain o/\yy H n0 V d r
def rq(H:HT)(n0:Nat)(V:Nat->Option Nat)(d:Nat):Nat->List (Bool×ab)->Prop
 |_,[] =>True
 |id,(plain,o) :: r=>oP H n0 V d id plain o/\rq H n0 V d (Nat.succ id) r
def A8(H H0:HT)(V:Nat->Option Nat)(d:Nat):List (Nat×List (Nat×Value))->Prop
 | [] =>True
 |(L,sl) :: r =>
  (match H0.get L,H.get L with
  |some (.loop .ready none _ N ps as bd),some (.loop .ready none tm' N' ps' as' bd')=>(N=N'/\ps=ps'/\as=as'/\bd=bd')/\iC tm' V d sl
  |_,_=>False)/\A8 H H0 V d r
def iK(slots:List (Nat×Value)):Env:=slots.foldl (fun E p=>E.put (some p.1) p.2) ⟨fun _=>junk,.leaf⟩
def cW(H:HT)(p:Nat×List (Nat×Value)):HT :=
 match H.get p.1 with
 |some (.loop st pe _ N ps as bd)=>H.set p.1 (.loop st pe (iK p.2).get N ps as bd)
 |_=>H
def gM(H:HT)(chg:List (Nat×Bool×ab))(new:List (Bool×ab))(lp:List (Nat×List (Nat×Value))):HT :=
 new.foldl (fun H p=>H.push p.2) (chg.foldl (fun H p=>H.set p.1 p.2.2) (lp.foldl cW H))
def sw(n0:Nat)(ML:List Nat):List (Nat×Bool×ab)->Bool
 | [] =>true
 |p :: r=>cond (kZ p.1 ML) (cond (Nat.blt p.1 n0) (sw n0 ML r) false) false
def xf(n0:Nat)(ML:List Nat)(chg:List (Nat×Bool×ab)):List (Nat×List (Nat×Value))->Bool
 | [] =>true
 |p :: r=>cond (kZ p.1 ML) (cond (Nat.blt p.1 n0) (cond (chg.any fun q=>Nat.beq q.1 p.1) false (cond (r.any fun q=>Nat.beq q.1 p.1) false (xf n0 ML chg r))) false) false
def allIn(chg:List (Nat×Bool×ab))(lp:List (Nat×List (Nat×Value))):List Nat->Bool
 | [] =>true
 |id :: r=>cond (cond (chg.any fun p=>Nat.beq p.1 id) true (lp.any fun p=>Nat.beq p.1 id)) (allIn chg lp r) false
def nE(N:Nat)(E:Env)(H:HT)(H0:HT)(d:Nat)(ML:List Nat)(V:List (Nat×Nat))(slots:List (Nat×Value))(chg:List (Nat×Bool×ab))(new:List (Bool×ab))(lp:List (Nat×List (Nat×Value))):Prop :=
 (vC H0.n (Nat.add H0.n new.length) chg V&&(sw H0.n ML chg&&(xf H0.n ML chg lp&&allIn chg lp ML)))=true/\iC E.get (sg H0.n V) d slots/\yy H H0.n (sg H0.n V) d chg/\rq H H0.n (sg H0.n V) d H0.n new/\A8 H H0 (sg H0.n V) d lp
def ub(body:Env->HT->Hint->(Exit->Env->HT->Hint->Prop)->Prop)(K:Exit->Env->HT->Hint->Prop):Nat->Env->HT->Hint->Prop
 |0,_,_,_=>False
 |n+1,E,H,h=>body E H h fun e E' H' h'=>match e with| .normal=>ub body K n E' H' h'|e=>K e E' H' h'
def uc{α:Type}(N:Nat)(H:HT)(d:Nat)(ML:List Nat)(slots:α->List (Nat×Value))(chg:α->List (Nat×Bool×ab))(new:α->List (Bool×ab))(lp:α->List (Nat×List (Nat×Value)))(I:α->Prop)
  (K:Exit->Env->HT->Hint->Prop) (e:Exit) (E':Env) (H':HT) (h':Hint):Prop :=
 match e with
 | .normal=>io h' E' H' fun E' H' h'=>match h' with| .again V => ∃x,I x/\nE N E' H' H d ML V (slots x) (chg x) (new x) (lp x)|_=>False
 |e=>K e E' H' h'
def yp:Code->Option Exit
 | .ret=>some .ret
 | .exit id=>some (.exit id)
 |_=>none
def MS.also(id:Nat)(M:MS):MS:=match M with|none=>none|some l=>some (id :: l)
def pA(K:Exit->Env->HT->Hint->Prop)(E:Env)(H:HT)(h:Hint):Option Code->Prop
 |none=>K .normal E H h
 |some c=>match yp c with|some e=>K e E H h|none=>False
def wy(K:Exit->Env->HT->Hint->Prop)(E:Env)(H:HT)(h:Hint)(pe:Option Code):LoopState->Prop
 | .busy=>False
 |_=>pA K E H h pe
def df(P:Program)(call:l6)(app:oa)(dm:Value->MS)(N rounds:Nat)(inr:Bool):Code->Nat->MS->Env->HT->Hint->(Exit->Env->HT->Hint->Prop)->Prop
 | .region _ ops draw,base,M,E,H,h,K =>
  ww base M h E H fun E H h =>
  cond draw (qG P app base M dm (dH ops.toList []) ops (As ops.toList) E H [] h (fun E' H' h'=>K .normal E' H' h'))
   (wv P app base 0 M dm ops ops.toList E H h (fun E' H' h'=>K .normal E' H' h'))
 | .skip,_,_,E,H,h,K=>K .normal E H h
 | .label _,_,_,E,H,h,K=>K .normal E H h
 | .ret,_,_,E,H,h,K=>K .ret E H h
 | .exit id,_,_,E,H,h,K=>K (.exit id) E H h
 | .seq a b,base,M,E,H,h,K=>df P call app dm N rounds inr a base M E H h fun e E' H' h'=>match e with| .normal=>df P call app dm N rounds inr b base M E' H' h' K|e=>K e E' H' h'
 | .scope b,base,M,E,H,h,K=>df P call app dm N rounds inr b base M E H h fun e E' H' h'=>match e with| .goto _=>False|e=>K e E' H' h'
 | .block id b,base,M,E,H,h,K=>df P call app dm N rounds inr b base M E H h fun e E' H' h'=>match e with| .exit id'=>cond (Nat.beq id' id) (K .normal E' H' h') (K (.exit id') E' H' h')|e=>K e E' H' h'
 | .cond (.tmp t) a b,base,M,E,H,h,K =>
  io h E H fun E H h =>
  match E.get t with
  | .bool c =>
   match h with
   | .fork h1 h2=>(c=true->df P call app dm N rounds inr a base M (E.put (some t) (.bool true)) H h1 K)/\(c=false->df P call app dm N rounds inr b base M (E.put (some t) (.bool false)) H h2 K)
   | .join d α ML slots chg new lp I h1 h2 next =>
    l7 base M ML=true/\(c=true->df P call app dm N rounds inr a H.n (some ML) (E.put (some t) (.bool true)) H h1 (fun e E' H' h'=>uc N H d ML slots chg new lp I (fun e'=>K e') e E' H' h')) /\
    (c=false->df P call app dm N rounds inr b H.n (some ML) (E.put (some t) (.bool false)) H h2 (fun e E' H' h'=>uc N H d ML slots chg new lp I (fun e'=>K e') e E' H' h')) /\
    ∀x,I x->K .normal (iK (slots x)) (gM H (chg x) (new x) (lp x)) (next x)
   |h=>match h.dflt with|some h'=>(match c with|true=>df P call app dm N rounds inr a base M E H h' K|false=>df P call app dm N rounds inr b base M E H h' K)|none=>False
  |_=>False
 | .cond (.const (.bool c)) x y,base,M,E,H,h,K =>
  match c with
  |true=>df P call app dm N rounds inr x base M E H h K
  |false=>df P call app dm N rounds inr y base M E H h K
 | .loop b,base,M,E,H,h,K =>
  io h E H fun E H h =>
  match h with
  | .inv d α x0 σ0 ML slots chg new lp I μ hb =>
   l7 base M ML=true/\I x0/\nE N E H H d ML σ0 (slots x0) (chg x0) (new x0) (lp x0)/\(∀x,(sw H.n ML (chg x)&&xf H.n ML (chg x) (lp x))=true) /\
   ∀x,I x->df P call app dm N rounds inr b H.n (some ML) (iK (slots x)) (gM H (chg x) (new x) (lp x)) (hb x) fun e E' H' h'=>match e with
    | .normal=>io h' E' H' fun E' H' h'=>match h' with| .again V => ∃x',I x'/\μ x'<μ x/\nE N E' H' H d ML V (slots x') (chg x') (new x') (lp x')|_=>False
    |e=>K e E' H' h'
  |h=>ub (fun E H h K=>df P call app dm N rounds inr b base M E H h K) K rounds E H h
 | .rangeFunc (.tmp t) ps as bd,base,M,E,H,h,K =>
  io h E H fun E H h =>
  cond inr False
   (match E.get t with
   | .func (.func gf) first cap =>
    match (match h with| .into Mc h'=>some (Mc,h')|h=>match h.dflt with|some h'=>some (none,h')|none=>none) with
    |some (Mc,h') =>
     match qD base H.n M Mc&&Nat.ble base H.n with
     |true=>call gf (first.toList ++ [.func (.yield H.n) #[] #[]]++cap.toList) (H.push (.loop .ready none E.get N ps as bd)) (MS.also H.n Mc) h' (fun _ H' h'' =>
       match H'.get H.n with
       |some (.loop st pe _ _ _ _ _)=>wy K E (H'.set H.n .dead) h'' pe st
       |_=>False)
     |false=>False
    |none=>False
   |_=>False)
 |_,_,_,_,_,_,_=>False
def sV(P:Program)(call:l6)(app:oa)(dm:Value->MS)(rounds:Nat)(mixed:Bool)(L:Nat)(args:List Value)(H:HT)(M:MS)(h:Hint)(K:KV):Prop :=
 match H.get L with
 |some (.loop .ready _ tm N ps as bd) =>
  match Nat.beq args.length ps.size&&(ps.toList.all (fun p=>decide (p<N))&&(codeOk N P.globals.size mixed as&&(codeOk N P.globals.size mixed bd&&(match M with|none=>Nat.blt L H.n|some l=>kZ L l)))) with
  |true=>df P call app dm N rounds true as H.n M ⟨mH ps.toList args tm,.leaf⟩ H h fun e E1 H1 h1 =>
   match e with
   | .normal =>
    match H1.get L with
    |some (.loop .ready pe1 tm1 N1 ps1 as1 bd1)=>df P call app dm N rounds true bd H.n M E1 (H1.set L (.loop .busy pe1 tm1 N1 ps1 as1 bd1)) h1 fun e E2 H2 h2 =>
     io h2 E2 H2 fun E2 H2 h2 =>
     match tD e with
     |some j =>
      match H2.get L with
      |some (.loop _ _ tm2 N2 ps2 as2 bd2)=>K (.bool j.isNone) (H2.set L (.loop (match j.isNone with|true => .ready|false => .done) j tm2 N2 ps2 as2 bd2)) h2
      |_=>False
     |none=>False
    |_=>False
   |_=>False
  |false=>False
 |_=>False
def iG(P:Program)(T:Tm)(H:HT):ResultVar->Option Value
 | .tmp t=>some (T t)
 | .cell a ty=>(nk P ty (T a) H).map (·.1)
def uD(P:Program)(rs:List ResultVar)(T:Tm)(H:HT):Option Value :=
 match rs with
 | [r] =>iG P T H r
 | [r,r2] =>match iG P T H r,iG P T H r2 with|some v,some v2=>some (.tuple ⟨[v,v2]⟩)|_,_=>none
 | [r,r2,r3] =>match iG P T H r,iG P T H r2,iG P T H r3 with|some v,some v2,some v3=>some (.tuple ⟨[v,v2,v3]⟩)|_,_,_=>none
 | [] =>some (.tuple ⟨[]⟩)
 |_=>none
def oC(n:Nat)(M:MS)(v:Value)(H':HT)(h:Hint)(K:KV):Prop :=
 match h with
 | .keep h'=>K v H' h'
 |h =>
  match M with
  |none=>K v H' h
  |some l =>
   match cH n v&&l.all (fun id=>match H'.get id with|some o=>ar n o|none=>true) with
   |true=>K v (H'.take n) h
   |false=>K v H' h
def wx(P:Program)(mask:Nat)(call:l6)(app:oa)(dm:Value->MS)(rounds:Nat)(f:FuncId)(args:List Value)(H:HT)(M:MS)(h:Hint)(K:KV):Prop :=
 match Nat.testBit mask f with
 |true =>
  match P.funcs[f]? with
  |some fn =>
   match fn.body with
   |some c =>
    match Nat.ble args.length fn.ntmps with
    |true=>df P call app dm fn.ntmps rounds false c H.n M ⟨uJ args,.leaf⟩ H h fun e E' H' h' =>
     match e with
     | .normal=>io h' E' H' fun E' H' h'=>match uD P fn.results.toList E'.get H' with|some v=>vas h' v H' (fun v H' h'=>oC H.n M v H' h' K)|none=>False
     | .ret=>io h' E' H' fun E' H' h'=>match uD P fn.results.toList E'.get H' with|some v=>vas h' v H' (fun v H' h'=>oC H.n M v H' h' K)|none=>False
     |_=>False
    |false=>False
   |none=>False
  |none=>False
 |false=>False
def yY(call:l6)(yld:Nat->List Value->HT->MS->Hint->KV->Prop)(fv:Value)(args:List Value)(H:HT)(M:MS)(h:Hint)(K:KV):Prop :=
 match fv with
 | .func (.func f) first cap=>call f (first.toList++args++cap.toList) H M h K
 | .func (.yield L) ⟨[]⟩ ⟨[]⟩=>yld L args H M h K
 |_=>False
def vF(P:Program)(mask:Nat)(dm:Value->MS)(rounds:Nat)(mixed:Bool):Nat->Bool->Nat->List Value->HT->MS->Hint->KV->Prop
 |0,_,_,_,_,_,_,_=>False
 |n+1,b,f,args,H,M,h,K =>
  match b with
  |true=>wx P mask (vF P mask dm rounds mixed n true) (yY (vF P mask dm rounds mixed n true) (vF P mask dm rounds mixed n false)) dm rounds f args H M h K
  |false=>sV P (vF P mask dm rounds mixed n true) (yY (vF P mask dm rounds mixed n true) (vF P mask dm rounds mixed n false)) dm rounds mixed f args H M h K
def jk(P:Program)(call:l6):Prop:=∀f args H M h K,call f args H M h K->am P f args H.list (M.list H.n) (fun v H' => ∃H2 h2,H'=H2.list/\K v H2 h2)
def jY(P:Program)(app:oa):Prop:=∀fv args H M h K,app fv args H M h K->gS P fv args H.list (M.list H.n) (fun v H' => ∃H2 h2,H'=H2.list/\K v H2 h2)
def tW(P:Program)(yld:Nat->List Value->HT->MS->Hint->KV->Prop):Prop:=∀L args H M h K,yld L args H M h K->gS P (.func (.yield L) #[] #[]) args H.list (M.list H.n) (fun v H' => ∃H2 h2,H'=H2.list/\K v H2 h2)
theorem om{H:HT}{id:Nat}{o:ab}(h:H.get id=some o):(H.set id o).list=H.list:=by
 rw[HT.bw]
 refine List.ext_getElem? fun i =>?_
 rw[List.getElem?_set]
 split
 ·rename_i e;subst e
  have:=HT.aK H id
  rw[h]at this
  split
  ·exact this.symm
  ·rename_i hl;rw[List.getElem?_eq_none (by omega)]at this;cases this
 ·rfl
theorem cw:∀{h:Hint} {E:Env} {H:HT} {k:Env->HT->Hint->Prop},io h E H k->∃E' H' h',E'.get=E.get/\H'.list=H.list/\k E' H' h':=by
 intro h
 induction h with
 |obj id o h ih =>
  intro E H k hk
  obtain ⟨h1,h2⟩:=hk
  obtain ⟨E',H',h',e1,e2,e3⟩:=ih h2
  exact ⟨E',H',h',e1,e2.trans (om h1),e3⟩
 |slot t v h ih =>
  intro E H k hk
  obtain ⟨h1,h2⟩:=hk
  obtain ⟨E',H',h',e1,e2,e3⟩:=ih h2
  exact ⟨E',H',h',e1.trans (Env.d9 E t v h1),e2,e3⟩
 |bind α f ih =>
  intro E H k hk
  obtain ⟨x,hk⟩:=hk
  exact ih x hk
 |cas p a b iha ihb =>
  intro E H k hk
  by_cases hp:p
  ·exact iha (hk.1 hp)
  ·exact ihb (hk.2 hp)
 |_=>intro E H k hk;exact ⟨E,H,_,rfl,rfl,hk⟩
theorem vq:∀{h:Hint} {v:Value} {H:HT} {k:Value->HT->Hint->Prop},vas h v H k->∃v2 gs H' h',wk v v2/\H'.list=H.list++gs/\k v2 H' h':=by
 intro h
 induction h with
 |as x h ih =>
  intro v H k hk
  obtain ⟨h1,h2⟩:=hk
  obtain ⟨v2,gs,H',h',e1,e2,e3⟩:=ih h2
  exact ⟨v2,gs,H',h',fun Z y hy=>e1 Z y (h1 Z y hy),e2,e3⟩
 |ghost o h ih =>
  intro v H k hk
  obtain ⟨v2,gs,H',h',e1,e2,e3⟩:=ih hk
  exact ⟨v2,o :: gs,H',h',e1,by rw[e2,HT.bT,List.append_assoc];rfl,e3⟩
 |_=>intro v H k hk;exact ⟨v,[],H,_,ah v,(List.append_nil _).symm,hk⟩
theorem HT.n_eq{H H':HT}(h:H'.list=H.list):H'.n=H.n:=by rw[<- HT.length,<- HT.length,h]
section
variable {app:oa} {call:l6} {dm:Value->MS}
theorem pt{fv:Value}{args:List Value}{H:Heap}{Mc:List Nat}{v:Value}{H':Heap}(h:vm P fv args H Mc v H'):gS P fv args H Mc (Is v H'):=by
 unfold vm at h
 split at h
 ·exact gS.func h
 ·exact h
theorem tT{fv:Value}{args:List Value}{H:Heap}{Mc:List Nat}{Q:Value->Heap->Prop}(h:B7 P fv args H Mc Q):gS P fv args H Mc Q:=by
 unfold B7 at h
 split at h
 ·exact gS.func h
 ·exact h
inductive Stepped (P:Program) (wok:MS->Bool) (o:Oper) (E:Env) (H:HT) (K:Env->HT->Option Nat->Hint->Prop):Prop
 |pure {v:Value} {rd:Option Nat} {E2:Env} {h2:Hint} (hc:d6 o.op = .pure) (hp:dq P o.op (ev E.get) H.list=some (v,rd)) (he:E2.get=put E.get o.dst v) (hk:K E2 H rd h2)
 |alloc {v:Value} {ob:ab} {h2:Hint} (hc:d6 o.op = .alloc) (hp:hX P o.op (ev E.get) H.n=some (v,ob)) (hk:K (E.put o.dst v) (H.push ob) (some H.n) h2)
 |write {v:Value} {H':HT} {ms:List Nat} {h2:Hint} (hc:d6 o.op = .write) (hp:d7 P o.op (ev E.get) H.list=some (v,H'.list,ms)) (hw:wok (some ms)=true) (hk:K (E.put o.dst v) H' none h2)
 |call {f:Operand} {args:Array Operand} {ts:Array TypeId} {Mc:MS} (hc:d6 o.op = .call) (hop:o.op = .call ⟨.value f,args,ts⟩) (hw:wok Mc=true)
   (ha:gS P (ev E.get f) (args.toList.map (ev E.get)) H.list (Mc.list H.n) (fun v H' => ∃H2 h2,H'=H2.list/\K (E.put o.dst v) H2 none h2))
 |iter (hc:d6 o.op = .iter) (hk:∀(base:Nat) (M:List Nat),(∀id,wok (some [id])=true->id<base->id∈M)->kM P base M o.op (ev E.get) H.list (fun v H' => ∃H2 h2,H'=H2.list/\K (E.put o.dst v) H2 none h2))
theorem mn{H:HT}:∀{l:List (Nat×ab)},ss H l->su H.list l
 | [],_=>trivial
 |(id,o) :: r,h=>⟨by rw[HT.aK];exact h.1,mn h.2⟩
theorem gT:∀(new:List ab) (H:HT),(fW H new).list=tH H.list new:=by
 have key:∀(new:List ab) (H:HT),(fW H new).list=H.list++new:=by
  intro new
  induction new with
  |nil=>intro H;simp[fW]
  |cons o r ih=>intro H;simp only[fW,ih,HT.bT,List.append_assoc,List.cons_append,List.nil_append]
 intro new H
 rw[key]
 cases new with
 |nil=>simp[tH]
 |cons o r=>rfl
theorem jB:∀(chg:List (Nat×ab)) (H:HT),(uh H chg).list=ui H.list chg
 | [],_=>rfl
 |(id,o) :: r,H=>by
  have:=jB r (H.set id o)
  rw[HT.bw]at this
  exact this
theorem jr(ha:jY P app){wok:MS->Bool}(hw0:wok (some [])=true){o:Oper}{E:Env}{H:HT}{h:Hint}{K:Env->HT->Option Nat->Hint->Prop}(hv:mu P app wok dm o E H h K) :
  Stepped P wok o E H K:=by
 unfold mu at hv
 split at hv
 ·rename_i hc
  split at hv
  ·split at hv <;> try (exact hv.elim)
   rename_i hop t x y hop2
   split at hv <;> try (exact hv.elim)
   rename_i b hb
   cases b with
   |true =>
    refine .pure (v:=ev E.get x) (rd:=none) hc (by rw[hop2];simp only[dq];rw[show ev E.get (.tmp t) = .bool true from hb];rfl) ?_ (hv.1 rfl)
    rw[Env.get_put,Env.d9 E t _ hb]
   |false =>
    refine .pure (v:=ev E.get y) (rd:=none) hc (by rw[hop2];simp only[dq];rw[show ev E.get (.tmp t) = .bool false from hb];rfl) ?_ (hv.2 rfl)
    rw[Env.get_put,Env.d9 E t _ hb]
  ·split at hv <;> try (exact hv.elim)
   rename_i c v rd hn
   exact .pure hc (rI hn hv.1) (Env.get_put ..) hv.2
  ·split at hv <;> try (exact hv.elim)
   ·rename_i t a hop2
    split at hv <;> try (exact hv.elim)
    ·rename_i id off hp
     split at hv <;> try (exact hv.elim)
     rename_i own z cs hg
     refine .pure hc ?_ (Env.get_put ..) hv.2
     rw[hop2]
     simp only[dq,hp,jO,ju,HT.aK,hg,hv.1]
     rfl
    ·rename_i id off k hp
     split at hv <;> try (exact hv.elim)
     rename_i z cs hg
     split at hv <;> try (exact hv.elim)
     rename_i hfit
     refine .pure hc ?_ (Env.get_put ..) hv.2
     rw[hop2]
     simp only[dq,hp,jO,ju,HT.aK,hg,hfit,if_true,hv.1]
     rfl
    ·rename_i off cs hp
     refine .pure hc ?_ (Env.get_put ..) hv.2
     rw[hop2]
     simp only[dq,hp,jO,hv.1]
   ·rename_i t x i hop2
    refine .pure (rd:=none) hc ?_ (Env.get_put ..) hv.2
    rw[hop2]
    simp only[dq,hv.1]
    rfl
   ·rename_i t x i ok hop2
    split at hv <;> try (exact hv.elim)
    rename_i kt el id g1 g2
    split at hv <;> try (exact hv.elim)
    rename_i es z g3 g4 g5
    refine .pure hc ?_ (Env.get_put ..) hv.2
    rw[hop2]
    simp only[dq,i9,g1,g2,g4,g5,HT.aK,g3,hv.1]
    rfl
  ·split at hv <;> try (exact hv.elim)
   split at hv <;> try (exact hv.elim)
   rename_i v rd hp
   exact .pure hc (p7 hp) (Env.get_put ..) hv
 ·rename_i hc
  split at hv
  ·split at hv <;> try (exact hv.elim)
   rename_i c v ob hn
   exact .alloc hc (qe hn hv.1) hv.2
  ·split at hv <;> try (exact hv.elim)
   split at hv <;> try (exact hv.elim)
   rename_i v ob hp
   exact .alloc hc hp hv
 ·rename_i hc
  split at hv
  ·split at hv <;> try (exact hv.elim)
   rename_i c v H' ms hn
   exact .write hc (qb hn hv.1) hv.2.1 hv.2.2
  ·split at hv <;> try (exact hv.elim)
   rename_i c v hn
   exact .write hc (ou hn hv.1 H.list) hw0 hv.2
  ·split at hv <;> try (exact hv.elim)
   rename_i t m k v hop2
   split at hv <;> try (exact hv.elim)
   rename_i kt el id g1 g2
   split at hv <;> try (exact hv.elim)
   rename_i es g3 g4 g5
   refine .write (ms:=[id]) hc ?_ g5 hv.2
   rw[hop2]
   simp only[d7,i8,g1,g2,g4,HT.aK,g3,hv.1]
   simp only[HT.bw,Option.map_some]
  ·split at hv <;> try (exact hv.elim)
   split at hv <;> try (exact hv.elim)
   rename_i v H' ms hp
   split at hv <;> try (exact hv.elim)
   rename_i hw
   exact .write hc (oo hp) hw hv
 ·rename_i hc
  split at hv <;> try (exact hv.elim)
  rename_i f args ts hop2
  split at hv
  ·rename_i deps v new h'
   refine .call (Mc:=some []) hc hop2 hw0 ((pt (hv.2.1 H.list (HT.length H) (mn hv.1))).mono (fun _ h _=>h) ?_)
   rintro v2 H2 ⟨rfl,rfl⟩
   exact ⟨_,_,(gT _ _).symm,hv.2.2⟩
  ·rename_i deps v chg new h'
   split at hv <;> try (exact hv.elim)
   rename_i hw
   refine .call (Mc:=some (uK chg)) hc hop2 hw ((pt (hv.2.1 H.list (HT.length H) (mn hv.1))).mono (fun _ h _=>h) ?_)
   rintro v2 H2 ⟨rfl,rfl⟩
   exact ⟨_,_,by rw[gT,jB],hv.2.2⟩
  ·rename_i deps ids α I v chg new h'
   split at hv <;> try (exact hv.elim)
   rename_i hw
   refine .call (Mc:=some ids) hc hop2 hw ((tT (hv.2.1 H.list (HT.length H) (mn hv.1))).mono (fun _ h _=>h) ?_)
   rintro v2 H2 ⟨x,hx,rfl,rfl⟩
   exact ⟨_,_,by rw[gT,jB],hv.2.2 x hx⟩
  ·split at hv <;> try (exact hv.elim)
   rename_i hw
   exact .call hc hop2 hw (ha _ _ _ _ _ _ hv)
  ·split at hv <;> try (exact hv.elim)
   split at hv <;> try (exact hv.elim)
   rename_i hw
   exact .call hc hop2 hw (ha _ _ _ _ _ _ hv)
 ·rename_i hc
  split at hv
  ·rename_i t x hop2
   split at hv <;> try (exact hv.elim)
   rename_i kt el id g1 g2
   split at hv <;> try (exact hv.elim)
   rename_i es h' g3 g4
   refine .iter hc fun base M _ =>?_
   rw[hop2]
   exact ⟨id,es,kt,el,g1,g2,by rw[HT.aK];exact g3,_,_,(HT.bT _ _).symm,by rw[HT.length];exact hv⟩
  ·rename_i it hop2
   split at hv <;> try (exact hv.elim)
   rename_i id g1
   split at hv <;> try (exact hv.elim)
   rename_i m n seen g2
   split at hv <;> try (exact hv.elim)
   rename_i es h1 h2 g3 g4
   refine .iter hc fun base M hM =>?_
   rw[hop2]
   exact ⟨rfl,id,m,n,seen,es,g1,by rw[HT.aK];exact g2,by rw[HT.aK];exact g3,hv.1,hM id g4,fun i hi hs=>⟨_,_,(HT.bw _ _ _).symm,hv.2.1 i hi hs⟩,fun hall=>⟨_,_,rfl,hv.2.2 hall⟩⟩
  ·rename_i it hop2
   split at hv <;> try (exact hv.elim)
   rename_i id g1
   split at hv <;> try (exact hv.elim)
   rename_i m n seen g2
   split at hv <;> try (exact hv.elim)
   rename_i es v h' g3
   refine .iter hc fun base M _ =>?_
   rw[hop2]
   exact ⟨id,m,n,seen,es,v,g1,by rw[HT.aK];exact g2,by rw[HT.aK];exact g3,hv.1,hv.2.1,_,_,rfl,hv.2.2⟩
  ·exact hv.elim
 ·exact hv.elim
theorem jZ{wok:MS->Bool}{ops:Array Oper}{o:Oper}{E:Env}{H:HT}{h:Hint}{K:Env->HT->Option Nat->Hint->Prop}{oB:Env->HT->Hint->Prop}(hv:pz P app wok dm ops o E H h K oB) :
  gv o ops E.get=true/\((cB o ops E.get=true/\∃E1 H1 h1,E1.get=E.get/\H1.list=H.list/\mu P app wok dm o E1 H1 h1 K)∨(cB o ops E.get=false/\∃E2 H1 h2,E2.get=put E.get o.dst undef/\H1.list=H.list/\oB E2 H1 h2)):=by
 unfold pz at hv
 rw[CJ,CI]at hv
 obtain ⟨E0,H0,h0,e1,e2,hv⟩:=cw hv
 rw[<- e1]
 unfold gv cB
 cases hg:o.guard with
 |none =>
  rw[hg]at hv
  exact ⟨rfl,.inl ⟨rfl,E0,H0,h0,rfl,e2,hv⟩⟩
 |some gw =>
  obtain ⟨g,want⟩:=gw
  rw[hg]at hv
  simp only at hv ⊢
  cases hd:(ops[g]?).bind (·.dst) with
  |none =>
   rw[hd]at hv
   exact ⟨rfl,.inr ⟨rfl,_,H0,h0,Env.get_put ..,e2,hv⟩⟩
  |some d =>
   rw[hd]at hv
   simp only at hv ⊢
   have off:∀{hh:Hint},oB (E0.put o.dst undef) H0 hh->∃E2 H1 h2,E2.get=put E0.get o.dst undef/\H1.list=H.list/\oB E2 H1 h2:=fun hk=>⟨_,H0,_,Env.get_put ..,e2,hk⟩
   have fork:∀b:Bool,E0.get d = .bool b->(E0.put (some d) (.bool b)).get=E0.get:=fun b hb=>Env.d9 E0 d _ hb
   split at hv
   ·rename_i b hb
    rw[hb]
    refine ⟨rfl,?_⟩
    split at hv
    ·rename_i h1 h2
     cases b with
     |true =>
      have hv:=hv.1 rfl
      cases want with
      |true =>
       obtain ⟨E1,H1,h1',f1,f2,hv⟩:=cw hv
       exact .inl ⟨rfl,E1,H1,h1',f1.trans (fork _ hb),f2.trans e2,hv⟩
      |false=>exact .inr ⟨rfl,_,H0,h1,by rw[Env.get_put,fork _ hb],e2,hv⟩
     |false =>
      have hv:=hv.2 rfl
      cases want with
      |true=>exact .inr ⟨rfl,_,H0,h2,by rw[Env.get_put,fork _ hb],e2,hv⟩
      |false =>
       obtain ⟨E1,H1,h1',f1,f2,hv⟩:=cw hv
       exact .inl ⟨rfl,E1,H1,h1',f1.trans (fork _ hb),f2.trans e2,hv⟩
    ·cases b <;> cases want
     ·exact .inl ⟨rfl,E0,H0,_,rfl,e2,hv⟩
     ·exact .inr ⟨rfl,off hv⟩
     ·exact .inr ⟨rfl,off hv⟩
     ·exact .inl ⟨rfl,E0,H0,_,rfl,e2,hv⟩
   ·exact hv.elim
   ·rename_i n1 n2
    have h1:(match E0.get d with| .chan _=>false|_=>true)=true:=by
     split
     ·rename_i q;exact absurd q (n2 _)
     ·rfl
    have h2:(match E0.get d with| .bool b=>b == want|_=>false)=false:=by
     split
     ·rename_i q;exact absurd q (n1 _)
     ·rfl
    exact ⟨h1,.inr ⟨h2,off hv⟩⟩
theorem B9(base n:Nat)(M:MS)(bs:List Nat)(i:Nat)(log:List (Nat×Option Nat))(m:Nat):(qD base n M (some [])&&na bs i log (MS.list (some []) m))=true:=by
 rw[Bool.and_eq_true]
 constructor
 ·unfold qD l7;cases M <;> rfl
 ·unfold na
  rw[List.all_eq_true]
  intro p _
  cases p.2 <;> simp[MS.list,kZ]
theorem B8(base n:Nat)(M:MS):qD base n M (some [])=true:=by unfold qD l7;cases M <;> rfl
theorem eX{base:Nat}{M:MS}:∀{ts:List Nat} {E:Env} {H:HT} {k:Env->HT->Prop},my base M ts E H k->∃E2 H2,bO P base (M.list base) E.get H.list E2.get H2.list/\k E2 H2
 | [],E,H,k,hv=>⟨E,H,bO.refl,hv⟩
 |t :: ts,E,H,k,hv=>by
  unfold my at hv
  split at hv <;> try (exact hv.elim)
  ·rename_i id tag n cap hT
   split at hv <;> try (exact hv.elim)
   rename_i hw
   split at hv <;> try (exact hv.elim)
   rename_i z cs hg
   simp only[Bool.and_eq_true]at hw
   obtain ⟨E2,H2,g,hk⟩:=eX hv
   refine ⟨E2,H2,bO.trans (bO.freeze (cs:=cs) (z:=z) hT (tag:=tag) ?_ (by rw[HT.aK];exact hg) (fun hb=>dV hw.2 id (List.mem_cons_self ..) hb)) ?_,hk⟩
   ·have:=hw.1
    split at this
    ·exact .inl rfl
    ·exact .inr (congrArg some (Nat.eq_of_beq_eq_true this))
   ·rwa [Env.get_put,HT.bw]at g
  ·rename_i n cs hT
   obtain ⟨E2,H2,g,hk⟩:=eX hv
   refine ⟨E2,H2,bO.trans (bO.read (n:=n) (cs:=cs) hT) ?_,hk⟩
   rw[Env.get_put,HT.bT]at g
   rw[HT.length];exact g
  ·rename_i vs hT
   split at hv <;> try (exact hv.elim)
   ·rename_i i id tag n cap hi
    split at hv <;> try (exact hv.elim)
    rename_i hw
    split at hv <;> try (exact hv.elim)
    rename_i z cs hg
    simp only[Bool.and_eq_true]at hw
    obtain ⟨E2,H2,g,hk⟩:=eX hv
    refine ⟨E2,H2,bO.trans (bO.zP (cs:=cs) (z:=z) hT (jW hi).2 (tag:=tag) ?_ (by rw[HT.aK];exact hg) (fun hb=>dV hw.2 id (List.mem_cons_self ..) hb)) ?_,hk⟩
    ·have:=hw.1
     split at this
     ·exact .inl rfl
     ·exact .inr (congrArg some (Nat.eq_of_beq_eq_true this))
    ·rwa [Env.get_put,HT.bw]at g
   ·rename_i i n cs hi
    obtain ⟨E2,H2,g,hk⟩:=eX hv
    refine ⟨E2,H2,bO.trans (bO.Cg (n:=n) (cs:=cs) hT (jW hi).2) ?_,hk⟩
    rw[Env.get_put,HT.bT]at g
    rw[HT.length];exact g
theorem uf{A F k d:Nat}:∀(ts:List Nat) (E:Env),(tfE A F k d ts E).get=tfT A F k d ts E.get
 | [],E=>rfl
 |t :: ts,E=>by unfold tfE tfT;rw[uf ts,Env.get_put]
theorem oE{A F k d:Nat}:∀(bs:List Nat) (H:HT),(zc A F k d bs H).list=tfH A F k d bs H.list
 | [],H=>rfl
 |b :: bs,H=>by
  unfold zc tfH
  rw[oE bs,HT.aK]
  cases H.get b with
  |none=>rfl
  |some o=>cases o <;> first|rfl|(simp only[HT.bw])
theorem lC{base:Nat}{M:MS}{kk d:Nat}{ts bs:List Nat}:∀{l:List (Nat×Nat)} {E:Env} {H:HT} {k:Env->HT->Prop},ud base M kk d ts bs l E H k->∃E2 H2,bO P base (M.list base) E.get H.list E2.get H2.list/\k E2 H2
 | [],E,H,k,hv=>⟨E,H,bO.refl,hv⟩
 |(A,F) :: l,E,H,k,hv=>by
  unfold ud at hv
  split at hv <;> try (exact hv.elim)
  rename_i hw
  split at hv <;> try (exact hv.elim)
  rename_i zA cs hA
  split at hv <;> try (exact hv.elim)
  rename_i z ms hF
  obtain ⟨⟨h1,h2,h3⟩,hv⟩:=hv
  have hM:=dV hw
  obtain ⟨E2,H2,g,hk⟩:=lC hv
  refine ⟨E2,H2,bO.trans (bO.fam (A:=A) (F:=F) (k:=kk) (d:=d) (ts:=ts) (bs:=bs) (by rw[HT.aK];exact hA) (by rw[HT.aK];exact hF) h1 h2 h3 (fun h=>hM A (by simp) h) (fun h=>hM F (by simp) h) (fun b hb h=>hM b (by simp[hb]) h)) ?_,hk⟩
  rw[uf,oE,HT.bw,HT.bw]at g
  exact g
theorem mv{base:Nat}{M:MS}{E:Env}:∀(zs:List Nat) (H:HT),bO P base (M.list base) E.get H.list E.get (AU zs H).list
 | [],H=>bO.refl
 |z :: zs,H=>by
  have:=mv (base:=base) (M:=M) (E:=E) zs (H.push (.fam z []))
  rw[HT.bT]at this
  exact (bO.rp z).trans this
theorem fU{base:Nat}{M:MS}{T:Tm}:∀{l:List BP} {H:HT} {k:HT->Prop},mt base M l H k->∃H2,bO P base (M.list base) T H.list T H2.list/\k H2
 | [],H,k,hv=>⟨H,bO.refl,hv⟩
 | .new z :: l,H,k,hv=>by
  obtain ⟨H2,g,hk⟩:=fU (l:=l) hv
  refine ⟨H2,bO.trans (fun B Z w N tmps h1 h2 h3=>⟨Z,Post.wU h1 h2 (.fam 0 [.int .i64 (z:Int)]),h3⟩) ?_,hk⟩
  rwa [HT.bT]at g
 | .take hd t F k n z row :: l,H,kk,hv=>by
  unfold mt at hv
  split at hv <;> try (exact hv.elim)
  rename_i hw
  split at hv <;> try (exact hv.elim)
  rename_i zh hs hhd
  split at hv <;> try (exact hv.elim)
  rename_i ms hF
  obtain ⟨⟨c1,c2,c3,c4⟩,hv⟩:=hv
  have hM:=dV hw
  obtain ⟨H2,g,hk⟩:=fU (l:=l) hv
  refine ⟨H2,bO.trans (bO.take (hd:=hd) (zh:=zh) (t:=t) (F:=F) (k:=k) (n:=n) (z:=z) (hs:=hs) (ms:=ms) (row:=row) (by rw[HT.aK];exact hhd) (by rw[HT.aK];exact hF) c1 c2 c3 c4 (fun h=>hM hd (by simp) h) (fun h=>hM F (by simp) h)) ?_,hk⟩
  rw[HT.bw,HT.bT,HT.bw,<- HT.length]at g
  exact g
 | .give hd t F A k n z q :: l,H,kk,hv=>by
  unfold mt at hv
  split at hv <;> try (exact hv.elim)
  rename_i hw
  split at hv <;> try (exact hv.elim)
  rename_i zh hs hhd
  split at hv <;> try (exact hv.elim)
  rename_i ms hF
  split at hv <;> try (exact hv.elim)
  rename_i z' row hA
  split at hv <;> try (exact hv.elim)
  rename_i hzz
  have hzz:=Nat.eq_of_beq_eq_true hzz
  subst hzz
  obtain ⟨⟨c1,c2,c3,c4,c5,c6⟩,hv⟩:=hv
  rw[Bool.and_eq_true]at hw
  have hM:=dV hw.1
  have hne:A≠hd:=fun e=>by rw[e,Nat.beq_refl]at hw;exact absurd hw.2 (by decide)
  obtain ⟨H2,g,hk⟩:=fU (l:=l) hv
  refine ⟨H2,bO.trans (bO.give (hd:=hd) (zh:=zh) (t:=t) (F:=F) (A:=A) (k:=k) (n:=n) (hs:=hs) (ms:=ms) (row:=row) (tag:=match q with|true=>some 1|false=>none) (by rw[HT.aK];exact hhd) (by rw[HT.aK];exact hF) (by rw[HT.aK];exact hA) c1 ?_ c3 c4 c5 c6 (fun h=>hM hd (by simp) h) (fun h=>hM F (by simp) h) (fun h=>hM A (by simp) h) hne) ?_,hk⟩
  ·cases q with
   |true=>exact .inl rfl
   |false=>exact .inr ⟨rfl,c2.resolve_left (by decide)⟩
  ·rw[HT.bw,HT.bw,HT.bw]at g
   exact g
theorem mw{base:Nat}{M:MS}{h:Hint}{E:Env}{H:HT}{k:Env->HT->Hint->Prop}(hv:ww base M h E H k):∃E2 H2 h2,bO P base (M.list base) E.get H.list E2.get H2.list/\k E2 H2 h2:=by
 unfold ww at hv
 split at hv
 ·obtain ⟨E2,H2,g,hk⟩:=eX hv;exact ⟨E2,H2,_,g,hk⟩
 ·exact ⟨E,_,_,mv _ _,hv⟩
 ·obtain ⟨E2,H2,g,hk⟩:=lC hv;exact ⟨E2,H2,_,g,hk⟩
 ·obtain ⟨H2,g,hk⟩:=fU hv;exact ⟨E,H2,_,g,hk⟩
 ·exact ⟨E,H,_,bO.refl,hv⟩
theorem sW(ha:jY P app){base n:Nat}{M:MS}{ops:Array Oper}:∀{os:List Oper} {E:Env} {H:HT} {h:Hint} {K:Env->HT->Hint->Prop},wv P app base n M dm ops os E H h K ->
  tY P base (M.list base) ops os E.get H.list (fun T H' => ∃E2 H2 h2,T=E2.get/\H'=H2.list/\K E2 H2 h2):=by
 intro os
 induction os with
 |nil=>intro E H h K hv;exact ⟨E,H,h,rfl,rfl,hv⟩
 |cons o os ih =>
  intro E H h K hv
  simp only[wv]at hv
  obtain ⟨E0,H0,h0,hgh,hv⟩:=mw (P:=P) hv
  obtain ⟨hkn,hv⟩:=jZ hv
  simp only[tY]
  refine ⟨_,_,hgh,hkn,?_⟩
  rcases hv with ⟨hw,E1,H1,h1,e1,e2,hv⟩|⟨hw,E2,H1,h2,e1,e2,hv⟩
  ·rw[hw,if_pos rfl]
   have hn:=HT.n_eq e2
   rw[<- e1,<- e2]
   unfold vk
   rcases jr ha (by first|exact B8 .. |exact B9 ..) hv with ⟨hc,hp,he,hk⟩|⟨hc,hp,hk⟩|⟨hc,hp,hwk,hk⟩|⟨hc,hop,hwk,hcall⟩|⟨hc,hk⟩
   ·rw[hc];exact ⟨_,_,hp,by have:=ih hk;rw[he]at this;exact this⟩
   ·rw[hc];exact ⟨_,_,by rw[HT.length];exact hp,by have:=ih hk;rw[Env.get_put,HT.bT]at this;exact this⟩
   ·rw[hc];exact ⟨_,_,_,hp,fun id hid hb=>fq (n:=H1.n) (Mc:=some _) (by rw[hn];exact hwk) id hid hb,by have:=ih hk;rw[Env.get_put]at this;exact this⟩
   ·rw[hc,hop]
    refine ⟨_,hcall.mono (fun _ h _=>h) ?_,fun id hid hb=>fq (n:=H1.n) (by rw[hn];exact hwk) id hid hb⟩
    rintro v H' ⟨H2,h2,rfl,hk⟩
    rw[<- Env.get_put];exact ih hk
   ·rw[hc]
    refine kM.mono (hk base (M.list base) fun id hw hb=>fq (n:=H1.n) (Mc:=some [id]) (by rw[hn];exact hw) id (List.mem_singleton.2 rfl) hb) ?_
    rintro v H' ⟨H2,h2,rfl,hk⟩
    rw[<- Env.get_put];exact ih hk
  ·rw[hw,if_neg (by simp)]
   rw[<- e1,<- e2]
   exact ih hv
theorem qF(ha:jY P app){base:Nat}{M:MS}{bs:List Nat}{ops:Array Oper}:∀{is:List Nat} {E:Env} {H:HT} {log:List (Nat×Option Nat)} {h:Hint} {K:Env->HT->Hint->Prop},qG P app base M dm bs ops is E H log h K ->
  gR P base (M.list base) bs ops is E.get H.list log (fun T H' => ∃E2 H2 h2,T=E2.get/\H'=H2.list/\K E2 H2 h2):=by
 intro is
 induction is with
 |nil=>intro E H log h K hv;exact ⟨E,H,h,rfl,rfl,hv⟩
 |cons i is ih =>
  intro E H log h K hv
  simp only[qG]at hv
  simp only[gR]
  split at hv <;> try (exact hv.elim)
  rename_i o ho
  simp only[ho]
  split at hv
  ·exact hv.elim
  rename_i hni
  obtain ⟨hkn,hv⟩:=jZ hv
  refine ⟨hkn,?_⟩
  rcases hv with ⟨hw,E1,H1,h1,e1,e2,hv⟩|⟨hw,E2,H1,h2,e1,e2,hv⟩
  ·rw[hw,if_pos rfl]
   have hn:=HT.n_eq e2
   rw[<- e1,<- e2]
   unfold qx
   rcases jr ha (by first|exact B8 .. |exact B9 ..) hv with ⟨hc,hp,he,hk⟩|⟨hc,hp,hk⟩|⟨hc,hp,hwk,hk⟩|⟨hc,hop,hwk,hcall⟩|⟨hc,hk⟩
   ·rw[hc]at hk ⊢;exact ⟨_,_,hp,by have:=ih hk;rw[he]at this;exact this⟩
   ·rw[hc]at hk ⊢
    refine ⟨_,_,by rw[HT.length];exact hp,?_⟩
    have:=ih hk
    rw[Env.get_put,HT.bT]at this
    rw[HT.length]
    exact this
   ·simp only[Bool.and_eq_true]at hwk
    rw[hc]at hk ⊢
    exact ⟨_,_,_,hp,fun id hid hb=>fq (n:=H1.n) (Mc:=some _) (by rw[hn];exact hwk.1) id hid hb,lI hwk.2,by have:=ih hk;rw[Env.get_put]at this;exact this⟩
   ·simp only[Bool.and_eq_true]at hwk
    rw[hc]at hcall ⊢
    rw[hop]
    refine ⟨_,hcall.mono (fun _ h _=>h) ?_,fun id hid hb=>fq (n:=H1.n) (by rw[hn];exact hwk.1) id hid hb,lI (by rw[hn];exact hwk.2)⟩
    rintro v H' ⟨H2,h2,rfl,hk⟩
    rw[<- Env.get_put];exact ih hk
   ·exact (hni hc).elim
  ·rw[hw,if_neg (by simp)]
   rw[<- e1,<- e2]
   exact ih hv
end
theorem iR{a b:Nat}(h:Nat.blt a b=true):a<b:=by rw[Nat.blt_eq]at h;exact h
theorem BM{a b:Nat}(h:a<b):Nat.blt a b=true:=by rw[Nat.blt_eq];exact h
theorem tR{a b:Nat}(h:b<=a):Nat.blt a b=false:=by
 cases hb:Nat.blt a b with
 |false=>rfl
 |true=>have:=iR hb;omega
theorem ph(l:List (Nat×Value))(t:Nat):(iK l).get t=junk∨∃v,(t,v)∈l/\(iK l).get t=v:=by
 have key:∀(l:List (Nat×Value)) (E:Env),(l.foldl (fun E p=>E.put (some p.1) p.2) E).get t=E.get t∨∃v,(t,v)∈l/\(l.foldl (fun E p=>E.put (some p.1) p.2) E).get t=v:=by
  intro l
  induction l with
  |nil=>intro E;exact .inl rfl
  |cons p l ih =>
   intro E
   rcases ih (E.put (some p.1) p.2) with h|⟨v,h1,h2⟩
   ·rw[List.foldl_cons,h,Env.get_put]
    simp only[put,upd]
    by_cases e:t=p.1
    ·right;subst e;exact ⟨p.2,List.mem_cons_self ..,by simp⟩
    ·left;simp[e]
   ·right;exact ⟨v,List.mem_cons_of_mem _ h1,h2⟩
 rcases key l ⟨fun _=>junk,.leaf⟩ with h|h
 ·left;unfold iK;rw[h];rfl
 ·right;exact h
theorem iB{T:Tm}{V:Nat->Option Nat}{d:Nat}:∀{l:List (Nat×Value)},iC T V d l->∀t v,(t,v)∈l->wk (T t) (rn V d v)
 | [],_,t,v,h=>by cases h
 |(t',v') :: r,h,t,v,hm=>by
  rcases List.mem_cons.1 hm with e|hm
  ·cases e
   have h1:=h.1
   split at h1
   ·exact h1
   ·exact wo h1
  ·exact iB h.2 t v hm
theorem m7:∀(lp:List (Nat×List (Nat×Value))) (H:HT) (id:Nat),
  (lp.foldl cW H).n=H.n/\((∃p∈lp,p.1=id/\∃st pe tm N ps as bd,H.get id=some (.loop st pe tm N ps as bd)/\(lp.foldl cW H).get id=some (.loop st pe (iK p.2).get N ps as bd)) ∨
   ((∀p∈lp,p.1=id->∀st pe tm N ps as bd,H.get id≠some (.loop st pe tm N ps as bd))/\(lp.foldl cW H).get id=H.get id)):=by
 intro lp
 induction lp with
 |nil=>intro H id;exact ⟨rfl,.inr ⟨fun _ h=>(by cases h),rfl⟩⟩
 |cons p lp ih =>
  intro H id
  have step:(cW H p).n=H.n/\((p.1=id/\∃st pe tm N ps as bd,H.get id=some (.loop st pe tm N ps as bd)/\(cW H p).get id=some (.loop st pe (iK p.2).get N ps as bd))∨((p.1=id->∀st pe tm N ps as bd,H.get id≠some (.loop st pe tm N ps as bd))/\(cW H p).get id=H.get id)):=by
   unfold cW
   split
   ·rename_i st pe tm N ps as bd hg
    refine ⟨rfl,?_⟩
    by_cases e:p.1=id
    ·left
     refine ⟨e,st,pe,tm,N,ps,as,bd,e ▸ hg,?_⟩
     rw[<- HT.aK,HT.bw,List.getElem?_set,if_pos e]
     have hlt:p.1<H.list.length:=by
      rw[<- HT.aK]at hg
      exact (List.getElem?_eq_some_iff.1 hg).1
     rw[if_pos hlt]
    ·right
     refine ⟨fun h=>absurd h e,?_⟩
     rw[<- HT.aK,HT.bw,List.getElem?_set,if_neg e,HT.aK]
   ·rename_i hn
    exact ⟨rfl,.inr ⟨fun e st pe tm N ps as bd h=>hn st pe tm N ps as bd (e ▸ h),rfl⟩⟩
  obtain ⟨h1,h2⟩:=ih (cW H p) id
  refine ⟨h1.trans step.1,?_⟩
  rcases h2 with ⟨q,q1,q2,st,pe,tm,N,ps,as,bd,q3,q4⟩|⟨q1,q2⟩
  ·left
   refine ⟨q,List.mem_cons_of_mem _ q1,q2,st,pe,?_⟩
   rcases step.2 with ⟨_,st',pe',tm',N',ps',as',bd',s3,s4⟩|⟨_,s4⟩
   ·rw[s4]at q3;cases q3
    exact ⟨tm',N,ps,as,bd,s3,q4⟩
   ·rw[s4]at q3
    exact ⟨tm,N,ps,as,bd,q3,q4⟩
  ·rcases step.2 with ⟨s1,st',pe',tm',N',ps',as',bd',s3,s4⟩|⟨s1,s4⟩
   ·left
    exact ⟨p,List.mem_cons_self ..,s1,st',pe',tm',N',ps',as',bd',s3,by rw[List.foldl_cons,q2,s4]⟩
   ·right
    refine ⟨fun q hq e st pe tm N ps as bd h =>?_,by rw[List.foldl_cons,q2,s4]⟩
    rcases List.mem_cons.1 hq with rfl|hq
    ·exact s1 e st pe tm N ps as bd h
    ·exact q1 q hq e st pe tm N ps as bd (by rw[s4];exact h)
theorem m8{H H0:HT}{V:Nat->Option Nat}{d:Nat}:∀{lp:List (Nat×List (Nat×Value))},A8 H H0 V d lp->∀p∈lp,
  ∃tm N ps as bd tm',H0.get p.1=some (.loop .ready none tm N ps as bd)/\H.get p.1=some (.loop .ready none tm' N ps as bd)/\iC tm' V d p.2
 | [],_,p,h=>by cases h
 |(L,sl) :: r,h,p,hm=>by
  rcases List.mem_cons.1 hm with rfl|hm
  ·have h1:=h.1
   split at h1
   ·rename_i tm N ps as bd tm' N' ps' as' bd' g1 g2
    obtain ⟨⟨rfl,rfl,rfl,rfl⟩,h2⟩:=h1
    exact ⟨tm,N,ps,as,bd,tm',g1,g2,h2⟩
   ·exact h1.elim
  ·exact m8 h.2 p hm
theorem m9{n0:Nat}{ML:List Nat}{chg:List (Nat×Bool×ab)}:∀{lp:List (Nat×List (Nat×Value))},xf n0 ML chg lp=true->∀p∈lp,p.1∈ML/\p.1<n0
 | [],_,p,h=>by cases h
 |q :: r,h,p,hm=>by
  unfold xf at h
  cases h1:kZ q.1 ML with
  |false=>rw[h1]at h;cases h
  |true =>
   rw[h1,cond_true]at h
   cases h2:Nat.blt q.1 n0 with
   |false=>rw[h2]at h;cases h
   |true =>
    rw[h2,cond_true]at h
    cases h3:(chg.any fun x=>Nat.beq x.1 q.1) with
    |true=>rw[h3]at h;cases h
    |false =>
     rw[h3,cond_false]at h
     cases h4:(r.any fun x=>Nat.beq x.1 q.1) with
     |true=>rw[h4]at h;cases h
     |false =>
      rw[h4,cond_false]at h
      rcases List.mem_cons.1 hm with rfl|hm
      ·exact ⟨gK h1,iR h2⟩
      ·exact m9 h p hm
theorem td{id:Nat}{chg:List (Nat×Bool×ab)}(h:jK id chg=true):(∃p∈chg,p.1=id)/\∀p∈chg,p.1=id->p.2.2 = .dead:=by
 unfold jK at h
 cases h1:(chg.any fun p=>Nat.beq p.1 id) with
 |false=>rw[h1]at h;cases h
 |true =>
  rw[h1,cond_true]at h
  rw[List.any_eq_true]at h1
  obtain ⟨p,p1,p2⟩:=h1
  refine ⟨⟨p,p1,Nat.eq_of_beq_eq_true p2⟩,fun q hq e =>?_⟩
  rw[List.all_eq_true]at h
  have:=h q hq
  rw[show Nat.beq q.1 id=true by rw[e];exact Nat.beq_refl _,cond_true]at this
  split at this
  ·assumption
  ·cases this
theorem jg:∀(chg:List (Nat×Bool×ab)) (H:HT) (id:Nat),(∀p∈chg,p.1<H.n) ->
  (chg.foldl (fun H p=>H.set p.1 p.2.2) H).n=H.n/\((∃p∈chg,p.1=id/\(chg.foldl (fun H p=>H.set p.1 p.2.2) H).get id=some p.2.2)∨((∀p∈chg,p.1≠id)/\(chg.foldl (fun H p=>H.set p.1 p.2.2) H).get id=H.get id)):=by
 intro chg
 induction chg with
 |nil=>intro H id _;exact ⟨rfl,.inr ⟨fun _ h=>(by cases h),rfl⟩⟩
 |cons p chg ih =>
  intro H id hlt
  obtain ⟨h1,h2⟩:=ih (H.set p.1 p.2.2) id (fun q hq=>hlt q (List.mem_cons_of_mem _ hq))
  refine ⟨h1,?_⟩
  rcases h2 with ⟨q,q1,q2,q3⟩|⟨q1,q2⟩
  ·exact .inl ⟨q,List.mem_cons_of_mem _ q1,q2,q3⟩
  ·rw[List.foldl_cons,q2,<- HT.aK,HT.bw,List.getElem?_set]
   by_cases e:p.1=id
   ·left
    refine ⟨p,List.mem_cons_self ..,e,?_⟩
    rw[if_pos e,if_pos (by rw[HT.length];exact e ▸ hlt p (List.mem_cons_self ..))]
   ·right
    rw[if_neg e,HT.aK]
    exact ⟨fun q hq=>by rcases List.mem_cons.1 hq with rfl|hq;exact e;exact q1 q hq,rfl⟩
theorem mf:∀(new:List (Bool×ab)) (H:HT) (id:Nat),
  (new.foldl (fun H p=>H.push p.2) H).n=H.n+new.length/\(id<H.n->(new.foldl (fun H p=>H.push p.2) H).get id=H.get id) /\
  (∀o,H.n<=id->(new.foldl (fun H p=>H.push p.2) H).get id=some o->∃p,new[id-H.n]?=some p/\p.2=o):=by
 intro new
 induction new with
 |nil =>
  intro H id
  refine ⟨rfl,fun _=>rfl,fun o h1 h2 =>?_⟩
  have h2':H.get id=some o:=h2
  rw[<- HT.aK,List.getElem?_eq_none (by rw[HT.length];exact h1)]at h2'
  cases h2'
 |cons p new ih =>
  intro H id
  obtain ⟨h1,h2,h3⟩:=ih (H.push p.2) id
  have hpn:(H.push p.2).n=H.n+1:=rfl
  have hget:∀i,i<=H.n->(H.push p.2).get i=if i=H.n then some p.2 else H.get i:=by
   intro i hi
   rw[<- HT.aK,HT.bT,<- HT.aK]
   by_cases e:i=H.n
   ·rw[if_pos e,List.getElem?_append_right (by rw[HT.length];omega),HT.length,e];simp
   ·rw[if_neg e,List.getElem?_append_left (by rw[HT.length];omega)]
  refine ⟨by rw[List.foldl_cons,h1,hpn,List.length_cons];omega,fun hlt =>?_,fun o hge ho =>?_⟩
  ·rw[List.foldl_cons,h2 (by rw[hpn];omega),hget id (by omega),if_neg (by omega)]
  ·rw[List.foldl_cons]at ho
   by_cases e:id=H.n
   ·rw[h2 (by rw[hpn];omega),hget id (by omega),if_pos e]at ho
    cases ho
    exact ⟨p,by rw[e];simp,rfl⟩
   ·obtain ⟨q,q1,q2⟩:=h3 o (by rw[hpn];omega) ho
    refine ⟨q,?_,q2⟩
    rw[hpn]at q1
    have:id-H.n=(id-(H.n+1))+1:=by omega
    rw[this,List.getElem?_cons_succ];exact q1
theorem ls{n0:Nat}{ML:List Nat}:∀{chg:List (Nat×Bool×ab)},sw n0 ML chg=true->∀p∈chg,p.1∈ML/\p.1<n0
 | [],_,p,h=>by cases h
 |q :: r,h,p,hm=>by
  unfold sw at h
  cases h1:kZ q.1 ML with
  |false=>rw[h1]at h;cases h
  |true =>
   rw[h1,cond_true]at h
   cases h2:Nat.blt q.1 n0 with
   |false=>rw[h2]at h;cases h
   |true =>
    rw[h2,cond_true]at h
    rcases List.mem_cons.1 hm with rfl|hm
    ·exact ⟨gK h1,iR h2⟩
    ·exact ls h p hm
theorem lw{chg:List (Nat×Bool×ab)}{lp:List (Nat×List (Nat×Value))}:∀{ML:List Nat},allIn chg lp ML=true->∀id∈ML,(∃p∈chg,p.1=id)∨(∃p∈lp,p.1=id)
 | [],_,id,h=>by cases h
 |i :: r,h,id,hm=>by
  unfold allIn at h
  have one:∀{β:Type} (l:List (Nat×β)),(l.any fun p=>Nat.beq p.1 i)=true->∃p∈l,p.1=i:=by
   intro β l h1
   rw[List.any_eq_true]at h1
   obtain ⟨p,p1,p2⟩:=h1
   exact ⟨p,p1,Nat.eq_of_beq_eq_true p2⟩
  cases h1:(chg.any fun p=>Nat.beq p.1 i) with
  |false =>
   rw[h1,cond_false]at h
   cases h2:(lp.any fun p=>Nat.beq p.1 i) with
   |false=>rw[h2]at h;cases h
   |true =>
    rw[h2,cond_true]at h
    rcases List.mem_cons.1 hm with rfl|hm
    ·exact .inr (one _ h2)
    ·exact lw h id hm
  |true =>
   rw[h1,cond_true,cond_true]at h
   rcases List.mem_cons.1 hm with rfl|hm
   ·exact .inl (one _ h1)
   ·exact lw h id hm
theorem oV{id b:Nat}:∀{V:List (Nat×Nat)},uA id V=some b->(id,b)∈V
 | [],h=>by cases h
 |(x,y) :: r,h=>by
  unfold uA at h
  cases h1:Nat.beq id x with
  |true=>rw[h1,cond_true]at h;cases h;rw[Nat.eq_of_beq_eq_true h1];exact List.mem_cons_self ..
  |false=>rw[h1,cond_false]at h;exact List.mem_cons_of_mem _ (oV h)
theorem mS{k:Nat×Nat}:∀{V:List (Nat×Nat)},rl k V=true->∀q∈V,k.1≠q.1/\k.2≠q.2
 | [],_,q,h=>by cases h
 |p :: r,h,q,hm=>by
  unfold rl at h
  cases h1:Nat.beq k.1 p.1 with
  |true=>rw[h1]at h;cases h
  |false =>
   rw[h1,cond_false]at h
   cases h2:Nat.beq k.2 p.2 with
   |true=>rw[h2]at h;cases h
   |false =>
    rw[h2,cond_false]at h
    rcases List.mem_cons.1 hm with rfl|hm
    ·exact ⟨fun e=>(by rw[e,Nat.beq_refl]at h1;cases h1),fun e=>(by rw[e,Nat.beq_refl]at h2;cases h2)⟩
    ·exact mS h q hm
theorem oG{n0 n:Nat}{chg:List (Nat×Bool×ab)}:∀{V:List (Nat×Nat)},vC n0 n chg V=true->(∀p∈V,n0<=p.1/\p.1<n/\(n0<=p.2∨jK p.2 chg=true))/\(∀p∈V,∀q∈V,p.2=q.2->p.1=q.1)
 | [],_=>⟨fun _ h=>(by cases h),fun _ h=>(by cases h)⟩
 |p :: r,h=>by
  unfold vC at h
  cases h1:Nat.ble n0 p.1 with
  |false=>rw[h1]at h;cases h
  |true =>
  rw[h1,cond_true]at h
  cases h2:Nat.blt p.1 n with
  |false=>rw[h2]at h;cases h
  |true =>
  rw[h2,cond_true]at h
  cases h3:(cond (Nat.ble n0 p.2) true (jK p.2 chg)) with
  |false=>rw[h3]at h;cases h
  |true =>
  rw[h3,cond_true]at h
  have h3':n0<=p.2∨jK p.2 chg=true:=by
   cases h5:Nat.ble n0 p.2 with
   |true=>exact .inl (Nat.le_of_ble_eq_true h5)
   |false=>rw[h5,cond_false]at h3;exact .inr h3
  cases h4:rl p r with
  |false=>rw[h4]at h;cases h
  |true =>
  rw[h4,cond_true]at h
  obtain ⟨k1,k2⟩:=oG h
  have hn:=mS h4
  refine ⟨fun q hq =>?_,fun a ha b hb e =>?_⟩
  ·rcases List.mem_cons.1 hq with rfl|hq
   ·exact ⟨Nat.le_of_ble_eq_true h1,iR h2,h3'⟩
   ·exact k1 q hq
  ·rcases List.mem_cons.1 ha with ea|ha'
   ·rcases List.mem_cons.1 hb with eb|hb'
    ·rw[ea,eb]
    ·exact absurd (by rw[<- ea];exact e) (hn b hb').2
   ·rcases List.mem_cons.1 hb with eb|hb'
    ·exact absurd (by rw[<- eb];exact e.symm) (hn a ha').2
    ·exact k2 a ha' b hb' e
theorem po{H:HT}{n0 d:Nat}{V:Nat->Option Nat}:∀{chg:List (Nat×Bool×ab)},yy H n0 V d chg->∀p∈chg,oP H n0 V d p.1 p.2.1 p.2.2
 | [],_,p,h=>by cases h
 |(id,pl,o) :: r,h,p,hm=>by
  rcases List.mem_cons.1 hm with rfl|hm
  ·exact h.1
  ·exact po h.2 p hm
theorem oR{H:HT}{n0 d:Nat}{V:Nat->Option Nat}:∀{new:List (Bool×ab)} {id:Nat},rq H n0 V d id new->∀i p,new[i]?=some p->oP H n0 V d (id+i) p.1 p.2
 | [],_,_,i,p,h=>by simp at h
 |(pl,o) :: r,id,h,i,p,hm=>by
  cases i with
  |zero=>simp at hm;subst hm;exact h.1
  |succ i =>
   have:=oR h.2 i p (by simpa using hm)
   have e:Nat.succ id+i=id+(i+1):=by omega
   rw[e]at this;exact this
theorem mR{H:HT}{n0 d:Nat}{V:Nat->Option Nat}{id id':Nat}{pl:Bool}{o:ab}(hold:∀i,i<n0->V i=some i)(h:oP H n0 V d id pl o)(hs:V id=some id') :
  o = .dead∨(∃o',H.list[id']?=some o'/\o'.owned=o.owned/\o'.alive=o.alive/\(∀(Z ρ':Ren) (r:RI) (w:World),nX V Z ρ'->bt ρ' r o' w->bt Z r o w)/\(∀z cs,o = .fam z cs->∃cs',o' = .fam z cs'/\cs'.length=cs.length/\(∀(i:Nat) (v v':Value),cs[i]?=some v->cs'[i]?=some v'->∀(Z ρ':Ren) (x:Value),nX V Z ρ'->VR ρ' v' x->VR Z v x)/\(z=0->iW cs cs'))):=by
 have main:∀o:ab,(rno V d o = .dead->o = .dead)->(match V id with|some id'=>cond pl (H.get id'=some o/\ar n0 o=true) (match H.get id' with|some o'=>wkO o' (rno V d o)|none=>False)|none=>True) ->
   ∃o',H.list[id']?=some o'/\o'.owned=o.owned/\o'.alive=o.alive/\(∀(Z ρ':Ren) (r:RI) (w:World),nX V Z ρ'->bt ρ' r o' w->bt Z r o w)/\(∀z cs,o = .fam z cs->∃cs',o' = .fam z cs'/\cs'.length=cs.length/\(∀(i:Nat) (v v':Value),cs[i]?=some v->cs'[i]?=some v'->∀(Z ρ':Ren) (x:Value),nX V Z ρ'->VR ρ' v' x->VR Z v x)/\(z=0->iW cs cs')):=by
  intro o hd h
  rw[hs]at h
  simp only at h
  cases pl with
  |true=>exact ⟨o,by rw[HT.aK];exact h.1,rfl,rfl,fun Z ρ' r w hS hr=>nW (fun i r hi a=>hS.f i i r (hold i hi) a) hS.m h.2 hr,fun z cs e=>⟨cs,e,rfl,fun i v v' a b Z ρ' x hS hv=>(by
    rw[a]at b;cases b
    have hb:=h.2
    rw[e]at hb
    simp only[ar,List.all_eq_true]at hb
    exact bj (fun i r hi a=>hS.f i i r (hold i hi) a) hS.m (hb v (List.mem_of_getElem? a)) hv),fun _=>j8 cs⟩⟩
  |false =>
   obtain ⟨a,b⟩:=oL V d o hd
   rw[cond_false]at h
   split at h
   ·rename_i o2 hg
    exact ⟨o2,by rw[HT.aK];exact hg,h.1.symm.trans a,h.2.1.symm.trans b,fun Z ρ' r w hS hr=>kb hS.f hS.m hS.g (h.2.2.1 _ _ _ hr) hd,fun z cs e=>by
     obtain ⟨cs0,e0,hl,hw,ht⟩:=h.2.2.2 z (cs.map (rn V d)) (by rw[e];rfl)
     refine ⟨cs0,e0,by rw[hl,List.length_map],fun i v v' a b Z ρ' x hS hv=>jt hS.f hS.m hS.g d (hw i v' (rn V d v) b (by rw[List.getElem?_map,a];rfl) _ _ hv),fun hz k n hk =>?_⟩
     have:=ht hz k n hk
     rw[List.getElem?_map]at this
     obtain ⟨v,e1,e2⟩:=bo this
     rw[e1,A0 e2]⟩
   ·exact h.elim
 cases o with
 |dead=>exact .inl rfl
 |loop _ _ _ _ _ _ _=>exact h.elim
 |cells own z cs=>exact .inr (main _ (by intro h;cases h) h)
 |map es=>exact .inr (main _ (by intro h;cases h) h)
 |iter m n s =>
  unfold oP at h
  rw[hs]at h
  exact .inr ⟨.iter m n s,by rw[HT.aK];exact h.1,rfl,rfl,fun Z ρ' r w hS hr=>nW (fun i r hi a=>hS.f i i r (hold i hi) a) hS.m h.2 hr,fun z cs e=>by cases e⟩
 |fam z cs=>exact .inr (main _ (by intro h;cases h) h)
theorem hZ{N d:Nat}{E:Env}{H H0:HT}{ML:List Nat}{V:List (Nat×Nat)}{slots:List (Nat×Value)}{chg:List (Nat×Bool×ab)}{new:List (Bool×ab)}{lp:List (Nat×List (Nat×Value))}(h:nE N E H H0 d ML V slots chg new lp) :
  Emb H0.list ML N (sg H0.n V) d (iK slots).get (gM H0 chg new lp).list E.get H.list:=by
 obtain ⟨h1,h2,h3,h4,h5⟩:=h
 simp only[Bool.and_eq_true]at h1
 obtain ⟨k1,k2,k2',k3⟩:=h1
 obtain ⟨s1,s2⟩:=oG k1
 have hc:=ls k2
 have hl:=m9 k2'
 have ln:=(m7 lp H0 0).1
 have hlt:∀p∈chg,p.1<(lp.foldl cW H0).n:=fun p hp=>by rw[ln];exact (hc p hp).2
 have hcn:=(jg chg (lp.foldl cW H0) 0 hlt).1
 rw[ln]at hcn
 have hn:(gM H0 chg new lp).n=H0.n+new.length:=by
  unfold gM
  rw[(mf new _ 0).1,hcn]
 have hold:∀id,id<H0.n->sg H0.n V id=some id:=fun id hid=>by unfold sg;rw[BM hid];rfl
 have hnew:∀id id',¬ id<H0.n->sg H0.n V id=some id'->(id,id')∈V:=fun id id' hid hs=>by
  unfold sg at hs;rw[tR (by omega),cond_false]at hs;exact oV hs
 have hget:∀id,id<H0.n->(gM H0 chg new lp).get id=(chg.foldl (fun H p=>H.set p.1 p.2.2) (lp.foldl cW H0)).get id:=fun id hid=>by
  unfold gM
  exact (mf new _ id).2.1 (by rw[hcn];exact hid)
 have xO:∀id o,id<H0.n->jK id chg=true->(gM H0 chg new lp).get id=some o->o = .dead:=by
  intro id o hid hm ho
  obtain ⟨⟨p,p1,p2⟩,p3⟩:=td hm
  rw[hget id hid]at ho
  rcases (jg chg (lp.foldl cW H0) id hlt).2 with ⟨q,q1,q2,q3⟩|⟨q1,_⟩
  ·rw[q3]at ho;cases ho;exact p3 q q1 q2
  ·exact absurd p2 (q1 p p1)
 refine ⟨by rw[HT.length,HT.length,hn];omega,fun id hid=>hold id (by rwa [HT.length]at hid),fun id id' hs =>?_,fun i1 i2 i' o1 o2 e1 e2 g1 g2 a1 a2 =>?_,fun t _ =>?_,fun id hid hm =>?_,fun id id' o hs hc2 ho =>?_⟩
 ·rw[HT.length,hn]
  by_cases hid:id<H0.n
  ·omega
  ·have hp:=(s1 _ (hnew id id' hid hs)).2.1
   exact hp
 ·rw[HT.aK]at g1 g2
  by_cases a:i1<H0.n
  ·rw[hold i1 a]at e1
   cases e1
   by_cases b:i2<H0.n
   ·rw[hold i2 b]at e2;cases e2;rfl
   ·rcases (s1 _ (hnew _ _ b e2)).2.2 with h|h
    ·simp at h;omega
    ·rw[xO _ _ a h g1]at a1;cases a1
  ·by_cases b:i2<H0.n
   ·rw[hold i2 b]at e2;cases e2
    rcases (s1 _ (hnew _ _ a e1)).2.2 with h|h
    ·simp at h;omega
    ·rw[xO _ _ b h g2]at a2;cases a2
   ·exact s2 _ (hnew _ _ a e1) _ (hnew _ _ b e2) rfl
 ·rcases ph slots t with h|⟨v,m,h⟩
  ·exact .inl h
  ·rw[h];exact .inr (iB h2 t v m)
 ·rw[HT.length]at hid
  rw[HT.aK,HT.aK,hget id hid]
  rcases (jg chg (lp.foldl cW H0) id hlt).2 with ⟨p,p1,p2,_⟩|⟨_,q⟩
  ·exact absurd (p2 ▸ (hc p p1).1) hm
  ·rw[q]
   rcases (m7 lp H0 id).2 with ⟨p,p1,p2,_⟩|⟨_,q⟩
   ·exact absurd (p2 ▸ (hl p p1).1) hm
   ·exact q
 ·rw[HT.length]at hc2
  rw[HT.aK]at ho
  by_cases hid:id<H0.n
  ·have hm:id∈ML:=by rcases hc2 with h|h;omega;exact h
   rw[hget id hid]at ho
   rcases (jg chg (lp.foldl cW H0) id hlt).2 with ⟨q,q1,q2,q3⟩|⟨q1,q4⟩
   ·rw[q3]at ho;cases ho
    have:=po h3 q q1
    rw[q2]at this
    exact mR hold this hs
   ·rcases lw k3 id hm with ⟨p,p1,p2⟩|⟨p,p1,p2⟩
    ·exact absurd p2 (q1 p p1)
    ·rw[q4]at ho
     obtain ⟨tm,N',ps,as,bd,tm',r1,r2,r3⟩:=m8 h5 p p1
     rw[p2]at r1 r2
     rcases (m7 lp H0 id).2 with ⟨q,w1,w2,st,pe,tm2,N2,ps2,as2,bd2,w3,w4⟩|⟨w1,_⟩
     ·rw[r1]at w3;cases w3
      rw[w4]at ho;cases ho
      obtain ⟨_,N3,ps3,as3,bd3,tm3,y1,y2,y3⟩:=m8 h5 q w1
      rw[w2]at y1 y2
      rw[r1]at y1;cases y1
      rw[hold id hid]at hs;cases hs
      refine .inr ⟨.loop .ready none tm3 N' ps as bd,by rw[HT.aK];exact y2,rfl,rfl,fun Z ρ' r w hS hr =>?_,fun z cs h=>by cases h⟩
      obtain ⟨z1,l,z2,z3,z4,z5,z6,z7,z8,z9⟩:=hr
      refine ⟨z1,l,z2,z3,z4,z5,z6,z7,z8,fun t ht =>?_⟩
      rcases ph q.2 t with h|⟨v,m,h⟩
      ·rw[h];exact .junk _
      ·rw[h];exact jt hS.f hS.m hS.g d (iB y3 t v m _ _ (z9 t ht))
     ·exact absurd r1 (w1 p p1 p2 _ _ _ _ _ _ _)
  ·unfold gM at ho
   obtain ⟨p,p1,p2⟩:=(mf new (chg.foldl (fun H p=>H.set p.1 p.2.2) (lp.foldl cW H0)) id).2.2 o (by rw[hcn];omega) ho
   rw[hcn]at p1
   have:=oR h4 _ p p1
   rw[show H0.n+(id-H0.n)=id by omega,p2]at this
   exact mR hold this hs
theorem KW.tN{ro:Option Nat}{N base:Nat}{M:List Nat}{T:Tm}{H:Heap}{Q:Exit->Tm->Heap->Prop}{x y:Code}{b:Bool}(h:KW P ro N base M (if b then x else y) T H Q):KW P ro N base M (.cond (.const (.bool b)) x y) T H Q:=by
 intro B Z w a n0 h1 h2 h3 h4 h5
 exact wpIn_cond (t:=b) rfl (h B Z w a n0 h1 h2 h3 h4 h5)
section
variable {call:l6} {app:oa} {dm:Value->MS}
def Fin(K:Exit->Env->HT->Hint->Prop):Exit->Tm->Heap->Prop:=fun e T H => ∃E2 H2 h2,T=E2.get/\H=H2.list/\K e E2 H2 h2
theorem qJ{K:Exit->Env->HT->Hint->Prop}{E:Env}{H:HT}{h:Hint}{pe:Option Code}{st:LoopState}(hk:wy K E H h pe st) :
  st ≠ .busy/\pA K E H h pe:=by
 cases st
 ·exact ⟨(fun h=>by cases h),hk⟩
 ·exact hk.elim
 ·exact ⟨(fun h=>by cases h),hk⟩
 ·exact ⟨(fun h=>by cases h),hk⟩
theorem qH{ro:Option Nat}{N base:Nat}{M:List Nat}{b:Code}{body:Env->HT->Hint->(Exit->Env->HT->Hint->Prop)->Prop}
  (hb:∀{E:Env} {H:HT} {h:Hint} {K:Exit->Env->HT->Hint->Prop},body E H h K->KW P ro N base M b E.get H.list (Fin K)) {K:Exit->Env->HT->Hint->Prop} {n:Nat} {E:Env} {H:HT} {h:Hint} (hv:ub body K n E H h) :
  KW P ro N base M (.loop b) E.get H.list (Fin K):=by
 refine KW.loop (fun n T H' => ∃E1 H1 h1,T=E1.get/\H'=H1.list/\ub body K n E1 H1 h1) n ⟨E,H,h,rfl,rfl,hv⟩ ?_
 rintro n T1 H1 _ ⟨E1,H2,h1,rfl,rfl,hv⟩
 cases n with
 |zero=>exact hv.elim
 |succ n =>
  refine (hb hv).mono ?_
  rintro e T3 H3 ⟨E4,H4,h4,rfl,rfl,hk⟩
  cases e with
  |normal=>exact ⟨n,Nat.lt_succ_self n,E4,H4,h4,rfl,rfl,hk⟩
  |_=>exact ⟨E4,H4,h4,rfl,rfl,hk⟩
theorem lB{α:Type}{N d:Nat}{H:HT}{ML:List Nat}{slots:α->List (Nat×Value)}{chg:α->List (Nat×Bool×ab)}{new:α->List (Bool×ab)}{lp:α->List (Nat×List (Nat×Value))}{I:α->Prop}
  {K:Exit->Env->HT->Hint->Prop} {next:α->Hint} (hn:∀x,I x->K .normal (iK (slots x)) (gM H (chg x) (new x) (lp x)) (next x)) (e:Exit) (T2:Tm) (H2:Heap)
  (h:Fin (fun e E' H' h'=>uc N H d ML slots chg new lp I (fun e'=>K e') e E' H' h') e T2 H2):j0 (fun T2 H2 => ∃V d T3 H3,Emb H.list ML N V d T3 H3 T2 H2/\Fin K .normal T3 H3) (Fin K) e T2 H2:=by
 obtain ⟨E2,H2',h2,rfl,rfl,hk⟩:=h
 cases e with
 |normal =>
  simp only[j0]
  simp only[uc]at hk
  obtain ⟨E3,H3,h3,e3,e4,hk⟩:=cw hk
  rw[<- e3,<- e4]
  cases h3 with
  |again V =>
   obtain ⟨x,hx,hh⟩:=hk
   exact ⟨_,d,_,_,hZ hh,_,_,next x,rfl,rfl,hn x hx⟩
  |_=>exact hk.elim
 |_=>exact ⟨E2,H2',h2,rfl,rfl,hk⟩
theorem sX{ro:Option Nat}{N base:Nat}{M:MS}{c:Code}{Q:Exit->Tm->Heap->Prop}{h:Hint}{E:Env}{H:HT}{k:Env->HT->Hint->Prop}(hv:ww base M h E H k)(hk:∀E' H' h',k E' H' h'->KW P ro N base (M.list base) c E'.get H'.list Q) :
  KW P ro N base (M.list base) c E.get H.list Q:=by
 obtain ⟨E2,H2,h2,g,hv⟩:=mw (P:=P) hv
 exact KW.ghost g (hk _ _ _ hv)
theorem iz(hcall:jk P call)(happ:jY P app){ro:Option Nat}{N rounds:Nat}{inr mixed:Bool}(hro:inr=false->ro=none)(gy:mixed=true->P.follows .mixedOrders=true) :
  ∀{c:Code} {base:Nat} {M:MS} {E:Env} {H:HT} {h:Hint} {K:Exit->Env->HT->Hint->Prop},codeOk N P.globals.size mixed c=true->df P call app dm N rounds inr c base M E H h K->KW P ro N base (M.list base) c E.get H.list (Fin K):=by
 intro c
 induction c with
 |region i ops draw =>
  intro base M E H h K hok hv
  simp only[codeOk,Bool.and_eq_true]at hok
  simp only[df]at hv
  refine sX hv fun E H h hv =>?_
  cases draw
  ·simp only[cond_false]at hv
   have:=KW.region (P:=P) (ro:=ro) (id:=i) (l:=ops.toList) (Q:=Fin K) hok.1 (sW happ hv)
   simpa using this
  ·simp only[cond_true]at hv
   simp only[Bool.not_true,Bool.false_or,Bool.and_eq_true]at hok
   have:=KW.draw (P:=P) (ro:=ro) (id:=i) (l:=ops.toList) (Q:=Fin K) (gy hok.2.1) hok.1 _ hok.2.2 (qF happ hv)
   simpa using this
 |skip=>intro base M E H h K hok hv;exact KW.skip ⟨E,H,h,rfl,rfl,hv⟩
 |label=>intro base M E H h K hok hv;exact KW.label ⟨E,H,h,rfl,rfl,hv⟩
 |ret=>intro base M E H h K hok hv;exact KW.ret ⟨E,H,h,rfl,rfl,hv⟩
 |exit=>intro base M E H h K hok hv;exact KW.exit ⟨E,H,h,rfl,rfl,hv⟩
 |seq a b iha ihb =>
  intro base M E H h K hok hv
  simp only[codeOk,Bool.and_eq_true]at hok
  simp only[df]at hv
  refine KW.seq ((iha hok.1 hv).mono ?_)
  rintro e T H' ⟨E2,H2,h2,rfl,rfl,hk⟩
  cases e with
  |normal=>exact ihb hok.2 hk
  |_=>exact ⟨E2,H2,h2,rfl,rfl,hk⟩
 |block i b ih =>
  intro base M E H h K hok hv
  simp only[codeOk]at hok
  simp only[df]at hv
  refine KW.block ((ih hok hv).mono ?_)
  rintro e T H' ⟨E2,H2,h2,rfl,rfl,hk⟩
  cases e with
  |exit id' =>
   simp only[nA]
   cases hb:Nat.beq id' i with
   |true=>simp only[hb,cond_true]at hk;rw[if_pos (Nat.eq_of_beq_eq_true hb)];exact ⟨E2,H2,h2,rfl,rfl,hk⟩
   |false =>
    simp only[hb,cond_false]at hk
    rw[if_neg (fun he=>by subst he;rw[Nat.beq_refl]at hb;cases hb)]
    exact ⟨E2,H2,h2,rfl,rfl,hk⟩
  |_=>exact ⟨E2,H2,h2,rfl,rfl,hk⟩
 |scope b ih =>
  intro base M E H h K hok hv
  simp only[codeOk]at hok
  simp only[df]at hv
  refine KW.scope ((ih hok hv).mono ?_)
  rintro e T H' ⟨E2,H2,h2,rfl,rfl,hk⟩
  cases e with
  |goto l=>exact hk.elim
  |_=>exact ⟨E2,H2,h2,rfl,rfl,hk⟩
 |cond x a b iha ihb =>
  intro base M E H h K hok hv
  simp only[codeOk,Bool.and_eq_true]at hok
  cases x with
  |tmp t =>
   simp only[df]at hv
   have ht:t<N:=by simpa using hok.1.1
   obtain ⟨E0,H0,h0,e1,e2,hv⟩:=cw hv
   rw[<- e1,<- e2]
   split at hv <;> try (exact hv.elim)
   rename_i c hc
   refine KW.tM ht hc (fun hb =>?_) (fun hb =>?_)
   ·subst hb
    split at hv
    ·have:=iha hok.1.2 (hv.1 rfl)
     rwa [Env.d9 E0 t _ hc]at this
    ·obtain ⟨hw,ha,_,hn⟩:=hv
     have:=iha hok.1.2 (ha rfl)
     rw[Env.d9 E0 t _ hc]at this
     refine KW.renamed (fun id hid hb=>dV hw id hid hb) ?_
     rw[HT.length]
     exact this.mono (lB hn)
    ·split at hv <;> try (exact hv.elim)
     exact iha hok.1.2 hv
   ·subst hb
    split at hv
    ·have:=ihb hok.2 (hv.2 rfl)
     rwa [Env.d9 E0 t _ hc]at this
    ·obtain ⟨hw,_,ha,hn⟩:=hv
     have:=ihb hok.2 (ha rfl)
     rw[Env.d9 E0 t _ hc]at this
     refine KW.renamed (fun id hid hb=>dV hw id hid hb) ?_
     rw[HT.length]
     exact this.mono (lB hn)
    ·split at hv <;> try (exact hv.elim)
     exact ihb hok.2 hv
  |const v =>
   cases v with
   |bool b =>
    refine KW.tN ?_
    cases b
    ·exact ihb hok.2 hv
    ·exact iha hok.1.2 hv
   |_=>simp[df]at hv
  |_=>simp[df]at hv
 |loop b ih =>
  intro base M E H h K hok hv
  simp only[codeOk]at hok
  simp only[df]at hv
  obtain ⟨E0,H0,h0,e1,e2,hv⟩:=cw hv
  rw[<- e1,<- e2]
  split at hv
  ·rename_i d α x0 σ0 ML slots chg new lp I μ hb
   obtain ⟨hw,hI0,hh0,hch,Bp⟩:=hv
   refine KW.Ck (ML:=ML) (fun id hid hbs=>dV hw id hid hbs) (fun n T H' => ∃x,I x/\μ x=n/\T=(iK (slots x)).get/\H'=(gM H0 (chg x) (new x) (lp x)).list) ⟨μ x0,_,d,_,_,⟨x0,hI0,rfl,rfl,rfl⟩,hZ hh0⟩ ?_ ?_
   ·rintro n T1 H1 ⟨x,hx,_,_,rfl⟩ id hid hm
    rw[HT.length]at hid
    have hx2:=hch x
    rw[Bool.and_eq_true]at hx2
    have hc:=ls hx2.1
    have hl:=m9 hx2.2
    have ln:=(m7 (lp x) H0 0).1
    have hlt:∀p∈chg x,p.1<((lp x).foldl cW H0).n:=fun p hp=>by rw[ln];exact (hc p hp).2
    rw[HT.aK,HT.aK]
    unfold gM
    rw[(mf (new x) _ id).2.1 (by rw[(jg (chg x) _ 0 hlt).1,ln];exact hid)]
    rcases (jg (chg x) _ id hlt).2 with ⟨p,p1,p2,_⟩|⟨_,q⟩
    ·exact absurd (p2 ▸ (hc p p1).1) hm
    ·rw[q]
     rcases (m7 (lp x) H0 id).2 with ⟨p,p1,p2,_⟩|⟨_,q⟩
     ·exact absurd (p2 ▸ (hl p p1).1) hm
     ·exact q
   ·rintro n T1 H1 hlen ⟨x,hx,hn,rfl,rfl⟩
    rw[HT.length]
    have:=ih hok (Bp x hx)
    refine this.mono ?_
    rintro e T H' ⟨E2,H2,h2,rfl,rfl,hk⟩
    cases e with
    |normal =>
     simp only[j0]
     obtain ⟨E3,H3,h3,e3,e4,hk⟩:=cw hk
     rw[<- e3,<- e4]
     cases h3 with
     |again V =>
      obtain ⟨x',hx',hlt,hh⟩:=hk
      exact ⟨μ x',_,d,_,_,by omega,⟨x',hx',rfl,rfl,rfl⟩,hZ hh⟩
     |_=>exact hk.elim
    |_=>exact ⟨E2,H2,h2,rfl,rfl,hk⟩
  ·exact qH (fun hv=>ih hok hv) hv
 |rangeFunc g ps a b iha ihb =>
  intro base M E H h K hok hv
  cases g with
  |tmp t =>
   simp only[codeOk,Bool.and_eq_true]at hok
   have ht:t<N:=by simpa using hok.1.1.1
   simp only[df]at hv
   obtain ⟨E0,H0,h0,e1,e2,hv⟩:=cw hv
   rw[<- e1,<- e2]
   cases inr with
   |true=>exact hv.elim
   |false =>
    rw[cond_false]at hv
    have hr:=hro rfl
    subst hr
    split at hv <;> try (exact hv.elim)
    rename_i gf first cap hg
    split at hv <;> try (exact hv.elim)
    rename_i Mc h' hmc
    split at hv <;> try (exact hv.elim)
    rename_i hw
    simp only[Bool.and_eq_true]at hw
    obtain ⟨hw,hbn⟩:=hw
    have hc:=hcall _ _ _ _ _ _ hv
    rw[HT.bT]at hc
    refine KW.rangeFunc (Mc:=MS.list (MS.also H0.n Mc) (H0.push (.loop .ready none E0.get N ps a b)).n) ht hg ?_ ?_
    ·rw[HT.length]
     refine hc.mono (fun _ h _=>h) ?_
     rintro v H' ⟨H2,h2,rfl,hk⟩
     split at hk <;> try (exact hk.elim)
     rename_i st pe tm' N' ps' as' bd' hl
     rw[HT.aK]
     obtain ⟨hne,hk⟩:=qJ hk
     refine ⟨_,_,_,_,_,_,_,hl,hne,?_⟩
     cases pe with
     |none=>exact ⟨_,_,_,rfl,(HT.bw ..).symm,hk⟩
     |some c =>
      simp only
      rw[<- HT.bw]
      cases c <;> simp only[pA,yp]at hk
      ·exact KW.exit ⟨_,_,_,rfl,rfl,hk⟩
      ·exact KW.ret ⟨_,_,_,rfl,rfl,hk⟩
    ·intro id hid hb
     cases Mc with
     |none =>
      cases M with
      |none=>exact List.mem_range.2 hb
      |some l=>cases hw
     |some l =>
      have Bw:id∈(H0.n :: l):=hid
      rcases List.mem_cons.1 Bw with rfl|h1
      ·have:=Nat.le_of_ble_eq_true hbn;omega
      ·exact fq (n:=H0.n) (Mc:=some l) hw id h1 hb
  |_=>simp[codeOk]at hok
 |_=>intro base M E H h K hok;simp[codeOk]at hok
end
end
end Go.K
