/- What is to be shown so that code does what is wanted: computed from its text, with hints. No condition. -/
import Derived.Test.YthcjliffpebjaaaV4
namespace Go.K
open Go
set_option linter.unusedVariables false
noncomputable section
variable {P : Program}

def Is (v : Value) (H : Heap) : Value → Heap → Prop := fun v' H' => v' = v ∧ H' = H

/-! ## An order of a region's operations: what acts on memory comes as late as it may. -/
def pickCool (bs : List Nat) (ops : Array Oper) (done : Nat) : List Nat → Option Nat
  | [] => none
  | i :: is => if (match ops[i]? with | some o => !hotOp o | none => false) && (bs.getD i 0 &&& done == bs.getD i 0) then some i else pickCool bs ops done is
def pickHot (bs : List Nat) (done : Nat) : List Nat → Option Nat
  | [] => none
  | i :: is => if bs.getD i 0 &&& done == bs.getD i 0 then some i else pickHot bs done is
def mkOrd (bs : List Nat) (ops : Array Oper) : Nat → Nat → List Nat → List Nat
  | 0, _, _ => []
  | n + 1, done, todo =>
    match (match pickCool bs ops done todo with | some i => some i | none => pickHot bs done todo) with
    | some i => i :: mkOrd bs ops n (done ||| 2 ^ i) (todo.filter (fun j => !(Nat.beq j i)))
    | none => []
def ordOf (l : List Oper) : List Nat := mkOrd (befs l []) l.toArray l.length 0 (List.range l.length)

/-- What is asked of code's text. -/
def codeOk (N G : Nat) (mixed : Bool) : Code → Bool
  | .region _ ops draw => ops.toList.all (opOk N G) && (!draw || (mixed && ordOk ops.toList (ordOf ops.toList)))
  | .seq a b => codeOk N G mixed a && codeOk N G mixed b
  | .cond c a b => (match c with | .tmp t => decide (t < N) | .const (.bool _) => true | _ => false) && codeOk N G mixed a && codeOk N G mixed b
  | .block _ b => codeOk N G mixed b
  | .loop b => codeOk N G mixed b
  | .rangeFunc g ps a b => (match g with | .tmp t => decide (t < N) | _ => false) && ps.toList.all (fun p => decide (p < N)) && codeOk N G mixed a && codeOk N G mixed b
  | .skip | .ret | .exit _ | .label _ => true
  | _ => false
/-- What is asked of a function's text. -/
def fnOk (P : Program) (mixed : Bool) (f : Nat) : Bool :=
  match P.funcs[f]? with
  | some fn =>
    match fn.body with
    | some c => !(fn.name == "runtime.NumGoroutine") && (resOk fn.ntmps fn.results.toList && codeOk fn.ntmps P.globals.size mixed c)
    | none => false
  | none => false

/-! ## Hints -/
/-- Old blocks that may be written: none: all. -/
abbrev MS := Option (List Nat)
inductive Hint : Type 1 where
  /-- all that follows is known -/
  | auto
  /-- n + 1 steps are known -/
  | go (n : Nat) (h : Hint)
  /-- an unknown test -/
  | fork (a b : Hint)
  /-- an unknown guard -/
  | gfork (a b : Hint)
  /-- the conditions of an operation are to be shown -/
  | need (h : Hint)
  /-- what a load gives, by hand -/
  | val (v : Value) (h : Hint)
  /-- a call by its contract -/
  | ans (deps : List (Nat × KObj)) (v : Value) (new : List KObj) (h : Hint)
  /-- a call that is entered and may write some old blocks -/
  | into (Mc : MS) (h : Hint)
  /-- at a function's end: nothing is forgotten -/
  | keep (h : Hint)
  /-- a block, said otherwise -/
  | obj (id : Nat) (o : KObj) (h : Hint)
  /-- a slot, said otherwise -/
  | slot (t : Nat) (v : Value) (h : Hint)
  /-- something has a name from here on -/
  | bind (α : Type) (f : α → Hint)
  /-- a loop by its invariant -/
  | inv (d : Nat) (α : Type) (x0 : α) (σ0 : List (Nat × Nat)) (ML : List Nat) (slots : α → List (Nat × Value)) (chg : α → List (Nat × Bool × KObj)) (new : α → List (Bool × KObj)) (I : α → Prop) (μ : α → Nat) (body : α → Hint)
  /-- at a round's end -/
  | again (σ : List (Nat × Nat))
def Hint.dflt : Hint → Option Hint
  | .auto => some .auto
  | .go n h => some (match n with | 0 => h | n + 1 => .go n h)
  | _ => none
/-- Blocks and slots that are said otherwise. -/
def vprep (h : Hint) : Env → HT → (Env → HT → Hint → Prop) → Prop :=
  Hint.rec (motive := fun _ => Env → HT → (Env → HT → Hint → Prop) → Prop)
    (fun E H K => K E H .auto)
    (fun n h _ E H K => K E H (.go n h))
    (fun a b _ _ E H K => K E H (.fork a b))
    (fun a b _ _ E H K => K E H (.gfork a b))
    (fun h _ E H K => K E H (.need h))
    (fun v h _ E H K => K E H (.val v h))
    (fun deps v new h _ E H K => K E H (.ans deps v new h))
    (fun Mc h _ E H K => K E H (.into Mc h))
    (fun h _ E H K => K E H (.keep h))
    (fun id o _ ih E H K => H.get id = some o ∧ ih E (H.set id o) K)
    (fun t v _ ih E H K => E.get t = v ∧ ih (E.put (some t) v) H K)
    (fun α f ih E H K => ∃ x : α, ih x E H K)
    (fun d α x0 σ0 ML slots chg new I μ body _ E H K => K E H (.inv d α x0 σ0 ML slots chg new I μ body))
    (fun σ E H K => K E H (.again σ)) h

/-! ## Sets of blocks -/
def memB (id : Nat) : List Nat → Bool
  | [] => false
  | x :: xs => cond (Nat.beq id x) true (memB id xs)
theorem memB_spec {id : Nat} : ∀ {l : List Nat}, memB id l = true → id ∈ l
  | [], h => by cases h
  | x :: xs, h => by
    unfold memB at h
    cases hb : Nat.beq id x with
    | true => exact List.mem_cons.2 (.inl (Nat.eq_of_beq_eq_true hb))
    | false => rw [hb] at h; exact List.mem_cons_of_mem _ (memB_spec h)
def MS.list (M : MS) (n : Nat) : List Nat := match M with | none => List.range n | some l => l
/-- May these blocks be written? -/
def wokB (base : Nat) (M : MS) (ms : List Nat) : Bool :=
  match M with
  | none => true
  | some l => ms.all fun id => cond (Nat.ble base id) true (memB id l)
theorem wokB_spec {base : Nat} {M : MS} {ms : List Nat} (h : wokB base M ms = true) : ∀ id ∈ ms, id < base → id ∈ M.list base := by
  intro id hid hb
  cases M with
  | none => exact List.mem_range.2 hb
  | some l =>
    simp only [wokB, List.all_eq_true] at h
    have := h id hid
    cases hq : Nat.ble base id with
    | true => have := Nat.le_of_ble_eq_true hq; omega
    | false => rw [hq] at this; exact memB_spec this
/-- What a call may write, among its caller's blocks. -/
def wokC (base n : Nat) (M Mc : MS) : Bool :=
  match Mc with
  | none => M.isNone
  | some l => wokB base M l
theorem wokC_spec {base n : Nat} {M Mc : MS} (h : wokC base n M Mc = true) : ∀ id ∈ Mc.list n, id < base → id ∈ M.list base := by
  intro id hid hb
  cases Mc with
  | none =>
    cases M with
    | none => exact List.mem_range.2 hb
    | some l => cases h
  | some l => exact wokB_spec (M := M) h id hid hb
def looseB (bs : List Nat) (j : Nat) (log : List (Nat × Option Nat)) (ms : List Nat) : Bool :=
  log.all fun p => depB bs j p.1 || (match p.2 with | none => true | some x => !(memB x ms))
theorem memB_of {id : Nat} : ∀ {l : List Nat}, id ∈ l → memB id l = true
  | [], h => by cases h
  | x :: xs, h => by
    unfold memB
    rcases List.mem_cons.1 h with rfl | h
    · rw [Nat.beq_refl]; rfl
    · cases Nat.beq id x with
      | true => rfl
      | false => exact memB_of h
theorem looseB_spec {bs : List Nat} {j : Nat} {log : List (Nat × Option Nat)} {ms : List Nat} (h : looseB bs j log ms = true) : Loose bs j log ms := by
  intro p hp hd x hx hm
  unfold looseB at h
  rw [List.all_eq_true] at h
  have := h p hp
  rw [hd, hx] at this
  simp [memB_of hm] at this

/-! ## What is to be shown -/
abbrev KV := Value → HT → Hint → Prop
abbrev CallV := FuncId → List Value → HT → MS → Hint → KV → Prop
abbrev AppV := Value → List Value → HT → MS → Hint → KV → Prop
def AnsOk (P : Program) (fv : Value) (args : List Value) (H : Heap) (Mc : List Nat) (v : Value) (H' : Heap) : Prop :=
  match fv with
  | .func (.func f) first cap => KCall P f (first.toList ++ args ++ cap.toList) H Mc (Is v H')
  | fv => KApp P fv args H Mc (Is v H')
/-- Blocks that a contract leans on. -/
def depsT (H : HT) : List (Nat × KObj) → Prop
  | [] => True
  | (id, o) :: r => H.get id = some o ∧ depsT H r
def depsH (H : Heap) : List (Nat × KObj) → Prop
  | [] => True
  | (id, o) :: r => H[id]? = some o ∧ depsH H r
def hcat (H : Heap) : List KObj → Heap
  | [] => H
  | o :: r => H ++ (o :: r)
def pushAll (H : HT) : List KObj → HT
  | [] => H
  | o :: r => pushAll (H.push o) r
/-- One operation. 'wok': may these blocks be written; 'K': what follows, with the block that was looked at. -/
def vstep (P : Program) (app : AppV) (wok : MS → Bool) (dm : Value → MS) (o : Oper) (E : Env) (H : HT) (h : Hint) (K : Env → HT → Option Nat → Hint → Prop) : Prop :=
  match oclass o.op with
  | .pure =>
    match h with
    | .fork h1 h2 =>
      match o.op with
      | .pick (.tmp t) x y =>
        match E.get t with
        | .bool b => (b = true → K ((E.put (some t) (.bool true)).put o.dst (ev E.get x)) H none h1) ∧ (b = false → K ((E.put (some t) (.bool false)).put o.dst (ev E.get y)) H none h2)
        | _ => False
      | _ => False
    | .need h' =>
      match kneed P o.op (ev E.get) H with
      | some (c, v, rd) => c ∧ K (E.put o.dst v) H rd h'
      | none => False
    | .val v h' =>
      match o.op with
      | .load t a =>
        match ev E.get a with
        | .pointer (some ⟨id, off, none⟩) =>
          match H.get id with
          | some (.cells _ _ cs) => kpart P t cs off = some v ∧ K (E.put o.dst v) H (some id) h'
          | _ => False
        | _ => False
      | _ => False
    | h =>
      match h.dflt with
      | some h' =>
        match kpureT P o.op (ev E.get) H with
        | some (v, rd) => K (E.put o.dst v) H rd h'
        | none => False
      | none => False
  | .alloc =>
    match h with
    | .need h' =>
      match kneedA P o.op (ev E.get) H.n with
      | some (c, v, ob) => c ∧ K (E.put o.dst v) (H.push ob) (some H.n) h'
      | none => False
    | h =>
      match h.dflt with
      | some h' =>
        match kalloc P o.op (ev E.get) H.n with
        | some (v, ob) => K (E.put o.dst v) (H.push ob) (some H.n) h'
        | none => False
      | none => False
  | .write =>
    match h with
    | .need h' =>
      match kneedW P o.op (ev E.get) H with
      | some (c, v, H', ms) => c ∧ wok (some ms) = true ∧ K (E.put o.dst v) H' none h'
      | none => False
    | h =>
      match h.dflt with
      | some h' =>
        match kwriteT P o.op (ev E.get) H with
        | some (v, H', ms) => match wok (some ms) with | true => K (E.put o.dst v) H' none h' | false => False
        | none => False
      | none => False
  | .call =>
    match o.op with
    | .call ⟨.value f, args, _⟩ =>
      match h with
      | .ans deps v new h' => depsT H deps ∧ (∀ H' : Heap, H'.length = H.n → depsH H' deps → AnsOk P (ev E.get f) (args.toList.map (ev E.get)) H' [] v (hcat H' new)) ∧ K (E.put o.dst v) (pushAll H new) none h'
      | .into Mc h' => match wok Mc with | true => app (ev E.get f) (args.toList.map (ev E.get)) H Mc h' (fun v H' h'' => K (E.put o.dst v) H' none h'') | false => False
      | h =>
        match h.dflt with
        | some h' => match wok (dm (ev E.get f)) with | true => app (ev E.get f) (args.toList.map (ev E.get)) H (dm (ev E.get f)) h' (fun v H' h'' => K (E.put o.dst v) H' none h'') | false => False
        | none => False
    | _ => False
  | .bad => False
/-- One operation with its guard. -/
def vguard (P : Program) (app : AppV) (wok : MS → Bool) (dm : Value → MS) (ops : Array Oper) (o : Oper) (E : Env) (H : HT) (h : Hint) (K : Env → HT → Option Nat → Hint → Prop) (Koff : Env → HT → Hint → Prop) : Prop :=
  fE E fun E => fH H fun H => vprep h E H fun E H h =>
  match o.guard with
  | none => vstep P app wok dm o E H h K
  | some (g, want) =>
    match (ops[g]?).bind (·.dst) with
    | none => Koff (E.put o.dst undef) H h
    | some d =>
      match E.get d with
      | .bool b =>
        match h with
        | .gfork h1 h2 =>
          (b = true → cond want (vstep P app wok dm o (E.put (some d) (.bool true)) H h1 K) (Koff ((E.put (some d) (.bool true)).put o.dst undef) H h1)) ∧
          (b = false → cond want (Koff ((E.put (some d) (.bool false)).put o.dst undef) H h2) (vstep P app wok dm o (E.put (some d) (.bool false)) H h2 K))
        | h => cond (cond b want (!want)) (vstep P app wok dm o E H h K) (Koff (E.put o.dst undef) H h)
      | .chan _ => False
      | _ => Koff (E.put o.dst undef) H h
def vops (P : Program) (app : AppV) (base n : Nat) (M : MS) (dm : Value → MS) (ops : Array Oper) : List Oper → Env → HT → Hint → (Env → HT → Hint → Prop) → Prop
  | [], E, H, h, K => K E H h
  | o :: os, E, H, h, K => vguard P app (fun Mc => wokC base H.n M Mc) dm ops o E H h (fun E' H' _ h' => vops P app base n M dm ops os E' H' h' K) (fun E' H' h' => vops P app base n M dm ops os E' H' h' K)
def vopsL (P : Program) (app : AppV) (base : Nat) (M : MS) (dm : Value → MS) (bs : List Nat) (ops : Array Oper) : List Nat → Env → HT → List (Nat × Option Nat) → Hint → (Env → HT → Hint → Prop) → Prop
  | [], E, H, _, h, K => K E H h
  | i :: is, E, H, log, h, K =>
    match ops[i]? with
    | none => False
    | some o => vguard P app (fun Mc => wokC base H.n M Mc && looseB bs i log (Mc.list H.n)) dm ops o E H h
        (fun E' H' rd h' => vopsL P app base M dm bs ops is E' H' (match oclass o.op with | .pure | .alloc => (i, rd) :: log | _ => log) h' K)
        (fun E' H' h' => vopsL P app base M dm bs ops is E' H' log h' K)

def lookN (id : Nat) : List (Nat × Nat) → Option Nat
  | [] => none
  | (a, b) :: r => cond (Nat.beq id a) (some b) (lookN id r)
def sg (n0 : Nat) (σ : List (Nat × Nat)) (id : Nat) : Option Nat := cond (Nat.blt id n0) (some id) (lookN id σ)
def notIn (k : Nat × Nat) : List (Nat × Nat) → Bool
  | [] => true
  | q :: r => cond (Nat.beq k.1 q.1) false (cond (Nat.beq k.2 q.2) false (notIn k r))
/-- Names anew: of blocks from n0 on, below n; no two alike. -/
def sgOk (n0 n : Nat) : List (Nat × Nat) → Bool
  | [] => true
  | p :: r => cond (Nat.ble n0 p.1) (cond (Nat.blt p.1 n) (cond (Nat.ble n0 p.2) (cond (notIn p r) (sgOk n0 n r) false) false) false) false
def slotsOk (E : Env) (σ : Nat → Option Nat) (d : Nat) : List (Nat × Value) → Prop
  | [] => True
  | (t, v) :: r => E.get t = rn σ d v ∧ slotsOk E σ d r
def objOk (H : HT) (n0 : Nat) (σ : Nat → Option Nat) (d : Nat) (id : Nat) (plain : Bool) (o : KObj) : Prop :=
  match o with
  | .dead => True
  | .loop .. => False
  | o => match σ id with
    | some id' => cond plain (H.get id' = some o ∧ belowO n0 o = true) (H.get id' = some (rno σ d o))
    | none => False
def chgOk (H : HT) (n0 : Nat) (σ : Nat → Option Nat) (d : Nat) : List (Nat × Bool × KObj) → Prop
  | [] => True
  | (id, plain, o) :: r => objOk H n0 σ d id plain o ∧ chgOk H n0 σ d r
def newOk (H : HT) (n0 : Nat) (σ : Nat → Option Nat) (d : Nat) : Nat → List (Bool × KObj) → Prop
  | _, [] => True
  | id, (plain, o) :: r => objOk H n0 σ d id plain o ∧ newOk H n0 σ d (Nat.succ id) r
def headE (slots : List (Nat × Value)) : Env := slots.foldl (fun E p => E.put (some p.1) p.2) ⟨fun _ => junk, .leaf⟩
def headH (H : HT) (chg : List (Nat × Bool × KObj)) (new : List (Bool × KObj)) : HT := new.foldl (fun H p => H.push p.2) (chg.foldl (fun H p => H.set p.1 p.2.2) H)
def chgIn (n0 : Nat) (ML : List Nat) : List (Nat × Bool × KObj) → Bool
  | [] => true
  | p :: r => cond (memB p.1 ML) (cond (Nat.blt p.1 n0) (chgIn n0 ML r) false) false
def allIn (chg : List (Nat × Bool × KObj)) : List Nat → Bool
  | [] => true
  | id :: r => cond (chg.any fun p => Nat.beq p.1 id) (allIn chg r) false
/-- What must be so where a round of a loop begins. -/
def headOk (N : Nat) (E : Env) (H : HT) (H0 : HT) (d : Nat) (ML : List Nat) (σ : List (Nat × Nat)) (slots : List (Nat × Value)) (chg : List (Nat × Bool × KObj)) (new : List (Bool × KObj)) : Prop :=
  (sgOk H0.n (Nat.add H0.n new.length) σ && (chgIn H0.n ML chg && allIn chg ML)) = true ∧ slotsOk E (sg H0.n σ) d slots ∧ chgOk H H0.n (sg H0.n σ) d chg ∧ newOk H H0.n (sg H0.n σ) d H0.n new

def vloop (body : Env → HT → Hint → (Exit → Env → HT → Hint → Prop) → Prop) (K : Exit → Env → HT → Hint → Prop) : Nat → Env → HT → Hint → Prop
  | 0, _, _, _ => False
  | n + 1, E, H, h => body E H h fun e E' H' h' => match e with | .normal => vloop body K n E' H' h' | e => K e E' H' h'
def exitOf : Code → Option Exit
  | .ret => some .ret
  | .exit id => some (.exit id)
  | _ => none
def MS.also (id : Nat) (M : MS) : MS := match M with | none => none | some l => some (id :: l)
/-- What follows a range over a function. -/
def vafter1 (K : Exit → Env → HT → Hint → Prop) (E : Env) (H : HT) (h : Hint) : Option Code → Prop
  | none => K .normal E H h
  | some c => match exitOf c with | some e => K e E H h | none => False
def vafter (K : Exit → Env → HT → Hint → Prop) (E : Env) (H : HT) (h : Hint) (pe : Option Code) : LoopState → Prop
  | .busy => False
  | _ => vafter1 K E H h pe
/-- 'base': ids from there on are new in this call; 'rounds': how often loops may turn; 'inr': within a round of a range over a function. -/
def vcode (P : Program) (call : CallV) (app : AppV) (dm : Value → MS) (N rounds : Nat) (inr : Bool) : Code → Nat → MS → Env → HT → Hint → (Exit → Env → HT → Hint → Prop) → Prop
  | .region _ ops draw, base, M, E, H, h, K =>
    cond draw (vopsL P app base M dm (befs ops.toList []) ops (ordOf ops.toList) E H [] h (fun E' H' h' => K .normal E' H' h'))
      (vops P app base 0 M dm ops ops.toList E H h (fun E' H' h' => K .normal E' H' h'))
  | .skip, _, _, E, H, h, K => K .normal E H h
  | .label _, _, _, E, H, h, K => K .normal E H h
  | .ret, _, _, E, H, h, K => K .ret E H h
  | .exit id, _, _, E, H, h, K => K (.exit id) E H h
  | .seq a b, base, M, E, H, h, K => vcode P call app dm N rounds inr a base M E H h fun e E' H' h' => match e with | .normal => vcode P call app dm N rounds inr b base M E' H' h' K | e => K e E' H' h'
  | .block id b, base, M, E, H, h, K => vcode P call app dm N rounds inr b base M E H h fun e E' H' h' => match e with | .exit id' => cond (Nat.beq id' id) (K .normal E' H' h') (K (.exit id') E' H' h') | e => K e E' H' h'
  | .cond (.tmp t) a b, base, M, E, H, h, K =>
    vprep h E H fun E H h =>
    match E.get t with
    | .bool c =>
      match h with
      | .fork h1 h2 => (c = true → vcode P call app dm N rounds inr a base M (E.put (some t) (.bool true)) H h1 K) ∧ (c = false → vcode P call app dm N rounds inr b base M (E.put (some t) (.bool false)) H h2 K)
      | h => match h.dflt with | some h' => (match c with | true => vcode P call app dm N rounds inr a base M E H h' K | false => vcode P call app dm N rounds inr b base M E H h' K) | none => False
    | _ => False
  | .cond (.const (.bool c)) x y, base, M, E, H, h, K =>
    match c with
    | true => vcode P call app dm N rounds inr x base M E H h K
    | false => vcode P call app dm N rounds inr y base M E H h K
  | .loop b, base, M, E, H, h, K =>
    vprep h E H fun E H h =>
    match h with
    | .inv d α x0 σ0 ML slots chg new I μ hb =>
      wokB base M ML = true ∧ I x0 ∧ headOk N E H H d ML σ0 (slots x0) (chg x0) (new x0) ∧ (∀ x, (chgIn H.n ML (chg x)) = true) ∧
      ∀ x, I x → vcode P call app dm N rounds inr b H.n (some ML) (headE (slots x)) (headH H (chg x) (new x)) (hb x) fun e E' H' h' => match e with
        | .normal => vprep h' E' H' fun E' H' h' => match h' with | .again σ => ∃ x', I x' ∧ μ x' < μ x ∧ headOk N E' H' H d ML σ (slots x') (chg x') (new x') | _ => False
        | e => K e E' H' h'
    | h => vloop (fun E H h K => vcode P call app dm N rounds inr b base M E H h K) K rounds E H h
  | .rangeFunc (.tmp t) ps as bd, base, M, E, H, h, K =>
    vprep h E H fun E H h =>
    cond inr False
      (match E.get t with
      | .func (.func gf) first cap =>
        match (match h with | .into Mc h' => some (Mc, h') | h => match h.dflt with | some h' => some (none, h') | none => none) with
        | some (Mc, h') =>
          match wokC base H.n M Mc && Nat.ble base H.n with
          | true => call gf (first.toList ++ [.func (.yield H.n) #[] #[]] ++ cap.toList) (H.push (.loop .ready none E.get N ps as bd)) (MS.also H.n Mc) h' (fun _ H' h'' =>
              match H'.get H.n with
              | some (.loop st pe _ _ _ _ _) => vafter K E (H'.set H.n .dead) h'' pe st
              | _ => False)
          | false => False
        | none => False
      | _ => False)
  | _, _, _, _, _, _, _ => False

def vround (P : Program) (call : CallV) (app : AppV) (dm : Value → MS) (rounds : Nat) (mixed : Bool) (L : Nat) (args : List Value) (H : HT) (M : MS) (h : Hint) (K : KV) : Prop :=
  match H.get L with
  | some (.loop .ready _ tm N ps as bd) =>
    match Nat.beq args.length ps.size && (ps.toList.all (fun p => decide (p < N)) && (codeOk N P.globals.size mixed as && (codeOk N P.globals.size mixed bd && (match M with | none => Nat.blt L H.n | some l => memB L l)))) with
    | true => vcode P call app dm N rounds true as H.n M ⟨setps ps.toList args tm, .leaf⟩ H h fun e E1 H1 h1 =>
      match e with
      | .normal =>
        match H1.get L with
        | some (.loop .ready pe1 tm1 N1 ps1 as1 bd1) => vcode P call app dm N rounds true bd H.n M E1 (H1.set L (.loop .busy pe1 tm1 N1 ps1 as1 bd1)) h1 fun e E2 H2 h2 =>
          vprep h2 E2 H2 fun E2 H2 h2 =>
          match jumpOf e with
          | some j =>
            match H2.get L with
            | some (.loop _ _ tm2 N2 ps2 as2 bd2) => K (.bool j.isNone) (H2.set L (.loop (match j.isNone with | true => .ready | false => .done) j tm2 N2 ps2 as2 bd2)) h2
            | _ => False
          | none => False
        | _ => False
      | _ => False
    | false => False
  | _ => False

def kresvT (P : Program) (T : Tm) (H : HT) : ResultVar → Option Value
  | .tmp t => some (T t)
  | .cell a ty => (kloadT P ty (T a) H).map (·.1)
def kresT (P : Program) (rs : List ResultVar) (T : Tm) (H : HT) : Option Value :=
  match rs with
  | [r] => kresvT P T H r
  | [r, r2] => match kresvT P T H r, kresvT P T H r2 with | some v, some v2 => some (.tuple ⟨[v, v2]⟩) | _, _ => none
  | [r, r2, r3] => match kresvT P T H r, kresvT P T H r2, kresvT P T H r3 with | some v, some v2, some v3 => some (.tuple ⟨[v, v2, v3]⟩) | _, _, _ => none
  | [] => some (.tuple ⟨[]⟩)
  | _ => none
/-- New blocks are forgotten where nothing that is kept leads to them. -/
def vtrim (n : Nat) (M : MS) (v : Value) (H' : HT) (h : Hint) (K : KV) : Prop :=
  match h with
  | .keep h' => K v H' h'
  | h =>
    match M with
    | none => K v H' h
    | some l =>
      match belowV n v && l.all (fun id => match H'.get id with | some o => belowO n o | none => true) with
      | true => K v (H'.take n) h
      | false => K v H' h
def vbody (P : Program) (mask : Nat) (call : CallV) (app : AppV) (dm : Value → MS) (rounds : Nat) (f : FuncId) (args : List Value) (H : HT) (M : MS) (h : Hint) (K : KV) : Prop :=
  match Nat.testBit mask f with
  | true =>
    match P.funcs[f]? with
    | some fn =>
      match fn.body with
      | some c =>
        match Nat.ble args.length fn.ntmps with
        | true => vcode P call app dm fn.ntmps rounds false c H.n M ⟨initT args, .leaf⟩ H h fun e E' H' h' =>
          match e with
          | .normal => vprep h' E' H' fun E' H' h' => match kresT P fn.results.toList E'.get H' with | some v => vtrim H.n M v H' h' K | none => False
          | .ret => vprep h' E' H' fun E' H' h' => match kresT P fn.results.toList E'.get H' with | some v => vtrim H.n M v H' h' K | none => False
          | _ => False
        | false => False
      | none => False
    | none => False
  | false => False
def vapp (call : CallV) (yld : Nat → List Value → HT → MS → Hint → KV → Prop) (fv : Value) (args : List Value) (H : HT) (M : MS) (h : Hint) (K : KV) : Prop :=
  match fv with
  | .func (.func f) first cap => call f (first.toList ++ args ++ cap.toList) H M h K
  | .func (.yield L) ⟨[]⟩ ⟨[]⟩ => yld L args H M h K
  | _ => False
/-- true: a function's call; false: a round. -/
def vF (P : Program) (mask : Nat) (dm : Value → MS) (rounds : Nat) (mixed : Bool) : Nat → Bool → Nat → List Value → HT → MS → Hint → KV → Prop
  | 0, _, _, _, _, _, _, _ => False
  | n + 1, b, f, args, H, M, h, K =>
    match b with
    | true => vbody P mask (vF P mask dm rounds mixed n true) (vapp (vF P mask dm rounds mixed n true) (vF P mask dm rounds mixed n false)) dm rounds f args H M h K
    | false => vround P (vF P mask dm rounds mixed n true) (vapp (vF P mask dm rounds mixed n true) (vF P mask dm rounds mixed n false)) dm rounds mixed f args H M h K
end
end Go.K
