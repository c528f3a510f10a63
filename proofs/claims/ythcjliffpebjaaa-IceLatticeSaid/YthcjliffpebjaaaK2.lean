/- What an operation does to canonical memory. No condition. -/
import Derived.Test.YthcjliffpebjaaaK1
namespace Go.K
open Go
set_option linter.unusedVariables false

/-! ## Types -/
def ksize (P : Program) (t : TypeId) : Option Nat := (P.info? t).map (·.size)
def kbytes (P : Program) (t : TypeId) : Option Nat := (P.info? t).map (·.bytes)
def kagg (P : Program) (t : TypeId) : Option Bool := (P.underlying t).map fun d => match d with | .struct _ | .array _ _ => true | _ => false
def closedC : Value → Bool
  | .bool _ | .int _ _ | .float _ _ | .string _ | .pointer none | .slice none 0 0 | .map none | .nilFunc | .nilIface => true
  | .func (.func _) ⟨[]⟩ ⟨[]⟩ => true
  | _ => false
def closedV : Value → Bool
  | .agg cs => cs.toList.all closedC
  | .tuple cs => cs.toList.all closedC
  | v => closedC v
def kzero (P : Program) (t : TypeId) : Option Value := ((P.info? t).bind (·.zero)).bind fun v => if closedV v then some v else none

/-! ## Cells -/
def setl (l : List Value) (k : Nat) : List Value → List Value
  | [] => l
  | v :: vs => setl (l.set k v) (k + 1) vs
theorem setl_length (vs : List Value) : ∀ (l : List Value) (k : Nat), (setl l k vs).length = l.length := by
  induction vs with
  | nil => intro l k; rfl
  | cons v vs ih => intro l k; simp [setl, ih]
def kpart (P : Program) (t : TypeId) (cs : List Value) (off : Nat) : Option Value :=
  match kagg P t with
  | some true =>
    match ksize P t with
    | some n => if off + n ≤ cs.length then some (.agg ⟨(cs.drop off).take n⟩) else none
    | none => none
  | some false => cs[off]?
  | none => none
def kload (P : Program) (t : TypeId) (a : Value) (H : Heap) : Option (Value × Nat) :=
  match a with
  | .pointer (some ⟨id, off, none⟩) =>
    match H[id]? with
    | some (.cells _ _ cs) => (kpart P t cs off).map fun v => (v, id)
    | _ => none
  | _ => none
/-- Not a tuple. -/
def nt : Value → Bool
  | .tuple _ | .chan _ => false
  | _ => true
def one1 : Value → Bool
  | .agg _ | .tuple _ | .chan _ => false
  | _ => true
def kfill (place : Nat → Option (Nat × Nat)) (cells : List Value) : List (Nat × Value) → Option (List Value)
  | [] => some cells
  | (i, v) :: rest =>
    match place i with
    | none => none
    | some (off, size) => if v.cells.toList.length = size ∧ off + size ≤ cells.length ∧ nt v = true then kfill place (setl cells off v.cells.toList) rest else none
def kplace (P : Program) (fs : Array Field) (i : Nat) : Option (Nat × Nat) := (fs[i]?).bind fun f => (ksize P f.type).map fun n => (f.offset, n)
def kbuild (P : Program) (t : TypeId) (parts : List (Nat × Value)) : Option Value :=
  match kzero P t, P.underlying t with
  | some z, some (.struct fs) => if fs.toList.all (fun f => (ksize P f.type).isSome) then (kfill (kplace P fs) z.cells.toList parts).map fun c => .agg ⟨c⟩ else none
  | some z, some (.array _ e) =>
    match ksize P e with
    | some n => (kfill (fun i => some (i * n, n)) z.cells.toList parts).map fun c => .agg ⟨c⟩
    | none => none
  | _, _ => none

/-! ## Numbers -/
def kint (op : BinOp) (k : IntKind) (a : Int) (k' : IntKind) (b : Int) : Option Value :=
  match op with
  | .shl => if b < 0 then none else some (.int k (k.wrap (a * 2 ^ min b.toNat k.bits)))
  | .shr => if b < 0 then none else some (.int k (a.fdiv (2 ^ min b.toNat k.bits)))
  | .add => if k = k' then some (.int k (k.wrap (a + b))) else none
  | .sub => if k = k' then some (.int k (k.wrap (a - b))) else none
  | .mul => if k = k' then some (.int k (k.wrap (a * b))) else none
  | .quo => if k = k' then (if b = 0 then none else some (.int k (k.wrap (a.tdiv b)))) else none
  | .rem => if k = k' then (if b = 0 then none else some (.int k (a.tmod b))) else none
  | .and => if k = k' then some (.int k (k.wrap ((BitVec.ofInt k.bits a &&& BitVec.ofInt k.bits b).toNat))) else none
  | .or => if k = k' then some (.int k (k.wrap ((BitVec.ofInt k.bits a ||| BitVec.ofInt k.bits b).toNat))) else none
  | .xor => if k = k' then some (.int k (k.wrap ((BitVec.ofInt k.bits a ^^^ BitVec.ofInt k.bits b).toNat))) else none
  | .andNot => if k = k' then some (.int k (k.wrap ((BitVec.ofInt k.bits a &&& ~~~ BitVec.ofInt k.bits b).toNat))) else none
  | .eql => if k = k' then some (.bool (a == b)) else none
  | .neq => if k = k' then some (.bool (a != b)) else none
  | .lss => if k = k' then some (.bool (decide (a < b))) else none
  | .leq => if k = k' then some (.bool (decide (a ≤ b))) else none
  | .gtr => if k = k' then some (.bool (decide (b < a))) else none
  | .geq => if k = k' then some (.bool (decide (b ≤ a))) else none

/-- Equality of values that hold no addresses. -/
def keqFields (P : Program) (eq : TypeId → Value → Value → Option Bool) (xs ys : List Value) : List Field → Option Bool
  | [] => some true
  | f :: fs =>
    match keqFields P eq xs ys fs with
    | none => none
    | some r =>
      if f.name = "_" then some r else
      match kpart P f.type xs f.offset, kpart P f.type ys f.offset with
      | some a, some b => (eq f.type a b).map (· && r)
      | _, _ => none
def keqElems (P : Program) (eq : TypeId → Value → Value → Option Bool) (e : TypeId) (n : Nat) (xs ys : List Value) : Nat → Nat → Option Bool
  | _, 0 => some true
  | i, m + 1 =>
    match keqElems P eq e n xs ys (i + 1) m with
    | none => none
    | some r =>
      match kpart P e xs (i * n), kpart P e ys (i * n) with
      | some a, some b => (eq e a b).map (· && r)
      | _, _ => none
def keqIn (P : Program) : Nat → TypeId → Value → Value → Option Bool
  | 0, _, _, _ => none
  | d + 1, t, x, y =>
    match P.underlying t, x, y with
    | some .bool, .bool a, .bool b => some (a == b)
    | some (.int _), .int k a, .int k' b => if k = k' then some (a == b) else none
    | some .string, .string a, .string b => some (a == b)
    | some (.struct fs), .agg xs, .agg ys => if P.stoodInHeld t then none else keqFields P (keqIn P d) xs.toList ys.toList fs.toList
    | some (.array len e), .agg xs, .agg ys =>
      match ksize P e with
      | some n => keqElems P (keqIn P d) e n xs.toList ys.toList 0 len
      | none => none
    | some (.slice _), .slice none _ _, .slice b _ _ => some b.isNone
    | some (.slice _), .slice _ _ _, .slice none _ _ => some false
    | some (.pointer _), .pointer none, .pointer b => some b.isNone
    | some (.pointer _), .pointer _, .pointer none => some false
    | some (.map _ _), .map none, .map b => some b.isNone
    | some (.map _ _), .map _, .map none => some false
    | some (.func _ _ _), .nilFunc, .nilFunc => some true
    | some (.func _ _ _), .nilFunc, .func _ _ _ => some false
    | some (.func _ _ _), .func _ _ _, .nilFunc => some false
    | _, _, _ => none
def keq (P : Program) (t : TypeId) (x y : Value) : Option Bool :=
  match x, y with
  | .agg _, .agg _ => if P.eqGuardType P.depth t then none else keqIn P Op.maxDepth t x y
  | _, _ => keqIn P Op.maxDepth t x y
def kcmp (P : Program) (op : BinOp) (t : TypeId) (x y : Value) : Option Value :=
  match op with
  | .eql => (keq P t x y).map .bool
  | .neq => (keq P t x y).map fun b => .bool (!b)
  | _ => none
def kbin (P : Program) (op : BinOp) (t : TypeId) (x y : Value) : Option Value :=
  match x, y with
  | .int k a, .int k' b => kint op k a k' b
  | .bool _, .bool _ => kcmp P op t x y
  | .agg _, .agg _ => kcmp P op t x y
  | .slice _ _ _, .slice _ _ _ => kcmp P op t x y
  | .pointer none, .pointer _ => kcmp P op t x y
  | .pointer _, .pointer none => kcmp P op t x y
  | .map _, .map _ => kcmp P op t x y
  | .nilFunc, .nilFunc => kcmp P op t x y
  | .nilFunc, .func _ _ _ => kcmp P op t x y
  | .func _ _ _, .nilFunc => kcmp P op t x y
  | _, _ => none
def kun (op : UnOp) (x : Value) : Option Value :=
  match op, x with
  | .neg, .int k n => some (.int k (k.wrap (0 - n)))
  | .not, .bool b => some (.bool !b)
  | .xor, .int k n => some (.int k (k.wrap ((BitVec.ofInt k.bits (if k.signed then -1 else k.max) ^^^ BitVec.ofInt k.bits n).toNat)))
  | _, _ => none
def kconv (P : Program) (s d : TypeId) (x : Value) : Option Value :=
  match P.underlying s, P.underlying d, x with
  | some _, some (.int k), .int _ n => some (.int k (k.wrap n))
  | _, _, _ => none
def kminmax (mx : Bool) : List Value → Option Value
  | [] => none
  | x :: rest => rest.foldlM (fun a b => match a, b with
      | .int k x, .int _ y => some (.int k (if mx then (if y > x then y else x) else (if y < x then y else x)))
      | _, _ => none) x

/-! ## Addresses -/
def kfieldAddr (P : Program) (s : TypeId) (x : Value) (f : Nat) : Option Value :=
  match P.underlying s, x with
  | some (.struct fs), .pointer (some ⟨id, off, none⟩) =>
    match fs[f]? with
    | some fd => match ksize P fd.type with | some (_ + 1) => some (.pointer (some ⟨id, off + fd.offset, none⟩)) | _ => none
    | none => none
  | _, _ => none
def kfield (P : Program) (t : TypeId) (x : Value) (f : Nat) : Option Value :=
  match P.underlying t, x with
  | some (.struct fs), .agg cs =>
    match fs[f]? with
    | some fd => kpart P fd.type cs.toList fd.offset
    | none => none
  | _, _ => none
def kindexAddr (P : Program) (t : TypeId) (x i : Value) : Option Value :=
  match P.underlying t, x, i with
  | some (.slice e), .slice (some ⟨id, off, none⟩) len _, .int _ i =>
    match ksize P e with
    | some n => if 0 ≤ i ∧ i < len then some (.pointer (some ⟨id, off + i.toNat * n, none⟩)) else none
    | none => none
  | some (.array len e), .pointer (some ⟨id, off, none⟩), .int _ i =>
    match ksize P e with
    | some n => if 0 ≤ i ∧ i < len then some (.pointer (some ⟨id, off + i.toNat * n, none⟩)) else none
    | none => none
  | _, _, _ => none
def kindex (P : Program) (t : TypeId) (x i : Value) : Option Value :=
  match P.underlying t, x, i with
  | some (.array len e), .agg cs, .int _ i =>
    match ksize P e with
    | some n => if 0 ≤ i ∧ i < len then kpart P e cs.toList (i.toNat * n) else none
    | none => none
  | some .string, .string s, .int _ i => if 0 ≤ i then (s[i.toNat]?).map fun b => .int .u8 b.toNat else none
  | _, _, _ => none
def kbound (v : Option Value) (d m : Nat) : Option Nat :=
  match v with
  | none => some d
  | some (.int _ i) => if 0 ≤ i ∧ i ≤ m then some i.toNat else none
  | _ => none
def kslice (P : Program) (t : TypeId) (x : Value) (lo hi : Option Value) (H : Heap) : Option (Value × Option Nat) :=
  match P.underlying t, x with
  | some (.slice e), .slice a len cap =>
    match ksize P e, kbound hi len cap with
    | some n, some h =>
      match kbound lo 0 h with
      | some l =>
        match a with
        | none => some (.slice none 0 0, none)
        | some ⟨id, off, none⟩ =>
          match H[id]? with
          | some (.cells own z _) => if own = false ∨ z = 0 ∨ z = n then some (.slice (some ⟨id, off + l * n, none⟩) (h - l) (cap - l), some id) else none
          | _ => none
        | some _ => none
      | none => none
    | _, _ => none
  | _, _ => none
def klen (P : Program) (t : TypeId) (x : Value) (H : Heap) : Option (Value × Option Nat) :=
  match P.underlying t, x with
  | some (.slice _), .slice _ n _ => some (.int .i64 n, none)
  | some .string, .string s => some (.int .i64 s.size, none)
  | some (.array n _), _ => some (.int .i64 n, none)
  | some (.map _ _), .map none => some (.int .i64 0, none)
  | some (.map _ _), .map (some id) => match H[id]? with | some (.map es) => some (.int .i64 es.length, some id) | _ => none
  | _, _ => none

/-! ## Operations that leave memory alone -/
def kpure (P : Program) (o : Op) (e : Operand → Value) (H : Heap) : Option (Value × Option Nat) :=
  match o with
  | .move x => some (e x, none)
  | .assign x => some (e x, none)
  | .pick c a b => match e c with | .bool t => some (if t then e a else e b, none) | _ => none
  | .build t parts => (kbuild P t (parts.toList.map fun p => (p.1, e p.2))).map (·, none)
  | .load t a => (kload P t (e a) H).map fun r => (r.1, some r.2)
  | .nilCheck x => match e x with
    | .pointer (some a) => some (.pointer (some a), none)
    | .func (.func f) x y => some (.func (.func f) x y, none)
    | .func (.yield f) x y => some (.func (.yield f) x y, none)
    | _ => none
  | .binOp op t x y _ => (kbin P op t (e x) (e y)).map (·, none)
  | .unOp op _ x => (kun op (e x)).map (·, none)
  | .convert s d x => (kconv P s d (e x)).map (·, none)
  | .makeFunc (.func f) first cap => some (.func (.func f) (first.map e) (cap.map e), none)
  | .slice t x lo hi none => kslice P t (e x) (lo.map e) (hi.map e) H
  | .fieldAddr s x f => (kfieldAddr P s (e x) f).map (·, none)
  | .field t x f => (kfield P t (e x) f).map (·, none)
  | .indexAddr t x i => (kindexAddr P t (e x) (e i)).map (·, none)
  | .index t x i => (kindex P t (e x) (e i)).map (·, none)
  | .extract x i => match e x with | .tuple vs => (vs[i]?).map (·, none) | _ => none
  | .call ⟨.builtin .len, ⟨[x]⟩, ⟨t :: _⟩⟩ => klen P t (e x) H
  | .call ⟨.builtin .min, xs, _⟩ => (kminmax false (xs.toList.map e)).map (·, none)
  | .call ⟨.builtin .max, xs, _⟩ => (kminmax true (xs.toList.map e)).map (·, none)
  | _ => none

/-! ## Operations that make one block -/
def krep (z : List Value) : Nat → List Value
  | 0 => []
  | n + 1 => z ++ krep z n
def kalloc (P : Program) (o : Op) (e : Operand → Value) (id : Nat) : Option (Value × KObj) :=
  match o with
  | .alloc t => (kzero P t).map fun z => (.pointer (some ⟨id, 0, none⟩), .cells true 0 z.cells.toList)
  | .box _ x => if nt (e x) = true then some (.pointer (some ⟨id, 0, none⟩), .cells true 0 (e x).cells.toList) else none
  | .buildSlice t len parts =>
    match P.underlying t with
    | some (.slice el) =>
      match ksize P el, kzero P el with
      | some n, some z => if z.cells.toList.length = n ∧ len * n ≤ 2 ^ 24 then
          (kfill (fun i => some (i * n, n)) (krep z.cells.toList len) (parts.toList.map fun p => (p.1, e p.2))).map fun c => (.slice (some ⟨id, 0, none⟩) len len, .cells true n c) else none
      | _, _ => none
    | _ => none
  | .makeSlice t l c =>
    match P.underlying t, e l, e c with
    | some (.slice el), .int .i64 l, .int .i64 c =>
      match ksize P el, kbytes P el, kzero P el with
      | some n, some by_, some z => if z.cells.toList.length = n ∧ 0 ≤ l ∧ l ≤ c ∧ c < 2 ^ 62 ∧ by_ * c ≤ 2 ^ 48 then
          some (.slice (some ⟨id, 0, none⟩) l.toNat c.toNat, .cells true n (krep z.cells.toList c.toNat)) else none
      | _, _, _ => none
    | _, _, _ => none
  | .makeMap t none => some (.map (some id), .map [])
  | _ => none

/-! ## Operations that write -/
def kcells (P : Program) (n : Nat) (len : Nat) (x : Value) (H : Heap) : Option (List Value) :=
  match x with
  | .slice none _ _ => if len = 0 then some [] else none
  | .slice (some ⟨id, off, none⟩) l _ =>
    match H[id]? with
    | some (.cells _ _ cs) => if len ≤ l ∧ off + len * n ≤ cs.length then some ((cs.drop off).take (len * n)) else none
    | _ => none
  | _ => none
def kappend (P : Program) (t : TypeId) (s x : Value) (H : Heap) : Option (Value × Heap × List Nat) :=
  match P.underlying t, s, x with
  | some (.slice el), .slice base len cap, .slice xb m xc =>
    match ksize P el, kbytes P el with
    | some (n + 1), some by_ =>
      if (len + m) * by_ ≤ 2 ^ 44 ∧ 1 ≤ by_ ∧ by_ ≤ 2 ^ 16 then
        if m = 0 then some (s, H, []) else
        match kcells P (n + 1) len s H, kcells P (n + 1) m x H, (kzero P el) with
        | some old, some new, some z =>
          if z.cells.toList.length = n + 1 ∧ new.all (fun v => one1 v) then
          match base with
          | none => some (.slice (some ⟨H.length, 0, none⟩) (len + m) (len + m), H ++ [.cells true (n + 1) (old ++ new)], [])
          | some ⟨id, off, none⟩ =>
            match H[id]? with
            | some (.cells true zz _) => if zz = n + 1 then
                some (.slice (some ⟨H.length, 0, none⟩) (len + m) (len + m), H.set id .dead ++ [.cells true (n + 1) (old ++ new)], [id]) else none
            | _ => none
          | _ => none
          else none
        | _, _, _ => none
      else none
    | _, _ => none
  | _, _, _ => none
def kstore (P : Program) (t : TypeId) (a v : Value) (H : Heap) : Option (Heap × List Nat) :=
  match a with
  | .pointer (some ⟨id, off, none⟩) =>
    match H[id]? with
    | some (.cells true z cs) =>
      match ksize P t with
      | some n => if v.cells.toList.length = n ∧ off + n ≤ cs.length ∧ v.cells.toList.all (fun v => one1 v) then
          some (H.set id (.cells true z (setl cs off v.cells.toList)), [id]) else none
      | none => none
    | _ => none
  | _ => none
def kcopy (P : Program) (t : TypeId) (d s : Value) (H : Heap) : Option (Value × Heap × List Nat) :=
  match P.underlying t, d, s with
  | some (.slice el), .slice base len cap, .slice sb m sc =>
    match ksize P el with
    | some n =>
      match kcells P n (min m len) s H with
      | some new =>
        match base with
        | none => some (.int .i64 (min m len : Nat), H, [])
        | some ⟨id, off, none⟩ =>
          match H[id]? with
          | some (.cells true z cs) => if off + (min m len) * n ≤ cs.length ∧ new.all (fun v => one1 v) then
              some (.int .i64 (min m len : Nat), H.set id (.cells true z (setl cs off new)), [id]) else none
          | _ => none
        | _ => none
      | none => none
    | none => none
  | _, _, _ => none
def kwrite (P : Program) (o : Op) (e : Operand → Value) (H : Heap) : Option (Value × Heap × List Nat) :=
  match o with
  | .store t a v => (kstore P t (e a) (e v) H).map fun r => (undef, r.1, r.2)
  | .call ⟨.builtin .append, ⟨[s, x]⟩, ⟨[t, u]⟩⟩ => match P.underlying u with
    | some (.slice _) => kappend P t (e s) (e x) H
    | _ => none
  | .call ⟨.builtin .copy, ⟨[d, s]⟩, ⟨t :: _⟩⟩ => kcopy P t (e d) (e s) H
  | _ => none

inductive OC where
  | pure | alloc | write | call | bad
deriving DecidableEq
def oclass : Op → OC
  | .move _ | .assign _ | .pick .. | .build .. | .load .. | .nilCheck _ | .binOp .. | .unOp .. | .convert .. | .makeFunc .. | .slice .. | .fieldAddr .. | .field .. | .indexAddr .. | .index .. | .extract .. => .pure
  | .alloc _ | .box .. | .buildSlice .. | .makeSlice .. | .makeMap .. => .alloc
  | .store .. => .write
  | .call c => match c.callee with
    | .builtin .len | .builtin .min | .builtin .max => .pure
    | .builtin .append | .builtin .copy => .write
    | .builtin _ => .bad
    | .value _ => .call
    | .invoke _ _ => .bad
  | _ => .bad
end Go.K
