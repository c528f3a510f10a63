/- The canonical heap, the relation between canonical and real values, and what a step may do to memory. No condition. -/
import Derived.RangeFuncLeaves
import Derived.OrdersIn
import Derived.Below
import Derived.TacticsIn
namespace Go.K
open Go
set_option linter.unusedVariables false

/-! ## Canonical memory -/
inductive KObj where
  | cells (own : Bool) (z : Nat) (cs : List Value)
  | map (es : List (Value × Value))
  | loop (st : LoopState) (pending : Option Code) (tm : Nat → Value) (N : Nat) (ps : Array Nat) (assign body : Code)
  | dead
instance : Inhabited KObj := ⟨.dead⟩
abbrev Heap := List KObj
def KObj.alive : KObj → Bool
  | .dead => false
  | _ => true
def KObj.owned : KObj → Bool
  | .cells o _ _ => o
  | .map _ => true
  | .loop .. => true
  | .dead => false

abbrev Tm := Nat → Value
def upd (T : Tm) (d : Nat) (v : Value) : Tm := fun t => if t = d then v else T t
def put (T : Tm) (dst : Option Nat) (v : Value) : Tm :=
  match dst with
  | some d => upd T d v
  | none => T
def ev (T : Tm) : Operand → Value
  | .tmp t => T t
  | .const v => v
  | .global g => .pointer (some ⟨g, 0, none⟩)
  | .func f => .func (.func f) #[] #[]

/-! ## Where a canonical block lies in real memory -/
structure RI where
  b : Nat
  s : Nat
  n : Nat
  z : Nat
  own : Bool
abbrev Ren := Nat → Option RI
def Ren.le (ρ ρ' : Ren) : Prop := ∀ id r, ρ id = some r → ρ' id = some r
theorem Ren.le_refl (ρ : Ren) : Ren.le ρ ρ := fun _ _ h => h
theorem Ren.le_trans {a b c : Ren} (h : Ren.le a b) (k : Ren.le b c) : Ren.le a c := fun id r x => k id r (h id r x)

inductive VR (ρ : Ren) : Value → Value → Prop
  | junk (v') : VR ρ (.chan none) v'
  | bool (b) : VR ρ (.bool b) (.bool b)
  | int (k n) : VR ρ (.int k n) (.int k n)
  | float (k n) : VR ρ (.float k n) (.float k n)
  | string (s) : VR ρ (.string s) (.string s)
  | ptrNil : VR ρ (.pointer none) (.pointer none)
  | ptr {id o r} (h : ρ id = some r) : VR ρ (.pointer (some ⟨id, o, none⟩)) (.pointer (some ⟨r.b, o + r.s, none⟩))
  | sliceNil : VR ρ (.slice none 0 0) (.slice none 0 0)
  | slice {id o r len cap cap'} (h : ρ id = some r) (hl : len ≤ cap) (hc : cap ≤ cap') (ho : r.own = true → r.z ≠ 0 → o + r.s + cap' * r.z ≤ r.n) :
      VR ρ (.slice (some ⟨id, o, none⟩) len cap) (.slice (some ⟨r.b, o + r.s, none⟩) len cap')
  | slice0 {id o r o'} (h : ρ id = some r) : VR ρ (.slice (some ⟨id, o, none⟩) 0 0) (.slice (some ⟨r.b, o', none⟩) 0 0)
  | sliceE {a : Addr} : VR ρ (.slice (some ⟨0, 0, some 0⟩) 0 0) (.slice (some a) 0 0)
  | mapNil : VR ρ (.map none) (.map none)
  | map {id r} (h : ρ id = some r) : VR ρ (.map (some id)) (.map (some r.b))
  | nilFunc : VR ρ .nilFunc .nilFunc
  | nilIface : VR ρ .nilIface .nilIface
  | func {f : FuncId} {first first' cap cap' : Array Value} (h1 : first.size = first'.size) (h2 : ∀ (i : Nat) (v v' : Value), first[i]? = some v → first'[i]? = some v' → VR ρ v v')
      (h3 : cap.size = cap'.size) (h4 : ∀ (i : Nat) (v v' : Value), cap[i]? = some v → cap'[i]? = some v' → VR ρ v v') : VR ρ (.func (.func f) first cap) (.func (.func f) first' cap')
  | yield {l r} (h : ρ l = some r) : VR ρ (.func (.yield l) #[] #[]) (.func (.yield r.b) #[] #[])
  | agg {cs cs' : Array Value} (h1 : cs.size = cs'.size) (h2 : ∀ (i : Nat) (v v' : Value), cs[i]? = some v → cs'[i]? = some v' → VR ρ v v') : VR ρ (.agg cs) (.agg cs')
  | tuple {cs cs' : Array Value} (h1 : cs.size = cs'.size) (h2 : ∀ (i : Nat) (v v' : Value), cs[i]? = some v → cs'[i]? = some v' → VR ρ v v') : VR ρ (.tuple cs) (.tuple cs')

theorem VR.mono {ρ ρ' : Ren} (hle : Ren.le ρ ρ') {v v' : Value} (h : VR ρ v v') : VR ρ' v v' := by
  induction h with
  | junk v' => exact .junk v'
  | bool b => exact .bool b
  | int k n => exact .int k n
  | float k n => exact .float k n
  | string s => exact .string s
  | ptrNil => exact .ptrNil
  | ptr h => exact .ptr (hle _ _ h)
  | sliceNil => exact .sliceNil
  | slice h hl hc ho => exact .slice (hle _ _ h) hl hc ho
  | slice0 h => exact .slice0 (hle _ _ h)
  | sliceE => exact .sliceE
  | mapNil => exact .mapNil
  | map h => exact .map (hle _ _ h)
  | nilFunc => exact .nilFunc
  | nilIface => exact .nilIface
  | func h1 _ h3 _ i2 i4 => exact .func h1 (fun i v v' a b => i2 i v v' a b) h3 (fun i v v' a b => i4 i v v' a b)
  | yield h => exact .yield (hle _ _ h)
  | agg h1 _ i2 => exact .agg h1 (fun i v v' a b => i2 i v v' a b)
  | tuple h1 _ i2 => exact .tuple h1 (fun i v v' a b => i2 i v v' a b)

/-- What a value that is related at a smaller renaming is related to at a larger one, it is related to at the smaller one. -/
theorem VR.down {ρ ρ' : Ren} (hle : Ren.le ρ ρ') {v x : Value} (h : VR ρ v x) : ∀ {y}, VR ρ' v y → VR ρ v y := by
  induction h with
  | junk v' => intro y hy; exact .junk y
  | bool b => intro y hy; cases hy; exact .bool b
  | int k n => intro y hy; cases hy; exact .int k n
  | float k n => intro y hy; cases hy; exact .float k n
  | string s => intro y hy; cases hy; exact .string s
  | ptrNil => intro y hy; cases hy; exact .ptrNil
  | ptr h => intro y hy; cases hy with | ptr h' => rw [hle _ _ h] at h'; cases h'; exact .ptr h
  | sliceNil => intro y hy; cases hy; exact .sliceNil
  | slice h hl hc ho =>
    intro y hy
    cases hy with
    | slice h' hl' hc' ho' => rw [hle _ _ h] at h'; cases h'; exact .slice h hl' hc' ho'
    | slice0 h' => rw [hle _ _ h] at h'; cases h'; exact .slice0 h
  | slice0 h =>
    intro y hy
    cases hy with
    | slice h' hl' hc' ho' => rw [hle _ _ h] at h'; cases h'; exact .slice h hl' hc' ho'
    | slice0 h' => rw [hle _ _ h] at h'; cases h'; exact .slice0 h
  | sliceE => intro y hy; cases hy; exact .sliceE
  | mapNil => intro y hy; cases hy; exact .mapNil
  | map h => intro y hy; cases hy with | map h' => rw [hle _ _ h] at h'; cases h'; exact .map h
  | nilFunc => intro y hy; cases hy; exact .nilFunc
  | nilIface => intro y hy; cases hy; exact .nilIface
  | @func f first first' cap cap' h1 h2 h3 h4 i2 i4 =>
    intro y hy
    cases hy with
    | func g1 g2 g3 g4 =>
      refine .func g1 (fun i v v' a b => ?_) g3 (fun i v v' a b => ?_)
      · have hi : i < first'.size := h1 ▸ (Array.getElem?_eq_some_iff.1 a).1
        exact i2 i v _ a (Array.getElem?_eq_getElem hi) (g2 i v v' a b)
      · have hi : i < cap'.size := h3 ▸ (Array.getElem?_eq_some_iff.1 a).1
        exact i4 i v _ a (Array.getElem?_eq_getElem hi) (g4 i v v' a b)
  | yield h => intro y hy; cases hy with | yield h' => rw [hle _ _ h] at h'; cases h'; exact .yield h
  | @agg cs cs' h1 h2 i2 =>
    intro y hy
    cases hy with
    | agg g1 g2 =>
      refine .agg g1 (fun i v v' a b => ?_)
      have hi : i < cs'.size := h1 ▸ (Array.getElem?_eq_some_iff.1 a).1
      exact i2 i v _ a (Array.getElem?_eq_getElem hi) (g2 i v v' a b)
  | @tuple cs cs' h1 h2 i2 =>
    intro y hy
    cases hy with
    | tuple g1 g2 =>
      refine .tuple g1 (fun i v v' a b => ?_)
      have hi : i < cs'.size := h1 ▸ (Array.getElem?_eq_some_iff.1 a).1
      exact i2 i v _ a (Array.getElem?_eq_getElem hi) (g2 i v v' a b)

/-- What stands for a value of which nothing is known. -/
abbrev junk : Value := .chan none
theorem VR.undef (ρ : Ren) : VR ρ undef undef := .tuple rfl (by intro i v v' h; simp at h)

/-- Lists of values, pointwise. -/
def VRl (ρ : Ren) (l l' : List Value) : Prop := l.length = l'.length ∧ ∀ (i : Nat) (v v' : Value), l[i]? = some v → l'[i]? = some v' → VR ρ v v'
theorem VRl.mono {ρ ρ' : Ren} (hle : Ren.le ρ ρ') {l l' : List Value} (h : VRl ρ l l') : VRl ρ' l l' := ⟨h.1, fun i v v' a b => (h.2 i v v' a b).mono hle⟩
theorem VRl.nil (ρ : Ren) : VRl ρ [] [] := ⟨rfl, fun i v v' h => by simp at h⟩
theorem VRl.cons {ρ : Ren} {v v' : Value} {l l' : List Value} (h : VR ρ v v') (k : VRl ρ l l') : VRl ρ (v :: l) (v' :: l') :=
  ⟨by simp [k.1], fun i x x' a b => by
    cases i with
    | zero => simp at a b; subst a; subst b; exact h
    | succ i => simp at a b; exact k.2 i x x' a b⟩
theorem VRl.append {ρ : Ren} {l l' m m' : List Value} (h : VRl ρ l l') (k : VRl ρ m m') : VRl ρ (l ++ m) (l' ++ m') :=
  ⟨by simp [h.1, k.1], fun i x x' a b => by
    rcases Nat.lt_or_ge i l.length with hi | hi
    · rw [List.getElem?_append_left hi] at a
      rw [List.getElem?_append_left (h.1 ▸ hi)] at b
      exact h.2 i x x' a b
    · rw [List.getElem?_append_right hi] at a
      rw [List.getElem?_append_right (h.1 ▸ hi), ← h.1] at b
      exact k.2 _ x x' a b⟩
theorem VRl.get {ρ : Ren} {l l' : List Value} (h : VRl ρ l l') {i : Nat} {v : Value} (a : l[i]? = some v) : ∃ v', l'[i]? = some v' ∧ VR ρ v v' := by
  have hi : i < l'.length := h.1 ▸ (List.getElem?_eq_some_iff.1 a).1
  exact ⟨_, List.getElem?_eq_getElem hi, h.2 i v _ a (List.getElem?_eq_getElem hi)⟩
theorem VRl.extract {ρ : Ren} {l l' : List Value} (h : VRl ρ l l') (k n : Nat) : VRl ρ ((l.drop k).take n) ((l'.drop k).take n) :=
  ⟨by simp [h.1], fun i x x' a b => by
    rw [List.getElem?_take] at a b
    split at a <;> rename_i hi
    · rw [if_pos hi] at b
      rw [List.getElem?_drop] at a b
      exact h.2 _ x x' a b
    · simp at a⟩
theorem VRl.set {ρ : Ren} {l l' : List Value} (h : VRl ρ l l') {v v' : Value} (hv : VR ρ v v') (k : Nat) : VRl ρ (l.set k v) (l'.set k v') :=
  ⟨by simp [h.1], fun i x x' a b => by
    by_cases hik : k = i
    · subst hik
      have hk : k < l.length := by have := (List.getElem?_eq_some_iff.1 a).1; simpa using this
      rw [List.getElem?_set_self hk] at a
      rw [List.getElem?_set_self (h.1 ▸ hk)] at b
      cases a; cases b; exact hv
    · rw [List.getElem?_set_ne hik] at a b
      exact h.2 i x x' a b⟩

/-! ## The relation between canonical and real memory -/
def ObjRel (ρ : Ren) (r : RI) (o : KObj) (w : World) : Prop :=
  match o with
  | .cells own z cs => own = r.own ∧ z = r.z ∧ ∃ cs' ty fz, w.heap[r.b]? = some (.cells cs' ty fz) ∧ cs'.size = r.n ∧ (own = true → fz = (0, 0)) ∧
      ∀ (i : Nat) (v : Value), cs[i]? = some v → ∃ v' : Value, cs'[i + r.s]? = some v' ∧ VR ρ v v'
  | .map es => r.own = true ∧ ∃ es' clock, w.heap[r.b]? = some (.map es' clock) ∧ es.length = es'.size ∧
      ∀ (i : Nat) (k v : Value), es[i]? = some (k, v) → ∃ e' : MapEntry, es'[i]? = some e' ∧ VR ρ k e'.key ∧ VR ρ v e'.val
  | .loop st pending tm N ps assign body => r.own = true ∧ ∃ l, w.heap[r.b]? = some (.loop l) ∧ l.state = st ∧ l.pending = pending ∧ l.params = ps ∧ l.assign = assign ∧ l.body = body ∧ l.tmps.size = N ∧ ∀ t, t < N → VR ρ (tm t) (l.tmps.getD t undef)
  | .dead => True

theorem ObjRel.mono {ρ ρ' : Ren} (hle : Ren.le ρ ρ') {r : RI} {o : KObj} {w w' : World} (hb : w'.heap[r.b]? = w.heap[r.b]?) (h : ObjRel ρ r o w) : ObjRel ρ' r o w' := by
  cases o with
  | cells own z cs =>
    obtain ⟨h1, h2, cs', ty, fz, h3, h4, h5, h6⟩ := h
    exact ⟨h1, h2, cs', ty, fz, hb.trans h3, h4, h5, fun i v a => let ⟨v', b, c⟩ := h6 i v a; ⟨v', b, c.mono hle⟩⟩
  | map es =>
    obtain ⟨h1, es', clock, h2, h3, h4⟩ := h
    exact ⟨h1, es', clock, hb.trans h2, h3, fun i k v a => let ⟨e', b, c, d⟩ := h4 i k v a; ⟨e', b, c.mono hle, d.mono hle⟩⟩
  | loop st pending tm N ps assign body =>
    obtain ⟨h1, l, h2, h3, h4, h5, h6, h7, h8, h9⟩ := h
    exact ⟨h1, l, hb.trans h2, h3, h4, h5, h6, h7, h8, fun t ht => (h9 t ht).mono hle⟩
  | dead => trivial

structure Rel (P : Program) (B : Nat) (ρ : Ren) (H : Heap) (w : World) : Prop where
  bsize : B ≤ w.heap.size
  glob : ∀ g, g < P.globals.size → ∃ r, ρ g = some r ∧ r.b = g ∧ r.s = 0
  dom : ∀ id r, ρ id = some r → id < H.length
  lt : ∀ id r, ρ id = some r → r.b < w.heap.size
  obj : ∀ id r o, ρ id = some r → H[id]? = some o → ObjRel ρ r o w
  base : ∀ id r o, ρ id = some r → H[id]? = some o → o.owned = true → B ≤ r.b
  sep : ∀ id id' r r' o o', ρ id = some r → ρ id' = some r' → H[id]? = some o → H[id']? = some o' → o.owned = true → o'.alive = true → id ≠ id' → r.b ≠ r'.b

/-- The real blocks that the canonical heap owns. -/
def OB (ρ : Ren) (H : Heap) (b : Nat) : Prop := ∃ id r o, ρ id = some r ∧ H[id]? = some o ∧ o.owned = true ∧ r.b = b

/-- What a step does to memory: what was there below 'base' and is not in M is as it was. -/
structure Post (P : Program) (B base : Nat) (M : List Nat) (ρ : Ren) (H : Heap) (w : World) (ρ' : Ren) (H' : Heap) (w' : World) : Prop where
  rel : Rel P B ρ' H' w'
  ext : Ren.le ρ ρ'
  new : ∀ id r, ρ' id = some r → ρ id = none → H.length ≤ id
  len : H.length ≤ H'.length
  same : ∀ id, id < base → id ∉ M → H'[id]? = H[id]?
  size : w.heap.size ≤ w'.heap.size
  keep : ∀ b, b < w.heap.size → ¬ OB ρ H b → w'.heap[b]? = w.heap[b]?
  ob : ∀ b, b < w.heap.size → OB ρ' H' b → OB ρ H b
  os : w'.os = w.os
  tape : w'.tape = w.tape
  output : w'.output = w.output

theorem Post.refl {P : Program} {B base : Nat} {M : List Nat} {ρ : Ren} {H : Heap} {w : World} (h : Rel P B ρ H w) : Post P B base M ρ H w ρ H w :=
  ⟨h, Ren.le_refl _, fun id r a b => (by rw [b] at a; cases a), Nat.le_refl _, fun _ _ _ => rfl, Nat.le_refl _, fun _ _ _ => rfl, fun _ _ h => h, rfl, rfl, rfl⟩

theorem Post.trans {P : Program} {B base : Nat} {M : List Nat} {ρ ρ1 ρ2 : Ren} {H H1 H2 : Heap} {w w1 w2 : World}
    (h : Post P B base M ρ H w ρ1 H1 w1) (k : Post P B base M ρ1 H1 w1 ρ2 H2 w2) : Post P B base M ρ H w ρ2 H2 w2 where
  rel := k.rel
  ext := Ren.le_trans h.ext k.ext
  new := fun id r a b => by
    cases hc : ρ1 id with
    | none => exact Nat.le_trans h.len (k.new id r a hc)
    | some r' => exact h.new id r' hc b
  len := Nat.le_trans h.len k.len
  same := fun id hb hm => (k.same id hb hm).trans (h.same id hb hm)
  size := Nat.le_trans h.size k.size
  keep := fun b hb hn => (k.keep b (Nat.lt_of_lt_of_le hb h.size) (fun ho => hn (h.ob b hb ho))).trans (h.keep b hb hn)
  ob := fun b hb ho => h.ob b hb (k.ob b (Nat.lt_of_lt_of_le hb h.size) ho)
  os := k.os.trans h.os
  tape := k.tape.trans h.tape
  output := k.output.trans h.output

theorem Post.weaken {P : Program} {B base base' : Nat} {M M' : List Nat} {ρ ρ' : Ren} {H H' : Heap} {w w' : World}
    (h : Post P B base M ρ H w ρ' H' w') (hb : base' ≤ base) (hM : ∀ id ∈ M, id < base' → id ∈ M') : Post P B base' M' ρ H w ρ' H' w' :=
  { h with same := fun id hi hm => h.same id (Nat.lt_of_lt_of_le hi hb) (fun hmm => hm (hM id hmm hi)) }

/-- A draw turns nothing. -/
theorem Rel.drew {P : Program} {B : Nat} {ρ : Ren} {H : Heap} {w : World} (h : Rel P B ρ H w) : Rel P B ρ H w.drew :=
  ⟨h.bsize, h.glob, h.dom, h.lt, fun id r o a b => by
    have := h.obj id r o a b
    cases o <;> exact this, h.base, h.sep⟩

theorem OB.base {P : Program} {B : Nat} {ρ : Ren} {H : Heap} {w : World} (h : Rel P B ρ H w) {b : Nat} (ho : OB ρ H b) : B ≤ b := by
  obtain ⟨id, r, o, h1, h2, h3, rfl⟩ := ho
  exact h.base id r o h1 h2 h3

/-- What is below B has not turned. -/
theorem Post.below {P : Program} {B base : Nat} {M : List Nat} {ρ ρ' : Ren} {H H' : Heap} {w w' : World} (hr : Rel P B ρ H w)
    (h : Post P B base M ρ H w ρ' H' w') : RowKit.Below B w w' :=
  ⟨h.os, h.tape, h.output, h.size, fun k hk => h.keep k (by have := hr.bsize; omega) (fun ho => by have := OB.base hr ho; omega)⟩
end Go.K
