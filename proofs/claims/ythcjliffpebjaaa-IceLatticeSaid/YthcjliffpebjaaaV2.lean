/- Operations over memory as a tree. No condition. -/
import Derived.Test.YthcjliffpebjaaaV1
namespace Go.K
open Go
set_option linter.unusedVariables false
noncomputable section

def kloadT (P : Program) (t : TypeId) (a : Value) (h : HT) : Option (Value × Nat) :=
  match a with
  | .pointer (some ⟨id, off, none⟩) =>
    match h.get id with
    | some (.cells _ _ cs) => match kpart P t cs off with | some v => some (v, id) | none => none
    | _ => none
  | _ => none
theorem kloadT_eq (P : Program) (t : TypeId) (a : Value) (h : HT) : kloadT P t a h = kload P t a h.list := by
  cases a <;> try rfl
  rename_i a
  rcases a with _ | ⟨id, off, _ | _⟩ <;> try rfl
  simp only [kloadT, kload, HT.list_get]
  rcases h.get id with _ | o
  · rfl
  · cases o <;> try rfl
    simp only []
    cases kpart P t _ off <;> rfl
def ksliceT (P : Program) (t : TypeId) (x : Value) (lo hi : Option Value) (h : HT) : Option (Value × Option Nat) :=
  match P.underlying t, x with
  | some (.slice e), .slice a len cap =>
    match ksize P e, kbound hi len cap with
    | some n, some h' =>
      match kbound lo 0 h' with
      | some l =>
        match a with
        | none => some (.slice none 0 0, none)
        | some ⟨id, off, none⟩ =>
          match h.get id with
          | some (.cells own z _) => if own = false ∨ z = 0 ∨ z = n then some (.slice (some ⟨id, off + l * n, none⟩) (h' - l) (cap - l), some id) else none
          | _ => none
        | some _ => none
      | none => none
    | _, _ => none
  | _, _ => none
theorem ksliceT_eq (P : Program) (t : TypeId) (x : Value) (lo hi : Option Value) (h : HT) : ksliceT P t x lo hi h = kslice P t x lo hi h.list := by
  unfold ksliceT kslice
  simp only [HT.list_get]
  rfl
def klenT (P : Program) (t : TypeId) (x : Value) (h : HT) : Option (Value × Option Nat) :=
  match P.underlying t, x with
  | some (.slice _), .slice _ n _ => some (.int .i64 n, none)
  | some .string, .string s => some (.int .i64 s.size, none)
  | some (.array n _), _ => some (.int .i64 n, none)
  | some (.map _ _), .map none => some (.int .i64 0, none)
  | some (.map _ _), .map (some id) => match h.get id with | some (.map es) => some (.int .i64 es.length, some id) | _ => none
  | _, _ => none
theorem klenT_eq (P : Program) (t : TypeId) (x : Value) (h : HT) : klenT P t x h = klen P t x h.list := by
  unfold klenT klen
  simp only [HT.list_get]
  rfl
def kpureT (P : Program) (o : Op) (e : Operand → Value) (h : HT) : Option (Value × Option Nat) :=
  match o with
  | .move x => some (e x, none)
  | .assign x => some (e x, none)
  | .pick c a b => match e c with | .bool t => some (match t with | true => e a | false => e b, none) | _ => none
  | .build t parts => (kbuild P t (parts.toList.map fun p => (p.1, e p.2))).map (·, none)
  | .load t a => (kloadT P t (e a) h).map fun r => (r.1, some r.2)
  | .nilCheck x => match e x with
    | .pointer (some a) => some (.pointer (some a), none)
    | .func (.func f) x y => some (.func (.func f) x y, none)
    | .func (.yield f) x y => some (.func (.yield f) x y, none)
    | _ => none
  | .binOp op t x y _ => (kbin P op t (e x) (e y)).map (·, none)
  | .unOp op _ x => (kun op (e x)).map (·, none)
  | .convert s d x => (kconv P s d (e x)).map (·, none)
  | .makeFunc (.func f) first cap => some (.func (.func f) ⟨first.toList.map e⟩ ⟨cap.toList.map e⟩, none)
  | .slice t x lo hi none => ksliceT P t (e x) (lo.map e) (hi.map e) h
  | .fieldAddr s x f => (kfieldAddr P s (e x) f).map (·, none)
  | .field t x f => (kfield P t (e x) f).map (·, none)
  | .indexAddr t x i => (kindexAddr P t (e x) (e i)).map (·, none)
  | .index t x i => (kindex P t (e x) (e i)).map (·, none)
  | .extract x i => match e x with | .tuple vs => (vs.toList[i]?).map (·, none) | _ => none
  | .call ⟨.builtin .len, ⟨[x]⟩, ⟨t :: _⟩⟩ => klenT P t (e x) h
  | .call ⟨.builtin .min, xs, _⟩ => (kminmax false (xs.toList.map e)).map (·, none)
  | .call ⟨.builtin .max, xs, _⟩ => (kminmax true (xs.toList.map e)).map (·, none)
  | _ => none
theorem amap {α β : Type} (f : α → β) (a : Array α) : (⟨a.toList.map f⟩ : Array β) = a.map f := Array.toList_inj.1 (by simp)
theorem kpureT_sound {P : Program} {o : Op} {e : Operand → Value} {h : HT} {r : Value × Option Nat} (hk : kpureT P o e h = some r) : kpure P o e h.list = some r := by
  unfold kpureT at hk
  split at hk
  all_goals simp only [kpure]
  case h_3 =>
    generalize e _ = c at hk ⊢
    cases c <;> try (cases hk; done)
    rename_i t
    cases t <;> exact hk
  case h_5 => rw [← kloadT_eq]; exact hk
  case h_10 => rw [amap, amap] at hk; exact hk
  case h_16 =>
    generalize e _ = c at hk ⊢
    cases c <;> try (cases hk; done)
    simp only [Array.getElem?_toList] at hk ⊢
    exact hk
  all_goals first
    | exact hk
    | (rw [← ksliceT_eq]; exact hk)
    | (rw [← klenT_eq]; exact hk)
    | (cases hk; done)
end
end Go.K
