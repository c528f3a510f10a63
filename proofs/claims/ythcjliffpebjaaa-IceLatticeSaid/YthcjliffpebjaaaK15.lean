/- A statement whose order is open: what one order gives, every order gives. No condition. -/
import Derived.Test.YthcjliffpebjaaaK14
namespace Go.K
open Go
set_option linter.unusedVariables false
variable {P : Program}

/-! ## Which operation waits for which -/
def befMask (acc : List Nat) (o : Oper) : Nat := o.after.toList.foldl (fun s e => if Region.binds .any e then s ||| 2 ^ e.on ||| acc.getD e.on 0 else s) 0
def befs : List Oper → List Nat → List Nat
  | [], acc => acc
  | o :: os, acc => befs os (acc ++ [befMask acc o])
def depB (bs : List Nat) (j i : Nat) : Bool := (bs.getD j 0).testBit i
theorem befs_length : ∀ (l : List Oper) (acc : List Nat), (befs l acc).length = acc.length + l.length := by
  intro l
  induction l with
  | nil => intro acc; simp [befs]
  | cons o os ih => intro acc; simp [befs, ih]; omega
theorem befs_keep : ∀ (l : List Oper) (acc : List Nat) (j : Nat), j < acc.length → (befs l acc)[j]? = acc[j]? := by
  intro l
  induction l with
  | nil => intro acc j _; rfl
  | cons o os ih => intro acc j h; simp only [befs]; rw [ih _ _ (by simp; omega), List.getElem?_append_left h]
theorem befMask_bit {acc : List Nat} {o : Oper} {i : Nat} (h : (befMask acc o).testBit i = true) : ∃ e ∈ o.after, Region.binds .any e = true ∧ (e.on = i ∨ (acc.getD e.on 0).testBit i = true) := by
  unfold befMask at h
  have key : ∀ (l : List Edge) (s : Nat), (l.foldl (fun s e => if Region.binds .any e then s ||| 2 ^ e.on ||| acc.getD e.on 0 else s) s).testBit i = true → s.testBit i = true ∨ ∃ e ∈ l, Region.binds .any e = true ∧ (e.on = i ∨ (acc.getD e.on 0).testBit i = true) := by
    intro l
    induction l with
    | nil => intro s h; exact .inl h
    | cons e es ih =>
      intro s h
      simp only [List.foldl_cons] at h
      rcases ih _ h with h1 | ⟨e', he', h2⟩
      · split at h1
        · rename_i hb
          rw [Nat.testBit_or, Nat.testBit_or, Nat.testBit_two_pow] at h1
          simp only [Bool.or_eq_true, decide_eq_true_eq] at h1
          rcases h1 with (h1 | h1) | h1
          · exact .inl h1
          · exact .inr ⟨e, List.mem_cons_self .., hb, .inl h1⟩
          · exact .inr ⟨e, List.mem_cons_self .., hb, .inr h1⟩
        · exact .inl h1
      · exact .inr ⟨e', List.mem_cons_of_mem _ he', h2⟩
  rcases key _ _ h with h1 | ⟨e, he, h2⟩
  · simp at h1
  · exact ⟨e, Array.mem_toList_iff.1 he, h2⟩
theorem befMask_on {acc : List Nat} {o : Oper} {e : Edge} (he : e ∈ o.after) (hb : Region.binds .any e = true) : (befMask acc o).testBit e.on = true := by
  unfold befMask
  have mono : ∀ (l : List Edge) (s i : Nat), s.testBit i = true → (l.foldl (fun s e => if Region.binds .any e then s ||| 2 ^ e.on ||| acc.getD e.on 0 else s) s).testBit i = true := by
    intro l
    induction l with
    | nil => intro s i h; exact h
    | cons x xs ih =>
      intro s i h
      simp only [List.foldl_cons]
      refine ih _ _ ?_
      split
      · rw [Nat.testBit_or, Nat.testBit_or, h]; rfl
      · exact h
  have key : ∀ (l : List Edge) (s : Nat), e ∈ l → (l.foldl (fun s e => if Region.binds .any e then s ||| 2 ^ e.on ||| acc.getD e.on 0 else s) s).testBit e.on = true := by
    intro l
    induction l with
    | nil => intro s h; cases h
    | cons x xs ih =>
      intro s h
      simp only [List.foldl_cons]
      rcases List.mem_cons.1 h with rfl | h
      · refine mono _ _ _ ?_
        rw [if_pos hb, Nat.testBit_or, Nat.testBit_or, Nat.testBit_two_pow]
        simp
      · exact ih _ h
  exact key _ _ (Array.mem_toList_iff.2 he)
theorem befs_on {l : List Oper} {j : Nat} {o : Oper} (hj : l[j]? = some o) {e : Edge} (he : e ∈ o.after) (hb : Region.binds .any e = true) : depB (befs l []) j e.on = true := by
  have key : ∀ (l : List Oper) (acc : List Nat) (k : Nat) (o : Oper), l[k]? = some o → ∃ acc', (befs l acc)[acc.length + k]? = some (befMask acc' o) := by
    intro l
    induction l with
    | nil => intro acc k o h; simp at h
    | cons x xs ih =>
      intro acc k o h
      cases k with
      | zero =>
        simp at h; subst h
        refine ⟨acc, ?_⟩
        simp only [befs]
        rw [befs_keep _ _ _ (by simp)]
        simp
      | succ k =>
        obtain ⟨acc', h2⟩ := ih (acc ++ [befMask acc x]) k o (by simpa using h)
        refine ⟨acc', ?_⟩
        simp only [befs]
        rw [← h2]
        congr 1
        simp; omega
  obtain ⟨acc', h2⟩ := key l [] j o hj
  simp only [List.length_nil, Nat.zero_add] at h2
  simp [depB, h2, befMask_on he hb]
theorem befs_bit {l : List Oper} {j i : Nat} (h : depB (befs l []) j i = true) : ∃ o, l[j]? = some o ∧ ∃ e ∈ o.after, Region.binds .any e = true ∧ (e.on = i ∨ depB (befs l []) e.on i = true) := by
  have key : ∀ (l : List Oper) (acc : List Nat) (k : Nat), k < l.length → ∃ acc' o, l[k]? = some o ∧ (befs l acc)[acc.length + k]? = some (befMask acc' o) ∧ (∀ q, q < acc'.length → (befs l acc)[q]? = acc'[q]?) := by
    intro l
    induction l with
    | nil => intro acc k hk; simp at hk
    | cons o os ih =>
      intro acc k hk
      cases k with
      | zero =>
        refine ⟨acc, o, rfl, ?_, fun q hq => befs_keep _ _ _ hq⟩
        simp only [befs]
        rw [befs_keep _ _ _ (by simp)]
        simp
      | succ k =>
        obtain ⟨acc', o', h1, h2, h3⟩ := ih (acc ++ [befMask acc o]) k (by simpa using hk)
        refine ⟨acc', o', by simpa using h1, ?_, h3⟩
        simp only [befs]
        rw [← h2]
        congr 1
        simp; omega
  have hj : j < l.length := by
    rcases Nat.lt_or_ge j l.length with h1 | h1
    · exact h1
    · have : (befs l [])[j]? = none := List.getElem?_eq_none (by rw [befs_length]; simpa using h1)
      simp [depB, this] at h
  obtain ⟨acc', o, h1, h2, h3⟩ := key l [] j hj
  simp only [List.length_nil, Nat.zero_add] at h2
  have hb : (befMask acc' o).testBit i = true := by simpa [depB, h2] using h
  obtain ⟨e, he, hbi, hor⟩ := befMask_bit hb
  refine ⟨o, h1, e, he, hbi, ?_⟩
  rcases hor with h4 | h4
  · exact .inl h4
  · right
    rcases Nat.lt_or_ge e.on acc'.length with h5 | h5
    · have := h3 _ h5
      simpa [depB, this] using h4
    · simp [List.getElem?_eq_none h5] at h4

/-! ## An order that may be walked -/
def hotOp (o : Oper) : Bool := match oclass o.op with | .pure | .alloc => false | _ => true
def looksB (ops : Array Oper) (o : Oper) (dst : Option Tmp) : Bool := match dst with | some d => (o.looksAt ops).contains d | none => false
def pairOk (bs : List Nat) (ops : Array Oper) (i j : Nat) : Bool :=
  match ops[i]?, ops[j]? with
  | some oi, some oj =>
    i != j && !depB bs i j && (oi.dst.isNone || oi.dst != oj.dst) && (!looksB ops oj oi.dst || depB bs j i) && (!looksB ops oi oj.dst || depB bs j i) && (!hotOp oi || depB bs j i)
  | _, _ => false
def allPairs (f : Nat → Nat → Bool) : List Nat → Bool
  | [] => true
  | i :: is => is.all (f i) && allPairs f is
def edgesOk (l : List Oper) : Bool := l.all fun o => o.after.toList.all fun e => !Region.binds .any e || decide (e.on < l.length)
def ordOk (l : List Oper) (ord : List Nat) : Bool :=
  edgesOk l && (List.range l.length).all (fun i => !depB (befs l []) i i) &&
  decide (ord.length = l.length) && (List.range l.length).all (fun i => ord.contains i) && allPairs (pairOk (befs l []) l.toArray) ord && ord.all (fun i => decide (i < l.length))

structure PairOk (bs : List Nat) (ops : Array Oper) (i j : Nat) : Prop where
  ex : ∃ oi oj, ops[i]? = some oi ∧ ops[j]? = some oj
  ne : i ≠ j
  order : depB bs i j = false
  ssa : ∀ oi oj d, ops[i]? = some oi → ops[j]? = some oj → oi.dst = some d → oj.dst ≠ some d
  wr : ∀ oi oj d, ops[i]? = some oi → ops[j]? = some oj → oi.dst = some d → d ∈ oj.looksAt ops → depB bs j i = true
  rw' : ∀ oi oj d, ops[i]? = some oi → ops[j]? = some oj → oj.dst = some d → d ∈ oi.looksAt ops → depB bs j i = true
  hot : ∀ oi, ops[i]? = some oi → hotOp oi = true → depB bs j i = true
theorem pairOk_spec {bs : List Nat} {ops : Array Oper} {i j : Nat} (h : pairOk bs ops i j = true) : PairOk bs ops i j := by
  unfold pairOk at h
  split at h
  · rename_i oi oj hi hj
    simp only [Bool.and_eq_true, Bool.or_eq_true, Bool.not_eq_true', bne_iff_ne] at h
    obtain ⟨⟨⟨⟨⟨h0, h1⟩, h2⟩, h3⟩, h4⟩, h5⟩ := h
    refine ⟨⟨oi, oj, hi, hj⟩, h0, h1, fun a b d ha hb hd => ?_, fun a b d ha hb hd hl => ?_, fun a b d ha hb hd hl => ?_, fun a ha hh => ?_⟩
    · rw [hi] at ha; cases ha; rw [hj] at hb; cases hb
      rcases h2 with h2 | h2
      · rw [hd] at h2; simp at h2
      · intro e; exact h2 (by rw [hd, e])
    · rw [hi] at ha; cases ha; rw [hj] at hb; cases hb
      rcases h3 with h3 | h3
      · simp [looksB, hd] at h3; exact absurd hl h3
      · exact h3
    · rw [hi] at ha; cases ha; rw [hj] at hb; cases hb
      rcases h4 with h4 | h4
      · simp [looksB, hd] at h4; exact absurd hl h4
      · exact h4
    · rw [hi] at ha; cases ha
      rcases h5 with h5 | h5
      · rw [hh] at h5; cases h5
      · exact h5
  · simp at h
theorem allPairs_spec {f : Nat → Nat → Bool} : ∀ {l : List Nat}, allPairs f l = true → ∀ pre i mid j post, l = pre ++ i :: (mid ++ j :: post) → f i j = true := by
  intro l
  induction l with
  | nil => intro _ pre i mid j post h; simp at h
  | cons x xs ih =>
    intro h pre i mid j post hl
    simp only [allPairs, Bool.and_eq_true, List.all_eq_true] at h
    cases pre with
    | nil =>
      simp at hl
      obtain ⟨rfl, rfl⟩ := hl
      exact h.1 j (by simp)
    | cons p ps =>
      simp at hl
      exact ih h.2 ps i mid j post hl.2

/-! ## The walk in that order -/
def Loose (bs : List Nat) (j : Nat) (log : List (Nat × Option Nat)) (ms : List Nat) : Prop := ∀ p ∈ log, depB bs j p.1 = false → ∀ x, p.2 = some x → x ∉ ms
theorem Loose.nil (bs : List Nat) (j : Nat) (log : List (Nat × Option Nat)) : Loose bs j log [] := fun _ _ _ _ _ h => by cases h
def KStepL (P : Program) (base : Nat) (M : List Nat) (bs : List Nat) (i : Nat) (log : List (Nat × Option Nat)) (o : Oper) (e : Operand → Value) (H : Heap) (K : Value → Heap → List (Nat × Option Nat) → Prop) : Prop :=
  match oclass o.op with
  | .pure => ∃ v rd, kpure P o.op e H = some (v, rd) ∧ K v H ((i, rd) :: log)
  | .alloc => ∃ v ob, kalloc P o.op e H.length = some (v, ob) ∧ K v (H ++ [ob]) ((i, some H.length) :: log)
  | .write => ∃ v H' wr, kwrite P o.op e H = some (v, H', wr) ∧ (∀ id ∈ wr, id < base → id ∈ M) ∧ Loose bs i log wr ∧ K v H' log
  | .call => match o.op with
    | .call ⟨.value f, args, _⟩ => ∃ Mc, KApp P (e f) (args.toList.map e) H Mc (fun v H' => K v H' log) ∧ (∀ id ∈ Mc, id < base → id ∈ M) ∧ Loose bs i log Mc
    | _ => False
  | .bad => False
def KOpsL (P : Program) (base : Nat) (M : List Nat) (bs : List Nat) (ops : Array Oper) : List Nat → Tm → Heap → List (Nat × Option Nat) → (Tm → Heap → Prop) → Prop
  | [], T, H, _, Q => Q T H
  | i :: is, T, H, log, Q =>
    match ops[i]? with
    | none => False
    | some o =>
      kknown o ops T = true ∧ if kwanted o ops T then KStepL P base M bs i log o (ev T) H (fun v H' log' => KOpsL P base M bs ops is (put T o.dst v) H' log' Q)
      else KOpsL P base M bs ops is (put T o.dst undef) H log Q

structure Ent where
  i : Nat
  o : Oper
  T : Tm
  H : Heap
  v : Value
  H' : Heap
  rd : Option Nat
  ms : List Nat
def EntOk (P : Program) (ops : Array Oper) (e : Ent) : Prop :=
  (ops[e.i]? = some e.o ∧ kknown e.o ops e.T = true) ∧
  (hotOp e.o = false → kwanted e.o ops e.T = true → (∃ rd, kpure P e.o.op (ev e.T) e.H = some (e.v, rd) ∧ e.H' = e.H ∧ e.rd = rd ∧ oclass e.o.op = .pure) ∨
    (∃ ob, kalloc P e.o.op (ev e.T) e.H.length = some (e.v, ob) ∧ e.H' = e.H ++ [ob] ∧ e.rd = some e.H.length ∧ oclass e.o.op = .alloc)) ∧
  (kwanted e.o ops e.T = false → e.v = undef) ∧ (hotOp e.o = false → e.ms = []) ∧
  e.H.length ≤ e.H'.length ∧ (∀ id, id < e.H.length → id ∉ e.ms → e.H'[id]? = e.H[id]?)
def chainT (T0 : Tm) (es : List Ent) : Tm := es.foldl (fun T e => put T e.o.dst e.v) T0
inductive Chain (P : Program) (ops : Array Oper) (T0 : Tm) (H0 : Heap) : List Ent → Heap → Prop
  | nil : Chain P ops T0 H0 [] H0
  | snoc {es H e} (h : Chain P ops T0 H0 es H) (hT : e.T = chainT T0 es) (hH : e.H = H) (ok : EntOk P ops e) : Chain P ops T0 H0 (es ++ [e]) e.H'
theorem chainT_snoc (T0 : Tm) (es : List Ent) (e : Ent) : chainT T0 (es ++ [e]) = put (chainT T0 es) e.o.dst e.v := by simp [chainT]
theorem put_other {T : Tm} {dst : Option Nat} {v : Value} {t : Nat} (h : dst ≠ some t) : put T dst v t = T t := by
  cases dst with
  | none => rfl
  | some d => have : t ≠ d := fun e => h (by rw [e]); simp [put, upd, this]
theorem put_same (T : Tm) (d : Nat) (v : Value) : put T (some d) v d = v := by simp [put, upd]
theorem snoc_ind {α : Type} {p : List α → Prop} (h0 : p []) (h1 : ∀ l a, p l → p (l ++ [a])) : ∀ l, p l := by
  intro l
  have : ∀ n (l : List α), l.length = n → p l := by
    intro n
    induction n with
    | zero => intro l h; rw [List.length_eq_zero_iff.1 h]; exact h0
    | succ n ih =>
      intro l h
      have hne : l ≠ [] := by intro e; rw [e] at h; simp at h
      rw [← List.dropLast_concat_getLast hne]
      exact h1 _ _ (ih _ (by simp [h]))
  exact this _ l rfl
theorem chainT_none {T0 : Tm} {t : Nat} : ∀ {es : List Ent}, (∀ e ∈ es, e.o.dst ≠ some t) → chainT T0 es t = T0 t := by
  intro es
  induction es using snoc_ind with
  | h0 => intro _; rfl
  | h1 l a ih =>
    intro h
    rw [chainT_snoc, put_other (h a (by simp))]
    exact ih (fun e he => h e (by simp [he]))
theorem chainT_some {T0 : Tm} {t : Nat} {pre post : List Ent} {e : Ent} (hd : e.o.dst = some t) (hp : ∀ x ∈ post, x.o.dst ≠ some t) : chainT T0 (pre ++ e :: post) t = e.v := by
  induction post using snoc_ind with
  | h0 => rw [show pre ++ [e] = pre ++ [e] from rfl, chainT_snoc, hd, put_same]
  | h1 l a ih =>
    rw [show pre ++ e :: (l ++ [a]) = (pre ++ e :: l) ++ [a] by simp, chainT_snoc, put_other (hp a (by simp))]
    exact ih (fun x hx => hp x (by simp [hx]))
theorem Chain.split {ops : Array Oper} {T0 : Tm} {H0 : Heap} : ∀ {es : List Ent} {H : Heap}, Chain P ops T0 H0 es H → ∀ pre e post, es = pre ++ e :: post →
    EntOk P ops e ∧ e.T = chainT T0 pre ∧ Chain P ops T0 H0 pre e.H ∧ e.H'.length ≤ H.length ∧ (∀ id, id < e.H'.length → (∀ x ∈ post, id ∉ x.ms) → H[id]? = e.H'[id]?) := by
  intro es H h
  induction h with
  | nil => intro pre e post he; simp at he
  | @snoc es H x hc hT hH ok ih =>
    intro pre e post he
    rcases List.eq_nil_or_concat post with rfl | ⟨post', y, rfl⟩
    · obtain ⟨rfl, h2⟩ := List.append_inj' he (by simp)
      simp at h2; subst h2
      refine ⟨ok, hT, by rw [hH]; exact hc, Nat.le_refl _, fun id _ _ => rfl⟩
    · have he2 : es ++ [x] = (pre ++ e :: post') ++ [y] := by rw [he]; simp
      obtain ⟨rfl, h2⟩ := List.append_inj' he2 (by simp)
      simp at h2; subst h2
      obtain ⟨g1, g2, g3, g4, g5⟩ := ih pre e post' rfl
      refine ⟨g1, g2, g3, ?_, fun id h1 h2 => ?_⟩
      · rw [← hH] at g4; exact Nat.le_trans g4 ok.2.2.2.2.1
      · have hl : id < x.H.length := by rw [hH]; omega
        rw [ok.2.2.2.2.2 id hl (h2 x (by simp)), hH]
        exact g5 id h1 (fun z hz => h2 z (by simp [hz]))
theorem Chain.len {ops : Array Oper} {T0 : Tm} {H0 : Heap} {es : List Ent} {H : Heap} (h : Chain P ops T0 H0 es H) : H0.length ≤ H.length := by
  induction h with
  | nil => exact Nat.le_refl _
  | snoc _ _ hH ok ih => rw [← hH] at ih; exact Nat.le_trans ih ok.2.2.2.2.1
end Go.K
