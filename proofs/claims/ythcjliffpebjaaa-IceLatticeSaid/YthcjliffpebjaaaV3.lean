/- Operations that write over memory as a tree; operations whose conditions are asked for. No condition. -/
import Derived.Test.YthcjliffpebjaaaV2
namespace Go.K
open Go
set_option linter.unusedVariables false
noncomputable section

def kcellsT (P : Program) (n : Nat) (len : Nat) (x : Value) (h : HT) : Option (List Value) :=
  match x with
  | .slice none _ _ => if len = 0 then some [] else none
  | .slice (some ⟨id, off, none⟩) l _ =>
    match h.get id with
    | some (.cells _ _ cs) => if len ≤ l ∧ off + len * n ≤ cs.length then some ((cs.drop off).take (len * n)) else none
    | _ => none
  | _ => none
theorem kcellsT_eq (P : Program) (n len : Nat) (x : Value) (h : HT) : kcellsT P n len x h = kcells P n len x h.list := by
  unfold kcellsT kcells
  simp only [HT.list_get]
  rfl
def kappendT (P : Program) (t : TypeId) (s x : Value) (h : HT) : Option (Value × HT × List Nat) :=
  match P.underlying t, s, x with
  | some (.slice el), .slice base len cap, .slice xb m xc =>
    match ksize P el, kbytes P el with
    | some (n + 1), some by_ =>
      if (len + m) * by_ ≤ 2 ^ 44 ∧ 1 ≤ by_ ∧ by_ ≤ 2 ^ 16 then
        if m = 0 then some (s, h, []) else
        match kcellsT P (n + 1) len s h, kcellsT P (n + 1) m x h, (kzero P el) with
        | some old, some new, some z =>
          if z.cells.toList.length = n + 1 ∧ new.all (fun v => one1 v) then
          match base with
          | none => some (.slice (some ⟨h.n, 0, none⟩) (len + m) (len + m), h.push (.cells true (n + 1) (old ++ new)), [])
          | some ⟨id, off, none⟩ =>
            match h.get id with
            | some (.cells true zz _) => if zz = n + 1 then
                some (.slice (some ⟨h.n, 0, none⟩) (len + m) (len + m), (h.set id .dead).push (.cells true (n + 1) (old ++ new)), [id]) else none
            | _ => none
          | _ => none
          else none
        | _, _, _ => none
      else none
    | _, _ => none
  | _, _, _ => none
abbrev liftW (r : Value × HT × List Nat) : Value × Heap × List Nat := (r.1, r.2.1.list, r.2.2)
theorem kappendT_sound {P : Program} {t : TypeId} {s x : Value} {h : HT} {r : Value × HT × List Nat} (hk : kappendT P t s x h = some r) : kappend P t s x h.list = some (liftW r) := by
  unfold kappendT at hk
  unfold kappend
  split at hk <;> try (cases hk; done)
  rename_i el base len cap xb m xc h1
  simp only [h1]
  split at hk <;> try (cases hk; done)
  rename_i n by_ h2 h3
  simp only [h2, h3]
  split at hk <;> try (cases hk; done)
  rename_i hc
  rw [if_pos hc]
  split at hk
  · rename_i hm; rw [if_pos hm]; cases hk; rfl
  · rename_i hm
    rw [if_neg hm]
    simp only [← kcellsT_eq]
    split at hk <;> try (cases hk; done)
    rename_i old new z g1 g2 g3
    simp only [g1, g2, g3]
    split at hk <;> try (cases hk; done)
    rename_i hd
    rw [if_pos hd]
    split at hk
    · cases hk; simp only [HT.list_push, HT.length, liftW]
    · rename_i id off
      simp only [HT.list_get]
      split at hk <;> try (cases hk; done)
      rename_i zz cs g4
      simp only [g4]
      split at hk <;> try (cases hk; done)
      rename_i hz
      rw [if_pos hz]
      cases hk
      simp only [HT.list_push, HT.list_set, HT.length, liftW]
    · cases hk
def kstoreT (P : Program) (t : TypeId) (a v : Value) (h : HT) : Option (HT × List Nat) :=
  match a with
  | .pointer (some ⟨id, off, none⟩) =>
    match h.get id with
    | some (.cells true z cs) =>
      match ksize P t with
      | some n => if v.cells.toList.length = n ∧ off + n ≤ cs.length ∧ v.cells.toList.all (fun v => one1 v) then
          some (h.set id (.cells true z (setl cs off v.cells.toList)), [id]) else none
      | none => none
    | _ => none
  | _ => none
theorem kstoreT_sound {P : Program} {t : TypeId} {a v : Value} {h : HT} {r : HT × List Nat} (hk : kstoreT P t a v h = some r) : kstore P t a v h.list = some (r.1.list, r.2) := by
  unfold kstoreT at hk
  unfold kstore
  split at hk <;> try (cases hk; done)
  rename_i id off
  simp only [HT.list_get]
  split at hk <;> try (cases hk; done)
  rename_i z cs g1
  simp only [g1]
  split at hk <;> try (cases hk; done)
  rename_i n g2
  simp only [g2]
  split at hk <;> try (cases hk; done)
  rename_i hc
  rw [if_pos hc]
  cases hk
  simp only [HT.list_set]
def kcopyT (P : Program) (t : TypeId) (d s : Value) (h : HT) : Option (Value × HT × List Nat) :=
  match P.underlying t, d, s with
  | some (.slice el), .slice base len cap, .slice sb m sc =>
    match ksize P el with
    | some n =>
      match kcellsT P n (min m len) s h with
      | some new =>
        match base with
        | none => some (.int .i64 (min m len : Nat), h, [])
        | some ⟨id, off, none⟩ =>
          match h.get id with
          | some (.cells true z cs) => if off + (min m len) * n ≤ cs.length ∧ new.all (fun v => one1 v) then
              some (.int .i64 (min m len : Nat), h.set id (.cells true z (setl cs off new)), [id]) else none
          | _ => none
        | _ => none
      | none => none
    | none => none
  | _, _, _ => none
theorem kcopyT_sound {P : Program} {t : TypeId} {d s : Value} {h : HT} {r : Value × HT × List Nat} (hk : kcopyT P t d s h = some r) : kcopy P t d s h.list = some (liftW r) := by
  unfold kcopyT at hk
  unfold kcopy
  split at hk <;> try (cases hk; done)
  rename_i el base len cap sb m sc h1
  simp only [h1]
  split at hk <;> try (cases hk; done)
  rename_i n h2
  simp only [h2, ← kcellsT_eq]
  split at hk <;> try (cases hk; done)
  rename_i new h3
  simp only [h3]
  split at hk
  · cases hk; rfl
  · rename_i id off
    simp only [HT.list_get]
    split at hk <;> try (cases hk; done)
    rename_i z cs g1
    simp only [g1]
    split at hk <;> try (cases hk; done)
    rename_i hc
    rw [if_pos hc]
    cases hk
    simp only [HT.list_set, liftW]
  · cases hk
def kwriteT (P : Program) (o : Op) (e : Operand → Value) (h : HT) : Option (Value × HT × List Nat) :=
  match o with
  | .store t a v => (kstoreT P t (e a) (e v) h).map fun r => (undef, r.1, r.2)
  | .call ⟨.builtin .append, ⟨[s, x]⟩, ⟨[t, u]⟩⟩ => match P.underlying u with
    | some (.slice _) => kappendT P t (e s) (e x) h
    | _ => none
  | .call ⟨.builtin .copy, ⟨[d, s]⟩, ⟨t :: _⟩⟩ => kcopyT P t (e d) (e s) h
  | _ => none
theorem kwriteT_sound {P : Program} {o : Op} {e : Operand → Value} {h : HT} {r : Value × HT × List Nat} (hk : kwriteT P o e h = some r) : kwrite P o e h.list = some (liftW r) := by
  unfold kwriteT at hk
  split at hk
  all_goals simp only [kwrite]
  · obtain ⟨r', h1, rfl⟩ := Option.map_eq_some_iff.1 hk
    rw [kstoreT_sound h1]; rfl
  · split at hk <;> try (cases hk; done)
    rename_i g
    simp only [g]
    exact kappendT_sound hk
  · exact kcopyT_sound hk
  · cases hk

/-! ## What must hold for an operation to go through, and what it gives -/
def kboundN (v : Option Value) (d m : Nat) : Option (Prop × Nat) :=
  match v with
  | none => some (d ≤ m, d)
  | some (.int _ i) => some (0 ≤ i ∧ i ≤ m, i.toNat)
  | _ => none
theorem kboundN_sound {v : Option Value} {d m n : Nat} {c : Prop} (h : kboundN v d m = some (c, n)) (hc : c) : kbound v d m = some n := by
  unfold kboundN at h
  unfold kbound
  split at h
  · cases h; rfl
  · cases h; simp only []; rw [if_pos hc]
  · cases h
def kneed (P : Program) (o : Op) (e : Operand → Value) (h : HT) : Option (Prop × Value × Option Nat) :=
  match o with
  | .indexAddr t x i =>
    match P.underlying t, e x, e i with
    | some (.slice el), .slice (some ⟨id, off, none⟩) len _, .int _ i =>
      match ksize P el with
      | some n => some (0 ≤ i ∧ i < len, .pointer (some ⟨id, off + i.toNat * n, none⟩), none)
      | none => none
    | some (.array len el), .pointer (some ⟨id, off, none⟩), .int _ i =>
      match ksize P el with
      | some n => some (0 ≤ i ∧ i < len, .pointer (some ⟨id, off + i.toNat * n, none⟩), none)
      | none => none
    | _, _, _ => none
  | .slice t x lo hi none =>
    match P.underlying t, e x with
    | some (.slice el), .slice (some ⟨id, off, none⟩) len cap =>
      match ksize P el, kboundN (hi.map e) len cap with
      | some n, some (c1, h') =>
        match kboundN (lo.map e) 0 h' with
        | some (c2, l) =>
          match h.get id with
          | some (.cells own z _) => some ((own = false ∨ z = 0 ∨ z = n) ∧ c1 ∧ c2, .slice (some ⟨id, off + l * n, none⟩) (h' - l) (cap - l), some id)
          | _ => none
        | none => none
      | _, _ => none
    | _, _ => none
  | .binOp op t x y _ =>
    match op, e x, e y with
    | .quo, .int k a, .int k' b => match decide (k = k') with | true => some (b ≠ 0, .int k (k.wrap (a.tdiv b)), none) | false => none
    | .rem, .int k a, .int k' b => match decide (k = k') with | true => some (b ≠ 0, .int k (a.tmod b), none) | false => none
    | .shl, .int k a, .int k' b => some (0 ≤ b, .int k (k.wrap (a * 2 ^ min b.toNat k.bits)), none)
    | .shr, .int k a, .int k' b => some (0 ≤ b, .int k (a.fdiv (2 ^ min b.toNat k.bits)), none)
    | _, _, _ => none
  | _ => none
theorem kneed_sound {P : Program} {o : Op} {e : Operand → Value} {h : HT} {c : Prop} {v : Value} {rd : Option Nat} (hk : kneed P o e h = some (c, v, rd)) (hc : c) : kpure P o e h.list = some (v, rd) := by
  unfold kneed at hk
  split at hk
  · split at hk <;> try (cases hk; done)
    · rename_i g1 g2 g3
      split at hk <;> try (cases hk; done)
      rename_i n g4
      cases hk
      exact (by simp only [kpure, kindexAddr, g1, g2, g3, g4]; rw [if_pos hc]; rfl)
    · rename_i g1 g2 g3
      split at hk <;> try (cases hk; done)
      rename_i n g4
      cases hk
      exact (by simp only [kpure, kindexAddr, g1, g2, g3, g4]; rw [if_pos hc]; rfl)
  · split at hk <;> try (cases hk; done)
    rename_i el id off len cap g1 g2
    split at hk <;> try (cases hk; done)
    rename_i n c1 h' g3 g4
    split at hk <;> try (cases hk; done)
    rename_i c2 l g5
    split at hk <;> try (cases hk; done)
    rename_i own z cs g6
    cases hk
    exact (by simp only [kpure, kslice, g1, g2, g3, kboundN_sound g4 hc.2.1, kboundN_sound g5 hc.2.2, HT.list_get, g6]; rw [if_pos hc.1])
  · split at hk <;> try (cases hk; done)
    · rename_i g1 g2
      split at hk <;> try (cases hk; done)
      rename_i g3
      cases hk
      exact (by simp only [kpure, g1, g2, kbin, kint]; rw [if_pos (of_decide_eq_true g3), if_neg hc]; rfl)
    · rename_i g1 g2
      split at hk <;> try (cases hk; done)
      rename_i g3
      cases hk
      exact (by simp only [kpure, g1, g2, kbin, kint]; rw [if_pos (of_decide_eq_true g3), if_neg hc]; rfl)
    · rename_i g1 g2
      cases hk
      exact (by simp only [kpure, g1, g2, kbin, kint]; rw [if_neg (by have : (0 : Int) ≤ _ := hc; omega)]; rfl)
    · rename_i g1 g2
      cases hk
      exact (by simp only [kpure, g1, g2, kbin, kint]; rw [if_neg (by have : (0 : Int) ≤ _ := hc; omega)]; rfl)
  · cases hk
def kneedA (P : Program) (o : Op) (e : Operand → Value) (id : Nat) : Option (Prop × Value × KObj) :=
  match o with
  | .makeSlice t l c =>
    match P.underlying t, e l, e c with
    | some (.slice el), .int .i64 l, .int .i64 c =>
      match ksize P el, kbytes P el, kzero P el with
      | some n, some by_, some z => cond (Nat.beq z.cells.toList.length n) (some (0 ≤ l ∧ l ≤ c ∧ c < 2 ^ 62 ∧ by_ * c ≤ 2 ^ 48, .slice (some ⟨id, 0, none⟩) l.toNat c.toNat, .cells true n (krep z.cells.toList c.toNat))) none
      | _, _, _ => none
    | _, _, _ => none
  | _ => none
theorem kneedA_sound {P : Program} {o : Op} {e : Operand → Value} {id : Nat} {c : Prop} {v : Value} {ob : KObj} (hk : kneedA P o e id = some (c, v, ob)) (hc : c) : kalloc P o e id = some (v, ob) := by
  unfold kneedA at hk
  split at hk <;> try (cases hk; done)
  split at hk <;> try (cases hk; done)
  rename_i g1 g2 g3
  split at hk <;> try (cases hk; done)
  rename_i n by_ z g4 g5 g6
  cases hb : Nat.beq z.cells.toList.length n with
  | false => rw [hb] at hk; cases hk
  | true =>
    rw [hb, cond_true] at hk
    cases hk
    simp only [kalloc, g1, g2, g3, g4, g5, g6]
    rw [if_pos ⟨Nat.eq_of_beq_eq_true hb, hc⟩]
def kcellsN (P : Program) (n : Nat) (len : Nat) (x : Value) (h : HT) : Option (Prop × List Value) :=
  match x with
  | .slice none _ _ => some (len = 0, [])
  | .slice (some ⟨id, off, none⟩) l _ =>
    match h.get id with
    | some (.cells _ _ cs) => some (len ≤ l ∧ off + len * n ≤ cs.length, (cs.drop off).take (len * n))
    | _ => none
  | _ => none
theorem kcellsN_sound {P : Program} {n len : Nat} {x : Value} {h : HT} {c : Prop} {l : List Value} (hk : kcellsN P n len x h = some (c, l)) (hc : c) : kcells P n len x h.list = some l := by
  unfold kcellsN at hk
  unfold kcells
  split at hk
  · cases hk; simp only []; rw [if_pos hc]
  · rename_i id off l' cap'
    split at hk <;> try (cases hk; done)
    rename_i g
    cases hk
    simp only [HT.list_get, g]
    rw [if_pos hc]
  · cases hk
def kneedW (P : Program) (o : Op) (e : Operand → Value) (h : HT) : Option (Prop × Value × HT × List Nat) :=
  match o with
  | .store t a v =>
    match e a with
    | .pointer (some ⟨id, off, none⟩) =>
      match h.get id with
      | some (.cells true z cs) =>
        match ksize P t with
        | some n => cond (Nat.beq (e v).cells.toList.length n && (e v).cells.toList.all (fun v => one1 v)) (some (off + n ≤ cs.length, undef, h.set id (.cells true z (setl cs off (e v).cells.toList)), [id])) none
        | none => none
      | _ => none
    | _ => none
  | .call ⟨.builtin .append, ⟨[s, x]⟩, ⟨[t, u]⟩⟩ =>
    match P.underlying u with
    | some (.slice _) =>
      match P.underlying t, e s, e x with
      | some (.slice el), .slice base len cap, .slice xb m xc =>
        match ksize P el, kbytes P el, kzero P el with
        | some (n + 1), some by_, some z =>
          match kcellsN P (n + 1) len (e s) h, kcellsN P (n + 1) m (e x) h with
          | some (c1, old), some (c2, new) =>
            cond (Nat.beq z.cells.toList.length (n + 1) && Nat.ble 1 by_ && Nat.ble by_ (2 ^ 16))
              (match base with
              | none => some ((len + m) * by_ ≤ 2 ^ 44 ∧ m ≠ 0 ∧ c1 ∧ c2 ∧ new.all (fun v => one1 v) = true, .slice (some ⟨h.n, 0, none⟩) (len + m) (len + m), h.push (.cells true (n + 1) (old ++ new)), [])
              | some ⟨id, off, none⟩ =>
                match h.get id with
                | some (.cells true zz _) => cond (Nat.beq zz (n + 1)) (some ((len + m) * by_ ≤ 2 ^ 44 ∧ m ≠ 0 ∧ c1 ∧ c2 ∧ new.all (fun v => one1 v) = true, .slice (some ⟨h.n, 0, none⟩) (len + m) (len + m), (h.set id .dead).push (.cells true (n + 1) (old ++ new)), [id])) none
                | _ => none
              | _ => none) none
          | _, _ => none
        | _, _, _ => none
      | _, _, _ => none
    | _ => none
  | .call ⟨.builtin .copy, ⟨[d, s]⟩, ⟨t :: _⟩⟩ =>
    match P.underlying t, e d, e s with
    | some (.slice el), .slice base len cap, .slice sb m sc =>
      match ksize P el with
      | some n =>
        match kcellsN P n (min m len) (e s) h with
        | some (c1, new) =>
          match base with
          | none => some (c1, .int .i64 (min m len : Nat), h, [])
          | some ⟨id, off, none⟩ =>
            match h.get id with
            | some (.cells true z cs) => some (c1 ∧ off + (min m len) * n ≤ cs.length ∧ new.all (fun v => one1 v) = true, .int .i64 (min m len : Nat), h.set id (.cells true z (setl cs off new)), [id])
            | _ => none
          | _ => none
        | none => none
      | none => none
    | _, _, _ => none
  | _ => none
theorem kneedW_sound {P : Program} {o : Op} {e : Operand → Value} {h : HT} {c : Prop} {r : Value × HT × List Nat} (hk : kneedW P o e h = some (c, r)) (hc : c) : kwrite P o e h.list = some (liftW r) := by
  unfold kneedW at hk
  split at hk
  · rename_i t a v
    split at hk <;> try (cases hk; done)
    rename_i id off g1
    split at hk <;> try (cases hk; done)
    rename_i z cs g2
    split at hk <;> try (cases hk; done)
    rename_i n g3
    cases hb : (Nat.beq (e v).cells.toList.length n && (e v).cells.toList.all (fun v => one1 v)) with
    | false => rw [hb] at hk; cases hk
    | true =>
      rw [hb, cond_true] at hk
      cases hk
      simp only [Bool.and_eq_true] at hb
      simp only [kwrite, kstore, g1, HT.list_get, g2, g3]
      rw [if_pos ⟨Nat.eq_of_beq_eq_true hb.1, hc, hb.2⟩]
      simp only [HT.list_set, Option.map_some, liftW]
  · rename_i s x t u
    split at hk <;> try (cases hk; done)
    rename_i el' g0
    split at hk <;> try (cases hk; done)
    rename_i el base len cap xb m xc g1 g2 g3
    split at hk <;> try (cases hk; done)
    rename_i n by_ z g4 g5 g6
    split at hk <;> try (cases hk; done)
    rename_i c1 old c2 new g7 g8
    cases hb : (Nat.beq z.cells.toList.length (n + 1) && Nat.ble 1 by_ && Nat.ble by_ (2 ^ 16)) with
    | false => rw [hb] at hk; cases hk
    | true =>
      rw [hb, cond_true] at hk
      simp only [Bool.and_eq_true] at hb
      have b1 := Nat.eq_of_beq_eq_true hb.1.1
      have b2 := Nat.le_of_ble_eq_true hb.1.2
      have b3 := Nat.le_of_ble_eq_true hb.2
      rw [g2] at g7
      rw [g3] at g8
      simp only [kwrite, g0, kappend, g1, g2, g3, g4, g5]
      split at hk
      · cases hk
        obtain ⟨k1, k2, k3, k4, k5⟩ := hc
        rw [if_pos ⟨k1, b2, b3⟩, if_neg k2]
        simp only [kcellsN_sound g7 k3, kcellsN_sound g8 k4, g6]
        rw [if_pos ⟨b1, k5⟩]
        simp only [HT.list_push, HT.length, liftW]
      · rename_i id off
        split at hk <;> try (cases hk; done)
        rename_i zz cs g9
        cases hz : Nat.beq zz (n + 1) with
        | false => rw [hz] at hk; cases hk
        | true =>
          rw [hz, cond_true] at hk
          cases hk
          obtain ⟨k1, k2, k3, k4, k5⟩ := hc
          rw [if_pos ⟨k1, b2, b3⟩, if_neg k2]
          simp only [kcellsN_sound g7 k3, kcellsN_sound g8 k4, g6]
          rw [if_pos ⟨b1, k5⟩]
          simp only [HT.list_get, g9]
          rw [if_pos (Nat.eq_of_beq_eq_true hz)]
          simp only [HT.list_push, HT.list_set, HT.length, liftW]
      · cases hk
  · rename_i d s t ts
    split at hk <;> try (cases hk; done)
    rename_i el base len cap sb m sc g1 g2 g3
    split at hk <;> try (cases hk; done)
    rename_i n g4
    split at hk <;> try (cases hk; done)
    rename_i c1 new g5
    rw [g3] at g5
    simp only [kwrite, kcopy, g1, g2, g3, g4]
    split at hk
    · cases hk; simp only [kcellsN_sound g5 hc]
    · rename_i id off
      split at hk <;> try (cases hk; done)
      rename_i z cs g6
      cases hk
      obtain ⟨k1, k2, k3⟩ := hc
      simp only [kcellsN_sound g5 k1, HT.list_get, g6]
      rw [if_pos ⟨k2, k3⟩]
      simp only [HT.list_set, liftW]
    · cases hk
  · cases hk
end
end Go.K
