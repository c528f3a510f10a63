/- Contracts out of what is to be shown. No condition. -/
import Derived.Test.YthcjliffpebjaaaV10
namespace Go.K
open Go
set_option linter.unusedVariables false
noncomputable section
variable {P : Program}

theorem maskOk_of {P : Program} {mixed : Bool} (M n : Nat) (hlt : M < 2 ^ n) (h : (List.range n).all (fun f => !(Nat.testBit M f) || fnOk P mixed f) = true) : MaskOk P mixed M := by
  intro f hf
  rcases Nat.lt_or_ge f n with hn | hn
  · rw [List.all_eq_true] at h
    have := h f (List.mem_range.2 hn)
    simpa [hf] using this
  · have : Nat.testBit M f = false := Nat.testBit_lt_two_pow (Nat.lt_of_lt_of_le hlt (Nat.pow_le_pow_right (by omega) hn))
    rw [this] at hf; cases hf

/-! ## Values without addresses -/
theorem rnC {σ : Nat → Option Nat} {d : Nat} {v : Value} (h : belowC 0 v = true) : rn σ (d + 1) v = v ∧ rnOk (d + 1) v = true := by
  cases v with
  | pointer a => cases a with | none => exact ⟨rfl, rfl⟩ | some a => simp [belowC] at h
  | slice a l c => cases a with | none => exact ⟨rfl, rfl⟩ | some a => simp [belowC] at h
  | map r => cases r with | none => exact ⟨rfl, rfl⟩ | some r => simp [belowC] at h
  | func => simp [belowC] at h
  | agg => simp [belowC] at h
  | tuple => simp [belowC] at h
  | _ => exact ⟨rfl, rfl⟩
theorem rnCl {σ : Nat → Option Nat} {d : Nat} : ∀ {l : List Value}, l.all (belowC 0) = true → l.map (rn σ (d + 1)) = l ∧ l.all (rnOk (d + 1)) = true
  | [], _ => ⟨rfl, rfl⟩
  | v :: l, h => by
    simp only [List.all_cons, Bool.and_eq_true] at h
    obtain ⟨a, b⟩ := rnC (σ := σ) (d := d) h.1
    obtain ⟨c, e⟩ := rnCl (σ := σ) (d := d) h.2
    exact ⟨by rw [List.map_cons, a, c], by simp [b, e]⟩
theorem rnV {σ : Nat → Option Nat} {d : Nat} {v : Value} (h : belowV 0 v = true) : rn σ (d + 3) v = v ∧ rnOk (d + 3) v = true := by
  cases v with
  | agg cs =>
    obtain ⟨a, b⟩ := rnCl (σ := σ) (d := d + 1) h
    exact ⟨by unfold rn; simp only; rw [a], b⟩
  | tuple vs =>
    have key : ∀ l : List Value, (l.all fun v => match v with | .agg cs => cs.toList.all (belowC 0) | v => belowC 0 v) = true → l.map (rn σ (d + 2)) = l ∧ l.all (rnOk (d + 2)) = true := by
      intro l
      induction l with
      | nil => intro _; exact ⟨rfl, rfl⟩
      | cons v l ih =>
        intro hl
        simp only [List.all_cons, Bool.and_eq_true] at hl
        obtain ⟨c, e⟩ := ih hl.2
        have hv : rn σ (d + 2) v = v ∧ rnOk (d + 2) v = true := by
          cases v with
          | agg cs =>
            obtain ⟨a, b⟩ := rnCl (σ := σ) (d := d) hl.1
            exact ⟨by unfold rn; simp only; rw [a], b⟩
          | _ => exact rnC (d := d + 1) hl.1
        exact ⟨by rw [List.map_cons, hv.1, c], by simp [hv.2, e]⟩
    obtain ⟨a, b⟩ := key vs.toList h
    exact ⟨by unfold rn; simp only; rw [a], b⟩
  | _ => exact rnC (d := d + 2) h
theorem rnVl {σ : Nat → Option Nat} {d : Nat} : ∀ {l : List Value}, l.all (belowV 0) = true → l.map (rn σ (d + 3)) = l
  | [], _ => rfl
  | v :: l, h => by
    simp only [List.all_cons, Bool.and_eq_true] at h
    rw [List.map_cons, (rnV h.1).1, rnVl h.2]
theorem belowC_mono {n : Nat} {v : Value} (h : belowC 0 v = true) : belowC n v = true := by
  cases v with
  | pointer a => cases a with | none => rfl | some a => simp [belowC] at h
  | slice a l c => cases a with | none => rfl | some a => simp [belowC] at h
  | map r => cases r with | none => rfl | some r => simp [belowC] at h
  | func => simp [belowC] at h
  | agg => simp [belowC] at h
  | tuple => simp [belowC] at h
  | _ => first | rfl | exact h
theorem belowCl_mono {n : Nat} {l : List Value} (h : l.all (belowC 0) = true) : l.all (belowC n) = true := by
  rw [List.all_eq_true] at *; exact fun v hv => belowC_mono (h v hv)
theorem belowV_mono {n : Nat} {v : Value} (h : belowV 0 v = true) : belowV n v = true := by
  cases v with
  | agg cs => exact belowCl_mono h
  | tuple vs =>
    simp only [belowV, List.all_eq_true] at *
    intro v hv
    have := h v hv
    cases v with
    | agg cs => simp only [List.all_eq_true] at *; exact fun x hx => belowC_mono (this x hx)
    | _ => exact belowC_mono this
  | bool b => rfl
  | int k n => rfl
  | float k n => rfl
  | string s => rfl
  | nilFunc => rfl
  | nilIface => rfl
  | pointer a => exact belowC_mono (n := n) (v := .pointer a) h
  | slice a l c => exact belowC_mono (n := n) (v := .slice a l c) h
  | map r => exact belowC_mono (n := n) (v := .map r) h
  | _ => simp [belowV, belowC] at h

/-! ## Answers without addresses -/
theorem KCall.clean {f : FuncId} {args : List Value} {H : Heap} {v : Value} (h : KCall P f args H [] (fun v' _ => v' = v)) (hb : belowV 0 v = true) : KCall P f args H [] (Is v H) := by
  refine h.trim ?_
  rintro v' H' hl hs rfl
  refine ⟨belowV_mono hb, (fun _ h => (by cases h)), rfl, ?_⟩
  refine List.ext_getElem? (fun i => ?_)
  rw [List.getElem?_take]
  split
  · rename_i hi; exact hs i hi (by simp)
  · rename_i hi; exact (List.getElem?_eq_none (by omega)).symm

section
variable {mask : Nat} {dm : Value → MS} {rounds : Nat} {mixed : Bool}
/-- A function of values alone. -/
theorem vcP (hmask : MaskOk P mixed mask) (hmix : mixed = true → P.follows .mixedOrders = true) (n : Nat) {f : FuncId} {args : List Value} {h : Hint} {v : Value} (hargs : ∀ σ, args.map (rn σ 3) = args) (hv : belowV 0 v = true)
    (hc : vF P mask dm rounds mixed n true f args ⟨P.globals.size, .leaf⟩ (some []) h (fun v' _ _ => v' = v)) (H : Heap) (hH : P.globals.size ≤ H.length) : KCall P f args H [] (Is v H) := by
  have h1 := KCall.clean (vc hmask hmix n (Q := fun v' _ => v' = v) hc) hv
  have hdead : ∀ (id : Nat) (o : KObj), (HT.list ⟨P.globals.size, .leaf⟩)[id]? = some o → o = .dead := by
    intro id o ho
    rw [HT.list_get] at ho
    unfold HT.get at ho
    cases hb : Nat.blt id P.globals.size with
    | true => simp only [hb, cond_true] at ho; cases ho; rfl
    | false => simp only [hb, cond_false] at ho; cases ho
  have hlen : (HT.list ⟨P.globals.size, .leaf⟩).length = P.globals.size := HT.length _
  have hp : Part P (HT.list ⟨P.globals.size, .leaf⟩) H (fun id => if id < P.globals.size then some id else none) 3 := by
    refine ⟨fun g hg => if_pos hg, fun id id' h => ?_, fun id hid => ?_, fun a b c h1 h2 => ?_, fun id id' o _ ho => .inl (hdead id o ho)⟩
    · split at h
      · cases h; rw [hlen]; omega
      · cases h
    · rw [hlen] at hid; exact ⟨id, if_pos hid⟩
    · split at h1
      · split at h2
        · cases h1; cases h2; rfl
        · cases h2
      · cases h1
  have h2 := KCall.frame (new := []) (d := 3) hp (by simpa using h1) (rnV (σ := fun _ => none) (d := 0) hv).2 rfl
  rw [hargs, (rnV (d := 0) hv).1] at h2
  simpa using h2
/-- A function that answers with new blocks. -/
def newK (n0 d : Nat) (v : Value) (new : List (Bool × KObj)) : KV := fun v' H' h' =>
  match h' with
  | .again σ => sgOk n0 (n0 + new.length) σ = true ∧ v' = rn (sg n0 σ) d v ∧ newOk H' n0 (sg n0 σ) d n0 new
  | _ => False
theorem KCall.pack {f : FuncId} {args : List Value} {H0 : HT} {v : Value} {new : List (Bool × KObj)} {d : Nat} (h : KCall P f args H0.list [] (fun v' H' => ∃ (H2 : HT) (σ : List (Nat × Nat)), H' = H2.list ∧ sgOk H0.n (H0.n + new.length) σ = true ∧ v' = rn (sg H0.n σ) d v ∧ newOk H2 H0.n (sg H0.n σ) d H0.n new)) :
    KCall P f args H0.list [] (Is v (H0.list ++ new.map (·.2))) := by
  refine ⟨h.1, fun B ρ w args' hr ha => (h.2 B ρ w args' hr ha).mono ?_⟩
  rintro e w' ⟨v', r, ρ', H', rfl, hv, hp, H2, σ, rfl, hs, rfl, hn⟩
  have hh : headOk 0 ⟨fun _ => junk, .leaf⟩ H2 H0 d [] σ [] [] new := ⟨by simp only [Bool.and_eq_true]; exact ⟨hs, rfl, rfl⟩, trivial, trivial, hn⟩
  have he := headOk_emb hh
  have hlist : (headH H0 [] new).list = H0.list ++ new.map (·.2) := by
    have key : ∀ (l : List (Bool × KObj)) (H : HT), (l.foldl (fun H p => H.push p.2) H).list = H.list ++ l.map (·.2) := by
      intro l
      induction l with
      | nil => intro H; simp
      | cons p l ih => intro H; rw [List.foldl_cons, ih, HT.list_push]; simp
    exact key new H0
  rw [hlist] at he
  obtain ⟨q1, _⟩ := he.post hr (Nat.le_refl _) (fun id h => by cases h) (fun id hid _ => hp.same id hid (by simp)) hp
  refine ⟨v, r, renBy ρ' (sg H0.n σ), _, rfl, ?_, q1, rfl, rfl⟩
  exact rn_VR (fun id id' r h1 h2 => by unfold renBy; rw [h1]; exact h2) d hv
theorem vcN (hmask : MaskOk P mixed mask) (hmix : mixed = true → P.follows .mixedOrders = true) (n : Nat) {f : FuncId} {args : List Value} {H0 : HT} {h : Hint} {v : Value} {new : List (Bool × KObj)} {d : Nat}
    (hc : vF P mask dm rounds mixed n true f args H0 (some []) h (newK H0.n d v new)) : KCall P f args H0.list [] (Is v (H0.list ++ new.map (·.2))) := by
  refine KCall.pack (d := d) (((vF_sound hmask hmix n).1 f args H0 (some []) h _ hc).post ?_)
  rintro v' H' ⟨H2, h2, e, hk⟩
  cases h2 with
  | again σ => exact ⟨H2, σ, e, hk⟩
  | _ => exact hk.elim
/-- The same, where one block is read. -/
theorem vcB (hmask : MaskOk P mixed mask) (hmix : mixed = true → P.follows .mixedOrders = true) (n : Nat) {f : FuncId} {args : List Value} {own : Bool} {z : Nat} {cs : List Value} {h : Hint} {v : Value} (hv : belowV 0 v = true) (hcs : cs.all (belowC 0) = true)
    (hc : vF P mask dm rounds mixed n true f args ⟨P.globals.size + 1, Tr.set .leaf P.globals.size (.cells own z cs)⟩ (some []) h (fun v' _ _ => v' = v))
    (H : Heap) (hH : P.globals.size ≤ H.length) (id : Nat) (hid : H[id]? = some (.cells own z cs)) (hg : P.globals.size ≤ id) :
    KCall P f (args.map (rn (fun i => if i < P.globals.size then some i else if i = P.globals.size then some id else none) 3)) H [] (Is v H) := by
  have h1 := KCall.clean (vc hmask hmix n (Q := fun v' _ => v' = v) hc) hv
  have hlen : (HT.list ⟨P.globals.size + 1, Tr.set .leaf P.globals.size (.cells own z cs)⟩).length = P.globals.size + 1 := HT.length _
  have hidl : id < H.length := (List.getElem?_eq_some_iff.1 hid).1
  have hget : ∀ i, (HT.list ⟨P.globals.size + 1, Tr.set .leaf P.globals.size (.cells own z cs)⟩)[i]? = if i < P.globals.size then some .dead else if i = P.globals.size then some (.cells own z cs) else none := by
    intro i
    rw [HT.list_get]
    unfold HT.get
    simp only []
    rw [Tr.get_set]
    by_cases h1 : i < P.globals.size
    · rw [if_pos h1, if_neg (by omega), show Nat.blt i (P.globals.size + 1) = true by rw [Nat.blt_eq]; omega]; rfl
    · by_cases h2 : i = P.globals.size
      · rw [if_neg h1, if_pos h2, if_pos h2, show Nat.blt i (P.globals.size + 1) = true by rw [Nat.blt_eq]; omega]; rfl
      · rw [if_neg h1, if_neg h2, if_neg h2, show Nat.blt i (P.globals.size + 1) = false by cases hb : Nat.blt i (P.globals.size + 1) with | false => rfl | true => rw [Nat.blt_eq] at hb; omega]; rfl
  have hp : Part P (HT.list ⟨P.globals.size + 1, Tr.set .leaf P.globals.size (.cells own z cs)⟩) H (fun i => if i < P.globals.size then some i else if i = P.globals.size then some id else none) 3 := by
    refine ⟨fun g hg => if_pos hg, fun i i' h => ?_, fun i hi => ?_, fun a b c h1 h2 => ?_, fun i i' o hs ho => ?_⟩
    · rw [hlen]
      split at h
      · cases h; omega
      · split at h
        · cases h; omega
        · cases h
    · rw [hlen] at hi
      by_cases h1 : i < P.globals.size
      · exact ⟨i, if_pos h1⟩
      · exact ⟨id, by rw [if_neg h1, if_pos (by omega)]⟩
    · split at h1
      · cases h1
        split at h2
        · cases h2; rfl
        · split at h2
          · cases h2; omega
          · cases h2
      · split at h1
        · cases h1
          split at h2
          · cases h2; omega
          · split at h2
            · omega
            · cases h2
        · cases h1
    · rw [hget] at ho
      split at ho
      · cases ho; exact .inl rfl
      · split at ho
        · cases ho
          rename_i h1 h2
          rw [if_neg h1, if_pos h2] at hs
          cases hs
          have a : cs.map (rn (fun i => if i < P.globals.size then some i else if i = P.globals.size then some id else none) 3) = cs := (rnCl (d := 2) hcs).1
          have b : cs.all (rnOk 3) = true := (rnCl (σ := fun _ => none) (d := 2) hcs).2
          right
          exact ⟨b, by rw [hid]; exact congrArg (fun l => some (KObj.cells own z l)) a.symm⟩
        · cases ho
  have h2 := KCall.frame (new := []) (d := 3) hp (by simpa using h1) (rnV (σ := fun _ => none) (d := 0) hv).2 rfl
  rw [(rnV (d := 0) hv).1] at h2
  simpa using h2
/-- A function that answers without addresses, in a small memory. -/
theorem vcS (hmask : MaskOk P mixed mask) (hmix : mixed = true → P.follows .mixedOrders = true) (n : Nat) {f : FuncId} {args : List Value} {H0 : HT} {h : Hint} {v : Value} (hv : belowV 0 v = true)
    (hc : vF P mask dm rounds mixed n true f args H0 (some []) h (fun v' _ _ => v' = v)) : KCall P f args H0.list [] (Is v H0.list) :=
  KCall.clean (vc hmask hmix n (Q := fun v' _ => v' = v) hc) hv
end

/-! ## Lists in blocks -/
def partA (n : Nat) (cs : List Value) (off : Nat) : Option Value := if off + n ≤ cs.length then some (.agg ⟨(cs.drop off).take n⟩) else none
/-- From 'off' on lie the elements of a list, n cells each. -/
def Sees {α : Type} (f : α → List Value) (n : Nat) (cs : List Value) (off : Nat) (xs : List α) : Prop := ∀ (k : Nat) (x : α), xs[k]? = some x → (f x).length = n ∧ (cs.drop (off + k * n)).take n = f x
theorem Sees.cell {α : Type} {f : α → List Value} {n : Nat} {cs : List Value} {off : Nat} {xs : List α} (h : Sees f n cs off xs) {k c : Nat} {x : α} (hx : xs[k]? = some x) {v : Value} (hv : (f x)[c]? = some v) : cs[off + k * n + c]? = some v := by
  obtain ⟨h1, h2⟩ := h k x hx
  have hc : c < n := by have := (List.getElem?_eq_some_iff.1 hv).1; omega
  rw [← h2, List.getElem?_take, if_pos hc, List.getElem?_drop] at hv
  exact hv
theorem Sees.agg {α : Type} {f : α → List Value} {n : Nat} {cs : List Value} {off : Nat} {xs : List α} (h : Sees f n cs off xs) {k c m : Nat} {x : α} (hx : xs[k]? = some x) (hm : c + m ≤ n) (h0 : 0 < m) : partA m cs (off + k * n + c) = some (.agg ⟨((f x).drop c).take m⟩) := by
  obtain ⟨h1, h2⟩ := h k x hx
  have hl : (f x).length ≤ (cs.drop (off + k * n)).length := by rw [← h2, List.length_take]; omega
  rw [List.length_drop] at hl
  unfold partA
  rw [if_pos (by omega), ← h2, List.drop_take, List.take_take, List.drop_drop, Nat.min_eq_left (by omega)]
end
end Go.K
