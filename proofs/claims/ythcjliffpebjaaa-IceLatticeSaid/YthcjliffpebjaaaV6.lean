/- What is to be shown is enough. No condition. -/
import Derived.Test.YthcjliffpebjaaaV5
namespace Go.K
open Go
set_option linter.unusedVariables false
noncomputable section
variable {P : Program}

def CallOkV (P : Program) (call : CallV) : Prop := ∀ f args H M h K, call f args H M h K → KCall P f args H.list (M.list H.n) (fun v H' => ∃ H2 h2, H' = H2.list ∧ K v H2 h2)
def AppOkV (P : Program) (app : AppV) : Prop := ∀ fv args H M h K, app fv args H M h K → KApp P fv args H.list (M.list H.n) (fun v H' => ∃ H2 h2, H' = H2.list ∧ K v H2 h2)
def YldOkV (P : Program) (yld : Nat → List Value → HT → MS → Hint → KV → Prop) : Prop := ∀ L args H M h K, yld L args H M h K → KApp P (.func (.yield L) #[] #[]) args H.list (M.list H.n) (fun v H' => ∃ H2 h2, H' = H2.list ∧ K v H2 h2)

theorem list_set_same {H : HT} {id : Nat} {o : KObj} (h : H.get id = some o) : (H.set id o).list = H.list := by
  rw [HT.list_set]
  refine List.ext_getElem? fun i => ?_
  rw [List.getElem?_set]
  split
  · rename_i e; subst e
    have := HT.list_get H id
    rw [h] at this
    split
    · exact this.symm
    · rename_i hl; rw [List.getElem?_eq_none (by omega)] at this; cases this
  · rfl
theorem vprep_sound : ∀ {h : Hint} {E : Env} {H : HT} {k : Env → HT → Hint → Prop}, vprep h E H k → ∃ E' H' h', E'.get = E.get ∧ H'.list = H.list ∧ k E' H' h' := by
  intro h
  induction h with
  | obj id o h ih =>
    intro E H k hk
    obtain ⟨h1, h2⟩ := hk
    obtain ⟨E', H', h', e1, e2, e3⟩ := ih h2
    exact ⟨E', H', h', e1, e2.trans (list_set_same h1), e3⟩
  | slot t v h ih =>
    intro E H k hk
    obtain ⟨h1, h2⟩ := hk
    obtain ⟨E', H', h', e1, e2, e3⟩ := ih h2
    exact ⟨E', H', h', e1.trans (Env.put_same E t v h1), e2, e3⟩
  | bind α f ih =>
    intro E H k hk
    obtain ⟨x, hk⟩ := hk
    exact ih x hk
  | _ => intro E H k hk; exact ⟨E, H, _, rfl, rfl, hk⟩
theorem HT.n_eq {H H' : HT} (h : H'.list = H.list) : H'.n = H.n := by rw [← HT.length, ← HT.length, h]

section
variable {app : AppV} {call : CallV} {dm : Value → MS}

/-- One operation: what KStep and KStepL both ask. -/
theorem ans_sound {fv : Value} {args : List Value} {H : Heap} {Mc : List Nat} {v : Value} {H' : Heap} (h : AnsOk P fv args H Mc v H') : KApp P fv args H Mc (Is v H') := by
  unfold AnsOk at h
  split at h
  · exact KApp.func h
  · exact h

inductive Stepped (P : Program) (wok : MS → Bool) (o : Oper) (E : Env) (H : HT) (K : Env → HT → Option Nat → Hint → Prop) : Prop
  | pure {v : Value} {rd : Option Nat} {E2 : Env} {h2 : Hint} (hc : oclass o.op = .pure) (hp : kpure P o.op (ev E.get) H.list = some (v, rd)) (he : E2.get = put E.get o.dst v) (hk : K E2 H rd h2)
  | alloc {v : Value} {ob : KObj} {h2 : Hint} (hc : oclass o.op = .alloc) (hp : kalloc P o.op (ev E.get) H.n = some (v, ob)) (hk : K (E.put o.dst v) (H.push ob) (some H.n) h2)
  | write {v : Value} {H' : HT} {ms : List Nat} {h2 : Hint} (hc : oclass o.op = .write) (hp : kwrite P o.op (ev E.get) H.list = some (v, H'.list, ms)) (hw : wok (some ms) = true) (hk : K (E.put o.dst v) H' none h2)
  | call {f : Operand} {args : Array Operand} {ts : Array TypeId} {Mc : MS} (hc : oclass o.op = .call) (hop : o.op = .call ⟨.value f, args, ts⟩) (hw : wok Mc = true)
      (ha : KApp P (ev E.get f) (args.toList.map (ev E.get)) H.list (Mc.list H.n) (fun v H' => ∃ H2 h2, H' = H2.list ∧ K (E.put o.dst v) H2 none h2))
theorem depsT_H {H : HT} : ∀ {l : List (Nat × KObj)}, depsT H l → depsH H.list l
  | [], _ => trivial
  | (id, o) :: r, h => ⟨by rw [HT.list_get]; exact h.1, depsT_H h.2⟩
theorem pushAll_list : ∀ (new : List KObj) (H : HT), (pushAll H new).list = hcat H.list new := by
  have key : ∀ (new : List KObj) (H : HT), (pushAll H new).list = H.list ++ new := by
    intro new
    induction new with
    | nil => intro H; simp [pushAll]
    | cons o r ih => intro H; simp only [pushAll, ih, HT.list_push, List.append_assoc, List.cons_append, List.nil_append]
  intro new H
  rw [key]
  cases new with
  | nil => simp [hcat]
  | cons o r => rfl
theorem vstep_stepped (ha : AppOkV P app) {wok : MS → Bool} (hw0 : wok (some []) = true) {o : Oper} {E : Env} {H : HT} {h : Hint} {K : Env → HT → Option Nat → Hint → Prop} (hv : vstep P app wok dm o E H h K) :
    Stepped P wok o E H K := by
  unfold vstep at hv
  split at hv
  · rename_i hc
    split at hv
    · split at hv <;> try (exact hv.elim)
      rename_i hop t x y hop2
      split at hv <;> try (exact hv.elim)
      rename_i b hb
      cases b with
      | true =>
        refine .pure (v := ev E.get x) (rd := none) hc (by rw [hop2]; simp only [kpure]; rw [show ev E.get (.tmp t) = .bool true from hb]; rfl) ?_ (hv.1 rfl)
        rw [Env.get_put, Env.put_same E t _ hb]
      | false =>
        refine .pure (v := ev E.get y) (rd := none) hc (by rw [hop2]; simp only [kpure]; rw [show ev E.get (.tmp t) = .bool false from hb]; rfl) ?_ (hv.2 rfl)
        rw [Env.get_put, Env.put_same E t _ hb]
    · split at hv <;> try (exact hv.elim)
      rename_i c v rd hn
      exact .pure hc (kneed_sound hn hv.1) (Env.get_put ..) hv.2
    · split at hv <;> try (exact hv.elim)
      rename_i t a hop2
      split at hv <;> try (exact hv.elim)
      rename_i id off hp
      split at hv <;> try (exact hv.elim)
      rename_i own z cs hg
      refine .pure hc ?_ (Env.get_put ..) hv.2
      rw [hop2]
      simp only [kpure, hp, kload, HT.list_get, hg, hv.1]
      rfl
    · split at hv <;> try (exact hv.elim)
      split at hv <;> try (exact hv.elim)
      rename_i v rd hp
      exact .pure hc (kpureT_sound hp) (Env.get_put ..) hv
  · rename_i hc
    split at hv
    · split at hv <;> try (exact hv.elim)
      rename_i c v ob hn
      exact .alloc hc (kneedA_sound hn hv.1) hv.2
    · split at hv <;> try (exact hv.elim)
      split at hv <;> try (exact hv.elim)
      rename_i v ob hp
      exact .alloc hc hp hv
  · rename_i hc
    split at hv
    · split at hv <;> try (exact hv.elim)
      rename_i c v H' ms hn
      exact .write hc (kneedW_sound hn hv.1) hv.2.1 hv.2.2
    · split at hv <;> try (exact hv.elim)
      split at hv <;> try (exact hv.elim)
      rename_i v H' ms hp
      split at hv <;> try (exact hv.elim)
      rename_i hw
      exact .write hc (kwriteT_sound hp) hw hv
  · rename_i hc
    split at hv <;> try (exact hv.elim)
    rename_i f args ts hop2
    split at hv
    · rename_i deps v new h'
      refine .call (Mc := some []) hc hop2 hw0 ((ans_sound (hv.2.1 H.list (HT.length H) (depsT_H hv.1))).mono (fun _ h _ => h) ?_)
      rintro v2 H2 ⟨rfl, rfl⟩
      exact ⟨_, _, (pushAll_list _ _).symm, hv.2.2⟩
    · split at hv <;> try (exact hv.elim)
      rename_i hw
      exact .call hc hop2 hw (ha _ _ _ _ _ _ hv)
    · split at hv <;> try (exact hv.elim)
      split at hv <;> try (exact hv.elim)
      rename_i hw
      exact .call hc hop2 hw (ha _ _ _ _ _ _ hv)
  · exact hv.elim

theorem vguard_cases {wok : MS → Bool} {ops : Array Oper} {o : Oper} {E : Env} {H : HT} {h : Hint} {K : Env → HT → Option Nat → Hint → Prop} {Koff : Env → HT → Hint → Prop} (hv : vguard P app wok dm ops o E H h K Koff) :
    kknown o ops E.get = true ∧ ((kwanted o ops E.get = true ∧ ∃ E1 H1 h1, E1.get = E.get ∧ H1.list = H.list ∧ vstep P app wok dm o E1 H1 h1 K) ∨ (kwanted o ops E.get = false ∧ ∃ E2 H1 h2, E2.get = put E.get o.dst undef ∧ H1.list = H.list ∧ Koff E2 H1 h2)) := by
  unfold vguard at hv
  rw [fE_eq, fH_eq] at hv
  obtain ⟨E0, H0, h0, e1, e2, hv⟩ := vprep_sound hv
  rw [← e1]
  unfold kknown kwanted
  cases hg : o.guard with
  | none =>
    rw [hg] at hv
    exact ⟨rfl, .inl ⟨rfl, E0, H0, h0, rfl, e2, hv⟩⟩
  | some gw =>
    obtain ⟨g, want⟩ := gw
    rw [hg] at hv
    simp only at hv ⊢
    cases hd : (ops[g]?).bind (·.dst) with
    | none =>
      rw [hd] at hv
      exact ⟨rfl, .inr ⟨rfl, _, H0, h0, Env.get_put .., e2, hv⟩⟩
    | some d =>
      rw [hd] at hv
      simp only at hv ⊢
      have off : ∀ {hh : Hint}, Koff (E0.put o.dst undef) H0 hh → ∃ E2 H1 h2, E2.get = put E0.get o.dst undef ∧ H1.list = H.list ∧ Koff E2 H1 h2 := fun hk => ⟨_, H0, _, Env.get_put .., e2, hk⟩
      have fork : ∀ b : Bool, E0.get d = .bool b → (E0.put (some d) (.bool b)).get = E0.get := fun b hb => Env.put_same E0 d _ hb
      split at hv
      · rename_i b hb
        rw [hb]
        refine ⟨rfl, ?_⟩
        split at hv
        · rename_i h1 h2
          cases b with
          | true =>
            have hv := hv.1 rfl
            cases want with
            | true => exact .inl ⟨rfl, _, H0, h1, fork _ hb, e2, hv⟩
            | false => exact .inr ⟨rfl, _, H0, h1, by rw [Env.get_put, fork _ hb], e2, hv⟩
          | false =>
            have hv := hv.2 rfl
            cases want with
            | true => exact .inr ⟨rfl, _, H0, h2, by rw [Env.get_put, fork _ hb], e2, hv⟩
            | false => exact .inl ⟨rfl, _, H0, h2, fork _ hb, e2, hv⟩
        · cases b <;> cases want
          · exact .inl ⟨rfl, E0, H0, _, rfl, e2, hv⟩
          · exact .inr ⟨rfl, off hv⟩
          · exact .inr ⟨rfl, off hv⟩
          · exact .inl ⟨rfl, E0, H0, _, rfl, e2, hv⟩
      · exact hv.elim
      · rename_i n1 n2
        have h1 : (match E0.get d with | .chan _ => false | _ => true) = true := by
          split
          · rename_i q; exact absurd q (n2 _)
          · rfl
        have h2 : (match E0.get d with | .bool b => b == want | _ => false) = false := by
          split
          · rename_i q; exact absurd q (n1 _)
          · rfl
        exact ⟨h1, .inr ⟨h2, off hv⟩⟩

theorem wok0 (base n : Nat) (M : MS) (bs : List Nat) (i : Nat) (log : List (Nat × Option Nat)) (m : Nat) : (wokC base n M (some []) && looseB bs i log (MS.list (some []) m)) = true := by
  rw [Bool.and_eq_true]
  constructor
  · unfold wokC wokB; cases M <;> rfl
  · unfold looseB
    rw [List.all_eq_true]
    intro p _
    cases p.2 <;> simp [MS.list, memB]
theorem wok1 (base n : Nat) (M : MS) : wokC base n M (some []) = true := by unfold wokC wokB; cases M <;> rfl
theorem vops_sound (ha : AppOkV P app) {base n : Nat} {M : MS} {ops : Array Oper} : ∀ {os : List Oper} {E : Env} {H : HT} {h : Hint} {K : Env → HT → Hint → Prop}, vops P app base n M dm ops os E H h K →
    KOps P base (M.list base) ops os E.get H.list (fun T H' => ∃ E2 H2 h2, T = E2.get ∧ H' = H2.list ∧ K E2 H2 h2) := by
  intro os
  induction os with
  | nil => intro E H h K hv; exact ⟨E, H, h, rfl, rfl, hv⟩
  | cons o os ih =>
    intro E H h K hv
    simp only [vops] at hv
    obtain ⟨hkn, hv⟩ := vguard_cases hv
    simp only [KOps]
    refine ⟨hkn, ?_⟩
    rcases hv with ⟨hw, E1, H1, h1, e1, e2, hv⟩ | ⟨hw, E2, H1, h2, e1, e2, hv⟩
    · rw [hw, if_pos rfl]
      have hn := HT.n_eq e2
      rw [← e1, ← e2]
      unfold KStep
      rcases vstep_stepped ha (by first | exact wok1 .. | exact wok0 ..) hv with ⟨hc, hp, he, hk⟩ | ⟨hc, hp, hk⟩ | ⟨hc, hp, hwk, hk⟩ | ⟨hc, hop, hwk, hcall⟩
      · rw [hc]; exact ⟨_, _, hp, by have := ih hk; rw [he] at this; exact this⟩
      · rw [hc]; exact ⟨_, _, by rw [HT.length]; exact hp, by have := ih hk; rw [Env.get_put, HT.list_push] at this; exact this⟩
      · rw [hc]; exact ⟨_, _, _, hp, fun id hid hb => wokC_spec (n := H1.n) (Mc := some _) (by rw [hn]; exact hwk) id hid hb, by have := ih hk; rw [Env.get_put] at this; exact this⟩
      · rw [hc, hop]
        refine ⟨_, hcall.mono (fun _ h _ => h) ?_, fun id hid hb => wokC_spec (n := H1.n) (by rw [hn]; exact hwk) id hid hb⟩
        rintro v H' ⟨H2, h2, rfl, hk⟩
        rw [← Env.get_put]; exact ih hk
    · rw [hw, if_neg (by simp)]
      rw [← e1, ← e2]
      exact ih hv

theorem vopsL_sound (ha : AppOkV P app) {base : Nat} {M : MS} {bs : List Nat} {ops : Array Oper} : ∀ {is : List Nat} {E : Env} {H : HT} {log : List (Nat × Option Nat)} {h : Hint} {K : Env → HT → Hint → Prop}, vopsL P app base M dm bs ops is E H log h K →
    KOpsL P base (M.list base) bs ops is E.get H.list log (fun T H' => ∃ E2 H2 h2, T = E2.get ∧ H' = H2.list ∧ K E2 H2 h2) := by
  intro is
  induction is with
  | nil => intro E H log h K hv; exact ⟨E, H, h, rfl, rfl, hv⟩
  | cons i is ih =>
    intro E H log h K hv
    simp only [vopsL] at hv
    simp only [KOpsL]
    split at hv <;> try (exact hv.elim)
    rename_i o ho
    simp only [ho]
    obtain ⟨hkn, hv⟩ := vguard_cases hv
    refine ⟨hkn, ?_⟩
    rcases hv with ⟨hw, E1, H1, h1, e1, e2, hv⟩ | ⟨hw, E2, H1, h2, e1, e2, hv⟩
    · rw [hw, if_pos rfl]
      have hn := HT.n_eq e2
      rw [← e1, ← e2]
      unfold KStepL
      rcases vstep_stepped ha (by first | exact wok1 .. | exact wok0 ..) hv with ⟨hc, hp, he, hk⟩ | ⟨hc, hp, hk⟩ | ⟨hc, hp, hwk, hk⟩ | ⟨hc, hop, hwk, hcall⟩
      · rw [hc] at hk ⊢; exact ⟨_, _, hp, by have := ih hk; rw [he] at this; exact this⟩
      · rw [hc] at hk ⊢
        refine ⟨_, _, by rw [HT.length]; exact hp, ?_⟩
        have := ih hk
        rw [Env.get_put, HT.list_push] at this
        rw [HT.length]
        exact this
      · simp only [Bool.and_eq_true] at hwk
        rw [hc] at hk ⊢
        exact ⟨_, _, _, hp, fun id hid hb => wokC_spec (n := H1.n) (Mc := some _) (by rw [hn]; exact hwk.1) id hid hb, looseB_spec hwk.2, by have := ih hk; rw [Env.get_put] at this; exact this⟩
      · simp only [Bool.and_eq_true] at hwk
        rw [hc] at hcall ⊢
        rw [hop]
        refine ⟨_, hcall.mono (fun _ h _ => h) ?_, fun id hid hb => wokC_spec (n := H1.n) (by rw [hn]; exact hwk.1) id hid hb, looseB_spec (by rw [hn]; exact hwk.2)⟩
        rintro v H' ⟨H2, h2, rfl, hk⟩
        rw [← Env.get_put]; exact ih hk
    · rw [hw, if_neg (by simp)]
      rw [← e1, ← e2]
      exact ih hv
end
end
end Go.K
